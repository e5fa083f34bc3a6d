/- A part of this claim's proof: models of functions, walks, plain laws. No conditions. -/
import Derived.Test.YtinchjigeakocaaW31b
namespace Go.Proofs.Ytinchjigeakocaa
open Go Go.RowKit Sep
set_option linter.all false
set_option maxRecDepth 30000
set_option maxHeartbeats 4000000
def yC (z3x : Sport_frame → Option Bool) (z71 : (List Sport_frame) → Int → Option (List Sport_frame)) : Nat → (List Sport_frame) → Int → Int → Option (List Sport_frame)
  | 0,_,_,_=>none
  | zhC + 1,zQ,z1O,z13=>if decide (z13 < ((zQ.length : Nat) : Int)) then jp2 (fun (z4b : List Sport_frame) (z72 : Int)=>yC z3x z71 zhC z4b z72 (i64 (z13 + 1))) fun zeM=>chk ((0 : Int) ≤ z13 ∧ z13 < ((zQ.length : Nat) : Int)) ((z3x (⟨((nth zQ z13).fSize),((nth zQ z13).fFin)⟩ : Sport_frame)).bind fun zhD=>if !zhD then chk ((0 : Int) ≤ z1O ∧ z1O < ((zQ.length : Nat) : Int)) (zeM (zQ.set (z1O : Int).toNat (⟨((nth zQ z13).fSize),((nth zQ z13).fFin)⟩ : Sport_frame)) (i64 (z1O + 1))) else zeM zQ z1O) else z71 zQ z1O
theorem y34 {n : Nat} {z3x : Sport_frame → Option Bool} {z71 : (List Sport_frame) → Int → Option (List Sport_frame)} {zQ : List Sport_frame} {z1O : Int} {z13 : Int} {r : List Sport_frame} (h : yC z3x z71 n zQ z1O z13 = some r) : ∃ m,n = m + 1:=by
  cases n with
  | zero=>cases h
  | succ m=>exact ⟨m,rfl⟩
def yR (z1P : List Sport_frame) (z3x : Sport_frame → Option Bool) : Option (List Sport_frame) :=
  (yT z1P z3x).bind fun zaQ=>if decide (zaQ = (-1)) then some z1P else jp2 (fun (z1Q : List Sport_frame) (z1R : Int)=>chk ((0 : Int) ≤ z1R ∧ z1R ≤ ((z1Q.length : Nat) : Int)) (chk ((0 : Int) ≤ z1R ∧ z1R ≤ (((z1Q.take (z1R : Int).toNat ++ List.replicate (z1Q.length - (z1R : Int).toNat) ((⟨0,0⟩ : Sport_frame) : Sport_frame)).length : Nat) : Int)) (some ((z1Q.take (z1R : Int).toNat ++ List.replicate (z1Q.length - (z1R : Int).toNat) ((⟨0,0⟩ : Sport_frame) : Sport_frame)).take (z1R : Int).toNat)))) fun z71=>yC z3x z71 yz z1P zaQ (i64 (zaQ + 1))
set_option maxRecDepth 20000 in
theorem y3y (Z : Zp) (z2G : Option Addr) (z2i : Nat) (z4R : FuncId) (z73 : List Value) (z1P : List Sport_frame) (z3x : Sport_frame → Option Bool) (r : List Sport_frame)
     (h : yR z1P z3x = some r) (w₀ : World) (hz : PZ (fps [row (.slice z2G z1P.length z2i) 146 2 (z1P.flatMap y1Y)]) w₀ Z)
     (zmc : ∀ args w,(callFunc z4R args).run Try.prog w = .ok (.enter z4R args) w)
     (zmd : ∀ w : World,PZ [] w Z → ∀ (x0 : Sport_frame) (r : Bool),z3x x0 = some r → Calls Try.prog z4R (([(.agg #[(.int .i64 x0.fSize),(.int .i64 x0.fFin)])] : List Value) ++ z73).toArray w fun e w'=>e = .returned (.bool r) ∧ Hp [] w w' [])
    (hown : Hp (fps [row (.slice z2G z1P.length z2i) 146 2 (z1P.flatMap y1Y)]) w₀ w₀ [row (.slice z2G z1P.length z2i) 146 2 (z1P.flatMap y1Y)]) :
    Calls Try.prog 54 #[(.slice z2G z1P.length z2i),(.func (.func z4R) #[] (z73).toArray)] w₀ fun e w'=>∃ zme : Option Addr,∃ zmf : Nat,e = .returned (.slice zme r.length zmf) ∧ True ∧ Hp (fps [row (.slice z2G z1P.length z2i) 146 2 (z1P.flatMap y1Y)]) w₀ w' [row (.slice zme r.length zmf) 146 2 (r.flatMap y1Y)]:=by
  unfold yR at h
  refine Calls.yl (vs:=[(.slice z2G z1P.length z2i),(.func (.func z4R) #[] (z73).toArray)]) (pre:=[row (.slice z2G z1P.length z2i) 146 2 (z1P.flatMap y1Y)]) (env:=[(0,(.slice z2G z1P.length z2i)),(1,(.func (.func z4R) #[] (z73).toArray))]) Try.func54 rfl Try.ntmps54 rfl (hown) rfl ?_
  refine WC.b (WC.a (WL.pu rfl (WL.nil (WX.a (WC.b ?_)))))
  obtain ⟨zaQ,zrq,h⟩:=zf h
  refine WC.a (WL.pu rfl (WL.pu rfl ?_))
  refine WL.b (dd:=10) rfl rfl rfl (zy (l:=[.tmp 8,.tmp 9]) Try.call63 (.cons rfl (.cons rfl .nil))) .nil (ccl hz .nil (.cons .here .nil) fun w pz ho la=>y3J _ _ _ (z70:=z4R) (z9q:=z73) _ (z4Q:=z3x) _ zrq w pz (ZA.row (la _ (.head _) _) (RR.y17 (enc:=y1Y) (fun _=>rfl) _) ⟨w,pz.1⟩) zmc (fun w' hz'=>zmd w' (hz'.le (Zle.left _ _)))) ?_
  refine WL.pu rfl (WL.nil (WX.a (WC.b (WC.b (WC.a (WL.pu rfl (WL.pu rfl (WL.nil (WX.a ?_)))))))))
  refine WC.cond rfl (fun zhE=>?_) (fun zhE=>?_)
  · replace h:=ym h zhE
    refine WC.b (WC.a (WL.pu rfl (WL.pu rfl (WL.nil (WX.a (WC.ret (WX.yi ?_)))))))
    obtain rfl:=Option.some.inj h
    refine WX.yh Try.results54 (.tmp rfl .nil) (fun w hw=>?_)
    exact ⟨z2G,z2i,y10 rfl,trivial,hw.sub (.cons .here .nil)⟩
  · replace h:=yn h zhE
    refine WC.skip (WX.a ?_)
    obtain ⟨z71,zrr,h⟩:=y3m h
    refine WC.y2R (fun (z1Q : List Sport_frame) (z1R : Int)=>(z71 z1Q z1R = some r) ∧ (z1Q.length = z1P.length)) (fun (z1Q : List Sport_frame) (z1R : Int)=>[(0,(.slice z2G z1Q.length z2i)),(5,(.int .i64 z1R))]) (fun (z1Q : List Sport_frame) (z1R : Int)=>[row (.slice z2G z1Q.length z2i) 146 2 (z1Q.flatMap y1Y)]) ?_ ?_
    · skip
      refine WC.b (WC.a (WL.pu rfl (WL.pu rfl (WL.pu rfl (WL.nil (WX.a (WC.block ?_)))))))
      refine WC.y5X (fun (zaR : Nat) (zQ : List Sport_frame) (z1O : Int) (z13 : Int)=>(yC z3x z71 zaR zQ z1O z13 = some r) ∧ (zQ.length = z1P.length)) (fun (zaR : Nat) (zQ : List Sport_frame) (z1O : Int) (z13 : Int)=>[(0,(.slice z2G zQ.length z2i)),(1,(.func (.func z4R) #[] (z73).toArray)),(5,(.int .i64 z1O)),(6,(.int .i64 z13))]) (fun (zaR : Nat) (zQ : List Sport_frame) (z1O : Int) (z13 : Int)=>[row (.slice z2G zQ.length z2i) 146 2 (zQ.flatMap y1Y)]) (fun (zaR : Nat) (zQ : List Sport_frame) (z1O : Int) (z13 : Int)=>zaR) ⟨yz,z1P,zaQ,(i64 (zaQ + 1))⟩ ⟨h,rfl⟩ (.cons rfl (.cons rfl (.cons rfl (.cons rfl .nil)))) (.cons .here .nil) ?_
      rintro zaR zQ z1O z13 ⟨h,zhF⟩
      obtain ⟨zhC,rfl⟩:=y34 h
      rw [yC] at h
      refine WC.b (WC.b (WC.a (WL.pu rfl (WL.pu rfl ?_))))
      refine WL.a (d:=18) rfl rfl rfl (yW Try.underlying141 rfl) ?_
      refine WL.pu rfl (WL.nil (WX.a ?_))
      refine WC.cond rfl (fun zhG=>?_) (fun zhG=>?_)
      · replace h:=ym h zhG
        refine WC.skip (WX.a ?_)
        obtain ⟨zeM,zrs,h⟩:=y3m h
        refine WC.y2R (fun (z4b : List Sport_frame) (z72 : Int)=>(zeM z4b z72 = some r) ∧ (z4b.length = z1P.length)) (fun (z4b : List Sport_frame) (z72 : Int)=>[(0,(.slice z2G z4b.length z2i)),(1,(.func (.func z4R) #[] (z73).toArray)),(5,(.int .i64 z72)),(6,(.int .i64 z13))]) (fun (z4b : List Sport_frame) (z72 : Int)=>[row (.slice z2G z4b.length z2i) 146 2 (z4b.flatMap y1Y)]) ?_ ?_
        · skip
          refine WC.block (WC.b ?_)
          obtain ⟨zdk,h⟩:=yj h
          refine WC.a (WL.pu rfl (WL.pu rfl ?_))
          refine WL.know (fun w hw=>Hp.y2j .here hw (by intro hz'; have:=zdk; rw [hz'] at this; omega)) ?_
          rintro ⟨zmg,rfl⟩
          refine WL.a (d:=24) rfl rfl rfl (yr z6q rfl rfl zdk.1 zdk.2 y1b) ?_
          refine WL.a (d:=25) rfl rfl rfl (y1O (cs:=(y1Y (nth zQ z13))) z9K rfl rfl (y20 .here (y1J (enc:=y1Y) (l:=zQ) (i:=z13) (sz:=2) (fun _=>rfl) zdk.1 zdk.2))) ?_
          refine WL.new (dd:=7) rfl rfl rfl (y2u (cs:=[(.int .i64 0),(.int .i64 0)]) zfT rfl) ?_
          intro zwR _
          refine WL.y1o rfl rfl (y22 zfU rfl rfl rfl .here rfl rfl rfl) ?_
          refine WL.nil (WX.a (WC.b ?_))
          obtain ⟨zhD,zrt,h⟩:=zf h
          refine WC.a (WL.pu rfl ?_)
          refine WL.a (d:=27) rfl rfl rfl (yF z9K rfl (y1i .here) rfl) ?_
          refine WL.b (dd:=28) rfl rfl rfl (y3E (l:=[.tmp 27]) (f:=z4R) (caps:=z73) zmc rfl (.cons rfl .nil)) .nil (fun w hw=>zmd w (hz.now hw) (⟨((nth zQ z13).fSize),((nth zQ z13).fFin)⟩ : Sport_frame) zhD  zrt) ?_
          refine WL.pu rfl (WL.nil (WX.a ?_))
          refine WC.cond rfl (fun zhH=>?_) (fun zhH=>?_)
          · replace h:=ym h zhH
            refine WC.b ?_
            obtain ⟨zaS,h⟩:=yj h
            refine WC.a (WL.pu rfl (WL.pu rfl ?_))
            refine WL.a (d:=32) rfl rfl rfl (yF z9K rfl (y1i .here) rfl) ?_
            refine WL.a (d:=33) rfl rfl rfl (yr z6q rfl rfl zaS.1 zaS.2 y1b) ?_
            refine WL.y1o rfl rfl (y24 (vs:=[(.int .i64 ((nth zQ z13).fSize)),(.int .i64 ((nth zQ z13).fFin))]) (ds:=(zQ.set (z1O : Int).toNat (⟨((nth zQ z13).fSize),((nth zQ z13).fFin)⟩ : Sport_frame)).flatMap y1Y) zfU rfl rfl rfl rfl (ocB rfl) .h1 (y2B (enc:=y1Y) (sz:=2) (k:=0) (fun _=>rfl) zaS.1 zaS.2 (by decide)) (y2A (enc:=y1Y) (l:=zQ) (sz:=2) (vs:=[(.int .i64 ((nth zQ z13).fSize)),(.int .i64 ((nth zQ z13).fFin))]) (y:=(⟨((nth zQ z13).fSize),((nth zQ z13).fFin)⟩ : Sport_frame)) (k:=0) (fun _=>rfl) zaS.1 zaS.2 rfl (Nat.le_of_ble_eq_true rfl))) ?_
            refine WL.relen .here (u:=(.slice (some ⟨zmg,0,none⟩) ((zQ.set (z1O : Int).toNat (⟨((nth zQ z13).fSize),((nth zQ z13).fFin)⟩ : Sport_frame)).length) z2i)) (y1z (List.length_set).symm) ?_
            refine WL.repin (i:=0) rfl (u:=(.slice (some ⟨zmg,0,none⟩) ((zQ.set (z1O : Int).toNat (⟨((nth zQ z13).fSize),((nth zQ z13).fFin)⟩ : Sport_frame)).length) z2i)) (y1z (List.length_set).symm) ?_
            refine WL.nil (WX.a (WC.a (WL.pu rfl (WL.pu rfl (WL.pu rfl (WL.nil (WX.yg ?_)))))))
            exact WX.mid (G:=List Sport_frame × Int) ⟨(zQ.set (z1O : Int).toNat (⟨((nth zQ z13).fSize),((nth zQ z13).fFin)⟩ : Sport_frame)),(i64 (z1O + 1))⟩ ⟨h,((List.length_set).trans zhF)⟩ (.cons rfl (.cons rfl (.cons rfl (.cons rfl .nil)))) (.cons .here .nil)
          · replace h:=yn h zhH
            refine WC.skip (WX.yg ?_)
            exact WX.mid (G:=List Sport_frame × Int) ⟨zQ,z1O⟩ ⟨h,zhF⟩ (.cons rfl (.cons rfl (.cons rfl (.cons rfl .nil)))) (.cons .h1 .nil)
        · rintro z4b z72 ⟨h,zru⟩
          replace h:=(zrs z4b z72).symm.trans h
          refine WC.a (WL.pu rfl (WL.pu rfl (WL.pu rfl (WL.nil ?_))))
          exact WX.round (G:=Nat × List Sport_frame × Int × Int) ⟨zhC,z4b,z72,(i64 (z13 + 1))⟩ ⟨h,zru⟩ (Nat.lt_succ_self _) (.cons rfl (.cons rfl (.cons rfl (.cons rfl .nil)))) (.cons .here .nil)
      · replace h:=yn h zhG
        refine WC.exit (WX.yd (WX.yd (WX.yA ?_)))
        exact WX.mid (G:=List Sport_frame × Int) ⟨zQ,z1O⟩ ⟨h,zhF⟩ (.cons rfl (.cons rfl .nil)) (.cons .here .nil)
    · rintro z1Q z1R ⟨h,zwS⟩
      replace h:=(zrr z1Q z1R).symm.trans h
      refine WC.b ?_
      obtain ⟨zeN,h⟩:=yj h
      refine WC.a (WL.pu rfl (WL.pu rfl ?_))
      refine WL.y9u (dd:=38) rfl rfl z6q rfl rfl .here zeN ?_
      intro zwT zwU zrv
      refine WL.y1o rfl rfl (y8j (enc:=y1Y) (z0:=((⟨0,0⟩ : Sport_frame) : Sport_frame)) (l:=z1Q) z6q zfT rfl zrv zeN (fun _=>rfl) (by decide) rfl y8Z .here) ?_
      refine WL.relen .here (u:=(.slice z2G ((z1Q.take (z1R : Int).toNat ++ List.replicate (z1Q.length - (z1R : Int).toNat) ((⟨0,0⟩ : Sport_frame) : Sport_frame)).length) z2i)) (y1z (y6t zeN).symm) ?_
      refine WL.repin (i:=0) rfl (u:=(.slice z2G ((z1Q.take (z1R : Int).toNat ++ List.replicate (z1Q.length - (z1R : Int).toNat) ((⟨0,0⟩ : Sport_frame) : Sport_frame)).length) z2i)) (y1z (y6t zeN).symm) ?_
      refine WL.nil (WX.a (WC.b ?_))
      obtain ⟨zrw,h⟩:=yj h
      refine WC.a (WL.pu rfl (WL.pu rfl ?_))
      refine WL.y6u (dd:=41) (enc:=y1Y) (ls:=z1Q.take (z1R : Int).toNat ++ List.replicate (z1Q.length - (z1R : Int).toNat) ((⟨0,0⟩ : Sport_frame) : Sport_frame)) rfl rfl z6q rfl rfl .here (fun _=>rfl) zrw ?_
      intro zrx zry
      refine WL.pu rfl (WL.nil (WX.a (WC.ret ?_)))
      obtain rfl:=Option.some.inj h
      refine WX.yh Try.results54 (.tmp rfl .nil) (fun w hw=>?_)
      exact ⟨zrx,zry,y10 rfl,trivial,hw.sub (.cons .here .nil)⟩
def y2l (z4S : Sport_frame) (zeO : Int) : Option Bool :=
  some (decide (z4S.fFin > zeO))
set_option maxRecDepth 20000 in
theorem y6D (Z : Zp) (zeP : Addr) (z4S : Sport_frame) (zeO : Int) (r : Bool)
     (h : y2l z4S zeO = some r) (w₀ : World) (hz : PZ [] w₀ Z)
     (zrz : ZC Z zeP [(.int .i64 zeO)]) :
    Calls Try.prog 65 #[(.agg #[(.int .i64 z4S.fSize),(.int .i64 z4S.fFin)]),(.pointer (some zeP))] w₀ fun e w'=>e = .returned (.bool r) ∧ Hp [] w₀ w' []:=by
  unfold y2l at h
  refine Calls.yl (vs:=[(.agg #[(.int .i64 z4S.fSize),(.int .i64 z4S.fFin)]),(.pointer (some zeP))]) (pre:=[]) (env:=[(0,(.agg #[(.int .i64 z4S.fSize),(.int .i64 z4S.fFin)])),(1,(.pointer (some zeP)))]) Try.func65 rfl Try.ntmps65 rfl (Hp.nil w₀ _) rfl ?_
  refine WC.b (WC.a ?_)
  refine WL.new (dd:=2) rfl rfl rfl (y2g (cs:=[(.int .i64 z4S.fSize),(.int .i64 z4S.fFin)]) rfl rfl) ?_
  intro zwV _
  refine WL.pu rfl (WL.nil (WX.a (WC.b (WC.a ?_))))
  refine WL.a (d:=4) rfl rfl rfl (ya y8w rfl rfl) ?_
  refine WL.a (d:=5) rfl rfl rfl (yb yf rfl (ye .here rfl)) ?_
  refine WL.a (d:=6) rfl rfl rfl (yb yf rfl (rd_z hz.pv zrz rfl)) ?_
  refine WL.pu rfl (WL.pu rfl (WL.nil (WX.a (WC.ret ?_))))
  obtain rfl:=Option.some.inj h
  refine WX.yh Try.results65 (.tmp rfl .nil) (fun w hw=>?_)
  exact ⟨y10 rfl,hw.sub .nil⟩
def y23 (z1x : Sport_Port) (z4T : Sport_frame → Option Bool) (z74 : Int → Option Int) : Nat → Int → Int → Option Int
  | 0,_,_=>none
  | zhI + 1,z38,z1X=>if decide (z1X < ((z1x.fFrames.length : Nat) : Int)) then jp1 (fun (z75 : Int)=>y23 z1x z4T z74 zhI z75 (i64 (z1X + 1))) fun zeQ=>chk ((0 : Int) ≤ z1X ∧ z1X < ((z1x.fFrames.length : Nat) : Int)) ((z4T (⟨((nth z1x.fFrames z1X).fSize),((nth z1x.fFrames z1X).fFin)⟩ : Sport_frame)).bind fun zhJ=>if zhJ then zeQ (i64 (z38 + ((nth z1x.fFrames z1X).fSize))) else zeQ z38) else z74 z38
theorem y5j {n : Nat} {z1x : Sport_Port} {z4T : Sport_frame → Option Bool} {z74 : Int → Option Int} {z38 : Int} {z1X : Int} {r : Int} (h : y23 z1x z4T z74 n z38 z1X = some r) : ∃ m,n = m + 1:=by
  cases n with
  | zero=>cases h
  | succ m=>exact ⟨m,rfl⟩
def y2O (z1x : Sport_Port) (z4T : Sport_frame → Option Bool) : Option Int :=
  jp1 (fun (z7W : Int)=>some z7W) fun z74=>y23 z1x z4T z74 yz 0 0
set_option maxRecDepth 20000 in
theorem y7s (Z : Zp) (zeR : Addr) (zeS : Option Addr) (zeT : Nat) (z63 : FuncId) (z7X : List Value) (z1x : Sport_Port) (z4T : Sport_frame → Option Bool) (r : Int)
     (h : y2O z1x z4T = some r) (w₀ : World) (hz : PZ [] w₀ Z)
     (zrA : ZS Z 2 (fun r x=>r = y1Y x) zeS zeT z1x.fFrames)
     (zrB : ZC Z zeR [(.int .i64 z1x.fNumbers.fSlow),(.int .i64 z1x.fNumbers.fDelay),(.int .i64 z1x.fNumbers.fStore),(.int .i64 z1x.fNow),(.int .i64 z1x.fLast),(.slice zeS z1x.fFrames.length zeT)])
     (zrC : ∀ args w,(callFunc z63 args).run Try.prog w = .ok (.enter z63 args) w)
     (zrD : ∀ w : World,PZ [] w Z → ∀ (x0 : Sport_frame) (r : Bool),z4T x0 = some r → Calls Try.prog z63 (([(.agg #[(.int .i64 x0.fSize),(.int .i64 x0.fFin)])] : List Value) ++ z7X).toArray w fun e w'=>e = .returned (.bool r) ∧ Hp [] w w' []) :
    Calls Try.prog 64 #[(.pointer (some zeR)),(.func (.func z63) #[] (z7X).toArray)] w₀ fun e w'=>e = .returned (.int .i64 r) ∧ Hp [] w₀ w' []:=by
  unfold y2O at h
  refine Calls.yl (vs:=[(.pointer (some zeR)),(.func (.func z63) #[] (z7X).toArray)]) (pre:=[]) (env:=[(0,(.pointer (some zeR))),(1,(.func (.func z63) #[] (z7X).toArray))]) Try.func64 rfl Try.ntmps64 rfl (Hp.nil w₀ _) rfl ?_
  refine WC.b (WC.a (WL.pu rfl (WL.nil (WX.a (WC.b (WC.a (WL.pu rfl (WL.nil (WX.a ?_)))))))))
  obtain ⟨z74,zrE,h⟩:=y19 h
  refine WC.y1H (fun (z7W : Int)=>(z74 z7W = some r)) (fun (z7W : Int)=>[(5,(.int .i64 z7W))]) (fun (z7W : Int)=>[]) ?_ ?_
  · skip
    refine WC.b (WC.a (WL.pu rfl ?_))
    refine WL.a (d:=9) rfl rfl rfl (yt rfl) ?_
    refine WL.a (d:=10) rfl rfl rfl (ya y5b rfl rfl) ?_
    refine WL.a (d:=11) rfl rfl rfl (yb zfS rfl (y2e hz.pv zrB rfl)) ?_
    refine WL.a (d:=12) rfl rfl rfl (yW Try.underlying141 rfl) ?_
    refine WL.pu rfl (WL.nil (WX.a (WC.block ?_)))
    refine WC.y28 (fun (zaT : Nat) (z38 : Int) (z1X : Int)=>(y23 z1x z4T z74 zaT z38 z1X = some r)) (fun (zaT : Nat) (z38 : Int) (z1X : Int)=>[(1,(.func (.func z63) #[] (z7X).toArray)),(5,(.int .i64 z38)),(11,(.slice zeS z1x.fFrames.length zeT)),(12,(.int .i64 ((z1x.fFrames.length : Nat) : Int))),(13,(.int .i64 z1X))]) (fun (zaT : Nat) (z38 : Int) (z1X : Int)=>[]) (fun (zaT : Nat) (z38 : Int) (z1X : Int)=>zaT) ⟨yz,0,0⟩ h (.cons rfl (.cons rfl (.cons rfl (.cons rfl (.cons rfl .nil))))) .nil ?_
    rintro zaT z38 z1X h
    obtain ⟨zhI,rfl⟩:=y5j h
    rw [y23] at h
    refine WC.b (WC.a (WL.pu rfl (WL.nil (WX.a (WC.b ?_)))))
    refine WC.cond rfl (fun zhK=>?_) (fun zhK=>?_)
    · replace h:=ym h zhK
      refine WC.skip (WX.a ?_)
      obtain ⟨zeQ,zrF,h⟩:=y19 h
      refine WC.y1H (fun (z75 : Int)=>(zeQ z75 = some r)) (fun (z75 : Int)=>[(1,(.func (.func z63) #[] (z7X).toArray)),(5,(.int .i64 z75)),(11,(.slice zeS z1x.fFrames.length zeT)),(12,(.int .i64 ((z1x.fFrames.length : Nat) : Int))),(13,(.int .i64 z1X))]) (fun (z75 : Int)=>[]) ?_ ?_
      · skip
        refine WC.block (WC.b ?_)
        obtain ⟨zrG,h⟩:=yj h
        refine WC.a ?_
        refine WL.znth (dd:=15) rfl rfl (Z:=Z) (Pr:=(fun r x=>r = y1Y x)) z6q rfl rfl zrA zrG ?_
        rintro zwW zwX zrH zwY rfl
        refine WL.a (d:=16) rfl rfl rfl (yF z9K rfl (y3G hz.pv zrH) rfl) ?_
        refine WL.new (dd:=7) rfl rfl rfl (y2u (cs:=[(.int .i64 0),(.int .i64 0)]) zfT rfl) ?_
        intro zwZ _
        refine WL.y1o rfl rfl (y22 zfU rfl rfl rfl .here rfl rfl rfl) ?_
        refine WL.nil (WX.a (WC.b ?_))
        obtain ⟨zhJ,zrI,h⟩:=zf h
        refine WC.a (WL.pu rfl ?_)
        refine WL.a (d:=18) rfl rfl rfl (yF z9K rfl (y1i .here) rfl) ?_
        refine WL.b (dd:=19) rfl rfl rfl (y3E (l:=[.tmp 18]) (f:=z63) (caps:=z7X) zrC rfl (.cons rfl .nil)) .nil (fun w hw=>zrD w (hz.now hw) (⟨((nth z1x.fFrames z1X).fSize),((nth z1x.fFrames z1X).fFin)⟩ : Sport_frame) zhJ  zrI) ?_
        refine WL.nil (WX.a ?_)
        refine WC.cond rfl (fun zhL=>?_) (fun zhL=>?_)
        · replace h:=ym h zhL
          refine WC.a (WL.pu rfl ?_)
          refine WL.a (d:=21) rfl rfl rfl (ya fo_146_0 rfl rfl) ?_
          refine WL.a (d:=22) rfl rfl rfl (yb yf rfl (ye .here rfl)) ?_
          refine WL.pu rfl (WL.pu rfl (WL.nil (WX.yg ?_)))
          exact WX.mid (G:=Int) (i64 (z38 + ((nth z1x.fFrames z1X).fSize))) h (.cons rfl (.cons rfl (.cons rfl (.cons rfl (.cons rfl .nil))))) .nil
        · replace h:=yn h zhL
          refine WC.skip (WX.yg ?_)
          exact WX.mid (G:=Int) z38 h (.cons rfl (.cons rfl (.cons rfl (.cons rfl (.cons rfl .nil))))) .nil
      · rintro z75 h
        replace h:=(zrF z75).symm.trans h
        refine WC.a (WL.pu rfl (WL.pu rfl (WL.nil ?_)))
        exact WX.round (G:=Nat × Int × Int) ⟨zhI,z75,(i64 (z1X + 1))⟩ h (Nat.lt_succ_self _) (.cons rfl (.cons rfl (.cons rfl (.cons rfl (.cons rfl .nil))))) .nil
    · replace h:=yn h zhK
      refine WC.exit (WX.yd (WX.yd (WX.yA ?_)))
      exact WX.mid (G:=Int) z38 h (.cons rfl .nil) .nil
  · rintro z7W h
    replace h:=(zrE z7W).symm.trans h
    refine WC.b (WC.a (WL.pu rfl (WL.pu rfl (WL.nil (WX.a (WC.ret ?_))))))
    obtain rfl:=Option.some.inj h
    refine WX.yh Try.results64 (.tmp rfl .nil) (fun w hw=>?_)
    exact ⟨y10 rfl,hw.sub .nil⟩
def y3K (z3y : Sport_Port) (z7Y : Int) : Option Int :=
  (y2D z3y).bind fun zmh=>if zmh then some 0 else (y2O z3y (fun (y0 : Sport_frame)=>y2l y0 (max z7Y z3y.fNow))).bind fun zmi=>some zmi
set_option maxRecDepth 20000 in
theorem y79 (Z : Zp) (zeU : Addr) (zmj : Option Addr) (zmk : Nat) (z3y : Sport_Port) (z7Y : Int) (r : Int)
     (h : y3K z3y z7Y = some r) (w₀ : World) (hz : PZ [] w₀ Z)
     (zml : ZS Z 2 (fun r x=>r = y1Y x) zmj zmk z3y.fFrames)
     (zhM : ZC Z zeU [(.int .i64 z3y.fNumbers.fSlow),(.int .i64 z3y.fNumbers.fDelay),(.int .i64 z3y.fNumbers.fStore),(.int .i64 z3y.fNow),(.int .i64 z3y.fLast),(.slice zmj z3y.fFrames.length zmk)]) :
    Calls Try.prog 56 #[(.pointer (some zeU)),(.int .i64 z7Y)] w₀ fun e w'=>e = .returned (.int .i64 r) ∧ Hp [] w₀ w' []:=by
  unfold y3K at h
  refine Calls.yl (vs:=[(.pointer (some zeU)),(.int .i64 z7Y)]) (pre:=[]) (env:=[(0,(.pointer (some zeU))),(1,(.int .i64 z7Y))]) Try.func56 rfl Try.ntmps56 rfl (Hp.nil w₀ _) rfl ?_
  refine WC.b (WC.a ?_)
  refine WL.new (dd:=3) rfl rfl rfl (y2g (cs:=[(.int .i64 z7Y)]) rfl rfl) ?_
  intro zrJ _
  refine WL.pu rfl (WL.nil (WX.a (WC.b (WC.b ?_))))
  obtain ⟨zmh,zrK,h⟩:=zf h
  refine WC.a (WL.pu rfl ?_)
  refine WL.b (dd:=6) rfl rfl rfl (zy (l:=[.tmp 5]) Try.call53 (.cons rfl .nil)) .nil (cc hz .nil fun w pz ho=>y5d _ _ _ _ _ _ zrK w pz zml zhM) ?_
  refine WL.nil (WX.a ?_)
  refine WC.cond rfl (fun zhN=>?_) (fun zhN=>?_)
  · replace h:=ym h zhN
    refine WC.b (WC.a (WL.pu rfl (WL.nil (WX.a (WC.ret (WX.yi ?_))))))
    obtain rfl:=Option.some.inj h
    refine WX.yh Try.results56 (.tmp rfl .nil) (fun w hw=>?_)
    exact ⟨y10 rfl,hw.sub .nil⟩
  · replace h:=yn h zhN
    refine WC.skip (WX.a (WC.b ?_))
    refine WC.yZ (fun i=>[6].contains i) [] rfl ?_
    refine WD.e (i:=0) (d:=7) (by kernel_rfl) rfl (z2 (by kernel_rfl)) (z3 (by kernel_rfl)) rfl rfl rfl (yb yf rfl (ye .here rfl)) ?_
    refine WD.a (i:=1) (d:=8) (by kernel_rfl) rfl (z2 (by kernel_rfl)) (z3 (by kernel_rfl)) rfl rfl rfl (fun _=>q_m rfl) ?_
    refine WD.a (i:=2) (d:=9) (by kernel_rfl) rfl (z2 (by kernel_rfl)) (z3 (by kernel_rfl)) rfl rfl rfl (fun _=>yt rfl) ?_
    refine WD.a (i:=3) (d:=10) (by kernel_rfl) rfl (z2 (by kernel_rfl)) (z3 (by kernel_rfl)) rfl rfl rfl (fun _=>ya y76 rfl rfl) ?_
    refine WD.e (i:=4) (d:=11) (by kernel_rfl) rfl (z2 (by kernel_rfl)) (z3 (by kernel_rfl)) rfl rfl rfl (yb yf rfl (y2e hz.pv zhM rfl)) ?_
    refine WD.a (i:=5) (d:=12) (by kernel_rfl) rfl (z2 (by kernel_rfl)) (z3 (by kernel_rfl)) rfl rfl rfl (fun _=>q_max rfl rfl rfl) ?_
    refine WD.y36 (i:=6) rfl (by kernel_rfl) rfl rfl rfl (by kernel_rfl) (y22 y5I rfl rfl rfl .here rfl rfl rfl) ?_
    refine WD.done (by kernel_rfl) ?_
    refine WX.a (WC.b ?_)
    obtain ⟨zmi,zrL,h⟩:=zf h
    refine WC.a (WL.pu rfl ?_)
    refine WL.a (d:=14) rfl rfl rfl (y5W (Eos.caps (l:=[.tmp 3]) (.cons rfl .nil))) ?_
    refine WL.b (dd:=15) rfl rfl rfl (zy (l:=[.tmp 13,.tmp 14]) Try.call64 (.cons rfl (.cons rfl .nil))) .nil (ccl hz .nil (.cons .here .nil) fun w pz ho la=>y7s _ _ _ _ (z63:=65) (z7X:=[(.pointer (some ⟨zrJ,0,none⟩))]) _ (z4T:=(fun (y0 : Sport_frame)=>y2l y0 (max z7Y z3y.fNow))) _ zrL w pz (zml.mono (Zle.left _ _)) (zhM.mono (Zle.left _ _)) Try.call65 (fun w' hz' y0  r  hr=>y6D _ _ _ _ _ hr w' hz' ((la _ (.head _) _).stb))) ?_
    refine WL.pu rfl (WL.nil (WX.a (WC.ret ?_)))
    obtain rfl:=Option.some.inj h
    refine WX.yh Try.results56 (.tmp rfl .nil) (fun w hw=>?_)
    exact ⟨y10 rfl,hw.sub .nil⟩
def y2s (zg : Sport_Port) (z11 : Int) (zG : Int) : Option (Int × Int × Sport_Port) :=
  (y2D zg).bind fun z7Z=>if z7Z then some (0,1,zg) else if (((decide (zG < 1)) || (decide (zG > 72))) || (decide (z11 < zg.fNow))) || (decide (z11 > 1073741824)) then some (0,2,zg) else (yR zg.fFrames (fun (y0 : Sport_frame)=>y2v y0 z11)).bind fun z64=>(y3K (⟨zg.fNumbers,z11,zg.fLast,z64⟩ : Sport_Port) z11).bind fun zmm=>if decide ((i64 (zmm + zG)) > zg.fNumbers.fStore) then some (0,4,(⟨zg.fNumbers,z11,zg.fLast,z64⟩ : Sport_Port)) else chk ((((z64 ++ ([(⟨zG,i64 ((max (i64 (z11 + zg.fNumbers.fDelay)) zg.fLast) + (i64 (zG * zg.fNumbers.fSlow)))⟩ : Sport_frame)] : List Sport_frame)).length : Nat) : Int) * 16 ≤ 140737488355328 ∧ (((z64 ++ ([(⟨zG,i64 ((max (i64 (z11 + zg.fNumbers.fDelay)) zg.fLast) + (i64 (zG * zg.fNumbers.fSlow)))⟩ : Sport_frame)] : List Sport_frame)).length : Nat) : Int) ≤ 4611686018427387904) (some ((i64 ((max (i64 (z11 + zg.fNumbers.fDelay)) zg.fLast) + (i64 (zG * zg.fNumbers.fSlow)))),0,(⟨zg.fNumbers,z11,i64 ((max (i64 (z11 + zg.fNumbers.fDelay)) zg.fLast) + (i64 (zG * zg.fNumbers.fSlow))),z64 ++ ([(⟨zG,i64 ((max (i64 (z11 + zg.fNumbers.fDelay)) zg.fLast) + (i64 (zG * zg.fNumbers.fSlow)))⟩ : Sport_frame)] : List Sport_frame)⟩ : Sport_Port)))
set_option maxRecDepth 20000 in
theorem y7t (Z : Zp) (z39 : Nat) (z3z : Option Addr) (z3A : Nat) (zg : Sport_Port) (z11 : Int) (zG : Int) (r : Int × Int × Sport_Port)
     (h : y2s zg z11 zG = some r) (w₀ : World) (hz : PZ (fps [stb z39 143 [(.int .i64 zg.fNumbers.fSlow),(.int .i64 zg.fNumbers.fDelay),(.int .i64 zg.fNumbers.fStore),(.int .i64 zg.fNow),(.int .i64 zg.fLast),(.slice z3z zg.fFrames.length z3A)],row (.slice z3z zg.fFrames.length z3A) 146 2 (zg.fFrames.flatMap y1Y)]) w₀ Z)
    (hown : Hp (fps [stb z39 143 [(.int .i64 zg.fNumbers.fSlow),(.int .i64 zg.fNumbers.fDelay),(.int .i64 zg.fNumbers.fStore),(.int .i64 zg.fNow),(.int .i64 zg.fLast),(.slice z3z zg.fFrames.length z3A)],row (.slice z3z zg.fFrames.length z3A) 146 2 (zg.fFrames.flatMap y1Y)]) w₀ w₀ [stb z39 143 [(.int .i64 zg.fNumbers.fSlow),(.int .i64 zg.fNumbers.fDelay),(.int .i64 zg.fNumbers.fStore),(.int .i64 zg.fNow),(.int .i64 zg.fLast),(.slice z3z zg.fFrames.length z3A)],row (.slice z3z zg.fFrames.length z3A) 146 2 (zg.fFrames.flatMap y1Y)]) :
    Calls Try.prog 41 #[(.pointer (some ⟨z39,0,none⟩)),(.int .i64 z11),(.int .i64 zG)] w₀ fun e w'=>∃ zmn : Option Addr,∃ zmo : Nat,e = .returned (.tuple #[(.int .i64 r.1),(.int .i64 r.2.1)]) ∧ True ∧ Hp (fps [stb z39 143 [(.int .i64 zg.fNumbers.fSlow),(.int .i64 zg.fNumbers.fDelay),(.int .i64 zg.fNumbers.fStore),(.int .i64 zg.fNow),(.int .i64 zg.fLast),(.slice z3z zg.fFrames.length z3A)],row (.slice z3z zg.fFrames.length z3A) 146 2 (zg.fFrames.flatMap y1Y)]) w₀ w' [stb z39 143 [(.int .i64 r.2.2.fNumbers.fSlow),(.int .i64 r.2.2.fNumbers.fDelay),(.int .i64 r.2.2.fNumbers.fStore),(.int .i64 r.2.2.fNow),(.int .i64 r.2.2.fLast),(.slice zmn r.2.2.fFrames.length zmo)],row (.slice zmn r.2.2.fFrames.length zmo) 146 2 (r.2.2.fFrames.flatMap y1Y)]:=by
  unfold y2s at h
  refine Calls.yl (vs:=[(.pointer (some ⟨z39,0,none⟩)),(.int .i64 z11),(.int .i64 zG)]) (pre:=[stb z39 143 [(.int .i64 zg.fNumbers.fSlow),(.int .i64 zg.fNumbers.fDelay),(.int .i64 zg.fNumbers.fStore),(.int .i64 zg.fNow),(.int .i64 zg.fLast),(.slice z3z zg.fFrames.length z3A)],row (.slice z3z zg.fFrames.length z3A) 146 2 (zg.fFrames.flatMap y1Y)]) (env:=[(0,(.pointer (some ⟨z39,0,none⟩))),(1,(.int .i64 z11)),(2,(.int .i64 zG))]) Try.func41 rfl Try.ntmps41 rfl (hown) rfl ?_
  refine WC.b (WC.a ?_)
  refine WL.new (dd:=4) rfl rfl rfl (y2g (cs:=[(.int .i64 z11)]) rfl rfl) ?_
  intro zeV _
  refine WL.pu rfl (WL.pu rfl (WL.nil (WX.a (WC.b (WC.block (WC.b ?_))))))
  obtain ⟨z7Z,zrM,h⟩:=zf h
  refine WC.a (WL.pu rfl ?_)
  refine WL.b (dd:=10) rfl rfl rfl (zy (l:=[.tmp 9]) Try.call53 (.cons rfl .nil)) .nil (ccl hz .nil (.cons .h1 (.cons .h1 .nil)) fun w pz ho la=>y5d _ _ _ _ _ _ zrM w pz (ZA.row (la _ (.tail _ (.head _)) _) (RR.y17 (enc:=y1Y) (fun _=>rfl) _) ⟨w,pz.1⟩) ((la _ (.head _) _).stb)) ?_
  refine WL.pu rfl (WL.nil (WX.a ?_))
  refine WC.cond rfl (fun zhO=>?_) (fun zhO=>?_)
  · replace h:=ym h zhO
    refine WC.b (WC.a (WL.pu rfl (WL.pu rfl (WL.nil (WX.a (WC.ret (WX.yK (WX.yi ?_))))))))
    obtain rfl:=Option.some.inj h
    refine WX.yh Try.results41 (.tmp rfl (.tmp rfl .nil)) (fun w hw=>?_)
    exact ⟨z3z,z3A,ret2 rfl rfl,trivial,hw.sub (.cons .h1 (.cons .h1 .nil))⟩
  · replace h:=yn h zhO
    refine WC.b ?_
    refine WC.yZ (fun i=>[].contains i) [] rfl ?_
    refine WD.a (i:=0) (d:=12) (by kernel_rfl) rfl (z2 (by kernel_rfl)) (z3 (by kernel_rfl)) rfl rfl rfl (fun _=>q_m rfl) ?_
    refine WD.a (i:=1) (d:=13) (by kernel_rfl) rfl (z2 (by kernel_rfl)) (z3 (by kernel_rfl)) rfl rfl rfl (fun _=>y3n rfl rfl) ?_
    refine WD.a (i:=2) (d:=14) (by kernel_rfl) rfl (z2 (by kernel_rfl)) (z3 (by kernel_rfl)) rfl rfl rfl (fun _=>q_m rfl) ?_
    refine WD.mid (fuel':=13) [(0,(.pointer (some ⟨z39,0,none⟩))),(1,(.int .i64 z11)),(2,(.int .i64 zG)),(4,(.pointer (some ⟨zeV,0,none⟩))),(6,(.int .i64 0)),(7,(.int .i64 0)),(9,(.pointer (some ⟨z39,0,none⟩))),(10,(.bool z7Z)),(8,(.bool z7Z)),(12,(.int .i64 zG)),(13,(.bool (decide (zG < 1)))),(14,(.bool (decide (zG < 1)))),(17,(.bool ((decide (zG < 1)) || (decide (zG > 72)))))] (y1I 19 [5,4,3,2,1,0]) ?_ (fun zmp=>?_)
    rotate_left
    · rcases Bool.eq_false_or_eq_true (decide (zG < 1)) with hb' | hb'
      · have zhP:=hb'; clear hb'
        refine WD.pin (i:=14) rfl zhP ?_
        refine WD.b (i:=3) (d:=15) (by kernel_rfl) rfl (z2 (by kernel_rfl)) (z3 (by kernel_rfl)) rfl rfl rfl ?_
        refine WD.b (i:=4) (d:=16) (by kernel_rfl) rfl (z2 (by kernel_rfl)) (z3 (by kernel_rfl)) rfl rfl rfl ?_
        refine WD.a (i:=5) (d:=17) (by kernel_rfl) rfl (z2 (by kernel_rfl)) (z3 (by kernel_rfl)) rfl rfl rfl (fun _=>y1w rfl rfl) ?_
        refine WD.yS (.cons .here (.cons .here (.cons .here .nil))) ?_ zmp
        exact (.cons rfl (.cons rfl (.cons rfl (.cons rfl (.cons rfl (.cons rfl (.cons rfl (.cons rfl (.cons rfl (.cons rfl (.cons rfl (.cons (zq (Eq.symm zhP)) (.cons (zq (y25 zhP)) .nil)))))))))))))
      · have zhQ:=hb'; clear hb'
        refine WD.pin (i:=14) rfl zhQ ?_
        refine WD.a (i:=3) (d:=15) (by kernel_rfl) rfl (z2 (by kernel_rfl)) (z3 (by kernel_rfl)) rfl rfl rfl (fun _=>q_m rfl) ?_
        refine WD.a (i:=4) (d:=16) (by kernel_rfl) rfl (z2 (by kernel_rfl)) (z3 (by kernel_rfl)) rfl rfl rfl (fun _=>y3F rfl rfl) ?_
        refine WD.a (i:=5) (d:=17) (by kernel_rfl) rfl (z2 (by kernel_rfl)) (z3 (by kernel_rfl)) rfl rfl rfl (fun _=>y1x rfl rfl) ?_
        refine WD.yS (.cons .here (.cons .here (.cons .here .nil))) ?_ zmp
        exact (.cons rfl (.cons rfl (.cons rfl (.cons rfl (.cons rfl (.cons rfl (.cons rfl (.cons rfl (.cons rfl (.cons rfl (.cons rfl (.cons (zq (Eq.symm zhQ)) (.cons (zq (y26 zhQ)) .nil)))))))))))))
    refine WD.a (i:=6) (d:=18) (by kernel_rfl) rfl (z2 (by kernel_rfl)) (z3 (by kernel_rfl)) rfl rfl rfl (fun _=>q_m rfl) ?_
    refine WD.mid (fuel':=5) [(0,(.pointer (some ⟨z39,0,none⟩))),(1,(.int .i64 z11)),(2,(.int .i64 zG)),(4,(.pointer (some ⟨zeV,0,none⟩))),(6,(.int .i64 0)),(7,(.int .i64 0)),(9,(.pointer (some ⟨z39,0,none⟩))),(10,(.bool z7Z)),(8,(.bool z7Z)),(12,(.int .i64 zG)),(13,(.bool (decide (zG < 1)))),(14,(.bool (decide (zG < 1)))),(17,(.bool ((decide (zG < 1)) || (decide (zG > 72))))),(18,(.bool ((decide (zG < 1)) || (decide (zG > 72))))),(25,(.bool (((decide (zG < 1)) || (decide (zG > 72))) || (decide (z11 < zg.fNow)))))] (y1I 19 [13,12,11,10,9,8,7,6,5,4,3,2,1,0]) ?_ (fun zmq=>?_)
    rotate_left
    · rcases Bool.eq_false_or_eq_true ((decide (zG < 1)) || (decide (zG > 72))) with hb' | hb'
      · have zhR:=hb'; clear hb'
        refine WD.pin (i:=18) rfl zhR ?_
        refine WD.b (i:=7) (d:=19) (by kernel_rfl) rfl (z2 (by kernel_rfl)) (z3 (by kernel_rfl)) rfl rfl rfl ?_
        refine WD.b (i:=8) (d:=20) (by kernel_rfl) rfl (z2 (by kernel_rfl)) (z3 (by kernel_rfl)) rfl rfl rfl ?_
        refine WD.b (i:=9) (d:=21) (by kernel_rfl) rfl (z2 (by kernel_rfl)) (z3 (by kernel_rfl)) rfl rfl rfl ?_
        refine WD.b (i:=10) (d:=22) (by kernel_rfl) rfl (z2 (by kernel_rfl)) (z3 (by kernel_rfl)) rfl rfl rfl ?_
        refine WD.b (i:=11) (d:=23) (by kernel_rfl) rfl (z2 (by kernel_rfl)) (z3 (by kernel_rfl)) rfl rfl rfl ?_
        refine WD.b (i:=12) (d:=24) (by kernel_rfl) rfl (z2 (by kernel_rfl)) (z3 (by kernel_rfl)) rfl rfl rfl ?_
        refine WD.a (i:=13) (d:=25) (by kernel_rfl) rfl (z2 (by kernel_rfl)) (z3 (by kernel_rfl)) rfl rfl rfl (fun _=>y1w rfl rfl) ?_
        refine WD.yS (.cons .here (.cons .here (.cons .here .nil))) ?_ zmq
        exact (.cons rfl (.cons rfl (.cons rfl (.cons rfl (.cons rfl (.cons rfl (.cons rfl (.cons rfl (.cons rfl (.cons rfl (.cons rfl (.cons rfl (.cons rfl (.cons (zq (Eq.symm zhR)) (.cons (zq (y25 zhR)) .nil)))))))))))))))
      · have zhS:=hb'; clear hb'
        refine WD.pin (i:=18) rfl zhS ?_
        refine WD.e (i:=7) (d:=19) (by kernel_rfl) rfl (z2 (by kernel_rfl)) (z3 (by kernel_rfl)) rfl rfl rfl (yb yf rfl (ye .here rfl)) ?_
        refine WD.a (i:=8) (d:=20) (by kernel_rfl) rfl (z2 (by kernel_rfl)) (z3 (by kernel_rfl)) rfl rfl rfl (fun _=>q_m rfl) ?_
        refine WD.a (i:=9) (d:=21) (by kernel_rfl) rfl (z2 (by kernel_rfl)) (z3 (by kernel_rfl)) rfl rfl rfl (fun _=>yt rfl) ?_
        refine WD.a (i:=10) (d:=22) (by kernel_rfl) rfl (z2 (by kernel_rfl)) (z3 (by kernel_rfl)) rfl rfl rfl (fun _=>ya y76 rfl rfl) ?_
        refine WD.e (i:=11) (d:=23) (by kernel_rfl) rfl (z2 (by kernel_rfl)) (z3 (by kernel_rfl)) rfl rfl rfl (yb yf rfl (ye .h1 rfl)) ?_
        refine WD.a (i:=12) (d:=24) (by kernel_rfl) rfl (z2 (by kernel_rfl)) (z3 (by kernel_rfl)) rfl rfl rfl (fun _=>y3n rfl rfl) ?_
        refine WD.a (i:=13) (d:=25) (by kernel_rfl) rfl (z2 (by kernel_rfl)) (z3 (by kernel_rfl)) rfl rfl rfl (fun _=>y1x rfl rfl) ?_
        refine WD.yS (.cons .here (.cons .here (.cons .here .nil))) ?_ zmq
        exact (.cons rfl (.cons rfl (.cons rfl (.cons rfl (.cons rfl (.cons rfl (.cons rfl (.cons rfl (.cons rfl (.cons rfl (.cons rfl (.cons rfl (.cons rfl (.cons (zq (Eq.symm zhS)) (.cons (zq (y26 zhS)) .nil)))))))))))))))
    refine WD.a (i:=14) (d:=26) (by kernel_rfl) rfl (z2 (by kernel_rfl)) (z3 (by kernel_rfl)) rfl rfl rfl (fun _=>q_m rfl) ?_
    refine WD.mid (fuel':=1) [(0,(.pointer (some ⟨z39,0,none⟩))),(1,(.int .i64 z11)),(2,(.int .i64 zG)),(4,(.pointer (some ⟨zeV,0,none⟩))),(6,(.int .i64 0)),(7,(.int .i64 0)),(9,(.pointer (some ⟨z39,0,none⟩))),(10,(.bool z7Z)),(8,(.bool z7Z)),(12,(.int .i64 zG)),(13,(.bool (decide (zG < 1)))),(14,(.bool (decide (zG < 1)))),(17,(.bool ((decide (zG < 1)) || (decide (zG > 72))))),(18,(.bool ((decide (zG < 1)) || (decide (zG > 72))))),(25,(.bool (((decide (zG < 1)) || (decide (zG > 72))) || (decide (z11 < zg.fNow))))),(26,(.bool (((decide (zG < 1)) || (decide (zG > 72))) || (decide (z11 < zg.fNow))))),(29,(.bool ((((decide (zG < 1)) || (decide (zG > 72))) || (decide (z11 < zg.fNow))) || (decide (z11 > 1073741824)))))] (y1I 19 [17,16,15,14,13,12,11,10,9,8,7,6,5,4,3,2,1,0]) ?_ (fun zmr=>?_)
    rotate_left
    · rcases Bool.eq_false_or_eq_true (((decide (zG < 1)) || (decide (zG > 72))) || (decide (z11 < zg.fNow))) with hb' | hb'
      · have zhT:=hb'; clear hb'
        refine WD.pin (i:=26) rfl zhT ?_
        refine WD.b (i:=15) (d:=27) (by kernel_rfl) rfl (z2 (by kernel_rfl)) (z3 (by kernel_rfl)) rfl rfl rfl ?_
        refine WD.b (i:=16) (d:=28) (by kernel_rfl) rfl (z2 (by kernel_rfl)) (z3 (by kernel_rfl)) rfl rfl rfl ?_
        refine WD.a (i:=17) (d:=29) (by kernel_rfl) rfl (z2 (by kernel_rfl)) (z3 (by kernel_rfl)) rfl rfl rfl (fun _=>y1w rfl rfl) ?_
        refine WD.yS (.cons .here (.cons .here (.cons .here .nil))) ?_ zmr
        exact (.cons rfl (.cons rfl (.cons rfl (.cons rfl (.cons rfl (.cons rfl (.cons rfl (.cons rfl (.cons rfl (.cons rfl (.cons rfl (.cons rfl (.cons rfl (.cons rfl (.cons rfl (.cons (zq (Eq.symm zhT)) (.cons (zq (y25 zhT)) .nil)))))))))))))))))
      · have zhU:=hb'; clear hb'
        refine WD.pin (i:=26) rfl zhU ?_
        refine WD.e (i:=15) (d:=27) (by kernel_rfl) rfl (z2 (by kernel_rfl)) (z3 (by kernel_rfl)) rfl rfl rfl (yb yf rfl (ye .here rfl)) ?_
        refine WD.a (i:=16) (d:=28) (by kernel_rfl) rfl (z2 (by kernel_rfl)) (z3 (by kernel_rfl)) rfl rfl rfl (fun _=>y3F rfl rfl) ?_
        refine WD.a (i:=17) (d:=29) (by kernel_rfl) rfl (z2 (by kernel_rfl)) (z3 (by kernel_rfl)) rfl rfl rfl (fun _=>y1x rfl rfl) ?_
        refine WD.yS (.cons .here (.cons .here (.cons .here .nil))) ?_ zmr
        exact (.cons rfl (.cons rfl (.cons rfl (.cons rfl (.cons rfl (.cons rfl (.cons rfl (.cons rfl (.cons rfl (.cons rfl (.cons rfl (.cons rfl (.cons rfl (.cons rfl (.cons rfl (.cons (zq (Eq.symm zhU)) (.cons (zq (y26 zhU)) .nil)))))))))))))))))
    refine WD.a (i:=18) (d:=11) (by kernel_rfl) rfl (z2 (by kernel_rfl)) (z3 (by kernel_rfl)) rfl rfl rfl (fun _=>q_z rfl) ?_
    refine WD.done (by kernel_rfl) ?_
    refine WX.a ?_
    refine WC.cond rfl (fun zhV=>?_) (fun zhV=>?_)
    · replace h:=ym h zhV
      refine WC.b (WC.a (WL.pu rfl (WL.pu rfl (WL.nil (WX.a (WC.ret (WX.yK (WX.yi ?_))))))))
      obtain rfl:=Option.some.inj h
      refine WX.yh Try.results41 (.tmp rfl (.tmp rfl .nil)) (fun w hw=>?_)
      exact ⟨z3z,z3A,ret2 rfl rfl,trivial,hw.sub (.cons .h1 (.cons .h1 .nil))⟩
    · replace h:=yn h zhV
      refine WC.skip (WX.yg (WX.a (WC.b (WC.a (WL.pu rfl ?_)))))
      refine WL.a (d:=31) rfl rfl rfl (yb yf rfl (ye .here rfl)) ?_
      refine WL.a (d:=32) rfl rfl rfl (yt rfl) ?_
      refine WL.a (d:=33) rfl rfl rfl (ya y76 rfl rfl) ?_
      refine WL.y1o rfl rfl (y3H (ds:=[(.int .i64 zg.fNumbers.fSlow),(.int .i64 zg.fNumbers.fDelay),(.int .i64 zg.fNumbers.fStore),(.int .i64 z11),(.int .i64 zg.fLast),(.slice z3z zg.fFrames.length z3A)]) y5I rfl rfl rfl rfl rfl .h1 rfl rfl) ?_
      refine WL.nil (WX.a (WC.b ?_))
      obtain ⟨z64,zrN,h⟩:=zf h
      refine WC.a (WL.pu rfl (WL.pu rfl ?_))
      refine WL.a (d:=36) rfl rfl rfl (yt rfl) ?_
      refine WL.a (d:=37) rfl rfl rfl (ya y5b rfl rfl) ?_
      refine WL.a (d:=38) rfl rfl rfl (yb zfS rfl (ye .here rfl)) ?_
      refine WL.a (d:=39) rfl rfl rfl (y5W (Eos.caps (l:=[.tmp 4]) (.cons rfl .nil))) ?_
      refine WL.y4H (dd:=40) rfl rfl rfl (zy (l:=[.tmp 38,.tmp 39]) Try.call54 (.cons rfl (.cons rfl .nil))) (.cons .h2 .nil) (ccl hz (.cons .h2 .nil) (.cons .h1 .nil) fun w pz ho la=>y3y _ _ _ (z4R:=55) (z73:=[(.pointer (some ⟨zeV,0,none⟩))]) _ (z3x:=(fun (y0 : Sport_frame)=>y2v y0 z11)) _ zrN w pz Try.call55 (fun w' hz' y0  r  hr=>y6W _ _ _ _ _ hr w' hz' ((la _ (.head _) _).stb)) ho) ?_
      rintro zhW zhX _
      refine WL.a (d:=41) rfl rfl rfl (yt rfl) ?_
      refine WL.a (d:=42) rfl rfl rfl (ya y5b rfl rfl) ?_
      refine WL.y1o rfl rfl (y3H (ds:=[(.int .i64 zg.fNumbers.fSlow),(.int .i64 zg.fNumbers.fDelay),(.int .i64 zg.fNumbers.fStore),(.int .i64 z11),(.int .i64 zg.fLast),(.slice zhW z64.length zhX)]) zjC rfl rfl rfl rfl rfl .h1 rfl rfl) ?_
      refine WL.nil (WX.a (WC.b (WC.b ?_)))
      obtain ⟨zmm,zrO,h⟩:=zf h
      refine WC.yZ (fun i=>[].contains i) [] rfl ?_
      refine WD.a (i:=0) (d:=43) (by kernel_rfl) rfl (z2 (by kernel_rfl)) (z3 (by kernel_rfl)) rfl rfl rfl (fun _=>q_m rfl) ?_
      refine WD.e (i:=1) (d:=44) (by kernel_rfl) rfl (z2 (by kernel_rfl)) (z3 (by kernel_rfl)) rfl rfl rfl (yb yf rfl (ye .h2 rfl)) ?_
      refine WD.c (i:=2) (d:=45) (by kernel_rfl) rfl (z2 (by kernel_rfl)) (z3 (by kernel_rfl)) rfl rfl rfl (zy (l:=[.tmp 43,.tmp 44]) Try.call56 (.cons rfl (.cons rfl .nil))) (ccl hz .nil (.cons .here (.cons .here .nil)) fun w pz ho la=>y79 _ _ _ _ _ _ _ zrO w pz (ZA.row (la _ (.tail _ (.head _)) _) (RR.y17 (enc:=y1Y) (fun _=>rfl) _) ⟨w,pz.1⟩) ((la _ (.head _) _).stb)) ?_
      refine WD.a (i:=3) (d:=46) (by kernel_rfl) rfl (z2 (by kernel_rfl)) (z3 (by kernel_rfl)) rfl rfl rfl (fun _=>q_m rfl) ?_
      refine WD.a (i:=4) (d:=47) (by kernel_rfl) rfl (z2 (by kernel_rfl)) (z3 (by kernel_rfl)) rfl rfl rfl (fun _=>y4D rfl rfl rfl) ?_
      refine WD.a (i:=5) (d:=48) (by kernel_rfl) rfl (z2 (by kernel_rfl)) (z3 (by kernel_rfl)) rfl rfl rfl (fun _=>q_m rfl) ?_
      refine WD.a (i:=6) (d:=49) (by kernel_rfl) rfl (z2 (by kernel_rfl)) (z3 (by kernel_rfl)) rfl rfl rfl (fun _=>yt rfl) ?_
      refine WD.a (i:=7) (d:=50) (by kernel_rfl) rfl (z2 (by kernel_rfl)) (z3 (by kernel_rfl)) rfl rfl rfl (fun _=>ya y65 rfl rfl) ?_
      refine WD.a (i:=8) (d:=51) (by kernel_rfl) rfl (z2 (by kernel_rfl)) (z3 (by kernel_rfl)) rfl rfl rfl (fun _=>ya fo_140_2 rfl rfl) ?_
      refine WD.e (i:=9) (d:=52) (by kernel_rfl) rfl (z2 (by kernel_rfl)) (z3 (by kernel_rfl)) rfl rfl rfl (yb yf rfl (ye .here rfl)) ?_
      refine WD.a (i:=10) (d:=53) (by kernel_rfl) rfl (z2 (by kernel_rfl)) (z3 (by kernel_rfl)) rfl rfl rfl (fun _=>y3F rfl rfl) ?_
      refine WD.done (by kernel_rfl) ?_
      refine WX.a ?_
      refine WC.cond rfl (fun zhY=>?_) (fun zhY=>?_)
      · replace h:=ym h zhY
        refine WC.b (WC.a (WL.pu rfl (WL.pu rfl (WL.nil (WX.a (WC.ret (WX.yi ?_)))))))
        obtain rfl:=Option.some.inj h
        refine WX.yh Try.results41 (.tmp rfl (.tmp rfl .nil)) (fun w hw=>?_)
        exact ⟨zhW,zhX,ret2 rfl rfl,trivial,hw.sub (.cons .here (.cons .here .nil))⟩
      · replace h:=yn h zhY
        refine WC.skip (WX.a (WC.b ?_))
        refine WC.yZ (fun i=>[23].contains i) [] rfl ?_
        refine WD.a (i:=0) (d:=54) (by kernel_rfl) rfl (z2 (by kernel_rfl)) (z3 (by kernel_rfl)) rfl rfl rfl (fun _=>q_m rfl) ?_
        refine WD.e (i:=1) (d:=55) (by kernel_rfl) rfl (z2 (by kernel_rfl)) (z3 (by kernel_rfl)) rfl rfl rfl (yb yf rfl (ye .h2 rfl)) ?_
        refine WD.a (i:=2) (d:=56) (by kernel_rfl) rfl (z2 (by kernel_rfl)) (z3 (by kernel_rfl)) rfl rfl rfl (fun _=>q_m rfl) ?_
        refine WD.a (i:=3) (d:=57) (by kernel_rfl) rfl (z2 (by kernel_rfl)) (z3 (by kernel_rfl)) rfl rfl rfl (fun _=>yt rfl) ?_
        refine WD.a (i:=4) (d:=58) (by kernel_rfl) rfl (z2 (by kernel_rfl)) (z3 (by kernel_rfl)) rfl rfl rfl (fun _=>ya y65 rfl rfl) ?_
        refine WD.a (i:=5) (d:=59) (by kernel_rfl) rfl (z2 (by kernel_rfl)) (z3 (by kernel_rfl)) rfl rfl rfl (fun _=>ya fo_140_1 rfl rfl) ?_
        refine WD.e (i:=6) (d:=60) (by kernel_rfl) rfl (z2 (by kernel_rfl)) (z3 (by kernel_rfl)) rfl rfl rfl (yb yf rfl (ye .here rfl)) ?_
        refine WD.a (i:=7) (d:=61) (by kernel_rfl) rfl (z2 (by kernel_rfl)) (z3 (by kernel_rfl)) rfl rfl rfl (fun _=>y4D rfl rfl rfl) ?_
        refine WD.a (i:=8) (d:=62) (by kernel_rfl) rfl (z2 (by kernel_rfl)) (z3 (by kernel_rfl)) rfl rfl rfl (fun _=>q_m rfl) ?_
        refine WD.a (i:=9) (d:=63) (by kernel_rfl) rfl (z2 (by kernel_rfl)) (z3 (by kernel_rfl)) rfl rfl rfl (fun _=>yt rfl) ?_
        refine WD.a (i:=10) (d:=64) (by kernel_rfl) rfl (z2 (by kernel_rfl)) (z3 (by kernel_rfl)) rfl rfl rfl (fun _=>ya y66 rfl rfl) ?_
        refine WD.e (i:=11) (d:=65) (by kernel_rfl) rfl (z2 (by kernel_rfl)) (z3 (by kernel_rfl)) rfl rfl rfl (yb yf rfl (ye .here rfl)) ?_
        refine WD.a (i:=12) (d:=66) (by kernel_rfl) rfl (z2 (by kernel_rfl)) (z3 (by kernel_rfl)) rfl rfl rfl (fun _=>q_max rfl rfl rfl) ?_
        refine WD.a (i:=13) (d:=67) (by kernel_rfl) rfl (z2 (by kernel_rfl)) (z3 (by kernel_rfl)) rfl rfl rfl (fun _=>q_m rfl) ?_
        refine WD.a (i:=14) (d:=68) (by kernel_rfl) rfl (z2 (by kernel_rfl)) (z3 (by kernel_rfl)) rfl rfl rfl (fun _=>q_m rfl) ?_
        refine WD.a (i:=15) (d:=69) (by kernel_rfl) rfl (z2 (by kernel_rfl)) (z3 (by kernel_rfl)) rfl rfl rfl (fun _=>yt rfl) ?_
        refine WD.a (i:=16) (d:=70) (by kernel_rfl) rfl (z2 (by kernel_rfl)) (z3 (by kernel_rfl)) rfl rfl rfl (fun _=>ya y65 rfl rfl) ?_
        refine WD.a (i:=17) (d:=71) (by kernel_rfl) rfl (z2 (by kernel_rfl)) (z3 (by kernel_rfl)) rfl rfl rfl (fun _=>ya y8v rfl rfl) ?_
        refine WD.e (i:=18) (d:=72) (by kernel_rfl) rfl (z2 (by kernel_rfl)) (z3 (by kernel_rfl)) rfl rfl rfl (yb yf rfl (ye .here rfl)) ?_
        refine WD.a (i:=19) (d:=73) (by kernel_rfl) rfl (z2 (by kernel_rfl)) (z3 (by kernel_rfl)) rfl rfl rfl (fun _=>q_mul rfl rfl rfl) ?_
        refine WD.a (i:=20) (d:=74) (by kernel_rfl) rfl (z2 (by kernel_rfl)) (z3 (by kernel_rfl)) rfl rfl rfl (fun _=>y4D rfl rfl rfl) ?_
        refine WD.a (i:=21) (d:=75) (by kernel_rfl) rfl (z2 (by kernel_rfl)) (z3 (by kernel_rfl)) rfl rfl rfl (fun _=>yt rfl) ?_
        refine WD.a (i:=22) (d:=76) (by kernel_rfl) rfl (z2 (by kernel_rfl)) (z3 (by kernel_rfl)) rfl rfl rfl (fun _=>ya y66 rfl rfl) ?_
        refine WD.y36 (i:=23) rfl (by kernel_rfl) rfl rfl rfl (by kernel_rfl) (y3H (ds:=[(.int .i64 zg.fNumbers.fSlow),(.int .i64 zg.fNumbers.fDelay),(.int .i64 zg.fNumbers.fStore),(.int .i64 z11),(.int .i64 (i64 ((max (i64 (z11 + zg.fNumbers.fDelay)) zg.fLast) + (i64 (zG * zg.fNumbers.fSlow))))),(.slice zhW z64.length zhX)]) y5I rfl rfl rfl rfl rfl .here rfl rfl) ?_
        refine WD.done (by kernel_rfl) ?_
        refine WX.a (WC.b ?_)
        obtain ⟨zrP,h⟩:=yj h
        refine WC.yZ (fun i=>[12,15].contains i) [] rfl ?_
        refine WD.a (i:=0) (d:=77) (by kernel_rfl) rfl (z2 (by kernel_rfl)) (z3 (by kernel_rfl)) rfl rfl rfl (fun _=>q_m rfl) ?_
        refine WD.a (i:=1) (d:=78) (by kernel_rfl) rfl (z2 (by kernel_rfl)) (z3 (by kernel_rfl)) rfl rfl rfl (fun _=>q_m rfl) ?_
        refine WD.a (i:=2) (d:=79) (by kernel_rfl) rfl (z2 (by kernel_rfl)) (z3 (by kernel_rfl)) rfl rfl rfl (fun _=>yt rfl) ?_
        refine WD.a (i:=3) (d:=80) (by kernel_rfl) rfl (z2 (by kernel_rfl)) (z3 (by kernel_rfl)) rfl rfl rfl (fun _=>ya y5b rfl rfl) ?_
        refine WD.e (i:=4) (d:=81) (by kernel_rfl) rfl (z2 (by kernel_rfl)) (z3 (by kernel_rfl)) rfl rfl rfl (yb zfS rfl (ye .here rfl)) ?_
        refine WD.a (i:=5) (d:=82) (by kernel_rfl) rfl (z2 (by kernel_rfl)) (z3 (by kernel_rfl)) rfl rfl rfl (fun _=>q_m rfl) ?_
        refine WD.a (i:=6) (d:=83) (by kernel_rfl) rfl (z2 (by kernel_rfl)) (z3 (by kernel_rfl)) rfl rfl rfl (fun _=>q_m rfl) ?_
        refine WD.a (i:=7) (d:=84) (by kernel_rfl) rfl (z2 (by kernel_rfl)) (z3 (by kernel_rfl)) rfl rfl rfl (fun _=>yt rfl) ?_
        refine WD.a (i:=8) (d:=85) (by kernel_rfl) rfl (z2 (by kernel_rfl)) (z3 (by kernel_rfl)) rfl rfl rfl (fun _=>ya y66 rfl rfl) ?_
        refine WD.e (i:=9) (d:=86) (by kernel_rfl) rfl (z2 (by kernel_rfl)) (z3 (by kernel_rfl)) rfl rfl rfl (yb yf rfl (ye .here rfl)) ?_
        refine WD.a (i:=10) (d:=87) (by kernel_rfl) rfl (z2 (by kernel_rfl)) (z3 (by kernel_rfl)) rfl rfl rfl (fun _=>y1B (v:=(.agg #[(.int .i64 zG),(.int .i64 (i64 ((max (i64 (z11 + zg.fNumbers.fDelay)) zg.fLast) + (i64 (zG * zg.fNumbers.fSlow)))))])) (Eos.parts (l:=[.tmp 82,.tmp 86]) (.cons rfl (.cons rfl .nil)) [0,1]) (fun _=>by kernel_rfl)) ?_
        refine WD.new (i:=11) (dd:=88) rfl (by kernel_rfl) rfl rfl rfl (y15 (cs:=([(⟨zG,i64 ((max (i64 (z11 + zg.fNumbers.fDelay)) zg.fLast) + (i64 (zG * zg.fNumbers.fSlow)))⟩ : Sport_frame)] : List Sport_frame).flatMap y1Y) z6q (Eos.parts (l:=[.tmp 87]) (.cons rfl .nil) [0]) (fun _=>by kernel_rfl) rfl (by unfold maxLen; omega)) (fun h'=>absurd h' (by decide)) ?_
        intro zx0 _
        refine WD.old (i:=12) (dd:=89) rfl (by kernel_rfl) rfl rfl rfl rfl (fun _=>(Sin.of .nil)) (y4I (enc:=y1Y) (l1:=z64) (l2:=([(⟨zG,i64 ((max (i64 (z11 + zg.fNumbers.fDelay)) zg.fLast) + (i64 (zG * zg.fNumbers.fSlow)))⟩ : Sport_frame)] : List Sport_frame)) z6q rfl rfl .h2 (fun _=>rfl) rfl rfl (y57 .here) (y4T y8Z _) zrP) ?_
        rintro ⟨zms,zmt⟩ _
        refine WD.a (i:=13) (d:=90) (by kernel_rfl) rfl (z2 (by kernel_rfl)) (z3 (by kernel_rfl)) rfl rfl rfl (fun _=>yt rfl) ?_
        refine WD.a (i:=14) (d:=91) (by kernel_rfl) rfl (z2 (by kernel_rfl)) (z3 (by kernel_rfl)) rfl rfl rfl (fun _=>ya y5b rfl rfl) ?_
        refine WD.y36 (i:=15) rfl (by kernel_rfl) rfl rfl rfl (by kernel_rfl) (y3H (ds:=[(.int .i64 zg.fNumbers.fSlow),(.int .i64 zg.fNumbers.fDelay),(.int .i64 zg.fNumbers.fStore),(.int .i64 z11),(.int .i64 (i64 ((max (i64 (z11 + zg.fNumbers.fDelay)) zg.fLast) + (i64 (zG * zg.fNumbers.fSlow))))),(.slice zms ((z64 ++ ([(⟨zG,i64 ((max (i64 (z11 + zg.fNumbers.fDelay)) zg.fLast) + (i64 (zG * zg.fNumbers.fSlow)))⟩ : Sport_frame)] : List Sport_frame)).length) zmt)]) zjC rfl rfl rfl rfl rfl .h2 rfl rfl) ?_
        refine WD.done (by kernel_rfl) ?_
        refine WX.a (WC.b (WC.a (WL.pu rfl ?_)))
        refine WL.a (d:=93) rfl rfl rfl (yt rfl) ?_
        refine WL.a (d:=94) rfl rfl rfl (ya y66 rfl rfl) ?_
        refine WL.a (d:=95) rfl rfl rfl (yb yf rfl (ye .here rfl)) ?_
        refine WL.pu rfl (WL.pu rfl (WL.nil (WX.a (WC.ret ?_))))
        obtain rfl:=Option.some.inj h
        refine WX.yh Try.results41 (.tmp rfl (.tmp rfl .nil)) (fun w hw=>?_)
        exact ⟨zms,zmt,ret2 rfl rfl,trivial,hw.sub (.cons .here (.cons .here .nil))⟩
def y2H (zl : Sapi_Config) (z2V : List (List Sapi_Hop)) (z2j : List zSt) (zeW : List (Snetwork_exit × Sport_Port)) (z2r : List Snetwork_event) (z1d : List Sapi_Come) (z19 : List Sapi_Come) : Option (List Snetwork_event × List Sapi_Come × List Sapi_Come × (List (Snetwork_exit × Sport_Port))) :=
  (y2k z2r).bind fun z6=>(y3a zl z2V z2j zeW z6.2 z1d z19 z6.1.fHop).bind fun z2k=>chk ((0 : Int) ≤ z6.1.fSent ∧ z6.1.fSent < ((z2j.length : Nat) : Int)) (chk (y29 z2k (⟨z6.1.fHop.fNode,z6.1.fHop.fLink⟩ : Snetwork_exit) = true) ((y2s (⟨(⟨(((yw z2k (⟨z6.1.fHop.fNode,z6.1.fHop.fLink⟩ : Snetwork_exit) default).fNumbers).fSlow),(((yw z2k (⟨z6.1.fHop.fNode,z6.1.fHop.fLink⟩ : Snetwork_exit) default).fNumbers).fDelay),(((yw z2k (⟨z6.1.fHop.fNode,z6.1.fHop.fLink⟩ : Snetwork_exit) default).fNumbers).fStore)⟩ : Sport_numbers),((yw z2k (⟨z6.1.fHop.fNode,z6.1.fHop.fLink⟩ : Snetwork_exit) default).fNow),((yw z2k (⟨z6.1.fHop.fNode,z6.1.fHop.fLink⟩ : Snetwork_exit) default).fLast),((yw z2k (⟨z6.1.fHop.fNode,z6.1.fHop.fLink⟩ : Snetwork_exit) default).fFrames)⟩ : Sport_Port) z6.1.fTime ((nth z2j z6.1.fSent).fSize)).bind fun z1S=>if decide (z1S.2.1 ≠ 0) then chk ((((z19 ++ ([(⟨z6.1.fSent,z6.1.fHop.fNode,z6.1.fTime⟩ : Sapi_Come)] : List Sapi_Come)).length : Nat) : Int) * 24 ≤ 140737488355328 ∧ (((z19 ++ ([(⟨z6.1.fSent,z6.1.fHop.fNode,z6.1.fTime⟩ : Sapi_Come)] : List Sapi_Come)).length : Nat) : Int) ≤ 4611686018427387904) (some (z6.2,z1d,(z19 ++ ([(⟨z6.1.fSent,z6.1.fHop.fNode,z6.1.fTime⟩ : Sapi_Come)] : List Sapi_Come)),(y12 z2k (⟨z6.1.fHop.fNode,z6.1.fHop.fLink⟩ : Snetwork_exit) z1S.2.2))) else jp1 (fun (z4U : List Sapi_Come)=>(y2d zl z2V z2j (y12 z2k (⟨z6.1.fHop.fNode,z6.1.fHop.fLink⟩ : Snetwork_exit) z1S.2.2) z6.2 z4U z19 z6.1.fHop.fNext z1S.1 z6.1.fHop.fLink z6.1.fSent).bind fun zmu=>some (zmu,z4U,z19,(y12 z2k (⟨z6.1.fHop.fNode,z6.1.fHop.fLink⟩ : Snetwork_exit) z1S.2.2))) fun zeX=>if decide (z6.1.fHop.fNext < ((zl.fModules.length : Nat) : Int)) then chk ((((z1d ++ ([(⟨z6.1.fSent,z6.1.fHop.fNext,z1S.1⟩ : Sapi_Come)] : List Sapi_Come)).length : Nat) : Int) * 24 ≤ 140737488355328 ∧ (((z1d ++ ([(⟨z6.1.fSent,z6.1.fHop.fNext,z1S.1⟩ : Sapi_Come)] : List Sapi_Come)).length : Nat) : Int) ≤ 4611686018427387904) (zeX (z1d ++ ([(⟨z6.1.fSent,z6.1.fHop.fNext,z1S.1⟩ : Sapi_Come)] : List Sapi_Come))) else zeX z1d))
set_option maxRecDepth 20000 in
theorem y6E (Z : Zp) (z3o : Nat) (z4c : Option Addr) (z4d : Nat) (z4e : Option Addr) (z4f : Nat) (z4g : Option Addr) (z4h : Nat) (z4i : Option Addr) (z4j : Nat) (z4k : Option Addr) (z4l : Nat) (z4m : Option Addr) (z4n : Nat) (z4o : Option Addr) (z4p : Nat) (z4q : Option Addr) (z4r : Nat) (z4s : Option Addr) (z4t : Nat) (z3B : Option Addr) (z3C : Nat) (z25 : Nat) (z4V : List (Snetwork_exit × ((Nat × (Option Addr × Nat)) × Sport_Port))) (z65 : Option Addr) (z66 : Nat) (z2H : Option Addr) (z2I : Nat) (z2s : Option Addr) (z2t : Nat) (zl : Sapi_Config) (z2V : List (List Sapi_Hop)) (z2j : List zSt) (zeW : List (Snetwork_exit × Sport_Port)) (z2r : List Snetwork_event) (z1d : List Sapi_Come) (z19 : List Sapi_Come) (r : List Snetwork_event × List Sapi_Come × List Sapi_Come × (List (Snetwork_exit × Sport_Port)))
     (h : y2H zl z2V z2j zeW z2r z1d z19 = some r) (w₀ : World) (hz : PZ (fps [stb z3o 81 [(.slice z4c zl.fModules.length z4d),(.slice z4e zl.fChannels.length z4f),(.slice z4g zl.fSwitches.length z4h),(.slice z4i zl.fLinks.length z4j),(.slice z4k zl.fVLs.length z4l),(.slice z4m zl.fHealth.length z4n),(.slice z4o zl.fCauses.length z4p),(.slice z4q zl.fVersions.length z4r),(.slice z4s z2V.length z4t),(.slice z3B z2j.length z3C),(.map (some z25)),(.slice z65 z2r.length z66),(.slice z2H z1d.length z2I),(.slice z2s z19.length z2t)],y1e z25 (fun x=>Value.agg (y1Q x).toArray) Value.pointer (y1m z4V),y1l z15 z4V,row (.slice z65 z2r.length z66) 113 7 (z2r.flatMap yx),row (.slice z2H z1d.length z2I) 50 3 (z1d.flatMap e50),row (.slice z2s z19.length z2t) 50 3 (z19.flatMap e50)]) w₀ Z)
     (zmv : ZS Z 4 (y2x Z) z4c z4d zl.fModules)
     (zmw : ZS Z 4 (y2S Z) z4e z4f zl.fChannels)
     (zmx : ZS Z 4 (fun r x=>r = e64 x) z4g z4h zl.fSwitches)
     (zmy : ZS Z 4 (fun r x=>r = e62 x) z4i z4j zl.fLinks)
     (zmz : ZS Z 7 (y2G Z) z4k z4l zl.fVLs)
     (zmA : ZS Z 5 (fun r x=>r = y37 x) z4m z4n zl.fHealth)
     (zmB : ZS Z 3 (y2T Z) z4o z4p zl.fCauses)
     (zmC : ZS Z 4 (fun r x=>r = y38 x) z4q z4r zl.fVersions)
     (zmD : ZS Z 1 (p55 Z) z4s z4t z2V)
     (zhZ : ZS Z 3 (fun r x=>r = e53 x) z3B z3C z2j)
     (zrQ : dat z4V = zeW)
    (hown : Hp (fps [stb z3o 81 [(.slice z4c zl.fModules.length z4d),(.slice z4e zl.fChannels.length z4f),(.slice z4g zl.fSwitches.length z4h),(.slice z4i zl.fLinks.length z4j),(.slice z4k zl.fVLs.length z4l),(.slice z4m zl.fHealth.length z4n),(.slice z4o zl.fCauses.length z4p),(.slice z4q zl.fVersions.length z4r),(.slice z4s z2V.length z4t),(.slice z3B z2j.length z3C),(.map (some z25)),(.slice z65 z2r.length z66),(.slice z2H z1d.length z2I),(.slice z2s z19.length z2t)],y1e z25 (fun x=>Value.agg (y1Q x).toArray) Value.pointer (y1m z4V),y1l z15 z4V,row (.slice z65 z2r.length z66) 113 7 (z2r.flatMap yx),row (.slice z2H z1d.length z2I) 50 3 (z1d.flatMap e50),row (.slice z2s z19.length z2t) 50 3 (z19.flatMap e50)]) w₀ w₀ [stb z3o 81 [(.slice z4c zl.fModules.length z4d),(.slice z4e zl.fChannels.length z4f),(.slice z4g zl.fSwitches.length z4h),(.slice z4i zl.fLinks.length z4j),(.slice z4k zl.fVLs.length z4l),(.slice z4m zl.fHealth.length z4n),(.slice z4o zl.fCauses.length z4p),(.slice z4q zl.fVersions.length z4r),(.slice z4s z2V.length z4t),(.slice z3B z2j.length z3C),(.map (some z25)),(.slice z65 z2r.length z66),(.slice z2H z1d.length z2I),(.slice z2s z19.length z2t)],y1e z25 (fun x=>Value.agg (y1Q x).toArray) Value.pointer (y1m z4V),y1l z15 z4V,row (.slice z65 z2r.length z66) 113 7 (z2r.flatMap yx),row (.slice z2H z1d.length z2I) 50 3 (z1d.flatMap e50),row (.slice z2s z19.length z2t) 50 3 (z19.flatMap e50)]) :
    Calls Try.prog 26 #[(.pointer (some ⟨z3o,0,none⟩))] w₀ fun e w'=>∃ zmE : Option Addr,∃ zmF : Nat,∃ zmG : Option Addr,∃ zmH : Nat,∃ zmI : Option Addr,∃ zmJ : Nat,∃ zi0 : List (Snetwork_exit × ((Nat × (Option Addr × Nat)) × Sport_Port)),e = .returned (.tuple #[]) ∧ (dat zi0 = r.2.2.2) ∧ Hp (fps [stb z3o 81 [(.slice z4c zl.fModules.length z4d),(.slice z4e zl.fChannels.length z4f),(.slice z4g zl.fSwitches.length z4h),(.slice z4i zl.fLinks.length z4j),(.slice z4k zl.fVLs.length z4l),(.slice z4m zl.fHealth.length z4n),(.slice z4o zl.fCauses.length z4p),(.slice z4q zl.fVersions.length z4r),(.slice z4s z2V.length z4t),(.slice z3B z2j.length z3C),(.map (some z25)),(.slice z65 z2r.length z66),(.slice z2H z1d.length z2I),(.slice z2s z19.length z2t)],y1e z25 (fun x=>Value.agg (y1Q x).toArray) Value.pointer (y1m z4V),y1l z15 z4V,row (.slice z65 z2r.length z66) 113 7 (z2r.flatMap yx),row (.slice z2H z1d.length z2I) 50 3 (z1d.flatMap e50),row (.slice z2s z19.length z2t) 50 3 (z19.flatMap e50)]) w₀ w' [stb z3o 81 [(.slice z4c zl.fModules.length z4d),(.slice z4e zl.fChannels.length z4f),(.slice z4g zl.fSwitches.length z4h),(.slice z4i zl.fLinks.length z4j),(.slice z4k zl.fVLs.length z4l),(.slice z4m zl.fHealth.length z4n),(.slice z4o zl.fCauses.length z4p),(.slice z4q zl.fVersions.length z4r),(.slice z4s z2V.length z4t),(.slice z3B z2j.length z3C),(.map (some z25)),(.slice zmE r.1.length zmF),(.slice zmG r.2.1.length zmH),(.slice zmI r.2.2.1.length zmJ)],row (.slice zmE r.1.length zmF) 113 7 (r.1.flatMap yx),row (.slice zmG r.2.1.length zmH) 50 3 (r.2.1.flatMap e50),row (.slice zmI r.2.2.1.length zmJ) 50 3 (r.2.2.1.flatMap e50),y1e z25 (fun x=>Value.agg (y1Q x).toArray) Value.pointer (y1m zi0),y1l z15 zi0]:=by
  unfold y2H at h
  refine Calls.yl (vs:=[(.pointer (some ⟨z3o,0,none⟩))]) (pre:=[stb z3o 81 [(.slice z4c zl.fModules.length z4d),(.slice z4e zl.fChannels.length z4f),(.slice z4g zl.fSwitches.length z4h),(.slice z4i zl.fLinks.length z4j),(.slice z4k zl.fVLs.length z4l),(.slice z4m zl.fHealth.length z4n),(.slice z4o zl.fCauses.length z4p),(.slice z4q zl.fVersions.length z4r),(.slice z4s z2V.length z4t),(.slice z3B z2j.length z3C),(.map (some z25)),(.slice z65 z2r.length z66),(.slice z2H z1d.length z2I),(.slice z2s z19.length z2t)],y1e z25 (fun x=>Value.agg (y1Q x).toArray) Value.pointer (y1m z4V),y1l z15 z4V,row (.slice z65 z2r.length z66) 113 7 (z2r.flatMap yx),row (.slice z2H z1d.length z2I) 50 3 (z1d.flatMap e50),row (.slice z2s z19.length z2t) 50 3 (z19.flatMap e50)]) (env:=[(0,(.pointer (some ⟨z3o,0,none⟩)))]) Try.func26 rfl Try.ntmps26 rfl (hown) rfl ?_
  refine WC.b ?_
  obtain ⟨z6,zrR,h⟩:=zf h
  refine WC.a (WL.pu rfl ?_)
  refine WL.a (d:=6) rfl rfl rfl (yt rfl) ?_
  refine WL.a (d:=7) rfl rfl rfl (ya y7H rfl rfl) ?_
  refine WL.a (d:=8) rfl rfl rfl (y5m Try.underlying111 rfl rfl) ?_
  refine WL.y4H (dd:=9) rfl rfl rfl (zy (l:=[.tmp 8]) Try.call39 (.cons rfl .nil)) (.cons .here (.cons .h2 .nil)) (cc hz (.cons .here (.cons .h2 .nil)) fun w pz ho=>y5O _ _ _ _ _ _ _ _ _ _ _ _ _ _ _ _ _ _ _ zrR w pz  ho) ?_
  rintro z76 z77 _
  refine WL.a (d:=10) rfl rfl rfl (y8p Try.underlying113 rfl rfl) ?_
  refine WL.new (dd:=2) rfl rfl rfl (y2u (cs:=[(.int .i64 0),(.int .i64 0),(.int .i64 0),(.int .i64 0),(.int .i64 0),(.int .i64 0),(.int .i64 0)]) zjA rfl) ?_
  intro zdl _
  refine WL.y1o rfl rfl (y22 zdZ rfl rfl rfl .here rfl rfl rfl) ?_
  refine WL.nil (WX.a (WC.b ?_))
  obtain ⟨z2k,zrS,h⟩:=zf h
  obtain ⟨zrT,h⟩:=yj h
  obtain ⟨zmK,h⟩:=yj h
  obtain ⟨z1S,zrU,h⟩:=zf h
  refine WC.yZ (fun i=>[3,15].contains i) [stbp zdl 113 [(0,(.int .i64 z6.1.fTime)),(3,(.int .i64 z6.1.fSent))],stbp z3o 81 [(9,(.slice z3B z2j.length z3C))]] rfl ?_
  refine WD.a (i:=0) (d:=12) (by kernel_rfl) rfl (z2 (by kernel_rfl)) (z3 (by kernel_rfl)) rfl rfl rfl (fun _=>q_m rfl) ?_
  refine WD.a (i:=1) (d:=13) (by kernel_rfl) rfl (z2 (by kernel_rfl)) (z3 (by kernel_rfl)) rfl rfl rfl (fun _=>ya y4v rfl rfl) ?_
  refine WD.e (i:=2) (d:=14) (by kernel_rfl) rfl (z2 (by kernel_rfl)) (z3 (by kernel_rfl)) rfl rfl rfl (y1O (cs:=[(.int .i64 z6.1.fHop.fNode),(.int .i64 z6.1.fHop.fNext),(.int .i64 z6.1.fHop.fLink)]) y6P rfl rfl (rd_sub (s:=3) .here rfl)) ?_
  refine WD.a (i:=4) (d:=16) (by kernel_rfl) rfl (z2 (by kernel_rfl)) (z3 (by kernel_rfl)) rfl rfl rfl (fun _=>ya y64 rfl rfl) ?_
  refine WD.stable (i:=5) (d:=17) (by kernel_rfl) rfl (z2 (by kernel_rfl)) (z3 (by kernel_rfl)) rfl rfl rfl (Sin.wk (.cons .here (.cons .here .nil)) (.stb (.cons rfl (.cons rfl .nil)) (.stb (.cons rfl .nil) .nil))) (yb yf rfl (y6J .here (.head _))) ?_
  refine WD.a (i:=6) (d:=18) (by kernel_rfl) rfl (z2 (by kernel_rfl)) (z3 (by kernel_rfl)) rfl rfl rfl (fun _=>q_m rfl) ?_
  refine WD.a (i:=7) (d:=19) (by kernel_rfl) rfl (z2 (by kernel_rfl)) (z3 (by kernel_rfl)) rfl rfl rfl (fun _=>yt rfl) ?_
  refine WD.a (i:=8) (d:=20) (by kernel_rfl) rfl (z2 (by kernel_rfl)) (z3 (by kernel_rfl)) rfl rfl rfl (fun _=>ya y91 rfl rfl) ?_
  refine WD.stable (i:=9) (d:=21) (by kernel_rfl) rfl (z2 (by kernel_rfl)) (z3 (by kernel_rfl)) rfl rfl rfl (Sin.wk (.cons .here (.cons .here .nil)) (.stb (.cons rfl (.cons rfl .nil)) (.stb (.cons rfl .nil) .nil))) (yb y92 rfl (y6J .h1 (.head _))) ?_
  refine WD.a (i:=10) (d:=22) (by kernel_rfl) rfl (z2 (by kernel_rfl)) (z3 (by kernel_rfl)) rfl rfl rfl (fun _=>ya y4u rfl rfl) ?_
  refine WD.stable (i:=11) (d:=23) (by kernel_rfl) rfl (z2 (by kernel_rfl)) (z3 (by kernel_rfl)) rfl rfl rfl (Sin.wk (.cons .here (.cons .here .nil)) (.stb (.cons rfl (.cons rfl .nil)) (.stb (.cons rfl .nil) .nil))) (yb yf rfl (y6J .here (.tail _ (.head _)))) ?_
  refine WD.znth (j:=12) (dd:=24) (by kernel_rfl) rfl (z2 (by kernel_rfl)) (z3 (by kernel_rfl)) rfl rfl (Z:=Z) (Pr:=(fun r x=>r = e53 x)) y41 rfl rfl zhZ zrT ?_
  rintro zx1 zx2 zrV zx3 rfl
  refine WD.a (i:=13) (d:=25) (by kernel_rfl) rfl (z2 (by kernel_rfl)) (z3 (by kernel_rfl)) rfl rfl rfl (fun _=>ya y5G rfl rfl) ?_
  refine WD.stable (i:=14) (d:=26) (by kernel_rfl) rfl (z2 (by kernel_rfl)) (z3 (by kernel_rfl)) rfl rfl rfl (Sin.wk (.cons .here (.cons .here .nil)) (.stb (.cons rfl (.cons rfl .nil)) (.stb (.cons rfl .nil) .nil))) (yb yf rfl (y2e hz.pv zrV rfl)) ?_
  refine WD.call1 (i:=3) (dd:=15) rfl (by kernel_rfl) rfl rfl rfl (.inl ⟨rfl,fun _=>(Sin.wk (.cons .h2 (.cons .h2 .nil)) (.stb (.cons rfl (.cons rfl .nil)) (.stb (.cons rfl .nil) .nil)))⟩) (zy (l:=[.tmp 12,.tmp 14]) Try.call40 (.cons rfl (.cons rfl .nil))) (.cons .h3 (.cons .h3 .nil)) (ccl hz (.cons .h3 (.cons .h3 .nil)) (.cons .h1 (.cons .h1 (.cons .h1 (.cons .h1 .nil)))) fun w pz ho la=>y78 _ _ _ _ _ _ _ _ _ _ _ _ _ _ _ _ _ _ _ _ _ _ _ _ _ _ _ _ _ _ _ _ _ _ _ _ _ _ _ zrS w pz ((zmv.mono (Zle.left _ _)).weak (fun _ _ h=>y1E (Zle.left _ _) h)) ((zmw.mono (Zle.left _ _)).weak (fun _ _ h=>y1L (Zle.left _ _) h)) (zmx.mono (Zle.left _ _)) (zmy.mono (Zle.left _ _)) ((zmz.mono (Zle.left _ _)).weak (fun _ _ h=>y1F (Zle.left _ _) h)) (zmA.mono (Zle.left _ _)) ((zmB.mono (Zle.left _ _)).weak (fun _ _ h=>y1M (Zle.left _ _) h)) (zmC.mono (Zle.left _ _)) ((zmD.mono (Zle.left _ _)).weak (fun _ _ h=>y3I (Zle.left _ _) h)) (zhZ.mono (Zle.left _ _)) zrQ (ZA.row (la _ (.tail _ (.head _)) _) (RR.y17 (enc:=yx) (fun _=>rfl) _) ⟨w,pz.1⟩) (ZA.row (la _ (.tail _ (.tail _ (.head _))) _) (RR.y17 (enc:=e50) (fun _=>rfl) _) ⟨w,pz.1⟩) (ZA.row (la _ (.tail _ (.tail _ (.tail _ (.head _)))) _) (RR.y17 (enc:=e50) (fun _=>rfl) _) ⟨w,pz.1⟩) ((la _ (.head _) _).stb) ho) ?_
  rintro z78 zdm
  refine WD.gh (fun _=>Hp.y8N zdm zmK .h1 (fun g=>stb g.1 143 [(.int .i64 (((yw z2k (⟨z6.1.fHop.fNode,z6.1.fHop.fLink⟩ : Snetwork_exit) default).fNumbers).fSlow)),(.int .i64 (((yw z2k (⟨z6.1.fHop.fNode,z6.1.fHop.fLink⟩ : Snetwork_exit) default).fNumbers).fDelay)),(.int .i64 (((yw z2k (⟨z6.1.fHop.fNode,z6.1.fHop.fLink⟩ : Snetwork_exit) default).fNumbers).fStore)),(.int .i64 ((yw z2k (⟨z6.1.fHop.fNode,z6.1.fHop.fLink⟩ : Snetwork_exit) default).fNow)),(.int .i64 ((yw z2k (⟨z6.1.fHop.fNode,z6.1.fHop.fLink⟩ : Snetwork_exit) default).fLast)),(.slice g.2.1 (((yw z2k (⟨z6.1.fHop.fNode,z6.1.fHop.fLink⟩ : Snetwork_exit) default).fFrames).length) g.2.2)] :: row (.slice g.2.1 (((yw z2k (⟨z6.1.fHop.fNode,z6.1.fHop.fLink⟩ : Snetwork_exit) default).fFrames).length) g.2.2) 146 2 (((yw z2k (⟨z6.1.fHop.fNode,z6.1.fHop.fLink⟩ : Snetwork_exit) default).fFrames).flatMap y1Y) :: [y1l z15 (y4a (⟨z6.1.fHop.fNode,z6.1.fHop.fLink⟩ : Snetwork_exit) z78),y1e z25 (fun x=>Value.agg (y1Q x).toArray) Value.pointer (y1m z78),stb zdl 113 [(.int .i64 z6.1.fTime),(.int .i64 z6.1.fIn_),(.int .i64 z6.1.fVl),(.int .i64 z6.1.fSent),(.int .i64 z6.1.fHop.fNode),(.int .i64 z6.1.fHop.fNext),(.int .i64 z6.1.fHop.fLink)],stb z3o 81 [(.slice z4c zl.fModules.length z4d),(.slice z4e zl.fChannels.length z4f),(.slice z4g zl.fSwitches.length z4h),(.slice z4i zl.fLinks.length z4j),(.slice z4k zl.fVLs.length z4l),(.slice z4m zl.fHealth.length z4n),(.slice z4o zl.fCauses.length z4p),(.slice z4q zl.fVersions.length z4r),(.slice z4s z2V.length z4t),(.slice z3B z2j.length z3C),(.map (some z25)),(.slice z76 z6.2.length z77),(.slice z2H z1d.length z2I),(.slice z2s z19.length z2t)],row (.slice z76 z6.2.length z77) 113 7 (z6.2.flatMap yx),row (.slice z2H z1d.length z2I) 50 3 (z1d.flatMap e50),row (.slice z2s z19.length z2t) 50 3 (z19.flatMap e50)]) (fun _=>rfl)) ?_
  rintro ⟨z80,zx4,zx5⟩ zmL
  refine WD.repin (i:=15) rfl (u:=(.pointer (some ⟨z80,0,none⟩))) (congrArg Value.pointer zmL) ?_
  refine WD.call2 (i:=15) (dd:=27) rfl (by kernel_rfl) rfl rfl rfl (.inl ⟨rfl,fun _ _=>(Sin.wk (.cons .h4 (.cons .h4 .nil)) (.stb (.cons rfl (.cons rfl .nil)) (.stb (.cons rfl .nil) .nil)))⟩) (zy (l:=[.tmp 15,.tmp 17,.tmp 26]) Try.call41 (.cons rfl (.cons rfl (.cons rfl .nil)))) (.cons .here (.cons .here .nil)) (cc hz (.cons .here (.cons .here .nil)) fun w pz ho=>y7t _ _ _ _ _ _ _ _ zrU w pz  ho) ?_
  rintro z9r z9s _
  refine WD.ghL (fun _ h=>Hp.objsClose (els:=z15) (lg:=z78) (k:=(⟨z6.1.fHop.fNode,z6.1.fHop.fLink⟩ : Snetwork_exit)) (b:=z80) (g:=(z9r,z9s)) (x:=z1S.2.2) (.cons .here (.cons .here (.cons .here .nil))) h) ?_
  refine WD.ghL (M:=[y1e z25 (fun x=>Value.agg (y1Q x).toArray) Value.pointer (y1m (y12 z78 (⟨z6.1.fHop.fNode,z6.1.fHop.fLink⟩ : Snetwork_exit) ((z80,(z9r,z9s)),z1S.2.2))),y1l z15 (y12 z78 (⟨z6.1.fHop.fNode,z6.1.fHop.fLink⟩ : Snetwork_exit) ((z80,(z9r,z9s)),z1S.2.2)),stb zdl 113 [(.int .i64 z6.1.fTime),(.int .i64 z6.1.fIn_),(.int .i64 z6.1.fVl),(.int .i64 z6.1.fSent),(.int .i64 z6.1.fHop.fNode),(.int .i64 z6.1.fHop.fNext),(.int .i64 z6.1.fHop.fLink)],stb z3o 81 [(.slice z4c zl.fModules.length z4d),(.slice z4e zl.fChannels.length z4f),(.slice z4g zl.fSwitches.length z4h),(.slice z4i zl.fLinks.length z4j),(.slice z4k zl.fVLs.length z4l),(.slice z4m zl.fHealth.length z4n),(.slice z4o zl.fCauses.length z4p),(.slice z4q zl.fVersions.length z4r),(.slice z4s z2V.length z4t),(.slice z3B z2j.length z3C),(.map (some z25)),(.slice z76 z6.2.length z77),(.slice z2H z1d.length z2I),(.slice z2s z19.length z2t)],row (.slice z76 z6.2.length z77) 113 7 (z6.2.flatMap yx),row (.slice z2H z1d.length z2I) 50 3 (z1d.flatMap e50),row (.slice z2s z19.length z2t) 50 3 (z19.flatMap e50)]) (fun _ h=>Hp.y8o .h1 (y9n zdm zmK zmL _ _) h) ?_
  refine WD.a (i:=16) (d:=11) (by kernel_rfl) rfl (z2 (by kernel_rfl)) (z3 (by kernel_rfl)) rfl rfl rfl (fun _=>q_m rfl) ?_
  refine WD.a (i:=17) (d:=28) (by kernel_rfl) rfl (z2 (by kernel_rfl)) (z3 (by kernel_rfl)) rfl rfl rfl (fun _=>y4G rfl rfl) ?_
  refine WD.a (i:=18) (d:=29) (by kernel_rfl) rfl (z2 (by kernel_rfl)) (z3 (by kernel_rfl)) rfl rfl rfl (fun _=>y4G rfl rfl) ?_
  refine WD.a (i:=19) (d:=3) (by kernel_rfl) rfl (z2 (by kernel_rfl)) (z3 (by kernel_rfl)) rfl rfl rfl (fun _=>q_z rfl) ?_
  refine WD.a (i:=20) (d:=4) (by kernel_rfl) rfl (z2 (by kernel_rfl)) (z3 (by kernel_rfl)) rfl rfl rfl (fun _=>q_z rfl) ?_
  refine WD.done (by kernel_rfl) ?_
  refine WX.a (WC.b (WC.b (WC.a (WL.pu rfl (WL.pu rfl (WL.nil (WX.a ?_)))))))
  refine WC.cond rfl (fun zi1=>?_) (fun zi1=>?_)
  · replace h:=ym h zi1
    refine WC.b ?_
    obtain ⟨zrW,h⟩:=yj h
    refine WC.yZ (fun i=>[14,17].contains i) [] rfl ?_
    refine WD.a (i:=0) (d:=32) (by kernel_rfl) rfl (z2 (by kernel_rfl)) (z3 (by kernel_rfl)) rfl rfl rfl (fun _=>q_m rfl) ?_
    refine WD.a (i:=1) (d:=33) (by kernel_rfl) rfl (z2 (by kernel_rfl)) (z3 (by kernel_rfl)) rfl rfl rfl (fun _=>q_m rfl) ?_
    refine WD.a (i:=2) (d:=34) (by kernel_rfl) rfl (z2 (by kernel_rfl)) (z3 (by kernel_rfl)) rfl rfl rfl (fun _=>yt rfl) ?_
    refine WD.a (i:=3) (d:=35) (by kernel_rfl) rfl (z2 (by kernel_rfl)) (z3 (by kernel_rfl)) rfl rfl rfl (fun _=>ya y7K rfl rfl) ?_
    refine WD.e (i:=4) (d:=36) (by kernel_rfl) rfl (z2 (by kernel_rfl)) (z3 (by kernel_rfl)) rfl rfl rfl (yb y6T rfl (ye .h3 rfl)) ?_
    refine WD.a (i:=5) (d:=37) (by kernel_rfl) rfl (z2 (by kernel_rfl)) (z3 (by kernel_rfl)) rfl rfl rfl (fun _=>ya y4u rfl rfl) ?_
    refine WD.e (i:=6) (d:=38) (by kernel_rfl) rfl (z2 (by kernel_rfl)) (z3 (by kernel_rfl)) rfl rfl rfl (yb yf rfl (ye .h2 rfl)) ?_
    refine WD.a (i:=7) (d:=39) (by kernel_rfl) rfl (z2 (by kernel_rfl)) (z3 (by kernel_rfl)) rfl rfl rfl (fun _=>ya y4v rfl rfl) ?_
    refine WD.a (i:=8) (d:=40) (by kernel_rfl) rfl (z2 (by kernel_rfl)) (z3 (by kernel_rfl)) rfl rfl rfl (fun _=>ya y3q rfl rfl) ?_
    refine WD.e (i:=9) (d:=41) (by kernel_rfl) rfl (z2 (by kernel_rfl)) (z3 (by kernel_rfl)) rfl rfl rfl (yb yf rfl (ye .h2 rfl)) ?_
    refine WD.a (i:=10) (d:=42) (by kernel_rfl) rfl (z2 (by kernel_rfl)) (z3 (by kernel_rfl)) rfl rfl rfl (fun _=>ya y64 rfl rfl) ?_
    refine WD.e (i:=11) (d:=43) (by kernel_rfl) rfl (z2 (by kernel_rfl)) (z3 (by kernel_rfl)) rfl rfl rfl (yb yf rfl (ye .h2 rfl)) ?_
    refine WD.a (i:=12) (d:=44) (by kernel_rfl) rfl (z2 (by kernel_rfl)) (z3 (by kernel_rfl)) rfl rfl rfl (fun _=>y1B (v:=(.agg #[(.int .i64 z6.1.fSent),(.int .i64 z6.1.fHop.fNode),(.int .i64 z6.1.fTime)])) (Eos.parts (l:=[.tmp 38,.tmp 41,.tmp 43]) (.cons rfl (.cons rfl (.cons rfl .nil))) [0,1,2]) (fun _=>by kernel_rfl)) ?_
    refine WD.new (i:=13) (dd:=45) rfl (by kernel_rfl) rfl rfl rfl (y15 (cs:=([(⟨z6.1.fSent,z6.1.fHop.fNode,z6.1.fTime⟩ : Sapi_Come)] : List Sapi_Come).flatMap e50) y16 (Eos.parts (l:=[.tmp 44]) (.cons rfl .nil) [0]) (fun _=>by kernel_rfl) rfl (by unfold maxLen; omega)) (fun h'=>absurd h' (by decide)) ?_
    intro zx6 _
    refine WD.old (i:=14) (dd:=46) rfl (by kernel_rfl) rfl rfl rfl rfl (fun _=>(Sin.of .nil)) (y4I (enc:=e50) (l1:=z19) (l2:=([(⟨z6.1.fSent,z6.1.fHop.fNode,z6.1.fTime⟩ : Sapi_Come)] : List Sapi_Come)) y16 rfl rfl .h7 (fun _=>rfl) rfl rfl (y57 .here) (y4T e50_oc _) zrW) ?_
    rintro ⟨zmM,zmN⟩ _
    refine WD.a (i:=15) (d:=47) (by kernel_rfl) rfl (z2 (by kernel_rfl)) (z3 (by kernel_rfl)) rfl rfl rfl (fun _=>yt rfl) ?_
    refine WD.a (i:=16) (d:=48) (by kernel_rfl) rfl (z2 (by kernel_rfl)) (z3 (by kernel_rfl)) rfl rfl rfl (fun _=>ya y7K rfl rfl) ?_
    refine WD.y36 (i:=17) rfl (by kernel_rfl) rfl rfl rfl (by kernel_rfl) (y3H (ds:=[(.slice z4c zl.fModules.length z4d),(.slice z4e zl.fChannels.length z4f),(.slice z4g zl.fSwitches.length z4h),(.slice z4i zl.fLinks.length z4j),(.slice z4k zl.fVLs.length z4l),(.slice z4m zl.fHealth.length z4n),(.slice z4o zl.fCauses.length z4p),(.slice z4q zl.fVersions.length z4r),(.slice z4s z2V.length z4t),(.slice z3B z2j.length z3C),(.map (some z25)),(.slice z76 z6.2.length z77),(.slice z2H z1d.length z2I),(.slice zmM ((z19 ++ ([(⟨z6.1.fSent,z6.1.fHop.fNode,z6.1.fTime⟩ : Sapi_Come)] : List Sapi_Come)).length) zmN)]) y94 rfl rfl rfl rfl rfl .h5 rfl rfl) ?_
    refine WD.done (by kernel_rfl) ?_
    refine WX.a (WC.ret (WX.yi ?_))
    obtain rfl:=Option.some.inj h
    refine WX.yh Try.results26 .nil (fun w hw=>?_)
    exact ⟨z76,z77,z2H,z2I,zmM,zmN,(y12 z78 (⟨z6.1.fHop.fNode,z6.1.fHop.fLink⟩ : Snetwork_exit) ((z80,(z9r,z9s)),z1S.2.2)),y49,(y61 zdm _ _ _),hw.sub (.cons .here (.cons .h5 (.cons .h5 (.cons .here (.cons .h1 (.cons .h1 .nil))))))⟩
  · replace h:=yn h zi1
    refine WC.skip (WX.a ?_)
    obtain ⟨zeX,zrX,h⟩:=y19 h
    refine WC.y4k (fun (z4U : List Sapi_Come) (zaU : Option Addr) (zaV : Nat)=>(zeX z4U = some r)) (fun (z4U : List Sapi_Come) (zaU : Option Addr) (zaV : Nat)=>[(0,(.pointer (some ⟨z3o,0,none⟩))),(2,(.pointer (some ⟨zdl,0,none⟩))),(3,(.int .i64 z1S.1))]) (fun (z4U : List Sapi_Come) (zaU : Option Addr) (zaV : Nat)=>[row (.slice z76 z6.2.length z77) 113 7 (z6.2.flatMap yx),row (.slice zaU z4U.length zaV) 50 3 (z4U.flatMap e50),row (.slice z2s z19.length z2t) 50 3 (z19.flatMap e50),stb z3o 81 [(.slice z4c zl.fModules.length z4d),(.slice z4e zl.fChannels.length z4f),(.slice z4g zl.fSwitches.length z4h),(.slice z4i zl.fLinks.length z4j),(.slice z4k zl.fVLs.length z4l),(.slice z4m zl.fHealth.length z4n),(.slice z4o zl.fCauses.length z4p),(.slice z4q zl.fVersions.length z4r),(.slice z4s z2V.length z4t),(.slice z3B z2j.length z3C),(.map (some z25)),(.slice z76 z6.2.length z77),(.slice zaU z4U.length zaV),(.slice z2s z19.length z2t)],stb zdl 113 [(.int .i64 z6.1.fTime),(.int .i64 z6.1.fIn_),(.int .i64 z6.1.fVl),(.int .i64 z6.1.fSent),(.int .i64 z6.1.fHop.fNode),(.int .i64 z6.1.fHop.fNext),(.int .i64 z6.1.fHop.fLink)],y1e z25 (fun x=>Value.agg (y1Q x).toArray) Value.pointer (y1m (y12 z78 (⟨z6.1.fHop.fNode,z6.1.fHop.fLink⟩ : Snetwork_exit) ((z80,(z9r,z9s)),z1S.2.2))),y1l z15 (y12 z78 (⟨z6.1.fHop.fNode,z6.1.fHop.fLink⟩ : Snetwork_exit) ((z80,(z9r,z9s)),z1S.2.2))]) ?_ ?_
    · skip
      refine WC.b ?_
      refine WC.yZ (fun i=>[].contains i) [] rfl ?_
      refine WD.a (i:=0) (d:=49) (by kernel_rfl) rfl (z2 (by kernel_rfl)) (z3 (by kernel_rfl)) rfl rfl rfl (fun _=>ya y4v rfl rfl) ?_
      refine WD.a (i:=1) (d:=50) (by kernel_rfl) rfl (z2 (by kernel_rfl)) (z3 (by kernel_rfl)) rfl rfl rfl (fun _=>ya y4Y rfl rfl) ?_
      refine WD.e (i:=2) (d:=51) (by kernel_rfl) rfl (z2 (by kernel_rfl)) (z3 (by kernel_rfl)) rfl rfl rfl (yb yf rfl (ye .h2 rfl)) ?_
      refine WD.a (i:=3) (d:=52) (by kernel_rfl) rfl (z2 (by kernel_rfl)) (z3 (by kernel_rfl)) rfl rfl rfl (fun _=>q_m rfl) ?_
      refine WD.a (i:=4) (d:=53) (by kernel_rfl) rfl (z2 (by kernel_rfl)) (z3 (by kernel_rfl)) rfl rfl rfl (fun _=>yt rfl) ?_
      refine WD.a (i:=5) (d:=54) (by kernel_rfl) rfl (z2 (by kernel_rfl)) (z3 (by kernel_rfl)) rfl rfl rfl (fun _=>ya y5H rfl rfl) ?_
      refine WD.a (i:=6) (d:=55) (by kernel_rfl) rfl (z2 (by kernel_rfl)) (z3 (by kernel_rfl)) rfl rfl rfl (fun _=>ya y47 rfl rfl) ?_
      refine WD.e (i:=7) (d:=56) (by kernel_rfl) rfl (z2 (by kernel_rfl)) (z3 (by kernel_rfl)) rfl rfl rfl (yb y48 rfl (ye .h3 rfl)) ?_
      refine WD.a (i:=8) (d:=57) (by kernel_rfl) rfl (z2 (by kernel_rfl)) (z3 (by kernel_rfl)) rfl rfl rfl (fun _=>yW Try.underlying22 rfl) ?_
      refine WD.a (i:=9) (d:=58) (by kernel_rfl) rfl (z2 (by kernel_rfl)) (z3 (by kernel_rfl)) rfl rfl rfl (fun _=>y3n rfl rfl) ?_
      refine WD.done (by kernel_rfl) ?_
      refine WX.a ?_
      refine WC.cond rfl (fun zi2=>?_) (fun zi2=>?_)
      · replace h:=ym h zi2
        obtain ⟨zrY,h⟩:=yj h
        refine WC.yZ (fun i=>[13,16].contains i) [] rfl ?_
        refine WD.a (i:=0) (d:=59) (by kernel_rfl) rfl (z2 (by kernel_rfl)) (z3 (by kernel_rfl)) rfl rfl rfl (fun _=>q_m rfl) ?_
        refine WD.a (i:=1) (d:=60) (by kernel_rfl) rfl (z2 (by kernel_rfl)) (z3 (by kernel_rfl)) rfl rfl rfl (fun _=>q_m rfl) ?_
        refine WD.a (i:=2) (d:=61) (by kernel_rfl) rfl (z2 (by kernel_rfl)) (z3 (by kernel_rfl)) rfl rfl rfl (fun _=>yt rfl) ?_
        refine WD.a (i:=3) (d:=62) (by kernel_rfl) rfl (z2 (by kernel_rfl)) (z3 (by kernel_rfl)) rfl rfl rfl (fun _=>ya y7L rfl rfl) ?_
        refine WD.e (i:=4) (d:=63) (by kernel_rfl) rfl (z2 (by kernel_rfl)) (z3 (by kernel_rfl)) rfl rfl rfl (yb y6T rfl (ye .h3 rfl)) ?_
        refine WD.a (i:=5) (d:=64) (by kernel_rfl) rfl (z2 (by kernel_rfl)) (z3 (by kernel_rfl)) rfl rfl rfl (fun _=>ya y4u rfl rfl) ?_
        refine WD.e (i:=6) (d:=65) (by kernel_rfl) rfl (z2 (by kernel_rfl)) (z3 (by kernel_rfl)) rfl rfl rfl (yb yf rfl (ye .h2 rfl)) ?_
        refine WD.a (i:=7) (d:=66) (by kernel_rfl) rfl (z2 (by kernel_rfl)) (z3 (by kernel_rfl)) rfl rfl rfl (fun _=>ya y4v rfl rfl) ?_
        refine WD.a (i:=8) (d:=67) (by kernel_rfl) rfl (z2 (by kernel_rfl)) (z3 (by kernel_rfl)) rfl rfl rfl (fun _=>ya y4Y rfl rfl) ?_
        refine WD.e (i:=9) (d:=68) (by kernel_rfl) rfl (z2 (by kernel_rfl)) (z3 (by kernel_rfl)) rfl rfl rfl (yb yf rfl (ye .h2 rfl)) ?_
        refine WD.a (i:=10) (d:=69) (by kernel_rfl) rfl (z2 (by kernel_rfl)) (z3 (by kernel_rfl)) rfl rfl rfl (fun _=>q_m rfl) ?_
        refine WD.a (i:=11) (d:=70) (by kernel_rfl) rfl (z2 (by kernel_rfl)) (z3 (by kernel_rfl)) rfl rfl rfl (fun _=>y1B (v:=(.agg #[(.int .i64 z6.1.fSent),(.int .i64 z6.1.fHop.fNext),(.int .i64 z1S.1)])) (Eos.parts (l:=[.tmp 65,.tmp 68,.tmp 69]) (.cons rfl (.cons rfl (.cons rfl .nil))) [0,1,2]) (fun _=>by kernel_rfl)) ?_
        refine WD.new (i:=12) (dd:=71) rfl (by kernel_rfl) rfl rfl rfl (y15 (cs:=([(⟨z6.1.fSent,z6.1.fHop.fNext,z1S.1⟩ : Sapi_Come)] : List Sapi_Come).flatMap e50) y16 (Eos.parts (l:=[.tmp 70]) (.cons rfl .nil) [0]) (fun _=>by kernel_rfl) rfl (by unfold maxLen; omega)) (fun h'=>absurd h' (by decide)) ?_
        intro zx7 _
        refine WD.old (i:=13) (dd:=72) rfl (by kernel_rfl) rfl rfl rfl rfl (fun _=>(Sin.of .nil)) (y4I (enc:=e50) (l1:=z1d) (l2:=([(⟨z6.1.fSent,z6.1.fHop.fNext,z1S.1⟩ : Sapi_Come)] : List Sapi_Come)) y16 rfl rfl .h6 (fun _=>rfl) rfl rfl (y57 .here) (y4T e50_oc _) zrY) ?_
        rintro ⟨zmO,zmP⟩ _
        refine WD.a (i:=14) (d:=73) (by kernel_rfl) rfl (z2 (by kernel_rfl)) (z3 (by kernel_rfl)) rfl rfl rfl (fun _=>yt rfl) ?_
        refine WD.a (i:=15) (d:=74) (by kernel_rfl) rfl (z2 (by kernel_rfl)) (z3 (by kernel_rfl)) rfl rfl rfl (fun _=>ya y7L rfl rfl) ?_
        refine WD.y36 (i:=16) rfl (by kernel_rfl) rfl rfl rfl (by kernel_rfl) (y3H (ds:=[(.slice z4c zl.fModules.length z4d),(.slice z4e zl.fChannels.length z4f),(.slice z4g zl.fSwitches.length z4h),(.slice z4i zl.fLinks.length z4j),(.slice z4k zl.fVLs.length z4l),(.slice z4m zl.fHealth.length z4n),(.slice z4o zl.fCauses.length z4p),(.slice z4q zl.fVersions.length z4r),(.slice z4s z2V.length z4t),(.slice z3B z2j.length z3C),(.map (some z25)),(.slice z76 z6.2.length z77),(.slice zmO ((z1d ++ ([(⟨z6.1.fSent,z6.1.fHop.fNext,z1S.1⟩ : Sapi_Come)] : List Sapi_Come)).length) zmP),(.slice z2s z19.length z2t)]) y94 rfl rfl rfl rfl rfl .h5 rfl rfl) ?_
        refine WD.done (by kernel_rfl) ?_
        exact WX.mid (G:=List Sapi_Come × Option Addr × Nat) ⟨(z1d ++ ([(⟨z6.1.fSent,z6.1.fHop.fNext,z1S.1⟩ : Sapi_Come)] : List Sapi_Come)),zmO,zmP⟩ h (.cons rfl (.cons rfl (.cons rfl .nil))) (.cons .h6 (.cons .h1 (.cons .h5 (.cons .here (.cons .h3 (.cons .h1 (.cons .h1 .nil)))))))
      · replace h:=yn h zi2
        refine WC.skip ?_
        exact WX.mid (G:=List Sapi_Come × Option Addr × Nat) ⟨z1d,z2H,z2I⟩ h (.cons rfl (.cons rfl (.cons rfl .nil))) (.cons .h4 (.cons .h4 (.cons .h4 (.cons .h3 (.cons .h2 (.cons .here (.cons .here .nil)))))))
    · rintro z4U zaU zaV h
      replace h:=(zrX z4U).symm.trans h
      obtain ⟨zmu,zrZ,h⟩:=zf h
      refine WC.a (WL.pu rfl ?_)
      refine WL.a (d:=76) rfl rfl rfl (ya y4v rfl rfl) ?_
      refine WL.a (d:=77) rfl rfl rfl (ya y4Y rfl rfl) ?_
      refine WL.a (d:=78) rfl rfl rfl (yb yf rfl (ye .h4 rfl)) ?_
      refine WL.pu rfl ?_
      refine WL.a (d:=80) rfl rfl rfl (ya y4v rfl rfl) ?_
      refine WL.a (d:=81) rfl rfl rfl (ya y6R rfl rfl) ?_
      refine WL.a (d:=82) rfl rfl rfl (yb yf rfl (ye .h4 rfl)) ?_
      refine WL.a (d:=83) rfl rfl rfl (ya y4u rfl rfl) ?_
      refine WL.a (d:=84) rfl rfl rfl (yb yf rfl (ye .h4 rfl)) ?_
      refine WL.y4H (dd:=85) rfl rfl rfl (zy (l:=[.tmp 75,.tmp 78,.tmp 79,.tmp 82,.tmp 84]) Try.call25 (.cons rfl (.cons rfl (.cons rfl (.cons rfl (.cons rfl .nil)))))) (.cons .h3 (.cons .h4 (.cons .h4 (.cons .here .nil)))) (ccl hz (.cons .h3 (.cons .h4 (.cons .h4 (.cons .here .nil)))) (.cons .here (.cons .here .nil)) fun w pz ho la=>y4r _ _ _ _ _ _ _ _ _ _ _ _ _ _ _ _ _ _ _ _ _ _ _ _ _ _ _ _ _ _ _ _ _ _ _ _ _ _ _ _ _ _ zrZ w pz ((zmv.mono (Zle.left _ _)).weak (fun _ _ h=>y1E (Zle.left _ _) h)) ((zmw.mono (Zle.left _ _)).weak (fun _ _ h=>y1L (Zle.left _ _) h)) (zmx.mono (Zle.left _ _)) (zmy.mono (Zle.left _ _)) ((zmz.mono (Zle.left _ _)).weak (fun _ _ h=>y1F (Zle.left _ _) h)) (zmA.mono (Zle.left _ _)) ((zmB.mono (Zle.left _ _)).weak (fun _ _ h=>y1M (Zle.left _ _) h)) (zmC.mono (Zle.left _ _)) ((zmD.mono (Zle.left _ _)).weak (fun _ _ h=>y3I (Zle.left _ _) h)) (zhZ.mono (Zle.left _ _)) (y61 zdm _ _ _) (ZA.row (la _ (.head _) _) (RR.y17 (enc:=e50) (fun _=>rfl) _) ⟨w,pz.1⟩) (ZA.row (la _ (.tail _ (.head _)) _) (RR.y17 (enc:=e50) (fun _=>rfl) _) ⟨w,pz.1⟩) ho) ?_
      rintro zs0 zs1 _
      refine WL.nil ?_
      obtain rfl:=Option.some.inj h
      refine WX.y1S Try.results26 .nil (fun w hw=>?_)
      exact ⟨zs0,zs1,zaU,zaV,z2s,z2t,(y12 z78 (⟨z6.1.fHop.fNode,z6.1.fHop.fLink⟩ : Snetwork_exit) ((z80,(z9r,z9s)),z1S.2.2)),y49,(y61 zdm _ _ _),hw.sub (.cons .here (.cons .here (.cons .h2 (.cons .h2 (.cons .here (.cons .here .nil))))))⟩
def y2m (z2J : Sapi_Come) (z2K : Sapi_Come) : Option Int :=
  (y1h z2J.fTime z2K.fTime).bind fun zi3=>(y1h z2J.fSent z2K.fSent).bind fun zi4=>(y1h z2J.fNode z2K.fNode).bind fun zi5=>(y3s ([zi3,zi4,zi5] : List Int)).bind fun zmQ=>some zmQ
set_option maxRecDepth 20000 in
theorem y6F (Z : Zp)  (z2J : Sapi_Come) (z2K : Sapi_Come) (r : Int)
     (h : y2m z2J z2K = some r) (w₀ : World) (hz : PZ [] w₀ Z) :
    Calls Try.prog 43 #[(.agg #[(.int .i64 z2J.fSent),(.int .i64 z2J.fNode),(.int .i64 z2J.fTime)]),(.agg #[(.int .i64 z2K.fSent),(.int .i64 z2K.fNode),(.int .i64 z2K.fTime)])] w₀ fun e w'=>e = .returned (.int .i64 r) ∧ Hp [] w₀ w' []:=by
  unfold y2m at h
  refine Calls.yl (vs:=[(.agg #[(.int .i64 z2J.fSent),(.int .i64 z2J.fNode),(.int .i64 z2J.fTime)]),(.agg #[(.int .i64 z2K.fSent),(.int .i64 z2K.fNode),(.int .i64 z2K.fTime)])]) (pre:=[]) (env:=[(0,(.agg #[(.int .i64 z2J.fSent),(.int .i64 z2J.fNode),(.int .i64 z2J.fTime)])),(1,(.agg #[(.int .i64 z2K.fSent),(.int .i64 z2K.fNode),(.int .i64 z2K.fTime)]))]) Try.func43 rfl Try.ntmps43 rfl (Hp.nil w₀ _) rfl ?_
  refine WC.b (WC.a ?_)
  refine WL.new (dd:=2) rfl rfl rfl (y2g (cs:=[(.int .i64 z2J.fSent),(.int .i64 z2J.fNode),(.int .i64 z2J.fTime)]) rfl rfl) ?_
  intro zx8 _
  refine WL.new (dd:=3) rfl rfl rfl (y2g (cs:=[(.int .i64 z2K.fSent),(.int .i64 z2K.fNode),(.int .i64 z2K.fTime)]) rfl rfl) ?_
  intro zx9 _
  refine WL.pu rfl (WL.nil (WX.a (WC.b ?_)))
  obtain ⟨zi3,zs2,h⟩:=zf h
  obtain ⟨zi4,zs3,h⟩:=zf h
  obtain ⟨zi5,zs4,h⟩:=zf h
  obtain ⟨zmQ,zs5,h⟩:=zf h
  refine WC.yZ (fun i=>[].contains i) [] rfl ?_
  refine WD.a (i:=0) (d:=5) (by kernel_rfl) rfl (z2 (by kernel_rfl)) (z3 (by kernel_rfl)) rfl rfl rfl (fun _=>ya y51 rfl rfl) ?_
  refine WD.e (i:=1) (d:=6) (by kernel_rfl) rfl (z2 (by kernel_rfl)) (z3 (by kernel_rfl)) rfl rfl rfl (yb yf rfl (ye .h1 rfl)) ?_
  refine WD.a (i:=2) (d:=7) (by kernel_rfl) rfl (z2 (by kernel_rfl)) (z3 (by kernel_rfl)) rfl rfl rfl (fun _=>ya y51 rfl rfl) ?_
  refine WD.e (i:=3) (d:=8) (by kernel_rfl) rfl (z2 (by kernel_rfl)) (z3 (by kernel_rfl)) rfl rfl rfl (yb yf rfl (ye .here rfl)) ?_
  refine WD.c (i:=4) (d:=9) (by kernel_rfl) rfl (z2 (by kernel_rfl)) (z3 (by kernel_rfl)) rfl rfl rfl (zy (l:=[.tmp 6,.tmp 8]) Try.call45 (.cons rfl (.cons rfl .nil))) (cc hz .nil fun w pz ho=>y2a _ _ _ _ zs2 w pz ) ?_
  refine WD.a (i:=5) (d:=10) (by kernel_rfl) rfl (z2 (by kernel_rfl)) (z3 (by kernel_rfl)) rfl rfl rfl (fun _=>ya y95 rfl rfl) ?_
  refine WD.e (i:=6) (d:=11) (by kernel_rfl) rfl (z2 (by kernel_rfl)) (z3 (by kernel_rfl)) rfl rfl rfl (yb yf rfl (ye .h1 rfl)) ?_
  refine WD.a (i:=7) (d:=12) (by kernel_rfl) rfl (z2 (by kernel_rfl)) (z3 (by kernel_rfl)) rfl rfl rfl (fun _=>ya y95 rfl rfl) ?_
  refine WD.e (i:=8) (d:=13) (by kernel_rfl) rfl (z2 (by kernel_rfl)) (z3 (by kernel_rfl)) rfl rfl rfl (yb yf rfl (ye .here rfl)) ?_
  refine WD.c (i:=9) (d:=14) (by kernel_rfl) rfl (z2 (by kernel_rfl)) (z3 (by kernel_rfl)) rfl rfl rfl (zy (l:=[.tmp 11,.tmp 13]) Try.call45 (.cons rfl (.cons rfl .nil))) (cc hz .nil fun w pz ho=>y2a _ _ _ _ zs3 w pz ) ?_
  refine WD.a (i:=10) (d:=15) (by kernel_rfl) rfl (z2 (by kernel_rfl)) (z3 (by kernel_rfl)) rfl rfl rfl (fun _=>ya y96 rfl rfl) ?_
  refine WD.e (i:=11) (d:=16) (by kernel_rfl) rfl (z2 (by kernel_rfl)) (z3 (by kernel_rfl)) rfl rfl rfl (yb yf rfl (ye .h1 rfl)) ?_
  refine WD.a (i:=12) (d:=17) (by kernel_rfl) rfl (z2 (by kernel_rfl)) (z3 (by kernel_rfl)) rfl rfl rfl (fun _=>ya y96 rfl rfl) ?_
  refine WD.e (i:=13) (d:=18) (by kernel_rfl) rfl (z2 (by kernel_rfl)) (z3 (by kernel_rfl)) rfl rfl rfl (yb yf rfl (ye .here rfl)) ?_
  refine WD.c (i:=14) (d:=19) (by kernel_rfl) rfl (z2 (by kernel_rfl)) (z3 (by kernel_rfl)) rfl rfl rfl (zy (l:=[.tmp 16,.tmp 18]) Try.call45 (.cons rfl (.cons rfl .nil))) (cc hz .nil fun w pz ho=>y2a _ _ _ _ zs4 w pz ) ?_
  refine WD.new (i:=15) (dd:=20) rfl (by kernel_rfl) rfl rfl rfl (y15 (cs:=([zi3,zi4,zi5] : List Int).flatMap e3) y6B (Eos.parts (l:=[.tmp 9,.tmp 14,.tmp 19]) (.cons rfl (.cons rfl (.cons rfl .nil))) [0,1,2]) (fun _=>by kernel_rfl) rfl (by unfold maxLen; omega)) (fun h'=>absurd h' (by decide)) ?_
  intro zxa _
  refine WD.c (i:=16) (d:=21) (by kernel_rfl) rfl (z2 (by kernel_rfl)) (z3 (by kernel_rfl)) rfl rfl rfl (zy (l:=[.tmp 20]) Try.call44 (.cons rfl .nil)) (ccl hz .nil (.cons .here .nil) fun w pz ho la=>y6C _ _ _ _ _ zs5 w pz (ZA.row (la _ (.head _) _) (RR.y17 (enc:=e3) (fun _=>rfl) _) ⟨w,pz.1⟩)) ?_
  refine WD.a (i:=17) (d:=4) (by kernel_rfl) rfl (z2 (by kernel_rfl)) (z3 (by kernel_rfl)) rfl rfl rfl (fun _=>q_z rfl) ?_
  refine WD.done (by kernel_rfl) ?_
  refine WX.a (WC.ret ?_)
  obtain rfl:=Option.some.inj h
  refine WX.yh Try.results43 (.tmp rfl .nil) (fun w hw=>?_)
  exact ⟨y10 rfl,hw.sub .nil⟩
def yG (z1p : Int) (z2u : Sapi_Come → Sapi_Come → Option Int) (z79 : (List Sapi_Come) → Option (List Sapi_Come)) : Nat → (List Sapi_Come) → Int → Option (List Sapi_Come)
  | 0,_,_=>none
  | zi6 + 1,ze,z7=>(if decide (z7 > z1p) then chk ((0 : Int) ≤ z7 ∧ z7 < ((ze.length : Nat) : Int)) (chk ((0 : Int) ≤ (i64 (z7 - 1)) ∧ (i64 (z7 - 1)) < ((ze.length : Nat) : Int)) ((z2u (⟨((nth ze z7).fSent),((nth ze z7).fNode),((nth ze z7).fTime)⟩ : Sapi_Come) (⟨((nth ze (i64 (z7 - 1))).fSent),((nth ze (i64 (z7 - 1))).fNode),((nth ze (i64 (z7 - 1))).fTime)⟩ : Sapi_Come)).bind fun zi7=>some (decide (zi7 < 0)))) else some false).bind fun zi8=>if zi8 then chk ((0 : Int) ≤ (i64 (z7 - 1)) ∧ (i64 (z7 - 1)) < ((ze.length : Nat) : Int)) (chk ((0 : Int) ≤ z7 ∧ z7 < ((ze.length : Nat) : Int)) (chk ((0 : Int) ≤ (i64 (z7 - 1)) ∧ (i64 (z7 - 1)) < (((ze.set (z7 : Int).toNat (⟨((nth ze (i64 (z7 - 1))).fSent),((nth ze (i64 (z7 - 1))).fNode),((nth ze (i64 (z7 - 1))).fTime)⟩ : Sapi_Come)).length : Nat) : Int)) (yG z1p z2u z79 zi6 ((ze.set (z7 : Int).toNat (⟨((nth ze (i64 (z7 - 1))).fSent),((nth ze (i64 (z7 - 1))).fNode),((nth ze (i64 (z7 - 1))).fTime)⟩ : Sapi_Come)).set ((i64 (z7 - 1)) : Int).toNat (⟨((nth ze z7).fSent),((nth ze z7).fNode),((nth ze z7).fTime)⟩ : Sapi_Come)) (i64 (z7 - 1))))) else z79 ze
theorem y3f {n : Nat} {z1p : Int} {z2u : Sapi_Come → Sapi_Come → Option Int} {z79 : (List Sapi_Come) → Option (List Sapi_Come)} {ze : List Sapi_Come} {z7 : Int} {r : List Sapi_Come} (h : yG z1p z2u z79 n ze z7 = some r) : ∃ m,n = m + 1:=by
  cases n with
  | zero=>cases h
  | succ m=>exact ⟨m,rfl⟩
def yv (z2L : Int) (z1p : Int) (z2u : Sapi_Come → Sapi_Come → Option Int) (z7a : (List Sapi_Come) → Option (List Sapi_Come)) : Nat → (List Sapi_Come) → Int → Option (List Sapi_Come)
  | 0,_,_=>none
  | zi9 + 1,z2W,z2v=>if decide (z2v < z2L) then jp1 (fun (z4u : List Sapi_Come)=>yv z2L z1p z2u z7a zi9 z4u (i64 (z2v + 1))) fun zia=>jp1 (fun (z4v : List Sapi_Come)=>zia z4v) fun z79=>yG z1p z2u z79 yz z2W z2v else z7a z2W
theorem y3g {n : Nat} {z2L : Int} {z1p : Int} {z2u : Sapi_Come → Sapi_Come → Option Int} {z7a : (List Sapi_Come) → Option (List Sapi_Come)} {z2W : List Sapi_Come} {z2v : Int} {r : List Sapi_Come} (h : yv z2L z1p z2u z7a n z2W z2v = some r) : ∃ m,n = m + 1:=by
  cases n with
  | zero=>cases h
  | succ m=>exact ⟨m,rfl⟩
def yO (z1G : List Sapi_Come) (z1p : Int) (z2L : Int) (z2u : Sapi_Come → Sapi_Come → Option Int) : Option (List Sapi_Come) :=
  jp1 (fun (z67 : List Sapi_Come)=>some z67) fun z7a=>yv z2L z1p z2u z7a yz z1G (i64 (z1p + 1))
set_option maxRecDepth 20000 in
theorem y2y (Z : Zp) (z2l : Option Addr) (z1E : Nat) (z3p : FuncId) (z4w : List Value) (z1G : List Sapi_Come) (z1p : Int) (z2L : Int) (z2u : Sapi_Come → Sapi_Come → Option Int) (r : List Sapi_Come)
     (h : yO z1G z1p z2L z2u = some r) (w₀ : World) (hz : PZ (fps [row (.slice z2l z1G.length z1E) 50 3 (z1G.flatMap e50)]) w₀ Z)
     (zs6 : ∀ args w,(callFunc z3p args).run Try.prog w = .ok (.enter z3p args) w)
     (zs7 : ∀ w : World,PZ [] w Z → ∀ (x0 : Sapi_Come) (x1 : Sapi_Come) (r : Int),z2u x0 x1 = some r → Calls Try.prog z3p (([(.agg #[(.int .i64 x0.fSent),(.int .i64 x0.fNode),(.int .i64 x0.fTime)]),(.agg #[(.int .i64 x1.fSent),(.int .i64 x1.fNode),(.int .i64 x1.fTime)])] : List Value) ++ z4w).toArray w fun e w'=>e = .returned (.int .i64 r) ∧ Hp [] w w' [])
    (hown : Hp (fps [row (.slice z2l z1G.length z1E) 50 3 (z1G.flatMap e50)]) w₀ w₀ [row (.slice z2l z1G.length z1E) 50 3 (z1G.flatMap e50)]) :
    Calls Try.prog 66 #[(.slice z2l z1G.length z1E),(.int .i64 z1p),(.int .i64 z2L),(.func (.func z3p) #[] (z4w).toArray)] w₀ fun e w'=>e = .returned (.tuple #[]) ∧ (r.length = z1G.length) ∧ Hp (fps [row (.slice z2l z1G.length z1E) 50 3 (z1G.flatMap e50)]) w₀ w' [row (.slice z2l r.length z1E) 50 3 (r.flatMap e50)]:=by
  unfold yO at h
  refine Calls.yl (vs:=[(.slice z2l z1G.length z1E),(.int .i64 z1p),(.int .i64 z2L),(.func (.func z3p) #[] (z4w).toArray)]) (pre:=[row (.slice z2l z1G.length z1E) 50 3 (z1G.flatMap e50)]) (env:=[(0,(.slice z2l z1G.length z1E)),(1,(.int .i64 z1p)),(2,(.int .i64 z2L)),(3,(.func (.func z3p) #[] (z4w).toArray))]) Try.func66 rfl Try.ntmps66 rfl (hown) rfl ?_
  refine WC.b (WC.a (WL.pu rfl (WL.pu rfl (WL.pu rfl (WL.nil (WX.a ?_))))))
  obtain ⟨z7a,zs8,h⟩:=y19 h
  refine WC.y4U (fun (z67 : List Sapi_Come)=>(z7a z67 = some r) ∧ (z67.length = z1G.length)) (fun (z67 : List Sapi_Come)=>[]) (fun (z67 : List Sapi_Come)=>[row (.slice z2l z67.length z1E) 50 3 (z67.flatMap e50)]) ?_ ?_
  · skip
    refine WC.block ?_
    refine WC.y28 (fun (zaW : Nat) (z2W : List Sapi_Come) (z2v : Int)=>(yv z2L z1p z2u z7a zaW z2W z2v = some r) ∧ (z2W.length = z1G.length)) (fun (zaW : Nat) (z2W : List Sapi_Come) (z2v : Int)=>[(0,(.slice z2l z2W.length z1E)),(1,(.int .i64 z1p)),(2,(.int .i64 z2L)),(3,(.func (.func z3p) #[] (z4w).toArray)),(8,(.int .i64 z2v))]) (fun (zaW : Nat) (z2W : List Sapi_Come) (z2v : Int)=>[row (.slice z2l z2W.length z1E) 50 3 (z2W.flatMap e50)]) (fun (zaW : Nat) (z2W : List Sapi_Come) (z2v : Int)=>zaW) ⟨yz,z1G,(i64 (z1p + 1))⟩ ⟨h,rfl⟩ (.cons rfl (.cons rfl (.cons rfl (.cons rfl (.cons rfl .nil))))) (.cons .here .nil) ?_
    rintro zaW z2W z2v ⟨h,zmR⟩
    obtain ⟨zi9,rfl⟩:=y3g h
    rw [yv] at h
    refine WC.b (WC.b (WC.a (WL.pu rfl (WL.pu rfl (WL.pu rfl (WL.nil (WX.a ?_)))))))
    refine WC.cond rfl (fun zib=>?_) (fun zib=>?_)
    · replace h:=ym h zib
      refine WC.skip (WX.a ?_)
      obtain ⟨zia,zs9,h⟩:=y19 h
      refine WC.y1H (fun (z4u : List Sapi_Come)=>(zia z4u = some r) ∧ (z4u.length = z1G.length)) (fun (z4u : List Sapi_Come)=>[(0,(.slice z2l z4u.length z1E)),(1,(.int .i64 z1p)),(2,(.int .i64 z2L)),(3,(.func (.func z3p) #[] (z4w).toArray)),(8,(.int .i64 z2v))]) (fun (z4u : List Sapi_Come)=>[row (.slice z2l z4u.length z1E) 50 3 (z4u.flatMap e50)]) ?_ ?_
      · skip
        refine WC.block (WC.b (WC.a (WL.pu rfl (WL.pu rfl (WL.nil (WX.a ?_))))))
        obtain ⟨z79,zsa,h⟩:=y19 h
        refine WC.y4U (fun (z4v : List Sapi_Come)=>(z79 z4v = some r) ∧ (z4v.length = z1G.length)) (fun (z4v : List Sapi_Come)=>[(0,(.slice z2l z4v.length z1E)),(1,(.int .i64 z1p)),(2,(.int .i64 z2L)),(3,(.func (.func z3p) #[] (z4w).toArray)),(8,(.int .i64 z2v))]) (fun (z4v : List Sapi_Come)=>[row (.slice z2l z4v.length z1E) 50 3 (z4v.flatMap e50)]) ?_ ?_
        · skip
          refine WC.block ?_
          refine WC.y28 (fun (zaX : Nat) (ze : List Sapi_Come) (z7 : Int)=>(yG z1p z2u z79 zaX ze z7 = some r) ∧ (ze.length = z1G.length)) (fun (zaX : Nat) (ze : List Sapi_Come) (z7 : Int)=>[(0,(.slice z2l ze.length z1E)),(1,(.int .i64 z1p)),(2,(.int .i64 z2L)),(3,(.func (.func z3p) #[] (z4w).toArray)),(8,(.int .i64 z2v)),(9,(.int .i64 z7))]) (fun (zaX : Nat) (ze : List Sapi_Come) (z7 : Int)=>[row (.slice z2l ze.length z1E) 50 3 (ze.flatMap e50)]) (fun (zaX : Nat) (ze : List Sapi_Come) (z7 : Int)=>zaX) ⟨yz,z2W,z2v⟩ ⟨h,zmR⟩ (.cons rfl (.cons rfl (.cons rfl (.cons rfl (.cons rfl (.cons rfl .nil)))))) (.cons .here .nil) ?_
          rintro zaX ze z7 ⟨h,zmS⟩
          obtain ⟨zi6,rfl⟩:=y3f h
          rw [yG] at h
          refine WC.b (WC.b ?_)
          obtain ⟨zi8,zmT,h⟩:=zf h
          refine WC.yZ (fun i=>[].contains i) [] rfl ?_
          refine WD.a (i:=0) (d:=18) (by kernel_rfl) rfl (z2 (by kernel_rfl)) (z3 (by kernel_rfl)) rfl rfl rfl (fun _=>q_m rfl) ?_
          refine WD.a (i:=1) (d:=19) (by kernel_rfl) rfl (z2 (by kernel_rfl)) (z3 (by kernel_rfl)) rfl rfl rfl (fun _=>q_m rfl) ?_
          refine WD.a (i:=2) (d:=20) (by kernel_rfl) rfl (z2 (by kernel_rfl)) (z3 (by kernel_rfl)) rfl rfl rfl (fun _=>y3F rfl rfl) ?_
          refine WD.a (i:=3) (d:=21) (by kernel_rfl) rfl (z2 (by kernel_rfl)) (z3 (by kernel_rfl)) rfl rfl rfl (fun _=>q_m rfl) ?_
          refine WD.mid (fuel':=0) [(0,(.slice z2l ze.length z1E)),(1,(.int .i64 z1p)),(2,(.int .i64 z2L)),(3,(.func (.func z3p) #[] (z4w).toArray)),(8,(.int .i64 z2v)),(9,(.int .i64 z7)),(18,(.int .i64 z7)),(19,(.int .i64 z1p)),(20,(.bool (decide (z7 > z1p)))),(21,(.bool (decide (z7 > z1p)))),(34,(.bool zi8))] (y1I 17 [16,15,14,13,12,11,10,9,8,7,6,5,4,3,2,1,0]) ?_ (fun zmU=>?_)
          rotate_left
          · rcases Bool.eq_false_or_eq_true (decide (z7 > z1p)) with hb' | hb'
            · have zic:=hb'; clear hb'
              have z7b:=ym zmT zic
              obtain ⟨zdn,z7b⟩:=yj z7b
              obtain ⟨zeY,z7b⟩:=yj z7b
              obtain ⟨zi7,zsb,z7b⟩:=zf z7b
              replace z7b:=Option.some.inj z7b
              refine WD.pin (i:=21) rfl zic ?_
              refine WD.a (i:=4) (d:=22) (by kernel_rfl) rfl (z2 (by kernel_rfl)) (z3 (by kernel_rfl)) rfl rfl rfl (fun _=>q_m rfl) ?_
              refine WD.a (i:=5) (d:=23) (by kernel_rfl) rfl (z2 (by kernel_rfl)) (z3 (by kernel_rfl)) rfl rfl rfl (fun _=>q_m rfl) ?_
              refine WD.a (i:=6) (d:=24) (by kernel_rfl) rfl (z2 (by kernel_rfl)) (z3 (by kernel_rfl)) rfl rfl rfl (fun _=>q_m rfl) ?_
              refine WD.know (fun w hw=>Hp.y2j .here hw (by intro hz'; have:=zdn; rw [hz'] at this; omega)) ?_
              rintro ⟨zxb,rfl⟩
              refine WD.a (i:=7) (d:=25) (by kernel_rfl) rfl (z2 (by kernel_rfl)) (z3 (by kernel_rfl)) rfl rfl rfl (fun _=>yr y16 rfl rfl zdn.1 zdn.2 y1b) ?_
              refine WD.e (i:=8) (d:=26) (by kernel_rfl) rfl (z2 (by kernel_rfl)) (z3 (by kernel_rfl)) rfl rfl rfl (y1O (cs:=(e50 (nth ze z7))) y2c rfl rfl (y20 .here (y1J (enc:=e50) (l:=ze) (i:=z7) (sz:=3) (fun _=>rfl) zdn.1 zdn.2))) ?_
              refine WD.a (i:=9) (d:=27) (by kernel_rfl) rfl (z2 (by kernel_rfl)) (z3 (by kernel_rfl)) rfl rfl rfl (fun _=>q_m rfl) ?_
              refine WD.a (i:=10) (d:=28) (by kernel_rfl) rfl (z2 (by kernel_rfl)) (z3 (by kernel_rfl)) rfl rfl rfl (fun _=>q_m rfl) ?_
              refine WD.a (i:=11) (d:=29) (by kernel_rfl) rfl (z2 (by kernel_rfl)) (z3 (by kernel_rfl)) rfl rfl rfl (fun _=>y4E rfl rfl rfl) ?_
              refine WD.a (i:=12) (d:=30) (by kernel_rfl) rfl (z2 (by kernel_rfl)) (z3 (by kernel_rfl)) rfl rfl rfl (fun _=>yr y16 rfl rfl zeY.1 zeY.2 y1b) ?_
              refine WD.e (i:=13) (d:=31) (by kernel_rfl) rfl (z2 (by kernel_rfl)) (z3 (by kernel_rfl)) rfl rfl rfl (y1O (cs:=(e50 (nth ze (i64 (z7 - 1))))) y2c rfl rfl (y20 .here (y1J (enc:=e50) (l:=ze) (i:=i64 (z7 - 1)) (sz:=3) (fun _=>rfl) zeY.1 zeY.2))) ?_
              refine WD.c (i:=14) (d:=32) (by kernel_rfl) rfl (z2 (by kernel_rfl)) (z3 (by kernel_rfl)) rfl rfl rfl (y3E (l:=[.tmp 26,.tmp 31]) (f:=z3p) (caps:=z4w) zs6 rfl (.cons rfl (.cons rfl .nil))) (fun w hw=>zs7 w (hz.now hw) (⟨((nth ze z7).fSent),((nth ze z7).fNode),((nth ze z7).fTime)⟩ : Sapi_Come) (⟨((nth ze (i64 (z7 - 1))).fSent),((nth ze (i64 (z7 - 1))).fNode),((nth ze (i64 (z7 - 1))).fTime)⟩ : Sapi_Come) zi7  zsb) ?_
              refine WD.a (i:=15) (d:=33) (by kernel_rfl) rfl (z2 (by kernel_rfl)) (z3 (by kernel_rfl)) rfl rfl rfl (fun _=>y3n rfl rfl) ?_
              refine WD.a (i:=16) (d:=34) (by kernel_rfl) rfl (z2 (by kernel_rfl)) (z3 (by kernel_rfl)) rfl rfl rfl (fun _=>y1w rfl rfl) ?_
              refine WD.yS (.cons .here .nil) ?_ zmU
              exact (.cons rfl (.cons rfl (.cons rfl (.cons rfl (.cons rfl (.cons rfl (.cons rfl (.cons rfl (.cons rfl (.cons (zq (Eq.symm zic)) (.cons (zq z7b) .nil)))))))))))
            · have zid:=hb'; clear hb'
              have zie:=yn zmT zid
              replace zie:=Option.some.inj zie
              refine WD.pin (i:=21) rfl zid ?_
              refine WD.b (i:=4) (d:=22) (by kernel_rfl) rfl (z2 (by kernel_rfl)) (z3 (by kernel_rfl)) rfl rfl rfl ?_
              refine WD.b (i:=5) (d:=23) (by kernel_rfl) rfl (z2 (by kernel_rfl)) (z3 (by kernel_rfl)) rfl rfl rfl ?_
              refine WD.b (i:=6) (d:=24) (by kernel_rfl) rfl (z2 (by kernel_rfl)) (z3 (by kernel_rfl)) rfl rfl rfl ?_
              refine WD.b (i:=7) (d:=25) (by kernel_rfl) rfl (z2 (by kernel_rfl)) (z3 (by kernel_rfl)) rfl rfl rfl ?_
              refine WD.b (i:=8) (d:=26) (by kernel_rfl) rfl (z2 (by kernel_rfl)) (z3 (by kernel_rfl)) rfl rfl rfl ?_
              refine WD.b (i:=9) (d:=27) (by kernel_rfl) rfl (z2 (by kernel_rfl)) (z3 (by kernel_rfl)) rfl rfl rfl ?_
              refine WD.b (i:=10) (d:=28) (by kernel_rfl) rfl (z2 (by kernel_rfl)) (z3 (by kernel_rfl)) rfl rfl rfl ?_
              refine WD.b (i:=11) (d:=29) (by kernel_rfl) rfl (z2 (by kernel_rfl)) (z3 (by kernel_rfl)) rfl rfl rfl ?_
              refine WD.b (i:=12) (d:=30) (by kernel_rfl) rfl (z2 (by kernel_rfl)) (z3 (by kernel_rfl)) rfl rfl rfl ?_
              refine WD.b (i:=13) (d:=31) (by kernel_rfl) rfl (z2 (by kernel_rfl)) (z3 (by kernel_rfl)) rfl rfl rfl ?_
              refine WD.b (i:=14) (d:=32) (by kernel_rfl) rfl (z2 (by kernel_rfl)) (z3 (by kernel_rfl)) rfl rfl rfl ?_
              refine WD.b (i:=15) (d:=33) (by kernel_rfl) rfl (z2 (by kernel_rfl)) (z3 (by kernel_rfl)) rfl rfl rfl ?_
              refine WD.a (i:=16) (d:=34) (by kernel_rfl) rfl (z2 (by kernel_rfl)) (z3 (by kernel_rfl)) rfl rfl rfl (fun _=>y1x rfl rfl) ?_
              refine WD.yS (.cons .here .nil) ?_ zmU
              exact (.cons rfl (.cons rfl (.cons rfl (.cons rfl (.cons rfl (.cons rfl (.cons rfl (.cons rfl (.cons rfl (.cons (zq (Eq.symm zid)) (.cons (zq zie) .nil)))))))))))
          refine WD.done (by kernel_rfl) ?_
          refine WX.a ?_
          refine WC.cond rfl (fun zif=>?_) (fun zif=>?_)
          · replace h:=ym h zif
            refine WC.skip (WX.a (WC.b (WC.block ?_)))
            obtain ⟨zdo,h⟩:=yj h
            obtain ⟨z68,h⟩:=yj h
            obtain ⟨zaY,h⟩:=yj h
            refine WC.yZ (fun i=>[15,17].contains i) [] rfl ?_
            refine WD.a (i:=0) (d:=37) (by kernel_rfl) rfl (z2 (by kernel_rfl)) (z3 (by kernel_rfl)) rfl rfl rfl (fun _=>q_m rfl) ?_
            refine WD.a (i:=1) (d:=38) (by kernel_rfl) rfl (z2 (by kernel_rfl)) (z3 (by kernel_rfl)) rfl rfl rfl (fun _=>q_m rfl) ?_
            refine WD.a (i:=2) (d:=39) (by kernel_rfl) rfl (z2 (by kernel_rfl)) (z3 (by kernel_rfl)) rfl rfl rfl (fun _=>q_m rfl) ?_
            refine WD.a (i:=3) (d:=40) (by kernel_rfl) rfl (z2 (by kernel_rfl)) (z3 (by kernel_rfl)) rfl rfl rfl (fun _=>q_m rfl) ?_
            refine WD.a (i:=4) (d:=41) (by kernel_rfl) rfl (z2 (by kernel_rfl)) (z3 (by kernel_rfl)) rfl rfl rfl (fun _=>y4E rfl rfl rfl) ?_
            refine WD.a (i:=5) (d:=42) (by kernel_rfl) rfl (z2 (by kernel_rfl)) (z3 (by kernel_rfl)) rfl rfl rfl (fun _=>q_m rfl) ?_
            refine WD.a (i:=6) (d:=43) (by kernel_rfl) rfl (z2 (by kernel_rfl)) (z3 (by kernel_rfl)) rfl rfl rfl (fun _=>q_m rfl) ?_
            refine WD.a (i:=7) (d:=44) (by kernel_rfl) rfl (z2 (by kernel_rfl)) (z3 (by kernel_rfl)) rfl rfl rfl (fun _=>y4E rfl rfl rfl) ?_
            refine WD.know (fun w hw=>Hp.y2j .here hw (by intro hz'; have:=zdo; rw [hz'] at this; omega)) ?_
            rintro ⟨zdp,rfl⟩
            refine WD.a (i:=8) (d:=45) (by kernel_rfl) rfl (z2 (by kernel_rfl)) (z3 (by kernel_rfl)) rfl rfl rfl (fun _=>yr y16 rfl rfl zdo.1 zdo.2 y1b) ?_
            refine WD.e (i:=9) (d:=46) (by kernel_rfl) rfl (z2 (by kernel_rfl)) (z3 (by kernel_rfl)) rfl rfl rfl (y1O (cs:=(e50 (nth ze (i64 (z7 - 1))))) y2c rfl rfl (y20 .here (y1J (enc:=e50) (l:=ze) (i:=i64 (z7 - 1)) (sz:=3) (fun _=>rfl) zdo.1 zdo.2))) ?_
            refine WD.a (i:=10) (d:=47) (by kernel_rfl) rfl (z2 (by kernel_rfl)) (z3 (by kernel_rfl)) rfl rfl rfl (fun _=>q_m rfl) ?_
            refine WD.a (i:=11) (d:=48) (by kernel_rfl) rfl (z2 (by kernel_rfl)) (z3 (by kernel_rfl)) rfl rfl rfl (fun _=>q_m rfl) ?_
            refine WD.a (i:=12) (d:=49) (by kernel_rfl) rfl (z2 (by kernel_rfl)) (z3 (by kernel_rfl)) rfl rfl rfl (fun _=>yr y16 rfl rfl z68.1 z68.2 y1b) ?_
            refine WD.e (i:=13) (d:=50) (by kernel_rfl) rfl (z2 (by kernel_rfl)) (z3 (by kernel_rfl)) rfl rfl rfl (y1O (cs:=(e50 (nth ze z7))) y2c rfl rfl (y20 .here (y1J (enc:=e50) (l:=ze) (i:=z7) (sz:=3) (fun _=>rfl) z68.1 z68.2))) ?_
            refine WD.a (i:=14) (d:=51) (by kernel_rfl) rfl (z2 (by kernel_rfl)) (z3 (by kernel_rfl)) rfl rfl rfl (fun _=>yr y16 rfl rfl z68.1 z68.2 y1b) ?_
            refine WD.forced0 (i:=15) rfl (by kernel_rfl) rfl rfl rfl (Sin.of .nil) (y24 (vs:=[(.int .i64 ((nth ze (i64 (z7 - 1))).fSent)),(.int .i64 ((nth ze (i64 (z7 - 1))).fNode)),(.int .i64 ((nth ze (i64 (z7 - 1))).fTime))]) (ds:=(ze.set (z7 : Int).toNat (⟨((nth ze (i64 (z7 - 1))).fSent),((nth ze (i64 (z7 - 1))).fNode),((nth ze (i64 (z7 - 1))).fTime)⟩ : Sapi_Come)).flatMap e50) y4e rfl rfl rfl rfl (ocB rfl) .here (y2B (enc:=e50) (sz:=3) (k:=0) (fun _=>rfl) z68.1 z68.2 (by decide)) (y2A (enc:=e50) (l:=ze) (sz:=3) (vs:=[(.int .i64 ((nth ze (i64 (z7 - 1))).fSent)),(.int .i64 ((nth ze (i64 (z7 - 1))).fNode)),(.int .i64 ((nth ze (i64 (z7 - 1))).fTime))]) (y:=(⟨((nth ze (i64 (z7 - 1))).fSent),((nth ze (i64 (z7 - 1))).fNode),((nth ze (i64 (z7 - 1))).fTime)⟩ : Sapi_Come)) (k:=0) (fun _=>rfl) z68.1 z68.2 rfl (Nat.le_of_ble_eq_true rfl))) ?_
            refine WD.relen .here (u:=(.slice (some ⟨zdp,0,none⟩) ((ze.set (z7 : Int).toNat (⟨((nth ze (i64 (z7 - 1))).fSent),((nth ze (i64 (z7 - 1))).fNode),((nth ze (i64 (z7 - 1))).fTime)⟩ : Sapi_Come)).length) z1E)) (y1z (List.length_set).symm) ?_
            refine WD.repin (i:=0) rfl (u:=(.slice (some ⟨zdp,0,none⟩) ((ze.set (z7 : Int).toNat (⟨((nth ze (i64 (z7 - 1))).fSent),((nth ze (i64 (z7 - 1))).fNode),((nth ze (i64 (z7 - 1))).fTime)⟩ : Sapi_Come)).length) z1E)) (y1z (List.length_set).symm) ?_
            refine WD.repin (i:=39) rfl (u:=(.slice (some ⟨zdp,0,none⟩) ((ze.set (z7 : Int).toNat (⟨((nth ze (i64 (z7 - 1))).fSent),((nth ze (i64 (z7 - 1))).fNode),((nth ze (i64 (z7 - 1))).fTime)⟩ : Sapi_Come)).length) z1E)) (y1z (List.length_set).symm) ?_
            refine WD.a (i:=16) (d:=52) (by kernel_rfl) rfl (z2 (by kernel_rfl)) (z3 (by kernel_rfl)) rfl rfl rfl (fun _=>yr y16 rfl rfl zaY.1 zaY.2 y1b) ?_
            refine WD.y36 (i:=17) rfl (by kernel_rfl) rfl rfl rfl (by kernel_rfl) (y24 (vs:=[(.int .i64 ((nth ze z7).fSent)),(.int .i64 ((nth ze z7).fNode)),(.int .i64 ((nth ze z7).fTime))]) (ds:=((ze.set (z7 : Int).toNat (⟨((nth ze (i64 (z7 - 1))).fSent),((nth ze (i64 (z7 - 1))).fNode),((nth ze (i64 (z7 - 1))).fTime)⟩ : Sapi_Come)).set ((i64 (z7 - 1)) : Int).toNat (⟨((nth ze z7).fSent),((nth ze z7).fNode),((nth ze z7).fTime)⟩ : Sapi_Come)).flatMap e50) y4e rfl rfl rfl rfl (ocB rfl) .here (y2B (enc:=e50) (sz:=3) (k:=0) (fun _=>rfl) zaY.1 zaY.2 (by decide)) (y2A (enc:=e50) (l:=ze.set (z7 : Int).toNat (⟨((nth ze (i64 (z7 - 1))).fSent),((nth ze (i64 (z7 - 1))).fNode),((nth ze (i64 (z7 - 1))).fTime)⟩ : Sapi_Come)) (sz:=3) (vs:=[(.int .i64 ((nth ze z7).fSent)),(.int .i64 ((nth ze z7).fNode)),(.int .i64 ((nth ze z7).fTime))]) (y:=(⟨((nth ze z7).fSent),((nth ze z7).fNode),((nth ze z7).fTime)⟩ : Sapi_Come)) (k:=0) (fun _=>rfl) zaY.1 zaY.2 rfl (Nat.le_of_ble_eq_true rfl))) ?_
            refine WD.relen .here (u:=(.slice (some ⟨zdp,0,none⟩) (((ze.set (z7 : Int).toNat (⟨((nth ze (i64 (z7 - 1))).fSent),((nth ze (i64 (z7 - 1))).fNode),((nth ze (i64 (z7 - 1))).fTime)⟩ : Sapi_Come)).set ((i64 (z7 - 1)) : Int).toNat (⟨((nth ze z7).fSent),((nth ze z7).fNode),((nth ze z7).fTime)⟩ : Sapi_Come)).length) z1E)) (y1z (List.length_set).symm) ?_
            refine WD.repin (i:=0) rfl (u:=(.slice (some ⟨zdp,0,none⟩) (((ze.set (z7 : Int).toNat (⟨((nth ze (i64 (z7 - 1))).fSent),((nth ze (i64 (z7 - 1))).fNode),((nth ze (i64 (z7 - 1))).fTime)⟩ : Sapi_Come)).set ((i64 (z7 - 1)) : Int).toNat (⟨((nth ze z7).fSent),((nth ze z7).fNode),((nth ze z7).fTime)⟩ : Sapi_Come)).length) z1E)) (y1z (List.length_set).symm) ?_
            refine WD.done (by kernel_rfl) ?_
            refine WX.yg (WX.a (WC.a (WL.pu rfl (WL.pu rfl (WL.pu rfl (WL.nil ?_))))))
            exact WX.round (G:=Nat × List Sapi_Come × Int) ⟨zi6,((ze.set (z7 : Int).toNat (⟨((nth ze (i64 (z7 - 1))).fSent),((nth ze (i64 (z7 - 1))).fNode),((nth ze (i64 (z7 - 1))).fTime)⟩ : Sapi_Come)).set ((i64 (z7 - 1)) : Int).toNat (⟨((nth ze z7).fSent),((nth ze z7).fNode),((nth ze z7).fTime)⟩ : Sapi_Come)),(i64 (z7 - 1))⟩ ⟨h,((List.length_set).trans ((List.length_set).trans zmS))⟩ (Nat.lt_succ_self _) (.cons rfl (.cons rfl (.cons rfl (.cons rfl (.cons rfl (.cons rfl .nil)))))) (.cons .here .nil)
          · replace h:=yn h zif
            refine WC.exit (WX.yd (WX.yd (WX.yA ?_)))
            exact WX.mid (G:=List Sapi_Come) ze ⟨h,zmS⟩ (.cons rfl (.cons rfl (.cons rfl (.cons rfl (.cons rfl .nil))))) (.cons .here .nil)
        · rintro z4v ⟨h,zsc⟩
          replace h:=(zsa z4v).symm.trans h
          refine WX.yg ?_
          exact WX.mid (G:=List Sapi_Come) z4v ⟨h,zsc⟩ (.cons rfl (.cons rfl (.cons rfl (.cons rfl (.cons rfl .nil))))) (.cons .here .nil)
      · rintro z4u ⟨h,zsd⟩
        replace h:=(zs9 z4u).symm.trans h
        refine WC.a (WL.pu rfl (WL.pu rfl (WL.pu rfl (WL.nil ?_))))
        exact WX.round (G:=Nat × List Sapi_Come × Int) ⟨zi9,z4u,(i64 (z2v + 1))⟩ ⟨h,zsd⟩ (Nat.lt_succ_self _) (.cons rfl (.cons rfl (.cons rfl (.cons rfl (.cons rfl .nil))))) (.cons .here .nil)
    · replace h:=yn h zib
      refine WC.exit (WX.yd (WX.yd (WX.yA ?_)))
      exact WX.mid (G:=List Sapi_Come) z2W ⟨h,zmR⟩ .nil (.cons .here .nil)
  · rintro z67 ⟨h,zse⟩
    replace h:=(zs8 z67).symm.trans h
    obtain rfl:=Option.some.inj h
    refine WX.y1S Try.results66 .nil (fun w hw=>?_)
    exact ⟨y49,zse,hw.sub (.cons .here .nil)⟩
def yD (z3D : Int) (zD : Int) (zN : Int) (z7c : (List Sapi_Come) → Option (List Sapi_Come)) : Nat → (List Sapi_Come) → Int → Option (List Sapi_Come)
  | 0,_,_=>none
  | zig + 1,zn,zh=>if decide (zh < z3D) then chk ((0 : Int) ≤ (i64 (zD + zh)) ∧ (i64 (zD + zh)) < ((zn.length : Nat) : Int)) (chk ((0 : Int) ≤ (i64 (zN + zh)) ∧ (i64 (zN + zh)) < ((zn.length : Nat) : Int)) (chk ((0 : Int) ≤ (i64 (zD + zh)) ∧ (i64 (zD + zh)) < (((zn.set ((i64 (zN + zh)) : Int).toNat (⟨((nth zn (i64 (zD + zh))).fSent),((nth zn (i64 (zD + zh))).fNode),((nth zn (i64 (zD + zh))).fTime)⟩ : Sapi_Come)).length : Nat) : Int)) (yD z3D zD zN z7c zig ((zn.set ((i64 (zN + zh)) : Int).toNat (⟨((nth zn (i64 (zD + zh))).fSent),((nth zn (i64 (zD + zh))).fNode),((nth zn (i64 (zD + zh))).fTime)⟩ : Sapi_Come)).set ((i64 (zD + zh)) : Int).toNat (⟨((nth zn (i64 (zN + zh))).fSent),((nth zn (i64 (zN + zh))).fNode),((nth zn (i64 (zN + zh))).fTime)⟩ : Sapi_Come)) (i64 (zh + 1))))) else z7c zn
theorem y3v {n : Nat} {z3D : Int} {zD : Int} {zN : Int} {z7c : (List Sapi_Come) → Option (List Sapi_Come)} {zn : List Sapi_Come} {zh : Int} {r : List Sapi_Come} (h : yD z3D zD zN z7c n zn zh = some r) : ∃ m,n = m + 1:=by
  cases n with
  | zero=>cases h
  | succ m=>exact ⟨m,rfl⟩
def yU (z26 : List Sapi_Come) (zN : Int) (zD : Int) (z3D : Int) (zaZ : Sapi_Come → Sapi_Come → Option Int) : Option (List Sapi_Come) :=
  jp1 (fun (z69 : List Sapi_Come)=>some z69) fun z7c=>yD z3D zD zN z7c yz z26 0
set_option maxRecDepth 20000 in
theorem y2b (Z : Zp) (z4x : Option Addr) (z2M : Nat) (z7d : FuncId) (z9t : List Value) (z26 : List Sapi_Come) (zN : Int) (zD : Int) (z3D : Int) (zaZ : Sapi_Come → Sapi_Come → Option Int) (r : List Sapi_Come)
     (h : yU z26 zN zD z3D zaZ = some r) (w₀ : World) (hz : PZ (fps [row (.slice z4x z26.length z2M) 50 3 (z26.flatMap e50)]) w₀ Z)
     (zxc : ∀ args w,(callFunc z7d args).run Try.prog w = .ok (.enter z7d args) w)
     (zxd : ∀ w : World,PZ [] w Z → ∀ (x0 : Sapi_Come) (x1 : Sapi_Come) (r : Int),zaZ x0 x1 = some r → Calls Try.prog z7d (([(.agg #[(.int .i64 x0.fSent),(.int .i64 x0.fNode),(.int .i64 x0.fTime)]),(.agg #[(.int .i64 x1.fSent),(.int .i64 x1.fNode),(.int .i64 x1.fTime)])] : List Value) ++ z9t).toArray w fun e w'=>e = .returned (.int .i64 r) ∧ Hp [] w w' [])
    (hown : Hp (fps [row (.slice z4x z26.length z2M) 50 3 (z26.flatMap e50)]) w₀ w₀ [row (.slice z4x z26.length z2M) 50 3 (z26.flatMap e50)]) :
    Calls Try.prog 69 #[(.slice z4x z26.length z2M),(.int .i64 zN),(.int .i64 zD),(.int .i64 z3D),(.func (.func z7d) #[] (z9t).toArray)] w₀ fun e w'=>e = .returned (.tuple #[]) ∧ (r.length = z26.length) ∧ Hp (fps [row (.slice z4x z26.length z2M) 50 3 (z26.flatMap e50)]) w₀ w' [row (.slice z4x r.length z2M) 50 3 (r.flatMap e50)]:=by
  unfold yU at h
  refine Calls.yl (vs:=[(.slice z4x z26.length z2M),(.int .i64 zN),(.int .i64 zD),(.int .i64 z3D),(.func (.func z7d) #[] (z9t).toArray)]) (pre:=[row (.slice z4x z26.length z2M) 50 3 (z26.flatMap e50)]) (env:=[(0,(.slice z4x z26.length z2M)),(1,(.int .i64 zN)),(2,(.int .i64 zD)),(3,(.int .i64 z3D)),(4,(.func (.func z7d) #[] (z9t).toArray))]) Try.func69 rfl Try.ntmps69 rfl (hown) rfl ?_
  refine WC.b (WC.a (WL.pu rfl (WL.nil (WX.a ?_))))
  obtain ⟨z7c,zsf,h⟩:=y19 h
  refine WC.y4U (fun (z69 : List Sapi_Come)=>(z7c z69 = some r) ∧ (z69.length = z26.length)) (fun (z69 : List Sapi_Come)=>[]) (fun (z69 : List Sapi_Come)=>[row (.slice z4x z69.length z2M) 50 3 (z69.flatMap e50)]) ?_ ?_
  · skip
    refine WC.block ?_
    refine WC.y28 (fun (zb0 : Nat) (zn : List Sapi_Come) (zh : Int)=>(yD z3D zD zN z7c zb0 zn zh = some r) ∧ (zn.length = z26.length)) (fun (zb0 : Nat) (zn : List Sapi_Come) (zh : Int)=>[(0,(.slice z4x zn.length z2M)),(1,(.int .i64 zN)),(2,(.int .i64 zD)),(3,(.int .i64 z3D)),(10,(.int .i64 zh))]) (fun (zb0 : Nat) (zn : List Sapi_Come) (zh : Int)=>[row (.slice z4x zn.length z2M) 50 3 (zn.flatMap e50)]) (fun (zb0 : Nat) (zn : List Sapi_Come) (zh : Int)=>zb0) ⟨yz,z26,0⟩ ⟨h,rfl⟩ (.cons rfl (.cons rfl (.cons rfl (.cons rfl (.cons rfl .nil))))) (.cons .here .nil) ?_
    rintro zb0 zn zh ⟨h,zmV⟩
    obtain ⟨zig,rfl⟩:=y3v h
    rw [yD] at h
    refine WC.b (WC.b (WC.a (WL.pu rfl (WL.pu rfl (WL.pu rfl (WL.nil (WX.a ?_)))))))
    refine WC.cond rfl (fun zih=>?_) (fun zih=>?_)
    · replace h:=ym h zih
      refine WC.skip (WX.a (WC.b (WC.block ?_)))
      obtain ⟨zdq,h⟩:=yj h
      obtain ⟨z6a,h⟩:=yj h
      obtain ⟨zb1,h⟩:=yj h
      refine WC.yZ (fun i=>[21,23].contains i) [] rfl ?_
      refine WD.a (i:=0) (d:=16) (by kernel_rfl) rfl (z2 (by kernel_rfl)) (z3 (by kernel_rfl)) rfl rfl rfl (fun _=>q_m rfl) ?_
      refine WD.a (i:=1) (d:=17) (by kernel_rfl) rfl (z2 (by kernel_rfl)) (z3 (by kernel_rfl)) rfl rfl rfl (fun _=>q_m rfl) ?_
      refine WD.a (i:=2) (d:=18) (by kernel_rfl) rfl (z2 (by kernel_rfl)) (z3 (by kernel_rfl)) rfl rfl rfl (fun _=>q_m rfl) ?_
      refine WD.a (i:=3) (d:=19) (by kernel_rfl) rfl (z2 (by kernel_rfl)) (z3 (by kernel_rfl)) rfl rfl rfl (fun _=>y4D rfl rfl rfl) ?_
      refine WD.a (i:=4) (d:=20) (by kernel_rfl) rfl (z2 (by kernel_rfl)) (z3 (by kernel_rfl)) rfl rfl rfl (fun _=>q_m rfl) ?_
      refine WD.a (i:=5) (d:=21) (by kernel_rfl) rfl (z2 (by kernel_rfl)) (z3 (by kernel_rfl)) rfl rfl rfl (fun _=>q_m rfl) ?_
      refine WD.a (i:=6) (d:=22) (by kernel_rfl) rfl (z2 (by kernel_rfl)) (z3 (by kernel_rfl)) rfl rfl rfl (fun _=>q_m rfl) ?_
      refine WD.a (i:=7) (d:=23) (by kernel_rfl) rfl (z2 (by kernel_rfl)) (z3 (by kernel_rfl)) rfl rfl rfl (fun _=>y4D rfl rfl rfl) ?_
      refine WD.a (i:=8) (d:=24) (by kernel_rfl) rfl (z2 (by kernel_rfl)) (z3 (by kernel_rfl)) rfl rfl rfl (fun _=>q_m rfl) ?_
      refine WD.a (i:=9) (d:=25) (by kernel_rfl) rfl (z2 (by kernel_rfl)) (z3 (by kernel_rfl)) rfl rfl rfl (fun _=>q_m rfl) ?_
      refine WD.a (i:=10) (d:=26) (by kernel_rfl) rfl (z2 (by kernel_rfl)) (z3 (by kernel_rfl)) rfl rfl rfl (fun _=>q_m rfl) ?_
      refine WD.a (i:=11) (d:=27) (by kernel_rfl) rfl (z2 (by kernel_rfl)) (z3 (by kernel_rfl)) rfl rfl rfl (fun _=>y4D rfl rfl rfl) ?_
      refine WD.know (fun w hw=>Hp.y2j .here hw (by intro hz'; have:=zdq; rw [hz'] at this; omega)) ?_
      rintro ⟨zdr,rfl⟩
      refine WD.a (i:=12) (d:=28) (by kernel_rfl) rfl (z2 (by kernel_rfl)) (z3 (by kernel_rfl)) rfl rfl rfl (fun _=>yr y16 rfl rfl zdq.1 zdq.2 y1b) ?_
      refine WD.e (i:=13) (d:=29) (by kernel_rfl) rfl (z2 (by kernel_rfl)) (z3 (by kernel_rfl)) rfl rfl rfl (y1O (cs:=(e50 (nth zn (i64 (zD + zh))))) y2c rfl rfl (y20 .here (y1J (enc:=e50) (l:=zn) (i:=i64 (zD + zh)) (sz:=3) (fun _=>rfl) zdq.1 zdq.2))) ?_
      refine WD.a (i:=14) (d:=30) (by kernel_rfl) rfl (z2 (by kernel_rfl)) (z3 (by kernel_rfl)) rfl rfl rfl (fun _=>q_m rfl) ?_
      refine WD.a (i:=15) (d:=31) (by kernel_rfl) rfl (z2 (by kernel_rfl)) (z3 (by kernel_rfl)) rfl rfl rfl (fun _=>q_m rfl) ?_
      refine WD.a (i:=16) (d:=32) (by kernel_rfl) rfl (z2 (by kernel_rfl)) (z3 (by kernel_rfl)) rfl rfl rfl (fun _=>q_m rfl) ?_
      refine WD.a (i:=17) (d:=33) (by kernel_rfl) rfl (z2 (by kernel_rfl)) (z3 (by kernel_rfl)) rfl rfl rfl (fun _=>y4D rfl rfl rfl) ?_
      refine WD.a (i:=18) (d:=34) (by kernel_rfl) rfl (z2 (by kernel_rfl)) (z3 (by kernel_rfl)) rfl rfl rfl (fun _=>yr y16 rfl rfl z6a.1 z6a.2 y1b) ?_
      refine WD.e (i:=19) (d:=35) (by kernel_rfl) rfl (z2 (by kernel_rfl)) (z3 (by kernel_rfl)) rfl rfl rfl (y1O (cs:=(e50 (nth zn (i64 (zN + zh))))) y2c rfl rfl (y20 .here (y1J (enc:=e50) (l:=zn) (i:=i64 (zN + zh)) (sz:=3) (fun _=>rfl) z6a.1 z6a.2))) ?_
      refine WD.a (i:=20) (d:=36) (by kernel_rfl) rfl (z2 (by kernel_rfl)) (z3 (by kernel_rfl)) rfl rfl rfl (fun _=>yr y16 rfl rfl z6a.1 z6a.2 y1b) ?_
      refine WD.forced0 (i:=21) rfl (by kernel_rfl) rfl rfl rfl (Sin.of .nil) (y24 (vs:=[(.int .i64 ((nth zn (i64 (zD + zh))).fSent)),(.int .i64 ((nth zn (i64 (zD + zh))).fNode)),(.int .i64 ((nth zn (i64 (zD + zh))).fTime))]) (ds:=(zn.set ((i64 (zN + zh)) : Int).toNat (⟨((nth zn (i64 (zD + zh))).fSent),((nth zn (i64 (zD + zh))).fNode),((nth zn (i64 (zD + zh))).fTime)⟩ : Sapi_Come)).flatMap e50) y4e rfl rfl rfl rfl (ocB rfl) .here (y2B (enc:=e50) (sz:=3) (k:=0) (fun _=>rfl) z6a.1 z6a.2 (by decide)) (y2A (enc:=e50) (l:=zn) (sz:=3) (vs:=[(.int .i64 ((nth zn (i64 (zD + zh))).fSent)),(.int .i64 ((nth zn (i64 (zD + zh))).fNode)),(.int .i64 ((nth zn (i64 (zD + zh))).fTime))]) (y:=(⟨((nth zn (i64 (zD + zh))).fSent),((nth zn (i64 (zD + zh))).fNode),((nth zn (i64 (zD + zh))).fTime)⟩ : Sapi_Come)) (k:=0) (fun _=>rfl) z6a.1 z6a.2 rfl (Nat.le_of_ble_eq_true rfl))) ?_
      refine WD.relen .here (u:=(.slice (some ⟨zdr,0,none⟩) ((zn.set ((i64 (zN + zh)) : Int).toNat (⟨((nth zn (i64 (zD + zh))).fSent),((nth zn (i64 (zD + zh))).fNode),((nth zn (i64 (zD + zh))).fTime)⟩ : Sapi_Come)).length) z2M)) (y1z (List.length_set).symm) ?_
      refine WD.repin (i:=0) rfl (u:=(.slice (some ⟨zdr,0,none⟩) ((zn.set ((i64 (zN + zh)) : Int).toNat (⟨((nth zn (i64 (zD + zh))).fSent),((nth zn (i64 (zD + zh))).fNode),((nth zn (i64 (zD + zh))).fTime)⟩ : Sapi_Come)).length) z2M)) (y1z (List.length_set).symm) ?_
      refine WD.repin (i:=20) rfl (u:=(.slice (some ⟨zdr,0,none⟩) ((zn.set ((i64 (zN + zh)) : Int).toNat (⟨((nth zn (i64 (zD + zh))).fSent),((nth zn (i64 (zD + zh))).fNode),((nth zn (i64 (zD + zh))).fTime)⟩ : Sapi_Come)).length) z2M)) (y1z (List.length_set).symm) ?_
      refine WD.a (i:=22) (d:=37) (by kernel_rfl) rfl (z2 (by kernel_rfl)) (z3 (by kernel_rfl)) rfl rfl rfl (fun _=>yr y16 rfl rfl zb1.1 zb1.2 y1b) ?_
      refine WD.y36 (i:=23) rfl (by kernel_rfl) rfl rfl rfl (by kernel_rfl) (y24 (vs:=[(.int .i64 ((nth zn (i64 (zN + zh))).fSent)),(.int .i64 ((nth zn (i64 (zN + zh))).fNode)),(.int .i64 ((nth zn (i64 (zN + zh))).fTime))]) (ds:=((zn.set ((i64 (zN + zh)) : Int).toNat (⟨((nth zn (i64 (zD + zh))).fSent),((nth zn (i64 (zD + zh))).fNode),((nth zn (i64 (zD + zh))).fTime)⟩ : Sapi_Come)).set ((i64 (zD + zh)) : Int).toNat (⟨((nth zn (i64 (zN + zh))).fSent),((nth zn (i64 (zN + zh))).fNode),((nth zn (i64 (zN + zh))).fTime)⟩ : Sapi_Come)).flatMap e50) y4e rfl rfl rfl rfl (ocB rfl) .here (y2B (enc:=e50) (sz:=3) (k:=0) (fun _=>rfl) zb1.1 zb1.2 (by decide)) (y2A (enc:=e50) (l:=zn.set ((i64 (zN + zh)) : Int).toNat (⟨((nth zn (i64 (zD + zh))).fSent),((nth zn (i64 (zD + zh))).fNode),((nth zn (i64 (zD + zh))).fTime)⟩ : Sapi_Come)) (sz:=3) (vs:=[(.int .i64 ((nth zn (i64 (zN + zh))).fSent)),(.int .i64 ((nth zn (i64 (zN + zh))).fNode)),(.int .i64 ((nth zn (i64 (zN + zh))).fTime))]) (y:=(⟨((nth zn (i64 (zN + zh))).fSent),((nth zn (i64 (zN + zh))).fNode),((nth zn (i64 (zN + zh))).fTime)⟩ : Sapi_Come)) (k:=0) (fun _=>rfl) zb1.1 zb1.2 rfl (Nat.le_of_ble_eq_true rfl))) ?_
      refine WD.relen .here (u:=(.slice (some ⟨zdr,0,none⟩) (((zn.set ((i64 (zN + zh)) : Int).toNat (⟨((nth zn (i64 (zD + zh))).fSent),((nth zn (i64 (zD + zh))).fNode),((nth zn (i64 (zD + zh))).fTime)⟩ : Sapi_Come)).set ((i64 (zD + zh)) : Int).toNat (⟨((nth zn (i64 (zN + zh))).fSent),((nth zn (i64 (zN + zh))).fNode),((nth zn (i64 (zN + zh))).fTime)⟩ : Sapi_Come)).length) z2M)) (y1z (List.length_set).symm) ?_
      refine WD.repin (i:=0) rfl (u:=(.slice (some ⟨zdr,0,none⟩) (((zn.set ((i64 (zN + zh)) : Int).toNat (⟨((nth zn (i64 (zD + zh))).fSent),((nth zn (i64 (zD + zh))).fNode),((nth zn (i64 (zD + zh))).fTime)⟩ : Sapi_Come)).set ((i64 (zD + zh)) : Int).toNat (⟨((nth zn (i64 (zN + zh))).fSent),((nth zn (i64 (zN + zh))).fNode),((nth zn (i64 (zN + zh))).fTime)⟩ : Sapi_Come)).length) z2M)) (y1z (List.length_set).symm) ?_
      refine WD.done (by kernel_rfl) ?_
      refine WX.yg (WX.a (WC.a (WL.pu rfl (WL.pu rfl (WL.pu rfl (WL.nil ?_))))))
      exact WX.round (G:=Nat × List Sapi_Come × Int) ⟨zig,((zn.set ((i64 (zN + zh)) : Int).toNat (⟨((nth zn (i64 (zD + zh))).fSent),((nth zn (i64 (zD + zh))).fNode),((nth zn (i64 (zD + zh))).fTime)⟩ : Sapi_Come)).set ((i64 (zD + zh)) : Int).toNat (⟨((nth zn (i64 (zN + zh))).fSent),((nth zn (i64 (zN + zh))).fNode),((nth zn (i64 (zN + zh))).fTime)⟩ : Sapi_Come)),(i64 (zh + 1))⟩ ⟨h,((List.length_set).trans ((List.length_set).trans zmV))⟩ (Nat.lt_succ_self _) (.cons rfl (.cons rfl (.cons rfl (.cons rfl (.cons rfl .nil))))) (.cons .here .nil)
    · replace h:=yn h zih
      refine WC.exit (WX.yd (WX.yd (WX.yA ?_)))
      exact WX.mid (G:=List Sapi_Come) zn ⟨h,zmV⟩ .nil (.cons .here .nil)
  · rintro z69 ⟨h,zsg⟩
    replace h:=(zsf z69).symm.trans h
    obtain rfl:=Option.some.inj h
    refine WX.y1S Try.results69 .nil (fun w hw=>?_)
    exact ⟨y49,zsg,hw.sub (.cons .here .nil)⟩
def yL (z1F : Int) (z2N : Sapi_Come → Sapi_Come → Option Int) (z6b : (List Sapi_Come) → Int → Option (List Sapi_Come)) : Nat → (List Sapi_Come) → Int → Int → Option (List Sapi_Come)
  | 0,_,_,_=>none
  | zds + 1,z2X,z1H,z2m=>if decide (z1H ≠ z2m) then if decide (z1H > z2m) then (yU z2X (i64 (z1F - z1H)) z1F z2m z2N).bind fun zeZ=>yL z1F z2N z6b zds zeZ (i64 (z1H - z2m)) z2m else (yU z2X (i64 (z1F - z1H)) (i64 ((i64 (z1F + z2m)) - z1H)) z1H z2N).bind fun zf0=>yL z1F z2N z6b zds zf0 z1H (i64 (z2m - z1H)) else z6b z2X z1H
theorem y3N {n : Nat} {z1F : Int} {z2N : Sapi_Come → Sapi_Come → Option Int} {z6b : (List Sapi_Come) → Int → Option (List Sapi_Come)} {z2X : List Sapi_Come} {z1H : Int} {z2m : Int} {r : List Sapi_Come} (h : yL z1F z2N z6b n z2X z1H z2m = some r) : ∃ m,n = m + 1:=by
  cases n with
  | zero=>cases h
  | succ m=>exact ⟨m,rfl⟩
def y1r (z27 : List Sapi_Come) (z9u : Int) (z1F : Int) (z9v : Int) (z2N : Sapi_Come → Sapi_Come → Option Int) : Option (List Sapi_Come) :=
  jp2 (fun (z4W : List Sapi_Come) (z7e : Int)=>(yU z4W (i64 (z1F - z7e)) z1F z7e z2N).bind fun zii=>some zii) fun z6b=>yL z1F z2N z6b yz z27 (i64 (z1F - z9u)) (i64 (z9v - z1F))
set_option maxRecDepth 20000 in
theorem y4f (Z : Zp) (z2Y : Option Addr) (z2Z : Nat) (z4y : FuncId) (z6c : List Value) (z27 : List Sapi_Come) (z9u : Int) (z1F : Int) (z9v : Int) (z2N : Sapi_Come → Sapi_Come → Option Int) (r : List Sapi_Come)
     (h : y1r z27 z9u z1F z9v z2N = some r) (w₀ : World) (hz : PZ (fps [row (.slice z2Y z27.length z2Z) 50 3 (z27.flatMap e50)]) w₀ Z)
     (zij : ∀ args w,(callFunc z4y args).run Try.prog w = .ok (.enter z4y args) w)
     (zik : ∀ w : World,PZ [] w Z → ∀ (x0 : Sapi_Come) (x1 : Sapi_Come) (r : Int),z2N x0 x1 = some r → Calls Try.prog z4y (([(.agg #[(.int .i64 x0.fSent),(.int .i64 x0.fNode),(.int .i64 x0.fTime)]),(.agg #[(.int .i64 x1.fSent),(.int .i64 x1.fNode),(.int .i64 x1.fTime)])] : List Value) ++ z6c).toArray w fun e w'=>e = .returned (.int .i64 r) ∧ Hp [] w w' [])
    (hown : Hp (fps [row (.slice z2Y z27.length z2Z) 50 3 (z27.flatMap e50)]) w₀ w₀ [row (.slice z2Y z27.length z2Z) 50 3 (z27.flatMap e50)]) :
    Calls Try.prog 68 #[(.slice z2Y z27.length z2Z),(.int .i64 z9u),(.int .i64 z1F),(.int .i64 z9v),(.func (.func z4y) #[] (z6c).toArray)] w₀ fun e w'=>e = .returned (.tuple #[]) ∧ (r.length = z27.length) ∧ Hp (fps [row (.slice z2Y z27.length z2Z) 50 3 (z27.flatMap e50)]) w₀ w' [row (.slice z2Y r.length z2Z) 50 3 (r.flatMap e50)]:=by
  unfold y1r at h
  refine Calls.yl (vs:=[(.slice z2Y z27.length z2Z),(.int .i64 z9u),(.int .i64 z1F),(.int .i64 z9v),(.func (.func z4y) #[] (z6c).toArray)]) (pre:=[row (.slice z2Y z27.length z2Z) 50 3 (z27.flatMap e50)]) (env:=[(0,(.slice z2Y z27.length z2Z)),(1,(.int .i64 z9u)),(2,(.int .i64 z1F)),(3,(.int .i64 z9v)),(4,(.func (.func z4y) #[] (z6c).toArray))]) Try.func68 rfl Try.ntmps68 rfl (hown) rfl ?_
  refine WC.b (WC.a (WL.pu rfl (WL.pu rfl (WL.pu rfl (WL.pu rfl (WL.nil (WX.a (WC.b (WC.a (WL.pu rfl (WL.pu rfl (WL.pu rfl (WL.pu rfl (WL.nil (WX.a ?_)))))))))))))))
  obtain ⟨z6b,zsh,h⟩:=y3m h
  refine WC.y2R (fun (z4W : List Sapi_Come) (z7e : Int)=>(z6b z4W z7e = some r) ∧ (z4W.length = z27.length)) (fun (z4W : List Sapi_Come) (z7e : Int)=>[(0,(.slice z2Y z4W.length z2Z)),(2,(.int .i64 z1F)),(4,(.func (.func z4y) #[] (z6c).toArray)),(10,(.int .i64 z7e))]) (fun (z4W : List Sapi_Come) (z7e : Int)=>[row (.slice z2Y z4W.length z2Z) 50 3 (z4W.flatMap e50)]) ?_ ?_
  · skip
    refine WC.block ?_
    refine WC.y5X (fun (zb2 : Nat) (z2X : List Sapi_Come) (z1H : Int) (z2m : Int)=>(yL z1F z2N z6b zb2 z2X z1H z2m = some r) ∧ (z2X.length = z27.length)) (fun (zb2 : Nat) (z2X : List Sapi_Come) (z1H : Int) (z2m : Int)=>[(0,(.slice z2Y z2X.length z2Z)),(2,(.int .i64 z1F)),(4,(.func (.func z4y) #[] (z6c).toArray)),(10,(.int .i64 z1H)),(11,(.int .i64 z2m))]) (fun (zb2 : Nat) (z2X : List Sapi_Come) (z1H : Int) (z2m : Int)=>[row (.slice z2Y z2X.length z2Z) 50 3 (z2X.flatMap e50)]) (fun (zb2 : Nat) (z2X : List Sapi_Come) (z1H : Int) (z2m : Int)=>zb2) ⟨yz,z27,(i64 (z1F - z9u)),(i64 (z9v - z1F))⟩ ⟨h,rfl⟩ (.cons rfl (.cons rfl (.cons rfl (.cons rfl (.cons rfl .nil))))) (.cons .here .nil) ?_
    rintro zb2 z2X z1H z2m ⟨h,zil⟩
    obtain ⟨zds,rfl⟩:=y3N h
    rw [yL] at h
    refine WC.b (WC.b (WC.a (WL.pu rfl (WL.pu rfl (WL.pu rfl (WL.nil (WX.a ?_)))))))
    refine WC.cond rfl (fun zim=>?_) (fun zim=>?_)
    · replace h:=ym h zim
      refine WC.skip (WX.a (WC.block (WC.b (WC.a (WL.pu rfl (WL.pu rfl (WL.pu rfl (WL.nil (WX.a ?_)))))))))
      refine WC.cond rfl (fun zin=>?_) (fun zin=>?_)
      · replace h:=ym h zin
        refine WC.b ?_
        obtain ⟨zeZ,zsi,h⟩:=zf h
        refine WC.a (WL.pu rfl (WL.pu rfl (WL.pu rfl (WL.pu rfl (WL.pu rfl (WL.pu rfl (WL.pu rfl ?_)))))))
        refine WL.y1K (dd:=31) rfl rfl rfl (zy (l:=[.tmp 24,.tmp 27,.tmp 28,.tmp 29,.tmp 30]) Try.call69 (.cons rfl (.cons rfl (.cons rfl (.cons rfl (.cons rfl .nil)))))) (.cons .here .nil) (cc hz (.cons .here .nil) fun w pz ho=>y2b _ _ _ (z7d:=z4y) (z9t:=z6c) _ _ _ _ (zaZ:=z2N) _ zsi w pz zij zik ho) ?_
        rintro  zmW
        refine WL.repin (i:=0) rfl (u:=(.slice z2Y zeZ.length z2Z)) (y1z zmW.symm) ?_
        refine WL.nil (WX.a (WC.a (WL.pu rfl (WL.pu rfl (WL.pu rfl (WL.pu rfl (WL.nil (WX.yg ?_))))))))
        exact WX.round (G:=Nat × List Sapi_Come × Int × Int) ⟨zds,zeZ,(i64 (z1H - z2m)),z2m⟩ ⟨h,(zmW.trans zil)⟩ (Nat.lt_succ_self _) (.cons rfl (.cons rfl (.cons rfl (.cons rfl (.cons rfl .nil))))) (.cons .here .nil)
      · replace h:=yn h zin
        refine WC.b ?_
        obtain ⟨zf0,zsj,h⟩:=zf h
        refine WC.a (WL.pu rfl (WL.pu rfl (WL.pu rfl (WL.pu rfl (WL.pu rfl (WL.pu rfl (WL.pu rfl (WL.pu rfl (WL.pu rfl (WL.pu rfl (WL.pu rfl ?_)))))))))))
        refine WL.y1K (dd:=46) rfl rfl rfl (zy (l:=[.tmp 35,.tmp 38,.tmp 43,.tmp 44,.tmp 45]) Try.call69 (.cons rfl (.cons rfl (.cons rfl (.cons rfl (.cons rfl .nil)))))) (.cons .here .nil) (cc hz (.cons .here .nil) fun w pz ho=>y2b _ _ _ (z7d:=z4y) (z9t:=z6c) _ _ _ _ (zaZ:=z2N) _ zsj w pz zij zik ho) ?_
        rintro  zmX
        refine WL.repin (i:=0) rfl (u:=(.slice z2Y zf0.length z2Z)) (y1z zmX.symm) ?_
        refine WL.nil (WX.a (WC.a (WL.pu rfl (WL.pu rfl (WL.pu rfl (WL.pu rfl (WL.nil (WX.yg ?_))))))))
        exact WX.round (G:=Nat × List Sapi_Come × Int × Int) ⟨zds,zf0,z1H,(i64 (z2m - z1H))⟩ ⟨h,(zmX.trans zil)⟩ (Nat.lt_succ_self _) (.cons rfl (.cons rfl (.cons rfl (.cons rfl (.cons rfl .nil))))) (.cons .here .nil)
    · replace h:=yn h zim
      refine WC.exit (WX.yd (WX.yd (WX.yA ?_)))
      exact WX.mid (G:=List Sapi_Come × Int) ⟨z2X,z1H⟩ ⟨h,zil⟩ (.cons rfl (.cons rfl (.cons rfl (.cons rfl .nil)))) (.cons .here .nil)
  · rintro z4W z7e ⟨h,zsk⟩
    replace h:=(zsh z4W z7e).symm.trans h
    obtain ⟨zii,zsl,h⟩:=zf h
    refine WC.a (WL.pu rfl (WL.pu rfl (WL.pu rfl (WL.pu rfl (WL.pu rfl (WL.pu rfl (WL.pu rfl ?_)))))))
    refine WL.y1K (dd:=57) rfl rfl rfl (zy (l:=[.tmp 50,.tmp 53,.tmp 54,.tmp 55,.tmp 56]) Try.call69 (.cons rfl (.cons rfl (.cons rfl (.cons rfl (.cons rfl .nil)))))) (.cons .here .nil) (cc hz (.cons .here .nil) fun w pz ho=>y2b _ _ _ (z7d:=z4y) (z9t:=z6c) _ _ _ _ (zaZ:=z2N) _ zsl w pz zij zik ho) ?_
    rintro  zmY
    refine WL.repin (i:=0) rfl (u:=(.slice z2Y zii.length z2Z)) (y1z zmY.symm) ?_
    refine WL.nil ?_
    obtain rfl:=Option.some.inj h
    refine WX.y1S Try.results68 .nil (fun w hw=>?_)
    exact ⟨y49,(zmY.trans zsk),hw.sub (.cons .here .nil)⟩
end Go.Proofs.Ytinchjigeakocaa

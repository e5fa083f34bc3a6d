/- A part of this claim's proof: models of functions, walks, plain laws. No conditions. -/
import Derived.Test.YtinchjigeakocaaW31b
namespace Go.Proofs.Ytinchjigeakocaa
open Go Go.RowKit Sep
set_option linter.all false
set_option maxRecDepth 30000
set_option maxHeartbeats 4000000
def yL (z4Y : Sport_frame → Option Bool) (z9b : (List Sport_frame) → Int → Option (List Sport_frame)) : Nat → (List Sport_frame) → Int → Int → Option (List Sport_frame)
 | 0,_,_,_=>none
 | zn1 + 1,z1g,z2v,z1r=>if decide (z1r < ((z1g.length : Nat) : Int)) then jp2 (fun (z5I : List Sport_frame) (z9c : Int)=>yL z4Y z9b zn1 z5I z9c (i64 (z1r + 1))) fun zk1=>chk ((0 : Int) ≤ z1r ∧ z1r < ((z1g.length : Nat) : Int)) ((z4Y (⟨((nth z1g z1r).fSize),((nth z1g z1r).fFin)⟩ : Sport_frame)).bind fun zn2=>if !zn2 then chk ((0 : Int) ≤ z2v ∧ z2v < ((z1g.length : Nat) : Int)) (zk1 (z1g.set (z2v : Int).toNat (⟨((nth z1g z1r).fSize),((nth z1g z1r).fFin)⟩ : Sport_frame)) (i64 (z2v + 1))) else zk1 z1g z2v) else z9b z1g z2v
theorem y3C {n : Nat} {z4Y : Sport_frame → Option Bool} {z9b : (List Sport_frame) → Int → Option (List Sport_frame)} {z1g : List Sport_frame} {z2v : Int} {z1r : Int} {r : List Sport_frame} (h : yL z4Y z9b n z1g z2v z1r = some r) : ∃ m,n = m + 1:=by
 cases n with
 | zero=>cases h
 | succ m=>exact ⟨m,rfl⟩
def y14 (z2w : List Sport_frame) (z4Y : Sport_frame → Option Bool) : Option (List Sport_frame) :=
 (y15 z2w z4Y).bind fun zdx=>if decide (zdx = (-1)) then some z2w else jp2 (fun (z2x : List Sport_frame) (z2y : Int)=>chk ((0 : Int) ≤ z2y ∧ z2y ≤ ((z2x.length : Nat) : Int)) (chk ((0 : Int) ≤ z2y ∧ z2y ≤ (((z2x.take (z2y : Int).toNat ++ List.replicate (z2x.length - (z2y : Int).toNat) ((⟨0,0⟩ : Sport_frame) : Sport_frame)).length : Nat) : Int)) (some ((z2x.take (z2y : Int).toNat ++ List.replicate (z2x.length - (z2y : Int).toNat) ((⟨0,0⟩ : Sport_frame) : Sport_frame)).take (z2y : Int).toNat)))) fun z9b=>yL z4Y z9b yw z2w zdx (i64 (zdx + 1))
set_option maxRecDepth 20000 in
theorem y4k (Z : Zp) (z3Q : Option Addr) (z3q : Nat) (z6v : FuncId) (z9d : List Value) (z2w : List Sport_frame) (z4Y : Sport_frame → Option Bool) (r : List Sport_frame)
  (h : y14 z2w z4Y = some r) (w₀ : World) (hz : PZ (fps [row (.slice z3Q z2w.length z3q) 146 2 (z2w.flatMap y2d)]) w₀ Z)
  (zt1 : ∀ args w,(callFunc z6v args).run Try.prog w = .ok (.enter z6v args) w)
  (zt2 : ∀ w : World,PZ [] w Z → ∀ (x0 : Sport_frame) (r : Bool),z4Y x0 = some r → Calls Try.prog z6v (([(.agg #[(.int .i64 x0.fSize),(.int .i64 x0.fFin)])] : List Value) ++ z9d).toArray w fun e w'=>e = .returned (.bool r) ∧ Hp [] w w' [])
  (hown : Hp (fps [row (.slice z3Q z2w.length z3q) 146 2 (z2w.flatMap y2d)]) w₀ w₀ [row (.slice z3Q z2w.length z3q) 146 2 (z2w.flatMap y2d)]) :
  Calls Try.prog 54 #[(.slice z3Q z2w.length z3q),(.func (.func z6v) #[] (z9d).toArray)] w₀ fun e w'=>∃ zt3 : Option Addr,∃ zt4 : Nat,e = .returned (.slice zt3 r.length zt4) ∧ True ∧ Hp (fps [row (.slice z3Q z2w.length z3q) 146 2 (z2w.flatMap y2d)]) w₀ w' [row (.slice zt3 r.length zt4) 146 2 (r.flatMap y2d)]:=by
 unfold y14 at h
 refine Calls.yp (vs:=[(.slice z3Q z2w.length z3q),(.func (.func z6v) #[] (z9d).toArray)]) (pre:=[row (.slice z3Q z2w.length z3q) 146 2 (z2w.flatMap y2d)]) (env:=[(0,(.slice z3Q z2w.length z3q)),(1,(.func (.func z6v) #[] (z9d).toArray))]) Try.func54 rfl Try.ntmps54 rfl (hown) rfl ?_
 refine WC.b (WC.a (WL.pu rfl (WL.nil (WX.a (WC.b ?_)))))
 obtain ⟨zdx,zzC,h⟩:=zg h
 refine WC.a (WL.pu rfl (WL.pu rfl ?_))
 refine WL.b (dd:=10) rfl rfl rfl (zC (l:=[.tmp 8,.tmp 9]) Try.call63 (.cons rfl (.cons rfl .nil))) .nil (ccl hz .nil (.cons .here .nil) fun w pz ho la=>y4u _ _ _ (z9a:=z6v) (zbW:=z9d) _ (z6u:=z4Y) _ zzC w pz (ZA.row (la _ (.head _) _) (RR.y19 (enc:=y2d) (fun _=>rfl) _) ⟨w,pz.1⟩) zt1 (fun w' hz'=>zt2 w' (hz'.le (Zle.left _ _)))) ?_
 refine WL.pu rfl (WL.nil (WX.a (WC.b (WC.b (WC.a (WL.pu rfl (WL.pu rfl (WL.nil (WX.a ?_)))))))))
 refine WC.cond rfl (fun zn3=>?_) (fun zn3=>?_)
 ·replace h:=ym h zn3
  refine WC.b (WC.a (WL.pu rfl (WL.pu rfl (WL.nil (WX.a (WC.ret (WX.yj ?_)))))))
  obtain rfl:=Option.some.inj h
  refine WX.yi Try.results54 (.tmp rfl .nil) (fun w hw=>?_)
  exact ⟨z3Q,z3q,yM rfl,trivial,hw.sub (.cons .here .nil)⟩
 ·replace h:=yn h zn3
  refine WC.skip (WX.a ?_)
  obtain ⟨z9b,zzD,h⟩:=y2s h
  refine WC.y2D (fun (z2x : List Sport_frame) (z2y : Int)=>(z9b z2x z2y = some r) ∧ (z2x.length = z2w.length)) (fun (z2x : List Sport_frame) (z2y : Int)=>[(0,(.slice z3Q z2x.length z3q)),(5,(.int .i64 z2y))]) (fun (z2x : List Sport_frame) (z2y : Int)=>[row (.slice z3Q z2x.length z3q) 146 2 (z2x.flatMap y2d)]) ?_ ?_
  ·skip
   refine WC.b (WC.a (WL.pu rfl (WL.pu rfl (WL.pu rfl (WL.nil (WX.a (WC.block ?_)))))))
   refine WC.y5X (fun (zdy : Nat) (z1g : List Sport_frame) (z2v : Int) (z1r : Int)=>(yL z4Y z9b zdy z1g z2v z1r = some r) ∧ (z1g.length = z2w.length)) (fun (zdy : Nat) (z1g : List Sport_frame) (z2v : Int) (z1r : Int)=>[(0,(.slice z3Q z1g.length z3q)),(1,(.func (.func z6v) #[] (z9d).toArray)),(5,(.int .i64 z2v)),(6,(.int .i64 z1r))]) (fun (zdy : Nat) (z1g : List Sport_frame) (z2v : Int) (z1r : Int)=>[row (.slice z3Q z1g.length z3q) 146 2 (z1g.flatMap y2d)]) (fun (zdy : Nat) (z1g : List Sport_frame) (z2v : Int) (z1r : Int)=>zdy) ⟨yw,z2w,zdx,(i64 (zdx + 1))⟩ ⟨h,rfl⟩ (.cons rfl (.cons rfl (.cons rfl (.cons rfl .nil)))) (.cons .here .nil) ?_
   rintro zdy z1g z2v z1r ⟨h,zn4⟩
   obtain ⟨zn1,rfl⟩:=y3C h
   rw [yL] at h
   refine WC.b (WC.b (WC.a (WL.pu rfl (WL.pu rfl ?_))))
   refine WL.a (d:=18) rfl rfl rfl (yz Try.underlying141 rfl) ?_
   refine WL.pu rfl (WL.nil (WX.a ?_))
   refine WC.cond rfl (fun zn5=>?_) (fun zn5=>?_)
   ·replace h:=ym h zn5
    refine WC.skip (WX.a ?_)
    obtain ⟨zk1,zzE,h⟩:=y2s h
    refine WC.y2D (fun (z5I : List Sport_frame) (z9c : Int)=>(zk1 z5I z9c = some r) ∧ (z5I.length = z2w.length)) (fun (z5I : List Sport_frame) (z9c : Int)=>[(0,(.slice z3Q z5I.length z3q)),(1,(.func (.func z6v) #[] (z9d).toArray)),(5,(.int .i64 z9c)),(6,(.int .i64 z1r))]) (fun (z5I : List Sport_frame) (z9c : Int)=>[row (.slice z3Q z5I.length z3q) 146 2 (z5I.flatMap y2d)]) ?_ ?_
    ·skip
     refine WC.block (WC.b ?_)
     obtain ⟨zhu,h⟩:=ye h
     refine WC.a (WL.pu rfl (WL.pu rfl ?_))
     refine WL.know (fun w hw=>Hp.y2g .here hw (by intro hz'; have:=zhu; rw [hz'] at this; omega)) ?_
     rintro ⟨zt5,rfl⟩
     refine WL.a (d:=24) rfl rfl rfl (yu z8C rfl rfl zhu.1 zhu.2 y1c) ?_
     refine WL.a (d:=25) rfl rfl rfl (y1J (cs:=(y2d (nth z1g z1r))) zcI rfl rfl (y1U .here (y1V (enc:=y2d) (l:=z1g) (i:=z1r) (sz:=2) (fun _=>rfl) zhu.1 zhu.2))) ?_
     refine WL.new (dd:=7) rfl rfl rfl (y28 (cs:=[(.int .i64 0),(.int .i64 0)]) zlA rfl) ?_
     intro zJu _
     refine WL.y1e rfl rfl (y1z zlB rfl rfl rfl .here rfl rfl rfl) ?_
     refine WL.nil (WX.a (WC.b ?_))
     obtain ⟨zn2,zzF,h⟩:=zg h
     refine WC.a (WL.pu rfl ?_)
     refine WL.a (d:=27) rfl rfl rfl (yx zcI rfl (yQ .here) rfl) ?_
     refine WL.b (dd:=28) rfl rfl rfl (y4q (l:=[.tmp 27]) (f:=z6v) (caps:=z9d) zt1 rfl (.cons rfl .nil)) .nil (fun w hw=>zt2 w (hz.now hw) (⟨((nth z1g z1r).fSize),((nth z1g z1r).fFin)⟩ : Sport_frame) zn2  zzF) ?_
     refine WL.pu rfl (WL.nil (WX.a ?_))
     refine WC.cond rfl (fun zn6=>?_) (fun zn6=>?_)
     ·replace h:=ym h zn6
      refine WC.b ?_
      obtain ⟨zdz,h⟩:=ye h
      refine WC.a (WL.pu rfl (WL.pu rfl ?_))
      refine WL.a (d:=32) rfl rfl rfl (yx zcI rfl (yQ .here) rfl) ?_
      refine WL.a (d:=33) rfl rfl rfl (yu z8C rfl rfl zdz.1 zdz.2 y1c) ?_
      refine WL.y1e rfl rfl (y2C (vs:=[(.int .i64 ((nth z1g z1r).fSize)),(.int .i64 ((nth z1g z1r).fFin))]) (ds:=(z1g.set (z2v : Int).toNat (⟨((nth z1g z1r).fSize),((nth z1g z1r).fFin)⟩ : Sport_frame)).flatMap y2d) zlB rfl rfl rfl rfl (ocB rfl) .h1 (y3I (enc:=y2d) (sz:=2) (k:=0) (fun _=>rfl) zdz.1 zdz.2 (by decide)) (y3H (enc:=y2d) (l:=z1g) (sz:=2) (vs:=[(.int .i64 ((nth z1g z1r).fSize)),(.int .i64 ((nth z1g z1r).fFin))]) (y:=(⟨((nth z1g z1r).fSize),((nth z1g z1r).fFin)⟩ : Sport_frame)) (k:=0) (fun _=>rfl) zdz.1 zdz.2 rfl (Nat.le_of_ble_eq_true rfl))) ?_
      refine WL.relen .here (u:=(.slice (some ⟨zt5,0,none⟩) ((z1g.set (z2v : Int).toNat (⟨((nth z1g z1r).fSize),((nth z1g z1r).fFin)⟩ : Sport_frame)).length) z3q)) (y1W (List.length_set).symm) ?_
      refine WL.repin (i:=0) rfl (u:=(.slice (some ⟨zt5,0,none⟩) ((z1g.set (z2v : Int).toNat (⟨((nth z1g z1r).fSize),((nth z1g z1r).fFin)⟩ : Sport_frame)).length) z3q)) (y1W (List.length_set).symm) ?_
      refine WL.nil (WX.a (WC.a (WL.pu rfl (WL.pu rfl (WL.pu rfl (WL.nil (WX.yk ?_)))))))
      exact WX.mid (G:=List Sport_frame × Int) ⟨(z1g.set (z2v : Int).toNat (⟨((nth z1g z1r).fSize),((nth z1g z1r).fFin)⟩ : Sport_frame)),(i64 (z2v + 1))⟩ ⟨h,((List.length_set).trans zn4)⟩ (.cons rfl (.cons rfl (.cons rfl (.cons rfl .nil)))) (.cons .here .nil)
     ·replace h:=yn h zn6
      refine WC.skip (WX.yk ?_)
      exact WX.mid (G:=List Sport_frame × Int) ⟨z1g,z2v⟩ ⟨h,zn4⟩ (.cons rfl (.cons rfl (.cons rfl (.cons rfl .nil)))) (.cons .h1 .nil)
    ·rintro z5I z9c ⟨h,zzG⟩
     replace h:=(zzE z5I z9c).symm.trans h
     refine WC.a (WL.pu rfl (WL.pu rfl (WL.pu rfl (WL.nil ?_))))
     exact WX.round (G:=Nat × List Sport_frame × Int × Int) ⟨zn1,z5I,z9c,(i64 (z1r + 1))⟩ ⟨h,zzG⟩ (Nat.lt_succ_self _) (.cons rfl (.cons rfl (.cons rfl (.cons rfl .nil)))) (.cons .here .nil)
   ·replace h:=yn h zn5
    refine WC.exit (WX.yg (WX.yg (WX.yv ?_)))
    exact WX.mid (G:=List Sport_frame × Int) ⟨z1g,z2v⟩ ⟨h,zn4⟩ (.cons rfl (.cons rfl .nil)) (.cons .here .nil)
  ·rintro z2x z2y ⟨h,zJv⟩
   replace h:=(zzD z2x z2y).symm.trans h
   refine WC.b ?_
   obtain ⟨zk2,h⟩:=ye h
   refine WC.a (WL.pu rfl (WL.pu rfl ?_))
   refine WL.yb6 (dd:=38) rfl rfl z8C rfl rfl .here zk2 ?_
   intro zJw zJx zzH
   refine WL.y1e rfl rfl (y9A (enc:=y2d) (z0:=((⟨0,0⟩ : Sport_frame) : Sport_frame)) (l:=z2x) z8C zlA rfl zzH zk2 (fun _=>rfl) (by decide) rfl yak .here) ?_
   refine WL.relen .here (u:=(.slice z3Q ((z2x.take (z2y : Int).toNat ++ List.replicate (z2x.length - (z2y : Int).toNat) ((⟨0,0⟩ : Sport_frame) : Sport_frame)).length) z3q)) (y1W (y7y zk2).symm) ?_
   refine WL.repin (i:=0) rfl (u:=(.slice z3Q ((z2x.take (z2y : Int).toNat ++ List.replicate (z2x.length - (z2y : Int).toNat) ((⟨0,0⟩ : Sport_frame) : Sport_frame)).length) z3q)) (y1W (y7y zk2).symm) ?_
   refine WL.nil (WX.a (WC.b ?_))
   obtain ⟨zzI,h⟩:=ye h
   refine WC.a (WL.pu rfl (WL.pu rfl ?_))
   refine WL.y7z (dd:=41) (enc:=y2d) (ls:=z2x.take (z2y : Int).toNat ++ List.replicate (z2x.length - (z2y : Int).toNat) ((⟨0,0⟩ : Sport_frame) : Sport_frame)) rfl rfl z8C rfl rfl .here (fun _=>rfl) zzI ?_
   intro zzJ zzK
   refine WL.pu rfl (WL.nil (WX.a (WC.ret ?_)))
   obtain rfl:=Option.some.inj h
   refine WX.yi Try.results54 (.tmp rfl .nil) (fun w hw=>?_)
   exact ⟨zzJ,zzK,yM rfl,trivial,hw.sub (.cons .here .nil)⟩
def y2O (z6w : Sport_frame) (zk3 : Int) : Option Bool :=
 some (decide (z6w.fFin > zk3))
set_option maxRecDepth 20000 in
theorem y7E (Z : Zp) (zk4 : Addr) (z6w : Sport_frame) (zk3 : Int) (r : Bool)
  (h : y2O z6w zk3 = some r) (w₀ : World) (hz : PZ [] w₀ Z)
  (zzL : ZC Z zk4 [(.int .i64 zk3)]) :
  Calls Try.prog 65 #[(.agg #[(.int .i64 z6w.fSize),(.int .i64 z6w.fFin)]),(.pointer (some zk4))] w₀ fun e w'=>e = .returned (.bool r) ∧ Hp [] w₀ w' []:=by
 unfold y2O at h
 refine Calls.yp (vs:=[(.agg #[(.int .i64 z6w.fSize),(.int .i64 z6w.fFin)]),(.pointer (some zk4))]) (pre:=[]) (env:=[(0,(.agg #[(.int .i64 z6w.fSize),(.int .i64 z6w.fFin)])),(1,(.pointer (some zk4)))]) Try.func65 rfl Try.ntmps65 rfl (Hp.nil w₀ _) rfl ?_
 refine WC.b (WC.a ?_)
 refine WL.new (dd:=2) rfl rfl rfl (y1N (cs:=[(.int .i64 z6w.fSize),(.int .i64 z6w.fFin)]) rfl rfl) ?_
 intro zJy _
 refine WL.pu rfl (WL.nil (WX.a (WC.b (WC.a ?_))))
 refine WL.a (d:=4) rfl rfl rfl (ya y9R rfl rfl) ?_
 refine WL.a (d:=5) rfl rfl rfl (yb yd rfl (yc .here rfl)) ?_
 refine WL.a (d:=6) rfl rfl rfl (yb yd rfl (y4R hz.pv zzL rfl)) ?_
 refine WL.pu rfl (WL.pu rfl (WL.nil (WX.a (WC.ret ?_))))
 obtain rfl:=Option.some.inj h
 refine WX.yi Try.results65 (.tmp rfl .nil) (fun w hw=>?_)
 exact ⟨yM rfl,hw.sub .nil⟩
def y2j (z25 : Sport_Port) (z6x : Sport_frame → Option Bool) (z9e : Int → Option Int) : Nat → Int → Int → Option Int
 | 0,_,_=>none
 | zn7 + 1,z4n,z2U=>if decide (z2U < ((z25.fFrames.length : Nat) : Int)) then jp1 (fun (z9f : Int)=>y2j z25 z6x z9e zn7 z9f (i64 (z2U + 1))) fun zk5=>chk ((0 : Int) ≤ z2U ∧ z2U < ((z25.fFrames.length : Nat) : Int)) ((z6x (⟨((nth z25.fFrames z2U).fSize),((nth z25.fFrames z2U).fFin)⟩ : Sport_frame)).bind fun zn8=>if zn8 then zk5 (i64 (z4n + ((nth z25.fFrames z2U).fSize))) else zk5 z4n) else z9e z4n
theorem y6d {n : Nat} {z25 : Sport_Port} {z6x : Sport_frame → Option Bool} {z9e : Int → Option Int} {z4n : Int} {z2U : Int} {r : Int} (h : y2j z25 z6x z9e n z4n z2U = some r) : ∃ m,n = m + 1:=by
 cases n with
 | zero=>cases h
 | succ m=>exact ⟨m,rfl⟩
def y3k (z25 : Sport_Port) (z6x : Sport_frame → Option Bool) : Option Int :=
 jp1 (fun (zal : Int)=>some zal) fun z9e=>y2j z25 z6x z9e yw 0 0
set_option maxRecDepth 20000 in
theorem y8x (Z : Zp) (zk6 : Addr) (zk7 : Option Addr) (zk8 : Nat) (z88 : FuncId) (zam : List Value) (z25 : Sport_Port) (z6x : Sport_frame → Option Bool) (r : Int)
  (h : y3k z25 z6x = some r) (w₀ : World) (hz : PZ [] w₀ Z)
  (zzM : ZS Z 2 (fun r x=>r = y2d x) zk7 zk8 z25.fFrames)
  (zzN : ZC Z zk6 [(.int .i64 z25.fNumbers.fSlow),(.int .i64 z25.fNumbers.fDelay),(.int .i64 z25.fNumbers.fStore),(.int .i64 z25.fNow),(.int .i64 z25.fLast),(.slice zk7 z25.fFrames.length zk8)])
  (zzO : ∀ args w,(callFunc z88 args).run Try.prog w = .ok (.enter z88 args) w)
  (zzP : ∀ w : World,PZ [] w Z → ∀ (x0 : Sport_frame) (r : Bool),z6x x0 = some r → Calls Try.prog z88 (([(.agg #[(.int .i64 x0.fSize),(.int .i64 x0.fFin)])] : List Value) ++ zam).toArray w fun e w'=>e = .returned (.bool r) ∧ Hp [] w w' []) :
  Calls Try.prog 64 #[(.pointer (some zk6)),(.func (.func z88) #[] (zam).toArray)] w₀ fun e w'=>e = .returned (.int .i64 r) ∧ Hp [] w₀ w' []:=by
 unfold y3k at h
 refine Calls.yp (vs:=[(.pointer (some zk6)),(.func (.func z88) #[] (zam).toArray)]) (pre:=[]) (env:=[(0,(.pointer (some zk6))),(1,(.func (.func z88) #[] (zam).toArray))]) Try.func64 rfl Try.ntmps64 rfl (Hp.nil w₀ _) rfl ?_
 refine WC.b (WC.a (WL.pu rfl (WL.nil (WX.a (WC.b (WC.a (WL.pu rfl (WL.nil (WX.a ?_)))))))))
 obtain ⟨z9e,zzQ,h⟩:=yU h
 refine WC.y1i (fun (zal : Int)=>(z9e zal = some r)) (fun (zal : Int)=>[(5,(.int .i64 zal))]) (fun (zal : Int)=>[]) ?_ ?_
 ·skip
  refine WC.b (WC.a (WL.pu rfl ?_))
  refine WL.a (d:=9) rfl rfl rfl (yy rfl) ?_
  refine WL.a (d:=10) rfl rfl rfl (ya y62 rfl rfl) ?_
  refine WL.a (d:=11) rfl rfl rfl (yb zlz rfl (yD hz.pv zzN rfl)) ?_
  refine WL.a (d:=12) rfl rfl rfl (yz Try.underlying141 rfl) ?_
  refine WL.pu rfl (WL.nil (WX.a (WC.block ?_)))
  refine WC.y2F (fun (zdA : Nat) (z4n : Int) (z2U : Int)=>(y2j z25 z6x z9e zdA z4n z2U = some r)) (fun (zdA : Nat) (z4n : Int) (z2U : Int)=>[(1,(.func (.func z88) #[] (zam).toArray)),(5,(.int .i64 z4n)),(11,(.slice zk7 z25.fFrames.length zk8)),(12,(.int .i64 ((z25.fFrames.length : Nat) : Int))),(13,(.int .i64 z2U))]) (fun (zdA : Nat) (z4n : Int) (z2U : Int)=>[]) (fun (zdA : Nat) (z4n : Int) (z2U : Int)=>zdA) ⟨yw,0,0⟩ h (.cons rfl (.cons rfl (.cons rfl (.cons rfl (.cons rfl .nil))))) .nil ?_
  rintro zdA z4n z2U h
  obtain ⟨zn7,rfl⟩:=y6d h
  rw [y2j] at h
  refine WC.b (WC.a (WL.pu rfl (WL.nil (WX.a (WC.b ?_)))))
  refine WC.cond rfl (fun zn9=>?_) (fun zn9=>?_)
  ·replace h:=ym h zn9
   refine WC.skip (WX.a ?_)
   obtain ⟨zk5,zzR,h⟩:=yU h
   refine WC.y1i (fun (z9f : Int)=>(zk5 z9f = some r)) (fun (z9f : Int)=>[(1,(.func (.func z88) #[] (zam).toArray)),(5,(.int .i64 z9f)),(11,(.slice zk7 z25.fFrames.length zk8)),(12,(.int .i64 ((z25.fFrames.length : Nat) : Int))),(13,(.int .i64 z2U))]) (fun (z9f : Int)=>[]) ?_ ?_
   ·skip
    refine WC.block (WC.b ?_)
    obtain ⟨zzS,h⟩:=ye h
    refine WC.a ?_
    refine WL.znth (dd:=15) rfl rfl (Z:=Z) (Pr:=(fun r x=>r = y2d x)) z8C rfl rfl zzM zzS ?_
    rintro zJz zJA zzT zJB rfl
    refine WL.a (d:=16) rfl rfl rfl (yx zcI rfl (y4t hz.pv zzT) rfl) ?_
    refine WL.new (dd:=7) rfl rfl rfl (y28 (cs:=[(.int .i64 0),(.int .i64 0)]) zlA rfl) ?_
    intro zJC _
    refine WL.y1e rfl rfl (y1z zlB rfl rfl rfl .here rfl rfl rfl) ?_
    refine WL.nil (WX.a (WC.b ?_))
    obtain ⟨zn8,zzU,h⟩:=zg h
    refine WC.a (WL.pu rfl ?_)
    refine WL.a (d:=18) rfl rfl rfl (yx zcI rfl (yQ .here) rfl) ?_
    refine WL.b (dd:=19) rfl rfl rfl (y4q (l:=[.tmp 18]) (f:=z88) (caps:=zam) zzO rfl (.cons rfl .nil)) .nil (fun w hw=>zzP w (hz.now hw) (⟨((nth z25.fFrames z2U).fSize),((nth z25.fFrames z2U).fFin)⟩ : Sport_frame) zn8  zzU) ?_
    refine WL.nil (WX.a ?_)
    refine WC.cond rfl (fun zna=>?_) (fun zna=>?_)
    ·replace h:=ym h zna
     refine WC.a (WL.pu rfl ?_)
     refine WL.a (d:=21) rfl rfl rfl (ya fo_146_0 rfl rfl) ?_
     refine WL.a (d:=22) rfl rfl rfl (yb yd rfl (yc .here rfl)) ?_
     refine WL.pu rfl (WL.pu rfl (WL.nil (WX.yk ?_)))
     exact WX.mid (G:=Int) (i64 (z4n + ((nth z25.fFrames z2U).fSize))) h (.cons rfl (.cons rfl (.cons rfl (.cons rfl (.cons rfl .nil))))) .nil
    ·replace h:=yn h zna
     refine WC.skip (WX.yk ?_)
     exact WX.mid (G:=Int) z4n h (.cons rfl (.cons rfl (.cons rfl (.cons rfl (.cons rfl .nil))))) .nil
   ·rintro z9f h
    replace h:=(zzR z9f).symm.trans h
    refine WC.a (WL.pu rfl (WL.pu rfl (WL.nil ?_)))
    exact WX.round (G:=Nat × Int × Int) ⟨zn7,z9f,(i64 (z2U + 1))⟩ h (Nat.lt_succ_self _) (.cons rfl (.cons rfl (.cons rfl (.cons rfl (.cons rfl .nil))))) .nil
  ·replace h:=yn h zn9
   refine WC.exit (WX.yg (WX.yg (WX.yv ?_)))
   exact WX.mid (G:=Int) z4n h (.cons rfl .nil) .nil
 ·rintro zal h
  replace h:=(zzQ zal).symm.trans h
  refine WC.b (WC.a (WL.pu rfl (WL.pu rfl (WL.nil (WX.a (WC.ret ?_))))))
  obtain rfl:=Option.some.inj h
  refine WX.yi Try.results64 (.tmp rfl .nil) (fun w hw=>?_)
  exact ⟨yM rfl,hw.sub .nil⟩
def y4v (z4Z : Sport_Port) (zan : Int) : Option Int :=
 (y35 z4Z).bind fun zt6=>if zt6 then some 0 else (y3k z4Z (fun (y0 : Sport_frame)=>y2O y0 (max zan z4Z.fNow))).bind fun zt7=>some zt7
set_option maxRecDepth 20000 in
theorem y8b (Z : Zp) (zk9 : Addr) (zt8 : Option Addr) (zt9 : Nat) (z4Z : Sport_Port) (zan : Int) (r : Int)
  (h : y4v z4Z zan = some r) (w₀ : World) (hz : PZ [] w₀ Z)
  (zta : ZS Z 2 (fun r x=>r = y2d x) zt8 zt9 z4Z.fFrames)
  (znb : ZC Z zk9 [(.int .i64 z4Z.fNumbers.fSlow),(.int .i64 z4Z.fNumbers.fDelay),(.int .i64 z4Z.fNumbers.fStore),(.int .i64 z4Z.fNow),(.int .i64 z4Z.fLast),(.slice zt8 z4Z.fFrames.length zt9)]) :
  Calls Try.prog 56 #[(.pointer (some zk9)),(.int .i64 zan)] w₀ fun e w'=>e = .returned (.int .i64 r) ∧ Hp [] w₀ w' []:=by
 unfold y4v at h
 refine Calls.yp (vs:=[(.pointer (some zk9)),(.int .i64 zan)]) (pre:=[]) (env:=[(0,(.pointer (some zk9))),(1,(.int .i64 zan))]) Try.func56 rfl Try.ntmps56 rfl (Hp.nil w₀ _) rfl ?_
 refine WC.b (WC.a ?_)
 refine WL.new (dd:=3) rfl rfl rfl (y1N (cs:=[(.int .i64 zan)]) rfl rfl) ?_
 intro zzV _
 refine WL.pu rfl (WL.nil (WX.a (WC.b (WC.b ?_))))
 obtain ⟨zt6,zzW,h⟩:=zg h
 refine WC.a (WL.pu rfl ?_)
 refine WL.b (dd:=6) rfl rfl rfl (zC (l:=[.tmp 5]) Try.call53 (.cons rfl .nil)) .nil (cc hz .nil fun w pz ho=>y65 _ _ _ _ _ _ zzW w pz zta znb) ?_
 refine WL.nil (WX.a ?_)
 refine WC.cond rfl (fun znc=>?_) (fun znc=>?_)
 ·replace h:=ym h znc
  refine WC.b (WC.a (WL.pu rfl (WL.nil (WX.a (WC.ret (WX.yj ?_))))))
  obtain rfl:=Option.some.inj h
  refine WX.yi Try.results56 (.tmp rfl .nil) (fun w hw=>?_)
  exact ⟨yM rfl,hw.sub .nil⟩
 ·replace h:=yn h znc
  refine WC.skip (WX.a (WC.b ?_))
  refine WC.yI (fun i=>[6].contains i) [] rfl ?_
  refine WD.e (i:=0) (d:=7) (by kernel_rfl) rfl z2 z3 rfl rfl rfl (yb yd rfl (yc .here rfl)) ?_
  refine WD.a (i:=1) (d:=8) (by kernel_rfl) rfl z2 z3 rfl rfl rfl (fun _=>q_m rfl) ?_
  refine WD.a (i:=2) (d:=9) (by kernel_rfl) rfl z2 z3 rfl rfl rfl (fun _=>yy rfl) ?_
  refine WD.a (i:=3) (d:=10) (by kernel_rfl) rfl z2 z3 rfl rfl rfl (fun _=>ya y88 rfl rfl) ?_
  refine WD.e (i:=4) (d:=11) (by kernel_rfl) rfl z2 z3 rfl rfl rfl (yb yd rfl (yD hz.pv znb rfl)) ?_
  refine WD.a (i:=5) (d:=12) (by kernel_rfl) rfl z2 z3 rfl rfl rfl (fun _=>q_max rfl rfl rfl) ?_
  refine WD.y3G (i:=6) rfl (by kernel_rfl) rfl rfl rfl (by kernel_rfl) (y1z y8t rfl rfl rfl .here rfl rfl rfl) ?_
  refine WD.done (by kernel_rfl) ?_
  refine WX.a (WC.b ?_)
  obtain ⟨zt7,zzX,h⟩:=zg h
  refine WC.a (WL.pu rfl ?_)
  refine WL.a (d:=14) rfl rfl rfl (y6Y (Eos.caps (l:=[.tmp 3]) (.cons rfl .nil))) ?_
  refine WL.b (dd:=15) rfl rfl rfl (zC (l:=[.tmp 13,.tmp 14]) Try.call64 (.cons rfl (.cons rfl .nil))) .nil (ccl hz .nil (.cons .here .nil) fun w pz ho la=>y8x _ _ _ _ (z88:=65) (zam:=[(.pointer (some ⟨zzV,0,none⟩))]) _ (z6x:=(fun (y0 : Sport_frame)=>y2O y0 (max zan z4Z.fNow))) _ zzX w pz (zta.mono (Zle.left _ _)) (znb.mono (Zle.left _ _)) Try.call65 (fun w' hz' y0  r  hr=>y7E _ _ _ _ _ hr w' hz' ((la _ (.head _) _).stb))) ?_
  refine WL.pu rfl (WL.nil (WX.a (WC.ret ?_)))
  obtain rfl:=Option.some.inj h
  refine WX.yi Try.results56 (.tmp rfl .nil) (fun w hw=>?_)
  exact ⟨yM rfl,hw.sub .nil⟩
def y2W (zo : Sport_Port) (z1p : Int) (zV : Int) : Option (Int × Int × Sport_Port) :=
 (y35 zo).bind fun zao=>if zao then some (0,1,zo) else if (((decide (zV < 1)) || (decide (zV > 72))) || (decide (z1p < zo.fNow))) || (decide (z1p > 1073741824)) then some (0,2,zo) else (y14 zo.fFrames (fun (y0 : Sport_frame)=>y2Z y0 z1p)).bind fun z89=>(y4v (⟨zo.fNumbers,z1p,zo.fLast,z89⟩ : Sport_Port) z1p).bind fun ztb=>if decide ((i64 (ztb + zV)) > zo.fNumbers.fStore) then some (0,4,(⟨zo.fNumbers,z1p,zo.fLast,z89⟩ : Sport_Port)) else chk ((((z89 ++ ([(⟨zV,i64 ((max (i64 (z1p + zo.fNumbers.fDelay)) zo.fLast) + (i64 (zV * zo.fNumbers.fSlow)))⟩ : Sport_frame)] : List Sport_frame)).length : Nat) : Int) * 16 ≤ 140737488355328 ∧ (((z89 ++ ([(⟨zV,i64 ((max (i64 (z1p + zo.fNumbers.fDelay)) zo.fLast) + (i64 (zV * zo.fNumbers.fSlow)))⟩ : Sport_frame)] : List Sport_frame)).length : Nat) : Int) ≤ 4611686018427387904) (some ((i64 ((max (i64 (z1p + zo.fNumbers.fDelay)) zo.fLast) + (i64 (zV * zo.fNumbers.fSlow)))),0,(⟨zo.fNumbers,z1p,i64 ((max (i64 (z1p + zo.fNumbers.fDelay)) zo.fLast) + (i64 (zV * zo.fNumbers.fSlow))),z89 ++ ([(⟨zV,i64 ((max (i64 (z1p + zo.fNumbers.fDelay)) zo.fLast) + (i64 (zV * zo.fNumbers.fSlow)))⟩ : Sport_frame)] : List Sport_frame)⟩ : Sport_Port)))
set_option maxRecDepth 20000 in
theorem y8y (Z : Zp) (z4o : Nat) (z50 : Option Addr) (z51 : Nat) (zo : Sport_Port) (z1p : Int) (zV : Int) (r : Int × Int × Sport_Port)
  (h : y2W zo z1p zV = some r) (w₀ : World) (hz : PZ (fps [stb z4o 143 [(.int .i64 zo.fNumbers.fSlow),(.int .i64 zo.fNumbers.fDelay),(.int .i64 zo.fNumbers.fStore),(.int .i64 zo.fNow),(.int .i64 zo.fLast),(.slice z50 zo.fFrames.length z51)],row (.slice z50 zo.fFrames.length z51) 146 2 (zo.fFrames.flatMap y2d)]) w₀ Z)
  (hown : Hp (fps [stb z4o 143 [(.int .i64 zo.fNumbers.fSlow),(.int .i64 zo.fNumbers.fDelay),(.int .i64 zo.fNumbers.fStore),(.int .i64 zo.fNow),(.int .i64 zo.fLast),(.slice z50 zo.fFrames.length z51)],row (.slice z50 zo.fFrames.length z51) 146 2 (zo.fFrames.flatMap y2d)]) w₀ w₀ [stb z4o 143 [(.int .i64 zo.fNumbers.fSlow),(.int .i64 zo.fNumbers.fDelay),(.int .i64 zo.fNumbers.fStore),(.int .i64 zo.fNow),(.int .i64 zo.fLast),(.slice z50 zo.fFrames.length z51)],row (.slice z50 zo.fFrames.length z51) 146 2 (zo.fFrames.flatMap y2d)]) :
  Calls Try.prog 41 #[(.pointer (some ⟨z4o,0,none⟩)),(.int .i64 z1p),(.int .i64 zV)] w₀ fun e w'=>∃ ztc : Option Addr,∃ ztd : Nat,e = .returned (.tuple #[(.int .i64 r.1),(.int .i64 r.2.1)]) ∧ True ∧ Hp (fps [stb z4o 143 [(.int .i64 zo.fNumbers.fSlow),(.int .i64 zo.fNumbers.fDelay),(.int .i64 zo.fNumbers.fStore),(.int .i64 zo.fNow),(.int .i64 zo.fLast),(.slice z50 zo.fFrames.length z51)],row (.slice z50 zo.fFrames.length z51) 146 2 (zo.fFrames.flatMap y2d)]) w₀ w' [stb z4o 143 [(.int .i64 r.2.2.fNumbers.fSlow),(.int .i64 r.2.2.fNumbers.fDelay),(.int .i64 r.2.2.fNumbers.fStore),(.int .i64 r.2.2.fNow),(.int .i64 r.2.2.fLast),(.slice ztc r.2.2.fFrames.length ztd)],row (.slice ztc r.2.2.fFrames.length ztd) 146 2 (r.2.2.fFrames.flatMap y2d)]:=by
 unfold y2W at h
 refine Calls.yp (vs:=[(.pointer (some ⟨z4o,0,none⟩)),(.int .i64 z1p),(.int .i64 zV)]) (pre:=[stb z4o 143 [(.int .i64 zo.fNumbers.fSlow),(.int .i64 zo.fNumbers.fDelay),(.int .i64 zo.fNumbers.fStore),(.int .i64 zo.fNow),(.int .i64 zo.fLast),(.slice z50 zo.fFrames.length z51)],row (.slice z50 zo.fFrames.length z51) 146 2 (zo.fFrames.flatMap y2d)]) (env:=[(0,(.pointer (some ⟨z4o,0,none⟩))),(1,(.int .i64 z1p)),(2,(.int .i64 zV))]) Try.func41 rfl Try.ntmps41 rfl (hown) rfl ?_
 refine WC.b (WC.a ?_)
 refine WL.new (dd:=4) rfl rfl rfl (y1N (cs:=[(.int .i64 z1p)]) rfl rfl) ?_
 intro zka _
 refine WL.pu rfl (WL.pu rfl (WL.nil (WX.a (WC.b (WC.block (WC.b ?_))))))
 obtain ⟨zao,zzY,h⟩:=zg h
 refine WC.a (WL.pu rfl ?_)
 refine WL.b (dd:=10) rfl rfl rfl (zC (l:=[.tmp 9]) Try.call53 (.cons rfl .nil)) .nil (ccl hz .nil (.cons .h1 (.cons .h1 .nil)) fun w pz ho la=>y65 _ _ _ _ _ _ zzY w pz (ZA.row (la _ (.tail _ (.head _)) _) (RR.y19 (enc:=y2d) (fun _=>rfl) _) ⟨w,pz.1⟩) ((la _ (.head _) _).stb)) ?_
 refine WL.pu rfl (WL.nil (WX.a ?_))
 refine WC.cond rfl (fun znd=>?_) (fun znd=>?_)
 ·replace h:=ym h znd
  refine WC.b (WC.a (WL.pu rfl (WL.pu rfl (WL.nil (WX.a (WC.ret (WX.yH (WX.yj ?_))))))))
  obtain rfl:=Option.some.inj h
  refine WX.yi Try.results41 (.tmp rfl (.tmp rfl .nil)) (fun w hw=>?_)
  exact ⟨z50,z51,ret2 rfl rfl,trivial,hw.sub (.cons .h1 (.cons .h1 .nil))⟩
 ·replace h:=yn h znd
  refine WC.b ?_
  refine WC.yI (fun i=>[].contains i) [] rfl ?_
  refine WD.a (i:=0) (d:=12) (by kernel_rfl) rfl z2 z3 rfl rfl rfl (fun _=>q_m rfl) ?_
  refine WD.a (i:=1) (d:=13) (by kernel_rfl) rfl z2 z3 rfl rfl rfl (fun _=>y3O rfl rfl) ?_
  refine WD.a (i:=2) (d:=14) (by kernel_rfl) rfl z2 z3 rfl rfl rfl (fun _=>q_m rfl) ?_
  refine WD.mid (fuel':=13) [(0,(.pointer (some ⟨z4o,0,none⟩))),(1,(.int .i64 z1p)),(2,(.int .i64 zV)),(4,(.pointer (some ⟨zka,0,none⟩))),(6,(.int .i64 0)),(7,(.int .i64 0)),(9,(.pointer (some ⟨z4o,0,none⟩))),(10,(.bool zao)),(8,(.bool zao)),(12,(.int .i64 zV)),(13,(.bool (decide (zV < 1)))),(14,(.bool (decide (zV < 1)))),(17,(.bool ((decide (zV < 1)) || (decide (zV > 72)))))] (yJ 19 [5,4,3,2,1,0]) ?_ (fun zte=>?_)
  rotate_left
  ·rcases Bool.eq_false_or_eq_true (decide (zV < 1)) with hb' | hb'
   ·have zne:=hb'; clear hb'
    refine WD.pin (i:=14) rfl zne ?_
    refine WD.b (i:=3) (d:=15) (by kernel_rfl) rfl z2 z3 rfl rfl rfl ?_
    refine WD.b (i:=4) (d:=16) (by kernel_rfl) rfl z2 z3 rfl rfl rfl ?_
    refine WD.a (i:=5) (d:=17) (by kernel_rfl) rfl z2 z3 rfl rfl rfl (fun _=>yW rfl rfl) ?_
    refine WD.ys (.cons .here (.cons .here (.cons .here .nil))) ?_ zte
    exact (.cons rfl (.cons rfl (.cons rfl (.cons rfl (.cons rfl (.cons rfl (.cons rfl (.cons rfl (.cons rfl (.cons rfl (.cons rfl (.cons (z7 (Eq.symm zne)) (.cons (z7 (y1p zne)) .nil)))))))))))))
   ·have znf:=hb'; clear hb'
    refine WD.pin (i:=14) rfl znf ?_
    refine WD.a (i:=3) (d:=15) (by kernel_rfl) rfl z2 z3 rfl rfl rfl (fun _=>q_m rfl) ?_
    refine WD.a (i:=4) (d:=16) (by kernel_rfl) rfl z2 z3 rfl rfl rfl (fun _=>y3f rfl rfl) ?_
    refine WD.a (i:=5) (d:=17) (by kernel_rfl) rfl z2 z3 rfl rfl rfl (fun _=>yX rfl rfl) ?_
    refine WD.ys (.cons .here (.cons .here (.cons .here .nil))) ?_ zte
    exact (.cons rfl (.cons rfl (.cons rfl (.cons rfl (.cons rfl (.cons rfl (.cons rfl (.cons rfl (.cons rfl (.cons rfl (.cons rfl (.cons (z7 (Eq.symm znf)) (.cons (z7 (y1q znf)) .nil)))))))))))))
  refine WD.a (i:=6) (d:=18) (by kernel_rfl) rfl z2 z3 rfl rfl rfl (fun _=>q_m rfl) ?_
  refine WD.mid (fuel':=5) [(0,(.pointer (some ⟨z4o,0,none⟩))),(1,(.int .i64 z1p)),(2,(.int .i64 zV)),(4,(.pointer (some ⟨zka,0,none⟩))),(6,(.int .i64 0)),(7,(.int .i64 0)),(9,(.pointer (some ⟨z4o,0,none⟩))),(10,(.bool zao)),(8,(.bool zao)),(12,(.int .i64 zV)),(13,(.bool (decide (zV < 1)))),(14,(.bool (decide (zV < 1)))),(17,(.bool ((decide (zV < 1)) || (decide (zV > 72))))),(18,(.bool ((decide (zV < 1)) || (decide (zV > 72))))),(25,(.bool (((decide (zV < 1)) || (decide (zV > 72))) || (decide (z1p < zo.fNow)))))] (yJ 19 [13,12,11,10,9,8,7,6,5,4,3,2,1,0]) ?_ (fun ztf=>?_)
  rotate_left
  ·rcases Bool.eq_false_or_eq_true ((decide (zV < 1)) || (decide (zV > 72))) with hb' | hb'
   ·have zng:=hb'; clear hb'
    refine WD.pin (i:=18) rfl zng ?_
    refine WD.b (i:=7) (d:=19) (by kernel_rfl) rfl z2 z3 rfl rfl rfl ?_
    refine WD.b (i:=8) (d:=20) (by kernel_rfl) rfl z2 z3 rfl rfl rfl ?_
    refine WD.b (i:=9) (d:=21) (by kernel_rfl) rfl z2 z3 rfl rfl rfl ?_
    refine WD.b (i:=10) (d:=22) (by kernel_rfl) rfl z2 z3 rfl rfl rfl ?_
    refine WD.b (i:=11) (d:=23) (by kernel_rfl) rfl z2 z3 rfl rfl rfl ?_
    refine WD.b (i:=12) (d:=24) (by kernel_rfl) rfl z2 z3 rfl rfl rfl ?_
    refine WD.a (i:=13) (d:=25) (by kernel_rfl) rfl z2 z3 rfl rfl rfl (fun _=>yW rfl rfl) ?_
    refine WD.ys (.cons .here (.cons .here (.cons .here .nil))) ?_ ztf
    exact (.cons rfl (.cons rfl (.cons rfl (.cons rfl (.cons rfl (.cons rfl (.cons rfl (.cons rfl (.cons rfl (.cons rfl (.cons rfl (.cons rfl (.cons rfl (.cons (z7 (Eq.symm zng)) (.cons (z7 (y1p zng)) .nil)))))))))))))))
   ·have znh:=hb'; clear hb'
    refine WD.pin (i:=18) rfl znh ?_
    refine WD.e (i:=7) (d:=19) (by kernel_rfl) rfl z2 z3 rfl rfl rfl (yb yd rfl (yc .here rfl)) ?_
    refine WD.a (i:=8) (d:=20) (by kernel_rfl) rfl z2 z3 rfl rfl rfl (fun _=>q_m rfl) ?_
    refine WD.a (i:=9) (d:=21) (by kernel_rfl) rfl z2 z3 rfl rfl rfl (fun _=>yy rfl) ?_
    refine WD.a (i:=10) (d:=22) (by kernel_rfl) rfl z2 z3 rfl rfl rfl (fun _=>ya y88 rfl rfl) ?_
    refine WD.e (i:=11) (d:=23) (by kernel_rfl) rfl z2 z3 rfl rfl rfl (yb yd rfl (yc .h1 rfl)) ?_
    refine WD.a (i:=12) (d:=24) (by kernel_rfl) rfl z2 z3 rfl rfl rfl (fun _=>y3O rfl rfl) ?_
    refine WD.a (i:=13) (d:=25) (by kernel_rfl) rfl z2 z3 rfl rfl rfl (fun _=>yX rfl rfl) ?_
    refine WD.ys (.cons .here (.cons .here (.cons .here .nil))) ?_ ztf
    exact (.cons rfl (.cons rfl (.cons rfl (.cons rfl (.cons rfl (.cons rfl (.cons rfl (.cons rfl (.cons rfl (.cons rfl (.cons rfl (.cons rfl (.cons rfl (.cons (z7 (Eq.symm znh)) (.cons (z7 (y1q znh)) .nil)))))))))))))))
  refine WD.a (i:=14) (d:=26) (by kernel_rfl) rfl z2 z3 rfl rfl rfl (fun _=>q_m rfl) ?_
  refine WD.mid (fuel':=1) [(0,(.pointer (some ⟨z4o,0,none⟩))),(1,(.int .i64 z1p)),(2,(.int .i64 zV)),(4,(.pointer (some ⟨zka,0,none⟩))),(6,(.int .i64 0)),(7,(.int .i64 0)),(9,(.pointer (some ⟨z4o,0,none⟩))),(10,(.bool zao)),(8,(.bool zao)),(12,(.int .i64 zV)),(13,(.bool (decide (zV < 1)))),(14,(.bool (decide (zV < 1)))),(17,(.bool ((decide (zV < 1)) || (decide (zV > 72))))),(18,(.bool ((decide (zV < 1)) || (decide (zV > 72))))),(25,(.bool (((decide (zV < 1)) || (decide (zV > 72))) || (decide (z1p < zo.fNow))))),(26,(.bool (((decide (zV < 1)) || (decide (zV > 72))) || (decide (z1p < zo.fNow))))),(29,(.bool ((((decide (zV < 1)) || (decide (zV > 72))) || (decide (z1p < zo.fNow))) || (decide (z1p > 1073741824)))))] (yJ 19 [17,16,15,14,13,12,11,10,9,8,7,6,5,4,3,2,1,0]) ?_ (fun ztg=>?_)
  rotate_left
  ·rcases Bool.eq_false_or_eq_true (((decide (zV < 1)) || (decide (zV > 72))) || (decide (z1p < zo.fNow))) with hb' | hb'
   ·have zni:=hb'; clear hb'
    refine WD.pin (i:=26) rfl zni ?_
    refine WD.b (i:=15) (d:=27) (by kernel_rfl) rfl z2 z3 rfl rfl rfl ?_
    refine WD.b (i:=16) (d:=28) (by kernel_rfl) rfl z2 z3 rfl rfl rfl ?_
    refine WD.a (i:=17) (d:=29) (by kernel_rfl) rfl z2 z3 rfl rfl rfl (fun _=>yW rfl rfl) ?_
    refine WD.ys (.cons .here (.cons .here (.cons .here .nil))) ?_ ztg
    exact (.cons rfl (.cons rfl (.cons rfl (.cons rfl (.cons rfl (.cons rfl (.cons rfl (.cons rfl (.cons rfl (.cons rfl (.cons rfl (.cons rfl (.cons rfl (.cons rfl (.cons rfl (.cons (z7 (Eq.symm zni)) (.cons (z7 (y1p zni)) .nil)))))))))))))))))
   ·have znj:=hb'; clear hb'
    refine WD.pin (i:=26) rfl znj ?_
    refine WD.e (i:=15) (d:=27) (by kernel_rfl) rfl z2 z3 rfl rfl rfl (yb yd rfl (yc .here rfl)) ?_
    refine WD.a (i:=16) (d:=28) (by kernel_rfl) rfl z2 z3 rfl rfl rfl (fun _=>y3f rfl rfl) ?_
    refine WD.a (i:=17) (d:=29) (by kernel_rfl) rfl z2 z3 rfl rfl rfl (fun _=>yX rfl rfl) ?_
    refine WD.ys (.cons .here (.cons .here (.cons .here .nil))) ?_ ztg
    exact (.cons rfl (.cons rfl (.cons rfl (.cons rfl (.cons rfl (.cons rfl (.cons rfl (.cons rfl (.cons rfl (.cons rfl (.cons rfl (.cons rfl (.cons rfl (.cons rfl (.cons rfl (.cons (z7 (Eq.symm znj)) (.cons (z7 (y1q znj)) .nil)))))))))))))))))
  refine WD.a (i:=18) (d:=11) (by kernel_rfl) rfl z2 z3 rfl rfl rfl (fun _=>q_z rfl) ?_
  refine WD.done (by kernel_rfl) ?_
  refine WX.a ?_
  refine WC.cond rfl (fun znk=>?_) (fun znk=>?_)
  ·replace h:=ym h znk
   refine WC.b (WC.a (WL.pu rfl (WL.pu rfl (WL.nil (WX.a (WC.ret (WX.yH (WX.yj ?_))))))))
   obtain rfl:=Option.some.inj h
   refine WX.yi Try.results41 (.tmp rfl (.tmp rfl .nil)) (fun w hw=>?_)
   exact ⟨z50,z51,ret2 rfl rfl,trivial,hw.sub (.cons .h1 (.cons .h1 .nil))⟩
  ·replace h:=yn h znk
   refine WC.skip (WX.yk (WX.a (WC.b (WC.a (WL.pu rfl ?_)))))
   refine WL.a (d:=31) rfl rfl rfl (yb yd rfl (yc .here rfl)) ?_
   refine WL.a (d:=32) rfl rfl rfl (yy rfl) ?_
   refine WL.a (d:=33) rfl rfl rfl (ya y88 rfl rfl) ?_
   refine WL.y1e rfl rfl (y3n (ds:=[(.int .i64 zo.fNumbers.fSlow),(.int .i64 zo.fNumbers.fDelay),(.int .i64 zo.fNumbers.fStore),(.int .i64 z1p),(.int .i64 zo.fLast),(.slice z50 zo.fFrames.length z51)]) y8t rfl rfl rfl rfl rfl .h1 rfl rfl) ?_
   refine WL.nil (WX.a (WC.b ?_))
   obtain ⟨z89,zzZ,h⟩:=zg h
   refine WC.a (WL.pu rfl (WL.pu rfl ?_))
   refine WL.a (d:=36) rfl rfl rfl (yy rfl) ?_
   refine WL.a (d:=37) rfl rfl rfl (ya y62 rfl rfl) ?_
   refine WL.a (d:=38) rfl rfl rfl (yb zlz rfl (yc .here rfl)) ?_
   refine WL.a (d:=39) rfl rfl rfl (y6Y (Eos.caps (l:=[.tmp 4]) (.cons rfl .nil))) ?_
   refine WL.y4r (dd:=40) rfl rfl rfl (zC (l:=[.tmp 38,.tmp 39]) Try.call54 (.cons rfl (.cons rfl .nil))) (.cons .h2 .nil) (ccl hz (.cons .h2 .nil) (.cons .h1 .nil) fun w pz ho la=>y4k _ _ _ (z6v:=55) (z9d:=[(.pointer (some ⟨zka,0,none⟩))]) _ (z4Y:=(fun (y0 : Sport_frame)=>y2Z y0 z1p)) _ zzZ w pz Try.call55 (fun w' hz' y0  r  hr=>y7U _ _ _ _ _ hr w' hz' ((la _ (.head _) _).stb)) ho) ?_
   rintro znl znm _
   refine WL.a (d:=41) rfl rfl rfl (yy rfl) ?_
   refine WL.a (d:=42) rfl rfl rfl (ya y62 rfl rfl) ?_
   refine WL.y1e rfl rfl (y3n (ds:=[(.int .i64 zo.fNumbers.fSlow),(.int .i64 zo.fNumbers.fDelay),(.int .i64 zo.fNumbers.fStore),(.int .i64 z1p),(.int .i64 zo.fLast),(.slice znl z89.length znm)]) zqE rfl rfl rfl rfl rfl .h1 rfl rfl) ?_
   refine WL.nil (WX.a (WC.b (WC.b ?_)))
   obtain ⟨ztb,zA0,h⟩:=zg h
   refine WC.yI (fun i=>[].contains i) [] rfl ?_
   refine WD.a (i:=0) (d:=43) (by kernel_rfl) rfl z2 z3 rfl rfl rfl (fun _=>q_m rfl) ?_
   refine WD.e (i:=1) (d:=44) (by kernel_rfl) rfl z2 z3 rfl rfl rfl (yb yd rfl (yc .h2 rfl)) ?_
   refine WD.c (i:=2) (d:=45) (by kernel_rfl) rfl z2 z3 rfl rfl rfl (zC (l:=[.tmp 43,.tmp 44]) Try.call56 (.cons rfl (.cons rfl .nil))) (ccl hz .nil (.cons .here (.cons .here .nil)) fun w pz ho la=>y8b _ _ _ _ _ _ _ zA0 w pz (ZA.row (la _ (.tail _ (.head _)) _) (RR.y19 (enc:=y2d) (fun _=>rfl) _) ⟨w,pz.1⟩) ((la _ (.head _) _).stb)) ?_
   refine WD.a (i:=3) (d:=46) (by kernel_rfl) rfl z2 z3 rfl rfl rfl (fun _=>q_m rfl) ?_
   refine WD.a (i:=4) (d:=47) (by kernel_rfl) rfl z2 z3 rfl rfl rfl (fun _=>y4T rfl rfl rfl) ?_
   refine WD.a (i:=5) (d:=48) (by kernel_rfl) rfl z2 z3 rfl rfl rfl (fun _=>q_m rfl) ?_
   refine WD.a (i:=6) (d:=49) (by kernel_rfl) rfl z2 z3 rfl rfl rfl (fun _=>yy rfl) ?_
   refine WD.a (i:=7) (d:=50) (by kernel_rfl) rfl z2 z3 rfl rfl rfl (fun _=>ya y76 rfl rfl) ?_
   refine WD.a (i:=8) (d:=51) (by kernel_rfl) rfl z2 z3 rfl rfl rfl (fun _=>ya fo_140_2 rfl rfl) ?_
   refine WD.e (i:=9) (d:=52) (by kernel_rfl) rfl z2 z3 rfl rfl rfl (yb yd rfl (yc .here rfl)) ?_
   refine WD.a (i:=10) (d:=53) (by kernel_rfl) rfl z2 z3 rfl rfl rfl (fun _=>y3f rfl rfl) ?_
   refine WD.done (by kernel_rfl) ?_
   refine WX.a ?_
   refine WC.cond rfl (fun znn=>?_) (fun znn=>?_)
   ·replace h:=ym h znn
    refine WC.b (WC.a (WL.pu rfl (WL.pu rfl (WL.nil (WX.a (WC.ret (WX.yj ?_)))))))
    obtain rfl:=Option.some.inj h
    refine WX.yi Try.results41 (.tmp rfl (.tmp rfl .nil)) (fun w hw=>?_)
    exact ⟨znl,znm,ret2 rfl rfl,trivial,hw.sub (.cons .here (.cons .here .nil))⟩
   ·replace h:=yn h znn
    refine WC.skip (WX.a (WC.b ?_))
    refine WC.yI (fun i=>[23].contains i) [] rfl ?_
    refine WD.a (i:=0) (d:=54) (by kernel_rfl) rfl z2 z3 rfl rfl rfl (fun _=>q_m rfl) ?_
    refine WD.e (i:=1) (d:=55) (by kernel_rfl) rfl z2 z3 rfl rfl rfl (yb yd rfl (yc .h2 rfl)) ?_
    refine WD.a (i:=2) (d:=56) (by kernel_rfl) rfl z2 z3 rfl rfl rfl (fun _=>q_m rfl) ?_
    refine WD.a (i:=3) (d:=57) (by kernel_rfl) rfl z2 z3 rfl rfl rfl (fun _=>yy rfl) ?_
    refine WD.a (i:=4) (d:=58) (by kernel_rfl) rfl z2 z3 rfl rfl rfl (fun _=>ya y76 rfl rfl) ?_
    refine WD.a (i:=5) (d:=59) (by kernel_rfl) rfl z2 z3 rfl rfl rfl (fun _=>ya fo_140_1 rfl rfl) ?_
    refine WD.e (i:=6) (d:=60) (by kernel_rfl) rfl z2 z3 rfl rfl rfl (yb yd rfl (yc .here rfl)) ?_
    refine WD.a (i:=7) (d:=61) (by kernel_rfl) rfl z2 z3 rfl rfl rfl (fun _=>y4T rfl rfl rfl) ?_
    refine WD.a (i:=8) (d:=62) (by kernel_rfl) rfl z2 z3 rfl rfl rfl (fun _=>q_m rfl) ?_
    refine WD.a (i:=9) (d:=63) (by kernel_rfl) rfl z2 z3 rfl rfl rfl (fun _=>yy rfl) ?_
    refine WD.a (i:=10) (d:=64) (by kernel_rfl) rfl z2 z3 rfl rfl rfl (fun _=>ya y77 rfl rfl) ?_
    refine WD.e (i:=11) (d:=65) (by kernel_rfl) rfl z2 z3 rfl rfl rfl (yb yd rfl (yc .here rfl)) ?_
    refine WD.a (i:=12) (d:=66) (by kernel_rfl) rfl z2 z3 rfl rfl rfl (fun _=>q_max rfl rfl rfl) ?_
    refine WD.a (i:=13) (d:=67) (by kernel_rfl) rfl z2 z3 rfl rfl rfl (fun _=>q_m rfl) ?_
    refine WD.a (i:=14) (d:=68) (by kernel_rfl) rfl z2 z3 rfl rfl rfl (fun _=>q_m rfl) ?_
    refine WD.a (i:=15) (d:=69) (by kernel_rfl) rfl z2 z3 rfl rfl rfl (fun _=>yy rfl) ?_
    refine WD.a (i:=16) (d:=70) (by kernel_rfl) rfl z2 z3 rfl rfl rfl (fun _=>ya y76 rfl rfl) ?_
    refine WD.a (i:=17) (d:=71) (by kernel_rfl) rfl z2 z3 rfl rfl rfl (fun _=>ya y9Q rfl rfl) ?_
    refine WD.e (i:=18) (d:=72) (by kernel_rfl) rfl z2 z3 rfl rfl rfl (yb yd rfl (yc .here rfl)) ?_
    refine WD.a (i:=19) (d:=73) (by kernel_rfl) rfl z2 z3 rfl rfl rfl (fun _=>q_mul rfl rfl rfl) ?_
    refine WD.a (i:=20) (d:=74) (by kernel_rfl) rfl z2 z3 rfl rfl rfl (fun _=>y4T rfl rfl rfl) ?_
    refine WD.a (i:=21) (d:=75) (by kernel_rfl) rfl z2 z3 rfl rfl rfl (fun _=>yy rfl) ?_
    refine WD.a (i:=22) (d:=76) (by kernel_rfl) rfl z2 z3 rfl rfl rfl (fun _=>ya y77 rfl rfl) ?_
    refine WD.y3G (i:=23) rfl (by kernel_rfl) rfl rfl rfl (by kernel_rfl) (y3n (ds:=[(.int .i64 zo.fNumbers.fSlow),(.int .i64 zo.fNumbers.fDelay),(.int .i64 zo.fNumbers.fStore),(.int .i64 z1p),(.int .i64 (i64 ((max (i64 (z1p + zo.fNumbers.fDelay)) zo.fLast) + (i64 (zV * zo.fNumbers.fSlow))))),(.slice znl z89.length znm)]) y8t rfl rfl rfl rfl rfl .here rfl rfl) ?_
    refine WD.done (by kernel_rfl) ?_
    refine WX.a (WC.b ?_)
    obtain ⟨zA1,h⟩:=ye h
    refine WC.yI (fun i=>[12,15].contains i) [] rfl ?_
    refine WD.a (i:=0) (d:=77) (by kernel_rfl) rfl z2 z3 rfl rfl rfl (fun _=>q_m rfl) ?_
    refine WD.a (i:=1) (d:=78) (by kernel_rfl) rfl z2 z3 rfl rfl rfl (fun _=>q_m rfl) ?_
    refine WD.a (i:=2) (d:=79) (by kernel_rfl) rfl z2 z3 rfl rfl rfl (fun _=>yy rfl) ?_
    refine WD.a (i:=3) (d:=80) (by kernel_rfl) rfl z2 z3 rfl rfl rfl (fun _=>ya y62 rfl rfl) ?_
    refine WD.e (i:=4) (d:=81) (by kernel_rfl) rfl z2 z3 rfl rfl rfl (yb zlz rfl (yc .here rfl)) ?_
    refine WD.a (i:=5) (d:=82) (by kernel_rfl) rfl z2 z3 rfl rfl rfl (fun _=>q_m rfl) ?_
    refine WD.a (i:=6) (d:=83) (by kernel_rfl) rfl z2 z3 rfl rfl rfl (fun _=>q_m rfl) ?_
    refine WD.a (i:=7) (d:=84) (by kernel_rfl) rfl z2 z3 rfl rfl rfl (fun _=>yy rfl) ?_
    refine WD.a (i:=8) (d:=85) (by kernel_rfl) rfl z2 z3 rfl rfl rfl (fun _=>ya y77 rfl rfl) ?_
    refine WD.e (i:=9) (d:=86) (by kernel_rfl) rfl z2 z3 rfl rfl rfl (yb yd rfl (yc .here rfl)) ?_
    refine WD.a (i:=10) (d:=87) (by kernel_rfl) rfl z2 z3 rfl rfl rfl (fun _=>y1n (v:=(.agg #[(.int .i64 zV),(.int .i64 (i64 ((max (i64 (z1p + zo.fNumbers.fDelay)) zo.fLast) + (i64 (zV * zo.fNumbers.fSlow)))))])) (Eos.parts (l:=[.tmp 82,.tmp 86]) (.cons rfl (.cons rfl .nil)) [0,1]) (fun _=>by kernel_rfl)) ?_
    refine WD.new (i:=11) (dd:=88) rfl (by kernel_rfl) rfl rfl rfl (yC (cs:=([(⟨zV,i64 ((max (i64 (z1p + zo.fNumbers.fDelay)) zo.fLast) + (i64 (zV * zo.fNumbers.fSlow)))⟩ : Sport_frame)] : List Sport_frame).flatMap y2d) z8C (Eos.parts (l:=[.tmp 87]) (.cons rfl .nil) [0]) (fun _=>by kernel_rfl) rfl (by unfold maxLen; omega)) (fun h'=>absurd h' (by decide)) ?_
    intro zJD _
    refine WD.old (i:=12) (dd:=89) rfl (by kernel_rfl) rfl rfl rfl rfl (fun _=>(Sin.of .nil)) (y1R (enc:=y2d) (l1:=z89) (l2:=([(⟨zV,i64 ((max (i64 (z1p + zo.fNumbers.fDelay)) zo.fLast) + (i64 (zV * zo.fNumbers.fSlow)))⟩ : Sport_frame)] : List Sport_frame)) z8C rfl rfl .h2 (fun _=>rfl) rfl rfl (y3m .here) (y2f yak _) zA1) ?_
    rintro ⟨zth,zti⟩ _
    refine WD.a (i:=13) (d:=90) (by kernel_rfl) rfl z2 z3 rfl rfl rfl (fun _=>yy rfl) ?_
    refine WD.a (i:=14) (d:=91) (by kernel_rfl) rfl z2 z3 rfl rfl rfl (fun _=>ya y62 rfl rfl) ?_
    refine WD.y3G (i:=15) rfl (by kernel_rfl) rfl rfl rfl (by kernel_rfl) (y3n (ds:=[(.int .i64 zo.fNumbers.fSlow),(.int .i64 zo.fNumbers.fDelay),(.int .i64 zo.fNumbers.fStore),(.int .i64 z1p),(.int .i64 (i64 ((max (i64 (z1p + zo.fNumbers.fDelay)) zo.fLast) + (i64 (zV * zo.fNumbers.fSlow))))),(.slice zth ((z89 ++ ([(⟨zV,i64 ((max (i64 (z1p + zo.fNumbers.fDelay)) zo.fLast) + (i64 (zV * zo.fNumbers.fSlow)))⟩ : Sport_frame)] : List Sport_frame)).length) zti)]) zqE rfl rfl rfl rfl rfl .h2 rfl rfl) ?_
    refine WD.done (by kernel_rfl) ?_
    refine WX.a (WC.b (WC.a (WL.pu rfl ?_)))
    refine WL.a (d:=93) rfl rfl rfl (yy rfl) ?_
    refine WL.a (d:=94) rfl rfl rfl (ya y77 rfl rfl) ?_
    refine WL.a (d:=95) rfl rfl rfl (yb yd rfl (yc .here rfl)) ?_
    refine WL.pu rfl (WL.pu rfl (WL.nil (WX.a (WC.ret ?_))))
    obtain rfl:=Option.some.inj h
    refine WX.yi Try.results41 (.tmp rfl (.tmp rfl .nil)) (fun w hw=>?_)
    exact ⟨zth,zti,ret2 rfl rfl,trivial,hw.sub (.cons .here (.cons .here .nil))⟩
def y3d (zu : Sapi_Config) (z49 : List (List Sapi_Hop)) (z3r : List zSt) (zkb : List (Snetwork_exit × Sport_Port)) (z3D : List Snetwork_event) (z1D : List Sapi_Come) (z1A : List Sapi_Come) : Option (List Snetwork_event × List Sapi_Come × List Sapi_Come × (List (Snetwork_exit × Sport_Port))) :=
 (y2N z3D).bind fun zb=>(y3K zu z49 z3r zkb zb.2 z1D z1A zb.1.fHop).bind fun z3s=>chk ((0 : Int) ≤ zb.1.fSent ∧ zb.1.fSent < ((z3r.length : Nat) : Int)) (chk (y2t z3s (⟨zb.1.fHop.fNode,zb.1.fHop.fLink⟩ : Snetwork_exit) = true) ((y2W (⟨(⟨(((yE z3s (⟨zb.1.fHop.fNode,zb.1.fHop.fLink⟩ : Snetwork_exit) default).fNumbers).fSlow),(((yE z3s (⟨zb.1.fHop.fNode,zb.1.fHop.fLink⟩ : Snetwork_exit) default).fNumbers).fDelay),(((yE z3s (⟨zb.1.fHop.fNode,zb.1.fHop.fLink⟩ : Snetwork_exit) default).fNumbers).fStore)⟩ : Sport_numbers),((yE z3s (⟨zb.1.fHop.fNode,zb.1.fHop.fLink⟩ : Snetwork_exit) default).fNow),((yE z3s (⟨zb.1.fHop.fNode,zb.1.fHop.fLink⟩ : Snetwork_exit) default).fLast),((yE z3s (⟨zb.1.fHop.fNode,zb.1.fHop.fLink⟩ : Snetwork_exit) default).fFrames)⟩ : Sport_Port) zb.1.fTime ((nth z3r zb.1.fSent).fSize)).bind fun z2z=>if decide (z2z.2.1 ≠ 0) then chk ((((z1A ++ ([(⟨zb.1.fSent,zb.1.fHop.fNode,zb.1.fTime⟩ : Sapi_Come)] : List Sapi_Come)).length : Nat) : Int) * 24 ≤ 140737488355328 ∧ (((z1A ++ ([(⟨zb.1.fSent,zb.1.fHop.fNode,zb.1.fTime⟩ : Sapi_Come)] : List Sapi_Come)).length : Nat) : Int) ≤ 4611686018427387904) (some (zb.2,z1D,(z1A ++ ([(⟨zb.1.fSent,zb.1.fHop.fNode,zb.1.fTime⟩ : Sapi_Come)] : List Sapi_Come)),(y1b z3s (⟨zb.1.fHop.fNode,zb.1.fHop.fLink⟩ : Snetwork_exit) z2z.2.2))) else jp1 (fun (z6y : List Sapi_Come)=>(y2z zu z49 z3r (y1b z3s (⟨zb.1.fHop.fNode,zb.1.fHop.fLink⟩ : Snetwork_exit) z2z.2.2) zb.2 z6y z1A zb.1.fHop.fNext z2z.1 zb.1.fHop.fLink zb.1.fSent).bind fun ztj=>some (ztj,z6y,z1A,(y1b z3s (⟨zb.1.fHop.fNode,zb.1.fHop.fLink⟩ : Snetwork_exit) z2z.2.2))) fun zkc=>if decide (zb.1.fHop.fNext < ((zu.fModules.length : Nat) : Int)) then chk ((((z1D ++ ([(⟨zb.1.fSent,zb.1.fHop.fNext,z2z.1⟩ : Sapi_Come)] : List Sapi_Come)).length : Nat) : Int) * 24 ≤ 140737488355328 ∧ (((z1D ++ ([(⟨zb.1.fSent,zb.1.fHop.fNext,z2z.1⟩ : Sapi_Come)] : List Sapi_Come)).length : Nat) : Int) ≤ 4611686018427387904) (zkc (z1D ++ ([(⟨zb.1.fSent,zb.1.fHop.fNext,z2z.1⟩ : Sapi_Come)] : List Sapi_Come))) else zkc z1D))
set_option maxRecDepth 20000 in
theorem y7F (Z : Zp) (z4I : Nat) (z5J : Option Addr) (z5K : Nat) (z5L : Option Addr) (z5M : Nat) (z5N : Option Addr) (z5O : Nat) (z5P : Option Addr) (z5Q : Nat) (z5R : Option Addr) (z5S : Nat) (z5T : Option Addr) (z5U : Nat) (z5V : Option Addr) (z5W : Nat) (z5X : Option Addr) (z5Y : Nat) (z5Z : Option Addr) (z60 : Nat) (z52 : Option Addr) (z53 : Nat) (z35 : Nat) (z6z : List (Snetwork_exit × ((Nat × (Option Addr × Nat)) × Sport_Port))) (z8a : Option Addr) (z8b : Nat) (z3R : Option Addr) (z3S : Nat) (z3E : Option Addr) (z3F : Nat) (zu : Sapi_Config) (z49 : List (List Sapi_Hop)) (z3r : List zSt) (zkb : List (Snetwork_exit × Sport_Port)) (z3D : List Snetwork_event) (z1D : List Sapi_Come) (z1A : List Sapi_Come) (r : List Snetwork_event × List Sapi_Come × List Sapi_Come × (List (Snetwork_exit × Sport_Port)))
  (h : y3d zu z49 z3r zkb z3D z1D z1A = some r) (w₀ : World) (hz : PZ (fps [stb z4I 81 [(.slice z5J zu.fModules.length z5K),(.slice z5L zu.fChannels.length z5M),(.slice z5N zu.fSwitches.length z5O),(.slice z5P zu.fLinks.length z5Q),(.slice z5R zu.fVLs.length z5S),(.slice z5T zu.fHealth.length z5U),(.slice z5V zu.fCauses.length z5W),(.slice z5X zu.fVersions.length z5Y),(.slice z5Z z49.length z60),(.slice z52 z3r.length z53),(.map (some z35)),(.slice z8a z3D.length z8b),(.slice z3R z1D.length z3S),(.slice z3E z1A.length z3F)],y1s z35 (fun x=>Value.agg (y26 x).toArray) Value.pointer (y1F z6z),y1D z1v z6z,row (.slice z8a z3D.length z8b) 113 7 (z3D.flatMap yF),row (.slice z3R z1D.length z3S) 50 3 (z1D.flatMap e50),row (.slice z3E z1A.length z3F) 50 3 (z1A.flatMap e50)]) w₀ Z)
  (ztk : ZS Z 4 (y2i Z) z5J z5K zu.fModules)
  (ztl : ZS Z 4 (y2R Z) z5L z5M zu.fChannels)
  (ztm : ZS Z 4 (fun r x=>r = e64 x) z5N z5O zu.fSwitches)
  (ztn : ZS Z 4 (fun r x=>r = e62 x) z5P z5Q zu.fLinks)
  (zto : ZS Z 7 (y2A Z) z5R z5S zu.fVLs)
  (ztp : ZS Z 5 (fun r x=>r = y2T x) z5T z5U zu.fHealth)
  (ztq : ZS Z 3 (y2S Z) z5V z5W zu.fCauses)
  (ztr : ZS Z 4 (fun r x=>r = y2U x) z5X z5Y zu.fVersions)
  (zts : ZS Z 1 (p55 Z) z5Z z60 z49)
  (zno : ZS Z 3 (fun r x=>r = e53 x) z52 z53 z3r)
  (zA2 : dat z6z = zkb)
  (hown : Hp (fps [stb z4I 81 [(.slice z5J zu.fModules.length z5K),(.slice z5L zu.fChannels.length z5M),(.slice z5N zu.fSwitches.length z5O),(.slice z5P zu.fLinks.length z5Q),(.slice z5R zu.fVLs.length z5S),(.slice z5T zu.fHealth.length z5U),(.slice z5V zu.fCauses.length z5W),(.slice z5X zu.fVersions.length z5Y),(.slice z5Z z49.length z60),(.slice z52 z3r.length z53),(.map (some z35)),(.slice z8a z3D.length z8b),(.slice z3R z1D.length z3S),(.slice z3E z1A.length z3F)],y1s z35 (fun x=>Value.agg (y26 x).toArray) Value.pointer (y1F z6z),y1D z1v z6z,row (.slice z8a z3D.length z8b) 113 7 (z3D.flatMap yF),row (.slice z3R z1D.length z3S) 50 3 (z1D.flatMap e50),row (.slice z3E z1A.length z3F) 50 3 (z1A.flatMap e50)]) w₀ w₀ [stb z4I 81 [(.slice z5J zu.fModules.length z5K),(.slice z5L zu.fChannels.length z5M),(.slice z5N zu.fSwitches.length z5O),(.slice z5P zu.fLinks.length z5Q),(.slice z5R zu.fVLs.length z5S),(.slice z5T zu.fHealth.length z5U),(.slice z5V zu.fCauses.length z5W),(.slice z5X zu.fVersions.length z5Y),(.slice z5Z z49.length z60),(.slice z52 z3r.length z53),(.map (some z35)),(.slice z8a z3D.length z8b),(.slice z3R z1D.length z3S),(.slice z3E z1A.length z3F)],y1s z35 (fun x=>Value.agg (y26 x).toArray) Value.pointer (y1F z6z),y1D z1v z6z,row (.slice z8a z3D.length z8b) 113 7 (z3D.flatMap yF),row (.slice z3R z1D.length z3S) 50 3 (z1D.flatMap e50),row (.slice z3E z1A.length z3F) 50 3 (z1A.flatMap e50)]) :
  Calls Try.prog 26 #[(.pointer (some ⟨z4I,0,none⟩))] w₀ fun e w'=>∃ ztt : Option Addr,∃ ztu : Nat,∃ ztv : Option Addr,∃ ztw : Nat,∃ ztx : Option Addr,∃ zty : Nat,∃ znp : List (Snetwork_exit × ((Nat × (Option Addr × Nat)) × Sport_Port)),e = .returned (.tuple #[]) ∧ (dat znp = r.2.2.2) ∧ Hp (fps [stb z4I 81 [(.slice z5J zu.fModules.length z5K),(.slice z5L zu.fChannels.length z5M),(.slice z5N zu.fSwitches.length z5O),(.slice z5P zu.fLinks.length z5Q),(.slice z5R zu.fVLs.length z5S),(.slice z5T zu.fHealth.length z5U),(.slice z5V zu.fCauses.length z5W),(.slice z5X zu.fVersions.length z5Y),(.slice z5Z z49.length z60),(.slice z52 z3r.length z53),(.map (some z35)),(.slice z8a z3D.length z8b),(.slice z3R z1D.length z3S),(.slice z3E z1A.length z3F)],y1s z35 (fun x=>Value.agg (y26 x).toArray) Value.pointer (y1F z6z),y1D z1v z6z,row (.slice z8a z3D.length z8b) 113 7 (z3D.flatMap yF),row (.slice z3R z1D.length z3S) 50 3 (z1D.flatMap e50),row (.slice z3E z1A.length z3F) 50 3 (z1A.flatMap e50)]) w₀ w' [stb z4I 81 [(.slice z5J zu.fModules.length z5K),(.slice z5L zu.fChannels.length z5M),(.slice z5N zu.fSwitches.length z5O),(.slice z5P zu.fLinks.length z5Q),(.slice z5R zu.fVLs.length z5S),(.slice z5T zu.fHealth.length z5U),(.slice z5V zu.fCauses.length z5W),(.slice z5X zu.fVersions.length z5Y),(.slice z5Z z49.length z60),(.slice z52 z3r.length z53),(.map (some z35)),(.slice ztt r.1.length ztu),(.slice ztv r.2.1.length ztw),(.slice ztx r.2.2.1.length zty)],row (.slice ztt r.1.length ztu) 113 7 (r.1.flatMap yF),row (.slice ztv r.2.1.length ztw) 50 3 (r.2.1.flatMap e50),row (.slice ztx r.2.2.1.length zty) 50 3 (r.2.2.1.flatMap e50),y1s z35 (fun x=>Value.agg (y26 x).toArray) Value.pointer (y1F znp),y1D z1v znp]:=by
 unfold y3d at h
 refine Calls.yp (vs:=[(.pointer (some ⟨z4I,0,none⟩))]) (pre:=[stb z4I 81 [(.slice z5J zu.fModules.length z5K),(.slice z5L zu.fChannels.length z5M),(.slice z5N zu.fSwitches.length z5O),(.slice z5P zu.fLinks.length z5Q),(.slice z5R zu.fVLs.length z5S),(.slice z5T zu.fHealth.length z5U),(.slice z5V zu.fCauses.length z5W),(.slice z5X zu.fVersions.length z5Y),(.slice z5Z z49.length z60),(.slice z52 z3r.length z53),(.map (some z35)),(.slice z8a z3D.length z8b),(.slice z3R z1D.length z3S),(.slice z3E z1A.length z3F)],y1s z35 (fun x=>Value.agg (y26 x).toArray) Value.pointer (y1F z6z),y1D z1v z6z,row (.slice z8a z3D.length z8b) 113 7 (z3D.flatMap yF),row (.slice z3R z1D.length z3S) 50 3 (z1D.flatMap e50),row (.slice z3E z1A.length z3F) 50 3 (z1A.flatMap e50)]) (env:=[(0,(.pointer (some ⟨z4I,0,none⟩)))]) Try.func26 rfl Try.ntmps26 rfl (hown) rfl ?_
 refine WC.b ?_
 obtain ⟨zb,zA3,h⟩:=zg h
 refine WC.a (WL.pu rfl ?_)
 refine WL.a (d:=6) rfl rfl rfl (yy rfl) ?_
 refine WL.a (d:=7) rfl rfl rfl (ya y8N rfl rfl) ?_
 refine WL.a (d:=8) rfl rfl rfl (y6f Try.underlying111 rfl rfl) ?_
 refine WL.y4r (dd:=9) rfl rfl rfl (zC (l:=[.tmp 8]) Try.call39 (.cons rfl .nil)) (.cons .here (.cons .h2 .nil)) (cc hz (.cons .here (.cons .h2 .nil)) fun w pz ho=>y6I _ _ _ _ _ _ _ _ _ _ _ _ _ _ _ _ _ _ _ zA3 w pz  ho) ?_
 rintro z9g z9h _
 refine WL.a (d:=10) rfl rfl rfl (y9H Try.underlying113 rfl rfl) ?_
 refine WL.new (dd:=2) rfl rfl rfl (y28 (cs:=[(.int .i64 0),(.int .i64 0),(.int .i64 0),(.int .i64 0),(.int .i64 0),(.int .i64 0),(.int .i64 0)]) zqC rfl) ?_
 intro zhv _
 refine WL.y1e rfl rfl (y1z zjg rfl rfl rfl .here rfl rfl rfl) ?_
 refine WL.nil (WX.a (WC.b ?_))
 obtain ⟨z3s,zA4,h⟩:=zg h
 obtain ⟨zA5,h⟩:=ye h
 obtain ⟨ztz,h⟩:=ye h
 obtain ⟨z2z,zA6,h⟩:=zg h
 refine WC.yI (fun i=>[3,15].contains i) [stbp zhv 113 [(0,(.int .i64 zb.1.fTime)),(3,(.int .i64 zb.1.fSent))],stbp z4I 81 [(9,(.slice z52 z3r.length z53))]] rfl ?_
 refine WD.a (i:=0) (d:=12) (by kernel_rfl) rfl z2 z3 rfl rfl rfl (fun _=>q_m rfl) ?_
 refine WD.a (i:=1) (d:=13) (by kernel_rfl) rfl z2 z3 rfl rfl rfl (fun _=>ya y5r rfl rfl) ?_
 refine WD.e (i:=2) (d:=14) (by kernel_rfl) rfl z2 z3 rfl rfl rfl (y1J (cs:=[(.int .i64 zb.1.fHop.fNode),(.int .i64 zb.1.fHop.fNext),(.int .i64 zb.1.fHop.fLink)]) y6B rfl rfl (rd_sub (s:=3) .here rfl)) ?_
 refine WD.a (i:=4) (d:=16) (by kernel_rfl) rfl z2 z3 rfl rfl rfl (fun _=>ya y75 rfl rfl) ?_
 refine WD.stable (i:=5) (d:=17) (by kernel_rfl) rfl z2 z3 rfl rfl rfl (Sin.wk (.cons .here (.cons .here .nil)) (.stb (.cons rfl (.cons rfl .nil)) (.stb (.cons rfl .nil) .nil))) (yb yd rfl (y7K .here (.head _))) ?_
 refine WD.a (i:=6) (d:=18) (by kernel_rfl) rfl z2 z3 rfl rfl rfl (fun _=>q_m rfl) ?_
 refine WD.a (i:=7) (d:=19) (by kernel_rfl) rfl z2 z3 rfl rfl rfl (fun _=>yy rfl) ?_
 refine WD.a (i:=8) (d:=20) (by kernel_rfl) rfl z2 z3 rfl rfl rfl (fun _=>ya yav rfl rfl) ?_
 refine WD.stable (i:=9) (d:=21) (by kernel_rfl) rfl z2 z3 rfl rfl rfl (Sin.wk (.cons .here (.cons .here .nil)) (.stb (.cons rfl (.cons rfl .nil)) (.stb (.cons rfl .nil) .nil))) (yb yaw rfl (y7K .h1 (.head _))) ?_
 refine WD.a (i:=10) (d:=22) (by kernel_rfl) rfl z2 z3 rfl rfl rfl (fun _=>ya y5q rfl rfl) ?_
 refine WD.stable (i:=11) (d:=23) (by kernel_rfl) rfl z2 z3 rfl rfl rfl (Sin.wk (.cons .here (.cons .here .nil)) (.stb (.cons rfl (.cons rfl .nil)) (.stb (.cons rfl .nil) .nil))) (yb yd rfl (y7K .here (.tail _ (.head _)))) ?_
 refine WD.znth (j:=12) (dd:=24) (by kernel_rfl) rfl z2 z3 rfl rfl (Z:=Z) (Pr:=(fun r x=>r = e53 x)) y2M rfl rfl zno zA5 ?_
 rintro zJE zJF zA7 zJG rfl
 refine WD.a (i:=13) (d:=25) (by kernel_rfl) rfl z2 z3 rfl rfl rfl (fun _=>ya y5N rfl rfl) ?_
 refine WD.stable (i:=14) (d:=26) (by kernel_rfl) rfl z2 z3 rfl rfl rfl (Sin.wk (.cons .here (.cons .here .nil)) (.stb (.cons rfl (.cons rfl .nil)) (.stb (.cons rfl .nil) .nil))) (yb yd rfl (yD hz.pv zA7 rfl)) ?_
 refine WD.call1 (i:=3) (dd:=15) rfl (by kernel_rfl) rfl rfl rfl (.inl ⟨rfl,fun _=>(Sin.wk (.cons .h2 (.cons .h2 .nil)) (.stb (.cons rfl (.cons rfl .nil)) (.stb (.cons rfl .nil) .nil)))⟩) (zC (l:=[.tmp 12,.tmp 14]) Try.call40 (.cons rfl (.cons rfl .nil))) (.cons .h3 (.cons .h3 .nil)) (ccl hz (.cons .h3 (.cons .h3 .nil)) (.cons .h1 (.cons .h1 (.cons .h1 (.cons .h1 .nil)))) fun w pz ho la=>y8a _ _ _ _ _ _ _ _ _ _ _ _ _ _ _ _ _ _ _ _ _ _ _ _ _ _ _ _ _ _ _ _ _ _ _ _ _ _ _ zA4 w pz ((ztk.mono (Zle.left _ _)).weak (fun _ _ h=>y1u (Zle.left _ _) h)) ((ztl.mono (Zle.left _ _)).weak (fun _ _ h=>y1A (Zle.left _ _) h)) (ztm.mono (Zle.left _ _)) (ztn.mono (Zle.left _ _)) ((zto.mono (Zle.left _ _)).weak (fun _ _ h=>y1v (Zle.left _ _) h)) (ztp.mono (Zle.left _ _)) ((ztq.mono (Zle.left _ _)).weak (fun _ _ h=>y1B (Zle.left _ _) h)) (ztr.mono (Zle.left _ _)) ((zts.mono (Zle.left _ _)).weak (fun _ _ h=>y2G (Zle.left _ _) h)) (zno.mono (Zle.left _ _)) zA2 (ZA.row (la _ (.tail _ (.head _)) _) (RR.y19 (enc:=yF) (fun _=>rfl) _) ⟨w,pz.1⟩) (ZA.row (la _ (.tail _ (.tail _ (.head _))) _) (RR.y19 (enc:=e50) (fun _=>rfl) _) ⟨w,pz.1⟩) (ZA.row (la _ (.tail _ (.tail _ (.tail _ (.head _)))) _) (RR.y19 (enc:=e50) (fun _=>rfl) _) ⟨w,pz.1⟩) ((la _ (.head _) _).stb) ho) ?_
 rintro z9i zhw
 refine WD.gh (fun _=>Hp.ya8 zhw ztz .h1 (fun g=>stb g.1 143 [(.int .i64 (((yE z3s (⟨zb.1.fHop.fNode,zb.1.fHop.fLink⟩ : Snetwork_exit) default).fNumbers).fSlow)),(.int .i64 (((yE z3s (⟨zb.1.fHop.fNode,zb.1.fHop.fLink⟩ : Snetwork_exit) default).fNumbers).fDelay)),(.int .i64 (((yE z3s (⟨zb.1.fHop.fNode,zb.1.fHop.fLink⟩ : Snetwork_exit) default).fNumbers).fStore)),(.int .i64 ((yE z3s (⟨zb.1.fHop.fNode,zb.1.fHop.fLink⟩ : Snetwork_exit) default).fNow)),(.int .i64 ((yE z3s (⟨zb.1.fHop.fNode,zb.1.fHop.fLink⟩ : Snetwork_exit) default).fLast)),(.slice g.2.1 (((yE z3s (⟨zb.1.fHop.fNode,zb.1.fHop.fLink⟩ : Snetwork_exit) default).fFrames).length) g.2.2)] :: row (.slice g.2.1 (((yE z3s (⟨zb.1.fHop.fNode,zb.1.fHop.fLink⟩ : Snetwork_exit) default).fFrames).length) g.2.2) 146 2 (((yE z3s (⟨zb.1.fHop.fNode,zb.1.fHop.fLink⟩ : Snetwork_exit) default).fFrames).flatMap y2d) :: [y1D z1v (y4Y (⟨zb.1.fHop.fNode,zb.1.fHop.fLink⟩ : Snetwork_exit) z9i),y1s z35 (fun x=>Value.agg (y26 x).toArray) Value.pointer (y1F z9i),stb zhv 113 [(.int .i64 zb.1.fTime),(.int .i64 zb.1.fIn_),(.int .i64 zb.1.fVl),(.int .i64 zb.1.fSent),(.int .i64 zb.1.fHop.fNode),(.int .i64 zb.1.fHop.fNext),(.int .i64 zb.1.fHop.fLink)],stb z4I 81 [(.slice z5J zu.fModules.length z5K),(.slice z5L zu.fChannels.length z5M),(.slice z5N zu.fSwitches.length z5O),(.slice z5P zu.fLinks.length z5Q),(.slice z5R zu.fVLs.length z5S),(.slice z5T zu.fHealth.length z5U),(.slice z5V zu.fCauses.length z5W),(.slice z5X zu.fVersions.length z5Y),(.slice z5Z z49.length z60),(.slice z52 z3r.length z53),(.map (some z35)),(.slice z9g zb.2.length z9h),(.slice z3R z1D.length z3S),(.slice z3E z1A.length z3F)],row (.slice z9g zb.2.length z9h) 113 7 (zb.2.flatMap yF),row (.slice z3R z1D.length z3S) 50 3 (z1D.flatMap e50),row (.slice z3E z1A.length z3F) 50 3 (z1A.flatMap e50)]) (fun _=>rfl)) ?_
 rintro ⟨zap,zJH,zJI⟩ ztA
 refine WD.repin (i:=15) rfl (u:=(.pointer (some ⟨zap,0,none⟩))) (congrArg Value.pointer ztA) ?_
 refine WD.call2 (i:=15) (dd:=27) rfl (by kernel_rfl) rfl rfl rfl (.inl ⟨rfl,fun _ _=>(Sin.wk (.cons .h4 (.cons .h4 .nil)) (.stb (.cons rfl (.cons rfl .nil)) (.stb (.cons rfl .nil) .nil)))⟩) (zC (l:=[.tmp 15,.tmp 17,.tmp 26]) Try.call41 (.cons rfl (.cons rfl (.cons rfl .nil)))) (.cons .here (.cons .here .nil)) (cc hz (.cons .here (.cons .here .nil)) fun w pz ho=>y8y _ _ _ _ _ _ _ _ zA6 w pz  ho) ?_
 rintro zbX zbY _
 refine WD.ghL (fun _ h=>Hp.objsClose (els:=z1v) (lg:=z9i) (k:=(⟨zb.1.fHop.fNode,zb.1.fHop.fLink⟩ : Snetwork_exit)) (b:=zap) (g:=(zbX,zbY)) (x:=z2z.2.2) (.cons .here (.cons .here (.cons .here .nil))) h) ?_
 refine WD.ghL (M:=[y1s z35 (fun x=>Value.agg (y26 x).toArray) Value.pointer (y1F (y1b z9i (⟨zb.1.fHop.fNode,zb.1.fHop.fLink⟩ : Snetwork_exit) ((zap,(zbX,zbY)),z2z.2.2))),y1D z1v (y1b z9i (⟨zb.1.fHop.fNode,zb.1.fHop.fLink⟩ : Snetwork_exit) ((zap,(zbX,zbY)),z2z.2.2)),stb zhv 113 [(.int .i64 zb.1.fTime),(.int .i64 zb.1.fIn_),(.int .i64 zb.1.fVl),(.int .i64 zb.1.fSent),(.int .i64 zb.1.fHop.fNode),(.int .i64 zb.1.fHop.fNext),(.int .i64 zb.1.fHop.fLink)],stb z4I 81 [(.slice z5J zu.fModules.length z5K),(.slice z5L zu.fChannels.length z5M),(.slice z5N zu.fSwitches.length z5O),(.slice z5P zu.fLinks.length z5Q),(.slice z5R zu.fVLs.length z5S),(.slice z5T zu.fHealth.length z5U),(.slice z5V zu.fCauses.length z5W),(.slice z5X zu.fVersions.length z5Y),(.slice z5Z z49.length z60),(.slice z52 z3r.length z53),(.map (some z35)),(.slice z9g zb.2.length z9h),(.slice z3R z1D.length z3S),(.slice z3E z1A.length z3F)],row (.slice z9g zb.2.length z9h) 113 7 (zb.2.flatMap yF),row (.slice z3R z1D.length z3S) 50 3 (z1D.flatMap e50),row (.slice z3E z1A.length z3F) 50 3 (z1A.flatMap e50)]) (fun _ h=>Hp.y9G .h1 (yaU zhw ztz ztA _ _) h) ?_
 refine WD.a (i:=16) (d:=11) (by kernel_rfl) rfl z2 z3 rfl rfl rfl (fun _=>q_m rfl) ?_
 refine WD.a (i:=17) (d:=28) (by kernel_rfl) rfl z2 z3 rfl rfl rfl (fun _=>y3c rfl rfl) ?_
 refine WD.a (i:=18) (d:=29) (by kernel_rfl) rfl z2 z3 rfl rfl rfl (fun _=>y3c rfl rfl) ?_
 refine WD.a (i:=19) (d:=3) (by kernel_rfl) rfl z2 z3 rfl rfl rfl (fun _=>q_z rfl) ?_
 refine WD.a (i:=20) (d:=4) (by kernel_rfl) rfl z2 z3 rfl rfl rfl (fun _=>q_z rfl) ?_
 refine WD.done (by kernel_rfl) ?_
 refine WX.a (WC.b (WC.b (WC.a (WL.pu rfl (WL.pu rfl (WL.nil (WX.a ?_)))))))
 refine WC.cond rfl (fun znq=>?_) (fun znq=>?_)
 ·replace h:=ym h znq
  refine WC.b ?_
  obtain ⟨zA8,h⟩:=ye h
  refine WC.yI (fun i=>[14,17].contains i) [] rfl ?_
  refine WD.a (i:=0) (d:=32) (by kernel_rfl) rfl z2 z3 rfl rfl rfl (fun _=>q_m rfl) ?_
  refine WD.a (i:=1) (d:=33) (by kernel_rfl) rfl z2 z3 rfl rfl rfl (fun _=>q_m rfl) ?_
  refine WD.a (i:=2) (d:=34) (by kernel_rfl) rfl z2 z3 rfl rfl rfl (fun _=>yy rfl) ?_
  refine WD.a (i:=3) (d:=35) (by kernel_rfl) rfl z2 z3 rfl rfl rfl (fun _=>ya y8Q rfl rfl) ?_
  refine WD.e (i:=4) (d:=36) (by kernel_rfl) rfl z2 z3 rfl rfl rfl (yb y7N rfl (yc .h3 rfl)) ?_
  refine WD.a (i:=5) (d:=37) (by kernel_rfl) rfl z2 z3 rfl rfl rfl (fun _=>ya y5q rfl rfl) ?_
  refine WD.e (i:=6) (d:=38) (by kernel_rfl) rfl z2 z3 rfl rfl rfl (yb yd rfl (yc .h2 rfl)) ?_
  refine WD.a (i:=7) (d:=39) (by kernel_rfl) rfl z2 z3 rfl rfl rfl (fun _=>ya y5r rfl rfl) ?_
  refine WD.a (i:=8) (d:=40) (by kernel_rfl) rfl z2 z3 rfl rfl rfl (fun _=>ya y1E rfl rfl) ?_
  refine WD.e (i:=9) (d:=41) (by kernel_rfl) rfl z2 z3 rfl rfl rfl (yb yd rfl (yc .h2 rfl)) ?_
  refine WD.a (i:=10) (d:=42) (by kernel_rfl) rfl z2 z3 rfl rfl rfl (fun _=>ya y75 rfl rfl) ?_
  refine WD.e (i:=11) (d:=43) (by kernel_rfl) rfl z2 z3 rfl rfl rfl (yb yd rfl (yc .h2 rfl)) ?_
  refine WD.a (i:=12) (d:=44) (by kernel_rfl) rfl z2 z3 rfl rfl rfl (fun _=>y1n (v:=(.agg #[(.int .i64 zb.1.fSent),(.int .i64 zb.1.fHop.fNode),(.int .i64 zb.1.fTime)])) (Eos.parts (l:=[.tmp 38,.tmp 41,.tmp 43]) (.cons rfl (.cons rfl (.cons rfl .nil))) [0,1,2]) (fun _=>by kernel_rfl)) ?_
  refine WD.new (i:=13) (dd:=45) rfl (by kernel_rfl) rfl rfl rfl (yC (cs:=([(⟨zb.1.fSent,zb.1.fHop.fNode,zb.1.fTime⟩ : Sapi_Come)] : List Sapi_Come).flatMap e50) yV (Eos.parts (l:=[.tmp 44]) (.cons rfl .nil) [0]) (fun _=>by kernel_rfl) rfl (by unfold maxLen; omega)) (fun h'=>absurd h' (by decide)) ?_
  intro zJJ _
  refine WD.old (i:=14) (dd:=46) rfl (by kernel_rfl) rfl rfl rfl rfl (fun _=>(Sin.of .nil)) (y1R (enc:=e50) (l1:=z1A) (l2:=([(⟨zb.1.fSent,zb.1.fHop.fNode,zb.1.fTime⟩ : Sapi_Come)] : List Sapi_Come)) yV rfl rfl .h7 (fun _=>rfl) rfl rfl (y3m .here) (y2f y6y _) zA8) ?_
  rintro ⟨ztB,ztC⟩ _
  refine WD.a (i:=15) (d:=47) (by kernel_rfl) rfl z2 z3 rfl rfl rfl (fun _=>yy rfl) ?_
  refine WD.a (i:=16) (d:=48) (by kernel_rfl) rfl z2 z3 rfl rfl rfl (fun _=>ya y8Q rfl rfl) ?_
  refine WD.y3G (i:=17) rfl (by kernel_rfl) rfl rfl rfl (by kernel_rfl) (y3n (ds:=[(.slice z5J zu.fModules.length z5K),(.slice z5L zu.fChannels.length z5M),(.slice z5N zu.fSwitches.length z5O),(.slice z5P zu.fLinks.length z5Q),(.slice z5R zu.fVLs.length z5S),(.slice z5T zu.fHealth.length z5U),(.slice z5V zu.fCauses.length z5W),(.slice z5X zu.fVersions.length z5Y),(.slice z5Z z49.length z60),(.slice z52 z3r.length z53),(.map (some z35)),(.slice z9g zb.2.length z9h),(.slice z3R z1D.length z3S),(.slice ztB ((z1A ++ ([(⟨zb.1.fSent,zb.1.fHop.fNode,zb.1.fTime⟩ : Sapi_Come)] : List Sapi_Come)).length) ztC)]) yay rfl rfl rfl rfl rfl .h5 rfl rfl) ?_
  refine WD.done (by kernel_rfl) ?_
  refine WX.a (WC.ret (WX.yj ?_))
  obtain rfl:=Option.some.inj h
  refine WX.yi Try.results26 .nil (fun w hw=>?_)
  exact ⟨z9g,z9h,z3R,z3S,ztB,ztC,(y1b z9i (⟨zb.1.fHop.fNode,zb.1.fHop.fLink⟩ : Snetwork_exit) ((zap,(zbX,zbY)),z2z.2.2)),y4X,(y73 zhw _ _ _),hw.sub (.cons .here (.cons .h5 (.cons .h5 (.cons .here (.cons .h1 (.cons .h1 .nil))))))⟩
 ·replace h:=yn h znq
  refine WC.skip (WX.a ?_)
  obtain ⟨zkc,zA9,h⟩:=yU h
  refine WC.y3r (fun (z6y : List Sapi_Come) (zdB : Option Addr) (zdC : Nat)=>(zkc z6y = some r)) (fun (z6y : List Sapi_Come) (zdB : Option Addr) (zdC : Nat)=>[(0,(.pointer (some ⟨z4I,0,none⟩))),(2,(.pointer (some ⟨zhv,0,none⟩))),(3,(.int .i64 z2z.1))]) (fun (z6y : List Sapi_Come) (zdB : Option Addr) (zdC : Nat)=>[row (.slice z9g zb.2.length z9h) 113 7 (zb.2.flatMap yF),row (.slice zdB z6y.length zdC) 50 3 (z6y.flatMap e50),row (.slice z3E z1A.length z3F) 50 3 (z1A.flatMap e50),stb z4I 81 [(.slice z5J zu.fModules.length z5K),(.slice z5L zu.fChannels.length z5M),(.slice z5N zu.fSwitches.length z5O),(.slice z5P zu.fLinks.length z5Q),(.slice z5R zu.fVLs.length z5S),(.slice z5T zu.fHealth.length z5U),(.slice z5V zu.fCauses.length z5W),(.slice z5X zu.fVersions.length z5Y),(.slice z5Z z49.length z60),(.slice z52 z3r.length z53),(.map (some z35)),(.slice z9g zb.2.length z9h),(.slice zdB z6y.length zdC),(.slice z3E z1A.length z3F)],stb zhv 113 [(.int .i64 zb.1.fTime),(.int .i64 zb.1.fIn_),(.int .i64 zb.1.fVl),(.int .i64 zb.1.fSent),(.int .i64 zb.1.fHop.fNode),(.int .i64 zb.1.fHop.fNext),(.int .i64 zb.1.fHop.fLink)],y1s z35 (fun x=>Value.agg (y26 x).toArray) Value.pointer (y1F (y1b z9i (⟨zb.1.fHop.fNode,zb.1.fHop.fLink⟩ : Snetwork_exit) ((zap,(zbX,zbY)),z2z.2.2))),y1D z1v (y1b z9i (⟨zb.1.fHop.fNode,zb.1.fHop.fLink⟩ : Snetwork_exit) ((zap,(zbX,zbY)),z2z.2.2))]) ?_ ?_
  ·skip
   refine WC.b ?_
   refine WC.yI (fun i=>[].contains i) [] rfl ?_
   refine WD.a (i:=0) (d:=49) (by kernel_rfl) rfl z2 z3 rfl rfl rfl (fun _=>ya y5r rfl rfl) ?_
   refine WD.a (i:=1) (d:=50) (by kernel_rfl) rfl z2 z3 rfl rfl rfl (fun _=>ya y3h rfl rfl) ?_
   refine WD.e (i:=2) (d:=51) (by kernel_rfl) rfl z2 z3 rfl rfl rfl (yb yd rfl (yc .h2 rfl)) ?_
   refine WD.a (i:=3) (d:=52) (by kernel_rfl) rfl z2 z3 rfl rfl rfl (fun _=>q_m rfl) ?_
   refine WD.a (i:=4) (d:=53) (by kernel_rfl) rfl z2 z3 rfl rfl rfl (fun _=>yy rfl) ?_
   refine WD.a (i:=5) (d:=54) (by kernel_rfl) rfl z2 z3 rfl rfl rfl (fun _=>ya y6D rfl rfl) ?_
   refine WD.a (i:=6) (d:=55) (by kernel_rfl) rfl z2 z3 rfl rfl rfl (fun _=>ya y1Y rfl rfl) ?_
   refine WD.e (i:=7) (d:=56) (by kernel_rfl) rfl z2 z3 rfl rfl rfl (yb y1Z rfl (yc .h3 rfl)) ?_
   refine WD.a (i:=8) (d:=57) (by kernel_rfl) rfl z2 z3 rfl rfl rfl (fun _=>yz Try.underlying22 rfl) ?_
   refine WD.a (i:=9) (d:=58) (by kernel_rfl) rfl z2 z3 rfl rfl rfl (fun _=>y3O rfl rfl) ?_
   refine WD.done (by kernel_rfl) ?_
   refine WX.a ?_
   refine WC.cond rfl (fun znr=>?_) (fun znr=>?_)
   ·replace h:=ym h znr
    obtain ⟨zAa,h⟩:=ye h
    refine WC.yI (fun i=>[13,16].contains i) [] rfl ?_
    refine WD.a (i:=0) (d:=59) (by kernel_rfl) rfl z2 z3 rfl rfl rfl (fun _=>q_m rfl) ?_
    refine WD.a (i:=1) (d:=60) (by kernel_rfl) rfl z2 z3 rfl rfl rfl (fun _=>q_m rfl) ?_
    refine WD.a (i:=2) (d:=61) (by kernel_rfl) rfl z2 z3 rfl rfl rfl (fun _=>yy rfl) ?_
    refine WD.a (i:=3) (d:=62) (by kernel_rfl) rfl z2 z3 rfl rfl rfl (fun _=>ya y8R rfl rfl) ?_
    refine WD.e (i:=4) (d:=63) (by kernel_rfl) rfl z2 z3 rfl rfl rfl (yb y7N rfl (yc .h3 rfl)) ?_
    refine WD.a (i:=5) (d:=64) (by kernel_rfl) rfl z2 z3 rfl rfl rfl (fun _=>ya y5q rfl rfl) ?_
    refine WD.e (i:=6) (d:=65) (by kernel_rfl) rfl z2 z3 rfl rfl rfl (yb yd rfl (yc .h2 rfl)) ?_
    refine WD.a (i:=7) (d:=66) (by kernel_rfl) rfl z2 z3 rfl rfl rfl (fun _=>ya y5r rfl rfl) ?_
    refine WD.a (i:=8) (d:=67) (by kernel_rfl) rfl z2 z3 rfl rfl rfl (fun _=>ya y3h rfl rfl) ?_
    refine WD.e (i:=9) (d:=68) (by kernel_rfl) rfl z2 z3 rfl rfl rfl (yb yd rfl (yc .h2 rfl)) ?_
    refine WD.a (i:=10) (d:=69) (by kernel_rfl) rfl z2 z3 rfl rfl rfl (fun _=>q_m rfl) ?_
    refine WD.a (i:=11) (d:=70) (by kernel_rfl) rfl z2 z3 rfl rfl rfl (fun _=>y1n (v:=(.agg #[(.int .i64 zb.1.fSent),(.int .i64 zb.1.fHop.fNext),(.int .i64 z2z.1)])) (Eos.parts (l:=[.tmp 65,.tmp 68,.tmp 69]) (.cons rfl (.cons rfl (.cons rfl .nil))) [0,1,2]) (fun _=>by kernel_rfl)) ?_
    refine WD.new (i:=12) (dd:=71) rfl (by kernel_rfl) rfl rfl rfl (yC (cs:=([(⟨zb.1.fSent,zb.1.fHop.fNext,z2z.1⟩ : Sapi_Come)] : List Sapi_Come).flatMap e50) yV (Eos.parts (l:=[.tmp 70]) (.cons rfl .nil) [0]) (fun _=>by kernel_rfl) rfl (by unfold maxLen; omega)) (fun h'=>absurd h' (by decide)) ?_
    intro zJK _
    refine WD.old (i:=13) (dd:=72) rfl (by kernel_rfl) rfl rfl rfl rfl (fun _=>(Sin.of .nil)) (y1R (enc:=e50) (l1:=z1D) (l2:=([(⟨zb.1.fSent,zb.1.fHop.fNext,z2z.1⟩ : Sapi_Come)] : List Sapi_Come)) yV rfl rfl .h6 (fun _=>rfl) rfl rfl (y3m .here) (y2f y6y _) zAa) ?_
    rintro ⟨ztD,ztE⟩ _
    refine WD.a (i:=14) (d:=73) (by kernel_rfl) rfl z2 z3 rfl rfl rfl (fun _=>yy rfl) ?_
    refine WD.a (i:=15) (d:=74) (by kernel_rfl) rfl z2 z3 rfl rfl rfl (fun _=>ya y8R rfl rfl) ?_
    refine WD.y3G (i:=16) rfl (by kernel_rfl) rfl rfl rfl (by kernel_rfl) (y3n (ds:=[(.slice z5J zu.fModules.length z5K),(.slice z5L zu.fChannels.length z5M),(.slice z5N zu.fSwitches.length z5O),(.slice z5P zu.fLinks.length z5Q),(.slice z5R zu.fVLs.length z5S),(.slice z5T zu.fHealth.length z5U),(.slice z5V zu.fCauses.length z5W),(.slice z5X zu.fVersions.length z5Y),(.slice z5Z z49.length z60),(.slice z52 z3r.length z53),(.map (some z35)),(.slice z9g zb.2.length z9h),(.slice ztD ((z1D ++ ([(⟨zb.1.fSent,zb.1.fHop.fNext,z2z.1⟩ : Sapi_Come)] : List Sapi_Come)).length) ztE),(.slice z3E z1A.length z3F)]) yay rfl rfl rfl rfl rfl .h5 rfl rfl) ?_
    refine WD.done (by kernel_rfl) ?_
    exact WX.mid (G:=List Sapi_Come × Option Addr × Nat) ⟨(z1D ++ ([(⟨zb.1.fSent,zb.1.fHop.fNext,z2z.1⟩ : Sapi_Come)] : List Sapi_Come)),ztD,ztE⟩ h (.cons rfl (.cons rfl (.cons rfl .nil))) (.cons .h6 (.cons .h1 (.cons .h5 (.cons .here (.cons .h3 (.cons .h1 (.cons .h1 .nil)))))))
   ·replace h:=yn h znr
    refine WC.skip ?_
    exact WX.mid (G:=List Sapi_Come × Option Addr × Nat) ⟨z1D,z3R,z3S⟩ h (.cons rfl (.cons rfl (.cons rfl .nil))) (.cons .h4 (.cons .h4 (.cons .h4 (.cons .h3 (.cons .h2 (.cons .here (.cons .here .nil)))))))
  ·rintro z6y zdB zdC h
   replace h:=(zA9 z6y).symm.trans h
   obtain ⟨ztj,zAb,h⟩:=zg h
   refine WC.a (WL.pu rfl ?_)
   refine WL.a (d:=76) rfl rfl rfl (ya y5r rfl rfl) ?_
   refine WL.a (d:=77) rfl rfl rfl (ya y3h rfl rfl) ?_
   refine WL.a (d:=78) rfl rfl rfl (yb yd rfl (yc .h4 rfl)) ?_
   refine WL.pu rfl ?_
   refine WL.a (d:=80) rfl rfl rfl (ya y5r rfl rfl) ?_
   refine WL.a (d:=81) rfl rfl rfl (ya y4W rfl rfl) ?_
   refine WL.a (d:=82) rfl rfl rfl (yb yd rfl (yc .h4 rfl)) ?_
   refine WL.a (d:=83) rfl rfl rfl (ya y5q rfl rfl) ?_
   refine WL.a (d:=84) rfl rfl rfl (yb yd rfl (yc .h4 rfl)) ?_
   refine WL.y4r (dd:=85) rfl rfl rfl (zC (l:=[.tmp 75,.tmp 78,.tmp 79,.tmp 82,.tmp 84]) Try.call25 (.cons rfl (.cons rfl (.cons rfl (.cons rfl (.cons rfl .nil)))))) (.cons .h3 (.cons .h4 (.cons .h4 (.cons .here .nil)))) (ccl hz (.cons .h3 (.cons .h4 (.cons .h4 (.cons .here .nil)))) (.cons .here (.cons .here .nil)) fun w pz ho la=>y5n _ _ _ _ _ _ _ _ _ _ _ _ _ _ _ _ _ _ _ _ _ _ _ _ _ _ _ _ _ _ _ _ _ _ _ _ _ _ _ _ _ _ zAb w pz ((ztk.mono (Zle.left _ _)).weak (fun _ _ h=>y1u (Zle.left _ _) h)) ((ztl.mono (Zle.left _ _)).weak (fun _ _ h=>y1A (Zle.left _ _) h)) (ztm.mono (Zle.left _ _)) (ztn.mono (Zle.left _ _)) ((zto.mono (Zle.left _ _)).weak (fun _ _ h=>y1v (Zle.left _ _) h)) (ztp.mono (Zle.left _ _)) ((ztq.mono (Zle.left _ _)).weak (fun _ _ h=>y1B (Zle.left _ _) h)) (ztr.mono (Zle.left _ _)) ((zts.mono (Zle.left _ _)).weak (fun _ _ h=>y2G (Zle.left _ _) h)) (zno.mono (Zle.left _ _)) (y73 zhw _ _ _) (ZA.row (la _ (.head _) _) (RR.y19 (enc:=e50) (fun _=>rfl) _) ⟨w,pz.1⟩) (ZA.row (la _ (.tail _ (.head _)) _) (RR.y19 (enc:=e50) (fun _=>rfl) _) ⟨w,pz.1⟩) ho) ?_
   rintro zAc zAd _
   refine WL.nil ?_
   obtain rfl:=Option.some.inj h
   refine WX.y29 Try.results26 .nil (fun w hw=>?_)
   exact ⟨zAc,zAd,zdB,zdC,z3E,z3F,(y1b z9i (⟨zb.1.fHop.fNode,zb.1.fHop.fLink⟩ : Snetwork_exit) ((zap,(zbX,zbY)),z2z.2.2)),y4X,(y73 zhw _ _ _),hw.sub (.cons .here (.cons .here (.cons .h2 (.cons .h2 (.cons .here (.cons .here .nil))))))⟩
def y2P (z3T : Sapi_Come) (z3U : Sapi_Come) : Option Int :=
 (y1y z3T.fTime z3U.fTime).bind fun zns=>(y1y z3T.fSent z3U.fSent).bind fun znt=>(y1y z3T.fNode z3U.fNode).bind fun znu=>(y4b ([zns,znt,znu] : List Int)).bind fun ztF=>some ztF
set_option maxRecDepth 20000 in
theorem y7G (Z : Zp)  (z3T : Sapi_Come) (z3U : Sapi_Come) (r : Int)
  (h : y2P z3T z3U = some r) (w₀ : World) (hz : PZ [] w₀ Z) :
  Calls Try.prog 43 #[(.agg #[(.int .i64 z3T.fSent),(.int .i64 z3T.fNode),(.int .i64 z3T.fTime)]),(.agg #[(.int .i64 z3U.fSent),(.int .i64 z3U.fNode),(.int .i64 z3U.fTime)])] w₀ fun e w'=>e = .returned (.int .i64 r) ∧ Hp [] w₀ w' []:=by
 unfold y2P at h
 refine Calls.yp (vs:=[(.agg #[(.int .i64 z3T.fSent),(.int .i64 z3T.fNode),(.int .i64 z3T.fTime)]),(.agg #[(.int .i64 z3U.fSent),(.int .i64 z3U.fNode),(.int .i64 z3U.fTime)])]) (pre:=[]) (env:=[(0,(.agg #[(.int .i64 z3T.fSent),(.int .i64 z3T.fNode),(.int .i64 z3T.fTime)])),(1,(.agg #[(.int .i64 z3U.fSent),(.int .i64 z3U.fNode),(.int .i64 z3U.fTime)]))]) Try.func43 rfl Try.ntmps43 rfl (Hp.nil w₀ _) rfl ?_
 refine WC.b (WC.a ?_)
 refine WL.new (dd:=2) rfl rfl rfl (y1N (cs:=[(.int .i64 z3T.fSent),(.int .i64 z3T.fNode),(.int .i64 z3T.fTime)]) rfl rfl) ?_
 intro zJL _
 refine WL.new (dd:=3) rfl rfl rfl (y1N (cs:=[(.int .i64 z3U.fSent),(.int .i64 z3U.fNode),(.int .i64 z3U.fTime)]) rfl rfl) ?_
 intro zJM _
 refine WL.pu rfl (WL.nil (WX.a (WC.b ?_)))
 obtain ⟨zns,zAe,h⟩:=zg h
 obtain ⟨znt,zAf,h⟩:=zg h
 obtain ⟨znu,zAg,h⟩:=zg h
 obtain ⟨ztF,zAh,h⟩:=zg h
 refine WC.yI (fun i=>[].contains i) [] rfl ?_
 refine WD.a (i:=0) (d:=5) (by kernel_rfl) rfl z2 z3 rfl rfl rfl (fun _=>ya y5P rfl rfl) ?_
 refine WD.e (i:=1) (d:=6) (by kernel_rfl) rfl z2 z3 rfl rfl rfl (yb yd rfl (yc .h1 rfl)) ?_
 refine WD.a (i:=2) (d:=7) (by kernel_rfl) rfl z2 z3 rfl rfl rfl (fun _=>ya y5P rfl rfl) ?_
 refine WD.e (i:=3) (d:=8) (by kernel_rfl) rfl z2 z3 rfl rfl rfl (yb yd rfl (yc .here rfl)) ?_
 refine WD.c (i:=4) (d:=9) (by kernel_rfl) rfl z2 z3 rfl rfl rfl (zC (l:=[.tmp 6,.tmp 8]) Try.call45 (.cons rfl (.cons rfl .nil))) (cc hz .nil fun w pz ho=>y2u _ _ _ _ zAe w pz ) ?_
 refine WD.a (i:=5) (d:=10) (by kernel_rfl) rfl z2 z3 rfl rfl rfl (fun _=>ya y5Q rfl rfl) ?_
 refine WD.e (i:=6) (d:=11) (by kernel_rfl) rfl z2 z3 rfl rfl rfl (yb yd rfl (yc .h1 rfl)) ?_
 refine WD.a (i:=7) (d:=12) (by kernel_rfl) rfl z2 z3 rfl rfl rfl (fun _=>ya y5Q rfl rfl) ?_
 refine WD.e (i:=8) (d:=13) (by kernel_rfl) rfl z2 z3 rfl rfl rfl (yb yd rfl (yc .here rfl)) ?_
 refine WD.c (i:=9) (d:=14) (by kernel_rfl) rfl z2 z3 rfl rfl rfl (zC (l:=[.tmp 11,.tmp 13]) Try.call45 (.cons rfl (.cons rfl .nil))) (cc hz .nil fun w pz ho=>y2u _ _ _ _ zAf w pz ) ?_
 refine WD.a (i:=10) (d:=15) (by kernel_rfl) rfl z2 z3 rfl rfl rfl (fun _=>ya y7O rfl rfl) ?_
 refine WD.e (i:=11) (d:=16) (by kernel_rfl) rfl z2 z3 rfl rfl rfl (yb yd rfl (yc .h1 rfl)) ?_
 refine WD.a (i:=12) (d:=17) (by kernel_rfl) rfl z2 z3 rfl rfl rfl (fun _=>ya y7O rfl rfl) ?_
 refine WD.e (i:=13) (d:=18) (by kernel_rfl) rfl z2 z3 rfl rfl rfl (yb yd rfl (yc .here rfl)) ?_
 refine WD.c (i:=14) (d:=19) (by kernel_rfl) rfl z2 z3 rfl rfl rfl (zC (l:=[.tmp 16,.tmp 18]) Try.call45 (.cons rfl (.cons rfl .nil))) (cc hz .nil fun w pz ho=>y2u _ _ _ _ zAg w pz ) ?_
 refine WD.new (i:=15) (dd:=20) rfl (by kernel_rfl) rfl rfl rfl (yC (cs:=([zns,znt,znu] : List Int).flatMap e3) y2q (Eos.parts (l:=[.tmp 9,.tmp 14,.tmp 19]) (.cons rfl (.cons rfl (.cons rfl .nil))) [0,1,2]) (fun _=>by kernel_rfl) rfl (by unfold maxLen; omega)) (fun h'=>absurd h' (by decide)) ?_
 intro zJN _
 refine WD.c (i:=16) (d:=21) (by kernel_rfl) rfl z2 z3 rfl rfl rfl (zC (l:=[.tmp 20]) Try.call44 (.cons rfl .nil)) (ccl hz .nil (.cons .here .nil) fun w pz ho la=>y7D _ _ _ _ _ zAh w pz (ZA.row (la _ (.head _) _) (RR.y19 (enc:=e3) (fun _=>rfl) _) ⟨w,pz.1⟩)) ?_
 refine WD.a (i:=17) (d:=4) (by kernel_rfl) rfl z2 z3 rfl rfl rfl (fun _=>q_z rfl) ?_
 refine WD.done (by kernel_rfl) ?_
 refine WX.a (WC.ret ?_)
 obtain rfl:=Option.some.inj h
 refine WX.yi Try.results43 (.tmp rfl .nil) (fun w hw=>?_)
 exact ⟨yM rfl,hw.sub .nil⟩
def yP (z1W : Int) (z3G : Sapi_Come → Sapi_Come → Option Int) (z9j : (List Sapi_Come) → Option (List Sapi_Come)) : Nat → (List Sapi_Come) → Int → Option (List Sapi_Come)
 | 0,_,_=>none
 | znv + 1,zl,zf=>(if decide (zf > z1W) then chk ((0 : Int) ≤ zf ∧ zf < ((zl.length : Nat) : Int)) (chk ((0 : Int) ≤ (i64 (zf - 1)) ∧ (i64 (zf - 1)) < ((zl.length : Nat) : Int)) ((z3G (⟨((nth zl zf).fSent),((nth zl zf).fNode),((nth zl zf).fTime)⟩ : Sapi_Come) (⟨((nth zl (i64 (zf - 1))).fSent),((nth zl (i64 (zf - 1))).fNode),((nth zl (i64 (zf - 1))).fTime)⟩ : Sapi_Come)).bind fun znw=>some (decide (znw < 0)))) else some false).bind fun znx=>if znx then chk ((0 : Int) ≤ (i64 (zf - 1)) ∧ (i64 (zf - 1)) < ((zl.length : Nat) : Int)) (chk ((0 : Int) ≤ zf ∧ zf < ((zl.length : Nat) : Int)) (chk ((0 : Int) ≤ (i64 (zf - 1)) ∧ (i64 (zf - 1)) < (((zl.set (zf : Int).toNat (⟨((nth zl (i64 (zf - 1))).fSent),((nth zl (i64 (zf - 1))).fNode),((nth zl (i64 (zf - 1))).fTime)⟩ : Sapi_Come)).length : Nat) : Int)) (yP z1W z3G z9j znv ((zl.set (zf : Int).toNat (⟨((nth zl (i64 (zf - 1))).fSent),((nth zl (i64 (zf - 1))).fNode),((nth zl (i64 (zf - 1))).fTime)⟩ : Sapi_Come)).set ((i64 (zf - 1)) : Int).toNat (⟨((nth zl zf).fSent),((nth zl zf).fNode),((nth zl zf).fTime)⟩ : Sapi_Come)) (i64 (zf - 1))))) else z9j zl
theorem y3R {n : Nat} {z1W : Int} {z3G : Sapi_Come → Sapi_Come → Option Int} {z9j : (List Sapi_Come) → Option (List Sapi_Come)} {zl : List Sapi_Come} {zf : Int} {r : List Sapi_Come} (h : yP z1W z3G z9j n zl zf = some r) : ∃ m,n = m + 1:=by
 cases n with
 | zero=>cases h
 | succ m=>exact ⟨m,rfl⟩
def yB (z3V : Int) (z1W : Int) (z3G : Sapi_Come → Sapi_Come → Option Int) (z9k : (List Sapi_Come) → Option (List Sapi_Come)) : Nat → (List Sapi_Come) → Int → Option (List Sapi_Come)
 | 0,_,_=>none
 | zny + 1,z4a,z3H=>if decide (z3H < z3V) then jp1 (fun (z61 : List Sapi_Come)=>yB z3V z1W z3G z9k zny z61 (i64 (z3H + 1))) fun znz=>jp1 (fun (z62 : List Sapi_Come)=>znz z62) fun z9j=>yP z1W z3G z9j yw z4a z3H else z9k z4a
theorem y3S {n : Nat} {z3V : Int} {z1W : Int} {z3G : Sapi_Come → Sapi_Come → Option Int} {z9k : (List Sapi_Come) → Option (List Sapi_Come)} {z4a : List Sapi_Come} {z3H : Int} {r : List Sapi_Come} (h : yB z3V z1W z3G z9k n z4a z3H = some r) : ∃ m,n = m + 1:=by
 cases n with
 | zero=>cases h
 | succ m=>exact ⟨m,rfl⟩
def y11 (z2i : List Sapi_Come) (z1W : Int) (z3V : Int) (z3G : Sapi_Come → Sapi_Come → Option Int) : Option (List Sapi_Come) :=
 jp1 (fun (z8c : List Sapi_Come)=>some z8c) fun z9k=>yB z3V z1W z3G z9k yw z2i (i64 (z1W + 1))
set_option maxRecDepth 20000 in
theorem y31 (Z : Zp) (z3t : Option Addr) (z2f : Nat) (z4J : FuncId) (z63 : List Value) (z2i : List Sapi_Come) (z1W : Int) (z3V : Int) (z3G : Sapi_Come → Sapi_Come → Option Int) (r : List Sapi_Come)
  (h : y11 z2i z1W z3V z3G = some r) (w₀ : World) (hz : PZ (fps [row (.slice z3t z2i.length z2f) 50 3 (z2i.flatMap e50)]) w₀ Z)
  (zAi : ∀ args w,(callFunc z4J args).run Try.prog w = .ok (.enter z4J args) w)
  (zAj : ∀ w : World,PZ [] w Z → ∀ (x0 : Sapi_Come) (x1 : Sapi_Come) (r : Int),z3G x0 x1 = some r → Calls Try.prog z4J (([(.agg #[(.int .i64 x0.fSent),(.int .i64 x0.fNode),(.int .i64 x0.fTime)]),(.agg #[(.int .i64 x1.fSent),(.int .i64 x1.fNode),(.int .i64 x1.fTime)])] : List Value) ++ z63).toArray w fun e w'=>e = .returned (.int .i64 r) ∧ Hp [] w w' [])
  (hown : Hp (fps [row (.slice z3t z2i.length z2f) 50 3 (z2i.flatMap e50)]) w₀ w₀ [row (.slice z3t z2i.length z2f) 50 3 (z2i.flatMap e50)]) :
  Calls Try.prog 66 #[(.slice z3t z2i.length z2f),(.int .i64 z1W),(.int .i64 z3V),(.func (.func z4J) #[] (z63).toArray)] w₀ fun e w'=>e = .returned (.tuple #[]) ∧ (r.length = z2i.length) ∧ Hp (fps [row (.slice z3t z2i.length z2f) 50 3 (z2i.flatMap e50)]) w₀ w' [row (.slice z3t r.length z2f) 50 3 (r.flatMap e50)]:=by
 unfold y11 at h
 refine Calls.yp (vs:=[(.slice z3t z2i.length z2f),(.int .i64 z1W),(.int .i64 z3V),(.func (.func z4J) #[] (z63).toArray)]) (pre:=[row (.slice z3t z2i.length z2f) 50 3 (z2i.flatMap e50)]) (env:=[(0,(.slice z3t z2i.length z2f)),(1,(.int .i64 z1W)),(2,(.int .i64 z3V)),(3,(.func (.func z4J) #[] (z63).toArray))]) Try.func66 rfl Try.ntmps66 rfl (hown) rfl ?_
 refine WC.b (WC.a (WL.pu rfl (WL.pu rfl (WL.pu rfl (WL.nil (WX.a ?_))))))
 obtain ⟨z9k,zAk,h⟩:=yU h
 refine WC.y5J (fun (z8c : List Sapi_Come)=>(z9k z8c = some r) ∧ (z8c.length = z2i.length)) (fun (z8c : List Sapi_Come)=>[]) (fun (z8c : List Sapi_Come)=>[row (.slice z3t z8c.length z2f) 50 3 (z8c.flatMap e50)]) ?_ ?_
 ·skip
  refine WC.block ?_
  refine WC.y2F (fun (zdD : Nat) (z4a : List Sapi_Come) (z3H : Int)=>(yB z3V z1W z3G z9k zdD z4a z3H = some r) ∧ (z4a.length = z2i.length)) (fun (zdD : Nat) (z4a : List Sapi_Come) (z3H : Int)=>[(0,(.slice z3t z4a.length z2f)),(1,(.int .i64 z1W)),(2,(.int .i64 z3V)),(3,(.func (.func z4J) #[] (z63).toArray)),(8,(.int .i64 z3H))]) (fun (zdD : Nat) (z4a : List Sapi_Come) (z3H : Int)=>[row (.slice z3t z4a.length z2f) 50 3 (z4a.flatMap e50)]) (fun (zdD : Nat) (z4a : List Sapi_Come) (z3H : Int)=>zdD) ⟨yw,z2i,(i64 (z1W + 1))⟩ ⟨h,rfl⟩ (.cons rfl (.cons rfl (.cons rfl (.cons rfl (.cons rfl .nil))))) (.cons .here .nil) ?_
  rintro zdD z4a z3H ⟨h,ztG⟩
  obtain ⟨zny,rfl⟩:=y3S h
  rw [yB] at h
  refine WC.b (WC.b (WC.a (WL.pu rfl (WL.pu rfl (WL.pu rfl (WL.nil (WX.a ?_)))))))
  refine WC.cond rfl (fun znA=>?_) (fun znA=>?_)
  ·replace h:=ym h znA
   refine WC.skip (WX.a ?_)
   obtain ⟨znz,zAl,h⟩:=yU h
   refine WC.y1i (fun (z61 : List Sapi_Come)=>(znz z61 = some r) ∧ (z61.length = z2i.length)) (fun (z61 : List Sapi_Come)=>[(0,(.slice z3t z61.length z2f)),(1,(.int .i64 z1W)),(2,(.int .i64 z3V)),(3,(.func (.func z4J) #[] (z63).toArray)),(8,(.int .i64 z3H))]) (fun (z61 : List Sapi_Come)=>[row (.slice z3t z61.length z2f) 50 3 (z61.flatMap e50)]) ?_ ?_
   ·skip
    refine WC.block (WC.b (WC.a (WL.pu rfl (WL.pu rfl (WL.nil (WX.a ?_))))))
    obtain ⟨z9j,zAm,h⟩:=yU h
    refine WC.y5J (fun (z62 : List Sapi_Come)=>(z9j z62 = some r) ∧ (z62.length = z2i.length)) (fun (z62 : List Sapi_Come)=>[(0,(.slice z3t z62.length z2f)),(1,(.int .i64 z1W)),(2,(.int .i64 z3V)),(3,(.func (.func z4J) #[] (z63).toArray)),(8,(.int .i64 z3H))]) (fun (z62 : List Sapi_Come)=>[row (.slice z3t z62.length z2f) 50 3 (z62.flatMap e50)]) ?_ ?_
    ·skip
     refine WC.block ?_
     refine WC.y2F (fun (zdE : Nat) (zl : List Sapi_Come) (zf : Int)=>(yP z1W z3G z9j zdE zl zf = some r) ∧ (zl.length = z2i.length)) (fun (zdE : Nat) (zl : List Sapi_Come) (zf : Int)=>[(0,(.slice z3t zl.length z2f)),(1,(.int .i64 z1W)),(2,(.int .i64 z3V)),(3,(.func (.func z4J) #[] (z63).toArray)),(8,(.int .i64 z3H)),(9,(.int .i64 zf))]) (fun (zdE : Nat) (zl : List Sapi_Come) (zf : Int)=>[row (.slice z3t zl.length z2f) 50 3 (zl.flatMap e50)]) (fun (zdE : Nat) (zl : List Sapi_Come) (zf : Int)=>zdE) ⟨yw,z4a,z3H⟩ ⟨h,ztG⟩ (.cons rfl (.cons rfl (.cons rfl (.cons rfl (.cons rfl (.cons rfl .nil)))))) (.cons .here .nil) ?_
     rintro zdE zl zf ⟨h,ztH⟩
     obtain ⟨znv,rfl⟩:=y3R h
     rw [yP] at h
     refine WC.b (WC.b ?_)
     obtain ⟨znx,ztI,h⟩:=zg h
     refine WC.yI (fun i=>[].contains i) [] rfl ?_
     refine WD.a (i:=0) (d:=18) (by kernel_rfl) rfl z2 z3 rfl rfl rfl (fun _=>q_m rfl) ?_
     refine WD.a (i:=1) (d:=19) (by kernel_rfl) rfl z2 z3 rfl rfl rfl (fun _=>q_m rfl) ?_
     refine WD.a (i:=2) (d:=20) (by kernel_rfl) rfl z2 z3 rfl rfl rfl (fun _=>y3f rfl rfl) ?_
     refine WD.a (i:=3) (d:=21) (by kernel_rfl) rfl z2 z3 rfl rfl rfl (fun _=>q_m rfl) ?_
     refine WD.mid (fuel':=0) [(0,(.slice z3t zl.length z2f)),(1,(.int .i64 z1W)),(2,(.int .i64 z3V)),(3,(.func (.func z4J) #[] (z63).toArray)),(8,(.int .i64 z3H)),(9,(.int .i64 zf)),(18,(.int .i64 zf)),(19,(.int .i64 z1W)),(20,(.bool (decide (zf > z1W)))),(21,(.bool (decide (zf > z1W)))),(34,(.bool znx))] (yJ 17 [16,15,14,13,12,11,10,9,8,7,6,5,4,3,2,1,0]) ?_ (fun ztJ=>?_)
     rotate_left
     ·rcases Bool.eq_false_or_eq_true (decide (zf > z1W)) with hb' | hb'
      ·have znB:=hb'; clear hb'
       have z9l:=ym ztI znB
       obtain ⟨zhx,z9l⟩:=ye z9l
       obtain ⟨zkd,z9l⟩:=ye z9l
       obtain ⟨znw,zAn,z9l⟩:=zg z9l
       replace z9l:=Option.some.inj z9l
       refine WD.pin (i:=21) rfl znB ?_
       refine WD.a (i:=4) (d:=22) (by kernel_rfl) rfl z2 z3 rfl rfl rfl (fun _=>q_m rfl) ?_
       refine WD.a (i:=5) (d:=23) (by kernel_rfl) rfl z2 z3 rfl rfl rfl (fun _=>q_m rfl) ?_
       refine WD.a (i:=6) (d:=24) (by kernel_rfl) rfl z2 z3 rfl rfl rfl (fun _=>q_m rfl) ?_
       refine WD.know (fun w hw=>Hp.y2g .here hw (by intro hz'; have:=zhx; rw [hz'] at this; omega)) ?_
       rintro ⟨zJO,rfl⟩
       refine WD.a (i:=7) (d:=25) (by kernel_rfl) rfl z2 z3 rfl rfl rfl (fun _=>yu yV rfl rfl zhx.1 zhx.2 y1c) ?_
       refine WD.e (i:=8) (d:=26) (by kernel_rfl) rfl z2 z3 rfl rfl rfl (y1J (cs:=(e50 (nth zl zf))) y2n rfl rfl (y1U .here (y1V (enc:=e50) (l:=zl) (i:=zf) (sz:=3) (fun _=>rfl) zhx.1 zhx.2))) ?_
       refine WD.a (i:=9) (d:=27) (by kernel_rfl) rfl z2 z3 rfl rfl rfl (fun _=>q_m rfl) ?_
       refine WD.a (i:=10) (d:=28) (by kernel_rfl) rfl z2 z3 rfl rfl rfl (fun _=>q_m rfl) ?_
       refine WD.a (i:=11) (d:=29) (by kernel_rfl) rfl z2 z3 rfl rfl rfl (fun _=>y3Z rfl rfl rfl) ?_
       refine WD.a (i:=12) (d:=30) (by kernel_rfl) rfl z2 z3 rfl rfl rfl (fun _=>yu yV rfl rfl zkd.1 zkd.2 y1c) ?_
       refine WD.e (i:=13) (d:=31) (by kernel_rfl) rfl z2 z3 rfl rfl rfl (y1J (cs:=(e50 (nth zl (i64 (zf - 1))))) y2n rfl rfl (y1U .here (y1V (enc:=e50) (l:=zl) (i:=i64 (zf - 1)) (sz:=3) (fun _=>rfl) zkd.1 zkd.2))) ?_
       refine WD.c (i:=14) (d:=32) (by kernel_rfl) rfl z2 z3 rfl rfl rfl (y4q (l:=[.tmp 26,.tmp 31]) (f:=z4J) (caps:=z63) zAi rfl (.cons rfl (.cons rfl .nil))) (fun w hw=>zAj w (hz.now hw) (⟨((nth zl zf).fSent),((nth zl zf).fNode),((nth zl zf).fTime)⟩ : Sapi_Come) (⟨((nth zl (i64 (zf - 1))).fSent),((nth zl (i64 (zf - 1))).fNode),((nth zl (i64 (zf - 1))).fTime)⟩ : Sapi_Come) znw  zAn) ?_
       refine WD.a (i:=15) (d:=33) (by kernel_rfl) rfl z2 z3 rfl rfl rfl (fun _=>y3O rfl rfl) ?_
       refine WD.a (i:=16) (d:=34) (by kernel_rfl) rfl z2 z3 rfl rfl rfl (fun _=>yW rfl rfl) ?_
       refine WD.ys (.cons .here .nil) ?_ ztJ
       exact (.cons rfl (.cons rfl (.cons rfl (.cons rfl (.cons rfl (.cons rfl (.cons rfl (.cons rfl (.cons rfl (.cons (z7 (Eq.symm znB)) (.cons (z7 z9l) .nil)))))))))))
      ·have znC:=hb'; clear hb'
       have znD:=yn ztI znC
       replace znD:=Option.some.inj znD
       refine WD.pin (i:=21) rfl znC ?_
       refine WD.b (i:=4) (d:=22) (by kernel_rfl) rfl z2 z3 rfl rfl rfl ?_
       refine WD.b (i:=5) (d:=23) (by kernel_rfl) rfl z2 z3 rfl rfl rfl ?_
       refine WD.b (i:=6) (d:=24) (by kernel_rfl) rfl z2 z3 rfl rfl rfl ?_
       refine WD.b (i:=7) (d:=25) (by kernel_rfl) rfl z2 z3 rfl rfl rfl ?_
       refine WD.b (i:=8) (d:=26) (by kernel_rfl) rfl z2 z3 rfl rfl rfl ?_
       refine WD.b (i:=9) (d:=27) (by kernel_rfl) rfl z2 z3 rfl rfl rfl ?_
       refine WD.b (i:=10) (d:=28) (by kernel_rfl) rfl z2 z3 rfl rfl rfl ?_
       refine WD.b (i:=11) (d:=29) (by kernel_rfl) rfl z2 z3 rfl rfl rfl ?_
       refine WD.b (i:=12) (d:=30) (by kernel_rfl) rfl z2 z3 rfl rfl rfl ?_
       refine WD.b (i:=13) (d:=31) (by kernel_rfl) rfl z2 z3 rfl rfl rfl ?_
       refine WD.b (i:=14) (d:=32) (by kernel_rfl) rfl z2 z3 rfl rfl rfl ?_
       refine WD.b (i:=15) (d:=33) (by kernel_rfl) rfl z2 z3 rfl rfl rfl ?_
       refine WD.a (i:=16) (d:=34) (by kernel_rfl) rfl z2 z3 rfl rfl rfl (fun _=>yX rfl rfl) ?_
       refine WD.ys (.cons .here .nil) ?_ ztJ
       exact (.cons rfl (.cons rfl (.cons rfl (.cons rfl (.cons rfl (.cons rfl (.cons rfl (.cons rfl (.cons rfl (.cons (z7 (Eq.symm znC)) (.cons (z7 znD) .nil)))))))))))
     refine WD.done (by kernel_rfl) ?_
     refine WX.a ?_
     refine WC.cond rfl (fun znE=>?_) (fun znE=>?_)
     ·replace h:=ym h znE
      refine WC.skip (WX.a (WC.b (WC.block ?_)))
      obtain ⟨zhy,h⟩:=ye h
      obtain ⟨z8d,h⟩:=ye h
      obtain ⟨zdF,h⟩:=ye h
      refine WC.yI (fun i=>[15,17].contains i) [] rfl ?_
      refine WD.a (i:=0) (d:=37) (by kernel_rfl) rfl z2 z3 rfl rfl rfl (fun _=>q_m rfl) ?_
      refine WD.a (i:=1) (d:=38) (by kernel_rfl) rfl z2 z3 rfl rfl rfl (fun _=>q_m rfl) ?_
      refine WD.a (i:=2) (d:=39) (by kernel_rfl) rfl z2 z3 rfl rfl rfl (fun _=>q_m rfl) ?_
      refine WD.a (i:=3) (d:=40) (by kernel_rfl) rfl z2 z3 rfl rfl rfl (fun _=>q_m rfl) ?_
      refine WD.a (i:=4) (d:=41) (by kernel_rfl) rfl z2 z3 rfl rfl rfl (fun _=>y3Z rfl rfl rfl) ?_
      refine WD.a (i:=5) (d:=42) (by kernel_rfl) rfl z2 z3 rfl rfl rfl (fun _=>q_m rfl) ?_
      refine WD.a (i:=6) (d:=43) (by kernel_rfl) rfl z2 z3 rfl rfl rfl (fun _=>q_m rfl) ?_
      refine WD.a (i:=7) (d:=44) (by kernel_rfl) rfl z2 z3 rfl rfl rfl (fun _=>y3Z rfl rfl rfl) ?_
      refine WD.know (fun w hw=>Hp.y2g .here hw (by intro hz'; have:=zhy; rw [hz'] at this; omega)) ?_
      rintro ⟨zhz,rfl⟩
      refine WD.a (i:=8) (d:=45) (by kernel_rfl) rfl z2 z3 rfl rfl rfl (fun _=>yu yV rfl rfl zhy.1 zhy.2 y1c) ?_
      refine WD.e (i:=9) (d:=46) (by kernel_rfl) rfl z2 z3 rfl rfl rfl (y1J (cs:=(e50 (nth zl (i64 (zf - 1))))) y2n rfl rfl (y1U .here (y1V (enc:=e50) (l:=zl) (i:=i64 (zf - 1)) (sz:=3) (fun _=>rfl) zhy.1 zhy.2))) ?_
      refine WD.a (i:=10) (d:=47) (by kernel_rfl) rfl z2 z3 rfl rfl rfl (fun _=>q_m rfl) ?_
      refine WD.a (i:=11) (d:=48) (by kernel_rfl) rfl z2 z3 rfl rfl rfl (fun _=>q_m rfl) ?_
      refine WD.a (i:=12) (d:=49) (by kernel_rfl) rfl z2 z3 rfl rfl rfl (fun _=>yu yV rfl rfl z8d.1 z8d.2 y1c) ?_
      refine WD.e (i:=13) (d:=50) (by kernel_rfl) rfl z2 z3 rfl rfl rfl (y1J (cs:=(e50 (nth zl zf))) y2n rfl rfl (y1U .here (y1V (enc:=e50) (l:=zl) (i:=zf) (sz:=3) (fun _=>rfl) z8d.1 z8d.2))) ?_
      refine WD.a (i:=14) (d:=51) (by kernel_rfl) rfl z2 z3 rfl rfl rfl (fun _=>yu yV rfl rfl z8d.1 z8d.2 y1c) ?_
      refine WD.forced0 (i:=15) rfl (by kernel_rfl) rfl rfl rfl (Sin.of .nil) (y2C (vs:=[(.int .i64 ((nth zl (i64 (zf - 1))).fSent)),(.int .i64 ((nth zl (i64 (zf - 1))).fNode)),(.int .i64 ((nth zl (i64 (zf - 1))).fTime))]) (ds:=(zl.set (zf : Int).toNat (⟨((nth zl (i64 (zf - 1))).fSent),((nth zl (i64 (zf - 1))).fNode),((nth zl (i64 (zf - 1))).fTime)⟩ : Sapi_Come)).flatMap e50) y54 rfl rfl rfl rfl (ocB rfl) .here (y3I (enc:=e50) (sz:=3) (k:=0) (fun _=>rfl) z8d.1 z8d.2 (by decide)) (y3H (enc:=e50) (l:=zl) (sz:=3) (vs:=[(.int .i64 ((nth zl (i64 (zf - 1))).fSent)),(.int .i64 ((nth zl (i64 (zf - 1))).fNode)),(.int .i64 ((nth zl (i64 (zf - 1))).fTime))]) (y:=(⟨((nth zl (i64 (zf - 1))).fSent),((nth zl (i64 (zf - 1))).fNode),((nth zl (i64 (zf - 1))).fTime)⟩ : Sapi_Come)) (k:=0) (fun _=>rfl) z8d.1 z8d.2 rfl (Nat.le_of_ble_eq_true rfl))) ?_
      refine WD.relen .here (u:=(.slice (some ⟨zhz,0,none⟩) ((zl.set (zf : Int).toNat (⟨((nth zl (i64 (zf - 1))).fSent),((nth zl (i64 (zf - 1))).fNode),((nth zl (i64 (zf - 1))).fTime)⟩ : Sapi_Come)).length) z2f)) (y1W (List.length_set).symm) ?_
      refine WD.repin (i:=0) rfl (u:=(.slice (some ⟨zhz,0,none⟩) ((zl.set (zf : Int).toNat (⟨((nth zl (i64 (zf - 1))).fSent),((nth zl (i64 (zf - 1))).fNode),((nth zl (i64 (zf - 1))).fTime)⟩ : Sapi_Come)).length) z2f)) (y1W (List.length_set).symm) ?_
      refine WD.repin (i:=39) rfl (u:=(.slice (some ⟨zhz,0,none⟩) ((zl.set (zf : Int).toNat (⟨((nth zl (i64 (zf - 1))).fSent),((nth zl (i64 (zf - 1))).fNode),((nth zl (i64 (zf - 1))).fTime)⟩ : Sapi_Come)).length) z2f)) (y1W (List.length_set).symm) ?_
      refine WD.a (i:=16) (d:=52) (by kernel_rfl) rfl z2 z3 rfl rfl rfl (fun _=>yu yV rfl rfl zdF.1 zdF.2 y1c) ?_
      refine WD.y3G (i:=17) rfl (by kernel_rfl) rfl rfl rfl (by kernel_rfl) (y2C (vs:=[(.int .i64 ((nth zl zf).fSent)),(.int .i64 ((nth zl zf).fNode)),(.int .i64 ((nth zl zf).fTime))]) (ds:=((zl.set (zf : Int).toNat (⟨((nth zl (i64 (zf - 1))).fSent),((nth zl (i64 (zf - 1))).fNode),((nth zl (i64 (zf - 1))).fTime)⟩ : Sapi_Come)).set ((i64 (zf - 1)) : Int).toNat (⟨((nth zl zf).fSent),((nth zl zf).fNode),((nth zl zf).fTime)⟩ : Sapi_Come)).flatMap e50) y54 rfl rfl rfl rfl (ocB rfl) .here (y3I (enc:=e50) (sz:=3) (k:=0) (fun _=>rfl) zdF.1 zdF.2 (by decide)) (y3H (enc:=e50) (l:=zl.set (zf : Int).toNat (⟨((nth zl (i64 (zf - 1))).fSent),((nth zl (i64 (zf - 1))).fNode),((nth zl (i64 (zf - 1))).fTime)⟩ : Sapi_Come)) (sz:=3) (vs:=[(.int .i64 ((nth zl zf).fSent)),(.int .i64 ((nth zl zf).fNode)),(.int .i64 ((nth zl zf).fTime))]) (y:=(⟨((nth zl zf).fSent),((nth zl zf).fNode),((nth zl zf).fTime)⟩ : Sapi_Come)) (k:=0) (fun _=>rfl) zdF.1 zdF.2 rfl (Nat.le_of_ble_eq_true rfl))) ?_
      refine WD.relen .here (u:=(.slice (some ⟨zhz,0,none⟩) (((zl.set (zf : Int).toNat (⟨((nth zl (i64 (zf - 1))).fSent),((nth zl (i64 (zf - 1))).fNode),((nth zl (i64 (zf - 1))).fTime)⟩ : Sapi_Come)).set ((i64 (zf - 1)) : Int).toNat (⟨((nth zl zf).fSent),((nth zl zf).fNode),((nth zl zf).fTime)⟩ : Sapi_Come)).length) z2f)) (y1W (List.length_set).symm) ?_
      refine WD.repin (i:=0) rfl (u:=(.slice (some ⟨zhz,0,none⟩) (((zl.set (zf : Int).toNat (⟨((nth zl (i64 (zf - 1))).fSent),((nth zl (i64 (zf - 1))).fNode),((nth zl (i64 (zf - 1))).fTime)⟩ : Sapi_Come)).set ((i64 (zf - 1)) : Int).toNat (⟨((nth zl zf).fSent),((nth zl zf).fNode),((nth zl zf).fTime)⟩ : Sapi_Come)).length) z2f)) (y1W (List.length_set).symm) ?_
      refine WD.done (by kernel_rfl) ?_
      refine WX.yk (WX.a (WC.a (WL.pu rfl (WL.pu rfl (WL.pu rfl (WL.nil ?_))))))
      exact WX.round (G:=Nat × List Sapi_Come × Int) ⟨znv,((zl.set (zf : Int).toNat (⟨((nth zl (i64 (zf - 1))).fSent),((nth zl (i64 (zf - 1))).fNode),((nth zl (i64 (zf - 1))).fTime)⟩ : Sapi_Come)).set ((i64 (zf - 1)) : Int).toNat (⟨((nth zl zf).fSent),((nth zl zf).fNode),((nth zl zf).fTime)⟩ : Sapi_Come)),(i64 (zf - 1))⟩ ⟨h,((List.length_set).trans ((List.length_set).trans ztH))⟩ (Nat.lt_succ_self _) (.cons rfl (.cons rfl (.cons rfl (.cons rfl (.cons rfl (.cons rfl .nil)))))) (.cons .here .nil)
     ·replace h:=yn h znE
      refine WC.exit (WX.yg (WX.yg (WX.yv ?_)))
      exact WX.mid (G:=List Sapi_Come) zl ⟨h,ztH⟩ (.cons rfl (.cons rfl (.cons rfl (.cons rfl (.cons rfl .nil))))) (.cons .here .nil)
    ·rintro z62 ⟨h,zAo⟩
     replace h:=(zAm z62).symm.trans h
     refine WX.yk ?_
     exact WX.mid (G:=List Sapi_Come) z62 ⟨h,zAo⟩ (.cons rfl (.cons rfl (.cons rfl (.cons rfl (.cons rfl .nil))))) (.cons .here .nil)
   ·rintro z61 ⟨h,zAp⟩
    replace h:=(zAl z61).symm.trans h
    refine WC.a (WL.pu rfl (WL.pu rfl (WL.pu rfl (WL.nil ?_))))
    exact WX.round (G:=Nat × List Sapi_Come × Int) ⟨zny,z61,(i64 (z3H + 1))⟩ ⟨h,zAp⟩ (Nat.lt_succ_self _) (.cons rfl (.cons rfl (.cons rfl (.cons rfl (.cons rfl .nil))))) (.cons .here .nil)
  ·replace h:=yn h znA
   refine WC.exit (WX.yg (WX.yg (WX.yv ?_)))
   exact WX.mid (G:=List Sapi_Come) z4a ⟨h,ztG⟩ .nil (.cons .here .nil)
 ·rintro z8c ⟨h,zAq⟩
  replace h:=(zAk z8c).symm.trans h
  obtain rfl:=Option.some.inj h
  refine WX.y29 Try.results66 .nil (fun w hw=>?_)
  exact ⟨y4X,zAq,hw.sub (.cons .here .nil)⟩
def yN (z54 : Int) (zT : Int) (z1b : Int) (z9m : (List Sapi_Come) → Option (List Sapi_Come)) : Nat → (List Sapi_Come) → Int → Option (List Sapi_Come)
 | 0,_,_=>none
 | znF + 1,zx,zp=>if decide (zp < z54) then chk ((0 : Int) ≤ (i64 (zT + zp)) ∧ (i64 (zT + zp)) < ((zx.length : Nat) : Int)) (chk ((0 : Int) ≤ (i64 (z1b + zp)) ∧ (i64 (z1b + zp)) < ((zx.length : Nat) : Int)) (chk ((0 : Int) ≤ (i64 (zT + zp)) ∧ (i64 (zT + zp)) < (((zx.set ((i64 (z1b + zp)) : Int).toNat (⟨((nth zx (i64 (zT + zp))).fSent),((nth zx (i64 (zT + zp))).fNode),((nth zx (i64 (zT + zp))).fTime)⟩ : Sapi_Come)).length : Nat) : Int)) (yN z54 zT z1b z9m znF ((zx.set ((i64 (z1b + zp)) : Int).toNat (⟨((nth zx (i64 (zT + zp))).fSent),((nth zx (i64 (zT + zp))).fNode),((nth zx (i64 (zT + zp))).fTime)⟩ : Sapi_Come)).set ((i64 (zT + zp)) : Int).toNat (⟨((nth zx (i64 (z1b + zp))).fSent),((nth zx (i64 (z1b + zp))).fNode),((nth zx (i64 (z1b + zp))).fTime)⟩ : Sapi_Come)) (i64 (zp + 1))))) else z9m zx
theorem y4e {n : Nat} {z54 : Int} {zT : Int} {z1b : Int} {z9m : (List Sapi_Come) → Option (List Sapi_Come)} {zx : List Sapi_Come} {zp : Int} {r : List Sapi_Come} (h : yN z54 zT z1b z9m n zx zp = some r) : ∃ m,n = m + 1:=by
 cases n with
 | zero=>cases h
 | succ m=>exact ⟨m,rfl⟩
def y16 (z36 : List Sapi_Come) (z1b : Int) (zT : Int) (z54 : Int) (zdG : Sapi_Come → Sapi_Come → Option Int) : Option (List Sapi_Come) :=
 jp1 (fun (z8e : List Sapi_Come)=>some z8e) fun z9m=>yN z54 zT z1b z9m yw z36 0
set_option maxRecDepth 20000 in
theorem y2v (Z : Zp) (z64 : Option Addr) (z3W : Nat) (z9n : FuncId) (zbZ : List Value) (z36 : List Sapi_Come) (z1b : Int) (zT : Int) (z54 : Int) (zdG : Sapi_Come → Sapi_Come → Option Int) (r : List Sapi_Come)
  (h : y16 z36 z1b zT z54 zdG = some r) (w₀ : World) (hz : PZ (fps [row (.slice z64 z36.length z3W) 50 3 (z36.flatMap e50)]) w₀ Z)
  (zJP : ∀ args w,(callFunc z9n args).run Try.prog w = .ok (.enter z9n args) w)
  (zJQ : ∀ w : World,PZ [] w Z → ∀ (x0 : Sapi_Come) (x1 : Sapi_Come) (r : Int),zdG x0 x1 = some r → Calls Try.prog z9n (([(.agg #[(.int .i64 x0.fSent),(.int .i64 x0.fNode),(.int .i64 x0.fTime)]),(.agg #[(.int .i64 x1.fSent),(.int .i64 x1.fNode),(.int .i64 x1.fTime)])] : List Value) ++ zbZ).toArray w fun e w'=>e = .returned (.int .i64 r) ∧ Hp [] w w' [])
  (hown : Hp (fps [row (.slice z64 z36.length z3W) 50 3 (z36.flatMap e50)]) w₀ w₀ [row (.slice z64 z36.length z3W) 50 3 (z36.flatMap e50)]) :
  Calls Try.prog 69 #[(.slice z64 z36.length z3W),(.int .i64 z1b),(.int .i64 zT),(.int .i64 z54),(.func (.func z9n) #[] (zbZ).toArray)] w₀ fun e w'=>e = .returned (.tuple #[]) ∧ (r.length = z36.length) ∧ Hp (fps [row (.slice z64 z36.length z3W) 50 3 (z36.flatMap e50)]) w₀ w' [row (.slice z64 r.length z3W) 50 3 (r.flatMap e50)]:=by
 unfold y16 at h
 refine Calls.yp (vs:=[(.slice z64 z36.length z3W),(.int .i64 z1b),(.int .i64 zT),(.int .i64 z54),(.func (.func z9n) #[] (zbZ).toArray)]) (pre:=[row (.slice z64 z36.length z3W) 50 3 (z36.flatMap e50)]) (env:=[(0,(.slice z64 z36.length z3W)),(1,(.int .i64 z1b)),(2,(.int .i64 zT)),(3,(.int .i64 z54)),(4,(.func (.func z9n) #[] (zbZ).toArray))]) Try.func69 rfl Try.ntmps69 rfl (hown) rfl ?_
 refine WC.b (WC.a (WL.pu rfl (WL.nil (WX.a ?_))))
 obtain ⟨z9m,zAr,h⟩:=yU h
 refine WC.y5J (fun (z8e : List Sapi_Come)=>(z9m z8e = some r) ∧ (z8e.length = z36.length)) (fun (z8e : List Sapi_Come)=>[]) (fun (z8e : List Sapi_Come)=>[row (.slice z64 z8e.length z3W) 50 3 (z8e.flatMap e50)]) ?_ ?_
 ·skip
  refine WC.block ?_
  refine WC.y2F (fun (zdH : Nat) (zx : List Sapi_Come) (zp : Int)=>(yN z54 zT z1b z9m zdH zx zp = some r) ∧ (zx.length = z36.length)) (fun (zdH : Nat) (zx : List Sapi_Come) (zp : Int)=>[(0,(.slice z64 zx.length z3W)),(1,(.int .i64 z1b)),(2,(.int .i64 zT)),(3,(.int .i64 z54)),(10,(.int .i64 zp))]) (fun (zdH : Nat) (zx : List Sapi_Come) (zp : Int)=>[row (.slice z64 zx.length z3W) 50 3 (zx.flatMap e50)]) (fun (zdH : Nat) (zx : List Sapi_Come) (zp : Int)=>zdH) ⟨yw,z36,0⟩ ⟨h,rfl⟩ (.cons rfl (.cons rfl (.cons rfl (.cons rfl (.cons rfl .nil))))) (.cons .here .nil) ?_
  rintro zdH zx zp ⟨h,ztK⟩
  obtain ⟨znF,rfl⟩:=y4e h
  rw [yN] at h
  refine WC.b (WC.b (WC.a (WL.pu rfl (WL.pu rfl (WL.pu rfl (WL.nil (WX.a ?_)))))))
  refine WC.cond rfl (fun znG=>?_) (fun znG=>?_)
  ·replace h:=ym h znG
   refine WC.skip (WX.a (WC.b (WC.block ?_)))
   obtain ⟨zhA,h⟩:=ye h
   obtain ⟨z8f,h⟩:=ye h
   obtain ⟨zdI,h⟩:=ye h
   refine WC.yI (fun i=>[21,23].contains i) [] rfl ?_
   refine WD.a (i:=0) (d:=16) (by kernel_rfl) rfl z2 z3 rfl rfl rfl (fun _=>q_m rfl) ?_
   refine WD.a (i:=1) (d:=17) (by kernel_rfl) rfl z2 z3 rfl rfl rfl (fun _=>q_m rfl) ?_
   refine WD.a (i:=2) (d:=18) (by kernel_rfl) rfl z2 z3 rfl rfl rfl (fun _=>q_m rfl) ?_
   refine WD.a (i:=3) (d:=19) (by kernel_rfl) rfl z2 z3 rfl rfl rfl (fun _=>y4T rfl rfl rfl) ?_
   refine WD.a (i:=4) (d:=20) (by kernel_rfl) rfl z2 z3 rfl rfl rfl (fun _=>q_m rfl) ?_
   refine WD.a (i:=5) (d:=21) (by kernel_rfl) rfl z2 z3 rfl rfl rfl (fun _=>q_m rfl) ?_
   refine WD.a (i:=6) (d:=22) (by kernel_rfl) rfl z2 z3 rfl rfl rfl (fun _=>q_m rfl) ?_
   refine WD.a (i:=7) (d:=23) (by kernel_rfl) rfl z2 z3 rfl rfl rfl (fun _=>y4T rfl rfl rfl) ?_
   refine WD.a (i:=8) (d:=24) (by kernel_rfl) rfl z2 z3 rfl rfl rfl (fun _=>q_m rfl) ?_
   refine WD.a (i:=9) (d:=25) (by kernel_rfl) rfl z2 z3 rfl rfl rfl (fun _=>q_m rfl) ?_
   refine WD.a (i:=10) (d:=26) (by kernel_rfl) rfl z2 z3 rfl rfl rfl (fun _=>q_m rfl) ?_
   refine WD.a (i:=11) (d:=27) (by kernel_rfl) rfl z2 z3 rfl rfl rfl (fun _=>y4T rfl rfl rfl) ?_
   refine WD.know (fun w hw=>Hp.y2g .here hw (by intro hz'; have:=zhA; rw [hz'] at this; omega)) ?_
   rintro ⟨zhB,rfl⟩
   refine WD.a (i:=12) (d:=28) (by kernel_rfl) rfl z2 z3 rfl rfl rfl (fun _=>yu yV rfl rfl zhA.1 zhA.2 y1c) ?_
   refine WD.e (i:=13) (d:=29) (by kernel_rfl) rfl z2 z3 rfl rfl rfl (y1J (cs:=(e50 (nth zx (i64 (zT + zp))))) y2n rfl rfl (y1U .here (y1V (enc:=e50) (l:=zx) (i:=i64 (zT + zp)) (sz:=3) (fun _=>rfl) zhA.1 zhA.2))) ?_
   refine WD.a (i:=14) (d:=30) (by kernel_rfl) rfl z2 z3 rfl rfl rfl (fun _=>q_m rfl) ?_
   refine WD.a (i:=15) (d:=31) (by kernel_rfl) rfl z2 z3 rfl rfl rfl (fun _=>q_m rfl) ?_
   refine WD.a (i:=16) (d:=32) (by kernel_rfl) rfl z2 z3 rfl rfl rfl (fun _=>q_m rfl) ?_
   refine WD.a (i:=17) (d:=33) (by kernel_rfl) rfl z2 z3 rfl rfl rfl (fun _=>y4T rfl rfl rfl) ?_
   refine WD.a (i:=18) (d:=34) (by kernel_rfl) rfl z2 z3 rfl rfl rfl (fun _=>yu yV rfl rfl z8f.1 z8f.2 y1c) ?_
   refine WD.e (i:=19) (d:=35) (by kernel_rfl) rfl z2 z3 rfl rfl rfl (y1J (cs:=(e50 (nth zx (i64 (z1b + zp))))) y2n rfl rfl (y1U .here (y1V (enc:=e50) (l:=zx) (i:=i64 (z1b + zp)) (sz:=3) (fun _=>rfl) z8f.1 z8f.2))) ?_
   refine WD.a (i:=20) (d:=36) (by kernel_rfl) rfl z2 z3 rfl rfl rfl (fun _=>yu yV rfl rfl z8f.1 z8f.2 y1c) ?_
   refine WD.forced0 (i:=21) rfl (by kernel_rfl) rfl rfl rfl (Sin.of .nil) (y2C (vs:=[(.int .i64 ((nth zx (i64 (zT + zp))).fSent)),(.int .i64 ((nth zx (i64 (zT + zp))).fNode)),(.int .i64 ((nth zx (i64 (zT + zp))).fTime))]) (ds:=(zx.set ((i64 (z1b + zp)) : Int).toNat (⟨((nth zx (i64 (zT + zp))).fSent),((nth zx (i64 (zT + zp))).fNode),((nth zx (i64 (zT + zp))).fTime)⟩ : Sapi_Come)).flatMap e50) y54 rfl rfl rfl rfl (ocB rfl) .here (y3I (enc:=e50) (sz:=3) (k:=0) (fun _=>rfl) z8f.1 z8f.2 (by decide)) (y3H (enc:=e50) (l:=zx) (sz:=3) (vs:=[(.int .i64 ((nth zx (i64 (zT + zp))).fSent)),(.int .i64 ((nth zx (i64 (zT + zp))).fNode)),(.int .i64 ((nth zx (i64 (zT + zp))).fTime))]) (y:=(⟨((nth zx (i64 (zT + zp))).fSent),((nth zx (i64 (zT + zp))).fNode),((nth zx (i64 (zT + zp))).fTime)⟩ : Sapi_Come)) (k:=0) (fun _=>rfl) z8f.1 z8f.2 rfl (Nat.le_of_ble_eq_true rfl))) ?_
   refine WD.relen .here (u:=(.slice (some ⟨zhB,0,none⟩) ((zx.set ((i64 (z1b + zp)) : Int).toNat (⟨((nth zx (i64 (zT + zp))).fSent),((nth zx (i64 (zT + zp))).fNode),((nth zx (i64 (zT + zp))).fTime)⟩ : Sapi_Come)).length) z3W)) (y1W (List.length_set).symm) ?_
   refine WD.repin (i:=0) rfl (u:=(.slice (some ⟨zhB,0,none⟩) ((zx.set ((i64 (z1b + zp)) : Int).toNat (⟨((nth zx (i64 (zT + zp))).fSent),((nth zx (i64 (zT + zp))).fNode),((nth zx (i64 (zT + zp))).fTime)⟩ : Sapi_Come)).length) z3W)) (y1W (List.length_set).symm) ?_
   refine WD.repin (i:=20) rfl (u:=(.slice (some ⟨zhB,0,none⟩) ((zx.set ((i64 (z1b + zp)) : Int).toNat (⟨((nth zx (i64 (zT + zp))).fSent),((nth zx (i64 (zT + zp))).fNode),((nth zx (i64 (zT + zp))).fTime)⟩ : Sapi_Come)).length) z3W)) (y1W (List.length_set).symm) ?_
   refine WD.a (i:=22) (d:=37) (by kernel_rfl) rfl z2 z3 rfl rfl rfl (fun _=>yu yV rfl rfl zdI.1 zdI.2 y1c) ?_
   refine WD.y3G (i:=23) rfl (by kernel_rfl) rfl rfl rfl (by kernel_rfl) (y2C (vs:=[(.int .i64 ((nth zx (i64 (z1b + zp))).fSent)),(.int .i64 ((nth zx (i64 (z1b + zp))).fNode)),(.int .i64 ((nth zx (i64 (z1b + zp))).fTime))]) (ds:=((zx.set ((i64 (z1b + zp)) : Int).toNat (⟨((nth zx (i64 (zT + zp))).fSent),((nth zx (i64 (zT + zp))).fNode),((nth zx (i64 (zT + zp))).fTime)⟩ : Sapi_Come)).set ((i64 (zT + zp)) : Int).toNat (⟨((nth zx (i64 (z1b + zp))).fSent),((nth zx (i64 (z1b + zp))).fNode),((nth zx (i64 (z1b + zp))).fTime)⟩ : Sapi_Come)).flatMap e50) y54 rfl rfl rfl rfl (ocB rfl) .here (y3I (enc:=e50) (sz:=3) (k:=0) (fun _=>rfl) zdI.1 zdI.2 (by decide)) (y3H (enc:=e50) (l:=zx.set ((i64 (z1b + zp)) : Int).toNat (⟨((nth zx (i64 (zT + zp))).fSent),((nth zx (i64 (zT + zp))).fNode),((nth zx (i64 (zT + zp))).fTime)⟩ : Sapi_Come)) (sz:=3) (vs:=[(.int .i64 ((nth zx (i64 (z1b + zp))).fSent)),(.int .i64 ((nth zx (i64 (z1b + zp))).fNode)),(.int .i64 ((nth zx (i64 (z1b + zp))).fTime))]) (y:=(⟨((nth zx (i64 (z1b + zp))).fSent),((nth zx (i64 (z1b + zp))).fNode),((nth zx (i64 (z1b + zp))).fTime)⟩ : Sapi_Come)) (k:=0) (fun _=>rfl) zdI.1 zdI.2 rfl (Nat.le_of_ble_eq_true rfl))) ?_
   refine WD.relen .here (u:=(.slice (some ⟨zhB,0,none⟩) (((zx.set ((i64 (z1b + zp)) : Int).toNat (⟨((nth zx (i64 (zT + zp))).fSent),((nth zx (i64 (zT + zp))).fNode),((nth zx (i64 (zT + zp))).fTime)⟩ : Sapi_Come)).set ((i64 (zT + zp)) : Int).toNat (⟨((nth zx (i64 (z1b + zp))).fSent),((nth zx (i64 (z1b + zp))).fNode),((nth zx (i64 (z1b + zp))).fTime)⟩ : Sapi_Come)).length) z3W)) (y1W (List.length_set).symm) ?_
   refine WD.repin (i:=0) rfl (u:=(.slice (some ⟨zhB,0,none⟩) (((zx.set ((i64 (z1b + zp)) : Int).toNat (⟨((nth zx (i64 (zT + zp))).fSent),((nth zx (i64 (zT + zp))).fNode),((nth zx (i64 (zT + zp))).fTime)⟩ : Sapi_Come)).set ((i64 (zT + zp)) : Int).toNat (⟨((nth zx (i64 (z1b + zp))).fSent),((nth zx (i64 (z1b + zp))).fNode),((nth zx (i64 (z1b + zp))).fTime)⟩ : Sapi_Come)).length) z3W)) (y1W (List.length_set).symm) ?_
   refine WD.done (by kernel_rfl) ?_
   refine WX.yk (WX.a (WC.a (WL.pu rfl (WL.pu rfl (WL.pu rfl (WL.nil ?_))))))
   exact WX.round (G:=Nat × List Sapi_Come × Int) ⟨znF,((zx.set ((i64 (z1b + zp)) : Int).toNat (⟨((nth zx (i64 (zT + zp))).fSent),((nth zx (i64 (zT + zp))).fNode),((nth zx (i64 (zT + zp))).fTime)⟩ : Sapi_Come)).set ((i64 (zT + zp)) : Int).toNat (⟨((nth zx (i64 (z1b + zp))).fSent),((nth zx (i64 (z1b + zp))).fNode),((nth zx (i64 (z1b + zp))).fTime)⟩ : Sapi_Come)),(i64 (zp + 1))⟩ ⟨h,((List.length_set).trans ((List.length_set).trans ztK))⟩ (Nat.lt_succ_self _) (.cons rfl (.cons rfl (.cons rfl (.cons rfl (.cons rfl .nil))))) (.cons .here .nil)
  ·replace h:=yn h znG
   refine WC.exit (WX.yg (WX.yg (WX.yv ?_)))
   exact WX.mid (G:=List Sapi_Come) zx ⟨h,ztK⟩ .nil (.cons .here .nil)
 ·rintro z8e ⟨h,zAs⟩
  replace h:=(zAr z8e).symm.trans h
  obtain rfl:=Option.some.inj h
  refine WX.y29 Try.results69 .nil (fun w hw=>?_)
  exact ⟨y4X,zAs,hw.sub (.cons .here .nil)⟩
def yY (z2g : Int) (z3X : Sapi_Come → Sapi_Come → Option Int) (z8g : (List Sapi_Come) → Int → Option (List Sapi_Come)) : Nat → (List Sapi_Come) → Int → Int → Option (List Sapi_Come)
 | 0,_,_,_=>none
 | zhC + 1,z4b,z2j,z3u=>if decide (z2j ≠ z3u) then if decide (z2j > z3u) then (y16 z4b (i64 (z2g - z2j)) z2g z3u z3X).bind fun zke=>yY z2g z3X z8g zhC zke (i64 (z2j - z3u)) z3u else (y16 z4b (i64 (z2g - z2j)) (i64 ((i64 (z2g + z3u)) - z2j)) z2j z3X).bind fun zkf=>yY z2g z3X z8g zhC zkf z2j (i64 (z3u - z2j)) else z8g z4b z2j
theorem y4y {n : Nat} {z2g : Int} {z3X : Sapi_Come → Sapi_Come → Option Int} {z8g : (List Sapi_Come) → Int → Option (List Sapi_Come)} {z4b : List Sapi_Come} {z2j : Int} {z3u : Int} {r : List Sapi_Come} (h : yY z2g z3X z8g n z4b z2j z3u = some r) : ∃ m,n = m + 1:=by
 cases n with
 | zero=>cases h
 | succ m=>exact ⟨m,rfl⟩
def y1M (z37 : List Sapi_Come) (zc0 : Int) (z2g : Int) (zc1 : Int) (z3X : Sapi_Come → Sapi_Come → Option Int) : Option (List Sapi_Come) :=
 jp2 (fun (z6A : List Sapi_Come) (z9o : Int)=>(y16 z6A (i64 (z2g - z9o)) z2g z9o z3X).bind fun znH=>some znH) fun z8g=>yY z2g z3X z8g yw z37 (i64 (z2g - zc0)) (i64 (zc1 - z2g))
set_option maxRecDepth 20000 in
theorem y57 (Z : Zp) (z4c : Option Addr) (z4d : Nat) (z65 : FuncId) (z8h : List Value) (z37 : List Sapi_Come) (zc0 : Int) (z2g : Int) (zc1 : Int) (z3X : Sapi_Come → Sapi_Come → Option Int) (r : List Sapi_Come)
  (h : y1M z37 zc0 z2g zc1 z3X = some r) (w₀ : World) (hz : PZ (fps [row (.slice z4c z37.length z4d) 50 3 (z37.flatMap e50)]) w₀ Z)
  (znI : ∀ args w,(callFunc z65 args).run Try.prog w = .ok (.enter z65 args) w)
  (znJ : ∀ w : World,PZ [] w Z → ∀ (x0 : Sapi_Come) (x1 : Sapi_Come) (r : Int),z3X x0 x1 = some r → Calls Try.prog z65 (([(.agg #[(.int .i64 x0.fSent),(.int .i64 x0.fNode),(.int .i64 x0.fTime)]),(.agg #[(.int .i64 x1.fSent),(.int .i64 x1.fNode),(.int .i64 x1.fTime)])] : List Value) ++ z8h).toArray w fun e w'=>e = .returned (.int .i64 r) ∧ Hp [] w w' [])
  (hown : Hp (fps [row (.slice z4c z37.length z4d) 50 3 (z37.flatMap e50)]) w₀ w₀ [row (.slice z4c z37.length z4d) 50 3 (z37.flatMap e50)]) :
  Calls Try.prog 68 #[(.slice z4c z37.length z4d),(.int .i64 zc0),(.int .i64 z2g),(.int .i64 zc1),(.func (.func z65) #[] (z8h).toArray)] w₀ fun e w'=>e = .returned (.tuple #[]) ∧ (r.length = z37.length) ∧ Hp (fps [row (.slice z4c z37.length z4d) 50 3 (z37.flatMap e50)]) w₀ w' [row (.slice z4c r.length z4d) 50 3 (r.flatMap e50)]:=by
 unfold y1M at h
 refine Calls.yp (vs:=[(.slice z4c z37.length z4d),(.int .i64 zc0),(.int .i64 z2g),(.int .i64 zc1),(.func (.func z65) #[] (z8h).toArray)]) (pre:=[row (.slice z4c z37.length z4d) 50 3 (z37.flatMap e50)]) (env:=[(0,(.slice z4c z37.length z4d)),(1,(.int .i64 zc0)),(2,(.int .i64 z2g)),(3,(.int .i64 zc1)),(4,(.func (.func z65) #[] (z8h).toArray))]) Try.func68 rfl Try.ntmps68 rfl (hown) rfl ?_
 refine WC.b (WC.a (WL.pu rfl (WL.pu rfl (WL.pu rfl (WL.pu rfl (WL.nil (WX.a (WC.b (WC.a (WL.pu rfl (WL.pu rfl (WL.pu rfl (WL.pu rfl (WL.nil (WX.a ?_)))))))))))))))
 obtain ⟨z8g,zAt,h⟩:=y2s h
 refine WC.y2D (fun (z6A : List Sapi_Come) (z9o : Int)=>(z8g z6A z9o = some r) ∧ (z6A.length = z37.length)) (fun (z6A : List Sapi_Come) (z9o : Int)=>[(0,(.slice z4c z6A.length z4d)),(2,(.int .i64 z2g)),(4,(.func (.func z65) #[] (z8h).toArray)),(10,(.int .i64 z9o))]) (fun (z6A : List Sapi_Come) (z9o : Int)=>[row (.slice z4c z6A.length z4d) 50 3 (z6A.flatMap e50)]) ?_ ?_
 ·skip
  refine WC.block ?_
  refine WC.y5X (fun (zdJ : Nat) (z4b : List Sapi_Come) (z2j : Int) (z3u : Int)=>(yY z2g z3X z8g zdJ z4b z2j z3u = some r) ∧ (z4b.length = z37.length)) (fun (zdJ : Nat) (z4b : List Sapi_Come) (z2j : Int) (z3u : Int)=>[(0,(.slice z4c z4b.length z4d)),(2,(.int .i64 z2g)),(4,(.func (.func z65) #[] (z8h).toArray)),(10,(.int .i64 z2j)),(11,(.int .i64 z3u))]) (fun (zdJ : Nat) (z4b : List Sapi_Come) (z2j : Int) (z3u : Int)=>[row (.slice z4c z4b.length z4d) 50 3 (z4b.flatMap e50)]) (fun (zdJ : Nat) (z4b : List Sapi_Come) (z2j : Int) (z3u : Int)=>zdJ) ⟨yw,z37,(i64 (z2g - zc0)),(i64 (zc1 - z2g))⟩ ⟨h,rfl⟩ (.cons rfl (.cons rfl (.cons rfl (.cons rfl (.cons rfl .nil))))) (.cons .here .nil) ?_
  rintro zdJ z4b z2j z3u ⟨h,znK⟩
  obtain ⟨zhC,rfl⟩:=y4y h
  rw [yY] at h
  refine WC.b (WC.b (WC.a (WL.pu rfl (WL.pu rfl (WL.pu rfl (WL.nil (WX.a ?_)))))))
  refine WC.cond rfl (fun znL=>?_) (fun znL=>?_)
  ·replace h:=ym h znL
   refine WC.skip (WX.a (WC.block (WC.b (WC.a (WL.pu rfl (WL.pu rfl (WL.pu rfl (WL.nil (WX.a ?_)))))))))
   refine WC.cond rfl (fun znM=>?_) (fun znM=>?_)
   ·replace h:=ym h znM
    refine WC.b ?_
    obtain ⟨zke,zAu,h⟩:=zg h
    refine WC.a (WL.pu rfl (WL.pu rfl (WL.pu rfl (WL.pu rfl (WL.pu rfl (WL.pu rfl (WL.pu rfl ?_)))))))
    refine WL.y21 (dd:=31) rfl rfl rfl (zC (l:=[.tmp 24,.tmp 27,.tmp 28,.tmp 29,.tmp 30]) Try.call69 (.cons rfl (.cons rfl (.cons rfl (.cons rfl (.cons rfl .nil)))))) (.cons .here .nil) (cc hz (.cons .here .nil) fun w pz ho=>y2v _ _ _ (z9n:=z65) (zbZ:=z8h) _ _ _ _ (zdG:=z3X) _ zAu w pz znI znJ ho) ?_
    rintro  ztL
    refine WL.repin (i:=0) rfl (u:=(.slice z4c zke.length z4d)) (y1W ztL.symm) ?_
    refine WL.nil (WX.a (WC.a (WL.pu rfl (WL.pu rfl (WL.pu rfl (WL.pu rfl (WL.nil (WX.yk ?_))))))))
    exact WX.round (G:=Nat × List Sapi_Come × Int × Int) ⟨zhC,zke,(i64 (z2j - z3u)),z3u⟩ ⟨h,(ztL.trans znK)⟩ (Nat.lt_succ_self _) (.cons rfl (.cons rfl (.cons rfl (.cons rfl (.cons rfl .nil))))) (.cons .here .nil)
   ·replace h:=yn h znM
    refine WC.b ?_
    obtain ⟨zkf,zAv,h⟩:=zg h
    refine WC.a (WL.pu rfl (WL.pu rfl (WL.pu rfl (WL.pu rfl (WL.pu rfl (WL.pu rfl (WL.pu rfl (WL.pu rfl (WL.pu rfl (WL.pu rfl (WL.pu rfl ?_)))))))))))
    refine WL.y21 (dd:=46) rfl rfl rfl (zC (l:=[.tmp 35,.tmp 38,.tmp 43,.tmp 44,.tmp 45]) Try.call69 (.cons rfl (.cons rfl (.cons rfl (.cons rfl (.cons rfl .nil)))))) (.cons .here .nil) (cc hz (.cons .here .nil) fun w pz ho=>y2v _ _ _ (z9n:=z65) (zbZ:=z8h) _ _ _ _ (zdG:=z3X) _ zAv w pz znI znJ ho) ?_
    rintro  ztM
    refine WL.repin (i:=0) rfl (u:=(.slice z4c zkf.length z4d)) (y1W ztM.symm) ?_
    refine WL.nil (WX.a (WC.a (WL.pu rfl (WL.pu rfl (WL.pu rfl (WL.pu rfl (WL.nil (WX.yk ?_))))))))
    exact WX.round (G:=Nat × List Sapi_Come × Int × Int) ⟨zhC,zkf,z2j,(i64 (z3u - z2j))⟩ ⟨h,(ztM.trans znK)⟩ (Nat.lt_succ_self _) (.cons rfl (.cons rfl (.cons rfl (.cons rfl (.cons rfl .nil))))) (.cons .here .nil)
  ·replace h:=yn h znL
   refine WC.exit (WX.yg (WX.yg (WX.yv ?_)))
   exact WX.mid (G:=List Sapi_Come × Int) ⟨z4b,z2j⟩ ⟨h,znK⟩ (.cons rfl (.cons rfl (.cons rfl (.cons rfl .nil)))) (.cons .here .nil)
 ·rintro z6A z9o ⟨h,zAw⟩
  replace h:=(zAt z6A z9o).symm.trans h
  obtain ⟨znH,zAx,h⟩:=zg h
  refine WC.a (WL.pu rfl (WL.pu rfl (WL.pu rfl (WL.pu rfl (WL.pu rfl (WL.pu rfl (WL.pu rfl ?_)))))))
  refine WL.y21 (dd:=57) rfl rfl rfl (zC (l:=[.tmp 50,.tmp 53,.tmp 54,.tmp 55,.tmp 56]) Try.call69 (.cons rfl (.cons rfl (.cons rfl (.cons rfl (.cons rfl .nil)))))) (.cons .here .nil) (cc hz (.cons .here .nil) fun w pz ho=>y2v _ _ _ (z9n:=z65) (zbZ:=z8h) _ _ _ _ (zdG:=z3X) _ zAx w pz znI znJ ho) ?_
  rintro  ztN
  refine WL.repin (i:=0) rfl (u:=(.slice z4c znH.length z4d)) (y1W ztN.symm) ?_
  refine WL.nil ?_
  obtain rfl:=Option.some.inj h
  refine WX.y29 Try.results68 .nil (fun w hw=>?_)
  exact ⟨y4X,(ztN.trans zAw),hw.sub (.cons .here .nil)⟩
end Go.Proofs.Ytinchjigeakocaa

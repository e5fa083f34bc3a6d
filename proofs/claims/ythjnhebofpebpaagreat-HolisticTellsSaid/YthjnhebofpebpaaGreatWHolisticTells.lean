/- A part of this claim's proof: models of functions, walks, plain laws. No conditions. -/
import Derived.Test.YthjnhebofpebpaaGreatW36j
set_option linter.all false
namespace Go.Proofs.YthjnhebofpebpaaGreat
open Go Go.RowKit Sep Tryz
set_option maxRecDepth 30000
set_option maxHeartbeats 4000000
def qy(z4b:List ye)(b:Option Bool):Nat->Int->Option Bool
 | 0,_=>none
 | c+1,a=>if decide (a<z4b.length) then chk (0<=a/\a<z4b.length) (if (decide (((nth z4b a).yf)>1099511627776))||(decide (((nth z4b a).yf)<(-1099511627776))) then(mZ).bind fun d=>some d else qy z4b b c (i64 (a+1))) else b
def qz(b:List (List Int))(c:List (List Int))(d:Option Bool):Nat->Int->Option Bool
 | 0,_=>none
 | e+1,a=>if decide (a<b.length) then chk (0<=a/\a<b.length) (chk (0<=a/\a<c.length) ((uT (nth b a) (nth c a)).bind fun f=>if !f then some false else qz b c d e (i64 (a+1)))) else d
def mh(z1F:zi)(zlU:Int)(zbR:List (List za))(z4b:List ye):Option Bool:=
 (rg z1F zbR).bind fun e=>if (!e)||(decide ((z4b.length:Int)>20)) then(mZ).bind fun f=>some f else g8 ((gG z1F zlU zbR).bind fun a=>(uw z1F zlU zbR).bind fun b=>(j5 z1F zbR z4b).bind fun c=>(ux z1F zbR z4b).bind fun d=>(uS a.1 b.1).bind fun g=>if ((!g)||(decide (a.2≠b.2)))||(decide ((c.length:Int)≠(d.length:Int))) then some false else g8 ((mZ).bind fun h=>some h) fun i=>qz c d i xC 0) fun j=>qy z4b j xC 0
theorem cv(Z:Zp)(zsX:Option Addr)(zsY:Nat)(zsZ:Option Addr)(zt0:Nat)(zt1:Option Addr)(zt2:Nat)(zt3:Option Addr)(zt4:Nat)(zt5:Option Addr)(zt6:Nat)(zt7:Option Addr)(zt8:Nat)(zt9:Option Addr)(zta:Nat)(ztb:Option Addr)(ztc:Nat)(zwM:Option Addr)(zwN:Nat)(ztd:Option Addr)(zte:Nat)(z1F:zi)(zlU:Int)(zbR:List (List za))(z4b:List ye)(r:Bool)(h:mh z1F zlU zbR z4b=some r)(w₀:World)(hz:PZ [] w₀ Z)(c:ZS Z 4 (vU Z) zsX zsY z1F.fM)(d:ZS Z 4 (qr Z) zsZ zt0 z1F.yc)(e:ZS Z 4 (rq jm) zt1 zt2 z1F.fS)(f:ZS Z 4 (rq qm) zt3 zt4 z1F.fK)(g:ZS Z 7 (qK Z) zt5 zt6 z1F.yd)(j:ZS Z 5 (rq qI) zt7 zt8 z1F.fH)(k:ZS Z 3 (qs Z) zt9 zta z1F.fU)(l:ZS Z 4 (rq qJ) ztb ztc z1F.yb)(m:ZS Z 1 (qt Z) zwM zwN zbR)(x:ZS Z 4 (rq xY) ztd zte z4b):
  RC 3 #[.agg #[vs zsX z1F.fM.length zsY,vs zsZ z1F.yc.length zt0,vs zt1 z1F.fS.length zt2,vs zt3 z1F.fK.length zt4,vs zt5 z1F.yd.length zt6,vs zt7 z1F.fH.length zt8,vs zt9 z1F.fU.length zta,vs ztb z1F.yb.length ztc],vi zlU,vs zwM zbR.length zwN,vs ztd z4b.length zte] w₀ (.bool r) [] []:=by
 unfold mh at h
 refine Calls.on4 func3 ntmps3 ?_
 let A:List Value:=[vs zsX z1F.fM.length zsY,vs zsZ z1F.yc.length zt0,vs zt1 z1F.fS.length zt2,vs zt3 z1F.fK.length zt4,vs zt5 z1F.yd.length zt6,vs zt7 z1F.fH.length zt8,vs zt9 z1F.fU.length zta,vs ztb z1F.yb.length ztc];refine WC.pool<|B0q<|Lg 4 (xO (cs:=A) U U) ?_
 intro s _
 refine Q1n U<|WC.b<|WC.b<|bK h fun av K h=>Ld<|Le 18 (xw z1j U (xy .here) U)<|La U<|Lp 20 (zb call10<|.r2 U U) .nil (jH hz .nil .h1 fun w pz ho=>V6 _ _ _ _ _ _ _ _ _ _ _ _ _ _ _ _ _ _ _ _ _ _ K w pz ((c.mono<|zl).weak (fun _ _ h=>wg zl h)) ((d.mono<|zl).weak (fun _ _ h=>wp zl h)) (e.mono<|zl) (f.mono<|zl) ((g.mono<|zl).weak (fun _ _ h=>wi zl h)) (j.mono<|zl) ((k.mono<|zl).weak (fun _ _ h=>wq zl h)) (l.mono<|zl)<|(m.mono<|zl).weak (fun _ _ h=>wv zl h))<|Q2q U<|Lx false 3 22 (B:=(!av)||(decide ((z4b.length:Int)>20))) U U U U U U (fun h=>(kx h).symm) (fun _ L=>?_) ?_
 ·exact La U<|Le 24 (xK underlying33 U)<|Q2q U<|Ly (ky L) U U .all
 refine Q0n<|Lk U h (fun M h=>?_)<|fun M h=>?_
 ·refine WC.b<|bK h fun a4 N h=>Ld<|Lp 27 (zb call11 .nil) .nil (jH hz .nil .h1 fun w pz ho=>oy _ _ N w pz )<|Q1n U<|WC.ret<|Ll ?_
  obtain rfl:=oJ h
  exact Li results3 (.tmp U .nil)<|fun w hw=>⟨xJ U,hw.sub .nil⟩
 ·refine WC.skip<|Lb ?_
  obtain⟨z,O,h⟩:=wJ h
  let C:Value:=(vs ztd z4b.length zte);let D:Value:=(vs zwM zbR.length zwN);refine L7 (z=some r) ([(1,vi zlU),(2,D),(3,C),(4,vp s)]) ([fz [],stb s 31 A]) ?_ ?_
  ·refine B1q U<|Le 29 (xK underlying33 U)<|Q1n U<|WC.block<|L6 (fun(n:Nat) (a:Int)=>(qy z4b z n a=some r)) (fun n a=>[(1,vi zlU),(2,D),(3,C),(4,vp s),(28,C),(29,vi (z4b.length:Int)),(30,vi a)]) (fun n a=>[fz [],stb s 31 A]) (fun n a=>n) ⟨xC,0⟩ h (.q U) (.s2 .h1 .here) ?_
   rintro(_|aw) a h;·cases h
   rw[qy] at h
   refine B1n U<|WC.b<|Lk U h (fun P h=>?_)<|fun P h=>?_
   ·refine WC.skip<|Lb<|WC.b<|WC.block<|WC.b<|cK h fun Q h=>Ld<|L0 (dd:=32) U U (Z:=(Z++[])) (Pr:=(rq xY)) z1r U U (x.mono<|zl) Q ?_
    rintro aE aF R aG rfl
    refine Le 33 (xw z5F U (vQ (hz.pv2 .here) R) U) (Lg 10 (xG (cs:=[vi 0,vi 0,vi 0,vi 0]) zf7 U) fun aH _=>Lo U U (xz zaT U U U .here U U U)<|Q0n<|B0q<|Le 34 (xk uM U U)<|Le 35 (xl xu U<|xt .here U)<|Q2q U<|Lx false 3 37 (B:=(decide (((nth z4b a).yf)>1099511627776))||(decide (((nth z4b a).yf)<(-1099511627776)))) U U U U U U (fun h=>(kx h).symm) (fun _ S=>?_) ?_)
    ·exact Le 38 (xk uM U U)<|Le 39 (xl xu U<|xt .here U)<|Q2q U<|Ly (ky S) U U .all
    refine Q0n<|Lk U h (fun T h=>?_)<|fun T h=>?_
    ·refine WC.b<|bK h fun a5 V h=>Ld<|Lp 42 (zb call11 .nil) .nil (jH hz .nil .h1 fun w pz ho=>oy _ _ V w pz )<|Q1n U<|WC.ret<|Lu<|Ll<|Ll<|Lu<|Ll ?_
     obtain rfl:=oJ h
     exact Li results3 (.tmp U .nil)<|fun w hw=>⟨xJ U,hw.sub .nil⟩
    ·exact WC.skip<|Lt<|Lb<|D2q U<|WL.nil<|WX.round ⟨aw,i64 (a+1)⟩ h (Nat.lt_succ_self _) (.q U)<|.s2 .h1 .h1
   ·exact WC.exit<|Lm<|Lm<|Lv<|Ln () h (.q U)<|.a2
  ·rintro  h
   replace h:=O.symm.trans h
   refine WC.b<|bK h fun G W h=>Ld<|Le 45 (xw z1j U (xy .h1) U)<|Q2q U<|WL.rC (dd:=48) U U U (zb call12<|.r3 U U U) .nil (jH hz .nil .here fun w pz ho=>od _ _ _ _ _ _ _ _ _ _ _ _ _ _ _ _ _ _ _ _ _ _ _ W w pz ((c.mono<|zl).weak (fun _ _ h=>wg zl h)) ((d.mono<|zl).weak (fun _ _ h=>wp zl h)) (e.mono<|zl) (f.mono<|zl) ((g.mono<|zl).weak (fun _ _ h=>wi zl h)) (j.mono<|zl) ((k.mono<|zl).weak (fun _ _ h=>wq zl h)) (l.mono<|zl)<|(m.mono<|zl).weak (fun _ _ h=>wv zl h)) ?_
   rintro aI aJ aK aL _
   refine Q2q U<|La U (Lg 11 (xG (cs:=[vn,vn]) zbU U) fun aM _=>Lo U U (xz z5c U U U .here U U U)<|Q1n U<|WC.b ?_)
   refine bK h fun H X h=>Ld<|Le 52 (xw z1j U (xy .h4) U)<|Q2q U<|WL.rC (dd:=55) U U U (zb call13<|.r3 U U U) .nil (jH hz .nil .h3 fun w pz ho=>ay _ _ _ _ _ _ _ _ _ _ _ _ _ _ _ _ _ _ _ _ _ _ _ X w pz ((c.mono<|zl).weak (fun _ _ h=>wg zl h)) ((d.mono<|zl).weak (fun _ _ h=>wp zl h)) (e.mono<|zl) (f.mono<|zl) ((g.mono<|zl).weak (fun _ _ h=>wi zl h)) (j.mono<|zl) ((k.mono<|zl).weak (fun _ _ h=>wq zl h)) (l.mono<|zl)<|(m.mono<|zl).weak (fun _ _ h=>wv zl h)) ?_
   rintro aN aO aP aQ _
   refine Q2q U<|La U (Lg 13 (xG (cs:=[vn,vn]) zbU U) fun aR _=>Lo U U (xz z5c U U U .here U U U)<|Q1n U<|WC.b ?_)
   refine bK h fun t Y h=>bK h fun y aa h=>Lz nc [] U<|Lh 0 58 U (xw z1j U (xy .h7) U)<|Lf 1 59 U (q_m U)<|Lf 2 60 U (q_m U)<|Lh 4 62 U (xw z1j U (xy .h7) U)<|Lf 5 63 U (q_m U)<|Lf 6 64 U (q_m U)<|WD.call4 (i:=3) (dd:=61) U (by kernel_rfl) U U U (.inr U) (zb call14<|.r3 U U U) .nil (jH hz .nil .h6 fun w pz ho=>og _ _ _ _ _ _ _ _ _ _ _ _ _ _ _ _ _ _ _ _ _ _ _ _ _ Y w pz ((c.mono<|zl).weak (fun _ _ h=>wg zl h)) ((d.mono<|zl).weak (fun _ _ h=>wp zl h)) (e.mono<|zl) (f.mono<|zl) ((g.mono<|zl).weak (fun _ _ h=>wi zl h)) (j.mono<|zl) ((k.mono<|zl).weak (fun _ _ h=>wq zl h)) (l.mono<|zl) ((m.mono<|zl).weak (fun _ _ h=>wv zl h))<|x.mono<|zl) ?_
   rintro u ax aA ab ad
   refine WD.merge .here .h7<|WD.call4 (i:=7) (dd:=65) U (by kernel_rfl) U U U (.inr U) (zb call15<|.r3 U U U) .nil (jH hz .nil .here fun w pz ho=>az _ _ _ _ _ _ _ _ _ _ _ _ _ _ _ _ _ _ _ _ _ _ _ _ _ aa w pz ((c.mono<|zl.trans (zl.trans (xm.xX _ _ _))).weak (fun _ _ h=>wg (zl.trans (zl.trans (xm.xX _ _ _))) h)) ((d.mono<|zl.trans (zl.trans (xm.xX _ _ _))).weak (fun _ _ h=>wp (zl.trans (zl.trans (xm.xX _ _ _))) h)) (e.mono<|zl.trans (zl.trans (xm.xX _ _ _))) (f.mono<|zl.trans (zl.trans (xm.xX _ _ _))) ((g.mono<|zl.trans (zl.trans (xm.xX _ _ _))).weak (fun _ _ h=>wi (zl.trans (zl.trans (xm.xX _ _ _))) h)) (j.mono<|zl.trans (zl.trans (xm.xX _ _ _))) ((k.mono<|zl.trans (zl.trans (xm.xX _ _ _))).weak (fun _ _ h=>wq (zl.trans (zl.trans (xm.xX _ _ _))) h)) (l.mono<|zl.trans (zl.trans (xm.xX _ _ _))) ((m.mono<|zl.trans (zl.trans (xm.xX _ _ _))).weak (fun _ _ h=>wv (zl.trans (zl.trans (xm.xX _ _ _))) h))<|x.mono<|zl.trans (zl.trans (xm.xX _ _ _))) ?_
   rintro v aB aC ae af
   refine WD.merge .here .h1<|Lf 8 15 U (q_z U)<|Lf 9 16 U (q_z U)<|WD.done (by kernel_rfl)<|Lb<|WC.b<|WC.b<|bK h fun I ag h=>Ld<|Le 66 (xw z4G U (xy .h6) U)<|Le 67 (xw z4G U (xy .h3) U)<|Lp 68 (zb call16<|.r2 U U) .nil (py hz .nil .here (.s4 .h7 .h7 .h4 .h4) fun w pz ho la=>dC _ _ _ _ _ _ _ _ _ _ _ _ ag w pz (ZA.row (la _ (.head _) _) (RR.flat (enc:=xY) (fun _=>U) _) ⟨w,pz.1⟩) (ZA.row (la _ (.tail _<|.head _) _) (RR.flat (enc:=jI) (fun _=>U) _) ⟨w,pz.1⟩) (ZA.row (la _ (.tail _<|.tail _<|.head _) _) (RR.flat (enc:=xY) (fun _=>U) _) ⟨w,pz.1⟩)<|ZA.row (la _ (.tail _<|.tail _<|.tail _<|.head _) _) (RR.flat (enc:=jI) (fun _=>U) _) ⟨w,pz.1⟩)<|Q2q U<|Lx false 3 70 (B:=(!I)||(decide (G.2≠H.2))) U U U U U U (fun h=>(kx h).symm) (fun _ ah=>?_) ?_
   ·exact La U<|La U<|La U<|La U<|Ly (ky ah) U U .all
   refine La U<|Lx false 5 75 (B:=((!I)||(decide (G.2≠H.2)))||(decide ((t.length:Int)≠(y.length:Int)))) U U U U U U (fun h=>(kx h).symm) (fun _ ai=>?_) ?_
   ·exact La U<|Le 77 (xK underlying46 U)<|La U<|Le 79 (xK underlying46 U)<|Q2q U<|Ly (ky ai) U U .all
   refine Q0n<|Lk U h (fun aj h=>?_)<|fun aj h=>?_
   ·refine B1n U<|WC.ret<|Ll ?_
    obtain rfl:=oJ h
    exact Li results3 (.tmp U .nil)<|fun w hw=>⟨xJ U,hw.sub .nil⟩
   ·refine WC.skip<|Lb<|jK0 h fun J ak h=>L7 (J=some r) ([]) ([fz (([]++u)++v)]) ?_ ?_
    ·let E:Value:=(vs ax t.length aA);let F:Value:=(vs aB y.length aC);refine B1q U<|Le 83 (xK underlying46 U)<|Q1n U<|WC.block<|L6 (fun(o:Nat) (b:Int)=>(qz t y J o b=some r)) (fun o b=>[(15,E),(16,F),(83,vi (t.length:Int)),(84,vi b)]) (fun o b=>[fz (([]++u)++v),row E 50 1 ab,row F 50 1 ae]) (fun o b=>o) ⟨xC,0⟩ h (.q U) (.s3 .here .h1 .here) ?_
     rintro(_|aD) b h;·cases h
     rw[qz] at h
     refine B1n U<|WC.b<|Lk U h (fun al h=>?_)<|fun al h=>?_
     ·refine WC.skip<|Lb<|WC.b<|WC.block<|B2n U<|WC.b<|cK h fun p h=>cK h fun q h=>bK h fun a6 am h=>Lz nc [] U<|Lf 0 87 U (q_m U)<|Lf 1 88 U (q_m U)<|Mg (fun w hw=>Hp.vB .h1 hw (by intro iT;have:=p;rw[iT] at this;omega)) ?_
      rintro⟨aS,rfl⟩
      obtain⟨aT,aU,aV,an,⟨aW,aX,rfl,ao⟩⟩:=RR.elem (Pr:=(re (Z++(([]++u)++v)))) (ad.weak (fun _ _ h=>lb ((xm.xX _ _ _).trans (zl.trans (xm.xX _ _ _))) h)) p.1 p.2
      refine Lf 2 89 U (w7 zlV U U p.1 p.2 vN)<|Lh 3 90 U (xl zC9 U<|gq .h1<|Y2 an 0 _ U)<|Lf 4 91 U (q_m U)<|Lf 5 92 U (q_m U)<|Mg (fun w hw=>Hp.vB .h2 hw (by intro iT;have:=q;rw[iT] at this;omega)) ?_
      rintro⟨aY,rfl⟩
      obtain⟨aZ,a0,a1,ap,⟨a2,a3,rfl,aq⟩⟩:=RR.elem (Pr:=(re (Z++(([]++u)++v)))) (af.weak (fun _ _ h=>lb (xm.xX _ _ _) h)) q.1 q.2
      refine Lf 6 93 U (w7 zlV U U q.1 q.2 vN)<|Lh 7 94 U (xl zC9 U<|gq .h2<|Y2 ap 0 _ U)<|L5 8 95 U (zb call17<|.r2 U U) (jH hz .nil .here fun w pz ho=>dE _ _ _ _ _ _ _ _ am w pz ao aq)<|Lf 9 96 U (cz U)<|WD.done (by kernel_rfl)<|Lb<|Lk U h (fun ar h=>?_)<|fun ar h=>?_
      ·refine B1n U<|WC.ret<|Lu<|Ll<|Ll<|Lu<|Ll ?_
       obtain rfl:=oJ h
       exact Li results3 (.tmp U .nil)<|fun w hw=>⟨xJ U,hw.sub .nil⟩
      ·exact WC.skip<|Lt<|Lb<|D2q U<|WL.nil<|WX.round ⟨aD,i64 (b+1)⟩ h (Nat.lt_succ_self _) (.q U)<|.a3
     ·exact WC.exit<|Lm<|Lm<|Lv<|Ln () h .nil<|.cons .here .nil
    ·rintro  h
     replace h:=ak.symm.trans h
     refine WC.b<|bK h fun a7 au h=>Ld<|Lp 98 (zb call11 .nil) .nil (jH hz .nil .here fun w pz ho=>oy _ _ au w pz )<|Q1n U<|WC.ret ?_
     obtain rfl:=oJ h
     exact Li results3 (.tmp U .nil)<|fun w hw=>⟨xJ U,hw.sub .nil⟩
end Go.Proofs.YthjnhebofpebpaaGreat

/- A part of this claim's proof: models of functions, walks, plain laws. No conditions. -/
import Derived.Test.YthjnhebofpebpaaGreatW36wf
set_option linter.all false
namespace Go.Proofs.YthjnhebofpebpaaGreat
open Go Go.RowKit Sep Tryz
variable {f:Int}{g:List (List zd)}{i:zt}
set_option maxRecDepth 30000
set_option maxHeartbeats 4000000
def ml(c:zt)(wide:List (Int×Int))(q:Int×List (Int->Option Int))(y0:Int):Option Int:=kF y0 q.1 q.2 wide c
def qG(c:List (List zd))(j:za)(b:zt)(l:List (za×Int))(m:Int->(List (Int×List (Int->Option Int)))->(List (Int×Int))->Option (List (Int->Option Int)×Int)):Nat->Int->Int->(List (Int×List (Int->Option Int)))->(List (Int×Int))->Option (List (Int->Option Int)×Int)
 | 0,_,_,_,_=>none
 | p+1,k,a,d,g=>if decide (a<c.length) then d7 (fun(q:Int) (r:List (Int×List (Int->Option Int))) (s:List (Int×Int))=>qG c j b l m p q (i64 (a+1)) r s) fun n=>chk (0<=a/\a<c.length) ((we (nth c a) (fun(y0:zd)=>kG y0 j)).bind fun e=>if decide (e<0) then n k d g else chk (0<=a/\a<b.yb.length) ((kI b (nth c a) l).bind fun h=>chk (0<=e/\e<h.length) (jG (fun(f:Int)=>chk (((((xp d f [])++([(fun(y0:Int)=>wA y0 (⟨(nth b.yb a).ys,(⟨((nth b.yb a).yk).yq,((nth b.yb a).yk).yu,((nth b.yb a).yk).yv⟩:yf),(nth b.yb a).yr,(nth b.yb a).yo,(nth b.yb a).yy⟩:z6) (nth h e))]:List (Int->Option Int))).length:Nat):Int)*8<=140737488355328/\((((xp d f [])++([(fun(y0:Int)=>wA y0 (⟨(nth b.yb a).ys,(⟨((nth b.yb a).yk).yq,((nth b.yb a).yk).yu,((nth b.yb a).yk).yv⟩:yf),(nth b.yb a).yr,(nth b.yb a).yo,(nth b.yb a).yy⟩:z6) (nth h e))]:List (Int->Option Int))).length:Nat):Int)<=4611686018427387904) (n (max k ((nth b.yb a).yo)) (xM d f ((xp d f [])++([(fun(y0:Int)=>wA y0 (⟨(nth b.yb a).ys,(⟨((nth b.yb a).yk).yq,((nth b.yb a).yk).yu,((nth b.yb a).yk).yv⟩:yf),(nth b.yb a).yr,(nth b.yb a).yo,(nth b.yb a).yy⟩:z6) (nth h e))]:List (Int->Option Int)))) (xM g f (max (xp g f 0) ((nth b.yb a).yo))))) fun o=>(we (nth c a) (fun(y0:zd)=>kJ y0 j)).bind fun i=>if decide (i>=0) then chk (0<=i/\i<((nth c a).length:Int)) (o ((nth (nth c a) i).fQ)) else o (-1)))) else m k d g
theorem ri{n:Nat}{a:za}{b:List (za×Int)}{c:Int->(List (Int×List (Int->Option Int)))->(List (Int×Int))->Option (List (Int->Option Int)×Int)}{j:Int}{d:List (Int×List (Int->Option Int))}{e:List (Int×Int)}{r:(List (Int->Option Int)×Int)}(h:qG g a i b c n f j d e=some r):∃ m,n=m+1:=by
 cases n with
 | zero=>cases h
 | succ m=>exact⟨m,rfl⟩
def kn(b:zt)(h:List (List zd))(c:za)(d:List (za×Int)):Option (List (Int->Option Int)×Int):=
 d7 (fun(e:Int) (a:List (Int×List (Int->Option Int))) (f:List (Int×Int))=>chk (a.length*8<=140737488355328/\a.length<=4611686018427387904) (some (a.map (ml b f),e))) fun g=>qG h c b d g xI 0 0 ([]:List (Int×List (Int->Option Int))) ([]:List (Int×Int))
theorem io(Z:Zp)(aK:Option Addr)(aL:Nat)(aM:Option Addr)(aN:Nat)(aO:Option Addr)(aP:Nat)(aQ:Option Addr)(aR:Nat)(aS:Option Addr)(aT:Nat)(aU:Option Addr)(aV:Nat)(aW:Option Addr)(aX:Nat)(aY:Option Addr)(aZ:Nat)(a8:Option Addr)(a9:Nat)(p:Nat)(a:zt)(zO:List (List zd))(am:za)(ae:List (za×Int))(r:(List (Int->Option Int)×Int))(h:kn a zO am ae=some r)(w₀:World)(hz:Pz [xy p (ga vo) vI ae] w₀ Z)(aA:ZS Z 4 (ju Z) aK aL a.fM)(aB:ZS Z 4 (kv Z) aM aN a.yd)(aC:ZS Z 4 (rq qJ) aO aP a.fS)(aD:ZS Z 4 (rq qt) aQ aR a.fK)(ay:ZS Z 7 (vK Z) aS aT a.yb)(aE:ZS Z 5 (rq kK) aU aV a.fH)(aF:ZS Z 3 (kw Z) aW aX a.fU)(aG:ZS Z 4 (rq kL) aY aZ a.yc)(bo:ZS Z 1 (wT Z) a8 a9 zO)(fh:Ho w₀ [xy p (ga vo) vI ae]):
  Calls Tryz.prog 53 #[.agg #[vs aK a.fM.length aL,vs aM a.yd.length aN,vs aO a.fS.length aP,vs aQ a.fK.length aR,vs aS a.yb.length aT,vs aU a.fH.length aV,vs aW a.fU.length aX,vs aY a.yc.length aZ],vs a8 zO.length a9,.agg #[vi am.ya,vi am.fQ],.map (some p)] w₀ fun e w'=>∃ Zn:Zp,∃ D0:Option Addr,∃ BD:Nat,e = .returned (.tuple #[vs D0 r.1.length BD,vi r.2])/\(dg (Z++Zn) (ff (Z++Zn)) D0 BD r.1)/\Hp (fps [xy p (ga vo) vI ae]) w₀ w' [fz Zn,xy p (ga vo) vI ae]:=by
 unfold kn at h
 refine Calls.mE func53 ntmps53 fh ?_
 let Q:Value:=(vs aS a.yb.length aT);let V:Value:=(vs aK a.fM.length aL);let W:Value:=(vs aM a.yd.length aN);let X:Value:=(vs aO a.fS.length aP);let Y:Value:=(vs aQ a.fK.length aR);let Aa:Value:=(vs aU a.fH.length aV);let Ab:Value:=(vs aW a.fU.length aX);let Ac:Value:=(vs aY a.yc.length aZ);let A:List Value:=[V,W,X,Y,Q,Aa,Ab,Ac];refine WC.pool<|B0q<|Lg 4 (xP (cs:=A) U U) ?_
 intro q _
 let H:List Value:=[vi am.ya,vi am.fQ];refine Lg 6 (xP (cs:=H) U U) ?_
 intro ab _
 refine Q2n U<|WC.b<|Ld (Lg 23 (je vI<|slv (α:=Value)) fun B _=>WL.ghL (M:=[vT (vF 201 1 ku) ([]:List (Int×((Nat×(Option Addr×Nat))×List Value))),xy B vI slv (qs ([]:List (Int×((Nat×(Option Addr×Nat))×List Value)))),stb ab 94 H,stb q 31 A,fz [],xy p (ga vo) vI ae]) (fun _ h=>Hp.da (vF 201 1 ku) h)<|Q1n U<|WC.b<|Ld (Lg 24 (je vI<|Value.int .i64) fun t _=>Lg 11 (xC (cs:=[.map none]) zJl U) fun s _=>Lk U U (xx zJm U U U .here U U U)<|Q0n<|B1n U ?_))
 refine jK3 h fun bf bp h=>WC.rL (fun(a0:Int) (a1:List (Int×List (Int->Option Int))) (a2:List (Int×Int)) (aH:Zp) (aI:List (Int×((Nat×(Option Addr×Nat))×List Value)))=>(bf a0 a1 a2=some r)/\(xm (Z++[]) (Z++aH))/\(RM (ff (Z++aH)) (tT aI) a1)) (fun a0 a1 a2 aH aI=>[(4,vp q),(10,(.map<|some B)),(11,vp s),(12,vi a0)]) (fun a0 a1 a2 aH aI=>[fz aH,stb q 31 A,xy B vI slv (qs aI),vT (vF 201 1 ku) aI,stb s 148 [(.map<|some t)],xy p (ga vo) vI ae,xy t vI vI a2]) ?_ ?_
 ·let I:Value:=(vs a8 zO.length a9);refine B1q U<|Le 26 (xQ underlying32 U)<|Q1n U<|WC.block<|WC.nF (fun(az:Nat) (ai:Int) (b:Int) (ak:List (Int×List (Int->Option Int))) (af:List (Int×Int)) (ad:Zp) (z:List (Int×((Nat×(Option Addr×Nat))×List Value)))=>(qG zO am a ae bf az ai b ak af=some r)/\(xm (Z++[]) (Z++ad))/\(RM (ff (Z++ad)) (tT z) ak)) (fun az ai b ak af ad z=>[(3,(.map<|some p)),(4,vp q),(6,vp ab),(10,(.map<|some B)),(11,vp s),(12,vi ai),(25,I),(26,vi (zO.length:Int)),(27,vi b)]) (fun az ai b ak af ad z=>[fz ad,xy p (ga vo) vI ae,stb q 31 A,stb ab 94 H,xy B vI slv (qs z),vT (vF 201 1 ku) z,stb s 148 [(.map<|some t)],xy t vI vI af]) (fun az ai b ak af ad z=>az) ⟨xI,0,0,([]:List (Int×List (Int->Option Int))),([]:List (Int×Int)),[],([]:List (Int×((Nat×(Option Addr×Nat))×List Value)))⟩ ⟨h,xm.refl _,RM.nil⟩ (.q U) (.s8 .h6 .h6 .h5 .h4 .h3 .h2 .here .here) ?_
  rintro az ai b ak af ad z ⟨h,o,a3⟩
  obtain⟨bq,rfl⟩:=ri h
  rw[qG] at h
  refine B1n U<|WC.b<|Lj U h (fun br h=>?_)<|fun br h=>?_
  ·refine WC.skip<|Lb<|jK3 h fun bs bt h=>WC.rL (fun(an:Int) (ap:List (Int×List (Int->Option Int))) (aq:List (Int×Int)) (ar:Zp) (au:List (Int×((Nat×(Option Addr×Nat))×List Value)))=>(bs an ap aq=some r)/\(xm (Z++ad) (Z++ar))/\(RM (ff (Z++ar)) (tT au) ap)) (fun an ap aq ar au=>[(3,(.map<|some p)),(4,vp q),(6,vp ab),(10,(.map<|some B)),(11,vp s),(12,vi an),(25,I),(26,vi (zO.length:Int)),(27,vi b)]) (fun an ap aq ar au=>[fz ar,xy p (ga vo) vI ae,stb q 31 A,stb ab 94 H,xy B vI slv (qs au),vT (vF 201 1 ku) au,stb s 148 [(.map<|some t)],xy t vI vI aq]) ?_ ?_
   ·refine WC.block<|WC.b<|cK h fun bu h=>D1q U<|L2 (dd:=30) U U (Z:=(Z++ad)) (Pr:=(wT (Z++ad))) z4O U U ((bo.mono<|zl.trans o).weak (fun _ _ h=>wd (zl.trans o) h)) bu ?_
    rintro b2 b3 bv b4 ⟨bw,bx,rfl,av⟩
    refine Le 31 (xl z9h U<|jS (hz.pv2 .here) bv U)<|Q2n U<|WC.b<|bK h fun ag bz h=>D1q U<|Le 33 (wq<|L4 (l:=[.tmp 6])<|.cons U .nil)<|Lm 34 (zf call94<|.r2 U U) .nil (ta hz .nil .here (.cons .h3 .nil) fun w pz ho la=>qv _ _ _ (zaL:=95) (zee:=[vp ab]) _ (z8l:=(fun(y0:zd)=>kG y0 am)) _ bz w pz (av.mono<|zl) call95<|fun w' il y0  r  hr=>oP _ _ _ _ _ hr w' il<|(la _ (.head _) _).stb)<|Q1n U<|WC.b<|B2n U<|Lj U h (fun bA h=>?_)<|fun bA h=>?_
    ·exact WC.exit<|Ln<|Lx<|Lp ⟨ai,ak,af,ad,z⟩ ⟨h,xm.refl _,a3⟩ (.q U)<|.a8
    ·refine WC.skip<|Lb<|WC.b<|cK h fun bB h=>bK h fun aa a4 h=>cK h fun aj h=>Lw (fun i=>[8,14,15].contains i) [uE q 31 [(4,Q)],fz ad] U<|Lf 0 37 U (xk jK U U)<|L6 1 38 U (ws.wk (.s2 .h2 .here)<|.stb (.cons U .nil)<|.same .nil) (xl z6n U<|gQ .here<|.head _)<|Lf 2 39 U (q_m U)<|L8 (j:=3) (dd:=40) (by kernel_rfl) U z2J z2K U U (Z:=(Z++ad)) (Pr:=(vK (Z++ad))) z75 U U ((ay.mono<|zl.trans o).weak (fun _ _ h=>wh (zl.trans o) h)) bB ?_
     rintro b5 b6 bC b7 ⟨bD,bE,rfl,bF⟩
     let E:Value:=(vs bw ((nth zO b).length) bx);let K:Value:=(vi (zO.length:Int));let L:Value:=(vs bD (((nth a.yb b).yy).length) bE);let N:Value:=(vi ((nth a.yb b).yr));let O:Value:=(vi ((nth a.yb b).yo));refine L6 4 41 U (ws.wk (.s2 .h2 .here)<|.stb (.cons U .nil)<|.same .nil) (xq zsQ U (vY (hz.pv2 .h1) bC) U)<|Li 5 42 U (xq z2j U (xt .h2) U)<|Lf 6 43 U (q_m U)<|Lf 7 44 U (q_m U)<|Lf 9 46 U (q_m U)<|WD.sr (fuel':=0) (fun(c:Nat) (n:Nat) (f:Nat) (g:Nat)=>[(3,(.map<|some p)),(4,vp q),(6,vp ab),(10,(.map<|some B)),(11,vp s),(12,vi ai),(25,I),(26,K),(27,vi b),(14,E),(16,vp f),(17,vp g),(18,vi (-1))]) (fun(c:Nat) (n:Nat) (f:Nat) (g:Nat)=>[stb g 3 [(vi<|nth aa ag)],stb f 69 [(.string<|(nth a.yb b).ys),(.string<|((nth a.yb b).yk).yq),(.string<|((nth a.yb b).yk).yu),(.string<|((nth a.yb b).yk).yv),N,O,L],row (vs (some ⟨c,0,none⟩) aa.length n) 3 1 (aa.flatMap e3),xy p (ga vo) vI ae,fz ad,stb q 31 A,stb ab 94 H,xy B vI slv (qs z),vT (vF 201 1 ku) z,stb s 148 [(.map<|some t)],xy t vI vI af]) (fun(c:Nat) (n:Nat) (f:Nat) (g:Nat)=>True) (wm 17 [16,15,11,14,13,12,10,8,9,7,6,5,4,3,2,1,0]) ?_<|fun bG=>?_
     ·rintro c n f g _
      refine WD.done (by kernel_rfl)<|Lb<|jK1 h fun bH bI h=>WC.jh (fun(ah:Int)=>(bH ah=some r)) (fun ah=>[(3,(.map<|some p)),(4,vp q),(6,vp ab),(10,(.map<|some B)),(11,vp s),(12,vi ai),(16,vp f),(17,vp g),(18,vi ah),(25,I),(26,K),(27,vi b)]) (fun ah=>[fz ad,xy p (ga vo) vI ae,stb q 31 A,stb ab 94 H,xy B vI slv (qs z),vT (vF 201 1 ku) z,stb s 148 [(.map<|some t)],stb f 69 [(.string<|(nth a.yb b).ys),(.string<|((nth a.yb b).yk).yq),(.string<|((nth a.yb b).yk).yu),(.string<|((nth a.yb b).yk).yv),N,O,L],stb g 3 [(vi<|nth aa ag)],xy t vI vI af]) ?_ ?_
      ·refine WC.b<|bK h fun bJ bL h=>D1q U<|Le 50 (wq<|L4 (l:=[.tmp 6])<|.cons U .nil)<|Lm 51 (zf call94<|.r2 U U) .nil (ta hz .nil .h4 (.cons .h6 .nil) fun w pz ho la=>qv _ _ _ (zaL:=96) (zee:=[vp ab]) _ (z8l:=(fun(y0:zd)=>kJ y0 am)) _ bL w pz (av.mono<|zl) call96<|fun w' il y0  r  hr=>oQ _ _ _ _ _ hr w' il<|(la _ (.head _) _).stb)<|Q1n U<|B2n U<|Lj U h (fun bM h=>?_)<|fun bM h=>?_
       ·refine cK h fun bN h=>D2q U<|L2 (dd:=56) U U (Z:=(Z++ad)) (Pr:=(rq gk)) z8e U U av bN ?_
        rintro b8 b9 bO ca rfl
        exact Le 57 (xk tJ U U)<|Le 58 (xl xB U<|wy (hz.pv2 .h4) bO U)<|La U<|WL.nil<|Lp ((nth (nth zO b) bJ).fQ) h (.q U)<|.s10 .h4 .h3 .h3 .h3 .h3 .h3 .h3 .h1 .here .h1
       ·exact WC.skip<|Lp (-1) h (.q U)<|.s10 .h4 .h3 .h3 .h3 .h3 .h3 .h3 .h1 .here .h1
      ·rintro ah h
       replace h:=(bI ah).symm.trans h
       refine WC.b<|cK h fun bP h=>Ld<|La U<|La U<|La U<|La U<|Le 63 (qz (k:=ah) (dflt:=(((none,0),[]):(Option Addr×Nat)×List Value)) jR underlying198 zAQ U U U .h4)<|WL.gh (fun _ h=>Hp.Xb ah a3 .h5 h) ?_
       rintro⟨⟨bQ,bR⟩,aJ⟩ ⟨bS,bg⟩
       refine Ke (i:=63) U (u:=(vs bQ ((xp ak ah []).length) bR)) ((congrArg slv bS).trans (RR.slv bg)) (WL.freezeC (Z:=Z) (.there .h7) .h2 fun cb a5 ba=>WL.freezeC (Z:=Z) (.there .h7) .here ?_)
       intro aw ax bT
       let J:List Value:=[.func (.func 97) #[] #[vp f,vp g]];have bU:ff (Z++aw) J (fun(y0:Int)=>wA y0 (⟨(nth a.yb b).ys,(⟨((nth a.yb b).yk).yq,((nth a.yb b).yk).yu,((nth a.yb b).yk).yv⟩:yf),(nth a.yb b).yr,(nth a.yb b).yo,(nth a.yb b).yy⟩:z6) (nth aa ag)):=⟨97,[vp f,vp g],U,call97,(fun w' il y0 r hr=>oR _ _ _ _ _ _ _ _ _ hr w' il (bF.mono (a5.trans ax)) (ba.mono ax) bT)⟩
       refine Le 64 (wq<|L4 (l:=[.tmp 16,.tmp 17])<|.r2 U U) ?_
       have bh:RR 1 (ff (Z++aw)) J ([(fun(y0:Int)=>wA y0 (⟨(nth a.yb b).ys,(⟨((nth a.yb b).yk).yq,((nth a.yb b).yk).yu,((nth a.yb b).yk).yv⟩:yf),(nth a.yb b).yr,(nth a.yb b).yo,(nth a.yb b).yy⟩:z6) (nth aa ag))]:List (Int->Option Int)):=(RR.cons (r:=J) U bU (RR.nil _ _))
       refine Lg 65 (xV (cs:=[.func (.func 97) #[] #[vp f,vp g]]) zlS (Lq (l:=[.tmp 64]) (.cons U .nil) [0]) (fun _=>by kernel_rfl) U (by unfold maxLen;omega)) ?_
       intro bV _
       have bb:RR 1 (ff (Z++aw)) (aJ++J) ((xp ak ah [])++([(fun(y0:Int)=>wA y0 (⟨(nth a.yb b).ys,(⟨((nth a.yb b).yk).yq,((nth a.yb b).yk).yu,((nth a.yb b).yk).yv⟩:yf),(nth a.yb b).yr,(nth a.yb b).yo,(nth a.yb b).yy⟩:z6) (nth aa ag))]:List (Int->Option Int))):=RR.app (bg.weak (fun _ _ h=>fo (a5.trans ax) h)) bh
       refine WL.fA 66 (uC (l1:=xp ak ah []) (l2:=([(fun(y0:Int)=>wA y0 (⟨(nth a.yb b).ys,(⟨((nth a.yb b).yk).yq,((nth a.yb b).yk).yu,((nth a.yb b).yk).yv⟩:yf),(nth a.yb b).yr,(nth a.yb b).yo,(nth a.yb b).yy⟩:z6)<|nth aa ag)]:List (Int->Option Int))) (news:=J) (Pr:=(ff (Z++aw))) zlS U U .h2 bh (qg .here) (ua U tm) bP) ?_
       rintro⟨a6,a7⟩ _
       exact Lk U U (jE (k:=ah) (v:=(((a6,a7),aJ++J):(Option Addr×Nat)×List Value)) jR underlying198 U U U (RR.slv bb).symm .h7)<|WL.ghL (fun _ h=>Hp.Yi (k:=ah) (RR.len1 bb) (.s2 .h1 .h3) h)<|WL.ghL (M:=[xy B vI slv (qs<|xM z ah ((0,(a6,a7)),aJ++J)),vT (vF 201 1 ku) (xM z ah ((0,(a6,a7)),aJ++J)),row (vs (some ⟨bV,0,none⟩) (([(fun(y0:Int)=>wA y0 (⟨(nth a.yb b).ys,(⟨((nth a.yb b).yk).yq,((nth a.yb b).yk).yu,((nth a.yb b).yk).yv⟩:yf),(nth a.yb b).yr,(nth a.yb b).yo,(nth a.yb b).yy⟩:z6)<|nth aa ag)]:List (Int->Option Int)).length) 1) 201 1 J,fz aw,xy p (ga vo) vI ae,stb q 31 A,stb ab 94 H,stb s 148 [(.map<|some t)],xy t vI vI af]) (fun _ h=>Hp.nR .h1 (iM _ _ _ _).symm h)<|Q0n<|Lw (fun i=>[12].contains i) [fz aw] U<|Li 0 67 U (xl zsY U<|xu .h7 U)<|Lf 1 68 U (q_m U)<|Li 2 69 U (xl zsY U<|xu .h7 U)<|Lf 3 70 U (q_m U)<|Li 4 71 U (qz (k:=ah) (dflt:=(0:Int)) jR underlying148 qk U U U<|.there .h7)<|Lf 5 72 U (xk fj U U)<|Li 6 73 U (xl xB U<|wy (hz.pv2 .h3) (ba.mono ax) U)<|Lf 7 74 U (l5 U U U)<|Lf 8 75 U (q_m U)<|Lf 9 76 U (xk fj U U)<|L6 10 77 U (ws.of<|.cons .h3 .nil) (xl xB U<|wy (hz.pv2 .here) (ba.mono ax) U)<|Lf 11 78 U (l5 U U U)<|WD.forced0 (i:=12) U (by kernel_rfl) U U U (ws.of<|.cons .h4 .nil) (jE (k:=ah) (v:=max (xp af ah 0) ((nth a.yb b).yo)) jR underlying148 U U U U<|.there .h7)<|Lf 13 12 U (q_z U)<|WD.done (by kernel_rfl)<|Lu<|Lp ⟨(max ai<|(nth a.yb b).yo),xM ak ah ((xp ak ah [])++([(fun(y0:Int)=>wA y0 (⟨(nth a.yb b).ys,(⟨((nth a.yb b).yk).yq,((nth a.yb b).yk).yu,((nth a.yb b).yk).yv⟩:yf),(nth a.yb b).yr,(nth a.yb b).yo,(nth a.yb b).yy⟩:z6)<|nth aa ag)]:List (Int->Option Int))),(xM af ah<|max (xp af ah 0)<|(nth a.yb b).yo),aw,xM z ah ((0,(a6,a7)),aJ++J)⟩ ⟨h,a5.trans ax,RM.putD (a3.weak<|fun _ _ h=>fo (a5.trans ax) h) ah bb⟩ (.q U)<|.s8 .h4 .h4 .h4 .h4 .h1 .h1 .h2 .here
     let R:Value:=(.string (((nth a.yb b).yk).yq));let S:Value:=(.string (((nth a.yb b).yk).yu));let T:Value:=(.string (((nth a.yb b).yk).yv));let Ad:Value:=(.string ((nth a.yb b).ys));refine WD.sr (fuel':=2) (fun(c:Nat) (n:Nat) (f:Nat) (g:Nat)=>[(3,(.map<|some p)),(4,vp q),(6,vp ab),(10,(.map<|some B)),(11,vp s),(12,vi ai),(25,I),(26,K),(27,vi b),(14,E),(16,vp f),(17,vp g),(48,(vi<|nth aa ag))]) (fun(c:Nat) (n:Nat) (f:Nat) (g:Nat)=>[stb f 69 [Ad,R,S,T,N,O,L],stb g 3 [vi 0],row (vs (some ⟨c,0,none⟩) aa.length n) 3 1 (aa.flatMap e3),xy p (ga vo) vI ae,fz ad,stb q 31 A,stb ab 94 H,xy B vI slv (qs z),vT (vF 201 1 ku) z,stb s 148 [(.map<|some t)],xy t vI vI af]) (fun(c:Nat) (n:Nat) (f:Nat) (g:Nat)=>True) (wm 17 [11,14,13,12,10,8,9,7,6,5,4,3,2,1,0]) ?_<|fun bi=>?_
     ·rintro c n f g _
      exact WD.forced0 (i:=15) U (by kernel_rfl) U U U (ws.wk (.s2 .h5 .h4)<|.stb (.cons U .nil)<|.same .nil) (xx uH U U U .h1 U U U)<|Lf 16 18 U (q_z U)<|Lt (.a11) (.q U)<|bG c n f g trivial
     let C:Value:=(.agg #[Ad,R,S,T,N,O,L]);let D:List Value:=[.string ⟨#[]⟩,.string ⟨#[]⟩,.string ⟨#[]⟩,.string ⟨#[]⟩,vi 0,vi 0,vn];refine WD.sr (fuel':=3) (fun(c:Nat) (n:Nat) (f:Nat) (g:Nat)=>[(3,(.map<|some p)),(4,vp q),(6,vp ab),(10,(.map<|some B)),(11,vp s),(12,vi ai),(25,I),(26,K),(27,vi b),(14,E),(41,C),(48,(vi<|nth aa ag)),(16,vp f),(17,vp g)]) (fun(c:Nat) (n:Nat) (f:Nat) (g:Nat)=>[stb g 3 [vi 0],stb f 69 D,row (vs (some ⟨c,0,none⟩) aa.length n) 3 1 (aa.flatMap e3),xy p (ga vo) vI ae,fz ad,stb q 31 A,stb ab 94 H,xy B vI slv (qs z),vT (vF 201 1 ku) z,stb s 148 [(.map<|some t)],xy t vI vI af]) (fun(c:Nat) (n:Nat) (f:Nat) (g:Nat)=>True) (wm 17 [13,12,11,10,8,9,7,6,5,4,3,2,1,0]) ?_<|fun bc=>?_
     ·rintro c n f g _
      exact WD.forced0 (i:=14) U (by kernel_rfl) U U U (ws.wk (.s2 .h5 .h4)<|.stb (.cons U .nil)<|.same .nil) (xx zAP U U U .h1 U U U)<|Lt (.a11) (.q U)<|bi c n f g trivial
     refine WD.sq (fuel':=4) (fun(c:Nat) (n:Nat) (f:Nat)=>[(3,(.map<|some p)),(4,vp q),(6,vp ab),(10,(.map<|some B)),(11,vp s),(12,vi ai),(25,I),(26,K),(27,vi b),(14,E),(41,C),(48,(vi<|nth aa ag)),(16,vp f)]) (fun(c:Nat) (n:Nat) (f:Nat)=>[stb f 69 D,row (vs (some ⟨c,0,none⟩) aa.length n) 3 1 (aa.flatMap e3),xy p (ga vo) vI ae,fz ad,stb q 31 A,stb ab 94 H,xy B vI slv (qs z),vT (vF 201 1 ku) z,stb s 148 [(.map<|some t)],xy t vI vI af]) (fun(c:Nat) (n:Nat) (f:Nat)=>True) (wm 17 [12,11,10,8,9,7,6,5,4,3,2,1,0]) ?_<|fun bj=>?_
     ·rintro c n f _
      refine WD.new (i:=13) (dd:=17) U (by kernel_rfl) U U U (xC (cs:=[vi 0]) qk U) (fun h'=>absurd h' (by decide)) fun g _=>Lt (.a11) (.q U)<|bc c n f g trivial
     refine WD.sq (fuel':=4) (fun(c:Nat) (n:Nat) (g:Nat)=>[(3,(.map<|some p)),(4,vp q),(6,vp ab),(10,(.map<|some B)),(11,vp s),(12,vi ai),(25,I),(26,K),(27,vi b),(14,E),(41,C),(48,(vi<|nth aa ag)),(17,vp g)]) (fun(c:Nat) (n:Nat) (g:Nat)=>[stb g 3 [vi 0],row (vs (some ⟨c,0,none⟩) aa.length n) 3 1 (aa.flatMap e3),xy p (ga vo) vI ae,fz ad,stb q 31 A,stb ab 94 H,xy B vI slv (qs z),vT (vF 201 1 ku) z,stb s 148 [(.map<|some t)],xy t vI vI af]) (fun(c:Nat) (n:Nat) (g:Nat)=>True) (wm 17 [13,11,10,8,9,7,6,5,4,3,2,1,0]) ?_<|fun bk=>?_
     ·rintro c n g _
      refine WD.new (i:=12) (dd:=16) U (by kernel_rfl) U U U (xC (cs:=D) zim U) (fun h'=>absurd h' (by decide)) fun f _=>Lt (.s11 .h1 .here .here .here .here .here .here .here .here .here .here) (.q U)<|bc c n f g trivial
     refine WD.sr (fuel':=4) (fun(c:Nat) (n:Nat) (f:Nat) (g:Nat)=>[(3,(.map<|some p)),(4,vp q),(6,vp ab),(10,(.map<|some B)),(11,vp s),(12,vi ai),(25,I),(26,K),(27,vi b),(14,E),(41,C),(47,(.pointer<|some ⟨c,(ag:Int).toNat*1,none⟩)),(16,vp f),(17,vp g)]) (fun(c:Nat) (n:Nat) (f:Nat) (g:Nat)=>[stb g 3 [vi 0],stb f 69 D,row (vs (some ⟨c,0,none⟩) aa.length n) 3 1 (aa.flatMap e3),xy p (ga vo) vI ae,fz ad,stb q 31 A,stb ab 94 H,xy B vI slv (qs z),vT (vF 201 1 ku) z,stb s 148 [(.map<|some t)],xy t vI vI af]) (fun(c:Nat) (n:Nat) (f:Nat) (g:Nat)=>True) (wm 17 [13,12,10,8,9,7,6,5,4,3,2,1,0]) ?_<|fun bd=>?_
     ·rintro c n f g _
      refine WD.choose [11,14] (by kernel_rfl) U<|wl.cons ?_<|wl.cons ?_<|wl.nil
      ·exact wl.quiet (i:=11) (d:=48) U U U U (fun h'=>absurd h' (by decide)) (xl xB U<|uy .h2<|(jb (enc:=e3) (l:=aa) (i:=ag) (sz:=1) (fun _=>U) aj.1 aj.2) 0 _ U)<|Lt (.a11) (.q U)<|bc c n f g trivial
      ·exact wl.forced0 (i:=14) U U U U (ws.wk (.s2 .h5 .h4)<|.stb (.cons U .nil)<|.same .nil) (xx zAP U U U .h1 U U U)<|Li 11 48 U (xl xB U<|uy .h2<|(jb (enc:=e3) (l:=aa) (i:=ag) (sz:=1) (fun _=>U) aj.1 aj.2) 0 _ U)<|Lt (.a11) (.q U)<|bi c n f g trivial
     refine WD.pf (fuel':=5) (fun(c:Nat) (n:Nat)=>[(3,(.map<|some p)),(4,vp q),(6,vp ab),(10,(.map<|some B)),(11,vp s),(12,vi ai),(25,I),(26,K),(27,vi b),(14,E),(41,C),(48,(vi<|nth aa ag))]) (fun(c:Nat) (n:Nat)=>[row (vs (some ⟨c,0,none⟩) aa.length n) 3 1 (aa.flatMap e3),xy p (ga vo) vI ae,fz ad,stb q 31 A,stb ab 94 H,xy B vI slv (qs z),vT (vF 201 1 ku) z,stb s 148 [(.map<|some t)],xy t vI vI af]) (fun(c:Nat) (n:Nat)=>True) (wm 17 [11,10,8,9,7,6,5,4,3,2,1,0]) ?_<|fun bW=>?_
     ·rintro c n _
      refine WD.choose [12,13] (by kernel_rfl) U<|wl.cons ?_<|wl.cons ?_<|wl.nil
      ·refine wl.new (i:=12) (dd:=16) U U U U (xC (cs:=D) zim U) (fun h'=>absurd h' (by decide)) fun f _=>Lt (.a10) (.q U)<|bj c n f trivial
      ·refine wl.new (i:=13) (dd:=17) U U U U (xC (cs:=[vi 0]) qk U) (fun h'=>absurd h' (by decide)) fun g _=>Lt (.a10) (.q U)<|bk c n g trivial
     refine WD.sq (fuel':=5) (fun(c:Nat) (n:Nat) (f:Nat)=>[(3,(.map<|some p)),(4,vp q),(6,vp ab),(10,(.map<|some B)),(11,vp s),(12,vi ai),(25,I),(26,K),(27,vi b),(14,E),(41,C),(47,(.pointer<|some ⟨c,(ag:Int).toNat*1,none⟩)),(16,vp f)]) (fun(c:Nat) (n:Nat) (f:Nat)=>[stb f 69 D,row (vs (some ⟨c,0,none⟩) aa.length n) 3 1 (aa.flatMap e3),xy p (ga vo) vI ae,fz ad,stb q 31 A,stb ab 94 H,xy B vI slv (qs z),vT (vF 201 1 ku) z,stb s 148 [(.map<|some t)],xy t vI vI af]) (fun(c:Nat) (n:Nat) (f:Nat)=>True) (wm 17 [12,10,8,9,7,6,5,4,3,2,1,0]) ?_<|fun bl=>?_
     ·rintro c n f _
      refine WD.choose [11,13] (by kernel_rfl) U<|wl.cons ?_<|wl.cons ?_<|wl.nil
      ·exact wl.quiet (i:=11) (d:=48) U U U U (fun h'=>absurd h' (by decide)) (xl xB U<|uy .h1<|(jb (enc:=e3) (l:=aa) (i:=ag) (sz:=1) (fun _=>U) aj.1 aj.2) 0 _ U)<|Lt (.a10) (.q U)<|bj c n f trivial
      ·refine wl.new (i:=13) (dd:=17) U U U U (xC (cs:=[vi 0]) qk U) (fun h'=>absurd h' (by decide)) fun g _=>Lt (.a11) (.q U)<|bd c n f g trivial
     refine WD.sq (fuel':=5) (fun(c:Nat) (n:Nat) (g:Nat)=>[(3,(.map<|some p)),(4,vp q),(6,vp ab),(10,(.map<|some B)),(11,vp s),(12,vi ai),(25,I),(26,K),(27,vi b),(14,E),(41,C),(47,(.pointer<|some ⟨c,(ag:Int).toNat*1,none⟩)),(17,vp g)]) (fun(c:Nat) (n:Nat) (g:Nat)=>[stb g 3 [vi 0],row (vs (some ⟨c,0,none⟩) aa.length n) 3 1 (aa.flatMap e3),xy p (ga vo) vI ae,fz ad,stb q 31 A,stb ab 94 H,xy B vI slv (qs z),vT (vF 201 1 ku) z,stb s 148 [(.map<|some t)],xy t vI vI af]) (fun(c:Nat) (n:Nat) (g:Nat)=>True) (wm 17 [13,10,8,9,7,6,5,4,3,2,1,0]) ?_<|fun bm=>?_
     ·rintro c n g _
      refine WD.choose [11,12] (by kernel_rfl) U<|wl.cons ?_<|wl.cons ?_<|wl.nil
      ·exact wl.quiet (i:=11) (d:=48) U U U U (fun h'=>absurd h' (by decide)) (xl xB U<|uy .h1<|(jb (enc:=e3) (l:=aa) (i:=ag) (sz:=1) (fun _=>U) aj.1 aj.2) 0 _ U)<|Lt (.a10) (.q U)<|bk c n g trivial
      ·refine wl.new (i:=12) (dd:=16) U U U U (xC (cs:=D) zim U) (fun h'=>absurd h' (by decide)) fun f _=>Lt (.s11 .h1 .here .here .here .here .here .here .here .here .here .here) (.q U)<|bd c n f g trivial
     refine WD.pf (fuel':=6) (fun(c:Nat) (n:Nat)=>[(3,(.map<|some p)),(4,vp q),(6,vp ab),(10,(.map<|some B)),(11,vp s),(12,vi ai),(25,I),(26,K),(27,vi b),(14,E),(41,C),(47,(.pointer<|some ⟨c,(ag:Int).toNat*1,none⟩))]) (fun(c:Nat) (n:Nat)=>[row (vs (some ⟨c,0,none⟩) aa.length n) 3 1 (aa.flatMap e3),xy p (ga vo) vI ae,fz ad,stb q 31 A,stb ab 94 H,xy B vI slv (qs z),vT (vF 201 1 ku) z,stb s 148 [(.map<|some t)],xy t vI vI af]) (fun(c:Nat) (n:Nat)=>True) (wm 17 [10,8,9,7,6,5,4,3,2,1,0]) ?_<|fun bX=>?_
     ·rintro c n _
      refine WD.choose [11,12,13] (by kernel_rfl) U<|wl.cons ?_<|wl.cons ?_<|wl.cons ?_<|wl.nil
      ·exact wl.quiet (i:=11) (d:=48) U U U U (fun h'=>absurd h' (by decide)) (xl xB U<|uy .here<|(jb (enc:=e3) (l:=aa) (i:=ag) (sz:=1) (fun _=>U) aj.1 aj.2) 0 _ U)<|Lt (.a9) (.q U)<|bW c n trivial
      ·refine wl.new (i:=12) (dd:=16) U U U U (xC (cs:=D) zim U) (fun h'=>absurd h' (by decide)) fun f _=>Lt (.a10) (.q U)<|bl c n f trivial
      ·refine wl.new (i:=13) (dd:=17) U U U U (xC (cs:=[vi 0]) qk U) (fun h'=>absurd h' (by decide)) fun g _=>Lt (.a10) (.q U)<|bm c n g trivial
     let F:Value:=(.agg #[V,W,X,Y,Q,Aa,Ab,Ac]);refine WD.pf (fuel':=6) (fun(f:Nat) (g:Nat)=>[(3,(.map<|some p)),(4,vp q),(6,vp ab),(10,(.map<|some B)),(11,vp s),(12,vi ai),(25,I),(26,K),(27,vi b),(14,E),(41,C),(42,F),(43,E),(44,(.map<|some p)),(46,vi ag),(16,vp f),(17,vp g)]) (fun(f:Nat) (g:Nat)=>[stb g 3 [vi 0],stb f 69 D,fz ad,xy p (ga vo) vI ae,stb q 31 A,stb ab 94 H,xy B vI slv (qs z),vT (vF 201 1 ku) z,stb s 148 [(.map<|some t)],xy t vI vI af]) (fun(f:Nat) (g:Nat)=>True) (wm 17 [13,12,9,7,6,5,4,3,2,1,0]) ?_<|fun bn=>?_
     ·rintro f g _
      refine WD.call2 (i:=8) (dd:=45) U (by kernel_rfl) U U U (.inl ⟨U,fun _ _=>(ws.wk (.s2 .h5 .h4)<|.stb (.cons U .nil)<|.same .nil)⟩) (zf call37<|.r3 U U U) (.cons .h3 .nil) (jH hz (.cons .h3 .nil) .h2 fun w pz ho=>go _ _ _ _ _ _ _ _ _ _ _ _ _ _ _ _ _ _ _ _ _ _ _ _ a4 w pz ((aA.mono<|zl.trans o).weak (fun _ _ h=>w3 (zl.trans o) h)) ((aB.mono<|zl.trans o).weak (fun _ _ h=>w9 (zl.trans o) h)) (aC.mono<|zl.trans o) (aD.mono<|zl.trans o) ((ay.mono<|zl.trans o).weak (fun _ _ h=>wh (zl.trans o) h)) (aE.mono<|zl.trans o) ((aF.mono<|zl.trans o).weak (fun _ _ h=>wa (zl.trans o) h)) (aG.mono<|zl.trans o) av ho) ?_
      rintro be n _
      refine WD.know (fun w hw=>Hp.vJ .here hw (by intro il;have:=aj;rw[il] at this;omega)) ?_
      rintro⟨c,rfl⟩
      exact Lf 10 47 U (w7 z8g U U aj.1 aj.2 qQ)<|Lt (.s11 .h2 .h2 .here .here .here .here .here .here .here .here .here) (.q U)<|bd c n f g trivial
     refine WD.tA (fuel':=7) (fun(f:Nat)=>[(3,(.map<|some p)),(4,vp q),(6,vp ab),(10,(.map<|some B)),(11,vp s),(12,vi ai),(25,I),(26,K),(27,vi b),(14,E),(41,C),(42,F),(43,E),(44,(.map<|some p)),(46,vi ag),(16,vp f)]) (fun(f:Nat)=>[stb f 69 D,fz ad,xy p (ga vo) vI ae,stb q 31 A,stb ab 94 H,xy B vI slv (qs z),vT (vF 201 1 ku) z,stb s 148 [(.map<|some t)],xy t vI vI af]) (fun(f:Nat)=>True) (wm 17 [12,9,7,6,5,4,3,2,1,0]) ?_<|fun bY=>?_
     ·rintro f _
      refine WD.choose [8,13] (by kernel_rfl) U<|wl.cons ?_<|wl.cons ?_<|wl.nil
      ·refine wl.call2 (i:=8) (dd:=45) U U U U (.inl ⟨U,fun _ _=>(ws.wk (.s2 .h4 .h3)<|.stb (.cons U .nil)<|.same .nil)⟩) (zf call37<|.r3 U U U) (.cons .h2 .nil) (jH hz (.cons .h2 .nil) .h1 fun w pz ho=>go _ _ _ _ _ _ _ _ _ _ _ _ _ _ _ _ _ _ _ _ _ _ _ _ a4 w pz ((aA.mono<|zl.trans o).weak (fun _ _ h=>w3 (zl.trans o) h)) ((aB.mono<|zl.trans o).weak (fun _ _ h=>w9 (zl.trans o) h)) (aC.mono<|zl.trans o) (aD.mono<|zl.trans o) ((ay.mono<|zl.trans o).weak (fun _ _ h=>wh (zl.trans o) h)) (aE.mono<|zl.trans o) ((aF.mono<|zl.trans o).weak (fun _ _ h=>wa (zl.trans o) h)) (aG.mono<|zl.trans o) av ho) ?_
       rintro be n _
       refine WD.know (fun w hw=>Hp.vJ .here hw (by intro il;have:=aj;rw[il] at this;omega)) ?_
       rintro⟨c,rfl⟩
       exact Lf 10 47 U (w7 z8g U U aj.1 aj.2 qQ)<|Lt (.s10 .h2 .here .here .here .here .here .here .here .here .here) (.q U)<|bl c n f trivial
      ·refine wl.new (i:=13) (dd:=17) U U U U (xC (cs:=[vi 0]) qk U) (fun h'=>absurd h' (by decide)) fun g _=>Lt (.a10) (.q U)<|bn f g trivial
     refine WD.tA (fuel':=7) (fun(g:Nat)=>[(3,(.map<|some p)),(4,vp q),(6,vp ab),(10,(.map<|some B)),(11,vp s),(12,vi ai),(25,I),(26,K),(27,vi b),(14,E),(41,C),(42,F),(43,E),(44,(.map<|some p)),(46,vi ag),(17,vp g)]) (fun(g:Nat)=>[stb g 3 [vi 0],fz ad,xy p (ga vo) vI ae,stb q 31 A,stb ab 94 H,xy B vI slv (qs z),vT (vF 201 1 ku) z,stb s 148 [(.map<|some t)],xy t vI vI af]) (fun(g:Nat)=>True) (wm 17 [13,9,7,6,5,4,3,2,1,0]) ?_<|fun bZ=>?_
     ·rintro g _
      refine WD.choose [8,12] (by kernel_rfl) U<|wl.cons ?_<|wl.cons ?_<|wl.nil
      ·refine wl.call2 (i:=8) (dd:=45) U U U U (.inl ⟨U,fun _ _=>(ws.wk (.s2 .h4 .h3)<|.stb (.cons U .nil)<|.same .nil)⟩) (zf call37<|.r3 U U U) (.cons .h2 .nil) (jH hz (.cons .h2 .nil) .h1 fun w pz ho=>go _ _ _ _ _ _ _ _ _ _ _ _ _ _ _ _ _ _ _ _ _ _ _ _ a4 w pz ((aA.mono<|zl.trans o).weak (fun _ _ h=>w3 (zl.trans o) h)) ((aB.mono<|zl.trans o).weak (fun _ _ h=>w9 (zl.trans o) h)) (aC.mono<|zl.trans o) (aD.mono<|zl.trans o) ((ay.mono<|zl.trans o).weak (fun _ _ h=>wh (zl.trans o) h)) (aE.mono<|zl.trans o) ((aF.mono<|zl.trans o).weak (fun _ _ h=>wa (zl.trans o) h)) (aG.mono<|zl.trans o) av ho) ?_
       rintro be n _
       refine WD.know (fun w hw=>Hp.vJ .here hw (by intro il;have:=aj;rw[il] at this;omega)) ?_
       rintro⟨c,rfl⟩
       exact Lf 10 47 U (w7 z8g U U aj.1 aj.2 qQ)<|Lt (.s10 .h2 .here .here .here .here .here .here .here .here .here) (.q U)<|bm c n g trivial
      ·refine wl.new (i:=12) (dd:=16) U U U U (xC (cs:=D) zim U) (fun h'=>absurd h' (by decide)) fun f _=>Lt (.s10 .h1 .here .here .here .here .here .here .here .here .here) (.q U)<|bn f g trivial
     refine WD.choose [8,12,13] (by kernel_rfl) U<|wl.cons ?_<|wl.cons ?_<|wl.cons ?_<|wl.nil
     ·refine wl.call2 (i:=8) (dd:=45) U U U U (.inl ⟨U,fun _ _=>(ws.wk (.s2 .h3 .h2)<|.stb (.cons U .nil)<|.same .nil)⟩) (zf call37<|.r3 U U U) (.cons .h1 .nil) (jH hz (.cons .h1 .nil) .here fun w pz ho=>go _ _ _ _ _ _ _ _ _ _ _ _ _ _ _ _ _ _ _ _ _ _ _ _ a4 w pz ((aA.mono<|zl.trans o).weak (fun _ _ h=>w3 (zl.trans o) h)) ((aB.mono<|zl.trans o).weak (fun _ _ h=>w9 (zl.trans o) h)) (aC.mono<|zl.trans o) (aD.mono<|zl.trans o) ((ay.mono<|zl.trans o).weak (fun _ _ h=>wh (zl.trans o) h)) (aE.mono<|zl.trans o) ((aF.mono<|zl.trans o).weak (fun _ _ h=>wa (zl.trans o) h)) (aG.mono<|zl.trans o) av ho) ?_
      rintro be n _
      refine WD.know (fun w hw=>Hp.vJ .here hw (by intro il;have:=aj;rw[il] at this;omega)) ?_
      rintro⟨c,rfl⟩
      exact Lf 10 47 U (w7 z8g U U aj.1 aj.2 qQ)<|Lt (.a9) (.q U)<|bX c n trivial
     ·refine wl.new (i:=12) (dd:=16) U U U U (xC (cs:=D) zim U) (fun h'=>absurd h' (by decide)) fun f _=>Lt (.a9) (.q U)<|bY f trivial
     ·refine wl.new (i:=13) (dd:=17) U U U U (xC (cs:=[vi 0]) qk U) (fun h'=>absurd h' (by decide)) fun g _=>Lt (.a9) (.q U)<|bZ g trivial
   ·rintro an ap aq ar au ⟨h,b0,b1⟩
    replace h:=(bt an ap aq).symm.trans h
    exact D2q U<|WL.nil<|WX.round ⟨bq,an,i64 (b+1),ap,aq,ar,au⟩ ⟨h,o.trans b0,b1⟩ (Nat.lt_succ_self _) (.q U)<|.a8
  ·exact WC.exit<|Ln<|Ln<|Lx<|Lp ⟨ai,ak,af,ad,z⟩ ⟨h,o,a3⟩ (.q U)<|.s7 .here .h1 .h2 .h2 .h2 .here .h1
 ·rintro most mp wide Zn lg ⟨h,zZ,hm⟩
  replace h:=(bp most mp wide).symm.trans h
  obtain⟨hb,h⟩:=xv h
  obtain rfl:=oJ h
  clear h
  refine B0q<|WL.gh (G:=Zp) (φ:=fun Z1=>xm (Z++Zn) (Z++Z1)/\RG (Z++Z1) (ff (Z++Z1)) (qs lg) mp) (L':=fun Z1=>[fz Z1,stb q 31 A,xy B vI slv (qs lg),stb s 148 [(.map<|some t)],xy p (ga vo) vI ae,xy t vI vI wide]) (fun w hw=>?_) ?_
  ·have h1:=hw.sub (.s7 .h3 .here .here .here .here .here .here)
   obtain⟨Z1,k1,k2,k3⟩:=Hp.lY (Pr:=fun Z=>ff Z) (fun k _ _ h=>fo k h) hz lg mp Zn hm h1
   exact⟨Z1,⟨k1,k2⟩,k3⟩
  rintro Z1 ⟨hle1,CE⟩
  refine WL.freezeC (Z:=Z) .h1 .here fun Z2 C1 hc=>WL.freezeC (Z:=Z) .h2 .here fun Z3 Cj xF=>WL.gh (G:=Zp) (φ:=fun Z4=>xm (Z++Z3) (Z++Z4)/\ZA (Z++Z4) (xy t vI vI wide)) (L':=fun Z4=>[fz Z4,xy B vI slv (qs lg),xy p (ga vo) vI ae]) (fun w hw=>?_) ?_
  ·obtain⟨Z4,k1,k2,k3⟩:=Hp.freeze (x:=xy t vI vI wide) .h3 .here hw
   exact⟨Z4,⟨k1.app,k2.mono (xm.right _ _)⟩,k3⟩
  rintro Z4 ⟨BE,hW⟩
  replace CE:=CE.up (C1.trans (Cj.trans BE)) (fun _ _ h=>fo (C1.trans (Cj.trans BE)) h)
  replace hc:=hc.mono (Cj.trans BE)
  replace xF:=xF.mono BE
  have hZ:xm Z (Z++Z4):=zl.trans (zZ.trans (hle1.trans (C1.trans (Cj.trans BE))))
  refine Q1n U<|WC.rL (fun(Zn:Zp) (ao:Option Addr) (cap:Nat) (cs:List Value) (fs:List (Int->Option Int))=>xm (Z++Z4) (Z++Zn)/\RR 1 (ff (Z++Zn)) cs fs/\fs.Perm (mp.map<|ml a wide)) (fun Zn ao cap cs fs=>[(12,vi most),(20,vs ao fs.length cap)]) (fun Zn ao cap cs fs=>[fz Zn,row (vs ao fs.length cap) 201 1 cs,xy p (ga vo) vI ae]) ?_ ?_
  ·refine B1q U<|WL.fA 81 (Vx underlying198 U .h1) ?_
   rintro rr _
   refine Q0n<|WC.block<|WC.nilRow 201 1<|WC.pb (fun(Zn:Zp) (ao:Option Addr) (cap:Nat) (cs:List Value) (fs:List (Int->Option Int)) (rem:List (Int×((Option Addr×Nat)×List Value))) (l':List (Int×List (Int->Option Int))) (lB:Option (Int×((Option Addr×Nat)×List Value)))=>xm (Z++Z4) (Z++Zn)/\RR 1 (ff (Z++Zn)) cs fs/\RG (Z++Z4) (ff (Z++Z4)) rem l'/\(fs++l'.map (ml a wide)).Perm (mp.map<|ml a wide)) (fun Zn ao cap cs fs rem l' lB=>[(4,vp q),(11,vp s),(12,vi most),(20,vs ao fs.length cap),(81,vp rr)]) (fun Zn ao cap cs fs rem l' lB=>[fz Zn,row (vs ao fs.length cap) 201 1 cs,mo rr B vI slv (qs lg) rem lB,xy p (ga vo) vI ae]) (fun Zn ao cap cs fs rem l' lB=>rem.length) ⟨Z4,none,0,[],[],qs lg,mp,none⟩ ⟨xm.refl _,RR.nil _ _,CE,.refl _⟩ (.q U) (.s4 .h2 .here .here .here) ?_
   rintro Zn ao cap cs fs rem l' lB ⟨C2,hr,hg,hp⟩
   refine B0q<|WL.nextM U U U .h2 (fun hrem=>?_)<|fun i y m hx Bk=>?_
   ·subst hrem
    cases hg
    refine Q1n U<|WC.b<|WC.cond U (fun h'=>(by cases h'))<|fun h'=>?_
    clear h'
    exact WC.exit<|Ln<|Ln<|Lx<|Lp ⟨Zn,ao,cap,cs,fs⟩ ⟨C2,hr,by simpa using hp⟩ (.q U) (.s3 .h1 .h1 .h1)
   ·obtain⟨x,hx1,hxl,hxs,hg'⟩:=hg.at hx
    rw[<- Bk] at hg'
    have jo:rem.length=m.length+1:=by
     have h1:=(List.getElem?_eq_some_iff.1 hx).1
     rw[Bk,List.length_eraseIdx,if_pos h1];omega
    have hpl:=hp.length_eq
    have hgl:=hg.len
    rw[List.length_append,List.length_map,List.length_map] at hpl
    refine Q1n U<|WC.b<|WC.cond U (fun h'=>?_)<|fun h'=>(by cases h')
    clear h'
    refine WC.skip<|Lb<|WC.block<|B0q<|Le 84 (Vz U .here)<|La U<|La U (Lg 21 (xC (cs:=[vi 0]) qk U) fun Dk _=>Lg 22 (xC (cs:=[vn]) zAQ U) fun C3 _=>Lk U U (xx uH U U U .h1 U U U)<|Lk U U (xx (vs:=[slv y.2]) zJn U U U .h1 U U U) (WL.freezeC (Z:=Z) .h1 .h2 fun Z5 Ck By=>WL.freezeC (Z:=Z) .h1 .here ?_))
    intro Z6 C4 Ch
    replace By:=By.mono C4
    have e22:slv y.2 = .slice y.2.1.1 x.length y.2.1.2:=by unfold slv;rw[hxl]
    replace Ch:ZC (Z++Z6) ⟨C3,0,none⟩ [.slice y.2.1.1 x.length y.2.1.2]:=by rw[<- e22];exact Ch
    have ru:=C2.trans (Ck.trans C4)
    refine Q0n<|Ld<|La U ?_
    let P:Value:=(.func (.func 99) #[] #[vp Dk,vp C3,vp s,vp q]);have hfd:ff (Z++Z6) [P] (ml a wide (y.1,x)):=⟨99,[vp Dk,vp C3,vp s,vp q],U,call99,fun w' il y0 r hr=>oO (Z:=Z++Z6) (zyG:=⟨Dk,0,none⟩) (zyH:=⟨C3,0,none⟩) (zyI:=y.2.1.1) (zyJ:=y.2.1.2) (zyK:=⟨s,0,none⟩) (zyL:=t) (zyM:=⟨q,0,none⟩) (zyN:=aK) (zyO:=aL) (zyP:=aM) (zyQ:=aN) (zyR:=aO) (zyS:=aP) (zyT:=aQ) (zyU:=aR) (zyV:=aS) (zyW:=aT) (zyX:=aU) (zyY:=aV) (zyZ:=aW) (zz0:=aX) (zz1:=aY) (zz2:=aZ) (zhO:=y0) (zax:=y.1) (zhP:=x) (zof:=wide) (z4H:=a) (r:=r) (h:=hr) (w₀:=w') (hz:=il) (hmW:=hW.mono ru) (zrr:=By) (zz3:=((dg.of hxs).up ru (fun _ _ h=>fo ru h))) (zz4:=Ch) (zHe:=(xF.mono ru)) (zXT:=((aA.mono (hZ.trans ru)).weak (fun _ _ h=>w3 (hZ.trans ru) h))) (zXU:=((aB.mono (hZ.trans ru)).weak (fun _ _ h=>w9 (hZ.trans ru) h))) (zXV:=(aC.mono (hZ.trans ru))) (zHf:=(aD.mono (hZ.trans ru))) (zXW:=((ay.mono (hZ.trans ru)).weak (fun _ _ h=>wh (hZ.trans ru) h))) (zXX:=(aE.mono (hZ.trans ru))) (zXY:=((aF.mono (hZ.trans ru)).weak (fun _ _ h=>wa (hZ.trans ru) h))) (zXZ:=(aG.mono (hZ.trans ru))) (zHg:=(hc.mono ru))⟩
    refine Le 88 (wq<|L4 (l:=[.tmp 21,.tmp 22,.tmp 11,.tmp 4])<|.r4 U U U U)<|Lg 89 (xV (cs:=[.func (.func 99) #[] #[vp Dk,vp C3,vp s,vp q]]) zlS (Lq (l:=[.tmp 88]) (.cons U .nil) [0]) (fun _=>by kernel_rfl) U (by unfold maxLen;omega)) ?_
    intro b89 _
    have DZ:RR 1 (ff (Z++Z6)) [P] ([ml a wide (y.1,x)]:List (Int->Option Int)):=RR.one U hfd
    have Bf:=hr.weak (fun _ _ h=>fo (Ck.trans C4) h)
    refine WL.fA 90 (uC (l1:=fs) (l2:=([ml a wide (y.1,x)]:List (Int->Option Int))) (news:=[.func (.func 99) #[] #[vp Dk,vp C3,vp s,vp q]]) (Pr:=(ff (Z++Z6))) zlS U U .h3 DZ (qg .here) (ua U tm) ⟨by rw[List.length_append,List.length_singleton];omega,by rw[List.length_append,List.length_singleton];omega⟩) ?_
    rintro⟨zM,lw⟩ _
    refine La U<|WL.nil<|Lu ?_
    have AO:((fs++[ml a wide (y.1,x)])++(l'.eraseIdx i).map (ml a wide)).Perm (mp.map (ml a wide)):=by
     refine List.Perm.trans ?_ hp
     rw[List.append_assoc]
     exact List.Perm.append_left _<|(dh hx1).map (ml a wide)
    exact WX.round ⟨Z6,zM,lw,cs++[.func (.func 99) #[] #[vp Dk,vp C3,vp s,vp q]],fs++[ml a wide (y.1,x)],m,l'.eraseIdx i,some y⟩ ⟨ru,RR.app Bf DZ,hg',AO⟩ (by show m.length<rem.length;omega) (.q U)<|.s4 .h2 .here .h1 .h1
  ·rintro Zn ao cap cs fs ⟨C2,hr,hp⟩
   have jo:fs.length=(mp.map (ml a wide)).length:=hp.length_eq
   refine WC.b<|Ld<|La U<|La U<|La U<|La U (WL.freezeS (ls:=fs) .h1 .here hz hr fun Z7 Ck h7=>Q0n<|WC.ret<|Lh results53 (.tmp U<|.tmp U .nil)<|fun w hw=>?_)
   refine⟨Z7,ao,cap,?_,⟨fs,hp,h7.weak fun _ _ h=>fo Ck h⟩,hw.sub (.a2)⟩
   show Ending.returned _=_
   rw[<- jo]
   exact vg U U
def jB(b:List (Int->Option Int)×Int)(d:zt)(e:za)(c:Int->Option (yl×Int)):Nat->Int->Option (yl×Int)
 | 0,_=>none
 | f+1,a=>(vB b.1 (i64 (a-1))).bind fun g=>if decide ((i64 (((nth d.fK e.fQ).yp)*g))>a) then if decide ((i64 (a+1))>32768) then some ((⟨0,0,0,0⟩:yl),360) else jB b d e c f (i64 (a+1)) else c a
def jC(e:Int)(d:Int)(g:List (Int->Option Int)×Int)(b:zt)(c:za)(h:Int->Int->Option (yl×Int)):Nat->Int->Int->Int->Option (yl×Int)
 | 0,_,_,_=>none
 | l+1,a,f,i=>if decide (a<(i64 (e+d))) then(vB g.1 a).bind fun j=>jG (fun(m:Int)=>chk ((((nth b.fK c.fQ).yp):Int)≠0) (jC e d g b c h l (i64 (a+1)) m (max i (i64 (j-(i64 (Int.tdiv (i64 ((i64 ((max (i64 (a-d)) 0)+((nth b.fK c.fQ).yp)))-1)) ((nth b.fK c.fQ).yp)))))))) fun k=>if decide (a<e) then k (max f (i64 ((i64 ((i64 (((nth b.fK c.fQ).yp)*j))-a))+d))) else k f else h f i
def gA(b:zt)(d:List (List zd))(a:za)(e:List (za×Int)):Option (yl×Int):=
 (kn b d a e).bind fun c=>chk (0<=a.fQ/\a.fQ<b.fK.length) ((kH b a.ya).bind fun f=>jG (fun(g:Int)=>si (fun(h:Int) (i:Int)=>some (({a with yj:=h,fT:=i64 (i+c.2)}:yl),0)) fun j=>jC g f c b a j xI 0 0 0) fun k=>jB c b a k xI 1)
theorem dz(Z:Zp)(B:Option Addr)(H:Nat)(I:Option Addr)(J:Nat)(K:Option Addr)(L:Nat)(M:Option Addr)(N:Nat)(O:Option Addr)(P:Nat)(Q:Option Addr)(R:Nat)(S:Option Addr)(T:Nat)(V:Option Addr)(W:Nat)(ab:Option Addr)(ad:Nat)(f:Nat)(a:zt)(X:List (List zd))(b:za)(g:List (za×Int))(r:yl×Int)(h:gA a X b g=some r)(w₀:World)(hz:Pz [xy f (ga vo) vI g] w₀ Z)(ae:ZS Z 4 (ju Z) B H a.fM)(af:ZS Z 4 (kv Z) I J a.yd)(ag:ZS Z 4 (rq qJ) K L a.fS)(Y:ZS Z 4 (rq qt) M N a.fK)(ah:ZS Z 7 (vK Z) O P a.yb)(ai:ZS Z 5 (rq kK) Q R a.fH)(aj:ZS Z 3 (kw Z) S T a.fU)(ak:ZS Z 4 (rq kL) V W a.yc)(ao:ZS Z 1 (wT Z) ab ad X)(fh:Ho w₀ [xy f (ga vo) vI g]):
  RF 25 #[.agg #[vs B a.fM.length H,vs I a.yd.length J,vs K a.fS.length L,vs M a.fK.length N,vs O a.yb.length P,vs Q a.fH.length R,vs S a.fU.length T,vs V a.yc.length W],vs ab X.length ad,.agg #[vi b.ya,vi b.fQ],.map (some f)] w₀ (.tuple #[.agg #[vi r.1.ya,vi r.1.fQ,vi r.1.yj,vi r.1.fT],vi r.2]) [xy f (ga vo) vI g] [xy f (ga vo) vI g]:=by
 unfold gA at h
 refine Calls.mE func25 ntmps25 fh ?_
 refine WC.pool<|WC.b<|Ld (Lg 4 (xP (cs:=[vs B a.fM.length H,vs I a.yd.length J,vs K a.fS.length L,vs M a.fK.length N,vs O a.yb.length P,vs Q a.fH.length R,vs S a.fU.length T,vs V a.yc.length W]) U U) fun aK _=>Lg 6 (xP (cs:=[vi b.ya,vi b.fQ]) U U) ?_)
 intro aL _
 let A:List Value:=[vi 0,vi 0,vi 0,vi 0];refine Lg 8 (xC (cs:=A) zii U) ?_
 intro k _
 refine Q1n U<|WC.b<|bK h fun o ap h=>Ld<|Le 19 (xq z2j U (xt .h2) U)<|La U<|Le 21 (xq zp2 U (xt .h1) U)<|La U<|WL.eI (dd:=23) U U U (zf call53<|.r4 U U U U) (.cons .h4 .nil) (jH hz (.cons .h4 .nil) .h3 fun w pz ho=>io _ _ _ _ _ _ _ _ _ _ _ _ _ _ _ _ _ _ _ _ _ _ _ _ _ ap w pz ((ae.mono<|zl).weak (fun _ _ h=>w3 zl h)) ((af.mono<|zl).weak (fun _ _ h=>w9 zl h)) (ag.mono<|zl) (Y.mono<|zl) ((ah.mono<|zl).weak (fun _ _ h=>wh zl h)) (ai.mono<|zl) ((aj.mono<|zl).weak (fun _ _ h=>wa zl h)) (ak.mono<|zl) ((ao.mono<|zl).weak (fun _ _ h=>wd zl h)) ho) ?_
 rintro x aq ar al
 refine WL.merge .here .h4<|Q5n U<|WC.b<|cK h fun au h=>bK h fun p av h=>Lw nc [] U<|Lf 0 26 U (xk uT U U)<|Li 1 27 U (xl zbZ U<|xu .h4 U)<|Lf 2 28 U (xk YF U U)<|Li 3 29 U (xl xB U<|xu .h3 U)<|L8 (j:=4) (dd:=30) (by kernel_rfl) U z2J z2K U U (Z:=(Z++([]++x))) (Pr:=(rq qt)) zga U U (Y.mono<|zl.trans (zl.trans (xm.xH _ _ _))) au ?_
 rintro aM aN aw aO rfl
 refine Lf 5 31 U (xk sD U U)<|Li 6 32 U (xl xB U<|wy (hz.pv2 .here) aw U)<|Li 7 33 U (xq z2j U (xt .h4) U)<|Lf 8 34 U (xk eh U U)<|Li 9 35 U (xl xB U<|xu .h3 U)<|L5 10 36 U (zf call54<|.r2 U U) (jH hz .nil .here fun w pz ho=>rh _ _ _ _ _ _ _ _ _ _ _ _ _ _ _ _ _ _ _ _ av w pz ((ae.mono<|zl.trans (zl.trans (xm.xH _ _ _))).weak (fun _ _ h=>w3 (zl.trans (zl.trans (xm.xH _ _ _))) h)) ((af.mono<|zl.trans (zl.trans (xm.xH _ _ _))).weak (fun _ _ h=>w9 (zl.trans (zl.trans (xm.xH _ _ _))) h)) (ag.mono<|zl.trans (zl.trans (xm.xH _ _ _))) (Y.mono<|zl.trans (zl.trans (xm.xH _ _ _))) ((ah.mono<|zl.trans (zl.trans (xm.xH _ _ _))).weak (fun _ _ h=>wh (zl.trans (zl.trans (xm.xH _ _ _))) h)) (ai.mono<|zl.trans (zl.trans (xm.xH _ _ _))) ((aj.mono<|zl.trans (zl.trans (xm.xH _ _ _))).weak (fun _ _ h=>wa (zl.trans (zl.trans (xm.xH _ _ _))) h))<|ak.mono<|zl.trans (zl.trans (xm.xH _ _ _)))<|Lf 11 12 U (q_z U)<|Lf 12 13 U (q_z U)<|WD.done (by kernel_rfl)<|Lb<|B0q<|Le 37 (xk eh U U)<|Le 38 (xl xB U<|xu .h3 U)<|Le 39 (xk YF U U)<|Le 40 (xl xB U<|xu .h3 U)<|Le 41 (xU (v:=(.agg #[vi b.ya,vi b.fQ,vi 0,vi 0])) (Lq (l:=[.tmp 38,.tmp 40]) (.r2 U U) [0,1]) (fun _=>by kernel_rfl)) (Lg 14 (xC (cs:=A) zii U) fun m _=>Lk U U (xx zgb U U U .here U U U)<|Q0n<|B1n U ?_)
 obtain⟨am,ax,h⟩:=wv h
 let D:Value:=(vs aq o.1.length ar);let E:Value:=(vi ((nth a.fK b.fQ).yp));let G:List Value:=[vi b.ya,vi b.fQ,vi 0,vi 0];refine WC.jh (fun(c:Int)=>(am c=some r)) (fun c=>[(8,vp k),(10,D),(11,vi o.2),(12,E),(13,vi p),(14,vp m),(15,vi c)]) (fun c=>[fz ([]++x),stb k 37 A,stb m 37 G,xy f (ga vo) vI g]) ?_ ?_
 ·refine WC.block<|Ka (fun(y:Nat) (q:Int)=>(jB o a b am y q=some r)) (fun y q=>[(8,vp k),(10,D),(11,vi o.2),(12,E),(13,vi p),(14,vp m),(15,vi q)]) (fun y q=>[fz ([]++x),stb k 37 A,stb m 37 G,xy f (ga vo) vI g]) (fun y q=>y) ⟨xI,1⟩ h (.q U) (.s4 .h1 .h2 .here .here) ?_
  rintro(_|ay) q h;·cases h
  rw[jB] at h
  refine WC.b<|WC.b<|bK h fun aP az h=>Ld<|La U<|La U<|La U<|La U<|Lm 46 (zf call55<|.r2 U U) .nil (jH hz .nil .here fun w pz ho=>mN _ _ _ _ _ _ az w pz<|al.up (xm.xH _ _ _)<|fun _ _ h=>fo (xm.xH _ _ _) h)<|La U<|La U<|La U<|WL.nil<|Lb<|Lj U h (fun aA h=>?_)<|fun aA h=>?_
  ·refine WC.skip<|Lb<|WC.block<|B3n U<|B2n U<|Lj U h (fun aB h=>?_)<|fun aB h=>?_
   ·refine B0q<|Le 54 (xU (v:=(.agg #[vi 0,vi 0,vi 0,vi 0])) (Lq (l:=[]) .nil []) (fun _=>by kernel_rfl))<|Lk U U (xx zgb U U U .h1 U U U)<|Q1n U<|WC.ret<|Lv<|Ll<|Lv<|Ll ?_
    obtain rfl:=oJ h
    exact Lh results25 (.agg U zc3 U (xt .here)<|.tmp U .nil)<|fun w hw=>⟨vg U U,hw.sub (.cons .h3 .nil)⟩
   ·exact WC.skip<|Lu<|WX.round ⟨ay,i64 (q+1)⟩ h (Nat.lt_succ_self _) (.q U)<|.a4
  ·exact WC.exit<|Ln<|Ln<|Lx<|Lp q h (.q U)<|.a4
 ·rintro c h
  replace h:=(ax c).symm.trans h
  refine jK2 h fun an aC h=>WC.fm (fun(t:Int) (u:Int)=>(an t u=some r)) (fun t u=>[(8,vp k),(11,vi o.2),(14,vp m)]) (fun t u=>[fz ([]++x),stb k 37 A,stb m 37 [vi b.ya,vi b.fQ,vi t,vi u],xy f (ga vo) vI g]) ?_ ?_
  ·refine B4n U<|WC.block<|WC.mG (fun(z:Nat) (d:Int) (n:Int) (e:Int)=>(jC c p o a b an z d n e=some r)) (fun z d n e=>[(8,vp k),(10,D),(11,vi o.2),(12,E),(13,vi p),(14,vp m),(15,vi c),(57,(vi<|i64 (c+p))),(58,vi d)]) (fun z d n e=>[fz ([]++x),stb k 37 A,stb m 37 [vi b.ya,vi b.fQ,vi n,vi e],xy f (ga vo) vI g]) (fun z d n e=>z) ⟨xI,0,0,0⟩ h (.q U) (.a4) ?_
   rintro(_|aD) d n e h;·cases h
   rw[jC] at h
   refine B1n U<|WC.b<|Lj U h (fun aE h=>?_)<|fun aE h=>?_
   ·refine WC.skip<|Lb<|WC.b<|WC.block<|B2n U<|WC.b<|bK h fun aa aF h=>D2q U<|Lm 63 (zf call55<|.r2 U U) .nil (jH hz .nil .here fun w pz ho=>mN _ _ _ _ _ _ aF w pz<|al.up (xm.xH _ _ _)<|fun _ _ h=>fo (xm.xH _ _ _) h)<|Q1n U<|jK1 h fun aG aH h=>WC.jh (fun(s:Int)=>(aG s=some r)) (fun s=>[(8,vp k),(10,D),(11,vi o.2),(12,E),(13,vi p),(14,vp m),(15,vi c),(16,vi d),(17,vi aa),(57,(vi<|i64 (c+p))),(58,vi d)]) (fun s=>[fz ([]++x),stb k 37 A,stb m 37 [vi b.ya,vi b.fQ,vi s,vi e],xy f (ga vo) vI g]) ?_ ?_
    ·refine B3n U<|Lj U h (fun aI h=>?_)<|fun aI h=>?_
     ·let F:=(i64 ((i64 ((i64 (((nth a.fK b.fQ).yp)*aa))-d))+p));refine Ld<|Le 67 (xk oE U U)<|Le 68 (xl xB U<|xu .h2 U)<|La U<|La U<|La U<|La U<|La U<|La U<|La U<|Le 76 (l5 U U U)<|Le 77 (xk oE U U)<|Lk U U (jU (ds:=[vi b.ya,vi b.fQ,(vi<|max n F),vi e]) uH U U U U U .h2 U U)<|WL.nil ?_
      exact Lp (max n F) h (.q U)<|.s4 .h1 .h1 .here .here
     ·exact WC.skip<|Lp n h (.q U)<|.a4
    ·rintro s h
     replace h:=(aH s).symm.trans h
     obtain⟨aJ,h⟩:=xv h
     let C:=(i64 (aa-(i64 (Int.tdiv (i64 ((i64 ((max (i64 (d-p)) 0)+((nth a.fK b.fQ).yp)))-1)) ((nth a.fK b.fQ).yp)))));refine Lw (fun i=>[15].contains i) [] U<|Lf 0 78 U (xk cH U U)<|Li 1 79 U (xl xB U<|xu .h2 U)<|Lf 2 80 U (q_m U)<|Lf 3 81 U (q_m U)<|Lf 4 82 U (q_m U)<|Lf 5 83 U (sM U U U)<|Lf 6 84 U (l5 U U U)<|Lf 7 85 U (q_m U)<|Lf 8 86 U (tR U U U)<|Lf 9 87 U (sM U U U)<|Lf 10 88 U (q_m U)<|Lf 11 89 U (l3 U U aJ U)<|Lf 12 90 U (sM U U U)<|Lf 13 91 U (l5 U U U)<|Lf 14 92 U (xk cH U U)<|WD.jf (i:=15) U (by kernel_rfl) U U U (by kernel_rfl) (jU (ds:=[vi b.ya,vi b.fQ,vi s,(vi<|max e C)]) uH U U U U U .h2 U U)<|WD.done (by kernel_rfl)<|Lu<|Lb<|D2q U<|WL.nil ?_
     exact WX.round ⟨aD,i64 (d+1),s,max e C⟩ h (Nat.lt_succ_self _) (.q U)<|.s4 .h1 .h1 .here .here
   ·exact WC.exit<|Ln<|Ln<|Lx<|Lp ⟨n,e⟩ h (.q U)<|.a4
  ·rintro t u h
   replace h:=(aC t u).symm.trans h
   refine B0q<|Le 94 (xk cH U U)<|Le 95 (xl xB U<|xu .h2 U)<|Q2q U<|Le 98 (xk cH U U)<|Lk U U (jU (ds:=[vi b.ya,vi b.fQ,vi t,(vi<|i64 (u+o.2))]) uH U U U U U .h2 U U)<|Q0n<|B0q<|Le 99 (xq zc3 U (xt .here) U)<|Lk U U (xx zgb U U U .h2 U U U)<|Q1n U<|WC.ret ?_
   obtain rfl:=oJ h
   exact Lh results25 (.agg U zc3 U (xt .here)<|.tmp U .nil)<|fun w hw=>⟨vg U U,hw.sub (.cons .h3 .nil)⟩
def wj(a:yl)(b:yl):Option Int:=
 if decide (a.ya≠b.ya) then some (i64 (a.ya-b.ya)) else some (i64 (a.fQ-b.fQ))
theorem lz(Z:Zp)(a:yl)(b:yl)(r:Int)(h:wj a b=some r)(w₀:World)(hz:PZ [] w₀ Z):
  RC 27 #[.agg #[vi a.ya,vi a.fQ,vi a.yj,vi a.fT],.agg #[vi b.ya,vi b.fQ,vi b.yj,vi b.fT]] w₀ (vi r) [] []:=by
 unfold wj at h
 refine L0 func27 ntmps27 ?_
 refine WC.b<|Ld (Lg 2 (xP (cs:=[vi a.ya,vi a.fQ,vi a.yj,vi a.fT]) U U) fun d _=>Lg 3 (xP (cs:=[vi b.ya,vi b.fQ,vi b.yj,vi b.fT]) U U) fun e _=>Q1n U<|WC.b<|B0q<|Le 5 (xk uU U U)<|Le 6 (xl xB U<|xu .h1 U)<|Le 7 (xk uU U U)<|Le 8 (xl xB U<|xu .here U)<|Q1n U<|Lj U h (fun c h=>?_)<|fun c h=>?_)
 ·refine B0q<|Le 10 (xk uU U U)<|Le 11 (xl xB U<|xu .h1 U)<|Le 12 (xk uU U U)<|Le 13 (xl xB U<|xu .here U)<|Q2n U<|WC.ret<|Ll ?_
  obtain rfl:=oJ h
  exact Lh results27 (.tmp U .nil)<|fun w hw=>⟨xK U,hw.sub .nil⟩
 ·refine WC.skip<|Lb<|B0q<|Le 15 (xk sI U U)<|Le 16 (xl xB U<|xu .h1 U)<|Le 17 (xk sI U U)<|Le 18 (xl xB U<|xu .here U)<|Q2n U<|WC.ret ?_
  obtain rfl:=oJ h
  exact Lh results27 (.tmp U .nil)<|fun w hw=>⟨xK U,hw.sub .nil⟩
def qV(b:List yl×Int)(e:zt)(f:List (List zd))(g:(List yl)->Option (yz×Int)):Nat->Int->(List (za×Int))->(List yl)->Option (yz×Int)
 | 0,_,_,_=>none
 | i+1,a,h,d=>if decide (a<b.1.length) then chk (0<=a/\a<b.1.length) ((gA e f (⟨(nth b.1 a).ya,(nth b.1 a).fQ⟩:za) h).bind fun c=>if decide (c.2≠0) then some ((⟨([]:List yl),([]:List zo)⟩:yz),c.2) else chk (((d++([c.1]:List yl)).length:Int)*32<=140737488355328/\((d++([c.1]:List yl)).length:Int)<=4611686018427387904) (qV b e f g i (i64 (a+1)) (xM h (⟨(nth b.1 a).ya,(nth b.1 a).fQ⟩:za) c.1.yj) (d++([c.1]:List yl)))) else g d
def ww(b:zt)(d:Int)(c:List (List zd)):Option (yz×Int):=
 (g0 b d c).bind fun a=>if decide (a.2=310) then some ((⟨([]:List yl),([]:List zo)⟩:yz),a.2) else(fO b d c).bind fun e=>if decide (e.2=350) then some ((⟨([]:List yl),([]:List zo)⟩:yz),e.2) else if decide (a.2≠0) then some ((⟨([]:List yl),([]:List zo)⟩:yz),a.2) else jG (fun(g:List yl)=>(xY g (fun(y0:yl) (y1:yl)=>wj y0 y1)).bind fun f=>(mu b c f).bind fun h=>some ((⟨f,h⟩:yz),0)) fun i=>qV a b c i xI 0 ([]:List (za×Int)) ([]:List yl)
theorem jD(Z:Zp)(L:Option Addr)(M:Nat)(N:Option Addr)(O:Nat)(P:Option Addr)(Q:Nat)(R:Option Addr)(S:Nat)(T:Option Addr)(V:Nat)(W:Option Addr)(X:Nat)(Y:Option Addr)(aa:Nat)(ab:Option Addr)(ad:Nat)(ae:Option Addr)(af:Nat)(a:zt)(ag:Int)(q:List (List zd))(r:yz×Int)(h:ww a ag q=some r)(w₀:World)(hz:PZ [] w₀ Z)(u:ZS Z 4 (ju Z) L M a.fM)(x:ZS Z 4 (kv Z) N O a.yd)(y:ZS Z 4 (rq qJ) P Q a.fS)(z:ZS Z 4 (rq qt) R S a.fK)(B:ZS Z 7 (vK Z) T V a.yb)(E:ZS Z 5 (rq kK) W X a.fH)(F:ZS Z 3 (kw Z) Y aa a.fU)(G:ZS Z 4 (rq kL) ab ad a.yc)(H:ZS Z 1 (wT Z) ae af q):
  Calls Tryz.prog 12 #[.agg #[vs L a.fM.length M,vs N a.yd.length O,vs P a.fS.length Q,vs R a.fK.length S,vs T a.yb.length V,vs W a.fH.length X,vs Y a.fU.length aa,vs ab a.yc.length ad],vi ag,vs ae q.length af] w₀ fun e w'=>∃ ah:Option Addr,∃ ai:Nat,∃ aj:Option Addr,∃ ak:Nat,e = .returned (.tuple #[.agg #[vs ah r.1.fP.length ai,vs aj r.1.yi.length ak],vi r.2])/\True/\Hp [] w₀ w' [row (vs ah r.1.fP.length ai) 37 4 (r.1.fP.flatMap wP),row (vs aj r.1.yi.length ak) 53 3 (r.1.yi.flatMap vC)]:=by
 unfold ww at h
 refine Kc func12 ntmps12 ?_
 let A:List Value:=[vs L a.fM.length M,vs N a.yd.length O,vs P a.fS.length Q,vs R a.fK.length S,vs T a.yb.length V,vs W a.fH.length X,vs Y a.fU.length aa,vs ab a.yc.length ad];refine B0q<|Lg 3 (xP (cs:=A) U U) ?_
 intro I _
 refine Lg 6 (xC (cs:=[vn,vn]) z6o U) fun J _=>Q1n U<|WC.b<|bK h fun c au h=>Ld<|Le 20 (xq z2j U (xt .h1) U)<|Q2q U<|WL.kY (dd:=23) U U U (zf call24<|.r3 U U U) .nil (cc hz .nil fun w pz ho=>nl _ _ _ _ _ _ _ _ _ _ _ _ _ _ _ _ _ _ _ _ _ _ _ au w pz u x y z B E F G H) ?_
 rintro av aw _
 refine Q5n U<|WC.b<|B2n U<|Lj U h (fun ax h=>?_)<|fun ax h=>?_
 ·refine B0q<|Le 28 (xU (v:=(.agg #[vn,vn])) (Lq (l:=[]) .nil []) (fun _=>by kernel_rfl))<|La U<|Lk U U (xx z6q U U U .h1 U U U)<|Q1n U<|WC.ret<|Ll<|WX.nilRow 37 4<|WX.nilRow 53 3 ?_
  obtain rfl:=oJ h
  exact Lh results12 (.agg U z8i U (xt .h2)<|.tmp U .nil)<|fun w hw=>⟨none,0,none,0,vg U U,trivial,hw.sub (.s2 .h1 .here)⟩
 ·refine WC.skip<|Lb<|WC.b<|WC.b<|bK h fun aV ay h=>Ld<|Le 31 (xq z2j U (xt .h2) U)<|Q2q U<|WL.tI (dd:=34) U U U (zf call18<|.r3 U U U) .nil (cc hz .nil fun w pz ho=>dx _ _ _ _ _ _ _ _ _ _ _ _ _ _ _ _ _ _ _ _ _ _ _ ay w pz u x y z B E F G H) ?_
  rintro aL aM aN aO _
  refine Q2q U<|La U (Lg 10 (xC (cs:=[vn,vn]) z6o U) fun aP _=>Lk U U (xx z6q U U U .here U U U)<|Q1n U<|B2n U<|Lj U h (fun az h=>?_)<|fun az h=>?_)
  ·refine B0q<|Le 39 (xU (v:=(.agg #[vn,vn])) (Lq (l:=[]) .nil []) (fun _=>by kernel_rfl))<|La U<|Lk U U (xx z6q U U U .h4 U U U)<|Q1n U<|WC.ret<|Ll<|WX.nilRow 37 4<|WX.nilRow 53 3 ?_
   obtain rfl:=oJ h
   exact Lh results12 (.agg U z8i U (xt .h2)<|.tmp U .nil)<|fun w hw=>⟨none,0,none,0,vg U U,trivial,hw.sub (.s2 .h1 .here)⟩
  ·refine WC.skip<|Lb<|WC.b<|B2n U<|Lj U h (fun aA h=>?_)<|fun aA h=>?_
   ·refine B0q<|Le 43 (xU (v:=(.agg #[vn,vn])) (Lq (l:=[]) .nil []) (fun _=>by kernel_rfl))<|La U<|Lk U U (xx z6q U U U .h4 U U U)<|Q1n U<|WC.ret<|Ll<|WX.nilRow 37 4<|WX.nilRow 53 3 ?_
    obtain rfl:=oJ h
    exact Lh results12 (.agg U z8i U (xt .h2)<|.tmp U .nil)<|fun w hw=>⟨none,0,none,0,vg U U,trivial,hw.sub (.s2 .h1 .here)⟩
   ·refine WC.skip<|Lb<|WC.b<|Ld (Lg 45 (je (ga vo)<|Value.int .i64) fun al _=>Q1n U<|WC.b<|Ld (Lg 13 (xC (cs:=[vn,vn]) z6o U) fun K _=>Q0n ?_))
    obtain⟨am,aB,h⟩:=wv h
    let D:Value:=(vs ae q.length af);refine WC.qN (fun(f:List yl) (g:Option Addr) (j:Nat)=>(am f=some r)) (fun f g j=>[(2,D),(3,vp I),(6,vp J),(13,vp K)]) (fun f g j=>[stb I 31 A,stb J 40 [vn,vn],stb K 40 [vs g f.length j,vn],row (vs g f.length j) 37 4 (f.flatMap wP)]) ?_ ?_
    ·let C:Value:=(vs av c.1.length aw);refine B1q U<|Le 47 (xQ underlying33 U)<|Q1n U<|WC.block<|WC.nilRow 37 4<|WC.pa (fun(s:Nat) (b:Int) (m:List (za×Int)) (d:List yl) (n:Option Addr) (o:Nat)=>(qV c a q am s b m d=some r)) (fun s b m d n o=>[(2,D),(3,vp I),(6,vp J),(12,(.map<|some al)),(13,vp K),(46,C),(47,vi (c.1.length:Int)),(48,vi b)]) (fun s b m d n o=>[row C 37 4 (c.1.flatMap wP),stb I 31 A,stb J 40 [vn,vn],xy al (ga vo) vI m,stb K 40 [vs n d.length o,vn],row (vs n d.length o) 37 4 (d.flatMap wP)]) (fun s b m d n o=>s) ⟨xI,0,([]:List (za×Int)),([]:List yl),none,0⟩ h (.q U) (.s6 .h6 .h7 .h6 .h2 .h1 .here) ?_
     rintro(_|aC) b m d n o h;·cases h
     rw[qV] at h
     refine B1n U<|WC.b<|Lj U h (fun aD h=>?_)<|fun aD h=>?_
     ·refine WC.skip<|Lb<|WC.b<|WC.block<|WC.b<|cK h fun t h=>Ld<|Kf (fun w hw=>Hp.vJ .here hw (by intro il;have:=t;rw[il] at this;omega)) ?_
      rintro⟨aQ,rfl⟩
      refine Le 50 (w7 z8h U U t.1 t.2 qQ)<|Le 51 (wp (cs:=(wP<|nth c.1 b)) zc3 U U<|gq .here<|jb (enc:=wP) (l:=c.1) (i:=b) (sz:=4) (fun _=>U) t.1 t.2) (Lg 15 (xC (cs:=[vi 0,vi 0,vi 0,vi 0]) zii U) fun aR _=>Lk U U (xx zgb U U U .here U U U)<|Q0n<|B0q<|Le 52 (xk uU U U)<|Le 53 (xl xB U<|xu .here U)<|Le 54 (xk sI U U)<|Le 55 (xl xB U<|xu .here U)<|Le 56 (xU (v:=(.agg #[(vi<|(nth c.1 b).ya),(vi<|(nth c.1 b).fQ)])) (Lq (l:=[.tmp 53,.tmp 55]) (.r2 U U) [0,1]) (fun _=>by kernel_rfl)) (Lg 16 (xC (cs:=[vi 0,vi 0]) zJi U) fun aS _=>Lk U U (xx zJj U U U .here U U U)<|Q0n<|WC.b ?_))
      refine bK h fun p aE h=>Ld<|Le 58 (xq z2j U (xt .h3) U)<|La U<|Le 60 (xq zp2 U (xt .here) U)<|La U<|Lm 62 (zf call25<|.r4 U U U U) (.cons .h5 .nil) (cc hz (.cons .h5 .nil) fun w pz ho=>dz _ _ _ _ _ _ _ _ _ _ _ _ _ _ _ _ _ _ _ _ _ _ _ _ _ aE w pz u x y z B E F G H ho)<|Q2q U<|La U (Lg 17 (xC (cs:=[vi 0,vi 0,vi 0,vi 0]) zii U) fun aT _=>Lk U U (xx zgb U U U .here U U U)<|Q1n U<|WC.b<|B2n U<|Lj U h (fun aF h=>?_)<|fun aF h=>?_)
      ·refine B0q<|Le 67 (xU (v:=(.agg #[vn,vn])) (Lq (l:=[]) .nil []) (fun _=>by kernel_rfl))<|La U<|Lk U U (xx z6q U U U .h6 U U U)<|Q1n U<|WC.ret<|Ll<|Lv<|Ll<|Ll<|Lv<|Ll<|WX.nilRow 37 4<|WX.nilRow 53 3 ?_
       obtain rfl:=oJ h
       exact Lh results12 (.agg U z8i U (xt .h2)<|.tmp U .nil)<|fun w hw=>⟨none,0,none,0,vg U U,trivial,hw.sub (.s2 .h1 .here)⟩
      ·refine WC.skip<|Lb<|B1q U<|Le 70 (xq zp2 U (xt .h2) U)<|Le 71 (xk oE U U)<|Le 72 (xl xB U<|xu .here U)<|Lk U U (jE (k:=(⟨(nth c.1 b).ya,(nth c.1 b).fQ⟩:za)) (v:=p.1.yj) zsZ underlying92 U U U U .h1)<|Q0n<|cK h fun aG h=>Ld<|Le 73 (xk g9 U U)<|Le 74 (xl z7H U<|xu .h7 U)<|Le 75 (xq zc3 U (xt .h1) U) (Lg 76 (xV (cs:=([p.1]:List yl).flatMap wP) z8h (Lq (l:=[.tmp 75]) (.cons U .nil) [0]) (fun _=>by kernel_rfl) U (by unfold maxLen;omega)) fun aU _=>WL.fA 77 (kZ (enc:=wP) (l1:=d) (l2:=([p.1]:List yl)) z8h U U (.there<|.there .h7) (fun _=>U) U U (qg .here) (gr di _) aG) ?_)
       rintro⟨an,ao⟩ _
       exact Le 78 (xk g9 U U)<|Lk U U (jU (ds:=[vs an ((d++([p.1]:List yl)).length) ao,vn]) zAK U U U U U (.there<|.there .h7) U U)<|WL.nil<|Lu<|Lb<|D2q U<|WL.nil<|WX.round ⟨aC,i64 (b+1),xM m (⟨(nth c.1 b).ya,(nth c.1 b).fQ⟩:za) p.1.yj,d++([p.1]:List yl),an,ao⟩ h (Nat.lt_succ_self _) (.q U)<|.s6 .h7 .h7 .h7 .h3 .here .here
     ·exact WC.exit<|Ln<|Ln<|Lx<|Lp ⟨d,n,o⟩ h (.q U)<|.s4 .h1 .h1 .h2 .h2
    ·rintro f g j h
     replace h:=(aB f).symm.trans h
     refine WC.b<|bK h fun ap aH h=>Ld<|Le 80 (xk g9 U U)<|Le 81 (xl z7H U<|xu .h2 U)<|WL.gj (dd:=82) U U U (zf call26<|.r2 U U) (.cons .h3 .nil) (cc hz (.cons .h3 .nil) fun w pz ho=>kj _ _ _ (zhF:=27) (zo6:=[]) _ (zhE:=(fun(y0:yl) (y1:yl)=>wj y0 y1)) _ aH w pz call27 (fun w' il y0 y1  r  hr=>lz _ _ _ _ hr w' il ) ho) ?_
     rintro  aI
     refine WL.restb (cs':=[vs g ap.length j,vn]) .h3 (by rw[aI])<|Q0n<|WC.b<|bK h fun aJ aK h=>Ld<|Le 83 (xq z2j U (xt .h2) U)<|La U<|Le 85 (xk g9 U U)<|Le 86 (xl z7H U<|xu .here U)<|WL.kY (dd:=87) U U U (zf call28<|.r3 U U U) .nil (sX hz .nil (.cons .h1 .nil) fun w pz ho la=>iU _ _ _ _ _ _ _ _ _ _ _ _ _ _ _ _ _ _ _ _ _ _ _ _ _ aK w pz ((u.mono<|zl).weak (fun _ _ h=>w3 zl h)) ((x.mono<|zl).weak (fun _ _ h=>w9 zl h)) (y.mono<|zl) (z.mono<|zl) ((B.mono<|zl).weak (fun _ _ h=>wh zl h)) (E.mono<|zl) ((F.mono<|zl).weak (fun _ _ h=>wa zl h)) (G.mono<|zl) ((H.mono<|zl).weak (fun _ _ h=>wd zl h))<|ZA.row (la _ (.head _) _) (RR.flat (enc:=wP) (fun _=>U) _) ⟨w,pz.1⟩) ?_
     rintro aq ar _
     refine Le 88 (xk tK U U)<|Lk U U (jU (ds:=[vs g ap.length j,vs aq aJ.length ar]) zAL U U U U U .h1 U U)<|Q0n<|B0q<|Le 89 (xq z8i U (xt .here) U)<|Lk U U (xx z6q U U U .h4 U U U)<|Q1n U<|WC.ret ?_
     obtain rfl:=oJ h
     exact Lh results12 (.agg U z8i U (xt .here)<|.tmp U .nil)<|fun w hw=>⟨g,j,aq,ar,vg U U,trivial,hw.sub (.s2 .h3 .h2)⟩
def vk(a:List yl):Option (List yl):=
 some a
theorem fV(Z:Zp)(a:Option Addr)(b:Nat)(c:List yl)(r:List yl)(h:vk c=some r)(w₀:World)(hz:PZ [] w₀ Z)(i:ZS Z 4 (rq wP) a b c):
  Calls Tryz.prog 70 #[vs a c.length b] w₀ fun e w'=>∃ d:Nat,∃ f:Option Addr,∃ g:Nat,e = .returned (.func (.func 113) #[] #[vp d])/\(ZS Z 4 (rq wP) f g r)/\Hp [] w₀ w' [stb d 33 [vs f r.length g]]:=by
 unfold vk at h
 refine L7 func70 ntmps70 ?_
 refine WC.b<|Ld (Lg 1 (xP (cs:=[vs a c.length b]) U U) fun j _=>Q1n U<|B0q<|Le 3 (wq<|L4 (l:=[.tmp 1])<|.cons U .nil)<|Q1n U<|WC.ret ?_)
 obtain rfl:=oJ h
 exact Lh results70 (.tmp U .nil)<|fun w hw=>⟨j,a,b,xK U,i,hw.sub (.cons .here .nil)⟩
def xZ(z2o:Type)(z4L:List yl)(zaA:(Int×yl)->z2o->Option (Bool×z2o))(c:z2o->Option z2o):Nat->Int->z2o->Option z2o
 | 0,_,_=>none
 | e+1,a,d=>if decide (a>=0) then chk (0<=a/\a<z4L.length) ((zaA (a,(⟨(nth z4L a).ya,(nth z4L a).fQ,(nth z4L a).yj,(nth z4L a).fT⟩:yl)) d).bind fun b=>if !b.1 then some b.2 else xZ z2o z4L zaA c e (i64 (a-1)) b.2) else c d
theorem gi{n:Nat}{z2o:Type}{z4L:List yl}{zaA:(Int×yl)->z2o->Option (Bool×z2o)}{a:z2o->Option z2o}{b:z2o}{r:z2o}(h:xZ z2o z4L zaA a n f b=some r):∃ m,n=m+1:=by
 cases n with
 | zero=>cases h
 | succ m=>exact⟨m,rfl⟩
def va(z2o:Type)(zaA:(Int×yl)->z2o->Option (Bool×z2o))(zbT:z2o)(z4L:List yl):Option z2o:=
 jG (fun(a:z2o)=>some a) fun b=>xZ z2o z4L zaA b xI (i64 ((z4L.length:Int)-1)) zbT
theorem f8(Z:Zp)(z2o:Type)(zsd:Nat)(zg6:Type)(zaB:zg6->z2o->Asrt)(zlj:zg6->z2o->Prop)(zi1:zg6)(zse:Addr)(zzT:Option Addr)(zzU:Nat)(zaA:(Int×yl)->z2o->Option (Bool×z2o))(zbT:z2o)(z4L:List yl)(r:z2o)(w₀:World)(hz:Pz [zaB zi1 zbT] w₀ Z)(t:iC Tryz.prog Z zsd (α:=Int×yl) (σ:=z2o) (G:=zg6) (H:=Unit) (fun h x=>[vi x.1,.agg #[vi x.2.ya,vi x.2.fQ,vi x.2.yj,vi x.2.fT]]) (fun h x=>[]) zaA zaB zlj)(u:zlj zi1 zbT)(v:ZS Z 4 (rq wP) zzT zzU z4L)(l:ZC Z zse [vs zzT z4L.length zzU])(h:va z2o zaA zbT z4L=some r)(fh:Ho w₀ [zaB zi1 zbT]):
  Calls Tryz.prog 113 #[.func (.yield zsd) #[] #[],vq zse] w₀ fun e w'=>∃ m:zg6,e = .returned (.tuple #[])/\(zlj m r)/\Hp (fps [zaB zi1 zbT]) w₀ w' [zaB m r]:=by
 unfold va at h
 refine Kd func113 ntmps113 fh ?_
 refine B0q<|Le 4 (xl z7H U<|jS hz.pv l U)<|Le 5 (xQ underlying33 U)<|Q2n U<|jK1 h fun n y h=>WC.oz (fun(f:z2o) (i:zg6)=>(n f=some r)/\(zlj i f)) (fun f i=>[]) (fun f i=>[zaB i f]) ?_ ?_
 ·refine WC.block<|WC.mG (fun(j:Nat) (a:Int) (c:z2o) (d:zg6)=>(xZ z2o z4L zaA n j a c=some r)/\(zlj d c)) (fun j a c d=>[(0,.func (.yield zsd) #[] #[]),(1,vq zse),(3,vi a)]) (fun j a c d=>[zaB d c]) (fun j a c d=>j) ⟨xI,i64 ((z4L.length:Int)-1),zbT,zi1⟩ ⟨h,u⟩ (.q U) (.cons .here .nil) ?_
  rintro j a c d ⟨h,o⟩
  obtain⟨z,rfl⟩:=gi h
  rw[xZ] at h
  refine WC.b<|B2n U<|Lj U h (fun A h=>?_)<|fun A h=>?_
  ·refine WC.skip<|Lb<|WC.b<|WC.block<|WC.b<|cK h fun B h=>bK h fun k C h=>D2q U<|Le 13 (xl z7H U<|jS hz.pv l U)<|La U<|L2 (dd:=15) U U (Z:=Z) (Pr:=(rq wP)) z8h U U v B ?_
   rintro I J D K rfl
   refine Le 16 (xq zc3 U (vY hz.pv D) U) (WL.yield (dd:=17) (x:=(a,(⟨(nth z4L a).ya,(nth z4L a).fQ,(nth z4L a).yj,(nth z4L a).fT⟩:yl))) (h:=()) (g:=d) (s:=c) (b:=k.1) (s':=k.2) t U U U (.q U) ((.cons .here .nil):Sel _ [zaB d c] _) C o (fun w hw=>hz.call hw ((.cons .here .nil):Sel _ [zaB d c] _)) fun p q=>Q1n U<|Lj U h (fun E h=>?_)<|fun E h=>?_)
   ·refine WC.ret<|Lv<|Ll<|Ll<|Lv<|Ll ?_
    obtain rfl:=oJ h
    exact Lh results113 .nil<|fun w hw=>⟨p,sp,q,hw.sub (.cons .here .nil)⟩
   ·exact WC.skip<|Lu<|Lb<|D3q U<|WL.nil<|WX.round ⟨z,i64 (a-1),k.2,p⟩ ⟨h,q⟩ (Nat.lt_succ_self _) (.q U)<|.cons .here .nil
  ·exact WC.exit<|Ln<|Ln<|Lx<|Lp ⟨c,d⟩ ⟨h,o⟩ .nil<|.cons .here .nil
 ·rintro f i ⟨h,F⟩
  replace h:=(y f).symm.trans h
  obtain rfl:=oJ h
  exact WX.gP results113 .nil<|fun w hw=>⟨i,sp,F,hw.sub (.cons .here .nil)⟩
def g6(a:Int×yl)(b:List (za×Int)):Option (Bool×(Nat×(List (za×Int)))):=
 some (true,(0,xM b (⟨a.2.ya,a.2.fQ⟩:za) a.2.yj))
def ge(a:List yl):Option (List (za×Int)):=
 jG (fun(b:List (za×Int))=>some b) fun c=>(vk a).bind fun d=>(va (Nat×(List (za×Int))) (fun(x:Int×yl) (s:Nat×(List (za×Int)))=>chk (s.1=0) (g6 x s.2)) (0,([]:List (za×Int))) d).bind fun e=>c e.2
theorem bO(Z:Zp)(u:Option Addr)(y:Nat)(q:List yl)(r:(List (za×Int)))(h:ge q=some r)(w₀:World)(hz:PZ [] w₀ Z)(L:ZS Z 4 (rq wP) u y q):
  Calls Tryz.prog 36 #[vs u q.length y] w₀ fun e w'=>∃ F:Nat,e = .returned (.map (some F))/\True/\Hp [] w₀ w' [xy F (ga vo) vI r]:=by
 unfold ge at h
 let C:Value:=(vs u q.length y);refine Calls.sN (vs:=[C]) (pre:=[]) (env:=[(0,C)]) func36 U ntmps36 U (Hp.nil w₀ _) U ?_
 refine B1n U<|WC.b<|Ld (Lg 6 (je (ga vo)<|Value.int .i64) fun a _=>Lg 3 (xC (cs:=[.map none]) zJo U) fun b _=>Lk U U (xx zJp U U U .here U U U)<|Q0n ?_)
 refine jK1 h fun M N h=>WC.Yc (fun(p:Nat) (o:List (za×Int))=>(M o=some r)) (fun(p:Nat) (o:List (za×Int))=>[(3,vp b)]) (fun(p:Nat) (o:List (za×Int))=>[stb b 92 [(.map<|some a)],xy a (ga vo) vI o,qL p]) ?_ ?_
 ·refine WC.b<|bK h fun H O h=>D1q U<|WL.eI (dd:=8) U U U (zf call70<|.cons U .nil) .nil (cc hz .nil fun w pz ho=>fV _ _ _ _ _ O w pz L) ?_
  rintro c I J P
  refine Q0n<|WC.block<|WC.drop (.s3 .h1 .h1 .here)<|WC.rangeFunc (f:=113) (caps:=[vp c]) U call113 ?_
  intro X Y d j i z Q R w hw
  have hw1:=hw.selAll ((.s3 .h2 .h2 .here):Sel _ [stb b 92 [.map (some a)],xy a (ga vo) vI ([]:List (za×Int)),xR d (i .ready none)] _)
  let A:List Value:=[vs I H.length J];have pz:=(hz.call hw1 ((.cons .here .nil):Sel [ve [stb b 92 [.map (some a)],xy a (ga vo) vI ([]:List (za×Int)),xR d (i .ready none)],qL j,stb c 33 A] [ve [stb b 92 [.map (some a)],xy a (ga vo) vI ([]:List (za×Int)),xR d (i .ready none)]] [qL j,stb c 33 A])).lend hw1 ((.cons .here .nil):Sel [ve [stb b 92 [.map (some a)],xy a (ga vo) vI ([]:List (za×Int)),xR d (i .ready none)],qL j,stb c 33 A] [ve [stb b 92 [.map (some a)],xy a (ga vo) vI ([]:List (za×Int)),xR d (i .ready none)]] [qL j,stb c 33 A]) (B:=[stb c 33 A]) (fun _ hx'=>((.cons .h1 .nil):Sel _ [stb c 33 A] _).mem hx')
  refine bK h fun n S h=>Calls.mono (f8 (Z:=_) (zsd:=d) (zg6:=Unit) (zaB:=(fun(g:Unit) (s:Nat×(List (za×Int)))=>ve ([stb b 92 [(.map<|some a)],xy a (ga vo) vI s.2]++[xR d (i (ul<|gt [] s.1)<|gt [] s.1)]))) (zlj:=(fun(g:Unit) (s:Nat×(List (za×Int)))=>True)) (zi1:=()) (zse:=⟨c,0,none⟩) (zzT:=I) (zzU:=J) (z2o:=(Nat×(List (za×Int)))) (zaA:=(fun(x:Int×yl) (s:Nat×(List (za×Int)))=>chk (s.1=0)<|g6 x s.2)) (zbT:=(0,([]:List (za×Int)))) (z4L:=H) (r:=n) w pz ?_ trivial (P.mono<|zl) ((hw1.lent ((.cons .here .nil):Sel [ve [stb b 92 [(.map<|some a)],xy a (ga vo) vI ([]:List (za×Int)),xR d (i .ready none)],qL j,stb c 33 A] [ve [stb b 92 [(.map<|some a)],xy a (ga vo) vI ([]:List (za×Int)),xR d (i .ready none)]] [qL j,stb c 33 A]) (B:=[stb c 33 A]) (fun _ hx'=>((.cons .h1 .nil):Sel _ [stb c 33 A] _).mem hx') (.head _) _).stb) S<|hw1.owns ((.cons .here .nil):Sel [ve [stb b 92 [(.map<|some a)],xy a (ga vo) vI ([]:List (za×Int)),xR d (i .ready none)],qL j,stb c 33 A] [ve [stb b 92 [(.map<|some a)],xy a (ga vo) vI ([]:List (za×Int)),xR d (i .ready none)]] [qL j,stb c 33 A])) ?_
  ·refine pT (LI:=(fun(g:Unit) (s:Nat×(List (za×Int)))=>[stb b 92 [(.map<|some a)],xy a (ga vo) vI s.2])) (pc:=(fun(s:Nat×(List (za×Int)))=>gt [] s.1)) z Q R (fun _ _=>U) (by decide) ?_
   rintro m _ _ ⟨T,E⟩ V W Fb wb K _ hz
   replace hz:=hz.left
   letI:Rnd:=pS d
   obtain⟨z2,t⟩:=xv K
   replace z2:T=0:=z2;subst z2;clear K
   replace t:g6 m E=some (V,W):=t
   unfold g6 at t
   refine WC.restr (env':=[(3,vp b),(9,vi m.1),(10,.agg #[vi m.2.ya,vi m.2.fQ,vi m.2.yj,vi m.2.fT])]) (.q U)<|WC.eqL (L':=[stb b 92 [(.map<|some a)],xy a (ga vo) vI E,xR d (i .ready none)]) U<|Ld (Lg 5 (xC (cs:=[vi 0,vi 0,vi 0,vi 0]) zii U) fun aa _=>Lk U U (xx zgb U U U .here U U U)<|WL.nil<|WX.lb z .h3<|WC.block<|Ld<|Le 11 (xl zAR U<|xu .h2 U)<|Le 12 (xk uU U U)<|Le 13 (xl xB U<|xu .h1 U)<|Le 14 (xk sI U U)<|Le 15 (xl xB U<|xu .h1 U)<|Le 16 (xU (v:=(.agg #[vi m.2.ya,vi m.2.fQ])) (Lq (l:=[.tmp 13,.tmp 15]) (.r2 U U) [0,1]) (fun _=>by kernel_rfl))<|Le 17 (xk oE U U)<|Le 18 (xl xB U<|xu .h1 U)<|Lk U U (jE (k:=(⟨m.2.ya,m.2.fQ⟩:za)) (v:=m.2.yj) zsZ underlying92 U U U U .h3)<|WL.nil<|Lu ?_)
   obtain⟨rfl,rfl⟩:=pg t
   exact WX.mH z .h1<|fun w' oa=>⟨(),U,trivial,(oa.selAll ((.s3 .h3 .h1 .here):Sel _ [stb b 92 [(.map<|some a)],xy a (ga vo) vI (xM E (⟨m.2.ya,m.2.fQ⟩:za) m.2.yj),xR d (i .ready none)] _)).sub (.cons .here .nil)⟩
  ·rintro _ w' ⟨_,rfl,_,hp⟩
   have zB:=hw1.call ((.cons .here .nil):Sel [ve [stb b 92 [.map (some a)],xy a (ga vo) vI ([]:List (za×Int)),xR d (i .ready none)],qL j,stb c 33 A] [ve [stb b 92 [.map (some a)],xy a (ga vo) vI ([]:List (za×Int)),xR d (i .ready none)]] [qL j,stb c 33 A]) hp
   have AO:Hp _ _ w' [stb b 92 [.map (some a)],xy a (ga vo) vI n.2,xR d (i (ul (gt [] n.1)) (gt [] n.1)),qL j,stb c 33 A]:=zB.pickAll .here
   refine⟨_,gt [] n.1,_,U,AO.sub ((.s5 .h2 .here .here .here .here):Sel _ [xR d (i (ul (gt [] n.1)) (gt [] n.1)),stb b 92 [.map (some a)],xy a (ga vo) vI n.2,qL j,stb c 33 A] _),?_⟩
   clear hp zB AO pz hw hw1
   refine wjN ?_
   letI:Rnd:=f9 j
   exact Lu<|WX.midR (D:=fun(g:Nat×(List (za×Int)))=>g.1) (G:=Nat×(List (za×Int))) ⟨j,n.2⟩ h (.cons U .nil)<|.a3
 ·rintro p o h
  replace h:=(N o).symm.trans h
  letI:Rnd:=f9 p
  refine B0q<|Le 19 (xl zAR U<|xu .here U)<|Q1n U<|WC.ret ?_
  obtain rfl:=oJ h
  exact WX.uD .h2 results36 (.tmp U .nil)<|fun w hw=>⟨a,xK U,trivial,hw.sub (.cons .h2 .nil)⟩
def qb(b:List (List zd))(e:zt)(f:(List (za×Int)))(g:(List (List Int))->Option (List (List Int))):Nat->(List (List Int))->Int->Option (List (List Int))
 | 0,_,_=>none
 | h+1,c,a=>if decide (a<b.length) then chk (0<=a/\a<b.length) ((kI e (nth b a) f).bind fun d=>chk ((((c++([d]:List (List Int))).length:Nat):Int)*24<=140737488355328/\(((c++([d]:List (List Int))).length:Nat):Int)<=4611686018427387904) (qb b e f g h (c++([d]:List (List Int))) (i64 (a+1)))) else g c
theorem rx{n:Nat}{a:(List (za×Int))}{b:(List (List Int))->Option (List (List Int))}{c:List (List Int)}{r:List (List Int)}(h:qb g i a b n c f=some r):∃ m,n=m+1:=by
 cases n with
 | zero=>cases h
 | succ m=>exact⟨m,rfl⟩
def qZ(a:zt)(b:List (List zd))(c:List yl):Option (List (List Int)):=
 (kf a 0 b).bind fun d=>(if !d then(kf a 1 b).bind fun e=>some (!e) else some false).bind fun f=>if f then some ([]:List (List Int)) else(ge c).bind fun g=>jG (fun(h:List (List Int))=>some h) fun i=>qb b a g i xI ([]:List (List Int)) 0
theorem rj(Z:Zp)(x:Option Addr)(y:Nat)(z:Option Addr)(D:Nat)(E:Option Addr)(F:Nat)(G:Option Addr)(H:Nat)(I:Option Addr)(J:Nat)(K:Option Addr)(L:Nat)(M:Option Addr)(N:Nat)(O:Option Addr)(P:Nat)(Q:Option Addr)(R:Nat)(ag:Option Addr)(ah:Nat)(a:zt)(o:List (List zd))(S:List yl)(r:List (List Int))(h:qZ a o S=some r)(w₀:World)(hz:PZ [] w₀ Z)(T:ZS Z 4 (ju Z) x y a.fM)(V:ZS Z 4 (kv Z) z D a.yd)(W:ZS Z 4 (rq qJ) E F a.fS)(X:ZS Z 4 (rq qt) G H a.fK)(Y:ZS Z 7 (vK Z) I J a.yb)(aa:ZS Z 5 (rq kK) K L a.fH)(ad:ZS Z 3 (kw Z) M N a.fU)(ae:ZS Z 4 (rq kL) O P a.yc)(af:ZS Z 1 (wT Z) Q R o)(aH:ZS Z 4 (rq wP) ag ah S):
  Calls Tryz.prog 14 #[.agg #[vs x a.fM.length y,vs z a.yd.length D,vs E a.fS.length F,vs G a.fK.length H,vs I a.yb.length J,vs K a.fH.length L,vs M a.fU.length N,vs O a.yc.length P],vs Q o.length R,vs ag S.length ah] w₀ fun e w'=>∃ Zn:Zp,∃ ai:Option Addr,∃ aj:Nat,∃ ak:List Value,e = .returned (vs ai r.length aj)/\(RR 1 (iO (Z++Zn)) ak r)/\Hp [] w₀ w' [fz Zn,row (vs ai r.length aj) 50 1 ak]:=by
 unfold qZ at h
 refine Kc func14 ntmps14 ?_
 let A:List Value:=[vs x a.fM.length y,vs z a.yd.length D,vs E a.fS.length F,vs G a.fK.length H,vs I a.yb.length J,vs K a.fH.length L,vs M a.fU.length N,vs O a.yc.length P];refine WC.pool<|B0q<|Lg 3 (xP (cs:=A) U U) ?_
 intro al _
 refine Q1n U<|WC.b<|WC.b<|bK h fun aY aI h=>bK h fun aJ am h=>Ld<|Le 11 (xq z2j U (xt .here) U)<|La U<|Lm 13 (zf call22<|.r3 U U U) .nil (jH hz .nil .h1 fun w pz ho=>uo _ _ _ _ _ _ _ _ _ _ _ _ _ _ _ _ _ _ _ _ _ _ _ aI w pz ((T.mono<|zl).weak (fun _ _ h=>w3 zl h)) ((V.mono<|zl).weak (fun _ _ h=>w9 zl h)) (W.mono<|zl) (X.mono<|zl) ((Y.mono<|zl).weak (fun _ _ h=>wh zl h)) (aa.mono<|zl) ((ad.mono<|zl).weak (fun _ _ h=>wa zl h)) (ae.mono<|zl)<|(af.mono<|zl).weak (fun _ _ h=>wd zl h))<|Q2q U<|Ly true 4 15 (B:=aJ) U U U U U U (fun h=>(oJ<|qr am h).symm) (fun _ aK=>?_) ?_
 ·have u:=qq am aK
  obtain⟨aZ,aL,u⟩:=ze u
  replace u:=oJ u
  exact Le 16 (xq z2j U (xt .here) U)<|La U<|Lm 18 (zf call22<|.r3 U U U) .nil (jH hz .nil .h1 fun w pz ho=>uo _ _ _ _ _ _ _ _ _ _ _ _ _ _ _ _ _ _ _ _ _ _ _ aL w pz ((T.mono<|zl).weak (fun _ _ h=>w3 zl h)) ((V.mono<|zl).weak (fun _ _ h=>w9 zl h)) (W.mono<|zl) (X.mono<|zl) ((Y.mono<|zl).weak (fun _ _ h=>wh zl h)) (aa.mono<|zl) ((ad.mono<|zl).weak (fun _ _ h=>wa zl h)) (ae.mono<|zl)<|(af.mono<|zl).weak (fun _ _ h=>wd zl h))<|Q2q U<|Lz u U U .all
 refine Q0n<|Lj U h (fun aM h=>?_)<|fun aM h=>?_
 ·refine B1n U<|WC.ret<|Ll<|WX.nilRow 50 1 ?_
  obtain rfl:=oJ h
  exact Lh results14 (.tmp U .nil)<|fun w hw=>⟨[],none,0,[],xK U,RR.nil _ _,hw.sub (.s2 .h2 .here)⟩
 ·refine WC.skip<|Lb<|WC.b<|bK h fun an aN h=>D1q U<|WL.iv (dd:=22) U U U (zf call36<|.cons U .nil) .nil (jH hz .nil .h1 fun w pz ho=>bO _ _ _ _ _ aN w pz<|aH.mono<|zl) ?_
  rintro ao _
  refine Q1n U<|B1n U<|jK1 h fun ap aO h=>WC.rL (fun(g:List (List Int)) (i:Zp) (p:Option Addr) (q:Nat) (s:List Value)=>(ap g=some r)/\(xm (Z++[]) (Z++i))/\(RR 1 (iO (Z++i)) s g)) (fun g i p q s=>[(8,vs p g.length q)]) (fun g i p q s=>[fz i,row (vs p g.length q) 50 1 s]) ?_ ?_
  ·refine B1q U<|Le 24 (xQ underlying32 U)<|Q1n U<|WC.block<|WC.nilRow 50 1<|WC.nF (fun(t:Nat) (c:List (List Int)) (j:Int) (d:Zp) (k:Option Addr) (m:Nat) (f:List Value)=>(qb o a an ap t c j=some r)/\(xm (Z++[]) (Z++d))/\(RR 1 (iO (Z++d)) f c)) (fun t c j d k m f=>[(3,vp al),(7,(.map<|some ao)),(8,vs k c.length m),(23,vs Q o.length R),(24,vi (o.length:Int)),(25,vi j)]) (fun t c j d k m f=>[fz d,row (vs k c.length m) 50 1 f,stb al 31 A,xy ao (ga vo) vI an]) (fun t c j d k m f=>t) ⟨xI,([]:List (List Int)),0,[],none,0,[]⟩ ⟨h,xm.refl _,RR.nil _ _⟩ (.q U) (.s4 .h3 .here .h1 .here) ?_
   rintro t c j d k m f ⟨h,b,aq⟩
   obtain⟨aP,rfl⟩:=rx h
   rw[qb] at h
   refine B1n U<|WC.b<|Lj U h (fun aQ h=>?_)<|fun aQ h=>?_
   ·refine WC.skip<|Lb<|WC.b<|WC.block<|WC.b<|cK h fun ax h=>Ld<|L2 (dd:=27) U U (Z:=(Z++d)) (Pr:=(wT (Z++d))) z4O U U ((af.mono<|zl.trans b).weak (fun _ _ h=>wd (zl.trans b) h)) ax ?_
    rintro aR aS ay aT ⟨aU,aV,rfl,az⟩
    refine Le 28 (xl z9h U<|jS (hz.pv2 .here) ay U)<|Q1n U<|bK h fun n aA h=>cK h fun aB h=>D1q U<|Le 30 (xq z2j U (xt .h2) U)<|Q2q U<|WL.kY (dd:=33) U U U (zf call37<|.r3 U U U) (.cons .h3 .nil) (jH hz (.cons .h3 .nil) .here fun w pz ho=>go _ _ _ _ _ _ _ _ _ _ _ _ _ _ _ _ _ _ _ _ _ _ _ _ aA w pz ((T.mono<|zl.trans b).weak (fun _ _ h=>w3 (zl.trans b) h)) ((V.mono<|zl.trans b).weak (fun _ _ h=>w9 (zl.trans b) h)) (W.mono<|zl.trans b) (X.mono<|zl.trans b) ((Y.mono<|zl.trans b).weak (fun _ _ h=>wh (zl.trans b) h)) (aa.mono<|zl.trans b) ((ad.mono<|zl.trans b).weak (fun _ _ h=>wa (zl.trans b) h)) (ae.mono<|zl.trans b) az ho) ?_
    rintro ar au _
    refine WL.freezeS (ls:=n) .here .h1 hz (RR.flat (enc:=e3) (fun _=>U) _) ?_
    intro v av aC
    let C:List Value:=[vs ar n.length au];have aw:RR 1 (iO (Z++v)) C ([n]:List (List Int)):=(RR.cons (r:=C) U (show iO _ _ _ from⟨_,_,U,aC⟩) (RR.nil _ _))
    refine Lg 34 (xV (cs:=[vs ar n.length au]) zt0 (Lq (l:=[.tmp 33]) (.cons U .nil) [0]) (fun _=>by kernel_rfl) U (by unfold maxLen;omega)) ?_
    intro aW _
    have aD:RR 1 (iO (Z++v)) (f++C) (c++([n]:List (List Int))):=RR.app (aq.weak (fun _ _ h=>ab av h)) aw
    refine WL.fA 35 (uC (l1:=c) (l2:=([n]:List (List Int))) (news:=C) (Pr:=(iO (Z++v))) zt0 U U .h3 aw (qg .here) (ua U tm) aB) ?_
    rintro⟨aE,aF⟩ _
    exact La U<|WL.nil<|Lu<|Lb<|D2q U<|WL.nil<|WX.round ⟨aP,c++([n]:List (List Int)),i64 (j+1),v,aE,aF,f++C⟩ ⟨h,b.trans av,aD⟩ (Nat.lt_succ_self _) (.q U)<|.s4 .h2 .here .h2 .h1
   ·exact WC.exit<|Ln<|Ln<|Lx<|Lp ⟨c,d,k,m,f⟩ ⟨h,b,aq⟩ (.cons U .nil)<|.a2
  ·rintro g i p q s ⟨h,aX,aG⟩
   replace h:=(aO g).symm.trans h
   refine B2n U<|WC.ret ?_
   obtain rfl:=oJ h
   exact Lh results14 (.tmp U .nil)<|fun w hw=>⟨i,p,q,s,xK U,aG,hw.sub (.a2)⟩
end Go.Proofs.YthjnhebofpebpaaGreat

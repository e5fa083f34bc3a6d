/- A part of this claim's proof: models of functions, walks, plain laws. No conditions. -/
import Derived.Test.YthjnhebofpebpaaGreatW36f
set_option linter.all false
namespace Go.Proofs.YthjnhebofpebpaaGreat
open Go Go.RowKit Sep Tryz
variable {f:Int}{g:List (List za)}{i:zi}
set_option maxRecDepth 30000
set_option maxHeartbeats 4000000
def uE(c:zi)(wide:List (Int×Int))(q:Int×List (Int->Option Int))(y0:Int):Option Int:=gB y0 q.1 q.2 wide c
def je(c:List (List za))(j:z7)(b:zi)(l:List (z7×Int))(m:Int->(List (Int×List (Int->Option Int)))->(List (Int×Int))->Option (List (Int->Option Int)×Int)):Nat->Int->Int->(List (Int×List (Int->Option Int)))->(List (Int×Int))->Option (List (Int->Option Int)×Int)
 | 0,_,_,_,_=>none
 | p+1,k,a,d,g=>if decide (a<c.length) then Yp (fun(q:Int) (r:List (Int×List (Int->Option Int))) (s:List (Int×Int))=>je c j b l m p q (i64 (a+1)) r s) fun n=>chk (0<=a/\a<c.length) ((wr (nth c a) (fun(y0:za)=>gC y0 j)).bind fun e=>if decide (e<0) then n k d g else chk (0<=a/\a<b.yd.length) ((gE b (nth c a) l).bind fun h=>chk (0<=e/\e<h.length) (vk (fun(f:Int)=>chk (((((xx d f [])++([(fun(y0:Int)=>wL y0 (⟨(nth b.yd a).yq,(⟨((nth b.yd a).yi).yp,((nth b.yd a).yi).yt,((nth b.yd a).yi).yu⟩:yv),(nth b.yd a).yo,(nth b.yd a).yn,(nth b.yd a).yy⟩:ym) (nth h e))]:List (Int->Option Int))).length:Nat):Int)*8<=140737488355328/\((((xx d f [])++([(fun(y0:Int)=>wL y0 (⟨(nth b.yd a).yq,(⟨((nth b.yd a).yi).yp,((nth b.yd a).yi).yt,((nth b.yd a).yi).yu⟩:yv),(nth b.yd a).yo,(nth b.yd a).yn,(nth b.yd a).yy⟩:ym) (nth h e))]:List (Int->Option Int))).length:Nat):Int)<=4611686018427387904) (n (max k ((nth b.yd a).yn)) (xT d f ((xx d f [])++([(fun(y0:Int)=>wL y0 (⟨(nth b.yd a).yq,(⟨((nth b.yd a).yi).yp,((nth b.yd a).yi).yt,((nth b.yd a).yi).yu⟩:yv),(nth b.yd a).yo,(nth b.yd a).yn,(nth b.yd a).yy⟩:ym) (nth h e))]:List (Int->Option Int)))) (xT g f (max (xx g f 0) ((nth b.yd a).yn))))) fun o=>(wr (nth c a) (fun(y0:za)=>gF y0 j)).bind fun i=>if decide (i>=0) then chk (0<=i/\i<((nth c a).length:Int)) (o ((nth (nth c a) i).fQ)) else o (-1)))) else m k d g
theorem ob{n:Nat}{a:z7}{b:List (z7×Int)}{c:Int->(List (Int×List (Int->Option Int)))->(List (Int×Int))->Option (List (Int->Option Int)×Int)}{j:Int}{d:List (Int×List (Int->Option Int))}{e:List (Int×Int)}{r:(List (Int->Option Int)×Int)}(h:je g a i b c n f j d e=some r):∃ m,n=m+1:=by
 cases n with
 | zero=>cases h
 | succ m=>exact⟨m,rfl⟩
def g6(b:zi)(c:List (List za))(d:z7)(e:List (z7×Int)):Option (List (Int->Option Int)×Int):=
 Yp (fun(f:Int) (a:List (Int×List (Int->Option Int))) (g:List (Int×Int))=>chk (a.length*8<=140737488355328/\a.length<=4611686018427387904) (some (a.map (uE b g),f))) fun h=>je c d b e h xC 0 0 ([]:List (Int×List (Int->Option Int))) ([]:List (Int×Int))
theorem bY(Z:Zp)(aM:Option Addr)(aN:Nat)(aO:Option Addr)(aP:Nat)(aQ:Option Addr)(aR:Nat)(aS:Option Addr)(aT:Nat)(aU:Option Addr)(aV:Nat)(aW:Option Addr)(aX:Nat)(aY:Option Addr)(aZ:Nat)(a0:Option Addr)(a1:Nat)(ba:Option Addr)(bb:Nat)(p:Nat)(a:zi)(an:List (List za))(ap:z7)(ag:List (z7×Int))(r:(List (Int->Option Int)×Int))(h:g6 a an ap ag=some r)(w₀:World)(hz:Pz [xB p (ga vO) vI ag] w₀ Z)(aC:ZS Z 4 (vU Z) aM aN a.fM)(aD:ZS Z 4 (qr Z) aO aP a.yc)(aE:ZS Z 4 (rq jm) aQ aR a.fS)(aF:ZS Z 4 (rq qm) aS aT a.fK)(aA:ZS Z 7 (qK Z) aU aV a.yd)(aG:ZS Z 5 (rq qI) aW aX a.fH)(aH:ZS Z 3 (qs Z) aY aZ a.fU)(aI:ZS Z 4 (rq qJ) a0 a1 a.yb)(bq:ZS Z 1 (qt Z) ba bb an)(iq:Ho w₀ [xB p (ga vO) vI ag]):
  Calls Tryz.prog 53 #[.agg #[vs aM a.fM.length aN,vs aO a.yc.length aP,vs aQ a.fS.length aR,vs aS a.fK.length aT,vs aU a.yd.length aV,vs aW a.fH.length aX,vs aY a.fU.length aZ,vs a0 a.yb.length a1],vs ba an.length bb,.agg #[vi ap.ya,vi ap.fQ],.map (some p)] w₀ fun e w'=>∃ Zn:Zp,∃ DT:Option Addr,∃ Bv:Nat,e = .returned (.tuple #[vs DT r.1.length Bv,vi r.2])/\(ad (Z++Zn) (mS (Z++Zn)) DT Bv r.1)/\Hp (fps [xB p (ga vO) vI ag]) w₀ w' [fz Zn,xB p (ga vO) vI ag]:=by
 unfold g6 at h
 refine Calls.tg func53 ntmps53 iq ?_
 let Q:Value:=(vs aU a.yd.length aV);let V:Value:=(vs aM a.fM.length aN);let W:Value:=(vs aO a.yc.length aP);let X:Value:=(vs aQ a.fS.length aR);let Y:Value:=(vs aS a.fK.length aT);let Aa:Value:=(vs aW a.fH.length aX);let Ab:Value:=(vs aY a.fU.length aZ);let Ac:Value:=(vs a0 a.yb.length a1);let A:List Value:=[V,W,X,Y,Q,Aa,Ab,Ac];refine WC.pool<|B0q<|Lg 4 (xO (cs:=A) U U) ?_
 intro q _
 let H:List Value:=[vi ap.ya,vi ap.fQ];refine Lg 6 (xO (cs:=H) U U) ?_
 intro ab _
 refine Q2n U<|WC.b<|Ld (Lg 23 (jN vI<|slv (α:=Value)) fun B _=>WL.ghL (M:=[qq (qa 201 1 gf) ([]:List (Int×((Nat×(Option Addr×Nat))×List Value))),xB B vI slv (qX ([]:List (Int×((Nat×(Option Addr×Nat))×List Value)))),stb ab 94 H,stb q 31 A,fz [],xB p (ga vO) vI ag]) (fun _ h=>Hp.nY (qa 201 1 gf) h)<|Q1n U<|WC.b<|Ld (Lg 24 (jN vI<|Value.int .i64) fun t _=>Lg 11 (xG (cs:=[.map none]) zWy U) fun s _=>Lo U U (xz zWz U U U .here U U U)<|Q0n<|B1n U ?_))
 refine jK3 h fun bh br h=>WC.sH (fun(a2:Int) (a3:List (Int×List (Int->Option Int))) (a4:List (Int×Int)) (aJ:Zp) (aK:List (Int×((Nat×(Option Addr×Nat))×List Value)))=>(bh a2 a3 a4=some r)/\(xm (Z++[]) (Z++aJ))/\(RM (mS (Z++aJ)) (rO aK) a3)) (fun a2 a3 a4 aJ aK=>[(4,vp q),(10,(.map<|some B)),(11,vp s),(12,vi a2)]) (fun a2 a3 a4 aJ aK=>[fz aJ,stb q 31 A,xB B vI slv (qX aK),qq (qa 201 1 gf) aK,stb s 148 [(.map<|some t)],xB p (ga vO) vI ag,xB t vI vI a4]) ?_ ?_
 ·let I:Value:=(vs ba an.length bb);refine B1q U<|Le 26 (xK underlying32 U)<|Q1n U<|WC.block<|WC.nq (fun(aB:Nat) (ak:Int) (b:Int) (am:List (Int×List (Int->Option Int))) (ah:List (Int×Int)) (af:Zp) (z:List (Int×((Nat×(Option Addr×Nat))×List Value)))=>(je an ap a ag bh aB ak b am ah=some r)/\(xm (Z++[]) (Z++af))/\(RM (mS (Z++af)) (rO z) am)) (fun aB ak b am ah af z=>[(3,(.map<|some p)),(4,vp q),(6,vp ab),(10,(.map<|some B)),(11,vp s),(12,vi ak),(25,I),(26,vi (an.length:Int)),(27,vi b)]) (fun aB ak b am ah af z=>[fz af,xB p (ga vO) vI ag,stb q 31 A,stb ab 94 H,xB B vI slv (qX z),qq (qa 201 1 gf) z,stb s 148 [(.map<|some t)],xB t vI vI ah]) (fun aB ak b am ah af z=>aB) ⟨xC,0,0,([]:List (Int×List (Int->Option Int))),([]:List (Int×Int)),[],([]:List (Int×((Nat×(Option Addr×Nat))×List Value)))⟩ ⟨h,xm.refl _,RM.nil⟩ (.q U) (.s8 .h6 .h6 .h5 .h4 .h3 .h2 .here .here) ?_
  rintro aB ak b am ah af z ⟨h,o,a5⟩
  obtain⟨bW,rfl⟩:=ob h
  rw[je] at h
  refine B1n U<|WC.b<|Lk U h (fun bs h=>?_)<|fun bs h=>?_
  ·refine WC.skip<|Lb<|jK3 h fun bX bt h=>WC.sH (fun(aq:Int) (ar:List (Int×List (Int->Option Int))) (au:List (Int×Int)) (av:Zp) (aw:List (Int×((Nat×(Option Addr×Nat))×List Value)))=>(bX aq ar au=some r)/\(xm (Z++af) (Z++av))/\(RM (mS (Z++av)) (rO aw) ar)) (fun aq ar au av aw=>[(3,(.map<|some p)),(4,vp q),(6,vp ab),(10,(.map<|some B)),(11,vp s),(12,vi aq),(25,I),(26,vi (an.length:Int)),(27,vi b)]) (fun aq ar au av aw=>[fz av,xB p (ga vO) vI ag,stb q 31 A,stb ab 94 H,xB B vI slv (qX aw),qq (qa 201 1 gf) aw,stb s 148 [(.map<|some t)],xB t vI vI au]) ?_ ?_
   ·refine WC.block<|WC.b<|cK h fun bu h=>D1q U<|L0 (dd:=30) U U (Z:=(Z++af)) (Pr:=(qt (Z++af))) z3K U U ((bq.mono<|zl.trans o).weak (fun _ _ h=>wv (zl.trans o) h)) bu ?_
    rintro b5 b6 bv b7 ⟨bZ,b0,rfl,ax⟩
    refine Le 31 (xl z3q U<|q9 (hz.pv2 .here) bv U)<|Q2n U<|WC.b<|bK h fun ai bw h=>D1q U<|Le 33 (wC<|L8 (l:=[.tmp 6])<|.cons U .nil)<|Lp 34 (zb call94<|.r2 U U) .nil (py hz .nil .here (.cons .h3 .nil) fun w pz ho la=>qZ _ _ _ (zdb:=95) (zjk:=[vp ab]) _ (z9j:=(fun(y0:za)=>gC y0 ap)) _ bw w pz (ax.mono<|zl) call95<|fun w' iT y0  r  hr=>iZ _ _ _ _ _ hr w' iT<|(la _ (.head _) _).stb)<|Q1n U<|WC.b<|B2n U<|Lk U h (fun bx h=>?_)<|fun bx h=>?_
    ·exact WC.exit<|Lm<|Lv<|Ln ⟨ak,am,ah,af,z⟩ ⟨h,xm.refl _,a5⟩ (.q U)<|.a8
    ·refine WC.skip<|Lb<|WC.b<|cK h fun bz h=>bK h fun aa a6 h=>cK h fun al h=>Lz (fun i=>[8,14,15].contains i) [sq q 31 [(4,Q)],fz af] U<|Lf 0 37 U (xk ma U U)<|Mb 1 38 U (wB.wk (.s2 .h2 .here)<|.stb (.cons U .nil)<|.same .nil) (xl z9f U<|fZ .here<|.head _)<|Lf 2 39 U (q_m U)<|L2 (j:=3) (dd:=40) (by kernel_rfl) U zO zP U U (Z:=(Z++af)) (Pr:=(qK (Z++af))) zbT U U ((aA.mono<|zl.trans o).weak (fun _ _ h=>wi (zl.trans o) h)) bz ?_
     rintro b8 b9 bA ca ⟨b1,b2,rfl,bB⟩
     let E:Value:=(vs bZ ((nth an b).length) b0);let K:Value:=(vi (an.length:Int));let L:Value:=(vs b1 (((nth a.yd b).yy).length) b2);let N:Value:=(vi ((nth a.yd b).yo));let O:Value:=(vi ((nth a.yd b).yn));refine Mb 4 41 U (wB.wk (.s2 .h2 .here)<|.stb (.cons U .nil)<|.same .nil) (xw zx1 U (vQ (hz.pv2 .h1) bA) U)<|Lh 5 42 U (xw z1j U (xy .h2) U)<|Lf 6 43 U (q_m U)<|Lf 7 44 U (q_m U)<|Lf 9 46 U (q_m U)<|WD.pt (fuel':=0) (fun(c:Nat) (n:Nat) (f:Nat) (g:Nat)=>[(3,(.map<|some p)),(4,vp q),(6,vp ab),(10,(.map<|some B)),(11,vp s),(12,vi ak),(25,I),(26,K),(27,vi b),(14,E),(16,vp f),(17,vp g),(18,vi (-1))]) (fun(c:Nat) (n:Nat) (f:Nat) (g:Nat)=>[stb g 3 [(vi<|nth aa ai)],stb f 69 [(.string<|(nth a.yd b).yq),(.string<|((nth a.yd b).yi).yp),(.string<|((nth a.yd b).yi).yt),(.string<|((nth a.yd b).yi).yu),N,O,L],row (vs (some ⟨c,0,none⟩) aa.length n) 3 1 (aa.flatMap e3),xB p (ga vO) vI ag,fz af,stb q 31 A,stb ab 94 H,xB B vI slv (qX z),qq (qa 201 1 gf) z,stb s 148 [(.map<|some t)],xB t vI vI ah]) (fun(c:Nat) (n:Nat) (f:Nat) (g:Nat)=>True) (wl 17 [16,15,11,14,13,12,10,8,9,7,6,5,4,3,2,1,0]) ?_<|fun bC=>?_
     ·rintro c n f g _
      refine WD.done (by kernel_rfl)<|Lb<|jK1 h fun b3 bD h=>Ma (fun(aj:Int)=>(b3 aj=some r)) (fun aj=>[(3,(.map<|some p)),(4,vp q),(6,vp ab),(10,(.map<|some B)),(11,vp s),(12,vi ak),(16,vp f),(17,vp g),(18,vi aj),(25,I),(26,K),(27,vi b)]) (fun aj=>[fz af,xB p (ga vO) vI ag,stb q 31 A,stb ab 94 H,xB B vI slv (qX z),qq (qa 201 1 gf) z,stb s 148 [(.map<|some t)],stb f 69 [(.string<|(nth a.yd b).yq),(.string<|((nth a.yd b).yi).yp),(.string<|((nth a.yd b).yi).yt),(.string<|((nth a.yd b).yi).yu),N,O,L],stb g 3 [(vi<|nth aa ai)],xB t vI vI ah]) ?_ ?_
      ·refine WC.b<|bK h fun b4 bE h=>D1q U<|Le 50 (wC<|L8 (l:=[.tmp 6])<|.cons U .nil)<|Lp 51 (zb call94<|.r2 U U) .nil (py hz .nil .h4 (.cons .h6 .nil) fun w pz ho la=>qZ _ _ _ (zdb:=96) (zjk:=[vp ab]) _ (z9j:=(fun(y0:za)=>gF y0 ap)) _ bE w pz (ax.mono<|zl) call96<|fun w' iT y0  r  hr=>c0 _ _ _ _ _ hr w' iT<|(la _ (.head _) _).stb)<|Q1n U<|B2n U<|Lk U h (fun bF h=>?_)<|fun bF h=>?_
       ·refine cK h fun bG h=>D2q U<|L0 (dd:=56) U U (Z:=(Z++af)) (Pr:=(rq vw)) z1v U U ax bG ?_
        rintro cb cc bH cd rfl
        exact Le 57 (xk kz U U)<|Le 58 (xl xu U<|xM (hz.pv2 .h4) bH U)<|La U<|WL.nil<|Ln ((nth (nth an b) b4).fQ) h (.q U)<|.s10 .h4 .h3 .h3 .h3 .h3 .h3 .h3 .h1 .here .h1
       ·exact WC.skip<|Ln (-1) h (.q U)<|.s10 .h4 .h3 .h3 .h3 .h3 .h3 .h3 .h1 .here .h1
      ·rintro aj h
       replace h:=(bD aj).symm.trans h
       refine WC.b<|cK h fun bI h=>Ld<|La U<|La U<|La U<|La U<|Le 63 (j8 (k:=aj) (dflt:=(((none,0),[]):(Option Addr×Nat)×List Value)) kG underlying198 zMF U U U .h4)<|WL.gh (fun _ h=>Hp.Qk aj a5 .h5 h) ?_
       rintro⟨⟨bJ,bL⟩,aL⟩ ⟨bM,bi⟩
       refine Mh (i:=63) U (u:=(vs bJ ((xx am aj []).length) bL)) ((congrArg slv bM).trans (RR.slv bi)) (WL.freezeC (Z:=Z) (.there .h7) .h2 fun ce a7 bc=>WL.freezeC (Z:=Z) (.there .h7) .here ?_)
       intro ay az bN
       let J:List Value:=[.func (.func 97) #[] #[vp f,vp g]];have bO:mS (Z++ay) J (fun(y0:Int)=>wL y0 (⟨(nth a.yd b).yq,(⟨((nth a.yd b).yi).yp,((nth a.yd b).yi).yt,((nth a.yd b).yi).yu⟩:yv),(nth a.yd b).yo,(nth a.yd b).yn,(nth a.yd b).yy⟩:ym) (nth aa ai)):=⟨97,[vp f,vp g],U,call97,(fun w' iT y0 r hr=>c4 _ _ _ _ _ _ _ _ _ hr w' iT (bB.mono (a7.trans az)) (bc.mono az) bN)⟩
       refine Le 64 (wC<|L8 (l:=[.tmp 16,.tmp 17])<|.r2 U U) ?_
       have bj:RR 1 (mS (Z++ay)) J ([(fun(y0:Int)=>wL y0 (⟨(nth a.yd b).yq,(⟨((nth a.yd b).yi).yp,((nth a.yd b).yi).yt,((nth a.yd b).yi).yu⟩:yv),(nth a.yd b).yo,(nth a.yd b).yn,(nth a.yd b).yy⟩:ym) (nth aa ai))]:List (Int->Option Int)):=(RR.cons (r:=J) U bO (RR.nil _ _))
       refine Lg 65 (xU (cs:=[.func (.func 97) #[] #[vp f,vp g]]) ztm (Lq (l:=[.tmp 64]) (.cons U .nil) [0]) (fun _=>by kernel_rfl) U (by unfold maxLen;omega)) ?_
       intro bP _
       have bd:RR 1 (mS (Z++ay)) (aL++J) ((xx am aj [])++([(fun(y0:Int)=>wL y0 (⟨(nth a.yd b).yq,(⟨((nth a.yd b).yi).yp,((nth a.yd b).yi).yt,((nth a.yd b).yi).yu⟩:yv),(nth a.yd b).yo,(nth a.yd b).yn,(nth a.yd b).yy⟩:ym) (nth aa ai))]:List (Int->Option Int))):=RR.app (bi.weak (fun _ _ h=>ug (a7.trans az) h)) bj
       refine WL.fA 66 (sn (l1:=xx am aj []) (l2:=([(fun(y0:Int)=>wL y0 (⟨(nth a.yd b).yq,(⟨((nth a.yd b).yi).yp,((nth a.yd b).yi).yt,((nth a.yd b).yi).yu⟩:yv),(nth a.yd b).yo,(nth a.yd b).yn,(nth a.yd b).yy⟩:ym)<|nth aa ai)]:List (Int->Option Int))) (news:=J) (Pr:=(mS (Z++ay))) ztm U U .h2 bj (vL .here) (oW U iL) bI) ?_
       rintro⟨a8,a9⟩ _
       exact Lo U U (kw (k:=aj) (v:=(((a8,a9),aL++J):(Option Addr×Nat)×List Value)) kG underlying198 U U U (RR.slv bd).symm .h7)<|WL.ghL (fun _ h=>Hp.V5 (k:=aj) (RR.len1 bd) (.s2 .h1 .h3) h)<|WL.ghL (M:=[xB B vI slv (qX<|xT z aj ((0,(a8,a9)),aL++J)),qq (qa 201 1 gf) (xT z aj ((0,(a8,a9)),aL++J)),row (vs (some ⟨bP,0,none⟩) (([(fun(y0:Int)=>wL y0 (⟨(nth a.yd b).yq,(⟨((nth a.yd b).yi).yp,((nth a.yd b).yi).yt,((nth a.yd b).yi).yu⟩:yv),(nth a.yd b).yo,(nth a.yd b).yn,(nth a.yd b).yy⟩:ym)<|nth aa ai)]:List (Int->Option Int)).length) 1) 201 1 J,fz ay,xB p (ga vO) vI ag,stb q 31 A,stb ab 94 H,stb s 148 [(.map<|some t)],xB t vI vI ah]) (fun _ h=>Hp.XD .h1 (dt _ _ _ _).symm h)<|Q0n<|Lz (fun i=>[12].contains i) [fz ay] U<|Lh 0 67 U (xl zC7 U<|xt .h7 U)<|Lf 1 68 U (q_m U)<|Lh 2 69 U (xl zC7 U<|xt .h7 U)<|Lf 3 70 U (q_m U)<|Lh 4 71 U (j8 (k:=aj) (dflt:=(0:Int)) kG underlying148 qS U U U<|.there .h7)<|Lf 5 72 U (xk mY U U)<|Lh 6 73 U (xl xu U<|xM (hz.pv2 .h3) (bc.mono az) U)<|Lf 7 74 U (cB U U U)<|Lf 8 75 U (q_m U)<|Lf 9 76 U (xk mY U U)<|Mb 10 77 U (wB.of<|.cons .h3 .nil) (xl xu U<|xM (hz.pv2 .here) (bc.mono az) U)<|Lf 11 78 U (cB U U U)<|WD.forced0 (i:=12) U (by kernel_rfl) U U U (wB.of<|.cons .h4 .nil) (kw (k:=aj) (v:=max (xx ah aj 0) ((nth a.yd b).yn)) kG underlying148 U U U U<|.there .h7)<|Lf 13 12 U (q_z U)<|WD.done (by kernel_rfl)<|Lt<|Ln ⟨(max ak<|(nth a.yd b).yn),xT am aj ((xx am aj [])++([(fun(y0:Int)=>wL y0 (⟨(nth a.yd b).yq,(⟨((nth a.yd b).yi).yp,((nth a.yd b).yi).yt,((nth a.yd b).yi).yu⟩:yv),(nth a.yd b).yo,(nth a.yd b).yn,(nth a.yd b).yy⟩:ym)<|nth aa ai)]:List (Int->Option Int))),(xT ah aj<|max (xx ah aj 0)<|(nth a.yd b).yn),ay,xT z aj ((0,(a8,a9)),aL++J)⟩ ⟨h,a7.trans az,RM.putD (a5.weak<|fun _ _ h=>ug (a7.trans az) h) aj bd⟩ (.q U)<|.s8 .h4 .h4 .h4 .h4 .h1 .h1 .h2 .here
     let R:Value:=(.string (((nth a.yd b).yi).yp));let S:Value:=(.string (((nth a.yd b).yi).yt));let T:Value:=(.string (((nth a.yd b).yi).yu));let Ad:Value:=(.string ((nth a.yd b).yq));refine WD.pt (fuel':=2) (fun(c:Nat) (n:Nat) (f:Nat) (g:Nat)=>[(3,(.map<|some p)),(4,vp q),(6,vp ab),(10,(.map<|some B)),(11,vp s),(12,vi ak),(25,I),(26,K),(27,vi b),(14,E),(16,vp f),(17,vp g),(48,(vi<|nth aa ai))]) (fun(c:Nat) (n:Nat) (f:Nat) (g:Nat)=>[stb f 69 [Ad,R,S,T,N,O,L],stb g 3 [vi 0],row (vs (some ⟨c,0,none⟩) aa.length n) 3 1 (aa.flatMap e3),xB p (ga vO) vI ag,fz af,stb q 31 A,stb ab 94 H,xB B vI slv (qX z),qq (qa 201 1 gf) z,stb s 148 [(.map<|some t)],xB t vI vI ah]) (fun(c:Nat) (n:Nat) (f:Nat) (g:Nat)=>True) (wl 17 [11,14,13,12,10,8,9,7,6,5,4,3,2,1,0]) ?_<|fun bk=>?_
     ·rintro c n f g _
      exact WD.forced0 (i:=15) U (by kernel_rfl) U U U (wB.wk (.s2 .h5 .h4)<|.stb (.cons U .nil)<|.same .nil) (xz rf U U U .h1 U U U)<|Lf 16 18 U (q_z U)<|Lw (.a11) (.q U)<|bC c n f g trivial
     let C:Value:=(.agg #[Ad,R,S,T,N,O,L]);let D:List Value:=[.string ⟨#[]⟩,.string ⟨#[]⟩,.string ⟨#[]⟩,.string ⟨#[]⟩,vi 0,vi 0,vn];refine WD.pt (fuel':=3) (fun(c:Nat) (n:Nat) (f:Nat) (g:Nat)=>[(3,(.map<|some p)),(4,vp q),(6,vp ab),(10,(.map<|some B)),(11,vp s),(12,vi ak),(25,I),(26,K),(27,vi b),(14,E),(41,C),(48,(vi<|nth aa ai)),(16,vp f),(17,vp g)]) (fun(c:Nat) (n:Nat) (f:Nat) (g:Nat)=>[stb g 3 [vi 0],stb f 69 D,row (vs (some ⟨c,0,none⟩) aa.length n) 3 1 (aa.flatMap e3),xB p (ga vO) vI ag,fz af,stb q 31 A,stb ab 94 H,xB B vI slv (qX z),qq (qa 201 1 gf) z,stb s 148 [(.map<|some t)],xB t vI vI ah]) (fun(c:Nat) (n:Nat) (f:Nat) (g:Nat)=>True) (wl 17 [13,12,11,10,8,9,7,6,5,4,3,2,1,0]) ?_<|fun be=>?_
     ·rintro c n f g _
      exact WD.forced0 (i:=14) U (by kernel_rfl) U U U (wB.wk (.s2 .h5 .h4)<|.stb (.cons U .nil)<|.same .nil) (xz zME U U U .h1 U U U)<|Lw (.a11) (.q U)<|bk c n f g trivial
     refine WD.pr (fuel':=4) (fun(c:Nat) (n:Nat) (f:Nat)=>[(3,(.map<|some p)),(4,vp q),(6,vp ab),(10,(.map<|some B)),(11,vp s),(12,vi ak),(25,I),(26,K),(27,vi b),(14,E),(41,C),(48,(vi<|nth aa ai)),(16,vp f)]) (fun(c:Nat) (n:Nat) (f:Nat)=>[stb f 69 D,row (vs (some ⟨c,0,none⟩) aa.length n) 3 1 (aa.flatMap e3),xB p (ga vO) vI ag,fz af,stb q 31 A,stb ab 94 H,xB B vI slv (qX z),qq (qa 201 1 gf) z,stb s 148 [(.map<|some t)],xB t vI vI ah]) (fun(c:Nat) (n:Nat) (f:Nat)=>True) (wl 17 [12,11,10,8,9,7,6,5,4,3,2,1,0]) ?_<|fun bl=>?_
     ·rintro c n f _
      refine WD.new (i:=13) (dd:=17) U (by kernel_rfl) U U U (xG (cs:=[vi 0]) qS U) (fun h'=>absurd h' (by decide)) fun g _=>Lw (.a11) (.q U)<|be c n f g trivial
     refine WD.pr (fuel':=4) (fun(c:Nat) (n:Nat) (g:Nat)=>[(3,(.map<|some p)),(4,vp q),(6,vp ab),(10,(.map<|some B)),(11,vp s),(12,vi ak),(25,I),(26,K),(27,vi b),(14,E),(41,C),(48,(vi<|nth aa ai)),(17,vp g)]) (fun(c:Nat) (n:Nat) (g:Nat)=>[stb g 3 [vi 0],row (vs (some ⟨c,0,none⟩) aa.length n) 3 1 (aa.flatMap e3),xB p (ga vO) vI ag,fz af,stb q 31 A,stb ab 94 H,xB B vI slv (qX z),qq (qa 201 1 gf) z,stb s 148 [(.map<|some t)],xB t vI vI ah]) (fun(c:Nat) (n:Nat) (g:Nat)=>True) (wl 17 [13,11,10,8,9,7,6,5,4,3,2,1,0]) ?_<|fun bm=>?_
     ·rintro c n g _
      refine WD.new (i:=12) (dd:=16) U (by kernel_rfl) U U U (xG (cs:=D) zoe U) (fun h'=>absurd h' (by decide)) fun f _=>Lw (.s11 .h1 .here .here .here .here .here .here .here .here .here .here) (.q U)<|be c n f g trivial
     refine WD.pt (fuel':=4) (fun(c:Nat) (n:Nat) (f:Nat) (g:Nat)=>[(3,(.map<|some p)),(4,vp q),(6,vp ab),(10,(.map<|some B)),(11,vp s),(12,vi ak),(25,I),(26,K),(27,vi b),(14,E),(41,C),(47,(.pointer<|some ⟨c,(ai:Int).toNat*1,none⟩)),(16,vp f),(17,vp g)]) (fun(c:Nat) (n:Nat) (f:Nat) (g:Nat)=>[stb g 3 [vi 0],stb f 69 D,row (vs (some ⟨c,0,none⟩) aa.length n) 3 1 (aa.flatMap e3),xB p (ga vO) vI ag,fz af,stb q 31 A,stb ab 94 H,xB B vI slv (qX z),qq (qa 201 1 gf) z,stb s 148 [(.map<|some t)],xB t vI vI ah]) (fun(c:Nat) (n:Nat) (f:Nat) (g:Nat)=>True) (wl 17 [13,12,10,8,9,7,6,5,4,3,2,1,0]) ?_<|fun bf=>?_
     ·rintro c n f g _
      refine WD.choose [11,14] (by kernel_rfl) U<|wF.cons ?_<|wF.cons ?_<|wF.nil
      ·exact wF.quiet (i:=11) (d:=48) U U U U (fun h'=>absurd h' (by decide)) (xl xu U<|gq .h2<|(vt (enc:=e3) (l:=aa) (i:=ai) (sz:=1) (fun _=>U) al.1 al.2) 0 _ U)<|Lw (.a11) (.q U)<|be c n f g trivial
      ·exact wF.forced0 (i:=14) U U U U (wB.wk (.s2 .h5 .h4)<|.stb (.cons U .nil)<|.same .nil) (xz zME U U U .h1 U U U)<|Lh 11 48 U (xl xu U<|gq .h2<|(vt (enc:=e3) (l:=aa) (i:=ai) (sz:=1) (fun _=>U) al.1 al.2) 0 _ U)<|Lw (.a11) (.q U)<|bk c n f g trivial
     refine WD.l7 (fuel':=5) (fun(c:Nat) (n:Nat)=>[(3,(.map<|some p)),(4,vp q),(6,vp ab),(10,(.map<|some B)),(11,vp s),(12,vi ak),(25,I),(26,K),(27,vi b),(14,E),(41,C),(48,(vi<|nth aa ai))]) (fun(c:Nat) (n:Nat)=>[row (vs (some ⟨c,0,none⟩) aa.length n) 3 1 (aa.flatMap e3),xB p (ga vO) vI ag,fz af,stb q 31 A,stb ab 94 H,xB B vI slv (qX z),qq (qa 201 1 gf) z,stb s 148 [(.map<|some t)],xB t vI vI ah]) (fun(c:Nat) (n:Nat)=>True) (wl 17 [11,10,8,9,7,6,5,4,3,2,1,0]) ?_<|fun bQ=>?_
     ·rintro c n _
      refine WD.choose [12,13] (by kernel_rfl) U<|wF.cons ?_<|wF.cons ?_<|wF.nil
      ·refine wF.new (i:=12) (dd:=16) U U U U (xG (cs:=D) zoe U) (fun h'=>absurd h' (by decide)) fun f _=>Lw (.a10) (.q U)<|bl c n f trivial
      ·refine wF.new (i:=13) (dd:=17) U U U U (xG (cs:=[vi 0]) qS U) (fun h'=>absurd h' (by decide)) fun g _=>Lw (.a10) (.q U)<|bm c n g trivial
     refine WD.pr (fuel':=5) (fun(c:Nat) (n:Nat) (f:Nat)=>[(3,(.map<|some p)),(4,vp q),(6,vp ab),(10,(.map<|some B)),(11,vp s),(12,vi ak),(25,I),(26,K),(27,vi b),(14,E),(41,C),(47,(.pointer<|some ⟨c,(ai:Int).toNat*1,none⟩)),(16,vp f)]) (fun(c:Nat) (n:Nat) (f:Nat)=>[stb f 69 D,row (vs (some ⟨c,0,none⟩) aa.length n) 3 1 (aa.flatMap e3),xB p (ga vO) vI ag,fz af,stb q 31 A,stb ab 94 H,xB B vI slv (qX z),qq (qa 201 1 gf) z,stb s 148 [(.map<|some t)],xB t vI vI ah]) (fun(c:Nat) (n:Nat) (f:Nat)=>True) (wl 17 [12,10,8,9,7,6,5,4,3,2,1,0]) ?_<|fun bn=>?_
     ·rintro c n f _
      refine WD.choose [11,13] (by kernel_rfl) U<|wF.cons ?_<|wF.cons ?_<|wF.nil
      ·exact wF.quiet (i:=11) (d:=48) U U U U (fun h'=>absurd h' (by decide)) (xl xu U<|gq .h1<|(vt (enc:=e3) (l:=aa) (i:=ai) (sz:=1) (fun _=>U) al.1 al.2) 0 _ U)<|Lw (.a10) (.q U)<|bl c n f trivial
      ·refine wF.new (i:=13) (dd:=17) U U U U (xG (cs:=[vi 0]) qS U) (fun h'=>absurd h' (by decide)) fun g _=>Lw (.a11) (.q U)<|bf c n f g trivial
     refine WD.pr (fuel':=5) (fun(c:Nat) (n:Nat) (g:Nat)=>[(3,(.map<|some p)),(4,vp q),(6,vp ab),(10,(.map<|some B)),(11,vp s),(12,vi ak),(25,I),(26,K),(27,vi b),(14,E),(41,C),(47,(.pointer<|some ⟨c,(ai:Int).toNat*1,none⟩)),(17,vp g)]) (fun(c:Nat) (n:Nat) (g:Nat)=>[stb g 3 [vi 0],row (vs (some ⟨c,0,none⟩) aa.length n) 3 1 (aa.flatMap e3),xB p (ga vO) vI ag,fz af,stb q 31 A,stb ab 94 H,xB B vI slv (qX z),qq (qa 201 1 gf) z,stb s 148 [(.map<|some t)],xB t vI vI ah]) (fun(c:Nat) (n:Nat) (g:Nat)=>True) (wl 17 [13,10,8,9,7,6,5,4,3,2,1,0]) ?_<|fun bo=>?_
     ·rintro c n g _
      refine WD.choose [11,12] (by kernel_rfl) U<|wF.cons ?_<|wF.cons ?_<|wF.nil
      ·exact wF.quiet (i:=11) (d:=48) U U U U (fun h'=>absurd h' (by decide)) (xl xu U<|gq .h1<|(vt (enc:=e3) (l:=aa) (i:=ai) (sz:=1) (fun _=>U) al.1 al.2) 0 _ U)<|Lw (.a10) (.q U)<|bm c n g trivial
      ·refine wF.new (i:=12) (dd:=16) U U U U (xG (cs:=D) zoe U) (fun h'=>absurd h' (by decide)) fun f _=>Lw (.s11 .h1 .here .here .here .here .here .here .here .here .here .here) (.q U)<|bf c n f g trivial
     refine WD.l7 (fuel':=6) (fun(c:Nat) (n:Nat)=>[(3,(.map<|some p)),(4,vp q),(6,vp ab),(10,(.map<|some B)),(11,vp s),(12,vi ak),(25,I),(26,K),(27,vi b),(14,E),(41,C),(47,(.pointer<|some ⟨c,(ai:Int).toNat*1,none⟩))]) (fun(c:Nat) (n:Nat)=>[row (vs (some ⟨c,0,none⟩) aa.length n) 3 1 (aa.flatMap e3),xB p (ga vO) vI ag,fz af,stb q 31 A,stb ab 94 H,xB B vI slv (qX z),qq (qa 201 1 gf) z,stb s 148 [(.map<|some t)],xB t vI vI ah]) (fun(c:Nat) (n:Nat)=>True) (wl 17 [10,8,9,7,6,5,4,3,2,1,0]) ?_<|fun bR=>?_
     ·rintro c n _
      refine WD.choose [11,12,13] (by kernel_rfl) U<|wF.cons ?_<|wF.cons ?_<|wF.cons ?_<|wF.nil
      ·exact wF.quiet (i:=11) (d:=48) U U U U (fun h'=>absurd h' (by decide)) (xl xu U<|gq .here<|(vt (enc:=e3) (l:=aa) (i:=ai) (sz:=1) (fun _=>U) al.1 al.2) 0 _ U)<|Lw (.a9) (.q U)<|bQ c n trivial
      ·refine wF.new (i:=12) (dd:=16) U U U U (xG (cs:=D) zoe U) (fun h'=>absurd h' (by decide)) fun f _=>Lw (.a10) (.q U)<|bn c n f trivial
      ·refine wF.new (i:=13) (dd:=17) U U U U (xG (cs:=[vi 0]) qS U) (fun h'=>absurd h' (by decide)) fun g _=>Lw (.a10) (.q U)<|bo c n g trivial
     let F:Value:=(.agg #[V,W,X,Y,Q,Aa,Ab,Ac]);refine WD.l7 (fuel':=6) (fun(f:Nat) (g:Nat)=>[(3,(.map<|some p)),(4,vp q),(6,vp ab),(10,(.map<|some B)),(11,vp s),(12,vi ak),(25,I),(26,K),(27,vi b),(14,E),(41,C),(42,F),(43,E),(44,(.map<|some p)),(46,vi ai),(16,vp f),(17,vp g)]) (fun(f:Nat) (g:Nat)=>[stb g 3 [vi 0],stb f 69 D,fz af,xB p (ga vO) vI ag,stb q 31 A,stb ab 94 H,xB B vI slv (qX z),qq (qa 201 1 gf) z,stb s 148 [(.map<|some t)],xB t vI vI ah]) (fun(f:Nat) (g:Nat)=>True) (wl 17 [13,12,9,7,6,5,4,3,2,1,0]) ?_<|fun bp=>?_
     ·rintro f g _
      refine WD.call2 (i:=8) (dd:=45) U (by kernel_rfl) U U U (.inl ⟨U,fun _ _=>(wB.wk (.s2 .h5 .h4)<|.stb (.cons U .nil)<|.same .nil)⟩) (zb call37<|.r3 U U U) (.cons .h3 .nil) (jH hz (.cons .h3 .nil) .h2 fun w pz ho=>fJ _ _ _ _ _ _ _ _ _ _ _ _ _ _ _ _ _ _ _ _ _ _ _ _ a6 w pz ((aC.mono<|zl.trans o).weak (fun _ _ h=>wg (zl.trans o) h)) ((aD.mono<|zl.trans o).weak (fun _ _ h=>wp (zl.trans o) h)) (aE.mono<|zl.trans o) (aF.mono<|zl.trans o) ((aA.mono<|zl.trans o).weak (fun _ _ h=>wi (zl.trans o) h)) (aG.mono<|zl.trans o) ((aH.mono<|zl.trans o).weak (fun _ _ h=>wq (zl.trans o) h)) (aI.mono<|zl.trans o) ax ho) ?_
      rintro bg n _
      refine Mg (fun w hw=>Hp.vB .here hw (by intro iT;have:=al;rw[iT] at this;omega)) ?_
      rintro⟨c,rfl⟩
      exact Lf 10 47 U (w7 z7W U U al.1 al.2 vN)<|Lw (.s11 .h2 .h2 .here .here .here .here .here .here .here .here .here) (.q U)<|bf c n f g trivial
     refine WD.pq (fuel':=7) (fun(f:Nat)=>[(3,(.map<|some p)),(4,vp q),(6,vp ab),(10,(.map<|some B)),(11,vp s),(12,vi ak),(25,I),(26,K),(27,vi b),(14,E),(41,C),(42,F),(43,E),(44,(.map<|some p)),(46,vi ai),(16,vp f)]) (fun(f:Nat)=>[stb f 69 D,fz af,xB p (ga vO) vI ag,stb q 31 A,stb ab 94 H,xB B vI slv (qX z),qq (qa 201 1 gf) z,stb s 148 [(.map<|some t)],xB t vI vI ah]) (fun(f:Nat)=>True) (wl 17 [12,9,7,6,5,4,3,2,1,0]) ?_<|fun bS=>?_
     ·rintro f _
      refine WD.choose [8,13] (by kernel_rfl) U<|wF.cons ?_<|wF.cons ?_<|wF.nil
      ·refine wF.call2 (i:=8) (dd:=45) U U U U (.inl ⟨U,fun _ _=>(wB.wk (.s2 .h4 .h3)<|.stb (.cons U .nil)<|.same .nil)⟩) (zb call37<|.r3 U U U) (.cons .h2 .nil) (jH hz (.cons .h2 .nil) .h1 fun w pz ho=>fJ _ _ _ _ _ _ _ _ _ _ _ _ _ _ _ _ _ _ _ _ _ _ _ _ a6 w pz ((aC.mono<|zl.trans o).weak (fun _ _ h=>wg (zl.trans o) h)) ((aD.mono<|zl.trans o).weak (fun _ _ h=>wp (zl.trans o) h)) (aE.mono<|zl.trans o) (aF.mono<|zl.trans o) ((aA.mono<|zl.trans o).weak (fun _ _ h=>wi (zl.trans o) h)) (aG.mono<|zl.trans o) ((aH.mono<|zl.trans o).weak (fun _ _ h=>wq (zl.trans o) h)) (aI.mono<|zl.trans o) ax ho) ?_
       rintro bg n _
       refine Mg (fun w hw=>Hp.vB .here hw (by intro iT;have:=al;rw[iT] at this;omega)) ?_
       rintro⟨c,rfl⟩
       exact Lf 10 47 U (w7 z7W U U al.1 al.2 vN)<|Lw (.s10 .h2 .here .here .here .here .here .here .here .here .here) (.q U)<|bn c n f trivial
      ·refine wF.new (i:=13) (dd:=17) U U U U (xG (cs:=[vi 0]) qS U) (fun h'=>absurd h' (by decide)) fun g _=>Lw (.a10) (.q U)<|bp f g trivial
     refine WD.pq (fuel':=7) (fun(g:Nat)=>[(3,(.map<|some p)),(4,vp q),(6,vp ab),(10,(.map<|some B)),(11,vp s),(12,vi ak),(25,I),(26,K),(27,vi b),(14,E),(41,C),(42,F),(43,E),(44,(.map<|some p)),(46,vi ai),(17,vp g)]) (fun(g:Nat)=>[stb g 3 [vi 0],fz af,xB p (ga vO) vI ag,stb q 31 A,stb ab 94 H,xB B vI slv (qX z),qq (qa 201 1 gf) z,stb s 148 [(.map<|some t)],xB t vI vI ah]) (fun(g:Nat)=>True) (wl 17 [13,9,7,6,5,4,3,2,1,0]) ?_<|fun bT=>?_
     ·rintro g _
      refine WD.choose [8,12] (by kernel_rfl) U<|wF.cons ?_<|wF.cons ?_<|wF.nil
      ·refine wF.call2 (i:=8) (dd:=45) U U U U (.inl ⟨U,fun _ _=>(wB.wk (.s2 .h4 .h3)<|.stb (.cons U .nil)<|.same .nil)⟩) (zb call37<|.r3 U U U) (.cons .h2 .nil) (jH hz (.cons .h2 .nil) .h1 fun w pz ho=>fJ _ _ _ _ _ _ _ _ _ _ _ _ _ _ _ _ _ _ _ _ _ _ _ _ a6 w pz ((aC.mono<|zl.trans o).weak (fun _ _ h=>wg (zl.trans o) h)) ((aD.mono<|zl.trans o).weak (fun _ _ h=>wp (zl.trans o) h)) (aE.mono<|zl.trans o) (aF.mono<|zl.trans o) ((aA.mono<|zl.trans o).weak (fun _ _ h=>wi (zl.trans o) h)) (aG.mono<|zl.trans o) ((aH.mono<|zl.trans o).weak (fun _ _ h=>wq (zl.trans o) h)) (aI.mono<|zl.trans o) ax ho) ?_
       rintro bg n _
       refine Mg (fun w hw=>Hp.vB .here hw (by intro iT;have:=al;rw[iT] at this;omega)) ?_
       rintro⟨c,rfl⟩
       exact Lf 10 47 U (w7 z7W U U al.1 al.2 vN)<|Lw (.s10 .h2 .here .here .here .here .here .here .here .here .here) (.q U)<|bo c n g trivial
      ·refine wF.new (i:=12) (dd:=16) U U U U (xG (cs:=D) zoe U) (fun h'=>absurd h' (by decide)) fun f _=>Lw (.s10 .h1 .here .here .here .here .here .here .here .here .here) (.q U)<|bp f g trivial
     refine WD.choose [8,12,13] (by kernel_rfl) U<|wF.cons ?_<|wF.cons ?_<|wF.cons ?_<|wF.nil
     ·refine wF.call2 (i:=8) (dd:=45) U U U U (.inl ⟨U,fun _ _=>(wB.wk (.s2 .h3 .h2)<|.stb (.cons U .nil)<|.same .nil)⟩) (zb call37<|.r3 U U U) (.cons .h1 .nil) (jH hz (.cons .h1 .nil) .here fun w pz ho=>fJ _ _ _ _ _ _ _ _ _ _ _ _ _ _ _ _ _ _ _ _ _ _ _ _ a6 w pz ((aC.mono<|zl.trans o).weak (fun _ _ h=>wg (zl.trans o) h)) ((aD.mono<|zl.trans o).weak (fun _ _ h=>wp (zl.trans o) h)) (aE.mono<|zl.trans o) (aF.mono<|zl.trans o) ((aA.mono<|zl.trans o).weak (fun _ _ h=>wi (zl.trans o) h)) (aG.mono<|zl.trans o) ((aH.mono<|zl.trans o).weak (fun _ _ h=>wq (zl.trans o) h)) (aI.mono<|zl.trans o) ax ho) ?_
      rintro bg n _
      refine Mg (fun w hw=>Hp.vB .here hw (by intro iT;have:=al;rw[iT] at this;omega)) ?_
      rintro⟨c,rfl⟩
      exact Lf 10 47 U (w7 z7W U U al.1 al.2 vN)<|Lw (.a9) (.q U)<|bR c n trivial
     ·refine wF.new (i:=12) (dd:=16) U U U U (xG (cs:=D) zoe U) (fun h'=>absurd h' (by decide)) fun f _=>Lw (.a9) (.q U)<|bS f trivial
     ·refine wF.new (i:=13) (dd:=17) U U U U (xG (cs:=[vi 0]) qS U) (fun h'=>absurd h' (by decide)) fun g _=>Lw (.a9) (.q U)<|bT g trivial
   ·rintro aq ar au av aw ⟨h,bU,bV⟩
    replace h:=(bt aq ar au).symm.trans h
    exact D2q U<|WL.nil<|WX.round ⟨bW,aq,i64 (b+1),ar,au,av,aw⟩ ⟨h,o.trans bU,bV⟩ (Nat.lt_succ_self _) (.q U)<|.a8
  ·exact WC.exit<|Lm<|Lm<|Lv<|Ln ⟨ak,am,ah,af,z⟩ ⟨h,o,a5⟩ (.q U)<|.s7 .here .h1 .h2 .h2 .h2 .here .h1
 ·rintro most mp wide Zn lg ⟨h,zs,hm⟩
  replace h:=(br most mp wide).symm.trans h
  obtain⟨hb,h⟩:=xq h
  obtain rfl:=oJ h
  clear h
  refine B0q<|WL.gh (G:=Zp) (φ:=fun Z1=>xm (Z++Zn) (Z++Z1)/\RG (Z++Z1) (mS (Z++Z1)) (qX lg) mp) (L':=fun Z1=>[fz Z1,stb q 31 A,xB B vI slv (qX lg),stb s 148 [(.map<|some t)],xB p (ga vO) vI ag,xB t vI vI wide]) (fun w hw=>?_) ?_
  ·have h1:=hw.sub (.s7 .h3 .here .here .here .here .here .here)
   obtain⟨Z1,k1,k2,k3⟩:=Hp.bQ (Pr:=fun Z=>mS Z) (fun k _ _ h=>ug k h) hz lg mp Zn hm h1
   exact⟨Z1,⟨k1,k2⟩,k3⟩
  rintro Z1 ⟨hle1,Cp⟩
  refine WL.freezeC (Z:=Z) .h1 .here fun Z2 CN hc=>WL.freezeC (Z:=Z) .h2 .here fun Z3 Cd zY=>WL.gh (G:=Zp) (φ:=fun Z4=>xm (Z++Z3) (Z++Z4)/\ZA (Z++Z4) (xB t vI vI wide)) (L':=fun Z4=>[fz Z4,xB B vI slv (qX lg),xB p (ga vO) vI ag]) (fun w hw=>?_) ?_
  ·obtain⟨Z4,k1,k2,k3⟩:=Hp.freeze (x:=xB t vI vI wide) .h3 .here hw
   exact⟨Z4,⟨k1.app,k2.mono (xm.right _ _)⟩,k3⟩
  rintro Z4 ⟨Bw,hW⟩
  replace Cp:=Cp.up (CN.trans (Cd.trans Bw)) (fun _ _ h=>ug (CN.trans (Cd.trans Bw)) h)
  replace hc:=hc.mono (Cd.trans Bw)
  replace zY:=zY.mono Bw
  have hZ:xm Z (Z++Z4):=zl.trans (zs.trans (hle1.trans (CN.trans (Cd.trans Bw))))
  refine Q1n U<|WC.sH (fun(Zn:Zp) (ao:Option Addr) (cap:Nat) (cs:List Value) (fs:List (Int->Option Int))=>xm (Z++Z4) (Z++Zn)/\RR 1 (mS (Z++Zn)) cs fs/\fs.Perm (mp.map<|uE a wide)) (fun Zn ao cap cs fs=>[(12,vi most),(20,vs ao fs.length cap)]) (fun Zn ao cap cs fs=>[fz Zn,row (vs ao fs.length cap) 201 1 cs,xB p (ga vO) vI ag]) ?_ ?_
  ·refine B1q U<|WL.fA 81 (G6 underlying198 U .h1) ?_
   rintro rr _
   refine Q0n<|WC.block<|WC.nilRow 201 1<|WC.l6 (fun(Zn:Zp) (ao:Option Addr) (cap:Nat) (cs:List Value) (fs:List (Int->Option Int)) (rem:List (Int×((Option Addr×Nat)×List Value))) (l':List (Int×List (Int->Option Int))) (lL:Option (Int×((Option Addr×Nat)×List Value)))=>xm (Z++Z4) (Z++Zn)/\RR 1 (mS (Z++Zn)) cs fs/\RG (Z++Z4) (mS (Z++Z4)) rem l'/\(fs++l'.map (uE a wide)).Perm (mp.map<|uE a wide)) (fun Zn ao cap cs fs rem l' lL=>[(4,vp q),(11,vp s),(12,vi most),(20,vs ao fs.length cap),(81,vp rr)]) (fun Zn ao cap cs fs rem l' lL=>[fz Zn,row (vs ao fs.length cap) 201 1 cs,uK rr B vI slv (qX lg) rem lL,xB p (ga vO) vI ag]) (fun Zn ao cap cs fs rem l' lL=>rem.length) ⟨Z4,none,0,[],[],qX lg,mp,none⟩ ⟨xm.refl _,RR.nil _ _,Cp,.refl _⟩ (.q U) (.s4 .h2 .here .here .here) ?_
   rintro Zn ao cap cs fs rem l' lL ⟨CO,hr,hg,hp⟩
   refine B0q<|WL.nextM U U U .h2 (fun hrem=>?_)<|fun i y m hx CJ=>?_
   ·subst hrem
    cases hg
    refine Q1n U<|WC.b<|WC.cond U (fun h'=>(by cases h'))<|fun h'=>?_
    clear h'
    exact WC.exit<|Lm<|Lm<|Lv<|Ln ⟨Zn,ao,cap,cs,fs⟩ ⟨CO,hr,by simpa using hp⟩ (.q U) (.s3 .h1 .h1 .h1)
   ·obtain⟨x,hx1,hxl,hxs,hg'⟩:=hg.at hx
    rw[<- CJ] at hg'
    have iS:rem.length=m.length+1:=by
     have h1:=(List.getElem?_eq_some_iff.1 hx).1
     rw[CJ,List.length_eraseIdx,if_pos h1];omega
    have hpl:=hp.length_eq
    have hgl:=hg.len
    rw[List.length_append,List.length_map,List.length_map] at hpl
    refine Q1n U<|WC.b<|WC.cond U (fun h'=>?_)<|fun h'=>(by cases h')
    clear h'
    refine WC.skip<|Lb<|WC.block<|B0q<|Le 84 (G8 U .here)<|La U<|La U (Lg 21 (xG (cs:=[vi 0]) qS U) fun Dd _=>Lg 22 (xG (cs:=[vn]) zMF U) fun CQ _=>Lo U U (xz rf U U U .h1 U U U)<|Lo U U (xz (vs:=[slv y.2]) zWA U U U .h1 U U U) (WL.freezeC (Z:=Z) .h1 .h2 fun Z5 Ce Bt=>WL.freezeC (Z:=Z) .h1 .here ?_))
    intro Z6 CT Bu
    replace Bt:=Bt.mono CT
    have e22:slv y.2 = .slice y.2.1.1 x.length y.2.1.2:=by unfold slv;rw[hxl]
    replace Bu:ZC (Z++Z6) ⟨CQ,0,none⟩ [.slice y.2.1.1 x.length y.2.1.2]:=by rw[<- e22];exact Bu
    have qA:=CO.trans (Ce.trans CT)
    refine Q0n<|Ld<|La U ?_
    let P:Value:=(.func (.func 99) #[] #[vp Dd,vp CQ,vp s,vp q]);have hfd:mS (Z++Z6) [P] (uE a wide (y.1,x)):=⟨99,[vp Dd,vp CQ,vp s,vp q],U,call99,fun w' iT y0 r hr=>iY (Z:=Z++Z6) (zHP:=⟨Dd,0,none⟩) (zHQ:=⟨CQ,0,none⟩) (zHR:=y.2.1.1) (zHS:=y.2.1.2) (zHT:=⟨s,0,none⟩) (zHU:=t) (zHV:=⟨q,0,none⟩) (zHW:=aM) (zHX:=aN) (zHY:=aO) (zHZ:=aP) (zI0:=aQ) (zI1:=aR) (zI2:=aS) (zI3:=aT) (zI4:=aU) (zI5:=aV) (zI6:=aW) (zI7:=aX) (zI8:=aY) (zI9:=aZ) (zIa:=a0) (zIb:=a1) (zny:=y0) (zcv:=y.1) (znz:=x) (zvK:=wide) (z4X:=a) (r:=r) (h:=hr) (w₀:=w') (hz:=iT) (hmW:=hW.mono qA) (zzs:=Bt) (zIc:=((ad.of hxs).up qA (fun _ _ h=>ug qA h))) (zId:=Bu) (zT7:=(zY.mono qA)) (z1b6:=((aC.mono (hZ.trans qA)).weak (fun _ _ h=>wg (hZ.trans qA) h))) (z1b7:=((aD.mono (hZ.trans qA)).weak (fun _ _ h=>wp (hZ.trans qA) h))) (z1b8:=(aE.mono (hZ.trans qA))) (zT8:=(aF.mono (hZ.trans qA))) (z1b9:=((aA.mono (hZ.trans qA)).weak (fun _ _ h=>wi (hZ.trans qA) h))) (z1ba:=(aG.mono (hZ.trans qA))) (z1bb:=((aH.mono (hZ.trans qA)).weak (fun _ _ h=>wq (hZ.trans qA) h))) (z1bc:=(aI.mono (hZ.trans qA))) (zT9:=(hc.mono qA))⟩
    refine Le 88 (wC<|L8 (l:=[.tmp 21,.tmp 22,.tmp 11,.tmp 4])<|.r4 U U U U)<|Lg 89 (xU (cs:=[.func (.func 99) #[] #[vp Dd,vp CQ,vp s,vp q]]) ztm (Lq (l:=[.tmp 88]) (.cons U .nil) [0]) (fun _=>by kernel_rfl) U (by unfold maxLen;omega)) ?_
    intro b89 _
    have DS:RR 1 (mS (Z++Z6)) [P] ([uE a wide (y.1,x)]:List (Int->Option Int)):=RR.one U hfd
    have AX:=hr.weak (fun _ _ h=>ug (Ce.trans CT) h)
    refine WL.fA 90 (sn (l1:=fs) (l2:=([uE a wide (y.1,x)]:List (Int->Option Int))) (news:=[.func (.func 99) #[] #[vp Dd,vp CQ,vp s,vp q]]) (Pr:=(mS (Z++Z6))) ztm U U .h3 DS (vL .here) (oW U iL) ⟨by rw[List.length_append,List.length_singleton];omega,by rw[List.length_append,List.length_singleton];omega⟩) ?_
    rintro⟨zw,lO⟩ _
    refine La U<|WL.nil<|Lt ?_
    have zn:((fs++[uE a wide (y.1,x)])++(l'.eraseIdx i).map (uE a wide)).Perm (mp.map (uE a wide)):=by
     refine List.Perm.trans ?_ hp
     rw[List.append_assoc]
     exact List.Perm.append_left _<|(ae hx1).map (uE a wide)
    exact WX.round ⟨Z6,zw,lO,cs++[.func (.func 99) #[] #[vp Dd,vp CQ,vp s,vp q]],fs++[uE a wide (y.1,x)],m,l'.eraseIdx i,some y⟩ ⟨qA,RR.app AX DS,hg',zn⟩ (by show m.length<rem.length;omega) (.q U)<|.s4 .h2 .here .h1 .h1
  ·rintro Zn ao cap cs fs ⟨CO,hr,hp⟩
   have iS:fs.length=(mp.map (uE a wide)).length:=hp.length_eq
   refine WC.b<|Ld<|La U<|La U<|La U<|La U (WL.freezeS (ls:=fs) .h1 .here hz hr fun Z7 Ce h7=>Q0n<|WC.ret<|Li results53 (.tmp U<|.tmp U .nil)<|fun w hw=>?_)
   refine⟨Z7,ao,cap,?_,⟨fs,hp,h7.weak fun _ _ h=>ug Ce h⟩,hw.sub (.a2)⟩
   show Ending.returned _=_
   rw[<- iS]
   exact wV U U
def kg(b:List (Int->Option Int)×Int)(c:zi)(d:z7)(e:Int->Option (ye×Int)):Nat->Int->Option (ye×Int)
 | 0,_=>none
 | f+1,a=>(vY b.1 (i64 (a-1))).bind fun g=>if decide ((i64 (((nth c.fK d.fQ).yj)*g))>a) then if decide ((i64 (a+1))>32768) then some ((⟨0,0,0,0⟩:ye),360) else kg b c d e f (i64 (a+1)) else e a
def kh(e:Int)(d:Int)(g:List (Int->Option Int)×Int)(b:zi)(c:z7)(h:Int->Int->Option (ye×Int)):Nat->Int->Int->Int->Option (ye×Int)
 | 0,_,_,_=>none
 | l+1,a,f,i=>if decide (a<(i64 (e+d))) then(vY g.1 a).bind fun j=>vk (fun(m:Int)=>chk ((((nth b.fK c.fQ).yj):Int)≠0) (kh e d g b c h l (i64 (a+1)) m (max i (i64 (j-(i64 (Int.tdiv (i64 ((i64 ((max (i64 (a-d)) 0)+((nth b.fK c.fQ).yj)))-1)) ((nth b.fK c.fQ).yj)))))))) fun k=>if decide (a<e) then k (max f (i64 ((i64 ((i64 (((nth b.fK c.fQ).yj)*j))-a))+d))) else k f else h f i
def mf(b:zi)(d:List (List za))(a:z7)(e:List (z7×Int)):Option (ye×Int):=
 (g6 b d a e).bind fun c=>chk (0<=a.fQ/\a.fQ<b.fK.length) ((gD b a.ya).bind fun f=>vk (fun(g:Int)=>tZ (fun(h:Int) (i:Int)=>some (({a with yf:=h,fT:=i64 (i+c.2)}:ye),0)) fun j=>kh g f c b a j xC 0 0 0) fun k=>kg c b a k xC 1)
theorem aw(Z:Zp)(B:Option Addr)(H:Nat)(I:Option Addr)(J:Nat)(K:Option Addr)(L:Nat)(M:Option Addr)(N:Nat)(O:Option Addr)(P:Nat)(Q:Option Addr)(R:Nat)(S:Option Addr)(T:Nat)(V:Option Addr)(W:Nat)(ab:Option Addr)(ad:Nat)(f:Nat)(a:zi)(X:List (List za))(b:z7)(g:List (z7×Int))(r:ye×Int)(h:mf a X b g=some r)(w₀:World)(hz:Pz [xB f (ga vO) vI g] w₀ Z)(ae:ZS Z 4 (vU Z) B H a.fM)(af:ZS Z 4 (qr Z) I J a.yc)(ag:ZS Z 4 (rq jm) K L a.fS)(Y:ZS Z 4 (rq qm) M N a.fK)(ah:ZS Z 7 (qK Z) O P a.yd)(ai:ZS Z 5 (rq qI) Q R a.fH)(aj:ZS Z 3 (qs Z) S T a.fU)(ak:ZS Z 4 (rq qJ) V W a.yb)(ao:ZS Z 1 (qt Z) ab ad X)(iq:Ho w₀ [xB f (ga vO) vI g]):
  RF 25 #[.agg #[vs B a.fM.length H,vs I a.yc.length J,vs K a.fS.length L,vs M a.fK.length N,vs O a.yd.length P,vs Q a.fH.length R,vs S a.fU.length T,vs V a.yb.length W],vs ab X.length ad,.agg #[vi b.ya,vi b.fQ],.map (some f)] w₀ (.tuple #[.agg #[vi r.1.ya,vi r.1.fQ,vi r.1.yf,vi r.1.fT],vi r.2]) [xB f (ga vO) vI g] [xB f (ga vO) vI g]:=by
 unfold mf at h
 refine Calls.tg func25 ntmps25 iq ?_
 refine WC.pool<|WC.b<|Ld (Lg 4 (xO (cs:=[vs B a.fM.length H,vs I a.yc.length J,vs K a.fS.length L,vs M a.fK.length N,vs O a.yd.length P,vs Q a.fH.length R,vs S a.fU.length T,vs V a.yb.length W]) U U) fun aL _=>Lg 6 (xO (cs:=[vi b.ya,vi b.fQ]) U U) ?_)
 intro aM _
 let A:List Value:=[vi 0,vi 0,vi 0,vi 0];refine Lg 8 (xG (cs:=A) zf7 U) ?_
 intro k _
 refine Q1n U<|WC.b<|bK h fun o ap h=>Ld<|Le 19 (xw z1j U (xy .h2) U)<|La U<|Le 21 (xw zx3 U (xy .h1) U)<|La U<|WL.Yo (dd:=23) U U U (zb call53<|.r4 U U U U) (.cons .h4 .nil) (jH hz (.cons .h4 .nil) .h3 fun w pz ho=>bY _ _ _ _ _ _ _ _ _ _ _ _ _ _ _ _ _ _ _ _ _ _ _ _ _ ap w pz ((ae.mono<|zl).weak (fun _ _ h=>wg zl h)) ((af.mono<|zl).weak (fun _ _ h=>wp zl h)) (ag.mono<|zl) (Y.mono<|zl) ((ah.mono<|zl).weak (fun _ _ h=>wi zl h)) (ai.mono<|zl) ((aj.mono<|zl).weak (fun _ _ h=>wq zl h)) (ak.mono<|zl) ((ao.mono<|zl).weak (fun _ _ h=>wv zl h)) ho) ?_
 rintro x aG aH al
 refine WL.merge .here .h4<|Q5n U<|WC.b<|cK h fun aq h=>bK h fun p ar h=>Lz nc [] U<|Lf 0 26 U (xk jQ U U)<|Lh 1 27 U (xl z5E U<|xt .h4 U)<|Lf 2 28 U (xk Vx U U)<|Lh 3 29 U (xl xu U<|xt .h3 U)<|L2 (j:=4) (dd:=30) (by kernel_rfl) U zO zP U U (Z:=(Z++([]++x))) (Pr:=(rq qm)) z7V U U (Y.mono<|zl.trans (zl.trans (xm.xX _ _ _))) aq ?_
 rintro aN aO au aP rfl
 refine Lf 5 31 U (xk mz U U)<|Lh 6 32 U (xl xu U<|xM (hz.pv2 .here) au U)<|Lh 7 33 U (xw z1j U (xy .h4) U)<|Lf 8 34 U (xk Y7 U U)<|Lh 9 35 U (xl xu U<|xt .h3 U)<|L5 10 36 U (zb call54<|.r2 U U) (jH hz .nil .here fun w pz ho=>oa _ _ _ _ _ _ _ _ _ _ _ _ _ _ _ _ _ _ _ _ ar w pz ((ae.mono<|zl.trans (zl.trans (xm.xX _ _ _))).weak (fun _ _ h=>wg (zl.trans (zl.trans (xm.xX _ _ _))) h)) ((af.mono<|zl.trans (zl.trans (xm.xX _ _ _))).weak (fun _ _ h=>wp (zl.trans (zl.trans (xm.xX _ _ _))) h)) (ag.mono<|zl.trans (zl.trans (xm.xX _ _ _))) (Y.mono<|zl.trans (zl.trans (xm.xX _ _ _))) ((ah.mono<|zl.trans (zl.trans (xm.xX _ _ _))).weak (fun _ _ h=>wi (zl.trans (zl.trans (xm.xX _ _ _))) h)) (ai.mono<|zl.trans (zl.trans (xm.xX _ _ _))) ((aj.mono<|zl.trans (zl.trans (xm.xX _ _ _))).weak (fun _ _ h=>wq (zl.trans (zl.trans (xm.xX _ _ _))) h))<|ak.mono<|zl.trans (zl.trans (xm.xX _ _ _)))<|Lf 11 12 U (q_z U)<|Lf 12 13 U (q_z U)<|WD.done (by kernel_rfl)<|Lb<|B0q<|Le 37 (xk Y7 U U)<|Le 38 (xl xu U<|xt .h3 U)<|Le 39 (xk Vx U U)<|Le 40 (xl xu U<|xt .h3 U)<|Le 41 (w3 (v:=(.agg #[vi b.ya,vi b.fQ,vi 0,vi 0])) (Lq (l:=[.tmp 38,.tmp 40]) (.r2 U U) [0,1]) (fun _=>by kernel_rfl)) (Lg 14 (xG (cs:=A) zf7 U) fun m _=>Lo U U (xz zaT U U U .here U U U)<|Q0n<|B1n U ?_)
 obtain⟨am,av,h⟩:=xS h
 let D:Value:=(vs aG o.1.length aH);let E:Value:=(vi ((nth a.fK b.fQ).yj));let G:List Value:=[vi b.ya,vi b.fQ,vi 0,vi 0];refine Ma (fun(c:Int)=>(am c=some r)) (fun c=>[(8,vp k),(10,D),(11,vi o.2),(12,E),(13,vi p),(14,vp m),(15,vi c)]) (fun c=>[fz ([]++x),stb k 37 A,stb m 37 G,xB f (ga vO) vI g]) ?_ ?_
 ·refine WC.block<|L6 (fun(y:Nat) (q:Int)=>(kg o a b am y q=some r)) (fun y q=>[(8,vp k),(10,D),(11,vi o.2),(12,E),(13,vi p),(14,vp m),(15,vi q)]) (fun y q=>[fz ([]++x),stb k 37 A,stb m 37 G,xB f (ga vO) vI g]) (fun y q=>y) ⟨xC,1⟩ h (.q U) (.s4 .h1 .h2 .here .here) ?_
  rintro(_|aI) q h;·cases h
  rw[kg] at h
  refine WC.b<|WC.b<|bK h fun aQ ax h=>Ld<|La U<|La U<|La U<|La U<|Lp 46 (zb call55<|.r2 U U) .nil (jH hz .nil .here fun w pz ho=>tw _ _ _ _ _ _ ax w pz<|al.up (xm.xX _ _ _)<|fun _ _ h=>ug (xm.xX _ _ _) h)<|La U<|La U<|La U<|WL.nil<|Lb<|Lk U h (fun ay h=>?_)<|fun ay h=>?_
  ·refine WC.skip<|Lb<|WC.block<|B3n U<|B2n U<|Lk U h (fun az h=>?_)<|fun az h=>?_
   ·refine B0q<|Le 54 (w3 (v:=(.agg #[vi 0,vi 0,vi 0,vi 0])) (Lq (l:=[]) .nil []) (fun _=>by kernel_rfl))<|Lo U U (xz zaT U U U .h1 U U U)<|Q1n U<|WC.ret<|Lu<|Ll<|Lu<|Ll ?_
    obtain rfl:=oJ h
    exact Li results25 (.agg U z5F U (xy .here)<|.tmp U .nil)<|fun w hw=>⟨wV U U,hw.sub (.cons .h3 .nil)⟩
   ·exact WC.skip<|Lt<|WX.round ⟨aI,i64 (q+1)⟩ h (Nat.lt_succ_self _) (.q U)<|.a4
  ·exact WC.exit<|Lm<|Lm<|Lv<|Ln q h (.q U)<|.a4
 ·rintro c h
  replace h:=(av c).symm.trans h
  refine jK2 h fun an aA h=>WC.jO (fun(t:Int) (u:Int)=>(an t u=some r)) (fun t u=>[(8,vp k),(11,vi o.2),(14,vp m)]) (fun t u=>[fz ([]++x),stb k 37 A,stb m 37 [vi b.ya,vi b.fQ,vi t,vi u],xB f (ga vO) vI g]) ?_ ?_
  ·refine B4n U<|WC.block<|WC.fj (fun(z:Nat) (d:Int) (n:Int) (e:Int)=>(kh c p o a b an z d n e=some r)) (fun z d n e=>[(8,vp k),(10,D),(11,vi o.2),(12,E),(13,vi p),(14,vp m),(15,vi c),(57,(vi<|i64 (c+p))),(58,vi d)]) (fun z d n e=>[fz ([]++x),stb k 37 A,stb m 37 [vi b.ya,vi b.fQ,vi n,vi e],xB f (ga vO) vI g]) (fun z d n e=>z) ⟨xC,0,0,0⟩ h (.q U) (.a4) ?_
   rintro(_|aJ) d n e h;·cases h
   rw[kh] at h
   refine B1n U<|WC.b<|Lk U h (fun aB h=>?_)<|fun aB h=>?_
   ·refine WC.skip<|Lb<|WC.b<|WC.block<|B2n U<|WC.b<|bK h fun aa aC h=>D2q U<|Lp 63 (zb call55<|.r2 U U) .nil (jH hz .nil .here fun w pz ho=>tw _ _ _ _ _ _ aC w pz<|al.up (xm.xX _ _ _)<|fun _ _ h=>ug (xm.xX _ _ _) h)<|Q1n U<|jK1 h fun aK aD h=>Ma (fun(s:Int)=>(aK s=some r)) (fun s=>[(8,vp k),(10,D),(11,vi o.2),(12,E),(13,vi p),(14,vp m),(15,vi c),(16,vi d),(17,vi aa),(57,(vi<|i64 (c+p))),(58,vi d)]) (fun s=>[fz ([]++x),stb k 37 A,stb m 37 [vi b.ya,vi b.fQ,vi s,vi e],xB f (ga vO) vI g]) ?_ ?_
    ·refine B3n U<|Lk U h (fun aE h=>?_)<|fun aE h=>?_
     ·let F:=(i64 ((i64 ((i64 (((nth a.fK b.fQ).yj)*aa))-d))+p));refine Ld<|Le 67 (xk uM U U)<|Le 68 (xl xu U<|xt .h2 U)<|La U<|La U<|La U<|La U<|La U<|La U<|La U<|Le 76 (cB U U U)<|Le 77 (xk uM U U)<|Lo U U (jF (ds:=[vi b.ya,vi b.fQ,(vi<|max n F),vi e]) rf U U U U U .h2 U U)<|WL.nil ?_
      exact Ln (max n F) h (.q U)<|.s4 .h1 .h1 .here .here
     ·exact WC.skip<|Ln n h (.q U)<|.a4
    ·rintro s h
     replace h:=(aD s).symm.trans h
     obtain⟨aF,h⟩:=xq h
     let C:=(i64 (aa-(i64 (Int.tdiv (i64 ((i64 ((max (i64 (d-p)) 0)+((nth a.fK b.fQ).yj)))-1)) ((nth a.fK b.fQ).yj)))));refine Lz (fun i=>[15].contains i) [] U<|Lf 0 78 U (xk rE U U)<|Lh 1 79 U (xl xu U<|xt .h2 U)<|Lf 2 80 U (q_m U)<|Lf 3 81 U (q_m U)<|Lf 4 82 U (q_m U)<|Lf 5 83 U (tj U U U)<|Lf 6 84 U (cB U U U)<|Lf 7 85 U (q_m U)<|Lf 8 86 U (tY U U U)<|Lf 9 87 U (tj U U U)<|Lf 10 88 U (q_m U)<|Lf 11 89 U (rM U U aF U)<|Lf 12 90 U (tj U U U)<|Lf 13 91 U (cB U U U)<|Lf 14 92 U (xk rE U U)<|WD.jD (i:=15) U (by kernel_rfl) U U U (by kernel_rfl) (jF (ds:=[vi b.ya,vi b.fQ,vi s,(vi<|max e C)]) rf U U U U U .h2 U U)<|WD.done (by kernel_rfl)<|Lt<|Lb<|D2q U<|WL.nil ?_
     exact WX.round ⟨aJ,i64 (d+1),s,max e C⟩ h (Nat.lt_succ_self _) (.q U)<|.s4 .h1 .h1 .here .here
   ·exact WC.exit<|Lm<|Lm<|Lv<|Ln ⟨n,e⟩ h (.q U)<|.a4
  ·rintro t u h
   replace h:=(aA t u).symm.trans h
   refine B0q<|Le 94 (xk rE U U)<|Le 95 (xl xu U<|xt .h2 U)<|Q2q U<|Le 98 (xk rE U U)<|Lo U U (jF (ds:=[vi b.ya,vi b.fQ,vi t,(vi<|i64 (u+o.2))]) rf U U U U U .h2 U U)<|Q0n<|B0q<|Le 99 (xw z5F U (xy .here) U)<|Lo U U (xz zaT U U U .h2 U U U)<|Q1n U<|WC.ret ?_
   obtain rfl:=oJ h
   exact Li results25 (.agg U z5F U (xy .here)<|.tmp U .nil)<|fun w hw=>⟨wV U U,hw.sub (.cons .h3 .nil)⟩
def xQ(a:ye)(b:ye):Option Int:=
 if decide (a.ya≠b.ya) then some (i64 (a.ya-b.ya)) else some (i64 (a.fQ-b.fQ))
theorem cV(Z:Zp)(a:ye)(b:ye)(r:Int)(h:xQ a b=some r)(w₀:World)(hz:PZ [] w₀ Z):
  RC 27 #[.agg #[vi a.ya,vi a.fQ,vi a.yf,vi a.fT],.agg #[vi b.ya,vi b.fQ,vi b.yf,vi b.fT]] w₀ (vi r) [] []:=by
 unfold xQ at h
 refine L3 func27 ntmps27 ?_
 refine WC.b<|Ld (Lg 2 (xO (cs:=[vi a.ya,vi a.fQ,vi a.yf,vi a.fT]) U U) fun d _=>Lg 3 (xO (cs:=[vi b.ya,vi b.fQ,vi b.yf,vi b.fT]) U U) fun e _=>Q1n U<|WC.b<|B0q<|Le 5 (xk gt U U)<|Le 6 (xl xu U<|xt .h1 U)<|Le 7 (xk gt U U)<|Le 8 (xl xu U<|xt .here U)<|Q1n U<|Lk U h (fun c h=>?_)<|fun c h=>?_)
 ·refine B0q<|Le 10 (xk gt U U)<|Le 11 (xl xu U<|xt .h1 U)<|Le 12 (xk gt U U)<|Le 13 (xl xu U<|xt .here U)<|Q2n U<|WC.ret<|Ll ?_
  obtain rfl:=oJ h
  exact Li results27 (.tmp U .nil)<|fun w hw=>⟨xJ U,hw.sub .nil⟩
 ·refine WC.skip<|Lb<|B0q<|Le 15 (xk mb U U)<|Le 16 (xl xu U<|xt .h1 U)<|Le 17 (xk mb U U)<|Le 18 (xl xu U<|xt .here U)<|Q2n U<|WC.ret ?_
  obtain rfl:=oJ h
  exact Li results27 (.tmp U .nil)<|fun w hw=>⟨xJ U,hw.sub .nil⟩
def jv(b:List ye×Int)(e:zi)(f:List (List za))(g:(List ye)->Option (yw×Int)):Nat->Int->(List (z7×Int))->(List ye)->Option (yw×Int)
 | 0,_,_,_=>none
 | i+1,a,h,d=>if decide (a<b.1.length) then chk (0<=a/\a<b.1.length) ((mf e f (⟨(nth b.1 a).ya,(nth b.1 a).fQ⟩:z7) h).bind fun c=>if decide (c.2≠0) then some ((⟨([]:List ye),([]:List zf)⟩:yw),c.2) else chk (((d++([c.1]:List ye)).length:Int)*32<=140737488355328/\((d++([c.1]:List ye)).length:Int)<=4611686018427387904) (jv b e f g i (i64 (a+1)) (xT h (⟨(nth b.1 a).ya,(nth b.1 a).fQ⟩:z7) c.1.yf) (d++([c.1]:List ye)))) else g d
def gG(b:zi)(d:Int)(c:List (List za)):Option (yw×Int):=
 (f7 b d c).bind fun a=>if decide (a.2=310) then some ((⟨([]:List ye),([]:List zf)⟩:yw),a.2) else(uu b d c).bind fun e=>if decide (e.2=350) then some ((⟨([]:List ye),([]:List zf)⟩:yw),e.2) else if decide (a.2≠0) then some ((⟨([]:List ye),([]:List zf)⟩:yw),a.2) else vk (fun(g:List ye)=>(wc g (fun(y0:ye) (y1:ye)=>xQ y0 y1)).bind fun f=>(uR b c f).bind fun h=>some ((⟨f,h⟩:yw),0)) fun i=>jv a b c i xC 0 ([]:List (z7×Int)) ([]:List ye)
theorem od(Z:Zp)(L:Option Addr)(M:Nat)(N:Option Addr)(O:Nat)(P:Option Addr)(Q:Nat)(R:Option Addr)(S:Nat)(T:Option Addr)(V:Nat)(W:Option Addr)(X:Nat)(Y:Option Addr)(aa:Nat)(ab:Option Addr)(ad:Nat)(ae:Option Addr)(af:Nat)(a:zi)(ag:Int)(q:List (List za))(r:yw×Int)(h:gG a ag q=some r)(w₀:World)(hz:PZ [] w₀ Z)(u:ZS Z 4 (vU Z) L M a.fM)(x:ZS Z 4 (qr Z) N O a.yc)(y:ZS Z 4 (rq jm) P Q a.fS)(z:ZS Z 4 (rq qm) R S a.fK)(B:ZS Z 7 (qK Z) T V a.yd)(E:ZS Z 5 (rq qI) W X a.fH)(F:ZS Z 3 (qs Z) Y aa a.fU)(G:ZS Z 4 (rq qJ) ab ad a.yb)(H:ZS Z 1 (qt Z) ae af q):
  Calls Tryz.prog 12 #[.agg #[vs L a.fM.length M,vs N a.yc.length O,vs P a.fS.length Q,vs R a.fK.length S,vs T a.yd.length V,vs W a.fH.length X,vs Y a.fU.length aa,vs ab a.yb.length ad],vi ag,vs ae q.length af] w₀ fun e w'=>∃ ah:Option Addr,∃ ai:Nat,∃ aj:Option Addr,∃ ak:Nat,e = .returned (.tuple #[.agg #[vs ah r.1.fP.length ai,vs aj r.1.ys.length ak],vi r.2])/\True/\Hp [] w₀ w' [row (vs ah r.1.fP.length ai) 37 4 (r.1.fP.flatMap xY),row (vs aj r.1.ys.length ak) 53 3 (r.1.ys.flatMap jI)]:=by
 unfold gG at h
 refine Me func12 ntmps12 ?_
 let A:List Value:=[vs L a.fM.length M,vs N a.yc.length O,vs P a.fS.length Q,vs R a.fK.length S,vs T a.yd.length V,vs W a.fH.length X,vs Y a.fU.length aa,vs ab a.yb.length ad];refine B0q<|Lg 3 (xO (cs:=A) U U) ?_
 intro I _
 refine Lg 6 (xG (cs:=[vn,vn]) zbU U) fun J _=>Q1n U<|WC.b<|bK h fun c av h=>Ld<|Le 20 (xw z1j U (xy .h1) U)<|Q2q U<|WL.jk (dd:=23) U U U (zb call24<|.r3 U U U) .nil (cc hz .nil fun w pz ho=>X2 _ _ _ _ _ _ _ _ _ _ _ _ _ _ _ _ _ _ _ _ _ _ _ av w pz u x y z B E F G H) ?_
 rintro aJ aK _
 refine Q5n U<|WC.b<|B2n U<|Lk U h (fun ax h=>?_)<|fun ax h=>?_
 ·refine B0q<|Le 28 (w3 (v:=(.agg #[vn,vn])) (Lq (l:=[]) .nil []) (fun _=>by kernel_rfl))<|La U<|Lo U U (xz z5c U U U .h1 U U U)<|Q1n U<|WC.ret<|Ll<|WX.nilRow 37 4<|WX.nilRow 53 3 ?_
  obtain rfl:=oJ h
  exact Li results12 (.agg U z4G U (xy .h2)<|.tmp U .nil)<|fun w hw=>⟨none,0,none,0,wV U U,trivial,hw.sub (.s2 .h1 .here)⟩
 ·refine WC.skip<|Lb<|WC.b<|WC.b<|bK h fun aX ay h=>Ld<|Le 31 (xw z1j U (xy .h2) U)<|Q2q U<|WL.rC (dd:=34) U U U (zb call18<|.r3 U U U) .nil (cc hz .nil fun w pz ho=>aq _ _ _ _ _ _ _ _ _ _ _ _ _ _ _ _ _ _ _ _ _ _ _ ay w pz u x y z B E F G H) ?_
  rintro aN aO aP aQ _
  refine Q2q U<|La U (Lg 10 (xG (cs:=[vn,vn]) zbU U) fun aR _=>Lo U U (xz z5c U U U .here U U U)<|Q1n U<|B2n U<|Lk U h (fun az h=>?_)<|fun az h=>?_)
  ·refine B0q<|Le 39 (w3 (v:=(.agg #[vn,vn])) (Lq (l:=[]) .nil []) (fun _=>by kernel_rfl))<|La U<|Lo U U (xz z5c U U U .h4 U U U)<|Q1n U<|WC.ret<|Ll<|WX.nilRow 37 4<|WX.nilRow 53 3 ?_
   obtain rfl:=oJ h
   exact Li results12 (.agg U z4G U (xy .h2)<|.tmp U .nil)<|fun w hw=>⟨none,0,none,0,wV U U,trivial,hw.sub (.s2 .h1 .here)⟩
  ·refine WC.skip<|Lb<|WC.b<|B2n U<|Lk U h (fun aA h=>?_)<|fun aA h=>?_
   ·refine B0q<|Le 43 (w3 (v:=(.agg #[vn,vn])) (Lq (l:=[]) .nil []) (fun _=>by kernel_rfl))<|La U<|Lo U U (xz z5c U U U .h4 U U U)<|Q1n U<|WC.ret<|Ll<|WX.nilRow 37 4<|WX.nilRow 53 3 ?_
    obtain rfl:=oJ h
    exact Li results12 (.agg U z4G U (xy .h2)<|.tmp U .nil)<|fun w hw=>⟨none,0,none,0,wV U U,trivial,hw.sub (.s2 .h1 .here)⟩
   ·refine WC.skip<|Lb<|WC.b<|Ld (Lg 45 (jN (ga vO)<|Value.int .i64) fun al _=>Q1n U<|WC.b<|Ld (Lg 13 (xG (cs:=[vn,vn]) zbU U) fun K _=>Q0n ?_))
    obtain⟨am,aB,h⟩:=xS h
    let D:Value:=(vs ae q.length af);refine Md (fun(f:List ye) (g:Option Addr) (j:Nat)=>(am f=some r)) (fun f g j=>[(2,D),(3,vp I),(6,vp J),(13,vp K)]) (fun f g j=>[stb I 31 A,stb J 40 [vn,vn],stb K 40 [vs g f.length j,vn],row (vs g f.length j) 37 4 (f.flatMap xY)]) ?_ ?_
    ·let C:Value:=(vs aJ c.1.length aK);refine B1q U<|Le 47 (xK underlying33 U)<|Q1n U<|WC.block<|WC.nilRow 37 4<|WC.rx (fun(s:Nat) (b:Int) (m:List (z7×Int)) (d:List ye) (n:Option Addr) (o:Nat)=>(jv c a q am s b m d=some r)) (fun s b m d n o=>[(2,D),(3,vp I),(6,vp J),(12,(.map<|some al)),(13,vp K),(46,C),(47,vi (c.1.length:Int)),(48,vi b)]) (fun s b m d n o=>[row C 37 4 (c.1.flatMap xY),stb I 31 A,stb J 40 [vn,vn],xB al (ga vO) vI m,stb K 40 [vs n d.length o,vn],row (vs n d.length o) 37 4 (d.flatMap xY)]) (fun s b m d n o=>s) ⟨xC,0,([]:List (z7×Int)),([]:List ye),none,0⟩ h (.q U) (.s6 .h6 .h7 .h6 .h2 .h1 .here) ?_
     rintro(_|aL) b m d n o h;·cases h
     rw[jv] at h
     refine B1n U<|WC.b<|Lk U h (fun aC h=>?_)<|fun aC h=>?_
     ·refine WC.skip<|Lb<|WC.b<|WC.block<|WC.b<|cK h fun t h=>Ld<|WL.know (fun w hw=>Hp.vB .here hw (by intro iT;have:=t;rw[iT] at this;omega)) ?_
      rintro⟨aS,rfl⟩
      refine Le 50 (w7 z1r U U t.1 t.2 vN)<|Le 51 (wu (cs:=(xY<|nth c.1 b)) z5F U U<|g5 .here<|vt (enc:=xY) (l:=c.1) (i:=b) (sz:=4) (fun _=>U) t.1 t.2) (Lg 15 (xG (cs:=[vi 0,vi 0,vi 0,vi 0]) zf7 U) fun aT _=>Lo U U (xz zaT U U U .here U U U)<|Q0n<|B0q<|Le 52 (xk gt U U)<|Le 53 (xl xu U<|xt .here U)<|Le 54 (xk mb U U)<|Le 55 (xl xu U<|xt .here U)<|Le 56 (w3 (v:=(.agg #[(vi<|(nth c.1 b).ya),(vi<|(nth c.1 b).fQ)])) (Lq (l:=[.tmp 53,.tmp 55]) (.r2 U U) [0,1]) (fun _=>by kernel_rfl)) (Lg 16 (xG (cs:=[vi 0,vi 0]) zWv U) fun aU _=>Lo U U (xz zWw U U U .here U U U)<|Q0n<|WC.b ?_))
      refine bK h fun p aD h=>Ld<|Le 58 (xw z1j U (xy .h3) U)<|La U<|Le 60 (xw zx3 U (xy .here) U)<|La U<|Lp 62 (zb call25<|.r4 U U U U) (.cons .h5 .nil) (cc hz (.cons .h5 .nil) fun w pz ho=>aw _ _ _ _ _ _ _ _ _ _ _ _ _ _ _ _ _ _ _ _ _ _ _ _ _ aD w pz u x y z B E F G H ho)<|Q2q U<|La U (Lg 17 (xG (cs:=[vi 0,vi 0,vi 0,vi 0]) zf7 U) fun aV _=>Lo U U (xz zaT U U U .here U U U)<|Q1n U<|WC.b<|B2n U<|Lk U h (fun aE h=>?_)<|fun aE h=>?_)
      ·refine B0q<|Le 67 (w3 (v:=(.agg #[vn,vn])) (Lq (l:=[]) .nil []) (fun _=>by kernel_rfl))<|La U<|Lo U U (xz z5c U U U .h6 U U U)<|Q1n U<|WC.ret<|Ll<|Lu<|Ll<|Ll<|Lu<|Ll<|WX.nilRow 37 4<|WX.nilRow 53 3 ?_
       obtain rfl:=oJ h
       exact Li results12 (.agg U z4G U (xy .h2)<|.tmp U .nil)<|fun w hw=>⟨none,0,none,0,wV U U,trivial,hw.sub (.s2 .h1 .here)⟩
      ·refine WC.skip<|Lb<|B1q U<|Le 70 (xw zx3 U (xy .h2) U)<|Le 71 (xk uM U U)<|Le 72 (xl xu U<|xt .here U)<|Lo U U (kw (k:=(⟨(nth c.1 b).ya,(nth c.1 b).fQ⟩:z7)) (v:=p.1.yf) zC8 underlying92 U U U U .h1)<|Q0n<|cK h fun aF h=>Ld<|Le 73 (xk kB U U)<|Le 74 (xl z64 U<|xt .h7 U)<|Le 75 (xw z5F U (xy .h1) U) (Lg 76 (xU (cs:=([p.1]:List ye).flatMap xY) z1r (Lq (l:=[.tmp 75]) (.cons U .nil) [0]) (fun _=>by kernel_rfl) U (by unfold maxLen;omega)) fun aW _=>WL.fA 77 (vT (enc:=xY) (l1:=d) (l2:=([p.1]:List ye)) z1r U U (.there<|.there .h7) (fun _=>U) U U (vL .here) (qR tE _) aF) ?_)
       rintro⟨an,ao⟩ _
       exact Le 78 (xk kB U U)<|Lo U U (jF (ds:=[vs an ((d++([p.1]:List ye)).length) ao,vn]) zMA U U U U U (.there<|.there .h7) U U)<|WL.nil<|Lt<|Lb<|D2q U<|WL.nil<|WX.round ⟨aL,i64 (b+1),xT m (⟨(nth c.1 b).ya,(nth c.1 b).fQ⟩:z7) p.1.yf,d++([p.1]:List ye),an,ao⟩ h (Nat.lt_succ_self _) (.q U)<|.s6 .h7 .h7 .h7 .h3 .here .here
     ·exact WC.exit<|Lm<|Lm<|Lv<|Ln ⟨d,n,o⟩ h (.q U)<|.s4 .h1 .h1 .h2 .h2
    ·rintro f g j h
     replace h:=(aB f).symm.trans h
     refine WC.b<|bK h fun ap aG h=>Ld<|Le 80 (xk kB U U)<|Le 81 (xl z64 U<|xt .h2 U)<|WL.fy (dd:=82) U U U (zb call26<|.r2 U U) (.cons .h3 .nil) (cc hz (.cons .h3 .nil) fun w pz ho=>kX _ _ _ (znp:=27) (zvB:=[]) _ (zno:=(fun(y0:ye) (y1:ye)=>xQ y0 y1)) _ aG w pz call27 (fun w' iT y0 y1  r  hr=>cV _ _ _ _ hr w' iT ) ho) ?_
     rintro  aH
     refine WL.restb (cs':=[vs g ap.length j,vn]) .h3 (by rw[aH])<|Q0n<|WC.b<|bK h fun aM aI h=>Ld<|Le 83 (xw z1j U (xy .h2) U)<|La U<|Le 85 (xk kB U U)<|Le 86 (xl z64 U<|xt .here U)<|WL.jk (dd:=87) U U U (zb call28<|.r3 U U U) .nil (sc hz .nil (.cons .h1 .nil) fun w pz ho la=>dB _ _ _ _ _ _ _ _ _ _ _ _ _ _ _ _ _ _ _ _ _ _ _ _ _ aI w pz ((u.mono<|zl).weak (fun _ _ h=>wg zl h)) ((x.mono<|zl).weak (fun _ _ h=>wp zl h)) (y.mono<|zl) (z.mono<|zl) ((B.mono<|zl).weak (fun _ _ h=>wi zl h)) (E.mono<|zl) ((F.mono<|zl).weak (fun _ _ h=>wq zl h)) (G.mono<|zl) ((H.mono<|zl).weak (fun _ _ h=>wv zl h))<|ZA.row (la _ (.head _) _) (RR.flat (enc:=xY) (fun _=>U) _) ⟨w,pz.1⟩) ?_
     rintro ar au _
     refine Le 88 (xk rD U U)<|Lo U U (jF (ds:=[vs g ap.length j,vs ar aM.length au]) zC6 U U U U U .h1 U U)<|Q0n<|B0q<|Le 89 (xw z4G U (xy .here) U)<|Lo U U (xz z5c U U U .h4 U U U)<|Q1n U<|WC.ret ?_
     obtain rfl:=oJ h
     exact Li results12 (.agg U z4G U (xy .here)<|.tmp U .nil)<|fun w hw=>⟨g,j,ar,au,wV U U,trivial,hw.sub (.s2 .h3 .h2)⟩
def vK(a:List ye):Option (List ye):=
 some a
theorem uv(Z:Zp)(a:Option Addr)(b:Nat)(c:List ye)(r:List ye)(h:vK c=some r)(w₀:World)(hz:PZ [] w₀ Z)(i:ZS Z 4 (rq xY) a b c):
  Calls Tryz.prog 70 #[vs a c.length b] w₀ fun e w'=>∃ d:Nat,∃ f:Option Addr,∃ g:Nat,e = .returned (.func (.func 113) #[] #[vp d])/\(ZS Z 4 (rq xY) f g r)/\Hp [] w₀ w' [stb d 33 [vs f r.length g]]:=by
 unfold vK at h
 refine L9 func70 ntmps70 ?_
 refine WC.b<|Ld (Lg 1 (xO (cs:=[vs a c.length b]) U U) fun j _=>Q1n U<|B0q<|Le 3 (wC<|L8 (l:=[.tmp 1])<|.cons U .nil)<|Q1n U<|WC.ret ?_)
 obtain rfl:=oJ h
 exact Li results70 (.tmp U .nil)<|fun w hw=>⟨j,a,b,xJ U,i,hw.sub (.cons .here .nil)⟩
def wd(z2K:Type)(z54:List ye)(zcy:(Int×ye)->z2K->Option (Bool×z2K))(c:z2K->Option z2K):Nat->Int->z2K->Option z2K
 | 0,_,_=>none
 | e+1,a,d=>if decide (a>=0) then chk (0<=a/\a<z54.length) ((zcy (a,(⟨(nth z54 a).ya,(nth z54 a).fQ,(nth z54 a).yf,(nth z54 a).fT⟩:ye)) d).bind fun b=>if !b.1 then some b.2 else wd z2K z54 zcy c e (i64 (a-1)) b.2) else c d
theorem fx{n:Nat}{z2K:Type}{z54:List ye}{zcy:(Int×ye)->z2K->Option (Bool×z2K)}{a:z2K->Option z2K}{b:z2K}{r:z2K}(h:wd z2K z54 zcy a n f b=some r):∃ m,n=m+1:=by
 cases n with
 | zero=>cases h
 | succ m=>exact⟨m,rfl⟩
def vA(z2K:Type)(zcy:(Int×ye)->z2K->Option (Bool×z2K))(zej:z2K)(z54:List ye):Option z2K:=
 vk (fun(a:z2K)=>some a) fun b=>wd z2K z54 zcy b xC (i64 ((z54.length:Int)-1)) zej
theorem mQ(Z:Zp)(z2K:Type)(zAe:Nat)(zlc:Type)(zcz:zlc->z2K->Asrt)(zra:zlc->z2K->Prop)(znL:zlc)(zAf:Addr)(zJ2:Option Addr)(zJ3:Nat)(zcy:(Int×ye)->z2K->Option (Bool×z2K))(zej:z2K)(z54:List ye)(r:z2K)(w₀:World)(hz:Pz [zcz znL zej] w₀ Z)(t:df Tryz.prog Z zAe (α:=Int×ye) (σ:=z2K) (G:=zlc) (H:=Unit) (fun h x=>[vi x.1,.agg #[vi x.2.ya,vi x.2.fQ,vi x.2.yf,vi x.2.fT]]) (fun h x=>[]) zcy zcz zra)(u:zra znL zej)(v:ZS Z 4 (rq xY) zJ2 zJ3 z54)(l:ZC Z zAf [vs zJ2 z54.length zJ3])(h:vA z2K zcy zej z54=some r)(iq:Ho w₀ [zcz znL zej]):
  Calls Tryz.prog 113 #[.func (.yield zAe) #[] #[],vq zAf] w₀ fun e w'=>∃ m:zlc,e = .returned (.tuple #[])/\(zra m r)/\Hp (fps [zcz znL zej]) w₀ w' [zcz m r]:=by
 unfold vA at h
 refine Mf func113 ntmps113 iq ?_
 refine B0q<|Le 4 (xl z64 U<|q9 hz.pv l U)<|Le 5 (xK underlying33 U)<|Q2n U<|jK1 h fun n y h=>WC.iO (fun(f:z2K) (i:zlc)=>(n f=some r)/\(zra i f)) (fun f i=>[]) (fun f i=>[zcz i f]) ?_ ?_
 ·refine WC.block<|WC.fj (fun(j:Nat) (a:Int) (c:z2K) (d:zlc)=>(wd z2K z54 zcy n j a c=some r)/\(zra d c)) (fun j a c d=>[(0,.func (.yield zAe) #[] #[]),(1,vq zAf),(3,vi a)]) (fun j a c d=>[zcz d c]) (fun j a c d=>j) ⟨xC,i64 ((z54.length:Int)-1),zej,znL⟩ ⟨h,u⟩ (.q U) (.cons .here .nil) ?_
  rintro j a c d ⟨h,o⟩
  obtain⟨F,rfl⟩:=fx h
  rw[wd] at h
  refine WC.b<|B2n U<|Lk U h (fun z h=>?_)<|fun z h=>?_
  ·refine WC.skip<|Lb<|WC.b<|WC.block<|WC.b<|cK h fun A h=>bK h fun k B h=>D2q U<|Le 13 (xl z64 U<|q9 hz.pv l U)<|La U<|L0 (dd:=15) U U (Z:=Z) (Pr:=(rq xY)) z1r U U v A ?_
   rintro I J C K rfl
   refine Le 16 (xw z5F U (vQ hz.pv C) U) (WL.yield (dd:=17) (x:=(a,(⟨(nth z54 a).ya,(nth z54 a).fQ,(nth z54 a).yf,(nth z54 a).fT⟩:ye))) (h:=()) (g:=d) (s:=c) (b:=k.1) (s':=k.2) t U U U (.q U) ((.cons .here .nil):Sel _ [zcz d c] _) B o (fun w hw=>hz.call hw ((.cons .here .nil):Sel _ [zcz d c] _)) fun p q=>Q1n U<|Lk U h (fun D h=>?_)<|fun D h=>?_)
   ·refine WC.ret<|Lu<|Ll<|Ll<|Lu<|Ll ?_
    obtain rfl:=oJ h
    exact Li results113 .nil<|fun w hw=>⟨p,pp,q,hw.sub (.cons .here .nil)⟩
   ·exact WC.skip<|Lt<|Lb<|D3q U<|WL.nil<|WX.round ⟨F,i64 (a-1),k.2,p⟩ ⟨h,q⟩ (Nat.lt_succ_self _) (.q U)<|.cons .here .nil
  ·exact WC.exit<|Lm<|Lm<|Lv<|Ln ⟨c,d⟩ ⟨h,o⟩ .nil<|.cons .here .nil
 ·rintro f i ⟨h,E⟩
  replace h:=(y f).symm.trans h
  obtain rfl:=oJ h
  exact WX.my results113 .nil<|fun w hw=>⟨i,pp,E,hw.sub (.cons .here .nil)⟩
def fg(a:Int×ye)(b:List (z7×Int)):Option (Bool×(Nat×(List (z7×Int)))):=
 some (true,(0,xT b (⟨a.2.ya,a.2.fQ⟩:z7) a.2.yf))
def fq(a:List ye):Option (List (z7×Int)):=
 vk (fun(b:List (z7×Int))=>some b) fun c=>(vK a).bind fun d=>(vA (Nat×(List (z7×Int))) (fun(x:Int×ye) (s:Nat×(List (z7×Int)))=>chk (s.1=0) (fg x s.2)) (0,([]:List (z7×Int))) d).bind fun e=>c e.2
theorem nD(Z:Zp)(u:Option Addr)(y:Nat)(q:List ye)(r:(List (z7×Int)))(h:fq q=some r)(w₀:World)(hz:PZ [] w₀ Z)(L:ZS Z 4 (rq xY) u y q):
  Calls Tryz.prog 36 #[vs u q.length y] w₀ fun e w'=>∃ F:Nat,e = .returned (.map (some F))/\True/\Hp [] w₀ w' [xB F (ga vO) vI r]:=by
 unfold fq at h
 let C:Value:=(vs u q.length y);refine Calls.pP (vs:=[C]) (pre:=[]) (env:=[(0,C)]) func36 U ntmps36 U (Hp.nil w₀ _) U ?_
 refine B1n U<|WC.b<|Ld (Lg 6 (jN (ga vO)<|Value.int .i64) fun a _=>Lg 3 (xG (cs:=[.map none]) zWB U) fun b _=>Lo U U (xz zWC U U U .here U U U)<|Q0n ?_)
 refine jK1 h fun W M h=>WC.WZ (fun(p:Nat) (o:List (z7×Int))=>(W o=some r)) (fun(p:Nat) (o:List (z7×Int))=>[(3,vp b)]) (fun(p:Nat) (o:List (z7×Int))=>[stb b 92 [(.map<|some a)],xB a (ga vO) vI o,jl p]) ?_ ?_
 ·refine WC.b<|bK h fun H N h=>D1q U<|WL.Yo (dd:=8) U U U (zb call70<|.cons U .nil) .nil (cc hz .nil fun w pz ho=>uv _ _ _ _ _ N w pz L) ?_
  rintro c I J O
  refine Q0n<|WC.block<|WC.drop (.s3 .h1 .h1 .here)<|WC.rangeFunc (f:=113) (caps:=[vp c]) U call113 ?_
  intro X Y d j i z P Q w hw
  have hw1:=hw.selAll ((.s3 .h2 .h2 .here):Sel _ [stb b 92 [.map (some a)],xB a (ga vO) vI ([]:List (z7×Int)),w5 d (i .ready none)] _)
  let A:List Value:=[vs I H.length J];have pz:=(hz.call hw1 ((.cons .here .nil):Sel [vE [stb b 92 [.map (some a)],xB a (ga vO) vI ([]:List (z7×Int)),w5 d (i .ready none)],jl j,stb c 33 A] [vE [stb b 92 [.map (some a)],xB a (ga vO) vI ([]:List (z7×Int)),w5 d (i .ready none)]] [jl j,stb c 33 A])).lend hw1 ((.cons .here .nil):Sel [vE [stb b 92 [.map (some a)],xB a (ga vO) vI ([]:List (z7×Int)),w5 d (i .ready none)],jl j,stb c 33 A] [vE [stb b 92 [.map (some a)],xB a (ga vO) vI ([]:List (z7×Int)),w5 d (i .ready none)]] [jl j,stb c 33 A]) (B:=[stb c 33 A]) (fun _ hx'=>((.cons .h1 .nil):Sel _ [stb c 33 A] _).mem hx')
  refine bK h fun n R h=>Calls.mono (mQ (Z:=_) (zAe:=d) (zlc:=Unit) (zcz:=(fun(g:Unit) (s:Nat×(List (z7×Int)))=>vE ([stb b 92 [(.map<|some a)],xB a (ga vO) vI s.2]++[w5 d (i (sa<|fY [] s.1)<|fY [] s.1)]))) (zra:=(fun(g:Unit) (s:Nat×(List (z7×Int)))=>True)) (znL:=()) (zAf:=⟨c,0,none⟩) (zJ2:=I) (zJ3:=J) (z2K:=(Nat×(List (z7×Int)))) (zcy:=(fun(x:Int×ye) (s:Nat×(List (z7×Int)))=>chk (s.1=0)<|fg x s.2)) (zej:=(0,([]:List (z7×Int)))) (z54:=H) (r:=n) w pz ?_ trivial (O.mono<|zl) ((hw1.lent ((.cons .here .nil):Sel [vE [stb b 92 [(.map<|some a)],xB a (ga vO) vI ([]:List (z7×Int)),w5 d (i .ready none)],jl j,stb c 33 A] [vE [stb b 92 [(.map<|some a)],xB a (ga vO) vI ([]:List (z7×Int)),w5 d (i .ready none)]] [jl j,stb c 33 A]) (B:=[stb c 33 A]) (fun _ hx'=>((.cons .h1 .nil):Sel _ [stb c 33 A] _).mem hx') (.head _) _).stb) R<|hw1.owns ((.cons .here .nil):Sel [vE [stb b 92 [(.map<|some a)],xB a (ga vO) vI ([]:List (z7×Int)),w5 d (i .ready none)],jl j,stb c 33 A] [vE [stb b 92 [(.map<|some a)],xB a (ga vO) vI ([]:List (z7×Int)),w5 d (i .ready none)]] [jl j,stb c 33 A])) ?_
  ·refine lW (LI:=(fun(g:Unit) (s:Nat×(List (z7×Int)))=>[stb b 92 [(.map<|some a)],xB a (ga vO) vI s.2])) (pc:=(fun(s:Nat×(List (z7×Int)))=>fY [] s.1)) z P Q (fun _ _=>U) (by decide) ?_
   rintro m _ _ ⟨S,E⟩ T V Fb wb K _ hz
   replace hz:=hz.left
   letI:Rnd:=lV d
   obtain⟨zT,t⟩:=xq K
   replace zT:S=0:=zT;subst zT;clear K
   replace t:fg m E=some (T,V):=t
   unfold fg at t
   refine WC.restr (env':=[(3,vp b),(9,vi m.1),(10,.agg #[vi m.2.ya,vi m.2.fQ,vi m.2.yf,vi m.2.fT])]) (.q U)<|WC.eqL (L':=[stb b 92 [(.map<|some a)],xB a (ga vO) vI E,w5 d (i .ready none)]) U<|Ld (Lg 5 (xG (cs:=[vi 0,vi 0,vi 0,vi 0]) zf7 U) fun aa _=>Lo U U (xz zaT U U U .here U U U)<|WL.nil<|WX.cG z .h3<|WC.block<|Ld<|Le 11 (xl zMG U<|xt .h2 U)<|Le 12 (xk gt U U)<|Le 13 (xl xu U<|xt .h1 U)<|Le 14 (xk mb U U)<|Le 15 (xl xu U<|xt .h1 U)<|Le 16 (w3 (v:=(.agg #[vi m.2.ya,vi m.2.fQ])) (Lq (l:=[.tmp 13,.tmp 15]) (.r2 U U) [0,1]) (fun _=>by kernel_rfl))<|Le 17 (xk uM U U)<|Le 18 (xl xu U<|xt .h1 U)<|Lo U U (kw (k:=(⟨m.2.ya,m.2.fQ⟩:z7)) (v:=m.2.yf) zC8 underlying92 U U U U .h3)<|WL.nil<|Lt ?_)
   obtain⟨rfl,rfl⟩:=l9 t
   exact WX.tn z .h1<|fun w' mT=>⟨(),U,trivial,(mT.selAll ((.s3 .h3 .h1 .here):Sel _ [stb b 92 [(.map<|some a)],xB a (ga vO) vI (xT E (⟨m.2.ya,m.2.fQ⟩:z7) m.2.yf),w5 d (i .ready none)] _)).sub (.cons .here .nil)⟩
  ·rintro _ w' ⟨_,rfl,_,hp⟩
   have xv:=hw1.call ((.cons .here .nil):Sel [vE [stb b 92 [.map (some a)],xB a (ga vO) vI ([]:List (z7×Int)),w5 d (i .ready none)],jl j,stb c 33 A] [vE [stb b 92 [.map (some a)],xB a (ga vO) vI ([]:List (z7×Int)),w5 d (i .ready none)]] [jl j,stb c 33 A]) hp
   have zn:Hp _ _ w' [stb b 92 [.map (some a)],xB a (ga vO) vI n.2,w5 d (i (sa (fY [] n.1)) (fY [] n.1)),jl j,stb c 33 A]:=xv.pickAll .here
   refine⟨_,fY [] n.1,_,U,zn.sub ((.s5 .h2 .here .here .here .here):Sel _ [w5 d (i (sa (fY [] n.1)) (fY [] n.1)),stb b 92 [.map (some a)],xB a (ga vO) vI n.2,jl j,stb c 33 A] _),?_⟩
   clear hp xv zn pz hw hw1
   refine wjN ?_
   letI:Rnd:=mR j
   exact Lt<|WX.midR (D:=fun(g:Nat×(List (z7×Int)))=>g.1) (G:=Nat×(List (z7×Int))) ⟨j,n.2⟩ h (.cons U .nil)<|.a3
 ·rintro p o h
  replace h:=(M o).symm.trans h
  letI:Rnd:=mR p
  refine B0q<|Le 19 (xl zMG U<|xt .here U)<|Q1n U<|WC.ret ?_
  obtain rfl:=oJ h
  exact WX.sp .h2 results36 (.tmp U .nil)<|fun w hw=>⟨a,xJ U,trivial,hw.sub (.cons .h2 .nil)⟩
def qH(b:List (List za))(e:zi)(f:(List (z7×Int)))(g:(List (List Int))->Option (List (List Int))):Nat->(List (List Int))->Int->Option (List (List Int))
 | 0,_,_=>none
 | h+1,c,a=>if decide (a<b.length) then chk (0<=a/\a<b.length) ((gE e (nth b a) f).bind fun d=>chk ((((c++([d]:List (List Int))).length:Nat):Int)*24<=140737488355328/\(((c++([d]:List (List Int))).length:Nat):Int)<=4611686018427387904) (qH b e f g h (c++([d]:List (List Int))) (i64 (a+1)))) else g c
theorem ox{n:Nat}{a:(List (z7×Int))}{b:(List (List Int))->Option (List (List Int))}{c:List (List Int)}{r:List (List Int)}(h:qH g i a b n c f=some r):∃ m,n=m+1:=by
 cases n with
 | zero=>cases h
 | succ m=>exact⟨m,rfl⟩
def j5(a:zi)(b:List (List za))(c:List ye):Option (List (List Int)):=
 (kT a 0 b).bind fun d=>(if !d then(kT a 1 b).bind fun e=>some (!e) else some false).bind fun f=>if f then some ([]:List (List Int)) else(fq c).bind fun g=>vk (fun(h:List (List Int))=>some h) fun i=>qH b a g i xC ([]:List (List Int)) 0
theorem og(Z:Zp)(x:Option Addr)(y:Nat)(z:Option Addr)(D:Nat)(E:Option Addr)(F:Nat)(G:Option Addr)(H:Nat)(I:Option Addr)(J:Nat)(K:Option Addr)(L:Nat)(M:Option Addr)(N:Nat)(O:Option Addr)(P:Nat)(Q:Option Addr)(R:Nat)(af:Option Addr)(ag:Nat)(a:zi)(o:List (List za))(S:List ye)(r:List (List Int))(h:j5 a o S=some r)(w₀:World)(hz:PZ [] w₀ Z)(T:ZS Z 4 (vU Z) x y a.fM)(V:ZS Z 4 (qr Z) z D a.yc)(W:ZS Z 4 (rq jm) E F a.fS)(X:ZS Z 4 (rq qm) G H a.fK)(Y:ZS Z 7 (qK Z) I J a.yd)(aa:ZS Z 5 (rq qI) K L a.fH)(ab:ZS Z 3 (qs Z) M N a.fU)(ad:ZS Z 4 (rq qJ) O P a.yb)(ae:ZS Z 1 (qt Z) Q R o)(aw:ZS Z 4 (rq xY) af ag S):
  Calls Tryz.prog 14 #[.agg #[vs x a.fM.length y,vs z a.yc.length D,vs E a.fS.length F,vs G a.fK.length H,vs I a.yd.length J,vs K a.fH.length L,vs M a.fU.length N,vs O a.yb.length P],vs Q o.length R,vs af S.length ag] w₀ fun e w'=>∃ Zn:Zp,∃ ah:Option Addr,∃ ai:Nat,∃ aj:List Value,e = .returned (vs ah r.length ai)/\(RR 1 (re (Z++Zn)) aj r)/\Hp [] w₀ w' [fz Zn,row (vs ah r.length ai) 50 1 aj]:=by
 unfold j5 at h
 refine Me func14 ntmps14 ?_
 let A:List Value:=[vs x a.fM.length y,vs z a.yc.length D,vs E a.fS.length F,vs G a.fK.length H,vs I a.yd.length J,vs K a.fH.length L,vs M a.fU.length N,vs O a.yb.length P];refine WC.pool<|B0q<|Lg 3 (xO (cs:=A) U U) ?_
 intro ak _
 refine Q1n U<|WC.b<|WC.b<|bK h fun aX ax h=>bK h fun aO al h=>Ld<|Le 11 (xw z1j U (xy .here) U)<|La U<|Lp 13 (zb call22<|.r3 U U U) .nil (jH hz .nil .h1 fun w pz ho=>sd _ _ _ _ _ _ _ _ _ _ _ _ _ _ _ _ _ _ _ _ _ _ _ ax w pz ((T.mono<|zl).weak (fun _ _ h=>wg zl h)) ((V.mono<|zl).weak (fun _ _ h=>wp zl h)) (W.mono<|zl) (X.mono<|zl) ((Y.mono<|zl).weak (fun _ _ h=>wi zl h)) (aa.mono<|zl) ((ab.mono<|zl).weak (fun _ _ h=>wq zl h)) (ad.mono<|zl)<|(ae.mono<|zl).weak (fun _ _ h=>wv zl h))<|Q2q U<|Lx true 4 15 (B:=aO) U U U U U U (fun h=>(oJ<|q8 al h).symm) (fun _ ay=>?_) ?_
 ·have u:=q7 al ay
  obtain⟨aY,az,u⟩:=z8 u
  replace u:=oJ u
  exact Le 16 (xw z1j U (xy .here) U)<|La U<|Lp 18 (zb call22<|.r3 U U U) .nil (jH hz .nil .h1 fun w pz ho=>sd _ _ _ _ _ _ _ _ _ _ _ _ _ _ _ _ _ _ _ _ _ _ _ az w pz ((T.mono<|zl).weak (fun _ _ h=>wg zl h)) ((V.mono<|zl).weak (fun _ _ h=>wp zl h)) (W.mono<|zl) (X.mono<|zl) ((Y.mono<|zl).weak (fun _ _ h=>wi zl h)) (aa.mono<|zl) ((ab.mono<|zl).weak (fun _ _ h=>wq zl h)) (ad.mono<|zl)<|(ae.mono<|zl).weak (fun _ _ h=>wv zl h))<|Q2q U<|Ly u U U .all
 refine Q0n<|Lk U h (fun aA h=>?_)<|fun aA h=>?_
 ·refine B1n U<|WC.ret<|Ll<|WX.nilRow 50 1 ?_
  obtain rfl:=oJ h
  exact Li results14 (.tmp U .nil)<|fun w hw=>⟨[],none,0,[],xJ U,RR.nil _ _,hw.sub (.s2 .h2 .here)⟩
 ·refine WC.skip<|Lb<|WC.b<|bK h fun am aB h=>D1q U<|WL.d7 (dd:=22) U U U (zb call36<|.cons U .nil) .nil (jH hz .nil .h1 fun w pz ho=>nD _ _ _ _ _ aB w pz<|aw.mono<|zl) ?_
  rintro an _
  refine Q1n U<|B1n U<|jK1 h fun ao aC h=>WC.sH (fun(g:List (List Int)) (i:Zp) (p:Option Addr) (q:Nat) (s:List Value)=>(ao g=some r)/\(xm (Z++[]) (Z++i))/\(RR 1 (re (Z++i)) s g)) (fun g i p q s=>[(8,vs p g.length q)]) (fun g i p q s=>[fz i,row (vs p g.length q) 50 1 s]) ?_ ?_
  ·refine B1q U<|Le 24 (xK underlying32 U)<|Q1n U<|WC.block<|WC.nilRow 50 1<|WC.nq (fun(t:Nat) (c:List (List Int)) (j:Int) (d:Zp) (k:Option Addr) (m:Nat) (f:List Value)=>(qH o a am ao t c j=some r)/\(xm (Z++[]) (Z++d))/\(RR 1 (re (Z++d)) f c)) (fun t c j d k m f=>[(3,vp ak),(7,(.map<|some an)),(8,vs k c.length m),(23,vs Q o.length R),(24,vi (o.length:Int)),(25,vi j)]) (fun t c j d k m f=>[fz d,row (vs k c.length m) 50 1 f,stb ak 31 A,xB an (ga vO) vI am]) (fun t c j d k m f=>t) ⟨xC,([]:List (List Int)),0,[],none,0,[]⟩ ⟨h,xm.refl _,RR.nil _ _⟩ (.q U) (.s4 .h3 .here .h1 .here) ?_
   rintro t c j d k m f ⟨h,b,ap⟩
   obtain⟨aP,rfl⟩:=ox h
   rw[qH] at h
   refine B1n U<|WC.b<|Lk U h (fun aD h=>?_)<|fun aD h=>?_
   ·refine WC.skip<|Lb<|WC.b<|WC.block<|WC.b<|cK h fun aE h=>Ld<|L0 (dd:=27) U U (Z:=(Z++d)) (Pr:=(qt (Z++d))) z3K U U ((ae.mono<|zl.trans b).weak (fun _ _ h=>wv (zl.trans b) h)) aE ?_
    rintro aQ aR aF aS ⟨aT,aU,rfl,aG⟩
    refine Le 28 (xl z3q U<|q9 (hz.pv2 .here) aF U)<|Q1n U<|bK h fun n aH h=>cK h fun aI h=>D1q U<|Le 30 (xw z1j U (xy .h2) U)<|Q2q U<|WL.jk (dd:=33) U U U (zb call37<|.r3 U U U) (.cons .h3 .nil) (jH hz (.cons .h3 .nil) .here fun w pz ho=>fJ _ _ _ _ _ _ _ _ _ _ _ _ _ _ _ _ _ _ _ _ _ _ _ _ aH w pz ((T.mono<|zl.trans b).weak (fun _ _ h=>wg (zl.trans b) h)) ((V.mono<|zl.trans b).weak (fun _ _ h=>wp (zl.trans b) h)) (W.mono<|zl.trans b) (X.mono<|zl.trans b) ((Y.mono<|zl.trans b).weak (fun _ _ h=>wi (zl.trans b) h)) (aa.mono<|zl.trans b) ((ab.mono<|zl.trans b).weak (fun _ _ h=>wq (zl.trans b) h)) (ad.mono<|zl.trans b) aG ho) ?_
    rintro aq ar _
    refine WL.freezeS (ls:=n) .here .h1 hz (RR.flat (enc:=e3) (fun _=>U) _) ?_
    intro v au aJ
    let C:List Value:=[vs aq n.length ar];have av:RR 1 (re (Z++v)) C ([n]:List (List Int)):=(RR.cons (r:=C) U (show re _ _ _ from⟨_,_,U,aJ⟩) (RR.nil _ _))
    refine Lg 34 (xU (cs:=[vs aq n.length ar]) zlV (Lq (l:=[.tmp 33]) (.cons U .nil) [0]) (fun _=>by kernel_rfl) U (by unfold maxLen;omega)) ?_
    intro aV _
    have aK:RR 1 (re (Z++v)) (f++C) (c++([n]:List (List Int))):=RR.app (ap.weak (fun _ _ h=>lb au h)) av
    refine WL.fA 35 (sn (l1:=c) (l2:=([n]:List (List Int))) (news:=C) (Pr:=(re (Z++v))) zlV U U .h3 av (vL .here) (oW U iL) aI) ?_
    rintro⟨aL,aM⟩ _
    exact La U<|WL.nil<|Lt<|Lb<|D2q U<|WL.nil<|WX.round ⟨aP,c++([n]:List (List Int)),i64 (j+1),v,aL,aM,f++C⟩ ⟨h,b.trans au,aK⟩ (Nat.lt_succ_self _) (.q U)<|.s4 .h2 .here .h2 .h1
   ·exact WC.exit<|Lm<|Lm<|Lv<|Ln ⟨c,d,k,m,f⟩ ⟨h,b,ap⟩ (.cons U .nil)<|.a2
  ·rintro g i p q s ⟨h,aW,aN⟩
   replace h:=(aC g).symm.trans h
   refine B2n U<|WC.ret ?_
   obtain rfl:=oJ h
   exact Li results14 (.tmp U .nil)<|fun w hw=>⟨i,p,q,s,xJ U,aN,hw.sub (.a2)⟩
end Go.Proofs.YthjnhebofpebpaaGreat

/- A part of this claim's proof: models of functions, walks, plain laws. No conditions. -/
import Derived.Test.YtaefhckdgfpeaaaGreatWope
set_option linter.all false
namespace Go.Proofs.YtaefhckdgfpeaaaGreat
open Go Go.RowKit Sep Tryz
set_option maxRecDepth 30000
set_option maxHeartbeats 4000000
def tx(b:List zt)(c:(List (ze×Int))->Option (List yq)):Nat->Int->(List (ze×Int))->Option (List yq)
 | 0,_,_=>none
 | e+1,a,d=>if decide (a>=0) then chk (0<=a/\a<b.length) (tx b c e (i64 (a-1)) (wU d (⟨(nth b a).y6,(nth b a).fQ⟩:ze) ((nth b a).yv))) else c d
def tz(b:List (List zg))(a:Int)(h:ye)(e:List (ze×Int))(i:(List yq)->Option (List yq)):Nat->(List yq)->Int->(List (Int×Int))->Option (List yq)
 | 0,_,_,_=>none
 | k+1,f,c,d=>if decide (c<((nth b a).length:Int)) then rl (fun(l:List yq) (m:List (Int×Int))=>tz b a h e i k l (i64 (c+1)) m) fun j=>chk (0<=c/\c<((nth b a).length:Int)) (chk ((jD d ((nth (nth b a) c).fX))=false->((0:Int)<=0/\0<((nth b a).length:Int))) (if (jD d ((nth (nth b a) c).fX))||(decide (((nth (nth b a) c).fX)=((nth (nth b a) 0).y6))) then none else(mn (⟨(nth (nth b a) c).y6,(nth (nth b a) c).fX,(nth (nth b a) c).fQ⟩:zg)).bind fun g=>if (decide (((nth (nth b a) c).fX)>=0))&&(decide (((nth (nth b a) c).fX)<h.fM.length)) then chk ((((f++([(⟨a,(nth (nth b a) c).fX,ww (wU d ((nth (nth b a) c).fX) (i64 ((ww d ((nth (nth b a) c).y6) 0)+(ww e g 0)))) ((nth (nth b a) c).fX) 0⟩:yq)]:List yq)).length:Nat):Int)*24<=140737488355328/\(((f++([(⟨a,(nth (nth b a) c).fX,ww (wU d ((nth (nth b a) c).fX) (i64 ((ww d ((nth (nth b a) c).y6) 0)+(ww e g 0)))) ((nth (nth b a) c).fX) 0⟩:yq)]:List yq)).length:Nat):Int)<=4611686018427387904) (j (f++([(⟨a,(nth (nth b a) c).fX,ww (wU d ((nth (nth b a) c).fX) (i64 ((ww d ((nth (nth b a) c).y6) 0)+(ww e g 0)))) ((nth (nth b a) c).fX) 0⟩:yq)]:List yq)) (wU d ((nth (nth b a) c).fX) (i64 ((ww d ((nth (nth b a) c).y6) 0)+(ww e g 0))))) else j f (wU d ((nth (nth b a) c).fX) (i64 ((ww d ((nth (nth b a) c).y6) 0)+(ww e g 0)))))) else i f
def tA(c:List (List zg))(e:ye)(f:List (ze×Int))(g:(List yq)->Option (List yq)):Nat->(List yq)->Int->Option (List yq)
 | 0,_,_=>none
 | h+1,b,a=>if decide (a<c.length) then vC (fun(i:List yq)=>tA c e f g h i (i64 (a+1))) fun j=>chk (0<=a/\a<c.length) (vC (fun(k:List yq)=>(gB k (fun y0 y1=>om y0 y1)).bind fun d=>chk (((b++d).length:Int)*24<=140737488355328/\((b++d).length:Int)<=4611686018427387904) (j (b++d))) fun l=>tz c a e f l wr ([]:List yq) 0 ([]:List (Int×Int))) else g b
def ir(c:ye)(b:List (List zg))(a:List zt):Option (List yq):=
 (jx b).bind fun h=>vC (fun(d:List (ze×Int))=>vC (fun(e:List yq)=>some e) fun f=>tA b c d f wr ([]:List yq) 0) fun g=>tx a g wr (i64 ((a.length:Int)-1)) ([]:List (ze×Int))
theorem X8(Z ai aj ak al am an ao ap aq ar au av aw ax ay az aA aB aC aD d b q r)(h:ir d b q=some r){Ek}(hz:PZ [] Ek Z)(bv:ZS Z 4 (u5 Z) ai aj d.fM)(bw:ZS Z 4 (fc Z) ak al d.y9)(bx:ZS Z 4 (rq ml) am an d.fS)(bz:ZS Z 4 (rq m7) ao ap d.fK)(bA:ZS Z 7 (fa Z) aq ar d.ya)(bB:ZS Z 5 (rq mg) au av d.yc)(bC:ZS Z 3 (fe Z) aw ax d.fU)(bD:ZS Z 4 (rq j5) ay az d.y8)(aI:ZS Z 1 (m8 Z) aA aB b)(aE:ZS Z 4 (rq kG) aC aD q):
  Calls Tryz.prog 45 #[.agg #[vs ai d.fM.length aj,vs ak d.y9.length al,vs am d.fS.length an,vs ao d.fK.length ap,vs aq d.ya.length ar,vs au d.yc.length av,vs aw d.fU.length ax,vs ay d.y8.length az],vs aA b.length aB,vs aC q.length aD] Ek fun e w'=>∃ aJ:Option Addr,∃ aK:Nat,e = .returned (vs aJ r.length aK)/\True/\Hp [] Ek w' [row (vs aJ r.length aK) 101 3 (r.flatMap fZ)]:=by
 unfold ir at h
 refine Ng func45 U U ?_
 let A:List Value:=[vs ai d.fM.length aj,vs ak d.y9.length al,vs am d.fS.length an,vs ao d.fK.length ap,vs aq d.ya.length ar,vs au d.yc.length av,vs aw d.fU.length ax,vs ay d.y8.length az];refine B0q<|Lh 3 (wu (cs:=A)) ?_
 intro m _
 refine Q1n U<|Lb<|Lb<|bK h fun bE aS h=>D1q U<|Eg call94 hz (fun pz=>sv _ _ _ _ _ aS pz aI)<|Q0n<|Er (fun h'=>(by cases h'))<|fun h'=>?_
 clear h'
 refine Ec<|Lb<|Le (Lh 20 (jK (ga wJ)<|Value.int .i64) fun n _=>Q1n U ?_)
 obtain⟨aP,aT,h⟩:=wE h
 let E:Value:=(vs aA b.length aB);refine Nd (fun g=>(aP g=some r)) (fun g=>[(1,E),(3,vp m),(7,(.map<|some n))]) (fun g=>[stb m 80 A,wp n (ga wJ) vI g]) ?_ ?_
 ·refine B1q U<|Lf 22 (wB underlying86)<|Q2n U<|WC.block<|E4 (fun ae o L=>(tx q aP ae o L=some r)) (fun ae o L=>[(1,E),(2,vs aC q.length aD),(3,vp m),(7,(.map<|some n)),(8,vi o)]) (fun ae o L=>[stb m 80 A,wp n (ga wJ) vI L]) (fun ae o L=>ae) ⟨wr,i64 ((q.length:Int)-1),([]:List (ze×Int))⟩ h .q (.s2 .h1 .here) ?_
  rintro(_|bo) o L h;·cases h
  rw[tx] at h
  refine Lb<|B2n U<|Lj h (fun aU h=>?_)<|fun aU h=>?_
  ·refine Ec<|Lb<|WC.block<|cK h fun aF h=>Lv (fun i=>[17].contains i) []<|Lg 0 U q_m<|Lg 1 U q_m<|Lg 2 U q_m<|L8 (j:=3) (dd:=31) (by kernel_rfl) z2W z2X (Z:=Z) (Pr:=(rq kG)) zgW aE aF ?_
   rintro bF bG aV bH rfl
   refine Lg 4 U (w7 py)<|Li 5 U (w8 wm U<|wP hz.pv aV)<|Lg 6 U q_m<|Lg 7 U q_m<|L8 (j:=8) (dd:=36) (by kernel_rfl) z2W z2X (Z:=Z) (Pr:=(rq kG)) zgW aE aF ?_
   rintro bI bJ aW bL rfl
   refine Lg 9 U (w7 cu)<|Li 10 U (w8 wm U<|wP hz.pv aW)<|Lg 11 U (wN (v:=(.agg #[(vi<|(nth q o).y6),(vi<|(nth q o).fQ)])) (Lt (l:=[.tmp 33,.tmp 38]) (.r2 U U) [0,1]) (fun _=>by kernel_rfl))<|Lg 12 U q_m<|Lg 13 U q_m<|L8 (j:=14) (dd:=42) (by kernel_rfl) z2W z2X (Z:=Z) (Pr:=(rq kG)) zgW aE aF ?_
   rintro bM bN aX bO rfl
   exact Lg 15 U (w7 aL)<|Li 16 U (w8 wm U<|wP hz.pv aX)<|Nb (i:=17) U (by kernel_rfl) (by kernel_rfl) (kn (k:=(⟨(nth q o).y6,(nth q o).fQ⟩:ze)) (v:=((nth q o).yv)) znP underlying214 .h1)<|Eo (by kernel_rfl)<|Lq<|Ld<|D3q U<|WL.nil<|Em ⟨bo,i64 (o-1),(wU L (⟨(nth q o).y6,(nth q o).fQ⟩:ze)<|(nth q o).yv)⟩ h (Nat.lt_succ_self _) .q<|.s2 .h1 .here
  ·exact En<|Ln<|Ln<|Lu<|Lp L h .q<|.a2
 ·rintro g h
  replace h:=(aT g).symm.trans h
  refine B1n U<|jK1 h fun aQ aY h=>Nf (fun M R S=>(aQ M=some r)) (fun M R S=>[(9,vs R M.length S)]) (fun M R S=>[row (vs R M.length S) 101 3 (M.flatMap fZ)]) ?_ ?_
  ·let I:Value:=(vi (b.length:Int));refine B1q U<|Lf 46 (wB underlying85)<|Q1n U<|WC.block<|WC.nilRow 101 3<|E6 (fun af p a N O=>(tA b d g aQ af p a=some r)) (fun af p a N O=>[(3,vp m),(7,(.map<|some n)),(9,vs N p.length O),(45,E),(46,I),(47,vi a)]) (fun af p a N O=>[row (vs N p.length O) 101 3 (p.flatMap fZ),stb m 80 A,wp n (ga wJ) vI g]) (fun af p a N O=>af) ⟨wr,([]:List yq),0,none,0⟩ h .q .a3 ?_
   rintro(_|bp) p a N O h;·cases h
   rw[tA] at h
   refine B1n U<|Lb<|Lj h (fun aZ h=>?_)<|fun aZ h=>?_
   ·refine Ec<|jK1 h fun bq a0 h=>Nf (fun t T V=>(bq t=some r)) (fun t T V=>[(3,vp m),(7,(.map<|some n)),(9,vs T t.length V),(45,E),(46,I),(47,vi a)]) (fun t T V=>[row (vs T t.length V) 101 3 (t.flatMap fZ),stb m 80 A,wp n (ga wJ) vI g]) ?_ ?_
    ·refine WC.block<|Lb<|cK h fun a1 h=>D1q U<|L0 (dd:=50) (Z:=Z) (Pr:=(m8 Z)) zgU aI a1 ?_
     rintro bP bQ a2 bR ⟨br,bs,rfl,aM⟩
     refine Lf 51 (w8 zfm U<|vx hz.pv a2)<|Q2n U<|Lb<|Le (Lh 52 (jK vI<|Value.int .i64) fun W _=>Q1n U<|B1n U ?_)
     obtain⟨aR,a3,h⟩:=wE h
     let F:Value:=(vs N p.length O);refine Nf (fun P X Y=>(aR P=some r)) (fun P X Y=>[(3,vp m),(7,(.map<|some n)),(9,F),(13,vs X P.length Y),(45,E),(46,I),(47,vi a)]) (fun P X Y=>[row F 101 3 (p.flatMap fZ),row (vs X P.length Y) 101 3 (P.flatMap fZ),stb m 80 A,wp n (ga wJ) vI g]) ?_ ?_
     ·let D:Value:=(vs br ((nth b a).length) bs);refine B1q U<|Lf 54 (wB underlying84)<|Q1n U<|WC.block<|WC.nilRow 101 3<|Hj (fun ag s c f x y=>(tz b a d g aR ag s c f=some r)) (fun ag s c f x y=>[(3,vp m),(7,(.map<|some n)),(9,F),(10,vi a),(11,D),(12,(.map<|some W)),(13,vs x s.length y),(45,E),(46,vi (b.length:Int)),(47,vi a),(53,D),(54,vi ((nth b a).length:Int)),(55,vi c)]) (fun ag s c f x y=>[row F 101 3 (p.flatMap fZ),row (vs x s.length y) 101 3 (s.flatMap fZ),stb m 80 A,wp n (ga wJ) vI g,wp W vI vI f]) (fun ag s c f x y=>ag) ⟨wr,([]:List yq),0,([]:List (Int×Int)),none,0⟩ h .q (.s5 .h2 .here .h1 .h1 .here) ?_
      rintro(_|bt) s c f x y h;·cases h
      rw[tz] at h
      refine B1n U<|Lb<|Lj h (fun a4 h=>?_)<|fun a4 h=>?_
      ·refine Ec<|jK2 h fun bu a5 h=>Dn (fun z Q aa ab=>(bu z Q=some r)) (fun z Q aa ab=>[(3,vp m),(7,(.map<|some n)),(9,F),(10,vi a),(11,D),(12,(.map<|some W)),(13,vs aa z.length ab),(45,E),(46,vi (b.length:Int)),(47,vi a),(53,D),(54,vi ((nth b a).length:Int)),(55,vi c)]) (fun z Q aa ab=>[row F 101 3 (p.flatMap fZ),row (vs aa z.length ab) 101 3 (z.flatMap fZ),stb m 80 A,wp n (ga wJ) vI g,wp W vI vI Q]) ?_ ?_
       ·refine WC.block<|Lb<|cK h fun a6 h=>Le<|L0 (dd:=57) (Z:=Z) (Pr:=(rq mG)) zaL aM a6 ?_
        rintro a7 bS a8 bT rfl
        refine Lf 58 (we z7e (vy hz.pv a8)) (Lh 15 (wn (cs:=[vi 0,vi 0,vi 0]) zgV) fun aN _=>Ll (wl zfk .here)<|Q0n<|Lb<|B1q U<|Lf 61 (w7 fy)<|Lf 62 (Ei wm .here)<|Lf 63 (Gk (k:=((nth (nth b a) c).fX)) (dflt:=(0:Int)) gc underlying229 qp U U U .h5)<|Q5n U<|Lb ?_)
        obtain⟨a9,h⟩:=wa h
        let C:Value:=(.bool (jD f ((nth (nth b a) c).fX)));let H:Value:=(vi (ww f ((nth (nth b a) c).fX) 0));let J:=((nth b a).length:Int);let K:Value:=(vi ((nth (nth b a) c).fX));refine Lv nc []<|Lg 0 U q_m<|Lg 1 U q_m<|L9 (fuel':=0) [(3,vp m),(7,(.map<|some n)),(9,F),(10,vi a),(11,D),(12,(.map<|some W)),(13,vs x s.length y),(45,E),(46,I),(47,vi a),(53,D),(54,vi J),(55,vi c),(56,(.bool<|decide (c<J))),(57,vq a7),(58,.agg #[(vi<|(nth (nth b a) c).y6),K,(vi<|(nth (nth b a) c).fQ)]),(15,vp aN),(60,(.map<|some W)),(61,(.pointer<|some ⟨aN,1,none⟩)),(62,K),(63,.tuple #[H,C]),(59,.tuple #[H,C]),(64,H),(65,C),(16,H),(17,C),(66,C),(67,C),(75,.bool ((jD f<|(nth (nth b a) c).fX)||(decide (((nth (nth b a) c).fX)=((nth (nth b a) 0).y6)))))] (wR 10 (dn 10)) ?_<|fun aO=>?_
        rotate_left
        ·rcases Bool.eq_false_or_eq_true (jD f ((nth (nth b a) c).fX)) with hb' | hb'
         ·have aG:=hb';clear hb'
          refine L2 (i:=67) U aG<|Lo 2 U<|Lo 3 U<|Lo 4 U<|Lo 5 U<|Lo 6 U<|Lo 7 U<|Lo 8 U<|Lg 9 U vH<|Lw .a6 ?_ aO
          exact .t 27<|.r2 (zq<|Eq.symm aG)<|zq<|jB aG
         ·have ah:=hb';clear hb'
          have ba:=a9 ah
          refine L2 (i:=67) U ah<|Lg 2 U (w7 fy)<|Li 3 U (Ei wm .here)<|Lg 4 U q_m<|L8 (j:=5) (dd:=71) (by kernel_rfl) z2W z2X (Z:=Z) (Pr:=(rq mG)) zaL aM ba ?_
          rintro bU bV bb bW rfl
          refine Lg 6 U (w7 jV)<|Li 7 U (w8 wm U<|wP hz.pv bb)<|Lg 8 U uh<|Lg 9 U vA<|Lw .a6 ?_ aO
          exact .t 27<|.r2 (zq<|Eq.symm ah)<|zq<|jC ah
        refine Eo (by kernel_rfl)<|Ld<|Lj h (fun bc h=>?_)<|fun bc h=>?_
        ·cases h
        ·refine Ec<|Lb<|bK h fun ad bd h=>Lv (fun i=>[12].contains i) []<|Lg 0 U q_m<|Lg 1 U (w7 fy)<|Li 2 U (Ei wm .here)<|Lg 3 U q_m<|Lg 4 U (w7 jV)<|Li 5 U (Ei wm .here)<|Li 6 U (qL (k:=((nth (nth b a) c).y6)) (dflt:=(0:Int)) gc underlying229 qp .h5)<|Lg 7 U q_m<|Li 8 U (we z7e (wh .here))<|L5 9 U (Eh call97) (cc hz .nil fun w pz ho=>tq _ _ _ bd pz )<|Li 10 U (qL (k:=ad) (dflt:=(0:Int)) znP underlying214 qp .h4)<|Lg 11 U fb<|Nb (i:=12) U (by kernel_rfl) (by kernel_rfl) (kn (k:=((nth (nth b a) c).fX)) (v:=i64 ((ww f ((nth (nth b a) c).y6) 0)+(ww g ad 0))) gc underlying229 .h5)<|Eo (by kernel_rfl)<|Ld<|B0q<|Lf 88 (w7 fy)<|Lf 89 (Ei wm .h1)<|Q2q U<|Lx true 6 91 (B:=(decide (((nth (nth b a) c).fX)>=0))&&(decide (((nth (nth b a) c).fX)<d.fM.length))) (fun h=>(qd h).symm) (fun _ be=>?_) ?_
         ·exact Lf 92 (w7 fy)<|Lf 93 (Ei wm .h1)<|Lf 94 (w7 sp)<|Lf 95 (Ei zfl .h4)<|Lf 96 (wB underlying63)<|Q2q U<|Ly (qe be) U .all
         refine Q0n<|Lj h (fun bf h=>?_)<|fun bf h=>?_
         ·refine cK h fun bg h=>D2q U<|Lf 101 (w7 fy)<|Lf 102 (Ei wm .h1)<|La U<|Lf 104 (w7 fy)<|Lf 105 (Ei wm .h1)<|Lf 106 (qL (k:=((nth (nth b a) c).fX)) (dflt:=(0:Int)) gc underlying229 qp .here)<|Lf 107 (wN (v:=(.agg #[vi a,(vi<|(nth (nth b a) c).fX),(vi<|ww (wU f ((nth (nth b a) c).fX)<|i64 ((ww f ((nth (nth b a) c).y6) 0)+(ww g ad 0))) ((nth (nth b a) c).fX) 0)])) (Lt (l:=[.tmp 100,.tmp 102,.tmp 106]) (.r3 U U U) [0,1,2]) (fun _=>by kernel_rfl))<|Lh 108 (wD (cs:=([(⟨a,(nth (nth b a) c).fX,ww (wU f ((nth (nth b a) c).fX)<|i64 ((ww f ((nth (nth b a) c).y6) 0)+(ww g ad 0))) ((nth (nth b a) c).fX) 0⟩:yq)]:List yq).flatMap fZ) zHL (Lt (l:=[.tmp 107]) (.cons U .nil) [0]) (fun _=>by kernel_rfl) (by unfold maxLen;omega)) ?_
          intro bX _
          let G:=(i64 ((ww f ((nth (nth b a) c).y6) 0)+(ww g ad 0)));refine WL.fA 109 (vb (enc:=fZ) (l1:=s) (l2:=([(⟨a,(nth (nth b a) c).fX,ww (wU f ((nth (nth b a) c).fX) G) ((nth (nth b a) c).fX) 0⟩:yq)]:List yq)) zHL .h4 (fun _=>U) (wY .here) (vm VI _) bg) ?_
          rintro⟨bh,bi⟩ _
          exact La U<|WL.nil<|Lq<|Lp ⟨s++([(⟨a,(nth (nth b a) c).fX,ww (wU f ((nth (nth b a) c).fX) G) ((nth (nth b a) c).fX) 0⟩:yq)]:List yq),wU f ((nth (nth b a) c).fX) G,bh,bi⟩ h .q<|.s5 .h4 .here .h3 .h3 .h1
         ·exact Ep<|Lq<|Lp ⟨s,(wU f ((nth (nth b a) c).fX)<|i64 ((ww f ((nth (nth b a) c).y6) 0)+(ww g ad 0))),x,y⟩ h .q<|.s5 .h2 .h2 .h2 .h2 .here
       ·rintro z Q aa ab h
        replace h:=(a5 z Q).symm.trans h
        exact D2q U<|WL.nil<|Em ⟨bt,z,i64 (c+1),Q,aa,ab⟩ h (Nat.lt_succ_self _) .q<|.a5
      ·exact En<|Ln<|Ln<|Lu<|Lp ⟨s,x,y⟩ h .q<|.a4
     ·rintro P X Y h
      replace h:=(a3 P).symm.trans h
      refine Lb<|bK h fun aH bj h=>D1q U<|Nu (dd:=112) U (Eh call98) (.cons .h1 .nil) (cc hz (.cons .h1 .nil) fun w pz ho=>oQ _ _ _ (zy7:=99) (zK7:=[]) _ (zy6:=(fun y0 y1=>om y0 y1)) _ bj pz call99 (fun w' nd y0 y1  r  hr=>VV _ _ _ _ hr nd ) ho) ?_
      rintro  bk
      refine Ew (i:=13) U (u:=(vs X aH.length Y)) (rJ bk.symm)<|Q0n<|cK h fun bl h=>D2q U<|WL.fA 115 (vb (enc:=fZ) (l1:=p) (l2:=aH) zHL .h1 (fun _=>U) (wY .here) (vm VI _) bl) ?_
      rintro⟨bm,bn⟩ _
      exact La U<|WL.nil<|Lq<|Lp ⟨p++aH,bm,bn⟩ h .q<|.s3 .here .h1 .h1
    ·rintro t T V h
     replace h:=(a0 t).symm.trans h
     exact D2q U<|WL.nil<|Em ⟨bp,t,i64 (a+1),T,V⟩ h (Nat.lt_succ_self _) .q<|.a3
   ·exact En<|Ln<|Ln<|Lu<|Lp ⟨p,N,O⟩ h (.cons U .nil)<|.cons .here .nil
  ·rintro M R S h
   replace h:=(aY M).symm.trans h
   exact B2n U<|El<|oJ h▸Lk results45 (.tmp U .nil) fun w hw=>⟨R,S,wx,trivial,hw.sub (.cons .here .nil)⟩
def mz(c:List ze)(e:ye)(f:List (List zg))(g:(List zt)->Option xw):Nat->Int->Int->(List zt)->(List (yn×z1))->(List (ze×Int))->Option xw
 | 0,_,_,_,_,_=>none
 | h+1,b,i,d,j,k=>if decide (b<c.length) then chk (0<=b/\b<c.length) ((oM e f j k i (⟨(nth c b).y6,(nth c b).fQ⟩:ze)).bind fun a=>chk (((d++([a.1]:List zt)).length:Int)*32<=140737488355328/\((d++([a.1]:List zt)).length:Int)<=4611686018427387904) (if decide (a.2.1≠0) then none else mz c e f g h (i64 (b+1)) a.2.1 (d++([a.1]:List zt)) a.2.2.1 a.2.2.2)) else g d
def iu(a:ye)(e:Int)(b:List (List zg)):Option xw:=
 (tn a e b).bind fun d=>if !d then none else(g6 a.ya (fun y0=>sb y0)).bind fun j=>(oY b).bind fun f=>vC (fun(g:List zt)=>(ql g (fun y0 y1=>sd y0 y1)).bind fun c=>(ir a b c).bind fun h=>some (⟨c,h⟩:xw)) fun i=>mz f a b i wr 0 0 ([]:List zt) ([]:List (yn×z1)) ([]:List (ze×Int))
theorem V7(Z Q R S T V W X Y aa ab ad ae af ag ah ai aj ak a aD s r)(h:iu a aD s=some r){Ek}(hz:PZ [] Ek Z)(al:ZS Z 4 (u5 Z) Q R a.fM)(am:ZS Z 4 (fc Z) S T a.y9)(an:ZS Z 4 (rq ml) V W a.fS)(ao:ZS Z 4 (rq m7) X Y a.fK)(z:ZS Z 7 (fa Z) aa ab a.ya)(ap:ZS Z 5 (rq mg) ad ae a.yc)(aq:ZS Z 3 (fe Z) af ag a.fU)(ar:ZS Z 4 (rq j5) ah ai a.y8)(B:ZS Z 1 (m8 Z) aj ak s):
  Calls Tryz.prog 41 #[.agg #[vs Q a.fM.length R,vs S a.y9.length T,vs V a.fS.length W,vs X a.fK.length Y,vs aa a.ya.length ab,vs ad a.yc.length ae,vs af a.fU.length ag,vs ah a.y8.length ai],vi aD,vs aj s.length ak] Ek fun e w'=>∃ au:Option Addr,∃ av:Nat,∃ aw:Option Addr,∃ ax:Nat,e = .returned (.tuple #[.agg #[vs au r.fP.length av,vs aw r.xr.length ax],vi 0])/\True/\Hp [] Ek w' [row (vs au r.fP.length av) 152 4 (r.fP.flatMap kG),row (vs aw r.xr.length ax) 101 3 (r.xr.flatMap fZ)]:=by
 unfold iu at h
 refine Ng func41 U U ?_
 let D:Value:=(vs Q a.fM.length R);let E:Value:=(vs S a.y9.length T);let F:Value:=(vs V a.fS.length W);let G:Value:=(vs X a.fK.length Y);let H:Value:=(vs aa a.ya.length ab);let I:Value:=(vs ad a.yc.length ae);let J:Value:=(vs af a.fU.length ag);let K:Value:=(vs ah a.y8.length ai);let A:List Value:=[D,E,F,G,H,I,J,K];refine B0q<|Lh 3 (wu (cs:=A)) ?_
 intro M _
 refine Lh 6 (wn (cs:=[vn,vn]) zvu) fun N _=>Q1n U<|Lb<|Lb<|bK h fun aW aG h=>Le<|Lf 14 (we z5x (wh .h1))<|Q2q U<|Eg call46 hz (fun pz=>ii _ _ _ _ _ _ _ _ _ _ _ _ _ _ _ _ _ _ _ _ _ _ _ aG pz al am an ao z ap aq ar B)<|Q1n U<|Lj h (fun aH h=>?_)<|fun aH h=>?_
 ·cases h
 ·refine Ec<|Lb<|Lb<|bK h fun aX aI h=>Le<|Lf 20 (w7 pU)<|Lf 21 (Ei zjX .h1)<|Eg call83 hz (fun pz=>o7 _ _ _ (zwo:=84) (zIF:=[]) _ (zwn:=(fun y0=>sb y0)) _ aI pz z call84<|fun w' nd y0 ga0 gc0 r By hr=>XB _ _ _ _ _ hr nd By)<|Q0n<|Er (fun h'=>(by cases h'))<|fun h'=>?_
  clear h'
  refine Ec<|Lb<|bK h fun n aJ h=>D1q U<|L7 (dd:=26) U (Eh call82) .nil (cc hz .nil fun w pz ho=>Yn _ _ _ _ _ aJ pz B) ?_
  rintro aK aL _
  refine Q5n U<|Lb<|B1q U<|Lf 30 kj<|Q0n<|Er (fun h'=>(by cases h'))<|fun h'=>?_
  clear h'
  refine Ec<|B0q<|Lf 33 (we z5x (wh .h2))<|La U (Lh 35 (jK (ga qS)<|fun x=>Value.agg (wI x).toArray) fun O _=>Lh 36 (jK (ga wJ)<|Value.int .i64) ?_)
  intro P _
  let C:Value:=(vs aj s.length ak);refine Lf 37 (wN (v:=(.agg #[D,E,F,G,H,I,J,K,C,(.map<|some O),(.map<|some P),vi 0])) (Lt (l:=[.tmp 33,.tmp 34,.tmp 35,.tmp 36,.const (vi 0)]) (.r5 U U U U U) [0,1,2,3,4]) (fun _=>by kernel_rfl))<|Lh 38 (wu (cs:=[D,E,F,G,H,I,J,K,C,(.map<|some O),(.map<|some P),vi 0])) ?_
  intro ay _
  refine Q1n U<|Lb<|Le (Lh 11 (wn (cs:=[vn,vn]) zvu) fun t _=>Q0n ?_)
  refine jK1 h fun aE aM h=>Nf (fun d f g=>(aE d=some r)) (fun d f g=>[(2,C),(3,vp M),(6,vp N),(11,vp t)]) (fun d f g=>[stb M 80 A,stb N 89 [vn,vn],stb t 89 [vs f d.length g,vn],row (vs f d.length g) 152 4 (d.flatMap kG)]) ?_ ?_
  ·let L:Value:=(vs aK n.length aL);refine B1q U<|Lf 40 (wB underlying204)<|Q1n U<|WC.block<|WC.nilRow 152 4<|Hb (fun u c o b p q j k=>(mz n a s aE u c o b p q=some r)) (fun u c o b p q j k=>[(2,C),(3,vp M),(6,vp N),(10,vp ay),(11,vp t),(39,L),(40,vi (n.length:Int)),(41,vi c)]) (fun u c o b p q j k=>[row L 208 2 (n.flatMap wJ),stb M 80 A,stb N 89 [vn,vn],stb ay 216 [D,E,F,G,H,I,J,K,C,(.map<|some O),(.map<|some P),vi o],stb t 89 [vs j b.length k,vn],row (vs j b.length k) 152 4 (b.flatMap kG),wp O (ga qS) (ga wI) p,wp P (ga wJ) vI q]) (fun u c o b p q j k=>u) ⟨wr,0,0,([]:List zt),([]:List (yn×z1)),([]:List (ze×Int)),none,0⟩ h .q (.s8 .h5 .h6 .h5 .h2 .h1 .here .h1 .here) ?_
   rintro(_|aU) c o b p q j k h;·cases h
   rw[mz] at h
   refine B1n U<|Lb<|Lj h (fun aN h=>?_)<|fun aN h=>?_
   ·refine Ec<|Lb<|WC.block<|Lb<|cK h fun y h=>Le<|Es (fun w hw=>Hp.vr .here hw (by intro nd;have:=y;rw[nd] at this;omega)) ?_
    rintro⟨aY,rfl⟩
    refine Lf 43 (wL zcI y.1 y.2 vB)<|Lf 44 (wX (cs:=(wJ<|nth n c)) za3<|gV .here<|qm (enc:=wJ) (l:=n) (i:=c) (sz:=2) (fun _=>U) y.1 y.2) (Lh 13 (wn (cs:=[vi 0,vi 0]) zCr) fun aZ _=>Ll (wl zHI .here)<|Q0n<|Lb ?_)
    refine bK h fun m aO h=>cK h fun aP h=>Lv (fun i=>[4,6,8].contains i) [pp t 89 [(0,vs j b.length k)]]<|Lg 0 U (w7 lG)<|Na 1 U (wS.wk (.cons .h5 .nil)<|.stb (.cons U .nil) .nil) (w8 zvv U<|mF .here<|.head _)<|Lg 2 U q_m<|Li 3 U (we za3 (wh .here)) (WD.call0 (i:=4) (dd:=49) U (by kernel_rfl) U (.inl ⟨U,(wS.wk (.cons .h7 .nil)<|.stb (.cons U .nil) .nil)⟩) (Eh call86) (.s3 .h4 .h6 .h6) (cc hz (.s3 .h4 .h6 .h6) fun w pz ho=>Calls.mono (XD _ _ _ _ _ _ _ _ _ _ _ _ _ _ _ _ _ _ _ _ _ _ _ _ _ _ _ _ _ aO pz al am an ao z ap aq ar B ho)<|fun _ _ h'=>⟨h'.1,trivial,h'.2⟩) fun _=>WD.new (i:=5) (dd:=50) U (by kernel_rfl) U (wD (cs:=([m.1]:List zt).flatMap kG) zgW (Lt (l:=[.tmp 49]) (.cons U .nil) [0]) (fun _=>by kernel_rfl) (by unfold maxLen;omega)) (fun h'=>absurd h' (by decide)) fun a0 _=>WD.old (i:=6) (dd:=51) U (by kernel_rfl) U (fun _=>(wS.wk (.cons (.there<|.there .h7) .nil)<|.stb (.cons U .nil) .nil)) (vb (enc:=kG) (l1:=b) (l2:=([m.1]:List zt)) zgW (.there<|.there .h7) (fun _=>U) (wY .here) (vm Xq _) aP) ?_)
    rintro⟨az,aA⟩ _
    refine Lg 7 U (w7 lG)<|Nb (i:=8) U (by kernel_rfl) (by kernel_rfl) (vg (ds:=[vs az ((b++([m.1]:List zt)).length) aA,vn]) zZc (.there<|.there .h7))<|Eo (by kernel_rfl)<|Ld<|B1q U<|Lf 54 wz<|Lf 55 (w7 l6)<|Lf 56 (Ei z8n .h3)<|Q1n U<|Lj h (fun aQ h=>?_)<|fun aQ h=>?_
    ·cases h
    ·exact Ep<|Lq<|Ld<|D2q U<|WL.nil<|Em ⟨aU,i64 (c+1),m.2.1,b++([m.1]:List zt),m.2.2.1,m.2.2.2,az,aA⟩ h (Nat.lt_succ_self _) .q<|.s8 .h7 .h7 .h7 .h3 .here .here .h1 .h1
   ·exact En<|Ln<|Ln<|Lu<|Lp ⟨b,j,k⟩ h .q<|.s4 .h1 .h1 .h2 .h2
  ·rintro d f g h
   replace h:=(aM d).symm.trans h
   refine Lb<|bK h fun aF aR h=>Le<|Lf 64 (w7 lG)<|Lf 65 (Ei zvv .h2)<|Nu (dd:=66) U (Eh call43) (.cons .h3 .nil) (cc hz (.cons .h3 .nil) fun w pz ho=>gn _ _ _ (ztx:=87) (zEN:=[]) _ (ztw:=(fun y0 y1=>sd y0 y1)) _ aR pz call87 (fun w' nd y0 y1  r  hr=>XE _ _ _ _ hr nd ) ho) ?_
   rintro  aS
   refine Nr (cs':=[vs f aF.length g,vn]) .h3 (by rw[aS])<|Q0n<|Lb<|bK h fun aV aT h=>Le<|Lf 67 (we z5x (wh .h2))<|La U<|Lf 69 (w7 lG)<|Lf 70 (Ei zvv .here)<|L7 (dd:=71) U (Eh call45) .nil (kb hz .nil (.cons .h1 .nil) fun w pz ho la=>X8 _ _ _ _ _ _ _ _ _ _ _ _ _ _ _ _ _ _ _ _ _ _ _ _ _ aT pz ((al.mono<|zl).weak (fun _ _ h=>qn zl h)) ((am.mono<|zl).weak (fun _ _ h=>qr zl h)) (an.mono<|zl) (ao.mono<|zl) ((z.mono<|zl).weak (fun _ _ h=>vL zl h)) (ap.mono<|zl) ((aq.mono<|zl).weak (fun _ _ h=>qs zl h)) (ar.mono<|zl) ((B.mono<|zl).weak (fun _ _ h=>qY zl h))<|ZA.row (la _ (.head _) _) (RR.flat (enc:=kG) (fun _=>U) _) ⟨w,pz.1⟩) ?_
   rintro aB aC _
   exact Lf 72 (w7 Xr)<|Ll (vg (ds:=[vs f aF.length g,vs aB aV.length aC]) zZd .h1)<|Q0n<|B0q<|Lf 73 (we zHM (wh .here))<|Ll (wl zHN .h4)<|Q1n U<|El<|oJ h▸Lk results41 (.agg U zHM U (wh .here)<|.tmp U .nil) fun w hw=>⟨f,g,aB,aC,qq,trivial,hw.sub (.s2 .h3 .h2)⟩
def jl(b:List (Int->Option Int))(c:Int)(d:Int->Option Int):Nat->Int->Int->Option Int
 | 0,_,_=>none
 | f+1,e,a=>if decide (a<b.length) then chk (0<=a/\a<b.length) (((nth b a) c).bind fun g=>jl b c d f (i64 (e+g)) (i64 (a+1))) else d e
def oN(a:List (Int->Option Int))(b:Int):Option Int:=
 vC (fun(c:Int)=>some c) fun d=>jl a b d wr 0 0
theorem XF(Z i j c e r)(h:oN c e=some r){Ek}(hz:PZ [] Ek Z)(n:ZS Z 1 (uU Z) i j c):
  RC 91 #[vs i c.length j,vi e] Ek (vi r) [] []:=by
 unfold oN at h
 refine Lz func91 U U<|B1n U<|B1n U<|jK1 h fun k o h=>Nd (fun d=>(k d=some r)) (fun d=>[(5,vi d)]) (fun d=>[]) ?_ ?_
 ·refine B1q U<|Lf 9 (wB underlying219)<|Q1n U<|WC.block<|E4 (fun g a b=>(jl c e k g a b=some r)) (fun g a b=>[(1,vi e),(5,vi a),(8,vs i c.length j),(9,vi (c.length:Int)),(10,vi b)]) (fun g a b=>[]) (fun g a b=>g) ⟨wr,0,0⟩ h .q .nil ?_
  rintro(_|z) a b h;·cases h
  rw[jl] at h
  refine B1n U<|Lb<|Lj h (fun p h=>?_)<|fun p h=>?_
  ·refine Ec<|Lb<|WC.block<|Lb<|cK h fun q h=>Le<|L0 (dd:=12) (Z:=Z) (Pr:=(uU Z)) zCx n q ?_
   rintro A B s C ⟨t,u,rfl,v,x⟩
   exact Lf 13 (w8 z1e9 U<|vx hz.pv s)<|Q1n U<|bK h fun m y h=>D3q U<|Lm 17 (wV (l:=[.tmp 16]) (f:=t) (caps:=u) v<|.cons U .nil) .nil (fun w hw=>x w (hz.now hw) e m  y)<|Q2q U<|WL.nil<|Lq<|Ld<|D2q U<|WL.nil<|Em ⟨z,i64 (a+m),i64 (b+1)⟩ h (Nat.lt_succ_self _) .q .nil
  ·exact En<|Ln<|Ln<|Lu<|Lp a h (.cons U .nil) .nil
 ·rintro d h
  replace h:=(o d).symm.trans h
  exact B2n U<|El<|oJ h▸Ea results91
def iv:List (Int->Option Int)->Int->Int->Option Int
 | [],_,s=>some s
 | f::l,t,s=>(f t).bind fun x=>iv l t (i64 (s+x))
theorem XS(a b:Int):i64 (i64 a+b)=i64 (a+b):=by
 unfold i64 IntKind.wrap
 simp only[IntKind.signed,IntKind.bits]
 simp
 omega
theorem GL{t l l'}(h:l.Perm l'):∀ {s:Int},iv l t s=iv l' t s:=by
 induction h with
 | nil=>intro s;rfl
 | cons f _ ih=>intro s;rw[iv,iv];cases f t with
  | none=>rfl
  | some x=>exact ih
 | swap f g l=>
  intro s
  rw[iv,iv]
  cases hf:f t with
  | none=>
   cases hg:g t with
   | none=>rfl
   | some y=>simp only[oB,Option.bind_none,iv,hf]
  | some x=>
   cases hg:g t with
   | none=>simp only[oB,Option.bind_none,iv,hg]
   | some y=>
    simp only[oB,iv,hf,hg]
    rw[XS,XS,show s+y+x=s+x+y by omega]
 | trans _ _ ih1 ih2=>intro s;exact ih1.trans ih2
theorem V8{l:List (Int->Option Int)}{t:Int}{k:Int->Option Int}(hl:l.length<=4611686018427387904):∀(n:Nat) (s v:Int),0<=v->v<=l.length->l.length<n+v->jl l t k n s v=(iv (l.drop v.toNat) t s).bind k
 | 0,s,v,h0,h1,h2=>by omega
 | n+1,s,v,h0,h1,h2=>by
  rw[jl]
  by_cases h:v<l.length
  ·rw[if_pos (decide_eq_true h),ws ⟨h0,h⟩,List.drop_eq_getElem_cons (show v.toNat<l.length by omega),iv]
   have e:nth l v=l[v.toNat]'(by omega):=by unfold nth;simp[show v.toNat<l.length by omega]
   rw[e]
   cases (l[v.toNat]'(by omega)) t with
   | none=>rfl
   | some x=>
    rw[oB,oB,va (x:=v+1) (by omega),V8 hl n _ (v+1) (by omega) (by omega) (by omega),show(v+1).toNat=v.toNat+1 by omega]
  ·rw[if_neg (by simpa using h),List.drop_eq_nil_of_le (by omega)];rfl
theorem GM{l:List (Int->Option Int)}{t:Int}(hl:l.length<=4611686018427387904):oN l t=iv l t 0:=by
 show jl l t (fun s=>some s) wr 0 0=_
 rw[V8 hl wr 0 0 (by omega) (by omega) (by rw[show wr=18446744073709551616 from U];omega)]
 simp
def uE(l:List (Int->Option Int))(t:Int):Option Int:=chk (l.length<=4611686018427387904) (iv l t 0)
theorem rg(Z ao cap l t r)(h:uE l t=some r){Ek}(hz:PZ [] Ek Z)(hs:WR Z (uU Z) ao cap l):
  RC 91 #[vs ao l.length cap,vi t] Ek (vi r) [] []:=by
 obtain⟨l',hp,hs⟩:=hs
 obtain⟨hb,h⟩:=wa h
 rw[<- hp.length_eq] at hb ⊢
 exact XF _ _ _ _ _ _ ((GM hb).trans ((GL hp).trans h)) hz hs
def sx(ztG:Int)(zfX:Int)(ztH:List (Int->Option Int))(zEW:List (Int×Int))(z6U:ye):Option Int:=
 if decide (zfX<0) then(uE ztH ztG).bind fun a=>some a else(uE ztH ztG).bind fun b=>chk (0<=zfX/\zfX<z6U.fK.length) (chk ((((nth z6U.fK zfX).yD):Int)≠0) (some (min b (i64 ((ww zEW zfX 0)+(i64 (Int.tdiv ztG ((nth z6U.fK zfX).yD))))))))
theorem nH(Z zTv zTw zTx zTy zTz zTA zTB zTC zTD zTE zTF zTG zTH zTI zTJ zTK zTL zTM zTN zTO zTP zTQ zTR ztG zfX ztH zEW z6U r)(h:sx ztG zfX ztH zEW z6U=some r)(Ek)(hz:PZ [] Ek Z)(hmW:ZA Z (wp zTA vI vI zEW))(zKi:ZC Z zTv [vi zfX])(zTS:WR Z (uU Z) zTx zTy ztH)(zTT:ZC Z zTw [vs zTx ztH.length zTy])(z15D:ZC Z zTz [.map (some zTA)])(z1tm:ZS Z 4 (u5 Z) zTC zTD z6U.fM)(z1tn:ZS Z 4 (fc Z) zTE zTF z6U.y9)(z1to:ZS Z 4 (rq ml) zTG zTH z6U.fS)(z15E:ZS Z 4 (rq m7) zTI zTJ z6U.fK)(z1tp:ZS Z 7 (fa Z) zTK zTL z6U.ya)(z1tq:ZS Z 5 (rq mg) zTM zTN z6U.yc)(z1tr:ZS Z 3 (fe Z) zTO zTP z6U.fU)(z1ts:ZS Z 4 (rq j5) zTQ zTR z6U.y8)(z15F:ZC Z zTB [vs zTC z6U.fM.length zTD,vs zTE z6U.y9.length zTF,vs zTG z6U.fS.length zTH,vs zTI z6U.fK.length zTJ,vs zTK z6U.ya.length zTL,vs zTM z6U.yc.length zTN,vs zTO z6U.fU.length zTP,vs zTQ z6U.y8.length zTR]):
  RC 143 #[vi ztG,vq zTv,vq zTw,vq zTz,vq zTB] Ek (vi r) [] []:=by
 unfold sx at h
 refine Hk func143 U U<|B1n U<|Lb<|B0q<|Lf 7 (w8 wm U<|vx hz.pv zKi)<|Q1n U<|Lj h (fun a h=>?_)<|fun a h=>?_
 ·exact Lb<|bK h fun g b h=>Le<|Lf 9 (w8 zZe U<|vx hz.pv zTT)<|La U<|Eg call91 hz (fun pz=>rg _ _ _ _ _ _ b pz zTS)<|Q1n U<|El<|L4<|oJ h▸Ea results143
 ·refine Ec<|Lb<|bK h fun i c h=>cK h fun d h=>cK h fun e h=>Lv nc []<|Li 0 U (w8 zZe U<|vx hz.pv zTT)<|Lg 1 U q_m<|L5 2 U (Eh call91) (cc hz .nil fun w pz ho=>rg _ _ _ _ _ _ c pz zTS)<|Li 3 U (w8 zNS U<|vx hz.pv z15D)<|Li 4 U (w8 wm U<|vx hz.pv zKi)<|Li 5 U (Gv (k:=zfX) (dflt:=(0:Int)) gc underlying229 qp U U U hz.pv hmW)<|Lg 6 U q_m<|Lg 7 U (w7 pV)<|Li 8 U (w8 zjY U<|wP hz.pv z15F)<|Li 9 U (w8 wm U<|vx hz.pv zKi)<|L8 (j:=10) (dd:=22) (by kernel_rfl) z2W z2X (Z:=Z) (Pr:=(rq m7)) znN z15E d ?_
  rintro l m f n rfl
  exact Lg 11 U (w7 lF)<|Li 12 U (w8 wm U<|wP hz.pv f)<|Lg 13 U (cM e)<|Lg 14 U fb<|Lg 15 U (KA U U U)<|Lg 16 U q_z<|Eo (by kernel_rfl)<|Ld<|El<|oJ h▸Ea results143
def mK(a:zg)(b:ze):Option Bool:=
 some (decide ((⟨a.y6,a.fQ⟩:ze)=b))
theorem nI(Z e c d r)(h:mK c d=some r){Ek}(hz:PZ [] Ek Z)(f:ZC Z e [vi d.y6,vi d.fQ]):
  RC 138 #[.agg #[vi c.y6,vi c.fX,vi c.fQ],vq e] Ek (.bool r) [] []:=by
 unfold mK at h
 refine Lz func138 U U<|Lb<|Le (Lh 2 (wu (cs:=[vi c.y6,vi c.fX,vi c.fQ])) fun g _=>Q1n U<|B0q<|Lf 4 (w7 jV)<|Lf 5 (Ei wm .here)<|Lf 6 (w7 sn)<|Lf 7 (Ei wm .here)<|Lf 8 (wN (v:=(.agg #[vi c.y6,vi c.fQ])) (Lt (l:=[.tmp 5,.tmp 7]) (.r2 U U) [0,1]) (fun _=>by kernel_rfl))<|Lf 9 (we zHO (vy hz.pv f))<|Lf 10 (dc (enc:=qy) (a:=(⟨c.y6,c.fQ⟩:ze)) (b:=d) zZf)<|Q1n U<|El ?_)
 exact oJ h▸Ea results138
def tB(a:ye)(b:Int):Option Int:=
 if decide ((i64 (b-(a.fM.length:Int)))>=0) then chk (0<=(i64 (b-(a.fM.length:Int)))/\(i64 (b-(a.fM.length:Int)))<a.fS.length) (some ((nth a.fS (i64 (b-(a.fM.length:Int)))).yv)) else some 0
theorem b9(Z b c d e f g i j k l m n o p q s a t r)(h:tB a t=some r){Ek}(hz:PZ [] Ek Z)(z:ZS Z 4 (u5 Z) b c a.fM)(A:ZS Z 4 (fc Z) d e a.y9)(u:ZS Z 4 (rq ml) f g a.fS)(B:ZS Z 4 (rq m7) i j a.fK)(C:ZS Z 7 (fa Z) k l a.ya)(D:ZS Z 5 (rq mg) m n a.yc)(E:ZS Z 3 (fe Z) o p a.fU)(F:ZS Z 4 (rq j5) q s a.y8):
  RC 90 #[.agg #[vs b a.fM.length c,vs d a.y9.length e,vs f a.fS.length g,vs i a.fK.length j,vs k a.ya.length l,vs m a.yc.length n,vs o a.fU.length p,vs q a.y8.length s],vi t] Ek (vi r) [] []:=by
 unfold tB at h
 refine Lz func90 U U<|Lb<|Le (Lh 2 (wu (cs:=[vs b a.fM.length c,vs d a.y9.length e,vs f a.fS.length g,vs i a.fK.length j,vs k a.ya.length l,vs m a.yc.length n,vs o a.fU.length p,vs q a.y8.length s])) fun G _=>Q1n U<|Lb<|B1q U<|Lf 7 (w7 sp)<|Lf 8 (Ei zfl .here)<|Lf 9 (wB underlying63)<|Q2n U<|B2n U<|Lj h (fun v h=>?_)<|fun v h=>?_)
 ·refine Lb<|cK h fun x h=>Le<|Lf 13 (w7 cq)<|Lf 14 (Ei zrH .here)<|La U<|L0 (dd:=16) (Z:=Z) (Pr:=(rq ml)) zrG u x ?_
  rintro H I y J rfl
  exact Lf 17 (w7 nw)<|Lf 18 (w8 wm U<|wP hz.pv y)<|Q1n U<|El<|L4<|oJ h▸Ea results90
 ·exact Ec<|B1n U<|El<|oJ h▸Ea results90
def gY(b:List zg)(d:ye)(f:List (ze×Int))(g:(List Int)->Option (List Int)):Nat->(List Int)->Int->(List (Int×Int))->Option (List Int)
 | 0,_,_,_=>none
 | h+1,e,a,c=>if decide (a<b.length) then chk (0<=a/\a<b.length) (chk ((((e++([ww c ((nth b a).y6) 0]:List Int)).length:Nat):Int)*8<=140737488355328/\(((e++([ww c ((nth b a).y6) 0]:List Int)).length:Nat):Int)<=4611686018427387904) ((tB d ((nth b a).y6)).bind fun i=>chk (0<=((nth b a).fQ)/\((nth b a).fQ)<d.fK.length) (gY b d f g h (e++([ww c ((nth b a).y6) 0]:List Int)) (i64 (a+1)) (wU c ((nth b a).fX) (i64 ((i64 ((i64 ((ww c ((nth b a).y6) 0)+(ww f (⟨(nth b a).y6,(nth b a).fQ⟩:ze) 0)))-i))-((nth d.fK ((nth b a).fQ)).yD))))))) else g e
def pK(a:ye)(b:List zg)(c:List (ze×Int)):Option (List Int):=
 vC (fun(d:List Int)=>some d) fun e=>gY b a c e wr ([]:List Int) 0 ([]:List (Int×Int))
theorem tC(Z u x y z B D E F G H I J K L M N O P m a c g r)(h:pK a c g=some r){Ek}(hz:Pz [wp m (ga qy) vI g] Ek Z)(X:ZS Z 4 (u5 Z) u x a.fM)(Y:ZS Z 4 (fc Z) y z a.y9)(aa:ZS Z 4 (rq ml) B D a.fS)(Q:ZS Z 4 (rq m7) E F a.fK)(ab:ZS Z 7 (fa Z) G H a.ya)(ad:ZS Z 5 (rq mg) I J a.yc)(ae:ZS Z 3 (fe Z) K L a.fU)(af:ZS Z 4 (rq j5) M N a.y8)(ag:ZS Z 3 (rq mG) O P c)(iA:Ho Ek [wp m (ga qy) vI g]):
  Calls Tryz.prog 139 #[.agg #[vs u a.fM.length x,vs y a.y9.length z,vs B a.fS.length D,vs E a.fK.length F,vs G a.ya.length H,vs I a.yc.length J,vs K a.fU.length L,vs M a.y8.length N],vs O c.length P,.map (some m)] Ek fun e w'=>∃ R:Option Addr,∃ S:Nat,e = .returned (vs R r.length S)/\True/\Hp (fps [wp m (ga qy) vI g]) Ek w' [row (vs R r.length S) 3 1 (r.flatMap e3),wp m (ga qy) vI g]:=by
 unfold pK at h
 refine Ey func139 U iA U ?_
 let A:List Value:=[vs u a.fM.length x,vs y a.y9.length z,vs B a.fS.length D,vs E a.fK.length F,vs G a.ya.length H,vs I a.yc.length J,vs K a.fU.length L,vs M a.y8.length N];refine B0q<|Lh 3 (wu (cs:=A)) ?_
 intro T _
 refine Q1n U<|Lb<|Le (Lh 11 (jK vI<|Value.int .i64) fun V _=>Q1n U<|B1n U ?_)
 refine jK1 h fun W ah h=>Nf (fun n q s=>(W n=some r)) (fun n q s=>[(8,vs q n.length s)]) (fun n q s=>[row (vs q n.length s) 3 1 (n.flatMap e3),wp m (ga qy) vI g]) ?_ ?_
 ·refine B1q U<|Lf 13 (wB underlying84)<|Q1n U<|WC.block<|WC.nilRow 3 1<|Hj (fun t d b f o p=>(gY c a g W t d b f=some r)) (fun t d b f o p=>[(2,(.map<|some m)),(3,vp T),(7,(.map<|some V)),(8,vs o d.length p),(12,vs O c.length P),(13,vi (c.length:Int)),(14,vi b)]) (fun t d b f o p=>[row (vs o d.length p) 3 1 (d.flatMap e3),wp m (ga qy) vI g,stb T 80 A,wp V vI vI f]) (fun t d b f o p=>t) ⟨wr,([]:List Int),0,([]:List (Int×Int)),none,0⟩ h .q (.s4 .here .h2 .h1 .here) ?_
  rintro(_|ar) d b f o p h;·cases h
  rw[gY] at h
  refine B1n U<|Lb<|Lj h (fun ai h=>?_)<|fun ai h=>?_
  ·refine Ec<|Lb<|WC.block<|Lb<|cK h fun aj h=>Le<|L0 (dd:=16) (Z:=Z) (Pr:=(rq mG)) zaL ag aj ?_
   rintro av aw ak ax rfl
   refine Lf 17 (we z7e (vy hz.pv ak)) (Lh 10 (wn (cs:=[vi 0,vi 0,vi 0]) zgV) fun ay _=>Ll (wl zfk .here)<|Q0n<|Lb ?_)
   refine cK h fun al h=>D2q U<|Lf 20 (w7 jV)<|Lf 21 (Ei wm .here)<|Lf 22 (qL (k:=((nth c b).y6)) (dflt:=(0:Int)) gc underlying229 qp .h4) (Lh 23 (wD (cs:=([ww f ((nth c b).y6) 0]:List Int).flatMap e3) zaM (Lt (l:=[.tmp 22]) (.cons U .nil) [0]) (fun _=>by kernel_rfl) (by unfold maxLen;omega)) fun az _=>WL.fA 24 (vb (enc:=e3) (l1:=d) (l2:=([ww f ((nth c b).y6) 0]:List Int)) zaM .h2 (fun _=>U) (wY .here) (vm KO _) al) ?_)
   rintro⟨am,an⟩ _
   refine Q1n U<|bK h fun au ao h=>cK h fun ap h=>Lv (fun i=>[28].contains i) []<|Lg 0 U q_m<|Lg 1 U (w7 fy)<|Li 2 U (Ei wm .h2)<|Lg 3 U q_m<|Lg 4 U (w7 jV)<|Li 5 U (Ei wm .h2)<|Li 6 U (qL (k:=((nth c b).y6)) (dflt:=(0:Int)) gc underlying229 qp .h5)<|Lg 7 U q_m<|Lg 8 U (w7 jV)<|Li 9 U (Ei wm .h2)<|Lg 10 U (w7 sn)<|Li 11 U (Ei wm .h2)<|Lg 12 U (wN (v:=(.agg #[(vi<|(nth c b).y6),(vi<|(nth c b).fQ)])) (Lt (l:=[.tmp 34,.tmp 36]) (.r2 U U) [0,1]) (fun _=>by kernel_rfl))<|Li 13 U (qL (k:=(⟨(nth c b).y6,(nth c b).fQ⟩:ze)) (dflt:=(0:Int)) zZh underlying150 qp .h3)<|Lg 14 U fb<|Li 15 U (we z5x (wh .h4))<|Lg 16 U (w7 jV)<|Li 17 U (Ei wm .h2)<|L5 18 U (Eh call90) (cc hz .nil fun w pz ho=>b9 _ _ _ _ _ _ _ _ _ _ _ _ _ _ _ _ _ _ _ _ ao pz X Y aa Q ab ad ae af)<|Lg 19 U oU<|Lg 20 U (w7 pV)<|Li 21 U (Ei zjY .h4)<|Lg 22 U (w7 sn)<|Li 23 U (Ei wm .h2)<|L8 (j:=24) (dd:=49) (by kernel_rfl) z2W z2X (Z:=Z) (Pr:=(rq m7)) znN Q ap ?_
   rintro aA aB aq aC rfl
   let C:=(i64 ((i64 ((ww f ((nth c b).y6) 0)+(ww g (⟨(nth c b).y6,(nth c b).fQ⟩:ze) 0)))-au));refine Lg 25 U (w7 lF)<|Li 26 U (w8 wm U<|wP hz.pv aq)<|Lg 27 U oU<|Nb (i:=28) U (by kernel_rfl) (by kernel_rfl) (kn (k:=((nth c b).fX)) (v:=i64 (C-((nth a.fK<|(nth c b).fQ).yD))) gc underlying229 .h5)<|Eo (by kernel_rfl)<|Lq<|Ld<|D2q U<|WL.nil ?_
   exact Em ⟨ar,d++([ww f ((nth c b).y6) 0]:List Int),i64 (b+1),(wU f ((nth c b).fX)<|i64 (C-((nth a.fK<|(nth c b).fQ).yD))),am,an⟩ h (Nat.lt_succ_self _) .q<|.s4 .h1 .h3 .h3 .here
  ·exact En<|Ln<|Ln<|Lu<|Lp ⟨d,o,p⟩ h (.cons U .nil)<|.a2
 ·rintro n q s h
  replace h:=(ah n).symm.trans h
  exact B2n U<|El<|oJ h▸Lk results139 (.tmp U .nil) fun w hw=>⟨q,s,wx,trivial,hw.sub .a2⟩
def mL(a:zg)(b:ze):Option Bool:=
 some (decide (a.fX=b.y6))
theorem nJ(Z c a b r)(h:mL a b=some r){Ek}(hz:PZ [] Ek Z)(d:ZC Z c [vi b.y6,vi b.fQ]):
  RC 140 #[.agg #[vi a.y6,vi a.fX,vi a.fQ],vq c] Ek (.bool r) [] []:=by
 unfold mL at h
 refine Lz func140 U U<|Lb<|Le (Lh 2 (wu (cs:=[vi a.y6,vi a.fX,vi a.fQ])) fun e _=>Q1n U<|B0q<|Lf 4 (w7 fy)<|Lf 5 (Ei wm .here)<|Lf 6 (w7 W7)<|Lf 7 (w8 wm U<|wP hz.pv d)<|Q2n U<|El ?_)
 exact oJ h▸Ea results140
def lm(a:yG)(b:Int)(c:Int):Option Int:=
 chk ((a.yX:Int)≠0) (some (i64 (a.yQ*(i64 ((i64 (Int.tdiv (i64 (c+b)) a.yX))+1)))))
theorem Wq(Z b c a d e r)(h:lm a d e=some r){Ek}(hz:PZ [] Ek Z)(g:ZS Z 3 (rq Jl) b c a.xd):
  RC 142 #[.agg #[.string a.yl,.string a.yu.yh,.string a.yu.yR,.string a.yu.yS,vi a.yX,vi a.yQ,vs b a.xd.length c],vi d,vi e] Ek (vi r) [] []:=by
 unfold lm at h
 refine Ng func142 U U<|Lb<|Le (Lh 3 (wu (cs:=[.string a.yl,.string a.yu.yh,.string a.yu.yR,.string a.yu.yS,vi a.yX,vi a.yQ,vs b a.xd.length c])) fun i _=>Q1n U<|Lb ?_)
 exact cK h fun f h=>Lv nc []<|Lg 0 U (w7 pW)<|Li 1 U (Ei wm .here)<|Lg 2 U q_m<|Lg 3 U q_m<|Lg 4 U fb<|Lg 5 U (w7 VK)<|Li 6 U (Ei wm .here)<|Lg 7 U (cM f)<|Lg 8 U fb<|Lg 9 U uM<|Lg 10 U q_z<|Eo (by kernel_rfl)<|Ld<|El<|oJ h▸Ea results142
def vS(b:Int)(c:yG)(d:Int):Option Int:=
 (lm c d b).bind fun a=>some a
theorem nK(Z b c d e f a g r)(h:vS f a g=some r){Ek}(hz:PZ [] Ek Z)(i:ZS Z 3 (rq Jl) c d a.xd)(j:ZC Z b [.string a.yl,.string a.yu.yh,.string a.yu.yR,.string a.yu.yS,vi a.yX,vi a.yQ,vs c a.xd.length d])(k:ZC Z e [vi g]):
  RC 141 #[vi f,vq b,vq e] Ek (vi r) [] []:=by
 unfold vS at h
 exact Ng func141 U U<|B1n U<|Lb<|bK h fun m l h=>Le<|Lf 5 (we zNK (vy hz.pv j))<|Lf 6 (w8 wm U<|vx hz.pv k)<|La U<|Eg call142 hz (fun pz=>Wq _ _ _ _ _ _ _ l pz i)<|Q1n U<|El<|oJ h▸Ea results141
end Go.Proofs.YtaefhckdgfpeaaaGreat

/- A part of this claim's proof: models of functions, walks, plain laws. No conditions. -/
import Derived.Test.YtaefhckdgfpeaaaGreatWopi
set_option linter.all false
namespace Go.Proofs.YtaefhckdgfpeaaaGreat
open Go Go.RowKit Sep Tryz
variable {f:List Int}{g i:List yj}{j:List ym}{k:(List Int)->Option (List Int×Int)}{l:Int}
set_option maxRecDepth 30000
set_option maxHeartbeats 4000000
def kq(b:List yj)(c:List yj)(e:Int->Option (List Int×Int)):Nat->Int->Int->Option (List Int×Int)
 | 0,_,_=>none
 | g+1,d,a=>if decide (a<b.length) then vC (fun(h:Int)=>kq b c e g h (i64 (a+1))) fun f=>chk (0<=a/\a<b.length) (chk (0<=a/\a<c.length) (if decide ((⟨(nth b a).yh,(nth b a).yd⟩:yj)≠(⟨(nth c a).yh,(nth c a).yd⟩:yj)) then chk (0<=a) (f (bits .or .i64 d (i64 (1*2 ^ min (a:Int).toNat 64)))) else f d)) else e d
def f0(a:Int)(b:Int×Int)(c:List Int):Option (Bool×(Nat×List Int)):=
 chk (0<=a/\a<256) (chk (0<=b.2/\b.2<256) (some (true,(0,c.set (a:Int).toNat (max (nth c a) (nth c b.2))))))
def kr(b:List yj)(c:List yj)(d:List ym)(e:(List Int)->Option (List Int×Int)):Nat->(List Int)->Int->Option (List Int×Int)
 | 0,_,_=>none
 | h+1,f,a=>if decide (a>=0) then vC (fun(i:List Int)=>kr b c d e h i (i64 (a-1))) fun j=>(kK (⟨b,c,d⟩:yM) a).bind fun g=>vC (fun k=>j k) fun l=>(gg (Nat×List Int) (fun(x:Int×Int) (s:Nat×List Int)=>chk (s.1=0) (f0 a x s.2)) (0,f) g.1 g.2).bind fun m=>l m.2 else e f
theorem ne{n r}(h:kr g i j k n f l=some r):∃ m,n=m+1:=by
 cases n with
 | zero=>cases h
 | succ m=>exact⟨m,rfl⟩
def f1(b:List Int)(a:Int×Int)(c:Int):Option (Bool×(Nat×Int)):=
 chk (0<=a.2/\a.2<256) (if decide ((nth b a.2)=1) then some (false,(1,a.1)) else some (true,(0,c)))
def gk(e:Int)(f:List yj)(g:List yj)(h:List ym)(i:List Int)(j:(List Int)->Option (List Int×Int)):Nat->(List Int)->Int->Option (List Int×Int)
 | 0,_,_=>none
 | m+1,b,d=>if decide (d≠e) then rl (fun(n:List Int) (o:Int)=>gk e f g h i j m n o) fun p=>vC (fun(a:Int)=>if decide (a<0) then some (([]:List Int),6) else chk (((b++([a]:List Int)).length:Int)*8<=140737488355328/\((b++([a]:List Int)).length:Int)<=4611686018427387904) (chk (0<=a) (p (b++([a]:List Int)) (bits .or .i64 d (i64 (1*2 ^ min (a:Int).toNat 64)))))) fun k=>(kK (⟨f,g,h⟩:yM) d).bind fun l=>(gg (Nat×Int) (fun(x:Int×Int) (s:Nat×Int)=>chk (s.1=0) (f1 i x s.2)) (0,-1) l.1 l.2).bind fun c=>if c.1=0 then k c.2 else if c.1=1 then k c.2 else none else j b
theorem nf{n a b r}(h:gk l g i j f k n a b=some r):∃ m,n=m+1:=by
 cases n with
 | zero=>cases h
 | succ m=>exact⟨m,rfl⟩
def sF(c:List ym)(a:List yj)(d:List yj):Option (List Int×Int):=
 (mM (⟨a,d,c⟩:yM)).bind fun e=>if !e then none else vC (fun(b:Int)=>(qU c a).bind fun f=>if !f then some (([]:List Int),6) else chk (0<=b/\b<256) (vC (fun(g:List Int)=>vC (fun(h:List Int)=>some (h,0)) fun i=>gk b a d c g i wr ([]:List Int) 0) fun j=>kr a d c j wr ((List.replicate 256 (0:Int)).set (b:Int).toNat 1) b)) fun k=>kq a d k wr 0 0
theorem VX(Z aX aY aZ a0 a1 a2 aA ae ah r)(h:sF aA ae ah=some r){Ek}(hz:PZ [] Ek Z)(aS:ZS Z 4 (rq j5) aX aY aA)(aO:ZS Z 2 (rq vD) aZ a0 ae)(aT:ZS Z 2 (rq vD) a1 a2 ah):
  Calls Tryz.prog 5 #[vs aX aA.length aY,vs aZ ae.length a0,vs a1 ah.length a2] Ek fun e w'=>∃ a7:Option Addr,∃ a8:Nat,e = .returned (.tuple #[vs a7 r.1.length a8,vi r.2])/\True/\Hp [] Ek w' [row (vs a7 r.1.length a8) 3 1 (r.1.flatMap e3)]:=by
 unfold sF at h
 let L:Value:=(vs aX aA.length aY);let M:Value:=(vs aZ ae.length a0);let N:Value:=(vs a1 ah.length a2);refine E7 (vs:=[L,M,N]) (pre:=[]) (env:=[(0,L),(1,M),(2,N)]) func5 U ntmps5 (Hp.nil Ek _) U ?_
 refine Ht ?_
 letI:Rnd:=ve []
 refine B2n U<|Lb<|Le<|La U<|La U<|La U<|Lf 23 (wN (v:=(.agg #[M,N,L])) (Lt (l:=[.tmp 20,.tmp 21,.tmp 22]) (.r3 U U U) [0,1,2]) (fun _=>by kernel_rfl)) (Lh 8 (wn (cs:=[vn,vn,vn]) z1ej) fun c _=>Ll (wl z1ek .here)<|Q0n<|Lb<|Lb ?_)
 refine bK h fun ct bu h=>Le<|Lf 24 (we zHQ (wh .here))<|Eg call17 hz (fun pz=>nS _ _ _ _ _ _ _ _ _ bu pz aO aT aS)<|Q1n U<|Lj h (fun bv h=>?_)<|fun bv h=>?_
 ·cases h
 ·refine Ec<|B1n U ?_
  obtain⟨be,bw,h⟩:=wE h
  let A:List Value:=[M,N,L];refine Nd (fun S=>(be S=some r)) (fun S=>[(0,L),(1,M),(8,vp c),(9,vi S)]) (fun S=>[stb c 103 A,qK []]) ?_ ?_
  ·let P:Value:=(vi (ae.length:Int));refine B1q U<|Lf 28 (wB underlying27)<|Q1n U<|WC.block<|E4 (fun aP ai aa=>(kq ae ah be aP ai aa=some r)) (fun aP ai aa=>[(0,L),(1,M),(2,N),(8,vp c),(9,vi ai),(28,P),(29,vi aa)]) (fun aP ai aa=>[stb c 103 A,qK []]) (fun aP ai aa=>aP) ⟨wr,0,0⟩ h .q .a2 ?_
   rintro(_|ck) ai aa h;·cases h
   rw[kq] at h
   refine B1n U<|Lb<|Lj h (fun bx h=>?_)<|fun bx h=>?_
   ·refine Ec<|jK1 h fun cl bz h=>Nd (fun av=>(cl av=some r)) (fun av=>[(0,L),(1,M),(2,N),(8,vp c),(9,vi av),(28,P),(29,vi aa)]) (fun av=>[stb c 103 A,qK []]) ?_ ?_
    ·refine WC.block<|B2n U<|Lb<|cK h fun bA h=>cK h fun bB h=>Lv nc []<|Lg 0 U q_m<|Lg 1 U q_m<|L8 (j:=2) (dd:=34) (by kernel_rfl) z2W z2X (Z:=Z) (Pr:=(rq vD)) z5y aO bA ?_
     rintro cu cv bC cw rfl
     refine Li 3 U (we z8o (vy hz.pv bC))<|Lg 4 U q_m<|Lg 5 U q_m<|L8 (j:=6) (dd:=38) (by kernel_rfl) z2W z2X (Z:=Z) (Pr:=(rq vD)) z5y aT bB ?_
     rintro cx cy bD cz rfl
     refine Li 7 U (we z8o (vy hz.pv bD))<|Lg 8 U (XZ (enc:=vD) (a:=(⟨(nth ae aa).yh,(nth ae aa).yd⟩:yj)) (b:=(⟨(nth ah aa).yh,(nth ah aa).yd⟩:yj)) zZv U U)<|Eo (by kernel_rfl)<|Ld<|Lj h (fun bE h=>?_)<|fun bE h=>?_
     ·exact cK h fun bF h=>D2q U<|Lf 43 (cN bF)<|Lf 44 VF<|La U<|WL.nil<|Lq<|Lp (bits .or .i64 ai<|i64 (1*2 ^ min (aa:Int).toNat 64)) h .q<|.a2
     ·exact Ep<|Lq<|Lp ai h .q<|.a2
    ·rintro av h
     replace h:=(bz av).symm.trans h
     exact D2q U<|WL.nil<|Em ⟨ck,av,i64 (aa+1)⟩ h (Nat.lt_succ_self _) .q<|.a2
   ·exact En<|Ln<|Ln<|Lu<|Lp ai h .q<|.a2
  ·rintro S h
   replace h:=(bw S).symm.trans h
   refine Lb<|Lb<|bK h fun cA bG h=>D2q U<|Eg call18 hz (fun pz=>rU _ _ _ _ _ _ _ _ bG pz aS aO)<|Q1n U<|Lj h (fun bH h=>?_)<|fun bH h=>?_
   ·refine B2n U<|El<|L4<|WX.nilRow 3 1 ?_
    obtain rfl:=oJ h
    exact Hz .h2 results5 (.tmp U<|.tmp U .nil)<|fun w hw=>⟨none,0,qq,trivial,hw.sub (.cons .here .nil)⟩
   ·refine Ec<|Lb<|Le (Lh 11 (dh (f:=Value.int .i64) (m:=256) (z:=0) z1ep) fun d _=>Q0n<|Lb ?_)
    refine cK h fun a9 h=>D1q U<|Lf 51 (qF zCy a9 jL)<|Ll (ce (f:=Value.int .i64) (u:=1) jM .here a9)<|Q0n<|jK1 h fun bf bI h=>Dl (fun aB y=>(bf y=some r)) (fun aB y=>[(8,vp c),(9,vi S),(11,vp d)]) (fun aB y=>[stb c 103 A,arl d 105 vI 256 y,qK aB]) ?_ ?_
    ·refine B0q<|La U (Lh 12 (wn (cs:=[vi 0]) qp) fun bJ _=>Ll (wl jM .here)<|Q0n<|WC.block<|D5 (fun aC n aj o Q=>(kr ae ah aA bf aC aj o=some r)) (fun aC n aj o Q=>[(8,vp c),(9,vi S),(11,vp d),(12,vp Q)]) (fun aC n aj o Q=>[stb c 103 A,arl d 105 vI 256 aj,stb Q 3 [vi o],qK n]) (fun aC n aj o Q=>aC) ⟨wr,[],(List.replicate 256 (0:Int)).set (S:Int).toNat 1,S,bJ⟩ U h .q (.s4 .h2 .h1 .here .here) ?_)
     rintro aC n aj o Q h
     letI:Rnd:=ve n
     obtain⟨cm,rfl⟩:=ne h
     rw[kr] at h
     refine Lb<|B0q<|Lf 53 (Ei wm .h2)<|Q1n U<|Lj h (fun bL h=>?_)<|fun bL h=>?_
     ·refine Ec<|jK1 h fun cn bM h=>Dl (fun aD aw=>(cn aw=some r)) (fun aD aw=>[(8,vp c),(9,vi S),(11,vp d),(12,vp Q)]) (fun aD aw=>[stb c 103 A,arl d 105 vI 256 aw,stb Q 3 [vi o],qK aD]) ?_ ?_
      ·refine WC.block<|Lb<|bK h fun p bN h=>Le<|Lf 57 (we zHQ (wh .here))<|Lf 58 (Ei wm .h2)<|Dw (dd:=59) U U U (Eh call19) .nil (cc hz .nil fun w pz ho=>lJ _ _ _ _ _ _ _ _ _ _ bN pz aO aT aS) ?_
       rintro T V bg bh bi bj bk bl ⟨bO,bP,bQ⟩
       refine Q0n<|jK1 h fun co bR h=>Di (fun aE ax=>(co ax=some r)) (fun aE ax=>[(8,vp c),(9,vi S),(11,vp d),(12,vp Q)]) (fun aE ax=>[stb c 103 A,arl d 105 vI 256 ax,stb Q 3 [vi o],qK aE]) ?_ ?_
       ·refine WC.block<|WC.drop (.s6 .h2 .h2 .h2 .here .here .here)<|Dm (f:=56) (caps:=[vp T,vp V]) U call56 ?_
        intro cB cC an Y aF a3 bS bT w hw
        let H:List Asrt:=[stb c 103 A,arl d 105 vI 256 aj,stb Q 3 [vi o],wA an (aF .ready none)];have hw1:=hw.selAll ((.s4 .h2 .h2 .h2 .here):Sel _ H _)
        let C:List Value:=[vs bg p.1.yF.length bh,vs bi p.1.fX.length bj,vs bk p.1.yL.length bl];let J:List Asrt:=[stb T 103 C,stb V 3 [vi p.2]];have pz:=(hz.call hw1 ((.cons .here .nil):Sel [wM H,wW Y,stb T 103 C,stb V 3 [vi p.2],qK n] [wM H] [wW Y,stb T 103 C,stb V 3 [vi p.2],qK n])).lend hw1 ((.cons .here .nil):Sel [wM H,wW Y,stb T 103 C,stb V 3 [vi p.2],qK n] [wM H] [wW Y,stb T 103 C,stb V 3 [vi p.2],qK n]) (B:=J) (fun _ nY=>((.s2 .h1 .h1):Sel _ J _).mem nY)
        refine bK h fun ak bU h=>Calls.mono (oC (Z:=_) (zqw:=an) (zf2:=Unit) (ze4:=(fun(g:Unit) (s:Nat×List Int)=>wM ([stb c 103 A,arl d 105 vI 256 s.2,stb Q 3 [vi o]]++[wA an (aF (ka<|vY [] s.1)<|vY [] s.1)]))) (zqx:=(fun(g:Unit) (s:Nat×List Int)=>True)) (zqy:=()) (zqz:=⟨T,0,none⟩) (zM9:=bg) (zMa:=bh) (zMb:=bi) (zMc:=bj) (zMd:=bk) (zMe:=bl) (zqA:=⟨V,0,none⟩) (z3R:=(Nat×List Int)) (zf1:=(fun(x:Int×Int) (s:Nat×List Int)=>chk (s.1=0)<|f0 o x s.2)) (zgl:=(0,aj)) (z36:=p.1) (z4c:=p.2) (r:=ak) pz ?_ trivial (bO.mono<|zl) (bP.mono<|zl) (bQ.mono<|zl) ((hw1.lent ((.cons .here .nil):Sel [wM H,wW Y,stb T 103 C,stb V 3 [vi p.2],qK n] [wM H] [wW Y,stb T 103 C,stb V 3 [vi p.2],qK n]) (B:=J) (fun _ nY=>((.s2 .h1 .h1):Sel _ J _).mem nY) (.head _) _).stb) ((hw1.lent ((.cons .here .nil):Sel [wM H,wW Y,stb T 103 C,stb V 3 [vi p.2],qK n] [wM H] [wW Y,stb T 103 C,stb V 3 [vi p.2],qK n]) (B:=J) (fun _ nY=>((.s2 .h1 .h1):Sel _ J _).mem nY) (.tail _<|.head _) _).stb) bU<|hw1.owns ((.cons .here .nil):Sel [wM H,wW Y,stb T 103 C,stb V 3 [vi p.2],qK n] [wM H] [wW Y,stb T 103 C,stb V 3 [vi p.2],qK n])) ?_
        ·refine lD (LI:=(fun(g:Unit) (s:Nat×List Int)=>[stb c 103 A,arl d 105 vI 256 s.2,stb Q 3 [vi o]])) (pc:=(fun(s:Nat×List Int)=>vY [] s.1)) a3 bS bT (fun _ _=>U) (by decide) ?_
         rintro aQ _ _ ⟨bV,ay⟩ bW bX Fb wb ba _ hz
         replace hz:=hz.left
         letI:Rnd:=rX an
         obtain⟨vj,ao⟩:=wa ba
         replace vj:bV=0:=vj;subst vj;clear ba
         replace ao:f0 o aQ ay=some (bW,bX):=ao
         unfold f0 at ao
         refine WC.restr (env':=[(11,vp d),(12,vp Q),(54,(.bool<|decide (o>=0))),(60,vi aQ.1),(61,vi aQ.2)]) (.qo U)<|N4 (L':=[stb c 103 A,arl d 105 vI 256 ay,stb Q 3 [vi o],wA an (aF .ready none)]) U<|D1q U<|WL.nil<|N0 a3 .h3<|WC.block ?_
         obtain⟨aU,ao⟩:=wa ao
         obtain⟨bb,ao⟩:=wa ao
         refine Lv (fun i=>[9].contains i) []<|Li 0 U (Ei wm .h3)<|Li 1 U (Ei wm .h3)<|Lg 2 U (qF zCy aU jL)<|Li 3 U (w8 wm U<|WT (f:=Value.int .i64) (m:=256) .h2 aU)<|Lg 4 U q_m<|Lg 5 U (qF zCy bb jL)<|Li 6 U (w8 wm U<|WT (f:=Value.int .i64) (m:=256) .h2 bb)<|Lg 7 U lT<|Lg 8 U (qF zCy aU jL)<|Nb (i:=9) U (by kernel_rfl) (by kernel_rfl) (ce (f:=Value.int .i64) (u:=max (nth ay o) (nth ay aQ.2)) jM .h2 aU)<|Eo (by kernel_rfl)<|Lq ?_
         obtain⟨rfl,rfl⟩:=tj ao
         exact Nt a3 .h1<|fun w' pQ=>⟨(),U,trivial,(pQ.selAll ((.s4 .h2 .h1 .h1 .here):Sel _ [stb c 103 A,arl d 105 vI 256 (ay.set (o:Int).toNat<|max (nth ay o)<|nth ay aQ.2),stb Q 3 [vi o],wA an (aF .ready none)] _)).sub (.cons .here .nil)⟩
        ·rintro _ w' ⟨_,rfl,_,hp⟩
         have uY:=hw1.call ((.cons .here .nil):Sel [wM H,wW Y,stb T 103 C,stb V 3 [vi p.2],qK n] [wM H] [wW Y,stb T 103 C,stb V 3 [vi p.2],qK n]) hp
         have wQ:Hp _ _ w' [stb c 103 A,arl d 105 vI 256 ak.2,stb Q 3 [vi o],wA an (aF (ka (vY [] ak.1)) (vY [] ak.1)),wW Y,stb T 103 C,stb V 3 [vi p.2],qK n]:=uY.pickAll .here
         refine⟨_,vY [] ak.1,_,U,wQ.sub ((.s8 .h3 .here .here .here .here .here .here .here):Sel _ [wA an (aF (ka (vY [] ak.1)) (vY [] ak.1)),stb c 103 A,arl d 105 vI 256 ak.2,stb Q 3 [vi o],wW Y,stb T 103 C,stb V 3 [vi p.2],qK n] _),?_⟩
         clear hp uY wQ pz hw hw1
         refine wjNL ?_
         letI:Rnd:=ve (Y::n)
         exact N8 .h3 .h5<|Lq<|E2 (D:=fun(g:List Nat×List Int)=>g.1) (G:=List Nat×List Int) ⟨(Y::n),ak.2⟩ h .q<|.s4 .h1 .h1 .h1 .here
       ·rintro aE ax h
        replace h:=(bR ax).symm.trans h
        letI:Rnd:=ve aE
        exact Lq<|E2 (D:=fun(g:List Nat×List Int)=>g.1) (G:=List Nat×List Int) ⟨aE,ax⟩ h .q<|.a4
      ·rintro aD aw h
       replace h:=(bM aw).symm.trans h
       letI:Rnd:=ve aD
       refine Lb<|B0q<|Lf 71 (Ei wm .h2)<|Q0n<|Le (Lh 12 (wn (cs:=[vi 0]) qp) fun bY _=>Ll (wl jM .here)<|Q0n<|Le<|Lf 55 (Ei wm .here)<|La U<|Ll (wl jM .here)<|WL.nil ?_)
       exact H6 (D:=fun(g:Nat×List Nat×List Int×Int×Nat)=>g.2.1) (G:=Nat×List Nat×List Int×Int×Nat) ⟨cm,aD,aw,i64 (o-1),bY⟩ h (Nat.lt_succ_self _) .q<|.s4 .h1 .h1 .here .h1
     ·exact En<|Ln<|Ln<|Lu<|E2 (D:=fun(g:List Nat×List Int)=>g.1) (G:=List Nat×List Int) ⟨n,aj⟩ h .q<|.s3 .here .here .h1
    ·rintro aB y h
     replace h:=(bI y).symm.trans h
     letI:Rnd:=ve aB
     refine B1n U<|jK1 h fun bm bZ h=>B3 (fun aR ap aG aH=>(bm ap=some r)) (fun aR ap aG aH=>[(15,vs aG ap.length aH)]) (fun aR ap aG aH=>[row (vs aG ap.length aH) 3 1 (ap.flatMap e3),qK aR]) ?_ ?_
     ·refine B1n U<|WC.block<|WC.nilRow 3 1<|Og (fun aI k q al aq ar=>(gk S ae ah aA y bm aI q al=some r)) (fun aI k q al aq ar=>[(8,vp c),(9,vi S),(11,vp d),(15,vs aq q.length ar),(16,vi al)]) (fun aI k q al aq ar=>[row (vs aq q.length ar) 3 1 (q.flatMap e3),stb c 103 A,arl d 105 vI 256 y,qK k]) (fun aI k q al aq ar=>aI) ⟨wr,aB,([]:List Int),0,none,0⟩ U h .q .a4 ?_
      rintro aI k q al aq ar h
      letI:Rnd:=ve k
      obtain⟨cp,rfl⟩:=nf h
      rw[gk] at h
      refine Lb<|B3n U<|Lj h (fun b0 h=>?_)<|fun b0 h=>?_
      ·refine Ec<|jK2 h fun cq b1 h=>Dg (fun aJ am az aK aL=>(cq am az=some r)) (fun aJ am az aK aL=>[(8,vp c),(9,vi S),(11,vp d),(15,vs aK am.length aL),(16,vi az)]) (fun aJ am az aK aL=>[row (vs aK am.length aL) 3 1 (am.flatMap e3),stb c 103 A,arl d 105 vI 256 y,qK aJ]) ?_ ?_
       ·refine WC.block<|Lb<|Le (Lh 17 (wn (cs:=[vi 0]) qp) fun af _=>Ll (wl jM .here)<|Q0n ?_)
        obtain⟨cr,b2,h⟩:=wE h
        let I:Value:=(vs aq q.length ar);refine Dl (fun aM ag=>(cr ag=some r)) (fun aM ag=>[(8,vp c),(9,vi S),(11,vp d),(15,I),(16,vi al),(17,vp af)]) (fun aM ag=>[row I 3 1 (q.flatMap e3),stb c 103 A,arl d 105 vI 256 y,stb af 3 [vi ag],qK aM]) ?_ ?_
        ·refine Lb<|bK h fun t b3 h=>Le<|Lf 75 (we zHQ (wh .h2))<|La U<|Dw (dd:=77) U U U (Eh call19) .nil (cc hz .nil fun w pz ho=>lJ _ _ _ _ _ _ _ _ _ _ b3 pz aO aT aS) ?_
         rintro W X bn bo bp bq br bs ⟨b4,b5,b6⟩
         refine Q0n<|WC.block<|WC.drop (.s7 .h2 .h2 .h2 .h2 .here .here .here)<|Dm (f:=56) (caps:=[vp W,vp X]) U call56 ?_
         intro cD cE au R aN aV b7 b8 w hw
         let F:List Asrt:=[row I 3 1 (q.flatMap e3),stb af 3 [vi (-1)],stb c 103 A,arl d 105 vI 256 y,wA au (aN .ready none)];have hw1:=hw.selAll ((.s5 .h3 .h2 .h2 .h2 .here):Sel _ F _)
         let E:List Value:=[vs bn t.1.yF.length bo,vs bp t.1.fX.length bq,vs br t.1.yL.length bs];let K:List Asrt:=[stb W 103 E,stb X 3 [vi t.2]];have pz:=(hz.call hw1 ((.cons .here .nil):Sel [wM F,wW R,stb W 103 E,stb X 3 [vi t.2],qK k] [wM F] [wW R,stb W 103 E,stb X 3 [vi t.2],qK k])).lend hw1 ((.cons .here .nil):Sel [wM F,wW R,stb W 103 E,stb X 3 [vi t.2],qK k] [wM F] [wW R,stb W 103 E,stb X 3 [vi t.2],qK k]) (B:=K) (fun _ nY=>((.s2 .h1 .h1):Sel _ K _).mem nY)
         refine bK h fun ab b9 h=>Calls.mono (oC (Z:=_) (zqw:=au) (zf2:=Unit) (ze4:=(fun(g:Unit) (s:Nat×Int)=>wM ([row I 3 1 (q.flatMap e3),stb af 3 [vi s.2],stb c 103 A,arl d 105 vI 256 y]++[wA au (aN (ka<|vY [.exit 8] s.1)<|vY [.exit 8] s.1)]))) (zqx:=(fun(g:Unit) (s:Nat×Int)=>True)) (zqy:=()) (zqz:=⟨W,0,none⟩) (zM9:=bn) (zMa:=bo) (zMb:=bp) (zMc:=bq) (zMd:=br) (zMe:=bs) (zqA:=⟨X,0,none⟩) (z3R:=(Nat×Int)) (zf1:=(fun(x:Int×Int) (s:Nat×Int)=>chk (s.1=0)<|f1 y x s.2)) (zgl:=(0,-1)) (z36:=t.1) (z4c:=t.2) (r:=ab) pz ?_ trivial (b4.mono<|zl) (b5.mono<|zl) (b6.mono<|zl) ((hw1.lent ((.cons .here .nil):Sel [wM F,wW R,stb W 103 E,stb X 3 [vi t.2],qK k] [wM F] [wW R,stb W 103 E,stb X 3 [vi t.2],qK k]) (B:=K) (fun _ nY=>((.s2 .h1 .h1):Sel _ K _).mem nY) (.head _) _).stb) ((hw1.lent ((.cons .here .nil):Sel [wM F,wW R,stb W 103 E,stb X 3 [vi t.2],qK k] [wM F] [wW R,stb W 103 E,stb X 3 [vi t.2],qK k]) (B:=K) (fun _ nY=>((.s2 .h1 .h1):Sel _ K _).mem nY) (.tail _<|.head _) _).stb) b9<|hw1.owns ((.cons .here .nil):Sel [wM F,wW R,stb W 103 E,stb X 3 [vi t.2],qK k] [wM F] [wW R,stb W 103 E,stb X 3 [vi t.2],qK k])) ?_
         ·refine lD (LI:=(fun(g:Unit) (s:Nat×Int)=>[row I 3 1 (q.flatMap e3),stb af 3 [vi s.2],stb c 103 A,arl d 105 vI 256 y])) (pc:=(fun(s:Nat×Int)=>vY [.exit 8] s.1)) aV b7 b8 (fun _ _=>U) (by decide) ?_
          rintro aW _ _ ⟨ca,bt⟩ cb cd Fb wb bc _ hz
          replace hz:=hz.left
          letI:Rnd:=rX au
          obtain⟨vj,ad⟩:=wa bc
          replace vj:ca=0:=vj;subst vj;clear bc
          replace ad:f1 y aW bt=some (cb,cd):=ad
          unfold f1 at ad
          let O:List Asrt:=[row I 3 1 (q.flatMap e3),stb af 3 [vi bt],stb c 103 A,arl d 105 vI 256 y,wA au (aN .ready none)];refine WC.restr (env':=[(11,vp d),(74,(.bool<|decide (al≠S))),(17,vp af),(78,vi aW.1),(79,vi aW.2)]) (.qo U)<|N4 (L':=O) U<|B1n U<|D1q U<|WL.nil<|N0 aV .h4<|WC.block<|Lb ?_
          obtain⟨bd,ad⟩:=wa ad
          refine D1q U<|Lf 81 (qF zCy bd jL)<|Lf 82 (w8 wm U<|WT (f:=Value.int .i64) (m:=256) .h4 bd)<|Q1n U<|Er (fun a4=>?_)<|fun a4=>?_
          ·replace ad:=qf ad a4
           refine B1q U<|Ll (wl jM .h2)<|Q0n<|En<|Hc U ?_
           obtain⟨rfl,rfl⟩:=tj ad
           exact Du aV .h1<|fun w' pQ=>⟨(),U,trivial,(pQ.selAll ((.s5 .h2 .h1 .h1 .h1 .here):Sel _ [row I 3 1 (q.flatMap e3),stb af 3 [vi aW.1],stb c 103 A,arl d 105 vI 256 y,wA au (aN .done<|some<|.exit 8)] _)).sub (.cons .here .nil)⟩
          ·replace ad:=qg ad a4
           refine Ep<|Lq ?_
           obtain⟨rfl,rfl⟩:=tj ad
           exact Nt aV .here<|fun w' pQ=>⟨(),U,trivial,(pQ.selAll ((.s5 .h1 .h1 .h1 .h1 .here):Sel _ O _)).sub (.cons .here .nil)⟩
         ·rintro _ w' ⟨_,rfl,_,hp⟩
          have uY:=hw1.call ((.cons .here .nil):Sel [wM F,wW R,stb W 103 E,stb X 3 [vi t.2],qK k] [wM F] [wW R,stb W 103 E,stb X 3 [vi t.2],qK k]) hp
          have wQ:Hp _ _ w' [row I 3 1 (q.flatMap e3),stb af 3 [vi ab.2],stb c 103 A,arl d 105 vI 256 y,wA au (aN (ka (vY [.exit 8] ab.1)) (vY [.exit 8] ab.1)),wW R,stb W 103 E,stb X 3 [vi t.2],qK k]:=uY.pickAll .here
          refine⟨_,vY [.exit 8] ab.1,_,U,wQ.sub ((.s9 .h4 .here .here .here .here .here .here .here .here):Sel _ [wA au (aN (ka (vY [.exit 8] ab.1)) (vY [.exit 8] ab.1)),row I 3 1 (q.flatMap e3),stb af 3 [vi ab.2],stb c 103 A,arl d 105 vI 256 y,wW R,stb W 103 E,stb X 3 [vi t.2],qK k] _),?_⟩
          clear hp uY wQ pz hw hw1
          by_cases a5:ab.1=0
          ·replace h:=QR h a5
           refine wj0L a5 ?_
           letI:Rnd:=ve (R::k)
           exact N8 .h4 .h6<|Lq<|E2 (D:=fun(g:List Nat×Int)=>g.1) (G:=List Nat×Int) ⟨(R::k),ab.2⟩ h .q<|.s5 .h1 .h2 .h2 .h1 .here
          ·replace h:=QS h a5
           by_cases a6:ab.1=1
           ·replace h:=QR h a6
            refine wjSL (i:=0) a6 U ?_
            letI:Rnd:=ve (R::k)
            exact Hu .h4 .h6<|En<|Lu<|E2 (D:=fun(g:List Nat×Int)=>g.1) (G:=List Nat×Int) ⟨(R::k),ab.2⟩ h .q<|.s5 .h1 .h2 .h2 .h1 .here
           ·replace h:=QS h a6
            cases h
        ·rintro aM ag h
         replace h:=(b2 ag).symm.trans h
         letI:Rnd:=ve aM
         refine Lb<|B0q<|Lf 85 (Ei wm .h3)<|Q1n U<|Lj h (fun cf h=>?_)<|fun cf h=>?_
         ·refine B2n U<|El<|L4<|Nc<|L4<|L4<|Nc<|L4<|WX.nilRow 3 1 ?_
          obtain rfl:=oJ h
          exact Hz .h5 results5 (.tmp U<|.tmp U .nil)<|fun w hw=>⟨none,0,qq,trivial,hw.sub (.cons .here .nil)⟩
         ·refine Ec<|Lb<|cK h fun cg h=>D1q U<|Lf 88 (Ei wm .h3) (Lh 89 (wD (cs:=([ag]:List Int).flatMap e3) zaM (Lt (l:=[.tmp 88]) (.cons U .nil) [0]) (fun _=>by kernel_rfl) (by unfold maxLen;omega)) fun cF _=>WL.fA 90 (vb (enc:=e3) (l1:=q) (l2:=([ag]:List Int)) zaM .h1 (fun _=>U) (wY .here) (vm KO _) cg) ?_)
          rintro⟨ch,ci⟩ _
          exact Q1n U<|cK h fun cj h=>D1q U<|Lf 92 (Ei wm .h4)<|Lf 93 (cN cj)<|Lf 94 VF<|La U<|WL.nil<|Lq<|E2 (D:=fun(g:List Nat×List Int×Int×Option Addr×Nat)=>g.1) (G:=List Nat×List Int×Int×Option Addr×Nat) ⟨aM,q++([ag]:List Int),(bits .or .i64 al<|i64 (1*2 ^ min (ag:Int).toNat 64)),ch,ci⟩ h .q<|.s4 .here .h1 .h1 .h2
       ·rintro aJ am az aK aL h
        replace h:=(b1 am az).symm.trans h
        letI:Rnd:=ve aJ
        exact H6 (D:=fun(g:Nat×List Nat×List Int×Int×Option Addr×Nat)=>g.2.1) (G:=Nat×List Nat×List Int×Int×Option Addr×Nat) ⟨cp,aJ,am,az,aK,aL⟩ h (Nat.lt_succ_self _) .q<|.a4
      ·exact En<|Ln<|Ln<|Lu<|E2 (D:=fun(g:List Nat×List Int×Option Addr×Nat)=>g.1) (G:=List Nat×List Int×Option Addr×Nat) ⟨k,q,aq,ar⟩ h (.cons U .nil)<|.s2 .here .h2
     ·rintro aR ap aG aH h
      replace h:=(bZ ap).symm.trans h
      letI:Rnd:=ve aR
      refine B3n U<|El ?_
      obtain rfl:=oJ h
      exact Hz .h1 results5 (.tmp U<|.tmp U .nil)<|fun w hw=>⟨aG,aH,qq,trivial,hw.sub (.cons .here .nil)⟩
def ki(a:Int)(b:Int):Option Bool:=
 chk ((((decide (a>=0))&&(decide (a<=6)))&&(decide (b>=0)))=true->(0<=a)) (some ((((decide (a>=0))&&(decide (a<=6)))&&(decide (b>=0)))&&(decide (b<(i64 (1*2 ^ min (a:Int).toNat 64))))))
theorem pO(Z a b r)(h:ki a b=some r){Ek}(hz:PZ [] Ek Z):
  RC 20 #[vi a,vi b] Ek (.bool r) [] []:=by
 unfold ki at h
 refine Lz func20 U U<|B1n U<|Lb<|cK h fun d h=>D3q U<|Lx true 2 7 (B:=(decide (a>=0))&&(decide (a<=6))) (fun h=>(qd h).symm) (fun _ e=>?_) ?_
 ·exact Q3q U<|Ly (qe e) U .all
 refine La U<|Lx true 2 11 (B:=((decide (a>=0))&&(decide (a<=6)))&&(decide (b>=0))) (fun h=>(qd h).symm) (fun _ f=>?_) ?_
 ·exact Q3q U<|Ly (qe f) U .all
 refine La U<|Lx true 4 15 (B:=(((decide (a>=0))&&(decide (a<=6)))&&(decide (b>=0)))&&(decide (b<(i64 (1*2 ^ min (a:Int).toNat 64))))) (fun h=>(qd h).symm) (fun _ c=>?_) ?_
 ·have g:=d c
  exact Q2q U<|Lf 18 (cN g)<|Q2q U<|Ly (qe c) U .all
 exact Q1n U<|El<|oJ h▸Ea results20
def t7(a:Int)(b:Int):Option (Int×Int):=
 some (b,a)
theorem Yo(Z a b r)(h:t7 a b=some r){Ek}(hz:PZ [] Ek Z):
  Calls Tryz.prog 21 #[.int .u64 a,vi b] Ek fun e w'=>∃ c:Nat,∃ d:Nat,e = .returned (.func (.func 58) #[] #[vp c,vp d])/\True/\Hp [] Ek w' [stb c 3 [vi r.1],stb d 24 [.int .u64 r.2]]:=by
 unfold t7 at h
 refine Lz func21 U U<|Lb<|Le (Lh 2 (wu (cs:=[.int .u64 a])) fun f _=>Lh 3 (wu (cs:=[vi b])) fun g _=>Q1n U<|B0q<|Lf 5 (wO<|L6 (l:=[.tmp 3,.tmp 2])<|.r2 U U)<|Q1n U<|El ?_)
 exact oJ h▸Lk results21 (.tmp U .nil) fun w hw=>⟨g,f,wx,trivial,hw.sub .a2⟩
def ud(b:Int)(c:(List Int)->Option (List Int)):Nat->Int->(List Int)->Option (List Int)
 | 0,_,_=>none
 | e+1,a,d=>if decide (a<8) then chk (0<=(i64 (8*a))) (chk (0<=a/\a<8) (ud b c e (i64 (a+1)) (d.set (a:Int).toNat (u8 (b / 2 ^ min ((i64 (8*a)):Int).toNat 64))))) else c d
def jy(a:Int):Option (List Int):=
 vC (fun(b:List Int)=>some b) fun c=>ud a c wr 0 (List.replicate 8 (0:Int))
theorem f2(Z d r)(h:jy d=some r){Ek}(hz:PZ [] Ek Z):
  Calls Tryz.prog 76 #[.int .u64 d] Ek fun e w'=>∃ j:Option Addr,∃ k:Nat,e = .returned (vs j r.length k)/\True/\Hp [] Ek w' [row (vs j r.length k) 5 1 (r.flatMap e5)]:=by
 unfold jy at h
 refine L3 func76 U U<|B1n U<|Lb<|Le (Lh 3 (dh (f:=Value.int .u8) (m:=8) (z:=0) z1eq) fun g _=>Q0n ?_)
 refine jK1 h fun n o h=>Nd (fun c=>(n c=some r)) (fun c=>[(3,vp g)]) (fun c=>[arl g 262 (Value.int .u8) 8 c]) ?_ ?_
 ·refine B1n U<|WC.block<|E4 (fun i a b=>(ud d n i a b=some r)) (fun i a b=>[(0,.int .u64 d),(3,vp g),(5,vi a)]) (fun i a b=>[arl g 262 (Value.int .u8) 8 b]) (fun i a b=>i) ⟨wr,0,List.replicate 8 (0:Int)⟩ h .q (.cons .here .nil) ?_
  rintro(_|s) a b h;·cases h
  rw[ud] at h
  refine B1n U<|Lb<|Lj h (fun p h=>?_)<|fun p h=>?_
  ·exact Ec<|Lb<|WC.block<|B2n U<|cK h fun q h=>cK h fun l h=>Le<|La U<|La U<|La U<|La U<|Lf 12 (oV q)<|Lf 13 (vo underlying24 underlying5)<|Lf 14 (qF zZx l jL)<|Ll (ce (f:=Value.int .u8) (u:=u8 (d / 2 ^ min ((i64 (8*a)):Int).toNat 64)) WZ .here l)<|WL.nil<|Lq<|Ld<|D2q U<|WL.nil<|Em ⟨s,i64 (a+1),(b.set (a:Int).toNat<|u8<|d / 2 ^ min ((i64 (8*a)):Int).toNat 64)⟩ h (Nat.lt_succ_self _) .q<|.cons .here .nil
  ·exact En<|Ln<|Ln<|Lu<|Lp b h (.cons U .nil)<|.cons .here .nil
 ·rintro c h
  replace h:=(o c).symm.trans h
  exact B0q<|Lf 16 (aG zZx U .here)<|Nq (fun _ h=>Hp.YV (e:=5) (enc:=e5) .here (by unfold maxLen;omega) (fun _=>U) h)<|Q1n U<|El<|oJ h▸Lk results76 (.tmp U .nil) fun w hw=>⟨some ⟨g,0,none⟩,c.length,wx,trivial,hw.sub (.cons .here .nil)⟩
def sG  : Option Unit:=
 some ()
theorem Xd(Z r)(h:sG=some r){Ek}(hz:PZ [] Ek Z):
  RC 73 #[] Ek (.agg #[.int .u64 7953747704174896417,vi 0]) [] []:=by
 unfold sG at h
 refine Ns func73 U U<|B0q<|Lh 0 (wn (cs:=[.int .u64 0,vi 0]) zO0) ?_
 intro a _
 let A:Value:=(.int .u64 7953747704174896417);refine Q0n<|B0q<|Lf 1 (wN (v:=(.agg #[A,vi 0])) (Lt (l:=[.const A]) (.cons U .nil) [0]) (fun _=>by kernel_rfl))<|Ll (wl zHU .here)<|Q0n<|El ?_
 skip
 exact Lk results73 (.agg U zCz U (wh .here) .nil)<|fun w hw=>⟨wx,hw.sub .nil⟩
def uI(b:Int)(a:Int):Option Int:=
 chk (0<=(bits .and .u64 (u64 a) 63)) (chk (0<=(u64 (64-(bits .and .u64 (u64 a) 63)))) (some (bits .or .u64 (u64 (b*2 ^ min ((bits .and .u64 (u64 a) 63):Int).toNat 64)) (b / 2 ^ min ((u64 (64-(bits .and .u64 (u64 a) 63))):Int).toNat 64))))
theorem dL(Z a b r)(h:uI a b=some r){Ek}(hz:PZ [] Ek Z):
  RC 122 #[.int .u64 a,vi b] Ek (.int .u64 r) [] []:=by
 unfold uI at h
 exact Lz func122 U U<|B1n U<|B1q U<|Lf 7 (vo underlying3 underlying226)<|Lf 8 Wz<|Q1n U<|Lb<|cK h fun c h=>cK h fun d h=>D2q U<|Lf 11 (cN c)<|Q3q U<|Lf 15 (oV d)<|Lf 16 VF<|Q1n U<|El<|oJ h▸Ea results122
def ot(b:Int)(a:xk):Option xk:=
 (uI (u64 ((bits .xor .u64 a.xm (u64 b))+(u64 ((bits .xor .u64 a.xm (u64 b))*2 ^ min (28:Int).toNat 64)))) 20).bind fun c=>some (⟨c,i64 (a.xl+1)⟩:xk)
theorem VY(Z b c a r)(h:ot c a=some r){Ek}(hz:Pz [stb b 193 [.int .u64 a.xm,vi a.xl]] Ek Z)(iA:Ho Ek [stb b 193 [.int .u64 a.xm,vi a.xl]]):
  RF 121 #[.int .u8 c,vp b] Ek (.tuple #[]) [stb b 193 [.int .u64 a.xm,vi a.xl]] [stb b 193 [.int .u64 r.xm,vi r.xl]]:=by
 unfold ot at h
 exact Nk func121 U iA U<|B0q<|Lf 3 (w7 pB)<|Lf 4 (Ei z4O .here)<|La U<|Lf 6 (vo underlying5 underlying24)<|Lf 7 aH<|Lf 8 (w7 pB)<|Ll (vg (ds:=[(.int .u64<|bits .xor .u64 a.xm<|u64 c),vi a.xl]) zgZ .here)<|Q0n<|B0q<|Lf 9 (w7 pB)<|Lf 10 (Ei z4O .here)<|Lf 11 (w7 pB)<|Lf 12 (Ei z4O .here)<|Lf 13 (cN (by decide))<|La U<|Lf 15 (w7 pB)<|Ll (vg (ds:=[(.int .u64<|u64 ((bits .xor .u64 a.xm<|u64 c)+(u64 ((bits .xor .u64 a.xm<|u64 c)*2 ^ min (28:Int).toNat 64)))),vi a.xl]) zgZ .here)<|Q0n<|Lb<|bK h fun d e h=>Le<|Lf 16 (w7 pB)<|Lf 17 (Ei z4O .here)<|Eg call122 hz (dL _ _ _ _ e)<|Lf 19 (w7 pB)<|Ll (vg (ds:=[.int .u64 d,vi a.xl]) zgZ .here)<|Q0n<|Le<|Lf 20 (w7 We)<|Lf 21 (Ei wm .here)<|La U<|Lf 23 (w7 We)<|Ll (vg (ds:=[.int .u64 d,(vi<|i64 (a.xl+1))]) jM .here)<|WL.nil<|oJ h▸Nj results121 .nil fun w hw=>⟨ui,hw.sub (.cons .here .nil)⟩
def go(b:List Int)(c:Int->Int->Option xk):Nat->Int->Int->Int->Option xk
 | 0,_,_,_=>none
 | g+1,a,d,e=>if decide (a<b.length) then chk (0<=a/\a<b.length) ((ot (nth b a) (⟨d,e⟩:xk)).bind fun f=>go b c g (i64 (a+1)) f.xm f.xl) else c d e
def pP(a:xk)(b:List Int):Option xk:=
 rl (fun(c:Int) (d:Int)=>some (⟨c,d⟩:xk)) fun e=>go b e wr 0 a.xm a.xl
theorem Xe(Z m n a e r)(h:pP a e=some r){Ek}(hz:PZ [] Ek Z)(q:ZS Z 1 (rq e5) m n e):
  RC 72 #[.agg #[.int .u64 a.xm,vi a.xl],vs m e.length n] Ek (.agg #[.int .u64 r.xm,vi r.xl]) [] []:=by
 unfold pP at h
 refine Lz func72 U U<|Lb<|Le (Lh 2 (wu (cs:=[.int .u64 a.xm,vi a.xl])) fun i _=>Lh 4 (wn (cs:=[.int .u64 0,vi 0]) zO0) fun k _=>Q0n<|B0q<|Lf 8 (wO<|L6 (l:=[.tmp 2])<|.cons U .nil)<|Q1n U ?_)
 refine jK2 h fun o s h=>Nv (fun f g=>(o f g=some r)) (fun f g=>[(2,vp i),(4,vp k)]) (fun f g=>[stb i 193 [.int .u64 f,vi g],stb k 193 [.int .u64 0,vi 0]]) ?_ ?_
 ·refine B1q U<|Lf 10 (wB underlying23)<|Q1n U<|WC.block<|E9 (fun j b c d=>(go e o j b c d=some r)) (fun j b c d=>[(2,vp i),(4,vp k),(5,.func (.func 121) #[] #[vp i]),(9,vs m e.length n),(10,vi (e.length:Int)),(11,vi b)]) (fun j b c d=>[stb i 193 [.int .u64 c,vi d],stb k 193 [.int .u64 0,vi 0]]) (fun j b c d=>j) ⟨wr,0,a.xm,a.xl⟩ h .q (.s2 .h1 .here) ?_
  rintro(_|y) b c d h;·cases h
  rw[go] at h
  refine B1n U<|Lb<|Lj h (fun t h=>?_)<|fun t h=>?_
  ·refine Ec<|Lb<|WC.block<|Lb<|cK h fun u h=>Le<|L0 (dd:=13) (Z:=Z) (Pr:=(rq e5)) z2j q u ?_
   rintro z A v B rfl
   exact Lf 14 (w8 m9 U<|vx hz.pv v)<|Q1n U<|bK h fun p x h=>D2q U<|Lm 17 (wV (l:=[.tmp 16]) call121<|.cons U .nil) (.cons .here .nil) (cc hz (.cons .here .nil) fun w pz ho=>VY _ _ _ _ _ x pz  ho)<|WL.nil<|Lq<|Ld<|D2q U<|WL.nil<|Em ⟨y,i64 (b+1),p.xm,p.xl⟩ h (Nat.lt_succ_self _) .q<|.a2
  ·exact En<|Ln<|Ln<|Lu<|Lp ⟨c,d⟩ h .q<|.a2
 ·rintro f g h
  replace h:=(s f g).symm.trans h
  exact B0q<|Lf 19 (we zCz (wh .here))<|Ll (wl zHU .h1)<|Q0n<|El<|oJ h▸Eb results72 (.agg U zCz U (wh .here) .nil) .nil
def mD(b:Int->Option Int):Nat->Int->Int->Option Int
 | 0,_,_=>none
 | d+1,a,c=>if decide (c<2) then mD b d (bits .xor .u64 (u64 (a+(u64 (a*2 ^ min (36:Int).toNat 64)))) ((u64 (a+(u64 (a*2 ^ min (36:Int).toNat 64)))) / 2 ^ min (28:Int).toNat 64)) (i64 (c+1)) else b a
def gp(a:xk):Option Int:=
 vC (fun(b:Int)=>some b) fun c=>mD c wr (bits .xor .u64 a.xm (u64 a.xl)) 0
theorem eL(Z b r)(h:gp b=some r){Ek}(hz:PZ [] Ek Z):
  RC 71 #[.agg #[.int .u64 b.xm,vi b.xl]] Ek (.int .u64 r) [] []:=by
 unfold gp at h
 refine L3 func71 U U<|Lb<|Le (Lh 1 (wu (cs:=[.int .u64 b.xm,vi b.xl])) fun k _=>Q1n U<|B0q<|Lf 4 (w7 pB)<|Lf 5 (Ei z4O .here)<|Lf 6 (w7 We)<|Lf 7 (Ei wm .here)<|Lf 8 (vo underlying3 underlying24)<|Lf 9 aH<|Q1n U ?_)
 refine jK1 h fun f g h=>Nd (fun d=>(f d=some r)) (fun d=>[(3,.int .u64 d)]) (fun d=>[]) ?_ ?_
 ·refine B1n U<|WC.block<|E4 (fun e a c=>(mD f e a c=some r)) (fun e a c=>[(3,.int .u64 a),(10,vi c)]) (fun e a c=>[]) (fun e a c=>e) ⟨wr,(bits .xor .u64 b.xm<|u64 b.xl),0⟩ h .q .nil ?_
  rintro(_|j) a c h;·cases h
  rw[mD] at h
  refine B1n U<|Lb<|Lj h (fun i h=>?_)<|fun i h=>?_
  ·exact Ec<|Lb<|WC.block<|B2q U<|Lf 14 (cN (by decide))<|Q2n U<|D2q U<|Lf 18 (oV (by decide))<|Lf 19 aH<|La U<|WL.nil<|Lq<|Ld<|D2q U<|WL.nil<|Em ⟨j,(bits .xor .u64 (u64 (a+(u64 (a*2 ^ min (36:Int).toNat 64))))<|(u64 (a+(u64 (a*2 ^ min (36:Int).toNat 64)))) / 2 ^ min (28:Int).toNat 64),i64 (c+1)⟩ h (Nat.lt_succ_self _) .q .nil
  ·exact En<|Ln<|Ln<|Lu<|Lp a h (.cons U .nil) .nil
 ·rintro d h
  replace h:=(g d).symm.trans h
  exact B2n U<|El<|oJ h▸Ea results71
def g4(c:List Int):Option Int:=
 (sG).bind fun d=>(pP (⟨7953747704174896417,0⟩:xk) c).bind fun a=>(gp a).bind fun b=>some b
theorem rH(Z b c a r)(h:g4 a=some r){Ek}(hz:PZ [] Ek Z)(d:ZS Z 1 (rq e5) b c a):
  RC 30 #[vs b a.length c] Ek (.int .u64 r) [] []:=by
 unfold g4 at h
 exact L3 func30 U U<|B1n U<|Lb<|bK h fun i e h=>bK h fun j f h=>bK h fun k g h=>Le<|Eg call73 hz (Xd _ _ e)<|La U<|Eg call72 hz (fun pz=>Xe _ _ _ _ _ _ f pz d)<|Eg call71 hz (eL _ _ _ g)<|Q1n U<|El<|oJ h▸Ea results30
def t8(e:Int)(a:Int)(b:Int):Option Int:=
 (jy e).bind fun c=>chk ((((c++([u8 a,u8 (a / 2 ^ min (8:Int).toNat 64),u8 b]:List Int)).length:Nat):Int)*1<=140737488355328/\(((c++([u8 a,u8 (a / 2 ^ min (8:Int).toNat 64),u8 b]:List Int)).length:Nat):Int)<=4611686018427387904) ((g4 (c++([u8 a,u8 (a / 2 ^ min (8:Int).toNat 64),u8 b]:List Int))).bind fun d=>some d)
theorem Yp(Z c a b r)(h:t8 c a b=some r){Ek}(hz:PZ [] Ek Z):
  RC 65 #[.int .u64 c,vi a,vi b] Ek (.int .u64 r) [] []:=by
 unfold t8 at h
 refine Ng func65 U U<|B1n U<|Lb<|bK h fun g d h=>cK h fun e h=>bK h fun i f h=>D1q U<|L7 (dd:=8) U (Eh call76) .nil (cc hz .nil fun w pz ho=>f2 _ _ _ d pz ) ?_
 rintro j k _
 refine La U<|Lf 10 (vo underlying3 underlying5)<|La U<|Lf 12 (oV (by decide))<|Lf 13 (vo underlying3 underlying5)<|La U<|Lf 15 (vo underlying3 underlying5) (Lh 16 (wD (cs:=([u8 a,u8 (a / 2 ^ min (8:Int).toNat 64),u8 b]:List Int).flatMap e5) z2j (Lt (l:=[.tmp 10,.tmp 13,.tmp 15]) (.r3 U U U) [0,1,2]) (fun _=>by kernel_rfl) (by unfold maxLen;omega)) fun m _=>WL.fA 17 (vb (enc:=e5) (l1:=g) (l2:=([u8 a,u8 (a / 2 ^ min (8:Int).toNat 64),u8 b]:List Int)) z2j .h1 (fun _=>U) (wY .here) (vm tk _) e) ?_)
 rintro⟨n,o⟩ _
 exact Lm 18 (Eh call30) .nil (kb hz .nil (.cons .here .nil) fun w pz ho la=>rH _ _ _ _ _ f pz<|ZA.row (la _ (.head _) _) (RR.flat (enc:=e5) (fun _=>U) _) ⟨w,pz.1⟩)<|Q1n U<|El<|oJ h▸Ea results65
def oR(a:Int)(b:Int)(e:Int):Option Int:=
 (jy e).bind fun c=>chk (((([u8 a,u8 b]:List Int)++c).length:Int)*1<=140737488355328/\((([u8 a,u8 b]:List Int)++c).length:Int)<=4611686018427387904) ((g4 (([u8 a,u8 b]:List Int)++c)).bind fun d=>some d)
theorem K8(Z a b c r)(h:oR a b c=some r){Ek}(hz:PZ [] Ek Z):
  RC 114 #[vi a,vi b,.int .u64 c] Ek (.int .u64 r) [] []:=by
 unfold oR at h
 refine Ng func114 U U<|B1n U<|Lb<|bK h fun g d h=>cK h fun e h=>bK h fun i f h=>D1q U<|Lf 8 (vo underlying3 underlying5)<|La U<|Lf 10 (vo underlying3 underlying5) (Lh 11 (wD (cs:=([u8 a,u8 b]:List Int).flatMap e5) z2j (Lt (l:=[.tmp 8,.tmp 10]) (.r2 U U) [0,1]) (fun _=>by kernel_rfl) (by unfold maxLen;omega)) fun j _=>La U<|L7 (dd:=13) U (Eh call76) .nil (cc hz .nil fun w pz ho=>f2 _ _ _ d pz ) ?_)
 rintro k m _
 refine WL.fA 14 (vb (enc:=e5) (l1:=([u8 a,u8 b]:List Int)) (l2:=g) z2j .h1 (fun _=>U) (wY .here) (vm tk _) e) ?_
 rintro⟨n,o⟩ _
 exact Lm 15 (Eh call30) .nil (kb hz .nil (.cons .here .nil) fun w pz ho la=>rH _ _ _ _ _ f pz<|ZA.row (la _ (.head _) _) (RR.flat (enc:=e5) (fun _=>U) _) ⟨w,pz.1⟩)<|Q1n U<|El<|oJ h▸Ea results114
def ku(b:Int)(c:Int)(d:Int->Option Int):Nat->Int->Int->Option Int
 | 0,_,_=>none
 | f+1,e,a=>if decide (a<b) then(oR c a e).bind fun g=>ku b c d f g (i64 (a+1)) else d e
def mi(a:Int)(b:Int)(c:Int)(d:Int):Option Int:=
 vC (fun(e:Int)=>some e) fun f=>ku c a f wr d b
theorem cE(Z e g f i r)(h:mi e g f i=some r){Ek}(hz:PZ [] Ek Z):
  RC 64 #[vi e,vi g,vi f,.int .u64 i] Ek (.int .u64 r) [] []:=by
 unfold mi at h
 refine Nl func64 U U<|B1n U<|jK1 h fun j k h=>Nd (fun c=>(j c=some r)) (fun c=>[(3,.int .u64 c)]) (fun c=>[]) ?_ ?_
 ·refine B2n U<|WC.block<|E4 (fun d a b=>(ku f e j d a b=some r)) (fun d a b=>[(0,vi e),(2,vi f),(3,.int .u64 a),(9,vi b)]) (fun d a b=>[]) (fun d a b=>d) ⟨wr,i,g⟩ h .q .nil ?_
  rintro(_|n) a b h;·cases h
  rw[ku] at h
  refine Lb<|B3n U<|Lj h (fun l h=>?_)<|fun l h=>?_
  ·exact Ec<|Lb<|WC.block<|bK h fun o m h=>D3q U<|Eg call114 hz (K8 _ _ _ _ _ m)<|La U<|WL.nil<|Lq<|Ld<|D3q U<|WL.nil<|Em ⟨n,o,i64 (b+1)⟩ h (Nat.lt_succ_self _) .q .nil
  ·exact En<|Ln<|Ln<|Lu<|Lp a h (.cons U .nil) .nil
 ·rintro c h
  replace h:=(k c).symm.trans h
  exact B2n U<|El<|oJ h▸Ea results64
def tG(a:Int)(d:Int)(e:Int):Option Int:=
 (t8 d e a).bind fun b=>(mi a 0 15 b).bind fun c=>some c
theorem Vc(Z a b c d e r)(h:tG c d e=some r){Ek}(hz:PZ [] Ek Z)(f:ZC Z a [.int .u64 d])(g:ZC Z b [vi e]):
  RC 113 #[vi c,vq a,vq b] Ek (.int .u64 r) [] []:=by
 unfold tG at h
 exact Ng func113 U U<|B1n U<|Lb<|bK h fun k i h=>bK h fun l j h=>D1q U<|Lf 6 (w8 z4O U<|vx hz.pv f)<|Lf 7 (w8 wm U<|vx hz.pv g)<|La U<|Eg call65 hz (Yp _ _ _ _ _ i)<|Eg call64 hz (cE _ _ _ _ _ _ j)<|Q1n U<|El<|oJ h▸Ea results113
def qT(zdh:Int->Option Int)(u:Int->Int->Int->Int->Int->Int->Int->Int->Int->Int->Int->Int->Int->Int->Int->Int->Int->Int->Option xj):Nat->Int->Int->Int->Int->Int->Int->Int->Int->Int->Int->Int->Int->Int->Int->Int->Int->Int->Int->Int->Option xj
 | 0,_,_,_,_,_,_,_,_,_,_,_,_,_,_,_,_,_,_,_=>none
 | v+1,a,b,c,d,e,f,g,h,i,j,k,l,m,n,o,p,q,r,s=>if decide (a<18) then(zdh a).bind fun t=>chk (0<=a/\a<18) (qT zdh u v (i64 (a+1)) (nth (([b,c,d,e,f,g,h,i,j,k,l,m,n,o,p,q,r,s]:List Int).set (a:Int).toNat t) 0) (nth (([b,c,d,e,f,g,h,i,j,k,l,m,n,o,p,q,r,s]:List Int).set (a:Int).toNat t) 1) (nth (([b,c,d,e,f,g,h,i,j,k,l,m,n,o,p,q,r,s]:List Int).set (a:Int).toNat t) 2) (nth (([b,c,d,e,f,g,h,i,j,k,l,m,n,o,p,q,r,s]:List Int).set (a:Int).toNat t) 3) (nth (([b,c,d,e,f,g,h,i,j,k,l,m,n,o,p,q,r,s]:List Int).set (a:Int).toNat t) 4) (nth (([b,c,d,e,f,g,h,i,j,k,l,m,n,o,p,q,r,s]:List Int).set (a:Int).toNat t) 5) (nth (([b,c,d,e,f,g,h,i,j,k,l,m,n,o,p,q,r,s]:List Int).set (a:Int).toNat t) 6) (nth (([b,c,d,e,f,g,h,i,j,k,l,m,n,o,p,q,r,s]:List Int).set (a:Int).toNat t) 7) (nth (([b,c,d,e,f,g,h,i,j,k,l,m,n,o,p,q,r,s]:List Int).set (a:Int).toNat t) 8) (nth (([b,c,d,e,f,g,h,i,j,k,l,m,n,o,p,q,r,s]:List Int).set (a:Int).toNat t) 9) (nth (([b,c,d,e,f,g,h,i,j,k,l,m,n,o,p,q,r,s]:List Int).set (a:Int).toNat t) 10) (nth (([b,c,d,e,f,g,h,i,j,k,l,m,n,o,p,q,r,s]:List Int).set (a:Int).toNat t) 11) (nth (([b,c,d,e,f,g,h,i,j,k,l,m,n,o,p,q,r,s]:List Int).set (a:Int).toNat t) 12) (nth (([b,c,d,e,f,g,h,i,j,k,l,m,n,o,p,q,r,s]:List Int).set (a:Int).toNat t) 13) (nth (([b,c,d,e,f,g,h,i,j,k,l,m,n,o,p,q,r,s]:List Int).set (a:Int).toNat t) 14) (nth (([b,c,d,e,f,g,h,i,j,k,l,m,n,o,p,q,r,s]:List Int).set (a:Int).toNat t) 15) (nth (([b,c,d,e,f,g,h,i,j,k,l,m,n,o,p,q,r,s]:List Int).set (a:Int).toNat t) 16) (nth (([b,c,d,e,f,g,h,i,j,k,l,m,n,o,p,q,r,s]:List Int).set (a:Int).toNat t) 17)) else u b c d e f g h i j k l m n o p q r s
def fW(zdh:Int->Option Int):Option xj:=
 Fh (fun(a:Int) (b:Int) (c:Int) (d:Int) (e:Int) (f:Int) (g:Int) (h:Int) (i:Int) (j:Int) (k:Int) (l:Int) (m:Int) (n:Int) (o:Int) (p:Int) (q:Int) (r:Int)=>some (⟨a,b,c,d,e,f,g,h,i,j,k,l,m,n,o,p,q,r⟩:xj)) fun s=>qT zdh s wr 0 0 0 0 0 0 0 0 0 0 0 0 0 0 0 0 0 0 0
theorem l0(Z zj9 zr2 zdh r)(h:fW zdh=some r){Ek}(hz:PZ [] Ek Z)(af:∀ args w,(callFunc zj9 args).run Tryz.prog w = .ok (.enter zj9 args) w)(ag:∀ w:World,PZ [] w Z->∀(x0:Int) (r:Int),zdh x0=some r->Calls Tryz.prog zj9 (([vi x0]:List Value)++zr2).toArray w fun e w'=>e = .returned (.int .u64 r)/\Hp [] w w' []):
  RC 62 #[.func (.func zj9) #[] (zr2).toArray] Ek (.agg #[.int .u64 r.a0,.int .u64 r.a1,.int .u64 r.a2,.int .u64 r.a3,.int .u64 r.a4,.int .u64 r.a5,.int .u64 r.a6,.int .u64 r.a7,.int .u64 r.a8,.int .u64 r.a9,.int .u64 r.a10,.int .u64 r.a11,.int .u64 r.a12,.int .u64 r.a13,.int .u64 r.a14,.int .u64 r.a15,.int .u64 r.a16,.int .u64 r.a17]) [] []:=by
 unfold fW at h
 refine L3 func62 U U ?_
 let A:List Value:=[.int .u64 0,.int .u64 0,.int .u64 0,.int .u64 0,.int .u64 0,.int .u64 0,.int .u64 0,.int .u64 0,.int .u64 0,.int .u64 0,.int .u64 0,.int .u64 0,.int .u64 0,.int .u64 0,.int .u64 0,.int .u64 0,.int .u64 0,.int .u64 0];refine B0q<|Lh 2 (wn (cs:=A) zZy) ?_
 intro aa _
 refine Q0n<|Lb<|Le (Lh 3 (wn (cs:=A) zZy) fun ab _=>Q0n ?_)
 obtain⟨ae,ah,h⟩:=Gf h
 refine Of (fun F G H I J K L M N O P Q R S T V W X=>(ae F G H I J K L M N O P Q R S T V W X=some r)) (fun F G H I J K L M N O P Q R S T V W X=>[(2,vp aa),(3,vp ab)]) (fun F G H I J K L M N O P Q R S T V W X=>[stb aa 37 A,stb ab 37 [.int .u64 F,.int .u64 G,.int .u64 H,.int .u64 I,.int .u64 J,.int .u64 K,.int .u64 L,.int .u64 M,.int .u64 N,.int .u64 O,.int .u64 P,.int .u64 Q,.int .u64 R,.int .u64 S,.int .u64 T,.int .u64 V,.int .u64 W,.int .u64 X]]) ?_ ?_
 ·refine B1n U<|WC.block<|Oi (fun Y a b c d g i n o p q s t v x y z B C D=>(qT zdh ae Y a b c d g i n o p q s t v x y z B C D=some r)) (fun Y a b c d g i n o p q s t v x y z B C D=>[(0,.func (.func zj9) #[] (zr2).toArray),(2,vp aa),(3,vp ab),(5,vi a)]) (fun Y a b c d g i n o p q s t v x y z B C D=>[stb aa 37 A,stb ab 37 [.int .u64 b,.int .u64 c,.int .u64 d,.int .u64 g,.int .u64 i,.int .u64 n,.int .u64 o,.int .u64 p,.int .u64 q,.int .u64 s,.int .u64 t,.int .u64 v,.int .u64 x,.int .u64 y,.int .u64 z,.int .u64 B,.int .u64 C,.int .u64 D]]) (fun Y a b c d g i n o p q s t v x y z B C D=>Y) ⟨wr,0,0,0,0,0,0,0,0,0,0,0,0,0,0,0,0,0,0,0⟩ h .q (.s2 .h1 .here) ?_
  rintro(_|ak) a b c d g i n o p q s t v x y z B C D h;·cases h
  rw[qT] at h
  refine B1n U<|Lb<|Lj h (fun ai h=>?_)<|fun ai h=>?_
  ·exact Ec<|Lb<|WC.block<|B2n U<|bK h fun E aj h=>cK h fun ad h=>D3q U<|Lm 11 (wV (l:=[.tmp 10]) (f:=zj9) (caps:=zr2) af<|.cons U .nil) .nil (fun w hw=>ag w (hz.now hw) a E  aj)<|Lf 12 (qF zHV ad jL)<|Ll (aC (l:=([b,c,d,g,i,n,o,p,q,s,t,v,x,y,z,B,C,D]:List Int)) (f:=Value.int .u64) (u:=E) (k:=0) (m:=18) (j:=18) (ds:=[(.int .u64<|nth (([b,c,d,g,i,n,o,p,q,s,t,v,x,y,z,B,C,D]:List Int).set (a:Int).toNat E) 0),(.int .u64<|nth (([b,c,d,g,i,n,o,p,q,s,t,v,x,y,z,B,C,D]:List Int).set (a:Int).toNat E) 1),(.int .u64<|nth (([b,c,d,g,i,n,o,p,q,s,t,v,x,y,z,B,C,D]:List Int).set (a:Int).toNat E) 2),(.int .u64<|nth (([b,c,d,g,i,n,o,p,q,s,t,v,x,y,z,B,C,D]:List Int).set (a:Int).toNat E) 3),(.int .u64<|nth (([b,c,d,g,i,n,o,p,q,s,t,v,x,y,z,B,C,D]:List Int).set (a:Int).toNat E) 4),(.int .u64<|nth (([b,c,d,g,i,n,o,p,q,s,t,v,x,y,z,B,C,D]:List Int).set (a:Int).toNat E) 5),(.int .u64<|nth (([b,c,d,g,i,n,o,p,q,s,t,v,x,y,z,B,C,D]:List Int).set (a:Int).toNat E) 6),(.int .u64<|nth (([b,c,d,g,i,n,o,p,q,s,t,v,x,y,z,B,C,D]:List Int).set (a:Int).toNat E) 7),(.int .u64<|nth (([b,c,d,g,i,n,o,p,q,s,t,v,x,y,z,B,C,D]:List Int).set (a:Int).toNat E) 8),(.int .u64<|nth (([b,c,d,g,i,n,o,p,q,s,t,v,x,y,z,B,C,D]:List Int).set (a:Int).toNat E) 9),(.int .u64<|nth (([b,c,d,g,i,n,o,p,q,s,t,v,x,y,z,B,C,D]:List Int).set (a:Int).toNat E) 10),(.int .u64<|nth (([b,c,d,g,i,n,o,p,q,s,t,v,x,y,z,B,C,D]:List Int).set (a:Int).toNat E) 11),(.int .u64<|nth (([b,c,d,g,i,n,o,p,q,s,t,v,x,y,z,B,C,D]:List Int).set (a:Int).toNat E) 12),(.int .u64<|nth (([b,c,d,g,i,n,o,p,q,s,t,v,x,y,z,B,C,D]:List Int).set (a:Int).toNat E) 13),(.int .u64<|nth (([b,c,d,g,i,n,o,p,q,s,t,v,x,y,z,B,C,D]:List Int).set (a:Int).toNat E) 14),(.int .u64<|nth (([b,c,d,g,i,n,o,p,q,s,t,v,x,y,z,B,C,D]:List Int).set (a:Int).toNat E) 15),(.int .u64<|nth (([b,c,d,g,i,n,o,p,q,s,t,v,x,y,z,B,C,D]:List Int).set (a:Int).toNat E) 16),(.int .u64<|nth (([b,c,d,g,i,n,o,p,q,s,t,v,x,y,z,B,C,D]:List Int).set (a:Int).toNat E) 17)]) zgZ U U U U .h1 U U ad U U)<|WL.nil<|Lq<|Ld<|D2q U<|WL.nil<|Em ⟨ak,i64 (a+1),nth (([b,c,d,g,i,n,o,p,q,s,t,v,x,y,z,B,C,D]:List Int).set (a:Int).toNat E) 0,nth (([b,c,d,g,i,n,o,p,q,s,t,v,x,y,z,B,C,D]:List Int).set (a:Int).toNat E) 1,nth (([b,c,d,g,i,n,o,p,q,s,t,v,x,y,z,B,C,D]:List Int).set (a:Int).toNat E) 2,nth (([b,c,d,g,i,n,o,p,q,s,t,v,x,y,z,B,C,D]:List Int).set (a:Int).toNat E) 3,nth (([b,c,d,g,i,n,o,p,q,s,t,v,x,y,z,B,C,D]:List Int).set (a:Int).toNat E) 4,nth (([b,c,d,g,i,n,o,p,q,s,t,v,x,y,z,B,C,D]:List Int).set (a:Int).toNat E) 5,nth (([b,c,d,g,i,n,o,p,q,s,t,v,x,y,z,B,C,D]:List Int).set (a:Int).toNat E) 6,nth (([b,c,d,g,i,n,o,p,q,s,t,v,x,y,z,B,C,D]:List Int).set (a:Int).toNat E) 7,nth (([b,c,d,g,i,n,o,p,q,s,t,v,x,y,z,B,C,D]:List Int).set (a:Int).toNat E) 8,nth (([b,c,d,g,i,n,o,p,q,s,t,v,x,y,z,B,C,D]:List Int).set (a:Int).toNat E) 9,nth (([b,c,d,g,i,n,o,p,q,s,t,v,x,y,z,B,C,D]:List Int).set (a:Int).toNat E) 10,nth (([b,c,d,g,i,n,o,p,q,s,t,v,x,y,z,B,C,D]:List Int).set (a:Int).toNat E) 11,nth (([b,c,d,g,i,n,o,p,q,s,t,v,x,y,z,B,C,D]:List Int).set (a:Int).toNat E) 12,nth (([b,c,d,g,i,n,o,p,q,s,t,v,x,y,z,B,C,D]:List Int).set (a:Int).toNat E) 13,nth (([b,c,d,g,i,n,o,p,q,s,t,v,x,y,z,B,C,D]:List Int).set (a:Int).toNat E) 14,nth (([b,c,d,g,i,n,o,p,q,s,t,v,x,y,z,B,C,D]:List Int).set (a:Int).toNat E) 15,nth (([b,c,d,g,i,n,o,p,q,s,t,v,x,y,z,B,C,D]:List Int).set (a:Int).toNat E) 16,nth (([b,c,d,g,i,n,o,p,q,s,t,v,x,y,z,B,C,D]:List Int).set (a:Int).toNat E) 17⟩ h (Nat.lt_succ_self _) .q<|.s2 .h1 .here
  ·exact En<|Ln<|Ln<|Lu<|Lp ⟨b,c,d,g,i,n,o,p,q,s,t,v,x,y,z,B,C,D⟩ h .q<|.a2
 ·rintro F G H I J K L M N O P Q R S T V W X h
  replace h:=(ah F G H I J K L M N O P Q R S T V W X).symm.trans h
  exact B0q<|Lf 14 (we zHW (wh .h1))<|Ll (wl zO1 .here)<|Q0n<|El<|oJ h▸Eb results62 (.agg U zHW U (wh .here) .nil) .nil
def kW(a:xj)(c:Int->Int->Option Int):Nat->Int->Int->Int->Option Int
 | 0,_,_,_=>none
 | h+1,b,d,e=>if decide (b<18) then chk (0<=b/\b<18) ((jy (nth ([a.a0,a.a1,a.a2,a.a3,a.a4,a.a5,a.a6,a.a7,a.a8,a.a9,a.a10,a.a11,a.a12,a.a13,a.a14,a.a15,a.a16,a.a17]:List Int) b)).bind fun g=>(pP (⟨d,e⟩:xk) g).bind fun f=>kW a c h (i64 (b+1)) f.xm f.xl) else c d e
def fY(e:xj):Option Int:=
 (sG).bind fun f=>rl (fun(b:Int) (c:Int)=>(gp (⟨b,c⟩:xk)).bind fun a=>some a) fun d=>kW e d wr 0 7953747704174896417 0
theorem Yq(Z a r)(h:fY a=some r){Ek}(hz:PZ [] Ek Z):
  RC 112 #[.agg #[.int .u64 a.a0,.int .u64 a.a1,.int .u64 a.a2,.int .u64 a.a3,.int .u64 a.a4,.int .u64 a.a5,.int .u64 a.a6,.int .u64 a.a7,.int .u64 a.a8,.int .u64 a.a9,.int .u64 a.a10,.int .u64 a.a11,.int .u64 a.a12,.int .u64 a.a13,.int .u64 a.a14,.int .u64 a.a15,.int .u64 a.a16,.int .u64 a.a17]] Ek (.int .u64 r) [] []:=by
 unfold fY at h
 refine L3 func112 U U<|Lb<|Le (Lh 1 (wu (cs:=[.int .u64 a.a0,.int .u64 a.a1,.int .u64 a.a2,.int .u64 a.a3,.int .u64 a.a4,.int .u64 a.a5,.int .u64 a.a6,.int .u64 a.a7,.int .u64 a.a8,.int .u64 a.a9,.int .u64 a.a10,.int .u64 a.a11,.int .u64 a.a12,.int .u64 a.a13,.int .u64 a.a14,.int .u64 a.a15,.int .u64 a.a16,.int .u64 a.a17])) fun y _=>Q1n U<|Lb ?_)
 refine bK h fun z o h=>Le<|Eg call73 hz (Xd _ _ o) (Lh 3 (wn (cs:=[.int .u64 0,vi 0]) zO0) fun k _=>Ll (wl zHU .here)<|Q0n ?_)
 refine jK2 h fun m p h=>Nv (fun e g=>(m e g=some r)) (fun e g=>[(3,vp k)]) (fun e g=>[stb k 193 [.int .u64 e,vi g]]) ?_ ?_
 ·refine B0q<|Lf 7 (we zHW (wh .h1))<|Q1n U<|WC.block<|E9 (fun j b c d=>(kW a m j b c d=some r)) (fun j b c d=>[(3,vp k),(7,.agg #[.int .u64 a.a0,.int .u64 a.a1,.int .u64 a.a2,.int .u64 a.a3,.int .u64 a.a4,.int .u64 a.a5,.int .u64 a.a6,.int .u64 a.a7,.int .u64 a.a8,.int .u64 a.a9,.int .u64 a.a10,.int .u64 a.a11,.int .u64 a.a12,.int .u64 a.a13,.int .u64 a.a14,.int .u64 a.a15,.int .u64 a.a16,.int .u64 a.a17]),(8,vi b)]) (fun j b c d=>[stb k 193 [.int .u64 c,vi d]]) (fun j b c d=>j) ⟨wr,0,7953747704174896417,0⟩ h .q (.cons .here .nil) ?_
  rintro(_|x) b c d h;·cases h
  rw[kW] at h
  refine B1n U<|Lb<|Lj h (fun q h=>?_)<|fun q h=>?_
  ·refine Ec<|Lb<|WC.block<|Lb<|cK h fun s h=>Le<|Lf 10 (XP (l:=([a.a0,a.a1,a.a2,a.a3,a.a4,a.a5,a.a6,a.a7,a.a8,a.a9,a.a10,a.a11,a.a12,a.a13,a.a14,a.a15,a.a16,a.a17]:List Int)) (f:=Value.int .u64) zHV z4O U U U s)<|Q1n U<|bK h fun A t h=>bK h fun n u h=>Lv (fun i=>[4].contains i) []<|Li 0 U (we zCz (wh .here))<|Lg 1 U q_m<|WD.call2 (i:=2) (dd:=13) U (by kernel_rfl) U (.inr U) (Eh call76) .nil (cc hz .nil fun w pz ho=>f2 _ _ _ t pz ) ?_
   rintro B C _
   exact L5 3 U (Eh call72) (kb hz .nil (.cons .here .nil) fun w pz ho la=>Xe _ _ _ _ _ _ u pz<|ZA.row (la _ (.head _) _) (RR.flat (enc:=e5) (fun _=>U) _) ⟨w,pz.1⟩)<|Nb (i:=4) U (by kernel_rfl) (by kernel_rfl) (wl zHU .h1)<|Eo (by kernel_rfl)<|Lq<|Ld<|D2q U<|WL.nil<|Em ⟨x,i64 (b+1),n.xm,n.xl⟩ h (Nat.lt_succ_self _) .q<|.cons .here .nil
  ·exact En<|Ln<|Ln<|Lu<|Lp ⟨c,d⟩ h (.cons U .nil)<|.cons .here .nil
 ·rintro e g h
  replace h:=(p e g).symm.trans h
  exact Lb<|bK h fun D v h=>Le<|Lf 16 (we zCz (wh .here))<|Eg call71 hz (eL _ _ _ v)<|Q1n U<|El<|oJ h▸Ea results112
def rz(c:Int)(d:Int):Option Int:=
 (fW (fun(y0:Int)=>tG y0 c d)).bind fun a=>(fY a).bind fun b=>some b
theorem QI(Z a b r)(h:rz a b=some r){Ek}(hz:PZ [] Ek Z):
  RC 59 #[.int .u64 a,vi b] Ek (.int .u64 r) [] []:=by
 unfold rz at h
 refine Lz func59 U U<|Lb<|Le (Lh 2 (wu (cs:=[.int .u64 a])) fun c _=>Lh 3 (wu (cs:=[vi b])) fun d _=>Q1n U<|Lb ?_)
 exact bK h fun g e h=>bK h fun i f h=>Le<|Lf 5 (wO<|L6 (l:=[.tmp 2,.tmp 3])<|.r2 U U)<|Lm 6 (Eh call62) .nil (kb hz .nil (.s2 .h1 .here) fun w pz ho la=>l0 _ (zj9:=113) (zr2:=[vp c,vp d]) (zdh:=(fun(y0:Int)=>tG y0 a b)) _ e pz call113<|fun w' nd y0  r  hr=>Vc _ _ _ _ _ _ _ hr nd ((la _ (.head _) _).stb)<|(la _ (.tail _<|.head _) _).stb)<|Eg call112 hz (Yq _ _ _ f)<|Q1n U<|El<|oJ h▸Ea results59
def mX(d:Int)(e:Int):Option Int:=
 (jy d).bind fun a=>(jy e).bind fun b=>chk (((a++b).length:Int)*1<=140737488355328/\((a++b).length:Int)<=4611686018427387904) ((g4 (a++b)).bind fun c=>some c)
theorem bB(Z a b r)(h:mX a b=some r){Ek}(hz:PZ [] Ek Z):
  RC 60 #[.int .u64 a,.int .u64 b] Ek (.int .u64 r) [] []:=by
 unfold mX at h
 refine Lz func60 U U<|B1n U<|Lb<|bK h fun g c h=>bK h fun i d h=>cK h fun e h=>bK h fun j f h=>D1q U<|L7 (dd:=6) U (Eh call76) .nil (cc hz .nil fun w pz ho=>f2 _ _ _ c pz ) ?_
 rintro k l _
 refine La U<|L7 (dd:=8) U (Eh call76) .nil (cc hz .nil fun w pz ho=>f2 _ _ _ d pz ) ?_
 rintro m n _
 refine WL.fA 9 (vb (enc:=e5) (l1:=g) (l2:=i) z2j .h1 (fun _=>U) (wY .here) (vm tk _) e) ?_
 rintro⟨o,p⟩ _
 exact Lm 10 (Eh call30) .nil (kb hz .nil (.cons .here .nil) fun w pz ho la=>rH _ _ _ _ _ f pz<|ZA.row (la _ (.head _) _) (RR.flat (enc:=e5) (fun _=>U) _) ⟨w,pz.1⟩)<|Q1n U<|El<|oJ h▸Ea results60
def jN(z2o:Type)(z4G:Int)(zf9:Int)(c:(List Int)->Option z2o):Nat->(List Int)->Int->Option z2o
 | 0,_,_=>none
 | d+1,b,a=>if decide (a<(((List.replicate ((i64 (1*2 ^ min (z4G:Int).toNat 64)):Int).toNat (0:Int)).length:Nat):Int)) then(rz zf9 a).bind fun e=>chk (0<=a/\a<b.length) (jN z2o z4G zf9 c d (b.set (a:Int).toNat e) (i64 (a+1))) else c b
def kX(z2o:Type)(b:List Int)(d:(List Int)->Option z2o):Nat->(List Int)->Int->Option z2o
 | 0,_,_=>none
 | e+1,c,a=>if decide (a<(((List.replicate ((i64 (Int.tdiv (b.length:Int) 2)):Int).toNat (0:Int)).length:Nat):Int)) then chk (0<=(i64 (2*a))/\(i64 (2*a))<b.length) (chk (0<=(i64 ((i64 (2*a))+1))/\(i64 ((i64 (2*a))+1))<b.length) ((mX (nth b (i64 (2*a))) (nth b (i64 ((i64 (2*a))+1)))).bind fun f=>chk (0<=a/\a<c.length) (kX z2o b d e (c.set (a:Int).toNat f) (i64 (a+1))))) else d c
def kY(z2o:Type)(zfa:(List Int)->z2o->Option (Bool×z2o))(c:z2o->Option z2o):Nat->(List Int)->z2o->Option z2o
 | 0,_,_=>none
 | d+1,a,e=>(zfa a e).bind fun b=>if b.1&&(decide ((a.length:Int)>1)) then vC (fun(f:List Int)=>kY z2o zfa c d f b.2) fun g=>chk (0<=(i64 (Int.tdiv (a.length:Int) 2))/\(i64 (Int.tdiv (a.length:Int) 2):Int)<=(i64 (Int.tdiv (a.length:Int) 2))/\(i64 (Int.tdiv (a.length:Int) 2):Int)*8<=140737488355328/\(i64 (Int.tdiv (a.length:Int) 2):Int)<=4611686018427387904) (vC (fun h=>g h) fun i=>kX z2o a i wr (List.replicate ((i64 (Int.tdiv (a.length:Int) 2)):Int).toNat (0:Int)) 0) else c b.2
def mN(z2o:Type)(zfa:(List Int)->z2o->Option (Bool×z2o))(ze9:z2o)(z4G:Int)(zf9:Int):Option z2o:=
 chk (0<=z4G) (chk (0<=(i64 (1*2 ^ min (z4G:Int).toNat 64))/\(i64 (1*2 ^ min (z4G:Int).toNat 64):Int)<=(i64 (1*2 ^ min (z4G:Int).toNat 64))/\(i64 (1*2 ^ min (z4G:Int).toNat 64):Int)*8<=140737488355328/\(i64 (1*2 ^ min (z4G:Int).toNat 64):Int)<=4611686018427387904) (vC (fun(a:List Int)=>vC (fun(b:z2o)=>some b) fun c=>kY z2o zfa c wr a ze9) fun d=>jN z2o z4G zf9 d wr (List.replicate ((i64 (1*2 ^ min (z4G:Int).toNat 64)):Int).toNat (0:Int)) 0))
theorem eM(Z)(z2o:Type)(zja)(zn0:Type)(zay)(zuj:zn0->z2o->Prop)(zjb zMw zGx zfa ze9 z4G zf9 r){Ek}(hz:Pz [zay zjb ze9] Ek Z)(ah:WW Tryz.prog Z zja (α:=List Int) (σ:=z2o) (G:=zn0) (H:=Option Addr×Nat) (fun h x=>[vs h.1 x.length h.2]) (fun h x=>[row (vs h.1 x.length h.2) 24 1 (x.flatMap vK)]) (fun h x=>[row (vs h.1 x.length h.2) 24 1 (x.flatMap vK)]) (fun h x=>True) zfa zay zuj)(ai:zuj zjb ze9)(aj:ZC Z zMw [vi z4G])(ak:ZC Z zGx [.int .u64 zf9])(h:mN z2o zfa ze9 z4G zf9=some r)(iA:Ho Ek [zay zjb ze9]):
  Calls Tryz.prog 58 #[.func (.yield zja) #[] #[],vq zMw,vq zGx] Ek fun e w'=>∃ ab:zn0,e = .returned (.tuple #[])/\(zuj ab r)/\Hp (fps [zay zjb ze9]) Ek w' [zay ab r]:=by
 unfold mN at h
 refine Ey func58 U iA U<|Lb<|cK h fun al h=>cK h fun am h=>Le<|Lf 8 (w8 wm U<|vx hz.pv aj)<|Lf 9 (cN al)<|Lh 10 (eV (r:=[.int .u64 0]) (z0:=(0:Int)) zcJ zHT U U U U am) ?_
 intro J _
 let C:=(i64 (1*2 ^ min (z4G:Int).toNat 64));refine N5 .here (cs':=(List.replicate (C:Int).toNat (0:Int)).flatMap vK) (XY (enc:=vK) (0:Int) _)<|Q1n U ?_
 obtain⟨ae,an,h⟩:=wE h
 let D:Value:=(.func (.yield zja) #[] #[]);refine Nd (fun m=>(ae m=some r)) (fun m=>[(0,D),(4,(vs (some ⟨J,0,none⟩) m.length<|(C:Int).toNat))]) (fun m=>[row (vs (some ⟨J,0,none⟩) m.length<|(C:Int).toNat) 24 1 (m.flatMap vK),zay zjb ze9]) ?_ ?_
 ·refine B1q U<|Lf 12 (wB underlying38)<|Q1n U<|WC.block<|E4 (fun V c j=>(jN z2o z4G zf9 ae V c j=some r)) (fun V c j=>[(0,D),(2,vq zGx),(4,(vs (some ⟨J,0,none⟩) c.length<|(C:Int).toNat)),(12,vi ((List.replicate (C:Int).toNat (0:Int)).length:Int)),(13,vi j)]) (fun V c j=>[row (vs (some ⟨J,0,none⟩) c.length<|(C:Int).toNat) 24 1 (c.flatMap vK),zay zjb ze9]) (fun V c j=>V) ⟨wr,List.replicate (C:Int).toNat (0:Int),0⟩ h .q .a2 ?_
  rintro(_|aD) c j h;·cases h
  rw[jN] at h
  refine B1n U<|Lb<|Lj h (fun ao h=>?_)<|fun ao h=>?_
  ·exact Ec<|Lb<|WC.block<|B2n U<|bK h fun K ap h=>cK h fun M h=>D2q U<|Lf 18 (w8 z4O U<|vx hz.pv ak)<|La U<|Eg call59 hz (QI _ _ _ _ ap)<|Lf 21 (wL zcJ M.1 M.2 vB)<|Ll (sT (vs:=[.int .u64 K]) (ds:=(c.set (j:Int).toNat K).flatMap vK) zgZ (uv si) .here (db (enc:=vK) (sz:=1) (k:=0) (fun _=>U) M.1 M.2 (by decide))<|d9 (enc:=vK) (l:=c) (sz:=1) (vs:=[.int .u64 K]) (y:=K) (k:=0) (fun _=>U) M.1 M.2<|Nat.le_of_ble_eq_true U)<|N9 .here (u:=(vs (some ⟨J,0,none⟩) ((c.set (j:Int).toNat K).length)<|(C:Int).toNat)) (rJ (List.length_set).symm)<|Ew (i:=4) U (u:=(vs (some ⟨J,0,none⟩) ((c.set (j:Int).toNat K).length)<|(C:Int).toNat)) (rJ (List.length_set).symm)<|WL.nil<|Lq<|Ld<|D2q U<|WL.nil<|Em ⟨aD,c.set (j:Int).toNat K,i64 (j+1)⟩ h (Nat.lt_succ_self _) .q<|.a2
  ·exact En<|Ln<|Ln<|Lu<|Lp c h .q<|.a2
 ·rintro m h
  replace h:=(an m).symm.trans h
  refine jK1 h fun af aq h=>N3 (fun L N=>(af L=some r)/\(zuj N L)) (fun L N=>[]) (fun L N=>[zay N L]) ?_ ?_
  ·refine WC.block<|Hj (fun O a n q t v=>(kY z2o zfa af O a n=some r)/\(zuj v n)) (fun O a n q t v=>[(0,D),(4,vs q a.length t)]) (fun O a n q t v=>[row (vs q a.length t) 24 1 (a.flatMap vK),zay v n]) (fun O a n q t v=>O) ⟨wr,m,ze9,some ⟨J,0,none⟩,(C:Int).toNat,zjb⟩ ⟨h,ai⟩ .q .a2 ?_
   rintro (_|aE) a n q t v ⟨h,ar⟩;·cases h
   rw[kY] at h
   refine Lb<|Lb ?_
   obtain⟨z,au,h⟩:=z2 h
   let F:Value:=(vs q a.length t);let I:List Asrt:=[row F 24 1 (a.flatMap vK),zay v n];refine D2q U<|Dv (dd:=25) (x:=a) (h:=(q,t)) (g:=v) (s:=n) (b:=z.1) (s':=z.2) ah U U U (.cons U .nil) ((.a2):Sel _ I _) au ar trivial (fun w hw=>hz.call hw ((.a2):Sel _ I _)) ?_
   intro W ad
   refine La U<|Lx true 3 26 (B:=z.1&&(decide ((a.length:Int)>1))) (fun h=>(qd h).symm) (fun _ av=>?_) ?_
   ·exact La U<|Lf 28 (wB underlying38)<|Q2q U<|Ly (qe av) U .all
   refine Q0n<|Lj h (fun aw h=>?_)<|fun aw h=>?_
   ·refine Ec<|jK1 h fun aF ax h=>Dp (fun o P Q=>(aF o=some r)) (fun o P Q=>[(0,D),(4,vs P o.length Q)]) (fun o P Q=>[row (vs P o.length Q) 24 1 (o.flatMap vK),zay W z.2]) ?_ ?_
    ·refine WC.block<|Lb<|cK h fun ay h=>D1q U<|Lf 32 (wB underlying38)<|Lf 33 (cM (by decide))<|Lh 34 (eV (r:=[.int .u64 0]) (z0:=(0:Int)) zcJ zHT U U U U ay) ?_
     intro R _
     let A:=(i64 (Int.tdiv (a.length:Int) 2));refine N5 .here (cs':=(List.replicate (A:Int).toNat (0:Int)).flatMap vK) (XY (enc:=vK) (0:Int) _)<|Q1n U ?_
     refine jK1 h fun ag az h=>Nd (fun p=>(ag p=some r)) (fun p=>[(0,D),(6,(vs (some ⟨R,0,none⟩) p.length<|(A:Int).toNat))]) (fun p=>[row (vs (some ⟨R,0,none⟩) p.length<|(A:Int).toNat) 24 1 (p.flatMap vK),zay W z.2]) ?_ ?_
     ·refine B1q U<|Lf 36 (wB underlying38)<|Q1n U<|WC.block<|E4 (fun X d f=>(kX z2o a ag X d f=some r)) (fun X d f=>[(0,D),(4,F),(6,(vs (some ⟨R,0,none⟩) d.length<|(A:Int).toNat)),(36,vi ((List.replicate (A:Int).toNat (0:Int)).length:Int)),(37,vi f)]) (fun X d f=>[row F 24 1 (a.flatMap vK),row (vs (some ⟨R,0,none⟩) d.length<|(A:Int).toNat) 24 1 (d.flatMap vK),zay W z.2]) (fun X d f=>X) ⟨wr,List.replicate (A:Int).toNat (0:Int),0⟩ h .q (.s3 .h1 .here .here) ?_
      rintro(_|aG) d f h;·cases h
      rw[kX] at h
      refine B1n U<|Lb<|Lj h (fun aA h=>?_)<|fun aA h=>?_
      ·refine Ec<|Lb<|WC.block<|B2n U<|cK h fun Y h=>cK h fun aa h=>bK h fun S aB h=>cK h fun T h=>Lv (fun i=>[15].contains i) []<|Lg 0 U q_m<|Lg 1 U q_m<|Lg 2 U q_m<|Lg 3 U q_m<|Lg 4 U uM<|Eu (fun w hw=>Hp.vr .here hw (by intro nd;have:=Y;rw[nd] at this;omega)) ?_
       rintro⟨aH,rfl⟩
       let E:Value:=(vs (some ⟨R,0,none⟩) ((d.set (f:Int).toNat S).length) ((A:Int).toNat));refine Lg 5 U (wL zcJ Y.1 Y.2 vB)<|Li 6 U (w8 z4O U<|gt .here<|(qm (enc:=vK) (l:=a) (i:=i64 (2*f)) (sz:=1) (fun _=>U) Y.1 Y.2) 0 _ U)<|Lg 7 U q_m<|Lg 8 U q_m<|Lg 9 U uM<|Lg 10 U fb<|Lg 11 U (wL zcJ aa.1 aa.2 vB)<|Li 12 U (w8 z4O U<|gt .here<|(qm (enc:=vK) (l:=a) (i:=i64 ((i64 (2*f))+1)) (sz:=1) (fun _=>U) aa.1 aa.2) 0 _ U)<|L5 13 U (Eh call60) (cc hz .nil fun w pz ho=>bB _ _ _ _ aB pz )<|Lg 14 U (wL zcJ T.1 T.2 vB)<|Nb (i:=15) U (by kernel_rfl) (by kernel_rfl) (sT (vs:=[.int .u64 S]) (ds:=(d.set (f:Int).toNat S).flatMap vK) zgZ (uv si) .h1 (db (enc:=vK) (sz:=1) (k:=0) (fun _=>U) T.1 T.2 (by decide))<|d9 (enc:=vK) (l:=d) (sz:=1) (vs:=[.int .u64 S]) (y:=S) (k:=0) (fun _=>U) T.1 T.2<|Nat.le_of_ble_eq_true U)<|N1 .here (u:=E) (rJ (List.length_set).symm)<|Ny (i:=6) U (u:=E) (rJ (List.length_set).symm)<|Eo (by kernel_rfl)<|Lq<|Ld<|D2q U<|WL.nil ?_
       exact Em ⟨aG,d.set (f:Int).toNat S,i64 (f+1)⟩ h (Nat.lt_succ_self _) .q<|.s3 .h1 .here .here
      ·exact En<|Ln<|Ln<|Lu<|Lp d h .q<|.s2 .h1 .h1
     ·rintro p h
      replace h:=(az p).symm.trans h
      exact D2q U<|WL.nil<|Lq<|Lp ⟨p,some ⟨R,0,none⟩,(A:Int).toNat⟩ h .q<|.a2
    ·rintro o P Q h
     replace h:=(ax o).symm.trans h
     exact Em ⟨aE,o,z.2,P,Q,W⟩ ⟨h,ad⟩ (Nat.lt_succ_self _) .q<|.a2
   ·exact En<|Ln<|Ln<|Lu<|Lp ⟨z.2,W⟩ ⟨h,ad⟩ .nil<|.cons .h1 .nil
  ·rintro L N ⟨h,aC⟩
   replace h:=(aq L).symm.trans h
   exact oJ h▸Nj results58 .nil fun w hw=>⟨N,ui,aC,hw.sub (.cons .here .nil)⟩
def ou(a:List Int)(b:Int):Option (Bool×(Nat×Int)):=
 chk ((0:Int)<=0/\0<(a.length:Int)) (some (true,(0,nth a 0)))
def oS(c:Int)(a:Int):Option Int:=
 (ki a 0).bind fun d=>if !d then none else vC (fun(e:Int)=>some e) fun f=>(t7 c a).bind fun b=>(mN (Nat×Int) (fun(x:List Int) (s:Nat×Int)=>chk (s.1=0) (ou x s.2)) (0,0) b.1 b.2).bind fun g=>f g.2
theorem K9(Z u v r)(h:oS u v=some r){Ek}(hz:PZ [] Ek Z):
  RC 6 #[.int .u64 u,vi v] Ek (.tuple #[.int .u64 r,vi 0]) [] []:=by
 unfold oS at h
 refine E7 (vs:=[.int .u64 u,vi v]) (pre:=[]) (env:=[(0,.int .u64 u),(1,vi v)]) func6 U ntmps6 (Hp.nil Ek _) U<|B2n U<|Lb<|Lb<|bK h fun S I h=>D1q U<|Eg call20 hz (pO _ _ _ _ I)<|Q1n U<|Lj h (fun J h=>?_)<|fun J h=>?_
 ·cases h
 ·refine Ec<|Lb<|Le (Lh 6 (wn (cs:=[.int .u64 0]) zHT) fun e _=>Ll (wl zgZ .here)<|Q0n ?_)
  refine jK1 h fun T K h=>Od (fun q m=>(T m=some r)) (fun q m=>[(6,vp e)]) (fun q m=>[stb e 24 [.int .u64 m],wW q]) ?_ ?_
  ·refine Lb<|bK h fun a L h=>D2q U<|L7 (dd:=13) U (Eh call21) .nil (cc hz .nil fun w pz ho=>Yo _ _ _ _ L pz ) ?_
   rintro b c _
   refine Q0n<|WC.block<|WC.drop (.s3 .h2 .here .here)<|Ez (f:=58) (caps:=[vp b,vp c]) U call58 ?_
   intro V W k d n y M N w hw
   let A:List Asrt:=[stb e 24 [.int .u64 0],wA k (n .ready none)];have hw1:=hw.selAll ((.s2 .h2 .here):Sel _ A _)
   let C:List Asrt:=[stb b 3 [vi a.1],stb c 24 [.int .u64 a.2]];have pz:=(hz.call hw1 ((.cons .here .nil):Sel [wM A,wW d,stb b 3 [vi a.1],stb c 24 [.int .u64 a.2]] [wM A] [wW d,stb b 3 [vi a.1],stb c 24 [.int .u64 a.2]])).lend hw1 ((.cons .here .nil):Sel [wM A,wW d,stb b 3 [vi a.1],stb c 24 [.int .u64 a.2]] [wM A] [wW d,stb b 3 [vi a.1],stb c 24 [.int .u64 a.2]]) (B:=C) (fun _ nY=>((.s2 .h1 .h1):Sel _ C _).mem nY)
   refine bK h fun j O h=>Calls.mono (eM (Z:=_) (zja:=k) (zn0:=Unit) (zay:=(fun(g:Unit) (s:Nat×Int)=>wM ([stb e 24 [.int .u64 s.2]]++[wA k (n (ka<|vY [] s.1)<|vY [] s.1)]))) (zuj:=(fun(g:Unit) (s:Nat×Int)=>True)) (zjb:=()) (zMw:=⟨b,0,none⟩) (zGx:=⟨c,0,none⟩) (z2o:=(Nat×Int)) (zfa:=(fun(x:List Int) (s:Nat×Int)=>chk (s.1=0)<|ou x s.2)) (ze9:=(0,0)) (z4G:=a.1) (zf9:=a.2) (r:=j) pz ?_ trivial ((hw1.lent ((.cons .here .nil):Sel [wM A,wW d,stb b 3 [vi a.1],stb c 24 [.int .u64 a.2]] [wM A] [wW d,stb b 3 [vi a.1],stb c 24 [.int .u64 a.2]]) (B:=C) (fun _ nY=>((.s2 .h1 .h1):Sel _ C _).mem nY) (.head _) _).stb) ((hw1.lent ((.cons .here .nil):Sel [wM A,wW d,stb b 3 [vi a.1],stb c 24 [.int .u64 a.2]] [wM A] [wW d,stb b 3 [vi a.1],stb c 24 [.int .u64 a.2]]) (B:=C) (fun _ nY=>((.s2 .h1 .h1):Sel _ C _).mem nY) (.tail _<|.head _) _).stb) O<|hw1.owns ((.cons .here .nil):Sel [wM A,wW d,stb b 3 [vi a.1],stb c 24 [.int .u64 a.2]] [wM A] [wW d,stb b 3 [vi a.1],stb c 24 [.int .u64 a.2]])) ?_
   ·refine YW (LI:=(fun(g:Unit) (s:Nat×Int)=>[stb e 24 [.int .u64 s.2]])) (pc:=(fun(s:Nat×Int)=>vY [] s.1)) y M N (fun _ _=>U) (by decide) ?_
    rintro o ⟨z,E⟩ _ ⟨P,H⟩ Q R Fb wb F _ _ hz
    replace hz:=hz.left
    letI:Rnd:=rX k
    obtain⟨vj,p⟩:=wa F
    replace vj:P=0:=vj;subst vj;clear F
    replace p:ou o H=some (Q,R):=p
    unfold ou at p
    refine WC.restr (env':=[(10,.bool (!S)),(6,vp e),(14,vs z o.length E)]) (.qo U)<|N4 (L':=[row (vs z o.length E) 24 1 (o.flatMap vK),stb e 24 [.int .u64 H],wA k (n .ready none)]) U<|D1q U<|WL.nil<|N0 y .h2<|WC.block ?_
    obtain⟨t,p⟩:=wa p
    refine D1q U<|Es (fun w hw=>Hp.vr .h1 hw (by intro nd;have:=t;rw[nd] at this;omega)) ?_
    rintro⟨X,rfl⟩
    refine Lf 16 (wL zcJ t.1 t.2 vB)<|Lf 17 (w8 z4O U<|gt .h1<|(qm (enc:=vK) (l:=o) (i:=0) (sz:=1) (fun _=>U) t.1 t.2) 0 _ U)<|Ll (wl zgZ .h2)<|WL.nil<|Lq ?_
    obtain⟨rfl,rfl⟩:=tj p
    exact Nt y .h1<|fun w' pQ=>⟨(),U,trivial,(pQ.selAll ((.s2 .h1 .here):Sel _ [stb e 24 [(.int .u64<|nth o 0)],wA k (n .ready none)] _)).sub (.s2 .h1 .here)⟩
   ·rintro _ w' ⟨_,rfl,_,hp⟩
    have uY:=hw1.call ((.cons .here .nil):Sel [wM A,wW d,stb b 3 [vi a.1],stb c 24 [.int .u64 a.2]] [wM A] [wW d,stb b 3 [vi a.1],stb c 24 [.int .u64 a.2]]) hp
    have wQ:Hp _ _ w' [stb e 24 [.int .u64 j.2],wA k (n (ka (vY [] j.1)) (vY [] j.1)),wW d,stb b 3 [vi a.1],stb c 24 [.int .u64 a.2]]:=uY.pickAll .here
    refine⟨_,vY [] j.1,_,U,wQ.sub ((.s5 .h1 .here .here .here .here):Sel _ [wA k (n (ka (vY [] j.1)) (vY [] j.1)),stb e 24 [.int .u64 j.2],wW d,stb b 3 [vi a.1],stb c 24 [.int .u64 a.2]] _),?_⟩
    clear hp uY wQ pz hw hw1
    refine wjN ?_
    letI:Rnd:=fO d
    exact Lq<|Nz (D:=fun(g:Nat×Int)=>g.1) (G:=Nat×Int) ⟨d,j.2⟩ h (.cons U .nil)<|.a2
  ·rintro q m h
   replace h:=(K m).symm.trans h
   letI:Rnd:=fO q
   refine B0q<|Lf 18 (Ei z4O .here)<|Q2n U<|El ?_
   obtain rfl:=oJ h
   exact Hd .h1 results6 (.tmp U<|.tmp U .nil)<|fun w hw=>⟨qq,hw.sub .nil⟩
end Go.Proofs.YtaefhckdgfpeaaaGreat

/- A part of this claim's proof: models of functions, walks, plain laws. No conditions. -/
import Derived.Test.YthjnhebofpebpaaGreatW36h
set_option linter.all false
namespace Go.Proofs.YthjnhebofpebpaaGreat
open Go Go.RowKit Sep Tryz
variable {f:Int}{g:List (List za)}{i:(List ye)->Option (List ye)}{j:List ye}
set_option maxRecDepth 30000
set_option maxHeartbeats 4000000
def kM(b:List ye)(c:List (List za))(d:Int)(e:Int)(f:Int->Option (List ye)):Nat->Int->Option (List ye)
 | 0,_=>none
 | g+1,a=>chk ((decide (a>0))=true->(0<=(i64 (a-1))/\(i64 (a-1))<b.length)) (chk ((decide (a>0))=true->((decide (((nth b (i64 (a-1))).ya)>((nth (nth c d) e).ya)))=false->(0<=(i64 (a-1))/\(i64 (a-1))<b.length))) (chk ((decide (a>0))=true->((decide (((nth b (i64 (a-1))).ya)>((nth (nth c d) e).ya)))=false->((decide (((nth b (i64 (a-1))).ya)=((nth (nth c d) e).ya)))=true->(0<=(i64 (a-1))/\(i64 (a-1))<b.length)))) (if (decide (a>0))&&((decide (((nth b (i64 (a-1))).ya)>((nth (nth c d) e).ya)))||((decide (((nth b (i64 (a-1))).ya)=((nth (nth c d) e).ya)))&&(decide (((nth b (i64 (a-1))).fQ)>((nth (nth c d) e).fQ))))) then kM b c d e f g (i64 (a-1)) else f a)))
def kN(b:Int)(d:List (List za))(f:(List ye)->Option (List ye)):Nat->(List ye)->Int->Option (List ye)
 | 0,_,_=>none
 | h+1,a,e=>chk (0<=b/\b<d.length) (if decide (e<((nth d b).length:Int)) then vk (fun(i:List ye)=>kN b d f h i (i64 (e+1))) fun g=>chk (0<=b/\b<d.length) (chk (0<=e/\e<((nth d b).length:Int)) ((vG a ((nth (nth d b) e).ya) ((nth (nth d b) e).fQ)).bind fun j=>if decide (j>=0) then g a else vk (fun(c:Int)=>chk ((0:Int)<=0/\(0:Int)<=c/\c<=a.length) (chk ((((([]:List ye)++(a.take (c:Int).toNat)).length:Nat):Int)*32<=140737488355328/\(((([]:List ye)++(a.take (c:Int).toNat)).length:Nat):Int)<=4611686018427387904) (chk (((((([]:List ye)++(a.take (c:Int).toNat))++([({(nth (nth d b) e) with yf:=0,fT:=0}:ye)]:List ye)).length:Nat):Int)*32<=140737488355328/\((((([]:List ye)++(a.take (c:Int).toNat))++([({(nth (nth d b) e) with yf:=0,fT:=0}:ye)]:List ye)).length:Nat):Int)<=4611686018427387904) (chk (0<=c/\(c:Int)<=a.length/\(a.length:Int)<=a.length) (chk ((((((([]:List ye)++(a.take (c:Int).toNat))++([({(nth (nth d b) e) with yf:=0,fT:=0}:ye)]:List ye))++(a.drop (c:Int).toNat)).length:Nat):Int)*32<=140737488355328/\(((((([]:List ye)++(a.take (c:Int).toNat))++([({(nth (nth d b) e) with yf:=0,fT:=0}:ye)]:List ye))++(a.drop (c:Int).toNat)).length:Nat):Int)<=4611686018427387904) (g (((([]:List ye)++(a.take (c:Int).toNat))++([({(nth (nth d b) e) with yf:=0,fT:=0}:ye)]:List ye))++(a.drop (c:Int).toNat)))))))) fun k=>kM a d b e k xC (a.length:Int))) else f a)
theorem iz{n:Nat}{a:Int}{r:List ye}(h:kN f g i n j a=some r):∃ m,n=m+1:=by
 cases n with
 | zero=>cases h
 | succ m=>exact⟨m,rfl⟩
def kO(a:List (List za))(c:(List ye)->Option (List ye)):Nat->(List ye)->Int->Option (List ye)
 | 0,_,_=>none
 | e+1,d,b=>if decide (b<a.length) then vk (fun(f:List ye)=>kO a c e f (i64 (b+1))) fun g=>vk (fun(h:List ye)=>g h) fun i=>kN b a i xC d 0 else c d
theorem iA{n:Nat}{r:List ye}(h:kO g i n j f=some r):∃ m,n=m+1:=by
 cases n with
 | zero=>cases h
 | succ m=>exact⟨m,rfl⟩
def mC(c:List (List za)):Option (List ye):=
 vk (fun(a:List ye)=>some a) fun b=>kO c b xC ([]:List ye) 0
theorem c9(Z:Zp)(au:Option Addr)(av:Nat)(d:List (List za))(r:List ye)(h:mC d=some r)(w₀:World)(hz:PZ [] w₀ Z)(az:ZS Z 1 (qt Z) au av d):
  Calls Tryz.prog 33 #[vs au d.length av] w₀ fun e w'=>∃ aA:Option Addr,∃ aB:Nat,e = .returned (vs aA r.length aB)/\True/\Hp [] w₀ w' [row (vs aA r.length aB) 37 4 (r.flatMap xY)]:=by
 unfold mC at h
 refine L9 func33 ntmps33 ?_
 refine WC.pool<|B1n U<|B1n U<|jK1 h fun aC aN h=>WC.tm (fun(N:List ye) (al:Zp) (S:Option Addr) (T:Nat)=>(aC N=some r)/\(xm (Z++[]) (Z++al))) (fun N al S T=>[(3,vs S N.length T)]) (fun N al S T=>[fz al,row (vs S N.length T) 37 4 (N.flatMap xY)]) ?_ ?_
 ·let C:Value:=(vs au d.length av);refine B1n U<|WC.block<|WC.nilRow 37 4<|WC.rx (fun(V:Nat) (x:List ye) (a:Int) (u:Zp) (O:Option Addr) (P:Nat)=>(kO d aC V x a=some r)/\(xm (Z++[]) (Z++u))) (fun V x a u O P=>[(0,C),(3,vs O x.length P),(4,vi a)]) (fun V x a u O P=>[fz u,row (vs O x.length P) 37 4 (x.flatMap xY)]) (fun V x a u O P=>V) ⟨xC,([]:List ye),0,[],none,0⟩ ⟨h,xm.refl _⟩ (.q U) (.s2 .h1 .here) ?_
  rintro V x a u O P ⟨h,W⟩
  obtain⟨bo,rfl⟩:=iA h
  rw[kO] at h
  refine WC.b<|B2q U<|Le 10 (xK underlying32 U)<|Q1n U<|Lk U h (fun aO h=>?_)<|fun aO h=>?_
  ·refine WC.skip<|Lb<|jK1 h fun bp aP h=>WC.tm (fun(B:List ye) (X:Zp) (Y:Option Addr) (aa:Nat)=>(bp B=some r)/\(xm (Z++u) (Z++X))) (fun B X Y aa=>[(0,C),(3,vs Y B.length aa),(4,vi a)]) (fun B X Y aa=>[fz X,row (vs Y B.length aa) 37 4 (B.flatMap xY)]) ?_ ?_
   ·refine WC.block<|B1n U<|jK1 h fun aD aQ h=>WC.mid4 (fun(K:List ye) (ab:Zp) (ad:Option Addr) (ae:Nat)=>(aD K=some r)/\(xm (Z++u) (Z++ab))) (fun K ab ad ae=>[(0,C),(3,vs ad K.length ae),(4,vi a)]) (fun K ab ad ae=>[fz ab,row (vs ad K.length ae) 37 4 (K.flatMap xY)]) ?_ ?_
    ·refine WC.block<|WC.rx (fun(af:Nat) (c:List ye) (b:Int) (p:Zp) (L:Option Addr) (y:Nat)=>(kN a d aD af c b=some r)/\(xm (Z++u) (Z++p))) (fun af c b p L y=>[(0,C),(3,vs L c.length y),(4,vi a),(5,vi b)]) (fun af c b p L y=>[fz p,row (vs L c.length y) 37 4 (c.flatMap xY)]) (fun af c b p L y=>af) ⟨xC,x,0,u,O,P⟩ ⟨h,xm.refl _⟩ (.q U) (.a2) ?_
     rintro af c b p L y ⟨h,ag⟩
     obtain⟨bq,rfl⟩:=iz h
     rw[kN] at h
     refine WC.b<|WC.b<|cK h fun aR h=>D3q U<|L0 (dd:=17) U U (Z:=(Z++p)) (Pr:=(qt (Z++p))) z3K U U ((az.mono<|zl.trans (W.trans ag)).weak (fun _ _ h=>wv (zl.trans (W.trans ag)) h)) aR ?_
     rintro bA bB aS bC ⟨bD,bE,rfl,bF⟩
     refine Le 18 (xl z3q U<|q9 (hz.pv2 .here) aS U)<|Le 19 (xK underlying58 U)<|Q1n U<|Lk U h (fun aT h=>?_)<|fun aT h=>?_
     ·refine WC.skip<|Lb<|jK1 h fun br aU h=>WC.tm (fun(M:List ye) (ah:Zp) (ai:Option Addr) (aj:Nat)=>(br M=some r)/\(xm (Z++p) (Z++ah))) (fun M ah ai aj=>[(0,C),(3,vs ai M.length aj),(4,vi a),(5,vi b)]) (fun M ah ai aj=>[fz ah,row (vs ai M.length aj) 37 4 (M.flatMap xY)]) ?_ ?_
      ·refine WC.block<|WC.b<|cK h fun aV h=>cK h fun aW h=>D2q U<|L0 (dd:=25) U U (Z:=(Z++p)) (Pr:=(qt (Z++p))) z3K U U ((az.mono<|zl.trans (W.trans ag)).weak (fun _ _ h=>wv (zl.trans (W.trans ag)) h)) aV ?_
       rintro bG bH aX bI ⟨bJ,bL,rfl,aY⟩
       refine Le 26 (xl z3q U<|q9 (hz.pv2 .here) aX U)<|La U<|L0 (dd:=28) U U (Z:=(Z++p)) (Pr:=(rq vw)) z1v U U aY aW ?_
       rintro bM bN aZ bO rfl
       refine Le 29 (xw z5b U (vQ (hz.pv2 .here) aZ) U) (Lg 6 (xG (cs:=[vi 0,vi 0,vi 0]) zaS U) fun q _=>Lo U U (xz za4 U U U .here U U U)<|Q0n<|WC.b<|WC.b ?_)
       refine bK h fun bQ a0 h=>D1q U<|Le 31 (xk ww U U)<|Le 32 (xl xu U<|xt .here U)<|Le 33 (xk kz U U)<|Le 34 (xl xu U<|xt .here U)<|Lp 35 (zb call34<|.r3 U U U) .nil (py hz .nil .h1 (.cons .h2 .nil) fun w pz ho la=>tP _ _ _ _ _ _ _ a0 w pz<|ZA.row (la _ (.head _) _) (RR.flat (enc:=xY) (fun _=>U) _) ⟨w,pz.1⟩)<|Q1n U<|Lk U h (fun a1 h=>?_)<|fun a1 h=>?_
       ·exact WC.exit<|Lm<|Lv<|Ln ⟨c,p,L,y⟩ ⟨h,xm.refl _⟩ (.q U)<|.s2 .h1 .h1
       ·refine WC.skip<|Lb<|B1q U<|Le 38 (xK underlying33 U)<|Q1n U ?_
        obtain⟨aE,a2,h⟩:=xS h
        let D:Value:=(vs L c.length y);let G:Value:=(vi ((nth (nth d a) b).ya));let H:Value:=(vi ((nth (nth d a) b).fQ));let A:List Value:=[G,vi ((nth (nth d a) b).fX),H];refine Ma (fun(k:Int)=>(aE k=some r)) (fun k=>[(0,C),(3,D),(4,vi a),(5,vi b),(6,vp q),(7,vi k)]) (fun k=>[fz p,row D 37 4 (c.flatMap xY),stb q 60 A]) ?_ ?_
        ·refine WC.block<|L6 (fun(am:Nat) (m:Int)=>(kM c d a b aE am m=some r)) (fun am m=>[(0,C),(3,D),(4,vi a),(5,vi b),(6,vp q),(7,vi m)]) (fun am m=>[fz p,row D 37 4 (c.flatMap xY),stb q 60 A]) (fun am m=>am) ⟨xC,(c.length:Int)⟩ h (.q U) (.s3 .h1 .h1 .here) ?_
         rintro(_|bs) m h;·cases h
         rw[kM] at h
         refine WC.b<|WC.b<|cK h fun a3 h=>cK h fun a4 h=>cK h fun a5 h=>Lz nc [] U<|Lf 0 39 U (q_m U)<|Lf 1 40 U (lS U U)<|Lf 2 41 U (q_m U)<|Mc (fuel':=0) [(0,C),(3,D),(4,vi a),(5,vi b),(6,vp q),(7,vi m),(41,(.bool<|decide (m>0))),(73,(.bool<|(decide (m>0))&&((decide (((nth c<|i64 (m-1)).ya)>((nth (nth d a) b).ya)))||((decide (((nth c<|i64 (m-1)).ya)=((nth (nth d a) b).ya)))&&(decide (((nth c<|i64 (m-1)).fQ)>((nth (nth d a) b).fQ)))))))] (wl 35 (dn 35)) ?_<|fun aF=>?_
         rotate_left
         ·rcases Bool.eq_false_or_eq_true (decide (m>0)) with hb' | hb'
          ·have ak:=hb';clear hb'
           have an:=a3 ak
           have a6:=a4 ak
           have a7:=a5 ak
           refine L4 (i:=41) U ak<|Lf 3 42 U (q_m U)<|Lf 4 43 U (q_m U)<|Lf 5 44 U (tj U U U)<|Mg (fun w hw=>Hp.vB .h1 hw (by intro iT;have:=an;rw[iT] at this;omega)) ?_
           rintro⟨bt,rfl⟩
           let I:Value:=(vs (some ⟨bt,0,none⟩) c.length y);refine Lf 6 45 U (w7 z1r U U an.1 an.2 vN)<|Lf 7 46 U (xk gt U<|Addr.add_lit _ _ _)<|Lh 8 47 U (xl xu U<|gq .h1<|(vt (enc:=xY) (l:=c) (i:=i64 (m-1)) (sz:=4) (fun _=>U) an.1 an.2) 0 _ U)<|Lf 9 48 U (xk ww U U)<|Lh 10 49 U (xl xu U<|xt .h2 U)<|Lf 11 50 U (lS U U)<|Lf 12 51 U (q_m U)<|Mc (fuel':=1) [(0,C),(3,I),(4,vi a),(5,vi b),(6,vp q),(7,vi m),(41,.bool true),(51,(.bool<|decide (((nth c<|i64 (m-1)).ya)>((nth (nth d a) b).ya)))),(72,.bool ((decide (((nth c<|i64 (m-1)).ya)>((nth (nth d a) b).ya)))||((decide (((nth c<|i64 (m-1)).ya)=((nth (nth d a) b).ya)))&&(decide (((nth c<|i64 (m-1)).fQ)>((nth (nth d a) b).fQ))))))] (wl 35 (dn 34)) ?_<|fun aG=>?_
           rotate_left
           ·rcases Bool.eq_false_or_eq_true (decide (((nth c (i64 (m-1))).ya)>((nth (nth d a) b).ya))) with hb' | hb'
            ·have aw:=hb';clear hb'
             refine L4 (i:=51) U aw<|Lj 13 52 U<|Lj 14 53 U<|Lj 15 54 U<|Lj 16 55 U<|Lj 17 56 U<|Lj 18 57 U<|Lj 19 58 U<|Lj 20 59 U<|Lj 21 60 U<|Lj 22 61 U<|Lj 23 62 U<|Lj 24 63 U<|Lj 25 64 U<|Lj 26 65 U<|Lj 27 66 U<|Lj 28 67 U<|Lj 29 68 U<|Lj 30 69 U<|Lj 31 70 U<|Lj 32 71 U<|Lf 33 72 U (qe U U)<|Lw (.a3) ?_ aG
             exact .r9 U U U U U U U (zt<|Eq.symm aw)<|zt<|kx aw
            ·have ao:=hb';clear hb'
             have ap:=a6 ao
             have a8:=a7 ao
             refine L4 (i:=51) U ao<|Lf 13 52 U (q_m U)<|Lf 14 53 U (q_m U)<|Lf 15 54 U (tj U U U)<|Lf 16 55 U (w7 z1r U U ap.1 ap.2 vN)<|Lf 17 56 U (xk gt U<|Addr.add_lit _ _ _)<|Lh 18 57 U (xl xu U<|gq .h1<|(vt (enc:=xY) (l:=c) (i:=i64 (m-1)) (sz:=4) (fun _=>U) ap.1 ap.2) 0 _ U)<|Lf 19 58 U (xk ww U U)<|Lh 20 59 U (xl xu U<|xt .h2 U)<|Lf 21 60 U (sG U U)<|Lf 22 61 U (q_m U)<|Mc (fuel':=2) [(0,C),(3,I),(4,vi a),(5,vi b),(6,vp q),(7,vi m),(41,.bool true),(51,.bool false),(61,(.bool<|decide (((nth c<|i64 (m-1)).ya)=((nth (nth d a) b).ya)))),(71,(.bool<|(decide (((nth c<|i64 (m-1)).ya)=((nth (nth d a) b).ya)))&&(decide (((nth c<|i64 (m-1)).fQ)>((nth (nth d a) b).fQ)))))] (wl 35 (dn 33)) ?_<|fun aH=>?_
             rotate_left
             ·rcases Bool.eq_false_or_eq_true (decide (((nth c (i64 (m-1))).ya)=((nth (nth d a) b).ya))) with hb' | hb'
              ·have aq:=hb';clear hb'
               have ar:=a8 aq
               refine L4 (i:=61) U aq<|Lf 23 62 U (q_m U)<|Lf 24 63 U (q_m U)<|Lf 25 64 U (tj U U U)<|Lf 26 65 U (w7 z1r U U ar.1 ar.2 vN)<|Lf 27 66 U (xk mb U<|Addr.add_lit _ _ _)<|Lh 28 67 U (xl xu U<|gq .h1<|(vt (enc:=xY) (l:=c) (i:=i64 (m-1)) (sz:=4) (fun _=>U) ar.1 ar.2) 1 _ U)<|Lf 29 68 U (xk kz U U)<|Lh 30 69 U (xl xu U<|xt .h2 U)<|Lf 31 70 U (lS U U)<|Lf 32 71 U (qe U U)<|Lw (.a3) ?_ aH
               exact .r10 U U U U U U U U (zt<|Eq.symm aq)<|zt<|vz aq
              ·have ax:=hb';clear hb'
               refine L4 (i:=61) U ax<|Lj 23 62 U<|Lj 24 63 U<|Lj 25 64 U<|Lj 26 65 U<|Lj 27 66 U<|Lj 28 67 U<|Lj 29 68 U<|Lj 30 69 U<|Lj 31 70 U<|Lf 32 71 U (qf U U)<|Lw (.a3) ?_ aH
               exact .r10 U U U U U U U U (zt<|Eq.symm ax)<|zt<|vy ax
             refine WD.d (bz 33 2) (by kernel_rfl)<|Lf 33 72 U (qf U U)<|Lw (.a3) ?_ aG
             exact .r9 U U U U U U U (zt<|Eq.symm ao)<|zt<|ky ao
           refine WD.d (bz 34 1) (by kernel_rfl)<|Lf 34 73 U (qe U U)<|Lw (.a3) ?_ aF
           exact .r8 U U U U U U (zt<|Eq.symm ak)<|zt<|vz ak
          ·have ay:=hb';clear hb'
           refine L4 (i:=41) U ay<|Lj 3 42 U<|Lj 4 43 U<|Lj 5 44 U<|Lj 6 45 U<|Lj 7 46 U<|Lj 8 47 U<|Lj 9 48 U<|Lj 10 49 U<|Lj 11 50 U<|Lj 12 51 U<|Lj 13 52 U<|Lj 14 53 U<|Lj 15 54 U<|Lj 16 55 U<|Lj 17 56 U<|Lj 18 57 U<|Lj 19 58 U<|Lj 20 59 U<|Lj 21 60 U<|Lj 22 61 U<|Lj 23 62 U<|Lj 24 63 U<|Lj 25 64 U<|Lj 26 65 U<|Lj 27 66 U<|Lj 28 67 U<|Lj 29 68 U<|Lj 30 69 U<|Lj 31 70 U<|Lj 32 71 U<|Lj 33 72 U<|Lf 34 73 U (qf U U)<|Lw (.a3) ?_ aF
           exact .r8 U U U U U U (zt<|Eq.symm ay)<|zt<|vy ay
         refine WD.d (bz 35 0) (by kernel_rfl)<|WD.done (by kernel_rfl)<|Lb<|Lk U h (fun a9 h=>?_)<|fun a9 h=>?_
         ·exact WC.skip<|Lb<|WC.block<|D3q U<|WL.nil<|Lt<|WX.round ⟨bs,i64 (m-1)⟩ h (Nat.lt_succ_self _) (.q U)<|.a3
         ·exact WC.exit<|Lm<|Lm<|Lv<|Ln m h (.q U)<|.a3
        ·rintro k h
         replace h:=(a2 k).symm.trans h
         refine WC.freezeS (ls:=c) .h1 .here hz (RR.flat (enc:=xY) (fun _=>U) _) ?_
         intro z ba aI
         refine cK h fun bb h=>cK h fun aJ h=>cK h fun bc h=>cK h fun bd h=>cK h fun be h=>Lz (fun i=>[4,11,15].contains i) [sq q 60 [(0,G),(2,H)]] U<|Lf 1 77 U (q_m U)<|Lf 2 78 U (q_m U)<|WD.zsub (j:=3) (dd:=79) (by kernel_rfl) U zO zP U U (Z:=(Z++z)) (Pr:=(rq xY)) z1r U aI (fun _=>ixn) (fun _=>ixo U) U U bb (List.drop_zero).symm ?_
         rintro bu bv aK
         refine Lf 5 81 U (xk ww U U)<|Mb 6 82 U (wB.wk (.cons .h1 .nil)<|.stb (.cons U<|.cons U .nil) .nil) (xl xu U<|fZ .here<|.head _)<|Lf 7 83 U (xk kz U U)<|Mb 8 84 U (wB.wk (.cons .h1 .nil)<|.stb (.cons U<|.cons U .nil) .nil) (xl xu U<|fZ .here<|.tail _<|.head _)<|Lf 9 85 U (w3 (v:=(.agg #[(vi<|(nth (nth d a) b).ya),(vi<|(nth (nth d a) b).fQ),vi 0,vi 0])) (Lq (l:=[.tmp 82,.tmp 84]) (.r2 U U) [0,1]) (fun _=>by kernel_rfl))<|Lf 12 88 U (q_m U)<|Lf 13 89 U (q_m U)<|WD.zsub (j:=14) (dd:=90) (by kernel_rfl) U zO zP U U (Z:=(Z++z)) (Pr:=(rq xY)) z1r U aI (fun _=>ixo U) (fun _=>ixn) U U bd (by rw[Int.toNat_natCast,List.take_length]) ?_
         rintro bw bx bf
         refine WD.mids8 (fuel':=0) (fun(f:Nat) (n:Option Addr) (o:Nat) (g:Nat) (s:Option Addr) (t:Nat) (Q:Option Addr) (R:Nat)=>[(0,C),(3,vs Q ((((([]:List ye)++(c.take (k:Int).toNat))++([({(nth (nth d a) b) with yf:=0,fT:=0}:ye)]:List ye))++(c.drop (k:Int).toNat)).length) R),(4,vi a),(5,vi b)]) (fun(f:Nat) (n:Option Addr) (o:Nat) (g:Nat) (s:Option Addr) (t:Nat) (Q:Option Addr) (R:Nat)=>[row (vs Q ((((([]:List ye)++(c.take (k:Int).toNat))++([({(nth (nth d a) b) with yf:=0,fT:=0}:ye)]:List ye))++(c.drop (k:Int).toNat)).length) R) 37 4 ((((([]:List ye)++(c.take (k:Int).toNat))++([({(nth (nth d a) b) with yf:=0,fT:=0}:ye)]:List ye))++(c.drop (k:Int).toNat)).flatMap xY),row (vs (some ⟨g,0,none⟩) (([({(nth (nth d a) b) with yf:=0,fT:=0}:ye)]:List ye).length) 1) 37 4 (([({(nth (nth d a) b) with yf:=0,fT:=0}:ye)]:List ye).flatMap xY),fz z,stb q 60 A]) (fun(f:Nat) (n:Option Addr) (o:Nat) (g:Nat) (s:Option Addr) (t:Nat) (Q:Option Addr) (R:Nat)=>True) (wl 17 [16,15,11,10,4,0,14,13,12,9,8,7,6,5,3,2,1]) ?_<|fun bg=>?_
         ·rintro f n o g s t Q R _
          exact WD.done (by kernel_rfl)<|Lt<|Ln ⟨((([]:List ye)++(c.take (k:Int).toNat))++([({(nth (nth d a) b) with yf:=0,fT:=0}:ye)]:List ye))++(c.drop (k:Int).toNat),z,Q,R⟩ ⟨h,ba⟩ (.q U)<|.s2 .h2 .here
         let E:Value:=(vs bw ((c.drop (k:Int).toNat).length) bx);refine WD.Xq (fuel':=2) (fun(f:Nat) (n:Option Addr) (o:Nat) (g:Nat) (s:Option Addr) (t:Nat)=>[(0,C),(3,D),(4,vi a),(5,vi b),(90,E),(87,vs s (((([]:List ye)++(c.take (k:Int).toNat))++([({(nth (nth d a) b) with yf:=0,fT:=0}:ye)]:List ye)).length) t)]) (fun(f:Nat) (n:Option Addr) (o:Nat) (g:Nat) (s:Option Addr) (t:Nat)=>[row (vs s (((([]:List ye)++(c.take (k:Int).toNat))++([({(nth (nth d a) b) with yf:=0,fT:=0}:ye)]:List ye)).length) t) 37 4 (((([]:List ye)++(c.take (k:Int).toNat))++([({(nth (nth d a) b) with yf:=0,fT:=0}:ye)]:List ye)).flatMap xY),row (vs (some ⟨g,0,none⟩) (([({(nth (nth d a) b) with yf:=0,fT:=0}:ye)]:List ye).length) 1) 37 4 (([({(nth (nth d a) b) with yf:=0,fT:=0}:ye)]:List ye).flatMap xY),fz z,stb q 60 A]) (fun(f:Nat) (n:Option Addr) (o:Nat) (g:Nat) (s:Option Addr) (t:Nat)=>True) (wl 17 [11,10,4,0,14,13,12,9,8,7,6,5,3,2,1]) ?_<|fun bh=>?_
         ·rintro f n o g s t _
          refine WD.old (i:=15) (dd:=91) U (by kernel_rfl) U U U U (fun _=>(wB.wk (.cons .h3 .nil)<|.stb (.cons U<|.cons U .nil) .nil)) (vT (enc:=xY) (l1:=(([]:List ye)++(c.take (k:Int).toNat))++([({(nth (nth d a) b) with yf:=0,fT:=0}:ye)]:List ye)) (l2:=c.drop (k:Int).toNat) z1r U U .here (fun _=>U) U U (Xt (hz.pv2 .h2) bf) (qR tE _) be) ?_
          rintro⟨Q,R⟩ _
          exact Lf 16 3 U (q_z U)<|Lw (.a4) (.q U)<|bg f n o g s t Q R trivial
         refine WD.pt (fuel':=3) (fun(f:Nat) (n:Option Addr) (o:Nat) (g:Nat)=>[(0,C),(3,D),(4,vi a),(5,vi b),(90,E),(80,vs n ((([]:List ye)++(c.take (k:Int).toNat)).length) o),(86,vs (some ⟨g,0,none⟩) (([({(nth (nth d a) b) with yf:=0,fT:=0}:ye)]:List ye).length) 1)]) (fun(f:Nat) (n:Option Addr) (o:Nat) (g:Nat)=>[row (vs (some ⟨g,0,none⟩) (([({(nth (nth d a) b) with yf:=0,fT:=0}:ye)]:List ye).length) 1) 37 4 (([({(nth (nth d a) b) with yf:=0,fT:=0}:ye)]:List ye).flatMap xY),row (vs n ((([]:List ye)++(c.take (k:Int).toNat)).length) o) 37 4 ((([]:List ye)++(c.take (k:Int).toNat)).flatMap xY),fz z,stb q 60 A]) (fun(f:Nat) (n:Option Addr) (o:Nat) (g:Nat)=>True) (wl 17 [10,4,0,14,13,12,9,8,7,6,5,3,2,1]) ?_<|fun aL=>?_
         ·rintro f n o g _
          refine WD.old (i:=11) (dd:=87) U (by kernel_rfl) U U U U (fun _=>(wB.wk (.cons .h3 .nil)<|.stb (.cons U<|.cons U .nil) .nil)) (vT (enc:=xY) (l1:=([]:List ye)++(c.take (k:Int).toNat)) (l2:=([({(nth (nth d a) b) with yf:=0,fT:=0}:ye)]:List ye)) z1r U U .h1 (fun _=>U) U U (vL .here) (qR tE _) bc) ?_
          rintro⟨s,t⟩ _
          exact Lw (.a4) (.q U)<|bh f n o g s t trivial
         let J:Value:=(.agg #[G,H,vi 0,vi 0]);refine WD.pr (fuel':=4) (fun(f:Nat) (n:Option Addr) (o:Nat)=>[(0,C),(3,D),(4,vi a),(5,vi b),(85,J),(90,E),(80,vs n ((([]:List ye)++(c.take (k:Int).toNat)).length) o)]) (fun(f:Nat) (n:Option Addr) (o:Nat)=>[row (vs n ((([]:List ye)++(c.take (k:Int).toNat)).length) o) 37 4 ((([]:List ye)++(c.take (k:Int).toNat)).flatMap xY),fz z,stb q 60 A]) (fun(f:Nat) (n:Option Addr) (o:Nat)=>True) (wl 17 [4,0,14,13,12,9,8,7,6,5,3,2,1]) ?_<|fun bi=>?_
         ·rintro f n o _
          refine WD.new (i:=10) (dd:=86) U (by kernel_rfl) U U U (xU (cs:=([({(nth (nth d a) b) with yf:=0,fT:=0}:ye)]:List ye).flatMap xY) z1r (Lq (l:=[.tmp 85]) (.cons U .nil) [0]) (fun _=>by kernel_rfl) U (by unfold maxLen;omega)) (fun h'=>absurd h' (by decide)) fun g _=>Lw (.a4) (.q U)<|aL f n o g trivial
         let F:Value:=(vs bu ((c.take (k:Int).toNat).length) bv);refine WD.l7 (fuel':=4) (fun(f:Nat) (g:Nat)=>[(0,C),(3,D),(4,vi a),(5,vi b),(79,F),(90,E),(76,vs (some ⟨f,0,none⟩) (([]:List ye).length) 0),(86,vs (some ⟨g,0,none⟩) (([({(nth (nth d a) b) with yf:=0,fT:=0}:ye)]:List ye).length) 1)]) (fun(f:Nat) (g:Nat)=>[row (vs (some ⟨g,0,none⟩) (([({(nth (nth d a) b) with yf:=0,fT:=0}:ye)]:List ye).length) 1) 37 4 (([({(nth (nth d a) b) with yf:=0,fT:=0}:ye)]:List ye).flatMap xY),row (vs (some ⟨f,0,none⟩) (([]:List ye).length) 0) 37 4 (([]:List ye).flatMap xY),fz z,stb q 60 A]) (fun(f:Nat) (g:Nat)=>True) (wl 17 [10,0,14,13,12,9,8,7,6,5,3,2,1]) ?_<|fun aM=>?_
         ·rintro f g _
          refine WD.old (i:=4) (dd:=80) U (by kernel_rfl) U U U U (fun _=>(wB.wk (.cons .h3 .nil)<|.stb (.cons U<|.cons U .nil) .nil)) (vT (enc:=xY) (l1:=([]:List ye)) (l2:=c.take (k:Int).toNat) z1r U U .h1 (fun _=>U) U U (Xt (hz.pv2 .h2) aK) (qR tE _) aJ) ?_
          rintro⟨n,o⟩ _
          exact Lw (.s4 .h1 .here .here .here) (.q U)<|aL f n o g trivial
         refine WD.pq (fuel':=5) (fun(f:Nat)=>[(0,C),(3,D),(4,vi a),(5,vi b),(79,F),(85,J),(90,E),(76,vs (some ⟨f,0,none⟩) (([]:List ye).length) 0)]) (fun(f:Nat)=>[row (vs (some ⟨f,0,none⟩) (([]:List ye).length) 0) 37 4 (([]:List ye).flatMap xY),fz z,stb q 60 A]) (fun(f:Nat)=>True) (wl 17 [0,14,13,12,9,8,7,6,5,3,2,1]) ?_<|fun bj=>?_
         ·rintro f _
          refine WD.choose [4,10] (by kernel_rfl) U<|wF.cons ?_<|wF.cons ?_<|wF.nil
          ·refine wF.old (i:=4) (dd:=80) U U U U U (fun _=>(wB.wk (.cons .h2 .nil)<|.stb (.cons U<|.cons U .nil) .nil)) (vT (enc:=xY) (l1:=([]:List ye)) (l2:=c.take (k:Int).toNat) z1r U U .here (fun _=>U) U U (Xt (hz.pv2 .h1) aK) (qR tE _) aJ) ?_
           rintro⟨n,o⟩ _
           exact Lw (.a3) (.q U)<|bi f n o trivial
          ·refine wF.new (i:=10) (dd:=86) U U U U (xU (cs:=([({(nth (nth d a) b) with yf:=0,fT:=0}:ye)]:List ye).flatMap xY) z1r (Lq (l:=[.tmp 85]) (.cons U .nil) [0]) (fun _=>by kernel_rfl) U (by unfold maxLen;omega)) (fun h'=>absurd h' (by decide)) fun g _=>Lw (.a4) (.q U)<|aM f g trivial
         refine WD.pq (fuel':=5) (fun(g:Nat)=>[(0,C),(3,D),(4,vi a),(5,vi b),(79,F),(90,E),(86,vs (some ⟨g,0,none⟩) (([({(nth (nth d a) b) with yf:=0,fT:=0}:ye)]:List ye).length) 1)]) (fun(g:Nat)=>[row (vs (some ⟨g,0,none⟩) (([({(nth (nth d a) b) with yf:=0,fT:=0}:ye)]:List ye).length) 1) 37 4 (([({(nth (nth d a) b) with yf:=0,fT:=0}:ye)]:List ye).flatMap xY),fz z,stb q 60 A]) (fun(g:Nat)=>True) (wl 17 [10,14,13,12,9,8,7,6,5,3,2,1]) ?_<|fun bk=>?_
         ·rintro g _
          refine WD.new (i:=0) (dd:=76) U (by kernel_rfl) U U U (xU (cs:=([]:List ye).flatMap xY) z1r (Lq (l:=[]) .nil []) (fun _=>by kernel_rfl) U (by unfold maxLen;omega)) (fun h'=>absurd h' (by decide)) fun f _=>Lw (.s4 .h1 .here .here .here) (.q U)<|aM f g trivial
         refine WD.choose [0,10] (by kernel_rfl) U<|wF.cons ?_<|wF.cons ?_<|wF.nil
         ·refine wF.new (i:=0) (dd:=76) U U U U (xU (cs:=([]:List ye).flatMap xY) z1r (Lq (l:=[]) .nil []) (fun _=>by kernel_rfl) U (by unfold maxLen;omega)) (fun h'=>absurd h' (by decide)) fun f _=>Lw (.a3) (.q U)<|bj f trivial
         ·refine wF.new (i:=10) (dd:=86) U U U U (xU (cs:=([({(nth (nth d a) b) with yf:=0,fT:=0}:ye)]:List ye).flatMap xY) z1r (Lq (l:=[.tmp 85]) (.cons U .nil) [0]) (fun _=>by kernel_rfl) U (by unfold maxLen;omega)) (fun h'=>absurd h' (by decide)) fun g _=>Lw (.a3) (.q U)<|bk g trivial
      ·rintro M ah ai aj ⟨h,bl⟩
       replace h:=(aU M).symm.trans h
       exact D3q U<|WL.nil<|WX.round ⟨bq,M,i64 (b+1),ah,ai,aj⟩ ⟨h,ag.trans bl⟩ (Nat.lt_succ_self _) (.q U)<|.a2
     ·exact WC.exit<|Lm<|Lm<|Lv<|Ln ⟨c,p,L,y⟩ ⟨h,ag⟩ (.q U)<|.a2
    ·rintro K ab ad ae ⟨h,bm⟩
     replace h:=(aQ K).symm.trans h
     exact Lt<|Ln ⟨K,ab,ad,ae⟩ ⟨h,bm⟩ (.q U)<|.a2
   ·rintro B X Y aa ⟨h,bn⟩
    replace h:=(aP B).symm.trans h
    exact D3q U<|WL.nil<|WX.round ⟨bo,B,i64 (a+1),X,Y,aa⟩ ⟨h,W.trans bn⟩ (Nat.lt_succ_self _) (.q U)<|.a2
  ·exact WC.exit<|Lm<|Lm<|Lv<|Ln ⟨x,u,O,P⟩ ⟨h,W⟩ (.cons U .nil)<|.a2
 ·rintro N al S T ⟨h,bP⟩
  replace h:=(aN N).symm.trans h
  refine B2n U<|WC.ret ?_
  obtain rfl:=oJ h
  exact Li results33 (.tmp U .nil)<|fun w hw=>⟨S,T,xJ U,trivial,hw.sub (.cons .h1 .nil)⟩
def jw(b:List za)(c:Int)(d:Option Int):Nat->Int->Option Int
 | 0,_=>none
 | e+1,a=>if decide (a<b.length) then chk (0<=a/\a<b.length) (if decide (((nth b a).fX)=c) then some a else jw b c d e (i64 (a+1))) else d
def km(a:List za)(b:Int):Option Int:=
 g8 (some (-1)) fun c=>jw a b c xC 0
theorem rY(Z:Zp)(e:Option Addr)(f:Nat)(b:List za)(d:Int)(r:Int)(h:km b d=some r)(w₀:World)(hz:PZ [] w₀ Z)(i:ZS Z 3 (rq vw) e f b):
  RC 68 #[vs e b.length f,vi d] w₀ (vi r) [] []:=by
 unfold km at h
 refine L3 func68 ntmps68 ?_
 refine B1n U<|jK0 h fun g j h=>L7 (g=some r) ([]) ([]) ?_ ?_
 ·refine B1n U<|WC.block<|L6 (fun(c:Nat) (a:Int)=>(jw b d g c a=some r)) (fun c a=>[(0,vs e b.length f),(1,vi d),(5,vi a)]) (fun c a=>[]) (fun c a=>c) ⟨xC,0⟩ h (.q U) .nil ?_
  rintro(_|o) a h;·cases h
  rw[jw] at h
  refine WC.b<|B2q U<|Le 8 (xK underlying58 U)<|Q1n U<|Lk U h (fun k h=>?_)<|fun k h=>?_
  ·refine WC.skip<|Lb<|WC.b<|WC.block<|WC.b<|cK h fun l h=>D2q U<|L0 (dd:=14) U U (Z:=Z) (Pr:=(rq vw)) z1v U U i l ?_
   rintro p q m s rfl
   refine Le 15 (xk jR U U)<|Le 16 (xl xu U<|xM hz.pv m U)<|Q2n U<|Lk U h (fun n h=>?_)<|fun n h=>?_
   ·refine B2n U<|WC.ret<|Lu<|Ll<|Ll<|Lu<|Ll ?_
    obtain rfl:=oJ h
    exact Li results68 (.tmp U .nil)<|fun w hw=>⟨xJ U,hw.sub .nil⟩
   ·exact WC.skip<|Lt<|Lb<|D3q U<|WL.nil<|WX.round ⟨o,i64 (a+1)⟩ h (Nat.lt_succ_self _) (.q U) .nil
  ·exact WC.exit<|Lm<|Lm<|Lv<|Ln () h .nil .nil
 ·rintro  h
  replace h:=j.symm.trans h
  refine B1n U<|WC.ret ?_
  obtain rfl:=oJ h
  exact Li results68 (.tmp U .nil)<|fun w hw=>⟨xJ U,hw.sub .nil⟩
def kn(a:Int)(b:List (List za))(e:ye)(f:List ye)(g:Option Bool):Nat->Int->Option Bool
 | 0,_=>none
 | i+1,c=>chk (0<=a/\a<b.length) (if decide (c<((nth b a).length:Int)) then g8 (kn a b e f g i (i64 (c+1))) fun h=>chk (0<=a/\a<b.length) (chk (0<=c/\c<((nth b a).length:Int)) (if (decide (((nth (nth b a) c).ya)≠e.ya))||(decide (((nth (nth b a) c).fQ)≠e.fQ)) then h else chk (0<=a/\a<b.length) ((km (nth b a) ((nth (nth b a) c).ya)).bind fun d=>(if decide (d>=0) then chk (0<=a/\a<b.length) (chk (0<=d/\d<((nth b a).length:Int)) ((vG f ((nth (nth b a) d).ya) ((nth (nth b a) d).fQ)).bind fun j=>some (decide (j<0)))) else some false).bind fun k=>if k then some false else h))) else g)
def gk(a:List (List za))(c:ye)(d:List ye)(e:Option Bool):Nat->Int->Option Bool
 | 0,_=>none
 | f+1,b=>if decide (b<a.length) then g8 (gk a c d e f (i64 (b+1))) fun g=>g8 (g) fun h=>kn b a c d h xC 0 else e
def ub(a:List (List za))(b:List ye)(c:ye):Option Bool:=
 g8 (some true) fun d=>gk a c b d xC 0
theorem X7(Z:Zp)(o:Option Addr)(p:Nat)(q:Option Addr)(s:Nat)(d:List (List za))(g:List ye)(b:ye)(r:Bool)(h:ub d g b=some r)(w₀:World)(hz:PZ [] w₀ Z)(k:ZS Z 1 (qt Z) o p d)(J:ZS Z 4 (rq xY) q s g):
  RC 112 #[vs o d.length p,vs q g.length s,.agg #[vi b.ya,vi b.fQ,vi b.yf,vi b.fT]] w₀ (.bool r) [] []:=by
 unfold ub at h
 refine Me func112 ntmps112 ?_
 let A:List Value:=[vi b.ya,vi b.fQ,vi b.yf,vi b.fT];refine B0q<|Lg 5 (xO (cs:=A) U U) ?_
 intro e _
 refine Q1n U<|jK0 h fun x K h=>L7 (x=some r) ([]) ([]) ?_ ?_
 ·let C:Value:=(vs o d.length p);let D:Value:=(vs q g.length s);refine B1n U<|WC.block<|L6 (fun(l:Nat) (a:Int)=>(gk d b g x l a=some r)) (fun l a=>[(0,C),(1,D),(5,vp e),(7,vi a)]) (fun l a=>[stb e 37 A]) (fun l a=>l) ⟨xC,0⟩ h (.q U) (.cons .here .nil) ?_
  rintro(_|ar) a h;·cases h
  rw[gk] at h
  refine WC.b<|B2q U<|Le 13 (xK underlying32 U)<|Q1n U<|Lk U h (fun L h=>?_)<|fun L h=>?_
  ·refine WC.skip<|Lb<|jK0 h fun au M h=>L7 (au=some r) ([(0,C),(1,D),(5,vp e),(7,vi a)]) ([stb e 37 A]) ?_ ?_
   ·refine WC.block<|B1n U<|jK0 h fun y N h=>WC.mid0 (y=some r) ([(0,C),(1,D),(5,vp e),(7,vi a)]) ([stb e 37 A]) ?_ ?_
    ·refine WC.block<|L6 (fun(m:Nat) (c:Int)=>(kn a d b g y m c=some r)) (fun m c=>[(0,C),(1,D),(5,vp e),(7,vi a),(8,vi c)]) (fun m c=>[stb e 37 A]) (fun m c=>m) ⟨xC,0⟩ h (.q U) (.cons .here .nil) ?_
     rintro(_|av) c h;·cases h
     rw[kn] at h
     refine WC.b<|WC.b<|cK h fun O h=>D3q U<|L0 (dd:=20) U U (Z:=Z) (Pr:=(qt Z)) z3K U U k O ?_
     rintro ay az P aA ⟨aB,aC,rfl,aD⟩
     refine Le 21 (xl z3q U<|q9 hz.pv P U)<|Le 22 (xK underlying58 U)<|Q1n U<|Lk U h (fun Q h=>?_)<|fun Q h=>?_
     ·refine WC.skip<|Lb<|jK0 h fun aw R h=>L7 (aw=some r) ([(0,C),(1,D),(5,vp e),(7,vi a),(8,vi c)]) ([stb e 37 A]) ?_ ?_
      ·refine WC.block<|WC.b<|cK h fun S h=>cK h fun T h=>D2q U<|L0 (dd:=28) U U (Z:=Z) (Pr:=(qt Z)) z3K U U k S ?_
       rintro aE aF V aG ⟨aH,aI,rfl,W⟩
       refine Le 29 (xl z3q U<|q9 hz.pv V U)<|La U<|L0 (dd:=31) U U (Z:=Z) (Pr:=(rq vw)) z1v U U W T ?_
       rintro aJ aK X aL rfl
       refine Le 32 (xw z5b U (vQ hz.pv X) U) (Lg 9 (xG (cs:=[vi 0,vi 0,vi 0]) zaS U) fun z _=>Lo U U (xz za4 U U U .here U U U)<|Q0n<|WC.b<|B0q<|Le 33 (xk ww U U)<|Le 34 (xl xu U<|xt .here U)<|Le 35 (xk gt U U)<|Le 36 (xl xu U<|xt .h1 U)<|Q2q U<|Lx false 5 38 (B:=(decide (((nth (nth d a) c).ya)≠b.ya))||(decide (((nth (nth d a) c).fQ)≠b.fQ))) U U U U U U (fun h=>(kx h).symm) (fun _ Y=>?_) ?_)
       ·exact Le 39 (xk kz U U)<|Le 40 (xl xu U<|xt .here U)<|Le 41 (xk mb U U)<|Le 42 (xl xu U<|xt .h1 U)<|Q2q U<|Ly (ky Y) U U .all
       refine Q0n<|Lk U h (fun aa h=>?_)<|fun aa h=>?_
       ·exact WC.exit<|Lm<|Lv<|Ln () h (.q U)<|.cons .h1 .nil
       ·refine WC.skip<|Lb<|WC.b<|cK h fun ab h=>bK h fun n ad h=>Lz nc [] U<|Lf 0 45 U (q_m U)<|Lf 1 46 U (q_m U)<|L2 (j:=2) (dd:=47) (by kernel_rfl) U zO zP U U (Z:=Z) (Pr:=(qt Z)) z3K U U k ab ?_
        rintro ae aM af aN ⟨ag,ah,rfl,ai⟩
        refine Lh 3 48 U (xl z3q U<|q9 hz.pv af U)<|Lf 4 49 U (xk ww U U)<|Lh 5 50 U (xl xu U<|xt .here U)<|L5 6 51 U (zb call68<|.r2 U U) (cc hz .nil fun w pz ho=>rY _ _ _ _ _ _ ad w pz ai)<|Lf 7 10 U (q_z U)<|WD.done (by kernel_rfl)<|Lb<|WC.b ?_
        obtain⟨ax,F,h⟩:=z8 h
        let E:Value:=(.bool (decide (n>=0)));refine Lz nc [] U<|Lf 0 52 U (q_m U)<|Lf 1 53 U (Xc U U)<|Lf 2 54 U (q_m U)<|Mc (fuel':=0) [(0,C),(1,D),(5,vp e),(7,vi a),(8,vi c),(9,vp z),(44,.bool ((decide (((nth (nth d a) c).ya)≠b.ya))||(decide (((nth (nth d a) c).fQ)≠b.fQ)))),(45,C),(46,vi a),(47,vq ae),(48,vs ag ((nth d a).length) ah),(49,vp z),(50,(vi<|(nth (nth d a) c).ya)),(51,vi n),(10,vi n),(52,vi n),(53,E),(54,E),(74,.bool ax)] (wl 23 (dn 23)) ?_<|fun G=>?_
        rotate_left
        ·rcases Bool.eq_false_or_eq_true (decide (n>=0)) with hb' | hb'
         ·have t:=hb';clear hb'
          have f:=q7 F t
          obtain⟨H,f⟩:=xq f
          obtain⟨I,f⟩:=xq f
          obtain⟨a4,aj,f⟩:=z8 f
          replace f:=oJ f
          refine L4 (i:=54) U t<|Lf 3 55 U (q_m U)<|Lf 4 56 U (q_m U)<|Lf 5 57 U (q_m U)<|L2 (j:=6) (dd:=58) (by kernel_rfl) U zO zP U U (Z:=Z) (Pr:=(qt Z)) z3K U U k H ?_
          rintro aO aP ak aQ ⟨aR,aS,rfl,al⟩
          refine Lh 7 59 U (xl z3q U<|q9 hz.pv ak U)<|Lf 8 60 U (q_m U)<|L2 (j:=9) (dd:=61) (by kernel_rfl) U zO zP U U (Z:=Z) (Pr:=(rq vw)) z1v U U al I ?_
          rintro aT aU am aV rfl
          refine Lf 10 62 U (xk ww U U)<|Lh 11 63 U (xl xu U<|xM hz.pv am U)<|Lf 12 64 U (q_m U)<|Lf 13 65 U (q_m U)<|L2 (j:=14) (dd:=66) (by kernel_rfl) U zO zP U U (Z:=Z) (Pr:=(qt Z)) z3K U U k H ?_
          rintro aW aX an aY ⟨aZ,a0,rfl,ao⟩
          refine Lh 15 67 U (xl z3q U<|q9 hz.pv an U)<|Lf 16 68 U (q_m U)<|L2 (j:=17) (dd:=69) (by kernel_rfl) U zO zP U U (Z:=Z) (Pr:=(rq vw)) z1v U U ao I ?_
          rintro a1 a2 ap a3 rfl
          refine Lf 18 70 U (xk kz U U)<|Lh 19 71 U (xl xu U<|xM hz.pv ap U)<|L5 20 72 U (zb call34<|.r3 U U U) (cc hz .nil fun w pz ho=>tP _ _ _ _ _ _ _ aj w pz J)<|Lf 21 73 U (lR U U)<|Lf 22 74 U (qe U U)<|Lw (.a2) ?_ G
          exact .r19 U U U U U U U U U U U U U U U U U (zt<|Eq.symm t)<|zt f
         ·have u:=hb';clear hb'
          have v:=q8 F u
          replace v:=oJ v
          refine L4 (i:=54) U u<|Lj 3 55 U<|Lj 4 56 U<|Lj 5 57 U<|Lj 6 58 U<|Lj 7 59 U<|Lj 8 60 U<|Lj 9 61 U<|Lj 10 62 U<|Lj 11 63 U<|Lj 12 64 U<|Lj 13 65 U<|Lj 14 66 U<|Lj 15 67 U<|Lj 16 68 U<|Lj 17 69 U<|Lj 18 70 U<|Lj 19 71 U<|Lj 20 72 U<|Lj 21 73 U<|Lf 22 74 U (qf U U)<|Lw (.a2) ?_ G
          exact .r19 U U U U U U U U U U U U U U U U U (zt<|Eq.symm u)<|zt v
        refine WD.done (by kernel_rfl)<|Lb<|Lk U h (fun aq h=>?_)<|fun aq h=>?_
        ·refine B1n U<|WC.ret<|Lu<|Ll<|Ll<|Lu<|Ll<|Lu<|Ll<|Ll<|Lu<|Ll ?_
         obtain rfl:=oJ h
         exact Li results112 (.tmp U .nil)<|fun w hw=>⟨xJ U,hw.sub .nil⟩
        ·exact WC.skip<|Lt<|Ln () h (.q U)<|.cons .h1 .nil
      ·rintro  h
       replace h:=R.symm.trans h
       exact D3q U<|WL.nil<|WX.round ⟨av,i64 (c+1)⟩ h (Nat.lt_succ_self _) (.q U)<|.cons .here .nil
     ·exact WC.exit<|Lm<|Lm<|Lv<|Ln () h (.q U)<|.cons .here .nil
    ·rintro  h
     replace h:=N.symm.trans h
     exact Lt<|Ln () h (.q U)<|.cons .here .nil
   ·rintro  h
    replace h:=M.symm.trans h
    exact D3q U<|WL.nil<|WX.round ⟨ar,i64 (a+1)⟩ h (Nat.lt_succ_self _) (.q U)<|.cons .here .nil
  ·exact WC.exit<|Lm<|Lm<|Lv<|Ln () h .nil .nil
 ·rintro  h
  replace h:=K.symm.trans h
  refine B1n U<|WC.ret ?_
  obtain rfl:=oJ h
  exact Li results112 (.tmp U .nil)<|fun w hw=>⟨xJ U,hw.sub .nil⟩
def jf(b:List ye)(c:List ye)(e:List (List za))(d:(List ye)->Option (List ye×Bool)):Nat->Int->Option (List ye×Bool)
 | 0,_=>none
 | f+1,a=>if decide (a<b.length) then chk (0<=a/\a<b.length) ((vG c ((nth b a).ya) ((nth b a).fQ)).bind fun g=>(if decide (g<0) then chk (0<=a/\a<b.length) ((ub e c (⟨(nth b a).ya,(nth b a).fQ,(nth b a).yf,(nth b a).fT⟩:ye)).bind fun h=>some h) else some false).bind fun i=>if i then chk (((([]:List ye)++c).length:Int)*32<=140737488355328/\((([]:List ye)++c).length:Int)<=4611686018427387904) (chk (0<=a/\a<b.length) (chk (((((([]:List ye)++c)++([(⟨(nth b a).ya,(nth b a).fQ,(nth b a).yf,(nth b a).fT⟩:ye)]:List ye)).length:Nat):Int)*32<=140737488355328/\((((([]:List ye)++c)++([(⟨(nth b a).ya,(nth b a).fQ,(nth b a).yf,(nth b a).fT⟩:ye)]:List ye)).length:Nat):Int)<=4611686018427387904) (d ((([]:List ye)++c)++([(⟨(nth b a).ya,(nth b a).fQ,(nth b a).yf,(nth b a).fT⟩:ye)]:List ye))))) else jf b c e d f (i64 (a+1))) else d c
def ko(b:List ye)(c:List (List za))(d:(List ye)->Option (List ye×Bool)):Nat->(List ye)->Option (List ye×Bool)
 | 0,_=>none
 | f+1,a=>if decide ((a.length:Int)<b.length) then vk (fun(g:List ye)=>ko b c d f g) fun h=>vk (fun(e:List ye)=>if decide ((e.length:Int)=(a.length:Int)) then some (([]:List ye),false) else h e) fun i=>jf b a c i xC 0 else d a
def ru(a:List (List za)):Option (List ye×Bool):=
 (mC a).bind fun d=>vk (fun(b:List ye)=>some (b,true)) fun c=>ko d a c xC ([]:List ye)
theorem X8(Z:Zp)(Q:Option Addr)(R:Nat)(v:List (List za))(r:List ye×Bool)(h:ru v=some r)(w₀:World)(hz:PZ [] w₀ Z)(W:ZS Z 1 (qt Z) Q R v):
  Calls Tryz.prog 64 #[vs Q v.length R] w₀ fun e w'=>∃ X:Option Addr,∃ Y:Nat,e = .returned (.tuple #[vs X r.1.length Y,.bool r.2])/\True/\Hp [] w₀ w' [row (vs X r.1.length Y) 37 4 (r.1.flatMap xY)]:=by
 unfold ru at h
 refine L9 func64 ntmps64 ?_
 refine B2n U<|WC.b<|bK h fun a aj h=>D1q U<|WL.jk (dd:=9) U U U (zb call33<|.cons U .nil) .nil (cc hz .nil fun w pz ho=>c9 _ _ _ _ _ aj w pz W) ?_
 rintro aA aa _
 refine Q1n U<|B1n U<|jK1 h fun ab ak h=>Md (fun(q:List ye) (x:Option Addr) (y:Nat)=>(ab q=some r)) (fun q x y=>[(5,vs x q.length y)]) (fun q x y=>[row (vs x q.length y) 37 4 (q.flatMap xY)]) ?_ ?_
 ·let D:Value:=(vs Q v.length R);let F:Value:=(vs aA a.length aa);refine WC.block<|WC.nilRow 37 4<|WC.fj (fun(K:Nat) (c:List ye) (k:Option Addr) (m:Nat)=>(ko a v ab K c=some r)) (fun K c k m=>[(0,D),(4,F),(5,vs k c.length m)]) (fun K c k m=>[row F 37 4 (a.flatMap xY),row (vs k c.length m) 37 4 (c.flatMap xY)]) (fun K c k m=>K) ⟨xC,([]:List ye),none,0⟩ h (.q U) (.s2 .h1 .here) ?_
  rintro(_|aB) c k m h;·cases h
  rw[ko] at h
  refine WC.b<|B1q U<|Le 11 (xK underlying33 U)<|La U<|Le 13 (xK underlying33 U)<|Q1n U<|Lk U h (fun al h=>?_)<|fun al h=>?_
  ·refine WC.skip<|Lb<|jK1 h fun aC am h=>WC.ei (fun(n:List ye) (z:Option Addr) (B:Nat)=>(aC n=some r)) (fun n z B=>[(0,D),(4,F),(5,vs z n.length B)]) (fun n z B=>[row F 37 4 (a.flatMap xY),row (vs z n.length B) 37 4 (n.flatMap xY)]) ?_ ?_
   ·refine WC.block<|B1q U<|Le 16 (xK underlying33 U)<|Q1n U ?_
    obtain⟨ad,an,h⟩:=xS h
    let E:Value:=(vi (c.length:Int));refine Md (fun(o:List ye) (I:Option Addr) (J:Nat)=>(ad o=some r)) (fun o I J=>[(0,D),(4,F),(5,vs I o.length J),(6,E)]) (fun o I J=>[row F 37 4 (a.flatMap xY),row (vs I o.length J) 37 4 (o.flatMap xY)]) ?_ ?_
    ·let C:Value:=(vs k c.length m);refine B1n U<|WC.block<|L6 (fun(L:Nat) (b:Int)=>(jf a c v ad L b=some r)) (fun L b=>[(0,D),(4,F),(5,C),(6,E),(7,vi b)]) (fun L b=>[row F 37 4 (a.flatMap xY),row C 37 4 (c.flatMap xY)]) (fun L b=>L) ⟨xC,0⟩ h (.q U) (.a2) ?_
     rintro(_|aD) b h;·cases h
     rw[jf] at h
     refine WC.b<|B2q U<|Le 19 (xK underlying33 U)<|Q1n U<|Lk U h (fun ao h=>?_)<|fun ao h=>?_
     ·refine WC.skip<|Lb<|WC.b<|WC.block<|WC.b<|cK h fun p h=>bK h fun M ap h=>bK h fun aE ae h=>Lz nc [] U<|Lf 0 23 U (q_m U)<|Lf 1 24 U (q_m U)<|Lf 2 25 U (q_m U)<|Mg (fun w hw=>Hp.vB .here hw (by intro iT;have:=p;rw[iT] at this;omega)) ?_
      rintro⟨N,rfl⟩
      let A:Value:=(vs (some ⟨N,0,none⟩) a.length aa);let H:Value:=(.pointer (some ⟨N,(b:Int).toNat*4,none⟩));refine Lf 3 26 U (w7 z1r U U p.1 p.2 vN)<|Lf 4 27 U (xk gt U<|Addr.add_lit _ _ _)<|Lh 5 28 U (xl xu U<|gq .here<|(vt (enc:=xY) (l:=a) (i:=b) (sz:=4) (fun _=>U) p.1 p.2) 0 _ U)<|Lf 6 29 U (q_m U)<|Lf 7 30 U (q_m U)<|Lf 8 31 U (w7 z1r U U p.1 p.2 vN)<|Lf 9 32 U (xk mb U<|Addr.add_lit _ _ _)<|Lh 10 33 U (xl xu U<|gq .here<|(vt (enc:=xY) (l:=a) (i:=b) (sz:=4) (fun _=>U) p.1 p.2) 1 _ U)<|L5 11 34 U (zb call34<|.r3 U U U) (sc hz .nil (.cons .h1 .nil) fun w pz ho la=>tP _ _ _ _ _ _ _ ap w pz<|ZA.row (la _ (.head _) _) (RR.flat (enc:=xY) (fun _=>U) _) ⟨w,pz.1⟩)<|Lf 12 35 U (lR U U)<|Lf 13 36 U (q_m U)<|Mc (fuel':=0) [(0,D),(4,A),(5,C),(6,E),(7,vi b),(17,vi b),(18,A),(19,vi (a.length:Int)),(20,(.bool<|decide (b<a.length))),(23,C),(24,A),(25,vi b),(26,H),(27,(.pointer<|some ⟨N,(b:Int).toNat*4+0,none⟩)),(28,(vi<|(nth a b).ya)),(29,A),(30,vi b),(31,H),(32,(.pointer<|some ⟨N,(b:Int).toNat*4+1,none⟩)),(33,(vi<|(nth a b).fQ)),(34,vi M),(35,(.bool<|decide (M<0))),(36,(.bool<|decide (M<0))),(44,.bool aE)] (wl 22 (dn 22)) ?_<|fun af=>?_
      rotate_left
      ·rcases Bool.eq_false_or_eq_true (decide (M<0)) with hb' | hb'
       ·have S:=hb';clear hb'
        have u:=q7 ae S
        obtain⟨O,u⟩:=xq u
        obtain⟨aF,aq,u⟩:=z8 u
        replace u:=oJ u
        refine L4 (i:=36) U S<|Lf 14 37 U (q_m U)<|Lf 15 38 U (q_m U)<|Lf 16 39 U (q_m U)<|Lf 17 40 U (q_m U)<|Lf 18 41 U (w7 z1r U U O.1 O.2 vN)<|Lh 19 42 U (wu (cs:=(xY<|nth a b)) z5F U U<|g5 .here<|vt (enc:=xY) (l:=a) (i:=b) (sz:=4) (fun _=>U) O.1 O.2)<|L5 20 43 U (zb call112<|.r3 U U U) (sc hz .nil (.cons .h1 .nil) fun w pz ho la=>X7 _ _ _ _ _ _ _ _ _ aq w pz ((W.mono<|zl).weak (fun _ _ h=>wv zl h))<|ZA.row (la _ (.head _) _) (RR.flat (enc:=xY) (fun _=>U) _) ⟨w,pz.1⟩)<|Lf 21 44 U (qe U U)<|Lw (.a2) ?_ af
        exact .r24 U U U U U U U U U U U U U U U U U U U U U U (zt<|Eq.symm S)<|zt u
       ·have T:=hb';clear hb'
        have V:=q8 ae T
        replace V:=oJ V
        refine L4 (i:=36) U T<|Lj 14 37 U<|Lj 15 38 U<|Lj 16 39 U<|Lj 17 40 U<|Lj 18 41 U<|Lj 19 42 U<|Lj 20 43 U<|Lf 21 44 U (qf U U)<|Lw (.a2) ?_ af
        exact .r24 U U U U U U U U U U U U U U U U U U U U U U (zt<|Eq.symm T)<|zt V
      refine WD.done (by kernel_rfl)<|Lb<|Lk U h (fun ar h=>?_)<|fun ar h=>?_
      ·refine WC.b<|cK h fun ag h=>cK h fun P h=>cK h fun au h=>Lz (fun i=>[2,8].contains i) [row A 37 4 (a.flatMap xY)] U<|Lf 1 46 U (q_m U)<|Lf 3 48 U (q_m U)<|Lf 4 49 U (q_m U)<|Lf 5 50 U (w7 z1r U U P.1 P.2 vN)<|Mb 6 51 U (wB.of<|.cons .here .nil) (wu (cs:=(xY<|nth a b)) z5F U U<|g5 .here<|vt (enc:=xY) (l:=a) (i:=b) (sz:=4) (fun _=>U) P.1 P.2)<|WD.Xq (fuel':=0) (fun(d:Nat) (g:Option Addr) (j:Nat) (f:Nat) (s:Option Addr) (t:Nat)=>[(0,D),(4,A),(5,vs s (((([]:List ye)++c)++([(⟨(nth a b).ya,(nth a b).fQ,(nth a b).yf,(nth a b).fT⟩:ye)]:List ye)).length) t),(6,E)]) (fun(d:Nat) (g:Option Addr) (j:Nat) (f:Nat) (s:Option Addr) (t:Nat)=>[row (vs s (((([]:List ye)++c)++([(⟨(nth a b).ya,(nth a b).fQ,(nth a b).yf,(nth a b).fT⟩:ye)]:List ye)).length) t) 37 4 (((([]:List ye)++c)++([(⟨(nth a b).ya,(nth a b).fQ,(nth a b).yf,(nth a b).fT⟩:ye)]:List ye)).flatMap xY),row (vs (some ⟨f,0,none⟩) (([(⟨(nth a b).ya,(nth a b).fQ,(nth a b).yf,(nth a b).fT⟩:ye)]:List ye).length) 1) 37 4 (([(⟨(nth a b).ya,(nth a b).fQ,(nth a b).yf,(nth a b).fT⟩:ye)]:List ye).flatMap xY),row A 37 4 (a.flatMap xY),row C 37 4 (c.flatMap xY)]) (fun(d:Nat) (g:Option Addr) (j:Nat) (f:Nat) (s:Option Addr) (t:Nat)=>True) (wl 10 [9,8,7,2,0,6,5,4,3,1]) ?_<|fun av=>?_
       ·rintro d g j f s t _
        exact WD.done (by kernel_rfl)<|Lb<|WC.exit<|WX.l5 U<|Lm<|Lm<|Lv<|Ln ⟨(([]:List ye)++c)++([(⟨(nth a b).ya,(nth a b).fQ,(nth a b).yf,(nth a b).fT⟩:ye)]:List ye),s,t⟩ h (.q U)<|.s2 .h2 .here
       refine WD.pt (fuel':=2) (fun(d:Nat) (g:Option Addr) (j:Nat) (f:Nat)=>[(0,D),(4,A),(5,C),(6,E),(47,vs g ((([]:List ye)++c).length) j),(52,vs (some ⟨f,0,none⟩) (([(⟨(nth a b).ya,(nth a b).fQ,(nth a b).yf,(nth a b).fT⟩:ye)]:List ye).length) 1)]) (fun(d:Nat) (g:Option Addr) (j:Nat) (f:Nat)=>[row (vs (some ⟨f,0,none⟩) (([(⟨(nth a b).ya,(nth a b).fQ,(nth a b).yf,(nth a b).fT⟩:ye)]:List ye).length) 1) 37 4 (([(⟨(nth a b).ya,(nth a b).fQ,(nth a b).yf,(nth a b).fT⟩:ye)]:List ye).flatMap xY),row (vs g ((([]:List ye)++c).length) j) 37 4 ((([]:List ye)++c).flatMap xY),row A 37 4 (a.flatMap xY),row C 37 4 (c.flatMap xY)]) (fun(d:Nat) (g:Option Addr) (j:Nat) (f:Nat)=>True) (wl 10 [7,2,0,6,5,4,3,1]) ?_<|fun ah=>?_
       ·rintro d g j f _
        refine WD.old (i:=8) (dd:=53) U (by kernel_rfl) U U U U (fun _=>(wB.of<|.cons .h2 .nil)) (vT (enc:=xY) (l1:=([]:List ye)++c) (l2:=([(⟨(nth a b).ya,(nth a b).fQ,(nth a b).yf,(nth a b).fT⟩:ye)]:List ye)) z1r U U .h1 (fun _=>U) U U (vL .here) (qR tE _) au) ?_
        rintro⟨s,t⟩ _
        exact Lf 9 5 U (q_z U)<|Lw (.a4) (.q U)<|av d g j f s t trivial
       let G:Value:=(.agg #[vi ((nth a b).ya),vi ((nth a b).fQ),vi ((nth a b).yf),vi ((nth a b).fT)]);refine WD.pr (fuel':=3) (fun(d:Nat) (g:Option Addr) (j:Nat)=>[(0,D),(4,A),(5,C),(6,E),(51,G),(47,vs g ((([]:List ye)++c).length) j)]) (fun(d:Nat) (g:Option Addr) (j:Nat)=>[row (vs g ((([]:List ye)++c).length) j) 37 4 ((([]:List ye)++c).flatMap xY),row A 37 4 (a.flatMap xY),row C 37 4 (c.flatMap xY)]) (fun(d:Nat) (g:Option Addr) (j:Nat)=>True) (wl 10 [2,0,6,5,4,3,1]) ?_<|fun aw=>?_
       ·rintro d g j _
        refine WD.new (i:=7) (dd:=52) U (by kernel_rfl) U U U (xU (cs:=([(⟨(nth a b).ya,(nth a b).fQ,(nth a b).yf,(nth a b).fT⟩:ye)]:List ye).flatMap xY) z1r (Lq (l:=[.tmp 51]) (.cons U .nil) [0]) (fun _=>by kernel_rfl) U (by unfold maxLen;omega)) (fun h'=>absurd h' (by decide)) fun f _=>Lw (.a4) (.q U)<|ah d g j f trivial
       refine WD.l7 (fuel':=3) (fun(d:Nat) (f:Nat)=>[(0,D),(4,A),(5,C),(6,E),(46,C),(45,vs (some ⟨d,0,none⟩) (([]:List ye).length) 0),(52,vs (some ⟨f,0,none⟩) (([(⟨(nth a b).ya,(nth a b).fQ,(nth a b).yf,(nth a b).fT⟩:ye)]:List ye).length) 1)]) (fun(d:Nat) (f:Nat)=>[row (vs (some ⟨f,0,none⟩) (([(⟨(nth a b).ya,(nth a b).fQ,(nth a b).yf,(nth a b).fT⟩:ye)]:List ye).length) 1) 37 4 (([(⟨(nth a b).ya,(nth a b).fQ,(nth a b).yf,(nth a b).fT⟩:ye)]:List ye).flatMap xY),row (vs (some ⟨d,0,none⟩) (([]:List ye).length) 0) 37 4 (([]:List ye).flatMap xY),row A 37 4 (a.flatMap xY),row C 37 4 (c.flatMap xY)]) (fun(d:Nat) (f:Nat)=>True) (wl 10 [7,0,6,5,4,3,1]) ?_<|fun ai=>?_
       ·rintro d f _
        refine WD.old (i:=2) (dd:=47) U (by kernel_rfl) U U U U (fun _=>(wB.of<|.cons .h2 .nil)) (vT (enc:=xY) (l1:=([]:List ye)) (l2:=c) z1r U U .h1 (fun _=>U) U U (vL .h3) (qR tE _) ag) ?_
        rintro⟨g,j⟩ _
        exact Lw (.s4 .h1 .here .here .here) (.q U)<|ah d g j f trivial
       refine WD.pq (fuel':=4) (fun(d:Nat)=>[(0,D),(4,A),(5,C),(6,E),(46,C),(51,G),(45,vs (some ⟨d,0,none⟩) (([]:List ye).length) 0)]) (fun(d:Nat)=>[row (vs (some ⟨d,0,none⟩) (([]:List ye).length) 0) 37 4 (([]:List ye).flatMap xY),row A 37 4 (a.flatMap xY),row C 37 4 (c.flatMap xY)]) (fun(d:Nat)=>True) (wl 10 [0,6,5,4,3,1]) ?_<|fun ax=>?_
       ·rintro d _
        refine WD.choose [2,7] (by kernel_rfl) U<|wF.cons ?_<|wF.cons ?_<|wF.nil
        ·refine wF.old (i:=2) (dd:=47) U U U U U (fun _=>(wB.of<|.cons .h1 .nil)) (vT (enc:=xY) (l1:=([]:List ye)) (l2:=c) z1r U U .here (fun _=>U) U U (vL .h2) (qR tE _) ag) ?_
         rintro⟨g,j⟩ _
         exact Lw (.a3) (.q U)<|aw d g j trivial
        ·refine wF.new (i:=7) (dd:=52) U U U U (xU (cs:=([(⟨(nth a b).ya,(nth a b).fQ,(nth a b).yf,(nth a b).fT⟩:ye)]:List ye).flatMap xY) z1r (Lq (l:=[.tmp 51]) (.cons U .nil) [0]) (fun _=>by kernel_rfl) U (by unfold maxLen;omega)) (fun h'=>absurd h' (by decide)) fun f _=>Lw (.a4) (.q U)<|ai d f trivial
       refine WD.pq (fuel':=4) (fun(f:Nat)=>[(0,D),(4,A),(5,C),(6,E),(46,C),(52,vs (some ⟨f,0,none⟩) (([(⟨(nth a b).ya,(nth a b).fQ,(nth a b).yf,(nth a b).fT⟩:ye)]:List ye).length) 1)]) (fun(f:Nat)=>[row (vs (some ⟨f,0,none⟩) (([(⟨(nth a b).ya,(nth a b).fQ,(nth a b).yf,(nth a b).fT⟩:ye)]:List ye).length) 1) 37 4 (([(⟨(nth a b).ya,(nth a b).fQ,(nth a b).yf,(nth a b).fT⟩:ye)]:List ye).flatMap xY),row A 37 4 (a.flatMap xY),row C 37 4 (c.flatMap xY)]) (fun(f:Nat)=>True) (wl 10 [7,6,5,4,3,1]) ?_<|fun ay=>?_
       ·rintro f _
        refine WD.new (i:=0) (dd:=45) U (by kernel_rfl) U U U (xU (cs:=([]:List ye).flatMap xY) z1r (Lq (l:=[]) .nil []) (fun _=>by kernel_rfl) U (by unfold maxLen;omega)) (fun h'=>absurd h' (by decide)) fun d _=>Lw (.s4 .h1 .here .here .here) (.q U)<|ai d f trivial
       refine WD.choose [0,7] (by kernel_rfl) U<|wF.cons ?_<|wF.cons ?_<|wF.nil
       ·refine wF.new (i:=0) (dd:=45) U U U U (xU (cs:=([]:List ye).flatMap xY) z1r (Lq (l:=[]) .nil []) (fun _=>by kernel_rfl) U (by unfold maxLen;omega)) (fun h'=>absurd h' (by decide)) fun d _=>Lw (.a3) (.q U)<|ax d trivial
       ·refine wF.new (i:=7) (dd:=52) U U U U (xU (cs:=([(⟨(nth a b).ya,(nth a b).fQ,(nth a b).yf,(nth a b).fT⟩:ye)]:List ye).flatMap xY) z1r (Lq (l:=[.tmp 51]) (.cons U .nil) [0]) (fun _=>by kernel_rfl) U (by unfold maxLen;omega)) (fun h'=>absurd h' (by decide)) fun f _=>Lw (.a3) (.q U)<|ay f trivial
      ·exact WC.skip<|Lt<|Lb<|D3q U<|WL.nil<|WX.round ⟨aD,i64 (b+1)⟩ h (Nat.lt_succ_self _) (.q U)<|.a2
     ·exact WC.exit<|Lm<|Lm<|Lv<|Ln ⟨c,k,m⟩ h (.q U)<|.a2
    ·rintro o I J h
     replace h:=(an o).symm.trans h
     refine B1q U<|Le 55 (xK underlying33 U)<|Q2n U<|Lk U h (fun az h=>?_)<|fun az h=>?_
     ·refine B2n U<|WC.ret<|Lu<|Ll<|Ll<|Lu<|Ll<|WX.nilRow 37 4 ?_
      obtain rfl:=oJ h
      exact Li results64 (.tmp U<|.tmp U .nil)<|fun w hw=>⟨none,0,wV U U,trivial,hw.sub (.cons .here .nil)⟩
     ·exact WC.skip<|Lt<|Ln ⟨o,I,J⟩ h (.q U)<|.a2
   ·rintro n z B h
    replace h:=(am n).symm.trans h
    exact WX.round ⟨aB,n,z,B⟩ h (Nat.lt_succ_self _) (.q U)<|.a2
  ·exact WC.exit<|Lm<|Lm<|Lv<|Ln ⟨c,k,m⟩ h (.cons U .nil)<|.cons .h1 .nil
 ·rintro q x y h
  replace h:=(ak q).symm.trans h
  refine B3n U<|WC.ret ?_
  obtain rfl:=oJ h
  exact Li results64 (.tmp U<|.tmp U .nil)<|fun w hw=>⟨x,y,wV U U,trivial,hw.sub (.cons .here .nil)⟩
def uc(c:zi)(d:Int)(a:List (List za)):Option (List ye×Int):=
 (f9 c d a).bind fun e=>if !e then some (([]:List ye),310) else(ru a).bind fun b=>if !b.2 then some (([]:List ye),351) else some (b.1,0)
theorem X9(Z:Zp)(b:Option Addr)(c:Nat)(d:Option Addr)(f:Nat)(g:Option Addr)(i:Nat)(j:Option Addr)(k:Nat)(l:Option Addr)(m:Nat)(n:Option Addr)(o:Nat)(p:Option Addr)(q:Nat)(s:Option Addr)(t:Nat)(v:Option Addr)(x:Nat)(a:zi)(y:Int)(u:List (List za))(r:List ye×Int)(h:uc a y u=some r)(w₀:World)(hz:PZ [] w₀ Z)(C:ZS Z 4 (vU Z) b c a.fM)(D:ZS Z 4 (qr Z) d f a.yc)(E:ZS Z 4 (rq jm) g i a.fS)(F:ZS Z 4 (rq qm) j k a.fK)(G:ZS Z 7 (qK Z) l m a.yd)(H:ZS Z 5 (rq qI) n o a.fH)(I:ZS Z 3 (qs Z) p q a.fU)(J:ZS Z 4 (rq qJ) s t a.yb)(z:ZS Z 1 (qt Z) v x u):
  Calls Tryz.prog 31 #[.agg #[vs b a.fM.length c,vs d a.yc.length f,vs g a.fS.length i,vs j a.fK.length k,vs l a.yd.length m,vs n a.fH.length o,vs p a.fU.length q,vs s a.yb.length t],vi y,vs v u.length x] w₀ fun e w'=>∃ A:Option Addr,∃ B:Nat,e = .returned (.tuple #[vs A r.1.length B,vi r.2])/\True/\Hp [] w₀ w' [row (vs A r.1.length B) 37 4 (r.1.flatMap xY)]:=by
 unfold uc at h
 refine Me func31 ntmps31 ?_
 refine WC.b<|Ld (Lg 3 (xO (cs:=[vs b a.fM.length c,vs d a.yc.length f,vs g a.fS.length i,vs j a.fK.length k,vs l a.yd.length m,vs n a.fH.length o,vs p a.fU.length q,vs s a.yb.length t]) U U) fun Q _=>Q2n U<|WC.b<|WC.b ?_)
 refine bK h fun R K h=>Ld<|Le 10 (xw z1j U (xy .here) U)<|Q2q U<|Lp 13 (zb call29<|.r3 U U U) .nil (cc hz .nil fun w pz ho=>rt _ _ _ _ _ _ _ _ _ _ _ _ _ _ _ _ _ _ _ _ _ _ _ K w pz C D E F G H I J z)<|Q1n U<|Lk U h (fun L h=>?_)<|fun L h=>?_
 ·refine B2n U<|WC.ret<|Ll<|WX.nilRow 37 4 ?_
  obtain rfl:=oJ h
  exact Li results31 (.tmp U<|.tmp U .nil)<|fun w hw=>⟨none,0,wV U U,trivial,hw.sub (.cons .here .nil)⟩
 ·refine WC.skip<|Lb<|WC.b<|bK h fun S M h=>D1q U<|WL.jk (dd:=17) U U U (zb call64<|.cons U .nil) .nil (cc hz .nil fun w pz ho=>X8 _ _ _ _ _ M w pz z) ?_
  rintro N O _
  refine Q5n U<|WC.b<|B2n U<|Lk U h (fun P h=>?_)<|fun P h=>?_
  ·refine B2n U<|WC.ret<|Ll<|WX.nilRow 37 4 ?_
   obtain rfl:=oJ h
   exact Li results31 (.tmp U<|.tmp U .nil)<|fun w hw=>⟨none,0,wV U U,trivial,hw.sub (.cons .here .nil)⟩
  ·refine WC.skip<|Lb<|B3n U<|WC.ret ?_
   obtain rfl:=oJ h
   exact Li results31 (.tmp U<|.tmp U .nil)<|fun w hw=>⟨N,O,wV U U,trivial,hw.sub (.cons .here .nil)⟩
def gW(b:List za)(c:Int)(d:Option Int):Nat->Int->Option Int
 | 0,_=>none
 | e+1,a=>if decide (a<b.length) then chk (0<=a/\a<b.length) (if decide (((nth b a).fX)=c) then some a else gW b c d e (i64 (a+1))) else d
def fO(a:List za)(b:Int):Option Int:=
 g8 (some (-1)) fun c=>gW a b c xC 0
theorem dG(Z:Zp)(e:Option Addr)(f:Nat)(b:List za)(d:Int)(r:Int)(h:fO b d=some r)(w₀:World)(hz:PZ [] w₀ Z)(i:ZS Z 3 (rq vw) e f b):
  RC 71 #[vs e b.length f,vi d] w₀ (vi r) [] []:=by
 unfold fO at h
 refine L3 func71 ntmps71 ?_
 refine B1n U<|jK0 h fun g j h=>L7 (g=some r) ([]) ([]) ?_ ?_
 ·refine B1n U<|WC.block<|L6 (fun(c:Nat) (a:Int)=>(gW b d g c a=some r)) (fun c a=>[(0,vs e b.length f),(1,vi d),(5,vi a)]) (fun c a=>[]) (fun c a=>c) ⟨xC,0⟩ h (.q U) .nil ?_
  rintro(_|o) a h;·cases h
  rw[gW] at h
  refine WC.b<|B2q U<|Le 8 (xK underlying58 U)<|Q1n U<|Lk U h (fun k h=>?_)<|fun k h=>?_
  ·refine WC.skip<|Lb<|WC.b<|WC.block<|WC.b<|cK h fun l h=>D2q U<|L0 (dd:=14) U U (Z:=Z) (Pr:=(rq vw)) z1v U U i l ?_
   rintro p q m s rfl
   refine Le 15 (xk jR U U)<|Le 16 (xl xu U<|xM hz.pv m U)<|Q2n U<|Lk U h (fun n h=>?_)<|fun n h=>?_
   ·refine B2n U<|WC.ret<|Lu<|Ll<|Ll<|Lu<|Ll ?_
    obtain rfl:=oJ h
    exact Li results71 (.tmp U .nil)<|fun w hw=>⟨xJ U,hw.sub .nil⟩
   ·exact WC.skip<|Lt<|Lb<|D3q U<|WL.nil<|WX.round ⟨o,i64 (a+1)⟩ h (Nat.lt_succ_self _) (.q U) .nil
  ·exact WC.exit<|Lm<|Lm<|Lv<|Ln () h .nil .nil
 ·rintro  h
  replace h:=j.symm.trans h
  refine B1n U<|WC.ret ?_
  obtain rfl:=oJ h
  exact Li results71 (.tmp U .nil)<|fun w hw=>⟨xJ U,hw.sub .nil⟩
def mg(a:zi)(b:Int):Option Int:=
 if decide (b<a.fM.length) then some 0 else chk (0<=(i64 (b-(a.fM.length:Int)))/\(i64 (b-(a.fM.length:Int)))<a.fS.length) (some ((nth a.fS (i64 (b-(a.fM.length:Int)))).yf))
theorem ic(Z:Zp)(b:Option Addr)(c:Nat)(d:Option Addr)(e:Nat)(f:Option Addr)(g:Nat)(i:Option Addr)(j:Nat)(k:Option Addr)(l:Nat)(m:Option Addr)(n:Nat)(o:Option Addr)(p:Nat)(q:Option Addr)(s:Nat)(a:zi)(t:Int)(r:Int)(h:mg a t=some r)(w₀:World)(hz:PZ [] w₀ Z)(z:ZS Z 4 (vU Z) b c a.fM)(A:ZS Z 4 (qr Z) d e a.yc)(u:ZS Z 4 (rq jm) f g a.fS)(B:ZS Z 4 (rq qm) i j a.fK)(C:ZS Z 7 (qK Z) k l a.yd)(D:ZS Z 5 (rq qI) m n a.fH)(E:ZS Z 3 (qs Z) o p a.fU)(F:ZS Z 4 (rq qJ) q s a.yb):
  RC 66 #[.agg #[vs b a.fM.length c,vs d a.yc.length e,vs f a.fS.length g,vs i a.fK.length j,vs k a.yd.length l,vs m a.fH.length n,vs o a.fU.length p,vs q a.yb.length s],vi t] w₀ (vi r) [] []:=by
 unfold mg at h
 refine L3 func66 ntmps66 ?_
 refine WC.b<|Ld (Lg 2 (xO (cs:=[vs b a.fM.length c,vs d a.yc.length e,vs f a.fS.length g,vs i a.fK.length j,vs k a.yd.length l,vs m a.fH.length n,vs o a.fU.length p,vs q a.yb.length s]) U U) fun G _=>Q1n U<|WC.b<|B1q U<|Le 6 (xk jB U U)<|Le 7 (xl z4F U<|xt .here U)<|Le 8 (xK underlying22 U)<|Q1n U<|Lk U h (fun v h=>?_)<|fun v h=>?_)
 ·refine B1n U<|WC.ret<|Ll ?_
  obtain rfl:=oJ h
  exact Li results66 (.tmp U .nil)<|fun w hw=>⟨xJ U,hw.sub .nil⟩
 ·refine WC.skip<|Lb<|WC.b<|cK h fun x h=>Ld<|Le 10 (xk uL U U)<|Le 11 (xl zbS U<|xt .here U)<|La U<|Le 13 (xk jB U U)<|Le 14 (xl z4F U<|xt .here U)<|Le 15 (xK underlying22 U)<|La U<|L0 (dd:=17) U U (Z:=Z) (Pr:=(rq jm)) zj7 U U u x ?_
  rintro H I y J rfl
  refine Le 18 (xk pG U U)<|Le 19 (xl xu U<|xM hz.pv y U)<|Q1n U<|WC.ret ?_
  obtain rfl:=oJ h
  exact Li results66 (.tmp U .nil)<|fun w hw=>⟨xJ U,hw.sub .nil⟩
def kp:Nat->zi->(List za)->Int->(List ye)->Option Int
 | 0,_,_,_,_=>none
 | d+1,z15,z37,z97,z4z=>(fO z37 z97).bind fun a=>if decide (a<0) then some 0 else vk (fun(e:Int)=>chk (0<=a/\a<z37.length) (((kp d) z15 z37 ((nth z37 a).ya) z4z).bind fun f=>(mg z15 ((nth z37 a).ya)).bind fun g=>chk (0<=((nth z37 a).fQ)/\((nth z37 a).fQ)<z15.fK.length) (some (i64 ((i64 ((i64 (f+e))-g))-((nth z15.fK ((nth z37 a).fQ)).yj)))))) fun c=>chk (0<=a/\a<z37.length) ((vG z4z ((nth z37 a).ya) ((nth z37 a).fQ)).bind fun b=>if decide (b>=0) then chk (0<=b/\b<z4z.length) (c ((nth z4z b).yf)) else c 0)
def sN(z15:zi)(z37:List za)(z97:Int)(z4z:List ye):Option Int:=kp xC z15 z37 z97 z4z
theorem dH:∀(n:Nat) (Z:Zp) (z9M:Option Addr) (z9N:Nat) (z9O:Option Addr) (z9P:Nat) (z9Q:Option Addr) (z9R:Nat) (z9S:Option Addr) (z9T:Nat) (z9U:Option Addr) (z9V:Nat) (z9W:Option Addr) (z9X:Nat) (z9Y:Option Addr) (z9Z:Nat) (za0:Option Addr) (za1:Nat) (zaH:Option Addr) (zaI:Nat) (zaJ:Option Addr) (zaK:Nat) (z15:zi) (z37:List za) (z97:Int) (z4z:List ye) (r:Int) (w₀:World) (hz:PZ [] w₀ Z)
  (f:ZS Z 4 (vU Z) z9M z9N z15.fM)
  (g:ZS Z 4 (qr Z) z9O z9P z15.yc)
  (i:ZS Z 4 (rq jm) z9Q z9R z15.fS)
  (c:ZS Z 4 (rq qm) z9S z9T z15.fK)
  (k:ZS Z 7 (qK Z) z9U z9V z15.yd)
  (l:ZS Z 5 (rq qI) z9W z9X z15.fH)
  (m:ZS Z 3 (qs Z) z9Y z9Z z15.fU)
  (o:ZS Z 4 (rq qJ) za0 za1 z15.yb)
  (a:ZS Z 3 (rq vw) zaH zaI z37)
  (d:ZS Z 4 (rq xY) zaJ zaK z4z) (h:kp n z15 z37 z97 z4z=some r),Calls Tryz.prog 38 #[.agg #[vs z9M z15.fM.length z9N,vs z9O z15.yc.length z9P,vs z9Q z15.fS.length z9R,vs z9S z15.fK.length z9T,vs z9U z15.yd.length z9V,vs z9W z15.fH.length z9X,vs z9Y z15.fU.length z9Z,vs za0 z15.yb.length za1],vs zaH z37.length zaI,vi z97,vs zaJ z4z.length zaK] w₀ fun e w'=>e = .returned (vi r)/\Hp [] w₀ w' []:=by
 intro n
 induction n with
 | zero=>intro Z z9M z9N z9O z9P z9Q z9R z9S z9T z9U z9V z9W z9X z9Y z9Z za0 za1 zaH zaI zaJ zaK z15 z37 z97 z4z r w₀ hz f g i c k l m o a d h ;cases h
 | succ an ih=>
  intro Z z9M z9N z9O z9P z9Q z9R z9S z9T z9U z9V z9W z9X z9Y z9Z za0 za1 zaH zaI zaJ zaK z15 z37 z97 z4z r w₀ hz f g i c k l m o a d h 
  rw[kp] at h
  refine Calls.on4 func38 ntmps38 ?_
  let A:List Value:=[vs z9M z15.fM.length z9N,vs z9O z15.yc.length z9P,vs z9Q z15.fS.length z9R,vs z9S z15.fK.length z9T,vs z9U z15.yd.length z9V,vs z9W z15.fH.length z9X,vs z9Y z15.fU.length z9Z,vs za0 z15.yb.length za1];refine B0q<|Lg 4 (xO (cs:=A) U U) ?_
  intro q _
  refine Q1n U<|WC.b<|bK h fun s u h=>D2q U<|Lp 14 (zb call71<|.r2 U U) .nil (cc hz .nil fun w pz ho=>dG _ _ _ _ _ _ u w pz a)<|Q1n U<|WC.b<|B2n U<|Lk U h (fun v h=>?_)<|fun v h=>?_
  ·refine B1n U<|WC.ret<|Ll ?_
   obtain rfl:=oJ h
   exact Li results38 (.tmp U .nil)<|fun w hw=>⟨xJ U,hw.sub .nil⟩
  ·refine WC.skip<|Lb<|B1n U<|jK1 h fun M x h=>Ma (fun(b:Int)=>(M b=some r)) (fun b=>[(1,vs zaH z37.length zaI),(3,vs zaJ z4z.length zaK),(4,vp q),(9,vi s),(10,vi b)]) (fun b=>[stb q 31 A]) ?_ ?_
   ·refine WC.b<|cK h fun t h=>bK h fun N y h=>Lz nc [] U<|Lf 0 17 U (q_m U)<|Lf 1 18 U (q_m U)<|Lf 2 19 U (q_m U)<|L2 (j:=3) (dd:=20) (by kernel_rfl) U zO zP U U (Z:=Z) (Pr:=(rq vw)) z1v U U a t ?_
    rintro P Q z R rfl
    refine Lf 4 21 U (xk ww U U)<|Lh 5 22 U (xl xu U<|xM hz.pv z U)<|Lf 6 23 U (q_m U)<|Lf 7 24 U (q_m U)<|L2 (j:=8) (dd:=25) (by kernel_rfl) U zO zP U U (Z:=Z) (Pr:=(rq vw)) z1v U U a t ?_
    rintro S T B V rfl
    refine Lf 9 26 U (xk kz U U)<|Lh 10 27 U (xl xu U<|xM hz.pv B U)<|L5 11 28 U (zb call34<|.r3 U U U) (cc hz .nil fun w pz ho=>tP _ _ _ _ _ _ _ y w pz d)<|Lf 12 11 U (q_z U)<|WD.done (by kernel_rfl)<|Lb<|B2n U<|Lk U h (fun C h=>?_)<|fun C h=>?_
    ·refine cK h fun D h=>D2q U<|L0 (dd:=33) U U (Z:=Z) (Pr:=(rq xY)) z1r U U d D ?_
     rintro W X E Y rfl
     exact Le 34 (xk uM U U)<|Le 35 (xl xu U<|xM hz.pv E U)<|La U<|WL.nil<|Ln ((nth z4z N).yf) h (.q U)<|.cons .here .nil
    ·exact WC.skip<|Ln 0 h (.q U)<|.cons .here .nil
   ·rintro b h
    replace h:=(x b).symm.trans h
    refine WC.b<|cK h fun p h=>bK h fun O F h=>bK h fun ao G h=>cK h fun H h=>Lz nc [] U<|Lh 0 36 U (xw z1j U (xy .here) U)<|Lf 1 37 U (q_m U)<|Lf 2 38 U (q_m U)<|Lf 3 39 U (q_m U)<|L2 (j:=4) (dd:=40) (by kernel_rfl) U zO zP U U (Z:=Z) (Pr:=(rq vw)) z1v U U a p ?_
    rintro aa ab I ad rfl
    refine Lf 5 41 U (xk ww U U)<|Lh 6 42 U (xl xu U<|xM hz.pv I U)<|Lf 7 43 U (q_m U)<|L5 8 44 U (zb call38<|.r4 U U U U) (cc hz .nil fun w pz ho=>ih (Z:=_) (z9M:=z9M) (z9N:=z9N) (z9O:=z9O) (z9P:=z9P) (z9Q:=z9Q) (z9R:=z9R) (z9S:=z9S) (z9T:=z9T) (z9U:=z9U) (z9V:=z9V) (z9W:=z9W) (z9X:=z9X) (z9Y:=z9Y) (z9Z:=z9Z) (za0:=za0) (za1:=za1) (zaH:=zaH) (zaI:=zaI) (zaJ:=zaJ) (zaK:=zaK) (z15:=z15) (z37:=z37) (z97:=((nth z37 s).ya)) (z4z:=z4z) (r:=O) w pz f g i c k l m o a d F)<|Lf 9 45 U (q_m U)<|Lf 10 46 U (tY U U U)<|Lh 11 47 U (xw z1j U (xy .here) U)<|Lf 12 48 U (q_m U)<|Lf 13 49 U (q_m U)<|L2 (j:=14) (dd:=50) (by kernel_rfl) U zO zP U U (Z:=Z) (Pr:=(rq vw)) z1v U U a p ?_
    rintro ae af J ag rfl
    refine Lf 15 51 U (xk ww U U)<|Lh 16 52 U (xl xu U<|xM hz.pv J U)<|L5 17 53 U (zb call66<|.r2 U U) (cc hz .nil fun w pz ho=>ic _ _ _ _ _ _ _ _ _ _ _ _ _ _ _ _ _ _ _ _ G w pz f g i c k l m o)<|Lf 18 54 U (tj U U U)<|Lf 19 55 U (xk jQ U U)<|Lh 20 56 U (xl z5E U<|xt .here U)<|Lf 21 57 U (q_m U)<|Lf 22 58 U (q_m U)<|L2 (j:=23) (dd:=59) (by kernel_rfl) U zO zP U U (Z:=Z) (Pr:=(rq vw)) z1v U U a p ?_
    rintro ah ai K aj rfl
    refine Lf 24 60 U (xk kz U U)<|Lh 25 61 U (xl xu U<|xM hz.pv K U)<|L2 (j:=26) (dd:=62) (by kernel_rfl) U zO zP U U (Z:=Z) (Pr:=(rq qm)) z7V U U c H ?_
    rintro ak al L am rfl
    refine Lf 27 63 U (xk mz U U)<|Lh 28 64 U (xl xu U<|xM hz.pv L U)<|Lf 29 65 U (tj U U U)<|Lf 30 8 U (q_z U)<|WD.done (by kernel_rfl)<|Lb<|WC.ret ?_
    obtain rfl:=oJ h
    exact Li results38 (.tmp U .nil)<|fun w hw=>⟨xJ U,hw.sub .nil⟩
theorem cj(Z:Zp)(z9M:Option Addr)(z9N:Nat)(z9O:Option Addr)(z9P:Nat)(z9Q:Option Addr)(z9R:Nat)(z9S:Option Addr)(z9T:Nat)(z9U:Option Addr)(z9V:Nat)(z9W:Option Addr)(z9X:Nat)(z9Y:Option Addr)(z9Z:Nat)(za0:Option Addr)(za1:Nat)(zaH:Option Addr)(zaI:Nat)(zaJ:Option Addr)(zaK:Nat)(z15:zi)(z37:List za)(z97:Int)(z4z:List ye)(r:Int)(w₀:World)(hz:PZ [] w₀ Z)(a:ZS Z 4 (vU Z) z9M z9N z15.fM)(b:ZS Z 4 (qr Z) z9O z9P z15.yc)(c:ZS Z 4 (rq jm) z9Q z9R z15.fS)(d:ZS Z 4 (rq qm) z9S z9T z15.fK)(f:ZS Z 7 (qK Z) z9U z9V z15.yd)(g:ZS Z 5 (rq qI) z9W z9X z15.fH)(i:ZS Z 3 (qs Z) z9Y z9Z z15.fU)(j:ZS Z 4 (rq qJ) za0 za1 z15.yb)(k:ZS Z 3 (rq vw) zaH zaI z37)(l:ZS Z 4 (rq xY) zaJ zaK z4z)(h:sN z15 z37 z97 z4z=some r):Calls Tryz.prog 38 #[.agg #[vs z9M z15.fM.length z9N,vs z9O z15.yc.length z9P,vs z9Q z15.fS.length z9R,vs z9S z15.fK.length z9T,vs z9U z15.yd.length z9V,vs z9W z15.fH.length z9X,vs z9Y z15.fU.length z9Z,vs za0 z15.yb.length za1],vs zaH z37.length zaI,vi z97,vs zaJ z4z.length zaK] w₀ fun e w'=>e = .returned (vi r)/\Hp [] w₀ w' []:=dH xC Z z9M z9N z9O z9P z9Q z9R z9S z9T z9U z9V z9W z9X z9Y z9Z za0 za1 zaH zaI zaJ zaK z15 z37 z97 z4z r w₀ hz a b c d f g i j k l h 
def gl(a:Int)(b:List (List za))(g:ye)(d:zi)(j:List ye)(k:(List yr)->Option (List yr)):Nat->(List yr)->Int->Option (List yr)
 | 0,_,_=>none
 | n+1,e,c=>chk (0<=a/\a<b.length) (if decide (c<((nth b a).length:Int)) then vk (fun(o:List yr)=>gl a b g d j k n o (i64 (c+1))) fun l=>chk (0<=a/\a<b.length) (chk (0<=c/\c<((nth b a).length:Int)) (if (decide (((nth (nth b a) c).ya)≠g.ya))||(decide (((nth (nth b a) c).fQ)≠g.fQ)) then l e else chk (0<=a/\a<d.yd.length) (chk (0<=a/\a<b.length) ((sN d (nth b a) ((nth (nth b a) c).ya) j).bind fun h=>vk (fun(i:Int)=>chk ((((e++([({(nth d.yd a) with fQ:=i,yD:=h}:yr)]:List yr)).length:Nat):Int)*32<=140737488355328/\(((e++([({(nth d.yd a) with fQ:=i,yD:=h}:yr)]:List yr)).length:Nat):Int)<=4611686018427387904) (l (e++([({(nth d.yd a) with fQ:=i,yD:=h}:yr)]:List yr)))) fun m=>chk (0<=a/\a<b.length) ((fO (nth b a) ((nth (nth b a) c).ya)).bind fun f=>if decide (f>=0) then chk (0<=a/\a<b.length) (chk (0<=f/\f<((nth b a).length:Int)) (m ((nth (nth b a) f).fQ))) else m (-1)))))) else k e)
def gm(a:List (List za))(c:ye)(g:zi)(d:List ye)(e:(List yr)->Option (List yr)):Nat->(List yr)->Int->Option (List yr)
 | 0,_,_=>none
 | h+1,f,b=>if decide (b<a.length) then vk (fun(i:List yr)=>gm a c g d e h i (i64 (b+1))) fun j=>vk (fun(k:List yr)=>j k) fun l=>gl b a c g d l xC f 0 else e f
def ud(f:zi)(a:List (List za))(b:ye)(c:List ye):Option (List yr):=
 vk (fun(d:List yr)=>some d) fun e=>gm a b f c e xC ([]:List yr) 0
theorem Xa(Z:Zp)(W:Option Addr)(X:Nat)(Y:Option Addr)(aa:Nat)(ab:Option Addr)(ad:Nat)(ae:Option Addr)(af:Nat)(ag:Option Addr)(ah:Nat)(ai:Option Addr)(aj:Nat)(ak:Option Addr)(al:Nat)(am:Option Addr)(an:Nat)(aq:Option Addr)(ar:Nat)(ao:Option Addr)(ap:Nat)(a:zi)(f:List (List za))(d:ye)(I:List ye)(r:List yr)(h:ud a f d I=some r)(w₀:World)(hz:PZ [] w₀ Z)(aC:ZS Z 4 (vU Z) W X a.fM)(aD:ZS Z 4 (qr Z) Y aa a.yc)(aE:ZS Z 4 (rq jm) ab ad a.fS)(aF:ZS Z 4 (rq qm) ae af a.fK)(au:ZS Z 7 (qK Z) ag ah a.yd)(aG:ZS Z 5 (rq qI) ai aj a.fH)(aH:ZS Z 3 (qs Z) ak al a.fU)(aI:ZS Z 4 (rq qJ) am an a.yb)(S:ZS Z 1 (qt Z) aq ar f)(aJ:ZS Z 4 (rq xY) ao ap I):
  Calls Tryz.prog 65 #[.agg #[vs W a.fM.length X,vs Y a.yc.length aa,vs ab a.fS.length ad,vs ae a.fK.length af,vs ag a.yd.length ah,vs ai a.fH.length aj,vs ak a.fU.length al,vs am a.yb.length an],vs aq f.length ar,.agg #[vi d.ya,vi d.fQ,vi d.yf,vi d.fT],vs ao I.length ap] w₀ fun e w'=>∃ av:Option Addr,∃ aw:Nat,e = .returned (vs av r.length aw)/\True/\Hp [] w₀ w' [row (vs av r.length aw) 158 4 (r.flatMap gg)]:=by
 unfold ud at h
 refine Calls.on4 func65 ntmps65 ?_
 let A:List Value:=[vs W a.fM.length X,vs Y a.yc.length aa,vs ab a.fS.length ad,vs ae a.fK.length af,vs ag a.yd.length ah,vs ai a.fH.length aj,vs ak a.fU.length al,vs am a.yb.length an];refine B0q<|Lg 4 (xO (cs:=A) U U) ?_
 intro g _
 let C:List Value:=[vi d.ya,vi d.fQ,vi d.yf,vi d.fT];refine Lg 6 (xO (cs:=C) U U) ?_
 intro k _
 refine Q1n U<|B1n U<|jK1 h fun ax aK h=>Md (fun(x:List yr) (K:Option Addr) (L:Nat)=>(ax x=some r)) (fun x K L=>[(9,vs K x.length L)]) (fun x K L=>[row (vs K x.length L) 158 4 (x.flatMap gg)]) ?_ ?_
 ·let D:Value:=(vs aq f.length ar);let E:Value:=(vs ao I.length ap);refine B1n U<|WC.block<|WC.nilRow 158 4<|WC.fk (fun(T:Nat) (n:List yr) (b:Int) (y:Option Addr) (z:Nat)=>(gm f d a I ax T n b=some r)) (fun T n b y z=>[(1,D),(3,E),(4,vp g),(6,vp k),(9,vs y n.length z),(10,vi b)]) (fun T n b y z=>[row (vs y n.length z) 158 4 (n.flatMap gg),stb g 31 A,stb k 37 C]) (fun T n b y z=>T) ⟨xC,([]:List yr),0,none,0⟩ h (.q U) (.s3 .here .h1 .here) ?_
  rintro(_|bl) n b y z h;·cases h
  rw[gm] at h
  refine WC.b<|B2q U<|Le 17 (xK underlying32 U)<|Q1n U<|Lk U h (fun aL h=>?_)<|fun aL h=>?_
  ·refine WC.skip<|Lb<|jK1 h fun bm aM h=>Md (fun(o:List yr) (M:Option Addr) (N:Nat)=>(bm o=some r)) (fun o M N=>[(1,D),(3,E),(4,vp g),(6,vp k),(9,vs M o.length N),(10,vi b)]) (fun o M N=>[row (vs M o.length N) 158 4 (o.flatMap gg),stb g 31 A,stb k 37 C]) ?_ ?_
   ·refine WC.block<|B1n U<|jK1 h fun ay aN h=>WC.ei (fun(p:List yr) (O:Option Addr) (P:Nat)=>(ay p=some r)) (fun p O P=>[(1,D),(3,E),(4,vp g),(6,vp k),(9,vs O p.length P),(10,vi b)]) (fun p O P=>[row (vs O p.length P) 158 4 (p.flatMap gg),stb g 31 A,stb k 37 C]) ?_ ?_
    ·refine WC.block<|WC.fk (fun(V:Nat) (c:List yr) (m:Int) (q:Option Addr) (s:Nat)=>(gl b f d a I ay V c m=some r)) (fun V c m q s=>[(1,D),(3,E),(4,vp g),(6,vp k),(9,vs q c.length s),(10,vi b),(11,vi m)]) (fun V c m q s=>[row (vs q c.length s) 158 4 (c.flatMap gg),stb g 31 A,stb k 37 C]) (fun V c m q s=>V) ⟨xC,n,0,y,z⟩ h (.q U) (.a3) ?_
     rintro(_|bn) c m q s h;·cases h
     rw[gl] at h
     refine WC.b<|WC.b<|cK h fun aO h=>D3q U<|L0 (dd:=24) U U (Z:=Z) (Pr:=(qt Z)) z3K U U S aO ?_
     rintro bq br aP bs ⟨bt,bu,rfl,bv⟩
     refine Le 25 (xl z3q U<|q9 hz.pv aP U)<|Le 26 (xK underlying58 U)<|Q1n U<|Lk U h (fun aQ h=>?_)<|fun aQ h=>?_
     ·refine WC.skip<|Lb<|jK1 h fun bo aR h=>Md (fun(t:List yr) (Q:Option Addr) (R:Nat)=>(bo t=some r)) (fun t Q R=>[(1,D),(3,E),(4,vp g),(6,vp k),(9,vs Q t.length R),(10,vi b),(11,vi m)]) (fun t Q R=>[row (vs Q t.length R) 158 4 (t.flatMap gg),stb g 31 A,stb k 37 C]) ?_ ?_
      ·refine WC.block<|WC.b<|cK h fun aS h=>cK h fun aT h=>D2q U<|L0 (dd:=32) U U (Z:=Z) (Pr:=(qt Z)) z3K U U S aS ?_
       rintro bw bx aU bz ⟨bA,bB,rfl,aV⟩
       refine Le 33 (xl z3q U<|q9 hz.pv aU U)<|La U<|L0 (dd:=35) U U (Z:=Z) (Pr:=(rq vw)) z1v U U aV aT ?_
       rintro bC bD aW bE rfl
       refine Le 36 (xw z5b U (vQ hz.pv aW) U) (Lg 12 (xG (cs:=[vi 0,vi 0,vi 0]) zaS U) fun bF _=>Lo U U (xz za4 U U U .here U U U)<|Q0n<|WC.b<|B0q<|Le 37 (xk ww U U)<|Le 38 (xl xu U<|xt .here U)<|Le 39 (xk gt U U)<|Le 40 (xl xu U<|xt .h3 U)<|Q2q U<|Lx false 5 42 (B:=(decide (((nth (nth f b) m).ya)≠d.ya))||(decide (((nth (nth f b) m).fQ)≠d.fQ))) U U U U U U (fun h=>(kx h).symm) (fun _ aX=>?_) ?_)
       ·exact Le 43 (xk kz U U)<|Le 44 (xl xu U<|xt .here U)<|Le 45 (xk mb U U)<|Le 46 (xl xu U<|xt .h3 U)<|Q2q U<|Ly (ky aX) U U .all
       refine Q0n<|Lk U h (fun aY h=>?_)<|fun aY h=>?_
       ·exact WC.exit<|Lm<|Lv<|Ln ⟨c,q,s⟩ h (.q U)<|.s3 .h1 .h1 .h1
       ·refine WC.skip<|Lb<|WC.b<|cK h fun az h=>cK h fun aZ h=>bK h fun J a0 h=>Lz (fun i=>[23].contains i) [] U<|Lf 0 49 U (xk ma U U)<|Lh 1 50 U (xl z9f U<|xt .h2 U)<|Lf 2 51 U (q_m U)<|L2 (j:=3) (dd:=52) (by kernel_rfl) U zO zP U U (Z:=Z) (Pr:=(qK Z)) zbT U U au az ?_
        rintro bG bH a1 bI ⟨bJ,bL,rfl,bM⟩
        refine Lf 4 53 U (xk oY U U)<|Lh 5 54 U (xl xu U<|xM hz.pv a1 U)<|Lf 6 55 U (xk ma U U)<|Lh 7 56 U (xl z9f U<|xt .h2 U)<|Lf 8 57 U (q_m U)<|L2 (j:=9) (dd:=58) (by kernel_rfl) U zO zP U U (Z:=Z) (Pr:=(qK Z)) zbT U U au az ?_
        rintro bN bO a2 bP ⟨bQ,bR,rfl,bS⟩
        refine Lf 10 59 U (xk mY U U)<|Lh 11 60 U (xl xu U<|xM hz.pv a2 U)<|Lh 12 61 U (xw z1j U (xy .h2) U)<|Lf 13 62 U (q_m U)<|Lf 14 63 U (q_m U)<|L2 (j:=15) (dd:=64) (by kernel_rfl) U zO zP U U (Z:=Z) (Pr:=(qt Z)) z3K U U S aZ ?_
        rintro bT bU a3 bV ⟨a4,a5,rfl,a6⟩
        let F:Value:=(vi ((nth a.yd b).yo));let G:Value:=(vi ((nth a.yd b).yn));refine Lh 16 65 U (xl z3q U<|q9 hz.pv a3 U)<|Lf 17 66 U (xk ww U U)<|Lh 18 67 U (xl xu U<|xt .here U)<|Lf 19 68 U (q_m U)<|L5 20 69 U (zb call38<|.r4 U U U U) (cc hz .nil fun w pz ho=>cj (Z:=_) (z9M:=W) (z9N:=X) (z9O:=Y) (z9P:=aa) (z9Q:=ab) (z9R:=ad) (z9S:=ae) (z9T:=af) (z9U:=ag) (z9V:=ah) (z9W:=ai) (z9X:=aj) (z9Y:=ak) (z9Z:=al) (za0:=am) (za1:=an) (zaH:=a4) (zaI:=a5) (zaJ:=ao) (zaK:=ap) (z15:=a) (z37:=(nth f b)) (z97:=((nth (nth f b) m).ya)) (z4z:=I) (r:=J) w pz aC aD aE aF au aG aH aI a6 aJ a0)<|Lf 21 70 U (w3 (v:=(.agg #[vi (-1),F,G,vi J])) (Lq (l:=[.const (vi (-1)),.tmp 54,.tmp 60,.tmp 69]) (.r4 U U U U) [0,1,2,3]) (fun _=>by kernel_rfl))<|WD.new (i:=22) (dd:=13) U (by kernel_rfl) U U U (xG (cs:=[vi 0,vi 0,vi 0,vi 0]) zWF U) (fun h'=>absurd h' (by decide)) ?_
        intro aA _
        refine WD.jD (i:=23) U (by kernel_rfl) U U U (by kernel_rfl) (xz zWG U U U .here U U U)<|WD.done (by kernel_rfl)<|Lb ?_
        obtain⟨bp,a7,h⟩:=xS h
        let H:Value:=(vs q c.length s);refine Ma (fun(u:Int)=>(bp u=some r)) (fun u=>[(1,D),(3,E),(4,vp g),(6,vp k),(9,H),(10,vi b),(11,vi m),(13,vp aA)]) (fun u=>[row H 158 4 (c.flatMap gg),stb g 31 A,stb k 37 C,stb aA 158 [vi u,F,G,vi J]]) ?_ ?_
        ·refine WC.b<|cK h fun a8 h=>bK h fun aB a9 h=>Lz nc [] U<|Lf 0 71 U (q_m U)<|Lf 1 72 U (q_m U)<|L2 (j:=2) (dd:=73) (by kernel_rfl) U zO zP U U (Z:=Z) (Pr:=(qt Z)) z3K U U S a8 ?_
         rintro bW bX ba bY ⟨bZ,b0,rfl,bb⟩
         refine Lh 3 74 U (xl z3q U<|q9 hz.pv ba U)<|Lf 4 75 U (xk ww U U)<|Lh 5 76 U (xl xu U<|xt .h1 U)<|L5 6 77 U (zb call71<|.r2 U U) (cc hz .nil fun w pz ho=>dG _ _ _ _ _ _ a9 w pz bb)<|Lf 7 14 U (q_z U)<|WD.done (by kernel_rfl)<|Lb<|B2n U<|Lk U h (fun bc h=>?_)<|fun bc h=>?_
         ·refine cK h fun bd h=>cK h fun be h=>D2q U<|L0 (dd:=82) U U (Z:=Z) (Pr:=(qt Z)) z3K U U S bd ?_
          rintro b1 b2 bf b3 ⟨b4,b5,rfl,bg⟩
          refine Le 83 (xl z3q U<|q9 hz.pv bf U)<|La U<|L0 (dd:=85) U U (Z:=Z) (Pr:=(rq vw)) z1v U U bg be ?_
          rintro b6 b7 bh b8 rfl
          exact Le 86 (xk kz U U)<|Le 87 (xl xu U<|xM hz.pv bh U)<|Le 88 (xk XN U U)<|Lo U U (jF (ds:=[(vi<|(nth (nth f b) aB).fQ),F,G,vi J]) rf U U U U U .here U U)<|WL.nil<|Ln ((nth (nth f b) aB).fQ) h (.q U)<|.s4 .h2 .h2 .h2 .here
         ·exact WC.skip<|Ln (-1) h (.q U)<|.s4 .h2 .h2 .h2 .here
        ·rintro u h
         replace h:=(a7 u).symm.trans h
         refine cK h fun bi h=>D1q U<|Le 90 (xw zWH U (xy .h3) U) (Lg 91 (xU (cs:=([({(nth a.yd b) with fQ:=u,yD:=J}:yr)]:List yr).flatMap gg) zd8 (Lq (l:=[.tmp 90]) (.cons U .nil) [0]) (fun _=>by kernel_rfl) U (by unfold maxLen;omega)) fun b9 _=>WL.fA 92 (vT (enc:=gg) (l1:=c) (l2:=([({(nth a.yd b) with fQ:=u,yD:=J}:yr)]:List yr)) zd8 U U .h1 (fun _=>U) U U (vL .here) (qR Ga _) bi) ?_)
         rintro⟨bj,bk⟩ _
         exact La U<|WL.nil<|Lt<|Ln ⟨c++([({(nth a.yd b) with fQ:=u,yD:=J}:yr)]:List yr),bj,bk⟩ h (.q U)<|.s3 .here .h1 .h1
      ·rintro t Q R h
       replace h:=(aR t).symm.trans h
       exact D3q U<|WL.nil<|WX.round ⟨bn,t,i64 (m+1),Q,R⟩ h (Nat.lt_succ_self _) (.q U)<|.a3
     ·exact WC.exit<|Lm<|Lm<|Lv<|Ln ⟨c,q,s⟩ h (.q U)<|.a3
    ·rintro p O P h
     replace h:=(aN p).symm.trans h
     exact Lt<|Ln ⟨p,O,P⟩ h (.q U)<|.a3
   ·rintro o M N h
    replace h:=(aM o).symm.trans h
    exact D3q U<|WL.nil<|WX.round ⟨bl,o,i64 (b+1),M,N⟩ h (Nat.lt_succ_self _) (.q U)<|.a3
  ·exact WC.exit<|Lm<|Lm<|Lv<|Ln ⟨n,y,z⟩ h (.cons U .nil)<|.cons .here .nil
 ·rintro x K L h
  replace h:=(aK x).symm.trans h
  refine B2n U<|WC.ret ?_
  obtain rfl:=oJ h
  exact Li results65 (.tmp U .nil)<|fun w hw=>⟨K,L,xJ U,trivial,hw.sub (.cons .here .nil)⟩
end Go.Proofs.YthjnhebofpebpaaGreat

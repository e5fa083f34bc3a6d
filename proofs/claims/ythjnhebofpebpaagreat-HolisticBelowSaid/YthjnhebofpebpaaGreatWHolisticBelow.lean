/- A part of this claim's proof: models of functions, walks, plain laws. No conditions. -/
import Derived.Test.YthjnhebofpebpaaGreatW36h
set_option linter.all false
namespace Go.Proofs.YthjnhebofpebpaaGreat
open Go Go.RowKit Sep Tryz
set_option maxRecDepth 30000
set_option maxHeartbeats 4000000
def y2r(b:S39×Int)(c:S39×Int)(d:Option Bool):Nat->Int->Option Bool
 | 0,_=>none
 | e+1,a=>if decide (a<(b.1.fP.length:Int)) then chk ((0:Int)<=a/\a<(b.1.fP.length:Int)) (chk ((0:Int)<=a/\a<(c.1.fP.length:Int)) (if (((decide (((nth b.1.fP a).fNode)≠((nth c.1.fP a).fNode)))||(decide (((nth b.1.fP a).fQ)≠((nth c.1.fP a).fQ))))||(decide (((nth b.1.fP a).fDelay)>((nth c.1.fP a).fDelay))))||(decide (((nth b.1.fP a).fT)>((nth c.1.fP a).fT))) then some false else y2r b c d e (i64 (a+1)))) else d
def y2s(b:S39×Int)(c:S39×Int)(d:Option Bool):Nat->Int->Option Bool
 | 0,_=>none
 | e+1,a=>if decide (a<(b.1.fEnds.length:Int)) then chk ((0:Int)<=a/\a<(b.1.fEnds.length:Int)) (chk ((0:Int)<=a/\a<(c.1.fEnds.length:Int)) (if ((decide (((nth b.1.fEnds a).fVL)≠((nth c.1.fEnds a).fVL)))||(decide (((nth b.1.fEnds a).fNode)≠((nth c.1.fEnds a).fNode))))||(decide (((nth b.1.fEnds a).fDelay)>((nth c.1.fEnds a).fDelay))) then some false else y2s b c d e (i64 (a+1)))) else d
def y5q(z2j:zs)(zkV:Int)(zfl:List (List ze)):Option Bool:=
 (y8j z2j zfl).bind fun c=>if !c then(y64).bind fun d=>some d else(y4A z2j zkV zfl).bind fun a=>(y5n z2j zkV zfl).bind fun b=>if (decide (a.2≠0))||(decide (b.2≠0)) then(y64).bind fun e=>some e else if (decide ((a.1.fP.length:Int)≠(b.1.fP.length:Int)))||(decide ((a.1.fEnds.length:Int)≠(b.1.fEnds.length:Int))) then some false else jp0 (jp0 ((y64).bind fun f=>some f) fun g=>y2s a b g yy 0) fun h=>y2r a b h yy 0
theorem yca(Z:Zp)(zsj:Option Addr)(zsk:Nat)(zsl:Option Addr)(zsm:Nat)(zsn:Option Addr)(zso:Nat)(zsp:Option Addr)(zsq:Nat)(zsr:Option Addr)(zss:Nat)(zst:Option Addr)(zsu:Nat)(zsv:Option Addr)(zsw:Nat)(zsx:Option Addr)(zsy:Nat)(zCR:Option Addr)(zCS:Nat)(z2j:zs)(zkV:Int)(zfl:List (List ze))(r:Bool)(h:y5q z2j zkV zfl=some r)(w₀:World)(hz:PZ [] w₀ Z)(q:ZS Z 4 (y3F Z) zsj zsk z2j.fM)(s:ZS Z 4 (y4l Z) zsl zsm z2j.fC0)(t:ZS Z 4 (fun r x=>r=e64 x) zsn zso z2j.fS)(u:ZS Z 4 (fun r x=>r=e62 x) zsp zsq z2j.fK)(v:ZS Z 7 (p69 Z) zsr zss z2j.fVLs)(y:ZS Z 5 (fun r x=>r=y4D x) zst zsu z2j.fH)(z:ZS Z 3 (y4m Z) zsv zsw z2j.fU)(H:ZS Z 4 (fun r x=>r=y4E x) zsx zsy z2j.fV0)(I:ZS Z 1 (p58 Z) zCR zCS zfl):
  Calls Tryz.prog 4 #[(.agg #[(vs zsj z2j.fM.length zsk),(vs zsl z2j.fC0.length zsm),(vs zsn z2j.fS.length zso),(vs zsp z2j.fK.length zsq),(vs zsr z2j.fVLs.length zss),(vs zst z2j.fH.length zsu),(vs zsv z2j.fU.length zsw),(vs zsx z2j.fV0.length zsy)]),(vi zkV),(vs zCR zfl.length zCS)] w₀ fun e w'=>e = .returned (.bool r)/\Hp [] w₀ w' []:=by
 unfold y5q at h
 refine Kd func4 ntmps4 ?_
 refine WC.b<|Ld (Lg 3 (yI (cs:=[(vs zsj z2j.fM.length zsk),(vs zsl z2j.fC0.length zsm),(vs zsn z2j.fS.length zso),(vs zsp z2j.fK.length zsq),(vs zsr z2j.fVLs.length zss),(vs zst z2j.fH.length zsu),(vs zsv z2j.fU.length zsw),(vs zsx z2j.fV0.length zsy)]) U U) fun aw _=>La U<|WL.nil<|Lb<|WC.b<|WC.b ?_)
 obtain⟨aF,S,h⟩:=za h
 refine Ld<|Le 17 (yi y1V U (yj .here) U)<|La U<|Ll 19 (zb call10<|.r2 U U) .nil (cc hz .nil fun w pz ho=>yiD S w pz q s t u v y z H I)<|La U<|WL.nil<|Lb<|WC.cond U (fun J=>?_)<|fun J=>?_
 ·replace h:=yr h J
  refine WC.b ?_
  obtain⟨aG,T,h⟩:=za h
  refine Ld<|Ll 21 (zb call11 .nil) .nil (cc hz .nil fun w pz ho=>yah T w pz )<|La U<|WL.nil<|Lb<|WC.ret<|Lj ?_
  obtain rfl:=oJ h
  refine Lh results4 (.tmp U .nil)<|fun w hw=>?_
  exact⟨yD U,hw.sub .nil⟩
 ·replace h:=ys h J
  refine WC.skip<|Lb<|WC.b ?_
  obtain⟨b,V,h⟩:=za h
  refine Ld<|Le 23 (yi y1V U (yj .here) U)<|La U<|La U<|WL.y8E (dd:=26) U U U (zb call12<|.r3 U U U) .nil (cc hz .nil fun w pz ho=>ya6 V w pz q s t u v y z H I) ?_
  rintro ak al am an _
  refine La U<|La U<|La U (Lg 7 (yu (cs:=[vn,vn]) y6X U) fun p _=>Lk U U (yl y53 U U U .here U U U)<|La U<|WL.nil<|Lb<|WC.b ?_)
  obtain⟨a,W,h⟩:=za h
  refine Ld<|Le 30 (yi y1V U (yj .h3) U)<|La U<|La U<|WL.y8E (dd:=33) U U U (zb call18<|.r3 U U U) .nil (cc hz .nil fun w pz ho=>ybs W w pz q s t u v y z H I) ?_
  rintro ao ap aq ar _
  refine La U<|La U<|La U (Lg 9 (yu (cs:=[vn,vn]) y6X U) fun f _=>Lk U U (yl y53 U U U .here U U U)<|La U<|WL.nil<|Lb<|WC.b<|WC.b<|Ld<|La U<|La U<|La U<|Lu false 2 38 (B:=(decide (b.2≠0))||(decide (a.2≠0))) U U U U U U (fun h=>(y5V h).symm) (fun _ X=>?_) ?_)
  ·skip
   refine La U<|La U<|La U ?_
   exact Lv (y5W X) U U .all
  refine WL.nil<|Lb<|WC.cond U (fun K=>?_)<|fun K=>?_
  ·replace h:=yr h K
   refine WC.b ?_
   obtain⟨aH,Y,h⟩:=za h
   refine Ld<|Ll 42 (zb call11 .nil) .nil (cc hz .nil fun w pz ho=>yah Y w pz )<|La U<|WL.nil<|Lb<|WC.ret<|Lj ?_
   obtain rfl:=oJ h
   refine Lh results4 (.tmp U .nil)<|fun w hw=>?_
   exact⟨yD U,hw.sub .nil⟩
  ·replace h:=ys h K
   let F:=(b.1.fEnds.length:Int);let G:=(b.1.fP.length:Int);refine WC.skip (Lb (WC.b (WC.b (Ld (Le 43 (ya y4b U U) (Le 44 (yc y4c U (yh .h3 U)) (Le 45 (yJ underlying33 U) (Le 46 (ya y4b U U) (Le 47 (yc y4c U (yh .here U)) (Le 48 (yJ underlying33 U) (La U (La U (Lu false 7 50 (B:=(decide (G≠(a.1.fP.length:Int)))||(decide (F≠(a.1.fEnds.length:Int)))) U U U U U U (fun h=>(y5V h).symm) (fun _ aa=>?_) ?_)))))))))))))
   ·skip
    refine Le 51 (ya y6E U U)<|Le 52 (yc y7Z U<|yh .h3 U)<|Le 53 (yJ underlying38 U)<|Le 54 (ya y6E U U)<|Le 55 (yc y7Z U<|yh .here U)<|Le 56 (yJ underlying38 U)<|La U<|La U ?_
    exact Lv (y5W aa) U U .all
   refine WL.nil<|Lb<|WC.cond U (fun L=>?_)<|fun L=>?_
   ·replace h:=yr h L
    refine WC.b<|Ld<|La U<|WL.nil<|Lb<|WC.ret<|Lj ?_
    obtain rfl:=oJ h
    refine Lh results4 (.tmp U .nil)<|fun w hw=>?_
    exact⟨yD U,hw.sub .nil⟩
   ·replace h:=ys h L
    refine WC.skip<|Lb ?_
    obtain⟨Q,ab,h⟩:=y2m h
    let A:Value:=(vs am b.1.fEnds.length an);let C:Value:=(vs aq a.1.fEnds.length ar);let D:Value:=(vs ao a.1.fP.length ap);let E:Value:=(vs ak b.1.fP.length al);refine L8 ((Q=some r)) ([(7,(vp p)),(9,(vp f))]) ([stb p 40 [E,A],row E 37 4 (b.1.fP.flatMap e37),row A 53 3 (b.1.fEnds.flatMap e53),stb f 40 [D,C],row D 37 4 (a.1.fP.flatMap e37),row C 53 3 (a.1.fEnds.flatMap e53)]) ?_ ?_
    ·skip
     refine WC.b<|Ld<|Le 59 (ya y4b U U)<|Le 60 (yc y4c U<|yh .h3 U)<|Le 61 (yJ underlying33 U)<|La U<|WL.nil<|Lb<|WC.block<|L9 (fun(g:Nat) (c:Int)=>(y2r b a Q g c=some r)) (fun g c=>[(7,(vp p)),(9,(vp f)),(60,E),(61,(vi G)),(62,(vi c))]) (fun g c=>[row E 37 4 (b.1.fP.flatMap e37),stb p 40 [E,A],row A 53 3 (b.1.fEnds.flatMap e53),stb f 40 [D,C],row D 37 4 (a.1.fP.flatMap e37),row C 53 3 (a.1.fEnds.flatMap e53)]) (fun g c=>g) ⟨yy,0⟩ h (.r5 U U U U U) (.s6 .h4 .h3 .h3 .here .here .here) ?_
     rintro(_|au) c h;·cases h
     rw[y2r] at h
     refine WC.b<|Ld<|La U<|WL.nil<|Lb<|WC.b<|WC.cond U (fun M=>?_)<|fun M=>?_
     ·replace h:=yr h M
      refine WC.skip<|Lb<|WC.b<|WC.block<|WC.b ?_
      obtain⟨j,h⟩:=yo h
      refine Ld<|La U<|Kg (fun w hw=>Hp.y2c .here hw (by intro hz';have:=j;rw[hz'] at this;omega)) ?_
      rintro⟨ax,rfl⟩
      refine Le 65 (y11 y5z U U j.1 j.2 y3g)<|Le 66 (yX (cs:=(e37<|nth b.1.fP c)) y6C U U<|y3Q .here<|y2y (enc:=e37) (l:=b.1.fP) (i:=c) (sz:=4) (fun _=>U) j.1 j.2) (Lg 12 (yu (cs:=[(vi 0),(vi 0),(vi 0),(vi 0)]) y7G U) fun ay _=>La U<|Lk U U (yl y7X U U U .here U U U)<|WL.nil<|Lb<|WC.b ?_)
      obtain⟨k,h⟩:=yo h
      refine Ld<|Le 67 (ya y4b U U)<|Le 68 (yc y4c U<|yh .h4 U)<|La U<|Kg (fun w hw=>Hp.y2c .h5 hw (by intro hz';have:=k;rw[hz'] at this;omega)) ?_
      rintro⟨az,rfl⟩
      refine Le 70 (y11 y5z U U k.1 k.2 y3g)<|Le 71 (yX (cs:=(e37<|nth a.1.fP c)) y6C U U<|y3Q .h5<|y2y (enc:=e37) (l:=a.1.fP) (i:=c) (sz:=4) (fun _=>U) k.1 k.2) (Lg 13 (yu (cs:=[(vi 0),(vi 0),(vi 0),(vi 0)]) y7G U) fun aA _=>Lk U U (yl y7X U U U .here U U U)<|WL.nil<|Lb<|WC.b<|Ld<|Le 72 (ya y6D U U)<|Le 73 (yc yq U<|yh .h1 U)<|Le 74 (ya y6D U U)<|Le 75 (yc yq U<|yh .here U)<|La U<|La U<|Lu false 5 77 (B:=(decide (((nth b.1.fP c).fNode)≠((nth a.1.fP c).fNode)))||(decide (((nth b.1.fP c).fQ)≠((nth a.1.fP c).fQ)))) U U U U U U (fun h=>(y5V h).symm) (fun _ ad=>?_) ?_)
      ·skip
       refine Le 78 (ya y7Y U U)<|Le 79 (yc yq U<|yh .h1 U)<|Le 80 (ya y7Y U U)<|Le 81 (yc yq U<|yh .here U)<|La U<|La U ?_
       exact Lv (y5W ad) U U .all
      refine La U<|Lu false 5 84 (B:=((decide (((nth b.1.fP c).fNode)≠((nth a.1.fP c).fNode)))||(decide (((nth b.1.fP c).fQ)≠((nth a.1.fP c).fQ))))||(decide (((nth b.1.fP c).fDelay)>((nth a.1.fP c).fDelay)))) U U U U U U (fun h=>(y5V h).symm) (fun _ ae=>?_) ?_
      ·skip
       refine Le 85 (ya y9y U U)<|Le 86 (yc yq U<|yh .h1 U)<|Le 87 (ya y9y U U)<|Le 88 (yc yq U<|yh .here U)<|La U<|La U ?_
       exact Lv (y5W ae) U U .all
      refine La U<|Lu false 5 91 (B:=(((decide (((nth b.1.fP c).fNode)≠((nth a.1.fP c).fNode)))||(decide (((nth b.1.fP c).fQ)≠((nth a.1.fP c).fQ))))||(decide (((nth b.1.fP c).fDelay)>((nth a.1.fP c).fDelay))))||(decide (((nth b.1.fP c).fT)>((nth a.1.fP c).fT)))) U U U U U U (fun h=>(y5V h).symm) (fun _ af=>?_) ?_
      ·skip
       refine Le 92 (ya yaI U U)<|Le 93 (yc yq U<|yh .h1 U)<|Le 94 (ya yaI U U)<|Le 95 (yc yq U<|yh .here U)<|La U<|La U ?_
       exact Lv (y5W af) U U .all
      refine WL.nil<|Lb<|WC.cond U (fun N=>?_)<|fun N=>?_
      ·replace h:=yr h N
       refine WC.b<|Ld<|La U<|WL.nil<|Lb<|WC.ret<|Lt<|Lj<|Lj<|Lt<|Lj ?_
       obtain rfl:=oJ h
       refine Lh results4 (.tmp U .nil)<|fun w hw=>?_
       exact⟨yD U,hw.sub .nil⟩
      ·replace h:=ys h N
       refine WC.skip<|Lq<|Lb<|Ld<|La U<|La U<|WL.nil ?_
       exact WX.round ⟨au,(i64 (c+1))⟩ h (Nat.lt_succ_self _) (.r5 U U U U U)<|.s6 .h2 .h2 .h2 .h2 .h2 .h2
     ·replace h:=ys h M
      refine WC.exit<|Lm<|Lm<|Lw ?_
      exact Ln () h (.r2 U U)<|.s6 .h1 .here .here .here .here .here
    ·rintro  h
     replace h:=ab.symm.trans h
     obtain⟨R,ag,h⟩:=y2m h
     refine L8 ((R=some r)) ([]) ([]) ?_ ?_
     ·skip
      refine WC.b<|Ld<|Le 99 (ya y6E U U)<|Le 100 (yc y7Z U<|yh .here U)<|Le 101 (yJ underlying38 U)<|La U<|WL.nil<|Lb<|WC.block<|L9 (fun(m:Nat) (d:Int)=>(y2s b a R m d=some r)) (fun m d=>[(9,(vp f)),(100,A),(101,(vi F)),(102,(vi d))]) (fun m d=>[row A 53 3 (b.1.fEnds.flatMap e53),stb f 40 [D,C],row D 37 4 (a.1.fP.flatMap e37),row C 53 3 (a.1.fEnds.flatMap e53)]) (fun m d=>m) ⟨yy,0⟩ h (.r4 U U U U) (.s4 .h2 .h2 .h2 .h2) ?_
      rintro(_|av) d h;·cases h
      rw[y2s] at h
      refine WC.b<|Ld<|La U<|WL.nil<|Lb<|WC.b<|WC.cond U (fun O=>?_)<|fun O=>?_
      ·replace h:=yr h O
       refine WC.skip<|Lb<|WC.b<|WC.block<|WC.b ?_
       obtain⟨n,h⟩:=yo h
       refine Ld<|La U<|Kg (fun w hw=>Hp.y2c .here hw (by intro hz';have:=n;rw[hz'] at this;omega)) ?_
       rintro⟨aB,rfl⟩
       refine Le 105 (y11 y9V U U n.1 n.2 y3g)<|Le 106 (yX (cs:=(e53<|nth b.1.fEnds d)) ye4 U U<|y3Q .here<|y2y (enc:=e53) (l:=b.1.fEnds) (i:=d) (sz:=3) (fun _=>U) n.1 n.2) (Lg 15 (yu (cs:=[(vi 0),(vi 0),(vi 0)]) yhF U) fun aC _=>La U<|Lk U U (yl yj2 U U U .here U U U)<|WL.nil<|Lb<|WC.b ?_)
       obtain⟨o,h⟩:=yo h
       refine Ld<|Le 107 (ya y6E U U)<|Le 108 (yc y7Z U<|yh .h2 U)<|La U<|Kg (fun w hw=>Hp.y2c .h4 hw (by intro hz';have:=o;rw[hz'] at this;omega)) ?_
       rintro⟨aD,rfl⟩
       refine Le 110 (y11 y9V U U o.1 o.2 y3g)<|Le 111 (yX (cs:=(e53<|nth a.1.fEnds d)) ye4 U U<|y3Q .h4<|y2y (enc:=e53) (l:=a.1.fEnds) (i:=d) (sz:=3) (fun _=>U) o.1 o.2) (Lg 16 (yu (cs:=[(vi 0),(vi 0),(vi 0)]) yhF U) fun aE _=>Lk U U (yl yj2 U U U .here U U U)<|WL.nil<|Lb<|WC.b<|Ld<|Le 112 (ya yj3 U U)<|Le 113 (yc yq U<|yh .h1 U)<|Le 114 (ya yj3 U U)<|Le 115 (yc yq U<|yh .here U)<|La U<|La U<|Lu false 5 117 (B:=(decide (((nth b.1.fEnds d).fVL)≠((nth a.1.fEnds d).fVL)))||(decide (((nth b.1.fEnds d).fNode)≠((nth a.1.fEnds d).fNode)))) U U U U U U (fun h=>(y5V h).symm) (fun _ ah=>?_) ?_)
       ·skip
        refine Le 118 (ya ye2 U U)<|Le 119 (yc yq U<|yh .h1 U)<|Le 120 (ya ye2 U U)<|Le 121 (yc yq U<|yh .here U)<|La U<|La U ?_
        exact Lv (y5W ah) U U .all
       refine La U<|Lu false 5 124 (B:=((decide (((nth b.1.fEnds d).fVL)≠((nth a.1.fEnds d).fVL)))||(decide (((nth b.1.fEnds d).fNode)≠((nth a.1.fEnds d).fNode))))||(decide (((nth b.1.fEnds d).fDelay)>((nth a.1.fEnds d).fDelay)))) U U U U U U (fun h=>(y5V h).symm) (fun _ ai=>?_) ?_
       ·skip
        refine Le 125 (ya yj4 U U)<|Le 126 (yc yq U<|yh .h1 U)<|Le 127 (ya yj4 U U)<|Le 128 (yc yq U<|yh .here U)<|La U<|La U ?_
        exact Lv (y5W ai) U U .all
       refine WL.nil<|Lb<|WC.cond U (fun P=>?_)<|fun P=>?_
       ·replace h:=yr h P
        refine WC.b<|Ld<|La U<|WL.nil<|Lb<|WC.ret<|Lt<|Lj<|Lj<|Lt<|Lj ?_
        obtain rfl:=oJ h
        refine Lh results4 (.tmp U .nil)<|fun w hw=>?_
        exact⟨yD U,hw.sub .nil⟩
       ·replace h:=ys h P
        refine WC.skip<|Lq<|Lb<|Ld<|La U<|La U<|WL.nil ?_
        exact WX.round ⟨av,(i64 (d+1))⟩ h (Nat.lt_succ_self _) (.r4 U U U U)<|.s4 .h2 .h2 .h2 .h2
      ·replace h:=ys h O
       refine WC.exit<|Lm<|Lm<|Lw ?_
       exact Ln () h .nil .nil
     ·rintro  h
      replace h:=ag.symm.trans h
      refine WC.b ?_
      obtain⟨aI,aj,h⟩:=za h
      refine Ld<|Ll 132 (zb call11 .nil) .nil (cc hz .nil fun w pz ho=>yah aj w pz )<|La U<|WL.nil<|Lb<|WC.ret ?_
      obtain rfl:=oJ h
      refine Lh results4 (.tmp U .nil)<|fun w hw=>?_
      exact⟨yD U,hw.sub .nil⟩
end Go.Proofs.YthjnhebofpebpaaGreat

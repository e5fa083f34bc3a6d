/- A part of this claim's proof: models of functions, walks, plain laws. No conditions. -/
import Derived.Test.YthjnhebofpebpaaGreatW36a
set_option linter.all false
namespace Go.Proofs.YthjnhebofpebpaaGreat
open Go Go.RowKit Sep Tryz
variable {f u:z2}{g:List (z8×Int)}{m C E F J L N P X:Option Addr}{n p z H K M O Q Y:Nat}{k:zs}{j:z8}{q v I:Addr}{s:List (List ze)}{t D:Int}{l:ze}{y A:List ze}
set_option maxRecDepth 30000
set_option maxHeartbeats 4000000
def y3Y(b:List (List ze))(c:Int)(f:(List z8)->Option (List z8)):Nat->(List z8)->Int->Option (List z8)
 | 0,_,_=>none
 | h+1,d,a=>if decide (a<((nth b c).length:Int)) then jp1 (fun(i:List z8)=>y3Y b c f h i (i64 (a+1))) fun g=>chk ((0:Int)<=a/\a<((nth b c).length:Int)) ((y4M (⟨((nth (nth b c) a).fNode),((nth (nth b c) a).fNext),((nth (nth b c) a).fQ)⟩:ze)).bind fun j=>(y1F d j).bind fun k=>if !k then(y4M (⟨((nth (nth b c) a).fNode),((nth (nth b c) a).fNext),((nth (nth b c) a).fQ)⟩:ze)).bind fun e=>chk (((d++([e]:List z8)).length:Int)*16<=140737488355328/\((d++([e]:List z8)).length:Int)<=4611686018427387904) (g (d++([e]:List z8))) else g d) else f d
def y3Z(b:List (List ze))(c:(List z8)->Option (List z8)):Nat->(List z8)->Int->Option (List z8)
 | 0,_,_=>none
 | e+1,d,a=>if decide (a<(b.length:Int)) then jp1 (fun(f:List z8)=>y3Z b c e f (i64 (a+1))) fun g=>chk ((0:Int)<=a/\a<(b.length:Int)) (jp1 (fun(h:List z8)=>g h) fun i=>y3Y b a i yy d 0) else c d
def y6G(a:List (List ze)):Option (List z8):=
 jp1 (fun(b:List z8)=>(y1G b (fun(y0:z8) (y1:z8)=>y1x y0 y1)).bind fun c=>some c) fun d=>y3Z a d yy ([]:List z8) 0
theorem ygi{Z:Zp}{r:List z8}(h:y6G s=some r)(w₀:World)(hz:PZ [] w₀ Z)(T:ZS Z 1 (p58 Z) m n s):
  Calls Tryz.prog 73 #[(vs m s.length n)] w₀ fun e w'=>∃ P:Option Addr,∃ Q:Nat,e = .returned (vs P r.length Q)/\True/\Hp [] w₀ w' [row (vs P r.length Q) 121 2 (r.flatMap yE)]:=by
 unfold y6G at h
 refine L5 func73 ntmps73 ?_
 refine WC.b<|Ld<|La U<|WL.nil<|Lb<|WC.b<|Ld<|La U<|WL.nil<|Lb ?_
 obtain⟨R,V,h⟩:=y13 h
 refine Kb (fun(j:List z8) (v:Option Addr) (y:Nat)=>(R j=some r)) (fun j v y=>[(3,(vs v j.length y))]) (fun j v y=>[row (vs v j.length y) 121 2 (j.flatMap yE)]) ?_ ?_
 ·skip
  let A:Value:=(vs m s.length n);let C:Value:=(vi (s.length:Int));refine WC.b (Ld (La U (Le 9 (yJ underlying32 U) (La U (WL.nil (Lb (WC.block (WC.nilRow 121 2 (WC.y7B (fun(J:Nat) (c:List z8) (a:Int) (k:Option Addr) (o:Nat)=>(y3Z s R J c a=some r)) (fun J c a k o=>[(3,(vs k c.length o)),(8,A),(9,C),(10,(vi a))]) (fun J c a k o=>[row (vs k c.length o) 121 2 (c.flatMap yE)]) (fun J c a k o=>J) ⟨yy,([]:List z8),0,none,0⟩ h (.r4 U U U U) (.cons .here .nil) ?_)))))))))
  rintro(_|W) c a k o h;·cases h
  rw[y3Z] at h
  refine WC.b<|Ld<|La U<|WL.nil<|Lb<|WC.b<|WC.cond U (fun L=>?_)<|fun L=>?_
  ·replace h:=yr h L
   refine WC.skip<|Lb ?_
   obtain⟨X,Y,h⟩:=y13 h
   refine Kb (fun(d:List z8) (z:Option Addr) (B:Nat)=>(X d=some r)) (fun d z B=>[(3,(vs z d.length B)),(8,A),(9,C),(10,(vi a))]) (fun d z B=>[row (vs z d.length B) 121 2 (d.flatMap yE)]) ?_ ?_
   ·skip
    refine WC.block<|WC.b ?_
    obtain⟨aa,h⟩:=yo h
    refine Ld<|L0 (dd:=12) U U (Z:=Z) (Pr:=(p58 Z)) y8Y U U T aa ?_
    rintro ax ay ab az ⟨ad,ae,rfl,af⟩
    refine Le 13 (yc y7g U<|y3x hz.pv ab U)<|La U<|WL.nil<|Lb<|WC.b<|Ld<|La U<|Le 15 (yJ underlying58 U)<|La U<|WL.nil<|Lb ?_
    obtain⟨S,ag,h⟩:=y13 h
    refine WC.mid3 (fun(f:List z8) (F:Option Addr) (G:Nat)=>(S f=some r)) (fun f F G=>[(3,(vs F f.length G)),(8,A),(9,C),(10,(vi a))]) (fun f F G=>[row (vs F f.length G) 121 2 (f.flatMap yE)]) ?_ ?_
    ·skip
     let D:Value:=(vs ad ((nth s a).length) ae);let E:=((nth s a).length:Int);refine WC.block (WC.y7B (fun(K:Nat) (b:List z8) (p:Int) (q:Option Addr) (t:Nat)=>(y3Y s a S K b p=some r)) (fun K b p q t=>[(3,(vs q b.length t)),(8,A),(9,C),(10,(vi a)),(14,D),(15,(vi E)),(16,(vi p))]) (fun K b p q t=>[row (vs q b.length t) 121 2 (b.flatMap yE)]) (fun K b p q t=>K) ⟨yy,c,0,k,o⟩ h (.r7 U U U U U U U) (.cons .here .nil) ?_)
     rintro(_|ah) b p q t h;·cases h
     rw[y3Y] at h
     refine WC.b<|Ld<|La U<|WL.nil<|Lb<|WC.b<|WC.cond U (fun M=>?_)<|fun M=>?_
     ·replace h:=yr h M
      refine WC.skip<|Lb ?_
      obtain⟨ai,aj,h⟩:=y13 h
      refine Kb (fun(g:List z8) (H:Option Addr) (I:Nat)=>(ai g=some r)) (fun g H I=>[(3,(vs H g.length I)),(8,A),(9,C),(10,(vi a)),(14,D),(15,(vi E)),(16,(vi p))]) (fun g H I=>[row (vs H g.length I) 121 2 (g.flatMap yE)]) ?_ ?_
      ·skip
       refine WC.block<|WC.b ?_
       obtain⟨ak,h⟩:=yo h
       refine Ld<|L0 (dd:=18) U U (Z:=Z) (Pr:=(fun r x=>r=e60 x)) y69 U U af ak ?_
       rintro aA aB al aC rfl
       refine Le 19 (yi y49 U (y2j hz.pv al) U) (Lg 7 (yu (cs:=[(vi 0),(vi 0),(vi 0)]) y6Y U) fun aD _=>Lk U U (yl y7h U U U .here U U U)<|WL.nil<|Lb<|WC.b ?_)
       obtain⟨aF,am,h⟩:=za h
       obtain⟨aG,an,h⟩:=za h
       refine Ld<|La U<|Le 21 (yi y49 U (yj .here) U)<|Ll 22 (zb call60<|.cons U .nil) .nil (cc hz .nil fun w pz ho=>y6d am w pz )<|Ll 23 (zb call114<|.r2 U U) .nil (ccl hz .nil (.cons .h1 .nil) fun w pz ho la=>y6P an w pz<|ZA.row (la _ (.head _) _) (RR.flat (enc:=yE) (fun _=>U) _) ⟨w,pz.1⟩)<|La U<|WL.nil<|Lb<|WC.cond U (fun N=>?_)<|fun N=>?_
       ·replace h:=yr h N
        obtain⟨O,ao,h⟩:=za h
        obtain⟨ap,h⟩:=yo h
        refine Ld<|La U<|Le 26 (yi y49 U (yj .here) U)<|Ll 27 (zb call60<|.cons U .nil) .nil (cc hz .nil fun w pz ho=>y6d ao w pz ) (Lg 28 (yT (cs:=([O]:List z8).flatMap yE) z75 (Lo (l:=[.tmp 27]) (.cons U .nil) [0]) (fun _=>by kernel_rfl) U (by unfold maxLen;omega)) fun aE _=>WL.fA 29 (y4W (enc:=yE) (l1:=b) (l2:=([O]:List z8)) z75 U U .h2 (fun _=>U) U U (y3q .here) (y5i ybN _) ap) ?_)
        rintro⟨aq,ar⟩ _
        refine La U<|WL.nil<|Lq ?_
        exact Ln ⟨(b++([O]:List z8)),aq,ar⟩ h (.r7 U U U U U U U)<|.cons .here .nil
       ·replace h:=ys h N
        refine WC.skip<|Lq ?_
        exact Ln ⟨b,q,t⟩ h (.r7 U U U U U U U)<|.cons .h1 .nil
      ·rintro g H I h
       replace h:=(aj g).symm.trans h
       refine Ld<|La U<|La U<|WL.nil ?_
       exact WX.round ⟨ah,g,(i64 (p+1)),H,I⟩ h (Nat.lt_succ_self _) (.r7 U U U U U U U)<|.cons .here .nil
     ·replace h:=ys h M
      refine WC.exit<|Lm<|Lm<|Lw ?_
      exact Ln ⟨b,q,t⟩ h (.r4 U U U U)<|.cons .here .nil
    ·rintro f F G h
     replace h:=(ag f).symm.trans h
     refine Lq ?_
     exact Ln ⟨f,F,G⟩ h (.r4 U U U U)<|.cons .here .nil
   ·rintro d z B h
    replace h:=(Y d).symm.trans h
    refine Ld<|La U<|La U<|WL.nil ?_
    exact WX.round ⟨W,d,(i64 (a+1)),z,B⟩ h (Nat.lt_succ_self _) (.r4 U U U U)<|.cons .here .nil
  ·replace h:=ys h L
   refine WC.exit<|Lm<|Lm<|Lw ?_
   exact Ln ⟨c,k,o⟩ h (.cons U .nil)<|.cons .here .nil
 ·rintro j v y h
  replace h:=(V j).symm.trans h
  refine WC.b ?_
  obtain⟨au,av,h⟩:=za h
  refine Ld<|La U<|WL.y5c (dd:=33) U U U (zb call115<|.r2 U U) (.cons .here .nil) (cc hz (.cons .here .nil) fun w pz ho=>y6Q _ _ _ (zhF:=45) (zp8:=[]) _ (zhE:=(fun(y0:z8) (y1:z8)=>y1x y0 y1)) _ av w pz call45 (fun w' hz' y0 y1  r  hr=>y90 hr w' hz' ) ho) ?_
  rintro  aw
  refine Kh (i:=3) U (u:=(vs v au.length y)) (yac aw.symm)<|WL.nil<|Lb<|WC.b<|Ld<|La U<|La U<|WL.nil<|Lb<|WC.ret ?_
  obtain rfl:=oJ h
  refine Lh results73 (.tmp U .nil)<|fun w hw=>?_
  exact⟨v,y,yD U,trivial,hw.sub (.cons .here .nil)⟩
def y6H(a:ze)(b:Int):Option Bool:=
 some (decide (a.fNext=b))
theorem ygj{Z:Zp}{r:Bool}(h:y6H l t=some r)(w₀:World)(hz:PZ [] w₀ Z)(a:ZC Z q [(vi t)]):
  Calls Tryz.prog 116 #[(.agg #[(vi l.fNode),(vi l.fNext),(vi l.fQ)]),(vq q)] w₀ fun e w'=>e = .returned (.bool r)/\Hp [] w₀ w' []:=by
 unfold y6H at h
 refine Lz func116 ntmps116 ?_
 refine WC.b<|Ld (Lg 2 (yI (cs:=[(vi l.fNode),(vi l.fNext),(vi l.fQ)]) U U) fun b _=>La U<|WL.nil<|Lb<|WC.b<|Ld<|Le 4 (ya y5I U U)<|Le 5 (yc yq U<|yh .here U)<|Le 6 (yc yq U<|y3x hz.pv a U)<|La U<|La U<|WL.nil<|Lb<|WC.ret ?_)
 obtain rfl:=oJ h
 refine Lh results116 (.tmp U .nil)<|fun w hw=>?_
 exact⟨yD U,hw.sub .nil⟩
def y12(b:List ze)(z7a:ze->Option Bool)(c:Option Int):Nat->Int->Option Int
 | 0,_=>none
 | d+1,a=>if decide (a<(b.length:Int)) then chk ((0:Int)<=a/\a<(b.length:Int)) ((z7a (⟨((nth b a).fNode),((nth b a).fNext),((nth b a).fQ)⟩:ze)).bind fun e=>if e then some a else y12 b z7a c d (i64 (a+1))) else c
def yZ(a:List ze)(z7a:ze->Option Bool):Option Int:=
 jp0 (some (-1)) fun b=>y12 a z7a b yy 0
theorem y2Q(Z:Zp)(d:Option Addr)(g:Nat)(z9F:FuncId)(zdk:List Value)(b:List ze)(z7a:ze->Option Bool)(r:Int)(h:yZ b z7a=some r)(w₀:World)(hz:PZ [] w₀ Z)(m:ZS Z 3 (fun r x=>r=e60 x) d g b)(n:∀ args w,(callFunc z9F args).run Tryz.prog w = .ok (.enter z9F args) w)(o:∀ w:World,PZ [] w Z->∀(x0:ze) (r:Bool),z7a x0=some r->Calls Tryz.prog z9F (([(.agg #[(vi x0.fNode),(vi x0.fNext),(vi x0.fQ)])]:List Value)++zdk).toArray w fun e w'=>e = .returned (.bool r)/\Hp [] w w' []):
  Calls Tryz.prog 94 #[(vs d b.length g),(.func (.func z9F) #[] (zdk).toArray)] w₀ fun e w'=>e = .returned (vi r)/\Hp [] w₀ w' []:=by
 unfold yZ at h
 refine Lz func94 ntmps94 ?_
 refine WC.b<|Ld<|La U<|WL.nil<|Lb ?_
 obtain⟨k,p,h⟩:=y2m h
 refine L8 ((k=some r)) ([]) ([]) ?_ ?_
 ·skip
  refine WC.b<|Ld<|La U<|Le 7 (yJ underlying58 U)<|La U<|WL.nil<|Lb<|WC.block<|L9 (fun(c:Nat) (a:Int)=>(y12 b z7a k c a=some r)) (fun c a=>[(0,(vs d b.length g)),(1,(.func (.func z9F) #[] (zdk).toArray)),(7,(vi (b.length:Int))),(8,(vi a))]) (fun c a=>[]) (fun c a=>c) ⟨yy,0⟩ h (.r4 U U U U) .nil ?_
  rintro(_|q) a h;·cases h
  rw[y12] at h
  refine WC.b<|Ld<|La U<|WL.nil<|Lb<|WC.b<|WC.cond U (fun i=>?_)<|fun i=>?_
  ·replace h:=yr h i
   refine WC.skip<|Lb<|WC.b<|WC.block<|WC.b<|Ld<|La U<|La U<|WL.nil<|Lb<|WC.b ?_
   obtain⟨s,h⟩:=yo h
   obtain⟨t,u,h⟩:=za h
   refine Ld<|La U<|La U<|La U<|L0 (dd:=14) U U (Z:=Z) (Pr:=(fun r x=>r=e60 x)) y69 U U m s ?_
   rintro y z v A rfl
   refine Le 15 (yi y49 U (y2j hz.pv v) U)<|Ll 16 (y2M (l:=[.tmp 15]) (f:=z9F) (caps:=zdk) n U<|.cons U .nil) .nil (fun w hw=>o w (hz.now hw) (⟨((nth b a).fNode),((nth b a).fNext),((nth b a).fQ)⟩:ze) t  u)<|WL.nil<|Lb<|WC.cond U (fun j=>?_)<|fun j=>?_
   ·replace h:=yr h j
    refine WC.b<|Ld<|La U<|La U<|WL.nil<|Lb<|WC.ret<|Lt<|Lj<|Lj<|Lt<|Lj ?_
    obtain rfl:=oJ h
    refine Lh results94 (.tmp U .nil)<|fun w hw=>?_
    exact⟨yD U,hw.sub .nil⟩
   ·replace h:=ys h j
    refine WC.skip<|Lq<|Lb<|Ld<|La U<|La U<|WL.nil ?_
    exact WX.round ⟨q,(i64 (a+1))⟩ h (Nat.lt_succ_self _) (.r4 U U U U) .nil
  ·replace h:=ys h i
   refine WC.exit<|Lm<|Lm<|Lw ?_
   exact Ln () h .nil .nil
 ·rintro  h
  replace h:=p.symm.trans h
  refine WC.b<|Ld<|La U<|WL.nil<|Lb<|WC.ret ?_
  obtain rfl:=oJ h
  refine Lh results94 (.tmp U .nil)<|fun w hw=>?_
  exact⟨yD U,hw.sub .nil⟩
def y5M(b:List ze)(c:Int):Option (ze×Bool):=
 (yZ b (fun(y0:ze)=>y6H y0 c)).bind fun a=>if decide (a<0) then some ((⟨0,0,0⟩:ze),false) else chk ((0:Int)<=a/\a<(b.length:Int)) (some ((⟨((nth b a).fNode),((nth b a).fNext),((nth b a).fQ)⟩:ze),true))
theorem yaT{Z:Zp}{r:ze×Bool}(h:y5M y t=some r)(w₀:World)(hz:PZ [] w₀ Z)(b:ZS Z 3 (fun r x=>r=e60 x) m n y):
  Calls Tryz.prog 77 #[(vs m y.length n),(vi t)] w₀ fun e w'=>e = .returned (.tuple #[(.agg #[(vi r.1.fNode),(vi r.1.fNext),(vi r.1.fQ)]),(.bool r.2)])/\Hp [] w₀ w' []:=by
 unfold y5M at h
 refine Lz func77 ntmps77 ?_
 refine WC.b<|Ld (Lg 3 (yI (cs:=[(vi t)]) U U) fun c _=>Lg 4 (yu (cs:=[(vi 0),(vi 0),(vi 0)]) y6Y U) fun i _=>La U<|WL.nil<|Lb<|WC.b ?_)
 obtain⟨p,d,h⟩:=za h
 refine Ld<|La U<|Le 8 (y15<|L2 (l:=[.tmp 3])<|.cons U .nil)<|Ll 9 (zb call94<|.r2 U U) .nil (ccl hz .nil (.cons .h1 .nil) fun w pz ho la=>y2Q _ _ _ (z9F:=116) (zdk:=[(vp c)]) _ (z7a:=(fun(y0:ze)=>y6H y0 t)) _ d w pz (b.mono<|Zle.left _ _) call116<|fun w' hz' y0  r  hr=>ygj hr w' hz'<|(la _ (.head _) _).stb)<|La U<|WL.nil<|Lb<|WC.b<|WC.b<|Ld<|La U<|La U<|WL.nil<|Lb<|WC.cond U (fun a=>?_)<|fun a=>?_
 ·replace h:=yr h a
  refine WC.b<|Ld<|Le 12 (yN (v:=(.agg #[(vi 0),(vi 0),(vi 0)])) (Lo (l:=[]) .nil []) (fun _=>by kernel_rfl))<|Lk U U (yl y7h U U U .here U U U)<|La U<|WL.nil<|Lb<|WC.ret<|Lj ?_
  obtain rfl:=oJ h
  refine Lh results77 (.agg U y49 U (yj .here)<|.tmp U .nil)<|fun w hw=>?_
  exact⟨y1T U U,hw.sub .nil⟩
 ·replace h:=ys h a
  refine WC.skip<|Lb<|WC.b ?_
  obtain⟨f,h⟩:=yo h
  refine Ld<|La U<|La U<|L0 (dd:=15) U U (Z:=Z) (Pr:=(fun r x=>r=e60 x)) y69 U U b f ?_
  rintro j k g o rfl
  refine Le 16 (yi y49 U (y2j hz.pv g) U)<|Lk U U (yl y7h U U U .here U U U)<|La U<|WL.nil<|Lb<|WC.ret ?_
  obtain rfl:=oJ h
  refine Lh results77 (.agg U y49 U (yj .here)<|.tmp U .nil)<|fun w hw=>?_
  exact⟨y1T U U,hw.sub .nil⟩
def y5A(a:ze)(c:List ze)(d:z8)(e:List (z8×Int)):Option Bool:=
 (y5M c a.fNode).bind fun b=>(y4M a).bind fun f=>(if (decide (f=d))&&b.2 then(y4M b.1).bind fun g=>some (decide ((yd e g 0)=0)) else some false).bind fun h=>some h
theorem yeu{Z:Zp}{r:Bool}(h:y5A l y j g=some r)(w₀:World)(hz:PZ (fps [yn p (fun x=>Value.agg (yE x).toArray) (Value.int .i64) g]) w₀ Z)(N:ZS Z 3 (fun r x=>r=e60 x) m n y)(O:ZC Z q [(vs m y.length n)])(P:ZC Z v [(vi j.fNode),(vi j.fQ)])(Q:ZC Z I [(.map (some p))])(hown:Hp (fps [yn p (fun x=>Value.agg (yE x).toArray) (Value.int .i64) g]) w₀ w₀ [yn p (fun x=>Value.agg (yE x).toArray) (Value.int .i64) g]):
  Calls Tryz.prog 76 #[(.agg #[(vi l.fNode),(vi l.fNext),(vi l.fQ)]),(vq q),(vq v),(vq I)] w₀ fun e w'=>e = .returned (.bool r)/\Hp (fps [yn p (fun x=>Value.agg (yE x).toArray) (Value.int .i64) g]) w₀ w' [yn p (fun x=>Value.agg (yE x).toArray) (Value.int .i64) g]:=by
 unfold y5A at h
 refine Calls.oh4 func76 ntmps76 hown ?_
 refine WC.b<|Ld (Lg 4 (yI (cs:=[(vi l.fNode),(vi l.fNext),(vi l.fQ)]) U U) fun o _=>La U<|WL.nil<|Lb<|WC.b ?_)
 obtain⟨c,R,h⟩:=za h
 refine Ld<|Le 9 (yc y7g U<|y3x hz.pv O U)<|Le 10 (ya y4a U U)<|Le 11 (yc yq U<|yh .here U)<|Ll 12 (zb call77<|.r2 U U) .nil (cc hz .nil fun w pz ho=>yaT R w pz N)<|La U<|La U<|La U (Lg 6 (yu (cs:=[(vi 0),(vi 0),(vi 0)]) y6Y U) fun J _=>Lk U U (yl y7h U U U .here U U U)<|La U<|WL.nil<|Lb<|WC.b ?_)
 obtain⟨d,S,h⟩:=za h
 obtain⟨T,K,h⟩:=za h
 let A:Value:=(.agg #[(vi c.1.fNode),(vi c.1.fNext),(vi c.1.fQ)]);let C:Value:=(.agg #[(vi l.fNode),(vi l.fNext),(vi l.fQ)]);let D:Value:=(.bool (decide (d=j)));let E:Value:=(.bool ((decide (d=j))&&c.2));let F:Value:=(.agg #[(vi d.fNode),(vi d.fQ)]);let G:Value:=(.agg #[(vi j.fNode),(vi j.fQ)]);let H:Value:=(vs m y.length n);refine Lx (fun i=>[].contains i) [] U (Li 0 15 U (yi y49 U (yj .h1) U) (L4 1 16 U (zb call60 (.cons U .nil)) (cc hz .nil fun w pz ho=>y6d S w pz ) (Li 2 17 U (yi z5o U (y2j hz.pv P) U) (Lf 3 18 U (fun _=>y9l (enc:=yE) (a:=d) (b:=j) zoA U U) (Lf 4 19 U (fun _=>q_m U) (Ke (fuel':=8) [(0,C),(1,(vq q)),(2,(vq v)),(3,(vq I)),(4,(vp o)),(5,(.bool false)),(9,H),(10,(vp o)),(11,(vi l.fNode)),(12,(.tuple #[A,(.bool c.2)])),(8,(.tuple #[A,(.bool c.2)])),(13,A),(14,(.bool c.2)),(6,(vp J)),(7,(.bool c.2)),(15,C),(16,F),(17,G),(18,D),(19,D),(21,E)] (y2e 15 (dn 7)) ?_ (fun L=>?_)))))))
 rotate_left
 ·rcases Bool.eq_false_or_eq_true (decide (d=j)) with hb' | hb'
  ·have s:=hb';clear hb'
   refine L3 (i:=19) U s<|Lf 5 20 U (fun _=>q_m U)<|Lf 6 21 U (fun _=>y4o U U)<|Ly (.a3) ?_ L
   exact .r21 U U U U U U U U U U U U U U U U U U U (zO<|Eq.symm s)<|zO<|y4g s
  ·have t:=hb';clear hb'
   refine L3 (i:=19) U t<|Lp 5 20 U<|Lf 6 21 U (fun _=>y4p U U)<|Ly (.a3) ?_ L
   exact .r21 U U U U U U U U U U U U U U U U U U U (zO<|Eq.symm t)<|zO<|y4f t
 refine Lf 7 22 U (fun _=>q_m U)<|Ke (fuel':=1) [(0,C),(1,(vq q)),(2,(vq v)),(3,(vq I)),(4,(vp o)),(5,(.bool false)),(9,H),(10,(vp o)),(11,(vi l.fNode)),(12,(.tuple #[A,(.bool c.2)])),(8,(.tuple #[A,(.bool c.2)])),(13,A),(14,(.bool c.2)),(6,(vp J)),(7,(.bool c.2)),(15,C),(16,F),(17,G),(18,D),(19,D),(21,E),(22,E),(28,(.bool T))] (y2e 15 (dn 14)) ?_<|fun M=>?_
 rotate_left
 ·rcases Bool.eq_false_or_eq_true ((decide (d=j))&&c.2) with hb' | hb'
  ·have u:=hb';clear hb'
   have f:=yr K u
   obtain⟨V,W,f⟩:=za f
   replace f:=oJ f
   refine L3 (i:=22) U u<|Li 8 23 U (yc zl6 U<|y3x hz.pv Q U)<|Li 9 24 U (yi y49 U (yj .here) U)<|L4 10 25 U (zb call60<|.cons U .nil) (cc hz .nil fun w pz ho=>y6d W w pz )<|Li 11 26 U (y2V (k:=V) (dflt:=(0:Int)) zd9 underlying117 y2K U U U .h2)<|Lf 12 27 U (fun _=>ycd U U)<|Lf 13 28 U (fun _=>y4o U U)<|Ly (.a3) ?_ M
   exact .r23 U U U U U U U U U U U U U U U U U U U U U (zO<|Eq.symm u)<|zO f
  ·have z:=hb';clear hb'
   have B:=ys K z
   replace B:=oJ B
   refine L3 (i:=22) U z<|Lp 8 23 U<|Lp 9 24 U<|Lp 10 25 U<|Lp 11 26 U<|Lp 12 27 U<|Lf 13 28 U (fun _=>y4p U U)<|Ly (.a3) ?_ M
   exact .r23 U U U U U U U U U U U U U U U U U U U U U (zO<|Eq.symm z)<|zO B
 refine Lf 14 5 U (fun _=>q_z U)<|WD.done (by kernel_rfl)<|Lb<|WC.ret ?_
 obtain rfl:=oJ h
 refine Lh results76 (.tmp U .nil)<|fun w hw=>?_
 exact⟨yD U,hw.sub (.cons .h2 .nil)⟩
def y10(b:List ze)(c:List ze)(d:z8)(e:List (z8×Int))(f:Option Int):Nat->Int->Option Int
 | 0,_=>none
 | g+1,a=>if decide (a<(b.length:Int)) then chk ((0:Int)<=a/\a<(b.length:Int)) ((y5A (⟨((nth b a).fNode),((nth b a).fNext),((nth b a).fQ)⟩:ze) c d e).bind fun h=>if h then some a else y10 b c d e f g (i64 (a+1))) else f
def y2D(a:List ze)(b:List ze)(c:z8)(d:List (z8×Int)):Option Int:=
 jp0 (some (-1)) fun e=>y10 a b c d e yy 0
theorem y7v{Z:Zp}{r:Int}(h:y2D y A j g=some r)(w₀:World)(hz:PZ (fps [yn z (fun x=>Value.agg (yE x).toArray) (Value.int .i64) g]) w₀ Z)(i:ZS Z 3 (fun r x=>r=e60 x) m n y)(k:ZS Z 3 (fun r x=>r=e60 x) C p A)(o:ZC Z q [(vs C A.length p)])(s:ZC Z v [(vi j.fNode),(vi j.fQ)])(t:ZC Z I [(.map (some z))])(hown:Hp (fps [yn z (fun x=>Value.agg (yE x).toArray) (Value.int .i64) g]) w₀ w₀ [yn z (fun x=>Value.agg (yE x).toArray) (Value.int .i64) g]):
  Calls Tryz.prog 94 #[(vs m y.length n),(.func (.func 76) #[] #[(vq q),(vq v),(vq I)])] w₀ fun e w'=>e = .returned (vi r)/\Hp (fps [yn z (fun x=>Value.agg (yE x).toArray) (Value.int .i64) g]) w₀ w' [yn z (fun x=>Value.agg (yE x).toArray) (Value.int .i64) g]:=by
 unfold y2D at h
 refine Kf func94 ntmps94 hown ?_
 refine WC.b<|Ld<|La U<|WL.nil<|Lb ?_
 obtain⟨f,u,h⟩:=y2m h
 refine L8 ((f=some r)) ([]) ([yn z (fun x=>Value.agg (yE x).toArray) (Value.int .i64) g]) ?_ ?_
 ·skip
  refine WC.b<|Ld<|La U<|Le 7 (yJ underlying58 U)<|La U<|WL.nil<|Lb<|WC.block<|L9 (fun(b:Nat) (a:Int)=>(y10 y A j g f b a=some r)) (fun b a=>[(0,(vs m y.length n)),(1,(.func (.func 76) #[] #[(vq q),(vq v),(vq I)])),(7,(vi (y.length:Int))),(8,(vi a))]) (fun b a=>[yn z (fun x=>Value.agg (yE x).toArray) (Value.int .i64) g]) (fun b a=>b) ⟨yy,0⟩ h (.r4 U U U U) (.cons .here .nil) ?_
  rintro(_|B) a h;·cases h
  rw[y10] at h
  refine WC.b<|Ld<|La U<|WL.nil<|Lb<|WC.b<|WC.cond U (fun c=>?_)<|fun c=>?_
  ·replace h:=yr h c
   refine WC.skip<|Lb<|WC.b<|WC.block<|WC.b<|Ld<|La U<|La U<|WL.nil<|Lb<|WC.b ?_
   obtain⟨D,h⟩:=yo h
   obtain⟨K,E,h⟩:=za h
   refine Ld<|La U<|La U<|La U<|L0 (dd:=14) U U (Z:=Z) (Pr:=(fun r x=>r=e60 x)) y69 U U i D ?_
   rintro G H F J rfl
   refine Le 15 (yi y49 U (y2j hz.pv F) U)<|Ll 16 (y2M (l:=[.tmp 15]) call76 U<|.cons U .nil) (.cons .here .nil) (cc hz (.cons .here .nil) fun w pz ho=>yeu E w pz k o s t ho)<|WL.nil<|Lb<|WC.cond U (fun d=>?_)<|fun d=>?_
   ·replace h:=yr h d
    refine WC.b<|Ld<|La U<|La U<|WL.nil<|Lb<|WC.ret<|Lt<|Lj<|Lj<|Lt<|Lj ?_
    obtain rfl:=oJ h
    refine Lh results94 (.tmp U .nil)<|fun w hw=>?_
    exact⟨yD U,hw.sub (.cons .here .nil)⟩
   ·replace h:=ys h d
    refine WC.skip<|Lq<|Lb<|Ld<|La U<|La U<|WL.nil ?_
    exact WX.round ⟨B,(i64 (a+1))⟩ h (Nat.lt_succ_self _) (.r4 U U U U)<|.cons .here .nil
  ·replace h:=ys h c
   refine WC.exit<|Lm<|Lm<|Lw ?_
   exact Ln () h .nil<|.cons .here .nil
 ·rintro  h
  replace h:=u.symm.trans h
  refine WC.b<|Ld<|La U<|WL.nil<|Lb<|WC.ret ?_
  obtain rfl:=oJ h
  refine Lh results94 (.tmp U .nil)<|fun w hw=>?_
  exact⟨yD U,hw.sub (.cons .here .nil)⟩
def y2k(a:List ze)(b:List ze)(c:z8)(d:List (z8×Int)):Option Bool:=
 (y2D a b c d).bind fun e=>some (decide (e>=0))
theorem y78{Z:Zp}{r:Bool}(h:y2k y A j g=some r)(w₀:World)(hz:PZ (fps [yn z (fun x=>Value.agg (yE x).toArray) (Value.int .i64) g]) w₀ Z)(a:ZS Z 3 (fun r x=>r=e60 x) m n y)(b:ZS Z 3 (fun r x=>r=e60 x) C p A)(c:ZC Z q [(vs C A.length p)])(d:ZC Z v [(vi j.fNode),(vi j.fQ)])(f:ZC Z I [(.map (some z))])(hown:Hp (fps [yn z (fun x=>Value.agg (yE x).toArray) (Value.int .i64) g]) w₀ w₀ [yn z (fun x=>Value.agg (yE x).toArray) (Value.int .i64) g]):
  Calls Tryz.prog 75 #[(vs m y.length n),(.func (.func 76) #[] #[(vq q),(vq v),(vq I)])] w₀ fun e w'=>e = .returned (.bool r)/\Hp (fps [yn z (fun x=>Value.agg (yE x).toArray) (Value.int .i64) g]) w₀ w' [yn z (fun x=>Value.agg (yE x).toArray) (Value.int .i64) g]:=by
 unfold y2k at h
 refine Kf func75 ntmps75 hown ?_
 refine WC.b<|Ld<|La U<|WL.nil<|Lb<|WC.b ?_
 obtain⟨k,i,h⟩:=za h
 refine Ld<|La U<|La U<|Ll 7 (zb call94<|.r2 U U) (.cons .here .nil) (cc hz (.cons .here .nil) fun w pz ho=>y7v i w pz a b c d f ho)<|La U<|La U<|WL.nil<|Lb<|WC.ret ?_
 obtain rfl:=oJ h
 refine Lh results75 (.tmp U .nil)<|fun w hw=>?_
 exact⟨yD U,hw.sub (.cons .here .nil)⟩
def y6g(a:List ze)(b:z8)(c:List (z8×Int)):Option Bool:=
 (y2k a a b c).bind fun d=>some d
theorem yfz{Z:Zp}{r:Bool}(h:y6g y j g=some r)(w₀:World)(hz:PZ (fps [yn p (fun x=>Value.agg (yE x).toArray) (Value.int .i64) g]) w₀ Z)(a:ZS Z 3 (fun r x=>r=e60 x) m n y)(b:ZC Z q [(vi j.fNode),(vi j.fQ)])(c:ZC Z v [(.map (some p))])(hown:Hp (fps [yn p (fun x=>Value.agg (yE x).toArray) (Value.int .i64) g]) w₀ w₀ [yn p (fun x=>Value.agg (yE x).toArray) (Value.int .i64) g]):
  Calls Tryz.prog 74 #[(vs m y.length n),(vq q),(vq v)] w₀ fun e w'=>e = .returned (.bool r)/\Hp (fps [yn p (fun x=>Value.agg (yE x).toArray) (Value.int .i64) g]) w₀ w' [yn p (fun x=>Value.agg (yE x).toArray) (Value.int .i64) g]:=by
 unfold y6g at h
 refine Calls.oh3 func74 ntmps74 hown ?_
 refine WC.b<|Ld (Lg 3 (yI (cs:=[(vs m y.length n)]) U U) fun f _=>La U<|WL.nil<|Lb<|WC.b ?_)
 obtain⟨i,d,h⟩:=za h
 refine Ld<|Le 5 (yc y7g U<|yh .here U)<|Le 6 (y15<|L2 (l:=[.tmp 3,.tmp 1,.tmp 2])<|.r3 U U U)<|Ll 7 (zb call75<|.r2 U U) (.cons .h1 .nil) (ccl hz (.cons .h1 .nil) (.cons .here .nil) fun w pz ho la=>y78 d w pz (a.mono<|Zle.left _ _) (a.mono<|Zle.left _ _) ((la _ (.head _) _).stb) (b.mono<|Zle.left _ _) (c.mono<|Zle.left _ _) ho)<|La U<|WL.nil<|Lb<|WC.ret ?_
 obtain rfl:=oJ h
 refine Lh results74 (.tmp U .nil)<|fun w hw=>?_
 exact⟨yD U,hw.sub (.cons .here .nil)⟩
def yW(b:List (List ze))(c:z8)(d:List (z8×Int))(e:Option Int):Nat->Int->Option Int
 | 0,_=>none
 | f+1,a=>if decide (a<(b.length:Int)) then chk ((0:Int)<=a/\a<(b.length:Int)) ((y6g (nth b a) c d).bind fun g=>if g then some a else yW b c d e f (i64 (a+1))) else e
def y2l(a:List (List ze))(b:z8)(c:List (z8×Int)):Option Int:=
 jp0 (some (-1)) fun d=>yW a b c d yy 0
theorem y79{Z:Zp}{r:Int}(h:y2l s j g=some r)(w₀:World)(hz:PZ (fps [yn p (fun x=>Value.agg (yE x).toArray) (Value.int .i64) g]) w₀ Z)(i:ZS Z 1 (p58 Z) m n s)(k:ZC Z q [(vi j.fNode),(vi j.fQ)])(o:ZC Z v [(.map (some p))])(hown:Hp (fps [yn p (fun x=>Value.agg (yE x).toArray) (Value.int .i64) g]) w₀ w₀ [yn p (fun x=>Value.agg (yE x).toArray) (Value.int .i64) g]):
  Calls Tryz.prog 92 #[(vs m s.length n),(.func (.func 74) #[] #[(vq q),(vq v)])] w₀ fun e w'=>e = .returned (vi r)/\Hp (fps [yn p (fun x=>Value.agg (yE x).toArray) (Value.int .i64) g]) w₀ w' [yn p (fun x=>Value.agg (yE x).toArray) (Value.int .i64) g]:=by
 unfold y2l at h
 refine Kf func92 ntmps92 hown ?_
 refine WC.b<|Ld<|La U<|WL.nil<|Lb ?_
 obtain⟨f,t,h⟩:=y2m h
 refine L8 ((f=some r)) ([]) ([yn p (fun x=>Value.agg (yE x).toArray) (Value.int .i64) g]) ?_ ?_
 ·skip
  refine WC.b<|Ld<|La U<|Le 7 (yJ underlying32 U)<|La U<|WL.nil<|Lb<|WC.block<|L9 (fun(b:Nat) (a:Int)=>(yW s j g f b a=some r)) (fun b a=>[(0,(vs m s.length n)),(1,(.func (.func 74) #[] #[(vq q),(vq v)])),(7,(vi (s.length:Int))),(8,(vi a))]) (fun b a=>[yn p (fun x=>Value.agg (yE x).toArray) (Value.int .i64) g]) (fun b a=>b) ⟨yy,0⟩ h (.r4 U U U U) (.cons .here .nil) ?_
  rintro(_|u) a h;·cases h
  rw[yW] at h
  refine WC.b<|Ld<|La U<|WL.nil<|Lb<|WC.b<|WC.cond U (fun c=>?_)<|fun c=>?_
  ·replace h:=yr h c
   refine WC.skip<|Lb<|WC.b<|WC.block<|WC.b<|Ld<|La U<|La U<|WL.nil<|Lb<|WC.b ?_
   obtain⟨y,h⟩:=yo h
   obtain⟨H,z,h⟩:=za h
   refine Ld<|La U<|La U<|La U<|L0 (dd:=14) U U (Z:=Z) (Pr:=(p58 Z)) y8Y U U i y ?_
   rintro C D A E ⟨F,G,rfl,B⟩
   refine Le 15 (yc y7g U<|y3x hz.pv A U)<|Ll 16 (y2M (l:=[.tmp 15]) call74 U<|.cons U .nil) (.cons .here .nil) (cc hz (.cons .here .nil) fun w pz ho=>yfz z w pz B k o ho)<|WL.nil<|Lb<|WC.cond U (fun d=>?_)<|fun d=>?_
   ·replace h:=yr h d
    refine WC.b<|Ld<|La U<|La U<|WL.nil<|Lb<|WC.ret<|Lt<|Lj<|Lj<|Lt<|Lj ?_
    obtain rfl:=oJ h
    refine Lh results92 (.tmp U .nil)<|fun w hw=>?_
    exact⟨yD U,hw.sub (.cons .here .nil)⟩
   ·replace h:=ys h d
    refine WC.skip<|Lq<|Lb<|Ld<|La U<|La U<|WL.nil ?_
    exact WX.round ⟨u,(i64 (a+1))⟩ h (Nat.lt_succ_self _) (.r4 U U U U)<|.cons .here .nil
  ·replace h:=ys h c
   refine WC.exit<|Lm<|Lm<|Lw ?_
   exact Ln () h .nil<|.cons .here .nil
 ·rintro  h
  replace h:=t.symm.trans h
  refine WC.b<|Ld<|La U<|WL.nil<|Lb<|WC.ret ?_
  obtain rfl:=oJ h
  refine Lh results92 (.tmp U .nil)<|fun w hw=>?_
  exact⟨yD U,hw.sub (.cons .here .nil)⟩
def y1C(a:List (List ze))(b:z8)(c:List (z8×Int)):Option Bool:=
 (y2l a b c).bind fun d=>some (decide (d>=0))
theorem y6I{Z:Zp}{r:Bool}(h:y1C s j g=some r)(w₀:World)(hz:PZ (fps [yn p (fun x=>Value.agg (yE x).toArray) (Value.int .i64) g]) w₀ Z)(a:ZS Z 1 (p58 Z) m n s)(b:ZC Z q [(vi j.fNode),(vi j.fQ)])(c:ZC Z v [(.map (some p))])(hown:Hp (fps [yn p (fun x=>Value.agg (yE x).toArray) (Value.int .i64) g]) w₀ w₀ [yn p (fun x=>Value.agg (yE x).toArray) (Value.int .i64) g]):
  Calls Tryz.prog 50 #[(vs m s.length n),(.func (.func 74) #[] #[(vq q),(vq v)])] w₀ fun e w'=>e = .returned (.bool r)/\Hp (fps [yn p (fun x=>Value.agg (yE x).toArray) (Value.int .i64) g]) w₀ w' [yn p (fun x=>Value.agg (yE x).toArray) (Value.int .i64) g]:=by
 unfold y1C at h
 refine Kf func50 ntmps50 hown ?_
 refine WC.b<|Ld<|La U<|WL.nil<|Lb<|WC.b ?_
 obtain⟨f,d,h⟩:=za h
 refine Ld<|La U<|La U<|Ll 7 (zb call92<|.r2 U U) (.cons .here .nil) (cc hz (.cons .here .nil) fun w pz ho=>y79 d w pz a b c ho)<|La U<|La U<|WL.nil<|Lb<|WC.ret ?_
 obtain rfl:=oJ h
 refine Lh results50 (.tmp U .nil)<|fun w hw=>?_
 exact⟨yD U,hw.sub (.cons .here .nil)⟩
def y92(l:List z8)(i j:Int):Option (List z8):=chk (((0:Int)<=i/\i<=j/\j<=l.length)/\l.length*16<=140737488355328) (some (l.take i.toNat++l.drop j.toNat))
theorem yfA(Z:Zp)(ao:Option Addr)(cap:Nat)(l:List z8)(i j:Int)(r:List z8)(w₀:World)(hz:PZ (fps [row (vs ao l.length cap) 121 2 (l.flatMap yE)]) w₀ Z)(h:y92 l i j=some r)(hown:Hp (fps [row (vs ao l.length cap) 121 2 (l.flatMap yE)]) w₀ w₀ [row (vs ao l.length cap) 121 2 (l.flatMap yE)]):
  Calls Tryz.prog 78 #[.slice ao l.length cap,.int .i64 i,.int .i64 j] w₀ fun e w'=>∃ aor:Option Addr,∃ capr:Nat,e = .returned (vs aor r.length capr)/\True/\Hp (fps [row (vs ao l.length cap) 121 2 (l.flatMap yE)]) w₀ w' [row (vs aor r.length capr) 121 2 (r.flatMap yE)]:=by
 obtain⟨⟨c1,c2⟩,h⟩:=yo h
 obtain rfl:=oJ h
 clear h
 refine Calls.oh3 func78 ntmps78 hown ?_
 refine WC.b<|Ld<|La U<|WL.nil<|Lb<|WC.b<|Ld<|La U<|La U<|La U<|La U<|Le 12 (yJ underlying112 U) (Kg (fun w h=>h.rowShape .here) fun hs=>?_)
 obtain⟨hs1,hs2,hs3,_⟩:=hs
 refine Le 13 (q_slice3 z75 U U U U (by omega) (by omega) (by omega) (by omega))<|WL.nil<|Lb<|WC.b<|WC.b<|Ld<|La U<|La U<|La U<|WL.nil<|Lb<|WC.cond U (fun hb=>?_)<|fun hb=>?_
 ·have e:i=j:=by simpa using hb
  refine WC.b<|Ld<|La U<|La U<|WL.nil<|Lb<|WC.ret<|Lj<|Lh results78 (.tmp U .nil)<|fun w hw=>?_
  have e2:l.take i.toNat++l.drop j.toNat=l:=by subst e;exact List.take_append_drop _ _
  rw[e2];exact⟨ao,cap,yD U,trivial,hw.sub (.cons .here .nil)⟩
 ·have hne:i<j:=by
   have:i≠j:=by simpa using hb
   omega
  clear hb
  refine WC.skip<|Lb<|WC.b<|Ld<|La U<|Le 19 (yJ underlying112 U)<|La U<|WL.nil<|Lb<|WC.b<|WC.know (fun w hw=>Hp.y2c .here hw (by omega)) ?_
  rintro⟨b,rfl⟩
  have hlen:(l.take i.toNat++l.drop j.toNat).length=i.toNat+(l.length-j.toNat):=by rw[List.length_append,List.length_take,List.length_drop];omega
  refine Lx (fun i=>[6].contains i) [] U<|Lf 0 20 U (fun _=>q_m U)<|Lf 1 21 U (fun _=>q_m U)<|Lf 2 22 U (fun _=>y7R (lo:=0) (hi:=i.toNat) (lv:=none) (hv:=some (vi i)) z75 U (fun _ _ _=>U) (fun a w h=>by rw[Option.map_some,h.eval U]) U (by show i=_;omega) (by omega) (by omega) (by simp))<|WD.repin (i:=22) U (u:=.slice (some ⟨b,0,none⟩) i.toNat cap) (by split <;> simp[Addr.add])<|Lf 3 23 U (fun _=>q_m U)<|Lf 4 24 U (fun _=>q_m U)<|Lf 5 25 U (fun _=>y7R (lo:=j.toNat) (hi:=l.length) (lv:=some (vi j)) (hv:=none) z75 U (fun a w h=>by rw[Option.map_some,h.eval U]) (fun _ _ _=>U) (by show j=_;omega) U (by omega) (by omega)<|fun _=>hs2) (WD.old (i:=6) (dd:=26) U (by kernel_rfl) U U U U (fun _=>Sin.of .nil) (yjG (i:=i.toNat) (j:=j.toNat) (m:=l.length) (cs:=l.flatMap yE) z75 U U (fun hk=>if_neg (by omega)) .here (by omega) (by omega) (y5i ybN _) (by omega)) fun tl _=>Lf 7 0 U (fun _=>q_z U)<|WD.done (by kernel_rfl)<|Lb<|WC.b<|Ld<|La U<|La U<|Le 29 (yJ underlying112 U)<|La U<|Le 31 (y7R (lo:=i.toNat+(l.length-j.toNat)) (hi:=l.length) (lv:=some (vi ((i.toNat+(l.length-j.toNat):Nat):Int))) (hv:=some (vi (l.length:Int))) z75 U (fun a w h=>by rw[Option.map_some,h.eval U]) (fun a w h=>by rw[Option.map_some,h.eval U]) U U (by omega) (by omega) (by simp))<|Lk U U (yeA (i:=i.toNat+(l.length-j.toNat)) z75 zl5 U U (by omega) (yiS (enc:=yE) (sz:=2) (z0:=((⟨0,0⟩:z8):z8)) (fun _=>U) (by decide) U ybN) .here U)<|WL.nil<|Lb<|WC.b<|Ld<|La U<|La U<|WL.nil<|Lb<|WC.ret<|Lh results78 (.tmp U .nil)<|fun w hw=>?_)
  rw[hlen]
  refine⟨some ⟨b,0,none⟩,cap,yD U,trivial,?_⟩
  have h5:=Hp.rowShort (m:=l.length) (i:=i.toNat+(l.length-j.toNat)) (R:=[]) .here (by omega) hw
  have e1:(l.flatMap yE).take (i.toNat*2)=(l.take i.toNat).flatMap yE:=ybm (enc:=yE) (sz:=2) (fun _=>U) l i.toNat (by omega)
  have e2:(l.flatMap yE).drop (j.toNat*2)=(l.drop j.toNat).flatMap yE:=yd9 (enc:=yE) (sz:=2) (fun _=>U) l j.toNat (by omega)
  have e3:((l.take i.toNat++l.drop j.toNat).flatMap yE).length=(i.toNat+(l.length-j.toNat))*2:=by rw[y7C (sz:=2) (fun _=>U),hlen]
  rw[e1,e2,<- List.flatMap_append,<- e3,List.take_left,List.take_left] at h5
  exact h5.sub<|.cons .here .nil
def y3H(b:List z8)(e:List (List ze))(c:List (z8×Int))(d:List z8)(f:(List z8)->(List z8)->(List (z8×Int))->Option (List z8×Int))(g:Option (List z8×Int)):Nat->Int->Option (List z8×Int)
 | 0,_=>none
 | h+1,a=>if decide (a<(b.length:Int)) then chk ((0:Int)<=a/\a<(b.length:Int)) ((y1C e (⟨((nth b a).fNode),((nth b a).fQ)⟩:z8) c).bind fun i=>if !i then chk ((((d++([(⟨((nth b a).fNode),((nth b a).fQ)⟩:z8)]:List z8)).length:Nat):Int)*16<=140737488355328/\(((d++([(⟨((nth b a).fNode),((nth b a).fQ)⟩:z8)]:List z8)).length:Nat):Int)<=4611686018427387904) ((y92 b a (i64 (a+1))).bind fun j=>f j (d++([(⟨((nth b a).fNode),((nth b a).fQ)⟩:z8)]:List z8)) (yC c (⟨((nth b a).fNode),((nth b a).fQ)⟩:z8) (i64 ((yd c (⟨((nth b a).fNode),((nth b a).fQ)⟩:z8) 0)+1)))) else y3H b e c d f g h (i64 (a+1))) else g
def y3I(a:List (List ze))(b:(List z8)->Option (List z8×Int)):Nat->(List z8)->(List z8)->(List (z8×Int))->Option (List z8×Int)
 | 0,_,_,_=>none
 | e+1,d,c,f=>if decide ((d.length:Int)>0) then jp3 (fun(g:List z8) (h:List z8) (i:List (z8×Int))=>y3I a b e g h i) fun j=>jp0 (some (([]:List z8),351)) fun k=>y3H d a f c j k yy 0 else b c
def y5v(a:List (List ze)):Option (List z8×Int):=
 (y6G a).bind fun b=>jp1 (fun(c:List z8)=>some (c,0)) fun d=>y3I a d yy b ([]:List z8) ([]:List (z8×Int))
theorem ycX{Z:Zp}{r:List z8×Int}(h:y5v s=some r)(w₀:World)(hz:PZ [] w₀ Z)(Q:ZS Z 1 (p58 Z) m n s):
  Calls Tryz.prog 42 #[(vs m s.length n)] w₀ fun e w'=>∃ R:Option Addr,∃ S:Nat,e = .returned (.tuple #[(vs R r.1.length S),(vi r.2)])/\True/\Hp [] w₀ w' [row (vs R r.1.length S) 121 2 (r.1.flatMap yE)]:=by
 unfold y5v at h
 refine L5 func42 ntmps42 ?_
 refine WC.b<|Ld<|La U<|La U<|WL.nil<|Lb<|WC.scope<|WC.b ?_
 obtain⟨Y,aa,h⟩:=za h
 refine Ld<|La U<|WL.y43 (dd:=11) U U U (zb call73<|.cons U .nil) .nil (cc hz .nil fun w pz ho=>ygi aa w pz Q) ?_
 rintro ab ad _
 refine La U<|WL.nil<|Lb<|WC.b<|Ld (Lg 12 (y3n (fun x=>Value.agg (yE x).toArray)<|Value.int .i64) fun u _=>Lg 5 (yu (cs:=[(.map none)]) zLL U) fun B _=>Lk U U (yl zLM U U U .here U U U)<|WL.nil<|Lb<|WC.b<|Ld<|La U<|WL.nil<|Lb<|WC.b<|WC.label<|Lb ?_)
 obtain⟨T,ae,h⟩:=y13 h
 refine Kb (fun(o:List z8) (E:Option Addr) (F:Nat)=>(T o=some r)) (fun o E F=>[(6,(vs E o.length F))]) (fun o E F=>[row (vs E o.length F) 121 2 (o.flatMap yE)]) ?_ ?_
 ·skip
  let A:Value:=(vs m s.length n);refine WC.block (WC.nilRow 121 2 (WC.yaO (fun(K:Nat) (a:List z8) (c:List z8) (d:List (z8×Int)) (y:Option Addr) (p:Nat) (q:Option Addr) (t:Nat)=>(y3I s T K a c d=some r)) (fun K a c d y p q t=>[(0,A),(4,(vs y a.length p)),(5,(vp B)),(6,(vs q c.length t))]) (fun K a c d y p q t=>[row (vs y a.length p) 121 2 (a.flatMap yE),row (vs q c.length t) 121 2 (c.flatMap yE),stb B 117 [(.map (some u))],yn u (fun x=>Value.agg (yE x).toArray) (Value.int .i64) d]) (fun K a c d y p q t=>K) ⟨yy,Y,([]:List z8),([]:List (z8×Int)),ab,ad,none,0⟩ h (.r4 U U U U) (.s4 .h3 .here .here .here) ?_))
  rintro(_|af) a c d y p q t h;·cases h
  rw[y3I] at h
  refine WC.b<|WC.b<|Ld<|La U<|Le 14 (yJ underlying112 U)<|La U<|WL.nil<|Lb<|WC.cond U (fun N=>?_)<|fun N=>?_
  ·replace h:=yr h N
   refine WC.skip<|Lb ?_
   obtain⟨V,ag,h⟩:=y9k h
   refine WC.mid7 (fun(f:List z8) (g:List z8) (z:List (z8×Int)) (G:Option Addr) (H:Nat) (I:Option Addr) (J:Nat)=>(V f g z=some r)) (fun f g z G H I J=>[(0,A),(4,(vs G f.length H)),(5,(vp B)),(6,(vs I g.length J))]) (fun f g z G H I J=>[row (vs G f.length H) 121 2 (f.flatMap yE),row (vs I g.length J) 121 2 (g.flatMap yE),stb B 117 [(.map<|some u)],yn u (fun x=>Value.agg (yE x).toArray) (Value.int .i64) z]) ?_ ?_
   ·skip
    refine WC.block ?_
    obtain⟨W,ah,h⟩:=y2m h
    refine L8 ((W=some r)) ([]) ([]) ?_ ?_
    ·skip
     let C:Value:=(vs y a.length p);let D:Value:=(vs q c.length t);refine WC.b (Ld (La U (Le 17 (yJ underlying112 U) (La U (WL.nil (Lb (WC.block (L9 (fun(L:Nat) (b:Int)=>(y3H a s d c V W L b=some r)) (fun L b=>[(0,A),(4,C),(5,(vp B)),(6,D),(16,C),(17,(vi (a.length:Int))),(18,(vi b))]) (fun L b=>[row C 121 2 (a.flatMap yE),row D 121 2 (c.flatMap yE),stb B 117 [(.map (some u))],yn u (fun x=>Value.agg (yE x).toArray) (Value.int .i64) d]) (fun L b=>L) ⟨yy,0⟩ h (.r7 U U U U U U U) (.a4) ?_))))))))
     rintro(_|ai) b h;·cases h
     rw[y3H] at h
     refine WC.b<|Ld<|La U<|WL.nil<|Lb<|WC.b<|WC.cond U (fun O=>?_)<|fun O=>?_
     ·replace h:=yr h O
      refine WC.skip<|Lb<|WC.b<|WC.block<|WC.b ?_
      obtain⟨M,h⟩:=yo h
      refine Ld<|La U<|Kg (fun w hw=>Hp.y2c .here hw (by intro hz';have:=M;rw[hz'] at this;omega)) ?_
      rintro⟨aj,rfl⟩
      refine Le 21 (y11 z75 U U M.1 M.2 y3g)<|Le 22 (yX (cs:=(yE<|nth a b)) z5o U U<|y3Q .here<|y2y (enc:=yE) (l:=a) (i:=b) (sz:=2) (fun _=>U) M.1 M.2) (Lg 8 (yu (cs:=[(vi 0),(vi 0)]) zl5 U) fun au _=>La U<|Lk U U (yl zoz U U U .here U U U)<|WL.nil<|Lb<|WC.b ?_)
      obtain⟨ax,ak,h⟩:=za h
      refine Ld<|La U<|Le 24 (y15<|L2 (l:=[.tmp 8,.tmp 5])<|.r2 U U)<|Ll 25 (zb call50<|.r2 U U) (.cons .h4 .nil) (ccl hz (.cons .h4 .nil) (.s2 .here .h2) fun w pz ho la=>y6I ak w pz ((Q.mono<|Zle.left _ _).weak (fun _ _ h=>y22 (Zle.left _ _) h)) ((la _ (.head _) _).stb) ((la _ (.tail _<|.head _) _).stb) ho)<|La U<|La U<|WL.nil<|Lb<|WC.b<|Ld<|La U<|WL.nil<|Lb<|WC.cond U (fun P=>?_)<|fun P=>?_
      ·replace h:=yr h P
       refine WC.b<|Lx (fun i=>[4,6].contains i) [yfq u (fun x=>Value.agg (yE x).toArray) (Value.int .i64) (⟨((nth a b).fNode),((nth a b).fQ)⟩:z8) (0:Int) (yd d (⟨((nth a b).fNode),((nth a b).fQ)⟩:z8) 0)] U<|Li 0 28 U (yc zl6 U<|yh .h4 U)<|Li 1 29 U (yi z5o U (yj .h1) U)<|L6 2 30 U (Sin.wk (.cons .here .nil)<|.any U (fun _ h=>y7E h) .nil) (ygP (k:=(⟨((nth a b).fNode),((nth a b).fQ)⟩:z8)) (dflt:=(0:Int)) zd9 underlying117 y2K U U U .here)<|Lf 3 31 U (fun _=>y9H U U U)<|WD.oldQ (i:=4) (dd:=32) U (by kernel_rfl) U U U U (yjD (k:=(⟨((nth a b).fNode),((nth a b).fQ)⟩:z8)) (dflt:=(0:Int)) zd9 underlying117 y2K U U U .here) (fun _=>(Sin.wk (.cons .here .nil)<|.any U (fun _ h=>ykd h) .nil)) ?_
       rintro av _
       refine Lf 5 33 U (fun _=>y8D U U)<|Kc (i:=6) U (by kernel_rfl) U U U (by kernel_rfl) (yhd (k:=(⟨((nth a b).fNode),((nth a b).fQ)⟩:z8)) (v:=i64 ((yd d (⟨((nth a b).fNode),((nth a b).fQ)⟩:z8) 0)+1)) U U U U .here)<|WD.done (by kernel_rfl)<|Lb<|WC.b ?_
       obtain⟨al,h⟩:=yo h
       refine Ld<|La U<|Le 35 (yi z5o U (yj .h1) U) (Lg 36 (yT (cs:=([(⟨((nth a b).fNode),((nth a b).fQ)⟩:z8)]:List z8).flatMap yE) z75 (Lo (l:=[.tmp 35]) (.cons U .nil) [0]) (fun _=>by kernel_rfl) U (by unfold maxLen;omega)) fun aw _=>WL.fA 37 (y4W (enc:=yE) (l1:=c) (l2:=([(⟨((nth a b).fNode),((nth a b).fQ)⟩:z8)]:List z8)) z75 U U .h4 (fun _=>U) U U (y3q .here) (y5i ybN _) al) ?_)
       rintro⟨am,an⟩ _
       refine La U<|WL.nil<|Lb<|WC.b ?_
       obtain⟨X,ap,h⟩:=za h
       refine Ld<|La U<|La U<|La U<|La U<|WL.y43 (dd:=42) U U U (zb call78<|.r3 U U U) (.cons .h4 .nil) (cc hz (.cons .h4 .nil) fun w pz ho=>yfA (Z:=_) (ao:=(some ⟨aj,0,none⟩)) (cap:=p) (l:=a) (i:=b) (j:=(i64 (b+1))) (r:=X) w pz  ap ho) ?_
       rintro aq ar _
       refine La U<|WL.nil<|Lb<|WC.exit<|WX.yd4 U<|Lm<|Lm<|WX.yd4 U<|Lm<|Lw ?_
       exact Ln ⟨X,(c++([(⟨((nth a b).fNode),((nth a b).fQ)⟩:z8)]:List z8)),(yC d (⟨((nth a b).fNode),((nth a b).fQ)⟩:z8)<|i64 ((yd d (⟨((nth a b).fNode),((nth a b).fQ)⟩:z8) 0)+1)),aq,ar,am,an⟩ h (.r4 U U U U)<|.s4 .here .here .h3 .h1
      ·replace h:=ys h P
       refine WC.skip<|Lq<|Lb<|Ld<|La U<|La U<|WL.nil ?_
       exact WX.round ⟨ai,(i64 (b+1))⟩ h (Nat.lt_succ_self _) (.r7 U U U U U U U)<|.s4 .h2 .h2 .h2 .here
     ·replace h:=ys h O
      refine WC.exit<|Lm<|Lm<|Lw ?_
      exact Ln () h .nil .nil
    ·rintro  h
     replace h:=ah.symm.trans h
     refine WC.b<|Ld<|La U<|La U<|WL.nil<|Lb<|WC.ret<|Lt<|Lj<|Lj<|Lt<|Lj<|WX.yeF<|WX.nilRow 121 2 ?_
     obtain rfl:=oJ h
     refine Lh results42 (.tmp U<|.tmp U .nil)<|fun w hw=>?_
     exact⟨none,0,y1T U U,trivial,hw.sub (.cons .here .nil)⟩
   ·rintro f g z G H I J h
    replace h:=(ag f g z).symm.trans h
    exact WX.round ⟨af,f,g,z,G,H,I,J⟩ h (Nat.lt_succ_self _) (.r4 U U U U)<|.a4
  ·replace h:=ys h N
   refine WC.exit<|Lm<|Lm<|Lw ?_
   exact Ln ⟨c,q,t⟩ h (.cons U .nil)<|.cons .h1 .nil
 ·rintro o E F h
  replace h:=(ae o).symm.trans h
  refine WC.b<|Ld<|La U<|La U<|La U<|WL.nil<|Lb<|WC.ret<|WX.yeF ?_
  obtain rfl:=oJ h
  refine Lh results42 (.tmp U<|.tmp U .nil)<|fun w hw=>?_
  exact⟨E,F,y1T U U,trivial,hw.sub (.cons .here .nil)⟩
def y4n(b:List z8×Int)(d:(List S36)->Option (List S36×Int)):Nat->(List S36)->Int->Option (List S36×Int)
 | 0,_,_=>none
 | e+1,c,a=>if decide (a<(b.1.length:Int)) then chk ((0:Int)<=a/\a<(b.1.length:Int)) (chk ((((c++([({(nth b.1 a) with fDelay:=0,fT:=0}:S36)]:List S36)).length:Nat):Int)*32<=140737488355328/\(((c++([({(nth b.1 a) with fDelay:=0,fT:=0}:S36)]:List S36)).length:Nat):Int)<=4611686018427387904) (y4n b d e (c++([({(nth b.1 a) with fDelay:=0,fT:=0}:S36)]:List S36)) (i64 (a+1)))) else d c
def y4X(c:zs)(d:Int)(a:List (List ze)):Option (List S36×Int):=
 (y44 c d a).bind fun e=>if !e then some (([]:List S36),310) else(y5v a).bind fun b=>jp1 (fun(f:List S36)=>some (f,b.2)) fun g=>y4n b g yy ([]:List S36) 0
theorem yhf{Z:Zp}{r:List S36×Int}(h:y4X k t s=some r)(w₀:World)(hz:PZ [] w₀ Z)(S:ZS Z 4 (y3F Z) m n k.fM)(T:ZS Z 4 (y4l Z) C p k.fC0)(V:ZS Z 4 (fun r x=>r=e64 x) E z k.fS)(W:ZS Z 4 (fun r x=>r=e62 x) F H k.fK)(aa:ZS Z 7 (p69 Z) J K k.fVLs)(ab:ZS Z 5 (fun r x=>r=y4D x) L M k.fH)(ad:ZS Z 3 (y4m Z) N O k.fU)(ae:ZS Z 4 (fun r x=>r=y4E x) P Q k.fV0)(D:ZS Z 1 (p58 Z) X Y s):
  Calls Tryz.prog 24 #[(.agg #[(vs m k.fM.length n),(vs C k.fC0.length p),(vs E k.fS.length z),(vs F k.fK.length H),(vs J k.fVLs.length K),(vs L k.fH.length M),(vs N k.fU.length O),(vs P k.fV0.length Q)]),(vi t),(vs X s.length Y)] w₀ fun e w'=>∃ G:Option Addr,∃ I:Nat,e = .returned (.tuple #[(vs G r.1.length I),(vi r.2)])/\True/\Hp [] w₀ w' [row (vs G r.1.length I) 37 4 (r.1.flatMap e37)]:=by
 unfold y4X at h
 refine Kd func24 ntmps24 ?_
 refine WC.b<|Ld (Lg 3 (yI (cs:=[(vs m k.fM.length n),(vs C k.fC0.length p),(vs E k.fS.length z),(vs F k.fK.length H),(vs J k.fVLs.length K),(vs L k.fH.length M),(vs N k.fU.length O),(vs P k.fV0.length Q)]) U U) fun ao _=>La U<|La U<|WL.nil<|Lb<|WC.b<|WC.b ?_)
 obtain⟨au,af,h⟩:=za h
 refine Ld<|Le 13 (yi y1V U (yj .here) U)<|La U<|La U<|Ll 16 (zb call22<|.r3 U U U) .nil (cc hz .nil fun w pz ho=>y7r af w pz S T V W aa ab ad ae D)<|La U<|WL.nil<|Lb<|WC.cond U (fun y=>?_)<|fun y=>?_
 ·replace h:=yr h y
  refine WC.b<|Ld<|La U<|La U<|WL.nil<|Lb<|WC.ret<|Lj<|WX.nilRow 37 4 ?_
  obtain rfl:=oJ h
  refine Lh results24 (.tmp U<|.tmp U .nil)<|fun w hw=>?_
  exact⟨none,0,y1T U U,trivial,hw.sub (.cons .here .nil)⟩
 ·replace h:=ys h y
  refine WC.skip<|Lb<|WC.b ?_
  obtain⟨b,ag,h⟩:=za h
  refine Ld<|La U<|WL.y43 (dd:=20) U U U (zb call42<|.cons U .nil) .nil (cc hz .nil fun w pz ho=>ycX ag w pz D) ?_
  rintro ah ai _
  refine La U<|La U<|La U<|La U<|La U<|WL.nil<|Lb<|WC.b<|Ld<|La U<|WL.nil<|Lb ?_
  obtain⟨R,aj,h⟩:=y13 h
  refine Kb (fun(d:List S36) (j:Option Addr) (o:Nat)=>(R d=some r)) (fun d j o=>[(9,(vi b.2)),(10,(vs j d.length o))]) (fun d j o=>[row (vs j d.length o) 37 4 (d.flatMap e37)]) ?_ ?_
  ·skip
   let A:Value:=(vs ah b.1.length ai);refine WC.b (Ld (La U (Le 24 (yJ underlying112 U) (La U (WL.nil (Lb (WC.block (WC.nilRow 37 4 (WC.y7B (fun(q:Nat) (c:List S36) (a:Int) (f:Option Addr) (g:Nat)=>(y4n b R q c a=some r)) (fun q c a f g=>[(9,(vi b.2)),(10,(vs f c.length g)),(23,A),(24,(vi (b.1.length:Int))),(25,(vi a))]) (fun q c a f g=>[row (vs f c.length g) 37 4 (c.flatMap e37),row A 121 2 (b.1.flatMap yE)]) (fun q c a f g=>q) ⟨yy,([]:List S36),0,none,0⟩ h (.r5 U U U U U) (.a2) ?_)))))))))
   rintro(_|ak) c a f g h;·cases h
   rw[y4n] at h
   refine WC.b<|Ld<|La U<|WL.nil<|Lb<|WC.b<|WC.cond U (fun B=>?_)<|fun B=>?_
   ·replace h:=yr h B
    refine WC.skip<|Lb<|WC.b<|WC.block<|WC.b ?_
    obtain⟨u,h⟩:=yo h
    refine Ld<|Kg (fun w hw=>Hp.y2c .h1 hw (by intro hz';have:=u;rw[hz'] at this;omega)) ?_
    rintro⟨ap,rfl⟩
    refine Le 27 (y11 z75 U U u.1 u.2 y3g)<|Le 28 (yX (cs:=(yE<|nth b.1 a)) z5o U U<|y3Q .h1<|y2y (enc:=yE) (l:=b.1) (i:=a) (sz:=2) (fun _=>U) u.1 u.2) (Lg 12 (yu (cs:=[(vi 0),(vi 0)]) zl5 U) fun aq _=>Lk U U (yl zoz U U U .here U U U)<|WL.nil<|Lb ?_)
    obtain⟨al,h⟩:=yo h
    refine Ld<|La U<|Le 30 (ya y9t U U)<|Le 31 (yc yq U<|yh .here U)<|Le 32 (ya yaS U U)<|Le 33 (yc yq U<|yh .here U)<|Le 34 (yN (v:=(.agg #[(vi<|(nth b.1 a).fNode),(vi<|(nth b.1 a).fQ),(vi 0),(vi 0)])) (Lo (l:=[.tmp 31,.tmp 33]) (.r2 U U) [0,1]) (fun _=>by kernel_rfl)) (Lg 35 (yT (cs:=([({(nth b.1 a) with fDelay:=0,fT:=0}:S36)]:List S36).flatMap e37) y5z (Lo (l:=[.tmp 34]) (.cons U .nil) [0]) (fun _=>by kernel_rfl) U (by unfold maxLen;omega)) fun ar _=>WL.fA 36 (y4W (enc:=e37) (l1:=c) (l2:=([({(nth b.1 a) with fDelay:=0,fT:=0}:S36)]:List S36)) y5z U U .h2 (fun _=>U) U U (y3q .here) (y5i yfu _) al) ?_)
    rintro⟨am,an⟩ _
    refine La U<|WL.nil<|Lq<|Lb<|Ld<|La U<|La U<|WL.nil ?_
    exact WX.round ⟨ak,(c++([({(nth b.1 a) with fDelay:=0,fT:=0}:S36)]:List S36)),(i64 (a+1)),am,an⟩ h (Nat.lt_succ_self _) (.r5 U U U U U)<|.s2 .here .h2
   ·replace h:=ys h B
    refine WC.exit<|Lm<|Lm<|Lw ?_
    exact Ln ⟨c,f,g⟩ h (.r2 U U)<|.cons .here .nil
  ·rintro d j o h
   replace h:=(aj d).symm.trans h
   refine WC.b<|Ld<|La U<|La U<|La U<|La U<|WL.nil<|Lb<|WC.ret ?_
   obtain rfl:=oJ h
   refine Lh results24 (.tmp U<|.tmp U .nil)<|fun w hw=>?_
   exact⟨j,o,y1T U U,trivial,hw.sub (.cons .here .nil)⟩
def y3m(b:Int)(c:Option Bool):Nat->Int->Option Bool
 | 0,_=>none
 | d+1,a=>if decide (a<=12800) then if decide (a=b) then some true else y3m b c d (i64 (a*2)) else c
def y8k(a:Int):Option Bool:=
 jp0 (some false) fun b=>y3m a b yy 100
theorem yiE{Z:Zp}{r:Bool}(h:y8k t=some r)(w₀:World)(hz:PZ [] w₀ Z):
  Calls Tryz.prog 41 #[(vi t)] w₀ fun e w'=>e = .returned (.bool r)/\Hp [] w₀ w' []:=by
 unfold y8k at h
 refine L5 func41 ntmps41 ?_
 refine WC.b<|Ld<|La U<|WL.nil<|Lb ?_
 obtain⟨f,g,h⟩:=y2m h
 refine L8 ((f=some r)) ([]) ([]) ?_ ?_
 ·skip
  refine WC.b<|Ld<|La U<|WL.nil<|Lb<|WC.block<|L9 (fun(b:Nat) (a:Int)=>(y3m t f b a=some r)) (fun b a=>[(0,(vi t)),(3,(vi a))]) (fun b a=>[]) (fun b a=>b) ⟨yy,100⟩ h (.r2 U U) .nil ?_
  rintro(_|i) a h;·cases h
  rw[y3m] at h
  refine WC.b<|WC.b<|Ld<|La U<|La U<|WL.nil<|Lb<|WC.cond U (fun c=>?_)<|fun c=>?_
  ·replace h:=yr h c
   refine WC.skip<|Lb<|WC.b<|WC.block<|WC.b<|Ld<|La U<|La U<|La U<|WL.nil<|Lb<|WC.cond U (fun d=>?_)<|fun d=>?_
   ·replace h:=yr h d
    refine WC.b<|Ld<|La U<|WL.nil<|Lb<|WC.ret<|Lt<|Lj<|Lj<|Lt<|Lj ?_
    obtain rfl:=oJ h
    refine Lh results41 (.tmp U .nil)<|fun w hw=>?_
    exact⟨yD U,hw.sub .nil⟩
   ·replace h:=ys h d
    refine WC.skip<|Lq<|Lb<|Ld<|La U<|La U<|La U<|WL.nil ?_
    exact WX.round ⟨i,(i64 (a*2))⟩ h (Nat.lt_succ_self _) (.r2 U U) .nil
  ·replace h:=ys h c
   refine WC.exit<|Lm<|Lm<|Lw ?_
   exact Ln () h .nil .nil
 ·rintro  h
  replace h:=g.symm.trans h
  refine WC.b<|Ld<|La U<|WL.nil<|Lb<|WC.ret ?_
  obtain rfl:=oJ h
  refine Lh results41 (.tmp U .nil)<|fun w hw=>?_
  exact⟨yD U,hw.sub .nil⟩
def y33(a:z16):Option Bool:=
 (y8k a.fBag).bind fun b=>some (((!b)||(decide (a.fMax<1)))||(decide (a.fMax>72)))
theorem yev{Z:Zp}{a:z16}{r:Bool}(h:y33 a=some r)(w₀:World)(hz:PZ [] w₀ Z)(g:ZS Z 3 (fun r x=>r=e66 x) m n a.fTo):
  Calls Tryz.prog 40 #[(.agg #[(.string a.fName),(.string a.fFrom.fModule),(.string a.fFrom.fPart),(.string a.fFrom.fPort),(vi a.fBag),(vi a.fMax),(vs m a.fTo.length n)])] w₀ fun e w'=>e = .returned (.bool r)/\Hp [] w₀ w' []:=by
 unfold y33 at h
 refine L5 func40 ntmps40 ?_
 refine WC.b<|Ld (Lg 1 (yI (cs:=[(.string a.fName),(.string a.fFrom.fModule),(.string a.fFrom.fPart),(.string a.fFrom.fPort),(vi a.fBag),(vi a.fMax),(vs m a.fTo.length n)]) U U) fun i _=>La U<|WL.nil<|Lb<|WC.b ?_)
 obtain⟨b,c,h⟩:=za h
 refine Ld<|Le 3 (ya ygd U U)<|Le 4 (yc yq U<|yh .here U)<|Ll 5 (zb call41<|.cons U .nil) .nil (cc hz .nil fun w pz ho=>yiE c w pz )<|La U<|La U<|Lu false 3 7 (B:=(!b)||(decide (a.fMax<1))) U U U U U U (fun h=>(y5V h).symm) (fun _ d=>?_) ?_
 ·skip
  refine Le 8 (ya y7W U U)<|Le 9 (yc yq U<|yh .here U)<|La U<|La U ?_
  exact Lv (y5W d) U U .all
 refine La U<|Lu false 3 12 (B:=((!b)||(decide (a.fMax<1)))||(decide (a.fMax>72))) U U U U U U (fun h=>(y5V h).symm) (fun _ f=>?_) ?_
 ·skip
  refine Le 13 (ya y7W U U)<|Le 14 (yc yq U<|yh .here U)<|La U<|La U ?_
  exact Lv (y5W f) U U .all
 refine La U<|WL.nil<|Lb<|WC.ret ?_
 obtain rfl:=oJ h
 refine Lh results40 (.tmp U .nil)<|fun w hw=>?_
 exact⟨yD U,hw.sub .nil⟩
def y1a(b:List z16)(z98:z16->Option Bool)(c:Option Int):Nat->Int->Option Int
 | 0,_=>none
 | d+1,a=>if decide (a<(b.length:Int)) then chk ((0:Int)<=a/\a<(b.length:Int)) ((z98 (⟨((nth b a).fName),(⟨(((nth b a).fFrom).fModule),(((nth b a).fFrom).fPart),(((nth b a).fFrom).fPort)⟩:Sapi_Ref),((nth b a).fBag),((nth b a).fMax),((nth b a).fTo)⟩:z16)).bind fun e=>if e then some a else y1a b z98 c d (i64 (a+1))) else c
def y3e(a:List z16)(z98:z16->Option Bool):Option Int:=
 jp0 (some (-1)) fun b=>y1a a z98 b yy 0
theorem y8s(Z:Zp)(d:Option Addr)(g:Nat)(zfF:FuncId)(zlP:List Value)(b:List z16)(z98:z16->Option Bool)(r:Int)(h:y3e b z98=some r)(w₀:World)(hz:PZ [] w₀ Z)(m:ZS Z 7 (p69 Z) d g b)(n:∀ args w,(callFunc zfF args).run Tryz.prog w = .ok (.enter zfF args) w)(o:∀ w:World,PZ [] w Z->∀(x0:z16) (ao0:Option Addr) (cap0:Nat) (r:Bool),ZS Z 3 (fun r x=>r=e66 x) ao0 cap0 x0.fTo->z98 x0=some r->Calls Tryz.prog zfF (([(.agg #[(.string x0.fName),(.string x0.fFrom.fModule),(.string x0.fFrom.fPart),(.string x0.fFrom.fPort),(vi x0.fBag),(vi x0.fMax),(vs ao0 x0.fTo.length cap0)])]:List Value)++zlP).toArray w fun e w'=>e = .returned (.bool r)/\Hp [] w w' []):
  Calls Tryz.prog 72 #[(vs d b.length g),(.func (.func zfF) #[] (zlP).toArray)] w₀ fun e w'=>e = .returned (vi r)/\Hp [] w₀ w' []:=by
 unfold y3e at h
 refine Lz func72 ntmps72 ?_
 refine WC.b<|Ld<|La U<|WL.nil<|Lb ?_
 obtain⟨k,p,h⟩:=y2m h
 refine L8 ((k=some r)) ([]) ([]) ?_ ?_
 ·skip
  refine WC.b<|Ld<|La U<|Le 7 (yJ underlying26 U)<|La U<|WL.nil<|Lb<|WC.block<|L9 (fun(c:Nat) (a:Int)=>(y1a b z98 k c a=some r)) (fun c a=>[(0,(vs d b.length g)),(1,(.func (.func zfF) #[] (zlP).toArray)),(7,(vi (b.length:Int))),(8,(vi a))]) (fun c a=>[]) (fun c a=>c) ⟨yy,0⟩ h (.r4 U U U U) .nil ?_
  rintro(_|q) a h;·cases h
  rw[y1a] at h
  refine WC.b<|Ld<|La U<|WL.nil<|Lb<|WC.b<|WC.cond U (fun i=>?_)<|fun i=>?_
  ·replace h:=yr h i
   refine WC.skip<|Lb<|WC.b<|WC.block<|WC.b<|Ld<|La U<|La U<|WL.nil<|Lb<|WC.b ?_
   obtain⟨s,h⟩:=yo h
   obtain⟨t,u,h⟩:=za h
   refine Ld<|La U<|La U<|La U<|L0 (dd:=14) U U (Z:=Z) (Pr:=(p69 Z)) y9U U U m s ?_
   rintro B C v D ⟨y,z,rfl,A⟩
   refine Le 15 (yi yge U (y2j hz.pv v) U)<|Ll 16 (y2M (l:=[.tmp 15]) (f:=zfF) (caps:=zlP) n U<|.cons U .nil) .nil (fun w hw=>o w (hz.now hw) (⟨((nth b a).fName),(⟨(((nth b a).fFrom).fModule),(((nth b a).fFrom).fPart),(((nth b a).fFrom).fPort)⟩:Sapi_Ref),((nth b a).fBag),((nth b a).fMax),((nth b a).fTo)⟩:z16) y z t A u)<|WL.nil<|Lb<|WC.cond U (fun j=>?_)<|fun j=>?_
   ·replace h:=yr h j
    refine WC.b<|Ld<|La U<|La U<|WL.nil<|Lb<|WC.ret<|Lt<|Lj<|Lj<|Lt<|Lj ?_
    obtain rfl:=oJ h
    refine Lh results72 (.tmp U .nil)<|fun w hw=>?_
    exact⟨yD U,hw.sub .nil⟩
   ·replace h:=ys h j
    refine WC.skip<|Lq<|Lb<|Ld<|La U<|La U<|WL.nil ?_
    exact WX.round ⟨q,(i64 (a+1))⟩ h (Nat.lt_succ_self _) (.r4 U U U U) .nil
  ·replace h:=ys h i
   refine WC.exit<|Lm<|Lm<|Lw ?_
   exact Ln () h .nil .nil
 ·rintro  h
  replace h:=p.symm.trans h
  refine WC.b<|Ld<|La U<|WL.nil<|Lb<|WC.ret ?_
  obtain rfl:=oJ h
  refine Lh results72 (.tmp U .nil)<|fun w hw=>?_
  exact⟨yD U,hw.sub .nil⟩
def y25(a:List z16)(zib:z16->Option Bool):Option Bool:=
 (y3e a zib).bind fun b=>some (decide (b>=0))
theorem y81(Z:Zp)(b:Option Addr)(c:Nat)(zic:FuncId)(zpk:List Value)(a:List z16)(zib:z16->Option Bool)(r:Bool)(h:y25 a zib=some r)(w₀:World)(hz:PZ [] w₀ Z)(d:ZS Z 7 (p69 Z) b c a)(f:∀ args w,(callFunc zic args).run Tryz.prog w = .ok (.enter zic args) w)(g:∀ w:World,PZ [] w Z->∀(x0:z16) (ao0:Option Addr) (cap0:Nat) (r:Bool),ZS Z 3 (fun r x=>r=e66 x) ao0 cap0 x0.fTo->zib x0=some r->Calls Tryz.prog zic (([(.agg #[(.string x0.fName),(.string x0.fFrom.fModule),(.string x0.fFrom.fPart),(.string x0.fFrom.fPort),(vi x0.fBag),(vi x0.fMax),(vs ao0 x0.fTo.length cap0)])]:List Value)++zpk).toArray w fun e w'=>e = .returned (.bool r)/\Hp [] w w' []):
  Calls Tryz.prog 39 #[(vs b a.length c),(.func (.func zic) #[] (zpk).toArray)] w₀ fun e w'=>e = .returned (.bool r)/\Hp [] w₀ w' []:=by
 unfold y25 at h
 refine Lz func39 ntmps39 ?_
 refine WC.b<|Ld<|La U<|WL.nil<|Lb<|WC.b ?_
 obtain⟨j,i,h⟩:=za h
 refine Ld<|La U<|La U<|Ll 7 (zb call72<|.r2 U U) .nil (cc hz .nil fun w pz ho=>y8s _ _ _ (zfF:=zic) (zlP:=zpk) _ (z98:=zib) _ i w pz d f g)<|La U<|La U<|WL.nil<|Lb<|WC.ret ?_
 obtain rfl:=oJ h
 refine Lh results39 (.tmp U .nil)<|fun w hw=>?_
 exact⟨yD U,hw.sub .nil⟩
def y4r(a:ze)(b:z8):Option Bool:=
 (y4M a).bind fun c=>some (decide (c=b))
theorem ybV{Z:Zp}{r:Bool}(h:y4r l j=some r)(w₀:World)(hz:PZ [] w₀ Z)(c:ZC Z q [(vi j.fNode),(vi j.fQ)]):
  Calls Tryz.prog 117 #[(.agg #[(vi l.fNode),(vi l.fNext),(vi l.fQ)]),(vq q)] w₀ fun e w'=>e = .returned (.bool r)/\Hp [] w₀ w' []:=by
 unfold y4r at h
 refine Lz func117 ntmps117 ?_
 refine WC.b<|Ld (Lg 2 (yI (cs:=[(vi l.fNode),(vi l.fNext),(vi l.fQ)]) U U) fun g _=>La U<|WL.nil<|Lb<|WC.b ?_)
 obtain⟨d,f,h⟩:=za h
 refine Lx (fun i=>[].contains i) [] U<|Li 0 4 U (yi y49 U (yj .here) U)<|L4 1 5 U (zb call60<|.cons U .nil) (cc hz .nil fun w pz ho=>y6d f w pz )<|Li 2 6 U (yi z5o U (y2j hz.pv c) U)<|Lf 3 7 U (fun _=>y9l (enc:=yE) (a:=d) (b:=j) zoA U U)<|Lf 4 3 U (fun _=>q_z U)<|WD.done (by kernel_rfl)<|Lb<|WC.ret ?_
 obtain rfl:=oJ h
 refine Lh results117 (.tmp U .nil)<|fun w hw=>?_
 exact⟨yD U,hw.sub .nil⟩
def y1l(a:List ze)(zie:ze->Option Bool):Option Bool:=
 (yZ a zie).bind fun b=>some (decide (b>=0))
theorem y70(Z:Zp)(b:Option Addr)(c:Nat)(zif:FuncId)(zpl:List Value)(a:List ze)(zie:ze->Option Bool)(r:Bool)(h:y1l a zie=some r)(w₀:World)(hz:PZ [] w₀ Z)(d:ZS Z 3 (fun r x=>r=e60 x) b c a)(f:∀ args w,(callFunc zif args).run Tryz.prog w = .ok (.enter zif args) w)(g:∀ w:World,PZ [] w Z->∀(x0:ze) (r:Bool),zie x0=some r->Calls Tryz.prog zif (([(.agg #[(vi x0.fNode),(vi x0.fNext),(vi x0.fQ)])]:List Value)++zpl).toArray w fun e w'=>e = .returned (.bool r)/\Hp [] w w' []):
  Calls Tryz.prog 75 #[(vs b a.length c),(.func (.func zif) #[] (zpl).toArray)] w₀ fun e w'=>e = .returned (.bool r)/\Hp [] w₀ w' []:=by
 unfold y1l at h
 refine Lz func75 ntmps75 ?_
 refine WC.b<|Ld<|La U<|WL.nil<|Lb<|WC.b ?_
 obtain⟨j,i,h⟩:=za h
 refine Ld<|La U<|La U<|Ll 7 (zb call94<|.r2 U U) .nil (cc hz .nil fun w pz ho=>y2Q _ _ _ (z9F:=zif) (zdk:=zpl) _ (z7a:=zie) _ i w pz d f g)<|La U<|La U<|WL.nil<|Lb<|WC.ret ?_
 obtain rfl:=oJ h
 refine Lh results75 (.tmp U .nil)<|fun w hw=>?_
 exact⟨yD U,hw.sub .nil⟩
def y2L(a:Int):Option z2:=
 some (⟨a,1⟩:z2)
theorem y5w{Z:Zp}{r:z2}(h:y2L t=some r)(w₀:World)(hz:PZ [] w₀ Z):
  Calls Tryz.prog 80 #[(vi t)] w₀ fun e w'=>e = .returned (.agg #[(vi r.fN),(vi r.fD)])/\Hp [] w₀ w' []:=by
 unfold y2L at h
 refine L5 func80 ntmps80 ?_
 refine WC.b<|Ld (Lg 2 (yu (cs:=[(vi 0),(vi 0)]) zX U) fun a _=>WL.nil<|Lb<|WC.b<|Ld<|La U<|Le 4 (yN (v:=(.agg #[(vi t),(vi 1)])) (Lo (l:=[.tmp 3,.const (vi 1)]) (.r2 U U) [0,1]) (fun _=>by kernel_rfl))<|Lk U U (yl zy U U U .here U U U)<|WL.nil<|Lb<|WC.ret ?_)
 obtain rfl:=oJ h
 refine Lh results80 (.agg U zg U (yj .here) .nil)<|fun w hw=>?_
 exact⟨yD U,hw.sub .nil⟩
def y6h(a:Int):Option Int:=
 if decide (a<0) then some (u64 ((u64 (i64 (0-(i64 (a+1)))))+1)) else some (u64 a)
theorem yat{Z:Zp}{r:Int}(h:y6h t=some r)(w₀:World)(hz:PZ [] w₀ Z):
  Calls Tryz.prog 166 #[(vi t)] w₀ fun e w'=>e = .returned (.int .u64 r)/\Hp [] w₀ w' []:=by
 unfold y6h at h
 refine L5 func166 ntmps166 ?_
 refine WC.b<|Ld<|La U<|WL.nil<|Lb<|WC.b<|WC.b<|Ld<|La U<|La U<|WL.nil<|Lb<|WC.cond U (fun a=>?_)<|fun a=>?_
 ·replace h:=yr h a
  refine WC.b<|Ld<|La U<|La U<|Le 7 (q_neg U U)<|Le 8 (y8R underlying3 underlying212 U U)<|La U<|La U<|WL.nil<|Lb<|WC.ret<|Lj ?_
  obtain rfl:=oJ h
  refine Lh results166 (.tmp U .nil)<|fun w hw=>?_
  exact⟨yD U,hw.sub .nil⟩
 ·replace h:=ys h a
  refine WC.skip<|Lb<|WC.b<|Ld<|La U<|Le 11 (y8R underlying3 underlying212 U U)<|La U<|WL.nil<|Lb<|WC.ret ?_
  obtain rfl:=oJ h
  refine Lh results166 (.tmp U .nil)<|fun w hw=>?_
  exact⟨yD U,hw.sub .nil⟩
def y2v(b:Int->Option Int):Nat->Int->Int->Option Int
 | 0,_,_=>none
 | d+1,c,a=>if decide (a≠0) then chk ((a:Int)≠0) (y2v b d a (Int.tmod c a)) else b c
def y55(a:Int)(b:Int):Option Int:=
 jp1 (fun(c:Int)=>some c) fun d=>y2v d yy a b
theorem yaV{Z:Zp}{r:Int}(h:y55 t D=some r)(w₀:World)(hz:PZ [] w₀ Z):
  Calls Tryz.prog 165 #[(.int .u64 t),(.int .u64 D)] w₀ fun e w'=>e = .returned (.int .u64 r)/\Hp [] w₀ w' []:=by
 unfold y55 at h
 refine Lz func165 ntmps165 ?_
 refine WC.b<|Ld<|La U<|WL.nil<|Lb ?_
 obtain⟨g,j,h⟩:=y13 h
 refine WC.y3r (fun(c:Int)=>(g c=some r)) (fun c=>[(0,(.int .u64 c))]) (fun c=>[]) ?_ ?_
 ·skip
  refine WC.block<|WC.yaM (fun(d:Nat) (a:Int) (b:Int)=>(y2v g d a b=some r)) (fun d a b=>[(0,(.int .u64 a)),(1,(.int .u64 b))]) (fun d a b=>[]) (fun d a b=>d) ⟨yy,t,D⟩ h (.r2 U U) .nil ?_
  rintro(_|k) a b h;·cases h
  rw[y2v] at h
  refine WC.b<|WC.b<|Ld<|La U<|La U<|WL.nil<|Lb<|WC.cond U (fun f=>?_)<|fun f=>?_
  ·replace h:=yr h f
   refine WC.skip<|Lb<|WC.block ?_
   obtain⟨l,h⟩:=yo h
   refine Lx (fun i=>[].contains i) [] U<|Lf 0 7 U (fun _=>q_m U)<|Lf 1 8 U (fun _=>q_m U)<|Lf 2 9 U (fun _=>q_m U)<|Lf 3 10 U (fun _=>q_rem U U l U)<|Lf 4 0 U (fun _=>q_z U)<|Lf 5 1 U (fun _=>q_z U)<|WD.done (by kernel_rfl)<|Lq ?_
   exact WX.round ⟨k,b,(Int.tmod a b)⟩ h (Nat.lt_succ_self _) (.r2 U U) .nil
  ·replace h:=ys h f
   refine WC.exit<|Lm<|Lm<|Lw ?_
   exact Ln a h (.cons U .nil) .nil
 ·rintro c h
  replace h:=(j c).symm.trans h
  refine WC.b<|Ld<|La U<|La U<|WL.nil<|Lb<|WC.ret ?_
  obtain rfl:=oJ h
  refine Lh results165 (.tmp U .nil)<|fun w hw=>?_
  exact⟨yD U,hw.sub .nil⟩
def y5G(e:Int)(c:Int):Option (z2×Int):=
 if decide (c=0) then some ((⟨0,0⟩:z2),2) else(y6h e).bind fun b=>(y6h c).bind fun d=>(y55 b d).bind fun a=>chk ((a:Int)≠0) (if (decide ((u64 (Int.tdiv b a))>1073741824))||(decide ((u64 (Int.tdiv d a))>1073741824)) then some ((⟨0,0⟩:z2),3) else jp1 (fun(g:Int)=>some ((⟨g,i64 (u64 (Int.tdiv d a))⟩:z2),0)) fun f=>if (decide (e<0)) != (decide (c<0)) then f (i64 (0-(i64 (u64 (Int.tdiv b a))))) else f (i64 (u64 (Int.tdiv b a))))
theorem y93{Z:Zp}{r:z2×Int}(h:y5G t D=some r)(w₀:World)(hz:PZ [] w₀ Z):
  Calls Tryz.prog 160 #[(vi t),(vi D)] w₀ fun e w'=>e = .returned (.tuple #[(.agg #[(vi r.1.fN),(vi r.1.fD)]),(vi r.2)])/\Hp [] w₀ w' []:=by
 unfold y5G at h
 refine Lz func160 ntmps160 ?_
 refine WC.b<|Ld (Lg 4 (yu (cs:=[(vi 0),(vi 0)]) zX U) fun g _=>La U<|WL.nil<|Lb<|WC.b<|WC.b<|Ld<|La U<|La U<|WL.nil<|Lb<|WC.cond U (fun c=>?_)<|fun c=>?_)
 ·replace h:=yr h c
  refine WC.b<|Ld<|Le 12 (yN (v:=(.agg #[(vi 0),(vi 0)])) (Lo (l:=[]) .nil []) (fun _=>by kernel_rfl))<|Lk U U (yl zy U U U .here U U U)<|La U<|WL.nil<|Lb<|WC.ret<|Lj ?_
  obtain rfl:=oJ h
  refine Lh results160 (.agg U zg U (yj .here)<|.tmp U .nil)<|fun w hw=>?_
  exact⟨y1T U U,hw.sub .nil⟩
 ·replace h:=ys h c
  refine WC.skip<|Lb<|WC.b ?_
  obtain⟨j,o,h⟩:=za h
  obtain⟨k,p,h⟩:=za h
  refine Ld<|La U<|Ll 14 (zb call166<|.cons U .nil) .nil (cc hz .nil fun w pz ho=>yat o w pz )<|La U<|Ll 16 (zb call166<|.cons U .nil) .nil (cc hz .nil fun w pz ho=>yat p w pz )<|La U<|La U<|WL.nil<|Lb<|WC.b ?_
  obtain⟨b,q,h⟩:=za h
  refine Ld<|La U<|La U<|Ll 19 (zb call165<|.r2 U U) .nil (cc hz .nil fun w pz ho=>yaV q w pz )<|La U<|WL.nil<|Lb<|WC.b ?_
  obtain⟨m,h⟩:=yo h
  refine Lx (fun i=>[].contains i) [] U<|Lf 0 20 U (fun _=>q_m U)<|Lf 1 21 U (fun _=>q_m U)<|Lf 2 22 U (fun _=>ydV U U m U)<|Lf 3 23 U (fun _=>q_m U)<|Lf 4 24 U (fun _=>q_m U)<|Lf 5 25 U (fun _=>ydV U U m U)<|Lf 6 6 U (fun _=>q_z U)<|Lf 7 7 U (fun _=>q_z U)<|WD.done (by kernel_rfl)<|Lb<|WC.b<|WC.b<|Ld<|La U<|La U<|La U<|Lu false 2 28 (B:=(decide ((u64<|Int.tdiv j b)>1073741824))||(decide ((u64<|Int.tdiv k b)>1073741824))) U U U U U U (fun h=>(y5V h).symm) (fun _ s=>?_) ?_
  ·skip
   refine La U<|La U<|La U ?_
   exact Lv (y5W s) U U .all
  refine WL.nil<|Lb<|WC.cond U (fun d=>?_)<|fun d=>?_
  ·replace h:=yr h d
   refine WC.b<|Ld<|Le 32 (yN (v:=(.agg #[(vi 0),(vi 0)])) (Lo (l:=[]) .nil []) (fun _=>by kernel_rfl))<|Lk U U (yl zy U U U .here U U U)<|La U<|WL.nil<|Lb<|WC.ret<|Lj ?_
   obtain rfl:=oJ h
   refine Lh results160 (.agg U zg U (yj .here)<|.tmp U .nil)<|fun w hw=>?_
   exact⟨y1T U U,hw.sub .nil⟩
  ·replace h:=ys h d
   let A:=(i64 (u64 (Int.tdiv j b)));let C:Value:=(vi (i64 (u64 (Int.tdiv k b))));refine WC.skip (Lb (WC.b (Ld (La U (Le 34 (y8R underlying212 underlying3 U U) (La U (Le 36 (y8R underlying212 underlying3 U U) (Le 37 (yN (v:=(.agg #[(vi A),C])) (Lo (l:=[.tmp 34,.tmp 36]) (.r2 U U) [0,1]) (fun _=>by kernel_rfl)) (Lg 9 (yu (cs:=[(vi 0),(vi 0)]) zX U) ?_)))))))))
   intro n _
   refine Lk U U (yl zy U U U .here U U U)<|WL.nil<|Lb ?_
   obtain⟨u,x,h⟩:=y13 h
   refine WC.y3r (fun(a:Int)=>(u a=some r)) (fun a=>[(4,(vp g)),(9,(vp n))]) (fun a=>[stb g 175 [(vi 0),(vi 0)],stb n 175 [(vi a),C]]) ?_ ?_
   ·skip
    refine WC.b<|Ld<|La U<|La U<|La U<|La U<|Le 42 (q_bneq underlying4 U U)<|WL.nil<|Lb<|WC.cond U (fun f=>?_)<|fun f=>?_
    ·replace h:=yr h f
     refine Ld<|Le 43 (ya y2G U U)<|Le 44 (yc yq U<|yh .here U)<|Le 45 (q_neg U U)<|Le 46 (ya y2G U U)<|Lk U U (y4L (ds:=[(vi<|i64 (0-A)),C]) ybO U U U U U .here U U)<|WL.nil ?_
     exact Ln (i64 (0-A)) h (.r2 U U)<|.s2 .h1 .here
    ·replace h:=ys h f
     refine WC.skip ?_
     exact Ln A h (.r2 U U)<|.s2 .h1 .here
   ·rintro a h
    replace h:=(x a).symm.trans h
    refine WC.b<|Ld<|Le 47 (yi zg U (yj .h1) U)<|Lk U U (yl zy U U U .here U U U)<|La U<|WL.nil<|Lb<|WC.ret ?_
    obtain rfl:=oJ h
    refine Lh results160 (.agg U zg U (yj .here)<|.tmp U .nil)<|fun w hw=>?_
    exact⟨y1T U U,hw.sub .nil⟩
def y40(b:zs)(d:List (List ze))(e:List (zP×z2))(f:List (z8×Int))(g:Int)(a:Int):Option z2:=
 chk ((0:Int)<=a/\a<(b.fVLs.length:Int)) ((y5G ((nth b.fVLs a).fMax) ((nth b.fVLs a).fBag)).bind fun c=>some c.1)
theorem y8c{Z:Zp}{a:Nat}{b:Nat}{c:List (zP×z2)}{r:z2}(h:y40 k s c g t D=some r)(w₀:World)(hz:PZ (fps [yn a (fun x=>Value.agg (y2P x).toArray) (fun x=>Value.agg (yx x).toArray) c,yn b (fun x=>Value.agg (yE x).toArray) (Value.int .i64) g]) w₀ Z)(y:ZS Z 4 (y3F Z) m n k.fM)(A:ZS Z 4 (y4l Z) C p k.fC0)(B:ZS Z 4 (fun r x=>r=e64 x) E z k.fS)(G:ZS Z 4 (fun r x=>r=e62 x) F H k.fK)(d:ZS Z 7 (p69 Z) J K k.fVLs)(I:ZS Z 5 (fun r x=>r=y4D x) L M k.fH)(R:ZS Z 3 (y4m Z) N O k.fU)(S:ZS Z 4 (fun r x=>r=y4E x) P Q k.fV0)(T:ZS Z 1 (p58 Z) X Y s)(f:ZC Z q [(vs m k.fM.length n),(vs C k.fC0.length p),(vs E k.fS.length z),(vs F k.fK.length H),(vs J k.fVLs.length K),(vs L k.fH.length M),(vs N k.fU.length O),(vs P k.fV0.length Q),(vs X s.length Y),(.map (some a)),(.map (some b)),(vi t)])(hown:Hp (fps [yn a (fun x=>Value.agg (y2P x).toArray) (fun x=>Value.agg (yx x).toArray) c,yn b (fun x=>Value.agg (yE x).toArray) (Value.int .i64) g]) w₀ w₀ [yn a (fun x=>Value.agg (y2P x).toArray) (fun x=>Value.agg (yx x).toArray) c,yn b (fun x=>Value.agg (yE x).toArray) (Value.int .i64) g]):
  Calls Tryz.prog 121 #[(vq q),(vi D)] w₀ fun e w'=>e = .returned (.agg #[(vi r.fN),(vi r.fD)])/\Hp (fps [yn a (fun x=>Value.agg (y2P x).toArray) (fun x=>Value.agg (yx x).toArray) c,yn b (fun x=>Value.agg (yE x).toArray) (Value.int .i64) g]) w₀ w' [yn a (fun x=>Value.agg (y2P x).toArray) (fun x=>Value.agg (yx x).toArray) c,yn b (fun x=>Value.agg (yE x).toArray) (Value.int .i64) g]:=by
 unfold y40 at h
 refine Kf func121 ntmps121 hown ?_
 refine WC.b<|Ld (Lg 4 (yu (cs:=[(vi 0),(vi 0)]) zX U) fun V _=>WL.nil<|Lb<|WC.b ?_)
 obtain⟨l,h⟩:=yo h
 obtain⟨an,o,h⟩:=za h
 refine Lx (fun i=>[23].contains i) [] U<|Lf 0 8 U (fun _=>q_m U)<|Lf 1 9 U (fun _=>y1d U)<|Lf 2 10 U (fun _=>ya y6o U U)<|Lf 3 11 U (fun _=>ya y7U U U)<|Li 4 12 U (yc y7V U<|y1b hz.pv f U)<|Lf 5 13 U (fun _=>q_m U)<|L7 (j:=6) (dd:=14) (by kernel_rfl) U z2k z2l U U (Z:=Z) (Pr:=(p69 Z)) y9U U U d l ?_
 rintro W aa u ab ⟨ad,ae,rfl,af⟩
 refine Lf 7 15 U (fun _=>ya y7W U U)<|Li 8 16 U (yc yq U<|y1b hz.pv u U)<|Lf 9 17 U (fun _=>q_m U)<|Lf 10 18 U (fun _=>y1d U)<|Lf 11 19 U (fun _=>ya y6o U U)<|Lf 12 20 U (fun _=>ya y7U U U)<|Li 13 21 U (yc y7V U<|y1b hz.pv f U)<|Lf 14 22 U (fun _=>q_m U)<|L7 (j:=15) (dd:=23) (by kernel_rfl) U z2k z2l U U (Z:=Z) (Pr:=(p69 Z)) y9U U U d l ?_
 rintro ag ah v ai ⟨aj,ak,rfl,al⟩
 refine Lf 16 24 U (fun _=>ya ygd U U)<|Li 17 25 U (yc yq U<|y1b hz.pv v U)<|L4 18 26 U (zb call160<|.r2 U U) (cc hz .nil fun w pz ho=>y93 o w pz )<|Lf 19 7 U (fun _=>q_m U)<|Lf 20 27 U (fun _=>y8D U U)<|Lf 21 28 U (fun _=>y8D U U) (WD.new (i:=22) (dd:=5) U (by kernel_rfl) U U U (yu (cs:=[(vi 0),(vi 0)]) zX U) (fun h'=>absurd h' (by decide)) fun am _=>WD.forced0 (i:=23) U (by kernel_rfl) U U U (Sin.of .nil) (yl zy U U U .here U U U)<|Lf 24 6 U (fun _=>q_z U)<|WD.done (by kernel_rfl)<|Lb<|WC.b<|Ld<|Le 29 (yi zg U (yj .here) U)<|Lk U U (yl zy U U U .h1 U U U)<|WL.nil<|Lb<|WC.ret ?_)
 obtain rfl:=oJ h
 refine Lh results121 (.agg U zg U (yj .here) .nil)<|fun w hw=>?_
 exact⟨yD U,hw.sub (.s2 .h2 .h2)⟩
def y1Y(a:z2):Option Bool:=
 (if (((decide (a.fD>=1))&&(decide (a.fD<=1073741824)))&&(decide (a.fN>=(-1073741824))))&&(decide (a.fN<=1073741824)) then(y6h a.fN).bind fun b=>(y6h a.fD).bind fun c=>(y55 b c).bind fun d=>some (decide (d=1)) else some false).bind fun e=>some e
theorem y2W{Z:Zp}{r:Bool}(h:y1Y f=some r)(w₀:World)(hz:PZ [] w₀ Z):
  Calls Tryz.prog 130 #[(.agg #[(vi f.fN),(vi f.fD)])] w₀ fun e w'=>e = .returned (.bool r)/\Hp [] w₀ w' []:=by
 unfold y1Y at h
 refine L5 func130 ntmps130 ?_
 refine WC.b<|Ld (Lg 1 (yI (cs:=[(vi f.fN),(vi f.fD)]) U U) fun b _=>La U<|WL.nil<|Lb<|WC.b ?_)
 obtain⟨v,p,h⟩:=za h
 let D:Value:=(.bool ((decide (f.fD>=1))&&(decide (f.fD<=1073741824))));refine Lx (fun i=>[].contains i) [] U (Lf 0 3 U (fun _=>ya y34 U U) (Li 1 4 U (yc yq U (yh .here U)) (Lf 2 5 U (fun _=>q_geq U U) (Lf 3 6 U (fun _=>q_m U) (Ke (fuel':=21) [(1,(vp b)),(2,(.bool false)),(6,(.bool (decide (f.fD>=1)))),(10,D)] (y2e 29 (dn 8)) ?_ (fun q=>?_))))))
 rotate_left
 ·rcases Bool.eq_false_or_eq_true (decide (f.fD>=1)) with hb' | hb'
  ·have c:=hb';clear hb'
   refine L3 (i:=6) U c<|Lf 4 7 U (fun _=>ya y34 U U)<|Li 5 8 U (yc yq U<|yh .here U)<|Lf 6 9 U (fun _=>q_leq U U)<|Lf 7 10 U (fun _=>y4o U U)<|Ly (.cons .here .nil) ?_ q
   exact .r4 U U (zO<|Eq.symm c)<|zO<|y4g c
  ·have d:=hb';clear hb'
   refine L3 (i:=6) U d<|Lp 4 7 U<|Lp 5 8 U<|Lp 6 9 U<|Lf 7 10 U (fun _=>y4p U U)<|Ly (.cons .here .nil) ?_ q
   exact .r4 U U (zO<|Eq.symm d)<|zO<|y4f d
 let C:Value:=(.bool (((decide (f.fD>=1))&&(decide (f.fD<=1073741824)))&&(decide (f.fN>=(-1073741824)))));refine WD.d (bz 8 21) (by kernel_rfl) (Lf 8 11 U (fun _=>q_m U) (Ke (fuel':=16) [(1,(vp b)),(2,(.bool false)),(11,D),(15,C)] (y2e 29 (dn 13)) ?_ (fun s=>?_)))
 rotate_left
 ·rcases Bool.eq_false_or_eq_true ((decide (f.fD>=1))&&(decide (f.fD<=1073741824))) with hb' | hb'
  ·have g:=hb';clear hb'
   refine L3 (i:=11) U g<|Lf 9 12 U (fun _=>ya y2G U U)<|Li 10 13 U (yc yq U<|yh .here U)<|Lf 11 14 U (fun _=>q_geq U U)<|Lf 12 15 U (fun _=>y4o U U)<|Ly (.cons .here .nil) ?_ s
   exact .r4 U U (zO<|Eq.symm g)<|zO<|y4g g
  ·have j:=hb';clear hb'
   refine L3 (i:=11) U j<|Lp 9 12 U<|Lp 10 13 U<|Lp 11 14 U<|Lf 12 15 U (fun _=>y4p U U)<|Ly (.cons .here .nil) ?_ s
   exact .r4 U U (zO<|Eq.symm j)<|zO<|y4f j
 let A:Value:=(.bool ((((decide (f.fD>=1))&&(decide (f.fD<=1073741824)))&&(decide (f.fN>=(-1073741824))))&&(decide (f.fN<=1073741824))));refine WD.d (bz 13 16) (by kernel_rfl) (Lf 13 16 U (fun _=>q_m U) (Ke (fuel':=11) [(1,(vp b)),(2,(.bool false)),(16,C),(20,A)] (y2e 29 (dn 18)) ?_ (fun t=>?_)))
 rotate_left
 ·rcases Bool.eq_false_or_eq_true (((decide (f.fD>=1))&&(decide (f.fD<=1073741824)))&&(decide (f.fN>=(-1073741824)))) with hb' | hb'
  ·have k:=hb';clear hb'
   refine L3 (i:=16) U k<|Lf 14 17 U (fun _=>ya y2G U U)<|Li 15 18 U (yc yq U<|yh .here U)<|Lf 16 19 U (fun _=>q_leq U U)<|Lf 17 20 U (fun _=>y4o U U)<|Ly (.cons .here .nil) ?_ t
   exact .r4 U U (zO<|Eq.symm k)<|zO<|y4g k
  ·have l:=hb';clear hb'
   refine L3 (i:=16) U l<|Lp 14 17 U<|Lp 15 18 U<|Lp 16 19 U<|Lf 17 20 U (fun _=>y4p U U)<|Ly (.cons .here .nil) ?_ t
   exact .r4 U U (zO<|Eq.symm l)<|zO<|y4f l
 refine WD.d (bz 18 11) (by kernel_rfl)<|Lf 18 21 U (fun _=>q_m U)<|Ke (fuel':=1) [(2,(.bool false)),(21,A),(30,(.bool v))] (y2e 29 (dn 28)) ?_<|fun u=>?_
 rotate_left
 ·rcases Bool.eq_false_or_eq_true ((((decide (f.fD>=1))&&(decide (f.fD<=1073741824)))&&(decide (f.fN>=(-1073741824))))&&(decide (f.fN<=1073741824))) with hb' | hb'
  ·have m:=hb';clear hb'
   have a:=yr p m
   obtain⟨B,x,a⟩:=za a
   obtain⟨E,y,a⟩:=za a
   obtain⟨F,z,a⟩:=za a
   replace a:=oJ a
   refine L3 (i:=21) U m<|Lf 19 22 U (fun _=>ya y2G U U)<|Li 20 23 U (yc yq U<|yh .here U)<|L4 21 24 U (zb call166<|.cons U .nil) (cc hz .nil fun w pz ho=>yat x w pz )<|Lf 22 25 U (fun _=>ya y34 U U)<|Li 23 26 U (yc yq U<|yh .here U)<|L4 24 27 U (zb call166<|.cons U .nil) (cc hz .nil fun w pz ho=>yat y w pz )<|L4 25 28 U (zb call165<|.r2 U U) (cc hz .nil fun w pz ho=>yaV z w pz )<|Lf 26 29 U (fun _=>ycd U U)<|Lf 27 30 U (fun _=>y4o U U)<|Ly (.cons .here .nil) ?_ u
   exact .r3 U (zO<|Eq.symm m)<|zO a
  ·have n:=hb';clear hb'
   have o:=ys p n
   replace o:=oJ o
   refine L3 (i:=21) U n<|Lp 19 22 U<|Lp 20 23 U<|Lp 21 24 U<|Lp 22 25 U<|Lp 23 26 U<|Lp 24 27 U<|Lp 25 28 U<|Lp 26 29 U<|Lf 27 30 U (fun _=>y4p U U)<|Ly (.cons .here .nil) ?_ u
   exact .r3 U (zO<|Eq.symm n)<|zO o
 refine WD.d (bz 28 1) (by kernel_rfl)<|Lf 28 2 U (fun _=>q_z U)<|WD.done (by kernel_rfl)<|Lb<|WC.ret ?_
 obtain rfl:=oJ h
 refine Lh results130 (.tmp U .nil)<|fun w hw=>?_
 exact⟨yD U,hw.sub .nil⟩
def yau(a:z2)(b:z2):Option (Int×Int):=
 some ((i64 (a.fN*b.fN)),(i64 (a.fD*b.fD)))
theorem yjK{Z:Zp}{r:Int×Int}(h:yau f u=some r)(w₀:World)(hz:PZ [] w₀ Z)(a:ZC Z q [(vi f.fN),(vi f.fD)])(b:ZC Z v [(vi u.fN),(vi u.fD)]):
  Calls Tryz.prog 189 #[(vq q),(vq v)] w₀ fun e w'=>e = .returned (.tuple #[(vi r.1),(vi r.2)])/\Hp [] w₀ w' []:=by
 unfold yau at h
 refine Lz func189 ntmps189 ?_
 refine WC.b<|Ld<|La U<|La U<|WL.nil<|Lb<|WC.b<|Lx (fun i=>[].contains i) [] U<|Lf 0 4 U (fun _=>ya y2G U U)<|Li 1 5 U (yc yq U<|y1b hz.pv a U)<|Lf 2 6 U (fun _=>ya y2G U U)<|Li 3 7 U (yc yq U<|y1b hz.pv b U)<|Lf 4 8 U (fun _=>y7p U U U)<|Lf 5 9 U (fun _=>ya y34 U U)<|Li 6 10 U (yc yq U<|y1b hz.pv a U)<|Lf 7 11 U (fun _=>ya y34 U U)<|Li 8 12 U (yc yq U<|y1b hz.pv b U)<|Lf 9 13 U (fun _=>y7p U U U)<|Lf 10 2 U (fun _=>q_z U)<|Lf 11 3 U (fun _=>q_z U)<|WD.done (by kernel_rfl)<|Lb<|WC.ret ?_
 obtain rfl:=oJ h
 refine Lh results189 (.tmp U<|.tmp U .nil)<|fun w hw=>?_
 exact⟨y1T U U,hw.sub .nil⟩
def yaW(a:z2)(b:z2):Option (z2×Int):=
 (y1Y a).bind fun e=>(if !e then some true else(y1Y b).bind fun f=>some (!f)).bind fun g=>if g then some ((⟨0,0⟩:z2),2) else(yau a b).bind fun c=>(y5G c.1 c.2).bind fun d=>some (d.1,d.2)
theorem w_rat_do{Z:Zp}{r:z2×Int}(h:yaW f u=some r)(w₀:World)(hz:PZ [] w₀ Z):
  Calls Tryz.prog 159 #[(.string ⟨#[42]⟩),(.agg #[(vi f.fN),(vi f.fD)]),(.agg #[(vi u.fN),(vi u.fD)])] w₀ fun e w'=>e = .returned (.tuple #[(.agg #[(vi r.1.fN),(vi r.1.fD)]),(vi r.2)])/\Hp [] w₀ w' []:=by
 unfold yaW at h
 refine Kd func159 ntmps159 ?_
 refine WC.b<|Ld (Lg 4 (yI (cs:=[(vi f.fN),(vi f.fD)]) U U) fun b _=>Lg 5 (yI (cs:=[(vi u.fN),(vi u.fD)]) U U) fun c _=>Lg 6 (yu (cs:=[(vi 0),(vi 0)]) zX U) fun s _=>La U<|WL.nil<|Lb<|WC.b<|WC.b ?_)
 obtain⟨y,j,h⟩:=za h
 obtain⟨g,i,h⟩:=za h
 refine Ld<|Le 9 (yi zg U (yj .h2) U)<|Ll 10 (zb call130<|.cons U .nil) .nil (cc hz .nil fun w pz ho=>y2W j w pz )<|La U<|La U<|Lu false 3 12 (B:=g) U U U U U U (fun h=>(oJ<|yr i h).symm) (fun _ m=>?_) ?_
 ·skip
  have a:=ys i m
  obtain⟨z,n,a⟩:=za a
  replace a:=oJ a
  refine Le 13 (yi zg U (yj .h1) U)<|Ll 14 (zb call130<|.cons U .nil) .nil (cc hz .nil fun w pz ho=>y2W n w pz )<|La U<|La U ?_
  exact Lv a U U .all
 refine La U<|Lu false 7 17 (B:=g) U U U U U U (fun h=>h) (fun _ o=>?_) ?_
 ·skip
  refine La U<|Le 19 (ydZ (r:=false) (by decide) U U)<|La U<|WL.e U U U<|WL.e U U U<|WL.e U U U<|La U<|La U ?_
  exact Lv (Eq.symm o) U U .all
 refine WL.nil<|Lb<|WC.cond U (fun d=>?_)<|fun d=>?_
 ·replace h:=yr h d
  refine WC.b<|Ld<|Le 26 (yN (v:=(.agg #[(vi 0),(vi 0)])) (Lo (l:=[]) .nil []) (fun _=>by kernel_rfl))<|Lk U U (yl zy U U U .here U U U)<|La U<|WL.nil<|Lb<|WC.ret<|Lj ?_
  obtain rfl:=oJ h
  refine Lh results159 (.agg U zg U (yj .here)<|.tmp U .nil)<|fun w hw=>?_
  exact⟨y1T U U,hw.sub .nil⟩
 ·replace h:=ys h d
  refine WC.skip<|Lb<|WC.b<|Ld<|Lg 27 (y3n Value.string<|fun x=>x) ?_
  intro t _
  let A:Value:=(.func (.func 189) #[] #[(vp b),(vp c)]);refine Le 28 (y15 (L2 (l:=[.tmp 4,.tmp 5]) (.r2 U U))) (Lk U U (y3X (k:=⟨#[43]⟩) (v:=(.func (.func 187) #[] #[(vp b),(vp c)])) y4q underlying304 U U U U .here) (Le 29 (y15 (L2 (l:=[.tmp 4,.tmp 5]) (.r2 U U))) (Lk U U (y3X (k:=⟨#[45]⟩) (v:=(.func (.func 188) #[] #[(vp b),(vp c)])) y4q underlying304 U U U U .here) (Le 30 (y15 (L2 (l:=[.tmp 4,.tmp 5]) (.r2 U U))) (Lk U U (y3X (k:=⟨#[42]⟩) (v:=A) y4q underlying304 U U U U .here) (Le 31 (y15 (L2 (l:=[.tmp 4,.tmp 5]) (.r2 U U))) (Lk U U (y3X (k:=⟨#[47]⟩) (v:=(.func (.func 190) #[] #[(vp b),(vp c)])) y4q underlying304 U U U U .here) (La U (La U (WL.nil (Lb (WC.b ?_))))))))))))
  obtain⟨C,p,h⟩:=za h
  obtain⟨D,q,h⟩:=za h
  refine Ld<|La U<|La U<|Le 35 (ydY (k:=⟨#[42]⟩) (dflt:=.nilFunc) (r:=A) y4q underlying304 zoB U U U .here (by rfl))<|Ll 36 (y2M (l:=[]) call189 U .nil) .nil (ccl hz .nil (.s2 .h3 .h2) fun w pz ho la=>yjK p w pz ((la _ (.head _) _).stb)<|(la _ (.tail _<|.head _) _).stb)<|La U<|La U<|Ll 39 (zb call160<|.r2 U U) .nil (cc hz .nil fun w pz ho=>y93 q w pz )<|La U<|La U<|Lk U U (yl zy U U U .h1 U U U)<|La U<|WL.nil<|Lb<|WC.ret ?_
  obtain rfl:=oJ h
  refine Lh results159 (.agg U zg U (yj .here)<|.tmp U .nil)<|fun w hw=>?_
  exact⟨y1T U U,hw.sub .nil⟩
def y3J(b:z2)(c:z2):Option (z2×Int):=
 (yaW b c).bind fun a=>some (a.1,a.2)
theorem ydp{Z:Zp}{r:z2×Int}(h:y3J f u=some r)(w₀:World)(hz:PZ [] w₀ Z):
  Calls Tryz.prog 120 #[(.agg #[(vi f.fN),(vi f.fD)]),(.agg #[(vi u.fN),(vi u.fD)])] w₀ fun e w'=>e = .returned (.tuple #[(.agg #[(vi r.1.fN),(vi r.1.fD)]),(vi r.2)])/\Hp [] w₀ w' []:=by
 unfold y3J at h
 refine Lz func120 ntmps120 ?_
 refine WC.b<|Ld (Lg 2 (yI (cs:=[(vi f.fN),(vi f.fD)]) U U) fun b _=>Lg 3 (yI (cs:=[(vi u.fN),(vi u.fD)]) U U) fun c _=>Lg 4 (yu (cs:=[(vi 0),(vi 0)]) zX U) fun d _=>La U<|WL.nil<|Lb<|WC.b ?_)
 obtain⟨g,a,h⟩:=za h
 refine Ld<|Le 6 (yi zg U (yj .h2) U)<|Le 7 (yi zg U (yj .h1) U)<|Ll 8 (zb call159<|.r3 U U U) .nil (cc hz .nil fun w pz ho=>w_rat_do a w pz )<|La U<|La U<|Lk U U (yl zy U U U .here U U U)<|La U<|WL.nil<|Lb<|WC.ret ?_
 obtain rfl:=oJ h
 refine Lh results120 (.agg U zg U (yj .here)<|.tmp U .nil)<|fun w hw=>?_
 exact⟨y1T U U,hw.sub .nil⟩
def y45(k:zs)(h:List (List ze))(i:List (zP×z2))(j:List (z8×Int))(b:Int)(zdy:z2->z2->Option (z2×Int))(e:z2)(f:z2):Option (z2×Int):=
 (zdy e f).bind fun a=>jp1 (fun(c:Int)=>if decide (a.2≠0) then(y2L 0).bind fun g=>some (g,c) else some (a.1,c)) fun d=>if decide (b=0) then d a.2 else d b
theorem y7s(Z:Zp)(g:Nat)(i:Option Addr)(j:Nat)(k:Option Addr)(m:Nat)(n:Option Addr)(o:Nat)(p:Option Addr)(q:Nat)(s:Option Addr)(t:Nat)(u:Option Addr)(v:Nat)(y:Option Addr)(z:Nat)(B:Option Addr)(K:Nat)(L:Option Addr)(M:Nat)(b:Nat)(c:Nat)(zbu:FuncId)(zfM:List Value)(a:zs)(d:List (List ze))(N:List (zP×z2))(O:List (z8×Int))(P:Int)(zdy:z2->z2->Option (z2×Int))(Q:z2)(R:z2)(r:z2×Int)(h:y45 a d N O P zdy Q R=some r)(w₀:World)(hz:PZ (fps [stb g 119 [(vs i a.fM.length j),(vs k a.fC0.length m),(vs n a.fS.length o),(vs p a.fK.length q),(vs s a.fVLs.length t),(vs u a.fH.length v),(vs y a.fU.length z),(vs B a.fV0.length K),(vs L d.length M),(.map (some b)),(.map (some c)),(vi P)],yn b (fun x=>Value.agg (y2P x).toArray) (fun x=>Value.agg (yx x).toArray) N,yn c (fun x=>Value.agg (yE x).toArray) (Value.int .i64) O]) w₀ Z)(ah:ZS Z 4 (y3F Z) i j a.fM)(ai:ZS Z 4 (y4l Z) k m a.fC0)(aj:ZS Z 4 (fun r x=>r=e64 x) n o a.fS)(ak:ZS Z 4 (fun r x=>r=e62 x) p q a.fK)(al:ZS Z 7 (p69 Z) s t a.fVLs)(am:ZS Z 5 (fun r x=>r=y4D x) u v a.fH)(an:ZS Z 3 (y4m Z) y z a.fU)(ao:ZS Z 4 (fun r x=>r=y4E x) B K a.fV0)(ap:ZS Z 1 (p58 Z) L M d)(aa:∀ args w,(callFunc zbu args).run Tryz.prog w = .ok (.enter zbu args) w)(ab:∀ w:World,PZ [] w Z->∀(x0:z2) (x1:z2) (r:z2×Int),zdy x0 x1=some r->Calls Tryz.prog zbu (([(.agg #[(vi x0.fN),(vi x0.fD)]),(.agg #[(vi x1.fN),(vi x1.fD)])]:List Value)++zfM).toArray w fun e w'=>e = .returned (.tuple #[(.agg #[(vi r.1.fN),(vi r.1.fD)]),(vi r.2)])/\Hp [] w w' [])(hown:Hp (fps [stb g 119 [(vs i a.fM.length j),(vs k a.fC0.length m),(vs n a.fS.length o),(vs p a.fK.length q),(vs s a.fVLs.length t),(vs u a.fH.length v),(vs y a.fU.length z),(vs B a.fV0.length K),(vs L d.length M),(.map (some b)),(.map (some c)),(vi P)],yn b (fun x=>Value.agg (y2P x).toArray) (fun x=>Value.agg (yx x).toArray) N,yn c (fun x=>Value.agg (yE x).toArray) (Value.int .i64) O]) w₀ w₀ [stb g 119 [(vs i a.fM.length j),(vs k a.fC0.length m),(vs n a.fS.length o),(vs p a.fK.length q),(vs s a.fVLs.length t),(vs u a.fH.length v),(vs y a.fU.length z),(vs B a.fV0.length K),(vs L d.length M),(.map (some b)),(.map (some c)),(vi P)],yn b (fun x=>Value.agg (y2P x).toArray) (fun x=>Value.agg (yx x).toArray) N,yn c (fun x=>Value.agg (yE x).toArray) (Value.int .i64) O]):
  Calls Tryz.prog 118 #[(vp g),(.func (.func zbu) #[] (zfM).toArray),(.agg #[(vi Q.fN),(vi Q.fD)]),(.agg #[(vi R.fN),(vi R.fD)])] w₀ fun e w'=>e = .returned (.agg #[(vi r.1.fN),(vi r.1.fD)])/\Hp (fps [stb g 119 [(vs i a.fM.length j),(vs k a.fC0.length m),(vs n a.fS.length o),(vs p a.fK.length q),(vs s a.fVLs.length t),(vs u a.fH.length v),(vs y a.fU.length z),(vs B a.fV0.length K),(vs L d.length M),(.map (some b)),(.map (some c)),(vi P)],yn b (fun x=>Value.agg (y2P x).toArray) (fun x=>Value.agg (yx x).toArray) N,yn c (fun x=>Value.agg (yE x).toArray) (Value.int .i64) O]) w₀ w' [stb g 119 [(vs i a.fM.length j),(vs k a.fC0.length m),(vs n a.fS.length o),(vs p a.fK.length q),(vs s a.fVLs.length t),(vs u a.fH.length v),(vs y a.fU.length z),(vs B a.fV0.length K),(vs L d.length M),(.map (some b)),(.map (some c)),(vi r.2)],yn b (fun x=>Value.agg (y2P x).toArray) (fun x=>Value.agg (yx x).toArray) N,yn c (fun x=>Value.agg (yE x).toArray) (Value.int .i64) O]:=by
 unfold y45 at h
 refine Calls.oh4 func118 ntmps118 hown ?_
 refine WC.b<|Ld (Lg 6 (yI (cs:=[(vi Q.fN),(vi Q.fD)]) U U) fun aq _=>Lg 7 (yI (cs:=[(vi R.fN),(vi R.fD)]) U U) fun ar _=>Lg 8 (yu (cs:=[(vi 0),(vi 0)]) zX U) fun X _=>WL.nil<|Lb<|WC.b ?_)
 obtain⟨S,ad,h⟩:=za h
 refine Ld<|La U<|Le 13 (yi zg U (yj .h2) U)<|Le 14 (yi zg U (yj .h1) U)<|Ll 15 (y2M (l:=[.tmp 13,.tmp 14]) (f:=zbu) (caps:=zfM) aa U<|.r2 U U) .nil (fun w hw=>ab w (hz.now hw) Q R S  ad)<|La U<|La U<|La U (Lg 9 (yu (cs:=[(vi 0),(vi 0)]) zX U) fun Y _=>Lk U U (yl zy U U U .here U U U)<|La U<|WL.nil<|Lb ?_)
 obtain⟨ae,af,h⟩:=y13 h
 let A:Value:=(vs s a.fVLs.length t);let C:Value:=(vs k a.fC0.length m);let D:Value:=(vs B a.fV0.length K);let E:Value:=(vs i a.fM.length j);let F:Value:=(vs n a.fS.length o);let G:Value:=(vs p a.fK.length q);let H:Value:=(vs u a.fH.length v);let I:Value:=(vs y a.fU.length z);let J:Value:=(vs L d.length M);refine WC.y3r (fun(T:Int)=>(ae T=some r)) (fun T=>[(8,(vp X)),(9,(vp Y)),(10,(vi S.2))]) (fun T=>[stb X 175 [(vi 0),(vi 0)],stb Y 175 [(vi S.1.fN),(vi S.1.fD)],stb g 119 [E,C,F,G,A,H,I,D,J,(.map (some b)),(.map (some c)),(vi T)],yn b (fun x=>Value.agg (y2P x).toArray) (fun x=>Value.agg (yx x).toArray) N,yn c (fun x=>Value.agg (yE x).toArray) (Value.int .i64) O]) ?_ ?_
 ·skip
  refine WC.b<|Ld<|La U<|Le 19 (y1d U)<|Le 20 (ya y9u U U)<|Le 21 (yc y3t U<|yh .h4 U)<|La U<|WL.nil<|Lb<|WC.cond U (fun V=>?_)<|fun V=>?_
  ·replace h:=yr h V
   refine Ld<|La U<|La U<|Le 25 (y1d U)<|Le 26 (ya y9u U U)<|Lk U U (y4L (ds:=[E,C,F,G,A,H,I,D,J,(.map<|some b),(.map<|some c),(vi S.2)]) ybP U U U U U .h4 U U)<|WL.nil ?_
   exact Ln S.2 h (.r3 U U U)<|.s5 .h2 .h1 .here .h2 .h2
  ·replace h:=ys h V
   refine WC.skip ?_
   exact Ln P h (.r3 U U U)<|.s5 .h1 .here .h2 .h2 .h2
 ·rintro T h
  replace h:=(af T).symm.trans h
  refine WC.b<|WC.b<|Ld<|La U<|La U<|WL.nil<|Lb<|WC.cond U (fun W=>?_)<|fun W=>?_
  ·replace h:=yr h W
   refine WC.b ?_
   obtain⟨au,ag,h⟩:=za h
   refine Ld<|Ll 29 (zb call80<|.cons U .nil) .nil (cc hz .nil fun w pz ho=>y5w ag w pz )<|Lk U U (yl zy U U U .here U U U)<|WL.nil<|Lb<|WC.ret<|Lj ?_
   obtain rfl:=oJ h
   refine Lh results118 (.agg U zg U (yj .here) .nil)<|fun w hw=>?_
   exact⟨yD U,hw.sub (.s3 .h2 .h2 .h2)⟩
  ·replace h:=ys h W
   refine WC.skip<|Lb<|WC.b<|Ld<|Le 30 (yi zg U (yj .h1) U)<|Lk U U (yl zy U U U .here U U U)<|WL.nil<|Lb<|WC.ret ?_
   obtain rfl:=oJ h
   refine Lh results118 (.agg U zg U (yj .here) .nil)<|fun w hw=>?_
   exact⟨yD U,hw.sub (.s3 .h2 .h2 .h2)⟩
def yav(a:z2)(b:z2):Option (Int×Int):=
 some ((i64 ((i64 (a.fN*b.fD))+(i64 (b.fN*a.fD)))),(i64 (a.fD*b.fD)))
theorem yjL{Z:Zp}{r:Int×Int}(h:yav f u=some r)(w₀:World)(hz:PZ [] w₀ Z)(a:ZC Z q [(vi f.fN),(vi f.fD)])(b:ZC Z v [(vi u.fN),(vi u.fD)]):
  Calls Tryz.prog 187 #[(vq q),(vq v)] w₀ fun e w'=>e = .returned (.tuple #[(vi r.1),(vi r.2)])/\Hp [] w₀ w' []:=by
 unfold yav at h
 refine Lz func187 ntmps187 ?_
 refine WC.b<|Ld<|La U<|La U<|WL.nil<|Lb<|WC.b<|Lx (fun i=>[].contains i) [] U<|Lf 0 4 U (fun _=>ya y2G U U)<|Li 1 5 U (yc yq U<|y1b hz.pv a U)<|Lf 2 6 U (fun _=>ya y34 U U)<|Li 3 7 U (yc yq U<|y1b hz.pv b U)<|Lf 4 8 U (fun _=>y7p U U U)<|Lf 5 9 U (fun _=>ya y2G U U)<|Li 6 10 U (yc yq U<|y1b hz.pv b U)<|Lf 7 11 U (fun _=>ya y34 U U)<|Li 8 12 U (yc yq U<|y1b hz.pv a U)<|Lf 9 13 U (fun _=>y7p U U U)<|Lf 10 14 U (fun _=>y9H U U U)<|Lf 11 15 U (fun _=>ya y34 U U)<|Li 12 16 U (yc yq U<|y1b hz.pv a U)<|Lf 13 17 U (fun _=>ya y34 U U)<|Li 14 18 U (yc yq U<|y1b hz.pv b U)<|Lf 15 19 U (fun _=>y7p U U U)<|Lf 16 2 U (fun _=>q_z U)<|Lf 17 3 U (fun _=>q_z U)<|WD.done (by kernel_rfl)<|Lb<|WC.ret ?_
 obtain rfl:=oJ h
 refine Lh results187 (.tmp U<|.tmp U .nil)<|fun w hw=>?_
 exact⟨y1T U U,hw.sub .nil⟩
def y9W(a:z2)(b:z2):Option (z2×Int):=
 (y1Y a).bind fun e=>(if !e then some true else(y1Y b).bind fun f=>some (!f)).bind fun g=>if g then some ((⟨0,0⟩:z2),2) else(yav a b).bind fun c=>(y5G c.1 c.2).bind fun d=>some (d.1,d.2)
theorem ykj{Z:Zp}{r:z2×Int}(h:y9W f u=some r)(w₀:World)(hz:PZ [] w₀ Z):
  Calls Tryz.prog 159 #[(.string ⟨#[43]⟩),(.agg #[(vi f.fN),(vi f.fD)]),(.agg #[(vi u.fN),(vi u.fD)])] w₀ fun e w'=>e = .returned (.tuple #[(.agg #[(vi r.1.fN),(vi r.1.fD)]),(vi r.2)])/\Hp [] w₀ w' []:=by
 unfold y9W at h
 refine Kd func159 ntmps159 ?_
 refine WC.b<|Ld (Lg 4 (yI (cs:=[(vi f.fN),(vi f.fD)]) U U) fun b _=>Lg 5 (yI (cs:=[(vi u.fN),(vi u.fD)]) U U) fun c _=>Lg 6 (yu (cs:=[(vi 0),(vi 0)]) zX U) fun s _=>La U<|WL.nil<|Lb<|WC.b<|WC.b ?_)
 obtain⟨y,j,h⟩:=za h
 obtain⟨g,i,h⟩:=za h
 refine Ld<|Le 9 (yi zg U (yj .h2) U)<|Ll 10 (zb call130<|.cons U .nil) .nil (cc hz .nil fun w pz ho=>y2W j w pz )<|La U<|La U<|Lu false 3 12 (B:=g) U U U U U U (fun h=>(oJ<|yr i h).symm) (fun _ m=>?_) ?_
 ·skip
  have a:=ys i m
  obtain⟨z,n,a⟩:=za a
  replace a:=oJ a
  refine Le 13 (yi zg U (yj .h1) U)<|Ll 14 (zb call130<|.cons U .nil) .nil (cc hz .nil fun w pz ho=>y2W n w pz )<|La U<|La U ?_
  exact Lv a U U .all
 refine La U<|Lu false 7 17 (B:=g) U U U U U U (fun h=>h) (fun _ o=>?_) ?_
 ·skip
  refine La U<|Le 19 (ydZ (r:=false) (by decide) U U)<|La U<|WL.e U U U<|WL.e U U U<|WL.e U U U<|La U<|La U ?_
  exact Lv (Eq.symm o) U U .all
 refine WL.nil<|Lb<|WC.cond U (fun d=>?_)<|fun d=>?_
 ·replace h:=yr h d
  refine WC.b<|Ld<|Le 26 (yN (v:=(.agg #[(vi 0),(vi 0)])) (Lo (l:=[]) .nil []) (fun _=>by kernel_rfl))<|Lk U U (yl zy U U U .here U U U)<|La U<|WL.nil<|Lb<|WC.ret<|Lj ?_
  obtain rfl:=oJ h
  refine Lh results159 (.agg U zg U (yj .here)<|.tmp U .nil)<|fun w hw=>?_
  exact⟨y1T U U,hw.sub .nil⟩
 ·replace h:=ys h d
  refine WC.skip<|Lb<|WC.b<|Ld<|Lg 27 (y3n Value.string<|fun x=>x) ?_
  intro t _
  let A:Value:=(.func (.func 187) #[] #[(vp b),(vp c)]);refine Le 28 (y15 (L2 (l:=[.tmp 4,.tmp 5]) (.r2 U U))) (Lk U U (y3X (k:=⟨#[43]⟩) (v:=A) y4q underlying304 U U U U .here) (Le 29 (y15 (L2 (l:=[.tmp 4,.tmp 5]) (.r2 U U))) (Lk U U (y3X (k:=⟨#[45]⟩) (v:=(.func (.func 188) #[] #[(vp b),(vp c)])) y4q underlying304 U U U U .here) (Le 30 (y15 (L2 (l:=[.tmp 4,.tmp 5]) (.r2 U U))) (Lk U U (y3X (k:=⟨#[42]⟩) (v:=(.func (.func 189) #[] #[(vp b),(vp c)])) y4q underlying304 U U U U .here) (Le 31 (y15 (L2 (l:=[.tmp 4,.tmp 5]) (.r2 U U))) (Lk U U (y3X (k:=⟨#[47]⟩) (v:=(.func (.func 190) #[] #[(vp b),(vp c)])) y4q underlying304 U U U U .here) (La U (La U (WL.nil (Lb (WC.b ?_))))))))))))
  obtain⟨C,p,h⟩:=za h
  obtain⟨D,q,h⟩:=za h
  refine Ld<|La U<|La U<|Le 35 (ydY (k:=⟨#[43]⟩) (dflt:=.nilFunc) (r:=A) y4q underlying304 zoB U U U .here (by rfl))<|Ll 36 (y2M (l:=[]) call187 U .nil) .nil (ccl hz .nil (.s2 .h3 .h2) fun w pz ho la=>yjL p w pz ((la _ (.head _) _).stb)<|(la _ (.tail _<|.head _) _).stb)<|La U<|La U<|Ll 39 (zb call160<|.r2 U U) .nil (cc hz .nil fun w pz ho=>y93 q w pz )<|La U<|La U<|Lk U U (yl zy U U U .h1 U U U)<|La U<|WL.nil<|Lb<|WC.ret ?_
  obtain rfl:=oJ h
  refine Lh results159 (.agg U zg U (yj .here)<|.tmp U .nil)<|fun w hw=>?_
  exact⟨y1T U U,hw.sub .nil⟩
def y1q(b:z2)(c:z2):Option (z2×Int):=
 (y9W b c).bind fun a=>some (a.1,a.2)
theorem y6U{Z:Zp}{r:z2×Int}(h:y1q f u=some r)(w₀:World)(hz:PZ [] w₀ Z):
  Calls Tryz.prog 119 #[(.agg #[(vi f.fN),(vi f.fD)]),(.agg #[(vi u.fN),(vi u.fD)])] w₀ fun e w'=>e = .returned (.tuple #[(.agg #[(vi r.1.fN),(vi r.1.fD)]),(vi r.2)])/\Hp [] w₀ w' []:=by
 unfold y1q at h
 refine Lz func119 ntmps119 ?_
 refine WC.b<|Ld (Lg 2 (yI (cs:=[(vi f.fN),(vi f.fD)]) U U) fun b _=>Lg 3 (yI (cs:=[(vi u.fN),(vi u.fD)]) U U) fun c _=>Lg 4 (yu (cs:=[(vi 0),(vi 0)]) zX U) fun d _=>La U<|WL.nil<|Lb<|WC.b ?_)
 obtain⟨g,a,h⟩:=za h
 refine Ld<|Le 6 (yi zg U (yj .h2) U)<|Le 7 (yi zg U (yj .h1) U)<|Ll 8 (zb call159<|.r3 U U U) .nil (cc hz .nil fun w pz ho=>ykj a w pz )<|La U<|La U<|Lk U U (yl zy U U U .here U U U)<|La U<|WL.nil<|Lb<|WC.ret ?_
 obtain rfl:=oJ h
 refine Lh results119 (.agg U zg U (yj .here)<|.tmp U .nil)<|fun w hw=>?_
 exact⟨y1T U U,hw.sub .nil⟩
end Go.Proofs.YthjnhebofpebpaaGreat

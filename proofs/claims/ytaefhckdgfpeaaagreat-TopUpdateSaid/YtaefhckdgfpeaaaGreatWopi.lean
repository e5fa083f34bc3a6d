/- A part of this claim's proof: models of functions, walks, plain laws. No conditions. -/
import Derived.Test.YtaefhckdgfpeaaaGreatWoph
set_option linter.all false
namespace Go.Proofs.YtaefhckdgfpeaaaGreat
open Go Go.RowKit Sep Tryz
set_option maxRecDepth 30000
set_option maxHeartbeats 4000000
def jo(a:Int)(b:Option Unit):Nat->Option Unit
 | 0=>none
 | c+1=>if decide (20<=a) then none else b
def jp(a:Int)(b:Option Unit):Nat->Option Unit
 | 0=>none
 | c+1=>if decide (20<a) then none else b
def f8(b:List yi)(a:Int)(zzH:yi->yi->Option Int):Option Unit:=
 uo ((kD b 0 a zzH).bind fun e=>uo (some ()) fun c=>jp a c wr) fun d=>jo a d wr
theorem lP(Z f g zmj ztZ d a zzH r)(h:f8 d a zzH=some r){Ek}(hz:PZ [] Ek Z)(k:ZS Z 3 (rq sm) f g d)(l:∀ args w,(callFunc zmj args).run Tryz.prog w = .ok (.enter zmj args) w)(m:∀ w:World,PZ [] w Z->∀(x0:yi) (x1:yi) (r:Int),zzH x0 x1=some r->Calls Tryz.prog zmj (([.agg #[vi x0.yH,vi x0.y6,vi x0.yw],.agg #[vi x1.yH,vi x1.y6,vi x1.yw]]:List Value)++ztZ).toArray w fun e w'=>e = .returned (vi r)/\Hp [] w w' []):
  RC 164 #[vs f d.length g,vi a,.func (.func zmj) #[] (ztZ).toArray] Ek (.tuple #[]) [] []:=by
 unfold f8 at h
 refine Ng func164 U U<|B1n U<|B3n U ?_
 obtain⟨i,n,h⟩:=vX h
 let A:Value:=(.func (.func zmj) #[] (ztZ).toArray);let C:Value:=(vs f d.length g);refine Nh (i=some r) ([(0,C),(1,vi a),(2,A),(6,vi 20),(7,vi 0)]) ([]) ?_ ?_
 ·refine WC.block<|N2 (fun b=>(jo a i b=some r)) (fun b=>[(0,C),(1,vi a),(2,A),(6,vi 20),(7,vi 0),(8,vi 20)]) (fun b=>[]) (fun b=>b) wr h .q .nil ?_
  rintro(_|t) h;·cases h
  rw[jo] at h
  refine Lb<|B3n U<|Lj h (fun o h=>?_)<|fun o h=>?_
  ·cases h
  ·exact En<|Ln<|Ln<|Lu<|Lp () h .q .nil
 ·rintro  h
  replace h:=n.symm.trans h
  refine Lb<|bK h fun u p h=>Le<|La U<|La U<|La U<|La U<|Eg call207 hz (fun pz=>rT _ _ _ (zzF:=zmj) (zLH:=ztZ) _ _ _ (zLG:=zzH) _ p pz k l m)<|Q0n<|jK0 h fun j q h=>H3 (j=some r) ([]) ([]) ?_ ?_
  ·refine WC.block<|N2 (fun c=>(jp a j c=some r)) (fun c=>[(0,C),(1,vi a),(2,A),(6,vi 20)]) (fun c=>[]) (fun c=>c) wr h .q .nil ?_
   rintro(_|v) h;·cases h
   rw[jp] at h
   refine Lb<|B3n U<|Lj h (fun s h=>?_)<|fun s h=>?_
   ·cases h
   ·exact En<|Ln<|Ln<|Lu<|Lp () h .nil .nil
  ·rintro  h
   replace h:=q.symm.trans h
   skip
   exact Nj results164 .nil<|fun w hw=>⟨ui,hw.sub .nil⟩
def jJ(a:List yi)(zzL:yi->yi->Option Int):Option Unit:=
 (f8 a (a.length:Int) zzL).bind fun b=>some ()
theorem sR(Z b c zzM zLI a zzL r)(h:jJ a zzL=some r){Ek}(hz:PZ [] Ek Z)(d:ZS Z 3 (rq sm) b c a)(f:∀ args w,(callFunc zzM args).run Tryz.prog w = .ok (.enter zzM args) w)(g:∀ w:World,PZ [] w Z->∀(x0:yi) (x1:yi) (r:Int),zzL x0 x1=some r->Calls Tryz.prog zzM (([.agg #[vi x0.yH,vi x0.y6,vi x0.yw],.agg #[vi x1.yH,vi x1.y6,vi x1.yw]]:List Value)++zLI).toArray w fun e w'=>e = .returned (vi r)/\Hp [] w w' []):
  RC 106 #[vs b a.length c,.func (.func zzM) #[] (zLI).toArray] Ek (.tuple #[]) [] []:=by
 unfold jJ at h
 refine Lz func106 U U<|bK h fun j i h=>D2q U<|Lf 6 (wB underlying92)<|La U<|Eg call164 hz (fun pz=>lP _ _ _ (zmj:=zzM) (ztZ:=zLI) _ _ (zzH:=zzL) _ i pz d f g)<|WL.nil ?_
 skip
 exact Nj results106 .nil<|fun w hw=>⟨ui,hw.sub .nil⟩
def rk(a:List yi):Option Unit:=
 (jJ a (fun y0 y1=>tF y0 y1)).bind fun b=>some ()
theorem dJ(Z b c a r)(h:rk a=some r){Ek}(hz:PZ [] Ek Z)(d:ZS Z 3 (rq sm) b c a):
  RC 50 #[vs b a.length c] Ek (vs b a.length c) [] []:=by
 unfold rk at h
 refine L3 func50 U U<|B1n U<|Lb<|bK h fun f e h=>D1q U<|Eg call106 hz (fun pz=>sR _ _ _ (zzM:=107) (zLI:=[]) _ (zzL:=(fun y0 y1=>tF y0 y1)) _ e pz d call107<|fun w' nd y0 y1  r  hr=>Xc _ _ _ _ hr nd)<|Q0n<|B2n U<|El ?_
 skip
 exact Lk results50 (.tmp U .nil)<|fun w hw=>⟨wx,hw.sub .nil⟩
def uG(b:List yO)(c:List (List zg))(f:ye)(d:(List y7)->Option (List yi)):Nat->Int->(List y7)->Option (List yi)
 | 0,_,_=>none
 | g+1,a,e=>if decide (a<b.length) then chk (0<=a/\a<b.length) (chk (0<=((nth b a).yP)/\((nth b a).yP)<c.length) (if decide ((((nth c ((nth b a).yP)).length:Nat):Int)>0) then chk ((0:Int)<=0/\0<(((nth c ((nth b a).yP)).length:Nat):Int)) ((uN f c b ([]:List (ze×yt)) e [] [] ((nth (nth c ((nth b a).yP)) 0).y6) ((nth b a).yw) (-1) a).bind fun h=>uG b c f d g (i64 (a+1)) h) else none)) else d e
def uH(h:ye)(c:List (List zg))(d:List yO)(e:(List y7)->(List yi)->(List (ze×yt))->Option (List yi)):Nat->(List y7)->(List yi)->(List (ze×yt))->Option (List yi)
 | 0,_,_,_=>none
 | i+1,a,f,g=>if decide ((a.length:Int)>0) then(pM h c d g a f []).bind fun b=>uH h c d e i b.1 b.2.1 b.2.2 else e a f g
def bA(a:ye)(g:Int)(b:List (List zg))(c:List yO):Option (List yi):=
 (tn a g b).bind fun e=>if !e then none else(lp a c).bind fun f=>if !f then none else vC (fun(h:List y7)=>Q5 (fun(m:List y7) (d:List yi) (n:List (ze×yt))=>(rk d).bind fun k=>(rk []).bind fun l=>some d) fun i=>uH a b c i wr h ([]:List yi) ([]:List (ze×yt))) fun j=>uG c b a j wr 0 ([]:List y7)
theorem QH(Z al am an ao ap aq ar au av aw ax ay az aA aB aC aD aE aF aG a aL N p r)(h:bA a aL N p=some r){Ek}(hz:PZ [] Ek Z)(aa:ZS Z 4 (u5 Z) al am a.fM)(ab:ZS Z 4 (fc Z) an ao a.y9)(ad:ZS Z 4 (rq ml) ap aq a.fS)(ae:ZS Z 4 (rq m7) ar au a.fK)(af:ZS Z 7 (fa Z) av aw a.ya)(ag:ZS Z 5 (rq mg) ax ay a.yc)(ah:ZS Z 3 (fe Z) az aA a.fU)(ai:ZS Z 4 (rq j5) aB aC a.y8)(aj:ZS Z 1 (m8 Z) aD aE N)(ak:ZS Z 3 (rq Ym) aF aG p):
  Calls Tryz.prog 16 #[.agg #[vs al a.fM.length am,vs an a.y9.length ao,vs ap a.fS.length aq,vs ar a.fK.length au,vs av a.ya.length aw,vs ax a.yc.length ay,vs az a.fU.length aA,vs aB a.y8.length aC],vi aL,vs aD N.length aE,vs aF p.length aG] Ek fun e w'=>∃ aI:Option Addr,∃ aJ:Nat,e = .returned (.tuple #[vs aI r.length aJ,vn,vi 0])/\True/\Hp [] Ek w' [row (vs aI r.length aJ) 99 3 (r.flatMap sm)]:=by
 unfold bA at h
 refine Nl func16 U U ?_
 let C:Value:=(vs al a.fM.length am);let D:Value:=(vs an a.y9.length ao);let E:Value:=(vs ap a.fS.length aq);let F:Value:=(vs ar a.fK.length au);let G:Value:=(vs av a.ya.length aw);let H:Value:=(vs ax a.yc.length ay);let I:Value:=(vs az a.fU.length aA);let J:Value:=(vs aB a.y8.length aC);let A:List Value:=[C,D,E,F,G,H,I,J];refine B0q<|Lh 4 (wu (cs:=A)) ?_
 intro aO _
 refine La U<|La U<|La U<|WL.nil<|Ld<|Lb<|WC.block<|Lb<|bK h fun bk aP h=>Le<|Lf 16 (we z5x (wh .here))<|Q2q U<|Eg call46 hz (fun pz=>ii _ _ _ _ _ _ _ _ _ _ _ _ _ _ _ _ _ _ _ _ _ _ _ aP pz aa ab ad ae af ag ah ai aj)<|Q2n U<|Lj h (fun aQ h=>?_)<|fun aQ h=>?_
 ·cases h
 ·refine Lb<|bK h fun bl aR h=>Le<|Lf 22 (we z5x (wh .here))<|La U<|Eg call47 hz (fun pz=>Wr _ _ _ _ _ _ _ _ _ _ _ _ _ _ _ _ _ _ _ _ _ _ aR pz aa ab ad ae af ag ah ai ak)<|Q2n U<|Lj h (fun aS h=>?_)<|fun aS h=>?_
  ·cases h
  ·refine Ep<|Lq<|Ld<|B0q<|Lf 26 (we z5x (wh .here))<|Q2q U<|Lh 29 (jK (ga gj) Value.pointer) ?_
   intro b _
   let K:Value:=(vs aD N.length aE);let L:Value:=(vs aF p.length aG);refine Nq (M:=[vh z4f ([]:List (ze×((Nat×(Option Addr×Nat))×yt))),wp b (ga gj) Value.pointer (jk ([]:List (ze×((Nat×(Option Addr×Nat))×yt)))),stb aO 80 A]) (fun _ h=>Hp.az z4f h)<|Lf 30 (wN (v:=(.agg #[C,D,E,F,G,H,I,J,K,L,(.map<|some b),vn,vn,vn])) (Lt (l:=[.tmp 26,.tmp 27,.tmp 28,.tmp 29]) (.r4 U U U U) [0,1,2,3]) (fun _=>by kernel_rfl))<|Lh 31 (wu (cs:=[C,D,E,F,G,H,I,J,K,L,(.map<|some b),vn,vn,vn])) ?_
   intro k _
   refine Q1n U<|jK1 h fun aM aT h=>Nf (fun c O P=>(aM c=some r)) (fun c O P=>[(11,vp k)]) (fun c O P=>[stb k 167 [C,D,E,F,G,H,I,J,K,L,(.map<|some b),vs O c.length P,vn,vn],row (vs O c.length P) 238 7 (c.flatMap vt),wp b (ga gj) Value.pointer (jk ([]:List (ze×((Nat×(Option Addr×Nat))×yt)))),vh z4f ([]:List (ze×((Nat×(Option Addr×Nat))×yt)))]) ?_ ?_
   ·refine B1q U<|Lf 33 (wB underlying97)<|Q1n U<|WC.block<|WC.nilRow 238 7<|E6 (fun W q d s t=>(uG p N a aM W q d=some r)) (fun W q d s t=>[(2,K),(11,vp k),(32,L),(33,vi (p.length:Int)),(34,vi q)]) (fun W q d s t=>[stb k 167 [C,D,E,F,G,H,I,J,K,L,(.map<|some b),vs s d.length t,vn,vn],row (vs s d.length t) 238 7 (d.flatMap vt),wp b (ga gj) Value.pointer (jk ([]:List (ze×((Nat×(Option Addr×Nat))×yt)))),vh z4f ([]:List (ze×((Nat×(Option Addr×Nat))×yt)))]) (fun W q d s t=>W) ⟨wr,0,([]:List y7),none,0⟩ h .q (.s4 .h1 .here .h1 .here) ?_
    rintro(_|bh) q d s t h;·cases h
    rw[uG] at h
    refine B1n U<|Lb<|Lj h (fun aU h=>?_)<|fun aU h=>?_
    ·refine Ec<|Lb<|WC.block<|Lb<|cK h fun aV h=>D1q U<|L0 (dd:=37) (Z:=Z) (Pr:=(rq Ym)) zvy ak aV ?_
     rintro bm bn aW bo rfl
     refine Lf 38 (we zZk (vy hz.pv aW)) (Lh 13 (wn (cs:=[vi 0,vi 0,vi 0]) zZl) fun bp _=>La U<|Ll (wl zZm .here)<|Q0n<|Lb ?_)
     refine cK h fun aX h=>D1q U<|Lf 40 (w7 Xs)<|Lf 41 (Ei wm .here)<|L0 (dd:=42) (Z:=Z) (Pr:=(m8 Z)) zgU aj aX ?_
     rintro bq br aY bs ⟨bt,bu,rfl,aZ⟩
     refine Lf 43 (w8 zfm U<|vx hz.pv aY)<|Q1n U<|B1q U<|Lf 45 (wB underlying84)<|Q1n U<|Lj h (fun a0 h=>?_)<|fun a0 h=>?_
     ·refine cK h fun a1 h=>bK h fun bi a2 h=>Lv (fun i=>[8].contains i) []<|Lg 0 U q_m<|Lg 1 U q_m<|L8 (j:=2) (dd:=49) (by kernel_rfl) z2W z2X (Z:=Z) (Pr:=(rq mG)) zaL aZ a1 ?_
      rintro bv bw a3 bx rfl
      refine Lg 3 U (w7 jV)<|Li 4 U (w8 wm U<|wP hz.pv a3)<|Lg 5 U (w7 nx)<|Li 6 U (Ei wm .here)<|Lg 7 U q_m<|WD.call2 (i:=8) (dd:=55) U (by kernel_rfl) U (.inl ⟨U,fun _ _=>(wS.of .nil)⟩) (Eh call48) (.s4 .h1 .h2 .h2 .h1) (cc hz (.s4 .h1 .h2 .h2 .h1) fun w pz ho=>iR _ _ _ _ _ _ _ _ _ _ _ _ _ _ _ _ _ _ _ _ _ _ _ _ _ _ _ _ _ _ _ _ _ _ _ _ _ _ _ _ _ _ a2 pz aa ab ad ae af ag ah ai aj ak U (ZS.nil _ _ _) (ZS.nil _ _ _) ho) ?_
      rintro a4 a5 _
      exact Eo (by kernel_rfl)<|Lq<|Ld<|D2q U<|WL.nil<|Em ⟨bh,i64 (q+1),bi,a4,a5⟩ h (Nat.lt_succ_self _) .q<|.a4
     ·cases h
    ·exact En<|Ln<|Ln<|Lu<|Lp ⟨d,s,t⟩ h (.cons U .nil)<|.a4
   ·rintro c O P h
    replace h:=(aT c).symm.trans h
    refine jK3 h fun aN a6 h=>B2 (fun m n Q X Y R S T=>(aN m n Q=some r)/\(mq T=Q)) (fun m n Q X Y R S T=>[(11,vp k)]) (fun m n Q X Y R S T=>[stb k 167 [C,D,E,F,G,H,I,J,K,L,(.map<|some b),vs X m.length Y,vs R n.length S,vn],row (vs X m.length Y) 238 7 (m.flatMap vt),row (vs R n.length S) 99 3 (n.flatMap sm),wp b (ga gj) Value.pointer (jk T),vh z4f T]) ?_ ?_
    ·refine WC.block<|WC.nilRow 99 3<|Dj (fun V f g u x y z B o=>(uH a N p aN V f g u=some r)/\(mq o=u)) (fun V f g u x y z B o=>[(11,vp k)]) (fun V f g u x y z B o=>[stb k 167 [C,D,E,F,G,H,I,J,K,L,(.map<|some b),vs x f.length y,vs z g.length B,vn],row (vs x f.length y) 238 7 (f.flatMap vt),row (vs z g.length B) 99 3 (g.flatMap sm),wp b (ga gj) Value.pointer (jk o),vh z4f o]) (fun V f g u x y z B o=>V) ⟨wr,c,([]:List yi),([]:List (ze×yt)),O,P,none,0,([]:List (ze×((Nat×(Option Addr×Nat))×yt)))⟩ ⟨h,U⟩ (.cons U .nil) (.s5 .h1 .h1 .here .here .here) ?_
     rintro (_|bj) f g u x y z B o ⟨h,aK⟩;·cases h
     rw[uH] at h
     refine Lb<|B1q U<|Lf 58 wz<|Lf 59 (w7 W8)<|Lf 60 (Ei zvz .here)<|Lf 61 (wB underlying165)<|Q1n U<|Lj h (fun a7 h=>?_)<|fun a7 h=>?_
     ·refine Ec<|WC.block<|bK h fun aH a8 h=>D1q U<|He (dd:=64) U (Eh call49) (.s5 .here .h2 .h2 .here .here) (cc hz (.s5 .here .h2 .h2 .here .here) fun w pz ho=>Xb _ _ _ _ _ _ _ _ _ _ _ _ _ _ _ _ _ _ _ _ _ _ _ _ _ _ _ _ _ _ _ _ _ _ _ _ _ _ a8 pz aa ab ad ae af ag ah ai aj ak aK (ZS.nil _ _ _) ho) ?_
      rintro a9 ba bb bc bd be
      exact WL.nil<|Lq<|Em ⟨bj,aH.1,aH.2.1,aH.2.2,a9,ba,bb,bc,bd⟩ ⟨h,be⟩ (Nat.lt_succ_self _) (.cons U .nil)<|.a5
     ·exact En<|Ln<|Ln<|Lu<|Lp ⟨f,g,u,x,y,z,B,o⟩ ⟨h,aK⟩ (.cons U .nil)<|.a5
    ·rintro m n Q X Y R S T ⟨h,bz⟩
     replace h:=(a6 m n Q).symm.trans h
     exact Lb<|bK h fun bB bf h=>bK h fun bC bg h=>Lv nc []<|Lg 0 U q_m<|Lg 1 U wz<|Lg 2 U (w7 Wc)<|Li 3 U (Ei zNX .here)<|L5 4 U (Eh call50) (kb hz .nil (.cons .h2 .nil) fun w pz ho la=>dJ _ _ _ _ _ bf pz<|ZA.row (la _ (.head _) _) (RR.flat (enc:=sm) (fun _=>U) _) ⟨w,pz.1⟩)<|Lg 5 U q_m<|Lg 6 U wz<|Lg 7 U (w7 FF)<|Li 8 U (Ei zNX .here)<|L5 9 U (Eh call50) (cc hz .nil fun w pz ho=>dJ _ _ _ _ _ bg pz<|ZS.nil _ _ _)<|Lg 10 U q_z<|Lg 11 U q_z<|Lg 12 U q_z<|Eo (by kernel_rfl)<|Ld<|El<|oJ h▸Lk results16 (.tmp U<|.tmp U<|.tmp U .nil) fun w hw=>⟨R,S,XW,trivial,hw.sub (.cons .h2 .nil)⟩
def rG  : Option Bool:=
 (pL (⟨([(⟨⟨#[109]⟩,0,0,[]⟩:yT),(⟨⟨#[110]⟩,0,0,[]⟩:yT)]:List yT),[],([(⟨⟨#[115]⟩,0,16,200⟩:xg)]:List xg),([(⟨⟨#[109]⟩,⟨#[115]⟩,0,1⟩:xb),(⟨⟨#[110]⟩,⟨#[115]⟩,0,1⟩:xb)]:List xb),([(⟨⟨#[]⟩,(⟨⟨#[]⟩,⟨#[]⟩,⟨#[]⟩⟩:yU),200,40,[]⟩:yG)]:List yG),[],[],[]⟩:ye) 0 ([([(⟨0,2,0⟩:zg),(⟨2,1,1⟩:zg)]:List zg)]:List (List zg))).bind fun b=>(bA (⟨([(⟨⟨#[109]⟩,0,0,[]⟩:yT),(⟨⟨#[110]⟩,0,0,[]⟩:yT)]:List yT),[],([(⟨⟨#[115]⟩,0,16,200⟩:xg)]:List xg),([(⟨⟨#[109]⟩,⟨#[115]⟩,0,1⟩:xb),(⟨⟨#[110]⟩,⟨#[115]⟩,0,1⟩:xb)]:List xb),([(⟨⟨#[]⟩,(⟨⟨#[]⟩,⟨#[]⟩,⟨#[]⟩⟩:yU),200,40,[]⟩:yG)]:List yG),[],[],[]⟩:ye) 0 ([([(⟨0,2,0⟩:zg),(⟨2,1,1⟩:zg)]:List zg)]:List (List zg)) ([(⟨5,0,40⟩:yO)]:List yO)).bind fun a=>chk ((decide ((a.length:Int)=1))=true->((0:Int)<=0/\0<(a.length:Int))) (chk ((((decide ((a.length:Int)=1))&&(decide (((nth a 0).yw)=101)))&&(decide ((b.xr.length:Int)=1)))=true->((0:Int)<=0/\0<(b.xr.length:Int))) (some ((((decide ((a.length:Int)=1))&&(decide (((nth a 0).yw)=101)))&&(decide ((b.xr.length:Int)=1)))&&(decide (((nth b.xr 0).yv)=96)))))
theorem n9(Z r)(h:rG=some r){Ek}(hz:PZ [] Ek Z):
  RC 4 #[] Ek (.bool r) [] []:=by
 unfold rG at h
 refine Ns func4 U U<|WC.pool<|B1n U<|B0q<|Lf 8 (wN (v:=(.agg #[.string ⟨#[109]⟩,vi 0,vi 0,vn])) (Lt (l:=[.const (.string ⟨#[109]⟩)]) (.cons U .nil) [0]) (fun _=>by kernel_rfl))<|Lf 9 (wN (v:=(.agg #[.string ⟨#[110]⟩,vi 0,vi 0,vn])) (Lt (l:=[.const (.string ⟨#[110]⟩)]) (.cons U .nil) [0]) (fun _=>by kernel_rfl)) ?_
 have f:RR 4 (u5 (Z++[])) [.string ⟨#[109]⟩,vi 0,vi 0,vn,.string ⟨#[110]⟩,vi 0,vi 0,vn] ([(⟨⟨#[109]⟩,0,0,[]⟩:yT),(⟨⟨#[110]⟩,0,0,[]⟩:yT)]:List yT):=(RR.cons (r:=[.string ⟨#[109]⟩,vi 0,vi 0,vn]) U (show u5 _ _ _ from⟨_,_,U,ZS.nil _ _ _⟩) (RR.cons (r:=[.string ⟨#[110]⟩,vi 0,vi 0,vn]) U (show u5 _ _ _ from⟨_,_,U,ZS.nil _ _ _⟩) (RR.nil _ _)))
 refine Lh 10 (wD (cs:=[.string ⟨#[109]⟩,vi 0,vi 0,vn,.string ⟨#[110]⟩,vi 0,vi 0,vn]) zZ0 (Lt (l:=[.tmp 8,.tmp 9]) (.r2 U U) [0,1]) (fun _=>by kernel_rfl) (by unfold maxLen;omega)) fun o _=>Lf 11 (wN (v:=(.agg #[.string ⟨#[115]⟩,vi 0,vi 16,vi 200])) (Lt (l:=[.const (.string ⟨#[115]⟩),.const (vi 16),.const (vi 200)]) (.r3 U U U) [0,2,3]) (fun _=>by kernel_rfl)) (Lh 12 (wD (cs:=([(⟨⟨#[115]⟩,0,16,200⟩:xg)]:List xg).flatMap ml) zrG (Lt (l:=[.tmp 11]) (.cons U .nil) [0]) (fun _=>by kernel_rfl) (by unfold maxLen;omega)) fun p _=>Lf 13 (wN (v:=(.agg #[.string ⟨#[109]⟩,.string ⟨#[115]⟩,vi 0,vi 1])) (Lt (l:=[.const (.string ⟨#[109]⟩),.const (.string ⟨#[115]⟩),.const (vi 1)]) (.r3 U U U) [0,1,3]) (fun _=>by kernel_rfl))<|Lf 14 (wN (v:=(.agg #[.string ⟨#[110]⟩,.string ⟨#[115]⟩,vi 0,vi 1])) (Lt (l:=[.const (.string ⟨#[110]⟩),.const (.string ⟨#[115]⟩),.const (vi 1)]) (.r3 U U U) [0,1,3]) (fun _=>by kernel_rfl)) (Lh 15 (wD (cs:=([(⟨⟨#[109]⟩,⟨#[115]⟩,0,1⟩:xb),(⟨⟨#[110]⟩,⟨#[115]⟩,0,1⟩:xb)]:List xb).flatMap m7) znN (Lt (l:=[.tmp 13,.tmp 14]) (.r2 U U) [0,1]) (fun _=>by kernel_rfl) (by unfold maxLen;omega)) fun q _=>Lf 16 (wN (v:=(.agg #[.string ⟨#[]⟩,.string ⟨#[]⟩,.string ⟨#[]⟩,.string ⟨#[]⟩,vi 200,vi 40,vn])) (Lt (l:=[.const (vi 200),.const (vi 40)]) (.r2 U U) [2,3]) (fun _=>by kernel_rfl)) ?_))
 let A:List Value:=[.string ⟨#[]⟩,.string ⟨#[]⟩,.string ⟨#[]⟩,.string ⟨#[]⟩,vi 200,vi 40,vn];have g:RR 7 (fa (Z++[])) A ([(⟨⟨#[]⟩,(⟨⟨#[]⟩,⟨#[]⟩,⟨#[]⟩⟩:yU),200,40,[]⟩:yG)]:List yG):=(RR.cons (r:=A) U (show fa _ _ _ from⟨_,_,U,ZS.nil _ _ _⟩) (RR.nil _ _))
 refine Lh 17 (wD (cs:=[.string ⟨#[]⟩,.string ⟨#[]⟩,.string ⟨#[]⟩,.string ⟨#[]⟩,vi 200,vi 40,vn]) znO (Lt (l:=[.tmp 16]) (.cons U .nil) [0]) (fun _=>by kernel_rfl) (by unfold maxLen;omega)) fun s _=>Lf 18 (wN (v:=(.agg #[vs (some ⟨o,0,none⟩) (([(⟨⟨#[109]⟩,0,0,[]⟩:yT),(⟨⟨#[110]⟩,0,0,[]⟩:yT)]:List yT).length) 2,vn,vs (some ⟨p,0,none⟩) (([(⟨⟨#[115]⟩,0,16,200⟩:xg)]:List xg).length) 1,vs (some ⟨q,0,none⟩) (([(⟨⟨#[109]⟩,⟨#[115]⟩,0,1⟩:xb),(⟨⟨#[110]⟩,⟨#[115]⟩,0,1⟩:xb)]:List xb).length) 2,vs (some ⟨s,0,none⟩) (([(⟨⟨#[]⟩,(⟨⟨#[]⟩,⟨#[]⟩,⟨#[]⟩⟩:yU),200,40,[]⟩:yG)]:List yG).length) 1,vn,vn,vn])) (Lt (l:=[.tmp 10,.tmp 12,.tmp 15,.tmp 17]) (.r4 U U U U) [0,2,3,4]) (fun _=>by kernel_rfl)) (Lh 1 (wn (cs:=[vn,vn,vn,vn,vn,vn,vn,vn]) z1dQ) fun G _=>Ll (wl z1dR .here)<|Q0n<|B0q<|Lf 19 (wN (v:=(.agg #[vi 0,vi 2,vi 0])) (Lt (l:=[.const (vi 0),.const (vi 2),.const (vi 0)]) (.r3 U U U) [0,1,2]) (fun _=>by kernel_rfl))<|Lf 20 (wN (v:=(.agg #[vi 2,vi 1,vi 1])) (Lt (l:=[.const (vi 2),.const (vi 1),.const (vi 1)]) (.r3 U U U) [0,1,2]) (fun _=>by kernel_rfl)) (Lh 21 (wD (cs:=([(⟨0,2,0⟩:zg),(⟨2,1,1⟩:zg)]:List zg).flatMap mG) zaL (Lt (l:=[.tmp 19,.tmp 20]) (.r2 U U) [0,1]) (fun _=>by kernel_rfl) (by unfold maxLen;omega)) fun n _=>WL.freezeS (ls:=([(⟨0,2,0⟩:zg),(⟨2,1,1⟩:zg)]:List zg)) .here .h5 hz (RR.flat (enc:=mG) (fun _=>U) _) ?_))
 intro t d u
 let C:Value:=(vs (some ⟨n,0,none⟩) (([(⟨0,2,0⟩:zg),(⟨2,1,1⟩:zg)]:List zg).length) 2);have j:RR 1 (m8 (Z++t)) [C] ([([(⟨0,2,0⟩:zg),(⟨2,1,1⟩:zg)]:List zg)]:List (List zg)):=(RR.cons (r:=[C]) U (show m8 _ _ _ from⟨_,_,U,u⟩) (RR.nil _ _))
 refine Lh 22 (wD (cs:=[vs (some ⟨n,0,none⟩) (([(⟨0,2,0⟩:zg),(⟨2,1,1⟩:zg)]:List zg).length) 2]) zgU (Lt (l:=[.tmp 21]) (.cons U .nil) [0]) (fun _=>by kernel_rfl) (by unfold maxLen;omega)) fun H _=>Q1n U<|Lb<|bK h fun e x h=>Le<|Lf 24 (we z5x (wh .h2))<|La U<|Np (dd:=26) U (Eh call15) .nil (uT hz .nil .h1 (.s5 .h6 .h5 .h4 .h3 .here) fun w pz ho la=>X9 _ _ _ _ _ _ _ _ _ _ _ _ _ _ _ _ _ _ _ _ _ _ _ x pz (ZA.row (la _ (.head _) _) ((f.weak<|fun _ _ h=>qn d h).weak (fun _ _ h=>qn zl h)) ⟨w,pz.1⟩) (ZS.nil _ _ _) (ZA.row (la _ (.tail _<|.head _) _) (RR.flat (enc:=ml) (fun _=>U) _) ⟨w,pz.1⟩) (ZA.row (la _ (.tail _<|.tail _<|.head _) _) (RR.flat (enc:=m7) (fun _=>U) _) ⟨w,pz.1⟩) (ZA.row (la _ (.tail _<|.tail _<|.tail _<|.head _) _) ((g.weak<|fun _ _ h=>vL d h).weak (fun _ _ h=>vL zl h)) ⟨w,pz.1⟩) (ZS.nil _ _ _) (ZS.nil _ _ _) (ZS.nil _ _ _)<|ZA.row (la _ (.tail _<|.tail _<|.tail _<|.tail _<|.head _) _) (j.weak<|fun _ _ h=>qY zl h) ⟨w,pz.1⟩) ?_
 rintro I J K L _
 refine Q2q U<|La U (Lh 3 (wn (cs:=[vn,vn]) zvu) fun M _=>Ll (wl zHN .here)<|Q1n U<|Lb ?_)
 refine bK h fun a y h=>Le<|Lf 30 (we z5x (wh .h5))<|La U<|Lf 32 (wN (v:=(.agg #[vi 5,vi 0,vi 40])) (Lt (l:=[.const (vi 5),.const (vi 40)]) (.r2 U U) [0,2]) (fun _=>by kernel_rfl)) (Lh 33 (wD (cs:=([(⟨5,0,40⟩:yO)]:List yO).flatMap Ym) zvy (Lt (l:=[.tmp 32]) (.cons U .nil) [0]) (fun _=>by kernel_rfl) (by unfold maxLen;omega)) fun N _=>L7 (dd:=34) U (Eh call16) .nil (uT hz .nil .h5 (.s6 (.there<|.there<|.there .h7) (.there<|.there .h7) (.there .h7) .h7 .h4 .here) fun w pz ho la=>QH _ _ _ _ _ _ _ _ _ _ _ _ _ _ _ _ _ _ _ _ _ _ _ _ _ _ y pz (ZA.row (la _ (.head _) _) ((f.weak<|fun _ _ h=>qn d h).weak (fun _ _ h=>qn zl h)) ⟨w,pz.1⟩) (ZS.nil _ _ _) (ZA.row (la _ (.tail _<|.head _) _) (RR.flat (enc:=ml) (fun _=>U) _) ⟨w,pz.1⟩) (ZA.row (la _ (.tail _<|.tail _<|.head _) _) (RR.flat (enc:=m7) (fun _=>U) _) ⟨w,pz.1⟩) (ZA.row (la _ (.tail _<|.tail _<|.tail _<|.head _) _) ((g.weak<|fun _ _ h=>vL d h).weak (fun _ _ h=>vL zl h)) ⟨w,pz.1⟩) (ZS.nil _ _ _) (ZS.nil _ _ _) (ZS.nil _ _ _) (ZA.row (la _ (.tail _<|.tail _<|.tail _<|.tail _<|.head _) _) (j.weak<|fun _ _ h=>qY zl h) ⟨w,pz.1⟩)<|ZA.row (la _ (.tail _<|.tail _<|.tail _<|.tail _<|.tail _<|.head _) _) (RR.flat (enc:=Ym) (fun _=>U) _) ⟨w,pz.1⟩) ?_)
 rintro O P _
 refine La U<|La U<|La U<|La U<|La U<|La U<|La U<|WL.nil<|Ld<|Lb<|cK h fun z h=>cK h fun E h=>D1q U<|Lf 39 uh<|Q2q U<|Lf 42 uh<|Q3q U<|Lf 46 (wB underlying92)<|Lf 47 uh<|Q3q U<|Lf 51 (wB underlying92)<|Q3q U<|Lx true 5 54 (B:=(decide ((a.length:Int)=1))&&(decide (((nth a 0).yw)=101))) (fun h=>(qd h).symm) (fun _ k=>?_) ?_
 ·have b:=z k
  refine La U<|Es (fun w hw=>Hp.vr .here hw (by intro nd;have:=b;rw[nd] at this;omega)) ?_
  rintro⟨Q,rfl⟩
  exact Lf 56 (wL zNY b.1 b.2 vB)<|Lf 57 (w7 VN (hA:=⟨Addr.add_lit _ _ _⟩))<|Lf 58 (w8 wm U<|gt .here<|(qm (enc:=sm) (l:=a) (i:=0) (sz:=3) (fun _=>U) b.1 b.2) 2 _ U)<|Q2q U<|Ly (qe k) U .all
 let D:=(e.xr.length:Int);refine La U<|Lx true 4 61 (B:=((decide ((a.length:Int)=1))&&(decide (((nth a 0).yw)=101)))&&(decide (D=1))) (fun h=>(qd h).symm) (fun _ F=>?_) ?_
 ·exact Lf 62 (w7 Xr)<|Lf 63 (Ei zZu .h2)<|Lf 64 (wB underlying87)<|Q2q U<|Ly (qe F) U .all
 refine La U<|Lx true 6 67 (B:=(((decide ((a.length:Int)=1))&&(decide (((nth a 0).yw)=101)))&&(decide (D=1)))&&(decide (((nth e.xr 0).yv)=96))) (fun h=>(qd h).symm) (fun _ m=>?_) ?_
 ·have c:=E m
  refine Lf 68 (w7 Xr)<|Lf 69 (Ei zZu .h2)<|Es (fun w hw=>Hp.vr .h4 hw (by intro nd;have:=c;rw[nd] at this;omega)) ?_
  rintro⟨R,rfl⟩
  exact Lf 70 (wL zHL c.1 c.2 vB)<|Lf 71 (w7 FG (hA:=⟨Addr.add_lit _ _ _⟩))<|Lf 72 (w8 wm U<|gt .h4<|(qm (enc:=fZ) (l:=e.xr) (i:=0) (sz:=3) (fun _=>U) c.1 c.2) 2 _ U)<|Q2q U<|Ly (qe m) U .all
 exact Q1n U<|El<|oJ h▸Ea results4
def uc(b:List yj)(d:(List (ByteArray×Int))->Option Bool):Nat->Int->(List (ByteArray×Int))->Option Bool
 | 0,_,_=>none
 | e+1,a,c=>if decide (a<b.length) then chk (0<=a/\a<b.length) (uc b d e (i64 (a+1)) (wU c ((nth b a).yh) (i64 ((ww c ((nth b a).yh) 0)+1)))) else d c
def sE(a:List yj):Option Bool:=
 vC (fun(b:List (ByteArray×Int))=>some ((decide ((a.length:Int)<=8))&&(decide ((b.length:Int)=(a.length:Int))))) fun c=>uc a c wr 0 ([]:List (ByteArray×Int))
theorem nR(Z g i a r)(h:sE a=some r){Ek}(hz:PZ [] Ek Z)(l:ZS Z 2 (rq vD) g i a):
  RC 38 #[vs g a.length i] Ek (.bool r) [] []:=by
 unfold sE at h
 refine L3 func38 U U<|B1n U<|Lb<|Le (Lh 6 (jK Value.string<|Value.int .i64) fun f _=>Q1n U ?_)
 obtain⟨j,m,h⟩:=wE h
 let A:Value:=(vs g a.length i);refine Nd (fun d=>(j d=some r)) (fun d=>[(0,A),(3,(.map<|some f))]) (fun d=>[wp f Value.string vI d]) ?_ ?_
 ·refine B1q U<|Lf 8 (wB underlying27)<|Q1n U<|WC.block<|E4 (fun e b c=>(uc a j e b c=some r)) (fun e b c=>[(0,A),(3,(.map<|some f)),(7,A),(8,vi (a.length:Int)),(9,vi b)]) (fun e b c=>[wp f Value.string vI c]) (fun e b c=>e) ⟨wr,0,([]:List (ByteArray×Int))⟩ h .q (.cons .here .nil) ?_
  rintro(_|s) b c h;·cases h
  rw[uc] at h
  refine B1n U<|Lb<|Lj h (fun n h=>?_)<|fun n h=>?_
  ·refine Ec<|Lb<|WC.block<|Lb<|cK h fun o h=>Le<|L0 (dd:=11) (Z:=Z) (Pr:=(rq vD)) z5y l o ?_
   rintro t u p x rfl
   refine Lf 12 (we z8o (vy hz.pv p)) (Lh 5 (wn (cs:=[.string ⟨#[]⟩,vi 0]) zHR) fun y _=>Ll (wl zHS .here)<|Q0n<|D1q U<|Lf 14 (w7 ny)<|Lf 15 (Ei ge .here)<|Lf 16 (qL (k:=((nth a b).yh)) (dflt:=(0:Int)) gf underlying201 qp .h1)<|La U<|Ll (kn (k:=((nth a b).yh)) (v:=i64 ((ww c ((nth a b).yh) 0)+1)) gf underlying201 .h1)<|WL.nil<|Lq<|Ld<|D2q U<|WL.nil ?_)
   exact Em ⟨s,i64 (b+1),(wU c ((nth a b).yh)<|i64 ((ww c ((nth a b).yh) 0)+1))⟩ h (Nat.lt_succ_self _) .q<|.cons .here .nil
  ·exact En<|Ln<|Ln<|Lu<|Lp c h .q<|.cons .here .nil
 ·rintro d h
  replace h:=(m d).symm.trans h
  refine B1q U<|Lf 20 (wB underlying27)<|Q2q U<|Lx true 5 22 (B:=(decide ((a.length:Int)<=8))&&(decide ((d.length:Int)=(a.length:Int)))) (fun h=>(qd h).symm) (fun _ q=>?_) ?_
  ·exact La U<|Lf 24 (MT underlying201 U .here)<|La U<|Lf 26 (wB underlying27)<|Q2q U<|Ly (qe q) U .all
  exact Q1n U<|El<|oJ h▸Ea results38
def m6(a:yj)(b:yj):Option Bool:=
 some (decide (a.yh=b.yh))
theorem dZ(Z a b r)(h:m6 a b=some r){Ek}(hz:PZ [] Ek Z):
  RC 51 #[.agg #[.string a.yh,vi a.yd],.agg #[.string b.yh,vi b.yd]] Ek (.bool r) [] []:=by
 unfold m6 at h
 refine Lz func51 U U<|Lb<|Le (Lh 2 (wu (cs:=[.string a.yh,vi a.yd])) fun c _=>Lh 3 (wu (cs:=[.string b.yh,vi b.yd])) fun d _=>Q1n U<|B0q<|Lf 5 (w7 ny)<|Lf 6 (Ei ge .h1)<|Lf 7 (w7 ny)<|Lf 8 (Ei ge .here)<|Lf 9 (WF U U)<|Q1n U<|El ?_)
 exact oJ h▸Ea results51
def vf(b:List yj)(c:List yj)(zgi:yj->yj->Option Bool)(d:Option Unit):Nat->Int->Option Unit
 | 0,_=>none
 | e+1,a=>if decide (a<b.length) then chk (0<=a/\a<b.length) (chk (0<=a/\a<c.length) ((zgi (⟨(nth b a).yh,(nth b a).yd⟩:yj) (⟨(nth c a).yh,(nth c a).yd⟩:yj)).bind fun f=>if !f then none else vf b c zgi d e (i64 (a+1)))) else d
def qt(a:List yj)(b:List yj)(zgi:yj->yj->Option Bool):Option Unit:=
 if decide ((a.length:Int)≠(b.length:Int)) then none else uo (some ()) fun c=>vf a b zgi c wr 0
theorem mC(Z g i j k zua zFW b c zgi r)(h:qt b c zgi=some r){Ek}(hz:PZ [] Ek Z)(n:ZS Z 2 (rq vD) g i b)(o:ZS Z 2 (rq vD) j k c)(p:∀ args w,(callFunc zua args).run Tryz.prog w = .ok (.enter zua args) w)(q:∀ w:World,PZ [] w Z->∀(x0:yj) (x1:yj) (r:Bool),zgi x0 x1=some r->Calls Tryz.prog zua (([.agg #[.string x0.yh,vi x0.yd],.agg #[.string x1.yh,vi x1.yd]]:List Value)++zFW).toArray w fun e w'=>e = .returned (.bool r)/\Hp [] w w' []):
  RC 52 #[vs g b.length i,vs j c.length k,.func (.func zua) #[] (zFW).toArray] Ek (.bool true) [] []:=by
 unfold qt at h
 refine Ng func52 U U<|B1n U<|Lb<|B1q U<|Lf 11 (wB underlying27)<|La U<|Lf 13 (wB underlying27)<|Q1n U<|Lj h (fun s h=>?_)<|fun s h=>?_
 ·cases h
 ·refine Ec<|jK0 h fun m t h=>Nh (m=some r) ([]) ([]) ?_ ?_
  ·refine B1q U<|Lf 16 (wB underlying27)<|Q1n U<|WC.block<|Ni (fun d a=>(vf b c zgi m d a=some r)) (fun d a=>[(1,vs j c.length k),(2,.func (.func zua) #[] (zFW).toArray),(15,vs g b.length i),(16,vi (b.length:Int)),(17,vi a)]) (fun d a=>[]) (fun d a=>d) ⟨wr,0⟩ h .q .nil ?_
   rintro(_|C) a h;·cases h
   rw[vf] at h
   refine B1n U<|Lb<|Lj h (fun u h=>?_)<|fun u h=>?_
   ·refine Ec<|Lb<|WC.block<|Lb<|cK h fun v h=>D1q U<|L0 (dd:=20) (Z:=Z) (Pr:=(rq vD)) z5y n v ?_
    rintro E F x G rfl
    refine Lf 21 (we z8o (vy hz.pv x)) (Lh 8 (wn (cs:=[.string ⟨#[]⟩,vi 0]) zHR) fun H _=>La U<|Ll (wl zHS .here)<|Q0n<|Lb ?_)
    refine cK h fun y h=>D2q U<|L0 (dd:=24) (Z:=Z) (Pr:=(rq vD)) z5y o y ?_
    rintro I J z K rfl
    refine Lf 25 (we z8o (vy hz.pv z)) (Lh 9 (wn (cs:=[.string ⟨#[]⟩,vi 0]) zHR) fun L _=>Ll (wl zHS .here)<|Q0n<|Lb ?_)
    refine bK h fun D A h=>D1q U<|Lf 27 (we z8o (wh .h1))<|Lf 28 (we z8o (wh .here))<|Lm 29 (wV (l:=[.tmp 27,.tmp 28]) (f:=zua) (caps:=zFW) p<|.r2 U U) .nil (fun w hw=>q w (hz.now hw) (⟨(nth b a).yh,(nth b a).yd⟩:yj) (⟨(nth c a).yh,(nth c a).yd⟩:yj) D  A)<|Q1n U<|Lj h (fun B h=>?_)<|fun B h=>?_
    ·cases h
    ·exact Ep<|Lq<|Ld<|D2q U<|WL.nil<|Em ⟨C,i64 (a+1)⟩ h (Nat.lt_succ_self _) .q .nil
   ·exact En<|Ln<|Ln<|Lu<|Lp () h .nil .nil
  ·rintro  h
   replace h:=t.symm.trans h
   refine B1n U<|El ?_
   skip
   exact Lk results52 (.tmp U .nil)<|fun w hw=>⟨wx,hw.sub .nil⟩
def mM(a:yM):Option Bool:=
 (sE a.yF).bind fun b=>(if b then(qt a.yF a.fX (fun y0 y1=>m6 y0 y1)).bind fun d=>some true else some false).bind fun c=>some c
theorem nS(Z c d e f g i a r)(h:mM a=some r){Ek}(hz:PZ [] Ek Z)(j:ZS Z 2 (rq vD) c d a.yF)(l:ZS Z 2 (rq vD) e f a.fX)(q:ZS Z 4 (rq j5) g i a.yL):
  RC 17 #[.agg #[vs c a.yF.length d,vs e a.fX.length f,vs g a.yL.length i]] Ek (.bool r) [] []:=by
 unfold mM at h
 refine L3 func17 U U<|Lb<|Le (Lh 1 (wu (cs:=[vs c a.yF.length d,vs e a.fX.length f,vs g a.yL.length i])) fun s _=>Q1n U<|B1n U<|Lb ?_)
 refine bK h fun t m h=>bK h fun p k h=>Le<|Lf 4 (w7 cv)<|Lf 5 (Ei zk3 .here)<|Eg call38 hz (fun pz=>nR _ _ _ _ _ m pz j)<|La U<|Lx true 6 7 (B:=p) (fun h=>(oJ<|qg k h).symm) (fun _ n=>?_) ?_
 ·have b:=qf k n
  obtain⟨u,o,b⟩:=z2 b
  replace b:=oJ b
  exact Lf 8 (w7 cv)<|Lf 9 (Ei zk3 .here)<|Lf 10 (w7 Wd)<|Lf 11 (Ei zk3 .here)<|La U<|Eg call52 hz (fun pz=>mC _ _ _ _ _ (zua:=51) (zFW:=[]) _ _ (zgi:=(fun y0 y1=>m6 y0 y1)) _ o pz j l call51<|fun w' nd y0 y1  r  hr=>dZ _ _ _ _ hr nd)<|La U<|Ly b U .all
 exact Q1n U<|El<|oJ h▸Ea results17
def mh(a:ym)(b:yj)(c:yj)(d:Bool):Option (Bool×Bool):=
 if (decide (a.fA≠b.yh))||(decide (a.fB≠c.yh)) then some (false,d) else some ((decide (a.xA=b.yd))&&(decide (a.xB=c.yd)),true)
theorem dK(Z d a b c e r)(h:mh a b c e=some r){Ek}(hz:Pz [stb d 4 [.bool e]] Ek Z)(iA:Ho Ek [stb d 4 [.bool e]]):
  RF 111 #[.agg #[.string a.fA,vi a.xA,.string a.fB,vi a.xB],.agg #[.string b.yh,vi b.yd],.agg #[.string c.yh,vi c.yd],vp d] Ek (.bool r.1) [stb d 4 [.bool e]] [stb d 4 [.bool r.2]]:=by
 unfold mh at h
 refine Et func111 U iA U<|Lb<|Le (Lh 4 (wu (cs:=[.string a.fA,vi a.xA,.string a.fB,vi a.xB])) fun j _=>Lh 5 (wu (cs:=[.string b.yh,vi b.yd])) fun k _=>Lh 6 (wu (cs:=[.string c.yh,vi c.yd])) fun l _=>Q1n U<|Lb<|B0q<|Lf 8 (w7 FH)<|Lf 9 (Ei ge .h2)<|Lf 10 (w7 ny)<|Lf 11 (Ei ge .h1)<|Lf 12 (J6 U U)<|La U<|Lx false 5 13 (B:=(decide (a.fA≠b.yh))||(decide (a.fB≠c.yh))) (fun h=>(jB h).symm) (fun _ f=>?_) ?_)
 ·exact Lf 14 (w7 FI)<|Lf 15 (Ei ge .h2)<|Lf 16 (w7 ny)<|Lf 17 (Ei ge .here)<|Lf 18 (J6 U U)<|La U<|Ly (jC f) U .all
 refine Q0n<|Lj h (fun g h=>?_)<|fun g h=>?_
 ·exact B1n U<|El<|L4<|oJ h▸Eb results111 (.tmp U .nil) (.cons .h3 .nil)
 ·refine Ec<|B0q<|Ll (wl WY .h3)<|Q0n<|B0q<|Lf 20 (w7 FJ)<|Lf 21 (Ei wm .h3)<|Lf 22 (w7 bU)<|Lf 23 (Ei wm .h2)<|Q2q U<|Lx true 5 25 (B:=(decide (a.xA=b.yd))&&(decide (a.xB=c.yd))) (fun h=>(qd h).symm) (fun _ i=>?_) ?_
  ·exact Lf 26 (w7 FK)<|Lf 27 (Ei wm .h3)<|Lf 28 (w7 bU)<|Lf 29 (Ei wm .h1)<|Q2q U<|Ly (qe i) U .all
  exact Q1n U<|El<|oJ h▸Eb results111 (.tmp U .nil) (.cons .here .nil)
def kp(b:List ym)(c:yj)(d:yj)(e:Bool->Bool->Option Bool):Nat->Bool->Int->Bool->Option Bool
 | 0,_,_,_=>none
 | j+1,f,a,g=>if decide (a<b.length) then chk (0<=a/\a<b.length) ((mh (⟨(nth b a).fA,(nth b a).xA,(nth b a).fB,(nth b a).xB⟩:ym) c d g).bind fun h=>(mh (⟨(nth b a).fA,(nth b a).xA,(nth b a).fB,(nth b a).xB⟩:ym) d c h.2).bind fun i=>kp b c d e j ((f||h.1)||i.1) (i64 (a+1)) i.2) else e f g
def oq(a:List ym)(b:yj)(c:yj):Option Bool:=
 rl (fun(d:Bool) (e:Bool)=>some (d||(!e))) fun f=>kp a b c f wr false 0 false
theorem VW(Z n o b g j r)(h:oq b g j=some r){Ek}(hz:PZ [] Ek Z)(v:ZS Z 4 (rq j5) n o b):
  RC 55 #[vs n b.length o,.agg #[.string g.yh,vi g.yd],.agg #[.string j.yh,vi j.yd]] Ek (.bool r) [] []:=by
 unfold oq at h
 refine Ng func55 U U ?_
 let A:List Value:=[.string g.yh,vi g.yd];refine B0q<|Lh 4 (wu (cs:=A)) ?_
 intro p _
 let C:List Value:=[.string j.yh,vi j.yd];refine Lh 5 (wu (cs:=C)) ?_
 intro q _
 refine Q1n U<|Lb<|Le (Lh 7 (wn (cs:=[.bool false]) Kn) fun k _=>Ll (wl WY .here)<|Q0n<|B0q<|Lf 14 (wO<|L6 (l:=[.tmp 7])<|.cons U .nil)<|Q1n U<|B1n U ?_)
 refine jK2 h fun u x h=>Nv (fun d e=>(u d e=some r)) (fun d e=>[(7,vp k),(9,.bool d)]) (fun d e=>[stb k 4 [.bool e]]) ?_ ?_
 ·refine B1q U<|Lf 16 (wB underlying22)<|Q1n U<|WC.block<|E9 (fun m c a f=>(kp b g j u m c a f=some r)) (fun m c a f=>[(4,vp p),(5,vp q),(7,vp k),(8,.func (.func 111) #[] #[vp k]),(9,.bool c),(15,vs n b.length o),(16,vi (b.length:Int)),(17,vi a)]) (fun m c a f=>[stb p 29 A,stb q 29 C,stb k 4 [.bool f]]) (fun m c a f=>m) ⟨wr,false,0,false⟩ h .q (.s3 .h2 .h1 .here) ?_
  rintro(_|K) c a f h;·cases h
  rw[kp] at h
  refine B1n U<|Lb<|Lj h (fun y h=>?_)<|fun y h=>?_
  ·refine Ec<|Lb<|WC.block<|Lb<|cK h fun z h=>Le<|L0 (dd:=19) (Z:=Z) (Pr:=(rq j5)) z1em v z ?_
   rintro L M D N rfl
   refine Lf 20 (we zNZ (vy hz.pv D)) (Lh 11 (wn (cs:=[.string ⟨#[]⟩,vi 0,.string ⟨#[]⟩,vi 0]) z1en) fun E _=>Ll (wl z1eo .here)<|Q0n<|Lb ?_)
   refine bK h fun s F h=>bK h fun t G h=>Lv (fun i=>[4,9].contains i) [stb E 250 [(.string<|(nth b a).fA),(vi<|(nth b a).xA),(.string<|(nth b a).fB),(vi<|(nth b a).xB)],stb q 29 C,stb p 29 A]<|Lg 0 U q_m<|Li 1 U (we zNZ (wh .here))<|Li 2 U (we z8o (wh .h1))<|Li 3 U (we z8o (wh .h2))<|Lg 5 U q_m<|Na 6 U (wS.of<|.s3 .here .h1 .here) (we zNZ (wh .here))<|Na 7 U (wS.of<|.s3 .here .h1 .here) (we z8o (wh .h1))<|Na 8 U (wS.of<|.s3 .here .h1 .here) (we z8o (wh .h2)) (WD.call0 (i:=4) (dd:=25) U (by kernel_rfl) U (.inl ⟨U,(wS.of<|.s3 .h1 .h2 .h1)⟩) (wV (l:=[.tmp 22,.tmp 23,.tmp 24]) call111<|.r3 U U U) (.cons .h3 .nil) (cc hz (.cons .h3 .nil) fun w pz ho=>Calls.mono (dK _ _ _ _ _ _ _ F pz  ho)<|fun _ _ h'=>⟨h'.1,trivial,h'.2⟩) fun _=>WD.call0 (i:=9) (dd:=30) U (by kernel_rfl) U (.inl ⟨U,(wS.of<|.s3 .h1 .h2 .h1)⟩) (wV (l:=[.tmp 27,.tmp 28,.tmp 29]) call111<|.r3 U U U) (.cons .here .nil) (cc hz (.cons .here .nil) fun w pz ho=>Calls.mono (dK _ _ _ _ _ _ _ G pz  ho)<|fun _ _ h'=>⟨h'.1,trivial,h'.2⟩) fun _=>Lg 10 U q_z<|Lg 11 U q_z<|Eo (by kernel_rfl)<|Ld<|D2q U<|Lx false 1 32 (B:=c||s.1) (fun h=>(jB h).symm) (fun _ H=>?_) ?_)
   ·exact Q2q U<|Ly (jC H) U .all
   refine La U<|Lx false 1 35 (B:=(c||s.1)||t.1) (fun h=>(jB h).symm) (fun _ I=>?_) ?_
   ·exact Q2q U<|Ly (jC I) U .all
   exact La U<|WL.nil<|Lq<|Ld<|D2q U<|WL.nil<|Em ⟨K,((c||s.1)||t.1),i64 (a+1),t.2⟩ h (Nat.lt_succ_self _) .q<|.s3 .h2 .h2 .here
  ·exact En<|Ln<|Ln<|Lu<|Lp ⟨c,f⟩ h .q<|.cons .h2 .nil
 ·rintro d e h
  replace h:=(x d e).symm.trans h
  refine B2q U<|Lx false 2 40 (B:=d||(!e)) (fun h=>(jB h).symm) (fun _ J=>?_) ?_
  ·exact Lf 41 (Ei YZ .here)<|Q2q U<|Ly (jC J) U .all
  exact Q1n U<|El<|oJ h▸Ea results55
def kJ(b:yj)(c:List ym)(d:yj):Option Bool:=
 (oq c d b).bind fun a=>some (!a)
theorem nT(Z d e f g a b c r)(h:kJ a b c=some r){Ek}(hz:PZ [] Ek Z)(i:ZS Z 4 (rq j5) e f b)(j:ZC Z d [vs e b.length f])(k:ZC Z g [.string c.yh,vi c.yd]):
  RC 54 #[.agg #[.string a.yh,vi a.yd],vq d,vq g] Ek (.bool r) [] []:=by
 unfold kJ at h
 refine Ng func54 U U<|Lb<|Le (Lh 3 (wu (cs:=[.string a.yh,vi a.yd])) fun m _=>Q1n U<|Lb ?_)
 exact bK h fun n l h=>Le<|Lf 5 (w8 zCq U<|vx hz.pv j)<|Lf 6 (we z8o (vy hz.pv k))<|Lf 7 (we z8o (wh .here))<|Eg call55 hz (fun pz=>VW _ _ _ _ _ _ _ l pz i)<|Q2n U<|El<|oJ h▸Ea results54
def wZ(b:List yj)(zgj:yj->Option Bool)(c:Option Int):Nat->Int->Option Int
 | 0,_=>none
 | d+1,a=>if decide (a<b.length) then chk (0<=a/\a<b.length) ((zgj (⟨(nth b a).yh,(nth b a).yd⟩:yj)).bind fun e=>if e then some a else wZ b zgj c d (i64 (a+1))) else c
def qu(a:List yj)(zgj:yj->Option Bool):Option Int:=
 uo (some (-1)) fun b=>wZ a zgj b wr 0
theorem pN(Z d g zud zG1 b zgj r)(h:qu b zgj=some r){Ek}(hz:PZ [] Ek Z)(j:ZS Z 2 (rq vD) d g b)(k:∀ args w,(callFunc zud args).run Tryz.prog w = .ok (.enter zud args) w)(m:∀ w:World,PZ [] w Z->∀(x0:yj) (r:Bool),zgj x0=some r->Calls Tryz.prog zud (([.agg #[.string x0.yh,vi x0.yd]]:List Value)++zG1).toArray w fun e w'=>e = .returned (.bool r)/\Hp [] w w' []):
  RC 110 #[vs d b.length g,.func (.func zud) #[] (zG1).toArray] Ek (vi r) [] []:=by
 unfold qu at h
 refine Lz func110 U U<|B1n U<|jK0 h fun i n h=>Nh (i=some r) ([]) ([]) ?_ ?_
 ·refine B1q U<|Lf 7 (wB underlying27)<|Q1n U<|WC.block<|Ni (fun c a=>(wZ b zgj i c a=some r)) (fun c a=>[(0,vs d b.length g),(1,.func (.func zud) #[] (zG1).toArray),(7,vi (b.length:Int)),(8,vi a)]) (fun c a=>[]) (fun c a=>c) ⟨wr,0⟩ h .q .nil ?_
  rintro(_|u) a h;·cases h
  rw[wZ] at h
  refine B1n U<|Lb<|Lj h (fun o h=>?_)<|fun o h=>?_
  ·refine Ec<|Lb<|WC.block<|B2n U<|Lb<|cK h fun p h=>bK h fun v q h=>D3q U<|L0 (dd:=14) (Z:=Z) (Pr:=(rq vD)) z5y j p ?_
   rintro x y s z rfl
   refine Lf 15 (we z8o (vy hz.pv s))<|Lm 16 (wV (l:=[.tmp 15]) (f:=zud) (caps:=zG1) k<|.cons U .nil) .nil (fun w hw=>m w (hz.now hw) (⟨(nth b a).yh,(nth b a).yd⟩:yj) v  q)<|Q0n<|Lj h (fun t h=>?_)<|fun t h=>?_
   ·exact B2n U<|El<|Nc<|L4<|L4<|Nc<|L4<|oJ h▸Ea results110
   ·exact Ep<|Lq<|Ld<|D2q U<|WL.nil<|Em ⟨u,i64 (a+1)⟩ h (Nat.lt_succ_self _) .q .nil
  ·exact En<|Ln<|Ln<|Lu<|Lp () h .nil .nil
 ·rintro  h
  replace h:=n.symm.trans h
  exact B1n U<|El<|oJ h▸Ea results110
def qa(b:List yj)(zA2:yj->Option Bool):Option Bool:=
 (qu b zA2).bind fun a=>some (decide (a>=0))
theorem ry(Z b c zA3 zLW a zA2 r)(h:qa a zA2=some r){Ek}(hz:PZ [] Ek Z)(d:ZS Z 2 (rq vD) b c a)(f:∀ args w,(callFunc zA3 args).run Tryz.prog w = .ok (.enter zA3 args) w)(g:∀ w:World,PZ [] w Z->∀(x0:yj) (r:Bool),zA2 x0=some r->Calls Tryz.prog zA3 (([.agg #[.string x0.yh,vi x0.yd]]:List Value)++zLW).toArray w fun e w'=>e = .returned (.bool r)/\Hp [] w w' []):
  RC 53 #[vs b a.length c,.func (.func zA3) #[] (zLW).toArray] Ek (.bool r) [] []:=by
 unfold qa at h
 exact Lz func53 U U<|B1n U<|Lb<|bK h fun j i h=>D2q U<|Eg call110 hz (fun pz=>pN _ _ _ (zud:=zA3) (zG1:=zLW) _ (zgj:=zA2) _ i pz d f g)<|Q2n U<|El<|oJ h▸Ea results53
def qQ(b:List yj)(c:List ym)(d:Option Bool):Nat->Int->Option Bool
 | 0,_=>none
 | f+1,a=>if decide (a<b.length) then chk (0<=a/\a<b.length) (chk ((0:Int)<=0/\(0:Int)<=a/\a<=b.length) ((qa (b.take (a:Int).toNat) (fun(y0:yj)=>kJ y0 c (⟨(nth b a).yh,(nth b a).yd⟩:yj))).bind fun e=>if e then some false else qQ b c d f (i64 (a+1)))) else d
def qU(a:List ym)(b:List yj):Option Bool:=
 uo (some true) fun c=>qQ b a c wr 0
theorem rU(Z e f g i c b r)(h:qU c b=some r){Ek}(hz:PZ [] Ek Z)(n:ZS Z 4 (rq j5) e f c)(k:ZS Z 2 (rq vD) g i b):
  RC 18 #[vs e c.length f,vs g b.length i] Ek (.bool r) [] []:=by
 unfold qU at h
 refine Lz func18 U U ?_
 let A:Value:=(vs e c.length f);refine B0q<|Lh 2 (wu (cs:=[A])) ?_
 intro j _
 refine Q1n U<|jK0 h fun m o h=>Nh (m=some r) ([]) ([]) ?_ ?_
 ·let C:Value:=(vs g b.length i);refine B1q U<|Lf 8 (wB underlying27)<|Q1n U<|WC.block<|Ni (fun d a=>(qQ b c m d a=some r)) (fun d a=>[(1,C),(2,vp j),(7,C),(8,vi (b.length:Int)),(9,vi a)]) (fun d a=>[stb j 22 [A]]) (fun d a=>d) ⟨wr,0⟩ h .q (.cons .here .nil) ?_
  rintro(_|z) a h;·cases h
  rw[qQ] at h
  refine B1n U<|Lb<|Lj h (fun p h=>?_)<|fun p h=>?_
  ·refine Ec<|Lb<|WC.block<|Lb<|cK h fun q h=>D1q U<|L0 (dd:=12) (Z:=Z) (Pr:=(rq vD)) z5y k q ?_
   rintro B D s E rfl
   refine Lf 13 (we z8o (vy hz.pv s)) (Lh 6 (wn (cs:=[.string ⟨#[]⟩,vi 0]) zHR) fun t _=>La U<|Ll (wl zHS .here)<|Q0n<|Lb ?_)
   refine cK h fun u h=>bK h fun F v h=>D2q U<|Nn (dd:=16) (Z:=Z) (Pr:=(rq vD)) z5y U k WE np U U u (List.drop_zero).symm ?_
   rintro G H x
   refine Lf 17 (wO<|L6 (l:=[.tmp 2,.tmp 6])<|.r2 U U)<|Lm 18 (Eh call53) .nil (kb hz .nil (.s2 .h1 .here) fun w pz ho la=>ry _ _ _ (zA3:=54) (zLW:=[vp j,vp t]) _ (zA2:=(fun(y0:yj)=>kJ y0 c (⟨(nth b a).yh,(nth b a).yd⟩:yj))) _ v pz (x.mono<|zl) call54<|fun w' nd y0  r  hr=>nT _ _ _ _ _ _ _ _ _ hr nd (n.mono<|zl) ((la _ (.head _) _).stb)<|(la _ (.tail _<|.head _) _).stb)<|Q0n<|Lj h (fun y h=>?_)<|fun y h=>?_
   ·exact B1n U<|El<|Nc<|L4<|L4<|Nc<|L4<|oJ h▸Ea results18
   ·exact Ep<|Lq<|Ld<|D2q U<|WL.nil<|Em ⟨z,i64 (a+1)⟩ h (Nat.lt_succ_self _) .q<|.cons .h1 .nil
  ·exact En<|Ln<|Ln<|Lu<|Lp () h .nil .nil
 ·rintro  h
  replace h:=o.symm.trans h
  exact B1n U<|El<|oJ h▸Ea results18
def kK(a:yM)(b:Int):Option (yM×Int):=
 some (a,b)
theorem lJ(Z b c d f g i a j r)(h:kK a j=some r){Ek}(hz:PZ [] Ek Z)(u:ZS Z 2 (rq vD) b c a.yF)(v:ZS Z 2 (rq vD) d f a.fX)(x:ZS Z 4 (rq j5) g i a.yL):
  Calls Tryz.prog 19 #[.agg #[vs b a.yF.length c,vs d a.fX.length f,vs g a.yL.length i],vi j] Ek fun e w'=>∃ k:Nat,∃ m:Nat,∃ n:Option Addr,∃ o:Nat,∃ p:Option Addr,∃ q:Nat,∃ s:Option Addr,∃ t:Nat,e = .returned (.func (.func 56) #[] #[vp k,vp m])/\((ZS Z 2 (rq vD) n o r.1.yF)/\(ZS Z 2 (rq vD) p q r.1.fX)/\(ZS Z 4 (rq j5) s t r.1.yL))/\Hp [] Ek w' [stb k 103 [vs n r.1.yF.length o,vs p r.1.fX.length q,vs s r.1.yL.length t],stb m 3 [vi r.2]]:=by
 unfold kK at h
 refine Lz func19 U U<|Lb<|Le (Lh 2 (wu (cs:=[vs b a.yF.length c,vs d a.fX.length f,vs g a.yL.length i])) fun y _=>Lh 3 (wu (cs:=[vi j])) fun z _=>Q1n U<|B0q<|Lf 5 (wO<|L6 (l:=[.tmp 2,.tmp 3])<|.r2 U U)<|Q1n U<|El ?_)
 exact oJ h▸Lk results19 (.tmp U .nil) fun w hw=>⟨y,z,b,c,d,f,g,i,wx,⟨u,v,x⟩,hw.sub (.s2 .h1 .here)⟩
def qv(b:yM)(d:Int)(e:(List yj)->Option (List yj)):Nat->(List yj)->Int->Option (List yj)
 | 0,_,_=>none
 | g+1,c,a=>if decide (a<b.yF.length) then vC (fun(h:List yj)=>qv b d e g h (i64 (a+1))) fun f=>chk (0<=a) (if decide ((bits .and .i64 (d / 2 ^ min (a:Int).toNat 64) 1)=1) then chk (0<=a/\a<b.fX.length) (chk ((((c++([(⟨(nth b.fX a).yh,(nth b.fX a).yd⟩:yj)]:List yj)).length:Nat):Int)*24<=140737488355328/\(((c++([(⟨(nth b.fX a).yh,(nth b.fX a).yd⟩:yj)]:List yj)).length:Nat):Int)<=4611686018427387904) (f (c++([(⟨(nth b.fX a).yh,(nth b.fX a).yd⟩:yj)]:List yj)))) else chk (0<=a/\a<b.yF.length) (chk ((((c++([(⟨(nth b.yF a).yh,(nth b.yF a).yd⟩:yj)]:List yj)).length:Nat):Int)*24<=140737488355328/\(((c++([(⟨(nth b.yF a).yh,(nth b.yF a).yd⟩:yj)]:List yj)).length:Nat):Int)<=4611686018427387904) (f (c++([(⟨(nth b.yF a).yh,(nth b.yF a).yd⟩:yj)]:List yj))))) else e c
def kL(a:yM)(b:Int):Option (List yj):=
 vC (fun(c:List yj)=>some c) fun d=>qv a b d wr ([]:List yj) 0
theorem nU(Z s t u v x y a o r)(h:kL a o=some r){Ek}(hz:PZ [] Ek Z)(E:ZS Z 2 (rq vD) s t a.yF)(F:ZS Z 2 (rq vD) u v a.fX)(Y:ZS Z 4 (rq j5) x y a.yL):
  Calls Tryz.prog 57 #[.agg #[vs s a.yF.length t,vs u a.fX.length v,vs x a.yL.length y],vi o] Ek fun e w'=>∃ z:Option Addr,∃ B:Nat,e = .returned (vs z r.length B)/\True/\Hp [] Ek w' [row (vs z r.length B) 29 2 (r.flatMap vD)]:=by
 unfold kL at h
 refine Lz func57 U U ?_
 let A:List Value:=[vs s a.yF.length t,vs u a.fX.length v,vs x a.yL.length y];refine B0q<|Lh 2 (wu (cs:=A)) ?_
 intro q _
 refine Q1n U<|B1n U<|jK1 h fun D G h=>Nf (fun f j k=>(D f=some r)) (fun f j k=>[(5,vs j f.length k)]) (fun f j k=>[row (vs j f.length k) 29 2 (f.flatMap vD)]) ?_ ?_
 ·let C:=(a.yF.length:Int);refine B0q<|Lf 7 (w7 cv)<|Lf 8 (Ei zk3 .here)<|Lf 9 (wB underlying27)<|Q1n U<|WC.block<|WC.nilRow 29 2<|E6 (fun p c b g i=>(qv a o D p c b=some r)) (fun p c b g i=>[(1,vi o),(2,vp q),(5,vs g c.length i),(9,vi C),(10,vi b)]) (fun p c b g i=>[row (vs g c.length i) 29 2 (c.flatMap vD),stb q 103 A]) (fun p c b g i=>p) ⟨wr,([]:List yj),0,none,0⟩ h .q .a2 ?_
  rintro(_|W) c b g i h;·cases h
  rw[qv] at h
  refine B1n U<|Lb<|Lj h (fun H h=>?_)<|fun H h=>?_
  ·refine Ec<|jK1 h fun X I h=>Nf (fun d m n=>(X d=some r)) (fun d m n=>[(1,vi o),(2,vp q),(5,vs m d.length n),(9,vi C),(10,vi b)]) (fun d m n=>[row (vs m d.length n) 29 2 (d.flatMap vD),stb q 103 A]) ?_ ?_
   ·refine WC.block<|B2n U<|Lb<|cK h fun J h=>D2q U<|Lf 15 (oV J)<|Lf 16 Wz<|Q1n U<|Lj h (fun K h=>?_)<|fun K h=>?_
    ·refine cK h fun L h=>cK h fun M h=>D1q U<|Lf 19 (w7 Wd)<|Lf 20 (Ei zk3 .h1)<|La U<|L0 (dd:=22) (Z:=Z) (Pr:=(rq vD)) z5y F L ?_
     rintro aa ab N ad rfl
     refine Lf 23 (we z8o (vy hz.pv N)) (Lh 24 (wD (cs:=([(⟨(nth a.fX b).yh,(nth a.fX b).yd⟩:yj)]:List yj).flatMap vD) z5y (Lt (l:=[.tmp 23]) (.cons U .nil) [0]) (fun _=>by kernel_rfl) (by unfold maxLen;omega)) fun ae _=>WL.fA 25 (vb (enc:=vD) (l1:=c) (l2:=([(⟨(nth a.fX b).yh,(nth a.fX b).yd⟩:yj)]:List yj)) z5y .h1 (fun _=>U) (wY .here) (vm YY _) M) ?_)
     rintro⟨O,P⟩ _
     exact La U<|WL.nil<|Lq<|Lp ⟨c++([(⟨(nth a.fX b).yh,(nth a.fX b).yd⟩:yj)]:List yj),O,P⟩ h .q<|.s2 .here .h1
    ·refine cK h fun Q h=>cK h fun R h=>D1q U<|Lf 27 (w7 cv)<|Lf 28 (Ei zk3 .h1)<|La U<|L0 (dd:=30) (Z:=Z) (Pr:=(rq vD)) z5y E Q ?_
     rintro af ag S ah rfl
     refine Lf 31 (we z8o (vy hz.pv S)) (Lh 32 (wD (cs:=([(⟨(nth a.yF b).yh,(nth a.yF b).yd⟩:yj)]:List yj).flatMap vD) z5y (Lt (l:=[.tmp 31]) (.cons U .nil) [0]) (fun _=>by kernel_rfl) (by unfold maxLen;omega)) fun ai _=>WL.fA 33 (vb (enc:=vD) (l1:=c) (l2:=([(⟨(nth a.yF b).yh,(nth a.yF b).yd⟩:yj)]:List yj)) z5y .h1 (fun _=>U) (wY .here) (vm YY _) R) ?_)
     rintro⟨T,V⟩ _
     exact La U<|WL.nil<|Lq<|Lp ⟨c++([(⟨(nth a.yF b).yh,(nth a.yF b).yd⟩:yj)]:List yj),T,V⟩ h .q<|.s2 .here .h1
   ·rintro d m n h
    replace h:=(I d).symm.trans h
    exact D2q U<|WL.nil<|Em ⟨W,d,i64 (b+1),m,n⟩ h (Nat.lt_succ_self _) .q<|.a2
  ·exact En<|Ln<|Ln<|Lu<|Lp ⟨c,g,i⟩ h (.cons U .nil)<|.cons .here .nil
 ·rintro f j k h
  replace h:=(G f).symm.trans h
  exact B2n U<|El<|oJ h▸Lk results57 (.tmp U .nil) fun w hw=>⟨j,k,wx,trivial,hw.sub (.cons .here .nil)⟩
def qb(z3R:Type)(z36:yM)(z4c:Int)(zf1:(Int×Int)->z3R->Option (Bool×z3R))(d:z3R->Option z3R):Nat->Int->z3R->Option z3R
 | 0,_,_=>none
 | h+1,a,b=>if decide (a<z36.yF.length) then chk (0<=a) (chk ((decide ((bits .or .i64 z4c (i64 (1*2 ^ min (a:Int).toNat 64)))≠z4c))=true->(0<=a/\a<z36.yF.length)) (chk ((decide ((bits .or .i64 z4c (i64 (1*2 ^ min (a:Int).toNat 64)))≠z4c))=true->(0<=a/\a<z36.fX.length)) ((if (decide ((bits .or .i64 z4c (i64 (1*2 ^ min (a:Int).toNat 64)))≠z4c))&&(decide ((⟨(nth z36.yF a).yh,(nth z36.yF a).yd⟩:yj)≠(⟨(nth z36.fX a).yh,(nth z36.fX a).yd⟩:yj))) then(kL z36 (bits .or .i64 z4c (i64 (1*2 ^ min (a:Int).toNat 64)))).bind fun f=>(qU z36.yL f).bind fun g=>some g else some false).bind fun i=>(if i then(zf1 (a,bits .or .i64 z4c (i64 (1*2 ^ min (a:Int).toNat 64))) b).bind fun e=>some (!e.1,e.2) else some (false,b)).bind fun c=>if c.1 then some c.2 else qb z3R z36 z4c zf1 d h (i64 (a+1)) c.2))) else d b
def gg(z3R:Type)(zf1:(Int×Int)->z3R->Option (Bool×z3R))(zgl:z3R)(z36:yM)(z4c:Int):Option z3R:=
 vC (fun(a:z3R)=>some a) fun b=>qb z3R z36 z4c zf1 b wr 0 zgl
theorem oC(Z)(z3R:Type)(zqw)(zf2:Type)(ze4)(zqx:zf2->z3R->Prop)(zqy zqz zM9 zMa zMb zMc zMd zMe zqA zf1 zgl z36 z4c r){Ek}(hz:Pz [ze4 zqy zgl] Ek Z)(ad:cU Tryz.prog Z zqw (α:=Int×Int) (σ:=z3R) (G:=zf2) (H:=Unit) (fun h x=>[vi x.1,vi x.2]) (fun h x=>[]) zf1 ze4 zqx)(ae:zqx zqy zgl)(N:ZS Z 2 (rq vD) zM9 zMa z36.yF)(O:ZS Z 2 (rq vD) zMb zMc z36.fX)(P:ZS Z 4 (rq j5) zMd zMe z36.yL)(p:ZC Z zqz [vs zM9 z36.yF.length zMa,vs zMb z36.fX.length zMc,vs zMd z36.yL.length zMe])(Q:ZC Z zqA [vi z4c])(h:gg z3R zf1 zgl z36 z4c=some r)(iA:Ho Ek [ze4 zqy zgl]):
  Calls Tryz.prog 56 #[.func (.yield zqw) #[] #[],vq zqz,vq zqA] Ek fun e w'=>∃ R:zf2,e = .returned (.tuple #[])/\(zqx R r)/\Hp (fps [ze4 zqy zgl]) Ek w' [ze4 R r]:=by
 unfold gg at h
 refine Ey func56 U iA U<|B0q<|Lf 6 (w7 cv)<|Lf 7 (w8 zk3 U<|wP hz.pv p)<|Lf 8 (wB underlying27)<|Q1n U<|jK1 h fun aa af h=>N3 (fun k n=>(aa k=some r)/\(zqx n k)) (fun k n=>[]) (fun k n=>[ze4 n k]) ?_ ?_
 ·let D:Value:=(vi (z36.yF.length:Int));let E:Value:=(.func (.yield zqw) #[] #[]);refine WC.block<|E9 (fun o c d f=>(qb z3R z36 z4c zf1 aa o c d=some r)/\(zqx f d)) (fun o c d f=>[(0,E),(1,vq zqz),(2,vq zqA),(8,D),(9,vi c)]) (fun o c d f=>[ze4 f d]) (fun o c d f=>o) ⟨wr,0,zgl,zqy⟩ ⟨h,ae⟩ .q (.cons .here .nil) ?_
  rintro (_|ax) c d f ⟨h,v⟩;·cases h
  rw[qb] at h
  refine B1n U<|Lb<|Lj h (fun ag h=>?_)<|fun ag h=>?_
  ·refine Ec<|Lb<|WC.block<|B2n U<|Lb<|cK h fun ah h=>Lv nc []<|Li 0 U (w8 wm U<|vx hz.pv Q)<|Lg 1 U q_m<|Lg 2 U (cN ah)<|Lg 3 U VF<|Lg 4 U q_z<|Eo (by kernel_rfl)<|Ld<|Lb ?_
   obtain⟨ai,h⟩:=wa h
   obtain⟨aj,h⟩:=wa h
   obtain⟨y,S,h⟩:=z2 h
   obtain⟨u,T,h⟩:=z2 h
   let C:=(i64 (1*2 ^ min (c:Int).toNat 64));let A:Value:=(.bool ((decide ((bits .or .i64 z4c C)≠z4c))&&(decide ((⟨(nth z36.yF c).yh,(nth z36.yF c).yd⟩:yj)≠(⟨(nth z36.fX c).yh,(nth z36.fX c).yd⟩:yj)))));let F:Value:=(vi (bits .or .i64 z4c C));refine Lv (fun i=>[28].contains i) []<|Lg 0 U q_m<|Li 1 U (w8 wm U<|vx hz.pv Q)<|Lg 2 U kj<|Lg 3 U q_m<|L9 (fuel':=15) [(0,E),(1,vq zqz),(2,vq zqA),(8,D),(9,vi c),(4,vi c),(5,F),(19,(.bool<|decide ((bits .or .i64 z4c C)≠z4c))),(31,A)] (wR 31 (dn 16)) ?_<|fun V=>?_
   rotate_left
   ·rcases Bool.eq_false_or_eq_true (decide ((bits .or .i64 z4c (i64 (1*2 ^ min (c:Int).toNat 64)))≠z4c)) with hb' | hb'
    ·have q:=hb';clear hb'
     have ak:=ai q
     have al:=aj q
     refine L2 (i:=19) U q<|Lg 4 U (w7 cv)<|Li 5 U (w8 zk3 U<|wP hz.pv p)<|Lg 6 U q_m<|L8 (j:=7) (dd:=23) (by kernel_rfl) z2W z2X (Z:=Z) (Pr:=(rq vD)) z5y N ak ?_
     rintro ay az am aA rfl
     refine Li 8 U (we z8o (vy hz.pv am))<|Lg 9 U (w7 Wd)<|Li 10 U (w8 zk3 U<|wP hz.pv p)<|Lg 11 U q_m<|L8 (j:=12) (dd:=28) (by kernel_rfl) z2W z2X (Z:=Z) (Pr:=(rq vD)) z5y O al ?_
     rintro aB aC an aD rfl
     refine Li 13 U (we z8o (vy hz.pv an))<|Lg 14 U (XZ (enc:=vD) (a:=(⟨(nth z36.yF c).yh,(nth z36.yF c).yd⟩:yj)) (b:=(⟨(nth z36.fX c).yh,(nth z36.fX c).yd⟩:yj)) zZv U U)<|Lg 15 U vH<|Lw (.cons .here .nil) ?_ V
     exact .t 7<|.r2 (zq<|Eq.symm q)<|zq<|qe q
    ·have z:=hb';clear hb'
     refine L2 (i:=19) U z<|Lo 4 U<|Lo 5 U<|Lo 6 U<|Lo 7 U<|Lo 8 U<|Lo 9 U<|Lo 10 U<|Lo 11 U<|Lo 12 U<|Lo 13 U<|Lo 14 U<|Lg 15 U vA<|Lw (.cons .here .nil) ?_ V
     exact .t 7<|.r2 (zq<|Eq.symm z)<|zq<|qd z
   refine WD.d (bz 16 15) (by kernel_rfl)<|Lg 16 U q_m<|L9 (fuel':=7) [(0,E),(1,vq zqz),(2,vq zqA),(8,D),(9,vi c),(4,vi c),(5,F),(32,A),(39,.bool y)] (wR 31 (dn 24)) ?_<|fun W=>?_
   rotate_left
   ·rcases Bool.eq_false_or_eq_true ((decide ((bits .or .i64 z4c (i64 (1*2 ^ min (c:Int).toNat 64)))≠z4c))&&(decide ((⟨(nth z36.yF c).yh,(nth z36.yF c).yd⟩:yj)≠(⟨(nth z36.fX c).yh,(nth z36.fX c).yd⟩:yj)))) with hb' | hb'
    ·have B:=hb';clear hb'
     have l:=qf S B
     obtain⟨aE,ao,l⟩:=z2 l
     obtain⟨aF,ap,l⟩:=z2 l
     replace l:=oJ l
     refine L2 (i:=32) U B<|Lg 17 U (w7 FL)<|Li 18 U (w8 zCq U<|wP hz.pv p)<|Li 19 U (we zHQ (vy hz.pv p))<|Lg 20 U q_m<|WD.call2 (i:=21) (dd:=37) U (by kernel_rfl) U (.inr U) (Eh call57) .nil (cc hz .nil fun w pz ho=>nU _ _ _ _ _ _ _ _ _ _ ao pz N O P) ?_
     rintro aG aH _
     refine L5 22 U (Eh call18) (kb hz .nil (.cons .here .nil) fun w pz ho la=>rU _ _ _ _ _ _ _ _ ap pz (P.mono<|zl)<|ZA.row (la _ (.head _) _) (RR.flat (enc:=vD) (fun _=>U) _) ⟨w,pz.1⟩)<|Lg 23 U vH<|Lw (.cons .h1 .nil) ?_ W
     exact .t 7<|.r2 (zq<|Eq.symm B)<|zq l
    ·have I:=hb';clear hb'
     have J:=qg S I
     replace J:=oJ J
     refine L2 (i:=32) U I<|Lo 17 U<|Lo 18 U<|Lo 19 U<|Lo 20 U<|Lo 21 U<|Lo 22 U<|Lg 23 U vA<|Lw (.cons .here .nil) ?_ W
     exact .t 7<|.r2 (zq<|Eq.symm I)<|zq J
   refine WD.d (bz 24 7) (by kernel_rfl)<|Lg 24 U q_m<|Hh (fuel':=0) (fun m=>[(0,E),(1,vq zqz),(2,vq zqA),(8,D),(9,vi c),(40,.bool y),(46,.bool u.1)]) (fun m=>[ze4 m u.2]) (fun m=>zqx m u.2) (wR 31 (dn 31)) ?_<|fun X=>?_
   rotate_left
   ·rcases Bool.eq_false_or_eq_true y with hb' | hb'
    ·have K:=hb';clear hb'
     have t:=qf T K
     obtain⟨ab,aq,t⟩:=z2 t
     replace t:=oJ t
     refine L2 (i:=40) U K<|Lg 25 U q_m<|Lg 26 U q_m<|Lg 27 U q_m (Db (i:=28) (dd:=44) (x:=(c,bits .or .i64 z4c C)) (h:=()) (g:=f) (s:=d) (b:=ab.1) (s':=ab.2) ad U (by kernel_rfl) U U U U .q ((.cons .here .nil):Sel _ [ze4 f d] _) aq v (fun w hw=>hz.call hw ((.cons .here .nil):Sel _ [ze4 f d] _)) (fun _=>(wS.of .nil)) fun ar au=>Lg 29 U th<|Lg 30 U vH ?_)
     subst t
     refine Lw (.cons .here .nil) ?_<|X ar au
     exact .t 5<|.r2 (zq<|Eq.symm K) U
    ·have L:=hb';clear hb'
     have M:=qg T L
     replace M:=oJ M
     refine L2 (i:=40) U L<|Lo 25 U<|Lo 26 U<|Lo 27 U<|Lo 28 U<|Lo 29 U<|Lg 30 U vA ?_
     subst M
     refine Lw (.cons .here .nil) ?_<|X f v
     exact .t 5<|.r2 (zq<|Eq.symm L) U
   intro m Y
   refine WD.d (bz 31 0) (by kernel_rfl)<|Eo (by kernel_rfl)<|Ld<|Lj h (fun av h=>?_)<|fun av h=>?_
   ·exact El<|Nc<|L4<|L4<|Nc<|L4<|oJ h▸Lk results56 .nil fun w hw=>⟨m,ui,Y,hw.sub (.cons .here .nil)⟩
   ·exact Ep<|Lq<|Ld<|D2q U<|WL.nil<|Em ⟨ax,i64 (c+1),u.2,m⟩ ⟨h,Y⟩ (Nat.lt_succ_self _) .q<|.cons .here .nil
  ·exact En<|Ln<|Ln<|Lu<|Lp ⟨d,f⟩ ⟨h,v⟩ .nil<|.cons .here .nil
 ·rintro k n ⟨h,aw⟩
  replace h:=(af k).symm.trans h
  exact oJ h▸Nj results56 .nil fun w hw=>⟨n,ui,aw,hw.sub (.cons .here .nil)⟩
end Go.Proofs.YtaefhckdgfpeaaaGreat

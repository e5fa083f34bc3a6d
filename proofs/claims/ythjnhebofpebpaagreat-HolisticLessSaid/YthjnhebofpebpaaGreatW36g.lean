/- A part of this claim's proof: models of functions, walks, plain laws. No conditions. -/
import Derived.Test.YthjnhebofpebpaaGreatW36f
set_option linter.all false
namespace Go.Proofs.YthjnhebofpebpaaGreat
open Go Go.RowKit Sep
set_option maxRecDepth 30000
set_option maxHeartbeats 4000000
def y6s(c:zp)(wide:List (Int×Int))(q:Int×List (Int→Option Int))(y0:Int):Option Int:=y4E y0 q.1 q.2 wide c
def y2X(zI:List (List zd))(z11:z8)(z6:zp)(z1P:List (z8×Int))(zdg:Int→(List (Int×List (Int→Option Int)))→(List (Int×Int))→Option (List (Int→Option Int)×Int)):Nat→Int→Int→(List (Int×List (Int→Option Int)))→(List (Int×Int))→Option (List (Int→Option Int)×Int)
 | 0,_,_,_,_=>none
 | zCq+1,z2o,ze,z3U,z27=>if decide (ze<((zI.length:Nat):Int)) then jp3 (fun(zdh:Int) (zdi:List (Int×List (Int→Option Int))) (zdj:List (Int×Int))=>y2X zI z11 z6 z1P zdg zCq zdh (i64 (ze+1)) zdi zdj) fun zsz=>chk ((0:Int)≤ze∧ze<((zI.length:Nat):Int)) ((yZ (nth zI ze) (fun(y0:zd)=>y4F y0 z11)).bind fun z2a=>if decide (z2a<0) then zsz z2o z3U z27 else chk ((0:Int)≤ze∧ze<((z6.fVLs.length:Nat):Int)) ((y4H z6 (nth zI ze) z1P).bind fun z1o=>chk ((0:Int)≤z2a∧z2a<((z1o.length:Nat):Int)) (jp1 (fun(z2d:Int)=>chk (((((yg z3U z2d [])++([(fun(y0:Int)=>y1h y0 (⟨((nth z6.fVLs ze).fName),(⟨(((nth z6.fVLs ze).fFrom).fModule),(((nth z6.fVLs ze).fFrom).fPart),(((nth z6.fVLs ze).fFrom).fPort)⟩:Sapi_Ref),((nth z6.fVLs ze).fBag),((nth z6.fVLs ze).fMax),((nth z6.fVLs ze).fTo)⟩:zh) (nth z1o z2a))]:List (Int→Option Int))).length:Nat):Int)*8≤140737488355328∧((((yg z3U z2d [])++([(fun(y0:Int)=>y1h y0 (⟨((nth z6.fVLs ze).fName),(⟨(((nth z6.fVLs ze).fFrom).fModule),(((nth z6.fVLs ze).fFrom).fPart),(((nth z6.fVLs ze).fFrom).fPort)⟩:Sapi_Ref),((nth z6.fVLs ze).fBag),((nth z6.fVLs ze).fMax),((nth z6.fVLs ze).fTo)⟩:zh) (nth z1o z2a))]:List (Int→Option Int))).length:Nat):Int)≤4611686018427387904) (zsz (max z2o ((nth z6.fVLs ze).fMax)) (yF z3U z2d ((yg z3U z2d [])++([(fun(y0:Int)=>y1h y0 (⟨((nth z6.fVLs ze).fName),(⟨(((nth z6.fVLs ze).fFrom).fModule),(((nth z6.fVLs ze).fFrom).fPart),(((nth z6.fVLs ze).fFrom).fPort)⟩:Sapi_Ref),((nth z6.fVLs ze).fBag),((nth z6.fVLs ze).fMax),((nth z6.fVLs ze).fTo)⟩:zh) (nth z1o z2a))]:List (Int→Option Int)))) (yF z27 z2d (max (yg z27 z2d 0) ((nth z6.fVLs ze).fMax))))) fun zsA=>(yZ (nth zI ze) (fun(y0:zd)=>y4I y0 z11)).bind fun zlf=>if decide (zlf≥0) then chk ((0:Int)≤zlf∧zlf<(((nth zI ze).length:Nat):Int)) (zsA ((nth (nth zI ze) zlf).fQ)) else zsA (-1)))) else zdg z2o z3U z27
theorem y9O{n:Nat}{zI:List (List zd)}{z11:z8}{z6:zp}{z1P:List (z8×Int)}{zdg:Int→(List (Int×List (Int→Option Int)))→(List (Int×Int))→Option (List (Int→Option Int)×Int)}{z2o:Int}{ze:Int}{z3U:List (Int×List (Int→Option Int))}{z27:List (Int×Int)}{r:(List (Int→Option Int)×Int)}(h:y2X zI z11 z6 z1P zdg n z2o ze z3U z27=some r):∃ m,n=m+1:=by
 cases n with
 | zero=>cases h
 | succ m=>exact⟨m,rfl⟩
def y4i(z6:zp)(zI:List (List zd))(z11:z8)(z1P:List (z8×Int)):Option (List (Int→Option Int)×Int):=
 jp3 (fun(zlg:Int) (zfN:List (Int×List (Int→Option Int))) (zlh:List (Int×Int))=>chk (zfN.length*8≤140737488355328∧zfN.length≤4611686018427387904) (some (zfN.map (y6s z6 zlh),zlg))) fun zdg=>y2X zI z11 z6 z1P zdg yx 0 0 ([]:List (Int×List (Int→Option Int))) ([]:List (Int×Int))
theorem ycq{Z:Zp}{z2E:Option Addr}{z2F:Nat}{z2G:Option Addr}{z2H:Nat}{z2I:Option Addr}{z2J:Nat}{z2K:Option Addr}{z2L:Nat}{z2u:Option Addr}{z2v:Nat}{z2M:Option Addr}{z2N:Nat}{z2O:Option Addr}{z2P:Nat}{z2Q:Option Addr}{z2R:Nat}{z5o:Option Addr}{z5p:Nat}{z17:Nat}{z6:zp}{zI:List (List zd)}{z11:z8}{z1P:List (z8×Int)}{r:(List (Int→Option Int)×Int)}(h:y4i z6 zI z11 z1P=some r)(w₀:World)(hz:PZ (fps [yp z17 (fun x=>Value.agg (e94 x).toArray) (Value.int .i64) z1P]) w₀ Z)(zoS:ZS Z 4 (y3y Z) z2E z2F z6.fM)(zoT:ZS Z 4 (y4k Z) z2G z2H z6.fC0)(zoU:ZS Z 4 (fun r x=>r=e64 x) z2I z2J z6.fS)(zoV:ZS Z 4 (fun r x=>r=e62 x) z2K z2L z6.fK)(zli:ZS Z 7 (p69 Z) z2u z2v z6.fVLs)(zoW:ZS Z 5 (fun r x=>r=y4t x) z2M z2N z6.fH)(zoX:ZS Z 3 (y4l Z) z2O z2P z6.fU)(zoY:ZS Z 4 (fun r x=>r=y4u x) z2Q z2R z6.fV0)(z10E:ZS Z 1 (p58 Z) z5o z5p zI)(hown:Hp (fps [yp z17 (fun x=>Value.agg (e94 x).toArray) (Value.int .i64) z1P]) w₀ w₀ [yp z17 (fun x=>Value.agg (e94 x).toArray) (Value.int .i64) z1P]):
  Calls Tryz.prog 53 #[(.agg #[(.slice z2E z6.fM.length z2F),(.slice z2G z6.fC0.length z2H),(.slice z2I z6.fS.length z2J),(.slice z2K z6.fK.length z2L),(.slice z2u z6.fVLs.length z2v),(.slice z2M z6.fH.length z2N),(.slice z2O z6.fU.length z2P),(.slice z2Q z6.fV0.length z2R)]),(.slice z5o zI.length z5p),(.agg #[(vi z11.fNode),(vi z11.fQ)]),(.map (some z17))] w₀ fun e w'=>∃ Zn:Zp,∃ aor:Option Addr,∃ capr:Nat,e = .returned (.tuple #[(.slice aor r.1.length capr),(vi r.2)])∧(ZSB (Z++Zn) (y5V (Z++Zn)) aor capr r.1)∧Hp (fps [yp z17 (fun x=>Value.agg (e94 x).toArray) (Value.int .i64) z1P]) w₀ w' [fz Zn,yp z17 (fun x=>Value.agg (e94 x).toArray) (Value.int .i64) z1P]:=by
 unfold y4i at h
 refine Calls.oh4 Tryz.func53 Tryz.ntmps53 hown ?_
 let P:Value:=(.slice z2u z6.fVLs.length z2v);let W:Value:=(.slice z2G z6.fC0.length z2H);let X:Value:=(.slice z2Q z6.fV0.length z2R);let Y:Value:=(.slice z2E z6.fM.length z2F);let Aa:Value:=(.slice z2I z6.fS.length z2J);let Ab:Value:=(.slice z2K z6.fK.length z2L);let Ac:Value:=(.slice z2M z6.fH.length z2N);let Ad:Value:=(.slice z2O z6.fU.length z2P);let A:List Value:=[Y,W,Aa,Ab,P,Ac,Ad,X];refine WC.pool (WC.b (Ld (Lg 4 (yH (cs:=A) U U) ?_)))
 intro z1b _
 let I:List Value:=[(vi z11.fNode),(vi z11.fQ)];refine Lg 6 (yH (cs:=I) U U) ?_
 intro z1T _
 refine La U<|La U<|WL.nil<|Lb<|WC.b<|Ld (Lg 23 (y3r (Value.int .i64)<|slv (α:=Value)) fun z1L _=>WL.ghL (M:=[y2o (y2a 201 1 y4s) ([]:List (Int×((Nat×(Option Addr×Nat))×List Value))),yp z1L (Value.int .i64) slv (y2M ([]:List (Int×((Nat×(Option Addr×Nat))×List Value)))),stb z1T 94 I,stb z1b 31 A,fz [],yp z17 (fun x=>Value.agg (e94 x).toArray) (Value.int .i64) z1P]) (fun _ h=>Hp.yeh (y2a 201 1 y4s) h)<|La U<|WL.nil<|Lb<|WC.b<|Ld (Lg 24 (y3r (Value.int .i64)<|Value.int .i64) fun z1x _=>Lg 11 (yv (cs:=[(.map none)]) zMV U) fun z1n _=>Lk U U (yl zMW U U U .here U U U)<|WL.nil<|Lb<|WC.b<|Ld<|La U<|WL.nil<|Lb ?_))
 obtain⟨zdg,z10F,h⟩:=y95 h
 refine WC.ya3 (fun(zlg:Int) (zfN:List (Int×List (Int→Option Int))) (zlh:List (Int×Int)) (zoZ:Zp) (zp0:List (Int×((Nat×(Option Addr×Nat))×List Value)))=>(zdg zlg zfN zlh=some r)∧(Zle (Z++[]) (Z++zoZ))∧(RM (y5V (Z++zoZ)) (dat zp0) zfN)) (fun zlg zfN zlh zoZ zp0=>[(4,(vp z1b)),(10,(.map<|some z1L)),(11,(vp z1n)),(12,(vi zlg))]) (fun zlg zfN zlh zoZ zp0=>[fz zoZ,stb z1b 31 A,yp z1L (Value.int .i64) slv (y2M zp0),y2o (y2a 201 1 y4s) zp0,stb z1n 148 [(.map<|some z1x)],yp z17 (fun x=>Value.agg (e94 x).toArray) (Value.int .i64) z1P,yp z1x (Value.int .i64) (Value.int .i64) zlh]) ?_ ?_
 ·skip
  let J:Value:=(.slice z5o zI.length z5p);refine WC.b (Ld (La U (Le 26 (yI Tryz.underlying32 U) (La U (WL.nil (Lb (WC.block (WC.yfV (fun(zlj:Nat) (z2o:Int) (ze:Int) (z3U:List (Int×List (Int→Option Int))) (z27:List (Int×Int)) (z2i:Zp) (z1J:List (Int×((Nat×(Option Addr×Nat))×List Value)))=>(y2X zI z11 z6 z1P zdg zlj z2o ze z3U z27=some r)∧(Zle (Z++[]) (Z++z2i))∧(RM (y5V (Z++z2i)) (dat z1J) z3U)) (fun zlj z2o ze z3U z27 z2i z1J=>[(3,(.map (some z17))),(4,(vp z1b)),(6,(vp z1T)),(10,(.map (some z1L))),(11,(vp z1n)),(12,(vi z2o)),(25,J),(26,(vi ((zI.length:Nat):Int))),(27,(vi ze))]) (fun zlj z2o ze z3U z27 z2i z1J=>[fz z2i,yp z17 (fun x=>Value.agg (e94 x).toArray) (Value.int .i64) z1P,stb z1b 31 A,stb z1T 94 I,yp z1L (Value.int .i64) slv (y2M z1J),y2o (y2a 201 1 y4s) z1J,stb z1n 148 [(.map (some z1x))],yp z1x (Value.int .i64) (Value.int .i64) z27]) (fun zlj z2o ze z3U z27 z2i z1J=>zlj) ⟨yx,0,0,([]:List (Int×List (Int→Option Int))),([]:List (Int×Int)),[],([]:List (Int×((Nat×(Option Addr×Nat))×List Value)))⟩ ⟨h,(Zle.refl _),RM.nil⟩ (.r9 U U U U U U U U U) (.s8 .h6 .h6 .h5 .h4 .h3 .h2 .here .here) ?_))))))))
  rintro zlj z2o ze z3U z27 z2i z1J ⟨h,z10,zsB⟩
  obtain⟨zCq,rfl⟩:=y9O h
  rw[y2X] at h
  refine WC.b<|Ld<|La U<|WL.nil<|Lb<|WC.b<|WC.cond U (fun zCr=>?_)<|fun zCr=>?_
  ·replace h:=yq h zCr
   refine WC.skip<|Lb ?_
   obtain⟨zsz,z10G,h⟩:=y95 h
   refine WC.ya3 (fun(zdh:Int) (zdi:List (Int×List (Int→Option Int))) (zdj:List (Int×Int)) (zhV:Zp) (zhW:List (Int×((Nat×(Option Addr×Nat))×List Value)))=>(zsz zdh zdi zdj=some r)∧(Zle (Z++z2i) (Z++zhV))∧(RM (y5V (Z++zhV)) (dat zhW) zdi)) (fun zdh zdi zdj zhV zhW=>[(3,(.map<|some z17)),(4,(vp z1b)),(6,(vp z1T)),(10,(.map<|some z1L)),(11,(vp z1n)),(12,(vi zdh)),(25,J),(26,(vi ((zI.length:Nat):Int))),(27,(vi ze))]) (fun zdh zdi zdj zhV zhW=>[fz zhV,yp z17 (fun x=>Value.agg (e94 x).toArray) (Value.int .i64) z1P,stb z1b 31 A,stb z1T 94 I,yp z1L (Value.int .i64) slv (y2M zhW),y2o (y2a 201 1 y4s) zhW,stb z1n 148 [(.map<|some z1x)],yp z1x (Value.int .i64) (Value.int .i64) zdj]) ?_ ?_
   ·skip
    refine WC.block<|WC.b ?_
    obtain⟨z10H,h⟩:=yn h
    refine Ld<|La U<|L0 (dd:=30) U U (Z:=(Z++z2i)) (Pr:=(p58 (Z++z2i))) y71 U U ((z10E.mono<|(Zle.left _ _).trans z10).weak (fun _ _ h=>y1t ((Zle.left _ _).trans z10) h)) z10H ?_
    rintro z1ar z1as z10I z1at ⟨z6y,z6z,rfl,zhX⟩
    refine Le 31 (yc y7c U<|y3C (hz.pv2 .here) z10I U)<|La U<|La U<|WL.nil<|Lb<|WC.b ?_
    obtain⟨z2a,z10J,h⟩:=za h
    refine Ld<|La U<|Le 33 (y14<|L2 (l:=[.tmp 6])<|.cons U .nil)<|Ll 34 (zb Tryz.call94<|.r2 U U) .nil (yap hz .nil .here (.cons .h3 .nil) fun w pz ho la=>y2O _ _ _ (za7:=95) (zdS:=[(vp z1T)]) _ (z7B:=(fun(y0:zd)=>y4F y0 z11)) _ z10J w pz (zhX.mono<|Zle.left _ _) Tryz.call95<|fun w' hz' y0  r  hr=>ybq hr w' hz'<|(la _ (.head _) _).stb)<|La U<|WL.nil<|Lb<|WC.b<|WC.b<|Ld<|La U<|La U<|WL.nil<|Lb<|WC.cond U (fun zCs=>?_)<|fun zCs=>?_
    ·replace h:=yq h zCs
     refine WC.exit<|Lm<|Lu ?_
     exact Ln ⟨z2o,z3U,z27,z2i,z1J⟩ ⟨h,(Zle.refl _),zsB⟩ (.r9 U U U U U U U U U)<|.a8
    ·replace h:=yr h zCs
     refine WC.skip<|Lb<|WC.b ?_
     obtain⟨z10K,h⟩:=yn h
     obtain⟨z1o,zsC,h⟩:=za h
     obtain⟨z3V,h⟩:=yn h
     refine Lx (fun i=>[8,14,15].contains i) [y85 z1b 31 [(4,P)],fz z2i] U<|Lf 0 37 U (fun _=>ya y5a U U)<|L6 1 38 U (Sin.wk (.s2 .h2 .here)<|.stb (.cons U .nil)<|.same .nil) (yc y5p U<|y5Z .here<|.head _)<|Lf 2 39 U (fun _=>q_m U)<|L7 (j:=3) (dd:=40) (by kernel_rfl) U z2j z2k U U (Z:=(Z++z2i)) (Pr:=(p69 (Z++z2i))) y72 U U ((zli.mono<|(Zle.left _ _).trans z10).weak (fun _ _ h=>y15 ((Zle.left _ _).trans z10) h)) z10K ?_
     rintro z1au z1av z10L z1aw ⟨z7W,z7X,rfl,z10M⟩
     let E:Value:=(.slice z6y ((nth zI ze).length) z6z);let K:Value:=(vi ((zI.length:Nat):Int));let L:Value:=(.slice z7W (((nth z6.fVLs ze).fTo).length) z7X);let N:Value:=(vi ((nth z6.fVLs ze).fBag));let O:Value:=(vi ((nth z6.fVLs ze).fMax));refine L6 4 41 U (Sin.wk (.s2 .h2 .here) (.stb (.cons U .nil) (.same .nil))) (yi yf1 U (y2l (hz.pv2 .h1) z10L) U) (Lj 5 42 U (yi y1E U (yk .h2) U) (Lf 6 43 U (fun _=>q_m U) (Lf 7 44 U (fun _=>q_m U) (Lf 9 46 U (fun _=>q_m U) (WD.ybD (fuel':=0) (fun(b8o1_87226:Nat) (cap8o2_87226:Nat) (b12o1_87226:Nat) (b13o1_87226:Nat)=>[(3,(.map (some z17))),(4,(vp z1b)),(6,(vp z1T)),(10,(.map (some z1L))),(11,(vp z1n)),(12,(vi z2o)),(25,J),(26,K),(27,(vi ze)),(14,E),(16,(vp b12o1_87226)),(17,(vp b13o1_87226)),(18,(vi (-1)))]) (fun(b8o1_87226:Nat) (cap8o2_87226:Nat) (b12o1_87226:Nat) (b13o1_87226:Nat)=>[stb b13o1_87226 3 [(vi (nth z1o z2a))],stb b12o1_87226 69 [(.string ((nth z6.fVLs ze).fName)),(.string (((nth z6.fVLs ze).fFrom).fModule)),(.string (((nth z6.fVLs ze).fFrom).fPart)),(.string (((nth z6.fVLs ze).fFrom).fPort)),N,O,L],row (.slice (some ⟨b8o1_87226,0,none⟩) z1o.length cap8o2_87226) 3 1 (z1o.flatMap e3),yp z17 (fun x=>Value.agg (e94 x).toArray) (Value.int .i64) z1P,fz z2i,stb z1b 31 A,stb z1T 94 I,yp z1L (Value.int .i64) slv (y2M z1J),y2o (y2a 201 1 y4s) z1J,stb z1n 148 [(.map (some z1x))],yp z1x (Value.int .i64) (Value.int .i64) z27]) (fun(b8o1_87226:Nat) (cap8o2_87226:Nat) (b12o1_87226:Nat) (b13o1_87226:Nat)=>True) (y2d 17 [16,15,11,14,13,12,10,8,9,7,6,5,4,3,2,1,0]) ?_ (fun K8o10o11o12o13o14o15o16_87226=>?_))))))
     ·skip
      rintro b8o1_87226 cap8o2_87226 b12o1_87226 b13o1_87226 _
      refine WD.done (by kernel_rfl)<|Lb ?_
      obtain⟨zsA,z10N,h⟩:=y12 h
      refine Kf (fun(z2d:Int)=>(zsA z2d=some r)) (fun z2d=>[(3,(.map<|some z17)),(4,(vp z1b)),(6,(vp z1T)),(10,(.map<|some z1L)),(11,(vp z1n)),(12,(vi z2o)),(16,(vp b12o1_87226)),(17,(vp b13o1_87226)),(18,(vi z2d)),(25,J),(26,K),(27,(vi ze))]) (fun z2d=>[fz z2i,yp z17 (fun x=>Value.agg (e94 x).toArray) (Value.int .i64) z1P,stb z1b 31 A,stb z1T 94 I,yp z1L (Value.int .i64) slv (y2M z1J),y2o (y2a 201 1 y4s) z1J,stb z1n 148 [(.map<|some z1x)],stb b12o1_87226 69 [(.string<|(nth z6.fVLs ze).fName),(.string<|((nth z6.fVLs ze).fFrom).fModule),(.string<|((nth z6.fVLs ze).fFrom).fPart),(.string<|((nth z6.fVLs ze).fFrom).fPort),N,O,L],stb b13o1_87226 3 [(vi<|nth z1o z2a)],yp z1x (Value.int .i64) (Value.int .i64) z27]) ?_ ?_
      ·skip
       refine WC.b ?_
       obtain⟨zlf,z10O,h⟩:=za h
       refine Ld<|La U<|Le 50 (y14<|L2 (l:=[.tmp 6])<|.cons U .nil)<|Ll 51 (zb Tryz.call94<|.r2 U U) .nil (yap hz .nil .h4 (.cons .h6 .nil) fun w pz ho la=>y2O _ _ _ (za7:=96) (zdS:=[(vp z1T)]) _ (z7B:=(fun(y0:zd)=>y4I y0 z11)) _ z10O w pz (zhX.mono<|Zle.left _ _) Tryz.call96<|fun w' hz' y0  r  hr=>ybr hr w' hz'<|(la _ (.head _) _).stb)<|La U<|WL.nil<|Lb<|WC.b<|Ld<|La U<|La U<|WL.nil<|Lb<|WC.cond U (fun zCt=>?_)<|fun zCt=>?_
       ·replace h:=yq h zCt
        obtain⟨z10P,h⟩:=yn h
        refine Ld<|La U<|La U<|L0 (dd:=56) U U (Z:=(Z++z2i)) (Pr:=(fun r x=>r=e60 x)) y65 U U zhX z10P ?_
        rintro z1ax z1ay z10Q z1az rfl
        refine Le 57 (ya y8B U U)<|Le 58 (yc ys U<|y1c (hz.pv2 .h4) z10Q U)<|La U<|WL.nil ?_
        exact Ln ((nth (nth zI ze) zlf).fQ) h (.r12 U U U U U U U U U U U U)<|.s10 .h4 .h3 .h3 .h3 .h3 .h3 .h3 .h1 .here .h1
       ·replace h:=yr h zCt
        refine WC.skip ?_
        exact Ln (-1) h (.r12 U U U U U U U U U U U U)<|.s10 .h4 .h3 .h3 .h3 .h3 .h3 .h3 .h1 .here .h1
      ·rintro z2d h
       replace h:=(z10N z2d).symm.trans h
       refine WC.b ?_
       obtain⟨z10R,h⟩:=yn h
       refine Ld<|La U<|La U<|La U<|La U<|Le 63 (y2S (k:=z2d) (dflt:=(((none,0),[]):(Option Addr×Nat)×List Value)) y40 Tryz.underlying198 zEg U U U .h4)<|WL.gh (fun _ h=>Hp.yi4 z2d zsB .h5 h) ?_
       rintro⟨⟨z10S,z10T⟩,zp1⟩ ⟨z10U,zLs⟩
       refine Ki (i:=63) U (u:=(.slice z10S ((yg z3U z2d []).length) z10T)) ((congrArg slv z10U).trans (RR.slv zLs)) (WL.freezeC (Z:=Z) (.there .h7) .h2 fun z1aA zsD zCu=>WL.freezeC (Z:=Z) (.there .h7) .here ?_)
       intro zhY zhZ z10V
       let F:List Value:=[(.func (.func 97) #[] #[(vp b12o1_87226),(vp b13o1_87226)])];have z10W:y5V (Z++zhY) F (fun(y0:Int)=>y1h y0 (⟨((nth z6.fVLs ze).fName),(⟨(((nth z6.fVLs ze).fFrom).fModule),(((nth z6.fVLs ze).fFrom).fPart),(((nth z6.fVLs ze).fFrom).fPort)⟩:Sapi_Ref),((nth z6.fVLs ze).fBag),((nth z6.fVLs ze).fMax),((nth z6.fVLs ze).fTo)⟩:zh) (nth z1o z2a)):=⟨97,[(vp b12o1_87226),(vp b13o1_87226)],U,Tryz.call97,(fun w' hz' y0 r hr=>ybs hr w' hz' (z10M.mono (zsD.trans zhZ)) (zCu.mono zhZ) z10V)⟩
       refine Le 64 (y14<|L2 (l:=[.tmp 16,.tmp 17])<|.r2 U U) ?_
       have zLt:RR 1 (y5V (Z++zhY)) F ([(fun(y0:Int)=>y1h y0 (⟨((nth z6.fVLs ze).fName),(⟨(((nth z6.fVLs ze).fFrom).fModule),(((nth z6.fVLs ze).fFrom).fPart),(((nth z6.fVLs ze).fFrom).fPort)⟩:Sapi_Ref),((nth z6.fVLs ze).fBag),((nth z6.fVLs ze).fMax),((nth z6.fVLs ze).fTo)⟩:zh) (nth z1o z2a))]:List (Int→Option Int)):=(RR.cons (r:=F) U z10W (RR.nil _ _))
       refine Lg 65 (yM (cs:=[(.func (.func 97) #[] #[(vp b12o1_87226),(vp b13o1_87226)])]) zm9 (Lo (l:=[.tmp 64]) (.cons U .nil) [0]) (fun _=>by kernel_rfl) U (by unfold maxLen;omega)) ?_
       intro z10X _
       have zCv:RR 1 (y5V (Z++zhY)) (zp1++F) ((yg z3U z2d [])++([(fun(y0:Int)=>y1h y0 (⟨((nth z6.fVLs ze).fName),(⟨(((nth z6.fVLs ze).fFrom).fModule),(((nth z6.fVLs ze).fFrom).fPart),(((nth z6.fVLs ze).fFrom).fPort)⟩:Sapi_Ref),((nth z6.fVLs ze).fBag),((nth z6.fVLs ze).fMax),((nth z6.fVLs ze).fTo)⟩:zh) (nth z1o z2a))]:List (Int→Option Int))):=RR.app (zLs.weak (fun _ _ h=>y64 (zsD.trans zhZ) h)) zLt
       refine WL.fA 66 (y6L (l1:=yg z3U z2d []) (l2:=([(fun(y0:Int)=>y1h y0 (⟨((nth z6.fVLs ze).fName),(⟨(((nth z6.fVLs ze).fFrom).fModule),(((nth z6.fVLs ze).fFrom).fPart),(((nth z6.fVLs ze).fFrom).fPort)⟩:Sapi_Ref),((nth z6.fVLs ze).fBag),((nth z6.fVLs ze).fMax),((nth z6.fVLs ze).fTo)⟩:zh)<|nth z1o z2a)]:List (Int→Option Int))) (news:=F) (Pr:=(y5V (Z++zhY))) zm9 U U .h2 zLt (y3t .here) (y94 U yan) z10R) ?_
       rintro⟨zsE,zsF⟩ _
       refine Lk U U (y3U (k:=z2d) (v:=(((zsE,zsF),zp1++F):(Option Addr×Nat)×List Value)) y40 Tryz.underlying198 U U U (RR.slv zCv).symm .h7)<|WL.ghL (fun _ h=>Hp.yh6 (k:=z2d) (RR.yhp zCv) (.s2 .h1 .h3) h)<|WL.ghL (M:=[yp z1L (Value.int .i64) slv (y2M<|yF z1J z2d ((0,(zsE,zsF)),zp1++F)),y2o (y2a 201 1 y4s) (yF z1J z2d ((0,(zsE,zsF)),zp1++F)),row (.slice (some ⟨z10X,0,none⟩) (([(fun(y0:Int)=>y1h y0 (⟨((nth z6.fVLs ze).fName),(⟨(((nth z6.fVLs ze).fFrom).fModule),(((nth z6.fVLs ze).fFrom).fPart),(((nth z6.fVLs ze).fFrom).fPort)⟩:Sapi_Ref),((nth z6.fVLs ze).fBag),((nth z6.fVLs ze).fMax),((nth z6.fVLs ze).fTo)⟩:zh)<|nth z1o z2a)]:List (Int→Option Int)).length) 1) 201 1 F,fz zhY,yp z17 (fun x=>Value.agg (e94 x).toArray) (Value.int .i64) z1P,stb z1b 31 A,stb z1T 94 I,stb z1n 148 [(.map<|some z1x)],yp z1x (Value.int .i64) (Value.int .i64) z27]) (fun _ h=>Hp.yg4 .h1 (ycJ _ _ _ _).symm h)<|WL.nil<|Lb<|Lx (fun i=>[12].contains i) [fz zhY] U<|Lj 0 67 U (yc ztA U<|yh .h7 U)<|Lf 1 68 U (fun _=>q_m U)<|Lj 2 69 U (yc ztA U<|yh .h7 U)<|Lf 3 70 U (fun _=>q_m U)<|Lj 4 71 U (y2S (k:=z2d) (dflt:=(0:Int)) y40 Tryz.underlying148 y2H U U U<|.there .h7)<|Lf 5 72 U (fun _=>ya y6x U U)<|Lj 6 73 U (yc ys U<|y1c (hz.pv2 .h3) (zCu.mono zhZ) U)<|Lf 7 74 U (fun _=>yaU U U U)<|Lf 8 75 U (fun _=>q_m U)<|Lf 9 76 U (fun _=>ya y6x U U)<|L6 10 77 U (Sin.of<|.cons .h3 .nil) (yc ys U<|y1c (hz.pv2 .here) (zCu.mono zhZ) U)<|Lf 11 78 U (fun _=>yaU U U U)<|WD.forced0 (i:=12) U (by kernel_rfl) U U U (Sin.of<|.cons .h4 .nil) (y3U (k:=z2d) (v:=max (yg z27 z2d 0) ((nth z6.fVLs ze).fMax)) y40 Tryz.underlying148 U U U U<|.there .h7)<|Lf 13 12 U (fun _=>q_z U)<|WD.done (by kernel_rfl)<|Lt ?_
       exact Ln ⟨(max z2o<|(nth z6.fVLs ze).fMax),(yF z3U z2d ((yg z3U z2d [])++([(fun(y0:Int)=>y1h y0 (⟨((nth z6.fVLs ze).fName),(⟨(((nth z6.fVLs ze).fFrom).fModule),(((nth z6.fVLs ze).fFrom).fPart),(((nth z6.fVLs ze).fFrom).fPort)⟩:Sapi_Ref),((nth z6.fVLs ze).fBag),((nth z6.fVLs ze).fMax),((nth z6.fVLs ze).fTo)⟩:zh)<|nth z1o z2a)]:List (Int→Option Int)))),(yF z27 z2d<|max (yg z27 z2d 0)<|(nth z6.fVLs ze).fMax),zhY,(yF z1J z2d ((0,(zsE,zsF)),zp1++F))⟩ ⟨h,(zsD.trans zhZ),(RM.putD (zsB.weak<|fun _ _ h=>y64 (zsD.trans zhZ) h) z2d zCv)⟩ (.r9 U U U U U U U U U)<|.s8 .h4 .h4 .h4 .h4 .h1 .h1 .h2 .here
     let R:Value:=(.string (((nth z6.fVLs ze).fFrom).fModule));let S:Value:=(.string (((nth z6.fVLs ze).fFrom).fPart));let T:Value:=(.string (((nth z6.fVLs ze).fFrom).fPort));let V:Value:=(.string ((nth z6.fVLs ze).fName));refine WD.ybD (fuel':=2) (fun(b8o1_87226:Nat) (cap8o2_87226:Nat) (b12o1_87226:Nat) (b13o1_87226:Nat)=>[(3,(.map (some z17))),(4,(vp z1b)),(6,(vp z1T)),(10,(.map (some z1L))),(11,(vp z1n)),(12,(vi z2o)),(25,J),(26,K),(27,(vi ze)),(14,E),(16,(vp b12o1_87226)),(17,(vp b13o1_87226)),(48,(vi (nth z1o z2a)))]) (fun(b8o1_87226:Nat) (cap8o2_87226:Nat) (b12o1_87226:Nat) (b13o1_87226:Nat)=>[stb b12o1_87226 69 [V,R,S,T,N,O,L],stb b13o1_87226 3 [(vi 0)],row (.slice (some ⟨b8o1_87226,0,none⟩) z1o.length cap8o2_87226) 3 1 (z1o.flatMap e3),yp z17 (fun x=>Value.agg (e94 x).toArray) (Value.int .i64) z1P,fz z2i,stb z1b 31 A,stb z1T 94 I,yp z1L (Value.int .i64) slv (y2M z1J),y2o (y2a 201 1 y4s) z1J,stb z1n 148 [(.map (some z1x))],yp z1x (Value.int .i64) (Value.int .i64) z27]) (fun(b8o1_87226:Nat) (cap8o2_87226:Nat) (b12o1_87226:Nat) (b13o1_87226:Nat)=>True) (y2d 17 [11,14,13,12,10,8,9,7,6,5,4,3,2,1,0]) ?_ (fun K8o10o11o12o13o14_87226=>?_)
     ·skip
      rintro b8o1_87226 cap8o2_87226 b12o1_87226 b13o1_87226 _
      refine WD.forced0 (i:=15) U (by kernel_rfl) U U U (Sin.wk (.s2 .h5 .h4)<|.stb (.cons U .nil)<|.same .nil) (yl yas U U U .h1 U U U)<|Lf 16 18 U (fun _=>q_z U) ?_
      exact Ly (.a11) (.r13 U U U U U U U U U U U U U)<|K8o10o11o12o13o14o15o16_87226 b8o1_87226 cap8o2_87226 b12o1_87226 b13o1_87226 trivial
     let C:Value:=(.agg #[V,R,S,T,N,O,L]);let D:List Value:=[(.string ⟨#[]⟩),(.string ⟨#[]⟩),(.string ⟨#[]⟩),(.string ⟨#[]⟩),(vi 0),(vi 0),vn];refine WD.ybD (fuel':=3) (fun(b8o1_87226:Nat) (cap8o2_87226:Nat) (b12o1_87226:Nat) (b13o1_87226:Nat)=>[(3,(.map (some z17))),(4,(vp z1b)),(6,(vp z1T)),(10,(.map (some z1L))),(11,(vp z1n)),(12,(vi z2o)),(25,J),(26,K),(27,(vi ze)),(14,E),(41,C),(48,(vi (nth z1o z2a))),(16,(vp b12o1_87226)),(17,(vp b13o1_87226))]) (fun(b8o1_87226:Nat) (cap8o2_87226:Nat) (b12o1_87226:Nat) (b13o1_87226:Nat)=>[stb b13o1_87226 3 [(vi 0)],stb b12o1_87226 69 D,row (.slice (some ⟨b8o1_87226,0,none⟩) z1o.length cap8o2_87226) 3 1 (z1o.flatMap e3),yp z17 (fun x=>Value.agg (e94 x).toArray) (Value.int .i64) z1P,fz z2i,stb z1b 31 A,stb z1T 94 I,yp z1L (Value.int .i64) slv (y2M z1J),y2o (y2a 201 1 y4s) z1J,stb z1n 148 [(.map (some z1x))],yp z1x (Value.int .i64) (Value.int .i64) z27]) (fun(b8o1_87226:Nat) (cap8o2_87226:Nat) (b12o1_87226:Nat) (b13o1_87226:Nat)=>True) (y2d 17 [13,12,11,10,8,9,7,6,5,4,3,2,1,0]) ?_ (fun K8o10o11o12o13_87226=>?_)
     ·skip
      rintro b8o1_87226 cap8o2_87226 b12o1_87226 b13o1_87226 _
      refine WD.forced0 (i:=14) U (by kernel_rfl) U U U (Sin.wk (.s2 .h5 .h4)<|.stb (.cons U .nil)<|.same .nil) (yl yhv U U U .h1 U U U) ?_
      exact Ly (.a11) (.r13 U U U U U U U U U U U U U)<|K8o10o11o12o13o14_87226 b8o1_87226 cap8o2_87226 b12o1_87226 b13o1_87226 trivial
     refine WD.ybC (fuel':=4) (fun(b8o1_87226:Nat) (cap8o2_87226:Nat) (b12o1_87226:Nat)=>[(3,(.map<|some z17)),(4,(vp z1b)),(6,(vp z1T)),(10,(.map<|some z1L)),(11,(vp z1n)),(12,(vi z2o)),(25,J),(26,K),(27,(vi ze)),(14,E),(41,C),(48,(vi<|nth z1o z2a)),(16,(vp b12o1_87226))]) (fun(b8o1_87226:Nat) (cap8o2_87226:Nat) (b12o1_87226:Nat)=>[stb b12o1_87226 69 D,row (.slice (some ⟨b8o1_87226,0,none⟩) z1o.length cap8o2_87226) 3 1 (z1o.flatMap e3),yp z17 (fun x=>Value.agg (e94 x).toArray) (Value.int .i64) z1P,fz z2i,stb z1b 31 A,stb z1T 94 I,yp z1L (Value.int .i64) slv (y2M z1J),y2o (y2a 201 1 y4s) z1J,stb z1n 148 [(.map<|some z1x)],yp z1x (Value.int .i64) (Value.int .i64) z27]) (fun(b8o1_87226:Nat) (cap8o2_87226:Nat) (b12o1_87226:Nat)=>True) (y2d 17 [12,11,10,8,9,7,6,5,4,3,2,1,0]) ?_<|fun K8o10o11o12_87226=>?_
     ·skip
      rintro b8o1_87226 cap8o2_87226 b12o1_87226 _
      refine WD.new (i:=13) (dd:=17) U (by kernel_rfl) U U U (yv (cs:=[(vi 0)]) y2H U) (fun h'=>absurd h' (by decide)) fun b13o1_87226 _=>Ly (.a11) (.r14 U U U U U U U U U U U U U U)<|K8o10o11o12o13_87226 b8o1_87226 cap8o2_87226 b12o1_87226 b13o1_87226 trivial
     refine WD.ybC (fuel':=4) (fun(b8o1_87226:Nat) (cap8o2_87226:Nat) (b13o1_87226:Nat)=>[(3,(.map<|some z17)),(4,(vp z1b)),(6,(vp z1T)),(10,(.map<|some z1L)),(11,(vp z1n)),(12,(vi z2o)),(25,J),(26,K),(27,(vi ze)),(14,E),(41,C),(48,(vi<|nth z1o z2a)),(17,(vp b13o1_87226))]) (fun(b8o1_87226:Nat) (cap8o2_87226:Nat) (b13o1_87226:Nat)=>[stb b13o1_87226 3 [(vi 0)],row (.slice (some ⟨b8o1_87226,0,none⟩) z1o.length cap8o2_87226) 3 1 (z1o.flatMap e3),yp z17 (fun x=>Value.agg (e94 x).toArray) (Value.int .i64) z1P,fz z2i,stb z1b 31 A,stb z1T 94 I,yp z1L (Value.int .i64) slv (y2M z1J),y2o (y2a 201 1 y4s) z1J,stb z1n 148 [(.map<|some z1x)],yp z1x (Value.int .i64) (Value.int .i64) z27]) (fun(b8o1_87226:Nat) (cap8o2_87226:Nat) (b13o1_87226:Nat)=>True) (y2d 17 [13,11,10,8,9,7,6,5,4,3,2,1,0]) ?_<|fun K8o10o11o13_87226=>?_
     ·skip
      rintro b8o1_87226 cap8o2_87226 b13o1_87226 _
      refine WD.new (i:=12) (dd:=16) U (by kernel_rfl) U U U (yv (cs:=D) y9j U) (fun h'=>absurd h' (by decide)) fun b12o1_87226 _=>Ly (.s11 .h1 .here .here .here .here .here .here .here .here .here .here) (.r14 U U U U U U U U U U U U U U)<|K8o10o11o12o13_87226 b8o1_87226 cap8o2_87226 b12o1_87226 b13o1_87226 trivial
     refine WD.ybD (fuel':=4) (fun(b8o1_87226:Nat) (cap8o2_87226:Nat) (b12o1_87226:Nat) (b13o1_87226:Nat)=>[(3,(.map<|some z17)),(4,(vp z1b)),(6,(vp z1T)),(10,(.map<|some z1L)),(11,(vp z1n)),(12,(vi z2o)),(25,J),(26,K),(27,(vi ze)),(14,E),(41,C),(47,(.pointer<|some ⟨b8o1_87226,(z2a:Int).toNat*1,none⟩)),(16,(vp b12o1_87226)),(17,(vp b13o1_87226))]) (fun(b8o1_87226:Nat) (cap8o2_87226:Nat) (b12o1_87226:Nat) (b13o1_87226:Nat)=>[stb b13o1_87226 3 [(vi 0)],stb b12o1_87226 69 D,row (.slice (some ⟨b8o1_87226,0,none⟩) z1o.length cap8o2_87226) 3 1 (z1o.flatMap e3),yp z17 (fun x=>Value.agg (e94 x).toArray) (Value.int .i64) z1P,fz z2i,stb z1b 31 A,stb z1T 94 I,yp z1L (Value.int .i64) slv (y2M z1J),y2o (y2a 201 1 y4s) z1J,stb z1n 148 [(.map<|some z1x)],yp z1x (Value.int .i64) (Value.int .i64) z27]) (fun(b8o1_87226:Nat) (cap8o2_87226:Nat) (b12o1_87226:Nat) (b13o1_87226:Nat)=>True) (y2d 17 [13,12,10,8,9,7,6,5,4,3,2,1,0]) ?_<|fun K8o10o12o13_87226=>?_
     ·skip
      rintro b8o1_87226 cap8o2_87226 b12o1_87226 b13o1_87226 _
      refine WD.choose [11,14] (by kernel_rfl) U ?_
      refine WDo.cons ?_<|WDo.cons ?_<|WDo.nil
      ·refine WDo.quiet (i:=11) (d:=48) U U U U (fun h'=>absurd h' (by decide)) (yc ys U<|y8e .h2<|(y2x (enc:=e3) (l:=z1o) (i:=z2a) (sz:=1) (fun _=>U) z3V.1 z3V.2) 0 _ U) ?_
       exact Ly (.a11) (.r14 U U U U U U U U U U U U U U)<|K8o10o11o12o13_87226 b8o1_87226 cap8o2_87226 b12o1_87226 b13o1_87226 trivial
      ·refine WDo.forced0 (i:=14) U U U U (Sin.wk (.s2 .h5 .h4)<|.stb (.cons U .nil)<|.same .nil) (yl yhv U U U .h1 U U U) ?_
       refine Lj 11 48 U (yc ys U<|y8e .h2<|(y2x (enc:=e3) (l:=z1o) (i:=z2a) (sz:=1) (fun _=>U) z3V.1 z3V.2) 0 _ U) ?_
       exact Ly (.a11) (.r13 U U U U U U U U U U U U U)<|K8o10o11o12o13o14_87226 b8o1_87226 cap8o2_87226 b12o1_87226 b13o1_87226 trivial
     refine WD.ydP (fuel':=5) (fun(b8o1_87226:Nat) (cap8o2_87226:Nat)=>[(3,(.map<|some z17)),(4,(vp z1b)),(6,(vp z1T)),(10,(.map<|some z1L)),(11,(vp z1n)),(12,(vi z2o)),(25,J),(26,K),(27,(vi ze)),(14,E),(41,C),(48,(vi<|nth z1o z2a))]) (fun(b8o1_87226:Nat) (cap8o2_87226:Nat)=>[row (.slice (some ⟨b8o1_87226,0,none⟩) z1o.length cap8o2_87226) 3 1 (z1o.flatMap e3),yp z17 (fun x=>Value.agg (e94 x).toArray) (Value.int .i64) z1P,fz z2i,stb z1b 31 A,stb z1T 94 I,yp z1L (Value.int .i64) slv (y2M z1J),y2o (y2a 201 1 y4s) z1J,stb z1n 148 [(.map<|some z1x)],yp z1x (Value.int .i64) (Value.int .i64) z27]) (fun(b8o1_87226:Nat) (cap8o2_87226:Nat)=>True) (y2d 17 [11,10,8,9,7,6,5,4,3,2,1,0]) ?_<|fun K8o10o11_87226=>?_
     ·skip
      rintro b8o1_87226 cap8o2_87226 _
      refine WD.choose [12,13] (by kernel_rfl) U ?_
      refine WDo.cons ?_<|WDo.cons ?_<|WDo.nil
      ·refine WDo.new (i:=12) (dd:=16) U U U U (yv (cs:=D) y9j U) (fun h'=>absurd h' (by decide)) fun b12o1_87226 _=>Ly (.a10) (.r13 U U U U U U U U U U U U U)<|K8o10o11o12_87226 b8o1_87226 cap8o2_87226 b12o1_87226 trivial
      ·refine WDo.new (i:=13) (dd:=17) U U U U (yv (cs:=[(vi 0)]) y2H U) (fun h'=>absurd h' (by decide)) fun b13o1_87226 _=>Ly (.a10) (.r13 U U U U U U U U U U U U U)<|K8o10o11o13_87226 b8o1_87226 cap8o2_87226 b13o1_87226 trivial
     refine WD.ybC (fuel':=5) (fun(b8o1_87226:Nat) (cap8o2_87226:Nat) (b12o1_87226:Nat)=>[(3,(.map<|some z17)),(4,(vp z1b)),(6,(vp z1T)),(10,(.map<|some z1L)),(11,(vp z1n)),(12,(vi z2o)),(25,J),(26,K),(27,(vi ze)),(14,E),(41,C),(47,(.pointer<|some ⟨b8o1_87226,(z2a:Int).toNat*1,none⟩)),(16,(vp b12o1_87226))]) (fun(b8o1_87226:Nat) (cap8o2_87226:Nat) (b12o1_87226:Nat)=>[stb b12o1_87226 69 D,row (.slice (some ⟨b8o1_87226,0,none⟩) z1o.length cap8o2_87226) 3 1 (z1o.flatMap e3),yp z17 (fun x=>Value.agg (e94 x).toArray) (Value.int .i64) z1P,fz z2i,stb z1b 31 A,stb z1T 94 I,yp z1L (Value.int .i64) slv (y2M z1J),y2o (y2a 201 1 y4s) z1J,stb z1n 148 [(.map<|some z1x)],yp z1x (Value.int .i64) (Value.int .i64) z27]) (fun(b8o1_87226:Nat) (cap8o2_87226:Nat) (b12o1_87226:Nat)=>True) (y2d 17 [12,10,8,9,7,6,5,4,3,2,1,0]) ?_<|fun K8o10o12_87226=>?_
     ·skip
      rintro b8o1_87226 cap8o2_87226 b12o1_87226 _
      refine WD.choose [11,13] (by kernel_rfl) U ?_
      refine WDo.cons ?_<|WDo.cons ?_<|WDo.nil
      ·refine WDo.quiet (i:=11) (d:=48) U U U U (fun h'=>absurd h' (by decide)) (yc ys U<|y8e .h1<|(y2x (enc:=e3) (l:=z1o) (i:=z2a) (sz:=1) (fun _=>U) z3V.1 z3V.2) 0 _ U) ?_
       exact Ly (.a10) (.r13 U U U U U U U U U U U U U)<|K8o10o11o12_87226 b8o1_87226 cap8o2_87226 b12o1_87226 trivial
      ·refine WDo.new (i:=13) (dd:=17) U U U U (yv (cs:=[(vi 0)]) y2H U) (fun h'=>absurd h' (by decide)) fun b13o1_87226 _=>Ly (.a11) (.r14 U U U U U U U U U U U U U U)<|K8o10o12o13_87226 b8o1_87226 cap8o2_87226 b12o1_87226 b13o1_87226 trivial
     refine WD.ybC (fuel':=5) (fun(b8o1_87226:Nat) (cap8o2_87226:Nat) (b13o1_87226:Nat)=>[(3,(.map<|some z17)),(4,(vp z1b)),(6,(vp z1T)),(10,(.map<|some z1L)),(11,(vp z1n)),(12,(vi z2o)),(25,J),(26,K),(27,(vi ze)),(14,E),(41,C),(47,(.pointer<|some ⟨b8o1_87226,(z2a:Int).toNat*1,none⟩)),(17,(vp b13o1_87226))]) (fun(b8o1_87226:Nat) (cap8o2_87226:Nat) (b13o1_87226:Nat)=>[stb b13o1_87226 3 [(vi 0)],row (.slice (some ⟨b8o1_87226,0,none⟩) z1o.length cap8o2_87226) 3 1 (z1o.flatMap e3),yp z17 (fun x=>Value.agg (e94 x).toArray) (Value.int .i64) z1P,fz z2i,stb z1b 31 A,stb z1T 94 I,yp z1L (Value.int .i64) slv (y2M z1J),y2o (y2a 201 1 y4s) z1J,stb z1n 148 [(.map<|some z1x)],yp z1x (Value.int .i64) (Value.int .i64) z27]) (fun(b8o1_87226:Nat) (cap8o2_87226:Nat) (b13o1_87226:Nat)=>True) (y2d 17 [13,10,8,9,7,6,5,4,3,2,1,0]) ?_<|fun K8o10o13_87226=>?_
     ·skip
      rintro b8o1_87226 cap8o2_87226 b13o1_87226 _
      refine WD.choose [11,12] (by kernel_rfl) U ?_
      refine WDo.cons ?_<|WDo.cons ?_<|WDo.nil
      ·refine WDo.quiet (i:=11) (d:=48) U U U U (fun h'=>absurd h' (by decide)) (yc ys U<|y8e .h1<|(y2x (enc:=e3) (l:=z1o) (i:=z2a) (sz:=1) (fun _=>U) z3V.1 z3V.2) 0 _ U) ?_
       exact Ly (.a10) (.r13 U U U U U U U U U U U U U)<|K8o10o11o13_87226 b8o1_87226 cap8o2_87226 b13o1_87226 trivial
      ·refine WDo.new (i:=12) (dd:=16) U U U U (yv (cs:=D) y9j U) (fun h'=>absurd h' (by decide)) fun b12o1_87226 _=>Ly (.s11 .h1 .here .here .here .here .here .here .here .here .here .here) (.r14 U U U U U U U U U U U U U U)<|K8o10o12o13_87226 b8o1_87226 cap8o2_87226 b12o1_87226 b13o1_87226 trivial
     refine WD.ydP (fuel':=6) (fun(b8o1_87226:Nat) (cap8o2_87226:Nat)=>[(3,(.map<|some z17)),(4,(vp z1b)),(6,(vp z1T)),(10,(.map<|some z1L)),(11,(vp z1n)),(12,(vi z2o)),(25,J),(26,K),(27,(vi ze)),(14,E),(41,C),(47,(.pointer<|some ⟨b8o1_87226,(z2a:Int).toNat*1,none⟩))]) (fun(b8o1_87226:Nat) (cap8o2_87226:Nat)=>[row (.slice (some ⟨b8o1_87226,0,none⟩) z1o.length cap8o2_87226) 3 1 (z1o.flatMap e3),yp z17 (fun x=>Value.agg (e94 x).toArray) (Value.int .i64) z1P,fz z2i,stb z1b 31 A,stb z1T 94 I,yp z1L (Value.int .i64) slv (y2M z1J),y2o (y2a 201 1 y4s) z1J,stb z1n 148 [(.map<|some z1x)],yp z1x (Value.int .i64) (Value.int .i64) z27]) (fun(b8o1_87226:Nat) (cap8o2_87226:Nat)=>True) (y2d 17 [10,8,9,7,6,5,4,3,2,1,0]) ?_<|fun K8o10_87226=>?_
     ·skip
      rintro b8o1_87226 cap8o2_87226 _
      refine WD.choose [11,12,13] (by kernel_rfl) U ?_
      refine WDo.cons ?_<|WDo.cons ?_<|WDo.cons ?_<|WDo.nil
      ·refine WDo.quiet (i:=11) (d:=48) U U U U (fun h'=>absurd h' (by decide)) (yc ys U<|y8e .here<|(y2x (enc:=e3) (l:=z1o) (i:=z2a) (sz:=1) (fun _=>U) z3V.1 z3V.2) 0 _ U) ?_
       exact Ly (.a9) (.r12 U U U U U U U U U U U U)<|K8o10o11_87226 b8o1_87226 cap8o2_87226 trivial
      ·refine WDo.new (i:=12) (dd:=16) U U U U (yv (cs:=D) y9j U) (fun h'=>absurd h' (by decide)) fun b12o1_87226 _=>Ly (.a10) (.r13 U U U U U U U U U U U U U)<|K8o10o12_87226 b8o1_87226 cap8o2_87226 b12o1_87226 trivial
      ·refine WDo.new (i:=13) (dd:=17) U U U U (yv (cs:=[(vi 0)]) y2H U) (fun h'=>absurd h' (by decide)) fun b13o1_87226 _=>Ly (.a10) (.r13 U U U U U U U U U U U U U)<|K8o10o13_87226 b8o1_87226 cap8o2_87226 b13o1_87226 trivial
     let H:Value:=(.agg #[Y,W,Aa,Ab,P,Ac,Ad,X]);refine WD.ydP (fuel':=6) (fun(b12o1_87226:Nat) (b13o1_87226:Nat)=>[(3,(.map (some z17))),(4,(vp z1b)),(6,(vp z1T)),(10,(.map (some z1L))),(11,(vp z1n)),(12,(vi z2o)),(25,J),(26,K),(27,(vi ze)),(14,E),(41,C),(42,H),(43,E),(44,(.map (some z17))),(46,(vi z2a)),(16,(vp b12o1_87226)),(17,(vp b13o1_87226))]) (fun(b12o1_87226:Nat) (b13o1_87226:Nat)=>[stb b13o1_87226 3 [(vi 0)],stb b12o1_87226 69 D,fz z2i,yp z17 (fun x=>Value.agg (e94 x).toArray) (Value.int .i64) z1P,stb z1b 31 A,stb z1T 94 I,yp z1L (Value.int .i64) slv (y2M z1J),y2o (y2a 201 1 y4s) z1J,stb z1n 148 [(.map (some z1x))],yp z1x (Value.int .i64) (Value.int .i64) z27]) (fun(b12o1_87226:Nat) (b13o1_87226:Nat)=>True) (y2d 17 [13,12,9,7,6,5,4,3,2,1,0]) ?_ (fun K12o13_87226=>?_)
     ·skip
      rintro b12o1_87226 b13o1_87226 _
      refine WD.call2 (i:=8) (dd:=45) U (by kernel_rfl) U U U (.inl ⟨U,fun _ _=>(Sin.wk (.s2 .h5 .h4)<|.stb (.cons U .nil)<|.same .nil)⟩) (zb Tryz.call37<|.r3 U U U) (.cons .h3 .nil) (ccz hz (.cons .h3 .nil) .h2 fun w pz ho=>y5n zsC w pz ((zoS.mono<|(Zle.left _ _).trans z10).weak (fun _ _ h=>y1a ((Zle.left _ _).trans z10) h)) ((zoT.mono<|(Zle.left _ _).trans z10).weak (fun _ _ h=>y1i ((Zle.left _ _).trans z10) h)) (zoU.mono<|(Zle.left _ _).trans z10) (zoV.mono<|(Zle.left _ _).trans z10) ((zli.mono<|(Zle.left _ _).trans z10).weak (fun _ _ h=>y15 ((Zle.left _ _).trans z10) h)) (zoW.mono<|(Zle.left _ _).trans z10) ((zoX.mono<|(Zle.left _ _).trans z10).weak (fun _ _ h=>y1j ((Zle.left _ _).trans z10) h)) (zoY.mono<|(Zle.left _ _).trans z10) zhX ho) ?_
      rintro ao8o1_87226 cap8o2_87226 _
      refine WD.know (fun w hw=>Hp.y1T .here hw (by intro hz';have:=z3V;rw[hz'] at this;omega)) ?_
      rintro⟨b8o1_87226,rfl⟩
      refine Lf 10 47 U (fun _=>yS y66 U U z3V.1 z3V.2 y2L) ?_
      exact Ly (.s11 .h2 .h2 .here .here .here .here .here .here .here .here .here) (.r14 U U U U U U U U U U U U U U)<|K8o10o12o13_87226 b8o1_87226 cap8o2_87226 b12o1_87226 b13o1_87226 trivial
     refine WD.yfW (fuel':=7) (fun(b12o1_87226:Nat)=>[(3,(.map<|some z17)),(4,(vp z1b)),(6,(vp z1T)),(10,(.map<|some z1L)),(11,(vp z1n)),(12,(vi z2o)),(25,J),(26,K),(27,(vi ze)),(14,E),(41,C),(42,H),(43,E),(44,(.map<|some z17)),(46,(vi z2a)),(16,(vp b12o1_87226))]) (fun(b12o1_87226:Nat)=>[stb b12o1_87226 69 D,fz z2i,yp z17 (fun x=>Value.agg (e94 x).toArray) (Value.int .i64) z1P,stb z1b 31 A,stb z1T 94 I,yp z1L (Value.int .i64) slv (y2M z1J),y2o (y2a 201 1 y4s) z1J,stb z1n 148 [(.map<|some z1x)],yp z1x (Value.int .i64) (Value.int .i64) z27]) (fun(b12o1_87226:Nat)=>True) (y2d 17 [12,9,7,6,5,4,3,2,1,0]) ?_<|fun K12_87226=>?_
     ·skip
      rintro b12o1_87226 _
      refine WD.choose [8,13] (by kernel_rfl) U ?_
      refine WDo.cons ?_<|WDo.cons ?_<|WDo.nil
      ·refine WDo.call2 (i:=8) (dd:=45) U U U U (.inl ⟨U,fun _ _=>(Sin.wk (.s2 .h4 .h3)<|.stb (.cons U .nil)<|.same .nil)⟩) (zb Tryz.call37<|.r3 U U U) (.cons .h2 .nil) (ccz hz (.cons .h2 .nil) .h1 fun w pz ho=>y5n zsC w pz ((zoS.mono<|(Zle.left _ _).trans z10).weak (fun _ _ h=>y1a ((Zle.left _ _).trans z10) h)) ((zoT.mono<|(Zle.left _ _).trans z10).weak (fun _ _ h=>y1i ((Zle.left _ _).trans z10) h)) (zoU.mono<|(Zle.left _ _).trans z10) (zoV.mono<|(Zle.left _ _).trans z10) ((zli.mono<|(Zle.left _ _).trans z10).weak (fun _ _ h=>y15 ((Zle.left _ _).trans z10) h)) (zoW.mono<|(Zle.left _ _).trans z10) ((zoX.mono<|(Zle.left _ _).trans z10).weak (fun _ _ h=>y1j ((Zle.left _ _).trans z10) h)) (zoY.mono<|(Zle.left _ _).trans z10) zhX ho) ?_
       rintro ao8o1_87226 cap8o2_87226 _
       refine WD.know (fun w hw=>Hp.y1T .here hw (by intro hz';have:=z3V;rw[hz'] at this;omega)) ?_
       rintro⟨b8o1_87226,rfl⟩
       refine Lf 10 47 U (fun _=>yS y66 U U z3V.1 z3V.2 y2L) ?_
       exact Ly (.s10 .h2 .here .here .here .here .here .here .here .here .here) (.r13 U U U U U U U U U U U U U)<|K8o10o12_87226 b8o1_87226 cap8o2_87226 b12o1_87226 trivial
      ·refine WDo.new (i:=13) (dd:=17) U U U U (yv (cs:=[(vi 0)]) y2H U) (fun h'=>absurd h' (by decide)) fun b13o1_87226 _=>Ly (.a10) (.r17 U U U U U U U U U U U U U U U U U)<|K12o13_87226 b12o1_87226 b13o1_87226 trivial
     refine WD.yfW (fuel':=7) (fun(b13o1_87226:Nat)=>[(3,(.map<|some z17)),(4,(vp z1b)),(6,(vp z1T)),(10,(.map<|some z1L)),(11,(vp z1n)),(12,(vi z2o)),(25,J),(26,K),(27,(vi ze)),(14,E),(41,C),(42,H),(43,E),(44,(.map<|some z17)),(46,(vi z2a)),(17,(vp b13o1_87226))]) (fun(b13o1_87226:Nat)=>[stb b13o1_87226 3 [(vi 0)],fz z2i,yp z17 (fun x=>Value.agg (e94 x).toArray) (Value.int .i64) z1P,stb z1b 31 A,stb z1T 94 I,yp z1L (Value.int .i64) slv (y2M z1J),y2o (y2a 201 1 y4s) z1J,stb z1n 148 [(.map<|some z1x)],yp z1x (Value.int .i64) (Value.int .i64) z27]) (fun(b13o1_87226:Nat)=>True) (y2d 17 [13,9,7,6,5,4,3,2,1,0]) ?_<|fun K13_87226=>?_
     ·skip
      rintro b13o1_87226 _
      refine WD.choose [8,12] (by kernel_rfl) U ?_
      refine WDo.cons ?_<|WDo.cons ?_<|WDo.nil
      ·refine WDo.call2 (i:=8) (dd:=45) U U U U (.inl ⟨U,fun _ _=>(Sin.wk (.s2 .h4 .h3)<|.stb (.cons U .nil)<|.same .nil)⟩) (zb Tryz.call37<|.r3 U U U) (.cons .h2 .nil) (ccz hz (.cons .h2 .nil) .h1 fun w pz ho=>y5n zsC w pz ((zoS.mono<|(Zle.left _ _).trans z10).weak (fun _ _ h=>y1a ((Zle.left _ _).trans z10) h)) ((zoT.mono<|(Zle.left _ _).trans z10).weak (fun _ _ h=>y1i ((Zle.left _ _).trans z10) h)) (zoU.mono<|(Zle.left _ _).trans z10) (zoV.mono<|(Zle.left _ _).trans z10) ((zli.mono<|(Zle.left _ _).trans z10).weak (fun _ _ h=>y15 ((Zle.left _ _).trans z10) h)) (zoW.mono<|(Zle.left _ _).trans z10) ((zoX.mono<|(Zle.left _ _).trans z10).weak (fun _ _ h=>y1j ((Zle.left _ _).trans z10) h)) (zoY.mono<|(Zle.left _ _).trans z10) zhX ho) ?_
       rintro ao8o1_87226 cap8o2_87226 _
       refine WD.know (fun w hw=>Hp.y1T .here hw (by intro hz';have:=z3V;rw[hz'] at this;omega)) ?_
       rintro⟨b8o1_87226,rfl⟩
       refine Lf 10 47 U (fun _=>yS y66 U U z3V.1 z3V.2 y2L) ?_
       exact Ly (.s10 .h2 .here .here .here .here .here .here .here .here .here) (.r13 U U U U U U U U U U U U U)<|K8o10o13_87226 b8o1_87226 cap8o2_87226 b13o1_87226 trivial
      ·refine WDo.new (i:=12) (dd:=16) U U U U (yv (cs:=D) y9j U) (fun h'=>absurd h' (by decide)) fun b12o1_87226 _=>Ly (.s10 .h1 .here .here .here .here .here .here .here .here .here) (.r17 U U U U U U U U U U U U U U U U U)<|K12o13_87226 b12o1_87226 b13o1_87226 trivial
     refine WD.choose [8,12,13] (by kernel_rfl) U ?_
     refine WDo.cons ?_<|WDo.cons ?_<|WDo.cons ?_<|WDo.nil
     ·refine WDo.call2 (i:=8) (dd:=45) U U U U (.inl ⟨U,fun _ _=>(Sin.wk (.s2 .h3 .h2)<|.stb (.cons U .nil)<|.same .nil)⟩) (zb Tryz.call37<|.r3 U U U) (.cons .h1 .nil) (ccz hz (.cons .h1 .nil) .here fun w pz ho=>y5n zsC w pz ((zoS.mono<|(Zle.left _ _).trans z10).weak (fun _ _ h=>y1a ((Zle.left _ _).trans z10) h)) ((zoT.mono<|(Zle.left _ _).trans z10).weak (fun _ _ h=>y1i ((Zle.left _ _).trans z10) h)) (zoU.mono<|(Zle.left _ _).trans z10) (zoV.mono<|(Zle.left _ _).trans z10) ((zli.mono<|(Zle.left _ _).trans z10).weak (fun _ _ h=>y15 ((Zle.left _ _).trans z10) h)) (zoW.mono<|(Zle.left _ _).trans z10) ((zoX.mono<|(Zle.left _ _).trans z10).weak (fun _ _ h=>y1j ((Zle.left _ _).trans z10) h)) (zoY.mono<|(Zle.left _ _).trans z10) zhX ho) ?_
      rintro ao8o1_87226 cap8o2_87226 _
      refine WD.know (fun w hw=>Hp.y1T .here hw (by intro hz';have:=z3V;rw[hz'] at this;omega)) ?_
      rintro⟨b8o1_87226,rfl⟩
      refine Lf 10 47 U (fun _=>yS y66 U U z3V.1 z3V.2 y2L) ?_
      exact Ly (.a9) (.r12 U U U U U U U U U U U U)<|K8o10_87226 b8o1_87226 cap8o2_87226 trivial
     ·refine WDo.new (i:=12) (dd:=16) U U U U (yv (cs:=D) y9j U) (fun h'=>absurd h' (by decide)) fun b12o1_87226 _=>Ly (.a9) (.r16 U U U U U U U U U U U U U U U U)<|K12_87226 b12o1_87226 trivial
     ·refine WDo.new (i:=13) (dd:=17) U U U U (yv (cs:=[(vi 0)]) y2H U) (fun h'=>absurd h' (by decide)) fun b13o1_87226 _=>Ly (.a9) (.r16 U U U U U U U U U U U U U U U U)<|K13_87226 b13o1_87226 trivial
   ·rintro zdh zdi zdj zhV zhW ⟨h,z10Y,z10Z⟩
    replace h:=(z10G zdh zdi zdj).symm.trans h
    refine Ld<|La U<|La U<|WL.nil ?_
    exact WX.round ⟨zCq,zdh,(i64 (ze+1)),zdi,zdj,zhV,zhW⟩ ⟨h,(z10.trans z10Y),z10Z⟩ (Nat.lt_succ_self _) (.r9 U U U U U U U U U)<|.a8
  ·replace h:=yr h zCr
   refine WC.exit<|Lm<|Lm<|Lu ?_
   exact Ln ⟨z2o,z3U,z27,z2i,z1J⟩ ⟨h,z10,zsB⟩ (.r4 U U U U)<|.s7 .here .h1 .h2 .h2 .h2 .here .h1
 ·rintro most mp wide Zn lg ⟨h,hle,hm⟩
  replace h:=(z10F most mp wide).symm.trans h
  obtain⟨hb,h⟩:=yn h
  obtain rfl:=oJ h
  clear h
  refine WC.b<|Ld<|WL.gh (G:=Zp) (φ:=fun Z1=>Zle (Z++Zn) (Z++Z1)∧RG (Z++Z1) (y5V (Z++Z1)) (y2M lg) mp) (L':=fun Z1=>[fz Z1,stb z1b 31 A,yp z1L (Value.int .i64) slv (y2M lg),stb z1n 148 [(.map<|some z1x)],yp z17 (fun x=>Value.agg (e94 x).toArray) (Value.int .i64) z1P,yp z1x (Value.int .i64) (Value.int .i64) wide]) (fun w hw=>?_) ?_
  ·have h1:=hw.sub (.s7 .h3 .here .here .here .here .here .here)
   obtain⟨Z1,k1,k2,k3⟩:=Hp.ycj (Pr:=fun Z=>y5V Z) (fun k _ _ h=>y64 k h) hz lg mp Zn hm h1
   exact⟨Z1,⟨k1,k2⟩,k3⟩
  rintro Z1 ⟨hle1,hg1⟩
  refine WL.freezeC (Z:=Z) .h1 .here fun Z2 hle2 hc=>WL.freezeC (Z:=Z) .h2 .here fun Z3 hle3 h11=>WL.gh (G:=Zp) (φ:=fun Z4=>Zle (Z++Z3) (Z++Z4)∧ZA (Z++Z4) (yp z1x (Value.int .i64) (Value.int .i64) wide)) (L':=fun Z4=>[fz Z4,yp z1L (Value.int .i64) slv (y2M lg),yp z17 (fun x=>Value.agg (e94 x).toArray) (Value.int .i64) z1P]) (fun w hw=>?_) ?_
  ·obtain⟨Z4,k1,k2,k3⟩:=Hp.freeze (x:=yp z1x (Value.int .i64) (Value.int .i64) wide) .h3 .here hw
   exact⟨Z4,⟨k1.app,k2.mono (Zle.right _ _)⟩,k3⟩
  rintro Z4 ⟨hle4,hW⟩
  replace hg1:=hg1.up (hle2.trans (hle3.trans hle4)) (fun _ _ h=>y64 (hle2.trans (hle3.trans hle4)) h)
  replace hc:=hc.mono (hle3.trans hle4)
  replace h11:=h11.mono hle4
  have hZ:Zle Z (Z++Z4):=(Zle.left _ _).trans (hle.trans (hle1.trans (hle2.trans (hle3.trans hle4))))
  refine La U<|WL.nil<|Lb<|WC.ya3 (fun(Zn:Zp) (ao:Option Addr) (cap:Nat) (cs:List Value) (fs:List (Int→Option Int))=>Zle (Z++Z4) (Z++Zn)∧RR 1 (y5V (Z++Zn)) cs fs∧fs.Perm (mp.map<|y6s z6 wide)) (fun Zn ao cap cs fs=>[(12,(vi most)),(20,(.slice ao fs.length cap))]) (fun Zn ao cap cs fs=>[fz Zn,row (.slice ao fs.length cap) 201 1 cs,yp z17 (fun x=>Value.agg (e94 x).toArray) (Value.int .i64) z1P]) ?_ ?_
  ·skip
   refine WC.b<|Ld<|La U<|WL.fA 81 (e_range Tryz.underlying198 U .h1) ?_
   rintro rr _
   refine WL.nil<|Lb<|WC.block<|WC.nilRow 201 1<|WC.y93 (fun(Zn:Zp) (ao:Option Addr) (cap:Nat) (cs:List Value) (fs:List (Int→Option Int)) (rem:List (Int×((Option Addr×Nat)×List Value))) (l':List (Int×List (Int→Option Int))) (cur:Option (Int×((Option Addr×Nat)×List Value)))=>Zle (Z++Z4) (Z++Zn)∧RR 1 (y5V (Z++Zn)) cs fs∧RG (Z++Z4) (y5V (Z++Z4)) rem l'∧(fs++l'.map (y6s z6 wide)).Perm (mp.map<|y6s z6 wide)) (fun Zn ao cap cs fs rem l' cur=>[(4,(vp z1b)),(11,(vp z1n)),(12,(vi most)),(20,(.slice ao fs.length cap)),(81,(vp rr))]) (fun Zn ao cap cs fs rem l' cur=>[fz Zn,row (.slice ao fs.length cap) 201 1 cs,y6w rr z1L (Value.int .i64) slv (y2M lg) rem cur,yp z17 (fun x=>Value.agg (e94 x).toArray) (Value.int .i64) z1P]) (fun Zn ao cap cs fs rem l' cur=>rem.length) ⟨Z4,none,0,[],[],y2M lg,mp,none⟩ ⟨Zle.refl _,RR.nil _ _,hg1,.refl _⟩ (.r5 U U U U U) (.s4 .h2 .here .here .here) ?_
   rintro Zn ao cap cs fs rem l' cur ⟨hle5,hr,hg,hp⟩
   refine WC.b<|Ld<|WL.nextM U U U .h2 (fun hrem=>?_)<|fun i y m hx hm'=>?_
   ·subst hrem
    cases hg
    refine La U<|WL.nil<|Lb<|WC.b<|WC.cond U (fun h'=>(by cases h'))<|fun h'=>?_
    clear h'
    refine WC.exit<|Lm<|Lm<|Lu ?_
    exact Ln ⟨Zn,ao,cap,cs,fs⟩ ⟨hle5,hr,by simpa using hp⟩ (.r2 U U) (.s3 .h1 .h1 .h1)
   ·obtain⟨x,hx1,hxl,hxs,hg'⟩:=hg.at hx
    rw[← hm'] at hg'
    have hlen:rem.length=m.length+1:=by
     have h1:=(List.getElem?_eq_some_iff.1 hx).1
     rw[hm',List.length_eraseIdx,if_pos h1];omega
    have hpl:=hp.length_eq
    have hgl:=hg.len
    rw[List.length_append,List.length_map,List.length_map] at hpl
    refine La U<|WL.nil<|Lb<|WC.b<|WC.cond U (fun h'=>?_)<|fun h'=>(by cases h')
    clear h'
    refine WC.skip<|Lb<|WC.block<|WC.b<|Ld<|Le 84 (e_entry rfl .here)<|La U<|La U (Lg 21 (yv (cs:=[(vi 0)]) y2H U) fun b21 _=>Lg 22 (yv (cs:=[vn]) zEg U) fun b22 _=>Lk U U (yl yas U U U .h1 U U U)<|Lk U U (yl (vs:=[slv y.2]) zMX U U U .h1 U U U) (WL.freezeC (Z:=Z) .h1 .h2 fun Z5 hle6 h21=>WL.freezeC (Z:=Z) .h1 .here ?_))
    intro Z6 hle7 h22
    replace h21:=h21.mono hle7
    have e22:slv y.2 = .slice y.2.1.1 x.length y.2.1.2:=by unfold slv;rw[hxl]
    replace h22:ZC (Z++Z6) ⟨b22,0,none⟩ [.slice y.2.1.1 x.length y.2.1.2]:=by rw[← e22];exact h22
    have hle8:=hle5.trans (hle6.trans hle7)
    refine WL.nil<|Lb<|Ld<|La U ?_
    let Q:Value:=(.func (.func 99) #[] #[(vp b21),(vp b22),(vp z1n),(vp z1b)]);have hfd:y5V (Z++Z6) [Q] (y6s z6 wide (y.1,x)):=⟨99,[(vp b21),(vp b22),(vp z1n),(vp z1b)],U,Tryz.call99,fun w' hz' y0 r hr=>ybp (Z:=Z++Z6) (zBD:=⟨b21,0,none⟩) (zBE:=⟨b22,0,none⟩) (zBF:=y.2.1.1) (zBG:=y.2.1.2) (zBH:=⟨z1n,0,none⟩) (zBI:=z1x) (zBJ:=⟨z1b,0,none⟩) (zBK:=z2E) (zBL:=z2F) (zBM:=z2G) (zBN:=z2H) (zBO:=z2I) (zBP:=z2J) (zBQ:=z2K) (zBR:=z2L) (zBS:=z2u) (zBT:=z2v) (zBU:=z2M) (zBV:=z2N) (zBW:=z2O) (zBX:=z2P) (zBY:=z2Q) (zBZ:=z2R) (zhQ:=y0) (z9T:=y.1) (zhR:=x) (zoQ:=wide) (z3T:=z6) (r:=r) (h:=hr) (w₀:=w') (hz:=hz') (hmW:=hW.mono hle8) (zsd:=h21) (zC0:=((ZSB.of hxs).up hle8 (fun _ _ h=>y64 hle8 h))) (zC1:=h22) (zLd:=(h11.mono hle8)) (z101:=((zoS.mono (hZ.trans hle8)).weak (fun _ _ h=>y1a (hZ.trans hle8) h))) (z102:=((zoT.mono (hZ.trans hle8)).weak (fun _ _ h=>y1i (hZ.trans hle8) h))) (z103:=(zoU.mono (hZ.trans hle8))) (zLe:=(zoV.mono (hZ.trans hle8))) (z104:=((zli.mono (hZ.trans hle8)).weak (fun _ _ h=>y15 (hZ.trans hle8) h))) (z105:=(zoW.mono (hZ.trans hle8))) (z106:=((zoX.mono (hZ.trans hle8)).weak (fun _ _ h=>y1j (hZ.trans hle8) h))) (z107:=(zoY.mono (hZ.trans hle8))) (zLf:=(hc.mono hle8))⟩
    refine Le 88 (y14<|L2 (l:=[.tmp 21,.tmp 22,.tmp 11,.tmp 4])<|.r4 U U U U)<|Lg 89 (yM (cs:=[(.func (.func 99) #[] #[(vp b21),(vp b22),(vp z1n),(vp z1b)])]) zm9 (Lo (l:=[.tmp 88]) (.cons U .nil) [0]) (fun _=>by kernel_rfl) U (by unfold maxLen;omega)) ?_
    intro b89 _
    have hr2:RR 1 (y5V (Z++Z6)) [Q] ([y6s z6 wide (y.1,x)]:List (Int→Option Int)):=RR.one U hfd
    have hr1:=hr.weak (fun _ _ h=>y64 (hle6.trans hle7) h)
    refine WL.fA 90 (y6L (l1:=fs) (l2:=([y6s z6 wide (y.1,x)]:List (Int→Option Int))) (news:=[(.func (.func 99) #[] #[(vp b21),(vp b22),(vp z1n),(vp z1b)])]) (Pr:=(y5V (Z++Z6))) zm9 U U .h3 hr2 (y3t .here) (y94 U yan) ⟨by rw[List.length_append,List.length_singleton];omega,by rw[List.length_append,List.length_singleton];omega⟩) ?_
    rintro⟨ao',cap'⟩ _
    refine La U<|WL.nil<|Lt ?_
    have hp2:((fs++[y6s z6 wide (y.1,x)])++(l'.eraseIdx i).map (y6s z6 wide)).Perm (mp.map (y6s z6 wide)):=by
     refine List.Perm.trans ?_ hp
     rw[List.append_assoc]
     refine List.Perm.append_left _ ?_
     exact(yel hx1).map (y6s z6 wide)
    exact WX.round ⟨Z6,ao',cap',cs++[(.func (.func 99) #[] #[(vp b21),(vp b22),(vp z1n),(vp z1b)])],fs++[y6s z6 wide (y.1,x)],m,l'.eraseIdx i,some y⟩ ⟨hle8,RR.app hr1 hr2,hg',hp2⟩ (by show m.length<rem.length;omega) (.r5 U U U U U)<|.s4 .h2 .here .h1 .h1
  ·rintro Zn ao cap cs fs ⟨hle5,hr,hp⟩
   have hlen:fs.length=(mp.map (y6s z6 wide)).length:=hp.length_eq
   refine WC.b<|Ld<|La U<|La U<|La U<|La U (Kj (ls:=fs) .h1 .here hz hr fun Z7 hle6 h7=>WL.nil<|Lb<|WC.ret<|Lh Tryz.results53 (.tmp U<|.tmp U .nil)<|fun w hw=>?_)
   refine⟨Z7,ao,cap,?_,⟨fs,hp,h7.weak fun _ _ h=>y64 hle6 h⟩,hw.sub (.a2)⟩
   show Ending.returned _=_
   rw[← hlen]
   exact y1R U U
def y3S(z31:List (Int→Option Int)×Int)(zT:zp)(zU:z8)(zdk:Int→Option (S36×Int)):Nat→Int→Option (S36×Int)
 | 0,_=>none
 | zCw+1,z6A=>(y29 z31.1 (i64 (z6A-1))).bind fun zLu=>if decide ((i64 (((nth zT.fK zU.fQ).fSlow)*zLu))>z6A) then if decide ((i64 (z6A+1))>32768) then some ((⟨0,0,0,0⟩:S36),360) else y3S z31 zT zU zdk zCw (i64 (z6A+1)) else zdk z6A
theorem yaR{n:Nat}{z31:List (Int→Option Int)×Int}{zT:zp}{zU:z8}{zdk:Int→Option (S36×Int)}{z6A:Int}{r:S36×Int}(h:y3S z31 zT zU zdk n z6A=some r):∃ m,n=m+1:=by
 cases n with
 | zero=>cases h
 | succ m=>exact⟨m,rfl⟩
def y3T(z4U:Int)(z4y:Int)(z31:List (Int→Option Int)×Int)(zT:zp)(zU:z8)(zdl:Int→Int→Option (S36×Int)):Nat→Int→Int→Int→Option (S36×Int)
 | 0,_,_,_=>none
 | zCx+1,z3W,z6B,z6C=>if decide (z3W<(i64 (z4U+z4y))) then(y29 z31.1 z3W).bind fun zfO=>jp1 (fun(zbe:Int)=>chk ((((nth zT.fK zU.fQ).fSlow):Int)≠0) (y3T z4U z4y z31 zT zU zdl zCx (i64 (z3W+1)) zbe (max z6C (i64 (zfO-(i64 (Int.tdiv (i64 ((i64 ((max (i64 (z3W-z4y)) 0)+((nth zT.fK zU.fQ).fSlow)))-1)) ((nth zT.fK zU.fQ).fSlow)))))))) fun zsG=>if decide (z3W<z4U) then zsG (max z6B (i64 ((i64 ((i64 (((nth zT.fK zU.fQ).fSlow)*zfO))-z3W))+z4y))) else zsG z6B else zdl z6B z6C
theorem yaS{n:Nat}{z4U:Int}{z4y:Int}{z31:List (Int→Option Int)×Int}{zT:zp}{zU:z8}{zdl:Int→Int→Option (S36×Int)}{z3W:Int}{z6B:Int}{z6C:Int}{r:S36×Int}(h:y3T z4U z4y z31 zT zU zdl n z3W z6B z6C=some r):∃ m,n=m+1:=by
 cases n with
 | zero=>cases h
 | succ m=>exact⟨m,rfl⟩
def y5t(zT:zp)(zp2:List (List zd))(zU:z8)(z8t:List (z8×Int)):Option (S36×Int):=
 (y4i zT zp2 zU z8t).bind fun z31=>chk ((0:Int)≤zU.fQ∧zU.fQ<((zT.fK.length:Nat):Int)) ((y4G zT zU.fNode).bind fun z4y=>jp1 (fun(z4U:Int)=>jp2 (fun(zdm:Int) (zdn:Int)=>some (({zU with fDelay:=zdm,fT:=i64 (zdn+z31.2)}:S36),0)) fun zdl=>y3T z4U z4y z31 zT zU zdl yx 0 0 0) fun zdk=>y3S z31 zT zU zdk yx 1)
theorem yey{Z:Zp}{zCy:Option Addr}{zCz:Nat}{zCA:Option Addr}{zCB:Nat}{zCC:Option Addr}{zCD:Nat}{zCE:Option Addr}{zCF:Nat}{zCG:Option Addr}{zCH:Nat}{zCI:Option Addr}{zCJ:Nat}{zCK:Option Addr}{zCL:Nat}{zCM:Option Addr}{zCN:Nat}{zLv:Option Addr}{zLw:Nat}{z9V:Nat}{zT:zp}{zp2:List (List zd)}{zU:z8}{z8t:List (z8×Int)}{r:S36×Int}(h:y5t zT zp2 zU z8t=some r)(w₀:World)(hz:PZ (fps [yp z9V (fun x=>Value.agg (e94 x).toArray) (Value.int .i64) z8t]) w₀ Z)(zLx:ZS Z 4 (y3y Z) zCy zCz zT.fM)(zLy:ZS Z 4 (y4k Z) zCA zCB zT.fC0)(zLz:ZS Z 4 (fun r x=>r=e64 x) zCC zCD zT.fS)(zCO:ZS Z 4 (fun r x=>r=e62 x) zCE zCF zT.fK)(zLA:ZS Z 7 (p69 Z) zCG zCH zT.fVLs)(zLB:ZS Z 5 (fun r x=>r=y4t x) zCI zCJ zT.fH)(zLC:ZS Z 3 (y4l Z) zCK zCL zT.fU)(zLD:ZS Z 4 (fun r x=>r=y4u x) zCM zCN zT.fV0)(z110:ZS Z 1 (p58 Z) zLv zLw zp2)(hown:Hp (fps [yp z9V (fun x=>Value.agg (e94 x).toArray) (Value.int .i64) z8t]) w₀ w₀ [yp z9V (fun x=>Value.agg (e94 x).toArray) (Value.int .i64) z8t]):
  Calls Tryz.prog 25 #[(.agg #[(.slice zCy zT.fM.length zCz),(.slice zCA zT.fC0.length zCB),(.slice zCC zT.fS.length zCD),(.slice zCE zT.fK.length zCF),(.slice zCG zT.fVLs.length zCH),(.slice zCI zT.fH.length zCJ),(.slice zCK zT.fU.length zCL),(.slice zCM zT.fV0.length zCN)]),(.slice zLv zp2.length zLw),(.agg #[(vi zU.fNode),(vi zU.fQ)]),(.map (some z9V))] w₀ fun e w'=>e = .returned (.tuple #[(.agg #[(vi r.1.fNode),(vi r.1.fQ),(vi r.1.fDelay),(vi r.1.fT)]),(vi r.2)])∧Hp (fps [yp z9V (fun x=>Value.agg (e94 x).toArray) (Value.int .i64) z8t]) w₀ w' [yp z9V (fun x=>Value.agg (e94 x).toArray) (Value.int .i64) z8t]:=by
 unfold y5t at h
 refine Calls.oh4 Tryz.func25 Tryz.ntmps25 hown ?_
 refine WC.pool<|WC.b<|Ld (Lg 4 (yH (cs:=[(.slice zCy zT.fM.length zCz),(.slice zCA zT.fC0.length zCB),(.slice zCC zT.fS.length zCD),(.slice zCE zT.fK.length zCF),(.slice zCG zT.fVLs.length zCH),(.slice zCI zT.fH.length zCJ),(.slice zCK zT.fU.length zCL),(.slice zCM zT.fV0.length zCN)]) U U) fun z1aB _=>Lg 6 (yH (cs:=[(vi zU.fNode),(vi zU.fQ)]) U U) ?_)
 intro z1aC _
 let A:List Value:=[(vi 0),(vi 0),(vi 0),(vi 0)];refine Lg 8 (yv (cs:=A) y7D U) ?_
 intro zbf _
 refine La U<|WL.nil<|Lb<|WC.b ?_
 obtain⟨z31,z111,h⟩:=za h
 refine Ld<|Le 19 (yi y1E U (yk .h2) U)<|La U<|Le 21 (yi ydg U (yk .h1) U)<|La U<|WL.yfj (dd:=23) U U U (zb Tryz.call53<|.r4 U U U U) (.cons .h4 .nil) (ccz hz (.cons .h4 .nil) .h3 fun w pz ho=>ycq z111 w pz ((zLx.mono<|Zle.left _ _).weak (fun _ _ h=>y1a (Zle.left _ _) h)) ((zLy.mono<|Zle.left _ _).weak (fun _ _ h=>y1i (Zle.left _ _) h)) (zLz.mono<|Zle.left _ _) (zCO.mono<|Zle.left _ _) ((zLA.mono<|Zle.left _ _).weak (fun _ _ h=>y15 (Zle.left _ _) h)) (zLB.mono<|Zle.left _ _) ((zLC.mono<|Zle.left _ _).weak (fun _ _ h=>y1j (Zle.left _ _) h)) (zLD.mono<|Zle.left _ _) ((z110.mono<|Zle.left _ _).weak (fun _ _ h=>y1t (Zle.left _ _) h)) ho) ?_
 rintro zlk zsH zsI zLE
 refine WL.merge .here .h4<|La U<|La U<|La U<|La U<|La U<|WL.nil<|Lb<|WC.b ?_
 obtain⟨z112,h⟩:=yn h
 obtain⟨z4y,z113,h⟩:=za h
 refine Lx (fun i=>[].contains i) [] U<|Lf 0 26 U (fun _=>ya y7R U U)<|Lj 1 27 U (yc y7S U<|yh .h4 U)<|Lf 2 28 U (fun _=>ya yhw U U)<|Lj 3 29 U (yc ys U<|yh .h3 U)<|L7 (j:=4) (dd:=30) (by kernel_rfl) U z2j z2k U U (Z:=(Z++([]++zlk))) (Pr:=(fun r x=>r=e62 x)) yaq U U (zCO.mono<|(Zle.left _ _).trans ((Zle.left _ _).trans (Zle.yT _ _ _))) z112 ?_
 rintro z1aD z1aE z114 z1aF rfl
 refine Lf 5 31 U (fun _=>ya y9c U U)<|Lj 6 32 U (yc ys U<|y1c (hz.pv2 .here) z114 U)<|Lj 7 33 U (yi y1E U (yk .h4) U)<|Lf 8 34 U (fun _=>ya yf3 U U)<|Lj 9 35 U (yc ys U<|yh .h3 U)<|L4 10 36 U (zb Tryz.call54<|.r2 U U) (ccz hz .nil .here fun w pz ho=>y9N z113 w pz ((zLx.mono<|(Zle.left _ _).trans ((Zle.left _ _).trans (Zle.yT _ _ _))).weak (fun _ _ h=>y1a ((Zle.left _ _).trans ((Zle.left _ _).trans (Zle.yT _ _ _))) h)) ((zLy.mono<|(Zle.left _ _).trans ((Zle.left _ _).trans (Zle.yT _ _ _))).weak (fun _ _ h=>y1i ((Zle.left _ _).trans ((Zle.left _ _).trans (Zle.yT _ _ _))) h)) (zLz.mono<|(Zle.left _ _).trans ((Zle.left _ _).trans (Zle.yT _ _ _))) (zCO.mono<|(Zle.left _ _).trans ((Zle.left _ _).trans (Zle.yT _ _ _))) ((zLA.mono<|(Zle.left _ _).trans ((Zle.left _ _).trans (Zle.yT _ _ _))).weak (fun _ _ h=>y15 ((Zle.left _ _).trans ((Zle.left _ _).trans (Zle.yT _ _ _))) h)) (zLB.mono<|(Zle.left _ _).trans ((Zle.left _ _).trans (Zle.yT _ _ _))) ((zLC.mono<|(Zle.left _ _).trans ((Zle.left _ _).trans (Zle.yT _ _ _))).weak (fun _ _ h=>y1j ((Zle.left _ _).trans ((Zle.left _ _).trans (Zle.yT _ _ _))) h))<|zLD.mono<|(Zle.left _ _).trans ((Zle.left _ _).trans (Zle.yT _ _ _)))<|Lf 11 12 U (fun _=>q_z U)<|Lf 12 13 U (fun _=>q_z U)<|WD.done (by kernel_rfl)<|Lb<|WC.b<|Ld<|Le 37 (ya yf3 U U)<|Le 38 (yc ys U<|yh .h3 U)<|Le 39 (ya yhw U U)<|Le 40 (yc ys U<|yh .h3 U)<|Le 41 (yL (v:=(.agg #[(vi zU.fNode),(vi zU.fQ),(vi 0),(vi 0)])) (Lo (l:=[.tmp 38,.tmp 40]) (.r2 U U) [0,1]) (fun _=>by kernel_rfl)) (Lg 14 (yv (cs:=A) y7D U) fun zbg _=>Lk U U (yl y7T U U U .here U U U)<|WL.nil<|Lb<|WC.b<|Ld<|La U<|WL.nil<|Lb ?_)
 obtain⟨zdk,z115,h⟩:=y12 h
 let D:Value:=(vi ((nth zT.fK zU.fQ).fSlow));let E:Value:=(.slice zsH z31.1.length zsI);let G:List Value:=[(vi zU.fNode),(vi zU.fQ),(vi 0),(vi 0)];refine Kf (fun(z4U:Int)=>(zdk z4U=some r)) (fun z4U=>[(8,(vp zbf)),(10,E),(11,(vi z31.2)),(12,D),(13,(vi z4y)),(14,(vp zbg)),(15,(vi z4U))]) (fun z4U=>[fz ([]++zlk),stb zbf 37 A,stb zbg 37 G,yp z9V (fun x=>Value.agg (e94 x).toArray) (Value.int .i64) z8t]) ?_ ?_
 ·skip
  refine WC.block<|L9 (fun(zll:Nat) (z6A:Int)=>(y3S z31 zT zU zdk zll z6A=some r)) (fun zll z6A=>[(8,(vp zbf)),(10,E),(11,(vi z31.2)),(12,D),(13,(vi z4y)),(14,(vp zbg)),(15,(vi z6A))]) (fun zll z6A=>[fz ([]++zlk),stb zbf 37 A,stb zbg 37 G,yp z9V (fun x=>Value.agg (e94 x).toArray) (Value.int .i64) z8t]) (fun zll z6A=>zll) ⟨yx,1⟩ h (.r7 U U U U U U U) (.s4 .h1 .h2 .here .here) ?_
  rintro zll z6A h
  obtain⟨zCw,rfl⟩:=yaR h
  rw[y3S] at h
  refine WC.b<|WC.b ?_
  obtain⟨zLu,z116,h⟩:=za h
  refine Ld<|La U<|La U<|La U<|La U<|Ll 46 (zb Tryz.call55<|.r2 U U) .nil (ccz hz .nil .here fun w pz ho=>y6W z116 w pz<|zLE.up (Zle.yT _ _ _)<|fun _ _ h=>y64 (Zle.yT _ _ _) h)<|La U<|La U<|La U<|WL.nil<|Lb<|WC.cond U (fun zCP=>?_)<|fun zCP=>?_
  ·replace h:=yq h zCP
   refine WC.skip<|Lb<|WC.block<|WC.b<|Ld<|La U<|La U<|La U<|WL.nil<|Lb<|WC.b<|Ld<|La U<|La U<|WL.nil<|Lb<|WC.cond U (fun zCQ=>?_)<|fun zCQ=>?_
   ·replace h:=yq h zCQ
    refine WC.b<|Ld<|Le 54 (yL (v:=(.agg #[(vi 0),(vi 0),(vi 0),(vi 0)])) (Lo (l:=[]) .nil []) (fun _=>by kernel_rfl))<|Lk U U (yl y7T U U U .h1 U U U)<|La U<|WL.nil<|Lb<|WC.ret<|Lq<|Li<|Lq<|Li ?_
    obtain rfl:=oJ h
    refine Lh Tryz.results25 (.agg U y6y U (yk .here)<|.tmp U .nil)<|fun w hw=>?_
    exact⟨y1R U U,hw.sub (.cons .h3 .nil)⟩
   ·replace h:=yr h zCQ
    refine WC.skip<|Lt ?_
    exact WX.round ⟨zCw,(i64 (z6A+1))⟩ h (Nat.lt_succ_self _) (.r7 U U U U U U U)<|.a4
  ·replace h:=yr h zCP
   refine WC.exit<|Lm<|Lm<|Lu ?_
   exact Ln z6A h (.r7 U U U U U U U)<|.a4
 ·rintro z4U h
  replace h:=(z115 z4U).symm.trans h
  obtain⟨zdl,z117,h⟩:=y59 h
  refine WC.y5g (fun(zdm:Int) (zdn:Int)=>(zdl zdm zdn=some r)) (fun zdm zdn=>[(8,(vp zbf)),(11,(vi z31.2)),(14,(vp zbg))]) (fun zdm zdn=>[fz ([]++zlk),stb zbf 37 A,stb zbg 37 [(vi zU.fNode),(vi zU.fQ),(vi zdm),(vi zdn)],yp z9V (fun x=>Value.agg (e94 x).toArray) (Value.int .i64) z8t]) ?_ ?_
  ·skip
   refine WC.b<|Ld<|La U<|La U<|La U<|La U<|WL.nil<|Lb<|WC.block<|WC.y4P (fun(zlm:Nat) (z3W:Int) (z6B:Int) (z6C:Int)=>(y3T z4U z4y z31 zT zU zdl zlm z3W z6B z6C=some r)) (fun zlm z3W z6B z6C=>[(8,(vp zbf)),(10,E),(11,(vi z31.2)),(12,D),(13,(vi z4y)),(14,(vp zbg)),(15,(vi z4U)),(57,(vi<|i64 (z4U+z4y))),(58,(vi z3W))]) (fun zlm z3W z6B z6C=>[fz ([]++zlk),stb zbf 37 A,stb zbg 37 [(vi zU.fNode),(vi zU.fQ),(vi z6B),(vi z6C)],yp z9V (fun x=>Value.agg (e94 x).toArray) (Value.int .i64) z8t]) (fun zlm z3W z6B z6C=>zlm) ⟨yx,0,0,0⟩ h (.r9 U U U U U U U U U) (.a4) ?_
   rintro zlm z3W z6B z6C h
   obtain⟨zCx,rfl⟩:=yaS h
   rw[y3T] at h
   refine WC.b<|Ld<|La U<|WL.nil<|Lb<|WC.b<|WC.cond U (fun zCR=>?_)<|fun zCR=>?_
   ·replace h:=yq h zCR
    refine WC.skip<|Lb<|WC.b<|WC.block<|WC.b<|Ld<|La U<|La U<|WL.nil<|Lb<|WC.b ?_
    obtain⟨zfO,z118,h⟩:=za h
    refine Ld<|La U<|La U<|Ll 63 (zb Tryz.call55<|.r2 U U) .nil (ccz hz .nil .here fun w pz ho=>y6W z118 w pz<|zLE.up (Zle.yT _ _ _)<|fun _ _ h=>y64 (Zle.yT _ _ _) h)<|La U<|WL.nil<|Lb ?_
    obtain⟨zsG,z119,h⟩:=y12 h
    refine Kf (fun(zbe:Int)=>(zsG zbe=some r)) (fun zbe=>[(8,(vp zbf)),(10,E),(11,(vi z31.2)),(12,D),(13,(vi z4y)),(14,(vp zbg)),(15,(vi z4U)),(16,(vi z3W)),(17,(vi zfO)),(57,(vi<|i64 (z4U+z4y))),(58,(vi z3W))]) (fun zbe=>[fz ([]++zlk),stb zbf 37 A,stb zbg 37 [(vi zU.fNode),(vi zU.fQ),(vi zbe),(vi z6C)],yp z9V (fun x=>Value.agg (e94 x).toArray) (Value.int .i64) z8t]) ?_ ?_
    ·skip
     refine WC.b<|Ld<|La U<|La U<|La U<|WL.nil<|Lb<|WC.cond U (fun zCS=>?_)<|fun zCS=>?_
     ·replace h:=yq h zCS
      let F:=(i64 ((i64 ((i64 (((nth zT.fK zU.fQ).fSlow)*zfO))-z3W))+z4y));refine Ld (Le 67 (ya y9i U U) (Le 68 (yc ys U (yh .h2 U)) (La U (La U (La U (La U (La U (La U (La U (Le 76 (yaU U U U) (Le 77 (ya y9i U U) (Lk U U (y4r (ds:=[(vi zU.fNode),(vi zU.fQ),(vi (max z6B F)),(vi z6C)]) yas U U U U U .h2 U U) (WL.nil ?_)))))))))))))
      exact Ln (max z6B F) h (.r11 U U U U U U U U U U U)<|.s4 .h1 .h1 .here .here
     ·replace h:=yr h zCS
      refine WC.skip ?_
      exact Ln z6B h (.r11 U U U U U U U U U U U)<|.a4
    ·rintro zbe h
     replace h:=(z119 zbe).symm.trans h
     obtain⟨z11a,h⟩:=yn h
     let C:=(i64 (zfO-(i64 (Int.tdiv (i64 ((i64 ((max (i64 (z3W-z4y)) 0)+((nth zT.fK zU.fQ).fSlow)))-1)) ((nth zT.fK zU.fQ).fSlow)))));refine Lx (fun i=>[15].contains i) [] U (Lf 0 78 U (fun _=>ya yai U U) (Lj 1 79 U (yc ys U (yh .h2 U)) (Lf 2 80 U (fun _=>q_m U) (Lf 3 81 U (fun _=>q_m U) (Lf 4 82 U (fun _=>q_m U) (Lf 5 83 U (fun _=>y8H U U U) (Lf 6 84 U (fun _=>yaU U U U) (Lf 7 85 U (fun _=>q_m U) (Lf 8 86 U (fun _=>y9s U U U) (Lf 9 87 U (fun _=>y8H U U U) (Lf 10 88 U (fun _=>q_m U) (Lf 11 89 U (fun _=>yd7 U U z11a U) (Lf 12 90 U (fun _=>y8H U U U) (Lf 13 91 U (fun _=>yaU U U U) (Lf 14 92 U (fun _=>ya yai U U) (Kb (i:=15) U (by kernel_rfl) U U U (by kernel_rfl) (y4r (ds:=[(vi zU.fNode),(vi zU.fQ),(vi zbe),(vi (max z6C C))]) yas U U U U U .h2 U U) (WD.done (by kernel_rfl) (Lt (Lb (Ld (La U (La U (WL.nil ?_)))))))))))))))))))))))
     exact WX.round ⟨zCx,(i64 (z3W+1)),zbe,(max z6C C)⟩ h (Nat.lt_succ_self _) (.r9 U U U U U U U U U)<|.s4 .h1 .h1 .here .here
   ·replace h:=yr h zCR
    refine WC.exit<|Lm<|Lm<|Lu ?_
    exact Ln ⟨z6B,z6C⟩ h (.r3 U U U)<|.a4
  ·rintro zdm zdn h
   replace h:=(z117 zdm zdn).symm.trans h
   refine WC.b<|Ld<|Le 94 (ya yai U U)<|Le 95 (yc ys U<|yh .h2 U)<|La U<|La U<|Le 98 (ya yai U U)<|Lk U U (y4r (ds:=[(vi zU.fNode),(vi zU.fQ),(vi zdm),(vi<|i64 (zdn+z31.2))]) yas U U U U U .h2 U U)<|WL.nil<|Lb<|WC.b<|Ld<|Le 99 (yi y6y U (yk .here) U)<|Lk U U (yl y7T U U U .h2 U U U)<|La U<|WL.nil<|Lb<|WC.ret ?_
   obtain rfl:=oJ h
   refine Lh Tryz.results25 (.agg U y6y U (yk .here)<|.tmp U .nil)<|fun w hw=>?_
   exact⟨y1R U U,hw.sub (.cons .h3 .nil)⟩
def y13(z8u:S36)(z8v:S36):Option Int:=
 if decide (z8u.fNode≠z8v.fNode) then some (i64 (z8u.fNode-z8v.fNode)) else some (i64 (z8u.fQ-z8v.fQ))
theorem ybW{Z:Zp}{z8u:S36}{z8v:S36}{r:Int}(h:y13 z8u z8v=some r)(w₀:World)(hz:PZ [] w₀ Z):
  Calls Tryz.prog 27 #[(.agg #[(vi z8u.fNode),(vi z8u.fQ),(vi z8u.fDelay),(vi z8u.fT)]),(.agg #[(vi z8v.fNode),(vi z8v.fQ),(vi z8v.fDelay),(vi z8v.fT)])] w₀ fun e w'=>e = .returned (vi r)∧Hp [] w₀ w' []:=by
 unfold y13 at h
 refine Lz Tryz.func27 Tryz.ntmps27 ?_
 refine WC.b<|Ld (Lg 2 (yH (cs:=[(vi z8u.fNode),(vi z8u.fQ),(vi z8u.fDelay),(vi z8u.fT)]) U U) fun z1aG _=>Lg 3 (yH (cs:=[(vi z8v.fNode),(vi z8v.fQ),(vi z8v.fDelay),(vi z8v.fT)]) U U) fun z1aH _=>La U<|WL.nil<|Lb<|WC.b<|WC.b<|Ld<|Le 5 (ya y6z U U)<|Le 6 (yc ys U<|yh .h1 U)<|Le 7 (ya y6z U U)<|Le 8 (yc ys U<|yh .here U)<|La U<|WL.nil<|Lb<|WC.cond U (fun zCT=>?_)<|fun zCT=>?_)
 ·replace h:=yq h zCT
  refine WC.b<|Ld<|Le 10 (ya y6z U U)<|Le 11 (yc ys U<|yh .h1 U)<|Le 12 (ya y6z U U)<|Le 13 (yc ys U<|yh .here U)<|La U<|La U<|WL.nil<|Lb<|WC.ret<|Li ?_
  obtain rfl:=oJ h
  refine Lh Tryz.results27 (.tmp U .nil)<|fun w hw=>?_
  exact⟨yC U,hw.sub .nil⟩
 ·replace h:=yr h zCT
  refine WC.skip<|Lb<|WC.b<|Ld<|Le 15 (ya y7U U U)<|Le 16 (yc ys U<|yh .h1 U)<|Le 17 (ya y7U U U)<|Le 18 (yc ys U<|yh .here U)<|La U<|La U<|WL.nil<|Lb<|WC.ret ?_
  obtain rfl:=oJ h
  refine Lh Tryz.results27 (.tmp U .nil)<|fun w hw=>?_
  exact⟨yC U,hw.sub .nil⟩
def y3b(z2p:List S36×Int)(z12:zp)(z6D:List (List zd))(zdo:(List S36)→Option (S39×Int)):Nat→Int→(List (z8×Int))→(List S36)→Option (S39×Int)
 | 0,_,_,_=>none
 | zCU+1,z32,z9f,z4V=>if decide (z32<((z2p.1.length:Nat):Int)) then chk ((0:Int)≤z32∧z32<((z2p.1.length:Nat):Int)) ((y5t z12 z6D (⟨((nth z2p.1 z32).fNode),((nth z2p.1 z32).fQ)⟩:z8) z9f).bind fun z8w=>if decide (z8w.2≠0) then some ((⟨([]:List S36),([]:List zn)⟩:S39),z8w.2) else chk ((((z4V++([z8w.1]:List S36)).length:Nat):Int)*32≤140737488355328∧(((z4V++([z8w.1]:List S36)).length:Nat):Int)≤4611686018427387904) (y3b z2p z12 z6D zdo zCU (i64 (z32+1)) (yF z9f (⟨((nth z2p.1 z32).fNode),((nth z2p.1 z32).fQ)⟩:z8) z8w.1.fDelay) (z4V++([z8w.1]:List S36)))) else zdo z4V
theorem y9V{n:Nat}{z2p:List S36×Int}{z12:zp}{z6D:List (List zd)}{zdo:(List S36)→Option (S39×Int)}{z32:Int}{z9f:List (z8×Int)}{z4V:List S36}{r:S39×Int}(h:y3b z2p z12 z6D zdo n z32 z9f z4V=some r):∃ m,n=m+1:=by
 cases n with
 | zero=>cases h
 | succ m=>exact⟨m,rfl⟩
def y2h(z12:zp)(zp3:Int)(z6D:List (List zd)):Option (S39×Int):=
 (y53 z12 zp3 z6D).bind fun z2p=>if decide (z2p.2=310) then some ((⟨([]:List S36),([]:List zn)⟩:S39),z2p.2) else(y6g z12 zp3 z6D).bind fun zCV=>if decide (zCV.2=350) then some ((⟨([]:List S36),([]:List zn)⟩:S39),zCV.2) else if decide (z2p.2≠0) then some ((⟨([]:List S36),([]:List zn)⟩:S39),z2p.2) else jp1 (fun(zbh:List S36)=>(yQ zbh (fun(y0:S36) (y1:S36)=>y13 y0 y1)).bind fun zp4=>(y6E z12 z6D zp4).bind fun zCW=>some ((⟨zp4,zCW⟩:S39),0)) fun zdo=>y3b z2p z12 z6D zdo yx 0 ([]:List (z8×Int)) ([]:List S36)
theorem y7J{Z:Zp}{zp5:Option Addr}{zp6:Nat}{zp7:Option Addr}{zp8:Nat}{zp9:Option Addr}{zpa:Nat}{zpb:Option Addr}{zpc:Nat}{zpd:Option Addr}{zpe:Nat}{zpf:Option Addr}{zpg:Nat}{zph:Option Addr}{zpi:Nat}{zpj:Option Addr}{zpk:Nat}{zsJ:Option Addr}{zsK:Nat}{z12:zp}{zp3:Int}{z6D:List (List zd)}{r:S39×Int}(h:y2h z12 zp3 z6D=some r)(w₀:World)(hz:PZ [] w₀ Z)(zsL:ZS Z 4 (y3y Z) zp5 zp6 z12.fM)(zsM:ZS Z 4 (y4k Z) zp7 zp8 z12.fC0)(zsN:ZS Z 4 (fun r x=>r=e64 x) zp9 zpa z12.fS)(zsO:ZS Z 4 (fun r x=>r=e62 x) zpb zpc z12.fK)(zsP:ZS Z 7 (p69 Z) zpd zpe z12.fVLs)(zsQ:ZS Z 5 (fun r x=>r=y4t x) zpf zpg z12.fH)(zsR:ZS Z 3 (y4l Z) zph zpi z12.fU)(zsS:ZS Z 4 (fun r x=>r=y4u x) zpj zpk z12.fV0)(zsT:ZS Z 1 (p58 Z) zsJ zsK z6D):
  Calls Tryz.prog 12 #[(.agg #[(.slice zp5 z12.fM.length zp6),(.slice zp7 z12.fC0.length zp8),(.slice zp9 z12.fS.length zpa),(.slice zpb z12.fK.length zpc),(.slice zpd z12.fVLs.length zpe),(.slice zpf z12.fH.length zpg),(.slice zph z12.fU.length zpi),(.slice zpj z12.fV0.length zpk)]),(vi zp3),(.slice zsJ z6D.length zsK)] w₀ fun e w'=>∃ zLF:Option Addr,∃ zLG:Nat,∃ zLH:Option Addr,∃ zLI:Nat,e = .returned (.tuple #[(.agg #[(.slice zLF r.1.fP.length zLG),(.slice zLH r.1.fEnds.length zLI)]),(vi r.2)])∧True∧Hp [] w₀ w' [row (.slice zLF r.1.fP.length zLG) 37 4 (r.1.fP.flatMap e37),row (.slice zLH r.1.fEnds.length zLI) 53 3 (r.1.fEnds.flatMap e53)]:=by
 unfold y2h at h
 refine Ke Tryz.func12 Tryz.ntmps12 ?_
 let A:List Value:=[(.slice zp5 z12.fM.length zp6),(.slice zp7 z12.fC0.length zp8),(.slice zp9 z12.fS.length zpa),(.slice zpb z12.fK.length zpc),(.slice zpd z12.fVLs.length zpe),(.slice zpf z12.fH.length zpg),(.slice zph z12.fU.length zpi),(.slice zpj z12.fV0.length zpk)];refine WC.b (Ld (Lg 3 (yH (cs:=A) U U) ?_))
 intro zsU _
 refine Lg 6 (yv (cs:=[vn,vn]) y6P U) fun zsV _=>La U<|WL.nil<|Lb<|WC.b ?_
 obtain⟨z2p,z11b,h⟩:=za h
 refine Ld<|Le 20 (yi y1E U (yk .h1) U)<|La U<|La U<|WL.y49 (dd:=23) U U U (zb Tryz.call24<|.r3 U U U) .nil (cc hz .nil fun w pz ho=>yfN z11b w pz zsL zsM zsN zsO zsP zsQ zsR zsS zsT) ?_
 rintro zLJ zLK _
 refine La U<|La U<|La U<|La U<|La U<|WL.nil<|Lb<|WC.b<|WC.b<|Ld<|La U<|La U<|WL.nil<|Lb<|WC.cond U (fun zCX=>?_)<|fun zCX=>?_
 ·replace h:=yq h zCX
  refine WC.b<|Ld<|Le 28 (yL (v:=(.agg #[vn,vn])) (Lo (l:=[]) .nil []) (fun _=>by kernel_rfl))<|La U<|Lk U U (yl y5b U U U .h1 U U U)<|La U<|WL.nil<|Lb<|WC.ret<|Li<|WX.nilRow 37 4<|WX.nilRow 53 3 ?_
  obtain rfl:=oJ h
  refine Lh Tryz.results12 (.agg U y5q U (yk .h2)<|.tmp U .nil)<|fun w hw=>?_
  exact⟨none,0,none,0,y1R U U,trivial,hw.sub (.s2 .h1 .here)⟩
 ·replace h:=yr h zCX
  refine WC.skip<|Lb<|WC.b<|WC.b ?_
  obtain⟨zCV,z11c,h⟩:=za h
  refine Ld<|Le 31 (yi y1E U (yk .h2) U)<|La U<|La U<|WL.y8z (dd:=34) U U U (zb Tryz.call18<|.r3 U U U) .nil (cc hz .nil fun w pz ho=>yew z11c w pz zsL zsM zsN zsO zsP zsQ zsR zsS zsT) ?_
  rintro z1aI z1aJ z1aK z1aL _
  refine La U<|La U<|La U (Lg 10 (yv (cs:=[vn,vn]) y6P U) fun z1aM _=>Lk U U (yl y5b U U U .here U U U)<|La U<|WL.nil<|Lb<|WC.b<|Ld<|La U<|La U<|WL.nil<|Lb<|WC.cond U (fun zCY=>?_)<|fun zCY=>?_)
  ·replace h:=yq h zCY
   refine WC.b<|Ld<|Le 39 (yL (v:=(.agg #[vn,vn])) (Lo (l:=[]) .nil []) (fun _=>by kernel_rfl))<|La U<|Lk U U (yl y5b U U U .h4 U U U)<|La U<|WL.nil<|Lb<|WC.ret<|Li<|WX.nilRow 37 4<|WX.nilRow 53 3 ?_
   obtain rfl:=oJ h
   refine Lh Tryz.results12 (.agg U y5q U (yk .h2)<|.tmp U .nil)<|fun w hw=>?_
   exact⟨none,0,none,0,y1R U U,trivial,hw.sub (.s2 .h1 .here)⟩
  ·replace h:=yr h zCY
   refine WC.skip<|Lb<|WC.b<|WC.b<|Ld<|La U<|La U<|WL.nil<|Lb<|WC.cond U (fun zCZ=>?_)<|fun zCZ=>?_
   ·replace h:=yq h zCZ
    refine WC.b<|Ld<|Le 43 (yL (v:=(.agg #[vn,vn])) (Lo (l:=[]) .nil []) (fun _=>by kernel_rfl))<|La U<|Lk U U (yl y5b U U U .h4 U U U)<|La U<|WL.nil<|Lb<|WC.ret<|Li<|WX.nilRow 37 4<|WX.nilRow 53 3 ?_
    obtain rfl:=oJ h
    refine Lh Tryz.results12 (.agg U y5q U (yk .h2)<|.tmp U .nil)<|fun w hw=>?_
    exact⟨none,0,none,0,y1R U U,trivial,hw.sub (.s2 .h1 .here)⟩
   ·replace h:=yr h zCZ
    refine WC.skip<|Lb<|WC.b<|Ld (Lg 45 (y3r (fun x=>Value.agg (e94 x).toArray)<|Value.int .i64) fun zLL _=>La U<|WL.nil<|Lb<|WC.b<|Ld (Lg 13 (yv (cs:=[vn,vn]) y6P U) fun zsW _=>WL.nil<|Lb ?_))
    obtain⟨zdo,z11d,h⟩:=y12 h
    let D:Value:=(.slice zsJ z6D.length zsK);refine Kc (fun(zbh:List S36) (zfP:Option Addr) (zfQ:Nat)=>(zdo zbh=some r)) (fun zbh zfP zfQ=>[(2,D),(3,(vp zsU)),(6,(vp zsV)),(13,(vp zsW))]) (fun zbh zfP zfQ=>[stb zsU 31 A,stb zsV 40 [vn,vn],stb zsW 40 [(.slice zfP zbh.length zfQ),vn],row (.slice zfP zbh.length zfQ) 37 4 (zbh.flatMap e37)]) ?_ ?_
    ·skip
     let C:Value:=(.slice zLJ z2p.1.length zLK);refine WC.b (Ld (La U (Le 47 (yI Tryz.underlying33 U) (La U (WL.nil (Lb (WC.block (WC.nilRow 37 4 (WC.y8m (fun(zln:Nat) (z32:Int) (z9f:List (z8×Int)) (z4V:List S36) (zi0:Option Addr) (zi1:Nat)=>(y3b z2p z12 z6D zdo zln z32 z9f z4V=some r)) (fun zln z32 z9f z4V zi0 zi1=>[(2,D),(3,(vp zsU)),(6,(vp zsV)),(12,(.map (some zLL))),(13,(vp zsW)),(46,C),(47,(vi ((z2p.1.length:Nat):Int))),(48,(vi z32))]) (fun zln z32 z9f z4V zi0 zi1=>[row C 37 4 (z2p.1.flatMap e37),stb zsU 31 A,stb zsV 40 [vn,vn],yp zLL (fun x=>Value.agg (e94 x).toArray) (Value.int .i64) z9f,stb zsW 40 [(.slice zi0 z4V.length zi1),vn],row (.slice zi0 z4V.length zi1) 37 4 (z4V.flatMap e37)]) (fun zln z32 z9f z4V zi0 zi1=>zln) ⟨yx,0,([]:List (z8×Int)),([]:List S36),none,0⟩ h (.r8 U U U U U U U U) (.s6 .h6 .h7 .h6 .h2 .h1 .here) ?_)))))))))
     rintro zln z32 z9f z4V zi0 zi1 h
     obtain⟨zCU,rfl⟩:=y9V h
     rw[y3b] at h
     refine WC.b<|Ld<|La U<|WL.nil<|Lb<|WC.b<|WC.cond U (fun zD0=>?_)<|fun zD0=>?_
     ·replace h:=yq h zD0
      refine WC.skip<|Lb<|WC.b<|WC.block<|WC.b ?_
      obtain⟨zpl,h⟩:=yn h
      refine Ld<|Kd (fun w hw=>Hp.y1T .here hw (by intro hz';have:=zpl;rw[hz'] at this;omega)) ?_
      rintro⟨z1aN,rfl⟩
      refine Le 50 (yS y5A U U zpl.1 zpl.2 y2L)<|Le 51 (yU (cs:=(e37<|nth z2p.1 z32)) y6y U U<|y3z .here<|y2x (enc:=e37) (l:=z2p.1) (i:=z32) (sz:=4) (fun _=>U) zpl.1 zpl.2) (Lg 15 (yv (cs:=[(vi 0),(vi 0),(vi 0),(vi 0)]) y7D U) fun z1aO _=>Lk U U (yl y7T U U U .here U U U)<|WL.nil<|Lb<|WC.b<|Ld<|Le 52 (ya y6z U U)<|Le 53 (yc ys U<|yh .here U)<|Le 54 (ya y7U U U)<|Le 55 (yc ys U<|yh .here U)<|Le 56 (yL (v:=(.agg #[(vi<|(nth z2p.1 z32).fNode),(vi<|(nth z2p.1 z32).fQ)])) (Lo (l:=[.tmp 53,.tmp 55]) (.r2 U U) [0,1]) (fun _=>by kernel_rfl)) (Lg 16 (yv (cs:=[(vi 0),(vi 0)]) zeroT_94 U) fun z1aP _=>Lk U U (yl sizT_94 U U U .here U U U)<|WL.nil<|Lb<|WC.b ?_))
      obtain⟨z8w,z11e,h⟩:=za h
      refine Ld<|Le 58 (yi y1E U (yk .h3) U)<|La U<|Le 60 (yi ydg U (yk .here) U)<|La U<|Ll 62 (zb Tryz.call25<|.r4 U U U U) (.cons .h5 .nil) (cc hz (.cons .h5 .nil) fun w pz ho=>yey z11e w pz zsL zsM zsN zsO zsP zsQ zsR zsS zsT ho)<|La U<|La U<|La U (Lg 17 (yv (cs:=[(vi 0),(vi 0),(vi 0),(vi 0)]) y7D U) fun z1aQ _=>Lk U U (yl y7T U U U .here U U U)<|La U<|WL.nil<|Lb<|WC.b<|WC.b<|Ld<|La U<|La U<|WL.nil<|Lb<|WC.cond U (fun zD1=>?_)<|fun zD1=>?_)
      ·replace h:=yq h zD1
       refine WC.b<|Ld<|Le 67 (yL (v:=(.agg #[vn,vn])) (Lo (l:=[]) .nil []) (fun _=>by kernel_rfl))<|La U<|Lk U U (yl y5b U U U .h6 U U U)<|La U<|WL.nil<|Lb<|WC.ret<|Li<|Lq<|Li<|Li<|Lq<|Li<|WX.nilRow 37 4<|WX.nilRow 53 3 ?_
       obtain rfl:=oJ h
       refine Lh Tryz.results12 (.agg U y5q U (yk .h2)<|.tmp U .nil)<|fun w hw=>?_
       exact⟨none,0,none,0,y1R U U,trivial,hw.sub (.s2 .h1 .here)⟩
      ·replace h:=yr h zD1
       refine WC.skip<|Lb<|WC.b<|Ld<|La U<|Le 70 (yi ydg U (yk .h2) U)<|Le 71 (ya y9i U U)<|Le 72 (yc ys U<|yh .here U)<|Lk U U (y3U (k:=(⟨((nth z2p.1 z32).fNode),((nth z2p.1 z32).fQ)⟩:z8)) (v:=z8w.1.fDelay) yf2 Tryz.underlying92 U U U U .h1)<|WL.nil<|Lb ?_
       obtain⟨z11f,h⟩:=yn h
       refine Ld<|Le 73 (ya y4Z U U)<|Le 74 (yc y50 U<|yh .h7 U)<|Le 75 (yi y6y U (yk .h1) U) (Lg 76 (yM (cs:=([z8w.1]:List S36).flatMap e37) y5A (Lo (l:=[.tmp 75]) (.cons U .nil) [0]) (fun _=>by kernel_rfl) U (by unfold maxLen;omega)) fun z1aR _=>WL.fA 77 (y52 (enc:=e37) (l1:=z4V) (l2:=([z8w.1]:List S36)) y5A U U (.there<|.there .h7) (fun _=>U) U U (y3t .here) (y5o yem _) z11f) ?_)
       rintro⟨zLM,zLN⟩ _
       refine Le 78 (ya y4Z U U)<|Lk U U (y4r (ds:=[(.slice zLM ((z4V++([z8w.1]:List S36)).length) zLN),vn]) yht U U U U U (.there<|.there .h7) U U)<|WL.nil<|Lt<|Lb<|Ld<|La U<|La U<|WL.nil ?_
       exact WX.round ⟨zCU,(i64 (z32+1)),(yF z9f (⟨((nth z2p.1 z32).fNode),((nth z2p.1 z32).fQ)⟩:z8) z8w.1.fDelay),(z4V++([z8w.1]:List S36)),zLM,zLN⟩ h (Nat.lt_succ_self _) (.r8 U U U U U U U U)<|.s6 .h7 .h7 .h7 .h3 .here .here
     ·replace h:=yr h zD0
      refine WC.exit<|Lm<|Lm<|Lu ?_
      exact Ln ⟨z4V,zi0,zi1⟩ h (.r4 U U U U)<|.s4 .h1 .h1 .h2 .h2
    ·rintro zbh zfP zfQ h
     replace h:=(z11d zbh).symm.trans h
     refine WC.b ?_
     obtain⟨zp4,z11g,h⟩:=za h
     refine Ld<|Le 80 (ya y4Z U U)<|Le 81 (yc y50 U<|yh .h2 U)<|WL.y5j (dd:=82) U U U (zb Tryz.call26<|.r2 U U) (.cons .h3 .nil) (cc hz (.cons .h3 .nil) fun w pz ho=>y4e _ _ _ (zhH:=27) (zoH:=[]) _ (zhG:=(fun(y0:S36) (y1:S36)=>y13 y0 y1)) _ z11g w pz Tryz.call27 (fun w' hz' y0 y1  r  hr=>ybW hr w' hz' ) ho) ?_
     rintro  z11h
     refine WL.restb (cs':=[(.slice zfP zp4.length zfQ),vn]) .h3 (by rw[z11h])<|WL.nil<|Lb<|WC.b ?_
     obtain⟨zCW,z11i,h⟩:=za h
     refine Ld<|Le 83 (yi y1E U (yk .h2) U)<|La U<|Le 85 (ya y4Z U U)<|Le 86 (yc y50 U<|yh .here U)<|WL.y49 (dd:=87) U U U (zb Tryz.call28<|.r3 U U U) .nil (ccl hz .nil (.cons .h1 .nil) fun w pz ho la=>ycS z11i w pz ((zsL.mono<|Zle.left _ _).weak (fun _ _ h=>y1a (Zle.left _ _) h)) ((zsM.mono<|Zle.left _ _).weak (fun _ _ h=>y1i (Zle.left _ _) h)) (zsN.mono<|Zle.left _ _) (zsO.mono<|Zle.left _ _) ((zsP.mono<|Zle.left _ _).weak (fun _ _ h=>y15 (Zle.left _ _) h)) (zsQ.mono<|Zle.left _ _) ((zsR.mono<|Zle.left _ _).weak (fun _ _ h=>y1j (Zle.left _ _) h)) (zsS.mono<|Zle.left _ _) ((zsT.mono<|Zle.left _ _).weak (fun _ _ h=>y1t (Zle.left _ _) h))<|ZA.row (la _ (.head _) _) (RR.flat (enc:=e37) (fun _=>U) _) ⟨w,pz.1⟩) ?_
     rintro zLO zLP _
     refine Le 88 (ya y7V U U)<|Lk U U (y4r (ds:=[(.slice zfP zp4.length zfQ),(.slice zLO zCW.length zLP)]) yhu U U U U U .h1 U U)<|WL.nil<|Lb<|WC.b<|Ld<|Le 89 (yi y5q U (yk .here) U)<|Lk U U (yl y5b U U U .h4 U U U)<|La U<|WL.nil<|Lb<|WC.ret ?_
     obtain rfl:=oJ h
     refine Lh Tryz.results12 (.agg U y5q U (yk .here)<|.tmp U .nil)<|fun w hw=>?_
     exact⟨zfP,zfQ,zLO,zLP,y1R U U,trivial,hw.sub (.s2 .h3 .h2)⟩
def y2R(zlo:List S36):Option (List S36):=
 some zlo
theorem y6h{Z:Zp}{zsX:Option Addr}{zsY:Nat}{zlo:List S36}{r:List S36}(h:y2R zlo=some r)(w₀:World)(hz:PZ [] w₀ Z)(z11j:ZS Z 4 (fun r x=>r=e37 x) zsX zsY zlo):
  Calls Tryz.prog 70 #[(.slice zsX zlo.length zsY)] w₀ fun e w'=>∃ zLQ:Nat,∃ zLR:Option Addr,∃ zLS:Nat,e = .returned (.func (.func 113) #[] #[(vp zLQ)])∧(ZS Z 4 (fun r x=>r=e37 x) zLR zLS r)∧Hp [] w₀ w' [stb zLQ 33 [(.slice zLR r.length zLS)]]:=by
 unfold y2R at h
 refine L5 Tryz.func70 Tryz.ntmps70 ?_
 refine WC.b<|Ld (Lg 1 (yH (cs:=[(.slice zsX zlo.length zsY)]) U U) fun z11k _=>La U<|WL.nil<|Lb<|WC.b<|Ld<|Le 3 (y14<|L2 (l:=[.tmp 1])<|.cons U .nil)<|La U<|WL.nil<|Lb<|WC.ret ?_)
 obtain rfl:=oJ h
 refine Lh Tryz.results70 (.tmp U .nil)<|fun w hw=>?_
 exact⟨z11k,zsX,zsY,yC U,z11j,hw.sub (.cons .here .nil)⟩
def y1f(z1Z:Type)(z3X:List S36)(z9W:(Int×S36)→z1Z→Option (Bool×z1Z))(zdp:z1Z→Option z1Z):Nat→Int→z1Z→Option z1Z
 | 0,_,_=>none
 | zD2+1,z3m,z6E=>if decide (z3m≥0) then chk ((0:Int)≤z3m∧z3m<((z3X.length:Nat):Int)) ((z9W (z3m,(⟨((nth z3X z3m).fNode),((nth z3X z3m).fQ),((nth z3X z3m).fDelay),((nth z3X z3m).fT)⟩:S36)) z6E).bind fun zi2=>if !zi2.1 then some zi2.2 else y1f z1Z z3X z9W zdp zD2 (i64 (z3m-1)) zi2.2) else zdp z6E
theorem y5i{n:Nat}{z1Z:Type}{z3X:List S36}{z9W:(Int×S36)→z1Z→Option (Bool×z1Z)}{zdp:z1Z→Option z1Z}{z3m:Int}{z6E:z1Z}{r:z1Z}(h:y1f z1Z z3X z9W zdp n z3m z6E=some r):∃ m,n=m+1:=by
 cases n with
 | zero=>cases h
 | succ m=>exact⟨m,rfl⟩
def y2z(z1Z:Type)(z9W:(Int×S36)→z1Z→Option (Bool×z1Z))(s0_88407:z1Z)(z3X:List S36):Option z1Z:=
 jp1 (fun(zdq:z1Z)=>some zdq) fun zdp=>y1f z1Z z3X z9W zdp yx (i64 (((z3X.length:Nat):Int)-1)) s0_88407
theorem y5T(Z:Zp)(z1Z:Type)(zsZ:Nat)(zfR:Type)(z9X:zfR→z1Z→Asrt)(zlp:zfR→z1Z→Prop)(zi3:zfR)(zt0:Addr)(zD3:Option Addr)(zD4:Nat)(z9W:(Int×S36)→z1Z→Option (Bool×z1Z))(s0_88407:z1Z)(z3X:List S36)(r:z1Z)(w₀:World)(hz:PZ (fps [z9X zi3 s0_88407]) w₀ Z)(z11l:ybf Tryz.prog Z zsZ (α:=Int×S36) (σ:=z1Z) (G:=zfR) (H:=Unit) (fun h x=>[(vi x.1),(.agg #[(vi x.2.fNode),(vi x.2.fQ),(vi x.2.fDelay),(vi x.2.fT)])]) (fun h x=>[]) z9W z9X zlp)(z11m:zlp zi3 s0_88407)(z11n:ZS Z 4 (fun r x=>r=e37 x) zD3 zD4 z3X)(zLT:ZC Z zt0 [(.slice zD3 z3X.length zD4)])(h:y2z z1Z z9W s0_88407 z3X=some r)(hown:Hp (fps [z9X zi3 s0_88407]) w₀ w₀ [z9X zi3 s0_88407]):
  Calls Tryz.prog 113 #[(.func (.yield zsZ) #[] #[]),(vq zt0)] w₀ fun e w'=>∃ zLU:zfR,e = .returned (.tuple #[])∧(zlp zLU r)∧Hp (fps [z9X zi3 s0_88407]) w₀ w' [z9X zLU r]:=by
 unfold y2z at h
 refine Kh Tryz.func113 Tryz.ntmps113 hown ?_
 refine WC.b<|Ld<|Le 4 (yc y50 U<|y3C hz.pv zLT U)<|Le 5 (yI Tryz.underlying33 U)<|La U<|La U<|WL.nil<|Lb ?_
 obtain⟨zdp,z11o,h⟩:=y12 h
 refine WC.y78 (fun(zdq:z1Z) (zlq:zfR)=>(zdp zdq=some r)∧(zlp zlq zdq)) (fun zdq zlq=>[]) (fun zdq zlq=>[z9X zlq zdq]) ?_ ?_
 ·skip
  refine WC.block<|WC.y4P (fun(zlr:Nat) (z3m:Int) (z6E:z1Z) (zbi:zfR)=>(y1f z1Z z3X z9W zdp zlr z3m z6E=some r)∧(zlp zbi z6E)) (fun zlr z3m z6E zbi=>[(0,(.func (.yield zsZ) #[] #[])),(1,(vq zt0)),(3,(vi z3m))]) (fun zlr z3m z6E zbi=>[z9X zbi z6E]) (fun zlr z3m z6E zbi=>zlr) ⟨yx,(i64 (((z3X.length:Nat):Int)-1)),s0_88407,zi3⟩ ⟨h,z11m⟩ (.r3 U U U) (.cons .here .nil) ?_
  rintro zlr z3m z6E zbi ⟨h,zLV⟩
  obtain⟨zD2,rfl⟩:=y5i h
  rw[y1f] at h
  refine WC.b<|WC.b<|Ld<|La U<|La U<|WL.nil<|Lb<|WC.cond U (fun zD5=>?_)<|fun zD5=>?_
  ·replace h:=yq h zD5
   refine WC.skip<|Lb<|WC.b<|WC.block<|WC.b ?_
   obtain⟨z11p,h⟩:=yn h
   obtain⟨zi2,z11q,h⟩:=za h
   refine Ld<|La U<|La U<|Le 13 (yc y50 U<|y3C hz.pv zLT U)<|La U<|L0 (dd:=15) U U (Z:=Z) (Pr:=(fun r x=>r=e37 x)) y5A U U z11n z11p ?_
   rintro z1aS z1aT z11r z1aU rfl
   refine Le 16 (yi y6y U (y2l hz.pv z11r) U) (WL.yield (dd:=17) (x:=(z3m,(⟨((nth z3X z3m).fNode),((nth z3X z3m).fQ),((nth z3X z3m).fDelay),((nth z3X z3m).fT)⟩:S36))) (h:=()) (g:=zbi) (s:=z6E) (b:=zi2.1) (s':=zi2.2) z11l U U U (.r2 U U) ((.cons .here .nil):Sel _ [z9X zbi z6E] _) z11q zLV (fun w hw=>hz.call hw ((.cons .here .nil):Sel _ [z9X zbi z6E] _)) fun zLW zLX=>La U<|WL.nil<|Lb<|WC.cond U (fun zD6=>?_)<|fun zD6=>?_)
   ·replace h:=yq h zD6
    refine WC.ret<|Lq<|Li<|Li<|Lq<|Li ?_
    obtain rfl:=oJ h
    refine Lh Tryz.results113 .nil<|fun w hw=>?_
    exact⟨zLW,y7v,zLX,hw.sub (.cons .here .nil)⟩
   ·replace h:=yr h zD6
    refine WC.skip<|Lt<|Lb<|Ld<|La U<|La U<|La U<|WL.nil ?_
    exact WX.round ⟨zD2,(i64 (z3m-1)),zi2.2,zLW⟩ ⟨h,zLX⟩ (Nat.lt_succ_self _) (.r3 U U U)<|.cons .here .nil
  ·replace h:=yr h zD5
   refine WC.exit<|Lm<|Lm<|Lu ?_
   exact Ln ⟨z6E,zbi⟩ ⟨h,zLV⟩ .nil<|.cons .here .nil
 ·rintro zdq zlq ⟨h,z11s⟩
  replace h:=(z11o zdq).symm.trans h
  obtain rfl:=oJ h
  refine WX.y5f Tryz.results113 .nil<|fun w hw=>?_
  exact⟨zlq,y7v,z11s,hw.sub (.cons .here .nil)⟩
def y5Q(z5q:Int×S36)(zpm:List (z8×Int)):Option (Bool×(Nat×(List (z8×Int)))):=
 some (true,(0,(yF zpm (⟨z5q.2.fNode,z5q.2.fQ⟩:z8) z5q.2.fDelay)))
def y8t(zi4:List S36):Option (List (z8×Int)):=
 jp1 (fun(zfS:List (z8×Int))=>some zfS) fun zD7=>(y2R zi4).bind fun z4W=>(y2z (Nat×(List (z8×Int))) (fun(x:Int×S36) (s:Nat×(List (z8×Int)))=>chk (s.1=0) (y5Q x s.2)) (0,([]:List (z8×Int))) z4W).bind fun z9Y=>zD7 z9Y.2
theorem ye0{Z:Zp}{zt1:Option Addr}{zt2:Nat}{zi4:List S36}{r:(List (z8×Int))}(h:y8t zi4=some r)(w₀:World)(hz:PZ [] w₀ Z)(z11t:ZS Z 4 (fun r x=>r=e37 x) zt1 zt2 zi4):
  Calls Tryz.prog 36 #[(.slice zt1 zi4.length zt2)] w₀ fun e w'=>∃ zLY:Nat,e = .returned (.map (some zLY))∧True∧Hp [] w₀ w' [yp zLY (fun x=>Value.agg (e94 x).toArray) (Value.int .i64) r]:=by
 unfold y8t at h
 let C:Value:=(.slice zt1 zi4.length zt2);refine Calls.y9t (vs:=[C]) (pre:=[]) (env:=[(0,C)]) Tryz.func36 U Tryz.ntmps36 U (Hp.nil w₀ _) U ?_
 refine WC.b<|Ld<|La U<|WL.nil<|Lb<|WC.b<|Ld (Lg 6 (y3r (fun x=>Value.agg (e94 x).toArray)<|Value.int .i64) fun z1Q _=>Lg 3 (yv (cs:=[(.map none)]) zeroT_92 U) fun z4z _=>Lk U U (yl sizT_92 U U U .here U U U)<|WL.nil<|Lb ?_)
 obtain⟨zD7,z11u,h⟩:=y12 h
 refine WC.yh0 (fun(zpn:Nat) (zfS:List (z8×Int))=>(zD7 zfS=some r)) (fun(zpn:Nat) (zfS:List (z8×Int))=>[(3,(vp z4z))]) (fun(zpn:Nat) (zfS:List (z8×Int))=>[stb z4z 92 [(.map<|some z1Q)],yp z1Q (fun x=>Value.agg (e94 x).toArray) (Value.int .i64) zfS,dfr zpn]) ?_ ?_
 ·skip
  refine WC.b ?_
  obtain⟨z4W,z11v,h⟩:=za h
  refine Ld<|La U<|WL.yfj (dd:=8) U U U (zb Tryz.call70<|.cons U .nil) .nil (cc hz .nil fun w pz ho=>y6h z11v w pz z11t) ?_
  rintro z5r z64 z65 z11w
  refine WL.nil<|Lb<|WC.block<|WC.drop (.s3 .h1 .h1 .here)<|WC.rangeFunc (f:=113) (caps:=[(vp z5r)]) U Tryz.call113 ?_
  intro z1aV z1aW z5s z7Y z6F zD8 z11x z11y w hw
  have hw1:=hw.selAll ((.s3 .h2 .h2 .here):Sel _ [stb z4z 92 [(.map (some z1Q))],yp z1Q (fun x=>Value.agg (e94 x).toArray) (Value.int .i64) ([]:List (z8×Int)),blk z5s (z6F .ready none)] _)
  let A:List Value:=[(.slice z64 z4W.length z65)];have pz:=(hz.call hw1 ((.cons .here .nil):Sel [y1L [stb z4z 92 [(.map (some z1Q))],yp z1Q (fun x=>Value.agg (e94 x).toArray) (Value.int .i64) ([]:List (z8×Int)),blk z5s (z6F .ready none)],dfr z7Y,stb z5r 33 A] [y1L [stb z4z 92 [(.map (some z1Q))],yp z1Q (fun x=>Value.agg (e94 x).toArray) (Value.int .i64) ([]:List (z8×Int)),blk z5s (z6F .ready none)]] [dfr z7Y,stb z5r 33 A])).lend hw1 ((.cons .here .nil):Sel [y1L [stb z4z 92 [(.map (some z1Q))],yp z1Q (fun x=>Value.agg (e94 x).toArray) (Value.int .i64) ([]:List (z8×Int)),blk z5s (z6F .ready none)],dfr z7Y,stb z5r 33 A] [y1L [stb z4z 92 [(.map (some z1Q))],yp z1Q (fun x=>Value.agg (e94 x).toArray) (Value.int .i64) ([]:List (z8×Int)),blk z5s (z6F .ready none)]] [dfr z7Y,stb z5r 33 A]) (B:=[stb z5r 33 A]) (fun _ hx'=>((.cons .h1 .nil):Sel _ [stb z5r 33 A] _).mem hx')
  obtain⟨z9Y,z11z,h⟩:=za h
  refine Calls.mono (y5T (Z:=_) (zsZ:=z5s) (zfR:=Unit) (z9X:=(fun(g:Unit) (s:Nat×(List (z8×Int)))=>y1L ([stb z4z 92 [(.map<|some z1Q)],yp z1Q (fun x=>Value.agg (e94 x).toArray) (Value.int .i64) s.2]++[blk z5s (z6F (rdy<|pcs [] s.1)<|pcs [] s.1)]))) (zlp:=(fun(g:Unit) (s:Nat×(List (z8×Int)))=>True)) (zi3:=()) (zt0:=⟨z5r,0,none⟩) (zD3:=z64) (zD4:=z65) (z1Z:=(Nat×(List (z8×Int)))) (z9W:=(fun(x:Int×S36) (s:Nat×(List (z8×Int)))=>chk (s.1=0)<|y5Q x s.2)) (s0_88407:=(0,([]:List (z8×Int)))) (z3X:=z4W) (r:=z9Y) w pz ?_ trivial (z11w.mono<|Zle.left _ _) ((hw1.lent ((.cons .here .nil):Sel [y1L [stb z4z 92 [(.map<|some z1Q)],yp z1Q (fun x=>Value.agg (e94 x).toArray) (Value.int .i64) ([]:List (z8×Int)),blk z5s (z6F .ready none)],dfr z7Y,stb z5r 33 A] [y1L [stb z4z 92 [(.map<|some z1Q)],yp z1Q (fun x=>Value.agg (e94 x).toArray) (Value.int .i64) ([]:List (z8×Int)),blk z5s (z6F .ready none)]] [dfr z7Y,stb z5r 33 A]) (B:=[stb z5r 33 A]) (fun _ hx'=>((.cons .h1 .nil):Sel _ [stb z5r 33 A] _).mem hx') (.head _) _).stb) z11z<|hw1.owns ((.cons .here .nil):Sel [y1L [stb z4z 92 [(.map<|some z1Q)],yp z1Q (fun x=>Value.agg (e94 x).toArray) (Value.int .i64) ([]:List (z8×Int)),blk z5s (z6F .ready none)],dfr z7Y,stb z5r 33 A] [y1L [stb z4z 92 [(.map<|some z1Q)],yp z1Q (fun x=>Value.agg (e94 x).toArray) (Value.int .i64) ([]:List (z8×Int)),blk z5s (z6F .ready none)]] [dfr z7Y,stb z5r 33 A])) ?_
  ·skip
   refine yaW (LI:=(fun(g:Unit) (s:Nat×(List (z8×Int)))=>[stb z4z 92 [(.map<|some z1Q)],yp z1Q (fun x=>Value.agg (e94 x).toArray) (Value.int .i64) s.2])) (pc:=(fun(s:Nat×(List (z8×Int)))=>pcs [] s.1)) zD8 z11x z11y (fun _ _=>U) (by decide) ?_
   rintro z5q _ _ ⟨z11A,zpm⟩ z11B z11C Fb wb zLZ _ hz
   replace hz:=hz.left
   letI:Rnd:=inR z5s
   obtain⟨hp0,zt3⟩:=yn zLZ
   replace hp0:z11A=0:=hp0;subst hp0;clear zLZ
   replace zt3:y5Q z5q zpm=some (z11B,z11C):=zt3
   unfold y5Q at zt3
   refine WC.restr (env':=[(3,(vp z4z)),(9,(vi z5q.1)),(10,(.agg #[(vi z5q.2.fNode),(vi z5q.2.fQ),(vi z5q.2.fDelay),(vi z5q.2.fT)]))]) (.r3 U U U)<|WC.eqL (L':=[stb z4z 92 [(.map<|some z1Q)],yp z1Q (fun x=>Value.agg (e94 x).toArray) (Value.int .i64) zpm,blk z5s (z6F .ready none)]) U<|Ld (Lg 5 (yv (cs:=[(vi 0),(vi 0),(vi 0),(vi 0)]) y7D U) fun z1aX _=>Lk U U (yl y7T U U U .here U U U)<|WL.nil<|WX.ybH zD8 .h3<|WC.block<|Ld<|Le 11 (yc yhx U<|yh .h2 U)<|Le 12 (ya y6z U U)<|Le 13 (yc ys U<|yh .h1 U)<|Le 14 (ya y7U U U)<|Le 15 (yc ys U<|yh .h1 U)<|Le 16 (yL (v:=(.agg #[(vi z5q.2.fNode),(vi z5q.2.fQ)])) (Lo (l:=[.tmp 13,.tmp 15]) (.r2 U U) [0,1]) (fun _=>by kernel_rfl))<|Le 17 (ya y9i U U)<|Le 18 (yc ys U<|yh .h1 U)<|Lk U U (y3U (k:=(⟨z5q.2.fNode,z5q.2.fQ⟩:z8)) (v:=z5q.2.fDelay) yf2 Tryz.underlying92 U U U U .h3)<|WL.nil<|Lt ?_)
   obtain⟨rfl,rfl⟩:=yao zt3
   exact WX.y6O zD8 .h1<|fun w' hw'=>⟨(),U,trivial,(hw'.selAll ((.s3 .h3 .h1 .here):Sel _ [stb z4z 92 [(.map<|some z1Q)],yp z1Q (fun x=>Value.agg (e94 x).toArray) (Value.int .i64) (yF zpm (⟨z5q.2.fNode,z5q.2.fQ⟩:z8) z5q.2.fDelay),blk z5s (z6F .ready none)] _)).sub (.cons .here .nil)⟩
  ·skip
   rintro _ w' ⟨_,rfl,_,hp⟩
   have hp1:=hw1.call ((.cons .here .nil):Sel [y1L [stb z4z 92 [(.map (some z1Q))],yp z1Q (fun x=>Value.agg (e94 x).toArray) (Value.int .i64) ([]:List (z8×Int)),blk z5s (z6F .ready none)],dfr z7Y,stb z5r 33 A] [y1L [stb z4z 92 [(.map (some z1Q))],yp z1Q (fun x=>Value.agg (e94 x).toArray) (Value.int .i64) ([]:List (z8×Int)),blk z5s (z6F .ready none)]] [dfr z7Y,stb z5r 33 A]) hp
   have hp2:Hp _ _ w' [stb z4z 92 [(.map (some z1Q))],yp z1Q (fun x=>Value.agg (e94 x).toArray) (Value.int .i64) z9Y.2,blk z5s (z6F (rdy (pcs [] z9Y.1)) (pcs [] z9Y.1)),dfr z7Y,stb z5r 33 A]:=hp1.pickAll .here
   refine⟨_,pcs [] z9Y.1,_,U,(hp2.sub ((.s5 .h2 .here .here .here .here):Sel _ [blk z5s (z6F (rdy (pcs [] z9Y.1)) (pcs [] z9Y.1)),stb z4z 92 [(.map (some z1Q))],yp z1Q (fun x=>Value.agg (e94 x).toArray) (Value.int .i64) z9Y.2,dfr z7Y,stb z5r 33 A] _)),?_⟩
   clear hp hp1 hp2 pz hw hw1
   refine wjN ?_
   letI:Rnd:=aft z7Y
   refine Lt ?_
   exact WX.midR (D:=fun(g:Nat×(List (z8×Int)))=>g.1) (G:=Nat×(List (z8×Int))) ⟨z7Y,z9Y.2⟩ h (.cons U .nil)<|.a3
 ·rintro zpn zfS h
  replace h:=(z11u zfS).symm.trans h
  letI:Rnd:=aft zpn
  refine WC.b<|Ld<|Le 19 (yc yhx U<|yh .here U)<|La U<|WL.nil<|Lb<|WC.ret ?_
  obtain rfl:=oJ h
  refine WX.y7A .h2 Tryz.results36 (.tmp U .nil)<|fun w hw=>?_
  exact⟨z1Q,yC U,trivial,hw.sub (.cons .h2 .nil)⟩
def y4J(z67:List (List zd))(z1p:zp)(zdr:(List (z8×Int)))(zds:(List (List Int))→Option (List (List Int))):Nat→(List (List Int))→Int→Option (List (List Int))
 | 0,_,_=>none
 | zD9+1,z4X,z7u=>if decide (z7u<((z67.length:Nat):Int)) then chk ((0:Int)≤z7u∧z7u<((z67.length:Nat):Int)) ((y4H z1p (nth z67 z7u) zdr).bind fun z7v=>chk ((((z4X++([z7v]:List (List Int))).length:Nat):Int)*24≤140737488355328∧(((z4X++([z7v]:List (List Int))).length:Nat):Int)≤4611686018427387904) (y4J z67 z1p zdr zds zD9 (z4X++([z7v]:List (List Int))) (i64 (z7u+1)))) else zds z4X
theorem y9W{n:Nat}{z67:List (List zd)}{z1p:zp}{zdr:(List (z8×Int))}{zds:(List (List Int))→Option (List (List Int))}{z4X:List (List Int)}{z7u:Int}{r:List (List Int)}(h:y4J z67 z1p zdr zds n z4X z7u=some r):∃ m,n=m+1:=by
 cases n with
 | zero=>cases h
 | succ m=>exact⟨m,rfl⟩
def y7K(z1p:zp)(z67:List (List zd))(zpo:List S36):Option (List (List Int)):=
 (y4b z1p 0 z67).bind fun zM0=>(if !zM0 then(y4b z1p 1 z67).bind fun zM1=>some (!zM1) else some false).bind fun zDa=>if zDa then some ([]:List (List Int)) else(y8t zpo).bind fun zdr=>jp1 (fun(zbj:List (List Int))=>some zbj) fun zds=>y4J z67 z1p zdr zds yx ([]:List (List Int)) 0
theorem ycT{Z:Zp}{zt4:Option Addr}{zt5:Nat}{zt6:Option Addr}{zt7:Nat}{zt8:Option Addr}{zt9:Nat}{zta:Option Addr}{ztb:Nat}{ztc:Option Addr}{ztd:Nat}{zte:Option Addr}{ztf:Nat}{ztg:Option Addr}{zth:Nat}{zti:Option Addr}{ztj:Nat}{zDb:Option Addr}{zDc:Nat}{zM2:Option Addr}{zM3:Nat}{z1p:zp}{z67:List (List zd)}{zpo:List S36}{r:List (List Int)}(h:y7K z1p z67 zpo=some r)(w₀:World)(hz:PZ [] w₀ Z)(zDd:ZS Z 4 (y3y Z) zt4 zt5 z1p.fM)(zDe:ZS Z 4 (y4k Z) zt6 zt7 z1p.fC0)(zDf:ZS Z 4 (fun r x=>r=e64 x) zt8 zt9 z1p.fS)(zDg:ZS Z 4 (fun r x=>r=e62 x) zta ztb z1p.fK)(zDh:ZS Z 7 (p69 Z) ztc ztd z1p.fVLs)(zDi:ZS Z 5 (fun r x=>r=y4t x) zte ztf z1p.fH)(zDj:ZS Z 3 (y4l Z) ztg zth z1p.fU)(zDk:ZS Z 4 (fun r x=>r=y4u x) zti ztj z1p.fV0)(zDl:ZS Z 1 (p58 Z) zDb zDc z67)(z11D:ZS Z 4 (fun r x=>r=e37 x) zM2 zM3 zpo):
  Calls Tryz.prog 14 #[(.agg #[(.slice zt4 z1p.fM.length zt5),(.slice zt6 z1p.fC0.length zt7),(.slice zt8 z1p.fS.length zt9),(.slice zta z1p.fK.length ztb),(.slice ztc z1p.fVLs.length ztd),(.slice zte z1p.fH.length ztf),(.slice ztg z1p.fU.length zth),(.slice zti z1p.fV0.length ztj)]),(.slice zDb z67.length zDc),(.slice zM2 zpo.length zM3)] w₀ fun e w'=>∃ Zn:Zp,∃ zM4:Option Addr,∃ zM5:Nat,∃ zM6:List Value,e = .returned (.slice zM4 r.length zM5)∧(RR 1 (p50 (Z++Zn)) zM6 r)∧Hp [] w₀ w' [fz Zn,row (.slice zM4 r.length zM5) 50 1 zM6]:=by
 unfold y7K at h
 refine Ke Tryz.func14 Tryz.ntmps14 ?_
 let A:List Value:=[(.slice zt4 z1p.fM.length zt5),(.slice zt6 z1p.fC0.length zt7),(.slice zt8 z1p.fS.length zt9),(.slice zta z1p.fK.length ztb),(.slice ztc z1p.fVLs.length ztd),(.slice zte z1p.fH.length ztf),(.slice ztg z1p.fU.length zth),(.slice zti z1p.fV0.length ztj)];refine WC.pool (WC.b (Ld (Lg 3 (yH (cs:=A) U U) ?_)))
 intro zM7 _
 refine La U<|WL.nil<|Lb<|WC.b<|WC.b ?_
 obtain⟨zM0,z11E,h⟩:=za h
 obtain⟨zDa,zM8,h⟩:=za h
 refine Ld<|Le 11 (yi y1E U (yk .here) U)<|La U<|Ll 13 (zb Tryz.call22<|.r3 U U U) .nil (ccz hz .nil .h1 fun w pz ho=>y7m z11E w pz ((zDd.mono<|Zle.left _ _).weak (fun _ _ h=>y1a (Zle.left _ _) h)) ((zDe.mono<|Zle.left _ _).weak (fun _ _ h=>y1i (Zle.left _ _) h)) (zDf.mono<|Zle.left _ _) (zDg.mono<|Zle.left _ _) ((zDh.mono<|Zle.left _ _).weak (fun _ _ h=>y15 (Zle.left _ _) h)) (zDi.mono<|Zle.left _ _) ((zDj.mono<|Zle.left _ _).weak (fun _ _ h=>y1j (Zle.left _ _) h)) (zDk.mono<|Zle.left _ _)<|(zDl.mono<|Zle.left _ _).weak (fun _ _ h=>y1t (Zle.left _ _) h))<|La U<|La U<|Lv true 4 15 (B:=zDa) U U U U U U (fun h=>(oJ<|yr zM8 h).symm) (fun _ z11F=>?_) ?_
 ·skip
  have zpp:=yq zM8 z11F
  obtain⟨zM1,z11G,zpp⟩:=za zpp
  replace zpp:=oJ zpp
  refine Le 16 (yi y1E U (yk .here) U)<|La U<|Ll 18 (zb Tryz.call22<|.r3 U U U) .nil (ccz hz .nil .h1 fun w pz ho=>y7m z11G w pz ((zDd.mono<|Zle.left _ _).weak (fun _ _ h=>y1a (Zle.left _ _) h)) ((zDe.mono<|Zle.left _ _).weak (fun _ _ h=>y1i (Zle.left _ _) h)) (zDf.mono<|Zle.left _ _) (zDg.mono<|Zle.left _ _) ((zDh.mono<|Zle.left _ _).weak (fun _ _ h=>y15 (Zle.left _ _) h)) (zDi.mono<|Zle.left _ _) ((zDj.mono<|Zle.left _ _).weak (fun _ _ h=>y1j (Zle.left _ _) h)) (zDk.mono<|Zle.left _ _)<|(zDl.mono<|Zle.left _ _).weak (fun _ _ h=>y1t (Zle.left _ _) h))<|La U<|La U ?_
  exact Lw zpp U U .all
 refine WL.nil<|Lb<|WC.cond U (fun zDm=>?_)<|fun zDm=>?_
 ·replace h:=yq h zDm
  refine WC.b<|Ld<|La U<|WL.nil<|Lb<|WC.ret<|Li<|WX.nilRow 50 1 ?_
  obtain rfl:=oJ h
  refine Lh Tryz.results14 (.tmp U .nil)<|fun w hw=>?_
  exact⟨[],none,0,[],yC U,(RR.nil _ _),hw.sub (.s2 .h2 .here)⟩
 ·replace h:=yr h zDm
  refine WC.skip<|Lb<|WC.b ?_
  obtain⟨zdr,z11H,h⟩:=za h
  refine Ld<|La U<|WL.ycu (dd:=22) U U U (zb Tryz.call36<|.cons U .nil) .nil (ccz hz .nil .h1 fun w pz ho=>ye0 z11H w pz<|z11D.mono<|Zle.left _ _) ?_
  rintro zM9 _
  refine La U<|WL.nil<|Lb<|WC.b<|Ld<|La U<|WL.nil<|Lb ?_
  obtain⟨zds,z11I,h⟩:=y12 h
  refine WC.ya3 (fun(zbj:List (List Int)) (zi5:Zp) (zls:Option Addr) (zlt:Nat) (zlu:List Value)=>(zds zbj=some r)∧(Zle (Z++[]) (Z++zi5))∧(RR 1 (p50 (Z++zi5)) zlu zbj)) (fun zbj zi5 zls zlt zlu=>[(8,(.slice zls zbj.length zlt))]) (fun zbj zi5 zls zlt zlu=>[fz zi5,row (.slice zls zbj.length zlt) 50 1 zlu]) ?_ ?_
  ·skip
   refine WC.b<|Ld<|La U<|Le 24 (yI Tryz.underlying32 U)<|La U<|WL.nil<|Lb<|WC.block<|WC.nilRow 50 1<|WC.yfV (fun(zlv:Nat) (z4X:List (List Int)) (z7u:Int) (zbk:Zp) (zi6:Option Addr) (zi7:Nat) (zdt:List Value)=>(y4J z67 z1p zdr zds zlv z4X z7u=some r)∧(Zle (Z++[]) (Z++zbk))∧(RR 1 (p50 (Z++zbk)) zdt z4X)) (fun zlv z4X z7u zbk zi6 zi7 zdt=>[(3,(vp zM7)),(7,(.map<|some zM9)),(8,(.slice zi6 z4X.length zi7)),(23,(.slice zDb z67.length zDc)),(24,(vi ((z67.length:Nat):Int))),(25,(vi z7u))]) (fun zlv z4X z7u zbk zi6 zi7 zdt=>[fz zbk,row (.slice zi6 z4X.length zi7) 50 1 zdt,stb zM7 31 A,yp zM9 (fun x=>Value.agg (e94 x).toArray) (Value.int .i64) zdr]) (fun zlv z4X z7u zbk zi6 zi7 zdt=>zlv) ⟨yx,([]:List (List Int)),0,[],none,0,[]⟩ ⟨h,(Zle.refl _),(RR.nil _ _)⟩ (.r6 U U U U U U) (.s4 .h3 .here .h1 .here) ?_
   rintro zlv z4X z7u zbk zi6 zi7 zdt ⟨h,z6G,zMa⟩
   obtain⟨zD9,rfl⟩:=y9W h
   rw[y4J] at h
   refine WC.b<|Ld<|La U<|WL.nil<|Lb<|WC.b<|WC.cond U (fun zDn=>?_)<|fun zDn=>?_
   ·replace h:=yq h zDn
    refine WC.skip<|Lb<|WC.b<|WC.block<|WC.b ?_
    obtain⟨z11J,h⟩:=yn h
    refine Ld<|L0 (dd:=27) U U (Z:=(Z++zbk)) (Pr:=(p58 (Z++zbk))) y71 U U ((zDl.mono<|(Zle.left _ _).trans z6G).weak (fun _ _ h=>y1t ((Zle.left _ _).trans z6G) h)) z11J ?_
    rintro z1aY z1aZ z11K z1b0 ⟨z1b1,z1b2,rfl,z11L⟩
    refine Le 28 (yc y7c U<|y3C (hz.pv2 .here) z11K U)<|La U<|WL.nil<|Lb ?_
    obtain⟨z7v,z11M,h⟩:=za h
    obtain⟨z11N,h⟩:=yn h
    refine Ld<|La U<|Le 30 (yi y1E U (yk .h2) U)<|La U<|La U<|WL.y49 (dd:=33) U U U (zb Tryz.call37<|.r3 U U U) (.cons .h3 .nil) (ccz hz (.cons .h3 .nil) .here fun w pz ho=>y5n z11M w pz ((zDd.mono<|(Zle.left _ _).trans z6G).weak (fun _ _ h=>y1a ((Zle.left _ _).trans z6G) h)) ((zDe.mono<|(Zle.left _ _).trans z6G).weak (fun _ _ h=>y1i ((Zle.left _ _).trans z6G) h)) (zDf.mono<|(Zle.left _ _).trans z6G) (zDg.mono<|(Zle.left _ _).trans z6G) ((zDh.mono<|(Zle.left _ _).trans z6G).weak (fun _ _ h=>y15 ((Zle.left _ _).trans z6G) h)) (zDi.mono<|(Zle.left _ _).trans z6G) ((zDj.mono<|(Zle.left _ _).trans z6G).weak (fun _ _ h=>y1j ((Zle.left _ _).trans z6G) h)) (zDk.mono<|(Zle.left _ _).trans z6G) z11L ho) ?_
    rintro zlw zlx _
    refine Kj (ls:=z7v) .here .h1 hz (RR.flat (enc:=e3) (fun _=>U) _) ?_
    intro ztk zMb z11O
    let C:List Value:=[(.slice zlw z7v.length zlx)];have zMc:RR 1 (p50 (Z++ztk)) C ([z7v]:List (List Int)):=(RR.cons (r:=C) U (show p50 _ _ _ from⟨_,_,U,z11O⟩) (RR.nil _ _))
    refine Lg 34 (yM (cs:=[(.slice zlw z7v.length zlx)]) ygb (Lo (l:=[.tmp 33]) (.cons U .nil) [0]) (fun _=>by kernel_rfl) U (by unfold maxLen;omega)) ?_
    intro z1b3 _
    have z11P:RR 1 (p50 (Z++ztk)) (zdt++C) (z4X++([z7v]:List (List Int))):=RR.app (zMa.weak (fun _ _ h=>yg9 zMb h)) zMc
    refine WL.fA 35 (y6L (l1:=z4X) (l2:=([z7v]:List (List Int))) (news:=C) (Pr:=(p50 (Z++ztk))) ygb U U .h3 zMc (y3t .here) (y94 U yan) z11N) ?_
    rintro⟨z11Q,z11R⟩ _
    refine La U<|WL.nil<|Lt<|Lb<|Ld<|La U<|La U<|WL.nil ?_
    exact WX.round ⟨zD9,(z4X++([z7v]:List (List Int))),(i64 (z7u+1)),ztk,z11Q,z11R,(zdt++C)⟩ ⟨h,(z6G.trans zMb),z11P⟩ (Nat.lt_succ_self _) (.r6 U U U U U U)<|.s4 .h2 .here .h2 .h1
   ·replace h:=yr h zDn
    refine WC.exit<|Lm<|Lm<|Lu ?_
    exact Ln ⟨z4X,zbk,zi6,zi7,zdt⟩ ⟨h,z6G,zMa⟩ (.cons U .nil)<|.a2
  ·rintro zbj zi5 zls zlt zlu ⟨h,z1b4,z11S⟩
   replace h:=(z11I zbj).symm.trans h
   refine WC.b<|Ld<|La U<|La U<|WL.nil<|Lb<|WC.ret ?_
   obtain rfl:=oJ h
   refine Lh Tryz.results14 (.tmp U .nil)<|fun w hw=>?_
   exact⟨zi5,zls,zlt,zlu,yC U,z11S,hw.sub (.a2)⟩
end Go.Proofs.YthjnhebofpebpaaGreat

/- A part of this claim's proof: models of functions, walks, plain laws. No conditions. -/
import Derived.Test.YthjnhebofpebpaaGreatW36f
set_option linter.all false
namespace Go.Proofs.YthjnhebofpebpaaGreat
open Go Go.RowKit Sep
set_option maxRecDepth 30000
set_option maxHeartbeats 4000000
def y6p(c:zs)(wide:List (Int×Int))(q:Int×List (Int→Option Int))(y0:Int):Option Int:=y4v y0 q.1 q.2 wide c
def y2R(zJ:List (List ze))(z10:z8)(z7:zs)(z1O:List (z8×Int))(zdd:Int→(List (Int×List (Int→Option Int)))→(List (Int×Int))→Option (List (Int→Option Int)×Int)):Nat→Int→Int→(List (Int×List (Int→Option Int)))→(List (Int×Int))→Option (List (Int→Option Int)×Int)
 | 0,_,_,_,_=>none
 | zBP+1,z2n,zd,z3R,z28=>if decide (zd<((zJ.length:Nat):Int)) then jp3 (fun(zde:Int) (zdf:List (Int×List (Int→Option Int))) (zdg:List (Int×Int))=>y2R zJ z10 z7 z1O zdd zBP zde (i64 (zd+1)) zdf zdg) fun zrY=>chk ((0:Int)≤zd∧zd<((zJ.length:Nat):Int)) ((y11 (nth zJ zd) (fun(y0:ze)=>y4w y0 z10)).bind fun z2b=>if decide (z2b<0) then zrY z2n z3R z28 else chk ((0:Int)≤zd∧zd<((z7.fVLs.length:Nat):Int)) ((y4y z7 (nth zJ zd) z1O).bind fun z1o=>chk ((0:Int)≤z2b∧z2b<((z1o.length:Nat):Int)) (jp1 (fun(z2e:Int)=>chk (((((yf z3R z2e [])++([(fun(y0:Int)=>y1h y0 (⟨((nth z7.fVLs zd).fName),(⟨(((nth z7.fVLs zd).fFrom).fModule),(((nth z7.fVLs zd).fFrom).fPart),(((nth z7.fVLs zd).fFrom).fPort)⟩:Sapi_Ref),((nth z7.fVLs zd).fBag),((nth z7.fVLs zd).fMax),((nth z7.fVLs zd).fTo)⟩:z14) (nth z1o z2b))]:List (Int→Option Int))).length:Nat):Int)*8≤140737488355328∧((((yf z3R z2e [])++([(fun(y0:Int)=>y1h y0 (⟨((nth z7.fVLs zd).fName),(⟨(((nth z7.fVLs zd).fFrom).fModule),(((nth z7.fVLs zd).fFrom).fPart),(((nth z7.fVLs zd).fFrom).fPort)⟩:Sapi_Ref),((nth z7.fVLs zd).fBag),((nth z7.fVLs zd).fMax),((nth z7.fVLs zd).fTo)⟩:z14) (nth z1o z2b))]:List (Int→Option Int))).length:Nat):Int)≤4611686018427387904) (zrY (max z2n ((nth z7.fVLs zd).fMax)) (yF z3R z2e ((yf z3R z2e [])++([(fun(y0:Int)=>y1h y0 (⟨((nth z7.fVLs zd).fName),(⟨(((nth z7.fVLs zd).fFrom).fModule),(((nth z7.fVLs zd).fFrom).fPart),(((nth z7.fVLs zd).fFrom).fPort)⟩:Sapi_Ref),((nth z7.fVLs zd).fBag),((nth z7.fVLs zd).fMax),((nth z7.fVLs zd).fTo)⟩:z14) (nth z1o z2b))]:List (Int→Option Int)))) (yF z28 z2e (max (yf z28 z2e 0) ((nth z7.fVLs zd).fMax))))) fun zrZ=>(y11 (nth zJ zd) (fun(y0:ze)=>y4z y0 z10)).bind fun zkR=>if decide (zkR≥0) then chk ((0:Int)≤zkR∧zkR<(((nth zJ zd).length:Nat):Int)) (zrZ ((nth (nth zJ zd) zkR).fQ)) else zrZ (-1)))) else zdd z2n z3R z28
theorem y9B{n:Nat}{zJ:List (List ze)}{z10:z8}{z7:zs}{z1O:List (z8×Int)}{zdd:Int→(List (Int×List (Int→Option Int)))→(List (Int×Int))→Option (List (Int→Option Int)×Int)}{z2n:Int}{zd:Int}{z3R:List (Int×List (Int→Option Int))}{z28:List (Int×Int)}{r:(List (Int→Option Int)×Int)}(h:y2R zJ z10 z7 z1O zdd n z2n zd z3R z28=some r):∃ m,n=m+1:=by
 cases n with
 | zero=>cases h
 | succ m=>exact⟨m,rfl⟩
def y4h(z7:zs)(zJ:List (List ze))(z10:z8)(z1O:List (z8×Int)):Option (List (Int→Option Int)×Int):=
 jp3 (fun(zkS:Int) (zfG:List (Int×List (Int→Option Int))) (zkT:List (Int×Int))=>chk (zfG.length*8≤140737488355328∧zfG.length≤4611686018427387904) (some (zfG.map (y6p z7 zkT),zkS))) fun zdd=>y2R zJ z10 z7 z1O zdd yx 0 0 ([]:List (Int×List (Int→Option Int))) ([]:List (Int×Int))
theorem ycl{Z:Zp}{z2B:Option Addr}{z2C:Nat}{z2D:Option Addr}{z2E:Nat}{z2F:Option Addr}{z2G:Nat}{z2H:Option Addr}{z2I:Nat}{z2t:Option Addr}{z2u:Nat}{z2J:Option Addr}{z2K:Nat}{z2L:Option Addr}{z2M:Nat}{z2N:Option Addr}{z2O:Nat}{z5o:Option Addr}{z5p:Nat}{z17:Nat}{z7:zs}{zJ:List (List ze)}{z10:z8}{z1O:List (z8×Int)}{r:(List (Int→Option Int)×Int)}(h:y4h z7 zJ z10 z1O=some r)(w₀:World)(hz:PZ (fps [ym z17 (fun x=>Value.agg (e94 x).toArray) (Value.int .i64) z1O]) w₀ Z)(zoi:ZS Z 4 (y3L Z) z2B z2C z7.fM)(zoj:ZS Z 4 (y4n Z) z2D z2E z7.fC0)(zol:ZS Z 4 (fun r x=>r=e64 x) z2F z2G z7.fS)(zom:ZS Z 4 (fun r x=>r=e62 x) z2H z2I z7.fK)(zkU:ZS Z 7 (p69 Z) z2t z2u z7.fVLs)(zon:ZS Z 5 (fun r x=>r=y4C x) z2J z2K z7.fH)(zoo:ZS Z 3 (y4o Z) z2L z2M z7.fU)(zop:ZS Z 4 (fun r x=>r=y4D x) z2N z2O z7.fV0)(zZP:ZS Z 1 (p58 Z) z5o z5p zJ)(hown:Hp (fps [ym z17 (fun x=>Value.agg (e94 x).toArray) (Value.int .i64) z1O]) w₀ w₀ [ym z17 (fun x=>Value.agg (e94 x).toArray) (Value.int .i64) z1O]):
  Calls Tryz.prog 53 #[(.agg #[(.slice z2B z7.fM.length z2C),(.slice z2D z7.fC0.length z2E),(.slice z2F z7.fS.length z2G),(.slice z2H z7.fK.length z2I),(.slice z2t z7.fVLs.length z2u),(.slice z2J z7.fH.length z2K),(.slice z2L z7.fU.length z2M),(.slice z2N z7.fV0.length z2O)]),(.slice z5o zJ.length z5p),(.agg #[(vi z10.fNode),(vi z10.fQ)]),(.map (some z17))] w₀ fun e w'=>∃ Zn:Zp,∃ aor:Option Addr,∃ capr:Nat,e = .returned (.tuple #[(.slice aor r.1.length capr),(vi r.2)])∧(ZSB (Z++Zn) (y5V (Z++Zn)) aor capr r.1)∧Hp (fps [ym z17 (fun x=>Value.agg (e94 x).toArray) (Value.int .i64) z1O]) w₀ w' [fz Zn,ym z17 (fun x=>Value.agg (e94 x).toArray) (Value.int .i64) z1O]:=by
 unfold y4h at h
 refine Calls.oh4 Tryz.func53 Tryz.ntmps53 hown ?_
 let P:Value:=(.slice z2t z7.fVLs.length z2u);let W:Value:=(.slice z2D z7.fC0.length z2E);let X:Value:=(.slice z2N z7.fV0.length z2O);let Y:Value:=(.slice z2B z7.fM.length z2C);let Aa:Value:=(.slice z2F z7.fS.length z2G);let Ab:Value:=(.slice z2H z7.fK.length z2I);let Ac:Value:=(.slice z2J z7.fH.length z2K);let Ad:Value:=(.slice z2L z7.fU.length z2M);let A:List Value:=[Y,W,Aa,Ab,P,Ac,Ad,X];refine WC.pool (WC.b (Ld (Lg 4 (yI (cs:=A) U U) ?_)))
 intro z1b _
 let I:List Value:=[(vi z10.fNode),(vi z10.fQ)];refine Lg 6 (yI (cs:=I) U U) ?_
 intro z1S _
 refine La U<|La U<|WL.nil<|Lb<|WC.b<|Ld (Lg 23 (y3b (Value.int .i64)<|slv (α:=Value)) fun z1K _=>WL.ghL (M:=[y2m (y2e 201 1 y4m) ([]:List (Int×((Nat×(Option Addr×Nat))×List Value))),ym z1K (Value.int .i64) slv (y2I ([]:List (Int×((Nat×(Option Addr×Nat))×List Value)))),stb z1S 94 I,stb z1b 31 A,fz [],ym z17 (fun x=>Value.agg (e94 x).toArray) (Value.int .i64) z1O]) (fun _ h=>Hp.ye9 (y2e 201 1 y4m) h)<|La U<|WL.nil<|Lb<|WC.b<|Ld (Lg 24 (y3b (Value.int .i64)<|Value.int .i64) fun z1x _=>Lg 11 (yv (cs:=[(.map none)]) zM6 U) fun z1n _=>Ll U U (yn zM7 U U U .here U U U)<|WL.nil<|Lb<|WC.b<|Ld<|La U<|WL.nil<|Lb ?_))
 obtain⟨zdd,zZQ,h⟩:=y8U h
 refine WC.y9W (fun(zkS:Int) (zfG:List (Int×List (Int→Option Int))) (zkT:List (Int×Int)) (zoq:Zp) (zor:List (Int×((Nat×(Option Addr×Nat))×List Value)))=>(zdd zkS zfG zkT=some r)∧(Zle (Z++[]) (Z++zoq))∧(RM (y5V (Z++zoq)) (dat zor) zfG)) (fun zkS zfG zkT zoq zor=>[(4,(vp z1b)),(10,(.map<|some z1K)),(11,(vp z1n)),(12,(vi zkS))]) (fun zkS zfG zkT zoq zor=>[fz zoq,stb z1b 31 A,ym z1K (Value.int .i64) slv (y2I zor),y2m (y2e 201 1 y4m) zor,stb z1n 148 [(.map<|some z1x)],ym z17 (fun x=>Value.agg (e94 x).toArray) (Value.int .i64) z1O,ym z1x (Value.int .i64) (Value.int .i64) zkT]) ?_ ?_
 ·skip
  let J:Value:=(.slice z5o zJ.length z5p);refine WC.b (Ld (La U (Le 26 (yG Tryz.underlying32 U) (La U (WL.nil (Lb (WC.block (WC.yfN (fun(zkV:Nat) (z2n:Int) (zd:Int) (z3R:List (Int×List (Int→Option Int))) (z28:List (Int×Int)) (z2j:Zp) (z1I:List (Int×((Nat×(Option Addr×Nat))×List Value)))=>(y2R zJ z10 z7 z1O zdd zkV z2n zd z3R z28=some r)∧(Zle (Z++[]) (Z++z2j))∧(RM (y5V (Z++z2j)) (dat z1I) z3R)) (fun zkV z2n zd z3R z28 z2j z1I=>[(3,(.map (some z17))),(4,(vp z1b)),(6,(vp z1S)),(10,(.map (some z1K))),(11,(vp z1n)),(12,(vi z2n)),(25,J),(26,(vi ((zJ.length:Nat):Int))),(27,(vi zd))]) (fun zkV z2n zd z3R z28 z2j z1I=>[fz z2j,ym z17 (fun x=>Value.agg (e94 x).toArray) (Value.int .i64) z1O,stb z1b 31 A,stb z1S 94 I,ym z1K (Value.int .i64) slv (y2I z1I),y2m (y2e 201 1 y4m) z1I,stb z1n 148 [(.map (some z1x))],ym z1x (Value.int .i64) (Value.int .i64) z28]) (fun zkV z2n zd z3R z28 z2j z1I=>zkV) ⟨yx,0,0,([]:List (Int×List (Int→Option Int))),([]:List (Int×Int)),[],([]:List (Int×((Nat×(Option Addr×Nat))×List Value)))⟩ ⟨h,(Zle.refl _),RM.nil⟩ (.r9 U U U U U U U U U) (.s8 .h6 .h6 .h5 .h4 .h3 .h2 .here .here) ?_))))))))
  rintro zkV z2n zd z3R z28 z2j z1I ⟨h,zZ,zs0⟩
  obtain⟨zBP,rfl⟩:=y9B h
  rw[y2R] at h
  refine WC.b<|Ld<|La U<|WL.nil<|Lb<|WC.b<|WC.cond U (fun zBQ=>?_)<|fun zBQ=>?_
  ·replace h:=yr h zBQ
   refine WC.skip<|Lb ?_
   obtain⟨zrY,zZR,h⟩:=y8U h
   refine WC.y9W (fun(zde:Int) (zdf:List (Int×List (Int→Option Int))) (zdg:List (Int×Int)) (zhF:Zp) (zhG:List (Int×((Nat×(Option Addr×Nat))×List Value)))=>(zrY zde zdf zdg=some r)∧(Zle (Z++z2j) (Z++zhF))∧(RM (y5V (Z++zhF)) (dat zhG) zdf)) (fun zde zdf zdg zhF zhG=>[(3,(.map<|some z17)),(4,(vp z1b)),(6,(vp z1S)),(10,(.map<|some z1K)),(11,(vp z1n)),(12,(vi zde)),(25,J),(26,(vi ((zJ.length:Nat):Int))),(27,(vi zd))]) (fun zde zdf zdg zhF zhG=>[fz zhF,ym z17 (fun x=>Value.agg (e94 x).toArray) (Value.int .i64) z1O,stb z1b 31 A,stb z1S 94 I,ym z1K (Value.int .i64) slv (y2I zhG),y2m (y2e 201 1 y4m) zhG,stb z1n 148 [(.map<|some z1x)],ym z1x (Value.int .i64) (Value.int .i64) zdg]) ?_ ?_
   ·skip
    refine WC.block<|WC.b ?_
    obtain⟨zZS,h⟩:=yl h
    refine Ld<|La U<|L0 (dd:=30) U U (Z:=(Z++z2j)) (Pr:=(p58 (Z++z2j))) y81 U U ((zZP.mono<|(Zle.left _ _).trans zZ).weak (fun _ _ h=>y1B ((Zle.left _ _).trans zZ) h)) zZS ?_
    rintro z19B z19C zZT z19D ⟨z6w,z6x,rfl,zhH⟩
    refine Le 31 (yc y6w U<|y3a (hz.pv2 .here) zZT U)<|La U<|La U<|WL.nil<|Lb<|WC.b ?_
    obtain⟨z2b,zZU,h⟩:=za h
    refine Ld<|La U<|Le 33 (y16<|L3 (l:=[.tmp 6])<|.cons U .nil)<|Lk 34 (zb Tryz.call94<|.r2 U U) .nil (yai hz .nil .here (.cons .h3 .nil) fun w pz ho la=>y2K _ _ _ (za5:=95) (zdL:=[(vp z1S)]) _ (z7k:=(fun(y0:ze)=>y4w y0 z10)) _ zZU w pz (zhH.mono<|Zle.left _ _) Tryz.call95<|fun w' hz' y0  r  hr=>ybo hr w' hz'<|(la _ (.head _) _).stb)<|La U<|WL.nil<|Lb<|WC.b<|WC.b<|Ld<|La U<|La U<|WL.nil<|Lb<|WC.cond U (fun zBR=>?_)<|fun zBR=>?_
    ·replace h:=yr h zBR
     refine WC.exit<|Ln<|Lu ?_
     exact Lo ⟨z2n,z3R,z28,z2j,z1I⟩ ⟨h,(Zle.refl _),zs0⟩ (.r9 U U U U U U U U U)<|.a8
    ·replace h:=ys h zBR
     refine WC.skip<|Lb<|WC.b ?_
     obtain⟨zZV,h⟩:=yl h
     obtain⟨z1o,zs1,h⟩:=za h
     obtain⟨z3S,h⟩:=yl h
     refine Lv (fun i=>[8,14,15].contains i) [y7S z1b 31 [(4,P)],fz z2j] U<|Lf 0 37 U (fun _=>ya y7F U U)<|L7 1 38 U (Sin.wk (.s2 .h2 .here)<|.stb (.cons U .nil)<|.same .nil) (yc y7G U<|y5Z .here<|.head _)<|Lf 2 39 U (fun _=>q_m U)<|L5 (j:=3) (dd:=40) (by kernel_rfl) U z1Z z20 U U (Z:=(Z++z2j)) (Pr:=(p69 (Z++z2j))) y9q U U ((zkU.mono<|(Zle.left _ _).trans zZ).weak (fun _ _ h=>y1e ((Zle.left _ _).trans zZ) h)) zZV ?_
     rintro z19E z19F zZW z19G ⟨z7F,z7G,rfl,zZX⟩
     let E:Value:=(.slice z6w ((nth zJ zd).length) z6x);let K:Value:=(vi ((zJ.length:Nat):Int));let L:Value:=(.slice z7F (((nth z7.fVLs zd).fTo).length) z7G);let N:Value:=(vi ((nth z7.fVLs zd).fBag));let O:Value:=(vi ((nth z7.fVLs zd).fMax));refine L7 4 41 U (Sin.wk (.s2 .h2 .here) (.stb (.cons U .nil) (.same .nil))) (yh yeS U (y2d (hz.pv2 .h1) zZW) U) (Li 5 42 U (yh y1V U (yj .h2) U) (Lf 6 43 U (fun _=>q_m U) (Lf 7 44 U (fun _=>q_m U) (Lf 9 46 U (fun _=>q_m U) (WD.ybA (fuel':=0) (fun(b8o1_87226:Nat) (cap8o2_87226:Nat) (b12o1_87226:Nat) (b13o1_87226:Nat)=>[(3,(.map (some z17))),(4,(vp z1b)),(6,(vp z1S)),(10,(.map (some z1K))),(11,(vp z1n)),(12,(vi z2n)),(25,J),(26,K),(27,(vi zd)),(14,E),(16,(vp b12o1_87226)),(17,(vp b13o1_87226)),(18,(vi (-1)))]) (fun(b8o1_87226:Nat) (cap8o2_87226:Nat) (b12o1_87226:Nat) (b13o1_87226:Nat)=>[stb b13o1_87226 3 [(vi (nth z1o z2b))],stb b12o1_87226 69 [(.string ((nth z7.fVLs zd).fName)),(.string (((nth z7.fVLs zd).fFrom).fModule)),(.string (((nth z7.fVLs zd).fFrom).fPart)),(.string (((nth z7.fVLs zd).fFrom).fPort)),N,O,L],row (.slice (some ⟨b8o1_87226,0,none⟩) z1o.length cap8o2_87226) 3 1 (z1o.flatMap e3),ym z17 (fun x=>Value.agg (e94 x).toArray) (Value.int .i64) z1O,fz z2j,stb z1b 31 A,stb z1S 94 I,ym z1K (Value.int .i64) slv (y2I z1I),y2m (y2e 201 1 y4m) z1I,stb z1n 148 [(.map (some z1x))],ym z1x (Value.int .i64) (Value.int .i64) z28]) (fun(b8o1_87226:Nat) (cap8o2_87226:Nat) (b12o1_87226:Nat) (b13o1_87226:Nat)=>True) (y1U 17 [16,15,11,14,13,12,10,8,9,7,6,5,4,3,2,1,0]) ?_ (fun K8o10o11o12o13o14o15o16_87226=>?_))))))
     ·skip
      rintro b8o1_87226 cap8o2_87226 b12o1_87226 b13o1_87226 _
      refine WD.done (by kernel_rfl)<|Lb ?_
      obtain⟨zrZ,zZY,h⟩:=yZ h
      refine Kf (fun(z2e:Int)=>(zrZ z2e=some r)) (fun z2e=>[(3,(.map<|some z17)),(4,(vp z1b)),(6,(vp z1S)),(10,(.map<|some z1K)),(11,(vp z1n)),(12,(vi z2n)),(16,(vp b12o1_87226)),(17,(vp b13o1_87226)),(18,(vi z2e)),(25,J),(26,K),(27,(vi zd))]) (fun z2e=>[fz z2j,ym z17 (fun x=>Value.agg (e94 x).toArray) (Value.int .i64) z1O,stb z1b 31 A,stb z1S 94 I,ym z1K (Value.int .i64) slv (y2I z1I),y2m (y2e 201 1 y4m) z1I,stb z1n 148 [(.map<|some z1x)],stb b12o1_87226 69 [(.string<|(nth z7.fVLs zd).fName),(.string<|((nth z7.fVLs zd).fFrom).fModule),(.string<|((nth z7.fVLs zd).fFrom).fPart),(.string<|((nth z7.fVLs zd).fFrom).fPort),N,O,L],stb b13o1_87226 3 [(vi<|nth z1o z2b)],ym z1x (Value.int .i64) (Value.int .i64) z28]) ?_ ?_
      ·skip
       refine WC.b ?_
       obtain⟨zkR,zZZ,h⟩:=za h
       refine Ld<|La U<|Le 50 (y16<|L3 (l:=[.tmp 6])<|.cons U .nil)<|Lk 51 (zb Tryz.call94<|.r2 U U) .nil (yai hz .nil .h4 (.cons .h6 .nil) fun w pz ho la=>y2K _ _ _ (za5:=96) (zdL:=[(vp z1S)]) _ (z7k:=(fun(y0:ze)=>y4z y0 z10)) _ zZZ w pz (zhH.mono<|Zle.left _ _) Tryz.call96<|fun w' hz' y0  r  hr=>ybp hr w' hz'<|(la _ (.head _) _).stb)<|La U<|WL.nil<|Lb<|WC.b<|Ld<|La U<|La U<|WL.nil<|Lb<|WC.cond U (fun zBS=>?_)<|fun zBS=>?_
       ·replace h:=yr h zBS
        obtain⟨z100,h⟩:=yl h
        refine Ld<|La U<|La U<|L0 (dd:=56) U U (Z:=(Z++z2j)) (Pr:=(fun r x=>r=e60 x)) y5i U U zhH z100 ?_
        rintro z19H z19I z101 z19J rfl
        refine Le 57 (ya y76 U U)<|Le 58 (yc yq U<|y17 (hz.pv2 .h4) z101 U)<|La U<|WL.nil ?_
        exact Lo ((nth (nth zJ zd) zkR).fQ) h (.r12 U U U U U U U U U U U U)<|.s10 .h4 .h3 .h3 .h3 .h3 .h3 .h3 .h1 .here .h1
       ·replace h:=ys h zBS
        refine WC.skip ?_
        exact Lo (-1) h (.r12 U U U U U U U U U U U U)<|.s10 .h4 .h3 .h3 .h3 .h3 .h3 .h3 .h1 .here .h1
      ·rintro z2e h
       replace h:=(zZY z2e).symm.trans h
       refine WC.b ?_
       obtain⟨z102,h⟩:=yl h
       refine Ld<|La U<|La U<|La U<|La U<|Le 63 (y2C (k:=z2e) (dflt:=(((none,0),[]):(Option Addr×Nat)×List Value)) y43 Tryz.underlying198 zDG U U U .h4)<|WL.gh (fun _ h=>Hp.yhQ z2e zs0 .h5 h) ?_
       rintro⟨⟨z103,z104⟩,zos⟩ ⟨z105,zKS⟩
       refine Kh (i:=63) U (u:=(.slice z103 ((yf z3R z2e []).length) z104)) ((congrArg slv z105).trans (RR.slv zKS)) (WL.freezeC (Z:=Z) (.there .h7) .h2 fun z19K zs2 zBT=>WL.freezeC (Z:=Z) (.there .h7) .here ?_)
       intro zhI zhJ z106
       let F:List Value:=[(.func (.func 97) #[] #[(vp b12o1_87226),(vp b13o1_87226)])];have z107:y5V (Z++zhI) F (fun(y0:Int)=>y1h y0 (⟨((nth z7.fVLs zd).fName),(⟨(((nth z7.fVLs zd).fFrom).fModule),(((nth z7.fVLs zd).fFrom).fPart),(((nth z7.fVLs zd).fFrom).fPort)⟩:Sapi_Ref),((nth z7.fVLs zd).fBag),((nth z7.fVLs zd).fMax),((nth z7.fVLs zd).fTo)⟩:z14) (nth z1o z2b)):=⟨97,[(vp b12o1_87226),(vp b13o1_87226)],U,Tryz.call97,(fun w' hz' y0 r hr=>ybq hr w' hz' (zZX.mono (zs2.trans zhJ)) (zBT.mono zhJ) z106)⟩
       refine Le 64 (y16<|L3 (l:=[.tmp 16,.tmp 17])<|.r2 U U) ?_
       have zKT:RR 1 (y5V (Z++zhI)) F ([(fun(y0:Int)=>y1h y0 (⟨((nth z7.fVLs zd).fName),(⟨(((nth z7.fVLs zd).fFrom).fModule),(((nth z7.fVLs zd).fFrom).fPart),(((nth z7.fVLs zd).fFrom).fPort)⟩:Sapi_Ref),((nth z7.fVLs zd).fBag),((nth z7.fVLs zd).fMax),((nth z7.fVLs zd).fTo)⟩:z14) (nth z1o z2b))]:List (Int→Option Int)):=(RR.cons (r:=F) U z107 (RR.nil _ _))
       refine Lg 65 (yS (cs:=[(.func (.func 97) #[] #[(vp b12o1_87226),(vp b13o1_87226)])]) zlA (Lp (l:=[.tmp 64]) (.cons U .nil) [0]) (fun _=>by kernel_rfl) U (by unfold maxLen;omega)) ?_
       intro z108 _
       have zBU:RR 1 (y5V (Z++zhI)) (zos++F) ((yf z3R z2e [])++([(fun(y0:Int)=>y1h y0 (⟨((nth z7.fVLs zd).fName),(⟨(((nth z7.fVLs zd).fFrom).fModule),(((nth z7.fVLs zd).fFrom).fPart),(((nth z7.fVLs zd).fFrom).fPort)⟩:Sapi_Ref),((nth z7.fVLs zd).fBag),((nth z7.fVLs zd).fMax),((nth z7.fVLs zd).fTo)⟩:z14) (nth z1o z2b))]:List (Int→Option Int))):=RR.app (zKS.weak (fun _ _ h=>y64 (zs2.trans zhJ) h)) zKT
       refine WL.fA 66 (y8h (l1:=yf z3R z2e []) (l2:=([(fun(y0:Int)=>y1h y0 (⟨((nth z7.fVLs zd).fName),(⟨(((nth z7.fVLs zd).fFrom).fModule),(((nth z7.fVLs zd).fFrom).fPart),(((nth z7.fVLs zd).fFrom).fPort)⟩:Sapi_Ref),((nth z7.fVLs zd).fBag),((nth z7.fVLs zd).fMax),((nth z7.fVLs zd).fTo)⟩:z14)<|nth z1o z2b)]:List (Int→Option Int))) (news:=F) (Pr:=(y5V (Z++zhI))) zlA U U .h2 zKT (y3u .here) (yb5 U ycq) z102) ?_
       rintro⟨zs3,zs4⟩ _
       refine Ll U U (y3o (k:=z2e) (v:=(((zs3,zs4),zos++F):(Option Addr×Nat)×List Value)) y43 Tryz.underlying198 U U U (RR.slv zBU).symm .h7)<|WL.ghL (fun _ h=>Hp.ygS (k:=z2e) (RR.yhc zBU) (.s2 .h1 .h3) h)<|WL.ghL (M:=[ym z1K (Value.int .i64) slv (y2I<|yF z1I z2e ((0,(zs3,zs4)),zos++F)),y2m (y2e 201 1 y4m) (yF z1I z2e ((0,(zs3,zs4)),zos++F)),row (.slice (some ⟨z108,0,none⟩) (([(fun(y0:Int)=>y1h y0 (⟨((nth z7.fVLs zd).fName),(⟨(((nth z7.fVLs zd).fFrom).fModule),(((nth z7.fVLs zd).fFrom).fPart),(((nth z7.fVLs zd).fFrom).fPort)⟩:Sapi_Ref),((nth z7.fVLs zd).fBag),((nth z7.fVLs zd).fMax),((nth z7.fVLs zd).fTo)⟩:z14)<|nth z1o z2b)]:List (Int→Option Int)).length) 1) 201 1 F,fz zhI,ym z17 (fun x=>Value.agg (e94 x).toArray) (Value.int .i64) z1O,stb z1b 31 A,stb z1S 94 I,stb z1n 148 [(.map<|some z1x)],ym z1x (Value.int .i64) (Value.int .i64) z28]) (fun _ h=>Hp.yfW .h1 (ycE _ _ _ _).symm h)<|WL.nil<|Lb<|Lv (fun i=>[12].contains i) [fz zhI] U<|Li 0 67 U (yc zsZ U<|yi .h7 U)<|Lf 1 68 U (fun _=>q_m U)<|Li 2 69 U (yc zsZ U<|yi .h7 U)<|Lf 3 70 U (fun _=>q_m U)<|Li 4 71 U (y2C (k:=z2e) (dflt:=(0:Int)) y43 Tryz.underlying148 y2v U U U<|.there .h7)<|Lf 5 72 U (fun _=>ya y7H U U)<|Li 6 73 U (yc yq U<|y17 (hz.pv2 .h3) (zBT.mono zhJ) U)<|Lf 7 74 U (fun _=>ybx U U U)<|Lf 8 75 U (fun _=>q_m U)<|Lf 9 76 U (fun _=>ya y7H U U)<|L7 10 77 U (Sin.of<|.cons .h3 .nil) (yc yq U<|y17 (hz.pv2 .here) (zBT.mono zhJ) U)<|Lf 11 78 U (fun _=>ybx U U U)<|WD.forced0 (i:=12) U (by kernel_rfl) U U U (Sin.of<|.cons .h4 .nil) (y3o (k:=z2e) (v:=max (yf z28 z2e 0) ((nth z7.fVLs zd).fMax)) y43 Tryz.underlying148 U U U U<|.there .h7)<|Lf 13 12 U (fun _=>q_z U)<|WD.done (by kernel_rfl)<|Lt ?_
       exact Lo ⟨(max z2n<|(nth z7.fVLs zd).fMax),(yF z3R z2e ((yf z3R z2e [])++([(fun(y0:Int)=>y1h y0 (⟨((nth z7.fVLs zd).fName),(⟨(((nth z7.fVLs zd).fFrom).fModule),(((nth z7.fVLs zd).fFrom).fPart),(((nth z7.fVLs zd).fFrom).fPort)⟩:Sapi_Ref),((nth z7.fVLs zd).fBag),((nth z7.fVLs zd).fMax),((nth z7.fVLs zd).fTo)⟩:z14)<|nth z1o z2b)]:List (Int→Option Int)))),(yF z28 z2e<|max (yf z28 z2e 0)<|(nth z7.fVLs zd).fMax),zhI,(yF z1I z2e ((0,(zs3,zs4)),zos++F))⟩ ⟨h,(zs2.trans zhJ),(RM.putD (zs0.weak<|fun _ _ h=>y64 (zs2.trans zhJ) h) z2e zBU)⟩ (.r9 U U U U U U U U U)<|.s8 .h4 .h4 .h4 .h4 .h1 .h1 .h2 .here
     let R:Value:=(.string (((nth z7.fVLs zd).fFrom).fModule));let S:Value:=(.string (((nth z7.fVLs zd).fFrom).fPart));let T:Value:=(.string (((nth z7.fVLs zd).fFrom).fPort));let V:Value:=(.string ((nth z7.fVLs zd).fName));refine WD.ybA (fuel':=2) (fun(b8o1_87226:Nat) (cap8o2_87226:Nat) (b12o1_87226:Nat) (b13o1_87226:Nat)=>[(3,(.map (some z17))),(4,(vp z1b)),(6,(vp z1S)),(10,(.map (some z1K))),(11,(vp z1n)),(12,(vi z2n)),(25,J),(26,K),(27,(vi zd)),(14,E),(16,(vp b12o1_87226)),(17,(vp b13o1_87226)),(48,(vi (nth z1o z2b)))]) (fun(b8o1_87226:Nat) (cap8o2_87226:Nat) (b12o1_87226:Nat) (b13o1_87226:Nat)=>[stb b12o1_87226 69 [V,R,S,T,N,O,L],stb b13o1_87226 3 [(vi 0)],row (.slice (some ⟨b8o1_87226,0,none⟩) z1o.length cap8o2_87226) 3 1 (z1o.flatMap e3),ym z17 (fun x=>Value.agg (e94 x).toArray) (Value.int .i64) z1O,fz z2j,stb z1b 31 A,stb z1S 94 I,ym z1K (Value.int .i64) slv (y2I z1I),y2m (y2e 201 1 y4m) z1I,stb z1n 148 [(.map (some z1x))],ym z1x (Value.int .i64) (Value.int .i64) z28]) (fun(b8o1_87226:Nat) (cap8o2_87226:Nat) (b12o1_87226:Nat) (b13o1_87226:Nat)=>True) (y1U 17 [11,14,13,12,10,8,9,7,6,5,4,3,2,1,0]) ?_ (fun K8o10o11o12o13o14_87226=>?_)
     ·skip
      rintro b8o1_87226 cap8o2_87226 b12o1_87226 b13o1_87226 _
      refine WD.forced0 (i:=15) U (by kernel_rfl) U U U (Sin.wk (.s2 .h5 .h4)<|.stb (.cons U .nil)<|.same .nil) (yn ybc U U U .h1 U U U)<|Lf 16 18 U (fun _=>q_z U) ?_
      exact Lw (.a11) (.r13 U U U U U U U U U U U U U)<|K8o10o11o12o13o14o15o16_87226 b8o1_87226 cap8o2_87226 b12o1_87226 b13o1_87226 trivial
     let C:Value:=(.agg #[V,R,S,T,N,O,L]);let D:List Value:=[(.string ⟨#[]⟩),(.string ⟨#[]⟩),(.string ⟨#[]⟩),(.string ⟨#[]⟩),(vi 0),(vi 0),vn];refine WD.ybA (fuel':=3) (fun(b8o1_87226:Nat) (cap8o2_87226:Nat) (b12o1_87226:Nat) (b13o1_87226:Nat)=>[(3,(.map (some z17))),(4,(vp z1b)),(6,(vp z1S)),(10,(.map (some z1K))),(11,(vp z1n)),(12,(vi z2n)),(25,J),(26,K),(27,(vi zd)),(14,E),(41,C),(48,(vi (nth z1o z2b))),(16,(vp b12o1_87226)),(17,(vp b13o1_87226))]) (fun(b8o1_87226:Nat) (cap8o2_87226:Nat) (b12o1_87226:Nat) (b13o1_87226:Nat)=>[stb b13o1_87226 3 [(vi 0)],stb b12o1_87226 69 D,row (.slice (some ⟨b8o1_87226,0,none⟩) z1o.length cap8o2_87226) 3 1 (z1o.flatMap e3),ym z17 (fun x=>Value.agg (e94 x).toArray) (Value.int .i64) z1O,fz z2j,stb z1b 31 A,stb z1S 94 I,ym z1K (Value.int .i64) slv (y2I z1I),y2m (y2e 201 1 y4m) z1I,stb z1n 148 [(.map (some z1x))],ym z1x (Value.int .i64) (Value.int .i64) z28]) (fun(b8o1_87226:Nat) (cap8o2_87226:Nat) (b12o1_87226:Nat) (b13o1_87226:Nat)=>True) (y1U 17 [13,12,11,10,8,9,7,6,5,4,3,2,1,0]) ?_ (fun K8o10o11o12o13_87226=>?_)
     ·skip
      rintro b8o1_87226 cap8o2_87226 b12o1_87226 b13o1_87226 _
      refine WD.forced0 (i:=14) U (by kernel_rfl) U U U (Sin.wk (.s2 .h5 .h4)<|.stb (.cons U .nil)<|.same .nil) (yn yhi U U U .h1 U U U) ?_
      exact Lw (.a11) (.r13 U U U U U U U U U U U U U)<|K8o10o11o12o13o14_87226 b8o1_87226 cap8o2_87226 b12o1_87226 b13o1_87226 trivial
     refine WD.ybz (fuel':=4) (fun(b8o1_87226:Nat) (cap8o2_87226:Nat) (b12o1_87226:Nat)=>[(3,(.map<|some z17)),(4,(vp z1b)),(6,(vp z1S)),(10,(.map<|some z1K)),(11,(vp z1n)),(12,(vi z2n)),(25,J),(26,K),(27,(vi zd)),(14,E),(41,C),(48,(vi<|nth z1o z2b)),(16,(vp b12o1_87226))]) (fun(b8o1_87226:Nat) (cap8o2_87226:Nat) (b12o1_87226:Nat)=>[stb b12o1_87226 69 D,row (.slice (some ⟨b8o1_87226,0,none⟩) z1o.length cap8o2_87226) 3 1 (z1o.flatMap e3),ym z17 (fun x=>Value.agg (e94 x).toArray) (Value.int .i64) z1O,fz z2j,stb z1b 31 A,stb z1S 94 I,ym z1K (Value.int .i64) slv (y2I z1I),y2m (y2e 201 1 y4m) z1I,stb z1n 148 [(.map<|some z1x)],ym z1x (Value.int .i64) (Value.int .i64) z28]) (fun(b8o1_87226:Nat) (cap8o2_87226:Nat) (b12o1_87226:Nat)=>True) (y1U 17 [12,11,10,8,9,7,6,5,4,3,2,1,0]) ?_<|fun K8o10o11o12_87226=>?_
     ·skip
      rintro b8o1_87226 cap8o2_87226 b12o1_87226 _
      refine WD.new (i:=13) (dd:=17) U (by kernel_rfl) U U U (yv (cs:=[(vi 0)]) y2v U) (fun h'=>absurd h' (by decide)) fun b13o1_87226 _=>Lw (.a11) (.r14 U U U U U U U U U U U U U U)<|K8o10o11o12o13_87226 b8o1_87226 cap8o2_87226 b12o1_87226 b13o1_87226 trivial
     refine WD.ybz (fuel':=4) (fun(b8o1_87226:Nat) (cap8o2_87226:Nat) (b13o1_87226:Nat)=>[(3,(.map<|some z17)),(4,(vp z1b)),(6,(vp z1S)),(10,(.map<|some z1K)),(11,(vp z1n)),(12,(vi z2n)),(25,J),(26,K),(27,(vi zd)),(14,E),(41,C),(48,(vi<|nth z1o z2b)),(17,(vp b13o1_87226))]) (fun(b8o1_87226:Nat) (cap8o2_87226:Nat) (b13o1_87226:Nat)=>[stb b13o1_87226 3 [(vi 0)],row (.slice (some ⟨b8o1_87226,0,none⟩) z1o.length cap8o2_87226) 3 1 (z1o.flatMap e3),ym z17 (fun x=>Value.agg (e94 x).toArray) (Value.int .i64) z1O,fz z2j,stb z1b 31 A,stb z1S 94 I,ym z1K (Value.int .i64) slv (y2I z1I),y2m (y2e 201 1 y4m) z1I,stb z1n 148 [(.map<|some z1x)],ym z1x (Value.int .i64) (Value.int .i64) z28]) (fun(b8o1_87226:Nat) (cap8o2_87226:Nat) (b13o1_87226:Nat)=>True) (y1U 17 [13,11,10,8,9,7,6,5,4,3,2,1,0]) ?_<|fun K8o10o11o13_87226=>?_
     ·skip
      rintro b8o1_87226 cap8o2_87226 b13o1_87226 _
      refine WD.new (i:=12) (dd:=16) U (by kernel_rfl) U U U (yv (cs:=D) y9a U) (fun h'=>absurd h' (by decide)) fun b12o1_87226 _=>Lw (.s11 .h1 .here .here .here .here .here .here .here .here .here .here) (.r14 U U U U U U U U U U U U U U)<|K8o10o11o12o13_87226 b8o1_87226 cap8o2_87226 b12o1_87226 b13o1_87226 trivial
     refine WD.ybA (fuel':=4) (fun(b8o1_87226:Nat) (cap8o2_87226:Nat) (b12o1_87226:Nat) (b13o1_87226:Nat)=>[(3,(.map<|some z17)),(4,(vp z1b)),(6,(vp z1S)),(10,(.map<|some z1K)),(11,(vp z1n)),(12,(vi z2n)),(25,J),(26,K),(27,(vi zd)),(14,E),(41,C),(47,(.pointer<|some ⟨b8o1_87226,(z2b:Int).toNat*1,none⟩)),(16,(vp b12o1_87226)),(17,(vp b13o1_87226))]) (fun(b8o1_87226:Nat) (cap8o2_87226:Nat) (b12o1_87226:Nat) (b13o1_87226:Nat)=>[stb b13o1_87226 3 [(vi 0)],stb b12o1_87226 69 D,row (.slice (some ⟨b8o1_87226,0,none⟩) z1o.length cap8o2_87226) 3 1 (z1o.flatMap e3),ym z17 (fun x=>Value.agg (e94 x).toArray) (Value.int .i64) z1O,fz z2j,stb z1b 31 A,stb z1S 94 I,ym z1K (Value.int .i64) slv (y2I z1I),y2m (y2e 201 1 y4m) z1I,stb z1n 148 [(.map<|some z1x)],ym z1x (Value.int .i64) (Value.int .i64) z28]) (fun(b8o1_87226:Nat) (cap8o2_87226:Nat) (b12o1_87226:Nat) (b13o1_87226:Nat)=>True) (y1U 17 [13,12,10,8,9,7,6,5,4,3,2,1,0]) ?_<|fun K8o10o12o13_87226=>?_
     ·skip
      rintro b8o1_87226 cap8o2_87226 b12o1_87226 b13o1_87226 _
      refine WD.choose [11,14] (by kernel_rfl) U ?_
      refine WDo.cons ?_<|WDo.cons ?_<|WDo.nil
      ·refine WDo.quiet (i:=11) (d:=48) U U U U (fun h'=>absurd h' (by decide)) (yc yq U<|y63 .h2<|(y31 (enc:=e3) (l:=z1o) (i:=z2b) (sz:=1) (fun _=>U) z3S.1 z3S.2) 0 _ U) ?_
       exact Lw (.a11) (.r14 U U U U U U U U U U U U U U)<|K8o10o11o12o13_87226 b8o1_87226 cap8o2_87226 b12o1_87226 b13o1_87226 trivial
      ·refine WDo.forced0 (i:=14) U U U U (Sin.wk (.s2 .h5 .h4)<|.stb (.cons U .nil)<|.same .nil) (yn yhi U U U .h1 U U U) ?_
       refine Li 11 48 U (yc yq U<|y63 .h2<|(y31 (enc:=e3) (l:=z1o) (i:=z2b) (sz:=1) (fun _=>U) z3S.1 z3S.2) 0 _ U) ?_
       exact Lw (.a11) (.r13 U U U U U U U U U U U U U)<|K8o10o11o12o13o14_87226 b8o1_87226 cap8o2_87226 b12o1_87226 b13o1_87226 trivial
     refine WD.ydG (fuel':=5) (fun(b8o1_87226:Nat) (cap8o2_87226:Nat)=>[(3,(.map<|some z17)),(4,(vp z1b)),(6,(vp z1S)),(10,(.map<|some z1K)),(11,(vp z1n)),(12,(vi z2n)),(25,J),(26,K),(27,(vi zd)),(14,E),(41,C),(48,(vi<|nth z1o z2b))]) (fun(b8o1_87226:Nat) (cap8o2_87226:Nat)=>[row (.slice (some ⟨b8o1_87226,0,none⟩) z1o.length cap8o2_87226) 3 1 (z1o.flatMap e3),ym z17 (fun x=>Value.agg (e94 x).toArray) (Value.int .i64) z1O,fz z2j,stb z1b 31 A,stb z1S 94 I,ym z1K (Value.int .i64) slv (y2I z1I),y2m (y2e 201 1 y4m) z1I,stb z1n 148 [(.map<|some z1x)],ym z1x (Value.int .i64) (Value.int .i64) z28]) (fun(b8o1_87226:Nat) (cap8o2_87226:Nat)=>True) (y1U 17 [11,10,8,9,7,6,5,4,3,2,1,0]) ?_<|fun K8o10o11_87226=>?_
     ·skip
      rintro b8o1_87226 cap8o2_87226 _
      refine WD.choose [12,13] (by kernel_rfl) U ?_
      refine WDo.cons ?_<|WDo.cons ?_<|WDo.nil
      ·refine WDo.new (i:=12) (dd:=16) U U U U (yv (cs:=D) y9a U) (fun h'=>absurd h' (by decide)) fun b12o1_87226 _=>Lw (.a10) (.r13 U U U U U U U U U U U U U)<|K8o10o11o12_87226 b8o1_87226 cap8o2_87226 b12o1_87226 trivial
      ·refine WDo.new (i:=13) (dd:=17) U U U U (yv (cs:=[(vi 0)]) y2v U) (fun h'=>absurd h' (by decide)) fun b13o1_87226 _=>Lw (.a10) (.r13 U U U U U U U U U U U U U)<|K8o10o11o13_87226 b8o1_87226 cap8o2_87226 b13o1_87226 trivial
     refine WD.ybz (fuel':=5) (fun(b8o1_87226:Nat) (cap8o2_87226:Nat) (b12o1_87226:Nat)=>[(3,(.map<|some z17)),(4,(vp z1b)),(6,(vp z1S)),(10,(.map<|some z1K)),(11,(vp z1n)),(12,(vi z2n)),(25,J),(26,K),(27,(vi zd)),(14,E),(41,C),(47,(.pointer<|some ⟨b8o1_87226,(z2b:Int).toNat*1,none⟩)),(16,(vp b12o1_87226))]) (fun(b8o1_87226:Nat) (cap8o2_87226:Nat) (b12o1_87226:Nat)=>[stb b12o1_87226 69 D,row (.slice (some ⟨b8o1_87226,0,none⟩) z1o.length cap8o2_87226) 3 1 (z1o.flatMap e3),ym z17 (fun x=>Value.agg (e94 x).toArray) (Value.int .i64) z1O,fz z2j,stb z1b 31 A,stb z1S 94 I,ym z1K (Value.int .i64) slv (y2I z1I),y2m (y2e 201 1 y4m) z1I,stb z1n 148 [(.map<|some z1x)],ym z1x (Value.int .i64) (Value.int .i64) z28]) (fun(b8o1_87226:Nat) (cap8o2_87226:Nat) (b12o1_87226:Nat)=>True) (y1U 17 [12,10,8,9,7,6,5,4,3,2,1,0]) ?_<|fun K8o10o12_87226=>?_
     ·skip
      rintro b8o1_87226 cap8o2_87226 b12o1_87226 _
      refine WD.choose [11,13] (by kernel_rfl) U ?_
      refine WDo.cons ?_<|WDo.cons ?_<|WDo.nil
      ·refine WDo.quiet (i:=11) (d:=48) U U U U (fun h'=>absurd h' (by decide)) (yc yq U<|y63 .h1<|(y31 (enc:=e3) (l:=z1o) (i:=z2b) (sz:=1) (fun _=>U) z3S.1 z3S.2) 0 _ U) ?_
       exact Lw (.a10) (.r13 U U U U U U U U U U U U U)<|K8o10o11o12_87226 b8o1_87226 cap8o2_87226 b12o1_87226 trivial
      ·refine WDo.new (i:=13) (dd:=17) U U U U (yv (cs:=[(vi 0)]) y2v U) (fun h'=>absurd h' (by decide)) fun b13o1_87226 _=>Lw (.a11) (.r14 U U U U U U U U U U U U U U)<|K8o10o12o13_87226 b8o1_87226 cap8o2_87226 b12o1_87226 b13o1_87226 trivial
     refine WD.ybz (fuel':=5) (fun(b8o1_87226:Nat) (cap8o2_87226:Nat) (b13o1_87226:Nat)=>[(3,(.map<|some z17)),(4,(vp z1b)),(6,(vp z1S)),(10,(.map<|some z1K)),(11,(vp z1n)),(12,(vi z2n)),(25,J),(26,K),(27,(vi zd)),(14,E),(41,C),(47,(.pointer<|some ⟨b8o1_87226,(z2b:Int).toNat*1,none⟩)),(17,(vp b13o1_87226))]) (fun(b8o1_87226:Nat) (cap8o2_87226:Nat) (b13o1_87226:Nat)=>[stb b13o1_87226 3 [(vi 0)],row (.slice (some ⟨b8o1_87226,0,none⟩) z1o.length cap8o2_87226) 3 1 (z1o.flatMap e3),ym z17 (fun x=>Value.agg (e94 x).toArray) (Value.int .i64) z1O,fz z2j,stb z1b 31 A,stb z1S 94 I,ym z1K (Value.int .i64) slv (y2I z1I),y2m (y2e 201 1 y4m) z1I,stb z1n 148 [(.map<|some z1x)],ym z1x (Value.int .i64) (Value.int .i64) z28]) (fun(b8o1_87226:Nat) (cap8o2_87226:Nat) (b13o1_87226:Nat)=>True) (y1U 17 [13,10,8,9,7,6,5,4,3,2,1,0]) ?_<|fun K8o10o13_87226=>?_
     ·skip
      rintro b8o1_87226 cap8o2_87226 b13o1_87226 _
      refine WD.choose [11,12] (by kernel_rfl) U ?_
      refine WDo.cons ?_<|WDo.cons ?_<|WDo.nil
      ·refine WDo.quiet (i:=11) (d:=48) U U U U (fun h'=>absurd h' (by decide)) (yc yq U<|y63 .h1<|(y31 (enc:=e3) (l:=z1o) (i:=z2b) (sz:=1) (fun _=>U) z3S.1 z3S.2) 0 _ U) ?_
       exact Lw (.a10) (.r13 U U U U U U U U U U U U U)<|K8o10o11o13_87226 b8o1_87226 cap8o2_87226 b13o1_87226 trivial
      ·refine WDo.new (i:=12) (dd:=16) U U U U (yv (cs:=D) y9a U) (fun h'=>absurd h' (by decide)) fun b12o1_87226 _=>Lw (.s11 .h1 .here .here .here .here .here .here .here .here .here .here) (.r14 U U U U U U U U U U U U U U)<|K8o10o12o13_87226 b8o1_87226 cap8o2_87226 b12o1_87226 b13o1_87226 trivial
     refine WD.ydG (fuel':=6) (fun(b8o1_87226:Nat) (cap8o2_87226:Nat)=>[(3,(.map<|some z17)),(4,(vp z1b)),(6,(vp z1S)),(10,(.map<|some z1K)),(11,(vp z1n)),(12,(vi z2n)),(25,J),(26,K),(27,(vi zd)),(14,E),(41,C),(47,(.pointer<|some ⟨b8o1_87226,(z2b:Int).toNat*1,none⟩))]) (fun(b8o1_87226:Nat) (cap8o2_87226:Nat)=>[row (.slice (some ⟨b8o1_87226,0,none⟩) z1o.length cap8o2_87226) 3 1 (z1o.flatMap e3),ym z17 (fun x=>Value.agg (e94 x).toArray) (Value.int .i64) z1O,fz z2j,stb z1b 31 A,stb z1S 94 I,ym z1K (Value.int .i64) slv (y2I z1I),y2m (y2e 201 1 y4m) z1I,stb z1n 148 [(.map<|some z1x)],ym z1x (Value.int .i64) (Value.int .i64) z28]) (fun(b8o1_87226:Nat) (cap8o2_87226:Nat)=>True) (y1U 17 [10,8,9,7,6,5,4,3,2,1,0]) ?_<|fun K8o10_87226=>?_
     ·skip
      rintro b8o1_87226 cap8o2_87226 _
      refine WD.choose [11,12,13] (by kernel_rfl) U ?_
      refine WDo.cons ?_<|WDo.cons ?_<|WDo.cons ?_<|WDo.nil
      ·refine WDo.quiet (i:=11) (d:=48) U U U U (fun h'=>absurd h' (by decide)) (yc yq U<|y63 .here<|(y31 (enc:=e3) (l:=z1o) (i:=z2b) (sz:=1) (fun _=>U) z3S.1 z3S.2) 0 _ U) ?_
       exact Lw (.a9) (.r12 U U U U U U U U U U U U)<|K8o10o11_87226 b8o1_87226 cap8o2_87226 trivial
      ·refine WDo.new (i:=12) (dd:=16) U U U U (yv (cs:=D) y9a U) (fun h'=>absurd h' (by decide)) fun b12o1_87226 _=>Lw (.a10) (.r13 U U U U U U U U U U U U U)<|K8o10o12_87226 b8o1_87226 cap8o2_87226 b12o1_87226 trivial
      ·refine WDo.new (i:=13) (dd:=17) U U U U (yv (cs:=[(vi 0)]) y2v U) (fun h'=>absurd h' (by decide)) fun b13o1_87226 _=>Lw (.a10) (.r13 U U U U U U U U U U U U U)<|K8o10o13_87226 b8o1_87226 cap8o2_87226 b13o1_87226 trivial
     let H:Value:=(.agg #[Y,W,Aa,Ab,P,Ac,Ad,X]);refine WD.ydG (fuel':=6) (fun(b12o1_87226:Nat) (b13o1_87226:Nat)=>[(3,(.map (some z17))),(4,(vp z1b)),(6,(vp z1S)),(10,(.map (some z1K))),(11,(vp z1n)),(12,(vi z2n)),(25,J),(26,K),(27,(vi zd)),(14,E),(41,C),(42,H),(43,E),(44,(.map (some z17))),(46,(vi z2b)),(16,(vp b12o1_87226)),(17,(vp b13o1_87226))]) (fun(b12o1_87226:Nat) (b13o1_87226:Nat)=>[stb b13o1_87226 3 [(vi 0)],stb b12o1_87226 69 D,fz z2j,ym z17 (fun x=>Value.agg (e94 x).toArray) (Value.int .i64) z1O,stb z1b 31 A,stb z1S 94 I,ym z1K (Value.int .i64) slv (y2I z1I),y2m (y2e 201 1 y4m) z1I,stb z1n 148 [(.map (some z1x))],ym z1x (Value.int .i64) (Value.int .i64) z28]) (fun(b12o1_87226:Nat) (b13o1_87226:Nat)=>True) (y1U 17 [13,12,9,7,6,5,4,3,2,1,0]) ?_ (fun K12o13_87226=>?_)
     ·skip
      rintro b12o1_87226 b13o1_87226 _
      refine WD.call2 (i:=8) (dd:=45) U (by kernel_rfl) U U U (.inl ⟨U,fun _ _=>(Sin.wk (.s2 .h5 .h4)<|.stb (.cons U .nil)<|.same .nil)⟩) (zb Tryz.call37<|.r3 U U U) (.cons .h3 .nil) (ccz hz (.cons .h3 .nil) .h2 fun w pz ho=>y5m zs1 w pz ((zoi.mono<|(Zle.left _ _).trans zZ).weak (fun _ _ h=>y1c ((Zle.left _ _).trans zZ) h)) ((zoj.mono<|(Zle.left _ _).trans zZ).weak (fun _ _ h=>y1o ((Zle.left _ _).trans zZ) h)) (zol.mono<|(Zle.left _ _).trans zZ) (zom.mono<|(Zle.left _ _).trans zZ) ((zkU.mono<|(Zle.left _ _).trans zZ).weak (fun _ _ h=>y1e ((Zle.left _ _).trans zZ) h)) (zon.mono<|(Zle.left _ _).trans zZ) ((zoo.mono<|(Zle.left _ _).trans zZ).weak (fun _ _ h=>y1p ((Zle.left _ _).trans zZ) h)) (zop.mono<|(Zle.left _ _).trans zZ) zhH ho) ?_
      rintro ao8o1_87226 cap8o2_87226 _
      refine WD.know (fun w hw=>Hp.y2u .here hw (by intro hz';have:=z3S;rw[hz'] at this;omega)) ?_
      rintro⟨b8o1_87226,rfl⟩
      refine Lf 10 47 U (fun _=>yW y52 U U z3S.1 z3S.2 y30) ?_
      exact Lw (.s11 .h2 .h2 .here .here .here .here .here .here .here .here .here) (.r14 U U U U U U U U U U U U U U)<|K8o10o12o13_87226 b8o1_87226 cap8o2_87226 b12o1_87226 b13o1_87226 trivial
     refine WD.yfO (fuel':=7) (fun(b12o1_87226:Nat)=>[(3,(.map<|some z17)),(4,(vp z1b)),(6,(vp z1S)),(10,(.map<|some z1K)),(11,(vp z1n)),(12,(vi z2n)),(25,J),(26,K),(27,(vi zd)),(14,E),(41,C),(42,H),(43,E),(44,(.map<|some z17)),(46,(vi z2b)),(16,(vp b12o1_87226))]) (fun(b12o1_87226:Nat)=>[stb b12o1_87226 69 D,fz z2j,ym z17 (fun x=>Value.agg (e94 x).toArray) (Value.int .i64) z1O,stb z1b 31 A,stb z1S 94 I,ym z1K (Value.int .i64) slv (y2I z1I),y2m (y2e 201 1 y4m) z1I,stb z1n 148 [(.map<|some z1x)],ym z1x (Value.int .i64) (Value.int .i64) z28]) (fun(b12o1_87226:Nat)=>True) (y1U 17 [12,9,7,6,5,4,3,2,1,0]) ?_<|fun K12_87226=>?_
     ·skip
      rintro b12o1_87226 _
      refine WD.choose [8,13] (by kernel_rfl) U ?_
      refine WDo.cons ?_<|WDo.cons ?_<|WDo.nil
      ·refine WDo.call2 (i:=8) (dd:=45) U U U U (.inl ⟨U,fun _ _=>(Sin.wk (.s2 .h4 .h3)<|.stb (.cons U .nil)<|.same .nil)⟩) (zb Tryz.call37<|.r3 U U U) (.cons .h2 .nil) (ccz hz (.cons .h2 .nil) .h1 fun w pz ho=>y5m zs1 w pz ((zoi.mono<|(Zle.left _ _).trans zZ).weak (fun _ _ h=>y1c ((Zle.left _ _).trans zZ) h)) ((zoj.mono<|(Zle.left _ _).trans zZ).weak (fun _ _ h=>y1o ((Zle.left _ _).trans zZ) h)) (zol.mono<|(Zle.left _ _).trans zZ) (zom.mono<|(Zle.left _ _).trans zZ) ((zkU.mono<|(Zle.left _ _).trans zZ).weak (fun _ _ h=>y1e ((Zle.left _ _).trans zZ) h)) (zon.mono<|(Zle.left _ _).trans zZ) ((zoo.mono<|(Zle.left _ _).trans zZ).weak (fun _ _ h=>y1p ((Zle.left _ _).trans zZ) h)) (zop.mono<|(Zle.left _ _).trans zZ) zhH ho) ?_
       rintro ao8o1_87226 cap8o2_87226 _
       refine WD.know (fun w hw=>Hp.y2u .here hw (by intro hz';have:=z3S;rw[hz'] at this;omega)) ?_
       rintro⟨b8o1_87226,rfl⟩
       refine Lf 10 47 U (fun _=>yW y52 U U z3S.1 z3S.2 y30) ?_
       exact Lw (.s10 .h2 .here .here .here .here .here .here .here .here .here) (.r13 U U U U U U U U U U U U U)<|K8o10o12_87226 b8o1_87226 cap8o2_87226 b12o1_87226 trivial
      ·refine WDo.new (i:=13) (dd:=17) U U U U (yv (cs:=[(vi 0)]) y2v U) (fun h'=>absurd h' (by decide)) fun b13o1_87226 _=>Lw (.a10) (.r17 U U U U U U U U U U U U U U U U U)<|K12o13_87226 b12o1_87226 b13o1_87226 trivial
     refine WD.yfO (fuel':=7) (fun(b13o1_87226:Nat)=>[(3,(.map<|some z17)),(4,(vp z1b)),(6,(vp z1S)),(10,(.map<|some z1K)),(11,(vp z1n)),(12,(vi z2n)),(25,J),(26,K),(27,(vi zd)),(14,E),(41,C),(42,H),(43,E),(44,(.map<|some z17)),(46,(vi z2b)),(17,(vp b13o1_87226))]) (fun(b13o1_87226:Nat)=>[stb b13o1_87226 3 [(vi 0)],fz z2j,ym z17 (fun x=>Value.agg (e94 x).toArray) (Value.int .i64) z1O,stb z1b 31 A,stb z1S 94 I,ym z1K (Value.int .i64) slv (y2I z1I),y2m (y2e 201 1 y4m) z1I,stb z1n 148 [(.map<|some z1x)],ym z1x (Value.int .i64) (Value.int .i64) z28]) (fun(b13o1_87226:Nat)=>True) (y1U 17 [13,9,7,6,5,4,3,2,1,0]) ?_<|fun K13_87226=>?_
     ·skip
      rintro b13o1_87226 _
      refine WD.choose [8,12] (by kernel_rfl) U ?_
      refine WDo.cons ?_<|WDo.cons ?_<|WDo.nil
      ·refine WDo.call2 (i:=8) (dd:=45) U U U U (.inl ⟨U,fun _ _=>(Sin.wk (.s2 .h4 .h3)<|.stb (.cons U .nil)<|.same .nil)⟩) (zb Tryz.call37<|.r3 U U U) (.cons .h2 .nil) (ccz hz (.cons .h2 .nil) .h1 fun w pz ho=>y5m zs1 w pz ((zoi.mono<|(Zle.left _ _).trans zZ).weak (fun _ _ h=>y1c ((Zle.left _ _).trans zZ) h)) ((zoj.mono<|(Zle.left _ _).trans zZ).weak (fun _ _ h=>y1o ((Zle.left _ _).trans zZ) h)) (zol.mono<|(Zle.left _ _).trans zZ) (zom.mono<|(Zle.left _ _).trans zZ) ((zkU.mono<|(Zle.left _ _).trans zZ).weak (fun _ _ h=>y1e ((Zle.left _ _).trans zZ) h)) (zon.mono<|(Zle.left _ _).trans zZ) ((zoo.mono<|(Zle.left _ _).trans zZ).weak (fun _ _ h=>y1p ((Zle.left _ _).trans zZ) h)) (zop.mono<|(Zle.left _ _).trans zZ) zhH ho) ?_
       rintro ao8o1_87226 cap8o2_87226 _
       refine WD.know (fun w hw=>Hp.y2u .here hw (by intro hz';have:=z3S;rw[hz'] at this;omega)) ?_
       rintro⟨b8o1_87226,rfl⟩
       refine Lf 10 47 U (fun _=>yW y52 U U z3S.1 z3S.2 y30) ?_
       exact Lw (.s10 .h2 .here .here .here .here .here .here .here .here .here) (.r13 U U U U U U U U U U U U U)<|K8o10o13_87226 b8o1_87226 cap8o2_87226 b13o1_87226 trivial
      ·refine WDo.new (i:=12) (dd:=16) U U U U (yv (cs:=D) y9a U) (fun h'=>absurd h' (by decide)) fun b12o1_87226 _=>Lw (.s10 .h1 .here .here .here .here .here .here .here .here .here) (.r17 U U U U U U U U U U U U U U U U U)<|K12o13_87226 b12o1_87226 b13o1_87226 trivial
     refine WD.choose [8,12,13] (by kernel_rfl) U ?_
     refine WDo.cons ?_<|WDo.cons ?_<|WDo.cons ?_<|WDo.nil
     ·refine WDo.call2 (i:=8) (dd:=45) U U U U (.inl ⟨U,fun _ _=>(Sin.wk (.s2 .h3 .h2)<|.stb (.cons U .nil)<|.same .nil)⟩) (zb Tryz.call37<|.r3 U U U) (.cons .h1 .nil) (ccz hz (.cons .h1 .nil) .here fun w pz ho=>y5m zs1 w pz ((zoi.mono<|(Zle.left _ _).trans zZ).weak (fun _ _ h=>y1c ((Zle.left _ _).trans zZ) h)) ((zoj.mono<|(Zle.left _ _).trans zZ).weak (fun _ _ h=>y1o ((Zle.left _ _).trans zZ) h)) (zol.mono<|(Zle.left _ _).trans zZ) (zom.mono<|(Zle.left _ _).trans zZ) ((zkU.mono<|(Zle.left _ _).trans zZ).weak (fun _ _ h=>y1e ((Zle.left _ _).trans zZ) h)) (zon.mono<|(Zle.left _ _).trans zZ) ((zoo.mono<|(Zle.left _ _).trans zZ).weak (fun _ _ h=>y1p ((Zle.left _ _).trans zZ) h)) (zop.mono<|(Zle.left _ _).trans zZ) zhH ho) ?_
      rintro ao8o1_87226 cap8o2_87226 _
      refine WD.know (fun w hw=>Hp.y2u .here hw (by intro hz';have:=z3S;rw[hz'] at this;omega)) ?_
      rintro⟨b8o1_87226,rfl⟩
      refine Lf 10 47 U (fun _=>yW y52 U U z3S.1 z3S.2 y30) ?_
      exact Lw (.a9) (.r12 U U U U U U U U U U U U)<|K8o10_87226 b8o1_87226 cap8o2_87226 trivial
     ·refine WDo.new (i:=12) (dd:=16) U U U U (yv (cs:=D) y9a U) (fun h'=>absurd h' (by decide)) fun b12o1_87226 _=>Lw (.a9) (.r16 U U U U U U U U U U U U U U U U)<|K12_87226 b12o1_87226 trivial
     ·refine WDo.new (i:=13) (dd:=17) U U U U (yv (cs:=[(vi 0)]) y2v U) (fun h'=>absurd h' (by decide)) fun b13o1_87226 _=>Lw (.a9) (.r16 U U U U U U U U U U U U U U U U)<|K13_87226 b13o1_87226 trivial
   ·rintro zde zdf zdg zhF zhG ⟨h,z109,z10a⟩
    replace h:=(zZR zde zdf zdg).symm.trans h
    refine Ld<|La U<|La U<|WL.nil ?_
    exact WX.round ⟨zBP,zde,(i64 (zd+1)),zdf,zdg,zhF,zhG⟩ ⟨h,(zZ.trans z109),z10a⟩ (Nat.lt_succ_self _) (.r9 U U U U U U U U U)<|.a8
  ·replace h:=ys h zBQ
   refine WC.exit<|Ln<|Ln<|Lu ?_
   exact Lo ⟨z2n,z3R,z28,z2j,z1I⟩ ⟨h,zZ,zs0⟩ (.r4 U U U U)<|.s7 .here .h1 .h2 .h2 .h2 .here .h1
 ·rintro most mp wide Zn lg ⟨h,hle,hm⟩
  replace h:=(zZQ most mp wide).symm.trans h
  obtain⟨hb,h⟩:=yl h
  obtain rfl:=oJ h
  clear h
  refine WC.b<|Ld<|WL.gh (G:=Zp) (φ:=fun Z1=>Zle (Z++Zn) (Z++Z1)∧RG (Z++Z1) (y5V (Z++Z1)) (y2I lg) mp) (L':=fun Z1=>[fz Z1,stb z1b 31 A,ym z1K (Value.int .i64) slv (y2I lg),stb z1n 148 [(.map<|some z1x)],ym z17 (fun x=>Value.agg (e94 x).toArray) (Value.int .i64) z1O,ym z1x (Value.int .i64) (Value.int .i64) wide]) (fun w hw=>?_) ?_
  ·have h1:=hw.sub (.s7 .h3 .here .here .here .here .here .here)
   obtain⟨Z1,k1,k2,k3⟩:=Hp.yce (Pr:=fun Z=>y5V Z) (fun k _ _ h=>y64 k h) hz lg mp Zn hm h1
   exact⟨Z1,⟨k1,k2⟩,k3⟩
  rintro Z1 ⟨hle1,hg1⟩
  refine WL.freezeC (Z:=Z) .h1 .here fun Z2 hle2 hc=>WL.freezeC (Z:=Z) .h2 .here fun Z3 hle3 h11=>WL.gh (G:=Zp) (φ:=fun Z4=>Zle (Z++Z3) (Z++Z4)∧ZA (Z++Z4) (ym z1x (Value.int .i64) (Value.int .i64) wide)) (L':=fun Z4=>[fz Z4,ym z1K (Value.int .i64) slv (y2I lg),ym z17 (fun x=>Value.agg (e94 x).toArray) (Value.int .i64) z1O]) (fun w hw=>?_) ?_
  ·obtain⟨Z4,k1,k2,k3⟩:=Hp.freeze (x:=ym z1x (Value.int .i64) (Value.int .i64) wide) .h3 .here hw
   exact⟨Z4,⟨k1.app,k2.mono (Zle.right _ _)⟩,k3⟩
  rintro Z4 ⟨hle4,hW⟩
  replace hg1:=hg1.up (hle2.trans (hle3.trans hle4)) (fun _ _ h=>y64 (hle2.trans (hle3.trans hle4)) h)
  replace hc:=hc.mono (hle3.trans hle4)
  replace h11:=h11.mono hle4
  have hZ:Zle Z (Z++Z4):=(Zle.left _ _).trans (hle.trans (hle1.trans (hle2.trans (hle3.trans hle4))))
  refine La U<|WL.nil<|Lb<|WC.y9W (fun(Zn:Zp) (ao:Option Addr) (cap:Nat) (cs:List Value) (fs:List (Int→Option Int))=>Zle (Z++Z4) (Z++Zn)∧RR 1 (y5V (Z++Zn)) cs fs∧fs.Perm (mp.map<|y6p z7 wide)) (fun Zn ao cap cs fs=>[(12,(vi most)),(20,(.slice ao fs.length cap))]) (fun Zn ao cap cs fs=>[fz Zn,row (.slice ao fs.length cap) 201 1 cs,ym z17 (fun x=>Value.agg (e94 x).toArray) (Value.int .i64) z1O]) ?_ ?_
  ·skip
   refine WC.b<|Ld<|La U<|WL.fA 81 (e_range Tryz.underlying198 U .h1) ?_
   rintro rr _
   refine WL.nil<|Lb<|WC.block<|WC.nilRow 201 1<|WC.yag (fun(Zn:Zp) (ao:Option Addr) (cap:Nat) (cs:List Value) (fs:List (Int→Option Int)) (rem:List (Int×((Option Addr×Nat)×List Value))) (l':List (Int×List (Int→Option Int))) (cur:Option (Int×((Option Addr×Nat)×List Value)))=>Zle (Z++Z4) (Z++Zn)∧RR 1 (y5V (Z++Zn)) cs fs∧RG (Z++Z4) (y5V (Z++Z4)) rem l'∧(fs++l'.map (y6p z7 wide)).Perm (mp.map<|y6p z7 wide)) (fun Zn ao cap cs fs rem l' cur=>[(4,(vp z1b)),(11,(vp z1n)),(12,(vi most)),(20,(.slice ao fs.length cap)),(81,(vp rr))]) (fun Zn ao cap cs fs rem l' cur=>[fz Zn,row (.slice ao fs.length cap) 201 1 cs,y6t rr z1K (Value.int .i64) slv (y2I lg) rem cur,ym z17 (fun x=>Value.agg (e94 x).toArray) (Value.int .i64) z1O]) (fun Zn ao cap cs fs rem l' cur=>rem.length) ⟨Z4,none,0,[],[],y2I lg,mp,none⟩ ⟨Zle.refl _,RR.nil _ _,hg1,.refl _⟩ (.r5 U U U U U) (.s4 .h2 .here .here .here) ?_
   rintro Zn ao cap cs fs rem l' cur ⟨hle5,hr,hg,hp⟩
   refine WC.b<|Ld<|WL.nextM U U U .h2 (fun hrem=>?_)<|fun i y m hx hm'=>?_
   ·subst hrem
    cases hg
    refine La U<|WL.nil<|Lb<|WC.b<|WC.cond U (fun h'=>(by cases h'))<|fun h'=>?_
    clear h'
    refine WC.exit<|Ln<|Ln<|Lu ?_
    exact Lo ⟨Zn,ao,cap,cs,fs⟩ ⟨hle5,hr,by simpa using hp⟩ (.r2 U U) (.s3 .h1 .h1 .h1)
   ·obtain⟨x,hx1,hxl,hxs,hg'⟩:=hg.at hx
    rw[← hm'] at hg'
    have hlen:rem.length=m.length+1:=by
     have h1:=(List.getElem?_eq_some_iff.1 hx).1
     rw[hm',List.length_eraseIdx,if_pos h1];omega
    have hpl:=hp.length_eq
    have hgl:=hg.len
    rw[List.length_append,List.length_map,List.length_map] at hpl
    refine La U<|WL.nil<|Lb<|WC.b<|WC.cond U (fun h'=>?_)<|fun h'=>(by cases h')
    clear h'
    refine WC.skip<|Lb<|WC.block<|WC.b<|Ld<|Le 84 (e_entry rfl .here)<|La U<|La U (Lg 21 (yv (cs:=[(vi 0)]) y2v U) fun b21 _=>Lg 22 (yv (cs:=[vn]) zDG U) fun b22 _=>Ll U U (yn ybc U U U .h1 U U U)<|Ll U U (yn (vs:=[slv y.2]) zM8 U U U .h1 U U U) (WL.freezeC (Z:=Z) .h1 .h2 fun Z5 hle6 h21=>WL.freezeC (Z:=Z) .h1 .here ?_))
    intro Z6 hle7 h22
    replace h21:=h21.mono hle7
    have e22:slv y.2 = .slice y.2.1.1 x.length y.2.1.2:=by unfold slv;rw[hxl]
    replace h22:ZC (Z++Z6) ⟨b22,0,none⟩ [.slice y.2.1.1 x.length y.2.1.2]:=by rw[← e22];exact h22
    have hle8:=hle5.trans (hle6.trans hle7)
    refine WL.nil<|Lb<|Ld<|La U ?_
    let Q:Value:=(.func (.func 99) #[] #[(vp b21),(vp b22),(vp z1n),(vp z1b)]);have hfd:y5V (Z++Z6) [Q] (y6p z7 wide (y.1,x)):=⟨99,[(vp b21),(vp b22),(vp z1n),(vp z1b)],U,Tryz.call99,fun w' hz' y0 r hr=>ybn (Z:=Z++Z6) (zB2:=⟨b21,0,none⟩) (zB3:=⟨b22,0,none⟩) (zB4:=y.2.1.1) (zB5:=y.2.1.2) (zB6:=⟨z1n,0,none⟩) (zB7:=z1x) (zB8:=⟨z1b,0,none⟩) (zB9:=z2B) (zBa:=z2C) (zBb:=z2D) (zBc:=z2E) (zBd:=z2F) (zBe:=z2G) (zBf:=z2H) (zBg:=z2I) (zBh:=z2t) (zBi:=z2u) (zBj:=z2J) (zBk:=z2K) (zBl:=z2L) (zBm:=z2M) (zBn:=z2N) (zBo:=z2O) (zhA:=y0) (z9U:=y.1) (zhB:=x) (zog:=wide) (z3Q:=z7) (r:=r) (h:=hr) (w₀:=w') (hz:=hz') (hmW:=hW.mono hle8) (zrC:=h21) (zBp:=((ZSB.of hxs).up hle8 (fun _ _ h=>y64 hle8 h))) (zBq:=h22) (zKD:=(h11.mono hle8)) (zZc:=((zoi.mono (hZ.trans hle8)).weak (fun _ _ h=>y1c (hZ.trans hle8) h))) (zZd:=((zoj.mono (hZ.trans hle8)).weak (fun _ _ h=>y1o (hZ.trans hle8) h))) (zZe:=(zol.mono (hZ.trans hle8))) (zKE:=(zom.mono (hZ.trans hle8))) (zZf:=((zkU.mono (hZ.trans hle8)).weak (fun _ _ h=>y1e (hZ.trans hle8) h))) (zZg:=(zon.mono (hZ.trans hle8))) (zZh:=((zoo.mono (hZ.trans hle8)).weak (fun _ _ h=>y1p (hZ.trans hle8) h))) (zZi:=(zop.mono (hZ.trans hle8))) (zKF:=(hc.mono hle8))⟩
    refine Le 88 (y16<|L3 (l:=[.tmp 21,.tmp 22,.tmp 11,.tmp 4])<|.r4 U U U U)<|Lg 89 (yS (cs:=[(.func (.func 99) #[] #[(vp b21),(vp b22),(vp z1n),(vp z1b)])]) zlA (Lp (l:=[.tmp 88]) (.cons U .nil) [0]) (fun _=>by kernel_rfl) U (by unfold maxLen;omega)) ?_
    intro b89 _
    have hr2:RR 1 (y5V (Z++Z6)) [Q] ([y6p z7 wide (y.1,x)]:List (Int→Option Int)):=RR.one U hfd
    have hr1:=hr.weak (fun _ _ h=>y64 (hle6.trans hle7) h)
    refine WL.fA 90 (y8h (l1:=fs) (l2:=([y6p z7 wide (y.1,x)]:List (Int→Option Int))) (news:=[(.func (.func 99) #[] #[(vp b21),(vp b22),(vp z1n),(vp z1b)])]) (Pr:=(y5V (Z++Z6))) zlA U U .h3 hr2 (y3u .here) (yb5 U ycq) ⟨by rw[List.length_append,List.length_singleton];omega,by rw[List.length_append,List.length_singleton];omega⟩) ?_
    rintro⟨ao',cap'⟩ _
    refine La U<|WL.nil<|Lt ?_
    have hp2:((fs++[y6p z7 wide (y.1,x)])++(l'.eraseIdx i).map (y6p z7 wide)).Perm (mp.map (y6p z7 wide)):=by
     refine List.Perm.trans ?_ hp
     rw[List.append_assoc]
     refine List.Perm.append_left _ ?_
     exact(yed hx1).map (y6p z7 wide)
    exact WX.round ⟨Z6,ao',cap',cs++[(.func (.func 99) #[] #[(vp b21),(vp b22),(vp z1n),(vp z1b)])],fs++[y6p z7 wide (y.1,x)],m,l'.eraseIdx i,some y⟩ ⟨hle8,RR.app hr1 hr2,hg',hp2⟩ (by show m.length<rem.length;omega) (.r5 U U U U U)<|.s4 .h2 .here .h1 .h1
  ·rintro Zn ao cap cs fs ⟨hle5,hr,hp⟩
   have hlen:fs.length=(mp.map (y6p z7 wide)).length:=hp.length_eq
   refine WC.b<|Ld<|La U<|La U<|La U<|La U (WL.freezeS (ls:=fs) .h1 .here hz hr fun Z7 hle6 h7=>WL.nil<|Lb<|WC.ret<|Lh Tryz.results53 (.tmp U<|.tmp U .nil)<|fun w hw=>?_)
   refine⟨Z7,ao,cap,?_,⟨fs,hp,h7.weak fun _ _ h=>y64 hle6 h⟩,hw.sub (.a2)⟩
   show Ending.returned _=_
   rw[← hlen]
   exact y1R U U
def y3T(z30:List (Int→Option Int)×Int)(zS:zs)(zT:z8)(zdh:Int→Option (S36×Int)):Nat→Int→Option (S36×Int)
 | 0,_=>none
 | zBV+1,z6y=>(y28 z30.1 (i64 (z6y-1))).bind fun zKU=>if decide ((i64 (((nth zS.fK zT.fQ).fSlow)*zKU))>z6y) then if decide ((i64 (z6y+1))>32768) then some ((⟨0,0,0,0⟩:S36),360) else y3T z30 zS zT zdh zBV (i64 (z6y+1)) else zdh z6y
theorem yaJ{n:Nat}{z30:List (Int→Option Int)×Int}{zS:zs}{zT:z8}{zdh:Int→Option (S36×Int)}{z6y:Int}{r:S36×Int}(h:y3T z30 zS zT zdh n z6y=some r):∃ m,n=m+1:=by
 cases n with
 | zero=>cases h
 | succ m=>exact⟨m,rfl⟩
def y3U(z4S:Int)(z4w:Int)(z30:List (Int→Option Int)×Int)(zS:zs)(zT:z8)(zdi:Int→Int→Option (S36×Int)):Nat→Int→Int→Int→Option (S36×Int)
 | 0,_,_,_=>none
 | zBW+1,z3T,z6z,z6A=>if decide (z3T<(i64 (z4S+z4w))) then(y28 z30.1 z3T).bind fun zfH=>jp1 (fun(zbc:Int)=>chk ((((nth zS.fK zT.fQ).fSlow):Int)≠0) (y3U z4S z4w z30 zS zT zdi zBW (i64 (z3T+1)) zbc (max z6A (i64 (zfH-(i64 (Int.tdiv (i64 ((i64 ((max (i64 (z3T-z4w)) 0)+((nth zS.fK zT.fQ).fSlow)))-1)) ((nth zS.fK zT.fQ).fSlow)))))))) fun zs5=>if decide (z3T<z4S) then zs5 (max z6z (i64 ((i64 ((i64 (((nth zS.fK zT.fQ).fSlow)*zfH))-z3T))+z4w))) else zs5 z6z else zdi z6z z6A
theorem yaK{n:Nat}{z4S:Int}{z4w:Int}{z30:List (Int→Option Int)×Int}{zS:zs}{zT:z8}{zdi:Int→Int→Option (S36×Int)}{z3T:Int}{z6z:Int}{z6A:Int}{r:S36×Int}(h:y3U z4S z4w z30 zS zT zdi n z3T z6z z6A=some r):∃ m,n=m+1:=by
 cases n with
 | zero=>cases h
 | succ m=>exact⟨m,rfl⟩
def y5v(zS:zs)(zot:List (List ze))(zT:z8)(z8s:List (z8×Int)):Option (S36×Int):=
 (y4h zS zot zT z8s).bind fun z30=>chk ((0:Int)≤zT.fQ∧zT.fQ<((zS.fK.length:Nat):Int)) ((y4x zS zT.fNode).bind fun z4w=>jp1 (fun(z4S:Int)=>jp2 (fun(zdj:Int) (zdk:Int)=>some (({zT with fDelay:=zdj,fT:=i64 (zdk+z30.2)}:S36),0)) fun zdi=>y3U z4S z4w z30 zS zT zdi yx 0 0 0) fun zdh=>y3T z30 zS zT zdh yx 1)
theorem yep{Z:Zp}{zBX:Option Addr}{zBY:Nat}{zBZ:Option Addr}{zC0:Nat}{zC1:Option Addr}{zC2:Nat}{zC3:Option Addr}{zC4:Nat}{zC5:Option Addr}{zC6:Nat}{zC7:Option Addr}{zC8:Nat}{zC9:Option Addr}{zCa:Nat}{zCb:Option Addr}{zCc:Nat}{zKV:Option Addr}{zKW:Nat}{z9W:Nat}{zS:zs}{zot:List (List ze)}{zT:z8}{z8s:List (z8×Int)}{r:S36×Int}(h:y5v zS zot zT z8s=some r)(w₀:World)(hz:PZ (fps [ym z9W (fun x=>Value.agg (e94 x).toArray) (Value.int .i64) z8s]) w₀ Z)(zKX:ZS Z 4 (y3L Z) zBX zBY zS.fM)(zKY:ZS Z 4 (y4n Z) zBZ zC0 zS.fC0)(zKZ:ZS Z 4 (fun r x=>r=e64 x) zC1 zC2 zS.fS)(zCd:ZS Z 4 (fun r x=>r=e62 x) zC3 zC4 zS.fK)(zL0:ZS Z 7 (p69 Z) zC5 zC6 zS.fVLs)(zL1:ZS Z 5 (fun r x=>r=y4C x) zC7 zC8 zS.fH)(zL2:ZS Z 3 (y4o Z) zC9 zCa zS.fU)(zL3:ZS Z 4 (fun r x=>r=y4D x) zCb zCc zS.fV0)(z10b:ZS Z 1 (p58 Z) zKV zKW zot)(hown:Hp (fps [ym z9W (fun x=>Value.agg (e94 x).toArray) (Value.int .i64) z8s]) w₀ w₀ [ym z9W (fun x=>Value.agg (e94 x).toArray) (Value.int .i64) z8s]):
  Calls Tryz.prog 25 #[(.agg #[(.slice zBX zS.fM.length zBY),(.slice zBZ zS.fC0.length zC0),(.slice zC1 zS.fS.length zC2),(.slice zC3 zS.fK.length zC4),(.slice zC5 zS.fVLs.length zC6),(.slice zC7 zS.fH.length zC8),(.slice zC9 zS.fU.length zCa),(.slice zCb zS.fV0.length zCc)]),(.slice zKV zot.length zKW),(.agg #[(vi zT.fNode),(vi zT.fQ)]),(.map (some z9W))] w₀ fun e w'=>e = .returned (.tuple #[(.agg #[(vi r.1.fNode),(vi r.1.fQ),(vi r.1.fDelay),(vi r.1.fT)]),(vi r.2)])∧Hp (fps [ym z9W (fun x=>Value.agg (e94 x).toArray) (Value.int .i64) z8s]) w₀ w' [ym z9W (fun x=>Value.agg (e94 x).toArray) (Value.int .i64) z8s]:=by
 unfold y5v at h
 refine Calls.oh4 Tryz.func25 Tryz.ntmps25 hown ?_
 refine WC.pool<|WC.b<|Ld (Lg 4 (yI (cs:=[(.slice zBX zS.fM.length zBY),(.slice zBZ zS.fC0.length zC0),(.slice zC1 zS.fS.length zC2),(.slice zC3 zS.fK.length zC4),(.slice zC5 zS.fVLs.length zC6),(.slice zC7 zS.fH.length zC8),(.slice zC9 zS.fU.length zCa),(.slice zCb zS.fV0.length zCc)]) U U) fun z19L _=>Lg 6 (yI (cs:=[(vi zT.fNode),(vi zT.fQ)]) U U) ?_)
 intro z19M _
 let A:List Value:=[(vi 0),(vi 0),(vi 0),(vi 0)];refine Lg 8 (yv (cs:=A) y88 U) ?_
 intro zbd _
 refine La U<|WL.nil<|Lb<|WC.b ?_
 obtain⟨z30,z10c,h⟩:=za h
 refine Ld<|Le 19 (yh y1V U (yj .h2) U)<|La U<|Le 21 (yh yd7 U (yj .h1) U)<|La U<|WL.yf9 (dd:=23) U U U (zb Tryz.call53<|.r4 U U U U) (.cons .h4 .nil) (ccz hz (.cons .h4 .nil) .h3 fun w pz ho=>ycl z10c w pz ((zKX.mono<|Zle.left _ _).weak (fun _ _ h=>y1c (Zle.left _ _) h)) ((zKY.mono<|Zle.left _ _).weak (fun _ _ h=>y1o (Zle.left _ _) h)) (zKZ.mono<|Zle.left _ _) (zCd.mono<|Zle.left _ _) ((zL0.mono<|Zle.left _ _).weak (fun _ _ h=>y1e (Zle.left _ _) h)) (zL1.mono<|Zle.left _ _) ((zL2.mono<|Zle.left _ _).weak (fun _ _ h=>y1p (Zle.left _ _) h)) (zL3.mono<|Zle.left _ _) ((z10b.mono<|Zle.left _ _).weak (fun _ _ h=>y1B (Zle.left _ _) h)) ho) ?_
 rintro zkW zs6 zs7 zL4
 refine WL.merge .here .h4<|La U<|La U<|La U<|La U<|La U<|WL.nil<|Lb<|WC.b ?_
 obtain⟨z10d,h⟩:=yl h
 obtain⟨z4w,z10e,h⟩:=za h
 refine Lv (fun i=>[].contains i) [] U<|Lf 0 26 U (fun _=>ya y74 U U)<|Li 1 27 U (yc y75 U<|yi .h4 U)<|Lf 2 28 U (fun _=>ya yhj U U)<|Li 3 29 U (yc yq U<|yi .h3 U)<|L5 (j:=4) (dd:=30) (by kernel_rfl) U z1Z z20 U U (Z:=(Z++([]++zkW))) (Pr:=(fun r x=>r=e62 x)) y9p U U (zCd.mono<|(Zle.left _ _).trans ((Zle.left _ _).trans (Zle.yN _ _ _))) z10d ?_
 rintro z19N z19O z10f z19P rfl
 refine Lf 5 31 U (fun _=>ya y8j U U)<|Li 6 32 U (yc yq U<|y17 (hz.pv2 .here) z10f U)<|Li 7 33 U (yh y1V U (yj .h4) U)<|Lf 8 34 U (fun _=>ya yeU U U)<|Li 9 35 U (yc yq U<|yi .h3 U)<|L4 10 36 U (zb Tryz.call54<|.r2 U U) (ccz hz .nil .here fun w pz ho=>y9A z10e w pz ((zKX.mono<|(Zle.left _ _).trans ((Zle.left _ _).trans (Zle.yN _ _ _))).weak (fun _ _ h=>y1c ((Zle.left _ _).trans ((Zle.left _ _).trans (Zle.yN _ _ _))) h)) ((zKY.mono<|(Zle.left _ _).trans ((Zle.left _ _).trans (Zle.yN _ _ _))).weak (fun _ _ h=>y1o ((Zle.left _ _).trans ((Zle.left _ _).trans (Zle.yN _ _ _))) h)) (zKZ.mono<|(Zle.left _ _).trans ((Zle.left _ _).trans (Zle.yN _ _ _))) (zCd.mono<|(Zle.left _ _).trans ((Zle.left _ _).trans (Zle.yN _ _ _))) ((zL0.mono<|(Zle.left _ _).trans ((Zle.left _ _).trans (Zle.yN _ _ _))).weak (fun _ _ h=>y1e ((Zle.left _ _).trans ((Zle.left _ _).trans (Zle.yN _ _ _))) h)) (zL1.mono<|(Zle.left _ _).trans ((Zle.left _ _).trans (Zle.yN _ _ _))) ((zL2.mono<|(Zle.left _ _).trans ((Zle.left _ _).trans (Zle.yN _ _ _))).weak (fun _ _ h=>y1p ((Zle.left _ _).trans ((Zle.left _ _).trans (Zle.yN _ _ _))) h))<|zL3.mono<|(Zle.left _ _).trans ((Zle.left _ _).trans (Zle.yN _ _ _)))<|Lf 11 12 U (fun _=>q_z U)<|Lf 12 13 U (fun _=>q_z U)<|WD.done (by kernel_rfl)<|Lb<|WC.b<|Ld<|Le 37 (ya yeU U U)<|Le 38 (yc yq U<|yi .h3 U)<|Le 39 (ya yhj U U)<|Le 40 (yc yq U<|yi .h3 U)<|Le 41 (yL (v:=(.agg #[(vi zT.fNode),(vi zT.fQ),(vi 0),(vi 0)])) (Lp (l:=[.tmp 38,.tmp 40]) (.r2 U U) [0,1]) (fun _=>by kernel_rfl)) (Lg 14 (yv (cs:=A) y88 U) fun zbe _=>Ll U U (yn y8k U U U .here U U U)<|WL.nil<|Lb<|WC.b<|Ld<|La U<|WL.nil<|Lb ?_)
 obtain⟨zdh,z10g,h⟩:=yZ h
 let D:Value:=(vi ((nth zS.fK zT.fQ).fSlow));let E:Value:=(.slice zs6 z30.1.length zs7);let G:List Value:=[(vi zT.fNode),(vi zT.fQ),(vi 0),(vi 0)];refine Kf (fun(z4S:Int)=>(zdh z4S=some r)) (fun z4S=>[(8,(vp zbd)),(10,E),(11,(vi z30.2)),(12,D),(13,(vi z4w)),(14,(vp zbe)),(15,(vi z4S))]) (fun z4S=>[fz ([]++zkW),stb zbd 37 A,stb zbe 37 G,ym z9W (fun x=>Value.agg (e94 x).toArray) (Value.int .i64) z8s]) ?_ ?_
 ·skip
  refine WC.block<|L9 (fun(zkX:Nat) (z6y:Int)=>(y3T z30 zS zT zdh zkX z6y=some r)) (fun zkX z6y=>[(8,(vp zbd)),(10,E),(11,(vi z30.2)),(12,D),(13,(vi z4w)),(14,(vp zbe)),(15,(vi z6y))]) (fun zkX z6y=>[fz ([]++zkW),stb zbd 37 A,stb zbe 37 G,ym z9W (fun x=>Value.agg (e94 x).toArray) (Value.int .i64) z8s]) (fun zkX z6y=>zkX) ⟨yx,1⟩ h (.r7 U U U U U U U) (.s4 .h1 .h2 .here .here) ?_
  rintro zkX z6y h
  obtain⟨zBV,rfl⟩:=yaJ h
  rw[y3T] at h
  refine WC.b<|WC.b ?_
  obtain⟨zKU,z10h,h⟩:=za h
  refine Ld<|La U<|La U<|La U<|La U<|Lk 46 (zb Tryz.call55<|.r2 U U) .nil (ccz hz .nil .here fun w pz ho=>y6T z10h w pz<|zL4.up (Zle.yN _ _ _)<|fun _ _ h=>y64 (Zle.yN _ _ _) h)<|La U<|La U<|La U<|WL.nil<|Lb<|WC.cond U (fun zCe=>?_)<|fun zCe=>?_
  ·replace h:=yr h zCe
   refine WC.skip<|Lb<|WC.block<|WC.b<|Ld<|La U<|La U<|La U<|WL.nil<|Lb<|WC.b<|Ld<|La U<|La U<|WL.nil<|Lb<|WC.cond U (fun zCf=>?_)<|fun zCf=>?_
   ·replace h:=yr h zCf
    refine WC.b<|Ld<|Le 54 (yL (v:=(.agg #[(vi 0),(vi 0),(vi 0),(vi 0)])) (Lp (l:=[]) .nil []) (fun _=>by kernel_rfl))<|Ll U U (yn y8k U U U .h1 U U U)<|La U<|WL.nil<|Lb<|WC.ret<|Lq<|Lj<|Lq<|Lj ?_
    obtain rfl:=oJ h
    refine Lh Tryz.results25 (.agg U y77 U (yj .here)<|.tmp U .nil)<|fun w hw=>?_
    exact⟨y1R U U,hw.sub (.cons .h3 .nil)⟩
   ·replace h:=ys h zCf
    refine WC.skip<|Lt ?_
    exact WX.round ⟨zBV,(i64 (z6y+1))⟩ h (Nat.lt_succ_self _) (.r7 U U U U U U U)<|.a4
  ·replace h:=ys h zCe
   refine WC.exit<|Ln<|Ln<|Lu ?_
   exact Lo z6y h (.r7 U U U U U U U)<|.a4
 ·rintro z4S h
  replace h:=(z10g z4S).symm.trans h
  obtain⟨zdi,z10i,h⟩:=y57 h
  refine WC.y5e (fun(zdj:Int) (zdk:Int)=>(zdi zdj zdk=some r)) (fun zdj zdk=>[(8,(vp zbd)),(11,(vi z30.2)),(14,(vp zbe))]) (fun zdj zdk=>[fz ([]++zkW),stb zbd 37 A,stb zbe 37 [(vi zT.fNode),(vi zT.fQ),(vi zdj),(vi zdk)],ym z9W (fun x=>Value.agg (e94 x).toArray) (Value.int .i64) z8s]) ?_ ?_
  ·skip
   refine WC.b<|Ld<|La U<|La U<|La U<|La U<|WL.nil<|Lb<|WC.block<|WC.y5y (fun(zkY:Nat) (z3T:Int) (z6z:Int) (z6A:Int)=>(y3U z4S z4w z30 zS zT zdi zkY z3T z6z z6A=some r)) (fun zkY z3T z6z z6A=>[(8,(vp zbd)),(10,E),(11,(vi z30.2)),(12,D),(13,(vi z4w)),(14,(vp zbe)),(15,(vi z4S)),(57,(vi<|i64 (z4S+z4w))),(58,(vi z3T))]) (fun zkY z3T z6z z6A=>[fz ([]++zkW),stb zbd 37 A,stb zbe 37 [(vi zT.fNode),(vi zT.fQ),(vi z6z),(vi z6A)],ym z9W (fun x=>Value.agg (e94 x).toArray) (Value.int .i64) z8s]) (fun zkY z3T z6z z6A=>zkY) ⟨yx,0,0,0⟩ h (.r9 U U U U U U U U U) (.a4) ?_
   rintro zkY z3T z6z z6A h
   obtain⟨zBW,rfl⟩:=yaK h
   rw[y3U] at h
   refine WC.b<|Ld<|La U<|WL.nil<|Lb<|WC.b<|WC.cond U (fun zCg=>?_)<|fun zCg=>?_
   ·replace h:=yr h zCg
    refine WC.skip<|Lb<|WC.b<|WC.block<|WC.b<|Ld<|La U<|La U<|WL.nil<|Lb<|WC.b ?_
    obtain⟨zfH,z10j,h⟩:=za h
    refine Ld<|La U<|La U<|Lk 63 (zb Tryz.call55<|.r2 U U) .nil (ccz hz .nil .here fun w pz ho=>y6T z10j w pz<|zL4.up (Zle.yN _ _ _)<|fun _ _ h=>y64 (Zle.yN _ _ _) h)<|La U<|WL.nil<|Lb ?_
    obtain⟨zs5,z10k,h⟩:=yZ h
    refine Kf (fun(zbc:Int)=>(zs5 zbc=some r)) (fun zbc=>[(8,(vp zbd)),(10,E),(11,(vi z30.2)),(12,D),(13,(vi z4w)),(14,(vp zbe)),(15,(vi z4S)),(16,(vi z3T)),(17,(vi zfH)),(57,(vi<|i64 (z4S+z4w))),(58,(vi z3T))]) (fun zbc=>[fz ([]++zkW),stb zbd 37 A,stb zbe 37 [(vi zT.fNode),(vi zT.fQ),(vi zbc),(vi z6A)],ym z9W (fun x=>Value.agg (e94 x).toArray) (Value.int .i64) z8s]) ?_ ?_
    ·skip
     refine WC.b<|Ld<|La U<|La U<|La U<|WL.nil<|Lb<|WC.cond U (fun zCh=>?_)<|fun zCh=>?_
     ·replace h:=yr h zCh
      let F:=(i64 ((i64 ((i64 (((nth zS.fK zT.fQ).fSlow)*zfH))-z3T))+z4w));refine Ld (Le 67 (ya yac U U) (Le 68 (yc yq U (yi .h2 U)) (La U (La U (La U (La U (La U (La U (La U (Le 76 (ybx U U U) (Le 77 (ya yac U U) (Ll U U (y4I (ds:=[(vi zT.fNode),(vi zT.fQ),(vi (max z6z F)),(vi z6A)]) ybc U U U U U .h2 U U) (WL.nil ?_)))))))))))))
      exact Lo (max z6z F) h (.r11 U U U U U U U U U U U)<|.s4 .h1 .h1 .here .here
     ·replace h:=ys h zCh
      refine WC.skip ?_
      exact Lo z6z h (.r11 U U U U U U U U U U U)<|.a4
    ·rintro zbc h
     replace h:=(z10k zbc).symm.trans h
     obtain⟨z10l,h⟩:=yl h
     let C:=(i64 (zfH-(i64 (Int.tdiv (i64 ((i64 ((max (i64 (z3T-z4w)) 0)+((nth zS.fK zT.fQ).fSlow)))-1)) ((nth zS.fK zT.fQ).fSlow)))));refine Lv (fun i=>[15].contains i) [] U (Lf 0 78 U (fun _=>ya yd8 U U) (Li 1 79 U (yc yq U (yi .h2 U)) (Lf 2 80 U (fun _=>q_m U) (Lf 3 81 U (fun _=>q_m U) (Lf 4 82 U (fun _=>q_m U) (Lf 5 83 U (fun _=>y8x U U U) (Lf 6 84 U (fun _=>ybx U U U) (Lf 7 85 U (fun _=>q_m U) (Lf 8 86 U (fun _=>y8w U U U) (Lf 9 87 U (fun _=>y8x U U U) (Lf 10 88 U (fun _=>q_m U) (Lf 11 89 U (fun _=>yd0 U U z10l U) (Lf 12 90 U (fun _=>y8x U U U) (Lf 13 91 U (fun _=>ybx U U U) (Lf 14 92 U (fun _=>ya yd8 U U) (Kd (i:=15) U (by kernel_rfl) U U U (by kernel_rfl) (y4I (ds:=[(vi zT.fNode),(vi zT.fQ),(vi zbc),(vi (max z6A C))]) ybc U U U U U .h2 U U) (WD.done (by kernel_rfl) (Lt (Lb (Ld (La U (La U (WL.nil ?_)))))))))))))))))))))))
     exact WX.round ⟨zBW,(i64 (z3T+1)),zbc,(max z6A C)⟩ h (Nat.lt_succ_self _) (.r9 U U U U U U U U U)<|.s4 .h1 .h1 .here .here
   ·replace h:=ys h zCg
    refine WC.exit<|Ln<|Ln<|Lu ?_
    exact Lo ⟨z6z,z6A⟩ h (.r3 U U U)<|.a4
  ·rintro zdj zdk h
   replace h:=(z10i zdj zdk).symm.trans h
   refine WC.b<|Ld<|Le 94 (ya yd8 U U)<|Le 95 (yc yq U<|yi .h2 U)<|La U<|La U<|Le 98 (ya yd8 U U)<|Ll U U (y4I (ds:=[(vi zT.fNode),(vi zT.fQ),(vi zdj),(vi<|i64 (zdk+z30.2))]) ybc U U U U U .h2 U U)<|WL.nil<|Lb<|WC.b<|Ld<|Le 99 (yh y77 U (yj .here) U)<|Ll U U (yn y8k U U U .h2 U U U)<|La U<|WL.nil<|Lb<|WC.ret ?_
   obtain rfl:=oJ h
   refine Lh Tryz.results25 (.agg U y77 U (yj .here)<|.tmp U .nil)<|fun w hw=>?_
   exact⟨y1R U U,hw.sub (.cons .h3 .nil)⟩
def y15(z8t:S36)(z8u:S36):Option Int:=
 if decide (z8t.fNode≠z8u.fNode) then some (i64 (z8t.fNode-z8u.fNode)) else some (i64 (z8t.fQ-z8u.fQ))
theorem ybT{Z:Zp}{z8t:S36}{z8u:S36}{r:Int}(h:y15 z8t z8u=some r)(w₀:World)(hz:PZ [] w₀ Z):
  Calls Tryz.prog 27 #[(.agg #[(vi z8t.fNode),(vi z8t.fQ),(vi z8t.fDelay),(vi z8t.fT)]),(.agg #[(vi z8u.fNode),(vi z8u.fQ),(vi z8u.fDelay),(vi z8u.fT)])] w₀ fun e w'=>e = .returned (vi r)∧Hp [] w₀ w' []:=by
 unfold y15 at h
 refine Lz Tryz.func27 Tryz.ntmps27 ?_
 refine WC.b<|Ld (Lg 2 (yI (cs:=[(vi z8t.fNode),(vi z8t.fQ),(vi z8t.fDelay),(vi z8t.fT)]) U U) fun z19Q _=>Lg 3 (yI (cs:=[(vi z8u.fNode),(vi z8u.fQ),(vi z8u.fDelay),(vi z8u.fT)]) U U) fun z19R _=>La U<|WL.nil<|Lb<|WC.b<|WC.b<|Ld<|Le 5 (ya y78 U U)<|Le 6 (yc yq U<|yi .h1 U)<|Le 7 (ya y78 U U)<|Le 8 (yc yq U<|yi .here U)<|La U<|WL.nil<|Lb<|WC.cond U (fun zCi=>?_)<|fun zCi=>?_)
 ·replace h:=yr h zCi
  refine WC.b<|Ld<|Le 10 (ya y78 U U)<|Le 11 (yc yq U<|yi .h1 U)<|Le 12 (ya y78 U U)<|Le 13 (yc yq U<|yi .here U)<|La U<|La U<|WL.nil<|Lb<|WC.ret<|Lj ?_
  obtain rfl:=oJ h
  refine Lh Tryz.results27 (.tmp U .nil)<|fun w hw=>?_
  exact⟨yD U,hw.sub .nil⟩
 ·replace h:=ys h zCi
  refine WC.skip<|Lb<|WC.b<|Ld<|Le 15 (ya y8l U U)<|Le 16 (yc yq U<|yi .h1 U)<|Le 17 (ya y8l U U)<|Le 18 (yc yq U<|yi .here U)<|La U<|La U<|WL.nil<|Lb<|WC.ret ?_
  obtain rfl:=oJ h
  refine Lh Tryz.results27 (.tmp U .nil)<|fun w hw=>?_
  exact⟨yD U,hw.sub .nil⟩
def y36(z2o:List S36×Int)(z11:zs)(z6B:List (List ze))(zdl:(List S36)→Option (S39×Int)):Nat→Int→(List (z8×Int))→(List S36)→Option (S39×Int)
 | 0,_,_,_=>none
 | zCj+1,z31,z9g,z4T=>if decide (z31<((z2o.1.length:Nat):Int)) then chk ((0:Int)≤z31∧z31<((z2o.1.length:Nat):Int)) ((y5v z11 z6B (⟨((nth z2o.1 z31).fNode),((nth z2o.1 z31).fQ)⟩:z8) z9g).bind fun z8v=>if decide (z8v.2≠0) then some ((⟨([]:List S36),([]:List zn)⟩:S39),z8v.2) else chk ((((z4T++([z8v.1]:List S36)).length:Nat):Int)*32≤140737488355328∧(((z4T++([z8v.1]:List S36)).length:Nat):Int)≤4611686018427387904) (y36 z2o z11 z6B zdl zCj (i64 (z31+1)) (yF z9g (⟨((nth z2o.1 z31).fNode),((nth z2o.1 z31).fQ)⟩:z8) z8v.1.fDelay) (z4T++([z8v.1]:List S36)))) else zdl z4T
theorem y9L{n:Nat}{z2o:List S36×Int}{z11:zs}{z6B:List (List ze)}{zdl:(List S36)→Option (S39×Int)}{z31:Int}{z9g:List (z8×Int)}{z4T:List S36}{r:S39×Int}(h:y36 z2o z11 z6B zdl n z31 z9g z4T=some r):∃ m,n=m+1:=by
 cases n with
 | zero=>cases h
 | succ m=>exact⟨m,rfl⟩
def y4A(z11:zs)(zou:Int)(z6B:List (List ze)):Option (S39×Int):=
 (y4X z11 zou z6B).bind fun z2o=>if decide (z2o.2=310) then some ((⟨([]:List S36),([]:List zn)⟩:S39),z2o.2) else(y6e z11 zou z6B).bind fun zCk=>if decide (zCk.2=350) then some ((⟨([]:List S36),([]:List zn)⟩:S39),zCk.2) else if decide (z2o.2≠0) then some ((⟨([]:List S36),([]:List zn)⟩:S39),z2o.2) else jp1 (fun(zbf:List S36)=>(yQ zbf (fun(y0:S36) (y1:S36)=>y15 y0 y1)).bind fun zov=>(y6C z11 z6B zov).bind fun zCl=>some ((⟨zov,zCl⟩:S39),0)) fun zdl=>y36 z2o z11 z6B zdl yx 0 ([]:List (z8×Int)) ([]:List S36)
theorem y9C{Z:Zp}{zow:Option Addr}{zox:Nat}{zoy:Option Addr}{zoz:Nat}{zoA:Option Addr}{zoB:Nat}{zoC:Option Addr}{zoD:Nat}{zoE:Option Addr}{zoF:Nat}{zoG:Option Addr}{zoH:Nat}{zoI:Option Addr}{zoJ:Nat}{zoK:Option Addr}{zoL:Nat}{zs8:Option Addr}{zs9:Nat}{z11:zs}{zou:Int}{z6B:List (List ze)}{r:S39×Int}(h:y4A z11 zou z6B=some r)(w₀:World)(hz:PZ [] w₀ Z)(zsa:ZS Z 4 (y3L Z) zow zox z11.fM)(zsb:ZS Z 4 (y4n Z) zoy zoz z11.fC0)(zsc:ZS Z 4 (fun r x=>r=e64 x) zoA zoB z11.fS)(zsd:ZS Z 4 (fun r x=>r=e62 x) zoC zoD z11.fK)(zse:ZS Z 7 (p69 Z) zoE zoF z11.fVLs)(zsf:ZS Z 5 (fun r x=>r=y4C x) zoG zoH z11.fH)(zsg:ZS Z 3 (y4o Z) zoI zoJ z11.fU)(zsh:ZS Z 4 (fun r x=>r=y4D x) zoK zoL z11.fV0)(zsi:ZS Z 1 (p58 Z) zs8 zs9 z6B):
  Calls Tryz.prog 12 #[(.agg #[(.slice zow z11.fM.length zox),(.slice zoy z11.fC0.length zoz),(.slice zoA z11.fS.length zoB),(.slice zoC z11.fK.length zoD),(.slice zoE z11.fVLs.length zoF),(.slice zoG z11.fH.length zoH),(.slice zoI z11.fU.length zoJ),(.slice zoK z11.fV0.length zoL)]),(vi zou),(.slice zs8 z6B.length zs9)] w₀ fun e w'=>∃ zL5:Option Addr,∃ zL6:Nat,∃ zL7:Option Addr,∃ zL8:Nat,e = .returned (.tuple #[(.agg #[(.slice zL5 r.1.fP.length zL6),(.slice zL7 r.1.fEnds.length zL8)]),(vi r.2)])∧True∧Hp [] w₀ w' [row (.slice zL5 r.1.fP.length zL6) 37 4 (r.1.fP.flatMap e37),row (.slice zL7 r.1.fEnds.length zL8) 53 3 (r.1.fEnds.flatMap e53)]:=by
 unfold y4A at h
 refine Ke Tryz.func12 Tryz.ntmps12 ?_
 let A:List Value:=[(.slice zow z11.fM.length zox),(.slice zoy z11.fC0.length zoz),(.slice zoA z11.fS.length zoB),(.slice zoC z11.fK.length zoD),(.slice zoE z11.fVLs.length zoF),(.slice zoG z11.fH.length zoH),(.slice zoI z11.fU.length zoJ),(.slice zoK z11.fV0.length zoL)];refine WC.b (Ld (Lg 3 (yI (cs:=A) U U) ?_))
 intro zsj _
 refine Lg 6 (yv (cs:=[vn,vn]) y7v U) fun zsk _=>La U<|WL.nil<|Lb<|WC.b ?_
 obtain⟨z2o,z10m,h⟩:=za h
 refine Ld<|Le 20 (yh y1V U (yj .h1) U)<|La U<|La U<|WL.y4b (dd:=23) U U U (zb Tryz.call24<|.r3 U U U) .nil (cc hz .nil fun w pz ho=>yfF z10m w pz zsa zsb zsc zsd zse zsf zsg zsh zsi) ?_
 rintro zL9 zLa _
 refine La U<|La U<|La U<|La U<|La U<|WL.nil<|Lb<|WC.b<|WC.b<|Ld<|La U<|La U<|WL.nil<|Lb<|WC.cond U (fun zCm=>?_)<|fun zCm=>?_
 ·replace h:=yr h zCm
  refine WC.b<|Ld<|Le 28 (yL (v:=(.agg #[vn,vn])) (Lp (l:=[]) .nil []) (fun _=>by kernel_rfl))<|La U<|Ll U U (yn y5q U U U .h1 U U U)<|La U<|WL.nil<|Lb<|WC.ret<|Lj<|WX.nilRow 37 4<|WX.nilRow 53 3 ?_
  obtain rfl:=oJ h
  refine Lh Tryz.results12 (.agg U y5r U (yj .h2)<|.tmp U .nil)<|fun w hw=>?_
  exact⟨none,0,none,0,y1R U U,trivial,hw.sub (.s2 .h1 .here)⟩
 ·replace h:=ys h zCm
  refine WC.skip<|Lb<|WC.b<|WC.b ?_
  obtain⟨zCk,z10n,h⟩:=za h
  refine Ld<|Le 31 (yh y1V U (yj .h2) U)<|La U<|La U<|WL.y8g (dd:=34) U U U (zb Tryz.call18<|.r3 U U U) .nil (cc hz .nil fun w pz ho=>yen z10n w pz zsa zsb zsc zsd zse zsf zsg zsh zsi) ?_
  rintro z19S z19T z19U z19V _
  refine La U<|La U<|La U (Lg 10 (yv (cs:=[vn,vn]) y7v U) fun z19W _=>Ll U U (yn y5q U U U .here U U U)<|La U<|WL.nil<|Lb<|WC.b<|Ld<|La U<|La U<|WL.nil<|Lb<|WC.cond U (fun zCn=>?_)<|fun zCn=>?_)
  ·replace h:=yr h zCn
   refine WC.b<|Ld<|Le 39 (yL (v:=(.agg #[vn,vn])) (Lp (l:=[]) .nil []) (fun _=>by kernel_rfl))<|La U<|Ll U U (yn y5q U U U .h4 U U U)<|La U<|WL.nil<|Lb<|WC.ret<|Lj<|WX.nilRow 37 4<|WX.nilRow 53 3 ?_
   obtain rfl:=oJ h
   refine Lh Tryz.results12 (.agg U y5r U (yj .h2)<|.tmp U .nil)<|fun w hw=>?_
   exact⟨none,0,none,0,y1R U U,trivial,hw.sub (.s2 .h1 .here)⟩
  ·replace h:=ys h zCn
   refine WC.skip<|Lb<|WC.b<|WC.b<|Ld<|La U<|La U<|WL.nil<|Lb<|WC.cond U (fun zCo=>?_)<|fun zCo=>?_
   ·replace h:=yr h zCo
    refine WC.b<|Ld<|Le 43 (yL (v:=(.agg #[vn,vn])) (Lp (l:=[]) .nil []) (fun _=>by kernel_rfl))<|La U<|Ll U U (yn y5q U U U .h4 U U U)<|La U<|WL.nil<|Lb<|WC.ret<|Lj<|WX.nilRow 37 4<|WX.nilRow 53 3 ?_
    obtain rfl:=oJ h
    refine Lh Tryz.results12 (.agg U y5r U (yj .h2)<|.tmp U .nil)<|fun w hw=>?_
    exact⟨none,0,none,0,y1R U U,trivial,hw.sub (.s2 .h1 .here)⟩
   ·replace h:=ys h zCo
    refine WC.skip<|Lb<|WC.b<|Ld (Lg 45 (y3b (fun x=>Value.agg (e94 x).toArray)<|Value.int .i64) fun zLb _=>La U<|WL.nil<|Lb<|WC.b<|Ld (Lg 13 (yv (cs:=[vn,vn]) y7v U) fun zsl _=>WL.nil<|Lb ?_))
    obtain⟨zdl,z10o,h⟩:=yZ h
    let D:Value:=(.slice zs8 z6B.length zs9);refine Kc (fun(zbf:List S36) (zfI:Option Addr) (zfJ:Nat)=>(zdl zbf=some r)) (fun zbf zfI zfJ=>[(2,D),(3,(vp zsj)),(6,(vp zsk)),(13,(vp zsl))]) (fun zbf zfI zfJ=>[stb zsj 31 A,stb zsk 40 [vn,vn],stb zsl 40 [(.slice zfI zbf.length zfJ),vn],row (.slice zfI zbf.length zfJ) 37 4 (zbf.flatMap e37)]) ?_ ?_
    ·skip
     let C:Value:=(.slice zL9 z2o.1.length zLa);refine WC.b (Ld (La U (Le 47 (yG Tryz.underlying33 U) (La U (WL.nil (Lb (WC.block (WC.nilRow 37 4 (WC.y8T (fun(zkZ:Nat) (z31:Int) (z9g:List (z8×Int)) (z4T:List S36) (zhK:Option Addr) (zhL:Nat)=>(y36 z2o z11 z6B zdl zkZ z31 z9g z4T=some r)) (fun zkZ z31 z9g z4T zhK zhL=>[(2,D),(3,(vp zsj)),(6,(vp zsk)),(12,(.map (some zLb))),(13,(vp zsl)),(46,C),(47,(vi ((z2o.1.length:Nat):Int))),(48,(vi z31))]) (fun zkZ z31 z9g z4T zhK zhL=>[row C 37 4 (z2o.1.flatMap e37),stb zsj 31 A,stb zsk 40 [vn,vn],ym zLb (fun x=>Value.agg (e94 x).toArray) (Value.int .i64) z9g,stb zsl 40 [(.slice zhK z4T.length zhL),vn],row (.slice zhK z4T.length zhL) 37 4 (z4T.flatMap e37)]) (fun zkZ z31 z9g z4T zhK zhL=>zkZ) ⟨yx,0,([]:List (z8×Int)),([]:List S36),none,0⟩ h (.r8 U U U U U U U U) (.s6 .h6 .h7 .h6 .h2 .h1 .here) ?_)))))))))
     rintro zkZ z31 z9g z4T zhK zhL h
     obtain⟨zCj,rfl⟩:=y9L h
     rw[y36] at h
     refine WC.b<|Ld<|La U<|WL.nil<|Lb<|WC.b<|WC.cond U (fun zCp=>?_)<|fun zCp=>?_
     ·replace h:=yr h zCp
      refine WC.skip<|Lb<|WC.b<|WC.block<|WC.b ?_
      obtain⟨zoM,h⟩:=yl h
      refine Ld<|Ki (fun w hw=>Hp.y2u .here hw (by intro hz';have:=zoM;rw[hz'] at this;omega)) ?_
      rintro⟨z19X,rfl⟩
      refine Le 50 (yW y5O U U zoM.1 zoM.2 y30)<|Le 51 (y14 (cs:=(e37<|nth z2o.1 z31)) y77 U U<|y4S .here<|y31 (enc:=e37) (l:=z2o.1) (i:=z31) (sz:=4) (fun _=>U) zoM.1 zoM.2) (Lg 15 (yv (cs:=[(vi 0),(vi 0),(vi 0),(vi 0)]) y88 U) fun z19Y _=>Ll U U (yn y8k U U U .here U U U)<|WL.nil<|Lb<|WC.b<|Ld<|Le 52 (ya y78 U U)<|Le 53 (yc yq U<|yi .here U)<|Le 54 (ya y8l U U)<|Le 55 (yc yq U<|yi .here U)<|Le 56 (yL (v:=(.agg #[(vi<|(nth z2o.1 z31).fNode),(vi<|(nth z2o.1 z31).fQ)])) (Lp (l:=[.tmp 53,.tmp 55]) (.r2 U U) [0,1]) (fun _=>by kernel_rfl)) (Lg 16 (yv (cs:=[(vi 0),(vi 0)]) zeroT_94 U) fun z19Z _=>Ll U U (yn sizT_94 U U U .here U U U)<|WL.nil<|Lb<|WC.b ?_))
      obtain⟨z8v,z10p,h⟩:=za h
      refine Ld<|Le 58 (yh y1V U (yj .h3) U)<|La U<|Le 60 (yh yd7 U (yj .here) U)<|La U<|Lk 62 (zb Tryz.call25<|.r4 U U U U) (.cons .h5 .nil) (cc hz (.cons .h5 .nil) fun w pz ho=>yep z10p w pz zsa zsb zsc zsd zse zsf zsg zsh zsi ho)<|La U<|La U<|La U (Lg 17 (yv (cs:=[(vi 0),(vi 0),(vi 0),(vi 0)]) y88 U) fun z1a0 _=>Ll U U (yn y8k U U U .here U U U)<|La U<|WL.nil<|Lb<|WC.b<|WC.b<|Ld<|La U<|La U<|WL.nil<|Lb<|WC.cond U (fun zCq=>?_)<|fun zCq=>?_)
      ·replace h:=yr h zCq
       refine WC.b<|Ld<|Le 67 (yL (v:=(.agg #[vn,vn])) (Lp (l:=[]) .nil []) (fun _=>by kernel_rfl))<|La U<|Ll U U (yn y5q U U U .h6 U U U)<|La U<|WL.nil<|Lb<|WC.ret<|Lj<|Lq<|Lj<|Lj<|Lq<|Lj<|WX.nilRow 37 4<|WX.nilRow 53 3 ?_
       obtain rfl:=oJ h
       refine Lh Tryz.results12 (.agg U y5r U (yj .h2)<|.tmp U .nil)<|fun w hw=>?_
       exact⟨none,0,none,0,y1R U U,trivial,hw.sub (.s2 .h1 .here)⟩
      ·replace h:=ys h zCq
       refine WC.skip<|Lb<|WC.b<|Ld<|La U<|Le 70 (yh yd7 U (yj .h2) U)<|Le 71 (ya yac U U)<|Le 72 (yc yq U<|yi .here U)<|Ll U U (y3o (k:=(⟨((nth z2o.1 z31).fNode),((nth z2o.1 z31).fQ)⟩:z8)) (v:=z8v.1.fDelay) yeT Tryz.underlying92 U U U U .h1)<|WL.nil<|Lb ?_
       obtain⟨z10q,h⟩:=yl h
       refine Ld<|Le 73 (ya y4T U U)<|Le 74 (yc y4U U<|yi .h7 U)<|Le 75 (yh y77 U (yj .h1) U) (Lg 76 (yS (cs:=([z8v.1]:List S36).flatMap e37) y5O (Lp (l:=[.tmp 75]) (.cons U .nil) [0]) (fun _=>by kernel_rfl) U (by unfold maxLen;omega)) fun z1a1 _=>WL.fA 77 (y4W (enc:=e37) (l1:=z4T) (l2:=([z8v.1]:List S36)) y5O U U (.there<|.there .h7) (fun _=>U) U U (y3u .here) (y5o yee _) z10q) ?_)
       rintro⟨zLc,zLd⟩ _
       refine Le 78 (ya y4T U U)<|Ll U U (y4I (ds:=[(.slice zLc ((z4T++([z8v.1]:List S36)).length) zLd),vn]) yhf U U U U U (.there<|.there .h7) U U)<|WL.nil<|Lt<|Lb<|Ld<|La U<|La U<|WL.nil ?_
       exact WX.round ⟨zCj,(i64 (z31+1)),(yF z9g (⟨((nth z2o.1 z31).fNode),((nth z2o.1 z31).fQ)⟩:z8) z8v.1.fDelay),(z4T++([z8v.1]:List S36)),zLc,zLd⟩ h (Nat.lt_succ_self _) (.r8 U U U U U U U U)<|.s6 .h7 .h7 .h7 .h3 .here .here
     ·replace h:=ys h zCp
      refine WC.exit<|Ln<|Ln<|Lu ?_
      exact Lo ⟨z4T,zhK,zhL⟩ h (.r4 U U U U)<|.s4 .h1 .h1 .h2 .h2
    ·rintro zbf zfI zfJ h
     replace h:=(z10o zbf).symm.trans h
     refine WC.b ?_
     obtain⟨zov,z10r,h⟩:=za h
     refine Ld<|Le 80 (ya y4T U U)<|Le 81 (yc y4U U<|yi .h2 U)<|WL.y5h (dd:=82) U U U (zb Tryz.call26<|.r2 U U) (.cons .h3 .nil) (cc hz (.cons .h3 .nil) fun w pz ho=>y4f _ _ _ (zhr:=27) (zo7:=[]) _ (zhq:=(fun(y0:S36) (y1:S36)=>y15 y0 y1)) _ z10r w pz Tryz.call27 (fun w' hz' y0 y1  r  hr=>ybT hr w' hz' ) ho) ?_
     rintro  z10s
     refine WL.restb (cs':=[(.slice zfI zov.length zfJ),vn]) .h3 (by rw[z10s])<|WL.nil<|Lb<|WC.b ?_
     obtain⟨zCl,z10t,h⟩:=za h
     refine Ld<|Le 83 (yh y1V U (yj .h2) U)<|La U<|Le 85 (ya y4T U U)<|Le 86 (yc y4U U<|yi .here U)<|WL.y4b (dd:=87) U U U (zb Tryz.call28<|.r3 U U U) .nil (ccl hz .nil (.cons .h1 .nil) fun w pz ho la=>ycM z10t w pz ((zsa.mono<|Zle.left _ _).weak (fun _ _ h=>y1c (Zle.left _ _) h)) ((zsb.mono<|Zle.left _ _).weak (fun _ _ h=>y1o (Zle.left _ _) h)) (zsc.mono<|Zle.left _ _) (zsd.mono<|Zle.left _ _) ((zse.mono<|Zle.left _ _).weak (fun _ _ h=>y1e (Zle.left _ _) h)) (zsf.mono<|Zle.left _ _) ((zsg.mono<|Zle.left _ _).weak (fun _ _ h=>y1p (Zle.left _ _) h)) (zsh.mono<|Zle.left _ _) ((zsi.mono<|Zle.left _ _).weak (fun _ _ h=>y1B (Zle.left _ _) h))<|ZA.row (la _ (.head _) _) (RR.flat (enc:=e37) (fun _=>U) _) ⟨w,pz.1⟩) ?_
     rintro zLe zLf _
     refine Le 88 (ya y99 U U)<|Ll U U (y4I (ds:=[(.slice zfI zov.length zfJ),(.slice zLe zCl.length zLf)]) yhh U U U U U .h1 U U)<|WL.nil<|Lb<|WC.b<|Ld<|Le 89 (yh y5r U (yj .here) U)<|Ll U U (yn y5q U U U .h4 U U U)<|La U<|WL.nil<|Lb<|WC.ret ?_
     obtain rfl:=oJ h
     refine Lh Tryz.results12 (.agg U y5r U (yj .here)<|.tmp U .nil)<|fun w hw=>?_
     exact⟨zfI,zfJ,zLe,zLf,y1R U U,trivial,hw.sub (.s2 .h3 .h2)⟩
def y1T(zl0:List S36):Option (List S36):=
 some zl0
theorem y6f{Z:Zp}{zsm:Option Addr}{zsn:Nat}{zl0:List S36}{r:List S36}(h:y1T zl0=some r)(w₀:World)(hz:PZ [] w₀ Z)(z10u:ZS Z 4 (fun r x=>r=e37 x) zsm zsn zl0):
  Calls Tryz.prog 70 #[(.slice zsm zl0.length zsn)] w₀ fun e w'=>∃ zLg:Nat,∃ zLh:Option Addr,∃ zLi:Nat,e = .returned (.func (.func 113) #[] #[(vp zLg)])∧(ZS Z 4 (fun r x=>r=e37 x) zLh zLi r)∧Hp [] w₀ w' [stb zLg 33 [(.slice zLh r.length zLi)]]:=by
 unfold y1T at h
 refine L6 Tryz.func70 Tryz.ntmps70 ?_
 refine WC.b<|Ld (Lg 1 (yI (cs:=[(.slice zsm zl0.length zsn)]) U U) fun z10v _=>La U<|WL.nil<|Lb<|WC.b<|Ld<|Le 3 (y16<|L3 (l:=[.tmp 1])<|.cons U .nil)<|La U<|WL.nil<|Lb<|WC.ret ?_)
 obtain rfl:=oJ h
 refine Lh Tryz.results70 (.tmp U .nil)<|fun w hw=>?_
 exact⟨z10v,zsm,zsn,yD U,z10u,hw.sub (.cons .here .nil)⟩
def yR(z1X:Type)(z3U:List S36)(z9X:(Int×S36)→z1X→Option (Bool×z1X))(zdm:z1X→Option z1X):Nat→Int→z1X→Option z1X
 | 0,_,_=>none
 | zCr+1,z3l,z6C=>if decide (z3l≥0) then chk ((0:Int)≤z3l∧z3l<((z3U.length:Nat):Int)) ((z9X (z3l,(⟨((nth z3U z3l).fNode),((nth z3U z3l).fQ),((nth z3U z3l).fDelay),((nth z3U z3l).fT)⟩:S36)) z6C).bind fun zhM=>if !zhM.1 then some zhM.2 else yR z1X z3U z9X zdm zCr (i64 (z3l-1)) zhM.2) else zdm z6C
theorem y5g{n:Nat}{z1X:Type}{z3U:List S36}{z9X:(Int×S36)→z1X→Option (Bool×z1X)}{zdm:z1X→Option z1X}{z3l:Int}{z6C:z1X}{r:z1X}(h:yR z1X z3U z9X zdm n z3l z6C=some r):∃ m,n=m+1:=by
 cases n with
 | zero=>cases h
 | succ m=>exact⟨m,rfl⟩
def y1L(z1X:Type)(z9X:(Int×S36)→z1X→Option (Bool×z1X))(s0_88407:z1X)(z3U:List S36):Option z1X:=
 jp1 (fun(zdn:z1X)=>some zdn) fun zdm=>yR z1X z3U z9X zdm yx (i64 (((z3U.length:Nat):Int)-1)) s0_88407
theorem y5U(Z:Zp)(z1X:Type)(zso:Nat)(zfK:Type)(z9Y:zfK→z1X→Asrt)(zl1:zfK→z1X→Prop)(zhN:zfK)(zsp:Addr)(zCs:Option Addr)(zCt:Nat)(z9X:(Int×S36)→z1X→Option (Bool×z1X))(s0_88407:z1X)(z3U:List S36)(r:z1X)(w₀:World)(hz:PZ (fps [z9Y zhN s0_88407]) w₀ Z)(z10w:yb8 Tryz.prog Z zso (α:=Int×S36) (σ:=z1X) (G:=zfK) (H:=Unit) (fun h x=>[(vi x.1),(.agg #[(vi x.2.fNode),(vi x.2.fQ),(vi x.2.fDelay),(vi x.2.fT)])]) (fun h x=>[]) z9X z9Y zl1)(z10x:zl1 zhN s0_88407)(z10y:ZS Z 4 (fun r x=>r=e37 x) zCs zCt z3U)(zLj:ZC Z zsp [(.slice zCs z3U.length zCt)])(h:y1L z1X z9X s0_88407 z3U=some r)(hown:Hp (fps [z9Y zhN s0_88407]) w₀ w₀ [z9Y zhN s0_88407]):
  Calls Tryz.prog 113 #[(.func (.yield zso) #[] #[]),(vq zsp)] w₀ fun e w'=>∃ zLk:zfK,e = .returned (.tuple #[])∧(zl1 zLk r)∧Hp (fps [z9Y zhN s0_88407]) w₀ w' [z9Y zLk r]:=by
 unfold y1L at h
 refine Kg Tryz.func113 Tryz.ntmps113 hown ?_
 refine WC.b<|Ld<|Le 4 (yc y4U U<|y3a hz.pv zLj U)<|Le 5 (yG Tryz.underlying33 U)<|La U<|La U<|WL.nil<|Lb ?_
 obtain⟨zdm,z10z,h⟩:=yZ h
 refine WC.y8W (fun(zdn:z1X) (zl2:zfK)=>(zdm zdn=some r)∧(zl1 zl2 zdn)) (fun zdn zl2=>[]) (fun zdn zl2=>[z9Y zl2 zdn]) ?_ ?_
 ·skip
  refine WC.block<|WC.y5y (fun(zl3:Nat) (z3l:Int) (z6C:z1X) (zbg:zfK)=>(yR z1X z3U z9X zdm zl3 z3l z6C=some r)∧(zl1 zbg z6C)) (fun zl3 z3l z6C zbg=>[(0,(.func (.yield zso) #[] #[])),(1,(vq zsp)),(3,(vi z3l))]) (fun zl3 z3l z6C zbg=>[z9Y zbg z6C]) (fun zl3 z3l z6C zbg=>zl3) ⟨yx,(i64 (((z3U.length:Nat):Int)-1)),s0_88407,zhN⟩ ⟨h,z10x⟩ (.r3 U U U) (.cons .here .nil) ?_
  rintro zl3 z3l z6C zbg ⟨h,zLl⟩
  obtain⟨zCr,rfl⟩:=y5g h
  rw[yR] at h
  refine WC.b<|WC.b<|Ld<|La U<|La U<|WL.nil<|Lb<|WC.cond U (fun zCu=>?_)<|fun zCu=>?_
  ·replace h:=yr h zCu
   refine WC.skip<|Lb<|WC.b<|WC.block<|WC.b ?_
   obtain⟨z10A,h⟩:=yl h
   obtain⟨zhM,z10B,h⟩:=za h
   refine Ld<|La U<|La U<|Le 13 (yc y4U U<|y3a hz.pv zLj U)<|La U<|L0 (dd:=15) U U (Z:=Z) (Pr:=(fun r x=>r=e37 x)) y5O U U z10y z10A ?_
   rintro z1a2 z1a3 z10C z1a4 rfl
   refine Le 16 (yh y77 U (y2d hz.pv z10C) U) (WL.yield (dd:=17) (x:=(z3l,(⟨((nth z3U z3l).fNode),((nth z3U z3l).fQ),((nth z3U z3l).fDelay),((nth z3U z3l).fT)⟩:S36))) (h:=()) (g:=zbg) (s:=z6C) (b:=zhM.1) (s':=zhM.2) z10w U U U (.r2 U U) ((.cons .here .nil):Sel _ [z9Y zbg z6C] _) z10B zLl (fun w hw=>hz.call hw ((.cons .here .nil):Sel _ [z9Y zbg z6C] _)) fun zLm zLn=>La U<|WL.nil<|Lb<|WC.cond U (fun zCv=>?_)<|fun zCv=>?_)
   ·replace h:=yr h zCv
    refine WC.ret<|Lq<|Lj<|Lj<|Lq<|Lj ?_
    obtain rfl:=oJ h
    refine Lh Tryz.results113 .nil<|fun w hw=>?_
    exact⟨zLm,y7p,zLn,hw.sub (.cons .here .nil)⟩
   ·replace h:=ys h zCv
    refine WC.skip<|Lt<|Lb<|Ld<|La U<|La U<|La U<|WL.nil ?_
    exact WX.round ⟨zCr,(i64 (z3l-1)),zhM.2,zLm⟩ ⟨h,zLn⟩ (Nat.lt_succ_self _) (.r3 U U U)<|.cons .here .nil
  ·replace h:=ys h zCu
   refine WC.exit<|Ln<|Ln<|Lu ?_
   exact Lo ⟨z6C,zbg⟩ ⟨h,zLl⟩ .nil<|.cons .here .nil
 ·rintro zdn zl2 ⟨h,z10D⟩
  replace h:=(z10z zdn).symm.trans h
  obtain rfl:=oJ h
  refine WX.y5d Tryz.results113 .nil<|fun w hw=>?_
  exact⟨zl2,y7p,z10D,hw.sub (.cons .here .nil)⟩
def y54(z5q:Int×S36)(zoN:List (z8×Int)):Option (Bool×(Nat×(List (z8×Int)))):=
 some (true,(0,(yF zoN (⟨z5q.2.fNode,z5q.2.fQ⟩:z8) z5q.2.fDelay)))
def y5b(zhO:List S36):Option (List (z8×Int)):=
 jp1 (fun(zfL:List (z8×Int))=>some zfL) fun zCw=>(y1T zhO).bind fun z4U=>(y1L (Nat×(List (z8×Int))) (fun(x:Int×S36) (s:Nat×(List (z8×Int)))=>chk (s.1=0) (y54 x s.2)) (0,([]:List (z8×Int))) z4U).bind fun z9Z=>zCw z9Z.2
theorem ydS{Z:Zp}{zsq:Option Addr}{zsr:Nat}{zhO:List S36}{r:(List (z8×Int))}(h:y5b zhO=some r)(w₀:World)(hz:PZ [] w₀ Z)(z10E:ZS Z 4 (fun r x=>r=e37 x) zsq zsr zhO):
  Calls Tryz.prog 36 #[(.slice zsq zhO.length zsr)] w₀ fun e w'=>∃ zLo:Nat,e = .returned (.map (some zLo))∧True∧Hp [] w₀ w' [ym zLo (fun x=>Value.agg (e94 x).toArray) (Value.int .i64) r]:=by
 unfold y5b at h
 let C:Value:=(.slice zsq zhO.length zsr);refine Calls.y9f (vs:=[C]) (pre:=[]) (env:=[(0,C)]) Tryz.func36 U Tryz.ntmps36 U (Hp.nil w₀ _) U ?_
 refine WC.b<|Ld<|La U<|WL.nil<|Lb<|WC.b<|Ld (Lg 6 (y3b (fun x=>Value.agg (e94 x).toArray)<|Value.int .i64) fun z1P _=>Lg 3 (yv (cs:=[(.map none)]) zeroT_92 U) fun z4x _=>Ll U U (yn sizT_92 U U U .here U U U)<|WL.nil<|Lb ?_)
 obtain⟨zCw,z10F,h⟩:=yZ h
 refine WC.ygM (fun(zoO:Nat) (zfL:List (z8×Int))=>(zCw zfL=some r)) (fun(zoO:Nat) (zfL:List (z8×Int))=>[(3,(vp z4x))]) (fun(zoO:Nat) (zfL:List (z8×Int))=>[stb z4x 92 [(.map<|some z1P)],ym z1P (fun x=>Value.agg (e94 x).toArray) (Value.int .i64) zfL,dfr zoO]) ?_ ?_
 ·skip
  refine WC.b ?_
  obtain⟨z4U,z10G,h⟩:=za h
  refine Ld<|La U<|WL.yf9 (dd:=8) U U U (zb Tryz.call70<|.cons U .nil) .nil (cc hz .nil fun w pz ho=>y6f z10G w pz z10E) ?_
  rintro z5r z64 z65 z10H
  refine WL.nil<|Lb<|WC.block<|WC.drop (.s3 .h1 .h1 .here)<|WC.rangeFunc (f:=113) (caps:=[(vp z5r)]) U Tryz.call113 ?_
  intro z1a5 z1a6 z5s z7H z6D zCx z10I z10J w hw
  have hw1:=hw.selAll ((.s3 .h2 .h2 .here):Sel _ [stb z4x 92 [(.map (some z1P))],ym z1P (fun x=>Value.agg (e94 x).toArray) (Value.int .i64) ([]:List (z8×Int)),blk z5s (z6D .ready none)] _)
  let A:List Value:=[(.slice z64 z4U.length z65)];have pz:=(hz.call hw1 ((.cons .here .nil):Sel [y1M [stb z4x 92 [(.map (some z1P))],ym z1P (fun x=>Value.agg (e94 x).toArray) (Value.int .i64) ([]:List (z8×Int)),blk z5s (z6D .ready none)],dfr z7H,stb z5r 33 A] [y1M [stb z4x 92 [(.map (some z1P))],ym z1P (fun x=>Value.agg (e94 x).toArray) (Value.int .i64) ([]:List (z8×Int)),blk z5s (z6D .ready none)]] [dfr z7H,stb z5r 33 A])).lend hw1 ((.cons .here .nil):Sel [y1M [stb z4x 92 [(.map (some z1P))],ym z1P (fun x=>Value.agg (e94 x).toArray) (Value.int .i64) ([]:List (z8×Int)),blk z5s (z6D .ready none)],dfr z7H,stb z5r 33 A] [y1M [stb z4x 92 [(.map (some z1P))],ym z1P (fun x=>Value.agg (e94 x).toArray) (Value.int .i64) ([]:List (z8×Int)),blk z5s (z6D .ready none)]] [dfr z7H,stb z5r 33 A]) (B:=[stb z5r 33 A]) (fun _ hx'=>((.cons .h1 .nil):Sel _ [stb z5r 33 A] _).mem hx')
  obtain⟨z9Z,z10K,h⟩:=za h
  refine Calls.mono (y5U (Z:=_) (zso:=z5s) (zfK:=Unit) (z9Y:=(fun(g:Unit) (s:Nat×(List (z8×Int)))=>y1M ([stb z4x 92 [(.map<|some z1P)],ym z1P (fun x=>Value.agg (e94 x).toArray) (Value.int .i64) s.2]++[blk z5s (z6D (rdy<|pcs [] s.1)<|pcs [] s.1)]))) (zl1:=(fun(g:Unit) (s:Nat×(List (z8×Int)))=>True)) (zhN:=()) (zsp:=⟨z5r,0,none⟩) (zCs:=z64) (zCt:=z65) (z1X:=(Nat×(List (z8×Int)))) (z9X:=(fun(x:Int×S36) (s:Nat×(List (z8×Int)))=>chk (s.1=0)<|y54 x s.2)) (s0_88407:=(0,([]:List (z8×Int)))) (z3U:=z4U) (r:=z9Z) w pz ?_ trivial (z10H.mono<|Zle.left _ _) ((hw1.lent ((.cons .here .nil):Sel [y1M [stb z4x 92 [(.map<|some z1P)],ym z1P (fun x=>Value.agg (e94 x).toArray) (Value.int .i64) ([]:List (z8×Int)),blk z5s (z6D .ready none)],dfr z7H,stb z5r 33 A] [y1M [stb z4x 92 [(.map<|some z1P)],ym z1P (fun x=>Value.agg (e94 x).toArray) (Value.int .i64) ([]:List (z8×Int)),blk z5s (z6D .ready none)]] [dfr z7H,stb z5r 33 A]) (B:=[stb z5r 33 A]) (fun _ hx'=>((.cons .h1 .nil):Sel _ [stb z5r 33 A] _).mem hx') (.head _) _).stb) z10K<|hw1.owns ((.cons .here .nil):Sel [y1M [stb z4x 92 [(.map<|some z1P)],ym z1P (fun x=>Value.agg (e94 x).toArray) (Value.int .i64) ([]:List (z8×Int)),blk z5s (z6D .ready none)],dfr z7H,stb z5r 33 A] [y1M [stb z4x 92 [(.map<|some z1P)],ym z1P (fun x=>Value.agg (e94 x).toArray) (Value.int .i64) ([]:List (z8×Int)),blk z5s (z6D .ready none)]] [dfr z7H,stb z5r 33 A])) ?_
  ·skip
   refine yaO (LI:=(fun(g:Unit) (s:Nat×(List (z8×Int)))=>[stb z4x 92 [(.map<|some z1P)],ym z1P (fun x=>Value.agg (e94 x).toArray) (Value.int .i64) s.2])) (pc:=(fun(s:Nat×(List (z8×Int)))=>pcs [] s.1)) zCx z10I z10J (fun _ _=>U) (by decide) ?_
   rintro z5q _ _ ⟨z10L,zoN⟩ z10M z10N Fb wb zLp _ hz
   replace hz:=hz.left
   letI:Rnd:=inR z5s
   obtain⟨hp0,zss⟩:=yl zLp
   replace hp0:z10L=0:=hp0;subst hp0;clear zLp
   replace zss:y54 z5q zoN=some (z10M,z10N):=zss
   unfold y54 at zss
   refine WC.restr (env':=[(3,(vp z4x)),(9,(vi z5q.1)),(10,(.agg #[(vi z5q.2.fNode),(vi z5q.2.fQ),(vi z5q.2.fDelay),(vi z5q.2.fT)]))]) (.r3 U U U)<|WC.eqL (L':=[stb z4x 92 [(.map<|some z1P)],ym z1P (fun x=>Value.agg (e94 x).toArray) (Value.int .i64) zoN,blk z5s (z6D .ready none)]) U<|Ld (Lg 5 (yv (cs:=[(vi 0),(vi 0),(vi 0),(vi 0)]) y88 U) fun z1a7 _=>Ll U U (yn y8k U U U .here U U U)<|WL.nil<|WX.ybE zCx .h3<|WC.block<|Ld<|Le 11 (yc yhk U<|yi .h2 U)<|Le 12 (ya y78 U U)<|Le 13 (yc yq U<|yi .h1 U)<|Le 14 (ya y8l U U)<|Le 15 (yc yq U<|yi .h1 U)<|Le 16 (yL (v:=(.agg #[(vi z5q.2.fNode),(vi z5q.2.fQ)])) (Lp (l:=[.tmp 13,.tmp 15]) (.r2 U U) [0,1]) (fun _=>by kernel_rfl))<|Le 17 (ya yac U U)<|Le 18 (yc yq U<|yi .h1 U)<|Ll U U (y3o (k:=(⟨z5q.2.fNode,z5q.2.fQ⟩:z8)) (v:=z5q.2.fDelay) yeT Tryz.underlying92 U U U U .h3)<|WL.nil<|Lt ?_)
   obtain⟨rfl,rfl⟩:=yah zss
   exact WX.y6N zCx .h1<|fun w' hw'=>⟨(),U,trivial,(hw'.selAll ((.s3 .h3 .h1 .here):Sel _ [stb z4x 92 [(.map<|some z1P)],ym z1P (fun x=>Value.agg (e94 x).toArray) (Value.int .i64) (yF zoN (⟨z5q.2.fNode,z5q.2.fQ⟩:z8) z5q.2.fDelay),blk z5s (z6D .ready none)] _)).sub (.cons .here .nil)⟩
  ·skip
   rintro _ w' ⟨_,rfl,_,hp⟩
   have hp1:=hw1.call ((.cons .here .nil):Sel [y1M [stb z4x 92 [(.map (some z1P))],ym z1P (fun x=>Value.agg (e94 x).toArray) (Value.int .i64) ([]:List (z8×Int)),blk z5s (z6D .ready none)],dfr z7H,stb z5r 33 A] [y1M [stb z4x 92 [(.map (some z1P))],ym z1P (fun x=>Value.agg (e94 x).toArray) (Value.int .i64) ([]:List (z8×Int)),blk z5s (z6D .ready none)]] [dfr z7H,stb z5r 33 A]) hp
   have hp2:Hp _ _ w' [stb z4x 92 [(.map (some z1P))],ym z1P (fun x=>Value.agg (e94 x).toArray) (Value.int .i64) z9Z.2,blk z5s (z6D (rdy (pcs [] z9Z.1)) (pcs [] z9Z.1)),dfr z7H,stb z5r 33 A]:=hp1.pickAll .here
   refine⟨_,pcs [] z9Z.1,_,U,(hp2.sub ((.s5 .h2 .here .here .here .here):Sel _ [blk z5s (z6D (rdy (pcs [] z9Z.1)) (pcs [] z9Z.1)),stb z4x 92 [(.map (some z1P))],ym z1P (fun x=>Value.agg (e94 x).toArray) (Value.int .i64) z9Z.2,dfr z7H,stb z5r 33 A] _)),?_⟩
   clear hp hp1 hp2 pz hw hw1
   refine wjN ?_
   letI:Rnd:=aft z7H
   refine Lt ?_
   exact WX.midR (D:=fun(g:Nat×(List (z8×Int)))=>g.1) (G:=Nat×(List (z8×Int))) ⟨z7H,z9Z.2⟩ h (.cons U .nil)<|.a3
 ·rintro zoO zfL h
  replace h:=(z10F zfL).symm.trans h
  letI:Rnd:=aft zoO
  refine WC.b<|Ld<|Le 19 (yc yhk U<|yi .here U)<|La U<|WL.nil<|Lb<|WC.ret ?_
  obtain rfl:=oJ h
  refine WX.y7s .h2 Tryz.results36 (.tmp U .nil)<|fun w hw=>?_
  exact⟨z1P,yD U,trivial,hw.sub (.cons .h2 .nil)⟩
def y2x(z67:List (List ze))(z1p:zs)(zdo:(List (z8×Int)))(zdp:(List (List Int))→Option (List (List Int))):Nat→(List (List Int))→Int→Option (List (List Int))
 | 0,_,_=>none
 | zCy+1,z4V,z7e=>if decide (z7e<((z67.length:Nat):Int)) then chk ((0:Int)≤z7e∧z7e<((z67.length:Nat):Int)) ((y4y z1p (nth z67 z7e) zdo).bind fun z7f=>chk ((((z4V++([z7f]:List (List Int))).length:Nat):Int)*24≤140737488355328∧(((z4V++([z7f]:List (List Int))).length:Nat):Int)≤4611686018427387904) (y2x z67 z1p zdo zdp zCy (z4V++([z7f]:List (List Int))) (i64 (z7e+1)))) else zdp z4V
theorem y9M{n:Nat}{z67:List (List ze)}{z1p:zs}{zdo:(List (z8×Int))}{zdp:(List (List Int))→Option (List (List Int))}{z4V:List (List Int)}{z7e:Int}{r:List (List Int)}(h:y2x z67 z1p zdo zdp n z4V z7e=some r):∃ m,n=m+1:=by
 cases n with
 | zero=>cases h
 | succ m=>exact⟨m,rfl⟩
def y3e(z1p:zs)(z67:List (List ze))(zoP:List S36):Option (List (List Int)):=
 (y4c z1p 0 z67).bind fun zLq=>(if !zLq then(y4c z1p 1 z67).bind fun zLr=>some (!zLr) else some false).bind fun zCz=>if zCz then some ([]:List (List Int)) else(y5b zoP).bind fun zdo=>jp1 (fun(zbh:List (List Int))=>some zbh) fun zdp=>y2x z67 z1p zdo zdp yx ([]:List (List Int)) 0
theorem y9D{Z:Zp}{zst:Option Addr}{zsu:Nat}{zsv:Option Addr}{zsw:Nat}{zsx:Option Addr}{zsy:Nat}{zsz:Option Addr}{zsA:Nat}{zsB:Option Addr}{zsC:Nat}{zsD:Option Addr}{zsE:Nat}{zsF:Option Addr}{zsG:Nat}{zsH:Option Addr}{zsI:Nat}{zCA:Option Addr}{zCB:Nat}{zLs:Option Addr}{zLt:Nat}{z1p:zs}{z67:List (List ze)}{zoP:List S36}{r:List (List Int)}(h:y3e z1p z67 zoP=some r)(w₀:World)(hz:PZ [] w₀ Z)(zCC:ZS Z 4 (y3L Z) zst zsu z1p.fM)(zCD:ZS Z 4 (y4n Z) zsv zsw z1p.fC0)(zCE:ZS Z 4 (fun r x=>r=e64 x) zsx zsy z1p.fS)(zCF:ZS Z 4 (fun r x=>r=e62 x) zsz zsA z1p.fK)(zCG:ZS Z 7 (p69 Z) zsB zsC z1p.fVLs)(zCH:ZS Z 5 (fun r x=>r=y4C x) zsD zsE z1p.fH)(zCI:ZS Z 3 (y4o Z) zsF zsG z1p.fU)(zCJ:ZS Z 4 (fun r x=>r=y4D x) zsH zsI z1p.fV0)(zCK:ZS Z 1 (p58 Z) zCA zCB z67)(z10O:ZS Z 4 (fun r x=>r=e37 x) zLs zLt zoP):
  Calls Tryz.prog 14 #[(.agg #[(.slice zst z1p.fM.length zsu),(.slice zsv z1p.fC0.length zsw),(.slice zsx z1p.fS.length zsy),(.slice zsz z1p.fK.length zsA),(.slice zsB z1p.fVLs.length zsC),(.slice zsD z1p.fH.length zsE),(.slice zsF z1p.fU.length zsG),(.slice zsH z1p.fV0.length zsI)]),(.slice zCA z67.length zCB),(.slice zLs zoP.length zLt)] w₀ fun e w'=>∃ Zn:Zp,∃ zLu:Option Addr,∃ zLv:Nat,∃ zLw:List Value,e = .returned (.slice zLu r.length zLv)∧(RR 1 (p50 (Z++Zn)) zLw r)∧Hp [] w₀ w' [fz Zn,row (.slice zLu r.length zLv) 50 1 zLw]:=by
 unfold y3e at h
 refine Ke Tryz.func14 Tryz.ntmps14 ?_
 let A:List Value:=[(.slice zst z1p.fM.length zsu),(.slice zsv z1p.fC0.length zsw),(.slice zsx z1p.fS.length zsy),(.slice zsz z1p.fK.length zsA),(.slice zsB z1p.fVLs.length zsC),(.slice zsD z1p.fH.length zsE),(.slice zsF z1p.fU.length zsG),(.slice zsH z1p.fV0.length zsI)];refine WC.pool (WC.b (Ld (Lg 3 (yI (cs:=A) U U) ?_)))
 intro zLx _
 refine La U<|WL.nil<|Lb<|WC.b<|WC.b ?_
 obtain⟨zLq,z10P,h⟩:=za h
 obtain⟨zCz,zLy,h⟩:=za h
 refine Ld<|Le 11 (yh y1V U (yj .here) U)<|La U<|Lk 13 (zb Tryz.call22<|.r3 U U U) .nil (ccz hz .nil .h1 fun w pz ho=>y7h z10P w pz ((zCC.mono<|Zle.left _ _).weak (fun _ _ h=>y1c (Zle.left _ _) h)) ((zCD.mono<|Zle.left _ _).weak (fun _ _ h=>y1o (Zle.left _ _) h)) (zCE.mono<|Zle.left _ _) (zCF.mono<|Zle.left _ _) ((zCG.mono<|Zle.left _ _).weak (fun _ _ h=>y1e (Zle.left _ _) h)) (zCH.mono<|Zle.left _ _) ((zCI.mono<|Zle.left _ _).weak (fun _ _ h=>y1p (Zle.left _ _) h)) (zCJ.mono<|Zle.left _ _)<|(zCK.mono<|Zle.left _ _).weak (fun _ _ h=>y1B (Zle.left _ _) h))<|La U<|La U<|Lx true 4 15 (B:=zCz) U U U U U U (fun h=>(oJ<|ys zLy h).symm) (fun _ z10Q=>?_) ?_
 ·skip
  have zoQ:=yr zLy z10Q
  obtain⟨zLr,z10R,zoQ⟩:=za zoQ
  replace zoQ:=oJ zoQ
  refine Le 16 (yh y1V U (yj .here) U)<|La U<|Lk 18 (zb Tryz.call22<|.r3 U U U) .nil (ccz hz .nil .h1 fun w pz ho=>y7h z10R w pz ((zCC.mono<|Zle.left _ _).weak (fun _ _ h=>y1c (Zle.left _ _) h)) ((zCD.mono<|Zle.left _ _).weak (fun _ _ h=>y1o (Zle.left _ _) h)) (zCE.mono<|Zle.left _ _) (zCF.mono<|Zle.left _ _) ((zCG.mono<|Zle.left _ _).weak (fun _ _ h=>y1e (Zle.left _ _) h)) (zCH.mono<|Zle.left _ _) ((zCI.mono<|Zle.left _ _).weak (fun _ _ h=>y1p (Zle.left _ _) h)) (zCJ.mono<|Zle.left _ _)<|(zCK.mono<|Zle.left _ _).weak (fun _ _ h=>y1B (Zle.left _ _) h))<|La U<|La U ?_
  exact Ly zoQ U U .all
 refine WL.nil<|Lb<|WC.cond U (fun zCL=>?_)<|fun zCL=>?_
 ·replace h:=yr h zCL
  refine WC.b<|Ld<|La U<|WL.nil<|Lb<|WC.ret<|Lj<|WX.nilRow 50 1 ?_
  obtain rfl:=oJ h
  refine Lh Tryz.results14 (.tmp U .nil)<|fun w hw=>?_
  exact⟨[],none,0,[],yD U,(RR.nil _ _),hw.sub (.s2 .h2 .here)⟩
 ·replace h:=ys h zCL
  refine WC.skip<|Lb<|WC.b ?_
  obtain⟨zdo,z10S,h⟩:=za h
  refine Ld<|La U<|WL.ycp (dd:=22) U U U (zb Tryz.call36<|.cons U .nil) .nil (ccz hz .nil .h1 fun w pz ho=>ydS z10S w pz<|z10O.mono<|Zle.left _ _) ?_
  rintro zLz _
  refine La U<|WL.nil<|Lb<|WC.b<|Ld<|La U<|WL.nil<|Lb ?_
  obtain⟨zdp,z10T,h⟩:=yZ h
  refine WC.y9W (fun(zbh:List (List Int)) (zhP:Zp) (zl4:Option Addr) (zl5:Nat) (zl6:List Value)=>(zdp zbh=some r)∧(Zle (Z++[]) (Z++zhP))∧(RR 1 (p50 (Z++zhP)) zl6 zbh)) (fun zbh zhP zl4 zl5 zl6=>[(8,(.slice zl4 zbh.length zl5))]) (fun zbh zhP zl4 zl5 zl6=>[fz zhP,row (.slice zl4 zbh.length zl5) 50 1 zl6]) ?_ ?_
  ·skip
   refine WC.b<|Ld<|La U<|Le 24 (yG Tryz.underlying32 U)<|La U<|WL.nil<|Lb<|WC.block<|WC.nilRow 50 1<|WC.yfN (fun(zl7:Nat) (z4V:List (List Int)) (z7e:Int) (zbi:Zp) (zhQ:Option Addr) (zhR:Nat) (zdq:List Value)=>(y2x z67 z1p zdo zdp zl7 z4V z7e=some r)∧(Zle (Z++[]) (Z++zbi))∧(RR 1 (p50 (Z++zbi)) zdq z4V)) (fun zl7 z4V z7e zbi zhQ zhR zdq=>[(3,(vp zLx)),(7,(.map<|some zLz)),(8,(.slice zhQ z4V.length zhR)),(23,(.slice zCA z67.length zCB)),(24,(vi ((z67.length:Nat):Int))),(25,(vi z7e))]) (fun zl7 z4V z7e zbi zhQ zhR zdq=>[fz zbi,row (.slice zhQ z4V.length zhR) 50 1 zdq,stb zLx 31 A,ym zLz (fun x=>Value.agg (e94 x).toArray) (Value.int .i64) zdo]) (fun zl7 z4V z7e zbi zhQ zhR zdq=>zl7) ⟨yx,([]:List (List Int)),0,[],none,0,[]⟩ ⟨h,(Zle.refl _),(RR.nil _ _)⟩ (.r6 U U U U U U) (.s4 .h3 .here .h1 .here) ?_
   rintro zl7 z4V z7e zbi zhQ zhR zdq ⟨h,z6E,zLA⟩
   obtain⟨zCy,rfl⟩:=y9M h
   rw[y2x] at h
   refine WC.b<|Ld<|La U<|WL.nil<|Lb<|WC.b<|WC.cond U (fun zCM=>?_)<|fun zCM=>?_
   ·replace h:=yr h zCM
    refine WC.skip<|Lb<|WC.b<|WC.block<|WC.b ?_
    obtain⟨z10U,h⟩:=yl h
    refine Ld<|L0 (dd:=27) U U (Z:=(Z++zbi)) (Pr:=(p58 (Z++zbi))) y81 U U ((zCK.mono<|(Zle.left _ _).trans z6E).weak (fun _ _ h=>y1B ((Zle.left _ _).trans z6E) h)) z10U ?_
    rintro z1a8 z1a9 z10V z1aa ⟨z1ab,z1ac,rfl,z10W⟩
    refine Le 28 (yc y6w U<|y3a (hz.pv2 .here) z10V U)<|La U<|WL.nil<|Lb ?_
    obtain⟨z7f,z10X,h⟩:=za h
    obtain⟨z10Y,h⟩:=yl h
    refine Ld<|La U<|Le 30 (yh y1V U (yj .h2) U)<|La U<|La U<|WL.y4b (dd:=33) U U U (zb Tryz.call37<|.r3 U U U) (.cons .h3 .nil) (ccz hz (.cons .h3 .nil) .here fun w pz ho=>y5m z10X w pz ((zCC.mono<|(Zle.left _ _).trans z6E).weak (fun _ _ h=>y1c ((Zle.left _ _).trans z6E) h)) ((zCD.mono<|(Zle.left _ _).trans z6E).weak (fun _ _ h=>y1o ((Zle.left _ _).trans z6E) h)) (zCE.mono<|(Zle.left _ _).trans z6E) (zCF.mono<|(Zle.left _ _).trans z6E) ((zCG.mono<|(Zle.left _ _).trans z6E).weak (fun _ _ h=>y1e ((Zle.left _ _).trans z6E) h)) (zCH.mono<|(Zle.left _ _).trans z6E) ((zCI.mono<|(Zle.left _ _).trans z6E).weak (fun _ _ h=>y1p ((Zle.left _ _).trans z6E) h)) (zCJ.mono<|(Zle.left _ _).trans z6E) z10W ho) ?_
    rintro zl8 zl9 _
    refine WL.freezeS (ls:=z7f) .here .h1 hz (RR.flat (enc:=e3) (fun _=>U) _) ?_
    intro zsJ zLB z10Z
    let C:List Value:=[(.slice zl8 z7f.length zl9)];have zLC:RR 1 (p50 (Z++zsJ)) C ([z7f]:List (List Int)):=(RR.cons (r:=C) U (show p50 _ _ _ from⟨_,_,U,z10Z⟩) (RR.nil _ _))
    refine Lg 34 (yS (cs:=[(.slice zl8 z7f.length zl9)]) y9r (Lp (l:=[.tmp 33]) (.cons U .nil) [0]) (fun _=>by kernel_rfl) U (by unfold maxLen;omega)) ?_
    intro z1ad _
    have z110:RR 1 (p50 (Z++zsJ)) (zdq++C) (z4V++([z7f]:List (List Int))):=RR.app (zLA.weak (fun _ _ h=>ydL zLB h)) zLC
    refine WL.fA 35 (y8h (l1:=z4V) (l2:=([z7f]:List (List Int))) (news:=C) (Pr:=(p50 (Z++zsJ))) y9r U U .h3 zLC (y3u .here) (yb5 U ycq) z10Y) ?_
    rintro⟨z111,z112⟩ _
    refine La U<|WL.nil<|Lt<|Lb<|Ld<|La U<|La U<|WL.nil ?_
    exact WX.round ⟨zCy,(z4V++([z7f]:List (List Int))),(i64 (z7e+1)),zsJ,z111,z112,(zdq++C)⟩ ⟨h,(z6E.trans zLB),z110⟩ (Nat.lt_succ_self _) (.r6 U U U U U U)<|.s4 .h2 .here .h2 .h1
   ·replace h:=ys h zCM
    refine WC.exit<|Ln<|Ln<|Lu ?_
    exact Lo ⟨z4V,zbi,zhQ,zhR,zdq⟩ ⟨h,z6E,zLA⟩ (.cons U .nil)<|.a2
  ·rintro zbh zhP zl4 zl5 zl6 ⟨h,z1ae,z113⟩
   replace h:=(z10T zbh).symm.trans h
   refine WC.b<|Ld<|La U<|La U<|WL.nil<|Lb<|WC.ret ?_
   obtain rfl:=oJ h
   refine Lh Tryz.results14 (.tmp U .nil)<|fun w hw=>?_
   exact⟨zhP,zl4,zl5,zl6,yD U,z113,hw.sub (.a2)⟩
end Go.Proofs.YthjnhebofpebpaaGreat

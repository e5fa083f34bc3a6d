/- A part of this claim's proof: models of functions, walks, plain laws. No conditions. -/
import Derived.Test.YthjnhebofpebpaaGreatW36f
set_option linter.all false
namespace Go.Proofs.YthjnhebofpebpaaGreat
open Go Go.RowKit Sep Tryz
variable {f:zs}{g t aa ad af ah aj al an aq:Nat}{p:List (z8×Int)}{q:z8}{s:List (List ze)}{n z ab ae ag ai ak am ap:Option Addr}{i:List S36}{u:Int}
set_option maxRecDepth 30000
set_option maxHeartbeats 4000000
def y6x(c:zs)(wide:List (Int×Int))(q:Int×List (Int->Option Int))(y0:Int):Option Int:=y4v y0 q.1 q.2 wide c
def y30(c:List (List ze))(j:z8)(b:zs)(l:List (z8×Int))(m:Int->(List (Int×List (Int->Option Int)))->(List (Int×Int))->Option (List (Int->Option Int)×Int)):Nat->Int->Int->(List (Int×List (Int->Option Int)))->(List (Int×Int))->Option (List (Int->Option Int)×Int)
 | 0,_,_,_,_=>none
 | p+1,k,a,d,g=>if decide (a<(c.length:Int)) then jp3 (fun(q:Int) (r:List (Int×List (Int->Option Int))) (s:List (Int×Int))=>y30 c j b l m p q (i64 (a+1)) r s) fun n=>chk ((0:Int)<=a/\a<(c.length:Int)) ((yZ (nth c a) (fun(y0:ze)=>y4w y0 j)).bind fun e=>if decide (e<0) then n k d g else chk ((0:Int)<=a/\a<(b.fVLs.length:Int)) ((y4y b (nth c a) l).bind fun h=>chk ((0:Int)<=e/\e<(h.length:Int)) (jp1 (fun(f:Int)=>chk (((((yd d f [])++([(fun(y0:Int)=>y1h y0 (⟨((nth b.fVLs a).fName),(⟨(((nth b.fVLs a).fFrom).fModule),(((nth b.fVLs a).fFrom).fPart),(((nth b.fVLs a).fFrom).fPort)⟩:Sapi_Ref),((nth b.fVLs a).fBag),((nth b.fVLs a).fMax),((nth b.fVLs a).fTo)⟩:z16) (nth h e))]:List (Int->Option Int))).length:Nat):Int)*8<=140737488355328/\((((yd d f [])++([(fun(y0:Int)=>y1h y0 (⟨((nth b.fVLs a).fName),(⟨(((nth b.fVLs a).fFrom).fModule),(((nth b.fVLs a).fFrom).fPart),(((nth b.fVLs a).fFrom).fPort)⟩:Sapi_Ref),((nth b.fVLs a).fBag),((nth b.fVLs a).fMax),((nth b.fVLs a).fTo)⟩:z16) (nth h e))]:List (Int->Option Int))).length:Nat):Int)<=4611686018427387904) (n (max k ((nth b.fVLs a).fMax)) (yC d f ((yd d f [])++([(fun(y0:Int)=>y1h y0 (⟨((nth b.fVLs a).fName),(⟨(((nth b.fVLs a).fFrom).fModule),(((nth b.fVLs a).fFrom).fPart),(((nth b.fVLs a).fFrom).fPort)⟩:Sapi_Ref),((nth b.fVLs a).fBag),((nth b.fVLs a).fMax),((nth b.fVLs a).fTo)⟩:z16) (nth h e))]:List (Int->Option Int)))) (yC g f (max (yd g f 0) ((nth b.fVLs a).fMax))))) fun o=>(yZ (nth c a) (fun(y0:ze)=>y4z y0 j)).bind fun i=>if decide (i>=0) then chk ((0:Int)<=i/\i<((nth c a).length:Int)) (o ((nth (nth c a) i).fQ)) else o (-1)))) else m k d g
theorem ya5{n:Nat}{a:Int->(List (Int×List (Int->Option Int)))->(List (Int×Int))->Option (List (Int->Option Int)×Int)}{d:Int}{b:List (Int×List (Int->Option Int))}{c:List (Int×Int)}{r:(List (Int->Option Int)×Int)}(h:y30 s q f p a n u d b c=some r):∃ m,n=m+1:=by
 cases n with
 | zero=>cases h
 | succ m=>exact⟨m,rfl⟩
def y4d(b:zs)(h:List (List ze))(c:z8)(d:List (z8×Int)):Option (List (Int->Option Int)×Int):=
 jp3 (fun(e:Int) (a:List (Int×List (Int->Option Int))) (f:List (Int×Int))=>chk (a.length*8<=140737488355328/\a.length<=4611686018427387904) (some (a.map (y6x b f),e))) fun g=>y30 h c b d g yy 0 0 ([]:List (Int×List (Int->Option Int))) ([]:List (Int×Int))
theorem yd3{Z:Zp}{r:(List (Int->Option Int)×Int)}(h:y4d f s q p=some r)(w₀:World)(hz:PZ (fps [yn g (fun x=>Value.agg (e94 x).toArray) (Value.int .i64) p]) w₀ Z)(aS:ZS Z 4 (y3F Z) n t f.fM)(aT:ZS Z 4 (y4l Z) z aa f.fC0)(aU:ZS Z 4 (fun r x=>r=e64 x) ab ad f.fS)(aV:ZS Z 4 (fun r x=>r=e62 x) ae af f.fK)(aQ:ZS Z 7 (p69 Z) ag ah f.fVLs)(aW:ZS Z 5 (fun r x=>r=y4D x) ai aj f.fH)(aX:ZS Z 3 (y4m Z) ak al f.fU)(aY:ZS Z 4 (fun r x=>r=y4E x) am an f.fV0)(bz:ZS Z 1 (p58 Z) ap aq s)(hown:Hp (fps [yn g (fun x=>Value.agg (e94 x).toArray) (Value.int .i64) p]) w₀ w₀ [yn g (fun x=>Value.agg (e94 x).toArray) (Value.int .i64) p]):
  Calls Tryz.prog 53 #[(.agg #[(vs n f.fM.length t),(vs z f.fC0.length aa),(vs ab f.fS.length ad),(vs ae f.fK.length af),(vs ag f.fVLs.length ah),(vs ai f.fH.length aj),(vs ak f.fU.length al),(vs am f.fV0.length an)]),(vs ap s.length aq),(.agg #[(vi q.fNode),(vi q.fQ)]),(.map (some g))] w₀ fun e w'=>∃ Zn:Zp,∃ aor:Option Addr,∃ capr:Nat,e = .returned (.tuple #[(vs aor r.1.length capr),(vi r.2)])/\(ZSB (Z++Zn) (y5X (Z++Zn)) aor capr r.1)/\Hp (fps [yn g (fun x=>Value.agg (e94 x).toArray) (Value.int .i64) p]) w₀ w' [fz Zn,yn g (fun x=>Value.agg (e94 x).toArray) (Value.int .i64) p]:=by
 unfold y4d at h
 refine Calls.oh4 func53 ntmps53 hown ?_
 let P:Value:=(vs ag f.fVLs.length ah);let W:Value:=(vs z f.fC0.length aa);let X:Value:=(vs am f.fV0.length an);let Y:Value:=(vs n f.fM.length t);let Aa:Value:=(vs ab f.fS.length ad);let Ab:Value:=(vs ae f.fK.length af);let Ac:Value:=(vs ai f.fH.length aj);let Ad:Value:=(vs ak f.fU.length al);let A:List Value:=[Y,W,Aa,Ab,P,Ac,Ad,X];refine WC.pool (WC.b (Ld (Lg 4 (yI (cs:=A) U U) ?_)))
 intro au _
 let H:List Value:=[(vi q.fNode),(vi q.fQ)];refine Lg 6 (yI (cs:=H) U U) ?_
 intro aA _
 refine La U<|La U<|WL.nil<|Lb<|WC.b<|Ld (Lg 23 (y3n (Value.int .i64)<|slv (α:=Value)) fun ay _=>WL.ghL (M:=[y2n (y2d 201 1 y4k) ([]:List (Int×((Nat×(Option Addr×Nat))×List Value))),yn ay (Value.int .i64) slv (y2O ([]:List (Int×((Nat×(Option Addr×Nat))×List Value)))),stb aA 94 H,stb au 31 A,fz [],yn g (fun x=>Value.agg (e94 x).toArray) (Value.int .i64) p]) (fun _ h=>Hp.yfp (y2d 201 1 y4k) h)<|La U<|WL.nil<|Lb<|WC.b<|Ld (Lg 24 (y3n (Value.int .i64)<|Value.int .i64) fun aw _=>Lg 11 (yu (cs:=[(.map none)]) zLV U) fun av _=>Lk U U (yl zLW U U U .here U U U)<|WL.nil<|Lb<|WC.b<|Ld<|La U<|WL.nil<|Lb ?_))
 obtain⟨bi,bA,h⟩:=y9k h
 refine WC.yas (fun(a2:Int) (a3:List (Int×List (Int->Option Int))) (a4:List (Int×Int)) (aZ:Zp) (a0:List (Int×((Nat×(Option Addr×Nat))×List Value)))=>(bi a2 a3 a4=some r)/\(Zle (Z++[]) (Z++aZ))/\(RM (y5X (Z++aZ)) (dat a0) a3)) (fun a2 a3 a4 aZ a0=>[(4,(vp au)),(10,(.map<|some ay)),(11,(vp av)),(12,(vi a2))]) (fun a2 a3 a4 aZ a0=>[fz aZ,stb au 31 A,yn ay (Value.int .i64) slv (y2O a0),y2n (y2d 201 1 y4k) a0,stb av 148 [(.map<|some aw)],yn g (fun x=>Value.agg (e94 x).toArray) (Value.int .i64) p,yn aw (Value.int .i64) (Value.int .i64) a4]) ?_ ?_
 ·skip
  let I:Value:=(vs ap s.length aq);refine WC.b (Ld (La U (Le 26 (yJ underlying32 U) (La U (WL.nil (Lb (WC.block (WC.yho (fun(aR:Nat) (aF:Int) (a:Int) (aH:List (Int×List (Int->Option Int))) (aC:List (Int×Int)) (aB:Zp) (ax:List (Int×((Nat×(Option Addr×Nat))×List Value)))=>(y30 s q f p bi aR aF a aH aC=some r)/\(Zle (Z++[]) (Z++aB))/\(RM (y5X (Z++aB)) (dat ax) aH)) (fun aR aF a aH aC aB ax=>[(3,(.map (some g))),(4,(vp au)),(6,(vp aA)),(10,(.map (some ay))),(11,(vp av)),(12,(vi aF)),(25,I),(26,(vi (s.length:Int))),(27,(vi a))]) (fun aR aF a aH aC aB ax=>[fz aB,yn g (fun x=>Value.agg (e94 x).toArray) (Value.int .i64) p,stb au 31 A,stb aA 94 H,yn ay (Value.int .i64) slv (y2O ax),y2n (y2d 201 1 y4k) ax,stb av 148 [(.map (some aw))],yn aw (Value.int .i64) (Value.int .i64) aC]) (fun aR aF a aH aC aB ax=>aR) ⟨yy,0,0,([]:List (Int×List (Int->Option Int))),([]:List (Int×Int)),[],([]:List (Int×((Nat×(Option Addr×Nat))×List Value)))⟩ ⟨h,(Zle.refl _),RM.nil⟩ (.r9 U U U U U U U U U) (.s8 .h6 .h6 .h5 .h4 .h3 .h2 .here .here) ?_))))))))
  rintro aR aF a aH aC aB ax ⟨h,ar,a5⟩
  obtain⟨bB,rfl⟩:=ya5 h
  rw[y30] at h
  refine WC.b<|Ld<|La U<|WL.nil<|Lb<|WC.b<|WC.cond U (fun ba=>?_)<|fun ba=>?_
  ·replace h:=yr h ba
   refine WC.skip<|Lb ?_
   obtain⟨bC,bD,h⟩:=y9k h
   refine WC.yas (fun(aI:Int) (aJ:List (Int×List (Int->Option Int))) (aK:List (Int×Int)) (aL:Zp) (aM:List (Int×((Nat×(Option Addr×Nat))×List Value)))=>(bC aI aJ aK=some r)/\(Zle (Z++aB) (Z++aL))/\(RM (y5X (Z++aL)) (dat aM) aJ)) (fun aI aJ aK aL aM=>[(3,(.map<|some g)),(4,(vp au)),(6,(vp aA)),(10,(.map<|some ay)),(11,(vp av)),(12,(vi aI)),(25,I),(26,(vi (s.length:Int))),(27,(vi a))]) (fun aI aJ aK aL aM=>[fz aL,yn g (fun x=>Value.agg (e94 x).toArray) (Value.int .i64) p,stb au 31 A,stb aA 94 H,yn ay (Value.int .i64) slv (y2O aM),y2n (y2d 201 1 y4k) aM,stb av 148 [(.map<|some aw)],yn aw (Value.int .i64) (Value.int .i64) aK]) ?_ ?_
   ·skip
    refine WC.block<|WC.b ?_
    obtain⟨bE,h⟩:=yo h
    refine Ld<|La U<|L0 (dd:=30) U U (Z:=(Z++aB)) (Pr:=(p58 (Z++aB))) y8Y U U ((bz.mono<|(Zle.left _ _).trans ar).weak (fun _ _ h=>y22 ((Zle.left _ _).trans ar) h)) bE ?_
    rintro b1 b2 bF b3 ⟨bG,bH,rfl,aN⟩
    refine Le 31 (yc y7g U<|y3x (hz.pv2 .here) bF U)<|La U<|La U<|WL.nil<|Lb<|WC.b ?_
    obtain⟨aD,bI,h⟩:=za h
    refine Ld<|La U<|Le 33 (y15<|L2 (l:=[.tmp 6])<|.cons U .nil)<|Ll 34 (zb call94<|.r2 U U) .nil (yaQ hz .nil .here (.cons .h3 .nil) fun w pz ho la=>y2Q _ _ _ (z9F:=95) (zdk:=[(vp aA)]) _ (z7a:=(fun(y0:ze)=>y4w y0 q)) _ bI w pz (aN.mono<|Zle.left _ _) call95<|fun w' hz' y0  r  hr=>ybY hr w' hz'<|(la _ (.head _) _).stb)<|La U<|WL.nil<|Lb<|WC.b<|WC.b<|Ld<|La U<|La U<|WL.nil<|Lb<|WC.cond U (fun bb=>?_)<|fun bb=>?_
    ·replace h:=yr h bb
     refine WC.exit<|Lm<|Lw ?_
     exact Ln ⟨aF,aH,aC,aB,ax⟩ ⟨h,(Zle.refl _),a5⟩ (.r9 U U U U U U U U U)<|.a8
    ·replace h:=ys h bb
     refine WC.skip<|Lb<|WC.b ?_
     obtain⟨bJ,h⟩:=yo h
     obtain⟨az,a6,h⟩:=za h
     obtain⟨aG,h⟩:=yo h
     refine Lx (fun i=>[8,14,15].contains i) [y8a au 31 [(4,P)],fz aB] U<|Lf 0 37 U (fun _=>ya y7U U U)<|L6 1 38 U (Sin.wk (.s2 .h2 .here)<|.stb (.cons U .nil)<|.same .nil) (yc y7V U<|y62 .here<|.head _)<|Lf 2 39 U (fun _=>q_m U)<|L7 (j:=3) (dd:=40) (by kernel_rfl) U z2k z2l U U (Z:=(Z++aB)) (Pr:=(p69 (Z++aB))) y9U U U ((aQ.mono<|(Zle.left _ _).trans ar).weak (fun _ _ h=>y1k ((Zle.left _ _).trans ar) h)) bJ ?_
     rintro b4 b5 bK b6 ⟨bL,bM,rfl,bN⟩
     let E:Value:=(vs bG ((nth s a).length) bH);let K:Value:=(vi (s.length:Int));let L:Value:=(vs bL (((nth f.fVLs a).fTo).length) bM);let N:Value:=(vi ((nth f.fVLs a).fBag));let O:Value:=(vi ((nth f.fVLs a).fMax));refine L6 4 41 U (Sin.wk (.s2 .h2 .here) (.stb (.cons U .nil) (.same .nil))) (yi yge U (y2j (hz.pv2 .h1) bK) U) (Li 5 42 U (yi y1V U (yj .h2) U) (Lf 6 43 U (fun _=>q_m U) (Lf 7 44 U (fun _=>q_m U) (Lf 9 46 U (fun _=>q_m U) (WD.ych (fuel':=0) (fun(b:Nat) (B:Nat) (c:Nat) (o:Nat)=>[(3,(.map (some g))),(4,(vp au)),(6,(vp aA)),(10,(.map (some ay))),(11,(vp av)),(12,(vi aF)),(25,I),(26,K),(27,(vi a)),(14,E),(16,(vp c)),(17,(vp o)),(18,(vi (-1)))]) (fun(b:Nat) (B:Nat) (c:Nat) (o:Nat)=>[stb o 3 [(vi (nth az aD))],stb c 69 [(.string ((nth f.fVLs a).fName)),(.string (((nth f.fVLs a).fFrom).fModule)),(.string (((nth f.fVLs a).fFrom).fPart)),(.string (((nth f.fVLs a).fFrom).fPort)),N,O,L],row (vs (some ⟨b,0,none⟩) az.length B) 3 1 (az.flatMap e3),yn g (fun x=>Value.agg (e94 x).toArray) (Value.int .i64) p,fz aB,stb au 31 A,stb aA 94 H,yn ay (Value.int .i64) slv (y2O ax),y2n (y2d 201 1 y4k) ax,stb av 148 [(.map (some aw))],yn aw (Value.int .i64) (Value.int .i64) aC]) (fun(b:Nat) (B:Nat) (c:Nat) (o:Nat)=>True) (y2e 17 [16,15,11,14,13,12,10,8,9,7,6,5,4,3,2,1,0]) ?_ (fun bO=>?_))))))
     ·skip
      rintro b B c o _
      refine WD.done (by kernel_rfl)<|Lb ?_
      obtain⟨bP,bQ,h⟩:=y13 h
      refine WC.y3r (fun(aE:Int)=>(bP aE=some r)) (fun aE=>[(3,(.map<|some g)),(4,(vp au)),(6,(vp aA)),(10,(.map<|some ay)),(11,(vp av)),(12,(vi aF)),(16,(vp c)),(17,(vp o)),(18,(vi aE)),(25,I),(26,K),(27,(vi a))]) (fun aE=>[fz aB,yn g (fun x=>Value.agg (e94 x).toArray) (Value.int .i64) p,stb au 31 A,stb aA 94 H,yn ay (Value.int .i64) slv (y2O ax),y2n (y2d 201 1 y4k) ax,stb av 148 [(.map<|some aw)],stb c 69 [(.string<|(nth f.fVLs a).fName),(.string<|((nth f.fVLs a).fFrom).fModule),(.string<|((nth f.fVLs a).fFrom).fPart),(.string<|((nth f.fVLs a).fFrom).fPort),N,O,L],stb o 3 [(vi<|nth az aD)],yn aw (Value.int .i64) (Value.int .i64) aC]) ?_ ?_
      ·skip
       refine WC.b ?_
       obtain⟨bR,bS,h⟩:=za h
       refine Ld<|La U<|Le 50 (y15<|L2 (l:=[.tmp 6])<|.cons U .nil)<|Ll 51 (zb call94<|.r2 U U) .nil (yaQ hz .nil .h4 (.cons .h6 .nil) fun w pz ho la=>y2Q _ _ _ (z9F:=96) (zdk:=[(vp aA)]) _ (z7a:=(fun(y0:ze)=>y4z y0 q)) _ bS w pz (aN.mono<|Zle.left _ _) call96<|fun w' hz' y0  r  hr=>ybZ hr w' hz'<|(la _ (.head _) _).stb)<|La U<|WL.nil<|Lb<|WC.b<|Ld<|La U<|La U<|WL.nil<|Lb<|WC.cond U (fun bc=>?_)<|fun bc=>?_
       ·replace h:=yr h bc
        obtain⟨bT,h⟩:=yo h
        refine Ld<|La U<|La U<|L0 (dd:=56) U U (Z:=(Z++aB)) (Pr:=(fun r x=>r=e60 x)) y69 U U aN bT ?_
        rintro b7 b8 bU b9 rfl
        refine Le 57 (ya y8H U U)<|Le 58 (yc yq U<|y1b (hz.pv2 .h4) bU U)<|La U<|WL.nil ?_
        exact Ln ((nth (nth s a) bR).fQ) h (.r12 U U U U U U U U U U U U)<|.s10 .h4 .h3 .h3 .h3 .h3 .h3 .h3 .h1 .here .h1
       ·replace h:=ys h bc
        refine WC.skip ?_
        exact Ln (-1) h (.r12 U U U U U U U U U U U U)<|.s10 .h4 .h3 .h3 .h3 .h3 .h3 .h3 .h1 .here .h1
      ·rintro aE h
       replace h:=(bQ aE).symm.trans h
       refine WC.b ?_
       obtain⟨bV,h⟩:=yo h
       refine Ld<|La U<|La U<|La U<|La U<|Le 63 (y2V (k:=aE) (dflt:=(((none,0),[]):(Option Addr×Nat)×List Value)) y3V underlying198 zDn U U U .h4)<|WL.gh (fun _ h=>Hp.yjH aE a5 .h5 h) ?_
       rintro⟨⟨bW,bX⟩,a1⟩ ⟨bY,bj⟩
       refine Kh (i:=63) U (u:=(vs bW ((yd aH aE []).length) bX)) ((congrArg slv bY).trans (RR.slv bj)) (WL.freezeC (Z:=Z) (.there .h7) .h2 fun ca a7 bd=>WL.freezeC (Z:=Z) (.there .h7) .here ?_)
       intro aO aP bZ
       let J:List Value:=[(.func (.func 97) #[] #[(vp c),(vp o)])];have b0:y5X (Z++aO) J (fun(y0:Int)=>y1h y0 (⟨((nth f.fVLs a).fName),(⟨(((nth f.fVLs a).fFrom).fModule),(((nth f.fVLs a).fFrom).fPart),(((nth f.fVLs a).fFrom).fPort)⟩:Sapi_Ref),((nth f.fVLs a).fBag),((nth f.fVLs a).fMax),((nth f.fVLs a).fTo)⟩:z16) (nth az aD)):=⟨97,[(vp c),(vp o)],U,call97,(fun w' hz' y0 r hr=>yc0 hr w' hz' (bN.mono (a7.trans aP)) (bd.mono aP) bZ)⟩
       refine Le 64 (y15<|L2 (l:=[.tmp 16,.tmp 17])<|.r2 U U) ?_
       have bk:RR 1 (y5X (Z++aO)) J ([(fun(y0:Int)=>y1h y0 (⟨((nth f.fVLs a).fName),(⟨(((nth f.fVLs a).fFrom).fModule),(((nth f.fVLs a).fFrom).fPart),(((nth f.fVLs a).fFrom).fPort)⟩:Sapi_Ref),((nth f.fVLs a).fBag),((nth f.fVLs a).fMax),((nth f.fVLs a).fTo)⟩:z16) (nth az aD))]:List (Int->Option Int)):=(RR.cons (r:=J) U b0 (RR.nil _ _))
       refine Lg 65 (yT (cs:=[(.func (.func 97) #[] #[(vp c),(vp o)])]) zl8 (Lo (l:=[.tmp 64]) (.cons U .nil) [0]) (fun _=>by kernel_rfl) U (by unfold maxLen;omega)) ?_
       intro br _
       have be:RR 1 (y5X (Z++aO)) (a1++J) ((yd aH aE [])++([(fun(y0:Int)=>y1h y0 (⟨((nth f.fVLs a).fName),(⟨(((nth f.fVLs a).fFrom).fModule),(((nth f.fVLs a).fFrom).fPart),(((nth f.fVLs a).fFrom).fPort)⟩:Sapi_Ref),((nth f.fVLs a).fBag),((nth f.fVLs a).fMax),((nth f.fVLs a).fTo)⟩:z16) (nth az aD))]:List (Int->Option Int))):=RR.app (bj.weak (fun _ _ h=>y68 (a7.trans aP) h)) bk
       refine WL.fA 66 (y8F (l1:=yd aH aE []) (l2:=([(fun(y0:Int)=>y1h y0 (⟨((nth f.fVLs a).fName),(⟨(((nth f.fVLs a).fFrom).fModule),(((nth f.fVLs a).fFrom).fPart),(((nth f.fVLs a).fFrom).fPort)⟩:Sapi_Ref),((nth f.fVLs a).fBag),((nth f.fVLs a).fMax),((nth f.fVLs a).fTo)⟩:z16)<|nth az aD)]:List (Int->Option Int))) (news:=J) (Pr:=(y5X (Z++aO))) zl8 U U .h2 bk (y3q .here) (ybJ U yd8) bV) ?_
       rintro⟨a8,a9⟩ _
       refine Lk U U (y3P (k:=aE) (v:=(((a8,a9),a1++J):(Option Addr×Nat)×List Value)) y3V underlying198 U U U (RR.slv be).symm .h7)<|WL.ghL (fun _ h=>Hp.yiC (k:=aE) (RR.yiU be) (.s2 .h1 .h3) h)<|WL.ghL (M:=[yn ay (Value.int .i64) slv (y2O<|yC ax aE ((0,(a8,a9)),a1++J)),y2n (y2d 201 1 y4k) (yC ax aE ((0,(a8,a9)),a1++J)),row (vs (some ⟨br,0,none⟩) (([(fun(y0:Int)=>y1h y0 (⟨((nth f.fVLs a).fName),(⟨(((nth f.fVLs a).fFrom).fModule),(((nth f.fVLs a).fFrom).fPart),(((nth f.fVLs a).fFrom).fPort)⟩:Sapi_Ref),((nth f.fVLs a).fBag),((nth f.fVLs a).fMax),((nth f.fVLs a).fTo)⟩:z16)<|nth az aD)]:List (Int->Option Int)).length) 1) 201 1 J,fz aO,yn g (fun x=>Value.agg (e94 x).toArray) (Value.int .i64) p,stb au 31 A,stb aA 94 H,stb av 148 [(.map<|some aw)],yn aw (Value.int .i64) (Value.int .i64) aC]) (fun _ h=>Hp.yhx .h1 (ydm _ _ _ _).symm h)<|WL.nil<|Lb<|Lx (fun i=>[12].contains i) [fz aO] U<|Li 0 67 U (yc zsF U<|yh .h7 U)<|Lf 1 68 U (fun _=>q_m U)<|Li 2 69 U (yc zsF U<|yh .h7 U)<|Lf 3 70 U (fun _=>q_m U)<|Li 4 71 U (y2V (k:=aE) (dflt:=(0:Int)) y3V underlying148 y2K U U U<|.there .h7)<|Lf 5 72 U (fun _=>ya y7W U U)<|Li 6 73 U (yc yq U<|y1b (hz.pv2 .h3) (bd.mono aP) U)<|Lf 7 74 U (fun _=>yce U U U)<|Lf 8 75 U (fun _=>q_m U)<|Lf 9 76 U (fun _=>ya y7W U U)<|L6 10 77 U (Sin.of<|.cons .h3 .nil) (yc yq U<|y1b (hz.pv2 .here) (bd.mono aP) U)<|Lf 11 78 U (fun _=>yce U U U)<|WD.forced0 (i:=12) U (by kernel_rfl) U U U (Sin.of<|.cons .h4 .nil) (y3P (k:=aE) (v:=max (yd aC aE 0) ((nth f.fVLs a).fMax)) y3V underlying148 U U U U<|.there .h7)<|Lf 13 12 U (fun _=>q_z U)<|WD.done (by kernel_rfl)<|Lq ?_
       exact Ln ⟨(max aF<|(nth f.fVLs a).fMax),(yC aH aE ((yd aH aE [])++([(fun(y0:Int)=>y1h y0 (⟨((nth f.fVLs a).fName),(⟨(((nth f.fVLs a).fFrom).fModule),(((nth f.fVLs a).fFrom).fPart),(((nth f.fVLs a).fFrom).fPort)⟩:Sapi_Ref),((nth f.fVLs a).fBag),((nth f.fVLs a).fMax),((nth f.fVLs a).fTo)⟩:z16)<|nth az aD)]:List (Int->Option Int)))),(yC aC aE<|max (yd aC aE 0)<|(nth f.fVLs a).fMax),aO,(yC ax aE ((0,(a8,a9)),a1++J))⟩ ⟨h,(a7.trans aP),(RM.putD (a5.weak<|fun _ _ h=>y68 (a7.trans aP) h) aE be)⟩ (.r9 U U U U U U U U U)<|.s8 .h4 .h4 .h4 .h4 .h1 .h1 .h2 .here
     let R:Value:=(.string (((nth f.fVLs a).fFrom).fModule));let S:Value:=(.string (((nth f.fVLs a).fFrom).fPart));let T:Value:=(.string (((nth f.fVLs a).fFrom).fPort));let V:Value:=(.string ((nth f.fVLs a).fName));refine WD.ych (fuel':=2) (fun(b:Nat) (B:Nat) (c:Nat) (o:Nat)=>[(3,(.map (some g))),(4,(vp au)),(6,(vp aA)),(10,(.map (some ay))),(11,(vp av)),(12,(vi aF)),(25,I),(26,K),(27,(vi a)),(14,E),(16,(vp c)),(17,(vp o)),(48,(vi (nth az aD)))]) (fun(b:Nat) (B:Nat) (c:Nat) (o:Nat)=>[stb c 69 [V,R,S,T,N,O,L],stb o 3 [(vi 0)],row (vs (some ⟨b,0,none⟩) az.length B) 3 1 (az.flatMap e3),yn g (fun x=>Value.agg (e94 x).toArray) (Value.int .i64) p,fz aB,stb au 31 A,stb aA 94 H,yn ay (Value.int .i64) slv (y2O ax),y2n (y2d 201 1 y4k) ax,stb av 148 [(.map (some aw))],yn aw (Value.int .i64) (Value.int .i64) aC]) (fun(b:Nat) (B:Nat) (c:Nat) (o:Nat)=>True) (y2e 17 [11,14,13,12,10,8,9,7,6,5,4,3,2,1,0]) ?_ (fun bl=>?_)
     ·skip
      rintro b B c o _
      refine WD.forced0 (i:=15) U (by kernel_rfl) U U U (Sin.wk (.s2 .h5 .h4)<|.stb (.cons U .nil)<|.same .nil) (yl ybO U U U .h1 U U U)<|Lf 16 18 U (fun _=>q_z U) ?_
      exact Ly (.a11) (.r13 U U U U U U U U U U U U U)<|bO b B c o trivial
     let C:Value:=(.agg #[V,R,S,T,N,O,L]);let D:List Value:=[(.string ⟨#[]⟩),(.string ⟨#[]⟩),(.string ⟨#[]⟩),(.string ⟨#[]⟩),(vi 0),(vi 0),vn];refine WD.ych (fuel':=3) (fun(b:Nat) (B:Nat) (c:Nat) (o:Nat)=>[(3,(.map (some g))),(4,(vp au)),(6,(vp aA)),(10,(.map (some ay))),(11,(vp av)),(12,(vi aF)),(25,I),(26,K),(27,(vi a)),(14,E),(41,C),(48,(vi (nth az aD))),(16,(vp c)),(17,(vp o))]) (fun(b:Nat) (B:Nat) (c:Nat) (o:Nat)=>[stb o 3 [(vi 0)],stb c 69 D,row (vs (some ⟨b,0,none⟩) az.length B) 3 1 (az.flatMap e3),yn g (fun x=>Value.agg (e94 x).toArray) (Value.int .i64) p,fz aB,stb au 31 A,stb aA 94 H,yn ay (Value.int .i64) slv (y2O ax),y2n (y2d 201 1 y4k) ax,stb av 148 [(.map (some aw))],yn aw (Value.int .i64) (Value.int .i64) aC]) (fun(b:Nat) (B:Nat) (c:Nat) (o:Nat)=>True) (y2e 17 [13,12,11,10,8,9,7,6,5,4,3,2,1,0]) ?_ (fun bf=>?_)
     ·skip
      rintro b B c o _
      refine WD.forced0 (i:=14) U (by kernel_rfl) U U U (Sin.wk (.s2 .h5 .h4)<|.stb (.cons U .nil)<|.same .nil) (yl yiZ U U U .h1 U U U) ?_
      exact Ly (.a11) (.r13 U U U U U U U U U U U U U)<|bl b B c o trivial
     refine WD.ycg (fuel':=4) (fun(b:Nat) (B:Nat) (c:Nat)=>[(3,(.map<|some g)),(4,(vp au)),(6,(vp aA)),(10,(.map<|some ay)),(11,(vp av)),(12,(vi aF)),(25,I),(26,K),(27,(vi a)),(14,E),(41,C),(48,(vi<|nth az aD)),(16,(vp c))]) (fun(b:Nat) (B:Nat) (c:Nat)=>[stb c 69 D,row (vs (some ⟨b,0,none⟩) az.length B) 3 1 (az.flatMap e3),yn g (fun x=>Value.agg (e94 x).toArray) (Value.int .i64) p,fz aB,stb au 31 A,stb aA 94 H,yn ay (Value.int .i64) slv (y2O ax),y2n (y2d 201 1 y4k) ax,stb av 148 [(.map<|some aw)],yn aw (Value.int .i64) (Value.int .i64) aC]) (fun(b:Nat) (B:Nat) (c:Nat)=>True) (y2e 17 [12,11,10,8,9,7,6,5,4,3,2,1,0]) ?_<|fun bm=>?_
     ·skip
      rintro b B c _
      refine WD.new (i:=13) (dd:=17) U (by kernel_rfl) U U U (yu (cs:=[(vi 0)]) y2K U) (fun h'=>absurd h' (by decide)) fun o _=>Ly (.a11) (.r14 U U U U U U U U U U U U U U)<|bf b B c o trivial
     refine WD.ycg (fuel':=4) (fun(b:Nat) (B:Nat) (o:Nat)=>[(3,(.map<|some g)),(4,(vp au)),(6,(vp aA)),(10,(.map<|some ay)),(11,(vp av)),(12,(vi aF)),(25,I),(26,K),(27,(vi a)),(14,E),(41,C),(48,(vi<|nth az aD)),(17,(vp o))]) (fun(b:Nat) (B:Nat) (o:Nat)=>[stb o 3 [(vi 0)],row (vs (some ⟨b,0,none⟩) az.length B) 3 1 (az.flatMap e3),yn g (fun x=>Value.agg (e94 x).toArray) (Value.int .i64) p,fz aB,stb au 31 A,stb aA 94 H,yn ay (Value.int .i64) slv (y2O ax),y2n (y2d 201 1 y4k) ax,stb av 148 [(.map<|some aw)],yn aw (Value.int .i64) (Value.int .i64) aC]) (fun(b:Nat) (B:Nat) (o:Nat)=>True) (y2e 17 [13,11,10,8,9,7,6,5,4,3,2,1,0]) ?_<|fun bn=>?_
     ·skip
      rintro b B o _
      refine WD.new (i:=12) (dd:=16) U (by kernel_rfl) U U U (yu (cs:=D) y9z U) (fun h'=>absurd h' (by decide)) fun c _=>Ly (.s11 .h1 .here .here .here .here .here .here .here .here .here .here) (.r14 U U U U U U U U U U U U U U)<|bf b B c o trivial
     refine WD.ych (fuel':=4) (fun(b:Nat) (B:Nat) (c:Nat) (o:Nat)=>[(3,(.map<|some g)),(4,(vp au)),(6,(vp aA)),(10,(.map<|some ay)),(11,(vp av)),(12,(vi aF)),(25,I),(26,K),(27,(vi a)),(14,E),(41,C),(47,(.pointer<|some ⟨b,(aD:Int).toNat*1,none⟩)),(16,(vp c)),(17,(vp o))]) (fun(b:Nat) (B:Nat) (c:Nat) (o:Nat)=>[stb o 3 [(vi 0)],stb c 69 D,row (vs (some ⟨b,0,none⟩) az.length B) 3 1 (az.flatMap e3),yn g (fun x=>Value.agg (e94 x).toArray) (Value.int .i64) p,fz aB,stb au 31 A,stb aA 94 H,yn ay (Value.int .i64) slv (y2O ax),y2n (y2d 201 1 y4k) ax,stb av 148 [(.map<|some aw)],yn aw (Value.int .i64) (Value.int .i64) aC]) (fun(b:Nat) (B:Nat) (c:Nat) (o:Nat)=>True) (y2e 17 [13,12,10,8,9,7,6,5,4,3,2,1,0]) ?_<|fun bg=>?_
     ·skip
      rintro b B c o _
      refine WD.choose [11,14] (by kernel_rfl) U ?_
      refine WDo.cons ?_<|WDo.cons ?_<|WDo.nil
      ·refine WDo.quiet (i:=11) (d:=48) U U U U (fun h'=>absurd h' (by decide)) (yc yq U<|y8S .h2<|(y2y (enc:=e3) (l:=az) (i:=aD) (sz:=1) (fun _=>U) aG.1 aG.2) 0 _ U) ?_
       exact Ly (.a11) (.r14 U U U U U U U U U U U U U U)<|bf b B c o trivial
      ·refine WDo.forced0 (i:=14) U U U U (Sin.wk (.s2 .h5 .h4)<|.stb (.cons U .nil)<|.same .nil) (yl yiZ U U U .h1 U U U) ?_
       refine Li 11 48 U (yc yq U<|y8S .h2<|(y2y (enc:=e3) (l:=az) (i:=aD) (sz:=1) (fun _=>U) aG.1 aG.2) 0 _ U) ?_
       exact Ly (.a11) (.r13 U U U U U U U U U U U U U)<|bl b B c o trivial
     refine WD.yeQ (fuel':=5) (fun(b:Nat) (B:Nat)=>[(3,(.map<|some g)),(4,(vp au)),(6,(vp aA)),(10,(.map<|some ay)),(11,(vp av)),(12,(vi aF)),(25,I),(26,K),(27,(vi a)),(14,E),(41,C),(48,(vi<|nth az aD))]) (fun(b:Nat) (B:Nat)=>[row (vs (some ⟨b,0,none⟩) az.length B) 3 1 (az.flatMap e3),yn g (fun x=>Value.agg (e94 x).toArray) (Value.int .i64) p,fz aB,stb au 31 A,stb aA 94 H,yn ay (Value.int .i64) slv (y2O ax),y2n (y2d 201 1 y4k) ax,stb av 148 [(.map<|some aw)],yn aw (Value.int .i64) (Value.int .i64) aC]) (fun(b:Nat) (B:Nat)=>True) (y2e 17 [11,10,8,9,7,6,5,4,3,2,1,0]) ?_<|fun bs=>?_
     ·skip
      rintro b B _
      refine WD.choose [12,13] (by kernel_rfl) U ?_
      refine WDo.cons ?_<|WDo.cons ?_<|WDo.nil
      ·refine WDo.new (i:=12) (dd:=16) U U U U (yu (cs:=D) y9z U) (fun h'=>absurd h' (by decide)) fun c _=>Ly (.a10) (.r13 U U U U U U U U U U U U U)<|bm b B c trivial
      ·refine WDo.new (i:=13) (dd:=17) U U U U (yu (cs:=[(vi 0)]) y2K U) (fun h'=>absurd h' (by decide)) fun o _=>Ly (.a10) (.r13 U U U U U U U U U U U U U)<|bn b B o trivial
     refine WD.ycg (fuel':=5) (fun(b:Nat) (B:Nat) (c:Nat)=>[(3,(.map<|some g)),(4,(vp au)),(6,(vp aA)),(10,(.map<|some ay)),(11,(vp av)),(12,(vi aF)),(25,I),(26,K),(27,(vi a)),(14,E),(41,C),(47,(.pointer<|some ⟨b,(aD:Int).toNat*1,none⟩)),(16,(vp c))]) (fun(b:Nat) (B:Nat) (c:Nat)=>[stb c 69 D,row (vs (some ⟨b,0,none⟩) az.length B) 3 1 (az.flatMap e3),yn g (fun x=>Value.agg (e94 x).toArray) (Value.int .i64) p,fz aB,stb au 31 A,stb aA 94 H,yn ay (Value.int .i64) slv (y2O ax),y2n (y2d 201 1 y4k) ax,stb av 148 [(.map<|some aw)],yn aw (Value.int .i64) (Value.int .i64) aC]) (fun(b:Nat) (B:Nat) (c:Nat)=>True) (y2e 17 [12,10,8,9,7,6,5,4,3,2,1,0]) ?_<|fun bo=>?_
     ·skip
      rintro b B c _
      refine WD.choose [11,13] (by kernel_rfl) U ?_
      refine WDo.cons ?_<|WDo.cons ?_<|WDo.nil
      ·refine WDo.quiet (i:=11) (d:=48) U U U U (fun h'=>absurd h' (by decide)) (yc yq U<|y8S .h1<|(y2y (enc:=e3) (l:=az) (i:=aD) (sz:=1) (fun _=>U) aG.1 aG.2) 0 _ U) ?_
       exact Ly (.a10) (.r13 U U U U U U U U U U U U U)<|bm b B c trivial
      ·refine WDo.new (i:=13) (dd:=17) U U U U (yu (cs:=[(vi 0)]) y2K U) (fun h'=>absurd h' (by decide)) fun o _=>Ly (.a11) (.r14 U U U U U U U U U U U U U U)<|bg b B c o trivial
     refine WD.ycg (fuel':=5) (fun(b:Nat) (B:Nat) (o:Nat)=>[(3,(.map<|some g)),(4,(vp au)),(6,(vp aA)),(10,(.map<|some ay)),(11,(vp av)),(12,(vi aF)),(25,I),(26,K),(27,(vi a)),(14,E),(41,C),(47,(.pointer<|some ⟨b,(aD:Int).toNat*1,none⟩)),(17,(vp o))]) (fun(b:Nat) (B:Nat) (o:Nat)=>[stb o 3 [(vi 0)],row (vs (some ⟨b,0,none⟩) az.length B) 3 1 (az.flatMap e3),yn g (fun x=>Value.agg (e94 x).toArray) (Value.int .i64) p,fz aB,stb au 31 A,stb aA 94 H,yn ay (Value.int .i64) slv (y2O ax),y2n (y2d 201 1 y4k) ax,stb av 148 [(.map<|some aw)],yn aw (Value.int .i64) (Value.int .i64) aC]) (fun(b:Nat) (B:Nat) (o:Nat)=>True) (y2e 17 [13,10,8,9,7,6,5,4,3,2,1,0]) ?_<|fun bp=>?_
     ·skip
      rintro b B o _
      refine WD.choose [11,12] (by kernel_rfl) U ?_
      refine WDo.cons ?_<|WDo.cons ?_<|WDo.nil
      ·refine WDo.quiet (i:=11) (d:=48) U U U U (fun h'=>absurd h' (by decide)) (yc yq U<|y8S .h1<|(y2y (enc:=e3) (l:=az) (i:=aD) (sz:=1) (fun _=>U) aG.1 aG.2) 0 _ U) ?_
       exact Ly (.a10) (.r13 U U U U U U U U U U U U U)<|bn b B o trivial
      ·refine WDo.new (i:=12) (dd:=16) U U U U (yu (cs:=D) y9z U) (fun h'=>absurd h' (by decide)) fun c _=>Ly (.s11 .h1 .here .here .here .here .here .here .here .here .here .here) (.r14 U U U U U U U U U U U U U U)<|bg b B c o trivial
     refine WD.yeQ (fuel':=6) (fun(b:Nat) (B:Nat)=>[(3,(.map<|some g)),(4,(vp au)),(6,(vp aA)),(10,(.map<|some ay)),(11,(vp av)),(12,(vi aF)),(25,I),(26,K),(27,(vi a)),(14,E),(41,C),(47,(.pointer<|some ⟨b,(aD:Int).toNat*1,none⟩))]) (fun(b:Nat) (B:Nat)=>[row (vs (some ⟨b,0,none⟩) az.length B) 3 1 (az.flatMap e3),yn g (fun x=>Value.agg (e94 x).toArray) (Value.int .i64) p,fz aB,stb au 31 A,stb aA 94 H,yn ay (Value.int .i64) slv (y2O ax),y2n (y2d 201 1 y4k) ax,stb av 148 [(.map<|some aw)],yn aw (Value.int .i64) (Value.int .i64) aC]) (fun(b:Nat) (B:Nat)=>True) (y2e 17 [10,8,9,7,6,5,4,3,2,1,0]) ?_<|fun bt=>?_
     ·skip
      rintro b B _
      refine WD.choose [11,12,13] (by kernel_rfl) U ?_
      refine WDo.cons ?_<|WDo.cons ?_<|WDo.cons ?_<|WDo.nil
      ·refine WDo.quiet (i:=11) (d:=48) U U U U (fun h'=>absurd h' (by decide)) (yc yq U<|y8S .here<|(y2y (enc:=e3) (l:=az) (i:=aD) (sz:=1) (fun _=>U) aG.1 aG.2) 0 _ U) ?_
       exact Ly (.a9) (.r12 U U U U U U U U U U U U)<|bs b B trivial
      ·refine WDo.new (i:=12) (dd:=16) U U U U (yu (cs:=D) y9z U) (fun h'=>absurd h' (by decide)) fun c _=>Ly (.a10) (.r13 U U U U U U U U U U U U U)<|bo b B c trivial
      ·refine WDo.new (i:=13) (dd:=17) U U U U (yu (cs:=[(vi 0)]) y2K U) (fun h'=>absurd h' (by decide)) fun o _=>Ly (.a10) (.r13 U U U U U U U U U U U U U)<|bp b B o trivial
     let F:Value:=(.agg #[Y,W,Aa,Ab,P,Ac,Ad,X]);refine WD.yeQ (fuel':=6) (fun(c:Nat) (o:Nat)=>[(3,(.map (some g))),(4,(vp au)),(6,(vp aA)),(10,(.map (some ay))),(11,(vp av)),(12,(vi aF)),(25,I),(26,K),(27,(vi a)),(14,E),(41,C),(42,F),(43,E),(44,(.map (some g))),(46,(vi aD)),(16,(vp c)),(17,(vp o))]) (fun(c:Nat) (o:Nat)=>[stb o 3 [(vi 0)],stb c 69 D,fz aB,yn g (fun x=>Value.agg (e94 x).toArray) (Value.int .i64) p,stb au 31 A,stb aA 94 H,yn ay (Value.int .i64) slv (y2O ax),y2n (y2d 201 1 y4k) ax,stb av 148 [(.map (some aw))],yn aw (Value.int .i64) (Value.int .i64) aC]) (fun(c:Nat) (o:Nat)=>True) (y2e 17 [13,12,9,7,6,5,4,3,2,1,0]) ?_ (fun bq=>?_)
     ·skip
      rintro c o _
      refine WD.call2 (i:=8) (dd:=45) U (by kernel_rfl) U U U (.inl ⟨U,fun _ _=>(Sin.wk (.s2 .h5 .h4)<|.stb (.cons U .nil)<|.same .nil)⟩) (zb call37<|.r3 U U U) (.cons .h3 .nil) (ccz hz (.cons .h3 .nil) .h2 fun w pz ho=>y5g a6 w pz ((aS.mono<|(Zle.left _ _).trans ar).weak (fun _ _ h=>y1p ((Zle.left _ _).trans ar) h)) ((aT.mono<|(Zle.left _ _).trans ar).weak (fun _ _ h=>y1A ((Zle.left _ _).trans ar) h)) (aU.mono<|(Zle.left _ _).trans ar) (aV.mono<|(Zle.left _ _).trans ar) ((aQ.mono<|(Zle.left _ _).trans ar).weak (fun _ _ h=>y1k ((Zle.left _ _).trans ar) h)) (aW.mono<|(Zle.left _ _).trans ar) ((aX.mono<|(Zle.left _ _).trans ar).weak (fun _ _ h=>y1B ((Zle.left _ _).trans ar) h)) (aY.mono<|(Zle.left _ _).trans ar) aN ho) ?_
      rintro bh B _
      refine WD.know (fun w hw=>Hp.y2c .here hw (by intro hz';have:=aG;rw[hz'] at this;omega)) ?_
      rintro⟨b,rfl⟩
      refine Lf 10 47 U (fun _=>y11 y6a U U aG.1 aG.2 y3g) ?_
      exact Ly (.s11 .h2 .h2 .here .here .here .here .here .here .here .here .here) (.r14 U U U U U U U U U U U U U U)<|bg b B c o trivial
     refine WD.yhp (fuel':=7) (fun(c:Nat)=>[(3,(.map<|some g)),(4,(vp au)),(6,(vp aA)),(10,(.map<|some ay)),(11,(vp av)),(12,(vi aF)),(25,I),(26,K),(27,(vi a)),(14,E),(41,C),(42,F),(43,E),(44,(.map<|some g)),(46,(vi aD)),(16,(vp c))]) (fun(c:Nat)=>[stb c 69 D,fz aB,yn g (fun x=>Value.agg (e94 x).toArray) (Value.int .i64) p,stb au 31 A,stb aA 94 H,yn ay (Value.int .i64) slv (y2O ax),y2n (y2d 201 1 y4k) ax,stb av 148 [(.map<|some aw)],yn aw (Value.int .i64) (Value.int .i64) aC]) (fun(c:Nat)=>True) (y2e 17 [12,9,7,6,5,4,3,2,1,0]) ?_<|fun bu=>?_
     ·skip
      rintro c _
      refine WD.choose [8,13] (by kernel_rfl) U ?_
      refine WDo.cons ?_<|WDo.cons ?_<|WDo.nil
      ·refine WDo.call2 (i:=8) (dd:=45) U U U U (.inl ⟨U,fun _ _=>(Sin.wk (.s2 .h4 .h3)<|.stb (.cons U .nil)<|.same .nil)⟩) (zb call37<|.r3 U U U) (.cons .h2 .nil) (ccz hz (.cons .h2 .nil) .h1 fun w pz ho=>y5g a6 w pz ((aS.mono<|(Zle.left _ _).trans ar).weak (fun _ _ h=>y1p ((Zle.left _ _).trans ar) h)) ((aT.mono<|(Zle.left _ _).trans ar).weak (fun _ _ h=>y1A ((Zle.left _ _).trans ar) h)) (aU.mono<|(Zle.left _ _).trans ar) (aV.mono<|(Zle.left _ _).trans ar) ((aQ.mono<|(Zle.left _ _).trans ar).weak (fun _ _ h=>y1k ((Zle.left _ _).trans ar) h)) (aW.mono<|(Zle.left _ _).trans ar) ((aX.mono<|(Zle.left _ _).trans ar).weak (fun _ _ h=>y1B ((Zle.left _ _).trans ar) h)) (aY.mono<|(Zle.left _ _).trans ar) aN ho) ?_
       rintro bh B _
       refine WD.know (fun w hw=>Hp.y2c .here hw (by intro hz';have:=aG;rw[hz'] at this;omega)) ?_
       rintro⟨b,rfl⟩
       refine Lf 10 47 U (fun _=>y11 y6a U U aG.1 aG.2 y3g) ?_
       exact Ly (.s10 .h2 .here .here .here .here .here .here .here .here .here) (.r13 U U U U U U U U U U U U U)<|bo b B c trivial
      ·refine WDo.new (i:=13) (dd:=17) U U U U (yu (cs:=[(vi 0)]) y2K U) (fun h'=>absurd h' (by decide)) fun o _=>Ly (.a10) (.r17 U U U U U U U U U U U U U U U U U)<|bq c o trivial
     refine WD.yhp (fuel':=7) (fun(o:Nat)=>[(3,(.map<|some g)),(4,(vp au)),(6,(vp aA)),(10,(.map<|some ay)),(11,(vp av)),(12,(vi aF)),(25,I),(26,K),(27,(vi a)),(14,E),(41,C),(42,F),(43,E),(44,(.map<|some g)),(46,(vi aD)),(17,(vp o))]) (fun(o:Nat)=>[stb o 3 [(vi 0)],fz aB,yn g (fun x=>Value.agg (e94 x).toArray) (Value.int .i64) p,stb au 31 A,stb aA 94 H,yn ay (Value.int .i64) slv (y2O ax),y2n (y2d 201 1 y4k) ax,stb av 148 [(.map<|some aw)],yn aw (Value.int .i64) (Value.int .i64) aC]) (fun(o:Nat)=>True) (y2e 17 [13,9,7,6,5,4,3,2,1,0]) ?_<|fun bv=>?_
     ·skip
      rintro o _
      refine WD.choose [8,12] (by kernel_rfl) U ?_
      refine WDo.cons ?_<|WDo.cons ?_<|WDo.nil
      ·refine WDo.call2 (i:=8) (dd:=45) U U U U (.inl ⟨U,fun _ _=>(Sin.wk (.s2 .h4 .h3)<|.stb (.cons U .nil)<|.same .nil)⟩) (zb call37<|.r3 U U U) (.cons .h2 .nil) (ccz hz (.cons .h2 .nil) .h1 fun w pz ho=>y5g a6 w pz ((aS.mono<|(Zle.left _ _).trans ar).weak (fun _ _ h=>y1p ((Zle.left _ _).trans ar) h)) ((aT.mono<|(Zle.left _ _).trans ar).weak (fun _ _ h=>y1A ((Zle.left _ _).trans ar) h)) (aU.mono<|(Zle.left _ _).trans ar) (aV.mono<|(Zle.left _ _).trans ar) ((aQ.mono<|(Zle.left _ _).trans ar).weak (fun _ _ h=>y1k ((Zle.left _ _).trans ar) h)) (aW.mono<|(Zle.left _ _).trans ar) ((aX.mono<|(Zle.left _ _).trans ar).weak (fun _ _ h=>y1B ((Zle.left _ _).trans ar) h)) (aY.mono<|(Zle.left _ _).trans ar) aN ho) ?_
       rintro bh B _
       refine WD.know (fun w hw=>Hp.y2c .here hw (by intro hz';have:=aG;rw[hz'] at this;omega)) ?_
       rintro⟨b,rfl⟩
       refine Lf 10 47 U (fun _=>y11 y6a U U aG.1 aG.2 y3g) ?_
       exact Ly (.s10 .h2 .here .here .here .here .here .here .here .here .here) (.r13 U U U U U U U U U U U U U)<|bp b B o trivial
      ·refine WDo.new (i:=12) (dd:=16) U U U U (yu (cs:=D) y9z U) (fun h'=>absurd h' (by decide)) fun c _=>Ly (.s10 .h1 .here .here .here .here .here .here .here .here .here) (.r17 U U U U U U U U U U U U U U U U U)<|bq c o trivial
     refine WD.choose [8,12,13] (by kernel_rfl) U ?_
     refine WDo.cons ?_<|WDo.cons ?_<|WDo.cons ?_<|WDo.nil
     ·refine WDo.call2 (i:=8) (dd:=45) U U U U (.inl ⟨U,fun _ _=>(Sin.wk (.s2 .h3 .h2)<|.stb (.cons U .nil)<|.same .nil)⟩) (zb call37<|.r3 U U U) (.cons .h1 .nil) (ccz hz (.cons .h1 .nil) .here fun w pz ho=>y5g a6 w pz ((aS.mono<|(Zle.left _ _).trans ar).weak (fun _ _ h=>y1p ((Zle.left _ _).trans ar) h)) ((aT.mono<|(Zle.left _ _).trans ar).weak (fun _ _ h=>y1A ((Zle.left _ _).trans ar) h)) (aU.mono<|(Zle.left _ _).trans ar) (aV.mono<|(Zle.left _ _).trans ar) ((aQ.mono<|(Zle.left _ _).trans ar).weak (fun _ _ h=>y1k ((Zle.left _ _).trans ar) h)) (aW.mono<|(Zle.left _ _).trans ar) ((aX.mono<|(Zle.left _ _).trans ar).weak (fun _ _ h=>y1B ((Zle.left _ _).trans ar) h)) (aY.mono<|(Zle.left _ _).trans ar) aN ho) ?_
      rintro bh B _
      refine WD.know (fun w hw=>Hp.y2c .here hw (by intro hz';have:=aG;rw[hz'] at this;omega)) ?_
      rintro⟨b,rfl⟩
      refine Lf 10 47 U (fun _=>y11 y6a U U aG.1 aG.2 y3g) ?_
      exact Ly (.a9) (.r12 U U U U U U U U U U U U)<|bt b B trivial
     ·refine WDo.new (i:=12) (dd:=16) U U U U (yu (cs:=D) y9z U) (fun h'=>absurd h' (by decide)) fun c _=>Ly (.a9) (.r16 U U U U U U U U U U U U U U U U)<|bu c trivial
     ·refine WDo.new (i:=13) (dd:=17) U U U U (yu (cs:=[(vi 0)]) y2K U) (fun h'=>absurd h' (by decide)) fun o _=>Ly (.a9) (.r16 U U U U U U U U U U U U U U U U)<|bv o trivial
   ·rintro aI aJ aK aL aM ⟨h,bw,bx⟩
    replace h:=(bD aI aJ aK).symm.trans h
    refine Ld<|La U<|La U<|WL.nil ?_
    exact WX.round ⟨bB,aI,(i64 (a+1)),aJ,aK,aL,aM⟩ ⟨h,(ar.trans bw),bx⟩ (Nat.lt_succ_self _) (.r9 U U U U U U U U U)<|.a8
  ·replace h:=ys h ba
   refine WC.exit<|Lm<|Lm<|Lw ?_
   exact Ln ⟨aF,aH,aC,aB,ax⟩ ⟨h,ar,a5⟩ (.r4 U U U U)<|.s7 .here .h1 .h2 .h2 .h2 .here .h1
 ·rintro most mp wide Zn lg ⟨h,hle,hm⟩
  replace h:=(bA most mp wide).symm.trans h
  obtain⟨hb,h⟩:=yo h
  obtain rfl:=oJ h
  clear h
  refine WC.b<|Ld<|WL.gh (G:=Zp) (φ:=fun Z1=>Zle (Z++Zn) (Z++Z1)/\RG (Z++Z1) (y5X (Z++Z1)) (y2O lg) mp) (L':=fun Z1=>[fz Z1,stb au 31 A,yn ay (Value.int .i64) slv (y2O lg),stb av 148 [(.map<|some aw)],yn g (fun x=>Value.agg (e94 x).toArray) (Value.int .i64) p,yn aw (Value.int .i64) (Value.int .i64) wide]) (fun w hw=>?_) ?_
  ·have h1:=hw.sub (.s7 .h3 .here .here .here .here .here .here)
   obtain⟨Z1,k1,k2,k3⟩:=Hp.ycW (Pr:=fun Z=>y5X Z) (fun k _ _ h=>y68 k h) hz lg mp Zn hm h1
   exact⟨Z1,⟨k1,k2⟩,k3⟩
  rintro Z1 ⟨hle1,hg1⟩
  refine WL.freezeC (Z:=Z) .h1 .here fun Z2 hle2 hc=>WL.freezeC (Z:=Z) .h2 .here fun Z3 hle3 h11=>WL.gh (G:=Zp) (φ:=fun Z4=>Zle (Z++Z3) (Z++Z4)/\ZA (Z++Z4) (yn aw (Value.int .i64) (Value.int .i64) wide)) (L':=fun Z4=>[fz Z4,yn ay (Value.int .i64) slv (y2O lg),yn g (fun x=>Value.agg (e94 x).toArray) (Value.int .i64) p]) (fun w hw=>?_) ?_
  ·obtain⟨Z4,k1,k2,k3⟩:=Hp.freeze (x:=yn aw (Value.int .i64) (Value.int .i64) wide) .h3 .here hw
   exact⟨Z4,⟨k1.app,k2.mono (Zle.right _ _)⟩,k3⟩
  rintro Z4 ⟨hle4,hW⟩
  replace hg1:=hg1.up (hle2.trans (hle3.trans hle4)) (fun _ _ h=>y68 (hle2.trans (hle3.trans hle4)) h)
  replace hc:=hc.mono (hle3.trans hle4)
  replace h11:=h11.mono hle4
  have hZ:Zle Z (Z++Z4):=(Zle.left _ _).trans (hle.trans (hle1.trans (hle2.trans (hle3.trans hle4))))
  refine La U<|WL.nil<|Lb<|WC.yas (fun(Zn:Zp) (ao:Option Addr) (cap:Nat) (cs:List Value) (fs:List (Int->Option Int))=>Zle (Z++Z4) (Z++Zn)/\RR 1 (y5X (Z++Zn)) cs fs/\fs.Perm (mp.map<|y6x f wide)) (fun Zn ao cap cs fs=>[(12,(vi most)),(20,(vs ao fs.length cap))]) (fun Zn ao cap cs fs=>[fz Zn,row (vs ao fs.length cap) 201 1 cs,yn g (fun x=>Value.agg (e94 x).toArray) (Value.int .i64) p]) ?_ ?_
  ·skip
   refine WC.b<|Ld<|La U<|WL.fA 81 (e_range underlying198 U .h1) ?_
   rintro rr _
   refine WL.nil<|Lb<|WC.block<|WC.nilRow 201 1<|WC.yaO (fun(Zn:Zp) (ao:Option Addr) (cap:Nat) (cs:List Value) (fs:List (Int->Option Int)) (rem:List (Int×((Option Addr×Nat)×List Value))) (l':List (Int×List (Int->Option Int))) (cur:Option (Int×((Option Addr×Nat)×List Value)))=>Zle (Z++Z4) (Z++Zn)/\RR 1 (y5X (Z++Zn)) cs fs/\RG (Z++Z4) (y5X (Z++Z4)) rem l'/\(fs++l'.map (y6x f wide)).Perm (mp.map<|y6x f wide)) (fun Zn ao cap cs fs rem l' cur=>[(4,(vp au)),(11,(vp av)),(12,(vi most)),(20,(vs ao fs.length cap)),(81,(vp rr))]) (fun Zn ao cap cs fs rem l' cur=>[fz Zn,row (vs ao fs.length cap) 201 1 cs,y6B rr ay (Value.int .i64) slv (y2O lg) rem cur,yn g (fun x=>Value.agg (e94 x).toArray) (Value.int .i64) p]) (fun Zn ao cap cs fs rem l' cur=>rem.length) ⟨Z4,none,0,[],[],y2O lg,mp,none⟩ ⟨Zle.refl _,RR.nil _ _,hg1,.refl _⟩ (.r5 U U U U U) (.s4 .h2 .here .here .here) ?_
   rintro Zn ao cap cs fs rem l' cur ⟨hle5,hr,hg,hp⟩
   refine WC.b<|Ld<|WL.nextM U U U .h2 (fun hrem=>?_)<|fun i y m hx hm'=>?_
   ·subst hrem
    cases hg
    refine La U<|WL.nil<|Lb<|WC.b<|WC.cond U (fun h'=>(by cases h'))<|fun h'=>?_
    clear h'
    refine WC.exit<|Lm<|Lm<|Lw ?_
    exact Ln ⟨Zn,ao,cap,cs,fs⟩ ⟨hle5,hr,by simpa using hp⟩ (.r2 U U) (.s3 .h1 .h1 .h1)
   ·obtain⟨x,hx1,hxl,hxs,hg'⟩:=hg.at hx
    rw[<- hm'] at hg'
    have hlen:rem.length=m.length+1:=by
     have h1:=(List.getElem?_eq_some_iff.1 hx).1
     rw[hm',List.length_eraseIdx,if_pos h1];omega
    have hpl:=hp.length_eq
    have hgl:=hg.len
    rw[List.length_append,List.length_map,List.length_map] at hpl
    refine La U<|WL.nil<|Lb<|WC.b<|WC.cond U (fun h'=>?_)<|fun h'=>(by cases h')
    clear h'
    refine WC.skip<|Lb<|WC.block<|WC.b<|Ld<|Le 84 (e_entry rfl .here)<|La U<|La U (Lg 21 (yu (cs:=[(vi 0)]) y2K U) fun b21 _=>Lg 22 (yu (cs:=[vn]) zDn U) fun b22 _=>Lk U U (yl ybO U U U .h1 U U U)<|Lk U U (yl (vs:=[slv y.2]) zLX U U U .h1 U U U) (WL.freezeC (Z:=Z) .h1 .h2 fun Z5 hle6 h21=>WL.freezeC (Z:=Z) .h1 .here ?_))
    intro Z6 hle7 h22
    replace h21:=h21.mono hle7
    have e22:slv y.2 = .slice y.2.1.1 x.length y.2.1.2:=by unfold slv;rw[hxl]
    replace h22:ZC (Z++Z6) ⟨b22,0,none⟩ [.slice y.2.1.1 x.length y.2.1.2]:=by rw[<- e22];exact h22
    have hle8:=hle5.trans (hle6.trans hle7)
    refine WL.nil<|Lb<|Ld<|La U ?_
    let Q:Value:=(.func (.func 99) #[] #[(vp b21),(vp b22),(vp av),(vp au)]);have hfd:y5X (Z++Z6) [Q] (y6x f wide (y.1,x)):=⟨99,[(vp b21),(vp b22),(vp av),(vp au)],U,call99,fun w' hz' y0 r hr=>ybX (Z:=Z++Z6) (zAI:=⟨b21,0,none⟩) (zAJ:=⟨b22,0,none⟩) (zAK:=y.2.1.1) (zAL:=y.2.1.2) (zAM:=⟨av,0,none⟩) (zAN:=aw) (zAO:=⟨au,0,none⟩) (zAP:=n) (zAQ:=t) (zAR:=z) (zAS:=aa) (zAT:=ab) (zAU:=ad) (zAV:=ae) (zAW:=af) (zAX:=ag) (zAY:=ah) (zAZ:=ai) (zB0:=aj) (zB1:=ak) (zB2:=al) (zB3:=am) (zB4:=an) (zh9:=y0) (z9v:=y.1) (zha:=x) (znO:=wide) (z3N:=f) (r:=r) (h:=hr) (w₀:=w') (hz:=hz') (hmW:=hW.mono hle8) (zra:=h21) (zB5:=((ZSB.of hxs).up hle8 (fun _ _ h=>y68 hle8 h))) (zB6:=h22) (zKm:=(h11.mono hle8)) (zZ3:=((aS.mono (hZ.trans hle8)).weak (fun _ _ h=>y1p (hZ.trans hle8) h))) (zZ4:=((aT.mono (hZ.trans hle8)).weak (fun _ _ h=>y1A (hZ.trans hle8) h))) (zZ5:=(aU.mono (hZ.trans hle8))) (zKn:=(aV.mono (hZ.trans hle8))) (zZ6:=((aQ.mono (hZ.trans hle8)).weak (fun _ _ h=>y1k (hZ.trans hle8) h))) (zZ7:=(aW.mono (hZ.trans hle8))) (zZ8:=((aX.mono (hZ.trans hle8)).weak (fun _ _ h=>y1B (hZ.trans hle8) h))) (zZ9:=(aY.mono (hZ.trans hle8))) (zKo:=(hc.mono hle8))⟩
    refine Le 88 (y15<|L2 (l:=[.tmp 21,.tmp 22,.tmp 11,.tmp 4])<|.r4 U U U U)<|Lg 89 (yT (cs:=[(.func (.func 99) #[] #[(vp b21),(vp b22),(vp av),(vp au)])]) zl8 (Lo (l:=[.tmp 88]) (.cons U .nil) [0]) (fun _=>by kernel_rfl) U (by unfold maxLen;omega)) ?_
    intro b89 _
    have hr2:RR 1 (y5X (Z++Z6)) [Q] ([y6x f wide (y.1,x)]:List (Int->Option Int)):=RR.one U hfd
    have hr1:=hr.weak (fun _ _ h=>y68 (hle6.trans hle7) h)
    refine WL.fA 90 (y8F (l1:=fs) (l2:=([y6x f wide (y.1,x)]:List (Int->Option Int))) (news:=[(.func (.func 99) #[] #[(vp b21),(vp b22),(vp av),(vp au)])]) (Pr:=(y5X (Z++Z6))) zl8 U U .h3 hr2 (y3q .here) (ybJ U yd8) ⟨by rw[List.length_append,List.length_singleton];omega,by rw[List.length_append,List.length_singleton];omega⟩) ?_
    rintro⟨ao',cap'⟩ _
    refine La U<|WL.nil<|Lq ?_
    have hp2:((fs++[y6x f wide (y.1,x)])++(l'.eraseIdx i).map (y6x f wide)).Perm (mp.map (y6x f wide)):=by
     refine List.Perm.trans ?_ hp
     rw[List.append_assoc]
     refine List.Perm.append_left _ ?_
     exact(yft hx1).map (y6x f wide)
    exact WX.round ⟨Z6,ao',cap',cs++[(.func (.func 99) #[] #[(vp b21),(vp b22),(vp av),(vp au)])],fs++[y6x f wide (y.1,x)],m,l'.eraseIdx i,some y⟩ ⟨hle8,RR.app hr1 hr2,hg',hp2⟩ (by show m.length<rem.length;omega) (.r5 U U U U U)<|.s4 .h2 .here .h1 .h1
  ·rintro Zn ao cap cs fs ⟨hle5,hr,hp⟩
   have hlen:fs.length=(mp.map (y6x f wide)).length:=hp.length_eq
   refine WC.b<|Ld<|La U<|La U<|La U<|La U (WL.freezeS (ls:=fs) .h1 .here hz hr fun Z7 hle6 h7=>WL.nil<|Lb<|WC.ret<|Lh results53 (.tmp U<|.tmp U .nil)<|fun w hw=>?_)
   refine⟨Z7,ao,cap,?_,⟨fs,hp,h7.weak fun _ _ h=>y68 hle6 h⟩,hw.sub (.a2)⟩
   show Ending.returned _=_
   rw[<- hlen]
   exact y1T U U
def y3N(b:List (Int->Option Int)×Int)(d:zs)(e:z8)(c:Int->Option (S36×Int)):Nat->Int->Option (S36×Int)
 | 0,_=>none
 | f+1,a=>(y2b b.1 (i64 (a-1))).bind fun g=>if decide ((i64 (((nth d.fK e.fQ).fSlow)*g))>a) then if decide ((i64 (a+1))>32768) then some ((⟨0,0,0,0⟩:S36),360) else y3N b d e c f (i64 (a+1)) else c a
def y3O(e:Int)(d:Int)(g:List (Int->Option Int)×Int)(b:zs)(c:z8)(h:Int->Int->Option (S36×Int)):Nat->Int->Int->Int->Option (S36×Int)
 | 0,_,_,_=>none
 | l+1,a,f,i=>if decide (a<(i64 (e+d))) then(y2b g.1 a).bind fun j=>jp1 (fun(m:Int)=>chk ((((nth b.fK c.fQ).fSlow):Int)≠0) (y3O e d g b c h l (i64 (a+1)) m (max i (i64 (j-(i64 (Int.tdiv (i64 ((i64 ((max (i64 (a-d)) 0)+((nth b.fK c.fQ).fSlow)))-1)) ((nth b.fK c.fQ).fSlow)))))))) fun k=>if decide (a<e) then k (max f (i64 ((i64 ((i64 (((nth b.fK c.fQ).fSlow)*j))-a))+d))) else k f else h f i
def y5o(b:zs)(d:List (List ze))(a:z8)(e:List (z8×Int)):Option (S36×Int):=
 (y4d b d a e).bind fun c=>chk ((0:Int)<=a.fQ/\a.fQ<(b.fK.length:Int)) ((y4x b a.fNode).bind fun f=>jp1 (fun(g:Int)=>jp2 (fun(h:Int) (i:Int)=>some (({a with fDelay:=h,fT:=i64 (i+c.2)}:S36),0)) fun j=>y3O g f c b a j yy 0 0 0) fun k=>y3N c b a k yy 1)
theorem yfE{Z:Zp}{r:S36×Int}(h:y5o f s q p=some r)(w₀:World)(hz:PZ (fps [yn g (fun x=>Value.agg (e94 x).toArray) (Value.int .i64) p]) w₀ Z)(S:ZS Z 4 (y3F Z) n t f.fM)(T:ZS Z 4 (y4l Z) z aa f.fC0)(V:ZS Z 4 (fun r x=>r=e64 x) ab ad f.fS)(M:ZS Z 4 (fun r x=>r=e62 x) ae af f.fK)(W:ZS Z 7 (p69 Z) ag ah f.fVLs)(X:ZS Z 5 (fun r x=>r=y4D x) ai aj f.fH)(Y:ZS Z 3 (y4m Z) ak al f.fU)(ao:ZS Z 4 (fun r x=>r=y4E x) am an f.fV0)(aw:ZS Z 1 (p58 Z) ap aq s)(hown:Hp (fps [yn g (fun x=>Value.agg (e94 x).toArray) (Value.int .i64) p]) w₀ w₀ [yn g (fun x=>Value.agg (e94 x).toArray) (Value.int .i64) p]):
  Calls Tryz.prog 25 #[(.agg #[(vs n f.fM.length t),(vs z f.fC0.length aa),(vs ab f.fS.length ad),(vs ae f.fK.length af),(vs ag f.fVLs.length ah),(vs ai f.fH.length aj),(vs ak f.fU.length al),(vs am f.fV0.length an)]),(vs ap s.length aq),(.agg #[(vi q.fNode),(vi q.fQ)]),(.map (some g))] w₀ fun e w'=>e = .returned (.tuple #[(.agg #[(vi r.1.fNode),(vi r.1.fQ),(vi r.1.fDelay),(vi r.1.fT)]),(vi r.2)])/\Hp (fps [yn g (fun x=>Value.agg (e94 x).toArray) (Value.int .i64) p]) w₀ w' [yn g (fun x=>Value.agg (e94 x).toArray) (Value.int .i64) p]:=by
 unfold y5o at h
 refine Calls.oh4 func25 ntmps25 hown ?_
 refine WC.pool<|WC.b<|Ld (Lg 4 (yI (cs:=[(vs n f.fM.length t),(vs z f.fC0.length aa),(vs ab f.fS.length ad),(vs ae f.fK.length af),(vs ag f.fVLs.length ah),(vs ai f.fH.length aj),(vs ak f.fU.length al),(vs am f.fV0.length an)]) U U) fun aM _=>Lg 6 (yI (cs:=[(vi q.fNode),(vi q.fQ)]) U U) ?_)
 intro aN _
 let A:List Value:=[(vi 0),(vi 0),(vi 0),(vi 0)];refine Lg 8 (yu (cs:=A) y7G U) ?_
 intro d _
 refine La U<|WL.nil<|Lb<|WC.b ?_
 obtain⟨o,ax,h⟩:=za h
 refine Ld<|Le 19 (yi y1V U (yj .h2) U)<|La U<|Le 21 (yi ye3 U (yj .h1) U)<|La U<|WL.ygI (dd:=23) U U U (zb call53<|.r4 U U U U) (.cons .h4 .nil) (ccz hz (.cons .h4 .nil) .h3 fun w pz ho=>yd3 ax w pz ((S.mono<|Zle.left _ _).weak (fun _ _ h=>y1p (Zle.left _ _) h)) ((T.mono<|Zle.left _ _).weak (fun _ _ h=>y1A (Zle.left _ _) h)) (V.mono<|Zle.left _ _) (M.mono<|Zle.left _ _) ((W.mono<|Zle.left _ _).weak (fun _ _ h=>y1k (Zle.left _ _) h)) (X.mono<|Zle.left _ _) ((Y.mono<|Zle.left _ _).weak (fun _ _ h=>y1B (Zle.left _ _) h)) (ao.mono<|Zle.left _ _) ((aw.mono<|Zle.left _ _).weak (fun _ _ h=>y22 (Zle.left _ _) h)) ho) ?_
 rintro J aH aI ar
 refine WL.merge .here .h4<|La U<|La U<|La U<|La U<|La U<|WL.nil<|Lb<|WC.b ?_
 obtain⟨ay,h⟩:=yo h
 obtain⟨u,az,h⟩:=za h
 refine Lx (fun i=>[].contains i) [] U<|Lf 0 26 U (fun _=>ya y7S U U)<|Li 1 27 U (yc y7T U<|yh .h4 U)<|Lf 2 28 U (fun _=>ya yj0 U U)<|Li 3 29 U (yc yq U<|yh .h3 U)<|L7 (j:=4) (dd:=30) (by kernel_rfl) U z2k z2l U U (Z:=(Z++([]++J))) (Pr:=(fun r x=>r=e62 x)) yaR U U (M.mono<|(Zle.left _ _).trans ((Zle.left _ _).trans (Zle.yU _ _ _))) ay ?_
 rintro aO aP aA aQ rfl
 refine Lf 5 31 U (fun _=>ya y9s U U)<|Li 6 32 U (yc yq U<|y1b (hz.pv2 .here) aA U)<|Li 7 33 U (yi y1V U (yj .h4) U)<|Lf 8 34 U (fun _=>ya ygg U U)<|Li 9 35 U (yc yq U<|yh .h3 U)<|L4 10 36 U (zb call54<|.r2 U U) (ccz hz .nil .here fun w pz ho=>ya4 az w pz ((S.mono<|(Zle.left _ _).trans ((Zle.left _ _).trans (Zle.yU _ _ _))).weak (fun _ _ h=>y1p ((Zle.left _ _).trans ((Zle.left _ _).trans (Zle.yU _ _ _))) h)) ((T.mono<|(Zle.left _ _).trans ((Zle.left _ _).trans (Zle.yU _ _ _))).weak (fun _ _ h=>y1A ((Zle.left _ _).trans ((Zle.left _ _).trans (Zle.yU _ _ _))) h)) (V.mono<|(Zle.left _ _).trans ((Zle.left _ _).trans (Zle.yU _ _ _))) (M.mono<|(Zle.left _ _).trans ((Zle.left _ _).trans (Zle.yU _ _ _))) ((W.mono<|(Zle.left _ _).trans ((Zle.left _ _).trans (Zle.yU _ _ _))).weak (fun _ _ h=>y1k ((Zle.left _ _).trans ((Zle.left _ _).trans (Zle.yU _ _ _))) h)) (X.mono<|(Zle.left _ _).trans ((Zle.left _ _).trans (Zle.yU _ _ _))) ((Y.mono<|(Zle.left _ _).trans ((Zle.left _ _).trans (Zle.yU _ _ _))).weak (fun _ _ h=>y1B ((Zle.left _ _).trans ((Zle.left _ _).trans (Zle.yU _ _ _))) h))<|ao.mono<|(Zle.left _ _).trans ((Zle.left _ _).trans (Zle.yU _ _ _)))<|Lf 11 12 U (fun _=>q_z U)<|Lf 12 13 U (fun _=>q_z U)<|WD.done (by kernel_rfl)<|Lb<|WC.b<|Ld<|Le 37 (ya ygg U U)<|Le 38 (yc yq U<|yh .h3 U)<|Le 39 (ya yj0 U U)<|Le 40 (yc yq U<|yh .h3 U)<|Le 41 (yN (v:=(.agg #[(vi q.fNode),(vi q.fQ),(vi 0),(vi 0)])) (Lo (l:=[.tmp 38,.tmp 40]) (.r2 U U) [0,1]) (fun _=>by kernel_rfl)) (Lg 14 (yu (cs:=A) y7G U) fun k _=>Lk U U (yl y7X U U U .here U U U)<|WL.nil<|Lb<|WC.b<|Ld<|La U<|WL.nil<|Lb ?_)
 obtain⟨au,aB,h⟩:=y13 h
 let D:Value:=(vi ((nth f.fK q.fQ).fSlow));let E:Value:=(vs aH o.1.length aI);let G:List Value:=[(vi q.fNode),(vi q.fQ),(vi 0),(vi 0)];refine WC.y3r (fun(a:Int)=>(au a=some r)) (fun a=>[(8,(vp d)),(10,E),(11,(vi o.2)),(12,D),(13,(vi u)),(14,(vp k)),(15,(vi a))]) (fun a=>[fz ([]++J),stb d 37 A,stb k 37 G,yn g (fun x=>Value.agg (e94 x).toArray) (Value.int .i64) p]) ?_ ?_
 ·skip
  refine WC.block<|L9 (fun(K:Nat) (y:Int)=>(y3N o f q au K y=some r)) (fun K y=>[(8,(vp d)),(10,E),(11,(vi o.2)),(12,D),(13,(vi u)),(14,(vp k)),(15,(vi y))]) (fun K y=>[fz ([]++J),stb d 37 A,stb k 37 G,yn g (fun x=>Value.agg (e94 x).toArray) (Value.int .i64) p]) (fun K y=>K) ⟨yy,1⟩ h (.r7 U U U U U U U) (.s4 .h1 .h2 .here .here) ?_
  rintro(_|aJ) y h;·cases h
  rw[y3N] at h
  refine WC.b<|WC.b ?_
  obtain⟨aR,aC,h⟩:=za h
  refine Ld<|La U<|La U<|La U<|La U<|Ll 46 (zb call55<|.r2 U U) .nil (ccz hz .nil .here fun w pz ho=>y74 aC w pz<|ar.up (Zle.yU _ _ _)<|fun _ _ h=>y68 (Zle.yU _ _ _) h)<|La U<|La U<|La U<|WL.nil<|Lb<|WC.cond U (fun N=>?_)<|fun N=>?_
  ·replace h:=yr h N
   refine WC.skip<|Lb<|WC.block<|WC.b<|Ld<|La U<|La U<|La U<|WL.nil<|Lb<|WC.b<|Ld<|La U<|La U<|WL.nil<|Lb<|WC.cond U (fun O=>?_)<|fun O=>?_
   ·replace h:=yr h O
    refine WC.b<|Ld<|Le 54 (yN (v:=(.agg #[(vi 0),(vi 0),(vi 0),(vi 0)])) (Lo (l:=[]) .nil []) (fun _=>by kernel_rfl))<|Lk U U (yl y7X U U U .h1 U U U)<|La U<|WL.nil<|Lb<|WC.ret<|Lt<|Lj<|Lt<|Lj ?_
    obtain rfl:=oJ h
    refine Lh results25 (.agg U y6C U (yj .here)<|.tmp U .nil)<|fun w hw=>?_
    exact⟨y1T U U,hw.sub (.cons .h3 .nil)⟩
   ·replace h:=ys h O
    refine WC.skip<|Lq ?_
    exact WX.round ⟨aJ,(i64 (y+1))⟩ h (Nat.lt_succ_self _) (.r7 U U U U U U U)<|.a4
  ·replace h:=ys h N
   refine WC.exit<|Lm<|Lm<|Lw ?_
   exact Ln y h (.r7 U U U U U U U)<|.a4
 ·rintro a h
  replace h:=(aB a).symm.trans h
  obtain⟨av,aD,h⟩:=y52 h
  refine WC.y59 (fun(H:Int) (I:Int)=>(av H I=some r)) (fun H I=>[(8,(vp d)),(11,(vi o.2)),(14,(vp k))]) (fun H I=>[fz ([]++J),stb d 37 A,stb k 37 [(vi q.fNode),(vi q.fQ),(vi H),(vi I)],yn g (fun x=>Value.agg (e94 x).toArray) (Value.int .i64) p]) ?_ ?_
  ·skip
   refine WC.b<|Ld<|La U<|La U<|La U<|La U<|WL.nil<|Lb<|WC.block<|WC.y5s (fun(L:Nat) (b:Int) (m:Int) (c:Int)=>(y3O a u o f q av L b m c=some r)) (fun L b m c=>[(8,(vp d)),(10,E),(11,(vi o.2)),(12,D),(13,(vi u)),(14,(vp k)),(15,(vi a)),(57,(vi<|i64 (a+u))),(58,(vi b))]) (fun L b m c=>[fz ([]++J),stb d 37 A,stb k 37 [(vi q.fNode),(vi q.fQ),(vi m),(vi c)],yn g (fun x=>Value.agg (e94 x).toArray) (Value.int .i64) p]) (fun L b m c=>L) ⟨yy,0,0,0⟩ h (.r9 U U U U U U U U U) (.a4) ?_
   rintro(_|aK) b m c h;·cases h
   rw[y3O] at h
   refine WC.b<|Ld<|La U<|WL.nil<|Lb<|WC.b<|WC.cond U (fun P=>?_)<|fun P=>?_
   ·replace h:=yr h P
    refine WC.skip<|Lb<|WC.b<|WC.block<|WC.b<|Ld<|La U<|La U<|WL.nil<|Lb<|WC.b ?_
    obtain⟨Q,aE,h⟩:=za h
    refine Ld<|La U<|La U<|Ll 63 (zb call55<|.r2 U U) .nil (ccz hz .nil .here fun w pz ho=>y74 aE w pz<|ar.up (Zle.yU _ _ _)<|fun _ _ h=>y68 (Zle.yU _ _ _) h)<|La U<|WL.nil<|Lb ?_
    obtain⟨aL,aF,h⟩:=y13 h
    refine WC.y3r (fun(B:Int)=>(aL B=some r)) (fun B=>[(8,(vp d)),(10,E),(11,(vi o.2)),(12,D),(13,(vi u)),(14,(vp k)),(15,(vi a)),(16,(vi b)),(17,(vi Q)),(57,(vi<|i64 (a+u))),(58,(vi b))]) (fun B=>[fz ([]++J),stb d 37 A,stb k 37 [(vi q.fNode),(vi q.fQ),(vi B),(vi c)],yn g (fun x=>Value.agg (e94 x).toArray) (Value.int .i64) p]) ?_ ?_
    ·skip
     refine WC.b<|Ld<|La U<|La U<|La U<|WL.nil<|Lb<|WC.cond U (fun R=>?_)<|fun R=>?_
     ·replace h:=yr h R
      let F:=(i64 ((i64 ((i64 (((nth f.fK q.fQ).fSlow)*Q))-b))+u));refine Ld (Le 67 (ya y9y U U) (Le 68 (yc yq U (yh .h2 U)) (La U (La U (La U (La U (La U (La U (La U (Le 76 (yce U U U) (Le 77 (ya y9y U U) (Lk U U (y4L (ds:=[(vi q.fNode),(vi q.fQ),(vi (max m F)),(vi c)]) ybO U U U U U .h2 U U) (WL.nil ?_)))))))))))))
      exact Ln (max m F) h (.r11 U U U U U U U U U U U)<|.s4 .h1 .h1 .here .here
     ·replace h:=ys h R
      refine WC.skip ?_
      exact Ln m h (.r11 U U U U U U U U U U U)<|.a4
    ·rintro B h
     replace h:=(aF B).symm.trans h
     obtain⟨aG,h⟩:=yo h
     let C:=(i64 (Q-(i64 (Int.tdiv (i64 ((i64 ((max (i64 (b-u)) 0)+((nth f.fK q.fQ).fSlow)))-1)) ((nth f.fK q.fQ).fSlow)))));refine Lx (fun i=>[15].contains i) [] U (Lf 0 78 U (fun _=>ya yaI U U) (Li 1 79 U (yc yq U (yh .h2 U)) (Lf 2 80 U (fun _=>q_m U) (Lf 3 81 U (fun _=>q_m U) (Lf 4 82 U (fun _=>q_m U) (Lf 5 83 U (fun _=>y9I U U U) (Lf 6 84 U (fun _=>yce U U U) (Lf 7 85 U (fun _=>q_m U) (Lf 8 86 U (fun _=>y9H U U U) (Lf 9 87 U (fun _=>y9I U U U) (Lf 10 88 U (fun _=>q_m U) (Lf 11 89 U (fun _=>ydV U U aG U) (Lf 12 90 U (fun _=>y9I U U U) (Lf 13 91 U (fun _=>yce U U U) (Lf 14 92 U (fun _=>ya yaI U U) (Kc (i:=15) U (by kernel_rfl) U U U (by kernel_rfl) (y4L (ds:=[(vi q.fNode),(vi q.fQ),(vi B),(vi (max c C))]) ybO U U U U U .h2 U U) (WD.done (by kernel_rfl) (Lq (Lb (Ld (La U (La U (WL.nil ?_)))))))))))))))))))))))
     exact WX.round ⟨aK,(i64 (b+1)),B,(max c C)⟩ h (Nat.lt_succ_self _) (.r9 U U U U U U U U U)<|.s4 .h1 .h1 .here .here
   ·replace h:=ys h P
    refine WC.exit<|Lm<|Lm<|Lw ?_
    exact Ln ⟨m,c⟩ h (.r3 U U U)<|.a4
  ·rintro H I h
   replace h:=(aD H I).symm.trans h
   refine WC.b<|Ld<|Le 94 (ya yaI U U)<|Le 95 (yc yq U<|yh .h2 U)<|La U<|La U<|Le 98 (ya yaI U U)<|Lk U U (y4L (ds:=[(vi q.fNode),(vi q.fQ),(vi H),(vi<|i64 (I+o.2))]) ybO U U U U U .h2 U U)<|WL.nil<|Lb<|WC.b<|Ld<|Le 99 (yi y6C U (yj .here) U)<|Lk U U (yl y7X U U U .h2 U U U)<|La U<|WL.nil<|Lb<|WC.ret ?_
   obtain rfl:=oJ h
   refine Lh results25 (.agg U y6C U (yj .here)<|.tmp U .nil)<|fun w hw=>?_
   exact⟨y1T U U,hw.sub (.cons .h3 .nil)⟩
def y14(a:S36)(b:S36):Option Int:=
 if decide (a.fNode≠b.fNode) then some (i64 (a.fNode-b.fNode)) else some (i64 (a.fQ-b.fQ))
theorem ycz{Z:Zp}{a:S36}{b:S36}{r:Int}(h:y14 a b=some r)(w₀:World)(hz:PZ [] w₀ Z):
  Calls Tryz.prog 27 #[(.agg #[(vi a.fNode),(vi a.fQ),(vi a.fDelay),(vi a.fT)]),(.agg #[(vi b.fNode),(vi b.fQ),(vi b.fDelay),(vi b.fT)])] w₀ fun e w'=>e = .returned (vi r)/\Hp [] w₀ w' []:=by
 unfold y14 at h
 refine Lz func27 ntmps27 ?_
 refine WC.b<|Ld (Lg 2 (yI (cs:=[(vi a.fNode),(vi a.fQ),(vi a.fDelay),(vi a.fT)]) U U) fun d _=>Lg 3 (yI (cs:=[(vi b.fNode),(vi b.fQ),(vi b.fDelay),(vi b.fT)]) U U) fun f _=>La U<|WL.nil<|Lb<|WC.b<|WC.b<|Ld<|Le 5 (ya y6D U U)<|Le 6 (yc yq U<|yh .h1 U)<|Le 7 (ya y6D U U)<|Le 8 (yc yq U<|yh .here U)<|La U<|WL.nil<|Lb<|WC.cond U (fun c=>?_)<|fun c=>?_)
 ·replace h:=yr h c
  refine WC.b<|Ld<|Le 10 (ya y6D U U)<|Le 11 (yc yq U<|yh .h1 U)<|Le 12 (ya y6D U U)<|Le 13 (yc yq U<|yh .here U)<|La U<|La U<|WL.nil<|Lb<|WC.ret<|Lj ?_
  obtain rfl:=oJ h
  refine Lh results27 (.tmp U .nil)<|fun w hw=>?_
  exact⟨yD U,hw.sub .nil⟩
 ·replace h:=ys h c
  refine WC.skip<|Lb<|WC.b<|Ld<|Le 15 (ya y7Y U U)<|Le 16 (yc yq U<|yh .h1 U)<|Le 17 (ya y7Y U U)<|Le 18 (yc yq U<|yh .here U)<|La U<|La U<|WL.nil<|Lb<|WC.ret ?_
  obtain rfl:=oJ h
  refine Lh results27 (.tmp U .nil)<|fun w hw=>?_
  exact⟨yD U,hw.sub .nil⟩
def y37(b:List S36×Int)(e:zs)(f:List (List ze))(g:(List S36)->Option (S39×Int)):Nat->Int->(List (z8×Int))->(List S36)->Option (S39×Int)
 | 0,_,_,_=>none
 | i+1,a,h,d=>if decide (a<(b.1.length:Int)) then chk ((0:Int)<=a/\a<(b.1.length:Int)) ((y5o e f (⟨((nth b.1 a).fNode),((nth b.1 a).fQ)⟩:z8) h).bind fun c=>if decide (c.2≠0) then some ((⟨([]:List S36),([]:List zj)⟩:S39),c.2) else chk (((d++([c.1]:List S36)).length:Int)*32<=140737488355328/\((d++([c.1]:List S36)).length:Int)<=4611686018427387904) (y37 b e f g i (i64 (a+1)) (yC h (⟨((nth b.1 a).fNode),((nth b.1 a).fQ)⟩:z8) c.1.fDelay) (d++([c.1]:List S36)))) else g d
def y4A(b:zs)(d:Int)(c:List (List ze)):Option (S39×Int):=
 (y4X b d c).bind fun a=>if decide (a.2=310) then some ((⟨([]:List S36),([]:List zj)⟩:S39),a.2) else(y5n b d c).bind fun e=>if decide (e.2=350) then some ((⟨([]:List S36),([]:List zj)⟩:S39),e.2) else if decide (a.2≠0) then some ((⟨([]:List S36),([]:List zj)⟩:S39),a.2) else jp1 (fun(g:List S36)=>(yS g (fun(y0:S36) (y1:S36)=>y14 y0 y1)).bind fun f=>(y6K b c f).bind fun h=>some ((⟨f,h⟩:S39),0)) fun i=>y37 a b c i yy 0 ([]:List (z8×Int)) ([]:List S36)
theorem ya6{Z:Zp}{r:S39×Int}(h:y4A f u s=some r)(w₀:World)(hz:PZ [] w₀ Z)(E:ZS Z 4 (y3F Z) n t f.fM)(F:ZS Z 4 (y4l Z) z aa f.fC0)(G:ZS Z 4 (fun r x=>r=e64 x) ab ad f.fS)(H:ZS Z 4 (fun r x=>r=e62 x) ae af f.fK)(I:ZS Z 7 (p69 Z) ag ah f.fVLs)(J:ZS Z 5 (fun r x=>r=y4D x) ai aj f.fH)(K:ZS Z 3 (y4m Z) ak al f.fU)(L:ZS Z 4 (fun r x=>r=y4E x) am an f.fV0)(M:ZS Z 1 (p58 Z) ap aq s):
  Calls Tryz.prog 12 #[(.agg #[(vs n f.fM.length t),(vs z f.fC0.length aa),(vs ab f.fS.length ad),(vs ae f.fK.length af),(vs ag f.fVLs.length ah),(vs ai f.fH.length aj),(vs ak f.fU.length al),(vs am f.fV0.length an)]),(vi u),(vs ap s.length aq)] w₀ fun e w'=>∃ W:Option Addr,∃ X:Nat,∃ Y:Option Addr,∃ ao:Nat,e = .returned (.tuple #[(.agg #[(vs W r.1.fP.length X),(vs Y r.1.fEnds.length ao)]),(vi r.2)])/\True/\Hp [] w₀ w' [row (vs W r.1.fP.length X) 37 4 (r.1.fP.flatMap e37),row (vs Y r.1.fEnds.length ao) 53 3 (r.1.fEnds.flatMap e53)]:=by
 unfold y4A at h
 refine Kd func12 ntmps12 ?_
 let A:List Value:=[(vs n f.fM.length t),(vs z f.fC0.length aa),(vs ab f.fS.length ad),(vs ae f.fK.length af),(vs ag f.fVLs.length ah),(vs ai f.fH.length aj),(vs ak f.fU.length al),(vs am f.fV0.length an)];refine WC.b (Ld (Lg 3 (yI (cs:=A) U U) ?_))
 intro N _
 refine Lg 6 (yu (cs:=[vn,vn]) y6X U) fun O _=>La U<|WL.nil<|Lb<|WC.b ?_
 obtain⟨b,aA,h⟩:=za h
 refine Ld<|Le 20 (yi y1V U (yj .h1) U)<|La U<|La U<|WL.y43 (dd:=23) U U U (zb call24<|.r3 U U U) .nil (cc hz .nil fun w pz ho=>yhf aA w pz E F G H I J K L M) ?_
 rintro aI aJ _
 refine La U<|La U<|La U<|La U<|La U<|WL.nil<|Lb<|WC.b<|WC.b<|Ld<|La U<|La U<|WL.nil<|Lb<|WC.cond U (fun Q=>?_)<|fun Q=>?_
 ·replace h:=yr h Q
  refine WC.b<|Ld<|Le 28 (yN (v:=(.agg #[vn,vn])) (Lo (l:=[]) .nil []) (fun _=>by kernel_rfl))<|La U<|Lk U U (yl y53 U U U .h1 U U U)<|La U<|WL.nil<|Lb<|WC.ret<|Lj<|WX.nilRow 37 4<|WX.nilRow 53 3 ?_
  obtain rfl:=oJ h
  refine Lh results12 (.agg U y5j U (yj .h2)<|.tmp U .nil)<|fun w hw=>?_
  exact⟨none,0,none,0,y1T U U,trivial,hw.sub (.s2 .h1 .here)⟩
 ·replace h:=ys h Q
  refine WC.skip<|Lb<|WC.b<|WC.b ?_
  obtain⟨aW,aB,h⟩:=za h
  refine Ld<|Le 31 (yi y1V U (yj .h2) U)<|La U<|La U<|WL.y8E (dd:=34) U U U (zb call18<|.r3 U U U) .nil (cc hz .nil fun w pz ho=>ybs aB w pz E F G H I J K L M) ?_
  rintro aM aN aO aP _
  refine La U<|La U<|La U (Lg 10 (yu (cs:=[vn,vn]) y6X U) fun aQ _=>Lk U U (yl y53 U U U .here U U U)<|La U<|WL.nil<|Lb<|WC.b<|Ld<|La U<|La U<|WL.nil<|Lb<|WC.cond U (fun R=>?_)<|fun R=>?_)
  ·replace h:=yr h R
   refine WC.b<|Ld<|Le 39 (yN (v:=(.agg #[vn,vn])) (Lo (l:=[]) .nil []) (fun _=>by kernel_rfl))<|La U<|Lk U U (yl y53 U U U .h4 U U U)<|La U<|WL.nil<|Lb<|WC.ret<|Lj<|WX.nilRow 37 4<|WX.nilRow 53 3 ?_
   obtain rfl:=oJ h
   refine Lh results12 (.agg U y5j U (yj .h2)<|.tmp U .nil)<|fun w hw=>?_
   exact⟨none,0,none,0,y1T U U,trivial,hw.sub (.s2 .h1 .here)⟩
  ·replace h:=ys h R
   refine WC.skip<|Lb<|WC.b<|WC.b<|Ld<|La U<|La U<|WL.nil<|Lb<|WC.cond U (fun S=>?_)<|fun S=>?_
   ·replace h:=yr h S
    refine WC.b<|Ld<|Le 43 (yN (v:=(.agg #[vn,vn])) (Lo (l:=[]) .nil []) (fun _=>by kernel_rfl))<|La U<|Lk U U (yl y53 U U U .h4 U U U)<|La U<|WL.nil<|Lb<|WC.ret<|Lj<|WX.nilRow 37 4<|WX.nilRow 53 3 ?_
    obtain rfl:=oJ h
    refine Lh results12 (.agg U y5j U (yj .h2)<|.tmp U .nil)<|fun w hw=>?_
    exact⟨none,0,none,0,y1T U U,trivial,hw.sub (.s2 .h1 .here)⟩
   ·replace h:=ys h S
    refine WC.skip<|Lb<|WC.b<|Ld (Lg 45 (y3n (fun x=>Value.agg (e94 x).toArray)<|Value.int .i64) fun ar _=>La U<|WL.nil<|Lb<|WC.b<|Ld (Lg 13 (yu (cs:=[vn,vn]) y6X U) fun P _=>WL.nil<|Lb ?_))
    obtain⟨au,aC,h⟩:=y13 h
    let D:Value:=(vs ap s.length aq);refine Kb (fun(d:List S36) (g:Option Addr) (j:Nat)=>(au d=some r)) (fun d g j=>[(2,D),(3,(vp N)),(6,(vp O)),(13,(vp P))]) (fun d g j=>[stb N 31 A,stb O 40 [vn,vn],stb P 40 [(vs g d.length j),vn],row (vs g d.length j) 37 4 (d.flatMap e37)]) ?_ ?_
    ·skip
     let C:Value:=(vs aI b.1.length aJ);refine WC.b (Ld (La U (Le 47 (yJ underlying33 U) (La U (WL.nil (Lb (WC.block (WC.nilRow 37 4 (WC.yaN (fun(y:Nat) (a:Int) (m:List (z8×Int)) (c:List S36) (o:Option Addr) (p:Nat)=>(y37 b f s au y a m c=some r)) (fun y a m c o p=>[(2,D),(3,(vp N)),(6,(vp O)),(12,(.map (some ar))),(13,(vp P)),(46,C),(47,(vi (b.1.length:Int))),(48,(vi a))]) (fun y a m c o p=>[row C 37 4 (b.1.flatMap e37),stb N 31 A,stb O 40 [vn,vn],yn ar (fun x=>Value.agg (e94 x).toArray) (Value.int .i64) m,stb P 40 [(vs o c.length p),vn],row (vs o c.length p) 37 4 (c.flatMap e37)]) (fun y a m c o p=>y) ⟨yy,0,([]:List (z8×Int)),([]:List S36),none,0⟩ h (.r8 U U U U U U U U) (.s6 .h6 .h7 .h6 .h2 .h1 .here) ?_)))))))))
     rintro(_|aK) a m c o p h;·cases h
     rw[y37] at h
     refine WC.b<|Ld<|La U<|WL.nil<|Lb<|WC.b<|WC.cond U (fun T=>?_)<|fun T=>?_
     ·replace h:=yr h T
      refine WC.skip<|Lb<|WC.b<|WC.block<|WC.b ?_
      obtain⟨B,h⟩:=yo h
      refine Ld<|Kg (fun w hw=>Hp.y2c .here hw (by intro hz';have:=B;rw[hz'] at this;omega)) ?_
      rintro⟨aR,rfl⟩
      refine Le 50 (y11 y5z U U B.1 B.2 y3g)<|Le 51 (yX (cs:=(e37<|nth b.1 a)) y6C U U<|y3Q .here<|y2y (enc:=e37) (l:=b.1) (i:=a) (sz:=4) (fun _=>U) B.1 B.2) (Lg 15 (yu (cs:=[(vi 0),(vi 0),(vi 0),(vi 0)]) y7G U) fun aS _=>Lk U U (yl y7X U U U .here U U U)<|WL.nil<|Lb<|WC.b<|Ld<|Le 52 (ya y6D U U)<|Le 53 (yc yq U<|yh .here U)<|Le 54 (ya y7Y U U)<|Le 55 (yc yq U<|yh .here U)<|Le 56 (yN (v:=(.agg #[(vi<|(nth b.1 a).fNode),(vi<|(nth b.1 a).fQ)])) (Lo (l:=[.tmp 53,.tmp 55]) (.r2 U U) [0,1]) (fun _=>by kernel_rfl)) (Lg 16 (yu (cs:=[(vi 0),(vi 0)]) zeroT_94 U) fun aT _=>Lk U U (yl sizT_94 U U U .here U U U)<|WL.nil<|Lb<|WC.b ?_))
      obtain⟨q,aD,h⟩:=za h
      refine Ld<|Le 58 (yi y1V U (yj .h3) U)<|La U<|Le 60 (yi ye3 U (yj .here) U)<|La U<|Ll 62 (zb call25<|.r4 U U U U) (.cons .h5 .nil) (cc hz (.cons .h5 .nil) fun w pz ho=>yfE aD w pz E F G H I J K L M ho)<|La U<|La U<|La U (Lg 17 (yu (cs:=[(vi 0),(vi 0),(vi 0),(vi 0)]) y7G U) fun aU _=>Lk U U (yl y7X U U U .here U U U)<|La U<|WL.nil<|Lb<|WC.b<|WC.b<|Ld<|La U<|La U<|WL.nil<|Lb<|WC.cond U (fun V=>?_)<|fun V=>?_)
      ·replace h:=yr h V
       refine WC.b<|Ld<|Le 67 (yN (v:=(.agg #[vn,vn])) (Lo (l:=[]) .nil []) (fun _=>by kernel_rfl))<|La U<|Lk U U (yl y53 U U U .h6 U U U)<|La U<|WL.nil<|Lb<|WC.ret<|Lj<|Lt<|Lj<|Lj<|Lt<|Lj<|WX.nilRow 37 4<|WX.nilRow 53 3 ?_
       obtain rfl:=oJ h
       refine Lh results12 (.agg U y5j U (yj .h2)<|.tmp U .nil)<|fun w hw=>?_
       exact⟨none,0,none,0,y1T U U,trivial,hw.sub (.s2 .h1 .here)⟩
      ·replace h:=ys h V
       refine WC.skip<|Lb<|WC.b<|Ld<|La U<|Le 70 (yi ye3 U (yj .h2) U)<|Le 71 (ya y9y U U)<|Le 72 (yc yq U<|yh .here U)<|Lk U U (y3P (k:=(⟨((nth b.1 a).fNode),((nth b.1 a).fQ)⟩:z8)) (v:=q.1.fDelay) ygf underlying92 U U U U .h1)<|WL.nil<|Lb ?_
       obtain⟨aE,h⟩:=yo h
       refine Ld<|Le 73 (ya y4b U U)<|Le 74 (yc y4c U<|yh .h7 U)<|Le 75 (yi y6C U (yj .h1) U) (Lg 76 (yT (cs:=([q.1]:List S36).flatMap e37) y5z (Lo (l:=[.tmp 75]) (.cons U .nil) [0]) (fun _=>by kernel_rfl) U (by unfold maxLen;omega)) fun aV _=>WL.fA 77 (y4W (enc:=e37) (l1:=c) (l2:=([q.1]:List S36)) y5z U U (.there<|.there .h7) (fun _=>U) U U (y3q .here) (y5i yfu _) aE) ?_)
       rintro⟨av,aw⟩ _
       refine Le 78 (ya y4b U U)<|Lk U U (y4L (ds:=[(vs av ((c++([q.1]:List S36)).length) aw),vn]) yiX U U U U U (.there<|.there .h7) U U)<|WL.nil<|Lq<|Lb<|Ld<|La U<|La U<|WL.nil ?_
       exact WX.round ⟨aK,(i64 (a+1)),(yC m (⟨((nth b.1 a).fNode),((nth b.1 a).fQ)⟩:z8) q.1.fDelay),(c++([q.1]:List S36)),av,aw⟩ h (Nat.lt_succ_self _) (.r8 U U U U U U U U)<|.s6 .h7 .h7 .h7 .h3 .here .here
     ·replace h:=ys h T
      refine WC.exit<|Lm<|Lm<|Lw ?_
      exact Ln ⟨c,o,p⟩ h (.r4 U U U U)<|.s4 .h1 .h1 .h2 .h2
    ·rintro d g j h
     replace h:=(aC d).symm.trans h
     refine WC.b ?_
     obtain⟨ax,aF,h⟩:=za h
     refine Ld<|Le 80 (ya y4b U U)<|Le 81 (yc y4c U<|yh .h2 U)<|WL.y5c (dd:=82) U U U (zb call26<|.r2 U U) (.cons .h3 .nil) (cc hz (.cons .h3 .nil) fun w pz ho=>y47 _ _ _ (zh0:=27) (znF:=[]) _ (zgZ:=(fun(y0:S36) (y1:S36)=>y14 y0 y1)) _ aF w pz call27 (fun w' hz' y0 y1  r  hr=>ycz hr w' hz' ) ho) ?_
     rintro  aG
     refine WL.restb (cs':=[(vs g ax.length j),vn]) .h3 (by rw[aG])<|WL.nil<|Lb<|WC.b ?_
     obtain⟨aL,aH,h⟩:=za h
     refine Ld<|Le 83 (yi y1V U (yj .h2) U)<|La U<|Le 85 (ya y4b U U)<|Le 86 (yc y4c U<|yh .here U)<|WL.y43 (dd:=87) U U U (zb call28<|.r3 U U U) .nil (ccl hz .nil (.cons .h1 .nil) fun w pz ho la=>ydv aH w pz ((E.mono<|Zle.left _ _).weak (fun _ _ h=>y1p (Zle.left _ _) h)) ((F.mono<|Zle.left _ _).weak (fun _ _ h=>y1A (Zle.left _ _) h)) (G.mono<|Zle.left _ _) (H.mono<|Zle.left _ _) ((I.mono<|Zle.left _ _).weak (fun _ _ h=>y1k (Zle.left _ _) h)) (J.mono<|Zle.left _ _) ((K.mono<|Zle.left _ _).weak (fun _ _ h=>y1B (Zle.left _ _) h)) (L.mono<|Zle.left _ _) ((M.mono<|Zle.left _ _).weak (fun _ _ h=>y22 (Zle.left _ _) h))<|ZA.row (la _ (.head _) _) (RR.flat (enc:=e37) (fun _=>U) _) ⟨w,pz.1⟩) ?_
     rintro ay az _
     refine Le 88 (ya y6E U U)<|Lk U U (y4L (ds:=[(vs g ax.length j),(vs ay aL.length az)]) yiY U U U U U .h1 U U)<|WL.nil<|Lb<|WC.b<|Ld<|Le 89 (yi y5j U (yj .here) U)<|Lk U U (yl y53 U U U .h4 U U U)<|La U<|WL.nil<|Lb<|WC.ret ?_
     obtain rfl:=oJ h
     refine Lh results12 (.agg U y5j U (yj .here)<|.tmp U .nil)<|fun w hw=>?_
     exact⟨g,j,ay,az,y1T U U,trivial,hw.sub (.s2 .h3 .h2)⟩
def y2U(a:List S36):Option (List S36):=
 some a
theorem y6k{Z:Zp}{r:List S36}(h:y2U i=some r)(w₀:World)(hz:PZ [] w₀ Z)(d:ZS Z 4 (fun r x=>r=e37 x) n t i):
  Calls Tryz.prog 70 #[(vs n i.length t)] w₀ fun e w'=>∃ a:Nat,∃ b:Option Addr,∃ c:Nat,e = .returned (.func (.func 113) #[] #[(vp a)])/\(ZS Z 4 (fun r x=>r=e37 x) b c r)/\Hp [] w₀ w' [stb a 33 [(vs b r.length c)]]:=by
 unfold y2U at h
 refine L5 func70 ntmps70 ?_
 refine WC.b<|Ld (Lg 1 (yI (cs:=[(vs n i.length t)]) U U) fun f _=>La U<|WL.nil<|Lb<|WC.b<|Ld<|Le 3 (y15<|L2 (l:=[.tmp 1])<|.cons U .nil)<|La U<|WL.nil<|Lb<|WC.ret ?_)
 obtain rfl:=oJ h
 refine Lh results70 (.tmp U .nil)<|fun w hw=>?_
 exact⟨f,n,t,yD U,d,hw.sub (.cons .here .nil)⟩
def y1e(z1Z:Type)(z3R:List S36)(z9y:(Int×S36)->z1Z->Option (Bool×z1Z))(c:z1Z->Option z1Z):Nat->Int->z1Z->Option z1Z
 | 0,_,_=>none
 | e+1,a,d=>if decide (a>=0) then chk ((0:Int)<=a/\a<(z3R.length:Int)) ((z9y (a,(⟨((nth z3R a).fNode),((nth z3R a).fQ),((nth z3R a).fDelay),((nth z3R a).fT)⟩:S36)) d).bind fun b=>if !b.1 then some b.2 else y1e z1Z z3R z9y c e (i64 (a-1)) b.2) else c d
theorem y5b{n:Nat}{z1Z:Type}{z9y:(Int×S36)->z1Z->Option (Bool×z1Z)}{a:z1Z->Option z1Z}{b:z1Z}{r:z1Z}(h:y1e z1Z i z9y a n u b=some r):∃ m,n=m+1:=by
 cases n with
 | zero=>cases h
 | succ m=>exact⟨m,rfl⟩
def y2B(z1Z:Type)(z9y:(Int×S36)->z1Z->Option (Bool×z1Z))(zaR:z1Z)(z3R:List S36):Option z1Z:=
 jp1 (fun(a:z1Z)=>some a) fun b=>y1e z1Z z3R z9y b yy (i64 ((z3R.length:Int)-1)) zaR
theorem y5U(Z:Zp)(z1Z:Type)(zrW:Nat)(zfj:Type)(z9z:zfj->z1Z->Asrt)(zkz:zfj->z1Z->Prop)(zhm:zfj)(zrX:Addr)(zCb:Option Addr)(zCc:Nat)(z9y:(Int×S36)->z1Z->Option (Bool×z1Z))(zaR:z1Z)(z3R:List S36)(r:z1Z)(w₀:World)(hz:PZ (fps [z9z zhm zaR]) w₀ Z)(v:ybM Tryz.prog Z zrW (α:=Int×S36) (σ:=z1Z) (G:=zfj) (H:=Unit) (fun h x=>[(vi x.1),(.agg #[(vi x.2.fNode),(vi x.2.fQ),(vi x.2.fDelay),(vi x.2.fT)])]) (fun h x=>[]) z9y z9z zkz)(y:zkz zhm zaR)(z:ZS Z 4 (fun r x=>r=e37 x) zCb zCc z3R)(n:ZC Z zrX [(vs zCb z3R.length zCc)])(h:y2B z1Z z9y zaR z3R=some r)(hown:Hp (fps [z9z zhm zaR]) w₀ w₀ [z9z zhm zaR]):
  Calls Tryz.prog 113 #[(.func (.yield zrW) #[] #[]),(vq zrX)] w₀ fun e w'=>∃ o:zfj,e = .returned (.tuple #[])/\(zkz o r)/\Hp (fps [z9z zhm zaR]) w₀ w' [z9z o r]:=by
 unfold y2B at h
 refine Kf func113 ntmps113 hown ?_
 refine WC.b<|Ld<|Le 4 (yc y4c U<|y3x hz.pv n U)<|Le 5 (yJ underlying33 U)<|La U<|La U<|WL.nil<|Lb ?_
 obtain⟨p,A,h⟩:=y13 h
 refine WC.y9m (fun(f:z1Z) (i:zfj)=>(p f=some r)/\(zkz i f)) (fun f i=>[]) (fun f i=>[z9z i f]) ?_ ?_
 ·skip
  refine WC.block<|WC.y5s (fun(j:Nat) (a:Int) (c:z1Z) (d:zfj)=>(y1e z1Z z3R z9y p j a c=some r)/\(zkz d c)) (fun j a c d=>[(0,(.func (.yield zrW) #[] #[])),(1,(vq zrX)),(3,(vi a))]) (fun j a c d=>[z9z d c]) (fun j a c d=>j) ⟨yy,(i64 ((z3R.length:Int)-1)),zaR,zhm⟩ ⟨h,y⟩ (.r3 U U U) (.cons .here .nil) ?_
  rintro j a c d ⟨h,q⟩
  obtain⟨F,rfl⟩:=y5b h
  rw[y1e] at h
  refine WC.b<|WC.b<|Ld<|La U<|La U<|WL.nil<|Lb<|WC.cond U (fun k=>?_)<|fun k=>?_
  ·replace h:=yr h k
   refine WC.skip<|Lb<|WC.b<|WC.block<|WC.b ?_
   obtain⟨B,h⟩:=yo h
   obtain⟨l,C,h⟩:=za h
   refine Ld<|La U<|La U<|Le 13 (yc y4c U<|y3x hz.pv n U)<|La U<|L0 (dd:=15) U U (Z:=Z) (Pr:=(fun r x=>r=e37 x)) y5z U U z B ?_
   rintro I J D K rfl
   refine Le 16 (yi y6C U (y2j hz.pv D) U) (WL.yield (dd:=17) (x:=(a,(⟨((nth z3R a).fNode),((nth z3R a).fQ),((nth z3R a).fDelay),((nth z3R a).fT)⟩:S36))) (h:=()) (g:=d) (s:=c) (b:=l.1) (s':=l.2) v U U U (.r2 U U) ((.cons .here .nil):Sel _ [z9z d c] _) C q (fun w hw=>hz.call hw ((.cons .here .nil):Sel _ [z9z d c] _)) fun t u=>La U<|WL.nil<|Lb<|WC.cond U (fun m=>?_)<|fun m=>?_)
   ·replace h:=yr h m
    refine WC.ret<|Lt<|Lj<|Lj<|Lt<|Lj ?_
    obtain rfl:=oJ h
    refine Lh results113 .nil<|fun w hw=>?_
    exact⟨t,y7A,u,hw.sub (.cons .here .nil)⟩
   ·replace h:=ys h m
    refine WC.skip<|Lq<|Lb<|Ld<|La U<|La U<|La U<|WL.nil ?_
    exact WX.round ⟨F,(i64 (a-1)),l.2,t⟩ ⟨h,u⟩ (Nat.lt_succ_self _) (.r3 U U U)<|.cons .here .nil
  ·replace h:=ys h k
   refine WC.exit<|Lm<|Lm<|Lw ?_
   exact Ln ⟨c,d⟩ ⟨h,q⟩ .nil<|.cons .here .nil
 ·rintro f i ⟨h,E⟩
  replace h:=(A f).symm.trans h
  obtain rfl:=oJ h
  refine WX.y58 results113 .nil<|fun w hw=>?_
  exact⟨i,y7A,E,hw.sub (.cons .here .nil)⟩
def y5Q(a:Int×S36)(b:List (z8×Int)):Option (Bool×(Nat×(List (z8×Int)))):=
 some (true,(0,(yC b (⟨a.2.fNode,a.2.fQ⟩:z8) a.2.fDelay)))
def y8w(a:List S36):Option (List (z8×Int)):=
 jp1 (fun(b:List (z8×Int))=>some b) fun c=>(y2U a).bind fun d=>(y2B (Nat×(List (z8×Int))) (fun(x:Int×S36) (s:Nat×(List (z8×Int)))=>chk (s.1=0) (y5Q x s.2)) (0,([]:List (z8×Int))) d).bind fun e=>c e.2
theorem yf2{Z:Zp}{r:(List (z8×Int))}(h:y8w i=some r)(w₀:World)(hz:PZ [] w₀ Z)(L:ZS Z 4 (fun r x=>r=e37 x) n t i):
  Calls Tryz.prog 36 #[(vs n i.length t)] w₀ fun e w'=>∃ F:Nat,e = .returned (.map (some F))/\True/\Hp [] w₀ w' [yn F (fun x=>Value.agg (e94 x).toArray) (Value.int .i64) r]:=by
 unfold y8w at h
 let C:Value:=(vs n i.length t);refine Calls.y9J (vs:=[C]) (pre:=[]) (env:=[(0,C)]) func36 U ntmps36 U (Hp.nil w₀ _) U ?_
 refine WC.b<|Ld<|La U<|WL.nil<|Lb<|WC.b<|Ld (Lg 6 (y3n (fun x=>Value.agg (e94 x).toArray)<|Value.int .i64) fun a _=>Lg 3 (yu (cs:=[(.map none)]) zeroT_92 U) fun b _=>Lk U U (yl sizT_92 U U U .here U U U)<|WL.nil<|Lb ?_)
 obtain⟨W,M,h⟩:=y13 h
 refine WC.yiw (fun(u:Nat) (q:List (z8×Int))=>(W q=some r)) (fun(u:Nat) (q:List (z8×Int))=>[(3,(vp b))]) (fun(u:Nat) (q:List (z8×Int))=>[stb b 92 [(.map<|some a)],yn a (fun x=>Value.agg (e94 x).toArray) (Value.int .i64) q,dfr u]) ?_ ?_
 ·skip
  refine WC.b ?_
  obtain⟨H,N,h⟩:=za h
  refine Ld<|La U<|WL.ygI (dd:=8) U U U (zb call70<|.cons U .nil) .nil (cc hz .nil fun w pz ho=>y6k N w pz L) ?_
  rintro c I J O
  refine WL.nil<|Lb<|WC.block<|WC.drop (.s3 .h1 .h1 .here)<|WC.rangeFunc (f:=113) (caps:=[(vp c)]) U call113 ?_
  intro X Y d m j z P Q w hw
  have hw1:=hw.selAll ((.s3 .h2 .h2 .here):Sel _ [stb b 92 [(.map (some a))],yn a (fun x=>Value.agg (e94 x).toArray) (Value.int .i64) ([]:List (z8×Int)),blk d (j .ready none)] _)
  let A:List Value:=[(vs I H.length J)];have pz:=(hz.call hw1 ((.cons .here .nil):Sel [y1N [stb b 92 [(.map (some a))],yn a (fun x=>Value.agg (e94 x).toArray) (Value.int .i64) ([]:List (z8×Int)),blk d (j .ready none)],dfr m,stb c 33 A] [y1N [stb b 92 [(.map (some a))],yn a (fun x=>Value.agg (e94 x).toArray) (Value.int .i64) ([]:List (z8×Int)),blk d (j .ready none)]] [dfr m,stb c 33 A])).lend hw1 ((.cons .here .nil):Sel [y1N [stb b 92 [(.map (some a))],yn a (fun x=>Value.agg (e94 x).toArray) (Value.int .i64) ([]:List (z8×Int)),blk d (j .ready none)],dfr m,stb c 33 A] [y1N [stb b 92 [(.map (some a))],yn a (fun x=>Value.agg (e94 x).toArray) (Value.int .i64) ([]:List (z8×Int)),blk d (j .ready none)]] [dfr m,stb c 33 A]) (B:=[stb c 33 A]) (fun _ hx'=>((.cons .h1 .nil):Sel _ [stb c 33 A] _).mem hx')
  obtain⟨p,R,h⟩:=za h
  refine Calls.mono (y5U (Z:=_) (zrW:=d) (zfj:=Unit) (z9z:=(fun(g:Unit) (s:Nat×(List (z8×Int)))=>y1N ([stb b 92 [(.map<|some a)],yn a (fun x=>Value.agg (e94 x).toArray) (Value.int .i64) s.2]++[blk d (j (rdy<|pcs [] s.1)<|pcs [] s.1)]))) (zkz:=(fun(g:Unit) (s:Nat×(List (z8×Int)))=>True)) (zhm:=()) (zrX:=⟨c,0,none⟩) (zCb:=I) (zCc:=J) (z1Z:=(Nat×(List (z8×Int)))) (z9y:=(fun(x:Int×S36) (s:Nat×(List (z8×Int)))=>chk (s.1=0)<|y5Q x s.2)) (zaR:=(0,([]:List (z8×Int)))) (z3R:=H) (r:=p) w pz ?_ trivial (O.mono<|Zle.left _ _) ((hw1.lent ((.cons .here .nil):Sel [y1N [stb b 92 [(.map<|some a)],yn a (fun x=>Value.agg (e94 x).toArray) (Value.int .i64) ([]:List (z8×Int)),blk d (j .ready none)],dfr m,stb c 33 A] [y1N [stb b 92 [(.map<|some a)],yn a (fun x=>Value.agg (e94 x).toArray) (Value.int .i64) ([]:List (z8×Int)),blk d (j .ready none)]] [dfr m,stb c 33 A]) (B:=[stb c 33 A]) (fun _ hx'=>((.cons .h1 .nil):Sel _ [stb c 33 A] _).mem hx') (.head _) _).stb) R<|hw1.owns ((.cons .here .nil):Sel [y1N [stb b 92 [(.map<|some a)],yn a (fun x=>Value.agg (e94 x).toArray) (Value.int .i64) ([]:List (z8×Int)),blk d (j .ready none)],dfr m,stb c 33 A] [y1N [stb b 92 [(.map<|some a)],yn a (fun x=>Value.agg (e94 x).toArray) (Value.int .i64) ([]:List (z8×Int)),blk d (j .ready none)]] [dfr m,stb c 33 A])) ?_
  ·skip
   refine ybn (LI:=(fun(g:Unit) (s:Nat×(List (z8×Int)))=>[stb b 92 [(.map<|some a)],yn a (fun x=>Value.agg (e94 x).toArray) (Value.int .i64) s.2])) (pc:=(fun(s:Nat×(List (z8×Int)))=>pcs [] s.1)) z P Q (fun _ _=>U) (by decide) ?_
   rintro o _ _ ⟨S,E⟩ T V Fb wb K _ hz
   replace hz:=hz.left
   letI:Rnd:=inR d
   obtain⟨hp0,y⟩:=yo K
   replace hp0:S=0:=hp0;subst hp0;clear K
   replace y:y5Q o E=some (T,V):=y
   unfold y5Q at y
   refine WC.restr (env':=[(3,(vp b)),(9,(vi o.1)),(10,(.agg #[(vi o.2.fNode),(vi o.2.fQ),(vi o.2.fDelay),(vi o.2.fT)]))]) (.r3 U U U)<|WC.eqL (L':=[stb b 92 [(.map<|some a)],yn a (fun x=>Value.agg (e94 x).toArray) (Value.int .i64) E,blk d (j .ready none)]) U<|Ld (Lg 5 (yu (cs:=[(vi 0),(vi 0),(vi 0),(vi 0)]) y7G U) fun aa _=>Lk U U (yl y7X U U U .here U U U)<|WL.nil<|WX.ycl z .h3<|WC.block<|Ld<|Le 11 (yc yj1 U<|yh .h2 U)<|Le 12 (ya y6D U U)<|Le 13 (yc yq U<|yh .h1 U)<|Le 14 (ya y7Y U U)<|Le 15 (yc yq U<|yh .h1 U)<|Le 16 (yN (v:=(.agg #[(vi o.2.fNode),(vi o.2.fQ)])) (Lo (l:=[.tmp 13,.tmp 15]) (.r2 U U) [0,1]) (fun _=>by kernel_rfl))<|Le 17 (ya y9y U U)<|Le 18 (yc yq U<|yh .h1 U)<|Lk U U (y3P (k:=(⟨o.2.fNode,o.2.fQ⟩:z8)) (v:=o.2.fDelay) ygf underlying92 U U U U .h3)<|WL.nil<|Lq ?_)
   obtain⟨rfl,rfl⟩:=yaP y
   exact WX.y6W z .h1<|fun w' hw'=>⟨(),U,trivial,(hw'.selAll ((.s3 .h3 .h1 .here):Sel _ [stb b 92 [(.map<|some a)],yn a (fun x=>Value.agg (e94 x).toArray) (Value.int .i64) (yC E (⟨o.2.fNode,o.2.fQ⟩:z8) o.2.fDelay),blk d (j .ready none)] _)).sub (.cons .here .nil)⟩
  ·skip
   rintro _ w' ⟨_,rfl,_,hp⟩
   have hp1:=hw1.call ((.cons .here .nil):Sel [y1N [stb b 92 [(.map (some a))],yn a (fun x=>Value.agg (e94 x).toArray) (Value.int .i64) ([]:List (z8×Int)),blk d (j .ready none)],dfr m,stb c 33 A] [y1N [stb b 92 [(.map (some a))],yn a (fun x=>Value.agg (e94 x).toArray) (Value.int .i64) ([]:List (z8×Int)),blk d (j .ready none)]] [dfr m,stb c 33 A]) hp
   have hp2:Hp _ _ w' [stb b 92 [(.map (some a))],yn a (fun x=>Value.agg (e94 x).toArray) (Value.int .i64) p.2,blk d (j (rdy (pcs [] p.1)) (pcs [] p.1)),dfr m,stb c 33 A]:=hp1.pickAll .here
   refine⟨_,pcs [] p.1,_,U,(hp2.sub ((.s5 .h2 .here .here .here .here):Sel _ [blk d (j (rdy (pcs [] p.1)) (pcs [] p.1)),stb b 92 [(.map (some a))],yn a (fun x=>Value.agg (e94 x).toArray) (Value.int .i64) p.2,dfr m,stb c 33 A] _)),?_⟩
   clear hp hp1 hp2 pz hw hw1
   refine wjN ?_
   letI:Rnd:=aft m
   refine Lq ?_
   exact WX.midR (D:=fun(g:Nat×(List (z8×Int)))=>g.1) (G:=Nat×(List (z8×Int))) ⟨m,p.2⟩ h (.cons U .nil)<|.a3
 ·rintro u q h
  replace h:=(M q).symm.trans h
  letI:Rnd:=aft u
  refine WC.b<|Ld<|Le 19 (yc yj1 U<|yh .here U)<|La U<|WL.nil<|Lb<|WC.ret ?_
  obtain rfl:=oJ h
  refine WX.y7D .h2 results36 (.tmp U .nil)<|fun w hw=>?_
  exact⟨a,yD U,trivial,hw.sub (.cons .h2 .nil)⟩
def y4B(b:List (List ze))(e:zs)(f:(List (z8×Int)))(g:(List (List Int))->Option (List (List Int))):Nat->(List (List Int))->Int->Option (List (List Int))
 | 0,_,_=>none
 | h+1,c,a=>if decide (a<(b.length:Int)) then chk ((0:Int)<=a/\a<(b.length:Int)) ((y4y e (nth b a) f).bind fun d=>chk ((((c++([d]:List (List Int))).length:Nat):Int)*24<=140737488355328/\(((c++([d]:List (List Int))).length:Nat):Int)<=4611686018427387904) (y4B b e f g h (c++([d]:List (List Int))) (i64 (a+1)))) else g c
theorem yag{n:Nat}{a:(List (z8×Int))}{b:(List (List Int))->Option (List (List Int))}{c:List (List Int)}{r:List (List Int)}(h:y4B s f a b n c u=some r):∃ m,n=m+1:=by
 cases n with
 | zero=>cases h
 | succ m=>exact⟨m,rfl⟩
def y7M(a:zs)(b:List (List ze))(c:List S36):Option (List (List Int)):=
 (y44 a 0 b).bind fun d=>(if !d then(y44 a 1 b).bind fun e=>some (!e) else some false).bind fun f=>if f then some ([]:List (List Int)) else(y8w c).bind fun g=>jp1 (fun(h:List (List Int))=>some h) fun i=>y4B b a g i yy ([]:List (List Int)) 0
theorem ydw{Z:Zp}{R:Option Addr}{r:List (List Int)}(h:y7M f s i=some r)(w₀:World)(hz:PZ [] w₀ Z)(G:ZS Z 4 (y3F Z) n t f.fM)(H:ZS Z 4 (y4l Z) z aa f.fC0)(I:ZS Z 4 (fun r x=>r=e64 x) ab ad f.fS)(J:ZS Z 4 (fun r x=>r=e62 x) ae af f.fK)(K:ZS Z 7 (p69 Z) ag ah f.fVLs)(L:ZS Z 5 (fun r x=>r=y4D x) ai aj f.fH)(M:ZS Z 3 (y4m Z) ak al f.fU)(N:ZS Z 4 (fun r x=>r=y4E x) am an f.fV0)(O:ZS Z 1 (p58 Z) ap aq s)(az:ZS Z 4 (fun r x=>r=e37 x) R g i):
  Calls Tryz.prog 14 #[(.agg #[(vs n f.fM.length t),(vs z f.fC0.length aa),(vs ab f.fS.length ad),(vs ae f.fK.length af),(vs ag f.fVLs.length ah),(vs ai f.fH.length aj),(vs ak f.fU.length al),(vs am f.fV0.length an)]),(vs ap s.length aq),(vs R i.length g)] w₀ fun e w'=>∃ Zn:Zp,∃ S:Option Addr,∃ T:Nat,∃ V:List Value,e = .returned (vs S r.length T)/\(RR 1 (p50 (Z++Zn)) V r)/\Hp [] w₀ w' [fz Zn,row (vs S r.length T) 50 1 V]:=by
 unfold y7M at h
 refine Kd func14 ntmps14 ?_
 let A:List Value:=[(vs n f.fM.length t),(vs z f.fC0.length aa),(vs ab f.fS.length ad),(vs ae f.fK.length af),(vs ag f.fVLs.length ah),(vs ai f.fH.length aj),(vs ak f.fU.length al),(vs am f.fV0.length an)];refine WC.pool (WC.b (Ld (Lg 3 (yI (cs:=A) U U) ?_)))
 intro W _
 refine La U<|WL.nil<|Lb<|WC.b<|WC.b ?_
 obtain⟨aY,aA,h⟩:=za h
 obtain⟨aP,X,h⟩:=za h
 refine Ld<|Le 11 (yi y1V U (yj .here) U)<|La U<|Ll 13 (zb call22<|.r3 U U U) .nil (ccz hz .nil .h1 fun w pz ho=>y7r aA w pz ((G.mono<|Zle.left _ _).weak (fun _ _ h=>y1p (Zle.left _ _) h)) ((H.mono<|Zle.left _ _).weak (fun _ _ h=>y1A (Zle.left _ _) h)) (I.mono<|Zle.left _ _) (J.mono<|Zle.left _ _) ((K.mono<|Zle.left _ _).weak (fun _ _ h=>y1k (Zle.left _ _) h)) (L.mono<|Zle.left _ _) ((M.mono<|Zle.left _ _).weak (fun _ _ h=>y1B (Zle.left _ _) h)) (N.mono<|Zle.left _ _)<|(O.mono<|Zle.left _ _).weak (fun _ _ h=>y22 (Zle.left _ _) h))<|La U<|La U<|Lu true 4 15 (B:=aP) U U U U U U (fun h=>(oJ<|ys X h).symm) (fun _ aB=>?_) ?_
 ·skip
  have E:=yr X aB
  obtain⟨aZ,aC,E⟩:=za E
  replace E:=oJ E
  refine Le 16 (yi y1V U (yj .here) U)<|La U<|Ll 18 (zb call22<|.r3 U U U) .nil (ccz hz .nil .h1 fun w pz ho=>y7r aC w pz ((G.mono<|Zle.left _ _).weak (fun _ _ h=>y1p (Zle.left _ _) h)) ((H.mono<|Zle.left _ _).weak (fun _ _ h=>y1A (Zle.left _ _) h)) (I.mono<|Zle.left _ _) (J.mono<|Zle.left _ _) ((K.mono<|Zle.left _ _).weak (fun _ _ h=>y1k (Zle.left _ _) h)) (L.mono<|Zle.left _ _) ((M.mono<|Zle.left _ _).weak (fun _ _ h=>y1B (Zle.left _ _) h)) (N.mono<|Zle.left _ _)<|(O.mono<|Zle.left _ _).weak (fun _ _ h=>y22 (Zle.left _ _) h))<|La U<|La U ?_
  exact Lv E U U .all
 refine WL.nil<|Lb<|WC.cond U (fun P=>?_)<|fun P=>?_
 ·replace h:=yr h P
  refine WC.b<|Ld<|La U<|WL.nil<|Lb<|WC.ret<|Lj<|WX.nilRow 50 1 ?_
  obtain rfl:=oJ h
  refine Lh results14 (.tmp U .nil)<|fun w hw=>?_
  exact⟨[],none,0,[],yD U,(RR.nil _ _),hw.sub (.s2 .h2 .here)⟩
 ·replace h:=ys h P
  refine WC.skip<|Lb<|WC.b ?_
  obtain⟨Y,aD,h⟩:=za h
  refine Ld<|La U<|WL.yd7 (dd:=22) U U U (zb call36<|.cons U .nil) .nil (ccz hz .nil .h1 fun w pz ho=>yf2 aD w pz<|az.mono<|Zle.left _ _) ?_
  rintro ao _
  refine La U<|WL.nil<|Lb<|WC.b<|Ld<|La U<|WL.nil<|Lb ?_
  obtain⟨ar,aE,h⟩:=y13 h
  refine WC.yas (fun(j:List (List Int)) (k:Zp) (u:Option Addr) (v:Nat) (y:List Value)=>(ar j=some r)/\(Zle (Z++[]) (Z++k))/\(RR 1 (p50 (Z++k)) y j)) (fun j k u v y=>[(8,(vs u j.length v))]) (fun j k u v y=>[fz k,row (vs u j.length v) 50 1 y]) ?_ ?_
  ·skip
   refine WC.b<|Ld<|La U<|Le 24 (yJ underlying32 U)<|La U<|WL.nil<|Lb<|WC.block<|WC.nilRow 50 1<|WC.yho (fun(D:Nat) (b:List (List Int)) (m:Int) (c:Zp) (o:Option Addr) (p:Nat) (d:List Value)=>(y4B s f Y ar D b m=some r)/\(Zle (Z++[]) (Z++c))/\(RR 1 (p50 (Z++c)) d b)) (fun D b m c o p d=>[(3,(vp W)),(7,(.map<|some ao)),(8,(vs o b.length p)),(23,(vs ap s.length aq)),(24,(vi (s.length:Int))),(25,(vi m))]) (fun D b m c o p d=>[fz c,row (vs o b.length p) 50 1 d,stb W 31 A,yn ao (fun x=>Value.agg (e94 x).toArray) (Value.int .i64) Y]) (fun D b m c o p d=>D) ⟨yy,([]:List (List Int)),0,[],none,0,[]⟩ ⟨h,(Zle.refl _),(RR.nil _ _)⟩ (.r6 U U U U U U) (.s4 .h3 .here .h1 .here) ?_
   rintro D b m c o p d ⟨h,a,au⟩
   obtain⟨aQ,rfl⟩:=yag h
   rw[y4B] at h
   refine WC.b<|Ld<|La U<|WL.nil<|Lb<|WC.b<|WC.cond U (fun Q=>?_)<|fun Q=>?_
   ·replace h:=yr h Q
    refine WC.skip<|Lb<|WC.b<|WC.block<|WC.b ?_
    obtain⟨aF,h⟩:=yo h
    refine Ld<|L0 (dd:=27) U U (Z:=(Z++c)) (Pr:=(p58 (Z++c))) y8Y U U ((O.mono<|(Zle.left _ _).trans a).weak (fun _ _ h=>y22 ((Zle.left _ _).trans a) h)) aF ?_
    rintro aR aS aG aT ⟨aU,aV,rfl,aH⟩
    refine Le 28 (yc y7g U<|y3x (hz.pv2 .here) aG U)<|La U<|WL.nil<|Lb ?_
    obtain⟨q,aI,h⟩:=za h
    obtain⟨aJ,h⟩:=yo h
    refine Ld<|La U<|Le 30 (yi y1V U (yj .h2) U)<|La U<|La U<|WL.y43 (dd:=33) U U U (zb call37<|.r3 U U U) (.cons .h3 .nil) (ccz hz (.cons .h3 .nil) .here fun w pz ho=>y5g aI w pz ((G.mono<|(Zle.left _ _).trans a).weak (fun _ _ h=>y1p ((Zle.left _ _).trans a) h)) ((H.mono<|(Zle.left _ _).trans a).weak (fun _ _ h=>y1A ((Zle.left _ _).trans a) h)) (I.mono<|(Zle.left _ _).trans a) (J.mono<|(Zle.left _ _).trans a) ((K.mono<|(Zle.left _ _).trans a).weak (fun _ _ h=>y1k ((Zle.left _ _).trans a) h)) (L.mono<|(Zle.left _ _).trans a) ((M.mono<|(Zle.left _ _).trans a).weak (fun _ _ h=>y1B ((Zle.left _ _).trans a) h)) (N.mono<|(Zle.left _ _).trans a) aH ho) ?_
    rintro av aw _
    refine WL.freezeS (ls:=q) .here .h1 hz (RR.flat (enc:=e3) (fun _=>U) _) ?_
    intro F ax aK
    let C:List Value:=[(vs av q.length aw)];have ay:RR 1 (p50 (Z++F)) C ([q]:List (List Int)):=(RR.cons (r:=C) U (show p50 _ _ _ from⟨_,_,U,aK⟩) (RR.nil _ _))
    refine Lg 34 (yT (cs:=[(vs av q.length aw)]) yhE (Lo (l:=[.tmp 33]) (.cons U .nil) [0]) (fun _=>by kernel_rfl) U (by unfold maxLen;omega)) ?_
    intro aW _
    have aL:RR 1 (p50 (Z++F)) (d++C) (b++([q]:List (List Int))):=RR.app (au.weak (fun _ _ h=>yhC ax h)) ay
    refine WL.fA 35 (y8F (l1:=b) (l2:=([q]:List (List Int))) (news:=C) (Pr:=(p50 (Z++F))) yhE U U .h3 ay (y3q .here) (ybJ U yd8) aJ) ?_
    rintro⟨aM,aN⟩ _
    refine La U<|WL.nil<|Lq<|Lb<|Ld<|La U<|La U<|WL.nil ?_
    exact WX.round ⟨aQ,(b++([q]:List (List Int))),(i64 (m+1)),F,aM,aN,(d++C)⟩ ⟨h,(a.trans ax),aL⟩ (Nat.lt_succ_self _) (.r6 U U U U U U)<|.s4 .h2 .here .h2 .h1
   ·replace h:=ys h Q
    refine WC.exit<|Lm<|Lm<|Lw ?_
    exact Ln ⟨b,c,o,p,d⟩ ⟨h,a,au⟩ (.cons U .nil)<|.a2
  ·rintro j k u v y ⟨h,aX,aO⟩
   replace h:=(aE j).symm.trans h
   refine WC.b<|Ld<|La U<|La U<|WL.nil<|Lb<|WC.ret ?_
   obtain rfl:=oJ h
   refine Lh results14 (.tmp U .nil)<|fun w hw=>?_
   exact⟨k,u,v,y,yD U,aO,hw.sub (.a2)⟩
end Go.Proofs.YthjnhebofpebpaaGreat

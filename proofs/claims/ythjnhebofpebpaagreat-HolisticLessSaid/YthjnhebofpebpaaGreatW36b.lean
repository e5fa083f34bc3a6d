/- A part of this claim's proof: models of functions, walks, plain laws. No conditions. -/
import Derived.Test.YthjnhebofpebpaaGreatW36a
set_option linter.all false
namespace Go.Proofs.YthjnhebofpebpaaGreat
open Go Go.RowKit Sep
set_option maxRecDepth 30000
set_option maxHeartbeats 4000000
def y44(z1A:List (List zd))(z1R:Int)(zbz:(List z8)→Option (List z8)):Nat→(List z8)→Int→Option (List z8)
 | 0,_,_=>none
 | zvK+1,z3Y,z3Z=>if decide (z3Z<(((nth z1A z1R).length:Nat):Int)) then jp1 (fun(z9n:List z8)=>y44 z1A z1R zbz zvK z9n (i64 (z3Z+1))) fun zqc=>chk ((0:Int)≤z3Z∧z3Z<(((nth z1A z1R).length:Nat):Int)) ((y4Q (⟨((nth (nth z1A z1R) z3Z).fNode),((nth (nth z1A z1R) z3Z).fNext),((nth (nth z1A z1R) z3Z).fQ)⟩:zd)).bind fun zFH=>(y1C z3Y zFH).bind fun zFI=>if !zFI then(y4Q (⟨((nth (nth z1A z1R) z3Z).fNode),((nth (nth z1A z1R) z3Z).fNext),((nth (nth z1A z1R) z3Z).fQ)⟩:zd)).bind fun zgb=>chk ((((z3Y++([zgb]:List z8)).length:Nat):Int)*16≤140737488355328∧(((z3Y++([zgb]:List z8)).length:Nat):Int)≤4611686018427387904) (zqc (z3Y++([zgb]:List z8))) else zqc z3Y) else zbz z3Y
theorem yb5{n:Nat}{z1A:List (List zd)}{z1R:Int}{zbz:(List z8)→Option (List z8)}{z3Y:List z8}{z3Z:Int}{r:List z8}(h:y44 z1A z1R zbz n z3Y z3Z=some r):∃ m,n=m+1:=by
 cases n with
 | zero=>cases h
 | succ m=>exact⟨m,rfl⟩
def y45(z1A:List (List zd))(zbA:(List z8)→Option (List z8)):Nat→(List z8)→Int→Option (List z8)
 | 0,_,_=>none
 | zvL+1,z72,z1R=>if decide (z1R<((z1A.length:Nat):Int)) then jp1 (fun(z9o:List z8)=>y45 z1A zbA zvL z9o (i64 (z1R+1))) fun zvM=>chk ((0:Int)≤z1R∧z1R<((z1A.length:Nat):Int)) (jp1 (fun(z9p:List z8)=>zvM z9p) fun zbz=>y44 z1A z1R zbz yx z72 0) else zbA z72
theorem yb6{n:Nat}{z1A:List (List zd)}{zbA:(List z8)→Option (List z8)}{z72:List z8}{z1R:Int}{r:List z8}(h:y45 z1A zbA n z72 z1R=some r):∃ m,n=m+1:=by
 cases n with
 | zero=>cases h
 | succ m=>exact⟨m,rfl⟩
def y6A(z1A:List (List zd)):Option (List z8):=
 jp1 (fun(za6:List z8)=>(y1D za6 (fun(y0:z8) (y1:z8)=>y1w y0 y1)).bind fun zvN=>some zvN) fun zbA=>y45 z1A zbA yx ([]:List z8) 0
theorem yf5{Z:Zp}{zgc:Option Addr}{zgd:Nat}{z1A:List (List zd)}{r:List z8}(h:y6A z1A=some r)(w₀:World)(hz:PZ [] w₀ Z)(zP6:ZS Z 1 (p58 Z) zgc zgd z1A):
  Calls Tryz.prog 73 #[(.slice zgc z1A.length zgd)] w₀ fun e w'=>∃ zFJ:Option Addr,∃ zFK:Nat,e = .returned (.slice zFJ r.length zFK)∧True∧Hp [] w₀ w' [row (.slice zFJ r.length zFK) 121 2 (r.flatMap yD)]:=by
 unfold y6A at h
 refine L5 Tryz.func73 Tryz.ntmps73 ?_
 refine WC.b<|Ld<|La U<|WL.nil<|Lb<|WC.b<|Ld<|La U<|WL.nil<|Lb ?_
 obtain⟨zbA,zP7,h⟩:=y12 h
 refine Kc (fun(za6:List z8) (zge:Option Addr) (zgf:Nat)=>(zbA za6=some r)) (fun za6 zge zgf=>[(3,(.slice zge za6.length zgf))]) (fun za6 zge zgf=>[row (.slice zge za6.length zgf) 121 2 (za6.flatMap yD)]) ?_ ?_
 ·skip
  let A:Value:=(.slice zgc z1A.length zgd);let C:Value:=(vi ((z1A.length:Nat):Int));refine WC.b (Ld (La U (Le 9 (yI Tryz.underlying32 U) (La U (WL.nil (Lb (WC.block (WC.nilRow 121 2 (WC.y7y (fun(zix:Nat) (z72:List z8) (z1R:Int) (zdO:Option Addr) (zdP:Nat)=>(y45 z1A zbA zix z72 z1R=some r)) (fun zix z72 z1R zdO zdP=>[(3,(.slice zdO z72.length zdP)),(8,A),(9,C),(10,(vi z1R))]) (fun zix z72 z1R zdO zdP=>[row (.slice zdO z72.length zdP) 121 2 (z72.flatMap yD)]) (fun zix z72 z1R zdO zdP=>zix) ⟨yx,([]:List z8),0,none,0⟩ h (.r4 U U U U) (.cons .here .nil) ?_)))))))))
  rintro zix z72 z1R zdO zdP h
  obtain⟨zvL,rfl⟩:=yb6 h
  rw[y45] at h
  refine WC.b<|Ld<|La U<|WL.nil<|Lb<|WC.b<|WC.cond U (fun zvO=>?_)<|fun zvO=>?_
  ·replace h:=yq h zvO
   refine WC.skip<|Lb ?_
   obtain⟨zvM,zP8,h⟩:=y12 h
   refine Kc (fun(z9o:List z8) (ziy:Option Addr) (ziz:Nat)=>(zvM z9o=some r)) (fun z9o ziy ziz=>[(3,(.slice ziy z9o.length ziz)),(8,A),(9,C),(10,(vi z1R))]) (fun z9o ziy ziz=>[row (.slice ziy z9o.length ziz) 121 2 (z9o.flatMap yD)]) ?_ ?_
   ·skip
    refine WC.block<|WC.b ?_
    obtain⟨zP9,h⟩:=yn h
    refine Ld<|L0 (dd:=12) U U (Z:=Z) (Pr:=(p58 Z)) y71 U U zP6 zP9 ?_
    rintro z14M z14N zPa z14O ⟨zFL,zFM,rfl,zPb⟩
    refine Le 13 (yc y7c U<|y3C hz.pv zPa U)<|La U<|WL.nil<|Lb<|WC.b<|Ld<|La U<|Le 15 (yI Tryz.underlying58 U)<|La U<|WL.nil<|Lb ?_
    obtain⟨zbz,zPc,h⟩:=y12 h
    refine WC.mid3 (fun(z9p:List z8) (ziA:Option Addr) (ziB:Nat)=>(zbz z9p=some r)) (fun z9p ziA ziB=>[(3,(.slice ziA z9p.length ziB)),(8,A),(9,C),(10,(vi z1R))]) (fun z9p ziA ziB=>[row (.slice ziA z9p.length ziB) 121 2 (z9p.flatMap yD)]) ?_ ?_
    ·skip
     let D:Value:=(.slice zFL ((nth z1A z1R).length) zFM);let E:=(((nth z1A z1R).length:Nat):Int);refine WC.block (WC.y7y (fun(ziC:Nat) (z3Y:List z8) (z3Z:Int) (zdQ:Option Addr) (zdR:Nat)=>(y44 z1A z1R zbz ziC z3Y z3Z=some r)) (fun ziC z3Y z3Z zdQ zdR=>[(3,(.slice zdQ z3Y.length zdR)),(8,A),(9,C),(10,(vi z1R)),(14,D),(15,(vi E)),(16,(vi z3Z))]) (fun ziC z3Y z3Z zdQ zdR=>[row (.slice zdQ z3Y.length zdR) 121 2 (z3Y.flatMap yD)]) (fun ziC z3Y z3Z zdQ zdR=>ziC) ⟨yx,z72,0,zdO,zdP⟩ h (.r7 U U U U U U U) (.cons .here .nil) ?_)
     rintro ziC z3Y z3Z zdQ zdR h
     obtain⟨zvK,rfl⟩:=yb5 h
     rw[y44] at h
     refine WC.b<|Ld<|La U<|WL.nil<|Lb<|WC.b<|WC.cond U (fun zvP=>?_)<|fun zvP=>?_
     ·replace h:=yq h zvP
      refine WC.skip<|Lb ?_
      obtain⟨zqc,zPd,h⟩:=y12 h
      refine Kc (fun(z9n:List z8) (ziD:Option Addr) (ziE:Nat)=>(zqc z9n=some r)) (fun z9n ziD ziE=>[(3,(.slice ziD z9n.length ziE)),(8,A),(9,C),(10,(vi z1R)),(14,D),(15,(vi E)),(16,(vi z3Z))]) (fun z9n ziD ziE=>[row (.slice ziD z9n.length ziE) 121 2 (z9n.flatMap yD)]) ?_ ?_
      ·skip
       refine WC.block<|WC.b ?_
       obtain⟨zPe,h⟩:=yn h
       refine Ld<|L0 (dd:=18) U U (Z:=Z) (Pr:=(fun r x=>r=e60 x)) y65 U U zPb zPe ?_
       rintro z14P z14Q zPf z14R rfl
       refine Le 19 (yi y4g U (y2l hz.pv zPf) U) (Lg 7 (yv (cs:=[(vi 0),(vi 0),(vi 0)]) y6Q U) fun z14S _=>Lk U U (yl y7d U U U .here U U U)<|WL.nil<|Lb<|WC.b ?_)
       obtain⟨zFH,zPg,h⟩:=za h
       obtain⟨zFI,zPh,h⟩:=za h
       refine Ld<|La U<|Le 21 (yi y4g U (yk .here) U)<|Ll 22 (zb Tryz.call60<|.cons U .nil) .nil (cc hz .nil fun w pz ho=>y69 zPg w pz )<|Ll 23 (zb Tryz.call114<|.r2 U U) .nil (ccl hz .nil (.cons .h1 .nil) fun w pz ho la=>y6H zPh w pz<|ZA.row (la _ (.head _) _) (RR.flat (enc:=yD) (fun _=>U) _) ⟨w,pz.1⟩)<|La U<|WL.nil<|Lb<|WC.cond U (fun zvQ=>?_)<|fun zvQ=>?_
       ·replace h:=yq h zvQ
        obtain⟨zgb,zPi,h⟩:=za h
        obtain⟨zPj,h⟩:=yn h
        refine Ld<|La U<|Le 26 (yi y4g U (yk .here) U)<|Ll 27 (zb Tryz.call60<|.cons U .nil) .nil (cc hz .nil fun w pz ho=>y69 zPi w pz ) (Lg 28 (yM (cs:=([zgb]:List z8).flatMap yD) z7y (Lo (l:=[.tmp 27]) (.cons U .nil) [0]) (fun _=>by kernel_rfl) U (by unfold maxLen;omega)) fun z14T _=>WL.fA 29 (y52 (enc:=yD) (l1:=z3Y) (l2:=([zgb]:List z8)) z7y U U .h2 (fun _=>U) U U (y3t .here) (y5o ybg _) zPj) ?_)
        rintro⟨zPk,zPl⟩ _
        refine La U<|WL.nil<|Lt ?_
        exact Ln ⟨(z3Y++([zgb]:List z8)),zPk,zPl⟩ h (.r7 U U U U U U U)<|.cons .here .nil
       ·replace h:=yr h zvQ
        refine WC.skip<|Lt ?_
        exact Ln ⟨z3Y,zdQ,zdR⟩ h (.r7 U U U U U U U)<|.cons .h1 .nil
      ·rintro z9n ziD ziE h
       replace h:=(zPd z9n).symm.trans h
       refine Ld<|La U<|La U<|WL.nil ?_
       exact WX.round ⟨zvK,z9n,(i64 (z3Z+1)),ziD,ziE⟩ h (Nat.lt_succ_self _) (.r7 U U U U U U U)<|.cons .here .nil
     ·replace h:=yr h zvP
      refine WC.exit<|Lm<|Lm<|Lu ?_
      exact Ln ⟨z3Y,zdQ,zdR⟩ h (.r4 U U U U)<|.cons .here .nil
    ·rintro z9p ziA ziB h
     replace h:=(zPc z9p).symm.trans h
     refine Lt ?_
     exact Ln ⟨z9p,ziA,ziB⟩ h (.r4 U U U U)<|.cons .here .nil
   ·rintro z9o ziy ziz h
    replace h:=(zP8 z9o).symm.trans h
    refine Ld<|La U<|La U<|WL.nil ?_
    exact WX.round ⟨zvL,z9o,(i64 (z1R+1)),ziy,ziz⟩ h (Nat.lt_succ_self _) (.r4 U U U U)<|.cons .here .nil
  ·replace h:=yr h zvO
   refine WC.exit<|Lm<|Lm<|Lu ?_
   exact Ln ⟨z72,zdO,zdP⟩ h (.cons U .nil)<|.cons .here .nil
 ·rintro za6 zge zgf h
  replace h:=(zP7 za6).symm.trans h
  refine WC.b ?_
  obtain⟨zvN,zPm,h⟩:=za h
  refine Ld<|La U<|WL.y5j (dd:=33) U U U (zb Tryz.call115<|.r2 U U) (.cons .here .nil) (cc hz (.cons .here .nil) fun w pz ho=>y6I _ _ _ (ziw:=45) (zqb:=[]) _ (ziv:=(fun(y0:z8) (y1:z8)=>y1w y0 y1)) _ zPm w pz Tryz.call45 (fun w' hz' y0 y1  r  hr=>y8O hr w' hz' ) ho) ?_
  rintro  zPn
  refine Ki (i:=3) U (u:=(.slice zge zvN.length zgf)) (y8n zPn.symm)<|WL.nil<|Lb<|WC.b<|Ld<|La U<|La U<|WL.nil<|Lb<|WC.ret ?_
  obtain rfl:=oJ h
  refine Lh Tryz.results73 (.tmp U .nil)<|fun w hw=>?_
  exact⟨zge,zgf,yC U,trivial,hw.sub (.cons .here .nil)⟩
def y6B(zbB:zd)(zqd:Int):Option Bool:=
 some (decide (zbB.fNext=zqd))
theorem yf6{Z:Zp}{zFN:Addr}{zbB:zd}{zqd:Int}{r:Bool}(h:y6B zbB zqd=some r)(w₀:World)(hz:PZ [] w₀ Z)(zPo:ZC Z zFN [(vi zqd)]):
  Calls Tryz.prog 116 #[(.agg #[(vi zbB.fNode),(vi zbB.fNext),(vi zbB.fQ)]),(vq zFN)] w₀ fun e w'=>e = .returned (.bool r)∧Hp [] w₀ w' []:=by
 unfold y6B at h
 refine Lz Tryz.func116 Tryz.ntmps116 ?_
 refine WC.b<|Ld (Lg 2 (yH (cs:=[(vi zbB.fNode),(vi zbB.fNext),(vi zbB.fQ)]) U U) fun z14U _=>La U<|WL.nil<|Lb<|WC.b<|Ld<|Le 4 (ya y5I U U)<|Le 5 (yc ys U<|yh .here U)<|Le 6 (yc ys U<|y3C hz.pv zPo U)<|La U<|La U<|WL.nil<|Lb<|WC.ret ?_)
 obtain rfl:=oJ h
 refine Lh Tryz.results116 (.tmp U .nil)<|fun w hw=>?_
 exact⟨yC U,hw.sub .nil⟩
def y11(z4l:List zd)(z7B:zd→Option Bool)(zbC:Option Int):Nat→Int→Option Int
 | 0,_=>none
 | zvR+1,z40=>if decide (z40<((z4l.length:Nat):Int)) then chk ((0:Int)≤z40∧z40<((z4l.length:Nat):Int)) ((z7B (⟨((nth z4l z40).fNode),((nth z4l z40).fNext),((nth z4l z40).fQ)⟩:zd)).bind fun zvS=>if zvS then some z40 else y11 z4l z7B zbC zvR (i64 (z40+1))) else zbC
theorem y6n{n:Nat}{z4l:List zd}{z7B:zd→Option Bool}{zbC:Option Int}{z40:Int}{r:Int}(h:y11 z4l z7B zbC n z40=some r):∃ m,n=m+1:=by
 cases n with
 | zero=>cases h
 | succ m=>exact⟨m,rfl⟩
def yZ(z4l:List zd)(z7B:zd→Option Bool):Option Int:=
 jp0 (some (-1)) fun zbC=>y11 z4l z7B zbC yx 0
theorem y2O(Z:Zp)(zvT:Option Addr)(zvU:Nat)(za7:FuncId)(zdS:List Value)(z4l:List zd)(z7B:zd→Option Bool)(r:Int)(h:yZ z4l z7B=some r)(w₀:World)(hz:PZ [] w₀ Z)(zPp:ZS Z 3 (fun r x=>r=e60 x) zvT zvU z4l)(zPq:∀ args w,(callFunc za7 args).run Tryz.prog w = .ok (.enter za7 args) w)(zPr:∀ w:World,PZ [] w Z→∀(x0:zd) (r:Bool),z7B x0=some r→Calls Tryz.prog za7 (([(.agg #[(vi x0.fNode),(vi x0.fNext),(vi x0.fQ)])]:List Value)++zdS).toArray w fun e w'=>e = .returned (.bool r)∧Hp [] w w' []):
  Calls Tryz.prog 94 #[(.slice zvT z4l.length zvU),(.func (.func za7) #[] (zdS).toArray)] w₀ fun e w'=>e = .returned (vi r)∧Hp [] w₀ w' []:=by
 unfold yZ at h
 refine Lz Tryz.func94 Tryz.ntmps94 ?_
 refine WC.b<|Ld<|La U<|WL.nil<|Lb ?_
 obtain⟨zbC,zPs,h⟩:=y1G h
 refine L8 ((zbC=some r)) ([]) ([]) ?_ ?_
 ·skip
  refine WC.b<|Ld<|La U<|Le 7 (yI Tryz.underlying58 U)<|La U<|WL.nil<|Lb<|WC.block<|L9 (fun(ziF:Nat) (z40:Int)=>(y11 z4l z7B zbC ziF z40=some r)) (fun ziF z40=>[(0,(.slice zvT z4l.length zvU)),(1,(.func (.func za7) #[] (zdS).toArray)),(7,(vi ((z4l.length:Nat):Int))),(8,(vi z40))]) (fun ziF z40=>[]) (fun ziF z40=>ziF) ⟨yx,0⟩ h (.r4 U U U U) .nil ?_
  rintro ziF z40 h
  obtain⟨zvR,rfl⟩:=y6n h
  rw[y11] at h
  refine WC.b<|Ld<|La U<|WL.nil<|Lb<|WC.b<|WC.cond U (fun zvV=>?_)<|fun zvV=>?_
  ·replace h:=yq h zvV
   refine WC.skip<|Lb<|WC.b<|WC.block<|WC.b<|Ld<|La U<|La U<|WL.nil<|Lb<|WC.b ?_
   obtain⟨zPt,h⟩:=yn h
   obtain⟨zvS,zPu,h⟩:=za h
   refine Ld<|La U<|La U<|La U<|L0 (dd:=14) U U (Z:=Z) (Pr:=(fun r x=>r=e60 x)) y65 U U zPp zPt ?_
   rintro z14V z14W zPv z14X rfl
   refine Le 15 (yi y4g U (y2l hz.pv zPv) U)<|Ll 16 (y2J (l:=[.tmp 15]) (f:=za7) (caps:=zdS) zPq U<|.cons U .nil) .nil (fun w hw=>zPr w (hz.now hw) (⟨((nth z4l z40).fNode),((nth z4l z40).fNext),((nth z4l z40).fQ)⟩:zd) zvS  zPu)<|WL.nil<|Lb<|WC.cond U (fun zvW=>?_)<|fun zvW=>?_
   ·replace h:=yq h zvW
    refine WC.b<|Ld<|La U<|La U<|WL.nil<|Lb<|WC.ret<|Lq<|Li<|Li<|Lq<|Li ?_
    obtain rfl:=oJ h
    refine Lh Tryz.results94 (.tmp U .nil)<|fun w hw=>?_
    exact⟨yC U,hw.sub .nil⟩
   ·replace h:=yr h zvW
    refine WC.skip<|Lt<|Lb<|Ld<|La U<|La U<|WL.nil ?_
    exact WX.round ⟨zvR,(i64 (z40+1))⟩ h (Nat.lt_succ_self _) (.r4 U U U U) .nil
  ·replace h:=yr h zvV
   refine WC.exit<|Lm<|Lm<|Lu ?_
   exact Ln () h .nil .nil
 ·rintro  h
  replace h:=zPs.symm.trans h
  refine WC.b<|Ld<|La U<|WL.nil<|Lb<|WC.ret ?_
  obtain rfl:=oJ h
  refine Lh Tryz.results94 (.tmp U .nil)<|fun w hw=>?_
  exact⟨yC U,hw.sub .nil⟩
def y5N(zbD:List zd)(ziG:Int):Option (zd×Bool):=
 (yZ zbD (fun(y0:zd)=>y6B y0 ziG)).bind fun zgg=>if decide (zgg<0) then some ((⟨0,0,0⟩:zd),false) else chk ((0:Int)≤zgg∧zgg<((zbD.length:Nat):Int)) (some ((⟨((nth zbD zgg).fNode),((nth zbD zgg).fNext),((nth zbD zgg).fQ)⟩:zd),true))
theorem yat{Z:Zp}{zFO:Option Addr}{zFP:Nat}{zbD:List zd}{ziG:Int}{r:zd×Bool}(h:y5N zbD ziG=some r)(w₀:World)(hz:PZ [] w₀ Z)(zFQ:ZS Z 3 (fun r x=>r=e60 x) zFO zFP zbD):
  Calls Tryz.prog 77 #[(.slice zFO zbD.length zFP),(vi ziG)] w₀ fun e w'=>e = .returned (.tuple #[(.agg #[(vi r.1.fNode),(vi r.1.fNext),(vi r.1.fQ)]),(.bool r.2)])∧Hp [] w₀ w' []:=by
 unfold y5N at h
 refine Lz Tryz.func77 Tryz.ntmps77 ?_
 refine WC.b<|Ld (Lg 3 (yH (cs:=[(vi ziG)]) U U) fun zPw _=>Lg 4 (yv (cs:=[(vi 0),(vi 0),(vi 0)]) y6Q U) fun z14Y _=>La U<|WL.nil<|Lb<|WC.b ?_)
 obtain⟨zgg,zPx,h⟩:=za h
 refine Ld<|La U<|Le 8 (y14<|L2 (l:=[.tmp 3])<|.cons U .nil)<|Ll 9 (zb Tryz.call94<|.r2 U U) .nil (ccl hz .nil (.cons .h1 .nil) fun w pz ho la=>y2O _ _ _ (za7:=116) (zdS:=[(vp zPw)]) _ (z7B:=(fun(y0:zd)=>y6B y0 ziG)) _ zPx w pz (zFQ.mono<|Zle.left _ _) Tryz.call116<|fun w' hz' y0  r  hr=>yf6 hr w' hz'<|(la _ (.head _) _).stb)<|La U<|WL.nil<|Lb<|WC.b<|WC.b<|Ld<|La U<|La U<|WL.nil<|Lb<|WC.cond U (fun zvX=>?_)<|fun zvX=>?_
 ·replace h:=yq h zvX
  refine WC.b<|Ld<|Le 12 (yL (v:=(.agg #[(vi 0),(vi 0),(vi 0)])) (Lo (l:=[]) .nil []) (fun _=>by kernel_rfl))<|Lk U U (yl y7d U U U .here U U U)<|La U<|WL.nil<|Lb<|WC.ret<|Li ?_
  obtain rfl:=oJ h
  refine Lh Tryz.results77 (.agg U y4g U (yk .here)<|.tmp U .nil)<|fun w hw=>?_
  exact⟨y1R U U,hw.sub .nil⟩
 ·replace h:=yr h zvX
  refine WC.skip<|Lb<|WC.b ?_
  obtain⟨zPy,h⟩:=yn h
  refine Ld<|La U<|La U<|L0 (dd:=15) U U (Z:=Z) (Pr:=(fun r x=>r=e60 x)) y65 U U zFQ zPy ?_
  rintro z14Z z150 zPz z151 rfl
  refine Le 16 (yi y4g U (y2l hz.pv zPz) U)<|Lk U U (yl y7d U U U .here U U U)<|La U<|WL.nil<|Lb<|WC.ret ?_
  obtain rfl:=oJ h
  refine Lh Tryz.results77 (.agg U y4g U (yk .here)<|.tmp U .nil)<|fun w hw=>?_
  exact⟨y1R U U,hw.sub .nil⟩
def y5B(z3c:zd)(zgh:List zd)(z4C:z8)(zdT:List (z8×Int)):Option Bool:=
 (y5N zgh z3c.fNode).bind fun z21=>(y4Q z3c).bind fun z6f=>(if (decide (z6f=z4C))&&z21.2 then(y4Q z21.1).bind fun zvY=>some (decide ((yg zdT zvY 0)=0)) else some false).bind fun zvZ=>some zvZ
theorem ydu{Z:Zp}{zqe:Addr}{zqf:Option Addr}{zqg:Nat}{zqh:Addr}{zqi:Addr}{ziH:Nat}{z3c:zd}{zgh:List zd}{z4C:z8}{zdT:List (z8×Int)}{r:Bool}(h:y5B z3c zgh z4C zdT=some r)(w₀:World)(hz:PZ (fps [yp ziH (fun x=>Value.agg (yD x).toArray) (Value.int .i64) zdT]) w₀ Z)(zPA:ZS Z 3 (fun r x=>r=e60 x) zqf zqg zgh)(zPB:ZC Z zqe [(.slice zqf zgh.length zqg)])(zPC:ZC Z zqh [(vi z4C.fNode),(vi z4C.fQ)])(zPD:ZC Z zqi [(.map (some ziH))])(hown:Hp (fps [yp ziH (fun x=>Value.agg (yD x).toArray) (Value.int .i64) zdT]) w₀ w₀ [yp ziH (fun x=>Value.agg (yD x).toArray) (Value.int .i64) zdT]):
  Calls Tryz.prog 76 #[(.agg #[(vi z3c.fNode),(vi z3c.fNext),(vi z3c.fQ)]),(vq zqe),(vq zqh),(vq zqi)] w₀ fun e w'=>e = .returned (.bool r)∧Hp (fps [yp ziH (fun x=>Value.agg (yD x).toArray) (Value.int .i64) zdT]) w₀ w' [yp ziH (fun x=>Value.agg (yD x).toArray) (Value.int .i64) zdT]:=by
 unfold y5B at h
 refine Calls.oh4 Tryz.func76 Tryz.ntmps76 hown ?_
 refine WC.b<|Ld (Lg 4 (yH (cs:=[(vi z3c.fNode),(vi z3c.fNext),(vi z3c.fQ)]) U U) fun zqj _=>La U<|WL.nil<|Lb<|WC.b ?_)
 obtain⟨z21,zPE,h⟩:=za h
 refine Ld<|Le 9 (yc y7c U<|y3C hz.pv zPB U)<|Le 10 (ya y4h U U)<|Le 11 (yc ys U<|yh .here U)<|Ll 12 (zb Tryz.call77<|.r2 U U) .nil (cc hz .nil fun w pz ho=>yat zPE w pz zPA)<|La U<|La U<|La U (Lg 6 (yv (cs:=[(vi 0),(vi 0),(vi 0)]) y6Q U) fun zFR _=>Lk U U (yl y7d U U U .here U U U)<|La U<|WL.nil<|Lb<|WC.b ?_)
 obtain⟨z6f,zPF,h⟩:=za h
 obtain⟨zvZ,zFS,h⟩:=za h
 let A:Value:=(.agg #[(vi z21.1.fNode),(vi z21.1.fNext),(vi z21.1.fQ)]);let C:Value:=(.agg #[(vi z3c.fNode),(vi z3c.fNext),(vi z3c.fQ)]);let D:Value:=(.bool (decide (z6f=z4C)));let E:Value:=(.bool ((decide (z6f=z4C))&&z21.2));let F:Value:=(.agg #[(vi z6f.fNode),(vi z6f.fQ)]);let G:Value:=(.agg #[(vi z4C.fNode),(vi z4C.fQ)]);let H:Value:=(.slice zqf zgh.length zqg);refine Lx (fun i=>[].contains i) [] U (Lj 0 15 U (yi y4g U (yk .h1) U) (L4 1 16 U (zb Tryz.call60 (.cons U .nil)) (cc hz .nil fun w pz ho=>y69 zPF w pz ) (Lj 2 17 U (yi z5v U (y2l hz.pv zPC) U) (Lf 3 18 U (fun _=>y96 (enc:=yD) (a:=z6f) (b:=z4C) zpD U U) (Lf 4 19 U (fun _=>q_m U) (Kg (fuel':=8) [(0,C),(1,(vq zqe)),(2,(vq zqh)),(3,(vq zqi)),(4,(vp zqj)),(5,(.bool false)),(9,H),(10,(vp zqj)),(11,(vi z3c.fNode)),(12,(.tuple #[A,(.bool z21.2)])),(8,(.tuple #[A,(.bool z21.2)])),(13,A),(14,(.bool z21.2)),(6,(vp zFR)),(7,(.bool z21.2)),(15,C),(16,F),(17,G),(18,D),(19,D),(21,E)] (y2d 15 [6,5,4,3,2,1,0]) ?_ (fun zFT=>?_)))))))
 rotate_left
 ·rcases Bool.eq_false_or_eq_true (decide (z6f=z4C)) with hb' | hb'
  ·have zw0:=hb';clear hb'
   refine L3 (i:=19) U zw0<|Lf 5 20 U (fun _=>q_m U)<|Lf 6 21 U (fun _=>y4w U U)<|Ly (.a3) ?_ zFT
   exact .r21 U U U U U U U U U U U U U U U U U U U (zO<|Eq.symm zw0)<|zO<|y3v zw0
  ·have zw1:=hb';clear hb'
   refine L3 (i:=19) U zw1<|Lp 5 20 U<|Lf 6 21 U (fun _=>y4x U U)<|Ly (.a3) ?_ zFT
   exact .r21 U U U U U U U U U U U U U U U U U U U (zO<|Eq.symm zw1)<|zO<|y3u zw1
 refine Lf 7 22 U (fun _=>q_m U)<|Kg (fuel':=1) [(0,C),(1,(vq zqe)),(2,(vq zqh)),(3,(vq zqi)),(4,(vp zqj)),(5,(.bool false)),(9,H),(10,(vp zqj)),(11,(vi z3c.fNode)),(12,(.tuple #[A,(.bool z21.2)])),(8,(.tuple #[A,(.bool z21.2)])),(13,A),(14,(.bool z21.2)),(6,(vp zFR)),(7,(.bool z21.2)),(15,C),(16,F),(17,G),(18,D),(19,D),(21,E),(22,E),(28,(.bool zvZ))] (y2d 15 [13,12,11,10,9,8,7,6,5,4,3,2,1,0]) ?_<|fun zFU=>?_
 rotate_left
 ·rcases Bool.eq_false_or_eq_true ((decide (z6f=z4C))&&z21.2) with hb' | hb'
  ·have zw2:=hb';clear hb'
   have zmF:=yq zFS zw2
   obtain⟨zvY,zPG,zmF⟩:=za zmF
   replace zmF:=oJ zmF
   refine L3 (i:=22) U zw2<|Lj 8 23 U (yc zm8 U<|y3C hz.pv zPD U)<|Lj 9 24 U (yi y4g U (yk .here) U)<|L4 10 25 U (zb Tryz.call60<|.cons U .nil) (cc hz .nil fun w pz ho=>y69 zPG w pz )<|Lj 11 26 U (y2S (k:=zvY) (dflt:=(0:Int)) zdH Tryz.underlying117 y2H U U U .h2)<|Lf 12 27 U (fun _=>ybz U U)<|Lf 13 28 U (fun _=>y4w U U)<|Ly (.a3) ?_ zFU
   exact .r23 U U U U U U U U U U U U U U U U U U U U U (zO<|Eq.symm zw2)<|zO zmF
  ·have zw3:=hb';clear hb'
   have zw4:=yr zFS zw3
   replace zw4:=oJ zw4
   refine L3 (i:=22) U zw3<|Lp 8 23 U<|Lp 9 24 U<|Lp 10 25 U<|Lp 11 26 U<|Lp 12 27 U<|Lf 13 28 U (fun _=>y4x U U)<|Ly (.a3) ?_ zFU
   exact .r23 U U U U U U U U U U U U U U U U U U U U U (zO<|Eq.symm zw3)<|zO zw4
 refine Lf 14 5 U (fun _=>q_z U)<|WD.done (by kernel_rfl)<|Lb<|WC.ret ?_
 obtain rfl:=oJ h
 refine Lh Tryz.results76 (.tmp U .nil)<|fun w hw=>?_
 exact⟨yC U,hw.sub (.cons .h2 .nil)⟩
def y10(z5B:List zd)(z9q:List zd)(z9r:z8)(z6g:List (z8×Int))(zbE:Option Int):Nat→Int→Option Int
 | 0,_=>none
 | zw5+1,z52=>if decide (z52<((z5B.length:Nat):Int)) then chk ((0:Int)≤z52∧z52<((z5B.length:Nat):Int)) ((y5B (⟨((nth z5B z52).fNode),((nth z5B z52).fNext),((nth z5B z52).fQ)⟩:zd) z9q z9r z6g).bind fun zFV=>if zFV then some z52 else y10 z5B z9q z9r z6g zbE zw5 (i64 (z52+1))) else zbE
theorem y6b{n:Nat}{z5B:List zd}{z9q:List zd}{z9r:z8}{z6g:List (z8×Int)}{zbE:Option Int}{z52:Int}{r:Int}(h:y10 z5B z9q z9r z6g zbE n z52=some r):∃ m,n=m+1:=by
 cases n with
 | zero=>cases h
 | succ m=>exact⟨m,rfl⟩
def y2A(z5B:List zd)(z9q:List zd)(z9r:z8)(z6g:List (z8×Int)):Option Int:=
 jp0 (some (-1)) fun zbE=>y10 z5B z9q z9r z6g zbE yx 0
theorem y7p{Z:Zp}{zw6:Option Addr}{zw7:Nat}{zw8:Addr}{zFW:Option Addr}{zFX:Nat}{zw9:Addr}{zwa:Addr}{zdU:Nat}{z5B:List zd}{z9q:List zd}{z9r:z8}{z6g:List (z8×Int)}{r:Int}(h:y2A z5B z9q z9r z6g=some r)(w₀:World)(hz:PZ (fps [yp zdU (fun x=>Value.agg (yD x).toArray) (Value.int .i64) z6g]) w₀ Z)(zPH:ZS Z 3 (fun r x=>r=e60 x) zw6 zw7 z5B)(zPI:ZS Z 3 (fun r x=>r=e60 x) zFW zFX z9q)(zPJ:ZC Z zw8 [(.slice zFW z9q.length zFX)])(zPK:ZC Z zw9 [(vi z9r.fNode),(vi z9r.fQ)])(zPL:ZC Z zwa [(.map (some zdU))])(hown:Hp (fps [yp zdU (fun x=>Value.agg (yD x).toArray) (Value.int .i64) z6g]) w₀ w₀ [yp zdU (fun x=>Value.agg (yD x).toArray) (Value.int .i64) z6g]):
  Calls Tryz.prog 94 #[(.slice zw6 z5B.length zw7),(.func (.func 76) #[] #[(vq zw8),(vq zw9),(vq zwa)])] w₀ fun e w'=>e = .returned (vi r)∧Hp (fps [yp zdU (fun x=>Value.agg (yD x).toArray) (Value.int .i64) z6g]) w₀ w' [yp zdU (fun x=>Value.agg (yD x).toArray) (Value.int .i64) z6g]:=by
 unfold y2A at h
 refine Kh Tryz.func94 Tryz.ntmps94 hown ?_
 refine WC.b<|Ld<|La U<|WL.nil<|Lb ?_
 obtain⟨zbE,zPM,h⟩:=y1G h
 refine L8 ((zbE=some r)) ([]) ([yp zdU (fun x=>Value.agg (yD x).toArray) (Value.int .i64) z6g]) ?_ ?_
 ·skip
  refine WC.b<|Ld<|La U<|Le 7 (yI Tryz.underlying58 U)<|La U<|WL.nil<|Lb<|WC.block<|L9 (fun(ziI:Nat) (z52:Int)=>(y10 z5B z9q z9r z6g zbE ziI z52=some r)) (fun ziI z52=>[(0,(.slice zw6 z5B.length zw7)),(1,(.func (.func 76) #[] #[(vq zw8),(vq zw9),(vq zwa)])),(7,(vi ((z5B.length:Nat):Int))),(8,(vi z52))]) (fun ziI z52=>[yp zdU (fun x=>Value.agg (yD x).toArray) (Value.int .i64) z6g]) (fun ziI z52=>ziI) ⟨yx,0⟩ h (.r4 U U U U) (.cons .here .nil) ?_
  rintro ziI z52 h
  obtain⟨zw5,rfl⟩:=y6b h
  rw[y10] at h
  refine WC.b<|Ld<|La U<|WL.nil<|Lb<|WC.b<|WC.cond U (fun zwb=>?_)<|fun zwb=>?_
  ·replace h:=yq h zwb
   refine WC.skip<|Lb<|WC.b<|WC.block<|WC.b<|Ld<|La U<|La U<|WL.nil<|Lb<|WC.b ?_
   obtain⟨zPN,h⟩:=yn h
   obtain⟨zFV,zPO,h⟩:=za h
   refine Ld<|La U<|La U<|La U<|L0 (dd:=14) U U (Z:=Z) (Pr:=(fun r x=>r=e60 x)) y65 U U zPH zPN ?_
   rintro z152 z153 zPP z154 rfl
   refine Le 15 (yi y4g U (y2l hz.pv zPP) U)<|Ll 16 (y2J (l:=[.tmp 15]) Tryz.call76 U<|.cons U .nil) (.cons .here .nil) (cc hz (.cons .here .nil) fun w pz ho=>ydu zPO w pz zPI zPJ zPK zPL ho)<|WL.nil<|Lb<|WC.cond U (fun zwc=>?_)<|fun zwc=>?_
   ·replace h:=yq h zwc
    refine WC.b<|Ld<|La U<|La U<|WL.nil<|Lb<|WC.ret<|Lq<|Li<|Li<|Lq<|Li ?_
    obtain rfl:=oJ h
    refine Lh Tryz.results94 (.tmp U .nil)<|fun w hw=>?_
    exact⟨yC U,hw.sub (.cons .here .nil)⟩
   ·replace h:=yr h zwc
    refine WC.skip<|Lt<|Lb<|Ld<|La U<|La U<|WL.nil ?_
    exact WX.round ⟨zw5,(i64 (z52+1))⟩ h (Nat.lt_succ_self _) (.r4 U U U U)<|.cons .here .nil
  ·replace h:=yr h zwb
   refine WC.exit<|Lm<|Lm<|Lu ?_
   exact Ln () h .nil<|.cons .here .nil
 ·rintro  h
  replace h:=zPM.symm.trans h
  refine WC.b<|Ld<|La U<|WL.nil<|Lb<|WC.ret ?_
  obtain rfl:=oJ h
  refine Lh Tryz.results94 (.tmp U .nil)<|fun w hw=>?_
  exact⟨yC U,hw.sub (.cons .here .nil)⟩
def y2m(zmG:List zd)(zmH:List zd)(zmI:z8)(zdV:List (z8×Int)):Option Bool:=
 (y2A zmG zmH zmI zdV).bind fun zFY=>some (decide (zFY≥0))
theorem y73{Z:Zp}{zFZ:Option Addr}{zG0:Nat}{zG1:Addr}{zG2:Option Addr}{zG3:Nat}{zG4:Addr}{zG5:Addr}{ziJ:Nat}{zmG:List zd}{zmH:List zd}{zmI:z8}{zdV:List (z8×Int)}{r:Bool}(h:y2m zmG zmH zmI zdV=some r)(w₀:World)(hz:PZ (fps [yp ziJ (fun x=>Value.agg (yD x).toArray) (Value.int .i64) zdV]) w₀ Z)(zPQ:ZS Z 3 (fun r x=>r=e60 x) zFZ zG0 zmG)(zPR:ZS Z 3 (fun r x=>r=e60 x) zG2 zG3 zmH)(zPS:ZC Z zG1 [(.slice zG2 zmH.length zG3)])(zPT:ZC Z zG4 [(vi zmI.fNode),(vi zmI.fQ)])(zPU:ZC Z zG5 [(.map (some ziJ))])(hown:Hp (fps [yp ziJ (fun x=>Value.agg (yD x).toArray) (Value.int .i64) zdV]) w₀ w₀ [yp ziJ (fun x=>Value.agg (yD x).toArray) (Value.int .i64) zdV]):
  Calls Tryz.prog 75 #[(.slice zFZ zmG.length zG0),(.func (.func 76) #[] #[(vq zG1),(vq zG4),(vq zG5)])] w₀ fun e w'=>e = .returned (.bool r)∧Hp (fps [yp ziJ (fun x=>Value.agg (yD x).toArray) (Value.int .i64) zdV]) w₀ w' [yp ziJ (fun x=>Value.agg (yD x).toArray) (Value.int .i64) zdV]:=by
 unfold y2m at h
 refine Kh Tryz.func75 Tryz.ntmps75 hown ?_
 refine WC.b<|Ld<|La U<|WL.nil<|Lb<|WC.b ?_
 obtain⟨zFY,zPV,h⟩:=za h
 refine Ld<|La U<|La U<|Ll 7 (zb Tryz.call94<|.r2 U U) (.cons .here .nil) (cc hz (.cons .here .nil) fun w pz ho=>y7p zPV w pz zPQ zPR zPS zPT zPU ho)<|La U<|La U<|WL.nil<|Lb<|WC.ret ?_
 obtain rfl:=oJ h
 refine Lh Tryz.results75 (.tmp U .nil)<|fun w hw=>?_
 exact⟨yC U,hw.sub (.cons .here .nil)⟩
def y6c(zgi:List zd)(zmJ:z8)(zdW:List (z8×Int)):Option Bool:=
 (y2m zgi zgi zmJ zdW).bind fun zG6=>some zG6
theorem yer{Z:Zp}{zwd:Option Addr}{zwe:Nat}{zG7:Addr}{zG8:Addr}{ziK:Nat}{zgi:List zd}{zmJ:z8}{zdW:List (z8×Int)}{r:Bool}(h:y6c zgi zmJ zdW=some r)(w₀:World)(hz:PZ (fps [yp ziK (fun x=>Value.agg (yD x).toArray) (Value.int .i64) zdW]) w₀ Z)(zG9:ZS Z 3 (fun r x=>r=e60 x) zwd zwe zgi)(zPW:ZC Z zG7 [(vi zmJ.fNode),(vi zmJ.fQ)])(zPX:ZC Z zG8 [(.map (some ziK))])(hown:Hp (fps [yp ziK (fun x=>Value.agg (yD x).toArray) (Value.int .i64) zdW]) w₀ w₀ [yp ziK (fun x=>Value.agg (yD x).toArray) (Value.int .i64) zdW]):
  Calls Tryz.prog 74 #[(.slice zwd zgi.length zwe),(vq zG7),(vq zG8)] w₀ fun e w'=>e = .returned (.bool r)∧Hp (fps [yp ziK (fun x=>Value.agg (yD x).toArray) (Value.int .i64) zdW]) w₀ w' [yp ziK (fun x=>Value.agg (yD x).toArray) (Value.int .i64) zdW]:=by
 unfold y6c at h
 refine Calls.oh3 Tryz.func74 Tryz.ntmps74 hown ?_
 refine WC.b<|Ld (Lg 3 (yH (cs:=[(.slice zwd zgi.length zwe)]) U U) fun z155 _=>La U<|WL.nil<|Lb<|WC.b ?_)
 obtain⟨zG6,zPY,h⟩:=za h
 refine Ld<|Le 5 (yc y7c U<|yh .here U)<|Le 6 (y14<|L2 (l:=[.tmp 3,.tmp 1,.tmp 2])<|.r3 U U U)<|Ll 7 (zb Tryz.call75<|.r2 U U) (.cons .h1 .nil) (ccl hz (.cons .h1 .nil) (.cons .here .nil) fun w pz ho la=>y73 zPY w pz (zG9.mono<|Zle.left _ _) (zG9.mono<|Zle.left _ _) ((la _ (.head _) _).stb) (zPW.mono<|Zle.left _ _) (zPX.mono<|Zle.left _ _) ho)<|La U<|WL.nil<|Lb<|WC.ret ?_
 obtain rfl:=oJ h
 refine Lh Tryz.results74 (.tmp U .nil)<|fun w hw=>?_
 exact⟨yC U,hw.sub (.cons .here .nil)⟩
def yW(z73:List (List zd))(z9s:z8)(z6h:List (z8×Int))(zbF:Option Int):Nat→Int→Option Int
 | 0,_=>none
 | zwf+1,z6i=>if decide (z6i<((z73.length:Nat):Int)) then chk ((0:Int)≤z6i∧z6i<((z73.length:Nat):Int)) ((y6c (nth z73 z6i) z9s z6h).bind fun zGa=>if zGa then some z6i else yW z73 z9s z6h zbF zwf (i64 (z6i+1))) else zbF
theorem y5R{n:Nat}{z73:List (List zd)}{z9s:z8}{z6h:List (z8×Int)}{zbF:Option Int}{z6i:Int}{r:Int}(h:yW z73 z9s z6h zbF n z6i=some r):∃ m,n=m+1:=by
 cases n with
 | zero=>cases h
 | succ m=>exact⟨m,rfl⟩
def y2n(z73:List (List zd))(z9s:z8)(z6h:List (z8×Int)):Option Int:=
 jp0 (some (-1)) fun zbF=>yW z73 z9s z6h zbF yx 0
theorem y74{Z:Zp}{zwg:Option Addr}{zwh:Nat}{zwi:Addr}{zwj:Addr}{zdX:Nat}{z73:List (List zd)}{z9s:z8}{z6h:List (z8×Int)}{r:Int}(h:y2n z73 z9s z6h=some r)(w₀:World)(hz:PZ (fps [yp zdX (fun x=>Value.agg (yD x).toArray) (Value.int .i64) z6h]) w₀ Z)(zPZ:ZS Z 1 (p58 Z) zwg zwh z73)(zQ0:ZC Z zwi [(vi z9s.fNode),(vi z9s.fQ)])(zQ1:ZC Z zwj [(.map (some zdX))])(hown:Hp (fps [yp zdX (fun x=>Value.agg (yD x).toArray) (Value.int .i64) z6h]) w₀ w₀ [yp zdX (fun x=>Value.agg (yD x).toArray) (Value.int .i64) z6h]):
  Calls Tryz.prog 92 #[(.slice zwg z73.length zwh),(.func (.func 74) #[] #[(vq zwi),(vq zwj)])] w₀ fun e w'=>e = .returned (vi r)∧Hp (fps [yp zdX (fun x=>Value.agg (yD x).toArray) (Value.int .i64) z6h]) w₀ w' [yp zdX (fun x=>Value.agg (yD x).toArray) (Value.int .i64) z6h]:=by
 unfold y2n at h
 refine Kh Tryz.func92 Tryz.ntmps92 hown ?_
 refine WC.b<|Ld<|La U<|WL.nil<|Lb ?_
 obtain⟨zbF,zQ2,h⟩:=y1G h
 refine L8 ((zbF=some r)) ([]) ([yp zdX (fun x=>Value.agg (yD x).toArray) (Value.int .i64) z6h]) ?_ ?_
 ·skip
  refine WC.b<|Ld<|La U<|Le 7 (yI Tryz.underlying32 U)<|La U<|WL.nil<|Lb<|WC.block<|L9 (fun(ziL:Nat) (z6i:Int)=>(yW z73 z9s z6h zbF ziL z6i=some r)) (fun ziL z6i=>[(0,(.slice zwg z73.length zwh)),(1,(.func (.func 74) #[] #[(vq zwi),(vq zwj)])),(7,(vi ((z73.length:Nat):Int))),(8,(vi z6i))]) (fun ziL z6i=>[yp zdX (fun x=>Value.agg (yD x).toArray) (Value.int .i64) z6h]) (fun ziL z6i=>ziL) ⟨yx,0⟩ h (.r4 U U U U) (.cons .here .nil) ?_
  rintro ziL z6i h
  obtain⟨zwf,rfl⟩:=y5R h
  rw[yW] at h
  refine WC.b<|Ld<|La U<|WL.nil<|Lb<|WC.b<|WC.cond U (fun zwk=>?_)<|fun zwk=>?_
  ·replace h:=yq h zwk
   refine WC.skip<|Lb<|WC.b<|WC.block<|WC.b<|Ld<|La U<|La U<|WL.nil<|Lb<|WC.b ?_
   obtain⟨zQ3,h⟩:=yn h
   obtain⟨zGa,zQ4,h⟩:=za h
   refine Ld<|La U<|La U<|La U<|L0 (dd:=14) U U (Z:=Z) (Pr:=(p58 Z)) y71 U U zPZ zQ3 ?_
   rintro z156 z157 zQ5 z158 ⟨z159,z15a,rfl,zQ6⟩
   refine Le 15 (yc y7c U<|y3C hz.pv zQ5 U)<|Ll 16 (y2J (l:=[.tmp 15]) Tryz.call74 U<|.cons U .nil) (.cons .here .nil) (cc hz (.cons .here .nil) fun w pz ho=>yer zQ4 w pz zQ6 zQ0 zQ1 ho)<|WL.nil<|Lb<|WC.cond U (fun zwl=>?_)<|fun zwl=>?_
   ·replace h:=yq h zwl
    refine WC.b<|Ld<|La U<|La U<|WL.nil<|Lb<|WC.ret<|Lq<|Li<|Li<|Lq<|Li ?_
    obtain rfl:=oJ h
    refine Lh Tryz.results92 (.tmp U .nil)<|fun w hw=>?_
    exact⟨yC U,hw.sub (.cons .here .nil)⟩
   ·replace h:=yr h zwl
    refine WC.skip<|Lt<|Lb<|Ld<|La U<|La U<|WL.nil ?_
    exact WX.round ⟨zwf,(i64 (z6i+1))⟩ h (Nat.lt_succ_self _) (.r4 U U U U)<|.cons .here .nil
  ·replace h:=yr h zwk
   refine WC.exit<|Lm<|Lm<|Lu ?_
   exact Ln () h .nil<|.cons .here .nil
 ·rintro  h
  replace h:=zQ2.symm.trans h
  refine WC.b<|Ld<|La U<|WL.nil<|Lb<|WC.ret ?_
  obtain rfl:=oJ h
  refine Lh Tryz.results92 (.tmp U .nil)<|fun w hw=>?_
  exact⟨yC U,hw.sub (.cons .here .nil)⟩
def y1z(zmK:List (List zd))(zmL:z8)(zdY:List (z8×Int)):Option Bool:=
 (y2n zmK zmL zdY).bind fun zGb=>some (decide (zGb≥0))
theorem y6C{Z:Zp}{zGc:Option Addr}{zGd:Nat}{zGe:Addr}{zGf:Addr}{ziM:Nat}{zmK:List (List zd)}{zmL:z8}{zdY:List (z8×Int)}{r:Bool}(h:y1z zmK zmL zdY=some r)(w₀:World)(hz:PZ (fps [yp ziM (fun x=>Value.agg (yD x).toArray) (Value.int .i64) zdY]) w₀ Z)(zQ7:ZS Z 1 (p58 Z) zGc zGd zmK)(zQ8:ZC Z zGe [(vi zmL.fNode),(vi zmL.fQ)])(zQ9:ZC Z zGf [(.map (some ziM))])(hown:Hp (fps [yp ziM (fun x=>Value.agg (yD x).toArray) (Value.int .i64) zdY]) w₀ w₀ [yp ziM (fun x=>Value.agg (yD x).toArray) (Value.int .i64) zdY]):
  Calls Tryz.prog 50 #[(.slice zGc zmK.length zGd),(.func (.func 74) #[] #[(vq zGe),(vq zGf)])] w₀ fun e w'=>e = .returned (.bool r)∧Hp (fps [yp ziM (fun x=>Value.agg (yD x).toArray) (Value.int .i64) zdY]) w₀ w' [yp ziM (fun x=>Value.agg (yD x).toArray) (Value.int .i64) zdY]:=by
 unfold y1z at h
 refine Kh Tryz.func50 Tryz.ntmps50 hown ?_
 refine WC.b<|Ld<|La U<|WL.nil<|Lb<|WC.b ?_
 obtain⟨zGb,zQa,h⟩:=za h
 refine Ld<|La U<|La U<|Ll 7 (zb Tryz.call92<|.r2 U U) (.cons .here .nil) (cc hz (.cons .here .nil) fun w pz ho=>y74 zQa w pz zQ7 zQ8 zQ9 ho)<|La U<|La U<|WL.nil<|Lb<|WC.ret ?_
 obtain rfl:=oJ h
 refine Lh Tryz.results50 (.tmp U .nil)<|fun w hw=>?_
 exact⟨yC U,hw.sub (.cons .here .nil)⟩
def y8Q(l:List z8)(i j:Int):Option (List z8):=chk (((0:Int)≤i∧i≤j∧j≤l.length)∧l.length*16≤140737488355328) (some (l.take i.toNat++l.drop j.toNat))
theorem yes(Z:Zp)(ao:Option Addr)(cap:Nat)(l:List z8)(i j:Int)(r:List z8)(w₀:World)(hz:PZ (fps [row (.slice ao l.length cap) 121 2 (l.flatMap yD)]) w₀ Z)(h:y8Q l i j=some r)(hown:Hp (fps [row (.slice ao l.length cap) 121 2 (l.flatMap yD)]) w₀ w₀ [row (.slice ao l.length cap) 121 2 (l.flatMap yD)]):
  Calls Tryz.prog 78 #[.slice ao l.length cap,.int .i64 i,.int .i64 j] w₀ fun e w'=>∃ aor:Option Addr,∃ capr:Nat,e = .returned (.slice aor r.length capr)∧True∧Hp (fps [row (.slice ao l.length cap) 121 2 (l.flatMap yD)]) w₀ w' [row (.slice aor r.length capr) 121 2 (r.flatMap yD)]:=by
 obtain⟨⟨c1,c2⟩,h⟩:=yn h
 obtain rfl:=oJ h
 clear h
 refine Calls.oh3 Tryz.func78 Tryz.ntmps78 hown ?_
 refine WC.b<|Ld<|La U<|WL.nil<|Lb<|WC.b<|Ld<|La U<|La U<|La U<|La U<|Le 12 (yI Tryz.underlying112 U) (Kd (fun w h=>h.rowShape .here) fun hs=>?_)
 obtain⟨hs1,hs2,hs3,_⟩:=hs
 refine Le 13 (q_slice3 z7y U U U U (by omega) (by omega) (by omega) (by omega))<|WL.nil<|Lb<|WC.b<|WC.b<|Ld<|La U<|La U<|La U<|WL.nil<|Lb<|WC.cond U (fun hb=>?_)<|fun hb=>?_
 ·have e:i=j:=by simpa using hb
  refine WC.b<|Ld<|La U<|La U<|WL.nil<|Lb<|WC.ret<|Li<|Lh Tryz.results78 (.tmp U .nil)<|fun w hw=>?_
  have e2:l.take i.toNat++l.drop j.toNat=l:=by subst e;exact List.take_append_drop _ _
  rw[e2];exact⟨ao,cap,yC U,trivial,hw.sub (.cons .here .nil)⟩
 ·have hne:i<j:=by
   have:i≠j:=by simpa using hb
   omega
  clear hb
  refine WC.skip<|Lb<|WC.b<|Ld<|La U<|Le 19 (yI Tryz.underlying112 U)<|La U<|WL.nil<|Lb<|WC.b<|WC.know (fun w hw=>Hp.y1T .here hw (by omega)) ?_
  rintro⟨b,rfl⟩
  have hlen:(l.take i.toNat++l.drop j.toNat).length=i.toNat+(l.length-j.toNat):=by rw[List.length_append,List.length_take,List.length_drop];omega
  refine Lx (fun i=>[6].contains i) [] U<|Lf 0 20 U (fun _=>q_m U)<|Lf 1 21 U (fun _=>q_m U)<|Lf 2 22 U (fun _=>y7P (lo:=0) (hi:=i.toNat) (lv:=none) (hv:=some (vi i)) z7y U (fun _ _ _=>U) (fun a w h=>by rw[Option.map_some,h.eval U]) U (by show i=_;omega) (by omega) (by omega) (by simp))<|WD.repin (i:=22) U (u:=.slice (some ⟨b,0,none⟩) i.toNat cap) (by split <;> simp[Addr.add])<|Lf 3 23 U (fun _=>q_m U)<|Lf 4 24 U (fun _=>q_m U)<|Lf 5 25 U (fun _=>y7P (lo:=j.toNat) (hi:=l.length) (lv:=some (vi j)) (hv:=none) z7y U (fun a w h=>by rw[Option.map_some,h.eval U]) (fun _ _ _=>U) (by show j=_;omega) U (by omega) (by omega)<|fun _=>hs2) (WD.old (i:=6) (dd:=26) U (by kernel_rfl) U U U U (fun _=>Sin.of .nil) (yi3 (i:=i.toNat) (j:=j.toNat) (m:=l.length) (cs:=l.flatMap yD) z7y U U (fun hk=>if_neg (by omega)) .here (by omega) (by omega) (y5o ybg _) (by omega)) fun tl _=>Lf 7 0 U (fun _=>q_z U)<|WD.done (by kernel_rfl)<|Lb<|WC.b<|Ld<|La U<|La U<|Le 29 (yI Tryz.underlying112 U)<|La U<|Le 31 (y7P (lo:=i.toNat+(l.length-j.toNat)) (hi:=l.length) (lv:=some (vi ((i.toNat+(l.length-j.toNat):Nat):Int))) (hv:=some (vi ((l.length:Nat):Int))) z7y U (fun a w h=>by rw[Option.map_some,h.eval U]) (fun a w h=>by rw[Option.map_some,h.eval U]) U U (by omega) (by omega) (by simp))<|Lk U U (ydA (i:=i.toNat+(l.length-j.toNat)) z7y zm7 U U (by omega) (yhn (enc:=yD) (sz:=2) (z0:=((⟨0,0⟩:z8):z8)) (fun _=>U) (by decide) U ybg) .here U)<|WL.nil<|Lb<|WC.b<|Ld<|La U<|La U<|WL.nil<|Lb<|WC.ret<|Lh Tryz.results78 (.tmp U .nil)<|fun w hw=>?_)
  rw[hlen]
  refine⟨some ⟨b,0,none⟩,cap,yC U,trivial,?_⟩
  have h5:=Hp.rowShort (m:=l.length) (i:=i.toNat+(l.length-j.toNat)) (R:=[]) .here (by omega) hw
  have e1:(l.flatMap yD).take (i.toNat*2)=(l.take i.toNat).flatMap yD:=yaV (enc:=yD) (sz:=2) (fun _=>U) l i.toNat (by omega)
  have e2:(l.flatMap yD).drop (j.toNat*2)=(l.drop j.toNat).flatMap yD:=ycv (enc:=yD) (sz:=2) (fun _=>U) l j.toNat (by omega)
  have e3:((l.take i.toNat++l.drop j.toNat).flatMap yD).length=(i.toNat+(l.length-j.toNat))*2:=by rw[y7z (sz:=2) (fun _=>U),hlen]
  rw[e1,e2,← List.flatMap_append,← e3,List.take_left,List.take_left] at h5
  exact h5.sub<|.cons .here .nil
def y3M(zK:List z8)(z41:List (List zd))(z3r:List (z8×Int))(z2z:List z8)(zbG:(List z8)→(List z8)→(List (z8×Int))→Option (List z8×Int))(zbH:Option (List z8×Int)):Nat→Int→Option (List z8×Int)
 | 0,_=>none
 | zwm+1,zY=>if decide (zY<((zK.length:Nat):Int)) then chk ((0:Int)≤zY∧zY<((zK.length:Nat):Int)) ((y1z z41 (⟨((nth zK zY).fNode),((nth zK zY).fQ)⟩:z8) z3r).bind fun zGg=>if !zGg then chk ((((z2z++([(⟨((nth zK zY).fNode),((nth zK zY).fQ)⟩:z8)]:List z8)).length:Nat):Int)*16≤140737488355328∧(((z2z++([(⟨((nth zK zY).fNode),((nth zK zY).fQ)⟩:z8)]:List z8)).length:Nat):Int)≤4611686018427387904) ((y8Q zK zY (i64 (zY+1))).bind fun zqk=>zbG zqk (z2z++([(⟨((nth zK zY).fNode),((nth zK zY).fQ)⟩:z8)]:List z8)) (yF z3r (⟨((nth zK zY).fNode),((nth zK zY).fQ)⟩:z8) (i64 ((yg z3r (⟨((nth zK zY).fNode),((nth zK zY).fQ)⟩:z8) 0)+1)))) else y3M zK z41 z3r z2z zbG zbH zwm (i64 (zY+1))) else zbH
theorem ybk{n:Nat}{zK:List z8}{z41:List (List zd)}{z3r:List (z8×Int)}{z2z:List z8}{zbG:(List z8)→(List z8)→(List (z8×Int))→Option (List z8×Int)}{zbH:Option (List z8×Int)}{zY:Int}{r:List z8×Int}(h:y3M zK z41 z3r z2z zbG zbH n zY=some r):∃ m,n=m+1:=by
 cases n with
 | zero=>cases h
 | succ m=>exact⟨m,rfl⟩
def y3N(z41:List (List zd))(zbI:(List z8)→Option (List z8×Int)):Nat→(List z8)→(List z8)→(List (z8×Int))→Option (List z8×Int)
 | 0,_,_,_=>none
 | zwn+1,zK,z2z,z3r=>if decide (((zK.length:Nat):Int)>0) then jp3 (fun(z9t:List z8) (z9u:List z8) (zbJ:List (z8×Int))=>y3N z41 zbI zwn z9t z9u zbJ) fun zbG=>jp0 (some (([]:List z8),351)) fun zbH=>y3M zK z41 z3r z2z zbG zbH yx 0 else zbI z2z
theorem ybl{n:Nat}{z41:List (List zd)}{zbI:(List z8)→Option (List z8×Int)}{zK:List z8}{z2z:List z8}{z3r:List (z8×Int)}{r:List z8×Int}(h:y3N z41 zbI n zK z2z z3r=some r):∃ m,n=m+1:=by
 cases n with
 | zero=>cases h
 | succ m=>exact⟨m,rfl⟩
def y5x(z41:List (List zd)):Option (List z8×Int):=
 (y6A z41).bind fun zwo=>jp1 (fun(za8:List z8)=>some (za8,0)) fun zbI=>y3N z41 zbI yx zwo ([]:List z8) ([]:List (z8×Int))
theorem yck{Z:Zp}{zmM:Option Addr}{zmN:Nat}{z41:List (List zd)}{r:List z8×Int}(h:y5x z41=some r)(w₀:World)(hz:PZ [] w₀ Z)(zGh:ZS Z 1 (p58 Z) zmM zmN z41):
  Calls Tryz.prog 42 #[(.slice zmM z41.length zmN)] w₀ fun e w'=>∃ zGi:Option Addr,∃ zGj:Nat,e = .returned (.tuple #[(.slice zGi r.1.length zGj),(vi r.2)])∧True∧Hp [] w₀ w' [row (.slice zGi r.1.length zGj) 121 2 (r.1.flatMap yD)]:=by
 unfold y5x at h
 refine L5 Tryz.func42 Tryz.ntmps42 ?_
 refine WC.b<|Ld<|La U<|La U<|WL.nil<|Lb<|WC.scope<|WC.b ?_
 obtain⟨zwo,zQb,h⟩:=za h
 refine Ld<|La U<|WL.y49 (dd:=11) U U U (zb Tryz.call73<|.cons U .nil) .nil (cc hz .nil fun w pz ho=>yf5 zQb w pz zGh) ?_
 rintro zQc zQd _
 refine La U<|WL.nil<|Lb<|WC.b<|Ld (Lg 12 (y3r (fun x=>Value.agg (yD x).toArray)<|Value.int .i64) fun zgj _=>Lg 5 (yv (cs:=[(.map none)]) zMP U) fun ziN _=>Lk U U (yl zMQ U U U .here U U U)<|WL.nil<|Lb<|WC.b<|Ld<|La U<|WL.nil<|Lb<|WC.b<|WC.label<|Lb ?_)
 obtain⟨zbI,zQe,h⟩:=y12 h
 refine Kc (fun(za8:List z8) (ziO:Option Addr) (ziP:Nat)=>(zbI za8=some r)) (fun za8 ziO ziP=>[(6,(.slice ziO za8.length ziP))]) (fun za8 ziO ziP=>[row (.slice ziO za8.length ziP) 121 2 (za8.flatMap yD)]) ?_ ?_
 ·skip
  let A:Value:=(.slice zmM z41.length zmN);refine WC.block (WC.nilRow 121 2 (WC.y93 (fun(ziQ:Nat) (zK:List z8) (z2z:List z8) (z3r:List (z8×Int)) (zbK:Option Addr) (za9:Nat) (zbL:Option Addr) (zbM:Nat)=>(y3N z41 zbI ziQ zK z2z z3r=some r)) (fun ziQ zK z2z z3r zbK za9 zbL zbM=>[(0,A),(4,(.slice zbK zK.length za9)),(5,(vp ziN)),(6,(.slice zbL z2z.length zbM))]) (fun ziQ zK z2z z3r zbK za9 zbL zbM=>[row (.slice zbK zK.length za9) 121 2 (zK.flatMap yD),row (.slice zbL z2z.length zbM) 121 2 (z2z.flatMap yD),stb ziN 117 [(.map (some zgj))],yp zgj (fun x=>Value.agg (yD x).toArray) (Value.int .i64) z3r]) (fun ziQ zK z2z z3r zbK za9 zbL zbM=>ziQ) ⟨yx,zwo,([]:List z8),([]:List (z8×Int)),zQc,zQd,none,0⟩ h (.r4 U U U U) (.s4 .h3 .here .here .here) ?_))
  rintro ziQ zK z2z z3r zbK za9 zbL zbM h
  obtain⟨zwn,rfl⟩:=ybl h
  rw[y3N] at h
  refine WC.b<|WC.b<|Ld<|La U<|Le 14 (yI Tryz.underlying112 U)<|La U<|WL.nil<|Lb<|WC.cond U (fun zwp=>?_)<|fun zwp=>?_
  ·replace h:=yq h zwp
   refine WC.skip<|Lb ?_
   obtain⟨zbG,zQf,h⟩:=y95 h
   refine WC.mid7 (fun(z9t:List z8) (z9u:List z8) (zbJ:List (z8×Int)) (ziR:Option Addr) (ziS:Nat) (ziT:Option Addr) (ziU:Nat)=>(zbG z9t z9u zbJ=some r)) (fun z9t z9u zbJ ziR ziS ziT ziU=>[(0,A),(4,(.slice ziR z9t.length ziS)),(5,(vp ziN)),(6,(.slice ziT z9u.length ziU))]) (fun z9t z9u zbJ ziR ziS ziT ziU=>[row (.slice ziR z9t.length ziS) 121 2 (z9t.flatMap yD),row (.slice ziT z9u.length ziU) 121 2 (z9u.flatMap yD),stb ziN 117 [(.map<|some zgj)],yp zgj (fun x=>Value.agg (yD x).toArray) (Value.int .i64) zbJ]) ?_ ?_
   ·skip
    refine WC.block ?_
    obtain⟨zbH,zQg,h⟩:=y1G h
    refine L8 ((zbH=some r)) ([]) ([]) ?_ ?_
    ·skip
     let C:Value:=(.slice zbK zK.length za9);let D:Value:=(.slice zbL z2z.length zbM);refine WC.b (Ld (La U (Le 17 (yI Tryz.underlying112 U) (La U (WL.nil (Lb (WC.block (L9 (fun(ziV:Nat) (zY:Int)=>(y3M zK z41 z3r z2z zbG zbH ziV zY=some r)) (fun ziV zY=>[(0,A),(4,C),(5,(vp ziN)),(6,D),(16,C),(17,(vi ((zK.length:Nat):Int))),(18,(vi zY))]) (fun ziV zY=>[row C 121 2 (zK.flatMap yD),row D 121 2 (z2z.flatMap yD),stb ziN 117 [(.map (some zgj))],yp zgj (fun x=>Value.agg (yD x).toArray) (Value.int .i64) z3r]) (fun ziV zY=>ziV) ⟨yx,0⟩ h (.r7 U U U U U U U) (.a4) ?_))))))))
     rintro ziV zY h
     obtain⟨zwm,rfl⟩:=ybk h
     rw[y3M] at h
     refine WC.b<|Ld<|La U<|WL.nil<|Lb<|WC.b<|WC.cond U (fun zwq=>?_)<|fun zwq=>?_
     ·replace h:=yq h zwq
      refine WC.skip<|Lb<|WC.b<|WC.block<|WC.b ?_
      obtain⟨zmO,h⟩:=yn h
      refine Ld<|La U<|Kd (fun w hw=>Hp.y1T .here hw (by intro hz';have:=zmO;rw[hz'] at this;omega)) ?_
      rintro⟨zQh,rfl⟩
      refine Le 21 (yS z7y U U zmO.1 zmO.2 y2L)<|Le 22 (yU (cs:=(yD<|nth zK zY)) z5v U U<|y3z .here<|y2x (enc:=yD) (l:=zK) (i:=zY) (sz:=2) (fun _=>U) zmO.1 zmO.2) (Lg 8 (yv (cs:=[(vi 0),(vi 0)]) zm7 U) fun z15b _=>La U<|Lk U U (yl zpC U U U .here U U U)<|WL.nil<|Lb<|WC.b ?_)
      obtain⟨zGg,zQi,h⟩:=za h
      refine Ld<|La U<|Le 24 (y14<|L2 (l:=[.tmp 8,.tmp 5])<|.r2 U U)<|Ll 25 (zb Tryz.call50<|.r2 U U) (.cons .h4 .nil) (ccl hz (.cons .h4 .nil) (.s2 .here .h2) fun w pz ho la=>y6C zQi w pz ((zGh.mono<|Zle.left _ _).weak (fun _ _ h=>y1t (Zle.left _ _) h)) ((la _ (.head _) _).stb) ((la _ (.tail _<|.head _) _).stb) ho)<|La U<|La U<|WL.nil<|Lb<|WC.b<|Ld<|La U<|WL.nil<|Lb<|WC.cond U (fun zwr=>?_)<|fun zwr=>?_
      ·replace h:=yq h zwr
       refine WC.b<|Lx (fun i=>[4,6].contains i) [yei zgj (fun x=>Value.agg (yD x).toArray) (Value.int .i64) (⟨((nth zK zY).fNode),((nth zK zY).fQ)⟩:z8) (0:Int) (yg z3r (⟨((nth zK zY).fNode),((nth zK zY).fQ)⟩:z8) 0)] U<|Lj 0 28 U (yc zm8 U<|yh .h4 U)<|Lj 1 29 U (yi z5v U (yk .h1) U)<|L6 2 30 U (Sin.wk (.cons .here .nil)<|.any U (fun _ h=>y7B h) .nil) (yfp (k:=(⟨((nth zK zY).fNode),((nth zK zY).fQ)⟩:z8)) (dflt:=(0:Int)) zdH Tryz.underlying117 y2H U U U .here)<|Lf 3 31 U (fun _=>y9s U U U)<|WD.oldQ (i:=4) (dd:=32) U (by kernel_rfl) U U U U (yi0 (k:=(⟨((nth zK zY).fNode),((nth zK zY).fQ)⟩:z8)) (dflt:=(0:Int)) zdH Tryz.underlying117 y2H U U U .here) (fun _=>(Sin.wk (.cons .here .nil)<|.any U (fun _ h=>yiA h) .nil)) ?_
       rintro z15c _
       refine Lf 5 33 U (fun _=>y8y U U)<|Kb (i:=6) U (by kernel_rfl) U U U (by kernel_rfl) (yfL (k:=(⟨((nth zK zY).fNode),((nth zK zY).fQ)⟩:z8)) (v:=i64 ((yg z3r (⟨((nth zK zY).fNode),((nth zK zY).fQ)⟩:z8) 0)+1)) U U U U .here)<|WD.done (by kernel_rfl)<|Lb<|WC.b ?_
       obtain⟨zQj,h⟩:=yn h
       refine Ld<|La U<|Le 35 (yi z5v U (yk .h1) U) (Lg 36 (yM (cs:=([(⟨((nth zK zY).fNode),((nth zK zY).fQ)⟩:z8)]:List z8).flatMap yD) z7y (Lo (l:=[.tmp 35]) (.cons U .nil) [0]) (fun _=>by kernel_rfl) U (by unfold maxLen;omega)) fun z15d _=>WL.fA 37 (y52 (enc:=yD) (l1:=z2z) (l2:=([(⟨((nth zK zY).fNode),((nth zK zY).fQ)⟩:z8)]:List z8)) z7y U U .h4 (fun _=>U) U U (y3t .here) (y5o ybg _) zQj) ?_)
       rintro⟨zQk,zQl⟩ _
       refine La U<|WL.nil<|Lb<|WC.b ?_
       obtain⟨zqk,zQm,h⟩:=za h
       refine Ld<|La U<|La U<|La U<|La U<|WL.y49 (dd:=42) U U U (zb Tryz.call78<|.r3 U U U) (.cons .h4 .nil) (cc hz (.cons .h4 .nil) fun w pz ho=>yes (Z:=_) (ao:=(some ⟨zQh,0,none⟩)) (cap:=za9) (l:=zK) (i:=zY) (j:=(i64 (zY+1))) (r:=zqk) w pz  zQm ho) ?_
       rintro zQn zQo _
       refine La U<|WL.nil<|Lb<|WC.exit<|WX.ycr U<|Lm<|Lm<|WX.ycr U<|Lm<|Lu ?_
       exact Ln ⟨zqk,(z2z++([(⟨((nth zK zY).fNode),((nth zK zY).fQ)⟩:z8)]:List z8)),(yF z3r (⟨((nth zK zY).fNode),((nth zK zY).fQ)⟩:z8)<|i64 ((yg z3r (⟨((nth zK zY).fNode),((nth zK zY).fQ)⟩:z8) 0)+1)),zQn,zQo,zQk,zQl⟩ h (.r4 U U U U)<|.s4 .here .here .h3 .h1
      ·replace h:=yr h zwr
       refine WC.skip<|Lt<|Lb<|Ld<|La U<|La U<|WL.nil ?_
       exact WX.round ⟨zwm,(i64 (zY+1))⟩ h (Nat.lt_succ_self _) (.r7 U U U U U U U)<|.s4 .h2 .h2 .h2 .here
     ·replace h:=yr h zwq
      refine WC.exit<|Lm<|Lm<|Lu ?_
      exact Ln () h .nil .nil
    ·rintro  h
     replace h:=zQg.symm.trans h
     refine WC.b<|Ld<|La U<|La U<|WL.nil<|Lb<|WC.ret<|Lq<|Li<|Li<|Lq<|Li<|WX.ydF<|WX.nilRow 121 2 ?_
     obtain rfl:=oJ h
     refine Lh Tryz.results42 (.tmp U<|.tmp U .nil)<|fun w hw=>?_
     exact⟨none,0,y1R U U,trivial,hw.sub (.cons .here .nil)⟩
   ·rintro z9t z9u zbJ ziR ziS ziT ziU h
    replace h:=(zQf z9t z9u zbJ).symm.trans h
    exact WX.round ⟨zwn,z9t,z9u,zbJ,ziR,ziS,ziT,ziU⟩ h (Nat.lt_succ_self _) (.r4 U U U U)<|.a4
  ·replace h:=yr h zwp
   refine WC.exit<|Lm<|Lm<|Lu ?_
   exact Ln ⟨z2z,zbL,zbM⟩ h (.cons U .nil)<|.cons .h1 .nil
 ·rintro za8 ziO ziP h
  replace h:=(zQe za8).symm.trans h
  refine WC.b<|Ld<|La U<|La U<|La U<|WL.nil<|Lb<|WC.ret<|WX.ydF ?_
  obtain rfl:=oJ h
  refine Lh Tryz.results42 (.tmp U<|.tmp U .nil)<|fun w hw=>?_
  exact⟨ziO,ziP,y1R U U,trivial,hw.sub (.cons .here .nil)⟩
def y4v(z2U:List z8×Int)(zbN:(List S36)→Option (List S36×Int)):Nat→(List S36)→Int→Option (List S36×Int)
 | 0,_,_=>none
 | zws+1,z54,z3d=>if decide (z3d<((z2U.1.length:Nat):Int)) then chk ((0:Int)≤z3d∧z3d<((z2U.1.length:Nat):Int)) (chk ((((z54++([({(nth z2U.1 z3d) with fDelay:=0,fT:=0}:S36)]:List S36)).length:Nat):Int)*32≤140737488355328∧(((z54++([({(nth z2U.1 z3d) with fDelay:=0,fT:=0}:S36)]:List S36)).length:Nat):Int)≤4611686018427387904) (y4v z2U zbN zws (z54++([({(nth z2U.1 z3d) with fDelay:=0,fT:=0}:S36)]:List S36)) (i64 (z3d+1)))) else zbN z54
theorem ybm{n:Nat}{z2U:List z8×Int}{zbN:(List S36)→Option (List S36×Int)}{z54:List S36}{z3d:Int}{r:List S36×Int}(h:y4v z2U zbN n z54 z3d=some r):∃ m,n=m+1:=by
 cases n with
 | zero=>cases h
 | succ m=>exact⟨m,rfl⟩
def y53(z2A:zp)(zql:Int)(ziW:List (List zd)):Option (List S36×Int):=
 (y4b z2A zql ziW).bind fun zGk=>if !zGk then some (([]:List S36),310) else(y5x ziW).bind fun z2U=>jp1 (fun(zaa:List S36)=>some (zaa,z2U.2)) fun zbN=>y4v z2U zbN yx ([]:List S36) 0
theorem yfN{Z:Zp}{zwt:Option Addr}{zwu:Nat}{zwv:Option Addr}{zww:Nat}{zwx:Option Addr}{zwy:Nat}{zwz:Option Addr}{zwA:Nat}{zwB:Option Addr}{zwC:Nat}{zwD:Option Addr}{zwE:Nat}{zwF:Option Addr}{zwG:Nat}{zwH:Option Addr}{zwI:Nat}{zGl:Option Addr}{zGm:Nat}{z2A:zp}{zql:Int}{ziW:List (List zd)}{r:List S36×Int}(h:y53 z2A zql ziW=some r)(w₀:World)(hz:PZ [] w₀ Z)(zQp:ZS Z 4 (y3y Z) zwt zwu z2A.fM)(zQq:ZS Z 4 (y4k Z) zwv zww z2A.fC0)(zQr:ZS Z 4 (fun r x=>r=e64 x) zwx zwy z2A.fS)(zQs:ZS Z 4 (fun r x=>r=e62 x) zwz zwA z2A.fK)(zQt:ZS Z 7 (p69 Z) zwB zwC z2A.fVLs)(zQu:ZS Z 5 (fun r x=>r=y4t x) zwD zwE z2A.fH)(zQv:ZS Z 3 (y4l Z) zwF zwG z2A.fU)(zQw:ZS Z 4 (fun r x=>r=y4u x) zwH zwI z2A.fV0)(zGn:ZS Z 1 (p58 Z) zGl zGm ziW):
  Calls Tryz.prog 24 #[(.agg #[(.slice zwt z2A.fM.length zwu),(.slice zwv z2A.fC0.length zww),(.slice zwx z2A.fS.length zwy),(.slice zwz z2A.fK.length zwA),(.slice zwB z2A.fVLs.length zwC),(.slice zwD z2A.fH.length zwE),(.slice zwF z2A.fU.length zwG),(.slice zwH z2A.fV0.length zwI)]),(vi zql),(.slice zGl ziW.length zGm)] w₀ fun e w'=>∃ zGo:Option Addr,∃ zGp:Nat,e = .returned (.tuple #[(.slice zGo r.1.length zGp),(vi r.2)])∧True∧Hp [] w₀ w' [row (.slice zGo r.1.length zGp) 37 4 (r.1.flatMap e37)]:=by
 unfold y53 at h
 refine Ke Tryz.func24 Tryz.ntmps24 ?_
 refine WC.b<|Ld (Lg 3 (yH (cs:=[(.slice zwt z2A.fM.length zwu),(.slice zwv z2A.fC0.length zww),(.slice zwx z2A.fS.length zwy),(.slice zwz z2A.fK.length zwA),(.slice zwB z2A.fVLs.length zwC),(.slice zwD z2A.fH.length zwE),(.slice zwF z2A.fU.length zwG),(.slice zwH z2A.fV0.length zwI)]) U U) fun z15e _=>La U<|La U<|WL.nil<|Lb<|WC.b<|WC.b ?_)
 obtain⟨zGk,zQx,h⟩:=za h
 refine Ld<|Le 13 (yi y1E U (yk .here) U)<|La U<|La U<|Ll 16 (zb Tryz.call22<|.r3 U U U) .nil (cc hz .nil fun w pz ho=>y7m zQx w pz zQp zQq zQr zQs zQt zQu zQv zQw zGn)<|La U<|WL.nil<|Lb<|WC.cond U (fun zwJ=>?_)<|fun zwJ=>?_
 ·replace h:=yq h zwJ
  refine WC.b<|Ld<|La U<|La U<|WL.nil<|Lb<|WC.ret<|Li<|WX.nilRow 37 4 ?_
  obtain rfl:=oJ h
  refine Lh Tryz.results24 (.tmp U<|.tmp U .nil)<|fun w hw=>?_
  exact⟨none,0,y1R U U,trivial,hw.sub (.cons .here .nil)⟩
 ·replace h:=yr h zwJ
  refine WC.skip<|Lb<|WC.b ?_
  obtain⟨z2U,zQy,h⟩:=za h
  refine Ld<|La U<|WL.y49 (dd:=20) U U U (zb Tryz.call42<|.cons U .nil) .nil (cc hz .nil fun w pz ho=>yck zQy w pz zGn) ?_
  rintro zGq zGr _
  refine La U<|La U<|La U<|La U<|La U<|WL.nil<|Lb<|WC.b<|Ld<|La U<|WL.nil<|Lb ?_
  obtain⟨zbN,zQz,h⟩:=y12 h
  refine Kc (fun(zaa:List S36) (ziX:Option Addr) (ziY:Nat)=>(zbN zaa=some r)) (fun zaa ziX ziY=>[(9,(vi z2U.2)),(10,(.slice ziX zaa.length ziY))]) (fun zaa ziX ziY=>[row (.slice ziX zaa.length ziY) 37 4 (zaa.flatMap e37)]) ?_ ?_
  ·skip
   let A:Value:=(.slice zGq z2U.1.length zGr);refine WC.b (Ld (La U (Le 24 (yI Tryz.underlying112 U) (La U (WL.nil (Lb (WC.block (WC.nilRow 37 4 (WC.y7y (fun(ziZ:Nat) (z54:List S36) (z3d:Int) (zgk:Option Addr) (zgl:Nat)=>(y4v z2U zbN ziZ z54 z3d=some r)) (fun ziZ z54 z3d zgk zgl=>[(9,(vi z2U.2)),(10,(.slice zgk z54.length zgl)),(23,A),(24,(vi ((z2U.1.length:Nat):Int))),(25,(vi z3d))]) (fun ziZ z54 z3d zgk zgl=>[row (.slice zgk z54.length zgl) 37 4 (z54.flatMap e37),row A 121 2 (z2U.1.flatMap yD)]) (fun ziZ z54 z3d zgk zgl=>ziZ) ⟨yx,([]:List S36),0,none,0⟩ h (.r5 U U U U U) (.a2) ?_)))))))))
   rintro ziZ z54 z3d zgk zgl h
   obtain⟨zws,rfl⟩:=ybm h
   rw[y4v] at h
   refine WC.b<|Ld<|La U<|WL.nil<|Lb<|WC.b<|WC.cond U (fun zwK=>?_)<|fun zwK=>?_
   ·replace h:=yq h zwK
    refine WC.skip<|Lb<|WC.b<|WC.block<|WC.b ?_
    obtain⟨zmP,h⟩:=yn h
    refine Ld<|Kd (fun w hw=>Hp.y1T .h1 hw (by intro hz';have:=zmP;rw[hz'] at this;omega)) ?_
    rintro⟨z15f,rfl⟩
    refine Le 27 (yS z7y U U zmP.1 zmP.2 y2L)<|Le 28 (yU (cs:=(yD<|nth z2U.1 z3d)) z5v U U<|y3z .h1<|y2x (enc:=yD) (l:=z2U.1) (i:=z3d) (sz:=2) (fun _=>U) zmP.1 zmP.2) (Lg 12 (yv (cs:=[(vi 0),(vi 0)]) zm7 U) fun z15g _=>Lk U U (yl zpC U U U .here U U U)<|WL.nil<|Lb ?_)
    obtain⟨zQA,h⟩:=yn h
    refine Ld<|La U<|Le 30 (ya y9d U U)<|Le 31 (yc ys U<|yh .here U)<|Le 32 (ya yar U U)<|Le 33 (yc ys U<|yh .here U)<|Le 34 (yL (v:=(.agg #[(vi<|(nth z2U.1 z3d).fNode),(vi<|(nth z2U.1 z3d).fQ),(vi 0),(vi 0)])) (Lo (l:=[.tmp 31,.tmp 33]) (.r2 U U) [0,1]) (fun _=>by kernel_rfl)) (Lg 35 (yM (cs:=([({(nth z2U.1 z3d) with fDelay:=0,fT:=0}:S36)]:List S36).flatMap e37) y5A (Lo (l:=[.tmp 34]) (.cons U .nil) [0]) (fun _=>by kernel_rfl) U (by unfold maxLen;omega)) fun z15h _=>WL.fA 36 (y52 (enc:=e37) (l1:=z54) (l2:=([({(nth z2U.1 z3d) with fDelay:=0,fT:=0}:S36)]:List S36)) y5A U U .h2 (fun _=>U) U U (y3t .here) (y5o yem _) zQA) ?_)
    rintro⟨zQB,zQC⟩ _
    refine La U<|WL.nil<|Lt<|Lb<|Ld<|La U<|La U<|WL.nil ?_
    exact WX.round ⟨zws,(z54++([({(nth z2U.1 z3d) with fDelay:=0,fT:=0}:S36)]:List S36)),(i64 (z3d+1)),zQB,zQC⟩ h (Nat.lt_succ_self _) (.r5 U U U U U)<|.s2 .here .h2
   ·replace h:=yr h zwK
    refine WC.exit<|Lm<|Lm<|Lu ?_
    exact Ln ⟨z54,zgk,zgl⟩ h (.r2 U U)<|.cons .here .nil
  ·rintro zaa ziX ziY h
   replace h:=(zQz zaa).symm.trans h
   refine WC.b<|Ld<|La U<|La U<|La U<|La U<|WL.nil<|Lb<|WC.ret ?_
   obtain rfl:=oJ h
   refine Lh Tryz.results24 (.tmp U<|.tmp U .nil)<|fun w hw=>?_
   exact⟨ziX,ziY,y1R U U,trivial,hw.sub (.cons .here .nil)⟩
def y3q(z9v:Int)(zbO:Option Bool):Nat→Int→Option Bool
 | 0,_=>none
 | zwL+1,z82=>if decide (z82≤12800) then if decide (z82=z9v) then some true else y3q z9v zbO zwL (i64 (z82*2)) else zbO
theorem yco{n:Nat}{z9v:Int}{zbO:Option Bool}{z82:Int}{r:Bool}(h:y3q z9v zbO n z82=some r):∃ m,n=m+1:=by
 cases n with
 | zero=>cases h
 | succ m=>exact⟨m,rfl⟩
def y8g(z9v:Int):Option Bool:=
 jp0 (some false) fun zbO=>y3q z9v zbO yx 100
theorem yh8{Z:Zp}{z9v:Int}{r:Bool}(h:y8g z9v=some r)(w₀:World)(hz:PZ [] w₀ Z):
  Calls Tryz.prog 41 #[(vi z9v)] w₀ fun e w'=>e = .returned (.bool r)∧Hp [] w₀ w' []:=by
 unfold y8g at h
 refine L5 Tryz.func41 Tryz.ntmps41 ?_
 refine WC.b<|Ld<|La U<|WL.nil<|Lb ?_
 obtain⟨zbO,zQD,h⟩:=y1G h
 refine L8 ((zbO=some r)) ([]) ([]) ?_ ?_
 ·skip
  refine WC.b<|Ld<|La U<|WL.nil<|Lb<|WC.block<|L9 (fun(zj0:Nat) (z82:Int)=>(y3q z9v zbO zj0 z82=some r)) (fun zj0 z82=>[(0,(vi z9v)),(3,(vi z82))]) (fun zj0 z82=>[]) (fun zj0 z82=>zj0) ⟨yx,100⟩ h (.r2 U U) .nil ?_
  rintro zj0 z82 h
  obtain⟨zwL,rfl⟩:=yco h
  rw[y3q] at h
  refine WC.b<|WC.b<|Ld<|La U<|La U<|WL.nil<|Lb<|WC.cond U (fun zwM=>?_)<|fun zwM=>?_
  ·replace h:=yq h zwM
   refine WC.skip<|Lb<|WC.b<|WC.block<|WC.b<|Ld<|La U<|La U<|La U<|WL.nil<|Lb<|WC.cond U (fun zwN=>?_)<|fun zwN=>?_
   ·replace h:=yq h zwN
    refine WC.b<|Ld<|La U<|WL.nil<|Lb<|WC.ret<|Lq<|Li<|Li<|Lq<|Li ?_
    obtain rfl:=oJ h
    refine Lh Tryz.results41 (.tmp U .nil)<|fun w hw=>?_
    exact⟨yC U,hw.sub .nil⟩
   ·replace h:=yr h zwN
    refine WC.skip<|Lt<|Lb<|Ld<|La U<|La U<|La U<|WL.nil ?_
    exact WX.round ⟨zwL,(i64 (z82*2))⟩ h (Nat.lt_succ_self _) (.r2 U U) .nil
  ·replace h:=yr h zwM
   refine WC.exit<|Lm<|Lm<|Lu ?_
   exact Ln () h .nil .nil
 ·rintro  h
  replace h:=zQD.symm.trans h
  refine WC.b<|Ld<|La U<|WL.nil<|Lb<|WC.ret ?_
  obtain rfl:=oJ h
  refine Lh Tryz.results41 (.tmp U .nil)<|fun w hw=>?_
  exact⟨yC U,hw.sub .nil⟩
def y34(z3s:zh):Option Bool:=
 (y8g z3s.fBag).bind fun zqm=>some (((!zqm)||(decide (z3s.fMax<1)))||(decide (z3s.fMax>72)))
theorem ydv{Z:Zp}{zwO:Option Addr}{zwP:Nat}{z3s:zh}{r:Bool}(h:y34 z3s=some r)(w₀:World)(hz:PZ [] w₀ Z)(z15i:ZS Z 3 (fun r x=>r=e66 x) zwO zwP z3s.fTo):
  Calls Tryz.prog 40 #[(.agg #[(.string z3s.fName),(.string z3s.fFrom.fModule),(.string z3s.fFrom.fPart),(.string z3s.fFrom.fPort),(vi z3s.fBag),(vi z3s.fMax),(.slice zwO z3s.fTo.length zwP)])] w₀ fun e w'=>e = .returned (.bool r)∧Hp [] w₀ w' []:=by
 unfold y34 at h
 refine L5 Tryz.func40 Tryz.ntmps40 ?_
 refine WC.b<|Ld (Lg 1 (yH (cs:=[(.string z3s.fName),(.string z3s.fFrom.fModule),(.string z3s.fFrom.fPart),(.string z3s.fFrom.fPort),(vi z3s.fBag),(vi z3s.fMax),(.slice zwO z3s.fTo.length zwP)]) U U) fun z15j _=>La U<|WL.nil<|Lb<|WC.b ?_)
 obtain⟨zqm,zQE,h⟩:=za h
 refine Ld<|Le 3 (ya yf0 U U)<|Le 4 (yc ys U<|yh .here U)<|Ll 5 (zb Tryz.call41<|.cons U .nil) .nil (cc hz .nil fun w pz ho=>yh8 zQE w pz )<|La U<|La U<|Lv false 3 7 (B:=(!zqm)||(decide (z3s.fMax<1))) U U U U U U (fun h=>(y7w h).symm) (fun _ zQF=>?_) ?_
 ·skip
  refine Le 8 (ya y6x U U)<|Le 9 (yc ys U<|yh .here U)<|La U<|La U ?_
  exact Lw (y7x zQF) U U .all
 refine La U<|Lv false 3 12 (B:=((!zqm)||(decide (z3s.fMax<1)))||(decide (z3s.fMax>72))) U U U U U U (fun h=>(y7w h).symm) (fun _ zQG=>?_) ?_
 ·skip
  refine Le 13 (ya y6x U U)<|Le 14 (yc ys U<|yh .here U)<|La U<|La U ?_
  exact Lw (y7x zQG) U U .all
 refine La U<|WL.nil<|Lb<|WC.ret ?_
 obtain rfl:=oJ h
 refine Lh Tryz.results40 (.tmp U .nil)<|fun w hw=>?_
 exact⟨yC U,hw.sub .nil⟩
def y1b(z2s:List zh)(z9w:zh→Option Bool)(zbP:Option Int):Nat→Int→Option Int
 | 0,_=>none
 | zwQ+1,z2l=>if decide (z2l<((z2s.length:Nat):Int)) then chk ((0:Int)≤z2l∧z2l<((z2s.length:Nat):Int)) ((z9w (⟨((nth z2s z2l).fName),(⟨(((nth z2s z2l).fFrom).fModule),(((nth z2s z2l).fFrom).fPart),(((nth z2s z2l).fFrom).fPort)⟩:Sapi_Ref),((nth z2s z2l).fBag),((nth z2s z2l).fMax),((nth z2s z2l).fTo)⟩:zh)).bind fun zwR=>if zwR then some z2l else y1b z2s z9w zbP zwQ (i64 (z2l+1))) else zbP
theorem y6R{n:Nat}{z2s:List zh}{z9w:zh→Option Bool}{zbP:Option Int}{z2l:Int}{r:Int}(h:y1b z2s z9w zbP n z2l=some r):∃ m,n=m+1:=by
 cases n with
 | zero=>cases h
 | succ m=>exact⟨m,rfl⟩
def y3j(z2s:List zh)(z9w:zh→Option Bool):Option Int:=
 jp0 (some (-1)) fun zbP=>y1b z2s z9w zbP yx 0
theorem y8p(Z:Zp)(zwS:Option Addr)(zwT:Nat)(zgm:FuncId)(zmQ:List Value)(z2s:List zh)(z9w:zh→Option Bool)(r:Int)(h:y3j z2s z9w=some r)(w₀:World)(hz:PZ [] w₀ Z)(zQH:ZS Z 7 (p69 Z) zwS zwT z2s)(zQI:∀ args w,(callFunc zgm args).run Tryz.prog w = .ok (.enter zgm args) w)(zQJ:∀ w:World,PZ [] w Z→∀(x0:zh) (ao0:Option Addr) (cap0:Nat) (r:Bool),ZS Z 3 (fun r x=>r=e66 x) ao0 cap0 x0.fTo→z9w x0=some r→Calls Tryz.prog zgm (([(.agg #[(.string x0.fName),(.string x0.fFrom.fModule),(.string x0.fFrom.fPart),(.string x0.fFrom.fPort),(vi x0.fBag),(vi x0.fMax),(.slice ao0 x0.fTo.length cap0)])]:List Value)++zmQ).toArray w fun e w'=>e = .returned (.bool r)∧Hp [] w w' []):
  Calls Tryz.prog 72 #[(.slice zwS z2s.length zwT),(.func (.func zgm) #[] (zmQ).toArray)] w₀ fun e w'=>e = .returned (vi r)∧Hp [] w₀ w' []:=by
 unfold y3j at h
 refine Lz Tryz.func72 Tryz.ntmps72 ?_
 refine WC.b<|Ld<|La U<|WL.nil<|Lb ?_
 obtain⟨zbP,zQK,h⟩:=y1G h
 refine L8 ((zbP=some r)) ([]) ([]) ?_ ?_
 ·skip
  refine WC.b<|Ld<|La U<|Le 7 (yI Tryz.underlying26 U)<|La U<|WL.nil<|Lb<|WC.block<|L9 (fun(zj1:Nat) (z2l:Int)=>(y1b z2s z9w zbP zj1 z2l=some r)) (fun zj1 z2l=>[(0,(.slice zwS z2s.length zwT)),(1,(.func (.func zgm) #[] (zmQ).toArray)),(7,(vi ((z2s.length:Nat):Int))),(8,(vi z2l))]) (fun zj1 z2l=>[]) (fun zj1 z2l=>zj1) ⟨yx,0⟩ h (.r4 U U U U) .nil ?_
  rintro zj1 z2l h
  obtain⟨zwQ,rfl⟩:=y6R h
  rw[y1b] at h
  refine WC.b<|Ld<|La U<|WL.nil<|Lb<|WC.b<|WC.cond U (fun zwU=>?_)<|fun zwU=>?_
  ·replace h:=yq h zwU
   refine WC.skip<|Lb<|WC.b<|WC.block<|WC.b<|Ld<|La U<|La U<|WL.nil<|Lb<|WC.b ?_
   obtain⟨zQL,h⟩:=yn h
   obtain⟨zwR,zQM,h⟩:=za h
   refine Ld<|La U<|La U<|La U<|L0 (dd:=14) U U (Z:=Z) (Pr:=(p69 Z)) y72 U U zQH zQL ?_
   rintro z15k z15l zQN z15m ⟨zQO,zQP,rfl,zQQ⟩
   refine Le 15 (yi yf1 U (y2l hz.pv zQN) U)<|Ll 16 (y2J (l:=[.tmp 15]) (f:=zgm) (caps:=zmQ) zQI U<|.cons U .nil) .nil (fun w hw=>zQJ w (hz.now hw) (⟨((nth z2s z2l).fName),(⟨(((nth z2s z2l).fFrom).fModule),(((nth z2s z2l).fFrom).fPart),(((nth z2s z2l).fFrom).fPort)⟩:Sapi_Ref),((nth z2s z2l).fBag),((nth z2s z2l).fMax),((nth z2s z2l).fTo)⟩:zh) zQO zQP zwR zQQ zQM)<|WL.nil<|Lb<|WC.cond U (fun zwV=>?_)<|fun zwV=>?_
   ·replace h:=yq h zwV
    refine WC.b<|Ld<|La U<|La U<|WL.nil<|Lb<|WC.ret<|Lq<|Li<|Li<|Lq<|Li ?_
    obtain rfl:=oJ h
    refine Lh Tryz.results72 (.tmp U .nil)<|fun w hw=>?_
    exact⟨yC U,hw.sub .nil⟩
   ·replace h:=yr h zwV
    refine WC.skip<|Lt<|Lb<|Ld<|La U<|La U<|WL.nil ?_
    exact WX.round ⟨zwQ,(i64 (z2l+1))⟩ h (Nat.lt_succ_self _) (.r4 U U U U) .nil
  ·replace h:=yr h zwU
   refine WC.exit<|Lm<|Lm<|Lu ?_
   exact Ln () h .nil .nil
 ·rintro  h
  replace h:=zQK.symm.trans h
  refine WC.b<|Ld<|La U<|WL.nil<|Lb<|WC.ret ?_
  obtain rfl:=oJ h
  refine Lh Tryz.results72 (.tmp U .nil)<|fun w hw=>?_
  exact⟨yC U,hw.sub .nil⟩
def y22(zmR:List zh)(zj2:zh→Option Bool):Option Bool:=
 (y3j zmR zj2).bind fun zGs=>some (decide (zGs≥0))
theorem y7X(Z:Zp)(zGt:Option Addr)(zGu:Nat)(zj3:FuncId)(zqn:List Value)(zmR:List zh)(zj2:zh→Option Bool)(r:Bool)(h:y22 zmR zj2=some r)(w₀:World)(hz:PZ [] w₀ Z)(zQR:ZS Z 7 (p69 Z) zGt zGu zmR)(zQS:∀ args w,(callFunc zj3 args).run Tryz.prog w = .ok (.enter zj3 args) w)(zQT:∀ w:World,PZ [] w Z→∀(x0:zh) (ao0:Option Addr) (cap0:Nat) (r:Bool),ZS Z 3 (fun r x=>r=e66 x) ao0 cap0 x0.fTo→zj2 x0=some r→Calls Tryz.prog zj3 (([(.agg #[(.string x0.fName),(.string x0.fFrom.fModule),(.string x0.fFrom.fPart),(.string x0.fFrom.fPort),(vi x0.fBag),(vi x0.fMax),(.slice ao0 x0.fTo.length cap0)])]:List Value)++zqn).toArray w fun e w'=>e = .returned (.bool r)∧Hp [] w w' []):
  Calls Tryz.prog 39 #[(.slice zGt zmR.length zGu),(.func (.func zj3) #[] (zqn).toArray)] w₀ fun e w'=>e = .returned (.bool r)∧Hp [] w₀ w' []:=by
 unfold y22 at h
 refine Lz Tryz.func39 Tryz.ntmps39 ?_
 refine WC.b<|Ld<|La U<|WL.nil<|Lb<|WC.b ?_
 obtain⟨zGs,zQU,h⟩:=za h
 refine Ld<|La U<|La U<|Ll 7 (zb Tryz.call72<|.r2 U U) .nil (cc hz .nil fun w pz ho=>y8p _ _ _ (zgm:=zj3) (zmQ:=zqn) _ (z9w:=zj2) _ zQU w pz zQR zQS zQT)<|La U<|La U<|WL.nil<|Lb<|WC.ret ?_
 obtain rfl:=oJ h
 refine Lh Tryz.results39 (.tmp U .nil)<|fun w hw=>?_
 exact⟨yC U,hw.sub .nil⟩
def y4A(zbQ:zd)(zj4:z8):Option Bool:=
 (y4Q zbQ).bind fun zwW=>some (decide (zwW=zj4))
theorem ybn{Z:Zp}{zGv:Addr}{zbQ:zd}{zj4:z8}{r:Bool}(h:y4A zbQ zj4=some r)(w₀:World)(hz:PZ [] w₀ Z)(zQV:ZC Z zGv [(vi zj4.fNode),(vi zj4.fQ)]):
  Calls Tryz.prog 117 #[(.agg #[(vi zbQ.fNode),(vi zbQ.fNext),(vi zbQ.fQ)]),(vq zGv)] w₀ fun e w'=>e = .returned (.bool r)∧Hp [] w₀ w' []:=by
 unfold y4A at h
 refine Lz Tryz.func117 Tryz.ntmps117 ?_
 refine WC.b<|Ld (Lg 2 (yH (cs:=[(vi zbQ.fNode),(vi zbQ.fNext),(vi zbQ.fQ)]) U U) fun z15n _=>La U<|WL.nil<|Lb<|WC.b ?_)
 obtain⟨zwW,zQW,h⟩:=za h
 refine Lx (fun i=>[].contains i) [] U<|Lj 0 4 U (yi y4g U (yk .here) U)<|L4 1 5 U (zb Tryz.call60<|.cons U .nil) (cc hz .nil fun w pz ho=>y69 zQW w pz )<|Lj 2 6 U (yi z5v U (y2l hz.pv zQV) U)<|Lf 3 7 U (fun _=>y96 (enc:=yD) (a:=zwW) (b:=zj4) zpD U U)<|Lf 4 3 U (fun _=>q_z U)<|WD.done (by kernel_rfl)<|Lb<|WC.ret ?_
 obtain rfl:=oJ h
 refine Lh Tryz.results117 (.tmp U .nil)<|fun w hw=>?_
 exact⟨yC U,hw.sub .nil⟩
def y1m(zmS:List zd)(zj5:zd→Option Bool):Option Bool:=
 (yZ zmS zj5).bind fun zGw=>some (decide (zGw≥0))
theorem y6S(Z:Zp)(zGx:Option Addr)(zGy:Nat)(zj6:FuncId)(zqo:List Value)(zmS:List zd)(zj5:zd→Option Bool)(r:Bool)(h:y1m zmS zj5=some r)(w₀:World)(hz:PZ [] w₀ Z)(zQX:ZS Z 3 (fun r x=>r=e60 x) zGx zGy zmS)(zQY:∀ args w,(callFunc zj6 args).run Tryz.prog w = .ok (.enter zj6 args) w)(zQZ:∀ w:World,PZ [] w Z→∀(x0:zd) (r:Bool),zj5 x0=some r→Calls Tryz.prog zj6 (([(.agg #[(vi x0.fNode),(vi x0.fNext),(vi x0.fQ)])]:List Value)++zqo).toArray w fun e w'=>e = .returned (.bool r)∧Hp [] w w' []):
  Calls Tryz.prog 75 #[(.slice zGx zmS.length zGy),(.func (.func zj6) #[] (zqo).toArray)] w₀ fun e w'=>e = .returned (.bool r)∧Hp [] w₀ w' []:=by
 unfold y1m at h
 refine Lz Tryz.func75 Tryz.ntmps75 ?_
 refine WC.b<|Ld<|La U<|WL.nil<|Lb<|WC.b ?_
 obtain⟨zGw,zR0,h⟩:=za h
 refine Ld<|La U<|La U<|Ll 7 (zb Tryz.call94<|.r2 U U) .nil (cc hz .nil fun w pz ho=>y2O _ _ _ (za7:=zj6) (zdS:=zqo) _ (z7B:=zj5) _ zR0 w pz zQX zQY zQZ)<|La U<|La U<|WL.nil<|Lb<|WC.ret ?_
 obtain rfl:=oJ h
 refine Lh Tryz.results75 (.tmp U .nil)<|fun w hw=>?_
 exact⟨yC U,hw.sub .nil⟩
def y2I(zmT:Int):Option z1:=
 some (⟨zmT,1⟩:z1)
theorem y5y{Z:Zp}{zmT:Int}{r:z1}(h:y2I zmT=some r)(w₀:World)(hz:PZ [] w₀ Z):
  Calls Tryz.prog 80 #[(vi zmT)] w₀ fun e w'=>e = .returned (.agg #[(vi r.fN),(vi r.fD)])∧Hp [] w₀ w' []:=by
 unfold y2I at h
 refine L5 Tryz.func80 Tryz.ntmps80 ?_
 refine WC.b<|Ld (Lg 2 (yv (cs:=[(vi 0),(vi 0)]) zW U) fun z15o _=>WL.nil<|Lb<|WC.b<|Ld<|La U<|Le 4 (yL (v:=(.agg #[(vi zmT),(vi 1)])) (Lo (l:=[.tmp 3,.const (vi 1)]) (.r2 U U) [0,1]) (fun _=>by kernel_rfl))<|Lk U U (yl zA U U U .here U U U)<|WL.nil<|Lb<|WC.ret ?_)
 obtain rfl:=oJ h
 refine Lh Tryz.results80 (.agg U zg U (yk .here) .nil)<|fun w hw=>?_
 exact⟨yC U,hw.sub .nil⟩
def y6d(zj7:Int):Option Int:=
 if decide (zj7<0) then some (u64 ((u64 (i64 (0-(i64 (zj7+1)))))+1)) else some (u64 zj7)
theorem ya4{Z:Zp}{zj7:Int}{r:Int}(h:y6d zj7=some r)(w₀:World)(hz:PZ [] w₀ Z):
  Calls Tryz.prog 166 #[(vi zj7)] w₀ fun e w'=>e = .returned (.int .u64 r)∧Hp [] w₀ w' []:=by
 unfold y6d at h
 refine L5 Tryz.func166 Tryz.ntmps166 ?_
 refine WC.b<|Ld<|La U<|WL.nil<|Lb<|WC.b<|WC.b<|Ld<|La U<|La U<|WL.nil<|Lb<|WC.cond U (fun zwX=>?_)<|fun zwX=>?_
 ·replace h:=yq h zwX
  refine WC.b<|Ld<|La U<|La U<|Le 7 (q_neg U U)<|Le 8 (y7t Tryz.underlying3 Tryz.underlying212 U U)<|La U<|La U<|WL.nil<|Lb<|WC.ret<|Li ?_
  obtain rfl:=oJ h
  refine Lh Tryz.results166 (.tmp U .nil)<|fun w hw=>?_
  exact⟨yC U,hw.sub .nil⟩
 ·replace h:=yr h zwX
  refine WC.skip<|Lb<|WC.b<|Ld<|La U<|Le 11 (y7t Tryz.underlying3 Tryz.underlying212 U U)<|La U<|WL.nil<|Lb<|WC.ret ?_
  obtain rfl:=oJ h
  refine Lh Tryz.results166 (.tmp U .nil)<|fun w hw=>?_
  exact⟨yC U,hw.sub .nil⟩
def y2u(zbR:Int→Option Int):Nat→Int→Int→Option Int
 | 0,_,_=>none
 | zwY+1,z83,z74=>if decide (z74≠0) then chk ((z74:Int)≠0) (y2u zbR zwY z74 (Int.tmod z83 z74)) else zbR z83
theorem yau{n:Nat}{zbR:Int→Option Int}{z83:Int}{z74:Int}{r:Int}(h:y2u zbR n z83 z74=some r):∃ m,n=m+1:=by
 cases n with
 | zero=>cases h
 | succ m=>exact⟨m,rfl⟩
def y5d(zmU:Int)(zmV:Int):Option Int:=
 jp1 (fun(zdZ:Int)=>some zdZ) fun zbR=>y2u zbR yx zmU zmV
theorem yav{Z:Zp}{zmU:Int}{zmV:Int}{r:Int}(h:y5d zmU zmV=some r)(w₀:World)(hz:PZ [] w₀ Z):
  Calls Tryz.prog 165 #[(.int .u64 zmU),(.int .u64 zmV)] w₀ fun e w'=>e = .returned (.int .u64 r)∧Hp [] w₀ w' []:=by
 unfold y5d at h
 refine Lz Tryz.func165 Tryz.ntmps165 ?_
 refine WC.b<|Ld<|La U<|WL.nil<|Lb ?_
 obtain⟨zbR,zR1,h⟩:=y12 h
 refine Kf (fun(zdZ:Int)=>(zbR zdZ=some r)) (fun zdZ=>[(0,(.int .u64 zdZ))]) (fun zdZ=>[]) ?_ ?_
 ·skip
  refine WC.block<|WC.yam (fun(zj8:Nat) (z83:Int) (z74:Int)=>(y2u zbR zj8 z83 z74=some r)) (fun zj8 z83 z74=>[(0,(.int .u64 z83)),(1,(.int .u64 z74))]) (fun zj8 z83 z74=>[]) (fun zj8 z83 z74=>zj8) ⟨yx,zmU,zmV⟩ h (.r2 U U) .nil ?_
  rintro zj8 z83 z74 h
  obtain⟨zwY,rfl⟩:=yau h
  rw[y2u] at h
  refine WC.b<|WC.b<|Ld<|La U<|La U<|WL.nil<|Lb<|WC.cond U (fun zwZ=>?_)<|fun zwZ=>?_
  ·replace h:=yq h zwZ
   refine WC.skip<|Lb<|WC.block ?_
   obtain⟨zR2,h⟩:=yn h
   refine Lx (fun i=>[].contains i) [] U<|Lf 0 7 U (fun _=>q_m U)<|Lf 1 8 U (fun _=>q_m U)<|Lf 2 9 U (fun _=>q_m U)<|Lf 3 10 U (fun _=>q_rem U U zR2 U)<|Lf 4 0 U (fun _=>q_z U)<|Lf 5 1 U (fun _=>q_z U)<|WD.done (by kernel_rfl)<|Lt ?_
   exact WX.round ⟨zwY,z74,(Int.tmod z83 z74)⟩ h (Nat.lt_succ_self _) (.r2 U U) .nil
  ·replace h:=yr h zwZ
   refine WC.exit<|Lm<|Lm<|Lu ?_
   exact Ln z83 h (.cons U .nil) .nil
 ·rintro zdZ h
  replace h:=(zR1 zdZ).symm.trans h
  refine WC.b<|Ld<|La U<|La U<|WL.nil<|Lb<|WC.ret ?_
  obtain rfl:=oJ h
  refine Lh Tryz.results165 (.tmp U .nil)<|fun w hw=>?_
  exact⟨yC U,hw.sub .nil⟩
def y5G(zmW:Int)(zj9:Int):Option (z1×Int):=
 if decide (zj9=0) then some ((⟨0,0⟩:z1),2) else(y6d zmW).bind fun zab=>(y6d zj9).bind fun ze0=>(y5d zab ze0).bind fun z6j=>chk ((z6j:Int)≠0) (if (decide ((u64 (Int.tdiv zab z6j))>1073741824))||(decide ((u64 (Int.tdiv ze0 z6j))>1073741824)) then some ((⟨0,0⟩:z1),3) else jp1 (fun(ze1:Int)=>some ((⟨ze1,i64 (u64 (Int.tdiv ze0 z6j))⟩:z1),0)) fun zqp=>if (decide (zmW<0)) != (decide (zj9<0)) then zqp (i64 (0-(i64 (u64 (Int.tdiv zab z6j))))) else zqp (i64 (u64 (Int.tdiv zab z6j))))
theorem y8R{Z:Zp}{zmW:Int}{zj9:Int}{r:z1×Int}(h:y5G zmW zj9=some r)(w₀:World)(hz:PZ [] w₀ Z):
  Calls Tryz.prog 160 #[(vi zmW),(vi zj9)] w₀ fun e w'=>e = .returned (.tuple #[(.agg #[(vi r.1.fN),(vi r.1.fD)]),(vi r.2)])∧Hp [] w₀ w' []:=by
 unfold y5G at h
 refine Lz Tryz.func160 Tryz.ntmps160 ?_
 refine WC.b<|Ld (Lg 4 (yv (cs:=[(vi 0),(vi 0)]) zW U) fun zGz _=>La U<|WL.nil<|Lb<|WC.b<|WC.b<|Ld<|La U<|La U<|WL.nil<|Lb<|WC.cond U (fun zx0=>?_)<|fun zx0=>?_)
 ·replace h:=yq h zx0
  refine WC.b<|Ld<|Le 12 (yL (v:=(.agg #[(vi 0),(vi 0)])) (Lo (l:=[]) .nil []) (fun _=>by kernel_rfl))<|Lk U U (yl zA U U U .here U U U)<|La U<|WL.nil<|Lb<|WC.ret<|Li ?_
  obtain rfl:=oJ h
  refine Lh Tryz.results160 (.agg U zg U (yk .here)<|.tmp U .nil)<|fun w hw=>?_
  exact⟨y1R U U,hw.sub .nil⟩
 ·replace h:=yr h zx0
  refine WC.skip<|Lb<|WC.b ?_
  obtain⟨zab,zR3,h⟩:=za h
  obtain⟨ze0,zR4,h⟩:=za h
  refine Ld<|La U<|Ll 14 (zb Tryz.call166<|.cons U .nil) .nil (cc hz .nil fun w pz ho=>ya4 zR3 w pz )<|La U<|Ll 16 (zb Tryz.call166<|.cons U .nil) .nil (cc hz .nil fun w pz ho=>ya4 zR4 w pz )<|La U<|La U<|WL.nil<|Lb<|WC.b ?_
  obtain⟨z6j,zR5,h⟩:=za h
  refine Ld<|La U<|La U<|Ll 19 (zb Tryz.call165<|.r2 U U) .nil (cc hz .nil fun w pz ho=>yav zR5 w pz )<|La U<|WL.nil<|Lb<|WC.b ?_
  obtain⟨zGA,h⟩:=yn h
  refine Lx (fun i=>[].contains i) [] U<|Lf 0 20 U (fun _=>q_m U)<|Lf 1 21 U (fun _=>q_m U)<|Lf 2 22 U (fun _=>yd7 U U zGA U)<|Lf 3 23 U (fun _=>q_m U)<|Lf 4 24 U (fun _=>q_m U)<|Lf 5 25 U (fun _=>yd7 U U zGA U)<|Lf 6 6 U (fun _=>q_z U)<|Lf 7 7 U (fun _=>q_z U)<|WD.done (by kernel_rfl)<|Lb<|WC.b<|WC.b<|Ld<|La U<|La U<|La U<|Lv false 2 28 (B:=(decide ((u64<|Int.tdiv zab z6j)>1073741824))||(decide ((u64<|Int.tdiv ze0 z6j)>1073741824))) U U U U U U (fun h=>(y7w h).symm) (fun _ zR6=>?_) ?_
  ·skip
   refine La U<|La U<|La U ?_
   exact Lw (y7x zR6) U U .all
  refine WL.nil<|Lb<|WC.cond U (fun zx1=>?_)<|fun zx1=>?_
  ·replace h:=yq h zx1
   refine WC.b<|Ld<|Le 32 (yL (v:=(.agg #[(vi 0),(vi 0)])) (Lo (l:=[]) .nil []) (fun _=>by kernel_rfl))<|Lk U U (yl zA U U U .here U U U)<|La U<|WL.nil<|Lb<|WC.ret<|Li ?_
   obtain rfl:=oJ h
   refine Lh Tryz.results160 (.agg U zg U (yk .here)<|.tmp U .nil)<|fun w hw=>?_
   exact⟨y1R U U,hw.sub .nil⟩
  ·replace h:=yr h zx1
   let A:=(i64 (u64 (Int.tdiv zab z6j)));let C:Value:=(vi (i64 (u64 (Int.tdiv ze0 z6j))));refine WC.skip (Lb (WC.b (Ld (La U (Le 34 (y7t Tryz.underlying212 Tryz.underlying3 U U) (La U (Le 36 (y7t Tryz.underlying212 Tryz.underlying3 U U) (Le 37 (yL (v:=(.agg #[(vi A),C])) (Lo (l:=[.tmp 34,.tmp 36]) (.r2 U U) [0,1]) (fun _=>by kernel_rfl)) (Lg 9 (yv (cs:=[(vi 0),(vi 0)]) zW U) ?_)))))))))
   intro zGB _
   refine Lk U U (yl zA U U U .here U U U)<|WL.nil<|Lb ?_
   obtain⟨zqp,zR7,h⟩:=y12 h
   refine Kf (fun(ze1:Int)=>(zqp ze1=some r)) (fun ze1=>[(4,(vp zGz)),(9,(vp zGB))]) (fun ze1=>[stb zGz 175 [(vi 0),(vi 0)],stb zGB 175 [(vi ze1),C]]) ?_ ?_
   ·skip
    refine WC.b<|Ld<|La U<|La U<|La U<|La U<|Le 42 (q_bneq Tryz.underlying4 U U)<|WL.nil<|Lb<|WC.cond U (fun zx2=>?_)<|fun zx2=>?_
    ·replace h:=yq h zx2
     refine Ld<|Le 43 (ya y2C U U)<|Le 44 (yc ys U<|yh .here U)<|Le 45 (q_neg U U)<|Le 46 (ya y2C U U)<|Lk U U (y4r (ds:=[(vi<|i64 (0-A)),C]) yas U U U U U .here U U)<|WL.nil ?_
     exact Ln (i64 (0-A)) h (.r2 U U)<|.s2 .h1 .here
    ·replace h:=yr h zx2
     refine WC.skip ?_
     exact Ln A h (.r2 U U)<|.s2 .h1 .here
   ·rintro ze1 h
    replace h:=(zR7 ze1).symm.trans h
    refine WC.b<|Ld<|Le 47 (yi zg U (yk .h1) U)<|Lk U U (yl zA U U U .here U U U)<|La U<|WL.nil<|Lb<|WC.ret ?_
    obtain rfl:=oJ h
    refine Lh Tryz.results160 (.agg U zg U (yk .here)<|.tmp U .nil)<|fun w hw=>?_
    exact⟨y1R U U,hw.sub .nil⟩
def y46(z42:zp)(zqq:List (List zd))(zgn:List (zP×z1))(zgo:List (z8×Int))(zx3:Int)(zgp:Int):Option z1:=
 chk ((0:Int)≤zgp∧zgp<((z42.fVLs.length:Nat):Int)) ((y5G ((nth z42.fVLs zgp).fMax) ((nth z42.fVLs zgp).fBag)).bind fun zGC=>some zGC.1)
theorem y87{Z:Zp}{zGD:Addr}{zGE:Option Addr}{zGF:Nat}{zGG:Option Addr}{zGH:Nat}{zGI:Option Addr}{zGJ:Nat}{zGK:Option Addr}{zGL:Nat}{zGM:Option Addr}{zGN:Nat}{zGO:Option Addr}{zGP:Nat}{zGQ:Option Addr}{zGR:Nat}{zGS:Option Addr}{zGT:Nat}{zGU:Option Addr}{zGV:Nat}{zja:Nat}{zjb:Nat}{z42:zp}{zqq:List (List zd)}{zgn:List (zP×z1)}{zgo:List (z8×Int)}{zx3:Int}{zgp:Int}{r:z1}(h:y46 z42 zqq zgn zgo zx3 zgp=some r)(w₀:World)(hz:PZ (fps [yp zja (fun x=>Value.agg (y2N x).toArray) (fun x=>Value.agg (yA x).toArray) zgn,yp zjb (fun x=>Value.agg (yD x).toArray) (Value.int .i64) zgo]) w₀ Z)(z15p:ZS Z 4 (y3y Z) zGE zGF z42.fM)(z15q:ZS Z 4 (y4k Z) zGG zGH z42.fC0)(z15r:ZS Z 4 (fun r x=>r=e64 x) zGI zGJ z42.fS)(z15s:ZS Z 4 (fun r x=>r=e62 x) zGK zGL z42.fK)(zGW:ZS Z 7 (p69 Z) zGM zGN z42.fVLs)(z15t:ZS Z 5 (fun r x=>r=y4t x) zGO zGP z42.fH)(z15u:ZS Z 3 (y4l Z) zGQ zGR z42.fU)(z15v:ZS Z 4 (fun r x=>r=y4u x) zGS zGT z42.fV0)(z15w:ZS Z 1 (p58 Z) zGU zGV zqq)(zGX:ZC Z zGD [(.slice zGE z42.fM.length zGF),(.slice zGG z42.fC0.length zGH),(.slice zGI z42.fS.length zGJ),(.slice zGK z42.fK.length zGL),(.slice zGM z42.fVLs.length zGN),(.slice zGO z42.fH.length zGP),(.slice zGQ z42.fU.length zGR),(.slice zGS z42.fV0.length zGT),(.slice zGU zqq.length zGV),(.map (some zja)),(.map (some zjb)),(vi zx3)])(hown:Hp (fps [yp zja (fun x=>Value.agg (y2N x).toArray) (fun x=>Value.agg (yA x).toArray) zgn,yp zjb (fun x=>Value.agg (yD x).toArray) (Value.int .i64) zgo]) w₀ w₀ [yp zja (fun x=>Value.agg (y2N x).toArray) (fun x=>Value.agg (yA x).toArray) zgn,yp zjb (fun x=>Value.agg (yD x).toArray) (Value.int .i64) zgo]):
  Calls Tryz.prog 121 #[(vq zGD),(vi zgp)] w₀ fun e w'=>e = .returned (.agg #[(vi r.fN),(vi r.fD)])∧Hp (fps [yp zja (fun x=>Value.agg (y2N x).toArray) (fun x=>Value.agg (yA x).toArray) zgn,yp zjb (fun x=>Value.agg (yD x).toArray) (Value.int .i64) zgo]) w₀ w' [yp zja (fun x=>Value.agg (y2N x).toArray) (fun x=>Value.agg (yA x).toArray) zgn,yp zjb (fun x=>Value.agg (yD x).toArray) (Value.int .i64) zgo]:=by
 unfold y46 at h
 refine Kh Tryz.func121 Tryz.ntmps121 hown ?_
 refine WC.b<|Ld (Lg 4 (yv (cs:=[(vi 0),(vi 0)]) zW U) fun z15x _=>WL.nil<|Lb<|WC.b ?_)
 obtain⟨zGY,h⟩:=yn h
 obtain⟨zGC,zR8,h⟩:=za h
 refine Lx (fun i=>[23].contains i) [] U<|Lf 0 8 U (fun _=>q_m U)<|Lf 1 9 U (fun _=>y1e U)<|Lf 2 10 U (fun _=>ya y6l U U)<|Lf 3 11 U (fun _=>ya y5a U U)<|Lj 4 12 U (yc y5p U<|y1c hz.pv zGX U)<|Lf 5 13 U (fun _=>q_m U)<|L7 (j:=6) (dd:=14) (by kernel_rfl) U z2j z2k U U (Z:=Z) (Pr:=(p69 Z)) y72 U U zGW zGY ?_
 rintro z15y z15z zR9 z15A ⟨z15B,z15C,rfl,z15D⟩
 refine Lf 7 15 U (fun _=>ya y6x U U)<|Lj 8 16 U (yc ys U<|y1c hz.pv zR9 U)<|Lf 9 17 U (fun _=>q_m U)<|Lf 10 18 U (fun _=>y1e U)<|Lf 11 19 U (fun _=>ya y6l U U)<|Lf 12 20 U (fun _=>ya y5a U U)<|Lj 13 21 U (yc y5p U<|y1c hz.pv zGX U)<|Lf 14 22 U (fun _=>q_m U)<|L7 (j:=15) (dd:=23) (by kernel_rfl) U z2j z2k U U (Z:=Z) (Pr:=(p69 Z)) y72 U U zGW zGY ?_
 rintro z15E z15F zRa z15G ⟨z15H,z15I,rfl,z15J⟩
 refine Lf 16 24 U (fun _=>ya yf0 U U)<|Lj 17 25 U (yc ys U<|y1c hz.pv zRa U)<|L4 18 26 U (zb Tryz.call160<|.r2 U U) (cc hz .nil fun w pz ho=>y8R zR8 w pz )<|Lf 19 7 U (fun _=>q_m U)<|Lf 20 27 U (fun _=>y8y U U)<|Lf 21 28 U (fun _=>y8y U U) (WD.new (i:=22) (dd:=5) U (by kernel_rfl) U U U (yv (cs:=[(vi 0),(vi 0)]) zW U) (fun h'=>absurd h' (by decide)) fun z15K _=>WD.forced0 (i:=23) U (by kernel_rfl) U U U (Sin.of .nil) (yl zA U U U .here U U U)<|Lf 24 6 U (fun _=>q_z U)<|WD.done (by kernel_rfl)<|Lb<|WC.b<|Ld<|Le 29 (yi zg U (yk .here) U)<|Lk U U (yl zA U U U .h1 U U U)<|WL.nil<|Lb<|WC.ret ?_)
 obtain rfl:=oJ h
 refine Lh Tryz.results121 (.agg U zg U (yk .here) .nil)<|fun w hw=>?_
 exact⟨yC U,hw.sub (.s2 .h2 .h2)⟩
def y1Y(z1r:z1):Option Bool:=
 (if (((decide (z1r.fD≥1))&&(decide (z1r.fD≤1073741824)))&&(decide (z1r.fN≥(-1073741824))))&&(decide (z1r.fN≤1073741824)) then(y6d z1r.fN).bind fun zGZ=>(y6d z1r.fD).bind fun zH0=>(y5d zGZ zH0).bind fun zH1=>some (decide (zH1=1)) else some false).bind fun zx4=>some zx4
theorem y2T{Z:Zp}{z1r:z1}{r:Bool}(h:y1Y z1r=some r)(w₀:World)(hz:PZ [] w₀ Z):
  Calls Tryz.prog 130 #[(.agg #[(vi z1r.fN),(vi z1r.fD)])] w₀ fun e w'=>e = .returned (.bool r)∧Hp [] w₀ w' []:=by
 unfold y1Y at h
 refine L5 Tryz.func130 Tryz.ntmps130 ?_
 refine WC.b<|Ld (Lg 1 (yH (cs:=[(vi z1r.fN),(vi z1r.fD)]) U U) fun zx5 _=>La U<|WL.nil<|Lb<|WC.b ?_)
 obtain⟨zx4,zH2,h⟩:=za h
 let D:Value:=(.bool ((decide (z1r.fD≥1))&&(decide (z1r.fD≤1073741824))));refine Lx (fun i=>[].contains i) [] U (Lf 0 3 U (fun _=>ya y37 U U) (Lj 1 4 U (yc ys U (yh .here U)) (Lf 2 5 U (fun _=>q_geq U U) (Lf 3 6 U (fun _=>q_m U) (Kg (fuel':=21) [(1,(vp zx5)),(2,(.bool false)),(6,(.bool (decide (z1r.fD≥1)))),(10,D)] (y2d 29 [7,6,5,4,3,2,1,0]) ?_ (fun zH3=>?_))))))
 rotate_left
 ·rcases Bool.eq_false_or_eq_true (decide (z1r.fD≥1)) with hb' | hb'
  ·have zx6:=hb';clear hb'
   refine L3 (i:=6) U zx6<|Lf 4 7 U (fun _=>ya y37 U U)<|Lj 5 8 U (yc ys U<|yh .here U)<|Lf 6 9 U (fun _=>q_leq U U)<|Lf 7 10 U (fun _=>y4w U U)<|Ly (.cons .here .nil) ?_ zH3
   exact .r4 U U (zO<|Eq.symm zx6)<|zO<|y3v zx6
  ·have zx7:=hb';clear hb'
   refine L3 (i:=6) U zx7<|Lp 4 7 U<|Lp 5 8 U<|Lp 6 9 U<|Lf 7 10 U (fun _=>y4x U U)<|Ly (.cons .here .nil) ?_ zH3
   exact .r4 U U (zO<|Eq.symm zx7)<|zO<|y3u zx7
 let C:Value:=(.bool (((decide (z1r.fD≥1))&&(decide (z1r.fD≤1073741824)))&&(decide (z1r.fN≥(-1073741824)))));refine WD.d #[true,true,true,true,true,true,true,true,false,false,false,false,false,false,false,false,false,false,false,false,false,false,false,false,false,false,false,false,false] (by kernel_rfl) (Lf 8 11 U (fun _=>q_m U) (Kg (fuel':=16) [(1,(vp zx5)),(2,(.bool false)),(11,D),(15,C)] (y2d 29 [12,11,10,9,8,7,6,5,4,3,2,1,0]) ?_ (fun zH4=>?_)))
 rotate_left
 ·rcases Bool.eq_false_or_eq_true ((decide (z1r.fD≥1))&&(decide (z1r.fD≤1073741824))) with hb' | hb'
  ·have zx8:=hb';clear hb'
   refine L3 (i:=11) U zx8<|Lf 9 12 U (fun _=>ya y2C U U)<|Lj 10 13 U (yc ys U<|yh .here U)<|Lf 11 14 U (fun _=>q_geq U U)<|Lf 12 15 U (fun _=>y4w U U)<|Ly (.cons .here .nil) ?_ zH4
   exact .r4 U U (zO<|Eq.symm zx8)<|zO<|y3v zx8
  ·have zx9:=hb';clear hb'
   refine L3 (i:=11) U zx9<|Lp 9 12 U<|Lp 10 13 U<|Lp 11 14 U<|Lf 12 15 U (fun _=>y4x U U)<|Ly (.cons .here .nil) ?_ zH4
   exact .r4 U U (zO<|Eq.symm zx9)<|zO<|y3u zx9
 let A:Value:=(.bool ((((decide (z1r.fD≥1))&&(decide (z1r.fD≤1073741824)))&&(decide (z1r.fN≥(-1073741824))))&&(decide (z1r.fN≤1073741824))));refine WD.d #[true,true,true,true,true,true,true,true,true,true,true,true,true,false,false,false,false,false,false,false,false,false,false,false,false,false,false,false,false] (by kernel_rfl) (Lf 13 16 U (fun _=>q_m U) (Kg (fuel':=11) [(1,(vp zx5)),(2,(.bool false)),(16,C),(20,A)] (y2d 29 [17,16,15,14,13,12,11,10,9,8,7,6,5,4,3,2,1,0]) ?_ (fun zH5=>?_)))
 rotate_left
 ·rcases Bool.eq_false_or_eq_true (((decide (z1r.fD≥1))&&(decide (z1r.fD≤1073741824)))&&(decide (z1r.fN≥(-1073741824)))) with hb' | hb'
  ·have zxa:=hb';clear hb'
   refine L3 (i:=16) U zxa<|Lf 14 17 U (fun _=>ya y2C U U)<|Lj 15 18 U (yc ys U<|yh .here U)<|Lf 16 19 U (fun _=>q_leq U U)<|Lf 17 20 U (fun _=>y4w U U)<|Ly (.cons .here .nil) ?_ zH5
   exact .r4 U U (zO<|Eq.symm zxa)<|zO<|y3v zxa
  ·have zxb:=hb';clear hb'
   refine L3 (i:=16) U zxb<|Lp 14 17 U<|Lp 15 18 U<|Lp 16 19 U<|Lf 17 20 U (fun _=>y4x U U)<|Ly (.cons .here .nil) ?_ zH5
   exact .r4 U U (zO<|Eq.symm zxb)<|zO<|y3u zxb
 refine WD.d #[true,true,true,true,true,true,true,true,true,true,true,true,true,true,true,true,true,true,false,false,false,false,false,false,false,false,false,false,false] (by kernel_rfl)<|Lf 18 21 U (fun _=>q_m U)<|Kg (fuel':=1) [(2,(.bool false)),(21,A),(30,(.bool zx4))] (y2d 29 [27,26,25,24,23,22,21,20,19,18,17,16,15,14,13,12,11,10,9,8,7,6,5,4,3,2,1,0]) ?_<|fun zH6=>?_
 rotate_left
 ·rcases Bool.eq_false_or_eq_true ((((decide (z1r.fD≥1))&&(decide (z1r.fD≤1073741824)))&&(decide (z1r.fN≥(-1073741824))))&&(decide (z1r.fN≤1073741824))) with hb' | hb'
  ·have zxc:=hb';clear hb'
   have zbS:=yq zH2 zxc
   obtain⟨zGZ,zRb,zbS⟩:=za zbS
   obtain⟨zH0,zRc,zbS⟩:=za zbS
   obtain⟨zH1,zRd,zbS⟩:=za zbS
   replace zbS:=oJ zbS
   refine L3 (i:=21) U zxc<|Lf 19 22 U (fun _=>ya y2C U U)<|Lj 20 23 U (yc ys U<|yh .here U)<|L4 21 24 U (zb Tryz.call166<|.cons U .nil) (cc hz .nil fun w pz ho=>ya4 zRb w pz )<|Lf 22 25 U (fun _=>ya y37 U U)<|Lj 23 26 U (yc ys U<|yh .here U)<|L4 24 27 U (zb Tryz.call166<|.cons U .nil) (cc hz .nil fun w pz ho=>ya4 zRc w pz )<|L4 25 28 U (zb Tryz.call165<|.r2 U U) (cc hz .nil fun w pz ho=>yav zRd w pz )<|Lf 26 29 U (fun _=>ybz U U)<|Lf 27 30 U (fun _=>y4w U U)<|Ly (.cons .here .nil) ?_ zH6
   exact .r3 U (zO<|Eq.symm zxc)<|zO zbS
  ·have zxd:=hb';clear hb'
   have zxe:=yr zH2 zxd
   replace zxe:=oJ zxe
   refine L3 (i:=21) U zxd<|Lp 19 22 U<|Lp 20 23 U<|Lp 21 24 U<|Lp 22 25 U<|Lp 23 26 U<|Lp 24 27 U<|Lp 25 28 U<|Lp 26 29 U<|Lf 27 30 U (fun _=>y4x U U)<|Ly (.cons .here .nil) ?_ zH6
   exact .r3 U (zO<|Eq.symm zxd)<|zO zxe
 refine WD.d #[true,true,true,true,true,true,true,true,true,true,true,true,true,true,true,true,true,true,true,true,true,true,true,true,true,true,true,true,false] (by kernel_rfl)<|Lf 28 2 U (fun _=>q_z U)<|WD.done (by kernel_rfl)<|Lb<|WC.ret ?_
 obtain rfl:=oJ h
 refine Lh Tryz.results130 (.tmp U .nil)<|fun w hw=>?_
 exact⟨yC U,hw.sub .nil⟩
def ya5(zjc:z1)(zjd:z1):Option (Int×Int):=
 some ((i64 (zjc.fN*zjd.fN)),(i64 (zjc.fD*zjd.fD)))
theorem yi7{Z:Zp}{zH7:Addr}{zH8:Addr}{zjc:z1}{zjd:z1}{r:Int×Int}(h:ya5 zjc zjd=some r)(w₀:World)(hz:PZ [] w₀ Z)(zH9:ZC Z zH7 [(vi zjc.fN),(vi zjc.fD)])(zHa:ZC Z zH8 [(vi zjd.fN),(vi zjd.fD)]):
  Calls Tryz.prog 189 #[(vq zH7),(vq zH8)] w₀ fun e w'=>e = .returned (.tuple #[(vi r.1),(vi r.2)])∧Hp [] w₀ w' []:=by
 unfold ya5 at h
 refine Lz Tryz.func189 Tryz.ntmps189 ?_
 refine WC.b<|Ld<|La U<|La U<|WL.nil<|Lb<|WC.b<|Lx (fun i=>[].contains i) [] U<|Lf 0 4 U (fun _=>ya y2C U U)<|Lj 1 5 U (yc ys U<|y1c hz.pv zH9 U)<|Lf 2 6 U (fun _=>ya y2C U U)<|Lj 3 7 U (yc ys U<|y1c hz.pv zHa U)<|Lf 4 8 U (fun _=>y7k U U U)<|Lf 5 9 U (fun _=>ya y37 U U)<|Lj 6 10 U (yc ys U<|y1c hz.pv zH9 U)<|Lf 7 11 U (fun _=>ya y37 U U)<|Lj 8 12 U (yc ys U<|y1c hz.pv zHa U)<|Lf 9 13 U (fun _=>y7k U U U)<|Lf 10 2 U (fun _=>q_z U)<|Lf 11 3 U (fun _=>q_z U)<|WD.done (by kernel_rfl)<|Lb<|WC.ret ?_
 obtain rfl:=oJ h
 refine Lh Tryz.results189 (.tmp U<|.tmp U .nil)<|fun w hw=>?_
 exact⟨y1R U U,hw.sub .nil⟩
def yaw(ze2:z1)(ze3:z1):Option (z1×Int):=
 (y1Y ze2).bind fun zHb=>(if !zHb then some true else(y1Y ze3).bind fun zHc=>some (!zHc)).bind fun zqr=>if zqr then some ((⟨0,0⟩:z1),2) else(ya5 ze2 ze3).bind fun zxf=>(y5G zxf.1 zxf.2).bind fun zxg=>some (zxg.1,zxg.2)
theorem w_rat_do{Z:Zp}{ze2:z1}{ze3:z1}{r:z1×Int}(h:yaw ze2 ze3=some r)(w₀:World)(hz:PZ [] w₀ Z):
  Calls Tryz.prog 159 #[(.string ⟨#[42]⟩),(.agg #[(vi ze2.fN),(vi ze2.fD)]),(.agg #[(vi ze3.fN),(vi ze3.fD)])] w₀ fun e w'=>e = .returned (.tuple #[(.agg #[(vi r.1.fN),(vi r.1.fD)]),(vi r.2)])∧Hp [] w₀ w' []:=by
 unfold yaw at h
 refine Ke Tryz.func159 Tryz.ntmps159 ?_
 refine WC.b<|Ld (Lg 4 (yH (cs:=[(vi ze2.fN),(vi ze2.fD)]) U U) fun zmX _=>Lg 5 (yH (cs:=[(vi ze3.fN),(vi ze3.fD)]) U U) fun zmY _=>Lg 6 (yv (cs:=[(vi 0),(vi 0)]) zW U) fun z15L _=>La U<|WL.nil<|Lb<|WC.b<|WC.b ?_)
 obtain⟨zHb,zRe,h⟩:=za h
 obtain⟨zqr,zHd,h⟩:=za h
 refine Ld<|Le 9 (yi zg U (yk .h2) U)<|Ll 10 (zb Tryz.call130<|.cons U .nil) .nil (cc hz .nil fun w pz ho=>y2T zRe w pz )<|La U<|La U<|Lv false 3 12 (B:=zqr) U U U U U U (fun h=>(oJ<|yq zHd h).symm) (fun _ zRf=>?_) ?_
 ·skip
  have zmZ:=yr zHd zRf
  obtain⟨zHc,zRg,zmZ⟩:=za zmZ
  replace zmZ:=oJ zmZ
  refine Le 13 (yi zg U (yk .h1) U)<|Ll 14 (zb Tryz.call130<|.cons U .nil) .nil (cc hz .nil fun w pz ho=>y2T zRg w pz )<|La U<|La U ?_
  exact Lw zmZ U U .all
 refine La U<|Lv false 7 17 (B:=zqr) U U U U U U (fun h=>h) (fun _ zRh=>?_) ?_
 ·skip
  refine La U<|Le 19 (ydb (r:=false) (by decide) U U)<|La U<|WL.e U U U<|WL.e U U U<|WL.e U U U<|La U<|La U ?_
  exact Lw (Eq.symm zRh) U U .all
 refine WL.nil<|Lb<|WC.cond U (fun zxh=>?_)<|fun zxh=>?_
 ·replace h:=yq h zxh
  refine WC.b<|Ld<|Le 26 (yL (v:=(.agg #[(vi 0),(vi 0)])) (Lo (l:=[]) .nil []) (fun _=>by kernel_rfl))<|Lk U U (yl zA U U U .here U U U)<|La U<|WL.nil<|Lb<|WC.ret<|Li ?_
  obtain rfl:=oJ h
  refine Lh Tryz.results159 (.agg U zg U (yk .here)<|.tmp U .nil)<|fun w hw=>?_
  exact⟨y1R U U,hw.sub .nil⟩
 ·replace h:=yr h zxh
  refine WC.skip<|Lb<|WC.b<|Ld<|Lg 27 (y3r Value.string<|fun x=>x) ?_
  intro z15M _
  let A:Value:=(.func (.func 189) #[] #[(vp zmX),(vp zmY)]);refine Le 28 (y14 (L2 (l:=[.tmp 4,.tmp 5]) (.r2 U U))) (Lk U U (y43 (k:=⟨#[43]⟩) (v:=(.func (.func 187) #[] #[(vp zmX),(vp zmY)])) y4y Tryz.underlying304 U U U U .here) (Le 29 (y14 (L2 (l:=[.tmp 4,.tmp 5]) (.r2 U U))) (Lk U U (y43 (k:=⟨#[45]⟩) (v:=(.func (.func 188) #[] #[(vp zmX),(vp zmY)])) y4y Tryz.underlying304 U U U U .here) (Le 30 (y14 (L2 (l:=[.tmp 4,.tmp 5]) (.r2 U U))) (Lk U U (y43 (k:=⟨#[42]⟩) (v:=A) y4y Tryz.underlying304 U U U U .here) (Le 31 (y14 (L2 (l:=[.tmp 4,.tmp 5]) (.r2 U U))) (Lk U U (y43 (k:=⟨#[47]⟩) (v:=(.func (.func 190) #[] #[(vp zmX),(vp zmY)])) y4y Tryz.underlying304 U U U U .here) (La U (La U (WL.nil (Lb (WC.b ?_))))))))))))
  obtain⟨zxf,zRi,h⟩:=za h
  obtain⟨zxg,zRj,h⟩:=za h
  refine Ld<|La U<|La U<|Le 35 (yda (k:=⟨#[42]⟩) (dflt:=.nilFunc) (r:=A) y4y Tryz.underlying304 zpE U U U .here (by rfl))<|Ll 36 (y2J (l:=[]) Tryz.call189 U .nil) .nil (ccl hz .nil (.s2 .h3 .h2) fun w pz ho la=>yi7 zRi w pz ((la _ (.head _) _).stb)<|(la _ (.tail _<|.head _) _).stb)<|La U<|La U<|Ll 39 (zb Tryz.call160<|.r2 U U) .nil (cc hz .nil fun w pz ho=>y8R zRj w pz )<|La U<|La U<|Lk U U (yl zA U U U .h1 U U U)<|La U<|WL.nil<|Lb<|WC.ret ?_
  obtain rfl:=oJ h
  refine Lh Tryz.results159 (.agg U zg U (yk .here)<|.tmp U .nil)<|fun w hw=>?_
  exact⟨y1R U U,hw.sub .nil⟩
def y3O(zgq:z1)(zgr:z1):Option (z1×Int):=
 (yaw zgq zgr).bind fun zxi=>some (zxi.1,zxi.2)
theorem ycM{Z:Zp}{zgq:z1}{zgr:z1}{r:z1×Int}(h:y3O zgq zgr=some r)(w₀:World)(hz:PZ [] w₀ Z):
  Calls Tryz.prog 120 #[(.agg #[(vi zgq.fN),(vi zgq.fD)]),(.agg #[(vi zgr.fN),(vi zgr.fD)])] w₀ fun e w'=>e = .returned (.tuple #[(.agg #[(vi r.1.fN),(vi r.1.fD)]),(vi r.2)])∧Hp [] w₀ w' []:=by
 unfold y3O at h
 refine Lz Tryz.func120 Tryz.ntmps120 ?_
 refine WC.b<|Ld (Lg 2 (yH (cs:=[(vi zgq.fN),(vi zgq.fD)]) U U) fun z15N _=>Lg 3 (yH (cs:=[(vi zgr.fN),(vi zgr.fD)]) U U) fun z15O _=>Lg 4 (yv (cs:=[(vi 0),(vi 0)]) zW U) fun z15P _=>La U<|WL.nil<|Lb<|WC.b ?_)
 obtain⟨zxi,zRk,h⟩:=za h
 refine Ld<|Le 6 (yi zg U (yk .h2) U)<|Le 7 (yi zg U (yk .h1) U)<|Ll 8 (zb Tryz.call159<|.r3 U U U) .nil (cc hz .nil fun w pz ho=>w_rat_do zRk w pz )<|La U<|La U<|Lk U U (yl zA U U U .here U U U)<|La U<|WL.nil<|Lb<|WC.ret ?_
 obtain rfl:=oJ h
 refine Lh Tryz.results120 (.agg U zg U (yk .here)<|.tmp U .nil)<|fun w hw=>?_
 exact⟨y1R U U,hw.sub .nil⟩
def y4c(zG:zp)(zac:List (List zd))(ze4:List (zP×z1))(ze5:List (z8×Int))(zbT:Int)(ze6:z1→z1→Option (z1×Int))(ze7:z1)(ze8:z1):Option (z1×Int):=
 (ze6 ze7 ze8).bind fun zad=>jp1 (fun(zbU:Int)=>if decide (zad.2≠0) then(y2I 0).bind fun zHe=>some (zHe,zbU) else some (zad.1,zbU)) fun zqs=>if decide (zbT=0) then zqs zad.2 else zqs zbT
theorem y7n(Z:Zp)(zgs:Nat)(ze9:Option Addr)(zea:Nat)(zeb:Option Addr)(zec:Nat)(zed:Option Addr)(zee:Nat)(zef:Option Addr)(zeg:Nat)(zeh:Option Addr)(zei:Nat)(zej:Option Addr)(zek:Nat)(zel:Option Addr)(zem:Nat)(zen:Option Addr)(zeo:Nat)(zep:Option Addr)(zeq:Nat)(z84:Nat)(z85:Nat)(zbV:FuncId)(zgt:List Value)(zG:zp)(zac:List (List zd))(ze4:List (zP×z1))(ze5:List (z8×Int))(zbT:Int)(ze6:z1→z1→Option (z1×Int))(ze7:z1)(ze8:z1)(r:z1×Int)(h:y4c zG zac ze4 ze5 zbT ze6 ze7 ze8=some r)(w₀:World)(hz:PZ (fps [stb zgs 119 [(.slice ze9 zG.fM.length zea),(.slice zeb zG.fC0.length zec),(.slice zed zG.fS.length zee),(.slice zef zG.fK.length zeg),(.slice zeh zG.fVLs.length zei),(.slice zej zG.fH.length zek),(.slice zel zG.fU.length zem),(.slice zen zG.fV0.length zeo),(.slice zep zac.length zeq),(.map (some z84)),(.map (some z85)),(vi zbT)],yp z84 (fun x=>Value.agg (y2N x).toArray) (fun x=>Value.agg (yA x).toArray) ze4,yp z85 (fun x=>Value.agg (yD x).toArray) (Value.int .i64) ze5]) w₀ Z)(z15Q:ZS Z 4 (y3y Z) ze9 zea zG.fM)(z15R:ZS Z 4 (y4k Z) zeb zec zG.fC0)(z15S:ZS Z 4 (fun r x=>r=e64 x) zed zee zG.fS)(z15T:ZS Z 4 (fun r x=>r=e62 x) zef zeg zG.fK)(z15U:ZS Z 7 (p69 Z) zeh zei zG.fVLs)(z15V:ZS Z 5 (fun r x=>r=y4t x) zej zek zG.fH)(z15W:ZS Z 3 (y4l Z) zel zem zG.fU)(z15X:ZS Z 4 (fun r x=>r=y4u x) zen zeo zG.fV0)(z15Y:ZS Z 1 (p58 Z) zep zeq zac)(zRl:∀ args w,(callFunc zbV args).run Tryz.prog w = .ok (.enter zbV args) w)(zRm:∀ w:World,PZ [] w Z→∀(x0:z1) (x1:z1) (r:z1×Int),ze6 x0 x1=some r→Calls Tryz.prog zbV (([(.agg #[(vi x0.fN),(vi x0.fD)]),(.agg #[(vi x1.fN),(vi x1.fD)])]:List Value)++zgt).toArray w fun e w'=>e = .returned (.tuple #[(.agg #[(vi r.1.fN),(vi r.1.fD)]),(vi r.2)])∧Hp [] w w' [])(hown:Hp (fps [stb zgs 119 [(.slice ze9 zG.fM.length zea),(.slice zeb zG.fC0.length zec),(.slice zed zG.fS.length zee),(.slice zef zG.fK.length zeg),(.slice zeh zG.fVLs.length zei),(.slice zej zG.fH.length zek),(.slice zel zG.fU.length zem),(.slice zen zG.fV0.length zeo),(.slice zep zac.length zeq),(.map (some z84)),(.map (some z85)),(vi zbT)],yp z84 (fun x=>Value.agg (y2N x).toArray) (fun x=>Value.agg (yA x).toArray) ze4,yp z85 (fun x=>Value.agg (yD x).toArray) (Value.int .i64) ze5]) w₀ w₀ [stb zgs 119 [(.slice ze9 zG.fM.length zea),(.slice zeb zG.fC0.length zec),(.slice zed zG.fS.length zee),(.slice zef zG.fK.length zeg),(.slice zeh zG.fVLs.length zei),(.slice zej zG.fH.length zek),(.slice zel zG.fU.length zem),(.slice zen zG.fV0.length zeo),(.slice zep zac.length zeq),(.map (some z84)),(.map (some z85)),(vi zbT)],yp z84 (fun x=>Value.agg (y2N x).toArray) (fun x=>Value.agg (yA x).toArray) ze4,yp z85 (fun x=>Value.agg (yD x).toArray) (Value.int .i64) ze5]):
  Calls Tryz.prog 118 #[(vp zgs),(.func (.func zbV) #[] (zgt).toArray),(.agg #[(vi ze7.fN),(vi ze7.fD)]),(.agg #[(vi ze8.fN),(vi ze8.fD)])] w₀ fun e w'=>e = .returned (.agg #[(vi r.1.fN),(vi r.1.fD)])∧Hp (fps [stb zgs 119 [(.slice ze9 zG.fM.length zea),(.slice zeb zG.fC0.length zec),(.slice zed zG.fS.length zee),(.slice zef zG.fK.length zeg),(.slice zeh zG.fVLs.length zei),(.slice zej zG.fH.length zek),(.slice zel zG.fU.length zem),(.slice zen zG.fV0.length zeo),(.slice zep zac.length zeq),(.map (some z84)),(.map (some z85)),(vi zbT)],yp z84 (fun x=>Value.agg (y2N x).toArray) (fun x=>Value.agg (yA x).toArray) ze4,yp z85 (fun x=>Value.agg (yD x).toArray) (Value.int .i64) ze5]) w₀ w' [stb zgs 119 [(.slice ze9 zG.fM.length zea),(.slice zeb zG.fC0.length zec),(.slice zed zG.fS.length zee),(.slice zef zG.fK.length zeg),(.slice zeh zG.fVLs.length zei),(.slice zej zG.fH.length zek),(.slice zel zG.fU.length zem),(.slice zen zG.fV0.length zeo),(.slice zep zac.length zeq),(.map (some z84)),(.map (some z85)),(vi r.2)],yp z84 (fun x=>Value.agg (y2N x).toArray) (fun x=>Value.agg (yA x).toArray) ze4,yp z85 (fun x=>Value.agg (yD x).toArray) (Value.int .i64) ze5]:=by
 unfold y4c at h
 refine Calls.oh4 Tryz.func118 Tryz.ntmps118 hown ?_
 refine WC.b<|Ld (Lg 6 (yH (cs:=[(vi ze7.fN),(vi ze7.fD)]) U U) fun z15Z _=>Lg 7 (yH (cs:=[(vi ze8.fN),(vi ze8.fD)]) U U) fun z160 _=>Lg 8 (yv (cs:=[(vi 0),(vi 0)]) zW U) fun zHf _=>WL.nil<|Lb<|WC.b ?_)
 obtain⟨zad,zRn,h⟩:=za h
 refine Ld<|La U<|Le 13 (yi zg U (yk .h2) U)<|Le 14 (yi zg U (yk .h1) U)<|Ll 15 (y2J (l:=[.tmp 13,.tmp 14]) (f:=zbV) (caps:=zgt) zRl U<|.r2 U U) .nil (fun w hw=>zRm w (hz.now hw) ze7 ze8 zad  zRn)<|La U<|La U<|La U (Lg 9 (yv (cs:=[(vi 0),(vi 0)]) zW U) fun zHg _=>Lk U U (yl zA U U U .here U U U)<|La U<|WL.nil<|Lb ?_)
 obtain⟨zqs,zRo,h⟩:=y12 h
 let A:Value:=(.slice zeh zG.fVLs.length zei);let C:Value:=(.slice zeb zG.fC0.length zec);let D:Value:=(.slice zen zG.fV0.length zeo);let E:Value:=(.slice ze9 zG.fM.length zea);let F:Value:=(.slice zed zG.fS.length zee);let G:Value:=(.slice zef zG.fK.length zeg);let H:Value:=(.slice zej zG.fH.length zek);let I:Value:=(.slice zel zG.fU.length zem);let J:Value:=(.slice zep zac.length zeq);refine Kf (fun(zbU:Int)=>(zqs zbU=some r)) (fun zbU=>[(8,(vp zHf)),(9,(vp zHg)),(10,(vi zad.2))]) (fun zbU=>[stb zHf 175 [(vi 0),(vi 0)],stb zHg 175 [(vi zad.1.fN),(vi zad.1.fD)],stb zgs 119 [E,C,F,G,A,H,I,D,J,(.map (some z84)),(.map (some z85)),(vi zbU)],yp z84 (fun x=>Value.agg (y2N x).toArray) (fun x=>Value.agg (yA x).toArray) ze4,yp z85 (fun x=>Value.agg (yD x).toArray) (Value.int .i64) ze5]) ?_ ?_
 ·skip
  refine WC.b<|Ld<|La U<|Le 19 (y1e U)<|Le 20 (ya y9e U U)<|Le 21 (yc y3A U<|yh .h4 U)<|La U<|WL.nil<|Lb<|WC.cond U (fun zxj=>?_)<|fun zxj=>?_
  ·replace h:=yq h zxj
   refine Ld<|La U<|La U<|Le 25 (y1e U)<|Le 26 (ya y9e U U)<|Lk U U (y4r (ds:=[E,C,F,G,A,H,I,D,J,(.map<|some z84),(.map<|some z85),(vi zad.2)]) ybh U U U U U .h4 U U)<|WL.nil ?_
   exact Ln zad.2 h (.r3 U U U)<|.s5 .h2 .h1 .here .h2 .h2
  ·replace h:=yr h zxj
   refine WC.skip ?_
   exact Ln zbT h (.r3 U U U)<|.s5 .h1 .here .h2 .h2 .h2
 ·rintro zbU h
  replace h:=(zRo zbU).symm.trans h
  refine WC.b<|WC.b<|Ld<|La U<|La U<|WL.nil<|Lb<|WC.cond U (fun zxk=>?_)<|fun zxk=>?_
  ·replace h:=yq h zxk
   refine WC.b ?_
   obtain⟨zHe,zRp,h⟩:=za h
   refine Ld<|Ll 29 (zb Tryz.call80<|.cons U .nil) .nil (cc hz .nil fun w pz ho=>y5y zRp w pz )<|Lk U U (yl zA U U U .here U U U)<|WL.nil<|Lb<|WC.ret<|Li ?_
   obtain rfl:=oJ h
   refine Lh Tryz.results118 (.agg U zg U (yk .here) .nil)<|fun w hw=>?_
   exact⟨yC U,hw.sub (.s3 .h2 .h2 .h2)⟩
  ·replace h:=yr h zxk
   refine WC.skip<|Lb<|WC.b<|Ld<|Le 30 (yi zg U (yk .h1) U)<|Lk U U (yl zA U U U .here U U U)<|WL.nil<|Lb<|WC.ret ?_
   obtain rfl:=oJ h
   refine Lh Tryz.results118 (.agg U zg U (yk .here) .nil)<|fun w hw=>?_
   exact⟨yC U,hw.sub (.s3 .h2 .h2 .h2)⟩
def ya6(zgu:z1)(zgv:z1):Option (Int×Int):=
 some ((i64 ((i64 (zgu.fN*zgv.fD))+(i64 (zgv.fN*zgu.fD)))),(i64 (zgu.fD*zgv.fD)))
theorem yi8{Z:Zp}{zHh:Addr}{zHi:Addr}{zgu:z1}{zgv:z1}{r:Int×Int}(h:ya6 zgu zgv=some r)(w₀:World)(hz:PZ [] w₀ Z)(zxl:ZC Z zHh [(vi zgu.fN),(vi zgu.fD)])(zxm:ZC Z zHi [(vi zgv.fN),(vi zgv.fD)]):
  Calls Tryz.prog 187 #[(vq zHh),(vq zHi)] w₀ fun e w'=>e = .returned (.tuple #[(vi r.1),(vi r.2)])∧Hp [] w₀ w' []:=by
 unfold ya6 at h
 refine Lz Tryz.func187 Tryz.ntmps187 ?_
 refine WC.b<|Ld<|La U<|La U<|WL.nil<|Lb<|WC.b<|Lx (fun i=>[].contains i) [] U<|Lf 0 4 U (fun _=>ya y2C U U)<|Lj 1 5 U (yc ys U<|y1c hz.pv zxl U)<|Lf 2 6 U (fun _=>ya y37 U U)<|Lj 3 7 U (yc ys U<|y1c hz.pv zxm U)<|Lf 4 8 U (fun _=>y7k U U U)<|Lf 5 9 U (fun _=>ya y2C U U)<|Lj 6 10 U (yc ys U<|y1c hz.pv zxm U)<|Lf 7 11 U (fun _=>ya y37 U U)<|Lj 8 12 U (yc ys U<|y1c hz.pv zxl U)<|Lf 9 13 U (fun _=>y7k U U U)<|Lf 10 14 U (fun _=>y9s U U U)<|Lf 11 15 U (fun _=>ya y37 U U)<|Lj 12 16 U (yc ys U<|y1c hz.pv zxl U)<|Lf 13 17 U (fun _=>ya y37 U U)<|Lj 14 18 U (yc ys U<|y1c hz.pv zxm U)<|Lf 15 19 U (fun _=>y7k U U U)<|Lf 16 2 U (fun _=>q_z U)<|Lf 17 3 U (fun _=>q_z U)<|WD.done (by kernel_rfl)<|Lb<|WC.ret ?_
 obtain rfl:=oJ h
 refine Lh Tryz.results187 (.tmp U<|.tmp U .nil)<|fun w hw=>?_
 exact⟨y1R U U,hw.sub .nil⟩
def y9F(zer:z1)(zes:z1):Option (z1×Int):=
 (y1Y zer).bind fun zHj=>(if !zHj then some true else(y1Y zes).bind fun zHk=>some (!zHk)).bind fun zqt=>if zqt then some ((⟨0,0⟩:z1),2) else(ya6 zer zes).bind fun zxn=>(y5G zxn.1 zxn.2).bind fun zxo=>some (zxo.1,zxo.2)
theorem yiG{Z:Zp}{zer:z1}{zes:z1}{r:z1×Int}(h:y9F zer zes=some r)(w₀:World)(hz:PZ [] w₀ Z):
  Calls Tryz.prog 159 #[(.string ⟨#[43]⟩),(.agg #[(vi zer.fN),(vi zer.fD)]),(.agg #[(vi zes.fN),(vi zes.fD)])] w₀ fun e w'=>e = .returned (.tuple #[(.agg #[(vi r.1.fN),(vi r.1.fD)]),(vi r.2)])∧Hp [] w₀ w' []:=by
 unfold y9F at h
 refine Ke Tryz.func159 Tryz.ntmps159 ?_
 refine WC.b<|Ld (Lg 4 (yH (cs:=[(vi zer.fN),(vi zer.fD)]) U U) fun zn0 _=>Lg 5 (yH (cs:=[(vi zes.fN),(vi zes.fD)]) U U) fun zn1 _=>Lg 6 (yv (cs:=[(vi 0),(vi 0)]) zW U) fun z161 _=>La U<|WL.nil<|Lb<|WC.b<|WC.b ?_)
 obtain⟨zHj,zRq,h⟩:=za h
 obtain⟨zqt,zHl,h⟩:=za h
 refine Ld<|Le 9 (yi zg U (yk .h2) U)<|Ll 10 (zb Tryz.call130<|.cons U .nil) .nil (cc hz .nil fun w pz ho=>y2T zRq w pz )<|La U<|La U<|Lv false 3 12 (B:=zqt) U U U U U U (fun h=>(oJ<|yq zHl h).symm) (fun _ zRr=>?_) ?_
 ·skip
  have zn2:=yr zHl zRr
  obtain⟨zHk,zRs,zn2⟩:=za zn2
  replace zn2:=oJ zn2
  refine Le 13 (yi zg U (yk .h1) U)<|Ll 14 (zb Tryz.call130<|.cons U .nil) .nil (cc hz .nil fun w pz ho=>y2T zRs w pz )<|La U<|La U ?_
  exact Lw zn2 U U .all
 refine La U<|Lv false 7 17 (B:=zqt) U U U U U U (fun h=>h) (fun _ zRt=>?_) ?_
 ·skip
  refine La U<|Le 19 (ydb (r:=false) (by decide) U U)<|La U<|WL.e U U U<|WL.e U U U<|WL.e U U U<|La U<|La U ?_
  exact Lw (Eq.symm zRt) U U .all
 refine WL.nil<|Lb<|WC.cond U (fun zxp=>?_)<|fun zxp=>?_
 ·replace h:=yq h zxp
  refine WC.b<|Ld<|Le 26 (yL (v:=(.agg #[(vi 0),(vi 0)])) (Lo (l:=[]) .nil []) (fun _=>by kernel_rfl))<|Lk U U (yl zA U U U .here U U U)<|La U<|WL.nil<|Lb<|WC.ret<|Li ?_
  obtain rfl:=oJ h
  refine Lh Tryz.results159 (.agg U zg U (yk .here)<|.tmp U .nil)<|fun w hw=>?_
  exact⟨y1R U U,hw.sub .nil⟩
 ·replace h:=yr h zxp
  refine WC.skip<|Lb<|WC.b<|Ld<|Lg 27 (y3r Value.string<|fun x=>x) ?_
  intro z162 _
  let A:Value:=(.func (.func 187) #[] #[(vp zn0),(vp zn1)]);refine Le 28 (y14 (L2 (l:=[.tmp 4,.tmp 5]) (.r2 U U))) (Lk U U (y43 (k:=⟨#[43]⟩) (v:=A) y4y Tryz.underlying304 U U U U .here) (Le 29 (y14 (L2 (l:=[.tmp 4,.tmp 5]) (.r2 U U))) (Lk U U (y43 (k:=⟨#[45]⟩) (v:=(.func (.func 188) #[] #[(vp zn0),(vp zn1)])) y4y Tryz.underlying304 U U U U .here) (Le 30 (y14 (L2 (l:=[.tmp 4,.tmp 5]) (.r2 U U))) (Lk U U (y43 (k:=⟨#[42]⟩) (v:=(.func (.func 189) #[] #[(vp zn0),(vp zn1)])) y4y Tryz.underlying304 U U U U .here) (Le 31 (y14 (L2 (l:=[.tmp 4,.tmp 5]) (.r2 U U))) (Lk U U (y43 (k:=⟨#[47]⟩) (v:=(.func (.func 190) #[] #[(vp zn0),(vp zn1)])) y4y Tryz.underlying304 U U U U .here) (La U (La U (WL.nil (Lb (WC.b ?_))))))))))))
  obtain⟨zxn,zRu,h⟩:=za h
  obtain⟨zxo,zRv,h⟩:=za h
  refine Ld<|La U<|La U<|Le 35 (yda (k:=⟨#[43]⟩) (dflt:=.nilFunc) (r:=A) y4y Tryz.underlying304 zpE U U U .here (by rfl))<|Ll 36 (y2J (l:=[]) Tryz.call187 U .nil) .nil (ccl hz .nil (.s2 .h3 .h2) fun w pz ho la=>yi8 zRu w pz ((la _ (.head _) _).stb)<|(la _ (.tail _<|.head _) _).stb)<|La U<|La U<|Ll 39 (zb Tryz.call160<|.r2 U U) .nil (cc hz .nil fun w pz ho=>y8R zRv w pz )<|La U<|La U<|Lk U U (yl zA U U U .h1 U U U)<|La U<|WL.nil<|Lb<|WC.ret ?_
  obtain rfl:=oJ h
  refine Lh Tryz.results159 (.agg U zg U (yk .here)<|.tmp U .nil)<|fun w hw=>?_
  exact⟨y1R U U,hw.sub .nil⟩
def y1q(zgw:z1)(zgx:z1):Option (z1×Int):=
 (y9F zgw zgx).bind fun zxq=>some (zxq.1,zxq.2)
theorem y6N{Z:Zp}{zgw:z1}{zgx:z1}{r:z1×Int}(h:y1q zgw zgx=some r)(w₀:World)(hz:PZ [] w₀ Z):
  Calls Tryz.prog 119 #[(.agg #[(vi zgw.fN),(vi zgw.fD)]),(.agg #[(vi zgx.fN),(vi zgx.fD)])] w₀ fun e w'=>e = .returned (.tuple #[(.agg #[(vi r.1.fN),(vi r.1.fD)]),(vi r.2)])∧Hp [] w₀ w' []:=by
 unfold y1q at h
 refine Lz Tryz.func119 Tryz.ntmps119 ?_
 refine WC.b<|Ld (Lg 2 (yH (cs:=[(vi zgw.fN),(vi zgw.fD)]) U U) fun z163 _=>Lg 3 (yH (cs:=[(vi zgx.fN),(vi zgx.fD)]) U U) fun z164 _=>Lg 4 (yv (cs:=[(vi 0),(vi 0)]) zW U) fun z165 _=>La U<|WL.nil<|Lb<|WC.b ?_)
 obtain⟨zxq,zRw,h⟩:=za h
 refine Ld<|Le 6 (yi zg U (yk .h2) U)<|Le 7 (yi zg U (yk .h1) U)<|Ll 8 (zb Tryz.call159<|.r3 U U U) .nil (cc hz .nil fun w pz ho=>yiG zRw w pz )<|La U<|La U<|Lk U U (yl zA U U U .here U U U)<|La U<|WL.nil<|Lb<|WC.ret ?_
 obtain rfl:=oJ h
 refine Lh Tryz.results119 (.agg U zg U (yk .here)<|.tmp U .nil)<|fun w hw=>?_
 exact⟨y1R U U,hw.sub .nil⟩
end Go.Proofs.YthjnhebofpebpaaGreat

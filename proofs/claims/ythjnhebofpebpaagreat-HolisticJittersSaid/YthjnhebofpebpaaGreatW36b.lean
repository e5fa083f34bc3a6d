/- A part of this claim's proof: models of functions, walks, plain laws. No conditions. -/
import Derived.Test.YthjnhebofpebpaaGreatW36a
set_option linter.all false
namespace Go.Proofs.YthjnhebofpebpaaGreat
open Go Go.RowKit Sep
set_option maxRecDepth 30000
set_option maxHeartbeats 4000000
def y46(z1z:List (List ze))(z1Q:Int)(zbw:(List z8)→Option (List z8)):Nat→(List z8)→Int→Option (List z8)
 | 0,_,_=>none
 | zv9+1,z3W,z3X=>if decide (z3X<(((nth z1z z1Q).length:Nat):Int)) then jp1 (fun(z9o:List z8)=>y46 z1z z1Q zbw zv9 z9o (i64 (z3X+1))) fun zpB=>chk ((0:Int)≤z3X∧z3X<(((nth z1z z1Q).length:Nat):Int)) ((y4J (⟨((nth (nth z1z z1Q) z3X).fNode),((nth (nth z1z z1Q) z3X).fNext),((nth (nth z1z z1Q) z3X).fQ)⟩:ze)).bind fun zF7=>(y1C z3W zF7).bind fun zF8=>if !zF8 then(y4J (⟨((nth (nth z1z z1Q) z3X).fNode),((nth (nth z1z z1Q) z3X).fNext),((nth (nth z1z z1Q) z3X).fQ)⟩:ze)).bind fun zfV=>chk ((((z3W++([zfV]:List z8)).length:Nat):Int)*16≤140737488355328∧(((z3W++([zfV]:List z8)).length:Nat):Int)≤4611686018427387904) (zpB (z3W++([zfV]:List z8))) else zpB z3W) else zbw z3W
theorem yaW{n:Nat}{z1z:List (List ze)}{z1Q:Int}{zbw:(List z8)→Option (List z8)}{z3W:List z8}{z3X:Int}{r:List z8}(h:y46 z1z z1Q zbw n z3W z3X=some r):∃ m,n=m+1:=by
 cases n with
 | zero=>cases h
 | succ m=>exact⟨m,rfl⟩
def y47(z1z:List (List ze))(zbx:(List z8)→Option (List z8)):Nat→(List z8)→Int→Option (List z8)
 | 0,_,_=>none
 | zva+1,z6L,z1Q=>if decide (z1Q<((z1z.length:Nat):Int)) then jp1 (fun(z9p:List z8)=>y47 z1z zbx zva z9p (i64 (z1Q+1))) fun zvb=>chk ((0:Int)≤z1Q∧z1Q<((z1z.length:Nat):Int)) (jp1 (fun(z9q:List z8)=>zvb z9q) fun zbw=>y46 z1z z1Q zbw yx z6L 0) else zbx z6L
theorem yaX{n:Nat}{z1z:List (List ze)}{zbx:(List z8)→Option (List z8)}{z6L:List z8}{z1Q:Int}{r:List z8}(h:y47 z1z zbx n z6L z1Q=some r):∃ m,n=m+1:=by
 cases n with
 | zero=>cases h
 | succ m=>exact⟨m,rfl⟩
def y6y(z1z:List (List ze)):Option (List z8):=
 jp1 (fun(za4:List z8)=>(y1D za4 (fun(y0:z8) (y1:z8)=>y1v y0 y1)).bind fun zvc=>some zvc) fun zbx=>y47 z1z zbx yx ([]:List z8) 0
theorem yeW{Z:Zp}{zfW:Option Addr}{zfX:Nat}{z1z:List (List ze)}{r:List z8}(h:y6y z1z=some r)(w₀:World)(hz:PZ [] w₀ Z)(zOh:ZS Z 1 (p58 Z) zfW zfX z1z):
  Calls Tryz.prog 73 #[(.slice zfW z1z.length zfX)] w₀ fun e w'=>∃ zF9:Option Addr,∃ zFa:Nat,e = .returned (.slice zF9 r.length zFa)∧True∧Hp [] w₀ w' [row (.slice zF9 r.length zFa) 121 2 (r.flatMap yE)]:=by
 unfold y6y at h
 refine L6 Tryz.func73 Tryz.ntmps73 ?_
 refine WC.b<|Ld<|La U<|WL.nil<|Lb<|WC.b<|Ld<|La U<|WL.nil<|Lb ?_
 obtain⟨zbx,zOi,h⟩:=yZ h
 refine Kc (fun(za4:List z8) (zfY:Option Addr) (zfZ:Nat)=>(zbx za4=some r)) (fun za4 zfY zfZ=>[(3,(.slice zfY za4.length zfZ))]) (fun za4 zfY zfZ=>[row (.slice zfY za4.length zfZ) 121 2 (za4.flatMap yE)]) ?_ ?_
 ·skip
  let A:Value:=(.slice zfW z1z.length zfX);let C:Value:=(vi ((z1z.length:Nat):Int));refine WC.b (Ld (La U (Le 9 (yG Tryz.underlying32 U) (La U (WL.nil (Lb (WC.block (WC.nilRow 121 2 (WC.y7q (fun(zi8:Nat) (z6L:List z8) (z1Q:Int) (zdH:Option Addr) (zdI:Nat)=>(y47 z1z zbx zi8 z6L z1Q=some r)) (fun zi8 z6L z1Q zdH zdI=>[(3,(.slice zdH z6L.length zdI)),(8,A),(9,C),(10,(vi z1Q))]) (fun zi8 z6L z1Q zdH zdI=>[row (.slice zdH z6L.length zdI) 121 2 (z6L.flatMap yE)]) (fun zi8 z6L z1Q zdH zdI=>zi8) ⟨yx,([]:List z8),0,none,0⟩ h (.r4 U U U U) (.cons .here .nil) ?_)))))))))
  rintro zi8 z6L z1Q zdH zdI h
  obtain⟨zva,rfl⟩:=yaX h
  rw[y47] at h
  refine WC.b<|Ld<|La U<|WL.nil<|Lb<|WC.b<|WC.cond U (fun zvd=>?_)<|fun zvd=>?_
  ·replace h:=yr h zvd
   refine WC.skip<|Lb ?_
   obtain⟨zvb,zOj,h⟩:=yZ h
   refine Kc (fun(z9p:List z8) (zi9:Option Addr) (zia:Nat)=>(zvb z9p=some r)) (fun z9p zi9 zia=>[(3,(.slice zi9 z9p.length zia)),(8,A),(9,C),(10,(vi z1Q))]) (fun z9p zi9 zia=>[row (.slice zi9 z9p.length zia) 121 2 (z9p.flatMap yE)]) ?_ ?_
   ·skip
    refine WC.block<|WC.b ?_
    obtain⟨zOk,h⟩:=yl h
    refine Ld<|L0 (dd:=12) U U (Z:=Z) (Pr:=(p58 Z)) y81 U U zOh zOk ?_
    rintro z13W z13X zOl z13Y ⟨zFb,zFc,rfl,zOm⟩
    refine Le 13 (yc y6w U<|y3a hz.pv zOl U)<|La U<|WL.nil<|Lb<|WC.b<|Ld<|La U<|Le 15 (yG Tryz.underlying58 U)<|La U<|WL.nil<|Lb ?_
    obtain⟨zbw,zOn,h⟩:=yZ h
    refine WC.mid3 (fun(z9q:List z8) (zib:Option Addr) (zic:Nat)=>(zbw z9q=some r)) (fun z9q zib zic=>[(3,(.slice zib z9q.length zic)),(8,A),(9,C),(10,(vi z1Q))]) (fun z9q zib zic=>[row (.slice zib z9q.length zic) 121 2 (z9q.flatMap yE)]) ?_ ?_
    ·skip
     let D:Value:=(.slice zFb ((nth z1z z1Q).length) zFc);let E:=(((nth z1z z1Q).length:Nat):Int);refine WC.block (WC.y7q (fun(zid:Nat) (z3W:List z8) (z3X:Int) (zdJ:Option Addr) (zdK:Nat)=>(y46 z1z z1Q zbw zid z3W z3X=some r)) (fun zid z3W z3X zdJ zdK=>[(3,(.slice zdJ z3W.length zdK)),(8,A),(9,C),(10,(vi z1Q)),(14,D),(15,(vi E)),(16,(vi z3X))]) (fun zid z3W z3X zdJ zdK=>[row (.slice zdJ z3W.length zdK) 121 2 (z3W.flatMap yE)]) (fun zid z3W z3X zdJ zdK=>zid) ⟨yx,z6L,0,zdH,zdI⟩ h (.r7 U U U U U U U) (.cons .here .nil) ?_)
     rintro zid z3W z3X zdJ zdK h
     obtain⟨zv9,rfl⟩:=yaW h
     rw[y46] at h
     refine WC.b<|Ld<|La U<|WL.nil<|Lb<|WC.b<|WC.cond U (fun zve=>?_)<|fun zve=>?_
     ·replace h:=yr h zve
      refine WC.skip<|Lb ?_
      obtain⟨zpB,zOo,h⟩:=yZ h
      refine Kc (fun(z9o:List z8) (zie:Option Addr) (zif:Nat)=>(zpB z9o=some r)) (fun z9o zie zif=>[(3,(.slice zie z9o.length zif)),(8,A),(9,C),(10,(vi z1Q)),(14,D),(15,(vi E)),(16,(vi z3X))]) (fun z9o zie zif=>[row (.slice zie z9o.length zif) 121 2 (z9o.flatMap yE)]) ?_ ?_
      ·skip
       refine WC.block<|WC.b ?_
       obtain⟨zOp,h⟩:=yl h
       refine Ld<|L0 (dd:=18) U U (Z:=Z) (Pr:=(fun r x=>r=e60 x)) y5i U U zOm zOp ?_
       rintro z13Z z140 zOq z141 rfl
       refine Le 19 (yh y3z U (y2d hz.pv zOq) U) (Lg 7 (yv (cs:=[(vi 0),(vi 0),(vi 0)]) y5N U) fun z142 _=>Ll U U (yn y60 U U U .here U U U)<|WL.nil<|Lb<|WC.b ?_)
       obtain⟨zF7,zOr,h⟩:=za h
       obtain⟨zF8,zOs,h⟩:=za h
       refine Ld<|La U<|Le 21 (yh y3z U (yj .here) U)<|Lk 22 (zb Tryz.call60<|.cons U .nil) .nil (cc hz .nil fun w pz ho=>y67 zOr w pz )<|Lk 23 (zb Tryz.call114<|.r2 U U) .nil (ccl hz .nil (.cons .h1 .nil) fun w pz ho la=>y6G zOs w pz<|ZA.row (la _ (.head _) _) (RR.flat (enc:=yE) (fun _=>U) _) ⟨w,pz.1⟩)<|La U<|WL.nil<|Lb<|WC.cond U (fun zvf=>?_)<|fun zvf=>?_
       ·replace h:=yr h zvf
        obtain⟨zfV,zOt,h⟩:=za h
        obtain⟨zOu,h⟩:=yl h
        refine Ld<|La U<|Le 26 (yh y3z U (yj .here) U)<|Lk 27 (zb Tryz.call60<|.cons U .nil) .nil (cc hz .nil fun w pz ho=>y67 zOt w pz ) (Lg 28 (yS (cs:=([zfV]:List z8).flatMap yE) z7h (Lp (l:=[.tmp 27]) (.cons U .nil) [0]) (fun _=>by kernel_rfl) U (by unfold maxLen;omega)) fun z143 _=>WL.fA 29 (y4W (enc:=yE) (l1:=z3W) (l2:=([zfV]:List z8)) z7h U U .h2 (fun _=>U) U U (y3u .here) (y5o yb9 _) zOu) ?_)
        rintro⟨zOv,zOw⟩ _
        refine La U<|WL.nil<|Lt ?_
        exact Lo ⟨(z3W++([zfV]:List z8)),zOv,zOw⟩ h (.r7 U U U U U U U)<|.cons .here .nil
       ·replace h:=ys h zvf
        refine WC.skip<|Lt ?_
        exact Lo ⟨z3W,zdJ,zdK⟩ h (.r7 U U U U U U U)<|.cons .h1 .nil
      ·rintro z9o zie zif h
       replace h:=(zOo z9o).symm.trans h
       refine Ld<|La U<|La U<|WL.nil ?_
       exact WX.round ⟨zv9,z9o,(i64 (z3X+1)),zie,zif⟩ h (Nat.lt_succ_self _) (.r7 U U U U U U U)<|.cons .here .nil
     ·replace h:=ys h zve
      refine WC.exit<|Ln<|Ln<|Lu ?_
      exact Lo ⟨z3W,zdJ,zdK⟩ h (.r4 U U U U)<|.cons .here .nil
    ·rintro z9q zib zic h
     replace h:=(zOn z9q).symm.trans h
     refine Lt ?_
     exact Lo ⟨z9q,zib,zic⟩ h (.r4 U U U U)<|.cons .here .nil
   ·rintro z9p zi9 zia h
    replace h:=(zOj z9p).symm.trans h
    refine Ld<|La U<|La U<|WL.nil ?_
    exact WX.round ⟨zva,z9p,(i64 (z1Q+1)),zi9,zia⟩ h (Nat.lt_succ_self _) (.r4 U U U U)<|.cons .here .nil
  ·replace h:=ys h zvd
   refine WC.exit<|Ln<|Ln<|Lu ?_
   exact Lo ⟨z6L,zdH,zdI⟩ h (.cons U .nil)<|.cons .here .nil
 ·rintro za4 zfY zfZ h
  replace h:=(zOi za4).symm.trans h
  refine WC.b ?_
  obtain⟨zvc,zOx,h⟩:=za h
  refine Ld<|La U<|WL.y5h (dd:=33) U U U (zb Tryz.call115<|.r2 U U) (.cons .here .nil) (cc hz (.cons .here .nil) fun w pz ho=>y6H _ _ _ (zi7:=45) (zpA:=[]) _ (zi6:=(fun(y0:z8) (y1:z8)=>y1v y0 y1)) _ zOx w pz Tryz.call45 (fun w' hz' y0 y1  r  hr=>y8G hr w' hz' ) ho) ?_
  rintro  zOy
  refine Kh (i:=3) U (u:=(.slice zfY zvc.length zfZ)) (y9I zOy.symm)<|WL.nil<|Lb<|WC.b<|Ld<|La U<|La U<|WL.nil<|Lb<|WC.ret ?_
  obtain rfl:=oJ h
  refine Lh Tryz.results73 (.tmp U .nil)<|fun w hw=>?_
  exact⟨zfY,zfZ,yD U,trivial,hw.sub (.cons .here .nil)⟩
def y6z(zby:ze)(zpC:Int):Option Bool:=
 some (decide (zby.fNext=zpC))
theorem yeX{Z:Zp}{zFd:Addr}{zby:ze}{zpC:Int}{r:Bool}(h:y6z zby zpC=some r)(w₀:World)(hz:PZ [] w₀ Z)(zOz:ZC Z zFd [(vi zpC)]):
  Calls Tryz.prog 116 #[(.agg #[(vi zby.fNode),(vi zby.fNext),(vi zby.fQ)]),(vq zFd)] w₀ fun e w'=>e = .returned (.bool r)∧Hp [] w₀ w' []:=by
 unfold y6z at h
 refine Lz Tryz.func116 Tryz.ntmps116 ?_
 refine WC.b<|Ld (Lg 2 (yI (cs:=[(vi zby.fNode),(vi zby.fNext),(vi zby.fQ)]) U U) fun z144 _=>La U<|WL.nil<|Lb<|WC.b<|Ld<|Le 4 (ya y5p U U)<|Le 5 (yc yq U<|yi .here U)<|Le 6 (yc yq U<|y3a hz.pv zOz U)<|La U<|La U<|WL.nil<|Lb<|WC.ret ?_)
 obtain rfl:=oJ h
 refine Lh Tryz.results116 (.tmp U .nil)<|fun w hw=>?_
 exact⟨yD U,hw.sub .nil⟩
def y13(z4j:List ze)(z7k:ze→Option Bool)(zbz:Option Int):Nat→Int→Option Int
 | 0,_=>none
 | zvg+1,z3Y=>if decide (z3Y<((z4j.length:Nat):Int)) then chk ((0:Int)≤z3Y∧z3Y<((z4j.length:Nat):Int)) ((z7k (⟨((nth z4j z3Y).fNode),((nth z4j z3Y).fNext),((nth z4j z3Y).fQ)⟩:ze)).bind fun zvh=>if zvh then some z3Y else y13 z4j z7k zbz zvg (i64 (z3Y+1))) else zbz
theorem y6l{n:Nat}{z4j:List ze}{z7k:ze→Option Bool}{zbz:Option Int}{z3Y:Int}{r:Int}(h:y13 z4j z7k zbz n z3Y=some r):∃ m,n=m+1:=by
 cases n with
 | zero=>cases h
 | succ m=>exact⟨m,rfl⟩
def y11(z4j:List ze)(z7k:ze→Option Bool):Option Int:=
 jp0 (some (-1)) fun zbz=>y13 z4j z7k zbz yx 0
theorem y2K(Z:Zp)(zvi:Option Addr)(zvj:Nat)(za5:FuncId)(zdL:List Value)(z4j:List ze)(z7k:ze→Option Bool)(r:Int)(h:y11 z4j z7k=some r)(w₀:World)(hz:PZ [] w₀ Z)(zOA:ZS Z 3 (fun r x=>r=e60 x) zvi zvj z4j)(zOB:∀ args w,(callFunc za5 args).run Tryz.prog w = .ok (.enter za5 args) w)(zOC:∀ w:World,PZ [] w Z→∀(x0:ze) (r:Bool),z7k x0=some r→Calls Tryz.prog za5 (([(.agg #[(vi x0.fNode),(vi x0.fNext),(vi x0.fQ)])]:List Value)++zdL).toArray w fun e w'=>e = .returned (.bool r)∧Hp [] w w' []):
  Calls Tryz.prog 94 #[(.slice zvi z4j.length zvj),(.func (.func za5) #[] (zdL).toArray)] w₀ fun e w'=>e = .returned (vi r)∧Hp [] w₀ w' []:=by
 unfold y11 at h
 refine Lz Tryz.func94 Tryz.ntmps94 ?_
 refine WC.b<|Ld<|La U<|WL.nil<|Lb ?_
 obtain⟨zbz,zOD,h⟩:=y25 h
 refine L8 ((zbz=some r)) ([]) ([]) ?_ ?_
 ·skip
  refine WC.b<|Ld<|La U<|Le 7 (yG Tryz.underlying58 U)<|La U<|WL.nil<|Lb<|WC.block<|L9 (fun(zig:Nat) (z3Y:Int)=>(y13 z4j z7k zbz zig z3Y=some r)) (fun zig z3Y=>[(0,(.slice zvi z4j.length zvj)),(1,(.func (.func za5) #[] (zdL).toArray)),(7,(vi ((z4j.length:Nat):Int))),(8,(vi z3Y))]) (fun zig z3Y=>[]) (fun zig z3Y=>zig) ⟨yx,0⟩ h (.r4 U U U U) .nil ?_
  rintro zig z3Y h
  obtain⟨zvg,rfl⟩:=y6l h
  rw[y13] at h
  refine WC.b<|Ld<|La U<|WL.nil<|Lb<|WC.b<|WC.cond U (fun zvk=>?_)<|fun zvk=>?_
  ·replace h:=yr h zvk
   refine WC.skip<|Lb<|WC.b<|WC.block<|WC.b<|Ld<|La U<|La U<|WL.nil<|Lb<|WC.b ?_
   obtain⟨zOE,h⟩:=yl h
   obtain⟨zvh,zOF,h⟩:=za h
   refine Ld<|La U<|La U<|La U<|L0 (dd:=14) U U (Z:=Z) (Pr:=(fun r x=>r=e60 x)) y5i U U zOA zOE ?_
   rintro z145 z146 zOG z147 rfl
   refine Le 15 (yh y3z U (y2d hz.pv zOG) U)<|Lk 16 (y2G (l:=[.tmp 15]) (f:=za5) (caps:=zdL) zOB U<|.cons U .nil) .nil (fun w hw=>zOC w (hz.now hw) (⟨((nth z4j z3Y).fNode),((nth z4j z3Y).fNext),((nth z4j z3Y).fQ)⟩:ze) zvh  zOF)<|WL.nil<|Lb<|WC.cond U (fun zvl=>?_)<|fun zvl=>?_
   ·replace h:=yr h zvl
    refine WC.b<|Ld<|La U<|La U<|WL.nil<|Lb<|WC.ret<|Lq<|Lj<|Lj<|Lq<|Lj ?_
    obtain rfl:=oJ h
    refine Lh Tryz.results94 (.tmp U .nil)<|fun w hw=>?_
    exact⟨yD U,hw.sub .nil⟩
   ·replace h:=ys h zvl
    refine WC.skip<|Lt<|Lb<|Ld<|La U<|La U<|WL.nil ?_
    exact WX.round ⟨zvg,(i64 (z3Y+1))⟩ h (Nat.lt_succ_self _) (.r4 U U U U) .nil
  ·replace h:=ys h zvk
   refine WC.exit<|Ln<|Ln<|Lu ?_
   exact Lo () h .nil .nil
 ·rintro  h
  replace h:=zOD.symm.trans h
  refine WC.b<|Ld<|La U<|WL.nil<|Lb<|WC.ret ?_
  obtain rfl:=oJ h
  refine Lh Tryz.results94 (.tmp U .nil)<|fun w hw=>?_
  exact⟨yD U,hw.sub .nil⟩
def y5P(zbA:List ze)(zih:Int):Option (ze×Bool):=
 (y11 zbA (fun(y0:ze)=>y6z y0 zih)).bind fun zg0=>if decide (zg0<0) then some ((⟨0,0,0⟩:ze),false) else chk ((0:Int)≤zg0∧zg0<((zbA.length:Nat):Int)) (some ((⟨((nth zbA zg0).fNode),((nth zbA zg0).fNext),((nth zbA zg0).fQ)⟩:ze),true))
theorem yak{Z:Zp}{zFe:Option Addr}{zFf:Nat}{zbA:List ze}{zih:Int}{r:ze×Bool}(h:y5P zbA zih=some r)(w₀:World)(hz:PZ [] w₀ Z)(zFg:ZS Z 3 (fun r x=>r=e60 x) zFe zFf zbA):
  Calls Tryz.prog 77 #[(.slice zFe zbA.length zFf),(vi zih)] w₀ fun e w'=>e = .returned (.tuple #[(.agg #[(vi r.1.fNode),(vi r.1.fNext),(vi r.1.fQ)]),(.bool r.2)])∧Hp [] w₀ w' []:=by
 unfold y5P at h
 refine Lz Tryz.func77 Tryz.ntmps77 ?_
 refine WC.b<|Ld (Lg 3 (yI (cs:=[(vi zih)]) U U) fun zOH _=>Lg 4 (yv (cs:=[(vi 0),(vi 0),(vi 0)]) y5N U) fun z148 _=>La U<|WL.nil<|Lb<|WC.b ?_)
 obtain⟨zg0,zOI,h⟩:=za h
 refine Ld<|La U<|Le 8 (y16<|L3 (l:=[.tmp 3])<|.cons U .nil)<|Lk 9 (zb Tryz.call94<|.r2 U U) .nil (ccl hz .nil (.cons .h1 .nil) fun w pz ho la=>y2K _ _ _ (za5:=116) (zdL:=[(vp zOH)]) _ (z7k:=(fun(y0:ze)=>y6z y0 zih)) _ zOI w pz (zFg.mono<|Zle.left _ _) Tryz.call116<|fun w' hz' y0  r  hr=>yeX hr w' hz'<|(la _ (.head _) _).stb)<|La U<|WL.nil<|Lb<|WC.b<|WC.b<|Ld<|La U<|La U<|WL.nil<|Lb<|WC.cond U (fun zvm=>?_)<|fun zvm=>?_
 ·replace h:=yr h zvm
  refine WC.b<|Ld<|Le 12 (yL (v:=(.agg #[(vi 0),(vi 0),(vi 0)])) (Lp (l:=[]) .nil []) (fun _=>by kernel_rfl))<|Ll U U (yn y60 U U U .here U U U)<|La U<|WL.nil<|Lb<|WC.ret<|Lj ?_
  obtain rfl:=oJ h
  refine Lh Tryz.results77 (.agg U y3z U (yj .here)<|.tmp U .nil)<|fun w hw=>?_
  exact⟨y1R U U,hw.sub .nil⟩
 ·replace h:=ys h zvm
  refine WC.skip<|Lb<|WC.b ?_
  obtain⟨zOJ,h⟩:=yl h
  refine Ld<|La U<|La U<|L0 (dd:=15) U U (Z:=Z) (Pr:=(fun r x=>r=e60 x)) y5i U U zFg zOJ ?_
  rintro z149 z14a zOK z14b rfl
  refine Le 16 (yh y3z U (y2d hz.pv zOK) U)<|Ll U U (yn y60 U U U .here U U U)<|La U<|WL.nil<|Lb<|WC.ret ?_
  obtain rfl:=oJ h
  refine Lh Tryz.results77 (.agg U y3z U (yj .here)<|.tmp U .nil)<|fun w hw=>?_
  exact⟨y1R U U,hw.sub .nil⟩
def y5E(z3b:ze)(zg1:List ze)(z4A:z8)(zdM:List (z8×Int)):Option Bool:=
 (y5P zg1 z3b.fNode).bind fun z23=>(y4J z3b).bind fun z6d=>(if (decide (z6d=z4A))&&z23.2 then(y4J z23.1).bind fun zvn=>some (decide ((yf zdM zvn 0)=0)) else some false).bind fun zvo=>some zvo
theorem ydl{Z:Zp}{zpD:Addr}{zpE:Option Addr}{zpF:Nat}{zpG:Addr}{zpH:Addr}{zii:Nat}{z3b:ze}{zg1:List ze}{z4A:z8}{zdM:List (z8×Int)}{r:Bool}(h:y5E z3b zg1 z4A zdM=some r)(w₀:World)(hz:PZ (fps [ym zii (fun x=>Value.agg (yE x).toArray) (Value.int .i64) zdM]) w₀ Z)(zOL:ZS Z 3 (fun r x=>r=e60 x) zpE zpF zg1)(zOM:ZC Z zpD [(.slice zpE zg1.length zpF)])(zON:ZC Z zpG [(vi z4A.fNode),(vi z4A.fQ)])(zOO:ZC Z zpH [(.map (some zii))])(hown:Hp (fps [ym zii (fun x=>Value.agg (yE x).toArray) (Value.int .i64) zdM]) w₀ w₀ [ym zii (fun x=>Value.agg (yE x).toArray) (Value.int .i64) zdM]):
  Calls Tryz.prog 76 #[(.agg #[(vi z3b.fNode),(vi z3b.fNext),(vi z3b.fQ)]),(vq zpD),(vq zpG),(vq zpH)] w₀ fun e w'=>e = .returned (.bool r)∧Hp (fps [ym zii (fun x=>Value.agg (yE x).toArray) (Value.int .i64) zdM]) w₀ w' [ym zii (fun x=>Value.agg (yE x).toArray) (Value.int .i64) zdM]:=by
 unfold y5E at h
 refine Calls.oh4 Tryz.func76 Tryz.ntmps76 hown ?_
 refine WC.b<|Ld (Lg 4 (yI (cs:=[(vi z3b.fNode),(vi z3b.fNext),(vi z3b.fQ)]) U U) fun zpI _=>La U<|WL.nil<|Lb<|WC.b ?_)
 obtain⟨z23,zOP,h⟩:=za h
 refine Ld<|Le 9 (yc y6w U<|y3a hz.pv zOM U)<|Le 10 (ya y32 U U)<|Le 11 (yc yq U<|yi .here U)<|Lk 12 (zb Tryz.call77<|.r2 U U) .nil (cc hz .nil fun w pz ho=>yak zOP w pz zOL)<|La U<|La U<|La U (Lg 6 (yv (cs:=[(vi 0),(vi 0),(vi 0)]) y5N U) fun zFh _=>Ll U U (yn y60 U U U .here U U U)<|La U<|WL.nil<|Lb<|WC.b ?_)
 obtain⟨z6d,zOQ,h⟩:=za h
 obtain⟨zvo,zFi,h⟩:=za h
 let A:Value:=(.agg #[(vi z23.1.fNode),(vi z23.1.fNext),(vi z23.1.fQ)]);let C:Value:=(.agg #[(vi z3b.fNode),(vi z3b.fNext),(vi z3b.fQ)]);let D:Value:=(.bool (decide (z6d=z4A)));let E:Value:=(.bool ((decide (z6d=z4A))&&z23.2));let F:Value:=(.agg #[(vi z6d.fNode),(vi z6d.fQ)]);let G:Value:=(.agg #[(vi z4A.fNode),(vi z4A.fQ)]);let H:Value:=(.slice zpE zg1.length zpF);refine Lv (fun i=>[].contains i) [] U (Li 0 15 U (yh y3z U (yj .h1) U) (L4 1 16 U (zb Tryz.call60 (.cons U .nil)) (cc hz .nil fun w pz ho=>y67 zOQ w pz ) (Li 2 17 U (yh z5v U (y2d hz.pv zON) U) (Lf 3 18 U (fun _=>y8V (enc:=yE) (a:=z6d) (b:=z4A) zp2 U U) (Lf 4 19 U (fun _=>q_m U) (Kb (fuel':=8) [(0,C),(1,(vq zpD)),(2,(vq zpG)),(3,(vq zpH)),(4,(vp zpI)),(5,(.bool false)),(9,H),(10,(vp zpI)),(11,(vi z3b.fNode)),(12,(.tuple #[A,(.bool z23.2)])),(8,(.tuple #[A,(.bool z23.2)])),(13,A),(14,(.bool z23.2)),(6,(vp zFh)),(7,(.bool z23.2)),(15,C),(16,F),(17,G),(18,D),(19,D),(21,E)] (y1U 15 [6,5,4,3,2,1,0]) ?_ (fun zFj=>?_)))))))
 rotate_left
 ·rcases Bool.eq_false_or_eq_true (decide (z6d=z4A)) with hb' | hb'
  ·have zvp:=hb';clear hb'
   refine L2 (i:=19) U zvp<|Lf 5 20 U (fun _=>q_m U)<|Lf 6 21 U (fun _=>y3x U U)<|Lw (.a3) ?_ zFj
   exact .r21 U U U U U U U U U U U U U U U U U U U (zD<|Eq.symm zvp)<|zD<|y3X zvp
  ·have zvq:=hb';clear hb'
   refine L2 (i:=19) U zvq<|Lm 5 20 U<|Lf 6 21 U (fun _=>y3y U U)<|Lw (.a3) ?_ zFj
   exact .r21 U U U U U U U U U U U U U U U U U U U (zD<|Eq.symm zvq)<|zD<|y3W zvq
 refine Lf 7 22 U (fun _=>q_m U)<|Kb (fuel':=1) [(0,C),(1,(vq zpD)),(2,(vq zpG)),(3,(vq zpH)),(4,(vp zpI)),(5,(.bool false)),(9,H),(10,(vp zpI)),(11,(vi z3b.fNode)),(12,(.tuple #[A,(.bool z23.2)])),(8,(.tuple #[A,(.bool z23.2)])),(13,A),(14,(.bool z23.2)),(6,(vp zFh)),(7,(.bool z23.2)),(15,C),(16,F),(17,G),(18,D),(19,D),(21,E),(22,E),(28,(.bool zvo))] (y1U 15 [13,12,11,10,9,8,7,6,5,4,3,2,1,0]) ?_<|fun zFk=>?_
 rotate_left
 ·rcases Bool.eq_false_or_eq_true ((decide (z6d=z4A))&&z23.2) with hb' | hb'
  ·have zvr:=hb';clear hb'
   have zm6:=yr zFi zvr
   obtain⟨zvn,zOR,zm6⟩:=za zm6
   replace zm6:=oJ zm6
   refine L2 (i:=22) U zvr<|Li 8 23 U (yc zlz U<|y3a hz.pv zOO U)<|Li 9 24 U (yh y3z U (yj .here) U)<|L4 10 25 U (zb Tryz.call60<|.cons U .nil) (cc hz .nil fun w pz ho=>y67 zOR w pz )<|Li 11 26 U (y2C (k:=zvn) (dflt:=(0:Int)) zdA Tryz.underlying117 y2v U U U .h2)<|Lf 12 27 U (fun _=>y9U U U)<|Lf 13 28 U (fun _=>y3x U U)<|Lw (.a3) ?_ zFk
   exact .r23 U U U U U U U U U U U U U U U U U U U U U (zD<|Eq.symm zvr)<|zD zm6
  ·have zvs:=hb';clear hb'
   have zvt:=ys zFi zvs
   replace zvt:=oJ zvt
   refine L2 (i:=22) U zvs<|Lm 8 23 U<|Lm 9 24 U<|Lm 10 25 U<|Lm 11 26 U<|Lm 12 27 U<|Lf 13 28 U (fun _=>y3y U U)<|Lw (.a3) ?_ zFk
   exact .r23 U U U U U U U U U U U U U U U U U U U U U (zD<|Eq.symm zvs)<|zD zvt
 refine Lf 14 5 U (fun _=>q_z U)<|WD.done (by kernel_rfl)<|Lb<|WC.ret ?_
 obtain rfl:=oJ h
 refine Lh Tryz.results76 (.tmp U .nil)<|fun w hw=>?_
 exact⟨yD U,hw.sub (.cons .h2 .nil)⟩
def y12(z5B:List ze)(z9r:List ze)(z9s:z8)(z6e:List (z8×Int))(zbB:Option Int):Nat→Int→Option Int
 | 0,_=>none
 | zvu+1,z52=>if decide (z52<((z5B.length:Nat):Int)) then chk ((0:Int)≤z52∧z52<((z5B.length:Nat):Int)) ((y5E (⟨((nth z5B z52).fNode),((nth z5B z52).fNext),((nth z5B z52).fQ)⟩:ze) z9r z9s z6e).bind fun zFl=>if zFl then some z52 else y12 z5B z9r z9s z6e zbB zvu (i64 (z52+1))) else zbB
theorem y69{n:Nat}{z5B:List ze}{z9r:List ze}{z9s:z8}{z6e:List (z8×Int)}{zbB:Option Int}{z52:Int}{r:Int}(h:y12 z5B z9r z9s z6e zbB n z52=some r):∃ m,n=m+1:=by
 cases n with
 | zero=>cases h
 | succ m=>exact⟨m,rfl⟩
def y2z(z5B:List ze)(z9r:List ze)(z9s:z8)(z6e:List (z8×Int)):Option Int:=
 jp0 (some (-1)) fun zbB=>y12 z5B z9r z9s z6e zbB yx 0
theorem y7k{Z:Zp}{zvv:Option Addr}{zvw:Nat}{zvx:Addr}{zFm:Option Addr}{zFn:Nat}{zvy:Addr}{zvz:Addr}{zdN:Nat}{z5B:List ze}{z9r:List ze}{z9s:z8}{z6e:List (z8×Int)}{r:Int}(h:y2z z5B z9r z9s z6e=some r)(w₀:World)(hz:PZ (fps [ym zdN (fun x=>Value.agg (yE x).toArray) (Value.int .i64) z6e]) w₀ Z)(zOS:ZS Z 3 (fun r x=>r=e60 x) zvv zvw z5B)(zOT:ZS Z 3 (fun r x=>r=e60 x) zFm zFn z9r)(zOU:ZC Z zvx [(.slice zFm z9r.length zFn)])(zOV:ZC Z zvy [(vi z9s.fNode),(vi z9s.fQ)])(zOW:ZC Z zvz [(.map (some zdN))])(hown:Hp (fps [ym zdN (fun x=>Value.agg (yE x).toArray) (Value.int .i64) z6e]) w₀ w₀ [ym zdN (fun x=>Value.agg (yE x).toArray) (Value.int .i64) z6e]):
  Calls Tryz.prog 94 #[(.slice zvv z5B.length zvw),(.func (.func 76) #[] #[(vq zvx),(vq zvy),(vq zvz)])] w₀ fun e w'=>e = .returned (vi r)∧Hp (fps [ym zdN (fun x=>Value.agg (yE x).toArray) (Value.int .i64) z6e]) w₀ w' [ym zdN (fun x=>Value.agg (yE x).toArray) (Value.int .i64) z6e]:=by
 unfold y2z at h
 refine Kg Tryz.func94 Tryz.ntmps94 hown ?_
 refine WC.b<|Ld<|La U<|WL.nil<|Lb ?_
 obtain⟨zbB,zOX,h⟩:=y25 h
 refine L8 ((zbB=some r)) ([]) ([ym zdN (fun x=>Value.agg (yE x).toArray) (Value.int .i64) z6e]) ?_ ?_
 ·skip
  refine WC.b<|Ld<|La U<|Le 7 (yG Tryz.underlying58 U)<|La U<|WL.nil<|Lb<|WC.block<|L9 (fun(zij:Nat) (z52:Int)=>(y12 z5B z9r z9s z6e zbB zij z52=some r)) (fun zij z52=>[(0,(.slice zvv z5B.length zvw)),(1,(.func (.func 76) #[] #[(vq zvx),(vq zvy),(vq zvz)])),(7,(vi ((z5B.length:Nat):Int))),(8,(vi z52))]) (fun zij z52=>[ym zdN (fun x=>Value.agg (yE x).toArray) (Value.int .i64) z6e]) (fun zij z52=>zij) ⟨yx,0⟩ h (.r4 U U U U) (.cons .here .nil) ?_
  rintro zij z52 h
  obtain⟨zvu,rfl⟩:=y69 h
  rw[y12] at h
  refine WC.b<|Ld<|La U<|WL.nil<|Lb<|WC.b<|WC.cond U (fun zvA=>?_)<|fun zvA=>?_
  ·replace h:=yr h zvA
   refine WC.skip<|Lb<|WC.b<|WC.block<|WC.b<|Ld<|La U<|La U<|WL.nil<|Lb<|WC.b ?_
   obtain⟨zOY,h⟩:=yl h
   obtain⟨zFl,zOZ,h⟩:=za h
   refine Ld<|La U<|La U<|La U<|L0 (dd:=14) U U (Z:=Z) (Pr:=(fun r x=>r=e60 x)) y5i U U zOS zOY ?_
   rintro z14c z14d zP0 z14e rfl
   refine Le 15 (yh y3z U (y2d hz.pv zP0) U)<|Lk 16 (y2G (l:=[.tmp 15]) Tryz.call76 U<|.cons U .nil) (.cons .here .nil) (cc hz (.cons .here .nil) fun w pz ho=>ydl zOZ w pz zOT zOU zOV zOW ho)<|WL.nil<|Lb<|WC.cond U (fun zvB=>?_)<|fun zvB=>?_
   ·replace h:=yr h zvB
    refine WC.b<|Ld<|La U<|La U<|WL.nil<|Lb<|WC.ret<|Lq<|Lj<|Lj<|Lq<|Lj ?_
    obtain rfl:=oJ h
    refine Lh Tryz.results94 (.tmp U .nil)<|fun w hw=>?_
    exact⟨yD U,hw.sub (.cons .here .nil)⟩
   ·replace h:=ys h zvB
    refine WC.skip<|Lt<|Lb<|Ld<|La U<|La U<|WL.nil ?_
    exact WX.round ⟨zvu,(i64 (z52+1))⟩ h (Nat.lt_succ_self _) (.r4 U U U U)<|.cons .here .nil
  ·replace h:=ys h zvA
   refine WC.exit<|Ln<|Ln<|Lu ?_
   exact Lo () h .nil<|.cons .here .nil
 ·rintro  h
  replace h:=zOX.symm.trans h
  refine WC.b<|Ld<|La U<|WL.nil<|Lb<|WC.ret ?_
  obtain rfl:=oJ h
  refine Lh Tryz.results94 (.tmp U .nil)<|fun w hw=>?_
  exact⟨yD U,hw.sub (.cons .here .nil)⟩
def y2j(zm7:List ze)(zm8:List ze)(zm9:z8)(zdO:List (z8×Int)):Option Bool:=
 (y2z zm7 zm8 zm9 zdO).bind fun zFo=>some (decide (zFo≥0))
theorem y6Z{Z:Zp}{zFp:Option Addr}{zFq:Nat}{zFr:Addr}{zFs:Option Addr}{zFt:Nat}{zFu:Addr}{zFv:Addr}{zik:Nat}{zm7:List ze}{zm8:List ze}{zm9:z8}{zdO:List (z8×Int)}{r:Bool}(h:y2j zm7 zm8 zm9 zdO=some r)(w₀:World)(hz:PZ (fps [ym zik (fun x=>Value.agg (yE x).toArray) (Value.int .i64) zdO]) w₀ Z)(zP1:ZS Z 3 (fun r x=>r=e60 x) zFp zFq zm7)(zP2:ZS Z 3 (fun r x=>r=e60 x) zFs zFt zm8)(zP3:ZC Z zFr [(.slice zFs zm8.length zFt)])(zP4:ZC Z zFu [(vi zm9.fNode),(vi zm9.fQ)])(zP5:ZC Z zFv [(.map (some zik))])(hown:Hp (fps [ym zik (fun x=>Value.agg (yE x).toArray) (Value.int .i64) zdO]) w₀ w₀ [ym zik (fun x=>Value.agg (yE x).toArray) (Value.int .i64) zdO]):
  Calls Tryz.prog 75 #[(.slice zFp zm7.length zFq),(.func (.func 76) #[] #[(vq zFr),(vq zFu),(vq zFv)])] w₀ fun e w'=>e = .returned (.bool r)∧Hp (fps [ym zik (fun x=>Value.agg (yE x).toArray) (Value.int .i64) zdO]) w₀ w' [ym zik (fun x=>Value.agg (yE x).toArray) (Value.int .i64) zdO]:=by
 unfold y2j at h
 refine Kg Tryz.func75 Tryz.ntmps75 hown ?_
 refine WC.b<|Ld<|La U<|WL.nil<|Lb<|WC.b ?_
 obtain⟨zFo,zP6,h⟩:=za h
 refine Ld<|La U<|La U<|Lk 7 (zb Tryz.call94<|.r2 U U) (.cons .here .nil) (cc hz (.cons .here .nil) fun w pz ho=>y7k zP6 w pz zP1 zP2 zP3 zP4 zP5 ho)<|La U<|La U<|WL.nil<|Lb<|WC.ret ?_
 obtain rfl:=oJ h
 refine Lh Tryz.results75 (.tmp U .nil)<|fun w hw=>?_
 exact⟨yD U,hw.sub (.cons .here .nil)⟩
def y6a(zg2:List ze)(zma:z8)(zdP:List (z8×Int)):Option Bool:=
 (y2j zg2 zg2 zma zdP).bind fun zFw=>some zFw
theorem yej{Z:Zp}{zvC:Option Addr}{zvD:Nat}{zFx:Addr}{zFy:Addr}{zil:Nat}{zg2:List ze}{zma:z8}{zdP:List (z8×Int)}{r:Bool}(h:y6a zg2 zma zdP=some r)(w₀:World)(hz:PZ (fps [ym zil (fun x=>Value.agg (yE x).toArray) (Value.int .i64) zdP]) w₀ Z)(zFz:ZS Z 3 (fun r x=>r=e60 x) zvC zvD zg2)(zP7:ZC Z zFx [(vi zma.fNode),(vi zma.fQ)])(zP8:ZC Z zFy [(.map (some zil))])(hown:Hp (fps [ym zil (fun x=>Value.agg (yE x).toArray) (Value.int .i64) zdP]) w₀ w₀ [ym zil (fun x=>Value.agg (yE x).toArray) (Value.int .i64) zdP]):
  Calls Tryz.prog 74 #[(.slice zvC zg2.length zvD),(vq zFx),(vq zFy)] w₀ fun e w'=>e = .returned (.bool r)∧Hp (fps [ym zil (fun x=>Value.agg (yE x).toArray) (Value.int .i64) zdP]) w₀ w' [ym zil (fun x=>Value.agg (yE x).toArray) (Value.int .i64) zdP]:=by
 unfold y6a at h
 refine Calls.oh3 Tryz.func74 Tryz.ntmps74 hown ?_
 refine WC.b<|Ld (Lg 3 (yI (cs:=[(.slice zvC zg2.length zvD)]) U U) fun z14f _=>La U<|WL.nil<|Lb<|WC.b ?_)
 obtain⟨zFw,zP9,h⟩:=za h
 refine Ld<|Le 5 (yc y6w U<|yi .here U)<|Le 6 (y16<|L3 (l:=[.tmp 3,.tmp 1,.tmp 2])<|.r3 U U U)<|Lk 7 (zb Tryz.call75<|.r2 U U) (.cons .h1 .nil) (ccl hz (.cons .h1 .nil) (.cons .here .nil) fun w pz ho la=>y6Z zP9 w pz (zFz.mono<|Zle.left _ _) (zFz.mono<|Zle.left _ _) ((la _ (.head _) _).stb) (zP7.mono<|Zle.left _ _) (zP8.mono<|Zle.left _ _) ho)<|La U<|WL.nil<|Lb<|WC.ret ?_
 obtain rfl:=oJ h
 refine Lh Tryz.results74 (.tmp U .nil)<|fun w hw=>?_
 exact⟨yD U,hw.sub (.cons .here .nil)⟩
def yV(z6M:List (List ze))(z9t:z8)(z6f:List (z8×Int))(zbC:Option Int):Nat→Int→Option Int
 | 0,_=>none
 | zvE+1,z6g=>if decide (z6g<((z6M.length:Nat):Int)) then chk ((0:Int)≤z6g∧z6g<((z6M.length:Nat):Int)) ((y6a (nth z6M z6g) z9t z6f).bind fun zFA=>if zFA then some z6g else yV z6M z9t z6f zbC zvE (i64 (z6g+1))) else zbC
theorem y5S{n:Nat}{z6M:List (List ze)}{z9t:z8}{z6f:List (z8×Int)}{zbC:Option Int}{z6g:Int}{r:Int}(h:yV z6M z9t z6f zbC n z6g=some r):∃ m,n=m+1:=by
 cases n with
 | zero=>cases h
 | succ m=>exact⟨m,rfl⟩
def y2k(z6M:List (List ze))(z9t:z8)(z6f:List (z8×Int)):Option Int:=
 jp0 (some (-1)) fun zbC=>yV z6M z9t z6f zbC yx 0
theorem y70{Z:Zp}{zvF:Option Addr}{zvG:Nat}{zvH:Addr}{zvI:Addr}{zdQ:Nat}{z6M:List (List ze)}{z9t:z8}{z6f:List (z8×Int)}{r:Int}(h:y2k z6M z9t z6f=some r)(w₀:World)(hz:PZ (fps [ym zdQ (fun x=>Value.agg (yE x).toArray) (Value.int .i64) z6f]) w₀ Z)(zPa:ZS Z 1 (p58 Z) zvF zvG z6M)(zPb:ZC Z zvH [(vi z9t.fNode),(vi z9t.fQ)])(zPc:ZC Z zvI [(.map (some zdQ))])(hown:Hp (fps [ym zdQ (fun x=>Value.agg (yE x).toArray) (Value.int .i64) z6f]) w₀ w₀ [ym zdQ (fun x=>Value.agg (yE x).toArray) (Value.int .i64) z6f]):
  Calls Tryz.prog 92 #[(.slice zvF z6M.length zvG),(.func (.func 74) #[] #[(vq zvH),(vq zvI)])] w₀ fun e w'=>e = .returned (vi r)∧Hp (fps [ym zdQ (fun x=>Value.agg (yE x).toArray) (Value.int .i64) z6f]) w₀ w' [ym zdQ (fun x=>Value.agg (yE x).toArray) (Value.int .i64) z6f]:=by
 unfold y2k at h
 refine Kg Tryz.func92 Tryz.ntmps92 hown ?_
 refine WC.b<|Ld<|La U<|WL.nil<|Lb ?_
 obtain⟨zbC,zPd,h⟩:=y25 h
 refine L8 ((zbC=some r)) ([]) ([ym zdQ (fun x=>Value.agg (yE x).toArray) (Value.int .i64) z6f]) ?_ ?_
 ·skip
  refine WC.b<|Ld<|La U<|Le 7 (yG Tryz.underlying32 U)<|La U<|WL.nil<|Lb<|WC.block<|L9 (fun(zim:Nat) (z6g:Int)=>(yV z6M z9t z6f zbC zim z6g=some r)) (fun zim z6g=>[(0,(.slice zvF z6M.length zvG)),(1,(.func (.func 74) #[] #[(vq zvH),(vq zvI)])),(7,(vi ((z6M.length:Nat):Int))),(8,(vi z6g))]) (fun zim z6g=>[ym zdQ (fun x=>Value.agg (yE x).toArray) (Value.int .i64) z6f]) (fun zim z6g=>zim) ⟨yx,0⟩ h (.r4 U U U U) (.cons .here .nil) ?_
  rintro zim z6g h
  obtain⟨zvE,rfl⟩:=y5S h
  rw[yV] at h
  refine WC.b<|Ld<|La U<|WL.nil<|Lb<|WC.b<|WC.cond U (fun zvJ=>?_)<|fun zvJ=>?_
  ·replace h:=yr h zvJ
   refine WC.skip<|Lb<|WC.b<|WC.block<|WC.b<|Ld<|La U<|La U<|WL.nil<|Lb<|WC.b ?_
   obtain⟨zPe,h⟩:=yl h
   obtain⟨zFA,zPf,h⟩:=za h
   refine Ld<|La U<|La U<|La U<|L0 (dd:=14) U U (Z:=Z) (Pr:=(p58 Z)) y81 U U zPa zPe ?_
   rintro z14g z14h zPg z14i ⟨z14j,z14k,rfl,zPh⟩
   refine Le 15 (yc y6w U<|y3a hz.pv zPg U)<|Lk 16 (y2G (l:=[.tmp 15]) Tryz.call74 U<|.cons U .nil) (.cons .here .nil) (cc hz (.cons .here .nil) fun w pz ho=>yej zPf w pz zPh zPb zPc ho)<|WL.nil<|Lb<|WC.cond U (fun zvK=>?_)<|fun zvK=>?_
   ·replace h:=yr h zvK
    refine WC.b<|Ld<|La U<|La U<|WL.nil<|Lb<|WC.ret<|Lq<|Lj<|Lj<|Lq<|Lj ?_
    obtain rfl:=oJ h
    refine Lh Tryz.results92 (.tmp U .nil)<|fun w hw=>?_
    exact⟨yD U,hw.sub (.cons .here .nil)⟩
   ·replace h:=ys h zvK
    refine WC.skip<|Lt<|Lb<|Ld<|La U<|La U<|WL.nil ?_
    exact WX.round ⟨zvE,(i64 (z6g+1))⟩ h (Nat.lt_succ_self _) (.r4 U U U U)<|.cons .here .nil
  ·replace h:=ys h zvJ
   refine WC.exit<|Ln<|Ln<|Lu ?_
   exact Lo () h .nil<|.cons .here .nil
 ·rintro  h
  replace h:=zPd.symm.trans h
  refine WC.b<|Ld<|La U<|WL.nil<|Lb<|WC.ret ?_
  obtain rfl:=oJ h
  refine Lh Tryz.results92 (.tmp U .nil)<|fun w hw=>?_
  exact⟨yD U,hw.sub (.cons .here .nil)⟩
def y1y(zmb:List (List ze))(zmc:z8)(zdR:List (z8×Int)):Option Bool:=
 (y2k zmb zmc zdR).bind fun zFB=>some (decide (zFB≥0))
theorem y6A{Z:Zp}{zFC:Option Addr}{zFD:Nat}{zFE:Addr}{zFF:Addr}{zin:Nat}{zmb:List (List ze)}{zmc:z8}{zdR:List (z8×Int)}{r:Bool}(h:y1y zmb zmc zdR=some r)(w₀:World)(hz:PZ (fps [ym zin (fun x=>Value.agg (yE x).toArray) (Value.int .i64) zdR]) w₀ Z)(zPi:ZS Z 1 (p58 Z) zFC zFD zmb)(zPj:ZC Z zFE [(vi zmc.fNode),(vi zmc.fQ)])(zPk:ZC Z zFF [(.map (some zin))])(hown:Hp (fps [ym zin (fun x=>Value.agg (yE x).toArray) (Value.int .i64) zdR]) w₀ w₀ [ym zin (fun x=>Value.agg (yE x).toArray) (Value.int .i64) zdR]):
  Calls Tryz.prog 50 #[(.slice zFC zmb.length zFD),(.func (.func 74) #[] #[(vq zFE),(vq zFF)])] w₀ fun e w'=>e = .returned (.bool r)∧Hp (fps [ym zin (fun x=>Value.agg (yE x).toArray) (Value.int .i64) zdR]) w₀ w' [ym zin (fun x=>Value.agg (yE x).toArray) (Value.int .i64) zdR]:=by
 unfold y1y at h
 refine Kg Tryz.func50 Tryz.ntmps50 hown ?_
 refine WC.b<|Ld<|La U<|WL.nil<|Lb<|WC.b ?_
 obtain⟨zFB,zPl,h⟩:=za h
 refine Ld<|La U<|La U<|Lk 7 (zb Tryz.call92<|.r2 U U) (.cons .here .nil) (cc hz (.cons .here .nil) fun w pz ho=>y70 zPl w pz zPi zPj zPk ho)<|La U<|La U<|WL.nil<|Lb<|WC.ret ?_
 obtain rfl:=oJ h
 refine Lh Tryz.results50 (.tmp U .nil)<|fun w hw=>?_
 exact⟨yD U,hw.sub (.cons .here .nil)⟩
def y8I(l:List z8)(i j:Int):Option (List z8):=chk (((0:Int)≤i∧i≤j∧j≤l.length)∧l.length*16≤140737488355328) (some (l.take i.toNat++l.drop j.toNat))
theorem yek(Z:Zp)(ao:Option Addr)(cap:Nat)(l:List z8)(i j:Int)(r:List z8)(w₀:World)(hz:PZ (fps [row (.slice ao l.length cap) 121 2 (l.flatMap yE)]) w₀ Z)(h:y8I l i j=some r)(hown:Hp (fps [row (.slice ao l.length cap) 121 2 (l.flatMap yE)]) w₀ w₀ [row (.slice ao l.length cap) 121 2 (l.flatMap yE)]):
  Calls Tryz.prog 78 #[.slice ao l.length cap,.int .i64 i,.int .i64 j] w₀ fun e w'=>∃ aor:Option Addr,∃ capr:Nat,e = .returned (.slice aor r.length capr)∧True∧Hp (fps [row (.slice ao l.length cap) 121 2 (l.flatMap yE)]) w₀ w' [row (.slice aor r.length capr) 121 2 (r.flatMap yE)]:=by
 obtain⟨⟨c1,c2⟩,h⟩:=yl h
 obtain rfl:=oJ h
 clear h
 refine Calls.oh3 Tryz.func78 Tryz.ntmps78 hown ?_
 refine WC.b<|Ld<|La U<|WL.nil<|Lb<|WC.b<|Ld<|La U<|La U<|La U<|La U<|Le 12 (yG Tryz.underlying112 U) (Ki (fun w h=>h.rowShape .here) fun hs=>?_)
 obtain⟨hs1,hs2,hs3,_⟩:=hs
 refine Le 13 (q_slice3 z7h U U U U (by omega) (by omega) (by omega) (by omega))<|WL.nil<|Lb<|WC.b<|WC.b<|Ld<|La U<|La U<|La U<|WL.nil<|Lb<|WC.cond U (fun hb=>?_)<|fun hb=>?_
 ·have e:i=j:=by simpa using hb
  refine WC.b<|Ld<|La U<|La U<|WL.nil<|Lb<|WC.ret<|Lj<|Lh Tryz.results78 (.tmp U .nil)<|fun w hw=>?_
  have e2:l.take i.toNat++l.drop j.toNat=l:=by subst e;exact List.take_append_drop _ _
  rw[e2];exact⟨ao,cap,yD U,trivial,hw.sub (.cons .here .nil)⟩
 ·have hne:i<j:=by
   have:i≠j:=by simpa using hb
   omega
  clear hb
  refine WC.skip<|Lb<|WC.b<|Ld<|La U<|Le 19 (yG Tryz.underlying112 U)<|La U<|WL.nil<|Lb<|WC.b<|WC.know (fun w hw=>Hp.y2u .here hw (by omega)) ?_
  rintro⟨b,rfl⟩
  have hlen:(l.take i.toNat++l.drop j.toNat).length=i.toNat+(l.length-j.toNat):=by rw[List.length_append,List.length_take,List.length_drop];omega
  refine Lv (fun i=>[6].contains i) [] U<|Lf 0 20 U (fun _=>q_m U)<|Lf 1 21 U (fun _=>q_m U)<|Lf 2 22 U (fun _=>y7D (lo:=0) (hi:=i.toNat) (lv:=none) (hv:=some (vi i)) z7h U (fun _ _ _=>U) (fun a w h=>by rw[Option.map_some,h.eval U]) U (by show i=_;omega) (by omega) (by omega) (by simp))<|WD.repin (i:=22) U (u:=.slice (some ⟨b,0,none⟩) i.toNat cap) (by split <;> simp[Addr.add])<|Lf 3 23 U (fun _=>q_m U)<|Lf 4 24 U (fun _=>q_m U)<|Lf 5 25 U (fun _=>y7D (lo:=j.toNat) (hi:=l.length) (lv:=some (vi j)) (hv:=none) z7h U (fun a w h=>by rw[Option.map_some,h.eval U]) (fun _ _ _=>U) (by show j=_;omega) U (by omega) (by omega)<|fun _=>hs2) (WD.old (i:=6) (dd:=26) U (by kernel_rfl) U U U U (fun _=>Sin.of .nil) (yhP (i:=i.toNat) (j:=j.toNat) (m:=l.length) (cs:=l.flatMap yE) z7h U U (fun hk=>if_neg (by omega)) .here (by omega) (by omega) (y5o yb9 _) (by omega)) fun tl _=>Lf 7 0 U (fun _=>q_z U)<|WD.done (by kernel_rfl)<|Lb<|WC.b<|Ld<|La U<|La U<|Le 29 (yG Tryz.underlying112 U)<|La U<|Le 31 (y7D (lo:=i.toNat+(l.length-j.toNat)) (hi:=l.length) (lv:=some (vi ((i.toNat+(l.length-j.toNat):Nat):Int))) (hv:=some (vi ((l.length:Nat):Int))) z7h U (fun a w h=>by rw[Option.map_some,h.eval U]) (fun a w h=>by rw[Option.map_some,h.eval U]) U U (by omega) (by omega) (by simp))<|Ll U U (ydr (i:=i.toNat+(l.length-j.toNat)) z7h zly U U (by omega) (yh9 (enc:=yE) (sz:=2) (z0:=((⟨0,0⟩:z8):z8)) (fun _=>U) (by decide) U yb9) .here U)<|WL.nil<|Lb<|WC.b<|Ld<|La U<|La U<|WL.nil<|Lb<|WC.ret<|Lh Tryz.results78 (.tmp U .nil)<|fun w hw=>?_)
  rw[hlen]
  refine⟨some ⟨b,0,none⟩,cap,yD U,trivial,?_⟩
  have h5:=Hp.rowShort (m:=l.length) (i:=i.toNat+(l.length-j.toNat)) (R:=[]) .here (by omega) hw
  have e1:(l.flatMap yE).take (i.toNat*2)=(l.take i.toNat).flatMap yE:=yaN (enc:=yE) (sz:=2) (fun _=>U) l i.toNat (by omega)
  have e2:(l.flatMap yE).drop (j.toNat*2)=(l.drop j.toNat).flatMap yE:=ycr (enc:=yE) (sz:=2) (fun _=>U) l j.toNat (by omega)
  have e3:((l.take i.toNat++l.drop j.toNat).flatMap yE).length=(i.toNat+(l.length-j.toNat))*2:=by rw[y7r (sz:=2) (fun _=>U),hlen]
  rw[e1,e2,← List.flatMap_append,← e3,List.take_left,List.take_left] at h5
  exact h5.sub<|.cons .here .nil
def y3N(zL:List z8)(z3Z:List (List ze))(z3m:List (z8×Int))(z2w:List z8)(zbD:(List z8)→(List z8)→(List (z8×Int))→Option (List z8×Int))(zbE:Option (List z8×Int)):Nat→Int→Option (List z8×Int)
 | 0,_=>none
 | zvL+1,zX=>if decide (zX<((zL.length:Nat):Int)) then chk ((0:Int)≤zX∧zX<((zL.length:Nat):Int)) ((y1y z3Z (⟨((nth zL zX).fNode),((nth zL zX).fQ)⟩:z8) z3m).bind fun zFG=>if !zFG then chk ((((z2w++([(⟨((nth zL zX).fNode),((nth zL zX).fQ)⟩:z8)]:List z8)).length:Nat):Int)*16≤140737488355328∧(((z2w++([(⟨((nth zL zX).fNode),((nth zL zX).fQ)⟩:z8)]:List z8)).length:Nat):Int)≤4611686018427387904) ((y8I zL zX (i64 (zX+1))).bind fun zpJ=>zbD zpJ (z2w++([(⟨((nth zL zX).fNode),((nth zL zX).fQ)⟩:z8)]:List z8)) (yF z3m (⟨((nth zL zX).fNode),((nth zL zX).fQ)⟩:z8) (i64 ((yf z3m (⟨((nth zL zX).fNode),((nth zL zX).fQ)⟩:z8) 0)+1)))) else y3N zL z3Z z3m z2w zbD zbE zvL (i64 (zX+1))) else zbE
theorem ybi{n:Nat}{zL:List z8}{z3Z:List (List ze)}{z3m:List (z8×Int)}{z2w:List z8}{zbD:(List z8)→(List z8)→(List (z8×Int))→Option (List z8×Int)}{zbE:Option (List z8×Int)}{zX:Int}{r:List z8×Int}(h:y3N zL z3Z z3m z2w zbD zbE n zX=some r):∃ m,n=m+1:=by
 cases n with
 | zero=>cases h
 | succ m=>exact⟨m,rfl⟩
def y3O(z3Z:List (List ze))(zbF:(List z8)→Option (List z8×Int)):Nat→(List z8)→(List z8)→(List (z8×Int))→Option (List z8×Int)
 | 0,_,_,_=>none
 | zvM+1,zL,z2w,z3m=>if decide (((zL.length:Nat):Int)>0) then jp3 (fun(z9u:List z8) (z9v:List z8) (zbG:List (z8×Int))=>y3O z3Z zbF zvM z9u z9v zbG) fun zbD=>jp0 (some (([]:List z8),351)) fun zbE=>y3N zL z3Z z3m z2w zbD zbE yx 0 else zbF z2w
theorem ybj{n:Nat}{z3Z:List (List ze)}{zbF:(List z8)→Option (List z8×Int)}{zL:List z8}{z2w:List z8}{z3m:List (z8×Int)}{r:List z8×Int}(h:y3O z3Z zbF n zL z2w z3m=some r):∃ m,n=m+1:=by
 cases n with
 | zero=>cases h
 | succ m=>exact⟨m,rfl⟩
def y5B(z3Z:List (List ze)):Option (List z8×Int):=
 (y6y z3Z).bind fun zvN=>jp1 (fun(za6:List z8)=>some (za6,0)) fun zbF=>y3O z3Z zbF yx zvN ([]:List z8) ([]:List (z8×Int))
theorem ycf{Z:Zp}{zmd:Option Addr}{zme:Nat}{z3Z:List (List ze)}{r:List z8×Int}(h:y5B z3Z=some r)(w₀:World)(hz:PZ [] w₀ Z)(zFH:ZS Z 1 (p58 Z) zmd zme z3Z):
  Calls Tryz.prog 42 #[(.slice zmd z3Z.length zme)] w₀ fun e w'=>∃ zFI:Option Addr,∃ zFJ:Nat,e = .returned (.tuple #[(.slice zFI r.1.length zFJ),(vi r.2)])∧True∧Hp [] w₀ w' [row (.slice zFI r.1.length zFJ) 121 2 (r.1.flatMap yE)]:=by
 unfold y5B at h
 refine L6 Tryz.func42 Tryz.ntmps42 ?_
 refine WC.b<|Ld<|La U<|La U<|WL.nil<|Lb<|WC.scope<|WC.b ?_
 obtain⟨zvN,zPm,h⟩:=za h
 refine Ld<|La U<|WL.y4b (dd:=11) U U U (zb Tryz.call73<|.cons U .nil) .nil (cc hz .nil fun w pz ho=>yeW zPm w pz zFH) ?_
 rintro zPn zPo _
 refine La U<|WL.nil<|Lb<|WC.b<|Ld (Lg 12 (y3b (fun x=>Value.agg (yE x).toArray)<|Value.int .i64) fun zg3 _=>Lg 5 (yv (cs:=[(.map none)]) zM0 U) fun zio _=>Ll U U (yn zM1 U U U .here U U U)<|WL.nil<|Lb<|WC.b<|Ld<|La U<|WL.nil<|Lb<|WC.b<|WC.label<|Lb ?_)
 obtain⟨zbF,zPp,h⟩:=yZ h
 refine Kc (fun(za6:List z8) (ziq:Option Addr) (zir:Nat)=>(zbF za6=some r)) (fun za6 ziq zir=>[(6,(.slice ziq za6.length zir))]) (fun za6 ziq zir=>[row (.slice ziq za6.length zir) 121 2 (za6.flatMap yE)]) ?_ ?_
 ·skip
  let A:Value:=(.slice zmd z3Z.length zme);refine WC.block (WC.nilRow 121 2 (WC.yag (fun(zis:Nat) (zL:List z8) (z2w:List z8) (z3m:List (z8×Int)) (zbH:Option Addr) (za7:Nat) (zbI:Option Addr) (zbJ:Nat)=>(y3O z3Z zbF zis zL z2w z3m=some r)) (fun zis zL z2w z3m zbH za7 zbI zbJ=>[(0,A),(4,(.slice zbH zL.length za7)),(5,(vp zio)),(6,(.slice zbI z2w.length zbJ))]) (fun zis zL z2w z3m zbH za7 zbI zbJ=>[row (.slice zbH zL.length za7) 121 2 (zL.flatMap yE),row (.slice zbI z2w.length zbJ) 121 2 (z2w.flatMap yE),stb zio 117 [(.map (some zg3))],ym zg3 (fun x=>Value.agg (yE x).toArray) (Value.int .i64) z3m]) (fun zis zL z2w z3m zbH za7 zbI zbJ=>zis) ⟨yx,zvN,([]:List z8),([]:List (z8×Int)),zPn,zPo,none,0⟩ h (.r4 U U U U) (.s4 .h3 .here .here .here) ?_))
  rintro zis zL z2w z3m zbH za7 zbI zbJ h
  obtain⟨zvM,rfl⟩:=ybj h
  rw[y3O] at h
  refine WC.b<|WC.b<|Ld<|La U<|Le 14 (yG Tryz.underlying112 U)<|La U<|WL.nil<|Lb<|WC.cond U (fun zvO=>?_)<|fun zvO=>?_
  ·replace h:=yr h zvO
   refine WC.skip<|Lb ?_
   obtain⟨zbD,zPq,h⟩:=y8U h
   refine WC.mid7 (fun(z9u:List z8) (z9v:List z8) (zbG:List (z8×Int)) (zit:Option Addr) (ziu:Nat) (ziv:Option Addr) (ziw:Nat)=>(zbD z9u z9v zbG=some r)) (fun z9u z9v zbG zit ziu ziv ziw=>[(0,A),(4,(.slice zit z9u.length ziu)),(5,(vp zio)),(6,(.slice ziv z9v.length ziw))]) (fun z9u z9v zbG zit ziu ziv ziw=>[row (.slice zit z9u.length ziu) 121 2 (z9u.flatMap yE),row (.slice ziv z9v.length ziw) 121 2 (z9v.flatMap yE),stb zio 117 [(.map<|some zg3)],ym zg3 (fun x=>Value.agg (yE x).toArray) (Value.int .i64) zbG]) ?_ ?_
   ·skip
    refine WC.block ?_
    obtain⟨zbE,zPr,h⟩:=y25 h
    refine L8 ((zbE=some r)) ([]) ([]) ?_ ?_
    ·skip
     let C:Value:=(.slice zbH zL.length za7);let D:Value:=(.slice zbI z2w.length zbJ);refine WC.b (Ld (La U (Le 17 (yG Tryz.underlying112 U) (La U (WL.nil (Lb (WC.block (L9 (fun(zix:Nat) (zX:Int)=>(y3N zL z3Z z3m z2w zbD zbE zix zX=some r)) (fun zix zX=>[(0,A),(4,C),(5,(vp zio)),(6,D),(16,C),(17,(vi ((zL.length:Nat):Int))),(18,(vi zX))]) (fun zix zX=>[row C 121 2 (zL.flatMap yE),row D 121 2 (z2w.flatMap yE),stb zio 117 [(.map (some zg3))],ym zg3 (fun x=>Value.agg (yE x).toArray) (Value.int .i64) z3m]) (fun zix zX=>zix) ⟨yx,0⟩ h (.r7 U U U U U U U) (.a4) ?_))))))))
     rintro zix zX h
     obtain⟨zvL,rfl⟩:=ybi h
     rw[y3N] at h
     refine WC.b<|Ld<|La U<|WL.nil<|Lb<|WC.b<|WC.cond U (fun zvP=>?_)<|fun zvP=>?_
     ·replace h:=yr h zvP
      refine WC.skip<|Lb<|WC.b<|WC.block<|WC.b ?_
      obtain⟨zmf,h⟩:=yl h
      refine Ld<|La U<|Ki (fun w hw=>Hp.y2u .here hw (by intro hz';have:=zmf;rw[hz'] at this;omega)) ?_
      rintro⟨zPs,rfl⟩
      refine Le 21 (yW z7h U U zmf.1 zmf.2 y30)<|Le 22 (y14 (cs:=(yE<|nth zL zX)) z5v U U<|y4S .here<|y31 (enc:=yE) (l:=zL) (i:=zX) (sz:=2) (fun _=>U) zmf.1 zmf.2) (Lg 8 (yv (cs:=[(vi 0),(vi 0)]) zly U) fun z14l _=>La U<|Ll U U (yn zp1 U U U .here U U U)<|WL.nil<|Lb<|WC.b ?_)
      obtain⟨zFG,zPt,h⟩:=za h
      refine Ld<|La U<|Le 24 (y16<|L3 (l:=[.tmp 8,.tmp 5])<|.r2 U U)<|Lk 25 (zb Tryz.call50<|.r2 U U) (.cons .h4 .nil) (ccl hz (.cons .h4 .nil) (.s2 .here .h2) fun w pz ho la=>y6A zPt w pz ((zFH.mono<|Zle.left _ _).weak (fun _ _ h=>y1B (Zle.left _ _) h)) ((la _ (.head _) _).stb) ((la _ (.tail _<|.head _) _).stb) ho)<|La U<|La U<|WL.nil<|Lb<|WC.b<|Ld<|La U<|WL.nil<|Lb<|WC.cond U (fun zvQ=>?_)<|fun zvQ=>?_
      ·replace h:=yr h zvQ
       refine WC.b<|Lv (fun i=>[4,6].contains i) [yea zg3 (fun x=>Value.agg (yE x).toArray) (Value.int .i64) (⟨((nth zL zX).fNode),((nth zL zX).fQ)⟩:z8) (0:Int) (yf z3m (⟨((nth zL zX).fNode),((nth zL zX).fQ)⟩:z8) 0)] U<|Li 0 28 U (yc zlz U<|yi .h4 U)<|Li 1 29 U (yh z5v U (yj .h1) U)<|L7 2 30 U (Sin.wk (.cons .here .nil)<|.any U (fun _ h=>y7t h) .nil) (yfg (k:=(⟨((nth zL zX).fNode),((nth zL zX).fQ)⟩:z8)) (dflt:=(0:Int)) zdA Tryz.underlying117 y2v U U U .here)<|Lf 3 31 U (fun _=>y8w U U U)<|WD.oldQ (i:=4) (dd:=32) U (by kernel_rfl) U U U U (yhM (k:=(⟨((nth zL zX).fNode),((nth zL zX).fQ)⟩:z8)) (dflt:=(0:Int)) zdA Tryz.underlying117 y2v U U U .here) (fun _=>(Sin.wk (.cons .here .nil)<|.any U (fun _ h=>yim h) .nil)) ?_
       rintro z14m _
       refine Lf 5 33 U (fun _=>y8f U U)<|Kd (i:=6) U (by kernel_rfl) U U U (by kernel_rfl) (yfD (k:=(⟨((nth zL zX).fNode),((nth zL zX).fQ)⟩:z8)) (v:=i64 ((yf z3m (⟨((nth zL zX).fNode),((nth zL zX).fQ)⟩:z8) 0)+1)) U U U U .here)<|WD.done (by kernel_rfl)<|Lb<|WC.b ?_
       obtain⟨zPu,h⟩:=yl h
       refine Ld<|La U<|Le 35 (yh z5v U (yj .h1) U) (Lg 36 (yS (cs:=([(⟨((nth zL zX).fNode),((nth zL zX).fQ)⟩:z8)]:List z8).flatMap yE) z7h (Lp (l:=[.tmp 35]) (.cons U .nil) [0]) (fun _=>by kernel_rfl) U (by unfold maxLen;omega)) fun z14n _=>WL.fA 37 (y4W (enc:=yE) (l1:=z2w) (l2:=([(⟨((nth zL zX).fNode),((nth zL zX).fQ)⟩:z8)]:List z8)) z7h U U .h4 (fun _=>U) U U (y3u .here) (y5o yb9 _) zPu) ?_)
       rintro⟨zPv,zPw⟩ _
       refine La U<|WL.nil<|Lb<|WC.b ?_
       obtain⟨zpJ,zPx,h⟩:=za h
       refine Ld<|La U<|La U<|La U<|La U<|WL.y4b (dd:=42) U U U (zb Tryz.call78<|.r3 U U U) (.cons .h4 .nil) (cc hz (.cons .h4 .nil) fun w pz ho=>yek (Z:=_) (ao:=(some ⟨zPs,0,none⟩)) (cap:=za7) (l:=zL) (i:=zX) (j:=(i64 (zX+1))) (r:=zpJ) w pz  zPx ho) ?_
       rintro zPy zPz _
       refine La U<|WL.nil<|Lb<|WC.exit<|WX.ycm U<|Ln<|Ln<|WX.ycm U<|Ln<|Lu ?_
       exact Lo ⟨zpJ,(z2w++([(⟨((nth zL zX).fNode),((nth zL zX).fQ)⟩:z8)]:List z8)),(yF z3m (⟨((nth zL zX).fNode),((nth zL zX).fQ)⟩:z8)<|i64 ((yf z3m (⟨((nth zL zX).fNode),((nth zL zX).fQ)⟩:z8) 0)+1)),zPy,zPz,zPv,zPw⟩ h (.r4 U U U U)<|.s4 .here .here .h3 .h1
      ·replace h:=ys h zvQ
       refine WC.skip<|Lt<|Lb<|Ld<|La U<|La U<|WL.nil ?_
       exact WX.round ⟨zvL,(i64 (zX+1))⟩ h (Nat.lt_succ_self _) (.r7 U U U U U U U)<|.s4 .h2 .h2 .h2 .here
     ·replace h:=ys h zvP
      refine WC.exit<|Ln<|Ln<|Lu ?_
      exact Lo () h .nil .nil
    ·rintro  h
     replace h:=zPr.symm.trans h
     refine WC.b<|Ld<|La U<|La U<|WL.nil<|Lb<|WC.ret<|Lq<|Lj<|Lj<|Lq<|Lj<|WX.ydw<|WX.nilRow 121 2 ?_
     obtain rfl:=oJ h
     refine Lh Tryz.results42 (.tmp U<|.tmp U .nil)<|fun w hw=>?_
     exact⟨none,0,y1R U U,trivial,hw.sub (.cons .here .nil)⟩
   ·rintro z9u z9v zbG zit ziu ziv ziw h
    replace h:=(zPq z9u z9v zbG).symm.trans h
    exact WX.round ⟨zvM,z9u,z9v,zbG,zit,ziu,ziv,ziw⟩ h (Nat.lt_succ_self _) (.r4 U U U U)<|.a4
  ·replace h:=ys h zvO
   refine WC.exit<|Ln<|Ln<|Lu ?_
   exact Lo ⟨z2w,zbI,zbJ⟩ h (.cons U .nil)<|.cons .h1 .nil
 ·rintro za6 ziq zir h
  replace h:=(zPp za6).symm.trans h
  refine WC.b<|Ld<|La U<|La U<|La U<|WL.nil<|Lb<|WC.ret<|WX.ydw ?_
  obtain rfl:=oJ h
  refine Lh Tryz.results42 (.tmp U<|.tmp U .nil)<|fun w hw=>?_
  exact⟨ziq,zir,y1R U U,trivial,hw.sub (.cons .here .nil)⟩
def y4p(z2T:List z8×Int)(zbK:(List S36)→Option (List S36×Int)):Nat→(List S36)→Int→Option (List S36×Int)
 | 0,_,_=>none
 | zvR+1,z54,z3c=>if decide (z3c<((z2T.1.length:Nat):Int)) then chk ((0:Int)≤z3c∧z3c<((z2T.1.length:Nat):Int)) (chk ((((z54++([({(nth z2T.1 z3c) with fDelay:=0,fT:=0}:S36)]:List S36)).length:Nat):Int)*32≤140737488355328∧(((z54++([({(nth z2T.1 z3c) with fDelay:=0,fT:=0}:S36)]:List S36)).length:Nat):Int)≤4611686018427387904) (y4p z2T zbK zvR (z54++([({(nth z2T.1 z3c) with fDelay:=0,fT:=0}:S36)]:List S36)) (i64 (z3c+1)))) else zbK z54
theorem ybk{n:Nat}{z2T:List z8×Int}{zbK:(List S36)→Option (List S36×Int)}{z54:List S36}{z3c:Int}{r:List S36×Int}(h:y4p z2T zbK n z54 z3c=some r):∃ m,n=m+1:=by
 cases n with
 | zero=>cases h
 | succ m=>exact⟨m,rfl⟩
def y4X(z2x:zs)(zpK:Int)(ziy:List (List ze)):Option (List S36×Int):=
 (y4c z2x zpK ziy).bind fun zFK=>if !zFK then some (([]:List S36),310) else(y5B ziy).bind fun z2T=>jp1 (fun(za8:List S36)=>some (za8,z2T.2)) fun zbK=>y4p z2T zbK yx ([]:List S36) 0
theorem yfF{Z:Zp}{zvS:Option Addr}{zvT:Nat}{zvU:Option Addr}{zvV:Nat}{zvW:Option Addr}{zvX:Nat}{zvY:Option Addr}{zvZ:Nat}{zw0:Option Addr}{zw1:Nat}{zw2:Option Addr}{zw3:Nat}{zw4:Option Addr}{zw5:Nat}{zw6:Option Addr}{zw7:Nat}{zFL:Option Addr}{zFM:Nat}{z2x:zs}{zpK:Int}{ziy:List (List ze)}{r:List S36×Int}(h:y4X z2x zpK ziy=some r)(w₀:World)(hz:PZ [] w₀ Z)(zPA:ZS Z 4 (y3L Z) zvS zvT z2x.fM)(zPB:ZS Z 4 (y4n Z) zvU zvV z2x.fC0)(zPC:ZS Z 4 (fun r x=>r=e64 x) zvW zvX z2x.fS)(zPD:ZS Z 4 (fun r x=>r=e62 x) zvY zvZ z2x.fK)(zPE:ZS Z 7 (p69 Z) zw0 zw1 z2x.fVLs)(zPF:ZS Z 5 (fun r x=>r=y4C x) zw2 zw3 z2x.fH)(zPG:ZS Z 3 (y4o Z) zw4 zw5 z2x.fU)(zPH:ZS Z 4 (fun r x=>r=y4D x) zw6 zw7 z2x.fV0)(zFN:ZS Z 1 (p58 Z) zFL zFM ziy):
  Calls Tryz.prog 24 #[(.agg #[(.slice zvS z2x.fM.length zvT),(.slice zvU z2x.fC0.length zvV),(.slice zvW z2x.fS.length zvX),(.slice zvY z2x.fK.length zvZ),(.slice zw0 z2x.fVLs.length zw1),(.slice zw2 z2x.fH.length zw3),(.slice zw4 z2x.fU.length zw5),(.slice zw6 z2x.fV0.length zw7)]),(vi zpK),(.slice zFL ziy.length zFM)] w₀ fun e w'=>∃ zFO:Option Addr,∃ zFP:Nat,e = .returned (.tuple #[(.slice zFO r.1.length zFP),(vi r.2)])∧True∧Hp [] w₀ w' [row (.slice zFO r.1.length zFP) 37 4 (r.1.flatMap e37)]:=by
 unfold y4X at h
 refine Ke Tryz.func24 Tryz.ntmps24 ?_
 refine WC.b<|Ld (Lg 3 (yI (cs:=[(.slice zvS z2x.fM.length zvT),(.slice zvU z2x.fC0.length zvV),(.slice zvW z2x.fS.length zvX),(.slice zvY z2x.fK.length zvZ),(.slice zw0 z2x.fVLs.length zw1),(.slice zw2 z2x.fH.length zw3),(.slice zw4 z2x.fU.length zw5),(.slice zw6 z2x.fV0.length zw7)]) U U) fun z14o _=>La U<|La U<|WL.nil<|Lb<|WC.b<|WC.b ?_)
 obtain⟨zFK,zPI,h⟩:=za h
 refine Ld<|Le 13 (yh y1V U (yj .here) U)<|La U<|La U<|Lk 16 (zb Tryz.call22<|.r3 U U U) .nil (cc hz .nil fun w pz ho=>y7h zPI w pz zPA zPB zPC zPD zPE zPF zPG zPH zFN)<|La U<|WL.nil<|Lb<|WC.cond U (fun zw8=>?_)<|fun zw8=>?_
 ·replace h:=yr h zw8
  refine WC.b<|Ld<|La U<|La U<|WL.nil<|Lb<|WC.ret<|Lj<|WX.nilRow 37 4 ?_
  obtain rfl:=oJ h
  refine Lh Tryz.results24 (.tmp U<|.tmp U .nil)<|fun w hw=>?_
  exact⟨none,0,y1R U U,trivial,hw.sub (.cons .here .nil)⟩
 ·replace h:=ys h zw8
  refine WC.skip<|Lb<|WC.b ?_
  obtain⟨z2T,zPJ,h⟩:=za h
  refine Ld<|La U<|WL.y4b (dd:=20) U U U (zb Tryz.call42<|.cons U .nil) .nil (cc hz .nil fun w pz ho=>ycf zPJ w pz zFN) ?_
  rintro zFQ zFR _
  refine La U<|La U<|La U<|La U<|La U<|WL.nil<|Lb<|WC.b<|Ld<|La U<|WL.nil<|Lb ?_
  obtain⟨zbK,zPK,h⟩:=yZ h
  refine Kc (fun(za8:List S36) (ziz:Option Addr) (ziA:Nat)=>(zbK za8=some r)) (fun za8 ziz ziA=>[(9,(vi z2T.2)),(10,(.slice ziz za8.length ziA))]) (fun za8 ziz ziA=>[row (.slice ziz za8.length ziA) 37 4 (za8.flatMap e37)]) ?_ ?_
  ·skip
   let A:Value:=(.slice zFQ z2T.1.length zFR);refine WC.b (Ld (La U (Le 24 (yG Tryz.underlying112 U) (La U (WL.nil (Lb (WC.block (WC.nilRow 37 4 (WC.y7q (fun(ziB:Nat) (z54:List S36) (z3c:Int) (zg4:Option Addr) (zg5:Nat)=>(y4p z2T zbK ziB z54 z3c=some r)) (fun ziB z54 z3c zg4 zg5=>[(9,(vi z2T.2)),(10,(.slice zg4 z54.length zg5)),(23,A),(24,(vi ((z2T.1.length:Nat):Int))),(25,(vi z3c))]) (fun ziB z54 z3c zg4 zg5=>[row (.slice zg4 z54.length zg5) 37 4 (z54.flatMap e37),row A 121 2 (z2T.1.flatMap yE)]) (fun ziB z54 z3c zg4 zg5=>ziB) ⟨yx,([]:List S36),0,none,0⟩ h (.r5 U U U U U) (.a2) ?_)))))))))
   rintro ziB z54 z3c zg4 zg5 h
   obtain⟨zvR,rfl⟩:=ybk h
   rw[y4p] at h
   refine WC.b<|Ld<|La U<|WL.nil<|Lb<|WC.b<|WC.cond U (fun zw9=>?_)<|fun zw9=>?_
   ·replace h:=yr h zw9
    refine WC.skip<|Lb<|WC.b<|WC.block<|WC.b ?_
    obtain⟨zmg,h⟩:=yl h
    refine Ld<|Ki (fun w hw=>Hp.y2u .h1 hw (by intro hz';have:=zmg;rw[hz'] at this;omega)) ?_
    rintro⟨z14p,rfl⟩
    refine Le 27 (yW z7h U U zmg.1 zmg.2 y30)<|Le 28 (y14 (cs:=(yE<|nth z2T.1 z3c)) z5v U U<|y4S .h1<|y31 (enc:=yE) (l:=z2T.1) (i:=z3c) (sz:=2) (fun _=>U) zmg.1 zmg.2) (Lg 12 (yv (cs:=[(vi 0),(vi 0)]) zly U) fun z14q _=>Ll U U (yn zp1 U U U .here U U U)<|WL.nil<|Lb ?_)
    obtain⟨zPL,h⟩:=yl h
    refine Ld<|La U<|Le 30 (ya y94 U U)<|Le 31 (yc yq U<|yi .here U)<|Le 32 (ya yaj U U)<|Le 33 (yc yq U<|yi .here U)<|Le 34 (yL (v:=(.agg #[(vi<|(nth z2T.1 z3c).fNode),(vi<|(nth z2T.1 z3c).fQ),(vi 0),(vi 0)])) (Lp (l:=[.tmp 31,.tmp 33]) (.r2 U U) [0,1]) (fun _=>by kernel_rfl)) (Lg 35 (yS (cs:=([({(nth z2T.1 z3c) with fDelay:=0,fT:=0}:S36)]:List S36).flatMap e37) y5O (Lp (l:=[.tmp 34]) (.cons U .nil) [0]) (fun _=>by kernel_rfl) U (by unfold maxLen;omega)) fun z14r _=>WL.fA 36 (y4W (enc:=e37) (l1:=z54) (l2:=([({(nth z2T.1 z3c) with fDelay:=0,fT:=0}:S36)]:List S36)) y5O U U .h2 (fun _=>U) U U (y3u .here) (y5o yee _) zPL) ?_)
    rintro⟨zPM,zPN⟩ _
    refine La U<|WL.nil<|Lt<|Lb<|Ld<|La U<|La U<|WL.nil ?_
    exact WX.round ⟨zvR,(z54++([({(nth z2T.1 z3c) with fDelay:=0,fT:=0}:S36)]:List S36)),(i64 (z3c+1)),zPM,zPN⟩ h (Nat.lt_succ_self _) (.r5 U U U U U)<|.s2 .here .h2
   ·replace h:=ys h zw9
    refine WC.exit<|Ln<|Ln<|Lu ?_
    exact Lo ⟨z54,zg4,zg5⟩ h (.r2 U U)<|.cons .here .nil
  ·rintro za8 ziz ziA h
   replace h:=(zPK za8).symm.trans h
   refine WC.b<|Ld<|La U<|La U<|La U<|La U<|WL.nil<|Lb<|WC.ret ?_
   obtain rfl:=oJ h
   refine Lh Tryz.results24 (.tmp U<|.tmp U .nil)<|fun w hw=>?_
   exact⟨ziz,ziA,y1R U U,trivial,hw.sub (.cons .here .nil)⟩
def y3q(z9w:Int)(zbL:Option Bool):Nat→Int→Option Bool
 | 0,_=>none
 | zwa+1,z81=>if decide (z81≤12800) then if decide (z81=z9w) then some true else y3q z9w zbL zwa (i64 (z81*2)) else zbL
theorem ycj{n:Nat}{z9w:Int}{zbL:Option Bool}{z81:Int}{r:Bool}(h:y3q z9w zbL n z81=some r):∃ m,n=m+1:=by
 cases n with
 | zero=>cases h
 | succ m=>exact⟨m,rfl⟩
def y83(z9w:Int):Option Bool:=
 jp0 (some false) fun zbL=>y3q z9w zbL yx 100
theorem ygU{Z:Zp}{z9w:Int}{r:Bool}(h:y83 z9w=some r)(w₀:World)(hz:PZ [] w₀ Z):
  Calls Tryz.prog 41 #[(vi z9w)] w₀ fun e w'=>e = .returned (.bool r)∧Hp [] w₀ w' []:=by
 unfold y83 at h
 refine L6 Tryz.func41 Tryz.ntmps41 ?_
 refine WC.b<|Ld<|La U<|WL.nil<|Lb ?_
 obtain⟨zbL,zPO,h⟩:=y25 h
 refine L8 ((zbL=some r)) ([]) ([]) ?_ ?_
 ·skip
  refine WC.b<|Ld<|La U<|WL.nil<|Lb<|WC.block<|L9 (fun(ziC:Nat) (z81:Int)=>(y3q z9w zbL ziC z81=some r)) (fun ziC z81=>[(0,(vi z9w)),(3,(vi z81))]) (fun ziC z81=>[]) (fun ziC z81=>ziC) ⟨yx,100⟩ h (.r2 U U) .nil ?_
  rintro ziC z81 h
  obtain⟨zwa,rfl⟩:=ycj h
  rw[y3q] at h
  refine WC.b<|WC.b<|Ld<|La U<|La U<|WL.nil<|Lb<|WC.cond U (fun zwb=>?_)<|fun zwb=>?_
  ·replace h:=yr h zwb
   refine WC.skip<|Lb<|WC.b<|WC.block<|WC.b<|Ld<|La U<|La U<|La U<|WL.nil<|Lb<|WC.cond U (fun zwc=>?_)<|fun zwc=>?_
   ·replace h:=yr h zwc
    refine WC.b<|Ld<|La U<|WL.nil<|Lb<|WC.ret<|Lq<|Lj<|Lj<|Lq<|Lj ?_
    obtain rfl:=oJ h
    refine Lh Tryz.results41 (.tmp U .nil)<|fun w hw=>?_
    exact⟨yD U,hw.sub .nil⟩
   ·replace h:=ys h zwc
    refine WC.skip<|Lt<|Lb<|Ld<|La U<|La U<|La U<|WL.nil ?_
    exact WX.round ⟨zwa,(i64 (z81*2))⟩ h (Nat.lt_succ_self _) (.r2 U U) .nil
  ·replace h:=ys h zwb
   refine WC.exit<|Ln<|Ln<|Lu ?_
   exact Lo () h .nil .nil
 ·rintro  h
  replace h:=zPO.symm.trans h
  refine WC.b<|Ld<|La U<|WL.nil<|Lb<|WC.ret ?_
  obtain rfl:=oJ h
  refine Lh Tryz.results41 (.tmp U .nil)<|fun w hw=>?_
  exact⟨yD U,hw.sub .nil⟩
def y2Y(z3n:z14):Option Bool:=
 (y83 z3n.fBag).bind fun zpL=>some (((!zpL)||(decide (z3n.fMax<1)))||(decide (z3n.fMax>72)))
theorem ydm{Z:Zp}{zwd:Option Addr}{zwe:Nat}{z3n:z14}{r:Bool}(h:y2Y z3n=some r)(w₀:World)(hz:PZ [] w₀ Z)(z14s:ZS Z 3 (fun r x=>r=e66 x) zwd zwe z3n.fTo):
  Calls Tryz.prog 40 #[(.agg #[(.string z3n.fName),(.string z3n.fFrom.fModule),(.string z3n.fFrom.fPart),(.string z3n.fFrom.fPort),(vi z3n.fBag),(vi z3n.fMax),(.slice zwd z3n.fTo.length zwe)])] w₀ fun e w'=>e = .returned (.bool r)∧Hp [] w₀ w' []:=by
 unfold y2Y at h
 refine L6 Tryz.func40 Tryz.ntmps40 ?_
 refine WC.b<|Ld (Lg 1 (yI (cs:=[(.string z3n.fName),(.string z3n.fFrom.fModule),(.string z3n.fFrom.fPart),(.string z3n.fFrom.fPort),(vi z3n.fBag),(vi z3n.fMax),(.slice zwd z3n.fTo.length zwe)]) U U) fun z14t _=>La U<|WL.nil<|Lb<|WC.b ?_)
 obtain⟨zpL,zPP,h⟩:=za h
 refine Ld<|Le 3 (ya yeR U U)<|Le 4 (yc yq U<|yi .here U)<|Lk 5 (zb Tryz.call41<|.cons U .nil) .nil (cc hz .nil fun w pz ho=>ygU zPP w pz )<|La U<|La U<|Lx false 3 7 (B:=(!zpL)||(decide (z3n.fMax<1))) U U U U U U (fun h=>(y7Q h).symm) (fun _ zPQ=>?_) ?_
 ·skip
  refine Le 8 (ya y7H U U)<|Le 9 (yc yq U<|yi .here U)<|La U<|La U ?_
  exact Ly (y7R zPQ) U U .all
 refine La U<|Lx false 3 12 (B:=((!zpL)||(decide (z3n.fMax<1)))||(decide (z3n.fMax>72))) U U U U U U (fun h=>(y7Q h).symm) (fun _ zPR=>?_) ?_
 ·skip
  refine Le 13 (ya y7H U U)<|Le 14 (yc yq U<|yi .here U)<|La U<|La U ?_
  exact Ly (y7R zPR) U U .all
 refine La U<|WL.nil<|Lb<|WC.ret ?_
 obtain rfl:=oJ h
 refine Lh Tryz.results40 (.tmp U .nil)<|fun w hw=>?_
 exact⟨yD U,hw.sub .nil⟩
def y1b(z2r:List z14)(z9x:z14→Option Bool)(zbM:Option Int):Nat→Int→Option Int
 | 0,_=>none
 | zwf+1,z2k=>if decide (z2k<((z2r.length:Nat):Int)) then chk ((0:Int)≤z2k∧z2k<((z2r.length:Nat):Int)) ((z9x (⟨((nth z2r z2k).fName),(⟨(((nth z2r z2k).fFrom).fModule),(((nth z2r z2k).fFrom).fPart),(((nth z2r z2k).fFrom).fPort)⟩:Sapi_Ref),((nth z2r z2k).fBag),((nth z2r z2k).fMax),((nth z2r z2k).fTo)⟩:z14)).bind fun zwg=>if zwg then some z2k else y1b z2r z9x zbM zwf (i64 (z2k+1))) else zbM
theorem y6O{n:Nat}{z2r:List z14}{z9x:z14→Option Bool}{zbM:Option Int}{z2k:Int}{r:Int}(h:y1b z2r z9x zbM n z2k=some r):∃ m,n=m+1:=by
 cases n with
 | zero=>cases h
 | succ m=>exact⟨m,rfl⟩
def y3h(z2r:List z14)(z9x:z14→Option Bool):Option Int:=
 jp0 (some (-1)) fun zbM=>y1b z2r z9x zbM yx 0
theorem y89(Z:Zp)(zwh:Option Addr)(zwi:Nat)(zg6:FuncId)(zmh:List Value)(z2r:List z14)(z9x:z14→Option Bool)(r:Int)(h:y3h z2r z9x=some r)(w₀:World)(hz:PZ [] w₀ Z)(zPS:ZS Z 7 (p69 Z) zwh zwi z2r)(zPT:∀ args w,(callFunc zg6 args).run Tryz.prog w = .ok (.enter zg6 args) w)(zPU:∀ w:World,PZ [] w Z→∀(x0:z14) (ao0:Option Addr) (cap0:Nat) (r:Bool),ZS Z 3 (fun r x=>r=e66 x) ao0 cap0 x0.fTo→z9x x0=some r→Calls Tryz.prog zg6 (([(.agg #[(.string x0.fName),(.string x0.fFrom.fModule),(.string x0.fFrom.fPart),(.string x0.fFrom.fPort),(vi x0.fBag),(vi x0.fMax),(.slice ao0 x0.fTo.length cap0)])]:List Value)++zmh).toArray w fun e w'=>e = .returned (.bool r)∧Hp [] w w' []):
  Calls Tryz.prog 72 #[(.slice zwh z2r.length zwi),(.func (.func zg6) #[] (zmh).toArray)] w₀ fun e w'=>e = .returned (vi r)∧Hp [] w₀ w' []:=by
 unfold y3h at h
 refine Lz Tryz.func72 Tryz.ntmps72 ?_
 refine WC.b<|Ld<|La U<|WL.nil<|Lb ?_
 obtain⟨zbM,zPV,h⟩:=y25 h
 refine L8 ((zbM=some r)) ([]) ([]) ?_ ?_
 ·skip
  refine WC.b<|Ld<|La U<|Le 7 (yG Tryz.underlying26 U)<|La U<|WL.nil<|Lb<|WC.block<|L9 (fun(ziD:Nat) (z2k:Int)=>(y1b z2r z9x zbM ziD z2k=some r)) (fun ziD z2k=>[(0,(.slice zwh z2r.length zwi)),(1,(.func (.func zg6) #[] (zmh).toArray)),(7,(vi ((z2r.length:Nat):Int))),(8,(vi z2k))]) (fun ziD z2k=>[]) (fun ziD z2k=>ziD) ⟨yx,0⟩ h (.r4 U U U U) .nil ?_
  rintro ziD z2k h
  obtain⟨zwf,rfl⟩:=y6O h
  rw[y1b] at h
  refine WC.b<|Ld<|La U<|WL.nil<|Lb<|WC.b<|WC.cond U (fun zwj=>?_)<|fun zwj=>?_
  ·replace h:=yr h zwj
   refine WC.skip<|Lb<|WC.b<|WC.block<|WC.b<|Ld<|La U<|La U<|WL.nil<|Lb<|WC.b ?_
   obtain⟨zPW,h⟩:=yl h
   obtain⟨zwg,zPX,h⟩:=za h
   refine Ld<|La U<|La U<|La U<|L0 (dd:=14) U U (Z:=Z) (Pr:=(p69 Z)) y9q U U zPS zPW ?_
   rintro z14u z14v zPY z14w ⟨zPZ,zQ0,rfl,zQ1⟩
   refine Le 15 (yh yeS U (y2d hz.pv zPY) U)<|Lk 16 (y2G (l:=[.tmp 15]) (f:=zg6) (caps:=zmh) zPT U<|.cons U .nil) .nil (fun w hw=>zPU w (hz.now hw) (⟨((nth z2r z2k).fName),(⟨(((nth z2r z2k).fFrom).fModule),(((nth z2r z2k).fFrom).fPart),(((nth z2r z2k).fFrom).fPort)⟩:Sapi_Ref),((nth z2r z2k).fBag),((nth z2r z2k).fMax),((nth z2r z2k).fTo)⟩:z14) zPZ zQ0 zwg zQ1 zPX)<|WL.nil<|Lb<|WC.cond U (fun zwk=>?_)<|fun zwk=>?_
   ·replace h:=yr h zwk
    refine WC.b<|Ld<|La U<|La U<|WL.nil<|Lb<|WC.ret<|Lq<|Lj<|Lj<|Lq<|Lj ?_
    obtain rfl:=oJ h
    refine Lh Tryz.results72 (.tmp U .nil)<|fun w hw=>?_
    exact⟨yD U,hw.sub .nil⟩
   ·replace h:=ys h zwk
    refine WC.skip<|Lt<|Lb<|Ld<|La U<|La U<|WL.nil ?_
    exact WX.round ⟨zwf,(i64 (z2k+1))⟩ h (Nat.lt_succ_self _) (.r4 U U U U) .nil
  ·replace h:=ys h zwj
   refine WC.exit<|Ln<|Ln<|Lu ?_
   exact Lo () h .nil .nil
 ·rintro  h
  replace h:=zPV.symm.trans h
  refine WC.b<|Ld<|La U<|WL.nil<|Lb<|WC.ret ?_
  obtain rfl:=oJ h
  refine Lh Tryz.results72 (.tmp U .nil)<|fun w hw=>?_
  exact⟨yD U,hw.sub .nil⟩
def y22(zmi:List z14)(ziE:z14→Option Bool):Option Bool:=
 (y3h zmi ziE).bind fun zFS=>some (decide (zFS≥0))
theorem y7J(Z:Zp)(zFT:Option Addr)(zFU:Nat)(ziF:FuncId)(zpM:List Value)(zmi:List z14)(ziE:z14→Option Bool)(r:Bool)(h:y22 zmi ziE=some r)(w₀:World)(hz:PZ [] w₀ Z)(zQ2:ZS Z 7 (p69 Z) zFT zFU zmi)(zQ3:∀ args w,(callFunc ziF args).run Tryz.prog w = .ok (.enter ziF args) w)(zQ4:∀ w:World,PZ [] w Z→∀(x0:z14) (ao0:Option Addr) (cap0:Nat) (r:Bool),ZS Z 3 (fun r x=>r=e66 x) ao0 cap0 x0.fTo→ziE x0=some r→Calls Tryz.prog ziF (([(.agg #[(.string x0.fName),(.string x0.fFrom.fModule),(.string x0.fFrom.fPart),(.string x0.fFrom.fPort),(vi x0.fBag),(vi x0.fMax),(.slice ao0 x0.fTo.length cap0)])]:List Value)++zpM).toArray w fun e w'=>e = .returned (.bool r)∧Hp [] w w' []):
  Calls Tryz.prog 39 #[(.slice zFT zmi.length zFU),(.func (.func ziF) #[] (zpM).toArray)] w₀ fun e w'=>e = .returned (.bool r)∧Hp [] w₀ w' []:=by
 unfold y22 at h
 refine Lz Tryz.func39 Tryz.ntmps39 ?_
 refine WC.b<|Ld<|La U<|WL.nil<|Lb<|WC.b ?_
 obtain⟨zFS,zQ5,h⟩:=za h
 refine Ld<|La U<|La U<|Lk 7 (zb Tryz.call72<|.r2 U U) .nil (cc hz .nil fun w pz ho=>y89 _ _ _ (zg6:=ziF) (zmh:=zpM) _ (z9x:=ziE) _ zQ5 w pz zQ2 zQ3 zQ4)<|La U<|La U<|WL.nil<|Lb<|WC.ret ?_
 obtain rfl:=oJ h
 refine Lh Tryz.results39 (.tmp U .nil)<|fun w hw=>?_
 exact⟨yD U,hw.sub .nil⟩
def y4r(zbN:ze)(ziG:z8):Option Bool:=
 (y4J zbN).bind fun zwl=>some (decide (zwl=ziG))
theorem ybl{Z:Zp}{zFV:Addr}{zbN:ze}{ziG:z8}{r:Bool}(h:y4r zbN ziG=some r)(w₀:World)(hz:PZ [] w₀ Z)(zQ6:ZC Z zFV [(vi ziG.fNode),(vi ziG.fQ)]):
  Calls Tryz.prog 117 #[(.agg #[(vi zbN.fNode),(vi zbN.fNext),(vi zbN.fQ)]),(vq zFV)] w₀ fun e w'=>e = .returned (.bool r)∧Hp [] w₀ w' []:=by
 unfold y4r at h
 refine Lz Tryz.func117 Tryz.ntmps117 ?_
 refine WC.b<|Ld (Lg 2 (yI (cs:=[(vi zbN.fNode),(vi zbN.fNext),(vi zbN.fQ)]) U U) fun z14x _=>La U<|WL.nil<|Lb<|WC.b ?_)
 obtain⟨zwl,zQ7,h⟩:=za h
 refine Lv (fun i=>[].contains i) [] U<|Li 0 4 U (yh y3z U (yj .here) U)<|L4 1 5 U (zb Tryz.call60<|.cons U .nil) (cc hz .nil fun w pz ho=>y67 zQ7 w pz )<|Li 2 6 U (yh z5v U (y2d hz.pv zQ6) U)<|Lf 3 7 U (fun _=>y8V (enc:=yE) (a:=zwl) (b:=ziG) zp2 U U)<|Lf 4 3 U (fun _=>q_z U)<|WD.done (by kernel_rfl)<|Lb<|WC.ret ?_
 obtain rfl:=oJ h
 refine Lh Tryz.results117 (.tmp U .nil)<|fun w hw=>?_
 exact⟨yD U,hw.sub .nil⟩
def y1k(zmj:List ze)(ziH:ze→Option Bool):Option Bool:=
 (y11 zmj ziH).bind fun zFW=>some (decide (zFW≥0))
theorem y6P(Z:Zp)(zFX:Option Addr)(zFY:Nat)(ziI:FuncId)(zpN:List Value)(zmj:List ze)(ziH:ze→Option Bool)(r:Bool)(h:y1k zmj ziH=some r)(w₀:World)(hz:PZ [] w₀ Z)(zQ8:ZS Z 3 (fun r x=>r=e60 x) zFX zFY zmj)(zQ9:∀ args w,(callFunc ziI args).run Tryz.prog w = .ok (.enter ziI args) w)(zQa:∀ w:World,PZ [] w Z→∀(x0:ze) (r:Bool),ziH x0=some r→Calls Tryz.prog ziI (([(.agg #[(vi x0.fNode),(vi x0.fNext),(vi x0.fQ)])]:List Value)++zpN).toArray w fun e w'=>e = .returned (.bool r)∧Hp [] w w' []):
  Calls Tryz.prog 75 #[(.slice zFX zmj.length zFY),(.func (.func ziI) #[] (zpN).toArray)] w₀ fun e w'=>e = .returned (.bool r)∧Hp [] w₀ w' []:=by
 unfold y1k at h
 refine Lz Tryz.func75 Tryz.ntmps75 ?_
 refine WC.b<|Ld<|La U<|WL.nil<|Lb<|WC.b ?_
 obtain⟨zFW,zQb,h⟩:=za h
 refine Ld<|La U<|La U<|Lk 7 (zb Tryz.call94<|.r2 U U) .nil (cc hz .nil fun w pz ho=>y2K _ _ _ (za5:=ziI) (zdL:=zpN) _ (z7k:=ziH) _ zQb w pz zQ8 zQ9 zQa)<|La U<|La U<|WL.nil<|Lb<|WC.ret ?_
 obtain rfl:=oJ h
 refine Lh Tryz.results75 (.tmp U .nil)<|fun w hw=>?_
 exact⟨yD U,hw.sub .nil⟩
def y2F(zmk:Int):Option z2:=
 some (⟨zmk,1⟩:z2)
theorem y5C{Z:Zp}{zmk:Int}{r:z2}(h:y2F zmk=some r)(w₀:World)(hz:PZ [] w₀ Z):
  Calls Tryz.prog 80 #[(vi zmk)] w₀ fun e w'=>e = .returned (.agg #[(vi r.fN),(vi r.fD)])∧Hp [] w₀ w' []:=by
 unfold y2F at h
 refine L6 Tryz.func80 Tryz.ntmps80 ?_
 refine WC.b<|Ld (Lg 2 (yv (cs:=[(vi 0),(vi 0)]) zV U) fun z14y _=>WL.nil<|Lb<|WC.b<|Ld<|La U<|Le 4 (yL (v:=(.agg #[(vi zmk),(vi 1)])) (Lp (l:=[.tmp 3,.const (vi 1)]) (.r2 U U) [0,1]) (fun _=>by kernel_rfl))<|Ll U U (yn zz U U U .here U U U)<|WL.nil<|Lb<|WC.ret ?_)
 obtain rfl:=oJ h
 refine Lh Tryz.results80 (.agg U zg U (yj .here) .nil)<|fun w hw=>?_
 exact⟨yD U,hw.sub .nil⟩
def y6b(ziJ:Int):Option Int:=
 if decide (ziJ<0) then some (u64 ((u64 (i64 (0-(i64 (ziJ+1)))))+1)) else some (u64 ziJ)
theorem y9X{Z:Zp}{ziJ:Int}{r:Int}(h:y6b ziJ=some r)(w₀:World)(hz:PZ [] w₀ Z):
  Calls Tryz.prog 166 #[(vi ziJ)] w₀ fun e w'=>e = .returned (.int .u64 r)∧Hp [] w₀ w' []:=by
 unfold y6b at h
 refine L6 Tryz.func166 Tryz.ntmps166 ?_
 refine WC.b<|Ld<|La U<|WL.nil<|Lb<|WC.b<|WC.b<|Ld<|La U<|La U<|WL.nil<|Lb<|WC.cond U (fun zwm=>?_)<|fun zwm=>?_
 ·replace h:=yr h zwm
  refine WC.b<|Ld<|La U<|La U<|Le 7 (q_neg U U)<|Le 8 (y8y Tryz.underlying3 Tryz.underlying212 U U)<|La U<|La U<|WL.nil<|Lb<|WC.ret<|Lj ?_
  obtain rfl:=oJ h
  refine Lh Tryz.results166 (.tmp U .nil)<|fun w hw=>?_
  exact⟨yD U,hw.sub .nil⟩
 ·replace h:=ys h zwm
  refine WC.skip<|Lb<|WC.b<|Ld<|La U<|Le 11 (y8y Tryz.underlying3 Tryz.underlying212 U U)<|La U<|WL.nil<|Lb<|WC.ret ?_
  obtain rfl:=oJ h
  refine Lh Tryz.results166 (.tmp U .nil)<|fun w hw=>?_
  exact⟨yD U,hw.sub .nil⟩
def y2r(zbO:Int→Option Int):Nat→Int→Int→Option Int
 | 0,_,_=>none
 | zwn+1,z82,z6N=>if decide (z6N≠0) then chk ((z6N:Int)≠0) (y2r zbO zwn z6N (Int.tmod z82 z6N)) else zbO z82
theorem yal{n:Nat}{zbO:Int→Option Int}{z82:Int}{z6N:Int}{r:Int}(h:y2r zbO n z82 z6N=some r):∃ m,n=m+1:=by
 cases n with
 | zero=>cases h
 | succ m=>exact⟨m,rfl⟩
def y59(zml:Int)(zmm:Int):Option Int:=
 jp1 (fun(zdS:Int)=>some zdS) fun zbO=>y2r zbO yx zml zmm
theorem yam{Z:Zp}{zml:Int}{zmm:Int}{r:Int}(h:y59 zml zmm=some r)(w₀:World)(hz:PZ [] w₀ Z):
  Calls Tryz.prog 165 #[(.int .u64 zml),(.int .u64 zmm)] w₀ fun e w'=>e = .returned (.int .u64 r)∧Hp [] w₀ w' []:=by
 unfold y59 at h
 refine Lz Tryz.func165 Tryz.ntmps165 ?_
 refine WC.b<|Ld<|La U<|WL.nil<|Lb ?_
 obtain⟨zbO,zQc,h⟩:=yZ h
 refine Kf (fun(zdS:Int)=>(zbO zdS=some r)) (fun zdS=>[(0,(.int .u64 zdS))]) (fun zdS=>[]) ?_ ?_
 ·skip
  refine WC.block<|WC.y8S (fun(ziK:Nat) (z82:Int) (z6N:Int)=>(y2r zbO ziK z82 z6N=some r)) (fun ziK z82 z6N=>[(0,(.int .u64 z82)),(1,(.int .u64 z6N))]) (fun ziK z82 z6N=>[]) (fun ziK z82 z6N=>ziK) ⟨yx,zml,zmm⟩ h (.r2 U U) .nil ?_
  rintro ziK z82 z6N h
  obtain⟨zwn,rfl⟩:=yal h
  rw[y2r] at h
  refine WC.b<|WC.b<|Ld<|La U<|La U<|WL.nil<|Lb<|WC.cond U (fun zwo=>?_)<|fun zwo=>?_
  ·replace h:=yr h zwo
   refine WC.skip<|Lb<|WC.block ?_
   obtain⟨zQd,h⟩:=yl h
   refine Lv (fun i=>[].contains i) [] U<|Lf 0 7 U (fun _=>q_m U)<|Lf 1 8 U (fun _=>q_m U)<|Lf 2 9 U (fun _=>q_m U)<|Lf 3 10 U (fun _=>q_rem U U zQd U)<|Lf 4 0 U (fun _=>q_z U)<|Lf 5 1 U (fun _=>q_z U)<|WD.done (by kernel_rfl)<|Lt ?_
   exact WX.round ⟨zwn,z6N,(Int.tmod z82 z6N)⟩ h (Nat.lt_succ_self _) (.r2 U U) .nil
  ·replace h:=ys h zwo
   refine WC.exit<|Ln<|Ln<|Lu ?_
   exact Lo z82 h (.cons U .nil) .nil
 ·rintro zdS h
  replace h:=(zQc zdS).symm.trans h
  refine WC.b<|Ld<|La U<|La U<|WL.nil<|Lb<|WC.ret ?_
  obtain rfl:=oJ h
  refine Lh Tryz.results165 (.tmp U .nil)<|fun w hw=>?_
  exact⟨yD U,hw.sub .nil⟩
def y5J(zmn:Int)(ziL:Int):Option (z2×Int):=
 if decide (ziL=0) then some ((⟨0,0⟩:z2),2) else(y6b zmn).bind fun za9=>(y6b ziL).bind fun zdT=>(y59 za9 zdT).bind fun z6h=>chk ((z6h:Int)≠0) (if (decide ((u64 (Int.tdiv za9 z6h))>1073741824))||(decide ((u64 (Int.tdiv zdT z6h))>1073741824)) then some ((⟨0,0⟩:z2),3) else jp1 (fun(zdU:Int)=>some ((⟨zdU,i64 (u64 (Int.tdiv zdT z6h))⟩:z2),0)) fun zpO=>if (decide (zmn<0)) != (decide (ziL<0)) then zpO (i64 (0-(i64 (u64 (Int.tdiv za9 z6h))))) else zpO (i64 (u64 (Int.tdiv za9 z6h))))
theorem y8J{Z:Zp}{zmn:Int}{ziL:Int}{r:z2×Int}(h:y5J zmn ziL=some r)(w₀:World)(hz:PZ [] w₀ Z):
  Calls Tryz.prog 160 #[(vi zmn),(vi ziL)] w₀ fun e w'=>e = .returned (.tuple #[(.agg #[(vi r.1.fN),(vi r.1.fD)]),(vi r.2)])∧Hp [] w₀ w' []:=by
 unfold y5J at h
 refine Lz Tryz.func160 Tryz.ntmps160 ?_
 refine WC.b<|Ld (Lg 4 (yv (cs:=[(vi 0),(vi 0)]) zV U) fun zFZ _=>La U<|WL.nil<|Lb<|WC.b<|WC.b<|Ld<|La U<|La U<|WL.nil<|Lb<|WC.cond U (fun zwp=>?_)<|fun zwp=>?_)
 ·replace h:=yr h zwp
  refine WC.b<|Ld<|Le 12 (yL (v:=(.agg #[(vi 0),(vi 0)])) (Lp (l:=[]) .nil []) (fun _=>by kernel_rfl))<|Ll U U (yn zz U U U .here U U U)<|La U<|WL.nil<|Lb<|WC.ret<|Lj ?_
  obtain rfl:=oJ h
  refine Lh Tryz.results160 (.agg U zg U (yj .here)<|.tmp U .nil)<|fun w hw=>?_
  exact⟨y1R U U,hw.sub .nil⟩
 ·replace h:=ys h zwp
  refine WC.skip<|Lb<|WC.b ?_
  obtain⟨za9,zQe,h⟩:=za h
  obtain⟨zdT,zQf,h⟩:=za h
  refine Ld<|La U<|Lk 14 (zb Tryz.call166<|.cons U .nil) .nil (cc hz .nil fun w pz ho=>y9X zQe w pz )<|La U<|Lk 16 (zb Tryz.call166<|.cons U .nil) .nil (cc hz .nil fun w pz ho=>y9X zQf w pz )<|La U<|La U<|WL.nil<|Lb<|WC.b ?_
  obtain⟨z6h,zQg,h⟩:=za h
  refine Ld<|La U<|La U<|Lk 19 (zb Tryz.call165<|.r2 U U) .nil (cc hz .nil fun w pz ho=>yam zQg w pz )<|La U<|WL.nil<|Lb<|WC.b ?_
  obtain⟨zG0,h⟩:=yl h
  refine Lv (fun i=>[].contains i) [] U<|Lf 0 20 U (fun _=>q_m U)<|Lf 1 21 U (fun _=>q_m U)<|Lf 2 22 U (fun _=>yd0 U U zG0 U)<|Lf 3 23 U (fun _=>q_m U)<|Lf 4 24 U (fun _=>q_m U)<|Lf 5 25 U (fun _=>yd0 U U zG0 U)<|Lf 6 6 U (fun _=>q_z U)<|Lf 7 7 U (fun _=>q_z U)<|WD.done (by kernel_rfl)<|Lb<|WC.b<|WC.b<|Ld<|La U<|La U<|La U<|Lx false 2 28 (B:=(decide ((u64<|Int.tdiv za9 z6h)>1073741824))||(decide ((u64<|Int.tdiv zdT z6h)>1073741824))) U U U U U U (fun h=>(y7Q h).symm) (fun _ zQh=>?_) ?_
  ·skip
   refine La U<|La U<|La U ?_
   exact Ly (y7R zQh) U U .all
  refine WL.nil<|Lb<|WC.cond U (fun zwq=>?_)<|fun zwq=>?_
  ·replace h:=yr h zwq
   refine WC.b<|Ld<|Le 32 (yL (v:=(.agg #[(vi 0),(vi 0)])) (Lp (l:=[]) .nil []) (fun _=>by kernel_rfl))<|Ll U U (yn zz U U U .here U U U)<|La U<|WL.nil<|Lb<|WC.ret<|Lj ?_
   obtain rfl:=oJ h
   refine Lh Tryz.results160 (.agg U zg U (yj .here)<|.tmp U .nil)<|fun w hw=>?_
   exact⟨y1R U U,hw.sub .nil⟩
  ·replace h:=ys h zwq
   let A:=(i64 (u64 (Int.tdiv za9 z6h)));let C:Value:=(vi (i64 (u64 (Int.tdiv zdT z6h))));refine WC.skip (Lb (WC.b (Ld (La U (Le 34 (y8y Tryz.underlying212 Tryz.underlying3 U U) (La U (Le 36 (y8y Tryz.underlying212 Tryz.underlying3 U U) (Le 37 (yL (v:=(.agg #[(vi A),C])) (Lp (l:=[.tmp 34,.tmp 36]) (.r2 U U) [0,1]) (fun _=>by kernel_rfl)) (Lg 9 (yv (cs:=[(vi 0),(vi 0)]) zV U) ?_)))))))))
   intro zG1 _
   refine Ll U U (yn zz U U U .here U U U)<|WL.nil<|Lb ?_
   obtain⟨zpO,zQi,h⟩:=yZ h
   refine Kf (fun(zdU:Int)=>(zpO zdU=some r)) (fun zdU=>[(4,(vp zFZ)),(9,(vp zG1))]) (fun zdU=>[stb zFZ 175 [(vi 0),(vi 0)],stb zG1 175 [(vi zdU),C]]) ?_ ?_
   ·skip
    refine WC.b<|Ld<|La U<|La U<|La U<|La U<|Le 42 (q_bneq Tryz.underlying4 U U)<|WL.nil<|Lb<|WC.cond U (fun zwr=>?_)<|fun zwr=>?_
    ·replace h:=yr h zwr
     refine Ld<|Le 43 (ya y2D U U)<|Le 44 (yc yq U<|yi .here U)<|Le 45 (q_neg U U)<|Le 46 (ya y2D U U)<|Ll U U (y4I (ds:=[(vi<|i64 (0-A)),C]) ybc U U U U U .here U U)<|WL.nil ?_
     exact Lo (i64 (0-A)) h (.r2 U U)<|.s2 .h1 .here
    ·replace h:=ys h zwr
     refine WC.skip ?_
     exact Lo A h (.r2 U U)<|.s2 .h1 .here
   ·rintro zdU h
    replace h:=(zQi zdU).symm.trans h
    refine WC.b<|Ld<|Le 47 (yh zg U (yj .h1) U)<|Ll U U (yn zz U U U .here U U U)<|La U<|WL.nil<|Lb<|WC.ret ?_
    obtain rfl:=oJ h
    refine Lh Tryz.results160 (.agg U zg U (yj .here)<|.tmp U .nil)<|fun w hw=>?_
    exact⟨y1R U U,hw.sub .nil⟩
def y48(z40:zs)(zpP:List (List ze))(zg7:List (zO×z2))(zg8:List (z8×Int))(zws:Int)(zg9:Int):Option z2:=
 chk ((0:Int)≤zg9∧zg9<((z40.fVLs.length:Nat):Int)) ((y5J ((nth z40.fVLs zg9).fMax) ((nth z40.fVLs zg9).fBag)).bind fun zG2=>some zG2.1)
theorem y7U{Z:Zp}{zG3:Addr}{zG4:Option Addr}{zG5:Nat}{zG6:Option Addr}{zG7:Nat}{zG8:Option Addr}{zG9:Nat}{zGa:Option Addr}{zGb:Nat}{zGc:Option Addr}{zGd:Nat}{zGe:Option Addr}{zGf:Nat}{zGg:Option Addr}{zGh:Nat}{zGi:Option Addr}{zGj:Nat}{zGk:Option Addr}{zGl:Nat}{ziM:Nat}{ziN:Nat}{z40:zs}{zpP:List (List ze)}{zg7:List (zO×z2)}{zg8:List (z8×Int)}{zws:Int}{zg9:Int}{r:z2}(h:y48 z40 zpP zg7 zg8 zws zg9=some r)(w₀:World)(hz:PZ (fps [ym ziM (fun x=>Value.agg (y2J x).toArray) (fun x=>Value.agg (yA x).toArray) zg7,ym ziN (fun x=>Value.agg (yE x).toArray) (Value.int .i64) zg8]) w₀ Z)(z14z:ZS Z 4 (y3L Z) zG4 zG5 z40.fM)(z14A:ZS Z 4 (y4n Z) zG6 zG7 z40.fC0)(z14B:ZS Z 4 (fun r x=>r=e64 x) zG8 zG9 z40.fS)(z14C:ZS Z 4 (fun r x=>r=e62 x) zGa zGb z40.fK)(zGm:ZS Z 7 (p69 Z) zGc zGd z40.fVLs)(z14D:ZS Z 5 (fun r x=>r=y4C x) zGe zGf z40.fH)(z14E:ZS Z 3 (y4o Z) zGg zGh z40.fU)(z14F:ZS Z 4 (fun r x=>r=y4D x) zGi zGj z40.fV0)(z14G:ZS Z 1 (p58 Z) zGk zGl zpP)(zGn:ZC Z zG3 [(.slice zG4 z40.fM.length zG5),(.slice zG6 z40.fC0.length zG7),(.slice zG8 z40.fS.length zG9),(.slice zGa z40.fK.length zGb),(.slice zGc z40.fVLs.length zGd),(.slice zGe z40.fH.length zGf),(.slice zGg z40.fU.length zGh),(.slice zGi z40.fV0.length zGj),(.slice zGk zpP.length zGl),(.map (some ziM)),(.map (some ziN)),(vi zws)])(hown:Hp (fps [ym ziM (fun x=>Value.agg (y2J x).toArray) (fun x=>Value.agg (yA x).toArray) zg7,ym ziN (fun x=>Value.agg (yE x).toArray) (Value.int .i64) zg8]) w₀ w₀ [ym ziM (fun x=>Value.agg (y2J x).toArray) (fun x=>Value.agg (yA x).toArray) zg7,ym ziN (fun x=>Value.agg (yE x).toArray) (Value.int .i64) zg8]):
  Calls Tryz.prog 121 #[(vq zG3),(vi zg9)] w₀ fun e w'=>e = .returned (.agg #[(vi r.fN),(vi r.fD)])∧Hp (fps [ym ziM (fun x=>Value.agg (y2J x).toArray) (fun x=>Value.agg (yA x).toArray) zg7,ym ziN (fun x=>Value.agg (yE x).toArray) (Value.int .i64) zg8]) w₀ w' [ym ziM (fun x=>Value.agg (y2J x).toArray) (fun x=>Value.agg (yA x).toArray) zg7,ym ziN (fun x=>Value.agg (yE x).toArray) (Value.int .i64) zg8]:=by
 unfold y48 at h
 refine Kg Tryz.func121 Tryz.ntmps121 hown ?_
 refine WC.b<|Ld (Lg 4 (yv (cs:=[(vi 0),(vi 0)]) zV U) fun z14H _=>WL.nil<|Lb<|WC.b ?_)
 obtain⟨zGo,h⟩:=yl h
 obtain⟨zG2,zQj,h⟩:=za h
 refine Lv (fun i=>[23].contains i) [] U<|Lf 0 8 U (fun _=>q_m U)<|Lf 1 9 U (fun _=>y1f U)<|Lf 2 10 U (fun _=>ya y6j U U)<|Lf 3 11 U (fun _=>ya y7F U U)<|Li 4 12 U (yc y7G U<|y17 hz.pv zGn U)<|Lf 5 13 U (fun _=>q_m U)<|L5 (j:=6) (dd:=14) (by kernel_rfl) U z1Z z20 U U (Z:=Z) (Pr:=(p69 Z)) y9q U U zGm zGo ?_
 rintro z14I z14J zQk z14K ⟨z14L,z14M,rfl,z14N⟩
 refine Lf 7 15 U (fun _=>ya y7H U U)<|Li 8 16 U (yc yq U<|y17 hz.pv zQk U)<|Lf 9 17 U (fun _=>q_m U)<|Lf 10 18 U (fun _=>y1f U)<|Lf 11 19 U (fun _=>ya y6j U U)<|Lf 12 20 U (fun _=>ya y7F U U)<|Li 13 21 U (yc y7G U<|y17 hz.pv zGn U)<|Lf 14 22 U (fun _=>q_m U)<|L5 (j:=15) (dd:=23) (by kernel_rfl) U z1Z z20 U U (Z:=Z) (Pr:=(p69 Z)) y9q U U zGm zGo ?_
 rintro z14O z14P zQl z14Q ⟨z14R,z14S,rfl,z14T⟩
 refine Lf 16 24 U (fun _=>ya yeR U U)<|Li 17 25 U (yc yq U<|y17 hz.pv zQl U)<|L4 18 26 U (zb Tryz.call160<|.r2 U U) (cc hz .nil fun w pz ho=>y8J zQj w pz )<|Lf 19 7 U (fun _=>q_m U)<|Lf 20 27 U (fun _=>y8f U U)<|Lf 21 28 U (fun _=>y8f U U) (WD.new (i:=22) (dd:=5) U (by kernel_rfl) U U U (yv (cs:=[(vi 0),(vi 0)]) zV U) (fun h'=>absurd h' (by decide)) fun z14U _=>WD.forced0 (i:=23) U (by kernel_rfl) U U U (Sin.of .nil) (yn zz U U U .here U U U)<|Lf 24 6 U (fun _=>q_z U)<|WD.done (by kernel_rfl)<|Lb<|WC.b<|Ld<|Le 29 (yh zg U (yj .here) U)<|Ll U U (yn zz U U U .h1 U U U)<|WL.nil<|Lb<|WC.ret ?_)
 obtain rfl:=oJ h
 refine Lh Tryz.results121 (.agg U zg U (yj .here) .nil)<|fun w hw=>?_
 exact⟨yD U,hw.sub (.s2 .h2 .h2)⟩
def y1Y(z1r:z2):Option Bool:=
 (if (((decide (z1r.fD≥1))&&(decide (z1r.fD≤1073741824)))&&(decide (z1r.fN≥(-1073741824))))&&(decide (z1r.fN≤1073741824)) then(y6b z1r.fN).bind fun zGp=>(y6b z1r.fD).bind fun zGq=>(y59 zGp zGq).bind fun zGr=>some (decide (zGr=1)) else some false).bind fun zwt=>some zwt
theorem y2N{Z:Zp}{z1r:z2}{r:Bool}(h:y1Y z1r=some r)(w₀:World)(hz:PZ [] w₀ Z):
  Calls Tryz.prog 130 #[(.agg #[(vi z1r.fN),(vi z1r.fD)])] w₀ fun e w'=>e = .returned (.bool r)∧Hp [] w₀ w' []:=by
 unfold y1Y at h
 refine L6 Tryz.func130 Tryz.ntmps130 ?_
 refine WC.b<|Ld (Lg 1 (yI (cs:=[(vi z1r.fN),(vi z1r.fD)]) U U) fun zwu _=>La U<|WL.nil<|Lb<|WC.b ?_)
 obtain⟨zwt,zGs,h⟩:=za h
 let D:Value:=(.bool ((decide (z1r.fD≥1))&&(decide (z1r.fD≤1073741824))));refine Lv (fun i=>[].contains i) [] U (Lf 0 3 U (fun _=>ya y33 U U) (Li 1 4 U (yc yq U (yi .here U)) (Lf 2 5 U (fun _=>q_geq U U) (Lf 3 6 U (fun _=>q_m U) (Kb (fuel':=21) [(1,(vp zwu)),(2,(.bool false)),(6,(.bool (decide (z1r.fD≥1)))),(10,D)] (y1U 29 [7,6,5,4,3,2,1,0]) ?_ (fun zGt=>?_))))))
 rotate_left
 ·rcases Bool.eq_false_or_eq_true (decide (z1r.fD≥1)) with hb' | hb'
  ·have zwv:=hb';clear hb'
   refine L2 (i:=6) U zwv<|Lf 4 7 U (fun _=>ya y33 U U)<|Li 5 8 U (yc yq U<|yi .here U)<|Lf 6 9 U (fun _=>q_leq U U)<|Lf 7 10 U (fun _=>y3x U U)<|Lw (.cons .here .nil) ?_ zGt
   exact .r4 U U (zD<|Eq.symm zwv)<|zD<|y3X zwv
  ·have zww:=hb';clear hb'
   refine L2 (i:=6) U zww<|Lm 4 7 U<|Lm 5 8 U<|Lm 6 9 U<|Lf 7 10 U (fun _=>y3y U U)<|Lw (.cons .here .nil) ?_ zGt
   exact .r4 U U (zD<|Eq.symm zww)<|zD<|y3W zww
 let C:Value:=(.bool (((decide (z1r.fD≥1))&&(decide (z1r.fD≤1073741824)))&&(decide (z1r.fN≥(-1073741824)))));refine WD.d #[true,true,true,true,true,true,true,true,false,false,false,false,false,false,false,false,false,false,false,false,false,false,false,false,false,false,false,false,false] (by kernel_rfl) (Lf 8 11 U (fun _=>q_m U) (Kb (fuel':=16) [(1,(vp zwu)),(2,(.bool false)),(11,D),(15,C)] (y1U 29 [12,11,10,9,8,7,6,5,4,3,2,1,0]) ?_ (fun zGu=>?_)))
 rotate_left
 ·rcases Bool.eq_false_or_eq_true ((decide (z1r.fD≥1))&&(decide (z1r.fD≤1073741824))) with hb' | hb'
  ·have zwx:=hb';clear hb'
   refine L2 (i:=11) U zwx<|Lf 9 12 U (fun _=>ya y2D U U)<|Li 10 13 U (yc yq U<|yi .here U)<|Lf 11 14 U (fun _=>q_geq U U)<|Lf 12 15 U (fun _=>y3x U U)<|Lw (.cons .here .nil) ?_ zGu
   exact .r4 U U (zD<|Eq.symm zwx)<|zD<|y3X zwx
  ·have zwy:=hb';clear hb'
   refine L2 (i:=11) U zwy<|Lm 9 12 U<|Lm 10 13 U<|Lm 11 14 U<|Lf 12 15 U (fun _=>y3y U U)<|Lw (.cons .here .nil) ?_ zGu
   exact .r4 U U (zD<|Eq.symm zwy)<|zD<|y3W zwy
 let A:Value:=(.bool ((((decide (z1r.fD≥1))&&(decide (z1r.fD≤1073741824)))&&(decide (z1r.fN≥(-1073741824))))&&(decide (z1r.fN≤1073741824))));refine WD.d #[true,true,true,true,true,true,true,true,true,true,true,true,true,false,false,false,false,false,false,false,false,false,false,false,false,false,false,false,false] (by kernel_rfl) (Lf 13 16 U (fun _=>q_m U) (Kb (fuel':=11) [(1,(vp zwu)),(2,(.bool false)),(16,C),(20,A)] (y1U 29 [17,16,15,14,13,12,11,10,9,8,7,6,5,4,3,2,1,0]) ?_ (fun zGv=>?_)))
 rotate_left
 ·rcases Bool.eq_false_or_eq_true (((decide (z1r.fD≥1))&&(decide (z1r.fD≤1073741824)))&&(decide (z1r.fN≥(-1073741824)))) with hb' | hb'
  ·have zwz:=hb';clear hb'
   refine L2 (i:=16) U zwz<|Lf 14 17 U (fun _=>ya y2D U U)<|Li 15 18 U (yc yq U<|yi .here U)<|Lf 16 19 U (fun _=>q_leq U U)<|Lf 17 20 U (fun _=>y3x U U)<|Lw (.cons .here .nil) ?_ zGv
   exact .r4 U U (zD<|Eq.symm zwz)<|zD<|y3X zwz
  ·have zwA:=hb';clear hb'
   refine L2 (i:=16) U zwA<|Lm 14 17 U<|Lm 15 18 U<|Lm 16 19 U<|Lf 17 20 U (fun _=>y3y U U)<|Lw (.cons .here .nil) ?_ zGv
   exact .r4 U U (zD<|Eq.symm zwA)<|zD<|y3W zwA
 refine WD.d #[true,true,true,true,true,true,true,true,true,true,true,true,true,true,true,true,true,true,false,false,false,false,false,false,false,false,false,false,false] (by kernel_rfl)<|Lf 18 21 U (fun _=>q_m U)<|Kb (fuel':=1) [(2,(.bool false)),(21,A),(30,(.bool zwt))] (y1U 29 [27,26,25,24,23,22,21,20,19,18,17,16,15,14,13,12,11,10,9,8,7,6,5,4,3,2,1,0]) ?_<|fun zGw=>?_
 rotate_left
 ·rcases Bool.eq_false_or_eq_true ((((decide (z1r.fD≥1))&&(decide (z1r.fD≤1073741824)))&&(decide (z1r.fN≥(-1073741824))))&&(decide (z1r.fN≤1073741824))) with hb' | hb'
  ·have zwB:=hb';clear hb'
   have zbP:=yr zGs zwB
   obtain⟨zGp,zQm,zbP⟩:=za zbP
   obtain⟨zGq,zQn,zbP⟩:=za zbP
   obtain⟨zGr,zQo,zbP⟩:=za zbP
   replace zbP:=oJ zbP
   refine L2 (i:=21) U zwB<|Lf 19 22 U (fun _=>ya y2D U U)<|Li 20 23 U (yc yq U<|yi .here U)<|L4 21 24 U (zb Tryz.call166<|.cons U .nil) (cc hz .nil fun w pz ho=>y9X zQm w pz )<|Lf 22 25 U (fun _=>ya y33 U U)<|Li 23 26 U (yc yq U<|yi .here U)<|L4 24 27 U (zb Tryz.call166<|.cons U .nil) (cc hz .nil fun w pz ho=>y9X zQn w pz )<|L4 25 28 U (zb Tryz.call165<|.r2 U U) (cc hz .nil fun w pz ho=>yam zQo w pz )<|Lf 26 29 U (fun _=>y9U U U)<|Lf 27 30 U (fun _=>y3x U U)<|Lw (.cons .here .nil) ?_ zGw
   exact .r3 U (zD<|Eq.symm zwB)<|zD zbP
  ·have zwC:=hb';clear hb'
   have zwD:=ys zGs zwC
   replace zwD:=oJ zwD
   refine L2 (i:=21) U zwC<|Lm 19 22 U<|Lm 20 23 U<|Lm 21 24 U<|Lm 22 25 U<|Lm 23 26 U<|Lm 24 27 U<|Lm 25 28 U<|Lm 26 29 U<|Lf 27 30 U (fun _=>y3y U U)<|Lw (.cons .here .nil) ?_ zGw
   exact .r3 U (zD<|Eq.symm zwC)<|zD zwD
 refine WD.d #[true,true,true,true,true,true,true,true,true,true,true,true,true,true,true,true,true,true,true,true,true,true,true,true,true,true,true,true,false] (by kernel_rfl)<|Lf 28 2 U (fun _=>q_z U)<|WD.done (by kernel_rfl)<|Lb<|WC.ret ?_
 obtain rfl:=oJ h
 refine Lh Tryz.results130 (.tmp U .nil)<|fun w hw=>?_
 exact⟨yD U,hw.sub .nil⟩
def y9Y(ziO:z2)(ziP:z2):Option (Int×Int):=
 some ((i64 (ziO.fN*ziP.fN)),(i64 (ziO.fD*ziP.fD)))
theorem yhT{Z:Zp}{zGx:Addr}{zGy:Addr}{ziO:z2}{ziP:z2}{r:Int×Int}(h:y9Y ziO ziP=some r)(w₀:World)(hz:PZ [] w₀ Z)(zGz:ZC Z zGx [(vi ziO.fN),(vi ziO.fD)])(zGA:ZC Z zGy [(vi ziP.fN),(vi ziP.fD)]):
  Calls Tryz.prog 189 #[(vq zGx),(vq zGy)] w₀ fun e w'=>e = .returned (.tuple #[(vi r.1),(vi r.2)])∧Hp [] w₀ w' []:=by
 unfold y9Y at h
 refine Lz Tryz.func189 Tryz.ntmps189 ?_
 refine WC.b<|Ld<|La U<|La U<|WL.nil<|Lb<|WC.b<|Lv (fun i=>[].contains i) [] U<|Lf 0 4 U (fun _=>ya y2D U U)<|Li 1 5 U (yc yq U<|y17 hz.pv zGz U)<|Lf 2 6 U (fun _=>ya y2D U U)<|Li 3 7 U (yc yq U<|y17 hz.pv zGA U)<|Lf 4 8 U (fun _=>y7f U U U)<|Lf 5 9 U (fun _=>ya y33 U U)<|Li 6 10 U (yc yq U<|y17 hz.pv zGz U)<|Lf 7 11 U (fun _=>ya y33 U U)<|Li 8 12 U (yc yq U<|y17 hz.pv zGA U)<|Lf 9 13 U (fun _=>y7f U U U)<|Lf 10 2 U (fun _=>q_z U)<|Lf 11 3 U (fun _=>q_z U)<|WD.done (by kernel_rfl)<|Lb<|WC.ret ?_
 obtain rfl:=oJ h
 refine Lh Tryz.results189 (.tmp U<|.tmp U .nil)<|fun w hw=>?_
 exact⟨y1R U U,hw.sub .nil⟩
def yan(zdV:z2)(zdW:z2):Option (z2×Int):=
 (y1Y zdV).bind fun zGB=>(if !zGB then some true else(y1Y zdW).bind fun zGC=>some (!zGC)).bind fun zpQ=>if zpQ then some ((⟨0,0⟩:z2),2) else(y9Y zdV zdW).bind fun zwE=>(y5J zwE.1 zwE.2).bind fun zwF=>some (zwF.1,zwF.2)
theorem w_rat_do{Z:Zp}{zdV:z2}{zdW:z2}{r:z2×Int}(h:yan zdV zdW=some r)(w₀:World)(hz:PZ [] w₀ Z):
  Calls Tryz.prog 159 #[(.string ⟨#[42]⟩),(.agg #[(vi zdV.fN),(vi zdV.fD)]),(.agg #[(vi zdW.fN),(vi zdW.fD)])] w₀ fun e w'=>e = .returned (.tuple #[(.agg #[(vi r.1.fN),(vi r.1.fD)]),(vi r.2)])∧Hp [] w₀ w' []:=by
 unfold yan at h
 refine Ke Tryz.func159 Tryz.ntmps159 ?_
 refine WC.b<|Ld (Lg 4 (yI (cs:=[(vi zdV.fN),(vi zdV.fD)]) U U) fun zmo _=>Lg 5 (yI (cs:=[(vi zdW.fN),(vi zdW.fD)]) U U) fun zmp _=>Lg 6 (yv (cs:=[(vi 0),(vi 0)]) zV U) fun z14V _=>La U<|WL.nil<|Lb<|WC.b<|WC.b ?_)
 obtain⟨zGB,zQp,h⟩:=za h
 obtain⟨zpQ,zGD,h⟩:=za h
 refine Ld<|Le 9 (yh zg U (yj .h2) U)<|Lk 10 (zb Tryz.call130<|.cons U .nil) .nil (cc hz .nil fun w pz ho=>y2N zQp w pz )<|La U<|La U<|Lx false 3 12 (B:=zpQ) U U U U U U (fun h=>(oJ<|yr zGD h).symm) (fun _ zQq=>?_) ?_
 ·skip
  have zmq:=ys zGD zQq
  obtain⟨zGC,zQr,zmq⟩:=za zmq
  replace zmq:=oJ zmq
  refine Le 13 (yh zg U (yj .h1) U)<|Lk 14 (zb Tryz.call130<|.cons U .nil) .nil (cc hz .nil fun w pz ho=>y2N zQr w pz )<|La U<|La U ?_
  exact Ly zmq U U .all
 refine La U<|Lx false 7 17 (B:=zpQ) U U U U U U (fun h=>h) (fun _ zQs=>?_) ?_
 ·skip
  refine La U<|Le 19 (yd5 (r:=false) (by decide) U U)<|La U<|WL.e U U U<|WL.e U U U<|WL.e U U U<|La U<|La U ?_
  exact Ly (Eq.symm zQs) U U .all
 refine WL.nil<|Lb<|WC.cond U (fun zwG=>?_)<|fun zwG=>?_
 ·replace h:=yr h zwG
  refine WC.b<|Ld<|Le 26 (yL (v:=(.agg #[(vi 0),(vi 0)])) (Lp (l:=[]) .nil []) (fun _=>by kernel_rfl))<|Ll U U (yn zz U U U .here U U U)<|La U<|WL.nil<|Lb<|WC.ret<|Lj ?_
  obtain rfl:=oJ h
  refine Lh Tryz.results159 (.agg U zg U (yj .here)<|.tmp U .nil)<|fun w hw=>?_
  exact⟨y1R U U,hw.sub .nil⟩
 ·replace h:=ys h zwG
  refine WC.skip<|Lb<|WC.b<|Ld<|Lg 27 (y3b Value.string<|fun x=>x) ?_
  intro z14W _
  let A:Value:=(.func (.func 189) #[] #[(vp zmo),(vp zmp)]);refine Le 28 (y16 (L3 (l:=[.tmp 4,.tmp 5]) (.r2 U U))) (Ll U U (y45 (k:=⟨#[43]⟩) (v:=(.func (.func 187) #[] #[(vp zmo),(vp zmp)])) y4q Tryz.underlying304 U U U U .here) (Le 29 (y16 (L3 (l:=[.tmp 4,.tmp 5]) (.r2 U U))) (Ll U U (y45 (k:=⟨#[45]⟩) (v:=(.func (.func 188) #[] #[(vp zmo),(vp zmp)])) y4q Tryz.underlying304 U U U U .here) (Le 30 (y16 (L3 (l:=[.tmp 4,.tmp 5]) (.r2 U U))) (Ll U U (y45 (k:=⟨#[42]⟩) (v:=A) y4q Tryz.underlying304 U U U U .here) (Le 31 (y16 (L3 (l:=[.tmp 4,.tmp 5]) (.r2 U U))) (Ll U U (y45 (k:=⟨#[47]⟩) (v:=(.func (.func 190) #[] #[(vp zmo),(vp zmp)])) y4q Tryz.underlying304 U U U U .here) (La U (La U (WL.nil (Lb (WC.b ?_))))))))))))
  obtain⟨zwE,zQt,h⟩:=za h
  obtain⟨zwF,zQu,h⟩:=za h
  refine Ld<|La U<|La U<|Le 35 (yd4 (k:=⟨#[42]⟩) (dflt:=.nilFunc) (r:=A) y4q Tryz.underlying304 zp3 U U U .here (by rfl))<|Lk 36 (y2G (l:=[]) Tryz.call189 U .nil) .nil (ccl hz .nil (.s2 .h3 .h2) fun w pz ho la=>yhT zQt w pz ((la _ (.head _) _).stb)<|(la _ (.tail _<|.head _) _).stb)<|La U<|La U<|Lk 39 (zb Tryz.call160<|.r2 U U) .nil (cc hz .nil fun w pz ho=>y8J zQu w pz )<|La U<|La U<|Ll U U (yn zz U U U .h1 U U U)<|La U<|WL.nil<|Lb<|WC.ret ?_
  obtain rfl:=oJ h
  refine Lh Tryz.results159 (.agg U zg U (yj .here)<|.tmp U .nil)<|fun w hw=>?_
  exact⟨y1R U U,hw.sub .nil⟩
def y3P(zga:z2)(zgb:z2):Option (z2×Int):=
 (yan zga zgb).bind fun zwH=>some (zwH.1,zwH.2)
theorem ycG{Z:Zp}{zga:z2}{zgb:z2}{r:z2×Int}(h:y3P zga zgb=some r)(w₀:World)(hz:PZ [] w₀ Z):
  Calls Tryz.prog 120 #[(.agg #[(vi zga.fN),(vi zga.fD)]),(.agg #[(vi zgb.fN),(vi zgb.fD)])] w₀ fun e w'=>e = .returned (.tuple #[(.agg #[(vi r.1.fN),(vi r.1.fD)]),(vi r.2)])∧Hp [] w₀ w' []:=by
 unfold y3P at h
 refine Lz Tryz.func120 Tryz.ntmps120 ?_
 refine WC.b<|Ld (Lg 2 (yI (cs:=[(vi zga.fN),(vi zga.fD)]) U U) fun z14X _=>Lg 3 (yI (cs:=[(vi zgb.fN),(vi zgb.fD)]) U U) fun z14Y _=>Lg 4 (yv (cs:=[(vi 0),(vi 0)]) zV U) fun z14Z _=>La U<|WL.nil<|Lb<|WC.b ?_)
 obtain⟨zwH,zQv,h⟩:=za h
 refine Ld<|Le 6 (yh zg U (yj .h2) U)<|Le 7 (yh zg U (yj .h1) U)<|Lk 8 (zb Tryz.call159<|.r3 U U U) .nil (cc hz .nil fun w pz ho=>w_rat_do zQv w pz )<|La U<|La U<|Ll U U (yn zz U U U .here U U U)<|La U<|WL.nil<|Lb<|WC.ret ?_
 obtain rfl:=oJ h
 refine Lh Tryz.results120 (.agg U zg U (yj .here)<|.tmp U .nil)<|fun w hw=>?_
 exact⟨y1R U U,hw.sub .nil⟩
def y4d(zH:zs)(zaa:List (List ze))(zdX:List (zO×z2))(zdY:List (z8×Int))(zbQ:Int)(zdZ:z2→z2→Option (z2×Int))(ze0:z2)(ze1:z2):Option (z2×Int):=
 (zdZ ze0 ze1).bind fun zab=>jp1 (fun(zbR:Int)=>if decide (zab.2≠0) then(y2F 0).bind fun zGE=>some (zGE,zbR) else some (zab.1,zbR)) fun zpR=>if decide (zbQ=0) then zpR zab.2 else zpR zbQ
theorem y7i(Z:Zp)(zgc:Nat)(ze2:Option Addr)(ze3:Nat)(ze4:Option Addr)(ze5:Nat)(ze6:Option Addr)(ze7:Nat)(ze8:Option Addr)(ze9:Nat)(zea:Option Addr)(zeb:Nat)(zec:Option Addr)(zed:Nat)(zee:Option Addr)(zef:Nat)(zeg:Option Addr)(zeh:Nat)(zei:Option Addr)(zej:Nat)(z83:Nat)(z84:Nat)(zbS:FuncId)(zgd:List Value)(zH:zs)(zaa:List (List ze))(zdX:List (zO×z2))(zdY:List (z8×Int))(zbQ:Int)(zdZ:z2→z2→Option (z2×Int))(ze0:z2)(ze1:z2)(r:z2×Int)(h:y4d zH zaa zdX zdY zbQ zdZ ze0 ze1=some r)(w₀:World)(hz:PZ (fps [stb zgc 119 [(.slice ze2 zH.fM.length ze3),(.slice ze4 zH.fC0.length ze5),(.slice ze6 zH.fS.length ze7),(.slice ze8 zH.fK.length ze9),(.slice zea zH.fVLs.length zeb),(.slice zec zH.fH.length zed),(.slice zee zH.fU.length zef),(.slice zeg zH.fV0.length zeh),(.slice zei zaa.length zej),(.map (some z83)),(.map (some z84)),(vi zbQ)],ym z83 (fun x=>Value.agg (y2J x).toArray) (fun x=>Value.agg (yA x).toArray) zdX,ym z84 (fun x=>Value.agg (yE x).toArray) (Value.int .i64) zdY]) w₀ Z)(z150:ZS Z 4 (y3L Z) ze2 ze3 zH.fM)(z151:ZS Z 4 (y4n Z) ze4 ze5 zH.fC0)(z152:ZS Z 4 (fun r x=>r=e64 x) ze6 ze7 zH.fS)(z153:ZS Z 4 (fun r x=>r=e62 x) ze8 ze9 zH.fK)(z154:ZS Z 7 (p69 Z) zea zeb zH.fVLs)(z155:ZS Z 5 (fun r x=>r=y4C x) zec zed zH.fH)(z156:ZS Z 3 (y4o Z) zee zef zH.fU)(z157:ZS Z 4 (fun r x=>r=y4D x) zeg zeh zH.fV0)(z158:ZS Z 1 (p58 Z) zei zej zaa)(zQw:∀ args w,(callFunc zbS args).run Tryz.prog w = .ok (.enter zbS args) w)(zQx:∀ w:World,PZ [] w Z→∀(x0:z2) (x1:z2) (r:z2×Int),zdZ x0 x1=some r→Calls Tryz.prog zbS (([(.agg #[(vi x0.fN),(vi x0.fD)]),(.agg #[(vi x1.fN),(vi x1.fD)])]:List Value)++zgd).toArray w fun e w'=>e = .returned (.tuple #[(.agg #[(vi r.1.fN),(vi r.1.fD)]),(vi r.2)])∧Hp [] w w' [])(hown:Hp (fps [stb zgc 119 [(.slice ze2 zH.fM.length ze3),(.slice ze4 zH.fC0.length ze5),(.slice ze6 zH.fS.length ze7),(.slice ze8 zH.fK.length ze9),(.slice zea zH.fVLs.length zeb),(.slice zec zH.fH.length zed),(.slice zee zH.fU.length zef),(.slice zeg zH.fV0.length zeh),(.slice zei zaa.length zej),(.map (some z83)),(.map (some z84)),(vi zbQ)],ym z83 (fun x=>Value.agg (y2J x).toArray) (fun x=>Value.agg (yA x).toArray) zdX,ym z84 (fun x=>Value.agg (yE x).toArray) (Value.int .i64) zdY]) w₀ w₀ [stb zgc 119 [(.slice ze2 zH.fM.length ze3),(.slice ze4 zH.fC0.length ze5),(.slice ze6 zH.fS.length ze7),(.slice ze8 zH.fK.length ze9),(.slice zea zH.fVLs.length zeb),(.slice zec zH.fH.length zed),(.slice zee zH.fU.length zef),(.slice zeg zH.fV0.length zeh),(.slice zei zaa.length zej),(.map (some z83)),(.map (some z84)),(vi zbQ)],ym z83 (fun x=>Value.agg (y2J x).toArray) (fun x=>Value.agg (yA x).toArray) zdX,ym z84 (fun x=>Value.agg (yE x).toArray) (Value.int .i64) zdY]):
  Calls Tryz.prog 118 #[(vp zgc),(.func (.func zbS) #[] (zgd).toArray),(.agg #[(vi ze0.fN),(vi ze0.fD)]),(.agg #[(vi ze1.fN),(vi ze1.fD)])] w₀ fun e w'=>e = .returned (.agg #[(vi r.1.fN),(vi r.1.fD)])∧Hp (fps [stb zgc 119 [(.slice ze2 zH.fM.length ze3),(.slice ze4 zH.fC0.length ze5),(.slice ze6 zH.fS.length ze7),(.slice ze8 zH.fK.length ze9),(.slice zea zH.fVLs.length zeb),(.slice zec zH.fH.length zed),(.slice zee zH.fU.length zef),(.slice zeg zH.fV0.length zeh),(.slice zei zaa.length zej),(.map (some z83)),(.map (some z84)),(vi zbQ)],ym z83 (fun x=>Value.agg (y2J x).toArray) (fun x=>Value.agg (yA x).toArray) zdX,ym z84 (fun x=>Value.agg (yE x).toArray) (Value.int .i64) zdY]) w₀ w' [stb zgc 119 [(.slice ze2 zH.fM.length ze3),(.slice ze4 zH.fC0.length ze5),(.slice ze6 zH.fS.length ze7),(.slice ze8 zH.fK.length ze9),(.slice zea zH.fVLs.length zeb),(.slice zec zH.fH.length zed),(.slice zee zH.fU.length zef),(.slice zeg zH.fV0.length zeh),(.slice zei zaa.length zej),(.map (some z83)),(.map (some z84)),(vi r.2)],ym z83 (fun x=>Value.agg (y2J x).toArray) (fun x=>Value.agg (yA x).toArray) zdX,ym z84 (fun x=>Value.agg (yE x).toArray) (Value.int .i64) zdY]:=by
 unfold y4d at h
 refine Calls.oh4 Tryz.func118 Tryz.ntmps118 hown ?_
 refine WC.b<|Ld (Lg 6 (yI (cs:=[(vi ze0.fN),(vi ze0.fD)]) U U) fun z159 _=>Lg 7 (yI (cs:=[(vi ze1.fN),(vi ze1.fD)]) U U) fun z15a _=>Lg 8 (yv (cs:=[(vi 0),(vi 0)]) zV U) fun zGF _=>WL.nil<|Lb<|WC.b ?_)
 obtain⟨zab,zQy,h⟩:=za h
 refine Ld<|La U<|Le 13 (yh zg U (yj .h2) U)<|Le 14 (yh zg U (yj .h1) U)<|Lk 15 (y2G (l:=[.tmp 13,.tmp 14]) (f:=zbS) (caps:=zgd) zQw U<|.r2 U U) .nil (fun w hw=>zQx w (hz.now hw) ze0 ze1 zab  zQy)<|La U<|La U<|La U (Lg 9 (yv (cs:=[(vi 0),(vi 0)]) zV U) fun zGG _=>Ll U U (yn zz U U U .here U U U)<|La U<|WL.nil<|Lb ?_)
 obtain⟨zpR,zQz,h⟩:=yZ h
 let A:Value:=(.slice zea zH.fVLs.length zeb);let C:Value:=(.slice ze4 zH.fC0.length ze5);let D:Value:=(.slice zeg zH.fV0.length zeh);let E:Value:=(.slice ze2 zH.fM.length ze3);let F:Value:=(.slice ze6 zH.fS.length ze7);let G:Value:=(.slice ze8 zH.fK.length ze9);let H:Value:=(.slice zec zH.fH.length zed);let I:Value:=(.slice zee zH.fU.length zef);let J:Value:=(.slice zei zaa.length zej);refine Kf (fun(zbR:Int)=>(zpR zbR=some r)) (fun zbR=>[(8,(vp zGF)),(9,(vp zGG)),(10,(vi zab.2))]) (fun zbR=>[stb zGF 175 [(vi 0),(vi 0)],stb zGG 175 [(vi zab.1.fN),(vi zab.1.fD)],stb zgc 119 [E,C,F,G,A,H,I,D,J,(.map (some z83)),(.map (some z84)),(vi zbR)],ym z83 (fun x=>Value.agg (y2J x).toArray) (fun x=>Value.agg (yA x).toArray) zdX,ym z84 (fun x=>Value.agg (yE x).toArray) (Value.int .i64) zdY]) ?_ ?_
 ·skip
  refine WC.b<|Ld<|La U<|Le 19 (y1f U)<|Le 20 (ya y95 U U)<|Le 21 (yc y3A U<|yi .h4 U)<|La U<|WL.nil<|Lb<|WC.cond U (fun zwI=>?_)<|fun zwI=>?_
  ·replace h:=yr h zwI
   refine Ld<|La U<|La U<|Le 25 (y1f U)<|Le 26 (ya y95 U U)<|Ll U U (y4I (ds:=[E,C,F,G,A,H,I,D,J,(.map<|some z83),(.map<|some z84),(vi zab.2)]) ybd U U U U U .h4 U U)<|WL.nil ?_
   exact Lo zab.2 h (.r3 U U U)<|.s5 .h2 .h1 .here .h2 .h2
  ·replace h:=ys h zwI
   refine WC.skip ?_
   exact Lo zbQ h (.r3 U U U)<|.s5 .h1 .here .h2 .h2 .h2
 ·rintro zbR h
  replace h:=(zQz zbR).symm.trans h
  refine WC.b<|WC.b<|Ld<|La U<|La U<|WL.nil<|Lb<|WC.cond U (fun zwJ=>?_)<|fun zwJ=>?_
  ·replace h:=yr h zwJ
   refine WC.b ?_
   obtain⟨zGE,zQA,h⟩:=za h
   refine Ld<|Lk 29 (zb Tryz.call80<|.cons U .nil) .nil (cc hz .nil fun w pz ho=>y5C zQA w pz )<|Ll U U (yn zz U U U .here U U U)<|WL.nil<|Lb<|WC.ret<|Lj ?_
   obtain rfl:=oJ h
   refine Lh Tryz.results118 (.agg U zg U (yj .here) .nil)<|fun w hw=>?_
   exact⟨yD U,hw.sub (.s3 .h2 .h2 .h2)⟩
  ·replace h:=ys h zwJ
   refine WC.skip<|Lb<|WC.b<|Ld<|Le 30 (yh zg U (yj .h1) U)<|Ll U U (yn zz U U U .here U U U)<|WL.nil<|Lb<|WC.ret ?_
   obtain rfl:=oJ h
   refine Lh Tryz.results118 (.agg U zg U (yj .here) .nil)<|fun w hw=>?_
   exact⟨yD U,hw.sub (.s3 .h2 .h2 .h2)⟩
def y9Z(zge:z2)(zgf:z2):Option (Int×Int):=
 some ((i64 ((i64 (zge.fN*zgf.fD))+(i64 (zgf.fN*zge.fD)))),(i64 (zge.fD*zgf.fD)))
theorem yhU{Z:Zp}{zGH:Addr}{zGI:Addr}{zge:z2}{zgf:z2}{r:Int×Int}(h:y9Z zge zgf=some r)(w₀:World)(hz:PZ [] w₀ Z)(zwK:ZC Z zGH [(vi zge.fN),(vi zge.fD)])(zwL:ZC Z zGI [(vi zgf.fN),(vi zgf.fD)]):
  Calls Tryz.prog 187 #[(vq zGH),(vq zGI)] w₀ fun e w'=>e = .returned (.tuple #[(vi r.1),(vi r.2)])∧Hp [] w₀ w' []:=by
 unfold y9Z at h
 refine Lz Tryz.func187 Tryz.ntmps187 ?_
 refine WC.b<|Ld<|La U<|La U<|WL.nil<|Lb<|WC.b<|Lv (fun i=>[].contains i) [] U<|Lf 0 4 U (fun _=>ya y2D U U)<|Li 1 5 U (yc yq U<|y17 hz.pv zwK U)<|Lf 2 6 U (fun _=>ya y33 U U)<|Li 3 7 U (yc yq U<|y17 hz.pv zwL U)<|Lf 4 8 U (fun _=>y7f U U U)<|Lf 5 9 U (fun _=>ya y2D U U)<|Li 6 10 U (yc yq U<|y17 hz.pv zwL U)<|Lf 7 11 U (fun _=>ya y33 U U)<|Li 8 12 U (yc yq U<|y17 hz.pv zwK U)<|Lf 9 13 U (fun _=>y7f U U U)<|Lf 10 14 U (fun _=>y8w U U U)<|Lf 11 15 U (fun _=>ya y33 U U)<|Li 12 16 U (yc yq U<|y17 hz.pv zwK U)<|Lf 13 17 U (fun _=>ya y33 U U)<|Li 14 18 U (yc yq U<|y17 hz.pv zwL U)<|Lf 15 19 U (fun _=>y7f U U U)<|Lf 16 2 U (fun _=>q_z U)<|Lf 17 3 U (fun _=>q_z U)<|WD.done (by kernel_rfl)<|Lb<|WC.ret ?_
 obtain rfl:=oJ h
 refine Lh Tryz.results187 (.tmp U<|.tmp U .nil)<|fun w hw=>?_
 exact⟨y1R U U,hw.sub .nil⟩
def y9s(zek:z2)(zel:z2):Option (z2×Int):=
 (y1Y zek).bind fun zGJ=>(if !zGJ then some true else(y1Y zel).bind fun zGK=>some (!zGK)).bind fun zpS=>if zpS then some ((⟨0,0⟩:z2),2) else(y9Z zek zel).bind fun zwM=>(y5J zwM.1 zwM.2).bind fun zwN=>some (zwN.1,zwN.2)
theorem yis{Z:Zp}{zek:z2}{zel:z2}{r:z2×Int}(h:y9s zek zel=some r)(w₀:World)(hz:PZ [] w₀ Z):
  Calls Tryz.prog 159 #[(.string ⟨#[43]⟩),(.agg #[(vi zek.fN),(vi zek.fD)]),(.agg #[(vi zel.fN),(vi zel.fD)])] w₀ fun e w'=>e = .returned (.tuple #[(.agg #[(vi r.1.fN),(vi r.1.fD)]),(vi r.2)])∧Hp [] w₀ w' []:=by
 unfold y9s at h
 refine Ke Tryz.func159 Tryz.ntmps159 ?_
 refine WC.b<|Ld (Lg 4 (yI (cs:=[(vi zek.fN),(vi zek.fD)]) U U) fun zmr _=>Lg 5 (yI (cs:=[(vi zel.fN),(vi zel.fD)]) U U) fun zms _=>Lg 6 (yv (cs:=[(vi 0),(vi 0)]) zV U) fun z15b _=>La U<|WL.nil<|Lb<|WC.b<|WC.b ?_)
 obtain⟨zGJ,zQB,h⟩:=za h
 obtain⟨zpS,zGL,h⟩:=za h
 refine Ld<|Le 9 (yh zg U (yj .h2) U)<|Lk 10 (zb Tryz.call130<|.cons U .nil) .nil (cc hz .nil fun w pz ho=>y2N zQB w pz )<|La U<|La U<|Lx false 3 12 (B:=zpS) U U U U U U (fun h=>(oJ<|yr zGL h).symm) (fun _ zQC=>?_) ?_
 ·skip
  have zmt:=ys zGL zQC
  obtain⟨zGK,zQD,zmt⟩:=za zmt
  replace zmt:=oJ zmt
  refine Le 13 (yh zg U (yj .h1) U)<|Lk 14 (zb Tryz.call130<|.cons U .nil) .nil (cc hz .nil fun w pz ho=>y2N zQD w pz )<|La U<|La U ?_
  exact Ly zmt U U .all
 refine La U<|Lx false 7 17 (B:=zpS) U U U U U U (fun h=>h) (fun _ zQE=>?_) ?_
 ·skip
  refine La U<|Le 19 (yd5 (r:=false) (by decide) U U)<|La U<|WL.e U U U<|WL.e U U U<|WL.e U U U<|La U<|La U ?_
  exact Ly (Eq.symm zQE) U U .all
 refine WL.nil<|Lb<|WC.cond U (fun zwO=>?_)<|fun zwO=>?_
 ·replace h:=yr h zwO
  refine WC.b<|Ld<|Le 26 (yL (v:=(.agg #[(vi 0),(vi 0)])) (Lp (l:=[]) .nil []) (fun _=>by kernel_rfl))<|Ll U U (yn zz U U U .here U U U)<|La U<|WL.nil<|Lb<|WC.ret<|Lj ?_
  obtain rfl:=oJ h
  refine Lh Tryz.results159 (.agg U zg U (yj .here)<|.tmp U .nil)<|fun w hw=>?_
  exact⟨y1R U U,hw.sub .nil⟩
 ·replace h:=ys h zwO
  refine WC.skip<|Lb<|WC.b<|Ld<|Lg 27 (y3b Value.string<|fun x=>x) ?_
  intro z15c _
  let A:Value:=(.func (.func 187) #[] #[(vp zmr),(vp zms)]);refine Le 28 (y16 (L3 (l:=[.tmp 4,.tmp 5]) (.r2 U U))) (Ll U U (y45 (k:=⟨#[43]⟩) (v:=A) y4q Tryz.underlying304 U U U U .here) (Le 29 (y16 (L3 (l:=[.tmp 4,.tmp 5]) (.r2 U U))) (Ll U U (y45 (k:=⟨#[45]⟩) (v:=(.func (.func 188) #[] #[(vp zmr),(vp zms)])) y4q Tryz.underlying304 U U U U .here) (Le 30 (y16 (L3 (l:=[.tmp 4,.tmp 5]) (.r2 U U))) (Ll U U (y45 (k:=⟨#[42]⟩) (v:=(.func (.func 189) #[] #[(vp zmr),(vp zms)])) y4q Tryz.underlying304 U U U U .here) (Le 31 (y16 (L3 (l:=[.tmp 4,.tmp 5]) (.r2 U U))) (Ll U U (y45 (k:=⟨#[47]⟩) (v:=(.func (.func 190) #[] #[(vp zmr),(vp zms)])) y4q Tryz.underlying304 U U U U .here) (La U (La U (WL.nil (Lb (WC.b ?_))))))))))))
  obtain⟨zwM,zQF,h⟩:=za h
  obtain⟨zwN,zQG,h⟩:=za h
  refine Ld<|La U<|La U<|Le 35 (yd4 (k:=⟨#[43]⟩) (dflt:=.nilFunc) (r:=A) y4q Tryz.underlying304 zp3 U U U .here (by rfl))<|Lk 36 (y2G (l:=[]) Tryz.call187 U .nil) .nil (ccl hz .nil (.s2 .h3 .h2) fun w pz ho la=>yhU zQF w pz ((la _ (.head _) _).stb)<|(la _ (.tail _<|.head _) _).stb)<|La U<|La U<|Lk 39 (zb Tryz.call160<|.r2 U U) .nil (cc hz .nil fun w pz ho=>y8J zQG w pz )<|La U<|La U<|Ll U U (yn zz U U U .h1 U U U)<|La U<|WL.nil<|Lb<|WC.ret ?_
  obtain rfl:=oJ h
  refine Lh Tryz.results159 (.agg U zg U (yj .here)<|.tmp U .nil)<|fun w hw=>?_
  exact⟨y1R U U,hw.sub .nil⟩
def y1q(zgg:z2)(zgh:z2):Option (z2×Int):=
 (y9s zgg zgh).bind fun zwP=>some (zwP.1,zwP.2)
theorem y6L{Z:Zp}{zgg:z2}{zgh:z2}{r:z2×Int}(h:y1q zgg zgh=some r)(w₀:World)(hz:PZ [] w₀ Z):
  Calls Tryz.prog 119 #[(.agg #[(vi zgg.fN),(vi zgg.fD)]),(.agg #[(vi zgh.fN),(vi zgh.fD)])] w₀ fun e w'=>e = .returned (.tuple #[(.agg #[(vi r.1.fN),(vi r.1.fD)]),(vi r.2)])∧Hp [] w₀ w' []:=by
 unfold y1q at h
 refine Lz Tryz.func119 Tryz.ntmps119 ?_
 refine WC.b<|Ld (Lg 2 (yI (cs:=[(vi zgg.fN),(vi zgg.fD)]) U U) fun z15d _=>Lg 3 (yI (cs:=[(vi zgh.fN),(vi zgh.fD)]) U U) fun z15e _=>Lg 4 (yv (cs:=[(vi 0),(vi 0)]) zV U) fun z15f _=>La U<|WL.nil<|Lb<|WC.b ?_)
 obtain⟨zwP,zQH,h⟩:=za h
 refine Ld<|Le 6 (yh zg U (yj .h2) U)<|Le 7 (yh zg U (yj .h1) U)<|Lk 8 (zb Tryz.call159<|.r3 U U U) .nil (cc hz .nil fun w pz ho=>yis zQH w pz )<|La U<|La U<|Ll U U (yn zz U U U .here U U U)<|La U<|WL.nil<|Lb<|WC.ret ?_
 obtain rfl:=oJ h
 refine Lh Tryz.results119 (.agg U zg U (yj .here)<|.tmp U .nil)<|fun w hw=>?_
 exact⟨y1R U U,hw.sub .nil⟩
end Go.Proofs.YthjnhebofpebpaaGreat

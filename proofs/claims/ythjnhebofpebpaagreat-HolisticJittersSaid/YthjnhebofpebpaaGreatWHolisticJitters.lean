/- A part of this claim's proof: models of functions, walks, plain laws. No conditions. -/
import Derived.Test.YthjnhebofpebpaaGreatW36h
set_option linter.all false
namespace Go.Proofs.YthjnhebofpebpaaGreat
open Go Go.RowKit Sep
set_option maxRecDepth 30000
set_option maxHeartbeats 4000000
def y29(z1L:S39×Int)(zdv:(List (S56×Int))→Option Bool):Nat→Int→(List (S56×Int))→Option Bool
 | 0,_,_=>none
 | zD6+1,z2P,z8x=>if decide (z2P<((z1L.1.fP.length:Nat):Int)) then chk ((0:Int)≤z2P∧z2P<((z1L.1.fP.length:Nat):Int)) (y29 z1L zdv zD6 (i64 (z2P+1)) (yF z8x (⟨((nth z1L.1.fP z2P).fNode),((nth z1L.1.fP z2P).fQ)⟩:S56) ((nth z1L.1.fP z2P).fDelay))) else zdv z8x
theorem y8r{n:Nat}{z1L:S39×Int}{zdv:(List (S56×Int))→Option Bool}{z2P:Int}{z8x:List (S56×Int)}{r:Bool}(h:y29 z1L zdv n z2P z8x=some r):∃ m,n=m+1:=by
 cases n with
 | zero=>cases h
 | succ m=>exact⟨m,rfl⟩
def y2a(zi:List (List ze))(zh:Int)(zj:zs)(zF:Int)(zM:List (List Int))(z1Y:List (S56×Int))(zdw:Option Bool):Nat→Int→Option Bool
 | 0,_=>none
 | zD7+1,z15=>if decide (z15<(((nth zi zh).length:Nat):Int)) then chk ((0:Int)≤z15∧z15<(((nth zi zh).length:Nat):Int)) (chk ((0:Int)≤((nth (nth zi zh) z15).fQ)∧((nth (nth zi zh) z15).fQ)<((zj.fK.length:Nat):Int)) (jp1 (fun(zdx:Int)=>chk ((decide (((nth (nth zi zh) z15).fNext)=((nth (nth zi zh) zF).fNode)))=true→((0:Int)≤zh∧zh<((zM.length:Nat):Int))) (chk ((decide (((nth (nth zi zh) z15).fNext)=((nth (nth zi zh) zF).fNode)))=true→((0:Int)≤zF∧zF<(((nth zM zh).length:Nat):Int))) (chk ((decide (((nth (nth zi zh) z15).fNext)=((nth (nth zi zh) zF).fNode)))=true→((0:Int)≤z15∧z15<(((nth zM zh).length:Nat):Int))) (if (decide (((nth (nth zi zh) z15).fNext)=((nth (nth zi zh) zF).fNode)))&&(decide ((nth (nth zM zh) zF)≠(i64 ((i64 ((nth (nth zM zh) z15)+(yf z1Y (⟨((nth (nth zi zh) z15).fNode),((nth (nth zi zh) z15).fQ)⟩:S56) 0)))-zdx)))) then some false else y2a zi zh zj zF zM z1Y zdw zD7 (i64 (z15+1)))))) fun zsL=>if decide ((i64 (((nth (nth zi zh) z15).fNode)-((zj.fM.length:Nat):Int)))≥0) then chk ((0:Int)≤(i64 (((nth (nth zi zh) z15).fNode)-((zj.fM.length:Nat):Int)))∧(i64 (((nth (nth zi zh) z15).fNode)-((zj.fM.length:Nat):Int)))<((zj.fS.length:Nat):Int)) (zsL (i64 (((nth zj.fK ((nth (nth zi zh) z15).fQ)).fSlow)+((nth zj.fS (i64 (((nth (nth zi zh) z15).fNode)-((zj.fM.length:Nat):Int)))).fDelay)))) else zsL ((nth zj.fK ((nth (nth zi zh) z15).fQ)).fSlow))) else zdw
theorem y8s{n:Nat}{zi:List (List ze)}{zh:Int}{zj:zs}{zF:Int}{zM:List (List Int)}{z1Y:List (S56×Int)}{zdw:Option Bool}{z15:Int}{r:Bool}(h:y2a zi zh zj zF zM z1Y zdw n z15=some r):∃ m,n=m+1:=by
 cases n with
 | zero=>cases h
 | succ m=>exact⟨m,rfl⟩
def y2b(zi:List (List ze))(zh:Int)(zM:List (List Int))(zj:zs)(z1Y:List (S56×Int))(zdy:Option Bool):Nat→Int→Option Bool
 | 0,_=>none
 | zD8+1,zF=>if decide (zF<(((nth zi zh).length:Nat):Int)) then jp0 (y2b zi zh zM zj z1Y zdy zD8 (i64 (zF+1))) fun zD9=>chk ((0:Int)≤zF∧zF<(((nth zi zh).length:Nat):Int)) (chk ((0:Int)≤zh∧zh<((zM.length:Nat):Int)) (chk ((0:Int)≤zF∧zF<(((nth zM zh).length:Nat):Int)) (chk ((decide ((nth (nth zM zh) zF)<0))=false→((0:Int)≤0∧0<(((nth zi zh).length:Nat):Int))) (chk ((decide ((nth (nth zM zh) zF)<0))=false→((decide (((nth (nth zi zh) zF).fNode)=((nth (nth zi zh) 0).fNode)))=true→((0:Int)≤zh∧zh<((zM.length:Nat):Int)))) (chk ((decide ((nth (nth zM zh) zF)<0))=false→((decide (((nth (nth zi zh) zF).fNode)=((nth (nth zi zh) 0).fNode)))=true→((0:Int)≤zF∧zF<(((nth zM zh).length:Nat):Int)))) (if (decide ((nth (nth zM zh) zF)<0))||((decide (((nth (nth zi zh) zF).fNode)=((nth (nth zi zh) 0).fNode)))&&(decide ((nth (nth zM zh) zF)≠0))) then some false else jp0 (zD9) fun zdw=>y2a zi zh zj zF zM z1Y zdw yx 0)))))) else zdy
theorem y8t{n:Nat}{zi:List (List ze)}{zh:Int}{zM:List (List Int)}{zj:zs}{z1Y:List (S56×Int)}{zdy:Option Bool}{zF:Int}{r:Bool}(h:y2b zi zh zM zj z1Y zdy n zF=some r):∃ m,n=m+1:=by
 cases n with
 | zero=>cases h
 | succ m=>exact⟨m,rfl⟩
def y2c(zi:List (List ze))(zj:zs)(z1Y:List (S56×Int))(zdz:Option Bool):Nat→(List (List Int))→Int→Option Bool
 | 0,_,_=>none
 | zDa+1,zM,zh=>if decide (zh<((zi.length:Nat):Int)) then jp1 (fun(za1:List (List Int))=>y2c zi zj z1Y zdz zDa za1 (i64 (zh+1))) fun zDb=>chk ((0:Int)≤zh∧zh<((zi.length:Nat):Int)) (chk ((0:Int)≤zh∧zh<((zM.length:Nat):Int)) (if decide ((((nth zM zh).length:Nat):Int)≠(((nth zi zh).length:Nat):Int)) then some false else jp0 (zDb zM) fun zdy=>y2b zi zh zM zj z1Y zdy yx 0)) else zdz
theorem y8u{n:Nat}{zi:List (List ze)}{zj:zs}{z1Y:List (S56×Int)}{zdz:Option Bool}{zM:List (List Int)}{zh:Int}{r:Bool}(h:y2c zi zj z1Y zdz n zM zh=some r):∃ m,n=m+1:=by
 cases n with
 | zero=>cases h
 | succ m=>exact⟨m,rfl⟩
def y51(zj:zs)(zoV:Int)(zi:List (List ze)):Option Bool:=
 (y82 zj zi).bind fun zLS=>if !zLS then(y61).bind fun zLT=>some zLT else(y4A zj zoV zi).bind fun z1L=>if decide (z1L.2≠0) then(y61).bind fun zLU=>some zLU else jp1 (fun(z1Y:List (S56×Int))=>(y3e zj zi z1L.1.fP).bind fun zsM=>if decide (((zsM.length:Nat):Int)≠((zi.length:Nat):Int)) then some false else jp0 ((y61).bind fun zLV=>some zLV) fun zdz=>y2c zi zj z1Y zdz yx zsM 0) fun zdv=>y29 z1L zdv yx 0 ([]:List (S56×Int))
theorem yaL(Z:Zp)(z7K:Option Addr)(z7L:Nat)(z7M:Option Addr)(z7N:Nat)(z7O:Option Addr)(z7P:Nat)(z7Q:Option Addr)(z7R:Nat)(z7S:Option Addr)(z7T:Nat)(z7U:Option Addr)(z7V:Nat)(z7W:Option Addr)(z7X:Nat)(z7Y:Option Addr)(z7Z:Nat)(z6G:Option Addr)(z6H:Nat)(zj:zs)(zoV:Int)(zi:List (List ze))(r:Bool)(h:y51 zj zoV zi=some r)(w₀:World)(hz:PZ [] w₀ Z)(zDc:ZS Z 4 (y3L Z) z7K z7L zj.fM)(zDd:ZS Z 4 (y4n Z) z7M z7N zj.fC0)(zsN:ZS Z 4 (fun r x=>r=e64 x) z7O z7P zj.fS)(zsO:ZS Z 4 (fun r x=>r=e62 x) z7Q z7R zj.fK)(zDe:ZS Z 7 (p69 Z) z7S z7T zj.fVLs)(zDf:ZS Z 5 (fun r x=>r=y4C x) z7U z7V zj.fH)(zDg:ZS Z 3 (y4o Z) z7W z7X zj.fU)(zDh:ZS Z 4 (fun r x=>r=y4D x) z7Y z7Z zj.fV0)(zsP:ZS Z 1 (p58 Z) z6G z6H zi):
  Calls Tryz.prog 5 #[(.agg #[(.slice z7K zj.fM.length z7L),(.slice z7M zj.fC0.length z7N),(.slice z7O zj.fS.length z7P),(.slice z7Q zj.fK.length z7R),(.slice z7S zj.fVLs.length z7T),(.slice z7U zj.fH.length z7V),(.slice z7W zj.fU.length z7X),(.slice z7Y zj.fV0.length z7Z)]),(vi zoV),(.slice z6G zi.length z6H)] w₀ fun e w'=>e = .returned (.bool r)∧Hp [] w₀ w' []:=by
 unfold y51 at h
 refine Ke Tryz.func5 Tryz.ntmps5 ?_
 let A:List Value:=[(.slice z7K zj.fM.length z7L),(.slice z7M zj.fC0.length z7N),(.slice z7O zj.fS.length z7P),(.slice z7Q zj.fK.length z7R),(.slice z7S zj.fVLs.length z7T),(.slice z7U zj.fH.length z7V),(.slice z7W zj.fU.length z7X),(.slice z7Y zj.fV0.length z7Z)];refine WC.pool (WC.b (Ld (Lg 3 (yI (cs:=A) U U) ?_)))
 intro z3y _
 refine La U<|WL.nil<|Lb<|WC.b<|WC.b ?_
 obtain⟨zLS,z11I,h⟩:=za h
 refine Ld<|Le 21 (yh y1V U (yj .here) U)<|La U<|Lk 23 (zb Tryz.call10<|.r2 U U) .nil (ccz hz .nil .h1 fun w pz ho=>ygT z11I w pz ((zDc.mono<|Zle.left _ _).weak (fun _ _ h=>y1c (Zle.left _ _) h)) ((zDd.mono<|Zle.left _ _).weak (fun _ _ h=>y1o (Zle.left _ _) h)) (zsN.mono<|Zle.left _ _) (zsO.mono<|Zle.left _ _) ((zDe.mono<|Zle.left _ _).weak (fun _ _ h=>y1e (Zle.left _ _) h)) (zDf.mono<|Zle.left _ _) ((zDg.mono<|Zle.left _ _).weak (fun _ _ h=>y1p (Zle.left _ _) h)) (zDh.mono<|Zle.left _ _)<|(zsP.mono<|Zle.left _ _).weak (fun _ _ h=>y1B (Zle.left _ _) h))<|La U<|WL.nil<|Lb<|WC.cond U (fun zDi=>?_)<|fun zDi=>?_
 ·replace h:=yr h zDi
  refine WC.b ?_
  obtain⟨zLT,z11J,h⟩:=za h
  refine Ld<|Lk 25 (zb Tryz.call11 .nil) .nil (ccz hz .nil .h1 fun w pz ho=>y9N z11J w pz )<|La U<|WL.nil<|Lb<|WC.ret<|Lj ?_
  obtain rfl:=oJ h
  refine Lh Tryz.results5 (.tmp U .nil)<|fun w hw=>?_
  exact⟨yD U,hw.sub .nil⟩
 ·replace h:=ys h zDi
  refine WC.skip<|Lb<|WC.b ?_
  obtain⟨z1L,z11K,h⟩:=za h
  refine Ld<|Le 27 (yh y1V U (yj .here) U)<|La U<|La U<|WL.y8g (dd:=30) U U U (zb Tryz.call12<|.r3 U U U) .nil (ccz hz .nil .h1 fun w pz ho=>y9C z11K w pz ((zDc.mono<|Zle.left _ _).weak (fun _ _ h=>y1c (Zle.left _ _) h)) ((zDd.mono<|Zle.left _ _).weak (fun _ _ h=>y1o (Zle.left _ _) h)) (zsN.mono<|Zle.left _ _) (zsO.mono<|Zle.left _ _) ((zDe.mono<|Zle.left _ _).weak (fun _ _ h=>y1e (Zle.left _ _) h)) (zDf.mono<|Zle.left _ _) ((zDg.mono<|Zle.left _ _).weak (fun _ _ h=>y1p (Zle.left _ _) h)) (zDh.mono<|Zle.left _ _)<|(zsP.mono<|Zle.left _ _).weak (fun _ _ h=>y1B (Zle.left _ _) h)) ?_
  rintro zoW zoX zsQ zsR _
  refine La U<|La U<|La U (Lg 7 (yv (cs:=[vn,vn]) y7v U) fun zsS _=>Ll U U (yn y5q U U U .here U U U)<|La U<|WL.nil<|Lb<|WC.b<|WC.b<|Ld<|La U<|La U<|WL.nil<|Lb<|WC.cond U (fun zDj=>?_)<|fun zDj=>?_)
  ·replace h:=yr h zDj
   refine WC.b ?_
   obtain⟨zLU,z11L,h⟩:=za h
   refine Ld<|Lk 35 (zb Tryz.call11 .nil) .nil (ccz hz .nil .h4 fun w pz ho=>y9N z11L w pz )<|La U<|WL.nil<|Lb<|WC.ret<|Lj ?_
   obtain rfl:=oJ h
   refine Lh Tryz.results5 (.tmp U .nil)<|fun w hw=>?_
   exact⟨yD U,hw.sub .nil⟩
  ·replace h:=ys h zDj
   refine WC.skip<|Lb<|WC.b<|Ld (Lg 36 (y3b (fun x=>Value.agg (e56 x).toArray)<|Value.int .i64) fun z3z _=>La U<|WL.nil<|Lb ?_)
   obtain⟨zdv,z11M,h⟩:=yZ h
   let F:Value:=(.slice z6G zi.length z6H);let H:Value:=(.slice zoW z1L.1.fP.length zoX);let I:Value:=(.slice zsQ z1L.1.fEnds.length zsR);refine Kf (fun(z1Y:List (S56×Int))=>(zdv z1Y=some r)) (fun z1Y=>[(2,F),(3,(vp z3y)),(7,(vp zsS)),(9,(.map (some z3z)))]) (fun z1Y=>[fz [],stb z3y 31 A,stb zsS 40 [H,I],row H 37 4 (z1L.1.fP.flatMap e37),row I 53 3 (z1L.1.fEnds.flatMap e53),ym z3z (fun x=>Value.agg (e56 x).toArray) (Value.int .i64) z1Y]) ?_ ?_
   ·skip
    refine WC.b<|Ld<|Le 37 (ya y4T U U)<|Le 38 (yc y4U U<|yi .h1 U)<|Le 39 (yG Tryz.underlying33 U)<|La U<|WL.nil<|Lb<|WC.block<|WC.y8S (fun(zln:Nat) (z2P:Int) (z8x:List (S56×Int))=>(y29 z1L zdv zln z2P z8x=some r)) (fun zln z2P z8x=>[(2,F),(3,(vp z3y)),(7,(vp zsS)),(9,(.map<|some z3z)),(38,H),(39,(vi ((z1L.1.fP.length:Nat):Int))),(40,(vi z2P))]) (fun zln z2P z8x=>[fz [],row H 37 4 (z1L.1.fP.flatMap e37),stb z3y 31 A,stb zsS 40 [H,I],row I 53 3 (z1L.1.fEnds.flatMap e53),ym z3z (fun x=>Value.agg (e56 x).toArray) (Value.int .i64) z8x]) (fun zln z2P z8x=>zln) ⟨yx,0,([]:List (S56×Int))⟩ h (.r7 U U U U U U U) (.s6 .h5 .h2 .h3 .h1 .h1 .here) ?_
    rintro zln z2P z8x h
    obtain⟨zD6,rfl⟩:=y8r h
    rw[y29] at h
    refine WC.b<|Ld<|La U<|WL.nil<|Lb<|WC.b<|WC.cond U (fun zDk=>?_)<|fun zDk=>?_
    ·replace h:=yr h zDk
     refine WC.skip<|Lb<|WC.b<|WC.block<|WC.b ?_
     obtain⟨zoY,h⟩:=yl h
     refine Ld<|Ki (fun w hw=>Hp.y2u .h1 hw (by intro hz';have:=zoY;rw[hz'] at this;omega)) ?_
     rintro⟨z1bf,rfl⟩
     refine Le 42 (yW y5O U U zoY.1 zoY.2 y30)<|Le 43 (y14 (cs:=(e37<|nth z1L.1.fP z2P)) y77 U U<|y4S .h1<|y31 (enc:=e37) (l:=z1L.1.fP) (i:=z2P) (sz:=4) (fun _=>U) zoY.1 zoY.2) (Lg 11 (yv (cs:=[(vi 0),(vi 0),(vi 0),(vi 0)]) y88 U) fun z1bg _=>Ll U U (yn y8k U U U .here U U U)<|WL.nil<|Lb<|Ld<|La U<|Le 45 (ya y78 U U)<|Le 46 (yc yq U<|yi .here U)<|Le 47 (ya y8l U U)<|Le 48 (yc yq U<|yi .here U)<|Le 49 (yL (v:=(.agg #[(vi<|(nth z1L.1.fP z2P).fNode),(vi<|(nth z1L.1.fP z2P).fQ)])) (Lp (l:=[.tmp 46,.tmp 48]) (.r2 U U) [0,1]) (fun _=>by kernel_rfl))<|Le 50 (ya yac U U)<|Le 51 (yc yq U<|yi .here U)<|Ll U U (y3o (k:=(⟨((nth z1L.1.fP z2P).fNode),((nth z1L.1.fP z2P).fQ)⟩:S56)) (v:=((nth z1L.1.fP z2P).fDelay)) yhm Tryz.underlying55 U U U U .h6)<|WL.nil<|Lt<|Lb<|Ld<|La U<|La U<|WL.nil ?_)
     exact WX.round ⟨zD6,(i64 (z2P+1)),(yF z8x (⟨((nth z1L.1.fP z2P).fNode),((nth z1L.1.fP z2P).fQ)⟩:S56)<|(nth z1L.1.fP z2P).fDelay)⟩ h (Nat.lt_succ_self _) (.r7 U U U U U U U)<|.s6 .h2 .h2 .h2 .h2 .h2 .here
    ·replace h:=ys h zDk
     refine WC.exit<|Ln<|Ln<|Lu ?_
     exact Lo z8x h (.r4 U U U U)<|.s6 .here .h1 .h1 .here .here .here
   ·rintro z1Y h
    replace h:=(z11M z1Y).symm.trans h
    refine WC.b ?_
    obtain⟨zsM,z11N,h⟩:=za h
    refine Ld<|Le 53 (yh y1V U (yj .h1) U)<|La U<|Le 55 (ya y4T U U)<|Le 56 (yc y4U U<|yi .h2 U) (WL.freezeS (ls:=z1L.1.fP) .h3 .here hz (RR.flat (enc:=e37) (fun _=>U) _) fun z2Q z5u z11O=>WL.y8g (dd:=57) U U U (zb Tryz.call14<|.r3 U U U) .nil (ccz hz .nil .here fun w pz ho=>y9D z11N w pz ((zDc.mono<|(Zle.left _ _).trans z5u).weak (fun _ _ h=>y1c ((Zle.left _ _).trans z5u) h)) ((zDd.mono<|(Zle.left _ _).trans z5u).weak (fun _ _ h=>y1o ((Zle.left _ _).trans z5u) h)) (zsN.mono<|(Zle.left _ _).trans z5u) (zsO.mono<|(Zle.left _ _).trans z5u) ((zDe.mono<|(Zle.left _ _).trans z5u).weak (fun _ _ h=>y1e ((Zle.left _ _).trans z5u) h)) (zDf.mono<|(Zle.left _ _).trans z5u) ((zDg.mono<|(Zle.left _ _).trans z5u).weak (fun _ _ h=>y1p ((Zle.left _ _).trans z5u) h)) (zDh.mono<|(Zle.left _ _).trans z5u) ((zsP.mono<|(Zle.left _ _).trans z5u).weak (fun _ _ h=>y1B ((Zle.left _ _).trans z5u) h)) z11O) ?_)
    rintro z2R z11P z11Q z11R z11S
    refine WL.merge .here .h1<|La U<|WL.nil<|Lb<|WC.b<|WC.b<|Ld<|La U<|Le 59 (yG Tryz.underlying46 U)<|La U<|Le 61 (yG Tryz.underlying32 U)<|La U<|WL.nil<|Lb<|WC.cond U (fun zDl=>?_)<|fun zDl=>?_
    ·replace h:=yr h zDl
     refine WC.b<|Ld<|La U<|WL.nil<|Lb<|WC.ret<|Lj ?_
     obtain rfl:=oJ h
     refine Lh Tryz.results5 (.tmp U .nil)<|fun w hw=>?_
     exact⟨yD U,hw.sub .nil⟩
    ·replace h:=ys h zDl
     refine WC.skip<|Lb ?_
     obtain⟨zdz,z11T,h⟩:=y25 h
     refine L8 ((zdz=some r)) ([]) ([fz (z2Q++z2R)]) ?_ ?_
     ·skip
      refine WC.b<|Ld<|La U<|Le 64 (yG Tryz.underlying32 U)<|La U<|WL.nil<|Lb<|WC.block<|WC.y8T (fun(zlo:Nat) (zM:List (List Int)) (zh:Int) (zlp:Option Addr) (z3V:Nat) (z8y:List Value)=>(y2c zi zj z1Y zdz zlo zM zh=some r)∧(RR 1 (p50 (Z++(z2Q++z2R))) z8y zM)) (fun zlo zM zh zlp z3V z8y=>[(3,(vp z3y)),(9,(.map<|some z3z)),(12,(.slice zlp zM.length z3V)),(63,F),(64,(vi ((zi.length:Nat):Int))),(65,(vi zh))]) (fun zlo zM zh zlp z3V z8y=>[fz (z2Q++z2R),row (.slice zlp zM.length z3V) 50 1 z8y,stb z3y 31 A,ym z3z (fun x=>Value.agg (e56 x).toArray) (Value.int .i64) z1Y]) (fun zlo zM zh zlp z3V z8y=>zlo) ⟨yx,zsM,0,z11P,z11Q,z11R⟩ ⟨h,(z11S.weak<|fun _ _ h=>ydL (Zle.yN _ _ _) h)⟩ (.r6 U U U U U U) (.s4 .here .here .here .h2) ?_
      rintro zlo zM zh zlp z3V z8y ⟨h,zlq⟩
      obtain⟨zDa,rfl⟩:=y8u h
      rw[y2c] at h
      refine WC.b<|Ld<|La U<|WL.nil<|Lb<|WC.b<|WC.cond U (fun zDm=>?_)<|fun zDm=>?_
      ·replace h:=yr h zDm
       refine WC.skip<|Lb ?_
       obtain⟨zDb,z11U,h⟩:=yZ h
       refine WC.y8z (fun(za1:List (List Int)) (zlr:Option Addr) (zls:Nat) (zlt:List Value)=>(zDb za1=some r)∧(RR 1 (p50 (Z++(z2Q++z2R))) zlt za1)) (fun za1 zlr zls zlt=>[(3,(vp z3y)),(9,(.map<|some z3z)),(12,(.slice zlr za1.length zls)),(63,F),(64,(vi ((zi.length:Nat):Int))),(65,(vi zh))]) (fun za1 zlr zls zlt=>[fz (z2Q++z2R),row (.slice zlr za1.length zls) 50 1 zlt,stb z3y 31 A,ym z3z (fun x=>Value.agg (e56 x).toArray) (Value.int .i64) z1Y]) ?_ ?_
       ·skip
        refine WC.block<|WC.b ?_
        obtain⟨z11V,h⟩:=yl h
        refine Ld<|La U<|L0 (dd:=68) U U (Z:=(Z++(z2Q++z2R))) (Pr:=(p58 (Z++(z2Q++z2R)))) y81 U U ((zsP.mono<|(Zle.left _ _).trans (z5u.trans<|(Zle.left _ _).trans (Zle.yN _ _ _))).weak (fun _ _ h=>y1B ((Zle.left _ _).trans (z5u.trans<|(Zle.left _ _).trans (Zle.yN _ _ _))) h)) z11V ?_
        rintro z1bh z1bi z11W z1bj ⟨z4W,z4X,rfl,zDn⟩
        refine Le 69 (yc y6w U<|y3a (hz.pv2 .here) z11W U)<|La U<|La U<|WL.nil<|Lb<|WC.b<|WC.b ?_
        obtain⟨zoZ,h⟩:=yl h
        refine Ld<|La U<|La U<|Ki (fun w hw=>Hp.y2u .h1 hw (by intro hz';have:=zoZ;rw[hz'] at this;omega)) ?_
        rintro⟨z6I,rfl⟩
        obtain⟨z1bk,z1bl,z1bm,z11X,⟨z1bn,z1bo,rfl,z1bp⟩⟩:=RR.elem (Pr:=(p50 (Z++(z2Q++z2R)))) zlq zoZ.1 zoZ.2
        refine Le 72 (yW y9r U U zoZ.1 zoZ.2 y30)<|Le 73 (yc yad U<|y63 .h1<|yaa z11X 0 _ U)<|Le 74 (yG Tryz.underlying50 U)<|La U<|Le 76 (yG Tryz.underlying58 U)<|La U<|WL.nil<|Lb<|WC.cond U (fun zDo=>?_)<|fun zDo=>?_
        ·replace h:=yr h zDo
         refine WC.b<|Ld<|La U<|WL.nil<|Lb<|WC.ret<|Lj<|Lq<|Lj<|Lj<|Lq<|Lj ?_
         obtain rfl:=oJ h
         refine Lh Tryz.results5 (.tmp U .nil)<|fun w hw=>?_
         exact⟨yD U,hw.sub .nil⟩
        ·replace h:=ys h zDo
         refine WC.skip<|Lb<|WC.b<|Ld<|La U<|Le 79 (yG Tryz.underlying58 U)<|La U<|WL.nil<|Lb ?_
         obtain⟨zdy,z11Y,h⟩:=y25 h
         let D:Value:=(.slice (some ⟨z6I,0,none⟩) zM.length z3V);let G:Value:=(vi ((zi.length:Nat):Int));refine WC.yha ((zdy=some r)) ([(3,(vp z3y)),(9,(.map (some z3z))),(12,D),(63,F),(64,G),(65,(vi zh))]) ([fz (z2Q++z2R),row D 50 1 z8y,stb z3y 31 A,ym z3z (fun x=>Value.agg (e56 x).toArray) (Value.int .i64) z1Y]) ?_ ?_
         ·skip
          let C:Value:=(.slice z4W ((nth zi zh).length) z4X);let E:Value:=(vi (((nth zi zh).length:Nat):Int));refine WC.block (L9 (fun(zlu:Nat) (zF:Int)=>(y2b zi zh zM zj z1Y zdy zlu zF=some r)) (fun zlu zF=>[(3,(vp z3y)),(9,(.map (some z3z))),(12,D),(13,(vi zh)),(14,C),(63,F),(64,G),(65,(vi zh)),(78,C),(79,E),(80,(vi zF))]) (fun zlu zF=>[fz (z2Q++z2R),row D 50 1 z8y,stb z3y 31 A,ym z3z (fun x=>Value.agg (e56 x).toArray) (Value.int .i64) z1Y]) (fun zlu zF=>zlu) ⟨yx,0⟩ h (.r11 U U U U U U U U U U U) (.a4) ?_)
          rintro zlu zF h
          obtain⟨zD8,rfl⟩:=y8t h
          rw[y2b] at h
          refine WC.b<|Ld<|La U<|WL.nil<|Lb<|WC.b<|WC.cond U (fun zDp=>?_)<|fun zDp=>?_
          ·replace h:=yr h zDp
           refine WC.skip<|Lb ?_
           obtain⟨zD9,z11Z,h⟩:=y25 h
           refine L8 ((zD9=some r)) ([(3,(vp z3y)),(9,(.map<|some z3z)),(12,D),(13,(vi zh)),(14,C),(63,F),(64,G),(65,(vi zh)),(78,C),(79,E),(80,(vi zF))]) ([fz (z2Q++z2R),row D 50 1 z8y,stb z3y 31 A,ym z3z (fun x=>Value.agg (e56 x).toArray) (Value.int .i64) z1Y]) ?_ ?_
           ·skip
            refine WC.block<|WC.b ?_
            obtain⟨z120,h⟩:=yl h
            refine Ld<|La U<|L0 (dd:=83) U U (Z:=(Z++(z2Q++z2R))) (Pr:=(fun r x=>r=e60 x)) y5i U U zDn z120 ?_
            rintro z1bq z1br z121 z1bs rfl
            refine Le 84 (yh y3z U (y2d (hz.pv2 .here) z121) U) (Lg 16 (yv (cs:=[(vi 0),(vi 0),(vi 0)]) y5N U) fun zhT _=>La U<|Ll U U (yn y60 U U U .here U U U)<|WL.nil<|Lb<|WC.b<|WC.b ?_)
            obtain⟨zsT,h⟩:=yl h
            obtain⟨z122,h⟩:=yl h
            obtain⟨z123,h⟩:=yl h
            obtain⟨z124,h⟩:=yl h
            obtain⟨z125,h⟩:=yl h
            refine Lv (fun i=>[].contains i) [] U<|Lf 0 85 U (fun _=>q_m U)<|Lf 1 86 U (fun _=>q_m U) ?_
            obtain⟨z1bt,z1bu,z1bv,z126,⟨z1bw,z1bx,rfl,z127⟩⟩:=RR.elem (Pr:=(p50 (Z++(z2Q++z2R)))) zlq zsT.1 zsT.2
            refine Lf 2 87 U (fun _=>yW y9r U U zsT.1 zsT.2 y30)<|Li 3 88 U (yc yad U<|y63 .h2<|yaa z126 0 _ U)<|Lf 4 89 U (fun _=>q_m U)<|L5 (j:=5) (dd:=90) (by kernel_rfl) U z1Z z20 U U (Z:=(Z++(z2Q++z2R))) (Pr:=(fun r x=>r=e3 x)) y52 U U z127 z122 ?_
            rintro z1by z1bz z128 z1bA rfl
            refine Li 6 91 U (yc yq U<|y3a (hz.pv2 .h1) z128 U)<|Lf 7 92 U (fun _=>ye3 U U)<|Lf 8 93 U (fun _=>q_m U)<|Kb (fuel':=0) [(3,(vp z3y)),(9,(.map<|some z3z)),(12,D),(13,(vi zh)),(14,C),(63,F),(64,G),(65,(vi zh)),(78,C),(79,E),(80,(vi zF)),(16,(vp zhT)),(15,(vi zF)),(93,(.bool<|decide ((nth (nth zM zh) zF)<0))),(111,(.bool ((decide ((nth (nth zM zh) zF)<0))||((decide (((nth (nth zi zh) zF).fNode)=((nth (nth zi zh) 0).fNode)))&&(decide ((nth (nth zM zh) zF)≠0))))))] (y1U 27 [26,25,24,23,22,21,20,19,18,17,16,15,14,13,12,11,10,9,8,7,6,5,4,3,2,1,0]) ?_<|fun zLW=>?_
            rotate_left
            ·rcases Bool.eq_false_or_eq_true (decide ((nth (nth zM zh) zF)<0)) with hb' | hb'
             ·have zDq:=hb';clear hb'
              refine L2 (i:=93) U zDq<|Lm 9 94 U<|Lm 10 95 U<|Lm 11 96 U<|Lm 12 97 U<|Lm 13 98 U<|Lm 14 99 U<|Lm 15 100 U<|Lm 16 101 U<|Lm 17 102 U<|Lm 18 103 U<|Lm 19 104 U<|Lm 20 105 U<|Lm 21 106 U<|Lm 22 107 U<|Lm 23 108 U<|Lm 24 109 U<|Lm 25 110 U<|Lf 26 111 U (fun _=>y3x U U)<|Lw (.a5) ?_ zLW
              exact .r15 U U U U U U U U U U U U U (zD<|Eq.symm zDq)<|zD<|y7Q zDq
             ·have zlv:=hb';clear hb'
              have z129:=z123 zlv
              have z12a:=z124 zlv
              have z12b:=z125 zlv
              refine L2 (i:=93) U zlv<|Lf 9 94 U (fun _=>ya y32 U U)<|Li 10 95 U (yc yq U<|yi .here U)<|Lf 11 96 U (fun _=>q_m U)<|L5 (j:=12) (dd:=97) (by kernel_rfl) U z1Z z20 U U (Z:=(Z++(z2Q++z2R))) (Pr:=(fun r x=>r=e60 x)) y5i U U zDn z129 ?_
              rintro z1bB z1bC z12c z1bD rfl
              refine Lf 13 98 U (fun _=>ya y32 U U)<|Li 14 99 U (yc yq U<|y17 (hz.pv2 .h1) z12c U)<|Lf 15 100 U (fun _=>y9U U U)<|Lf 16 101 U (fun _=>q_m U)<|Kb (fuel':=1) [(3,(vp z3y)),(9,(.map<|some z3z)),(12,D),(13,(vi zh)),(14,C),(63,F),(64,G),(65,(vi zh)),(78,C),(79,E),(80,(vi zF)),(16,(vp zhT)),(15,(vi zF)),(93,(.bool false)),(101,(.bool<|decide (((nth (nth zi zh) zF).fNode)=((nth (nth zi zh) 0).fNode)))),(110,(.bool<|(decide (((nth (nth zi zh) zF).fNode)=((nth (nth zi zh) 0).fNode)))&&(decide ((nth (nth zM zh) zF)≠0))))] (y1U 27 [25,24,23,22,21,20,19,18,17,16,15,14,13,12,11,10,9,8,7,6,5,4,3,2,1,0]) ?_<|fun zLX=>?_
              rotate_left
              ·rcases Bool.eq_false_or_eq_true (decide (((nth (nth zi zh) zF).fNode)=((nth (nth zi zh) 0).fNode))) with hb' | hb'
               ·have zp0:=hb';clear hb'
                have zsU:=z12a zp0
                have z12d:=z12b zp0
                refine L2 (i:=101) U zp0<|Lf 17 102 U (fun _=>q_m U)<|Lf 18 103 U (fun _=>q_m U) ?_
                obtain⟨z1bE,z1bF,z1bG,z12e,⟨z1bH,z1bI,rfl,z12f⟩⟩:=RR.elem (Pr:=(p50 (Z++(z2Q++z2R)))) zlq zsU.1 zsU.2
                refine Lf 19 104 U (fun _=>yW y9r U U zsU.1 zsU.2 y30)<|Li 20 105 U (yc yad U<|y63 .h2<|yaa z12e 0 _ U)<|Lf 21 106 U (fun _=>q_m U)<|L5 (j:=22) (dd:=107) (by kernel_rfl) U z1Z z20 U U (Z:=(Z++(z2Q++z2R))) (Pr:=(fun r x=>r=e3 x)) y52 U U z12f z12d ?_
                rintro z1bJ z1bK z12g z1bL rfl
                refine Li 23 108 U (yc yq U<|y3a (hz.pv2 .h1) z12g U)<|Lf 24 109 U (fun _=>yd1 U U)<|Lf 25 110 U (fun _=>y3x U U)<|Lw (.a5) ?_ zLX
                exact .r16 U U U U U U U U U U U U U U (zD<|Eq.symm zp0)<|zD<|y3X zp0
               ·have zDr:=hb';clear hb'
                refine L2 (i:=101) U zDr<|Lm 17 102 U<|Lm 18 103 U<|Lm 19 104 U<|Lm 20 105 U<|Lm 21 106 U<|Lm 22 107 U<|Lm 23 108 U<|Lm 24 109 U<|Lf 25 110 U (fun _=>y3y U U)<|Lw (.a5) ?_ zLX
                exact .r16 U U U U U U U U U U U U U U (zD<|Eq.symm zDr)<|zD<|y3W zDr
              refine WD.d #[true,true,true,true,true,true,true,true,true,true,true,true,true,true,true,true,true,true,true,true,true,true,true,true,true,true,false] (by kernel_rfl)<|Lf 26 111 U (fun _=>y3y U U)<|Lw (.a5) ?_ zLW
              exact .r15 U U U U U U U U U U U U U (zD<|Eq.symm zlv)<|zD<|y7R zlv
            refine WD.d #[true,true,true,true,true,true,true,true,true,true,true,true,true,true,true,true,true,true,true,true,true,true,true,true,true,true,true] (by kernel_rfl)<|WD.done (by kernel_rfl)<|Lb<|WC.cond U (fun zDs=>?_)<|fun zDs=>?_
            ·replace h:=yr h zDs
             refine WC.b<|Ld<|La U<|WL.nil<|Lb<|WC.ret<|Lj<|Lq<|Lj<|Lj<|Lq<|Lj<|Lq<|Lj<|Lj<|Lq<|Lj ?_
             obtain rfl:=oJ h
             refine Lh Tryz.results5 (.tmp U .nil)<|fun w hw=>?_
             exact⟨yD U,hw.sub .nil⟩
            ·replace h:=ys h zDs
             refine WC.skip<|Lb<|WC.b<|Ld<|La U<|Le 113 (yG Tryz.underlying58 U)<|La U<|WL.nil<|Lb ?_
             obtain⟨zdw,z12h,h⟩:=y25 h
             refine WC.yha ((zdw=some r)) ([(3,(vp z3y)),(9,(.map<|some z3z)),(12,D),(13,(vi zh)),(14,C),(63,F),(64,G),(65,(vi zh)),(78,C),(79,E),(80,(vi zF))]) ([fz (z2Q++z2R),row D 50 1 z8y,stb z3y 31 A,ym z3z (fun x=>Value.agg (e56 x).toArray) (Value.int .i64) z1Y]) ?_ ?_
             ·skip
              let J:List Value:=[(vi ((nth (nth zi zh) zF).fNode)),(vi ((nth (nth zi zh) zF).fNext)),(vi ((nth (nth zi zh) zF).fQ))];refine WC.block (L9 (fun(zlw:Nat) (z15:Int)=>(y2a zi zh zj zF zM z1Y zdw zlw z15=some r)) (fun zlw z15=>[(3,(vp z3y)),(9,(.map (some z3z))),(12,D),(13,(vi zh)),(14,C),(15,(vi zF)),(16,(vp zhT)),(63,F),(64,G),(65,(vi zh)),(78,C),(79,E),(80,(vi zF)),(112,C),(113,E),(114,(vi z15))]) (fun zlw z15=>[fz (z2Q++z2R),row D 50 1 z8y,stb z3y 31 A,ym z3z (fun x=>Value.agg (e56 x).toArray) (Value.int .i64) z1Y,stb zhT 60 J]) (fun zlw z15=>zlw) ⟨yx,0⟩ h (.r16 U U U U U U U U U U U U U U U U) (.s5 .h1 .h1 .h1 .h1 .here) ?_)
              rintro zlw z15 h
              obtain⟨zD7,rfl⟩:=y8s h
              rw[y2a] at h
              refine WC.b<|Ld<|La U<|WL.nil<|Lb<|WC.b<|WC.cond U (fun zDt=>?_)<|fun zDt=>?_
              ·replace h:=yr h zDt
               refine WC.skip<|Lb<|WC.b<|WC.block<|WC.b ?_
               obtain⟨z12i,h⟩:=yl h
               refine Ld<|La U<|L0 (dd:=117) U U (Z:=(Z++(z2Q++z2R))) (Pr:=(fun r x=>r=e60 x)) y5i U U zDn z12i ?_
               rintro z1bM z1bN z12j z1bO rfl
               refine Le 118 (yh y3z U (y2d (hz.pv2 .here) z12j) U) (Lg 18 (yv (cs:=[(vi 0),(vi 0),(vi 0)]) y5N U) fun zLY _=>La U<|Ll U U (yn y60 U U U .here U U U)<|WL.nil<|Lb<|WC.b ?_)
               obtain⟨z12k,h⟩:=yl h
               refine Ld<|Le 119 (ya y74 U U)<|Le 120 (yc y75 U<|yi .h3 U)<|Le 121 (ya y76 U U)<|Le 122 (yc yq U<|yi .here U)<|L0 (dd:=123) U U (Z:=(Z++(z2Q++z2R))) (Pr:=(fun r x=>r=e62 x)) y9p U U (zsO.mono<|(Zle.left _ _).trans (z5u.trans<|(Zle.left _ _).trans (Zle.yN _ _ _))) z12k ?_
               rintro z1bP z1bQ z12l z1bR rfl
               refine Le 124 (ya y8j U U)<|Le 125 (yc yq U<|y17 (hz.pv2 .h1) z12l U)<|La U<|WL.nil<|Lb ?_
               obtain⟨zsL,z12m,h⟩:=yZ h
               let K:Value:=(vi ((nth (nth zi zh) z15).fNode));let L:Value:=(vi ((nth (nth zi zh) z15).fQ));refine Kf (fun(zdx:Int)=>(zsL zdx=some r)) (fun zdx=>[(3,(vp z3y)),(9,(.map (some z3z))),(12,D),(13,(vi zh)),(14,C),(15,(vi zF)),(16,(vp zhT)),(17,(vi z15)),(18,(vp zLY)),(19,(vi zdx)),(63,F),(64,G),(65,(vi zh)),(78,C),(79,E),(80,(vi zF)),(112,C),(113,E),(114,(vi z15))]) (fun zdx=>[fz (z2Q++z2R),row D 50 1 z8y,stb z3y 31 A,ym z3z (fun x=>Value.agg (e56 x).toArray) (Value.int .i64) z1Y,stb zhT 60 J,stb zLY 60 [K,(vi ((nth (nth zi zh) z15).fNext)),L]]) ?_ ?_
               ·skip
                refine WC.b<|Ld<|Le 126 (ya y32 U U)<|Le 127 (yc yq U<|yi .here U)<|Le 128 (ya y6u U U)<|Le 129 (yc y6v U<|yi .h3 U)<|Le 130 (yG Tryz.underlying22 U)<|La U<|La U<|WL.nil<|Lb<|WC.b<|Ld<|La U<|La U<|WL.nil<|Lb<|WC.cond U (fun zDu=>?_)<|fun zDu=>?_
                ·replace h:=yr h zDu
                 obtain⟨z12n,h⟩:=yl h
                 refine Ld<|La U<|Le 135 (ya y92 U U)<|Le 136 (yc y93 U<|yi .h3 U)<|La U<|L0 (dd:=138) U U (Z:=(Z++(z2Q++z2R))) (Pr:=(fun r x=>r=e64 x)) yba U U (zsN.mono<|(Zle.left _ _).trans (z5u.trans<|(Zle.left _ _).trans (Zle.yN _ _ _))) z12n ?_
                 rintro z1bS z1bT z12o z1bU rfl
                 refine Le 139 (ya ybb U U)<|Le 140 (yc yq U<|y17 (hz.pv2 .h1) z12o U)<|La U<|La U<|WL.nil ?_
                 exact Lo (i64 (((nth zj.fK<|(nth (nth zi zh) z15).fQ).fSlow)+((nth zj.fS<|i64 (((nth (nth zi zh) z15).fNode)-((zj.fM.length:Nat):Int))).fDelay))) h (.r19 U U U U U U U U U U U U U U U U U U U)<|.s6 .h1 .h1 .h1 .h1 .h1 .here
                ·replace h:=ys h zDu
                 refine WC.skip ?_
                 exact Lo ((nth zj.fK<|(nth (nth zi zh) z15).fQ).fSlow) h (.r19 U U U U U U U U U U U U U U U U U U U)<|.s6 .h1 .h1 .h1 .h1 .h1 .here
               ·rintro zdx h
                replace h:=(z12m zdx).symm.trans h
                refine WC.b ?_
                obtain⟨z12p,h⟩:=yl h
                obtain⟨z12q,h⟩:=yl h
                obtain⟨z12r,h⟩:=yl h
                refine Lv (fun i=>[].contains i) [] U<|Lf 0 142 U (fun _=>ya y5p U U)<|Li 1 143 U (yc yq U<|yi .h5 U)<|Lf 2 144 U (fun _=>ya y32 U U)<|Li 3 145 U (yc yq U<|yi .h4 U)<|Lf 4 146 U (fun _=>y9U U U)<|Lf 5 147 U (fun _=>q_m U)<|Kb (fuel':=0) [(3,(vp z3y)),(9,(.map<|some z3z)),(12,D),(13,(vi zh)),(14,C),(15,(vi zF)),(16,(vp zhT)),(63,F),(64,G),(65,(vi zh)),(78,C),(79,E),(80,(vi zF)),(112,C),(113,E),(114,(vi z15)),(147,(.bool<|decide (((nth (nth zi zh) z15).fNext)=((nth (nth zi zh) zF).fNode)))),(173,(.bool<|(decide (((nth (nth zi zh) z15).fNext)=((nth (nth zi zh) zF).fNode)))&&(decide ((nth (nth zM zh) zF)≠(i64 ((i64 ((nth (nth zM zh) z15)+(yf z1Y (⟨((nth (nth zi zh) z15).fNode),((nth (nth zi zh) z15).fQ)⟩:S56) 0)))-zdx))))))] (y1U 32 [31,30,29,28,27,26,25,24,23,22,21,20,19,18,17,16,15,14,13,12,11,10,9,8,7,6,5,4,3,2,1,0]) ?_<|fun zLZ=>?_
                rotate_left
                ·rcases Bool.eq_false_or_eq_true (decide (((nth (nth zi zh) z15).fNext)=((nth (nth zi zh) zF).fNode))) with hb' | hb'
                 ·have zlx:=hb';clear hb'
                  have zfM:=z12p zlx
                  have z12s:=z12q zlx
                  have z12t:=z12r zlx
                  refine L2 (i:=147) U zlx<|Lf 6 148 U (fun _=>q_m U)<|Lf 7 149 U (fun _=>q_m U) ?_
                  obtain⟨z1bV,z1bW,z1bX,z12u,⟨z1bY,z1bZ,rfl,z12v⟩⟩:=RR.elem (Pr:=(p50 (Z++(z2Q++z2R)))) zlq zfM.1 zfM.2
                  refine Lf 8 150 U (fun _=>yW y9r U U zfM.1 zfM.2 y30)<|Li 9 151 U (yc yad U<|y63 .h1<|yaa z12u 0 _ U)<|Lf 10 152 U (fun _=>q_m U)<|L5 (j:=11) (dd:=153) (by kernel_rfl) U z1Z z20 U U (Z:=(Z++(z2Q++z2R))) (Pr:=(fun r x=>r=e3 x)) y52 U U z12v z12s ?_
                  rintro z1c0 z1c1 z12w z1c2 rfl
                  refine Li 12 154 U (yc yq U<|y3a (hz.pv2 .here) z12w U)<|Lf 13 155 U (fun _=>q_m U)<|Lf 14 156 U (fun _=>q_m U) ?_
                  obtain⟨z1c3,z1c4,z1c5,z12x,⟨z1c6,z1c7,rfl,z12y⟩⟩:=RR.elem (Pr:=(p50 (Z++(z2Q++z2R)))) zlq zfM.1 zfM.2
                  refine Lf 15 157 U (fun _=>yW y9r U U zfM.1 zfM.2 y30)<|Li 16 158 U (yc yad U<|y63 .h1<|yaa z12x 0 _ U)<|Lf 17 159 U (fun _=>q_m U)<|L5 (j:=18) (dd:=160) (by kernel_rfl) U z1Z z20 U U (Z:=(Z++(z2Q++z2R))) (Pr:=(fun r x=>r=e3 x)) y52 U U z12y z12t ?_
                  rintro z1c8 z1c9 z12z z1ca rfl
                  refine Li 19 161 U (yc yq U<|y3a (hz.pv2 .here) z12z U)<|Lf 20 162 U (fun _=>q_m U)<|Lf 21 163 U (fun _=>ya y32 U U)<|Li 22 164 U (yc yq U<|yi .h5 U)<|Lf 23 165 U (fun _=>ya y76 U U)<|Li 24 166 U (yc yq U<|yi .h5 U)<|Lf 25 167 U (fun _=>yL (v:=(.agg #[K,L])) (Lp (l:=[.tmp 164,.tmp 166]) (.r2 U U) [0,1]) (fun _=>by kernel_rfl))<|Li 26 168 U (y2C (k:=(⟨((nth (nth zi zh) z15).fNode),((nth (nth zi zh) z15).fQ)⟩:S56)) (dflt:=(0:Int)) yhm Tryz.underlying55 y2v U U U .h3)<|Lf 27 169 U (fun _=>y8w U U U)<|Lf 28 170 U (fun _=>q_m U)<|Lf 29 171 U (fun _=>y8x U U U)<|Lf 30 172 U (fun _=>yd1 U U)<|Lf 31 173 U (fun _=>y3x U U)<|Lw (.a6) ?_ zLZ
                  exact .r18 U U U U U U U U U U U U U U U U (zD<|Eq.symm zlx)<|zD<|y3X zlx
                 ·have zDv:=hb';clear hb'
                  refine L2 (i:=147) U zDv<|Lm 6 148 U<|Lm 7 149 U<|Lm 8 150 U<|Lm 9 151 U<|Lm 10 152 U<|Lm 11 153 U<|Lm 12 154 U<|Lm 13 155 U<|Lm 14 156 U<|Lm 15 157 U<|Lm 16 158 U<|Lm 17 159 U<|Lm 18 160 U<|Lm 19 161 U<|Lm 20 162 U<|Lm 21 163 U<|Lm 22 164 U<|Lm 23 165 U<|Lm 24 166 U<|Lm 25 167 U<|Lm 26 168 U<|Lm 27 169 U<|Lm 28 170 U<|Lm 29 171 U<|Lm 30 172 U<|Lf 31 173 U (fun _=>y3y U U)<|Lw (.a6) ?_ zLZ
                  exact .r18 U U U U U U U U U U U U U U U U (zD<|Eq.symm zDv)<|zD<|y3W zDv
                refine WD.d #[true,true,true,true,true,true,true,true,true,true,true,true,true,true,true,true,true,true,true,true,true,true,true,true,true,true,true,true,true,true,true,true] (by kernel_rfl)<|WD.done (by kernel_rfl)<|Lb<|WC.cond U (fun zDw=>?_)<|fun zDw=>?_
                ·replace h:=yr h zDw
                 refine WC.b<|Ld<|La U<|WL.nil<|Lb<|WC.ret<|Lq<|Lj<|Lj<|Lq<|Lj<|Lq<|Lj<|Lj<|Lq<|Lj<|Lq<|Lj<|Lj<|Lq<|Lj ?_
                 obtain rfl:=oJ h
                 refine Lh Tryz.results5 (.tmp U .nil)<|fun w hw=>?_
                 exact⟨yD U,hw.sub .nil⟩
                ·replace h:=ys h zDw
                 refine WC.skip<|Lt<|Lb<|Ld<|La U<|La U<|WL.nil ?_
                 exact WX.round ⟨zD7,(i64 (z15+1))⟩ h (Nat.lt_succ_self _) (.r16 U U U U U U U U U U U U U U U U)<|.a5
              ·replace h:=ys h zDt
               refine WC.exit<|Ln<|Ln<|Lu ?_
               exact Lo () h (.r11 U U U U U U U U U U U)<|.a4
             ·rintro  h
              replace h:=z12h.symm.trans h
              refine Lt ?_
              exact Lo () h (.r11 U U U U U U U U U U U)<|.a4
           ·rintro  h
            replace h:=z11Z.symm.trans h
            refine Ld<|La U<|La U<|WL.nil ?_
            exact WX.round ⟨zD8,(i64 (zF+1))⟩ h (Nat.lt_succ_self _) (.r11 U U U U U U U U U U U)<|.a4
          ·replace h:=ys h zDp
           refine WC.exit<|Ln<|Ln<|Lu ?_
           exact Lo () h (.r6 U U U U U U)<|.a4
         ·rintro  h
          replace h:=z11Y.symm.trans h
          refine Lt ?_
          exact Lo ⟨zM,(some ⟨z6I,0,none⟩),z3V,z8y⟩ ⟨h,zlq⟩ (.r6 U U U U U U)<|.a4
       ·rintro za1 zlr zls zlt ⟨h,z12A⟩
        replace h:=(z11U za1).symm.trans h
        refine Ld<|La U<|La U<|WL.nil ?_
        exact WX.round ⟨zDa,za1,(i64 (zh+1)),zlr,zls,zlt⟩ ⟨h,z12A⟩ (Nat.lt_succ_self _) (.r6 U U U U U U)<|.a4
      ·replace h:=ys h zDm
       refine WC.exit<|Ln<|Ln<|Lu ?_
       exact Lo () h .nil<|.cons .here .nil
     ·rintro  h
      replace h:=z11T.symm.trans h
      refine WC.b ?_
      obtain⟨zLV,z12B,h⟩:=za h
      refine Ld<|Lk 177 (zb Tryz.call11 .nil) .nil (ccz hz .nil .here fun w pz ho=>y9N z12B w pz )<|La U<|WL.nil<|Lb<|WC.ret ?_
      obtain rfl:=oJ h
      refine Lh Tryz.results5 (.tmp U .nil)<|fun w hw=>?_
      exact⟨yD U,hw.sub .nil⟩
end Go.Proofs.YthjnhebofpebpaaGreat

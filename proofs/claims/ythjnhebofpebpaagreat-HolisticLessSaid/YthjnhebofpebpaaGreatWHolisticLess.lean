/- A part of this claim's proof: models of functions, walks, plain laws. No conditions. -/
import Derived.Test.YthjnhebofpebpaaGreatW36h
set_option linter.all false
namespace Go.Proofs.YthjnhebofpebpaaGreat
open Go Go.RowKit Sep
set_option maxRecDepth 30000
set_option maxHeartbeats 4000000
def y2D(zi:S39×Int)(zm:S39×Int)(z1y:Int)(zdy:Option Bool):Nat→Int→Option Bool
 | 0,_=>none
 | zDH+1,z2x=>if decide (z2x<((zi.1.fP.length:Nat):Int)) then chk ((0:Int)≤z2x∧z2x<((zi.1.fP.length:Nat):Int)) (if ((decide (((nth zm.1.fP z1y).fNode)=((nth zi.1.fP z2x).fNode)))&&(decide (((nth zm.1.fP z1y).fQ)=((nth zi.1.fP z2x).fQ))))&&((decide (((nth zm.1.fP z1y).fDelay)>((nth zi.1.fP z2x).fDelay)))||(decide (((nth zm.1.fP z1y).fT)>((nth zi.1.fP z2x).fT)))) then some false else y2D zi zm z1y zdy zDH (i64 (z2x+1))) else zdy
theorem y9o{n:Nat}{zi:S39×Int}{zm:S39×Int}{z1y:Int}{zdy:Option Bool}{z2x:Int}{r:Bool}(h:y2D zi zm z1y zdy n z2x=some r):∃ m,n=m+1:=by
 cases n with
 | zero=>cases h
 | succ m=>exact⟨m,rfl⟩
def y2E(zm:S39×Int)(zi:S39×Int)(zdz:Option Bool):Nat→Int→Option Bool
 | 0,_=>none
 | zDI+1,z1y=>if decide (z1y<((zm.1.fP.length:Nat):Int)) then jp0 (y2E zm zi zdz zDI (i64 (z1y+1))) fun zDJ=>chk ((0:Int)≤z1y∧z1y<((zm.1.fP.length:Nat):Int)) (jp0 (zDJ) fun zdy=>y2D zi zm z1y zdy yx 0) else zdz
theorem y9p{n:Nat}{zm:S39×Int}{zi:S39×Int}{zdz:Option Bool}{z1y:Int}{r:Bool}(h:y2E zm zi zdz n z1y=some r):∃ m,n=m+1:=by
 cases n with
 | zero=>cases h
 | succ m=>exact⟨m,rfl⟩
def y2s(zi:S39×Int)(zm:S39×Int)(z1U:Int)(zdA:Option Bool):Nat→Int→Option Bool
 | 0,_=>none
 | zDK+1,z3n=>if decide (z3n<((zi.1.fEnds.length:Nat):Int)) then chk ((0:Int)≤z3n∧z3n<((zi.1.fEnds.length:Nat):Int)) (if ((decide (((nth zm.1.fEnds z1U).fVL)=((nth zi.1.fEnds z3n).fVL)))&&(decide (((nth zm.1.fEnds z1U).fNode)=((nth zi.1.fEnds z3n).fNode))))&&(decide (((nth zm.1.fEnds z1U).fDelay)>((nth zi.1.fEnds z3n).fDelay))) then some false else y2s zi zm z1U zdA zDK (i64 (z3n+1))) else zdA
theorem y90{n:Nat}{zi:S39×Int}{zm:S39×Int}{z1U:Int}{zdA:Option Bool}{z3n:Int}{r:Bool}(h:y2s zi zm z1U zdA n z3n=some r):∃ m,n=m+1:=by
 cases n with
 | zero=>cases h
 | succ m=>exact⟨m,rfl⟩
def y2F(zm:S39×Int)(zi:S39×Int)(zdB:Option Bool):Nat→Int→Option Bool
 | 0,_=>none
 | zDL+1,z1U=>if decide (z1U<((zm.1.fEnds.length:Nat):Int)) then jp0 (y2F zm zi zdB zDL (i64 (z1U+1))) fun zDM=>chk ((0:Int)≤z1U∧z1U<((zm.1.fEnds.length:Nat):Int)) (jp0 (zDM) fun zdA=>y2s zi zm z1U zdA yx 0) else zdB
theorem y9q{n:Nat}{zm:S39×Int}{zi:S39×Int}{zdB:Option Bool}{z1U:Int}{r:Bool}(h:y2F zm zi zdB n z1U=some r):∃ m,n=m+1:=by
 cases n with
 | zero=>cases h
 | succ m=>exact⟨m,rfl⟩
def y1Q(z7:zp)(zk:Int)(z1O:Int)(zL:List (List zd))(z3o:Int)(zi:S39×Int)(zdC:Option Bool):Nat→(List S70)→Int→Option Bool
 | 0,_,_=>none
 | zDN+1,zN,z15=>if decide (z15<((([(⟨({z7 with fVLs:=(([]:List zh)++z7.fVLs).set ((Int.tmod (i64 zk) ((z7.fVLs.length:Nat):Int)):Int).toNat ({(nth (([]:List zh)++z7.fVLs) (Int.tmod (i64 zk) ((z7.fVLs.length:Nat):Int))) with fMax:=max 1 (i64 (((nth (([]:List zh)++z7.fVLs) (Int.tmod (i64 zk) ((z7.fVLs.length:Nat):Int))).fMax)-(i64 z1O)))}:zh)}:zp),zL⟩:S70),(⟨z7,(([]:List (List zd))++zL).set ((Int.tmod (i64 zk) ((z7.fVLs.length:Nat):Int)):Int).toNat []⟩:S70)]:List S70).length:Nat):Int)) then jp0 (y1Q z7 zk z1O zL z3o zi zdC zDN zN (i64 (z15+1))) fun zDO=>chk ((0:Int)≤z15∧z15<((zN.length:Nat):Int)) ((y2h (⟨(((nth zN z15).fC).fM),(((nth zN z15).fC).fC0),(((nth zN z15).fC).fS),(((nth zN z15).fC).fK),(((nth zN z15).fC).fVLs),(((nth zN z15).fC).fH),(((nth zN z15).fC).fU),(((nth zN z15).fC).fV0)⟩:zp) z3o ((nth zN z15).fR)).bind fun zm=>if decide (zm.2≠0) then some false else jp0 (jp0 (zDO) fun zdB=>y2F zm zi zdB yx 0) fun zdz=>y2E zm zi zdz yx 0) else zdC
theorem y9r{n:Nat}{z7:zp}{zk:Int}{z1O:Int}{zL:List (List zd)}{z3o:Int}{zi:S39×Int}{zdC:Option Bool}{zN:List S70}{z15:Int}{r:Bool}(h:y1Q z7 zk z1O zL z3o zi zdC n zN z15=some r):∃ m,n=m+1:=by
 cases n with
 | zero=>cases h
 | succ m=>exact⟨m,rfl⟩
def y5H(z7:zp)(z3o:Int)(zL:List (List zd))(zk:Int)(z1O:Int):Option Bool:=
 (y8f z7 zL).bind fun zDP=>if (!zDP)||(decide (((z7.fVLs.length:Nat):Int)=0)) then(y61).bind fun zMs=>some zMs else(y2h z7 z3o zL).bind fun zi=>if decide (zi.2≠0) then(y61).bind fun zMt=>some zMt else chk ((((z7.fVLs.length:Nat):Int):Int)≠0) (chk ((((([]:List zh)++z7.fVLs).length:Nat):Int)*104≤140737488355328∧(((([]:List zh)++z7.fVLs).length:Nat):Int)≤4611686018427387904) (chk ((0:Int)≤(Int.tmod (i64 zk) ((z7.fVLs.length:Nat):Int))∧(Int.tmod (i64 zk) ((z7.fVLs.length:Nat):Int))<(((([]:List zh)++z7.fVLs).length:Nat):Int)) (chk ((((([]:List (List zd))++zL).length:Nat):Int)*24≤140737488355328∧(((([]:List (List zd))++zL).length:Nat):Int)≤4611686018427387904) (chk ((0:Int)≤(Int.tmod (i64 zk) ((z7.fVLs.length:Nat):Int))∧(Int.tmod (i64 zk) ((z7.fVLs.length:Nat):Int))<(((([]:List (List zd))++zL).length:Nat):Int)) (jp0 ((y61).bind fun zMu=>some zMu) fun zdC=>y1Q z7 zk z1O zL z3o zi zdC yx ([(⟨({z7 with fVLs:=(([]:List zh)++z7.fVLs).set ((Int.tmod (i64 zk) ((z7.fVLs.length:Nat):Int)):Int).toNat ({(nth (([]:List zh)++z7.fVLs) (Int.tmod (i64 zk) ((z7.fVLs.length:Nat):Int))) with fMax:=max 1 (i64 (((nth (([]:List zh)++z7.fVLs) (Int.tmod (i64 zk) ((z7.fVLs.length:Nat):Int))).fMax)-(i64 z1O)))}:zh)}:zp),zL⟩:S70),(⟨z7,(([]:List (List zd))++zL).set ((Int.tmod (i64 zk) ((z7.fVLs.length:Nat):Int)):Int).toNat []⟩:S70)]:List S70) 0)))))
theorem ycd(Z:Zp)(z6I:Option Addr)(z6J:Nat)(z6K:Option Addr)(z6L:Nat)(z6M:Option Addr)(z6N:Nat)(z6O:Option Addr)(z6P:Nat)(zdD:Option Addr)(zdE:Nat)(z6Q:Option Addr)(z6R:Nat)(z6S:Option Addr)(z6T:Nat)(z6U:Option Addr)(z6V:Nat)(zfT:Option Addr)(zfU:Nat)(z7:zp)(z3o:Int)(zL:List (List zd))(zk:Int)(z1O:Int)(r:Bool)(h:y5H z7 z3o zL zk z1O=some r)(w₀:World)(hz:PZ [] w₀ Z)(ztm:ZS Z 4 (y3y Z) z6I z6J z7.fM)(ztn:ZS Z 4 (y4k Z) z6K z6L z7.fC0)(zto:ZS Z 4 (fun r x=>r=e64 x) z6M z6N z7.fS)(ztp:ZS Z 4 (fun r x=>r=e62 x) z6O z6P z7.fK)(ztq:ZS Z 7 (p69 Z) zdD zdE z7.fVLs)(ztr:ZS Z 5 (fun r x=>r=y4t x) z6Q z6R z7.fH)(zts:ZS Z 3 (y4l Z) z6S z6T z7.fU)(ztt:ZS Z 4 (fun r x=>r=y4u x) z6U z6V z7.fV0)(ztu:ZS Z 1 (p58 Z) zfT zfU zL):
  Calls Tryz.prog 6 #[(.agg #[(.slice z6I z7.fM.length z6J),(.slice z6K z7.fC0.length z6L),(.slice z6M z7.fS.length z6N),(.slice z6O z7.fK.length z6P),(.slice zdD z7.fVLs.length zdE),(.slice z6Q z7.fH.length z6R),(.slice z6S z7.fU.length z6T),(.slice z6U z7.fV0.length z6V)]),(vi z3o),(.slice zfT zL.length zfU),(.int .u8 zk),(.int .u8 z1O)] w₀ fun e w'=>e = .returned (.bool r)∧Hp [] w₀ w' []:=by
 unfold y5H at h
 refine Calls.on5 Tryz.func6 Tryz.ntmps6 ?_
 let I:Value:=(.slice z6K z7.fC0.length z6L);let J:Value:=(.slice z6U z7.fV0.length z6V);let K:Value:=(.slice z6I z7.fM.length z6J);let L:Value:=(.slice z6M z7.fS.length z6N);let M:Value:=(.slice z6O z7.fK.length z6P);let N:Value:=(.slice z6Q z7.fH.length z6R);let O:Value:=(.slice z6S z7.fU.length z6T);let R:Value:=(.slice zdD z7.fVLs.length zdE);refine WC.pool (WC.b (Ld (Lg 5 (yH (cs:=[K,I,L,M,R,N,O,J]) U U) ?_)))
 intro z1c5 _
 refine La U<|WL.nil<|Lb<|WC.b<|WC.b ?_
 obtain⟨zDP,z12x,h⟩:=za h
 let Af:=((z7.fVLs.length:Nat):Int);refine Ld (Le 28 (yi y1E U (yk .here) U) (La U (Ll 30 (zb Tryz.call10 (.r2 U U)) .nil (ccz hz .nil .h1 fun w pz ho=>yh7 z12x w pz ((ztm.mono (Zle.left _ _)).weak (fun _ _ h=>y1a (Zle.left _ _) h)) ((ztn.mono (Zle.left _ _)).weak (fun _ _ h=>y1i (Zle.left _ _) h)) (zto.mono (Zle.left _ _)) (ztp.mono (Zle.left _ _)) ((ztq.mono (Zle.left _ _)).weak (fun _ _ h=>y15 (Zle.left _ _) h)) (ztr.mono (Zle.left _ _)) ((zts.mono (Zle.left _ _)).weak (fun _ _ h=>y1j (Zle.left _ _) h)) (ztt.mono (Zle.left _ _)) ((ztu.mono (Zle.left _ _)).weak (fun _ _ h=>y1t (Zle.left _ _) h))) (La U (La U (Lv false 4 32 (B:=(!zDP)||(decide (Af=0))) U U U U U U (fun h=>(y7w h).symm) (fun _ z12y=>?_) ?_))))))
 ·skip
  refine Le 33 (ya y5a U U)<|Le 34 (yc y5p U<|yh .here U)<|Le 35 (yI Tryz.underlying26 U)<|La U<|La U ?_
  exact Lw (y7x z12y) U U .all
 refine WL.nil<|Lb<|WC.cond U (fun zDQ=>?_)<|fun zDQ=>?_
 ·replace h:=yq h zDQ
  refine WC.b ?_
  obtain⟨zMs,z12z,h⟩:=za h
  refine Ld<|Ll 38 (zb Tryz.call11 .nil) .nil (ccz hz .nil .h1 fun w pz ho=>y9X z12z w pz )<|La U<|WL.nil<|Lb<|WC.ret<|Li ?_
  obtain rfl:=oJ h
  refine Lh Tryz.results6 (.tmp U .nil)<|fun w hw=>?_
  exact⟨yC U,hw.sub .nil⟩
 ·replace h:=yr h zDQ
  refine WC.skip<|Lb<|WC.b ?_
  obtain⟨zi,z12A,h⟩:=za h
  refine Ld<|Le 40 (yi y1E U (yk .here) U)<|La U<|La U<|WL.y8z (dd:=43) U U U (zb Tryz.call12<|.r3 U U U) .nil (ccz hz .nil .h1 fun w pz ho=>y7J z12A w pz ((ztm.mono<|Zle.left _ _).weak (fun _ _ h=>y1a (Zle.left _ _) h)) ((ztn.mono<|Zle.left _ _).weak (fun _ _ h=>y1i (Zle.left _ _) h)) (zto.mono<|Zle.left _ _) (ztp.mono<|Zle.left _ _) ((ztq.mono<|Zle.left _ _).weak (fun _ _ h=>y15 (Zle.left _ _) h)) (ztr.mono<|Zle.left _ _) ((zts.mono<|Zle.left _ _).weak (fun _ _ h=>y1j (Zle.left _ _) h)) (ztt.mono<|Zle.left _ _)<|(ztu.mono<|Zle.left _ _).weak (fun _ _ h=>y1t (Zle.left _ _) h)) ?_
  rintro z12B z12C z12D z12E _
  refine La U<|La U<|La U (Lg 11 (yv (cs:=[vn,vn]) y6P U) fun z3p _=>Lk U U (yl y5b U U U .here U U U)<|La U<|WL.nil<|Lb<|WC.b<|WC.b<|Ld<|La U<|La U<|WL.nil<|Lb<|WC.cond U (fun zDR=>?_)<|fun zDR=>?_)
  ·replace h:=yq h zDR
   refine WC.b ?_
   obtain⟨zMt,z12F,h⟩:=za h
   refine Ld<|Ll 48 (zb Tryz.call11 .nil) .nil (ccz hz .nil .h4 fun w pz ho=>y9X z12F w pz )<|La U<|WL.nil<|Lb<|WC.ret<|Li ?_
   obtain rfl:=oJ h
   refine Lh Tryz.results6 (.tmp U .nil)<|fun w hw=>?_
   exact⟨yC U,hw.sub .nil⟩
  ·replace h:=yr h zDR
   refine WC.skip<|Lb<|WC.b ?_
   obtain⟨z12G,h⟩:=yn h
   refine Ld<|La U<|Le 50 (y7t Tryz.underlying5 Tryz.underlying3 U U)<|Le 51 (ya y5a U U)<|Le 52 (yc y5p U<|yh .h3 U)<|Le 53 (yI Tryz.underlying26 U)<|Le 54 (q_rem U U z12G U)<|La U<|WL.nil<|Lb<|WC.b<|Ld<|Le 55 (yi y1E U (yk .h3) U) (Lg 14 (yv (cs:=[vn,vn,vn,vn,vn,vn,vn,vn]) ybM U) fun z1c6 _=>Lk U U (yl ydd U U U .here U U U)<|WL.nil<|Lb<|WC.b ?_)
   obtain⟨z12H,h⟩:=yn h
   refine Ld ?_
   have z12I:RR 7 (p69 (Z++[])) [] ([]:List zh):=(RR.nil _ _)
   refine Lg 56 (yM (cs:=[]) y72 (Lo (l:=[]) .nil []) (fun _=>by kernel_rfl) U (by unfold maxLen;omega)) fun z1c7 _=>Le 57 (ya y5a U U)<|Le 58 (yc y5p U<|yh .h5 U) ?_
   obtain⟨zDS,zDT,z12J⟩:=ZS.news ((ztq.mono (Zle.left _ _)).weak (fun _ _ h=>y15 (Zle.left _ _) h))
   have zDU:RR 7 (p69 (Z++[])) ([]++zDS) (([]:List zh)++z7.fVLs):=RR.app z12I zDT
   refine WL.fA 59 (y6L (l1:=([]:List zh)) (l2:=z7.fVLs) (news:=zDS) (Pr:=(p69 (Z++[]))) y72 U U .here zDT (z12J _ _ _<|hz.pv2 .h6) (RR.oc zDT<|fun _ _ h=>p69_oc h) z12H) ?_
   rintro⟨z12K,zfV⟩ _
   refine Le 60 (ya y5a U U)<|Lk U U (y4r (ds:=[K,I,L,M,(.slice z12K ((([]:List zh)++z7.fVLs).length) zfV),N,O,J]) sizT_26 U U U U U .h1 U U)<|WL.nil<|Lb<|WC.b ?_
   obtain⟨za0,h⟩:=yn h
   refine Lx (fun i=>[15].contains i) [] U<|Lf 0 61 U (fun _=>ya y5a U U)<|Lj 1 62 U (yc y5p U<|yh .here U)<|Lf 2 63 U (fun _=>q_m U)<|Lf 3 64 U (fun _=>ya y5a U U)<|Lj 4 65 U (yc y5p U<|yh .here U)<|Lf 5 66 U (fun _=>q_m U)<|WD.know (fun w hw=>Hp.y1T .h1 hw (by intro hz';have:=za0;rw[hz'] at this;omega)) ?_
   rintro⟨zi9,rfl⟩
   obtain⟨z1c8,z1c9,z1ca,z12L,⟨z1cb,z1cc,rfl,z1cd⟩⟩:=RR.elem (Pr:=(p69 (Z++[]))) zDU za0.1 za0.2
   refine Lf 6 67 U (fun _=>yS y72 U U za0.1 za0.2 y2L)<|Lf 7 68 U (fun _=>ya y6x U<|Addr.add_lit _ _ _)<|Lj 8 69 U (yc ys U<|y8e .h1<|yeX z12L 5 _ U)<|Lf 9 70 U (fun _=>q_m U)<|Lf 10 71 U (fun _=>y7t Tryz.underlying5 Tryz.underlying3 U U)<|Lf 11 72 U (fun _=>y8H U U U)<|Lf 12 73 U (fun _=>yaU U U U) ?_
   obtain⟨z1ce,z1cf,z1cg,z12M,⟨z1ch,z1ci,rfl,z12N⟩⟩:=RR.elem (Pr:=(p69 (Z++[]))) zDU za0.1 za0.2
   refine Lf 13 74 U (fun _=>yS y72 U U za0.1 za0.2 y2L)<|Lf 14 75 U (fun _=>ya y6x U<|Addr.add_lit _ _ _) ?_
   let A:=(Int.tmod (i64 zk) Af);let C:=(i64 (((nth (([]:List zh)++z7.fVLs) A).fMax)-(i64 z1O)));obtain⟨z12O,z12P⟩:=RR.store (Pr:=(p69 (Z++[]))) (vs:=[(vi (max 1 C))]) (k:=5) (y:=({(nth (([]:List zh)++z7.fVLs) A) with fMax:=max 1 C}:zh)) zDU za0.1 za0.2 z12M rfl (Nat.le_of_ble_eq_true rfl) (show p69 _ _ _ from⟨_,_,rfl,z12N⟩)
   refine Kb (i:=15) U (by kernel_rfl) U U U (by kernel_rfl) (ybA (vs:=[(vi<|max 1<|i64 (((nth (([]:List zh)++z7.fVLs)<|Int.tmod (i64 zk) ((z7.fVLs.length:Nat):Int)).fMax)-(i64 z1O)))]) (ds:=y5U ([]++zDS) (((Int.tmod (i64 zk) ((z7.fVLs.length:Nat):Int)):Int).toNat*7+5) [(vi<|max 1<|i64 (((nth (([]:List zh)++z7.fVLs)<|Int.tmod (i64 zk) ((z7.fVLs.length:Nat):Int)).fMax)-(i64 z1O)))]) yas U U U U (y94 U yan) .h1 z12P U)<|WD.relen .here (u:=(.slice (some ⟨zi9,0,none⟩) (((([]:List zh)++z7.fVLs).set ((Int.tmod (i64 zk) ((z7.fVLs.length:Nat):Int)):Int).toNat ({(nth (([]:List zh)++z7.fVLs)<|Int.tmod (i64 zk) ((z7.fVLs.length:Nat):Int)) with fMax:=max 1 (i64 (((nth (([]:List zh)++z7.fVLs)<|Int.tmod (i64 zk) ((z7.fVLs.length:Nat):Int)).fMax)-(i64 z1O)))}:zh)).length) zfV)) (y8n (List.length_set).symm)<|WD.restb (cs':=[(.slice z6I z7.fM.length z6J),(.slice z6K z7.fC0.length z6L),(.slice z6M z7.fS.length z6N),(.slice z6O z7.fK.length z6P),(.slice (some ⟨zi9,0,none⟩) (((([]:List zh)++z7.fVLs).set ((Int.tmod (i64 zk) ((z7.fVLs.length:Nat):Int)):Int).toNat ({(nth (([]:List zh)++z7.fVLs)<|Int.tmod (i64 zk) ((z7.fVLs.length:Nat):Int)) with fMax:=max 1 (i64 (((nth (([]:List zh)++z7.fVLs)<|Int.tmod (i64 zk) ((z7.fVLs.length:Nat):Int)).fMax)-(i64 z1O)))}:zh)).length) zfV),(.slice z6Q z7.fH.length z6R),(.slice z6S z7.fU.length z6T),(.slice z6U z7.fV0.length z6V)]) .h1 (by simp only[List.length_set]<;>rfl)<|WD.done (by kernel_rfl)<|Lb<|WC.b ?_
   obtain⟨z12Q,h⟩:=yn h
   refine Ld ?_
   have z12R:RR 1 (p58 (Z++[])) [] ([]:List (List zd)):=(RR.nil _ _)
   refine Lg 76 (yM (cs:=[]) y71 (Lo (l:=[]) .nil []) (fun _=>by kernel_rfl) U (by unfold maxLen;omega)) fun z1cj _=>La U ?_
   obtain⟨zDV,zDW,z12S⟩:=ZS.news ((ztu.mono (Zle.left _ _)).weak (fun _ _ h=>y1t (Zle.left _ _) h))
   have zMv:RR 1 (p58 (Z++[])) ([]++zDV) (([]:List (List zd))++zL):=RR.app z12R zDW
   refine WL.fA 78 (y6L (l1:=([]:List (List zd))) (l2:=zL) (news:=zDV) (Pr:=(p58 (Z++[]))) y71 U U .here zDW (z12S _ _ _<|hz.pv2 .h7) (RR.oc zDW<|fun _ _ h=>p58_oc h) z12Q) ?_
   rintro⟨z1ck,zia⟩ _
   refine La U<|WL.nil<|Lb<|WC.b ?_
   obtain⟨zib,h⟩:=yn h
   refine Ld<|La U<|La U<|Kd (fun w hw=>Hp.y1T .here hw (by intro hz';have:=zib;rw[hz'] at this;omega)) ?_
   rintro⟨zic,rfl⟩
   obtain⟨z1cl,z1cm,z1cn,z12T,⟨z1co,z1cp,rfl,z1cq⟩⟩:=RR.elem (Pr:=(p58 (Z++[]))) zMv zib.1 zib.2
   refine Le 81 (yS y71 U U zib.1 zib.2 y2L) ?_
   obtain⟨z12U,z12V⟩:=RR.store (Pr:=(p58 (Z++[]))) (vs:=[vn]) (k:=0) (y:=[]) zMv zib.1 zib.2 z12T U (Nat.le_of_ble_eq_true U) (show p58 _ _ _ from⟨_,_,U,(ZS.nil _ _ _)⟩)
   let E:Value:=(.slice (some ⟨zic,0,none⟩) (((([]:List (List zd))++zL).set (A:Int).toNat []).length) zia);refine Lk U U (ybA (vs:=[vn]) (ds:=y5U ([]++zDV) ((A:Int).toNat*1+0) [vn]) sizT_58 U U U U (y94 U yan) .here z12V U) (WL.relen .here (u:=E) (y8n (List.length_set).symm) (Ki (i:=15) U (u:=E) (y8n (List.length_set).symm) (WL.nil (Lb ?_))))
   obtain⟨zdC,z12W,h⟩:=y1G h
   refine Kf (fun(zpu:Zp)=>(zdC=some r)∧(Zle (Z++[]) (Z++zpu))) (fun zpu=>[]) (fun zpu=>[fz zpu]) ?_ ?_
   ·skip
    let V:Value:=(.slice zfT zL.length zfU);refine WC.b (Ld (Le 82 (yi y1E U (yk .h1) U) (La U (Le 84 (yL (v:=(.agg #[K,I,L,M,(.slice (some ⟨zi9,0,none⟩) (((([]:List zh)++z7.fVLs).set (A:Int).toNat ({(nth (([]:List zh)++z7.fVLs) A) with fMax:=max 1 C}:zh)).length) zfV),N,O,J,V])) (Lo (l:=[.tmp 82,.tmp 83]) (.r2 U U) [0,1]) (fun _=>by kernel_rfl)) (Le 85 (yi y1E U (yk .h6) U) (La U (Le 87 (yL (v:=(.agg #[K,I,L,M,R,N,O,J,E])) (Lo (l:=[.tmp 85,.tmp 86]) (.r2 U U) [0,1]) (fun _=>by kernel_rfl)) (Kj (ls:=(([]:List zh)++z7.fVLs).set (A:Int).toNat ({(nth (([]:List zh)++z7.fVLs) A) with fMax:=max 1 C}:zh)) .h2 .h6 hz z12O ?_))))))))
    intro z1cr z2S zDX
    replace zDX:=zDX.weak (fun _ _ h=>y15 z2S h)
    refine Kj (ls:=(([]:List (List zd))++zL).set (A:Int).toNat []) .h1 .here hz (z12U.weak<|fun _ _ h=>y1t z2S h) ?_
    intro z6W z2y zDY
    replace zDY:=zDY.weak (fun _ _ h=>y1t z2y h)
    have z12X:RR 9 (p70 (Z++z6W)) [K,I,L,M,(.slice (some ⟨zi9,0,none⟩) (((([]:List zh)++z7.fVLs).set (A:Int).toNat ({(nth (([]:List zh)++z7.fVLs) A) with fMax:=max 1 C}:zh)).length) zfV),N,O,J,V,K,I,L,M,R,N,O,J,E] ([(⟨({z7 with fVLs:=(([]:List zh)++z7.fVLs).set (A:Int).toNat ({(nth (([]:List zh)++z7.fVLs) A) with fMax:=max 1 C}:zh)}:zp),zL⟩:S70),(⟨z7,(([]:List (List zd))++zL).set (A:Int).toNat []⟩:S70)]:List S70):=(RR.cons (r:=[K,I,L,M,(.slice (some ⟨zi9,0,none⟩) (((([]:List zh)++z7.fVLs).set (A:Int).toNat ({(nth (([]:List zh)++z7.fVLs) A) with fMax:=max 1 C}:zh)).length) zfV),N,O,J,V]) U (show p70 _ _ _ from⟨_,_,_,_,_,_,_,_,_,_,_,_,_,_,_,_,_,_,U,((ztm.mono ((Zle.left _ _).trans (z2S.trans z2y))).weak (fun _ _ h=>y1a ((Zle.left _ _).trans (z2S.trans z2y)) h)),((ztn.mono ((Zle.left _ _).trans (z2S.trans z2y))).weak (fun _ _ h=>y1i ((Zle.left _ _).trans (z2S.trans z2y)) h)),(zto.mono ((Zle.left _ _).trans (z2S.trans z2y))),(ztp.mono ((Zle.left _ _).trans (z2S.trans z2y))),((zDX.mono z2y).weak (fun _ _ h=>y15 z2y h)),(ztr.mono ((Zle.left _ _).trans (z2S.trans z2y))),((zts.mono ((Zle.left _ _).trans (z2S.trans z2y))).weak (fun _ _ h=>y1j ((Zle.left _ _).trans (z2S.trans z2y)) h)),(ztt.mono ((Zle.left _ _).trans (z2S.trans z2y))),((ztu.mono ((Zle.left _ _).trans (z2S.trans z2y))).weak (fun _ _ h=>y1t ((Zle.left _ _).trans (z2S.trans z2y)) h))⟩) (RR.cons (r:=[K,I,L,M,R,N,O,J,E]) U (show p70 _ _ _ from⟨_,_,_,_,_,_,_,_,_,_,_,_,_,_,_,_,_,_,U,((ztm.mono ((Zle.left _ _).trans (z2S.trans z2y))).weak (fun _ _ h=>y1a ((Zle.left _ _).trans (z2S.trans z2y)) h)),((ztn.mono ((Zle.left _ _).trans (z2S.trans z2y))).weak (fun _ _ h=>y1i ((Zle.left _ _).trans (z2S.trans z2y)) h)),(zto.mono ((Zle.left _ _).trans (z2S.trans z2y))),(ztp.mono ((Zle.left _ _).trans (z2S.trans z2y))),((ztq.mono ((Zle.left _ _).trans (z2S.trans z2y))).weak (fun _ _ h=>y15 ((Zle.left _ _).trans (z2S.trans z2y)) h)),(ztr.mono ((Zle.left _ _).trans (z2S.trans z2y))),((zts.mono ((Zle.left _ _).trans (z2S.trans z2y))).weak (fun _ _ h=>y1j ((Zle.left _ _).trans (z2S.trans z2y)) h)),(ztt.mono ((Zle.left _ _).trans (z2S.trans z2y))),zDY⟩) (RR.nil _ _)))
    refine Lg 88 (yM (cs:=[(.slice z6I z7.fM.length z6J),(.slice z6K z7.fC0.length z6L),(.slice z6M z7.fS.length z6N),(.slice z6O z7.fK.length z6P),(.slice (some ⟨zi9,0,none⟩) (((([]:List zh)++z7.fVLs).set ((Int.tmod (i64 zk) ((z7.fVLs.length:Nat):Int)):Int).toNat ({(nth (([]:List zh)++z7.fVLs)<|Int.tmod (i64 zk) ((z7.fVLs.length:Nat):Int)) with fMax:=max 1 (i64 (((nth (([]:List zh)++z7.fVLs)<|Int.tmod (i64 zk) ((z7.fVLs.length:Nat):Int)).fMax)-(i64 z1O)))}:zh)).length) zfV),(.slice z6Q z7.fH.length z6R),(.slice z6S z7.fU.length z6T),(.slice z6U z7.fV0.length z6V),(.slice zfT zL.length zfU),(.slice z6I z7.fM.length z6J),(.slice z6K z7.fC0.length z6L),(.slice z6M z7.fS.length z6N),(.slice z6O z7.fK.length z6P),(.slice zdD z7.fVLs.length zdE),(.slice z6Q z7.fH.length z6R),(.slice z6S z7.fU.length z6T),(.slice z6U z7.fV0.length z6V),(.slice (some ⟨zic,0,none⟩) (((([]:List (List zd))++zL).set ((Int.tmod (i64 zk) ((z7.fVLs.length:Nat):Int)):Int).toNat []).length) zia)]) elT_71 (Lo (l:=[.tmp 84,.tmp 87]) (.r2 U U) [0,1]) (fun _=>by kernel_rfl) U (by unfold maxLen;omega)) fun z3q _=>Le 89 (yI Tryz.underlying71 U)<|La U<|WL.nil<|Lb<|WC.block<|WC.y93 (fun(zlL:Nat) (zN:List S70) (z15:Int) (z5u:List Value) (zid:Option Addr) (zie:Nat) (z68:Option Addr) (z69:Nat)=>(y1Q z7 zk z1O zL z3o zi zdC zlL zN z15=some r)∧(RR 9 (p70 (Z++z6W)) z5u zN)) (fun zlL zN z15 z5u zid zie z68 z69=>[(1,(vi z3o)),(11,(vp z3p)),(88,(.slice (some ⟨z3q,0,none⟩) zN.length 2)),(89,(vi ((([(⟨({z7 with fVLs:=(([]:List zh)++z7.fVLs).set (A:Int).toNat ({(nth (([]:List zh)++z7.fVLs) A) with fMax:=max 1 C}:zh)}:zp),zL⟩:S70),(⟨z7,(([]:List (List zd))++zL).set (A:Int).toNat []⟩:S70)]:List S70).length:Nat):Int))),(90,(vi z15))]) (fun zlL zN z15 z5u zid zie z68 z69=>[fz z6W,row (.slice (some ⟨z3q,0,none⟩) zN.length 2) 70 9 z5u,stb z3p 40 [(.slice zid zi.1.fP.length zie),(.slice z68 zi.1.fEnds.length z69)],row (.slice zid zi.1.fP.length zie) 37 4 (zi.1.fP.flatMap e37),row (.slice z68 zi.1.fEnds.length z69) 53 3 (zi.1.fEnds.flatMap e53)]) (fun zlL zN z15 z5u zid zie z68 z69=>zlL) ⟨yx,([(⟨({z7 with fVLs:=(([]:List zh)++z7.fVLs).set (A:Int).toNat ({(nth (([]:List zh)++z7.fVLs) A) with fMax:=max 1 C}:zh)}:zp),zL⟩:S70),(⟨z7,(([]:List (List zd))++zL).set (A:Int).toNat []⟩:S70)]:List S70),0,[K,I,L,M,(.slice (some ⟨zi9,0,none⟩) (((([]:List zh)++z7.fVLs).set (A:Int).toNat ({(nth (([]:List zh)++z7.fVLs) A) with fMax:=max 1 C}:zh)).length) zfV),N,O,J,V,K,I,L,M,R,N,O,J,E],z12B,z12C,z12D,z12E⟩ ⟨h,z12X⟩ (.r5 U U U U U) (.s5 .h1 .here .h1 .h1 .h1) ?_
    rintro zlL zN z15 z5u zid zie z68 z69 ⟨h,zMw⟩
    obtain⟨zDN,rfl⟩:=y9r h
    rw[y1Q] at h
    refine WC.b<|Ld<|La U<|WL.nil<|Lb<|WC.b<|WC.cond U (fun zDZ=>?_)<|fun zDZ=>?_
    ·replace h:=yq h zDZ
     refine WC.skip<|Lb ?_
     obtain⟨zDO,z12Y,h⟩:=y1G h
     let D:Value:=(.slice (some ⟨z3q,0,none⟩) zN.length 2);refine WC.y63 (fun(zlM:Option Addr) (zlN:Nat) (zlO:Option Addr) (zlP:Nat)=>(zDO=some r)) (fun zlM zlN zlO zlP=>[(1,(vi z3o)),(11,(vp z3p)),(88,D),(89,(vi ((([(⟨({z7 with fVLs:=(([]:List zh)++z7.fVLs).set (A:Int).toNat ({(nth (([]:List zh)++z7.fVLs) A) with fMax:=max 1 C}:zh)}:zp),zL⟩:S70),(⟨z7,(([]:List (List zd))++zL).set (A:Int).toNat []⟩:S70)]:List S70).length:Nat):Int))),(90,(vi z15))]) (fun zlM zlN zlO zlP=>[fz z6W,row D 70 9 z5u,stb z3p 40 [(.slice zlM zi.1.fP.length zlN),(.slice zlO zi.1.fEnds.length zlP)],row (.slice zlM zi.1.fP.length zlN) 37 4 (zi.1.fP.flatMap e37),row (.slice zlO zi.1.fEnds.length zlP) 53 3 (zi.1.fEnds.flatMap e53)]) ?_ ?_
     ·skip
      refine WC.block<|WC.b ?_
      obtain⟨ztv,h⟩:=yn h
      refine Ld ?_
      obtain⟨z1cs,z1ct,z1cu,z12Z,⟨zMx,zMy,zMz,zMA,zMB,zMC,zMD,zME,zMF,zMG,zMH,zMI,zMJ,zMK,zML,zMM,z130,z131,rfl,z132,z133,z134,z135,z136,z137,z138,z139,z13a⟩⟩:=RR.elem (Pr:=(p70 (Z++z6W))) zMw ztv.1 ztv.2
      let W:Value:=(.slice zMF ((((nth zN z15).fC).fVLs).length) zMG);let X:Value:=(.slice zMz ((((nth zN z15).fC).fC0).length) zMA);let Y:Value:=(.slice zML ((((nth zN z15).fC).fV0).length) zMM);let Aa:Value:=(.slice zMx ((((nth zN z15).fC).fM).length) zMy);let Ab:Value:=(.slice zMB ((((nth zN z15).fC).fS).length) zMC);let Ac:Value:=(.slice zMD ((((nth zN z15).fC).fK).length) zME);let Ad:Value:=(.slice zMH ((((nth zN z15).fC).fH).length) zMI);let Ae:Value:=(.slice zMJ ((((nth zN z15).fC).fU).length) zMK);refine Le 92 (yS elT_71 U U ztv.1 ztv.2 y2L) (Le 93 (yU (cs:=[Aa,X,Ab,Ac,W,Ad,Ae,Y,(.slice z130 (((nth zN z15).fR).length) z131)]) aggT_70 U U (y3z .h1 (yeX z12Z))) (Lg 17 (yv (cs:=[vn,vn,vn,vn,vn,vn,vn,vn,vn]) zeroT_70 U) ?_))
      intro z1cv _
      refine Lk U U (yl sizT_70 U U U .here U U U)<|WL.nil<|Lb<|WC.b ?_
      obtain⟨zm,z13b,h⟩:=za h
      refine Ld<|Le 95 (ya fo_70_0 U U)<|Le 96 (yU (cs:=[Aa,X,Ab,Ac,W,Ad,Ae,Y]) y1E U U<|y3w (s:=8) .here U)<|La U<|Le 98 (ya fo_70_1 U U)<|Le 99 (yc yhs U<|yh .here U)<|WL.y8z (dd:=100) U U U (zb Tryz.call12<|.r3 U U U) .nil (ccz hz .nil .h1 fun w pz ho=>y7J z13b w pz z132 z133 z134 z135 z136 z137 z138 z139 z13a) ?_
      rintro z13c z13d za1 za2 _
      refine La U<|La U<|La U (Lg 18 (yv (cs:=[vn,vn]) y6P U) fun zbn _=>Lk U U (yl y5b U U U .here U U U)<|La U<|WL.nil<|Lb<|WC.b<|WC.b<|Ld<|La U<|La U<|WL.nil<|Lb<|WC.cond U (fun zE0=>?_)<|fun zE0=>?_)
      ·replace h:=yq h zE0
       refine WC.b<|Ld<|La U<|WL.nil<|Lb<|WC.ret<|Li<|Lq<|Li<|Li<|Lq<|Li ?_
       obtain rfl:=oJ h
       refine Lh Tryz.results6 (.tmp U .nil)<|fun w hw=>?_
       exact⟨yC U,hw.sub .nil⟩
      ·replace h:=yr h zE0
       refine WC.skip<|Lb ?_
       obtain⟨zdz,z13e,h⟩:=y1G h
       let F:Value:=(.slice z68 zi.1.fEnds.length z69);let G:Value:=(.slice za1 zm.1.fEnds.length za2);refine WC.y63 (fun(z6X:Option Addr) (z6Y:Nat) (zpv:Option Addr) (zpw:Nat)=>(zdz=some r)) (fun z6X z6Y zpv zpw=>[(1,(vi z3o)),(11,(vp z3p)),(18,(vp zbn)),(88,D),(89,(vi ((([(⟨({z7 with fVLs:=(([]:List zh)++z7.fVLs).set (A:Int).toNat ({(nth (([]:List zh)++z7.fVLs) A) with fMax:=max 1 C}:zh)}:zp),zL⟩:S70),(⟨z7,(([]:List (List zd))++zL).set (A:Int).toNat []⟩:S70)]:List S70).length:Nat):Int))),(90,(vi z15))]) (fun z6X z6Y zpv zpw=>[fz z6W,row D 70 9 z5u,stb z3p 40 [(.slice z6X zi.1.fP.length z6Y),F],row (.slice z6X zi.1.fP.length z6Y) 37 4 (zi.1.fP.flatMap e37),row F 53 3 (zi.1.fEnds.flatMap e53),stb zbn 40 [(.slice zpv zm.1.fP.length zpw),G],row (.slice zpv zm.1.fP.length zpw) 37 4 (zm.1.fP.flatMap e37),row G 53 3 (zm.1.fEnds.flatMap e53)]) ?_ ?_
       ·skip
        let T:Value:=(vi ((zm.1.fP.length:Nat):Int));refine WC.b (Ld (Le 105 (ya y4Z U U) (Le 106 (yc y50 U (yh .here U)) (Le 107 (yI Tryz.underlying33 U) (La U (WL.nil (Lb (WC.block (WC.y8m (fun(zlQ:Nat) (z1y:Int) (zfW:Option Addr) (z7w:Nat) (zfX:Option Addr) (zfY:Nat)=>(y2E zm zi zdz zlQ z1y=some r)) (fun zlQ z1y zfW z7w zfX zfY=>[(1,(vi z3o)),(11,(vp z3p)),(18,(vp zbn)),(88,D),(89,(vi ((([(⟨({z7 with fVLs:=(([]:List zh)++z7.fVLs).set (A:Int).toNat ({(nth (([]:List zh)++z7.fVLs) A) with fMax:=max 1 C}:zh)}:zp),zL⟩:S70),(⟨z7,(([]:List (List zd))++zL).set (A:Int).toNat []⟩:S70)]:List S70).length:Nat):Int))),(90,(vi z15)),(106,(.slice zfW zm.1.fP.length z7w)),(107,T),(108,(vi z1y))]) (fun zlQ z1y zfW z7w zfX zfY=>[fz z6W,row D 70 9 z5u,row (.slice zfW zm.1.fP.length z7w) 37 4 (zm.1.fP.flatMap e37),stb z3p 40 [(.slice zfX zi.1.fP.length zfY),F],row (.slice zfX zi.1.fP.length zfY) 37 4 (zi.1.fP.flatMap e37),row F 53 3 (zi.1.fEnds.flatMap e53),stb zbn 40 [(.slice zfW zm.1.fP.length z7w),G],row G 53 3 (zm.1.fEnds.flatMap e53)]) (fun zlQ z1y zfW z7w zfX zfY=>zlQ) ⟨yx,0,z13c,z13d,zid,zie⟩ h (.r9 U U U U U U U U U) (.s8 .h4 .h4 .h1 .h3 .h3 .h3 .here .here) ?_)))))))))
        rintro zlQ z1y zfW z7w zfX zfY h
        obtain⟨zDI,rfl⟩:=y9p h
        rw[y2E] at h
        refine WC.b<|Ld<|La U<|WL.nil<|Lb<|WC.b<|WC.cond U (fun zE1=>?_)<|fun zE1=>?_
        ·replace h:=yq h zE1
         refine WC.skip<|Lb ?_
         obtain⟨zDJ,z13f,h⟩:=y1G h
         refine WC.y63 (fun(zif:Option Addr) (zig:Nat) (zlR:Option Addr) (zlS:Nat)=>(zDJ=some r)) (fun zif zig zlR zlS=>[(1,(vi z3o)),(11,(vp z3p)),(18,(vp zbn)),(88,D),(89,(vi ((([(⟨({z7 with fVLs:=(([]:List zh)++z7.fVLs).set (A:Int).toNat ({(nth (([]:List zh)++z7.fVLs) A) with fMax:=max 1 C}:zh)}:zp),zL⟩:S70),(⟨z7,(([]:List (List zd))++zL).set (A:Int).toNat []⟩:S70)]:List S70).length:Nat):Int))),(90,(vi z15)),(106,(.slice zif zm.1.fP.length zig)),(107,T),(108,(vi z1y))]) (fun zif zig zlR zlS=>[fz z6W,row D 70 9 z5u,row (.slice zif zm.1.fP.length zig) 37 4 (zm.1.fP.flatMap e37),stb z3p 40 [(.slice zlR zi.1.fP.length zlS),F],row (.slice zlR zi.1.fP.length zlS) 37 4 (zi.1.fP.flatMap e37),row F 53 3 (zi.1.fEnds.flatMap e53),stb zbn 40 [(.slice zif zm.1.fP.length zig),G],row G 53 3 (zm.1.fEnds.flatMap e53)]) ?_ ?_
         ·skip
          refine WC.block<|WC.b ?_
          obtain⟨zpx,h⟩:=yn h
          refine Ld<|Kd (fun w hw=>Hp.y1T .h2 hw (by intro hz';have:=zpx;rw[hz'] at this;omega)) ?_
          rintro⟨zih,rfl⟩
          refine Le 110 (yS y5A U U zpx.1 zpx.2 y2L)<|Le 111 (yU (cs:=(e37<|nth zm.1.fP z1y)) y6y U U<|y3z .h2<|y2x (enc:=e37) (l:=zm.1.fP) (i:=z1y) (sz:=4) (fun _=>U) zpx.1 zpx.2) (Lg 21 (yv (cs:=[(vi 0),(vi 0),(vi 0),(vi 0)]) y7D U) fun zMN _=>Lk U U (yl y7T U U U .here U U U)<|WL.nil<|Lb<|WC.b<|Ld<|Le 112 (ya y4Z U U)<|Le 113 (yc y50 U<|yh .h4 U)<|Le 114 (yI Tryz.underlying33 U)<|La U<|WL.nil<|Lb ?_)
          obtain⟨zdy,z13g,h⟩:=y1G h
          let P:Value:=(.slice (some ⟨zih,0,none⟩) zm.1.fP.length z7w);refine WC.y78 (fun(zlT:Option Addr) (zlU:Nat)=>(zdy=some r)) (fun zlT zlU=>[(1,(vi z3o)),(11,(vp z3p)),(18,(vp zbn)),(88,D),(89,(vi ((([(⟨({z7 with fVLs:=(([]:List zh)++z7.fVLs).set (A:Int).toNat ({(nth (([]:List zh)++z7.fVLs) A) with fMax:=max 1 C}:zh)}:zp),zL⟩:S70),(⟨z7,(([]:List (List zd))++zL).set (A:Int).toNat []⟩:S70)]:List S70).length:Nat):Int))),(90,(vi z15)),(106,P),(107,T),(108,(vi z1y))]) (fun zlT zlU=>[fz z6W,row D 70 9 z5u,row P 37 4 (zm.1.fP.flatMap e37),stb z3p 40 [(.slice zlT zi.1.fP.length zlU),F],row (.slice zlT zi.1.fP.length zlU) 37 4 (zi.1.fP.flatMap e37),row F 53 3 (zi.1.fEnds.flatMap e53),stb zbn 40 [P,G],row G 53 3 (zm.1.fEnds.flatMap e53)]) ?_ ?_
          ·skip
           refine WC.block<|WC.y4P (fun(zlV:Nat) (z2x:Int) (zfZ:Option Addr) (zdF:Nat)=>(y2D zi zm z1y zdy zlV z2x=some r)) (fun zlV z2x zfZ zdF=>[(1,(vi z3o)),(11,(vp z3p)),(18,(vp zbn)),(21,(vp zMN)),(88,D),(89,(vi ((([(⟨({z7 with fVLs:=(([]:List zh)++z7.fVLs).set (A:Int).toNat ({(nth (([]:List zh)++z7.fVLs) A) with fMax:=max 1 C}:zh)}:zp),zL⟩:S70),(⟨z7,(([]:List (List zd))++zL).set (A:Int).toNat []⟩:S70)]:List S70).length:Nat):Int))),(90,(vi z15)),(106,P),(107,T),(108,(vi z1y)),(113,(.slice zfZ zi.1.fP.length zdF)),(114,(vi ((zi.1.fP.length:Nat):Int))),(115,(vi z2x))]) (fun zlV z2x zfZ zdF=>[fz z6W,row D 70 9 z5u,row P 37 4 (zm.1.fP.flatMap e37),row (.slice zfZ zi.1.fP.length zdF) 37 4 (zi.1.fP.flatMap e37),stb z3p 40 [(.slice zfZ zi.1.fP.length zdF),F],row F 53 3 (zi.1.fEnds.flatMap e53),stb zbn 40 [P,G],row G 53 3 (zm.1.fEnds.flatMap e53),stb zMN 37 [(vi<|(nth zm.1.fP z1y).fNode),(vi<|(nth zm.1.fP z1y).fQ),(vi<|(nth zm.1.fP z1y).fDelay),(vi<|(nth zm.1.fP z1y).fT)]]) (fun zlV z2x zfZ zdF=>zlV) ⟨yx,0,zfX,zfY⟩ h (.r13 U U U U U U U U U U U U U) (.s9 .h1 .h1 .h1 .h2 .h1 .h1 .h1 .h1 .here) ?_
           rintro zlV z2x zfZ zdF h
           obtain⟨zDH,rfl⟩:=y9o h
           rw[y2D] at h
           refine WC.b<|Ld<|La U<|WL.nil<|Lb<|WC.b<|WC.cond U (fun zE2=>?_)<|fun zE2=>?_
           ·replace h:=yq h zE2
            refine WC.skip<|Lb<|WC.b<|WC.block<|WC.b ?_
            obtain⟨zpy,h⟩:=yn h
            refine Ld<|Kd (fun w hw=>Hp.y1T .h3 hw (by intro hz';have:=zpy;rw[hz'] at this;omega)) ?_
            rintro⟨z13h,rfl⟩
            refine Le 117 (yS y5A U U zpy.1 zpy.2 y2L)<|Le 118 (yU (cs:=(e37<|nth zi.1.fP z2x)) y6y U U<|y3z .h3<|y2x (enc:=e37) (l:=zi.1.fP) (i:=z2x) (sz:=4) (fun _=>U) zpy.1 zpy.2) (Lg 23 (yv (cs:=[(vi 0),(vi 0),(vi 0),(vi 0)]) y7D U) fun z1cw _=>Lk U U (yl y7T U U U .here U U U)<|WL.nil<|Lb<|WC.b<|Ld<|Le 119 (ya y6z U U)<|Le 120 (yc ys U<|yh (.there<|.there .h7) U)<|Le 121 (ya y6z U U)<|Le 122 (yc ys U<|yh .here U)<|La U<|La U<|Lv true 5 124 (B:=(decide (((nth zm.1.fP z1y).fNode)=((nth zi.1.fP z2x).fNode)))&&(decide (((nth zm.1.fP z1y).fQ)=((nth zi.1.fP z2x).fQ)))) U U U U U U (fun h=>(y3u h).symm) (fun _ z13i=>?_) ?_)
            ·skip
             refine Le 125 (ya y7U U U)<|Le 126 (yc ys U<|yh (.there<|.there .h7) U)<|Le 127 (ya y7U U U)<|Le 128 (yc ys U<|yh .here U)<|La U<|La U ?_
             exact Lw (y3v z13i) U U .all
            refine La U<|Lv true 12 131 (B:=((decide (((nth zm.1.fP z1y).fNode)=((nth zi.1.fP z2x).fNode)))&&(decide (((nth zm.1.fP z1y).fQ)=((nth zi.1.fP z2x).fQ))))&&((decide (((nth zm.1.fP z1y).fDelay)>((nth zi.1.fP z2x).fDelay)))||(decide (((nth zm.1.fP z1y).fT)>((nth zi.1.fP z2x).fT))))) U U U U U U (fun h=>(y3u h).symm) (fun _ z13j=>?_) ?_
            ·skip
             refine Le 132 (ya y9i U U)<|Le 133 (yc ys U<|yh (.there<|.there .h7) U)<|Le 134 (ya y9i U U)<|Le 135 (yc ys U<|yh .here U)<|La U<|La U<|Lv false 5 137 (B:=(decide (((nth zm.1.fP z1y).fDelay)>((nth zi.1.fP z2x).fDelay)))||(decide (((nth zm.1.fP z1y).fT)>((nth zi.1.fP z2x).fT)))) U U U U U U (fun h=>(y7w h).symm) (fun _ z13k=>?_) ?_
             ·skip
              refine Le 138 (ya yai U U)<|Le 139 (yc ys U<|yh (.there<|.there .h7) U)<|Le 140 (ya yai U U)<|Le 141 (yc ys U<|yh .here U)<|La U<|La U ?_
              exact Lw (y7x z13k) U U .all
             refine La U ?_
             exact Lw (y3v z13j) U U .all
            refine WL.nil<|Lb<|WC.cond U (fun zE3=>?_)<|fun zE3=>?_
            ·replace h:=yq h zE3
             refine WC.b<|Ld<|La U<|WL.nil<|Lb<|WC.ret<|Lq<|Li<|Li<|Lq<|Li<|Lq<|Li<|Li<|Lq<|Li<|Lq<|Li<|Li<|Lq<|Li ?_
             obtain rfl:=oJ h
             refine Lh Tryz.results6 (.tmp U .nil)<|fun w hw=>?_
             exact⟨yC U,hw.sub .nil⟩
            ·replace h:=yr h zE3
             refine WC.skip<|Lt<|Lb<|Ld<|La U<|La U<|WL.nil ?_
             exact WX.round ⟨zDH,(i64 (z2x+1)),(some ⟨z13h,0,none⟩),zdF⟩ h (Nat.lt_succ_self _) (.r13 U U U U U U U U U U U U U)<|.s9 .h1 .h1 .h1 .h1 .h1 .h1 .h1 .h1 .h1
           ·replace h:=yr h zE2
            refine WC.exit<|Lm<|Lm<|Lu ?_
            exact Ln ⟨zfZ,zdF⟩ h (.r9 U U U U U U U U U)<|.s8 .here .here .here .h1 .here .here .here .here
          ·rintro zlT zlU h
           replace h:=z13g.symm.trans h
           refine Lt ?_
           exact Ln ⟨(some ⟨zih,0,none⟩),z7w,zlT,zlU⟩ h (.r9 U U U U U U U U U)<|.a8
         ·rintro zif zig zlR zlS h
          replace h:=z13f.symm.trans h
          refine Ld<|La U<|La U<|WL.nil ?_
          exact WX.round ⟨zDI,(i64 (z1y+1)),zif,zig,zlR,zlS⟩ h (Nat.lt_succ_self _) (.r9 U U U U U U U U U)<|.a8
        ·replace h:=yr h zE1
         refine WC.exit<|Lm<|Lm<|Lu ?_
         exact Ln ⟨zfX,zfY,zfW,z7w⟩ h (.r6 U U U U U U)<|.s8 .here .here .h1 .h1 .h1 .h1 .here .here
       ·rintro z6X z6Y zpv zpw h
        replace h:=z13e.symm.trans h
        refine WC.b<|Ld<|Le 147 (ya y7V U U)<|Le 148 (yc y9k U<|yh .h5 U)<|Le 149 (yI Tryz.underlying38 U)<|La U<|WL.nil<|Lb ?_
        obtain⟨zdB,z13l,h⟩:=y1G h
        let H:Value:=(.slice z6X zi.1.fP.length z6Y);refine WC.y78 (fun(zlW:Option Addr) (zlX:Nat)=>(zdB=some r)) (fun zlW zlX=>[(1,(vi z3o)),(11,(vp z3p)),(88,D),(89,(vi ((([(⟨({z7 with fVLs:=(([]:List zh)++z7.fVLs).set (A:Int).toNat ({(nth (([]:List zh)++z7.fVLs) A) with fMax:=max 1 C}:zh)}:zp),zL⟩:S70),(⟨z7,(([]:List (List zd))++zL).set (A:Int).toNat []⟩:S70)]:List S70).length:Nat):Int))),(90,(vi z15))]) (fun zlW zlX=>[fz z6W,row D 70 9 z5u,stb z3p 40 [H,(.slice zlW zi.1.fEnds.length zlX)],row H 37 4 (zi.1.fP.flatMap e37),row (.slice zlW zi.1.fEnds.length zlX) 53 3 (zi.1.fEnds.flatMap e53)]) ?_ ?_
        ·skip
         let S:Value:=(vi ((zm.1.fEnds.length:Nat):Int));refine WC.block (WC.y8m (fun(zlY:Nat) (z1U:Int) (zlZ:Option Addr) (za3:Nat) (zg0:Option Addr) (zg1:Nat)=>(y2F zm zi zdB zlY z1U=some r)) (fun zlY z1U zlZ za3 zg0 zg1=>[(1,(vi z3o)),(11,(vp z3p)),(88,D),(89,(vi ((([(⟨({z7 with fVLs:=(([]:List zh)++z7.fVLs).set (A:Int).toNat ({(nth (([]:List zh)++z7.fVLs) A) with fMax:=max 1 C}:zh)}:zp),zL⟩:S70),(⟨z7,(([]:List (List zd))++zL).set (A:Int).toNat []⟩:S70)]:List S70).length:Nat):Int))),(90,(vi z15)),(148,(.slice zlZ zm.1.fEnds.length za3)),(149,S),(150,(vi z1U))]) (fun zlY z1U zlZ za3 zg0 zg1=>[fz z6W,row D 70 9 z5u,row (.slice zlZ zm.1.fEnds.length za3) 53 3 (zm.1.fEnds.flatMap e53),stb z3p 40 [H,(.slice zg0 zi.1.fEnds.length zg1)],row H 37 4 (zi.1.fP.flatMap e37),row (.slice zg0 zi.1.fEnds.length zg1) 53 3 (zi.1.fEnds.flatMap e53)]) (fun zlY z1U zlZ za3 zg0 zg1=>zlY) ⟨yx,0,za1,za2,z68,z69⟩ h (.r8 U U U U U U U U) (.s6 .here .here .h5 .here .here .here) ?_)
         rintro zlY z1U zlZ za3 zg0 zg1 h
         obtain⟨zDL,rfl⟩:=y9q h
         rw[y2F] at h
         refine WC.b<|Ld<|La U<|WL.nil<|Lb<|WC.b<|WC.cond U (fun zE4=>?_)<|fun zE4=>?_
         ·replace h:=yq h zE4
          refine WC.skip<|Lb ?_
          obtain⟨zDM,z13m,h⟩:=y1G h
          refine WC.y63 (fun(zm0:Option Addr) (zm1:Nat) (zm2:Option Addr) (zm3:Nat)=>(zDM=some r)) (fun zm0 zm1 zm2 zm3=>[(1,(vi z3o)),(11,(vp z3p)),(88,D),(89,(vi ((([(⟨({z7 with fVLs:=(([]:List zh)++z7.fVLs).set (A:Int).toNat ({(nth (([]:List zh)++z7.fVLs) A) with fMax:=max 1 C}:zh)}:zp),zL⟩:S70),(⟨z7,(([]:List (List zd))++zL).set (A:Int).toNat []⟩:S70)]:List S70).length:Nat):Int))),(90,(vi z15)),(148,(.slice zm0 zm.1.fEnds.length zm1)),(149,S),(150,(vi z1U))]) (fun zm0 zm1 zm2 zm3=>[fz z6W,row D 70 9 z5u,row (.slice zm0 zm.1.fEnds.length zm1) 53 3 (zm.1.fEnds.flatMap e53),stb z3p 40 [H,(.slice zm2 zi.1.fEnds.length zm3)],row H 37 4 (zi.1.fP.flatMap e37),row (.slice zm2 zi.1.fEnds.length zm3) 53 3 (zi.1.fEnds.flatMap e53)]) ?_ ?_
          ·skip
           refine WC.block<|WC.b ?_
           obtain⟨zpz,h⟩:=yn h
           refine Ld<|Kd (fun w hw=>Hp.y1T .h2 hw (by intro hz';have:=zpz;rw[hz'] at this;omega)) ?_
           rintro⟨zpA,rfl⟩
           refine Le 152 (yS y9E U U zpz.1 zpz.2 y2L)<|Le 153 (yU (cs:=(e53<|nth zm.1.fEnds z1U)) ydh U U<|y3z .h2<|y2x (enc:=e53) (l:=zm.1.fEnds) (i:=z1U) (sz:=3) (fun _=>U) zpz.1 zpz.2) (Lg 25 (yv (cs:=[(vi 0),(vi 0),(vi 0)]) ygc U) fun zMO _=>Lk U U (yl yhy U U U .here U U U)<|WL.nil<|Lb<|WC.b<|Ld<|Le 154 (ya y7V U U)<|Le 155 (yc y9k U<|yh .h4 U)<|Le 156 (yI Tryz.underlying38 U)<|La U<|WL.nil<|Lb ?_)
           obtain⟨zdA,z13n,h⟩:=y1G h
           let Q:Value:=(.slice (some ⟨zpA,0,none⟩) zm.1.fEnds.length za3);refine WC.y78 (fun(zm4:Option Addr) (zm5:Nat)=>(zdA=some r)) (fun zm4 zm5=>[(1,(vi z3o)),(11,(vp z3p)),(88,D),(89,(vi ((([(⟨({z7 with fVLs:=(([]:List zh)++z7.fVLs).set (A:Int).toNat ({(nth (([]:List zh)++z7.fVLs) A) with fMax:=max 1 C}:zh)}:zp),zL⟩:S70),(⟨z7,(([]:List (List zd))++zL).set (A:Int).toNat []⟩:S70)]:List S70).length:Nat):Int))),(90,(vi z15)),(148,Q),(149,S),(150,(vi z1U))]) (fun zm4 zm5=>[fz z6W,row D 70 9 z5u,row Q 53 3 (zm.1.fEnds.flatMap e53),stb z3p 40 [H,(.slice zm4 zi.1.fEnds.length zm5)],row H 37 4 (zi.1.fP.flatMap e37),row (.slice zm4 zi.1.fEnds.length zm5) 53 3 (zi.1.fEnds.flatMap e53)]) ?_ ?_
           ·skip
            refine WC.block<|WC.y4P (fun(zm6:Nat) (z3n:Int) (zg2:Option Addr) (zdG:Nat)=>(y2s zi zm z1U zdA zm6 z3n=some r)) (fun zm6 z3n zg2 zdG=>[(1,(vi z3o)),(11,(vp z3p)),(25,(vp zMO)),(88,D),(89,(vi ((([(⟨({z7 with fVLs:=(([]:List zh)++z7.fVLs).set (A:Int).toNat ({(nth (([]:List zh)++z7.fVLs) A) with fMax:=max 1 C}:zh)}:zp),zL⟩:S70),(⟨z7,(([]:List (List zd))++zL).set (A:Int).toNat []⟩:S70)]:List S70).length:Nat):Int))),(90,(vi z15)),(148,Q),(149,S),(150,(vi z1U)),(155,(.slice zg2 zi.1.fEnds.length zdG)),(156,(vi ((zi.1.fEnds.length:Nat):Int))),(157,(vi z3n))]) (fun zm6 z3n zg2 zdG=>[fz z6W,row D 70 9 z5u,row Q 53 3 (zm.1.fEnds.flatMap e53),row (.slice zg2 zi.1.fEnds.length zdG) 53 3 (zi.1.fEnds.flatMap e53),stb z3p 40 [H,(.slice zg2 zi.1.fEnds.length zdG)],row H 37 4 (zi.1.fP.flatMap e37),stb zMO 53 [(vi<|(nth zm.1.fEnds z1U).fVL),(vi<|(nth zm.1.fEnds z1U).fNode),(vi<|(nth zm.1.fEnds z1U).fDelay)]]) (fun zm6 z3n zg2 zdG=>zm6) ⟨yx,0,zg0,zg1⟩ h (.r12 U U U U U U U U U U U U) (.s7 .h1 .h1 .h1 .h3 .h1 .h1 .here) ?_
            rintro zm6 z3n zg2 zdG h
            obtain⟨zDK,rfl⟩:=y90 h
            rw[y2s] at h
            refine WC.b<|Ld<|La U<|WL.nil<|Lb<|WC.b<|WC.cond U (fun zE5=>?_)<|fun zE5=>?_
            ·replace h:=yq h zE5
             refine WC.skip<|Lb<|WC.b<|WC.block<|WC.b ?_
             obtain⟨zpB,h⟩:=yn h
             refine Ld<|Kd (fun w hw=>Hp.y1T .h3 hw (by intro hz';have:=zpB;rw[hz'] at this;omega)) ?_
             rintro⟨z13o,rfl⟩
             refine Le 159 (yS y9E U U zpB.1 zpB.2 y2L)<|Le 160 (yU (cs:=(e53<|nth zi.1.fEnds z3n)) ydh U U<|y3z .h3<|y2x (enc:=e53) (l:=zi.1.fEnds) (i:=z3n) (sz:=3) (fun _=>U) zpB.1 zpB.2) (Lg 27 (yv (cs:=[(vi 0),(vi 0),(vi 0)]) ygc U) fun z1cx _=>Lk U U (yl yhy U U U .here U U U)<|WL.nil<|Lb<|WC.b<|Ld<|Le 161 (ya yhz U U)<|Le 162 (yc ys U<|yh .h7 U)<|Le 163 (ya yhz U U)<|Le 164 (yc ys U<|yh .here U)<|La U<|La U<|Lv true 5 166 (B:=(decide (((nth zm.1.fEnds z1U).fVL)=((nth zi.1.fEnds z3n).fVL)))&&(decide (((nth zm.1.fEnds z1U).fNode)=((nth zi.1.fEnds z3n).fNode)))) U U U U U U (fun h=>(y3u h).symm) (fun _ z13p=>?_) ?_)
             ·skip
              refine Le 167 (ya ydf U U)<|Le 168 (yc ys U<|yh .h7 U)<|Le 169 (ya ydf U U)<|Le 170 (yc ys U<|yh .here U)<|La U<|La U ?_
              exact Lw (y3v z13p) U U .all
             refine La U<|Lv true 5 173 (B:=((decide (((nth zm.1.fEnds z1U).fVL)=((nth zi.1.fEnds z3n).fVL)))&&(decide (((nth zm.1.fEnds z1U).fNode)=((nth zi.1.fEnds z3n).fNode))))&&(decide (((nth zm.1.fEnds z1U).fDelay)>((nth zi.1.fEnds z3n).fDelay)))) U U U U U U (fun h=>(y3u h).symm) (fun _ z13q=>?_) ?_
             ·skip
              refine Le 174 (ya yhA U U)<|Le 175 (yc ys U<|yh .h7 U)<|Le 176 (ya yhA U U)<|Le 177 (yc ys U<|yh .here U)<|La U<|La U ?_
              exact Lw (y3v z13q) U U .all
             refine WL.nil<|Lb<|WC.cond U (fun zE6=>?_)<|fun zE6=>?_
             ·replace h:=yq h zE6
              refine WC.b<|Ld<|La U<|WL.nil<|Lb<|WC.ret<|Lq<|Li<|Li<|Lq<|Li<|Lq<|Li<|Li<|Lq<|Li<|Lq<|Li<|Li<|Lq<|Li ?_
              obtain rfl:=oJ h
              refine Lh Tryz.results6 (.tmp U .nil)<|fun w hw=>?_
              exact⟨yC U,hw.sub .nil⟩
             ·replace h:=yr h zE6
              refine WC.skip<|Lt<|Lb<|Ld<|La U<|La U<|WL.nil ?_
              exact WX.round ⟨zDK,(i64 (z3n+1)),(some ⟨z13o,0,none⟩),zdG⟩ h (Nat.lt_succ_self _) (.r12 U U U U U U U U U U U U)<|.s7 .h1 .h1 .h1 .h1 .h1 .h1 .h1
            ·replace h:=yr h zE5
             refine WC.exit<|Lm<|Lm<|Lu ?_
             exact Ln ⟨zg2,zdG⟩ h (.r8 U U U U U U U U)<|.s6 .here .here .here .h1 .h1 .here
           ·rintro zm4 zm5 h
            replace h:=z13n.symm.trans h
            refine Lt ?_
            exact Ln ⟨(some ⟨zpA,0,none⟩),za3,zm4,zm5⟩ h (.r8 U U U U U U U U)<|.a6
          ·rintro zm0 zm1 zm2 zm3 h
           replace h:=z13m.symm.trans h
           refine Ld<|La U<|La U<|WL.nil ?_
           exact WX.round ⟨zDL,(i64 (z1U+1)),zm0,zm1,zm2,zm3⟩ h (Nat.lt_succ_self _) (.r8 U U U U U U U U)<|.a6
         ·replace h:=yr h zE4
          refine WC.exit<|Lm<|Lm<|Lu ?_
          exact Ln ⟨zg0,zg1⟩ h (.r5 U U U U U)<|.s5 .here .here .h1 .h1 .h1
        ·rintro zlW zlX h
         replace h:=z13l.symm.trans h
         refine Lt ?_
         exact Ln ⟨z6X,z6Y,zlW,zlX⟩ h (.r5 U U U U U)<|.a5
     ·rintro zlM zlN zlO zlP h
      replace h:=z12Y.symm.trans h
      refine Ld<|La U<|La U<|WL.nil ?_
      exact WX.round ⟨zDN,zN,(i64 (z15+1)),z5u,zlM,zlN,zlO,zlP⟩ ⟨h,zMw⟩ (Nat.lt_succ_self _) (.r5 U U U U U)<|.a5
    ·replace h:=yr h zDZ
     refine WC.exit<|Lm<|Lm<|Lu ?_
     exact Ln z6W ⟨h,(z2S.trans z2y)⟩ .nil<|.cons .here .nil
   ·rintro zpu ⟨h,z1cy⟩
    replace h:=z12W.symm.trans h
    refine WC.b ?_
    obtain⟨zMu,z13r,h⟩:=za h
    refine Ld<|Ll 183 (zb Tryz.call11 .nil) .nil (ccz hz .nil .here fun w pz ho=>y9X z13r w pz )<|La U<|WL.nil<|Lb<|WC.ret ?_
    obtain rfl:=oJ h
    refine Lh Tryz.results6 (.tmp U .nil)<|fun w hw=>?_
    exact⟨yC U,hw.sub .nil⟩
end Go.Proofs.YthjnhebofpebpaaGreat

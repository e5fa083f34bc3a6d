/- A part of this claim's proof: models of functions, walks, plain laws. No conditions. -/
import Derived.Test.YtaefhckdgfpeaaaGreatWopk
set_option linter.all false
namespace Go.Proofs.YtaefhckdgfpeaaaGreat
open Go Go.RowKit Sep Tryz
set_option maxRecDepth 30000
set_option maxHeartbeats 4000000
def gS(a:yz)(d:Int)(e:Int):Option Bool:=
 (fl a).bind fun b=>(tc d e b a.y5).bind fun c=>some c
theorem dN(Z b c d e a g i r)(h:gS a g i=some r){Ek}(hz:PZ [] Ek Z)(j:ZS Z 1 (rq e5) b c a.yx)(f:ZS Z 1 (rq vK) d e a.y5.yr):
  RC 27 #[.agg #[.string a.yl,vi a.yd,vs b a.yx.length c,vi a.y5.yK,.int .u64 a.y5.y4.a0,.int .u64 a.y5.y4.a1,.int .u64 a.y5.y4.a2,.int .u64 a.y5.y4.a3,.int .u64 a.y5.y4.a4,.int .u64 a.y5.y4.a5,.int .u64 a.y5.y4.a6,.int .u64 a.y5.y4.a7,.int .u64 a.y5.y4.a8,.int .u64 a.y5.y4.a9,.int .u64 a.y5.y4.a10,.int .u64 a.y5.y4.a11,.int .u64 a.y5.y4.a12,.int .u64 a.y5.y4.a13,.int .u64 a.y5.y4.a14,.int .u64 a.y5.y4.a15,.int .u64 a.y5.y4.a16,.int .u64 a.y5.y4.a17,vs d a.y5.yr.length e],.int .u64 g,vi i] Ek (.bool r) [] []:=by
 unfold gS at h
 refine Ng func27 U U ?_
 let A:Value:=(vs d a.y5.yr.length e);let C:Value:=(.int .u64 a.y5.y4.a10);let D:Value:=(.int .u64 a.y5.y4.a11);let E:Value:=(.int .u64 a.y5.y4.a12);let F:Value:=(.int .u64 a.y5.y4.a13);let G:Value:=(.int .u64 a.y5.y4.a14);let H:Value:=(.int .u64 a.y5.y4.a15);let I:Value:=(.int .u64 a.y5.y4.a16);let J:Value:=(.int .u64 a.y5.y4.a17);refine B0q<|Lh 3 (wu (cs:=[.string a.yl,vi a.yd,vs b a.yx.length c,vi a.y5.yK,.int .u64 a.y5.y4.a0,.int .u64 a.y5.y4.a1,.int .u64 a.y5.y4.a2,.int .u64 a.y5.y4.a3,.int .u64 a.y5.y4.a4,.int .u64 a.y5.y4.a5,.int .u64 a.y5.y4.a6,.int .u64 a.y5.y4.a7,.int .u64 a.y5.y4.a8,.int .u64 a.y5.y4.a9,C,D,E,F,G,H,I,J,A])) ?_
 intro m _
 exact Q1n U<|Lb<|bK h fun n k h=>Le<|Lf 10 (we z4P (wh .here))<|Eg call23 hz (fun pz=>eN _ _ _ _ _ _ _ k pz j f)<|Q5n U<|Lb<|bK h fun o l h=>D1q U<|Lf 15 uh<|La U<|La U<|La U<|La U<|Lf 20 (w7 bV)<|Lf 21 (wX (cs:=[vi a.y5.yK,.int .u64 a.y5.y4.a0,.int .u64 a.y5.y4.a1,.int .u64 a.y5.y4.a2,.int .u64 a.y5.y4.a3,.int .u64 a.y5.y4.a4,.int .u64 a.y5.y4.a5,.int .u64 a.y5.y4.a6,.int .u64 a.y5.y4.a7,.int .u64 a.y5.y4.a8,.int .u64 a.y5.y4.a9,C,D,E,F,G,H,I,J,A]) zk5<|qW (s:=20) .here U)<|Eg call69 hz (fun pz=>QK _ _ _ _ _ _ _ _ l pz f)<|Q2n U<|El<|oJ h▸Ea results27
def td(a:List Int)(b:List Int):Option Bool:=
 some (decide ((px a)=(px b)))
theorem Yt(Z c d e f a b r)(h:td a b=some r){Ek}(hz:PZ [] Ek Z)(g:ZS Z 1 (rq e5) c d a)(i:ZS Z 1 (rq e5) e f b):
  RC 167 #[vs c a.length d,vs e b.length f] Ek (.bool r) [] []:=by
 unfold td at h
 exact Lz func167 U U<|B1n U<|B1q U<|Lf 6 (VG (q:=a) (enc:=e5) underlying23 underlying5 underlying9 U (fun _=>U)<|da hz.pv g)<|La U<|Lf 8 (VG (q:=b) (enc:=e5) underlying23 underlying5 underlying9 U (fun _=>U)<|da hz.pv i)<|Lf 9 (WF U U)<|Q1n U<|El<|oJ h▸Ea results167
def bD(a:Int):Option Int:=
 if decide ((bits .and .u32 a 1)=1) then some (bits .xor .u32 (a / 2 ^ min (1:Int).toNat 32) 3988292384) else some (a / 2 ^ min (1:Int).toNat 32)
theorem QL(Z a r)(h:bD a=some r){Ek}(hz:PZ [] Ek Z):
  RC 255 #[.int .u32 a] Ek (.int .u32 r) [] []:=by
 unfold bD at h
 refine L3 func255 U U<|B1n U<|Lb<|B1q U<|Lf 4 Wz<|Q1n U<|Lj h (fun b h=>?_)<|fun b h=>?_
 ·exact B1q U<|Lf 7 (oV (by decide))<|Lf 8 aH<|Q1n U<|El<|L4<|oJ h▸Ea results255
 ·exact Ec<|B1q U<|Lf 10 (oV (by decide))<|Q1n U<|El<|oJ h▸Ea results255
def sI(a:Int->Option (List Int)):Nat->Int->Int->Option (List Int)
 | 0,_,_=>none
 | d+1,b,c=>if decide (c<8) then(bD b).bind fun e=>sI a d e (i64 (c+1)) else a b
def sJ(b:(List Int)->Option (List Int)):Nat->Int->(List Int)->Option (List Int)
 | 0,_,_=>none
 | d+1,a,c=>if decide (a<256) then vC (fun(e:List Int)=>sJ b d (i64 (a+1)) e) fun f=>vC (fun(g:Int)=>chk (0<=a/\a<256) (f (c.set (a:Int).toNat g))) fun h=>sI h wr (u32 a) 0 else b c
def cQ  : Option (List Int):=
 vC (fun(a:List Int)=>some a) fun b=>sJ b wr 0 (List.replicate 256 (0:Int))
theorem Kb(Z r)(h:cQ=some r){Ek}(hz:PZ [] Ek Z):
  Calls Tryz.prog 228 #[] Ek fun e w'=>∃ p:Nat,e = .returned (vp p)/\True/\Hp [] Ek w' [arl p 406 (Value.int .u32) 256 r]:=by
 unfold cQ at h
 refine Ns func228 U U<|B1n U<|Lb<|Le (Lh 1 (dh (f:=Value.int .u32) (m:=256) (z:=0) z1ew) fun b _=>Q0n<|B1n U ?_)
 refine jK1 h fun s v h=>Nd (fun k=>(s k=some r)) (fun k=>[(1,vp b)]) (fun k=>[arl b 406 (Value.int .u32) 256 k]) ?_ ?_
 ·let A:Value:=(.func (.func 255) #[] #[]);refine B1n U<|WC.block<|E4 (fun n a c=>(sJ s n a c=some r)) (fun n a c=>[(1,vp b),(2,A),(5,vi a)]) (fun n a c=>[arl b 406 (Value.int .u32) 256 c]) (fun n a c=>n) ⟨wr,0,List.replicate 256 (0:Int)⟩ h .q (.cons .here .nil) ?_
  rintro(_|E) a c h;·cases h
  rw[sJ] at h
  refine B1n U<|Lb<|Lj h (fun x h=>?_)<|fun x h=>?_
  ·refine Ec<|jK1 h fun F y h=>Nd (fun g=>(F g=some r)) (fun g=>[(1,vp b),(2,A),(5,vi a)]) (fun g=>[arl b 406 (Value.int .u32) 256 g]) ?_ ?_
   ·refine WC.block<|B2n U<|B1q U<|Lf 9 (vo underlying3 underlying122)<|Q1n U<|jK1 h fun t B h=>Nd (fun d=>(t d=some r)) (fun d=>[(1,vp b),(2,A),(3,vi a),(4,.int .u32 d),(5,vi a)]) (fun d=>[arl b 406 (Value.int .u32) 256 c]) ?_ ?_
    ·refine B1n U<|WC.block<|E4 (fun o i j=>(sI t o i j=some r)) (fun o i j=>[(1,vp b),(2,A),(3,vi a),(4,.int .u32 i),(5,vi a),(10,vi j)]) (fun o i j=>[arl b 406 (Value.int .u32) 256 c]) (fun o i j=>o) ⟨wr,u32 a,0⟩ h .q (.cons .here .nil) ?_
     rintro(_|G) i j h;·cases h
     rw[sI] at h
     refine B1n U<|Lb<|Lj h (fun C h=>?_)<|fun C h=>?_
     ·exact Ec<|Lb<|WC.block<|bK h fun H D h=>D2q U<|Lm 14 (wV (l:=[.tmp 13]) call255<|.cons U .nil) .nil (cc hz .nil fun w pz ho=>QL _ _ _ D pz )<|La U<|WL.nil<|Lq<|Ld<|D2q U<|WL.nil<|Em ⟨G,H,i64 (j+1)⟩ h (Nat.lt_succ_self _) .q<|.cons .here .nil
     ·exact En<|Ln<|Ln<|Lu<|Lp i h .q<|.cons .here .nil
    ·rintro d h
     replace h:=(B d).symm.trans h
     exact cK h fun q h=>D2q U<|Lf 18 (qF zZE q jL)<|Ll (ce (f:=Value.int .u32) (u:=d) zZF .here q)<|WL.nil<|Lq<|Lp (c.set (a:Int).toNat d) h .q<|.cons .here .nil
   ·rintro g h
    replace h:=(y g).symm.trans h
    exact D2q U<|WL.nil<|Em ⟨E,i64 (a+1),g⟩ h (Nat.lt_succ_self _) .q<|.cons .here .nil
  ·exact En<|Ln<|Ln<|Lu<|Lp c h (.cons U .nil)<|.cons .here .nil
 ·rintro k h
  replace h:=(v k).symm.trans h
  exact B1n U<|El<|oJ h▸Lk results228 (.tmp U .nil) fun w hw=>⟨b,wx,trivial,hw.sub (.cons .here .nil)⟩
def gr(b:List Int)(d:List Int)(e:Int->Option Int):Nat->Int->Int->Option Int
 | 0,_,_=>none
 | f+1,c,a=>if decide (a<b.length) then chk (0<=a/\a<b.length) (chk (0<=(bits .xor .u8 (u8 c) (nth b a))/\(bits .xor .u8 (u8 c) (nth b a))<256) (gr b d e f (bits .xor .u32 (c / 2 ^ min (8:Int).toNat 32) (nth d (bits .xor .u8 (u8 c) (nth b a)))) (i64 (a+1)))) else e c
def iF(a:Int)(b:List Int):Option Int:=
 (cQ).bind fun c=>vC (fun(d:Int)=>some (bits .xor .u32 4294967295 d)) fun e=>gr b c e wr (bits .xor .u32 4294967295 a) 0
theorem JC(Z g i j c r)(h:iF j c=some r){Ek}(hz:PZ [] Ek Z)(p:ZS Z 1 (rq e5) g i c):
  RC 210 #[.int .u32 j,vs g c.length i] Ek (.int .u32 r) [] []:=by
 unfold iF at h
 refine Lz func210 U U<|B1n U<|Lb<|bK h fun k q h=>Le<|H9 (dd:=9) U U U (Eh call228) .nil (cc hz .nil fun w pz ho=>Kb _ _ q pz ) ?_
 rintro l _
 refine La U<|Lf 11 (Kh U U)<|Q2n U<|jK1 h fun o s h=>Nd (fun d=>(o d=some r)) (fun d=>[(6,.int .u32 d)]) (fun d=>[]) ?_ ?_
 ·refine B1q U<|Lf 13 (wB underlying23)<|Q1n U<|WC.block<|E4 (fun e a b=>(gr c k o e a b=some r)) (fun e a b=>[(5,vp l),(6,.int .u32 a),(12,vs g c.length i),(13,vi (c.length:Int)),(14,vi b)]) (fun e a b=>[arl l 406 (Value.int .u32) 256 k]) (fun e a b=>e) ⟨wr,bits .xor .u32 4294967295 j,0⟩ h .q (.cons .here .nil) ?_
  rintro(_|x) a b h;·cases h
  rw[gr] at h
  refine B1n U<|Lb<|Lj h (fun t h=>?_)<|fun t h=>?_
  ·refine Ec<|Lb<|WC.block<|Lb<|cK h fun u h=>Le<|L0 (dd:=16) (Z:=Z) (Pr:=(rq e5)) z2j p u ?_
   rintro y z v A rfl
   exact Lf 17 (w8 m9 U<|vx hz.pv v)<|Q1n U<|cK h fun n h=>D1q U<|Lf 19 (oV (by decide))<|Q2q U<|Lf 22 (vo underlying122 underlying5)<|La U<|Lf 24 aH<|Lf 25 wz<|Lf 26 (qF zZE n jL)<|Lf 27 (w8 zvE U<|WT (f:=Value.int .u32) (m:=256) .here n)<|Lf 28 aH<|La U<|WL.nil<|Lq<|Ld<|D2q U<|WL.nil<|Em ⟨x,(bits .xor .u32 (a / 2 ^ min (8:Int).toNat 32)<|nth k<|bits .xor .u8 (u8 a)<|nth c b),i64 (b+1)⟩ h (Nat.lt_succ_self _) .q<|.cons .here .nil
  ·exact En<|Ln<|Ln<|Lu<|Lp a h (.cons U .nil) .nil
 ·rintro d h
  replace h:=(s d).symm.trans h
  exact B1q U<|Lf 31 (Kh U U)<|Q1n U<|El<|oJ h▸Ea results210
def lK(b:List Int):Option Int:=
 (iF 0 b).bind fun a=>some a
theorem GN(Z b c a r)(h:lK a=some r){Ek}(hz:PZ [] Ek Z)(d:ZS Z 1 (rq e5) b c a):
  RC 171 #[vs b a.length c] Ek (.int .u32 r) [] []:=by
 unfold lK at h
 exact L3 func171 U U<|B1n U<|Lb<|bK h fun f e h=>D1q U<|Eg call210 hz (fun pz=>JC _ _ _ _ _ _ e pz d)<|Q1n U<|El<|oJ h▸Ea results171
def uK(zgE:List Int):Option Unit:=
 chk (((([]:List Int)++zgE).length:Int)*1<=140737488355328/\((([]:List Int)++zgE).length:Int)<=4611686018427387904) (some ())
theorem dO(Z zXk zXl zgE r)(h:uK zgE=some r)(Ek)(hz:PZ [] Ek Z)(c:ZS Z 1 (rq e5) (some zXk) zXl zgE):
  Calls Tryz.prog 79 #[vs (some zXk) zgE.length zXl] Ek fun e w'=>∃ a:Option Addr,∃ b:Nat,e = .returned (vs a ((([]:List Int)++zgE).length) b)/\True/\Hp [] Ek w' [row (vs a ((([]:List Int)++zgE).length) b) 5 1 ((([]:List Int)++zgE).flatMap e5)]:=by
 unfold uK at h
 refine L3 func79 U U<|B1n U<|Lb<|B1q U<|Lf 4 (Xm underlying23 U U)<|Q0n<|Er (fun h'=>(by cases h'))<|fun h'=>?_
 clear h'
 refine Ec<|Lb<|cK h fun d h=>Le (Lh 5 (wD (cs:=([]:List Int).flatMap e5) z2j (Lt (l:=[]) .nil []) (fun _=>by kernel_rfl) (by unfold maxLen;omega)) fun i _=>La U<|WL.fA 7 (vb (enc:=e5) (l1:=([]:List Int)) (l2:=zgE) z2j .here (fun _=>U) (da hz.pv c) (vm tk _) d) ?_)
 rintro⟨f,g⟩ _
 refine Q1n U<|El ?_
 skip
 exact Lk results79 (.tmp U .nil)<|fun w hw=>⟨f,g,wx,trivial,hw.sub (.cons .here .nil)⟩
def pf  : Option Unit:=
 some ()
theorem bN(Z z1aG r)(h:pf=some r)(Ek)(hz:PZ [] Ek Z):
  RC 79 #[vs none 0 z1aG] Ek vn [] []:=by
 unfold pf at h
 refine L3 func79 U U<|B1n U<|Lb<|B1q U<|Lf 4 (Xm underlying23 U U)<|Q0n<|Er (fun h'=>?_)<|fun h'=>(by cases h')
 clear h'
 refine B1n U<|El<|L4 ?_
 skip
 exact Lk results79 (.tmp U .nil)<|fun w hw=>⟨wx,hw.sub .nil⟩
def qN(l:List Int):Option (List Int):=chk (((l).length:Int)*1<=140737488355328/\((l).length:Int)<=4611686018427387904) (some l)
theorem um(Z ao cap l r){Ek}(hz:PZ [] Ek Z)(hs:ZS Z 1 (rq e5) ao cap l)(h:qN l=some r):Calls Tryz.prog 79 #[.slice ao l.length cap] Ek fun e w'=>∃ Bd:Option Addr,∃ zy:Nat,e = .returned (vs Bd r.length zy)/\True/\Hp [] Ek w' [row (vs Bd r.length zy) 5 1 (r.flatMap e5)]:=by
 obtain⟨h0,h⟩:=wa h
 obtain rfl:=oJ h
 cases ao with
 | none=>
  obtain rfl:=hs.noneNil
  refine Calls.mono (bN (z1aG:=cap) (Z:=Z) (r:=()) (Ek:=Ek) U hz) ?_
  rintro e w' ⟨rfl,hh⟩
  exact⟨none,0,U,trivial,hh.nilRow 5 1⟩
 | some A=>
  refine dO (zXk:=A) (zXl:=cap) (zgE:=l) (r:=()) (Z:=Z) (Ek:=Ek) ?_ hz hs
  unfold uK
  simp only[List.nil_append]
  exact if_pos h0
def kF(b:Int)(d:(List Int)->Option (List Int)):Nat->(List Int)->Int->Option (List Int)
 | 0,_,_=>none
 | e+1,c,a=>if decide (a<4) then chk (0<=(i64 (8*a))) (chk ((((c++([u8 (b / 2 ^ min ((i64 (8*a)):Int).toNat 32)]:List Int)).length:Nat):Int)*1<=140737488355328/\(((c++([u8 (b / 2 ^ min ((i64 (8*a)):Int).toNat 32)]:List Int)).length:Nat):Int)<=4611686018427387904) (kF b d e (c++([u8 (b / 2 ^ min ((i64 (8*a)):Int).toNat 32)]:List Int)) (i64 (a+1)))) else d c
def sK(a:List Int):Option (List Int):=
 (lK a).bind fun b=>(qN a).bind fun c=>vC (fun(d:List Int)=>some d) fun e=>kF b e wr c 0
theorem JD(Z n o m r)(h:sK m=some r){Ek}(hz:PZ [] Ek Z)(p:ZS Z 1 (rq e5) n o m):
  Calls Tryz.prog 124 #[vs n m.length o] Ek fun e w'=>∃ q:Option Addr,∃ s:Nat,e = .returned (vs q r.length s)/\True/\Hp [] Ek w' [row (vs q r.length s) 5 1 (r.flatMap e5)]:=by
 unfold sK at h
 refine L3 func124 U U<|B1n U<|Lb<|bK h fun j v h=>bK h fun t x h=>D1q U<|Eg call171 hz (fun pz=>GN _ _ _ _ _ v pz p)<|La U<|L7 (dd:=9) U (Eh call79) .nil (cc hz .nil fun w pz ho=>um (Z:=_) (ao:=n) (cap:=o) (l:=m) (r:=t) pz p x) ?_
 rintro y z _
 refine Q2n U<|jK1 h fun u A h=>Nf (fun c g i=>(u c=some r)) (fun c g i=>[(4,vs g c.length i)]) (fun c g i=>[row (vs g c.length i) 5 1 (c.flatMap e5)]) ?_ ?_
 ·refine B1n U<|WC.block<|E6 (fun k a b d f=>(kF j u k a b=some r)) (fun k a b d f=>[(3,.int .u32 j),(4,vs d a.length f),(10,vi b)]) (fun k a b d f=>[row (vs d a.length f) 5 1 (a.flatMap e5)]) (fun k a b d f=>k) ⟨wr,t,0,y,z⟩ h .q (.cons .here .nil) ?_
  rintro(_|G) a b d f h;·cases h
  rw[kF] at h
  refine B1n U<|Lb<|Lj h (fun B h=>?_)<|fun B h=>?_
  ·refine Ec<|Lb<|WC.block<|B2n U<|cK h fun C h=>cK h fun D h=>Le<|La U<|La U<|La U<|La U<|Lf 17 (oV C)<|Lf 18 (vo underlying122 underlying5) (Lh 19 (wD (cs:=([u8 (j / 2 ^ min ((i64 (8*b)):Int).toNat 32)]:List Int).flatMap e5) z2j (Lt (l:=[.tmp 18]) (.cons U .nil) [0]) (fun _=>by kernel_rfl) (by unfold maxLen;omega)) fun H _=>WL.fA 20 (vb (enc:=e5) (l1:=a) (l2:=([u8 (j / 2 ^ min ((i64 (8*b)):Int).toNat 32)]:List Int)) z2j .h1 (fun _=>U) (wY .here) (vm tk _) D) ?_)
   rintro⟨E,F⟩ _
   exact La U<|WL.nil<|Lq<|Ld<|D2q U<|WL.nil<|Em ⟨G,a++([u8 (j / 2 ^ min ((i64 (8*b)):Int).toNat 32)]:List Int),i64 (b+1),E,F⟩ h (Nat.lt_succ_self _) .q<|.cons .here .nil
  ·exact En<|Ln<|Ln<|Lu<|Lp ⟨a,d,f⟩ h (.cons U .nil)<|.cons .here .nil
 ·rintro c g i h
  replace h:=(A c).symm.trans h
  exact B2n U<|El<|oJ h▸Lk results124 (.tmp U .nil) fun w hw=>⟨g,i,wx,trivial,hw.sub (.cons .here .nil)⟩
def uz(a:List Int):Option (List Int):=
 if decide ((a.length:Int)>48) then none else chk (0<=(0:Int)/\(0:Int)<49) ((sK (((List.replicate 49 (0:Int)).set (0:Int).toNat (u8 (a.length:Int))).take 1++(a.take (49-1)++((List.replicate 49 (0:Int)).set (0:Int).toNat (u8 (a.length:Int))).drop (1+(a.take (49-1)).length)))).bind fun b=>chk (((b++([0]:List Int)).length:Int)*1<=140737488355328/\((b++([0]:List Int)).length:Int)<=4611686018427387904) (some (b++([0]:List Int))))
theorem ab(Z b c a r)(h:uz a=some r){Ek}(hz:PZ [] Ek Z)(j:ZS Z 1 (rq e5) b c a):
  Calls Tryz.prog 81 #[vs b a.length c] Ek fun e w'=>∃ d:Option Addr,∃ g:Nat,e = .returned (.tuple #[vs d r.length g,vi 0])/\True/\Hp [] Ek w' [row (vs d r.length g) 5 1 (r.flatMap e5)]:=by
 unfold uz at h
 refine L3 func81 U U<|B2n U<|Lb<|B1q U<|Lf 6 (wB underlying23)<|Q1n U<|Lj h (fun k h=>?_)<|fun k h=>?_
 ·cases h
 ·refine Ec<|Lb<|Le (Lh 4 (dh (f:=Value.int .u8) (m:=49) (z:=0) z1ev) fun v _=>Q0n<|Lb ?_)
  refine cK h fun i h=>D1q U<|Lf 9 (wB underlying23)<|Lf 10 (vo underlying3 underlying5)<|Lf 11 (qF zO3 i jL)<|Ll (ce (f:=Value.int .u8) (u:=u8 (a.length:Int)) WZ .here i)<|Q0n<|B0q<|Lf 12 (K2 (lo:=1) zO3 U U (by decide))<|La U<|WL.fA 14 (Gw (lo:=1) (enc:=e5) (q:=a) z2j U U .here (by decide) (fun _=>U) (fun _=>U)<|da hz.pv j) ?_
  rintro _ _
  refine Q0n<|Lb<|bK h fun t n h=>cK h fun o h=>Le<|Lf 15 (aG zO3 U .here)<|Nq (fun _ h=>Hp.YV (e:=5) (enc:=e5) .here (by unfold maxLen;omega) (fun _=>U) h)<|L7 (dd:=16) U (Eh call124) .nil (kb hz .nil (.cons .here .nil) fun w pz ho la=>JD _ _ _ _ _ n pz<|ZA.row (la _ (.head _) _) (RR.flat (enc:=e5) (fun _=>U) _) ⟨w,pz.1⟩) ?_
  rintro x y _
  refine Lh 17 (wD (cs:=([0]:List Int).flatMap e5) z2j (Lt (l:=[.const (.int .u8 0)]) (.cons U .nil) [0]) (fun _=>by kernel_rfl) (by unfold maxLen;omega)) fun A _=>WL.fA 18 (vb (enc:=e5) (l1:=t) (l2:=([0]:List Int)) z2j .h1 (fun _=>U) (wY .here) (vm tk _) o) ?_
  rintro⟨p,s⟩ _
  exact Q2n U<|El<|oJ h▸Lk results81 (.tmp U<|.tmp U .nil) fun w hw=>⟨p,s,qq,trivial,hw.sub (.cons .here .nil)⟩
def fr(b:yJ)(a:Int):Option (List Int×Int):=
 (mY b).bind fun g=>if ((!g)||(decide (a<0)))||(decide (a>=b.yf.length)) then none else chk (0<=a/\a<b.yf.length) (chk ((0:Int)<=0/\0<((nth b.yf a).length:Int)) ((uy).bind fun c=>(td (nth b.yf a) c).bind fun d=>if d then some (([]:List Int),6) else chk ((0:Int)<=53/\53<((nth b.yf a).length:Int)) (if decide ((nth (nth b.yf a) 53)≠0) then some (([]:List Int),370) else if decide ((i64 (nth (nth b.yf a) 0))>48) then none else chk ((0:Int)<=1/\(1:Int)<=(i64 (1+(i64 (nth (nth b.yf a) 0))))/\(i64 (1+(i64 (nth (nth b.yf a) 0))))<=((nth b.yf a).length:Int)) ((uz (((nth b.yf a).take ((i64 (1+(i64 (nth (nth b.yf a) 0)))):Int).toNat).drop (1:Int).toNat)).bind fun e=>(td (nth b.yf a) e).bind fun f=>if !f then none else chk ((0:Int)<=1/\(1:Int)<=(i64 (1+(i64 (nth (nth b.yf a) 0))))/\(i64 (1+(i64 (nth (nth b.yf a) 0))))<=((nth b.yf a).length:Int)) ((qN (((nth b.yf a).take ((i64 (1+(i64 (nth (nth b.yf a) 0)))):Int).toNat).drop (1:Int).toNat)).bind fun h=>some (h,0))))))
theorem Xf(Z d f a b r)(h:fr a b=some r){Ek}(hz:PZ [] Ek Z)(g:ZS Z 1 (ff Z) d f a.yf):
  Calls Tryz.prog 118 #[.agg #[vs d a.yf.length f],vi b] Ek fun e w'=>∃ i:Option Addr,∃ j:Nat,e = .returned (.tuple #[vs i r.1.length j,vi r.2])/\True/\Hp [] Ek w' [row (vs i r.1.length j) 5 1 (r.1.flatMap e5)]:=by
 unfold fr at h
 refine Lz func118 U U<|Lb<|Le (Lh 2 (wu (cs:=[vs d a.yf.length f])) fun R _=>Q2n U<|Lb<|Lb ?_)
 refine bK h fun k m h=>Le<|Lf 10 (we z3N (wh .here))<|Eg call67 hz (fun pz=>bC _ _ _ _ _ m pz g)<|Q2q U<|Lx false 2 13 (B:=(!k)||(decide (b<0))) (fun h=>(jB h).symm) (fun _ n=>?_) ?_
 ·exact Q3q U<|Ly (jC n) U .all
 refine La U<|Lx false 5 17 (B:=((!k)||(decide (b<0)))||(decide (b>=a.yf.length))) (fun h=>(jB h).symm) (fun _ o=>?_) ?_
 ·exact La U<|Lf 19 (w7 ux)<|Lf 20 (Ei zfp .here)<|Lf 21 (wB underlying45)<|Q2q U<|Ly (jC o) U .all
 refine Q0n<|Lj h (fun p h=>?_)<|fun p h=>?_
 ·cases h
 ·refine Ec<|Lb<|cK h fun q h=>Le<|Lf 24 (w7 ux)<|Lf 25 (Ei zfp .here)<|La U<|L0 (dd:=27) (Z:=Z) (Pr:=(ff Z)) zer g q ?_
  rintro S T s V ⟨W,X,rfl,c⟩
  refine Lf 28 (w8 z56 U<|vx hz.pv s)<|Q1n U<|Lb<|cK h fun t h=>D1q U<|L0 (dd:=30) (Z:=Z) (Pr:=(rq e5)) z2j c t ?_
  rintro Y aa u ad rfl
  refine Lf 31 (w8 m9 U<|vx hz.pv u)<|Lf 32 (vo underlying5 underlying3)<|Q1n U<|WC.block<|Lb<|bK h fun ae v h=>bK h fun af x h=>D1q U<|L7 (dd:=52) U (Eh call24) .nil (cc hz .nil fun w pz ho=>cF _ _ v pz ) ?_
  rintro ag ah _
  refine Lm 53 (Eh call167) .nil (kb hz .nil (.cons .here .nil) fun w pz ho la=>Yt _ _ _ _ _ _ _ _ x pz (c.mono<|zl)<|ZA.row (la _ (.head _) _) (RR.flat (enc:=e5) (fun _=>U) _) ⟨w,pz.1⟩)<|Q1n U<|Lj h (fun y h=>?_)<|fun y h=>?_
  ·exact B2n U<|El<|Nc<|WX.nilRow 5 1<|oJ h▸Lk results118 (.tmp U<|.tmp U .nil) fun w hw=>⟨none,0,qq,trivial,hw.sub (.cons .here .nil)⟩
  ·refine Lb<|cK h fun z h=>D1q U<|L0 (dd:=56) (Z:=Z) (Pr:=(rq e5)) z2j c z ?_
   rintro ai aj A ak rfl
   refine Lf 57 (w8 m9 U<|vx hz.pv A)<|Q2n U<|Lj h (fun C h=>?_)<|fun C h=>?_
   ·exact B2n U<|El<|Nc<|WX.nilRow 5 1<|oJ h▸Lk results118 (.tmp U<|.tmp U .nil) fun w hw=>⟨none,0,qq,trivial,hw.sub (.cons .here .nil)⟩
   ·refine B3n U<|Lj h (fun D h=>?_)<|fun D h=>?_
    ·cases h
    ·refine Lb<|cK h fun E h=>bK h fun al F h=>D3q U<|Nn (dd:=37) (Z:=Z) (Pr:=(rq e5)) z2j U c np np U U E U ?_
     rintro am an G
     refine L7 (dd:=38) U (Eh call81) .nil (cc hz .nil fun w pz ho=>ab _ _ _ _ _ F pz G) ?_
     rintro ap aq _
     refine Q5n U<|Lb<|Lb<|bK h fun ar H h=>D2q U<|Lm 43 (Eh call167) .nil (kb hz .nil (.cons .here .nil) fun w pz ho la=>Yt _ _ _ _ _ _ _ _ H pz (c.mono<|zl)<|ZA.row (la _ (.head _) _) (RR.flat (enc:=e5) (fun _=>U) _) ⟨w,pz.1⟩)<|Q1n U<|Lj h (fun I h=>?_)<|fun I h=>?_
     ·cases h
     ·refine Ec<|Lb<|cK h fun J h=>bK h fun Q K h=>D3q U<|Nn (dd:=48) (Z:=Z) (Pr:=(rq e5)) z2j U c np np U U J U ?_
      rintro L M N
      refine L7 (dd:=49) U (Eh call79) .nil (cc hz .nil fun w pz ho=>um (Z:=_) (ao:=L) (cap:=M) (l:=(((nth a.yf b).take ((i64 (1+(i64<|nth (nth a.yf b) 0))):Int).toNat).drop (1:Int).toNat)) (r:=Q) pz N K) ?_
      rintro O P _
      exact Q2n U<|El<|Nc<|oJ h▸Lk results118 (.tmp U<|.tmp U .nil) fun w hw=>⟨O,P,qq,trivial,hw.sub (.cons .here .nil)⟩
def kv(b:List Int)(c:Int->Option Int):Nat->Int->Int->Option Int
 | 0,_,_=>none
 | e+1,d,a=>if decide (a<b.length) then chk (0<=a/\a<b.length) (chk (0<=(i64 (8*a))) (kv b c e (bits .or .u64 d (u64 ((u64 (nth b a))*2 ^ min ((i64 (8*a)):Int).toNat 64))) (i64 (a+1)))) else c d
def ko(a:List Int):Option Int:=
 vC (fun(b:Int)=>some b) fun c=>kv a c wr 0 0
theorem oy(Z f g c r)(h:ko c=some r){Ek}(hz:PZ [] Ek Z)(j:ZS Z 1 (rq e5) f g c):
  RC 168 #[vs f c.length g] Ek (.int .u64 r) [] []:=by
 unfold ko at h
 refine L3 func168 U U<|B1n U<|B1n U<|jK1 h fun i k h=>Nd (fun d=>(i d=some r)) (fun d=>[(3,.int .u64 d)]) (fun d=>[]) ?_ ?_
 ·refine B1q U<|Lf 7 (wB underlying23)<|Q1n U<|WC.block<|E4 (fun e b a=>(kv c i e b a=some r)) (fun e b a=>[(3,.int .u64 b),(6,vs f c.length g),(7,vi (c.length:Int)),(8,vi a)]) (fun e b a=>[]) (fun e b a=>e) ⟨wr,0,0⟩ h .q .nil ?_
  rintro(_|p) b a h;·cases h
  rw[kv] at h
  refine B1n U<|Lb<|Lj h (fun l h=>?_)<|fun l h=>?_
  ·refine Ec<|Lb<|WC.block<|Lb<|cK h fun m h=>D1q U<|L0 (dd:=11) (Z:=Z) (Pr:=(rq e5)) z2j j m ?_
   rintro q s n t rfl
   exact Lf 12 (w8 m9 U<|vx hz.pv n)<|Q2n U<|cK h fun o h=>D2q U<|Lf 15 (vo underlying5 underlying24)<|Q2q U<|Lf 18 (cN o)<|Lf 19 VF<|La U<|WL.nil<|Lq<|Ld<|D2q U<|WL.nil<|Em ⟨p,(bits .or .u64 b<|u64 ((u64<|nth c a)*2 ^ min ((i64 (8*a)):Int).toNat 64)),i64 (a+1)⟩ h (Nat.lt_succ_self _) .q .nil
  ·exact En<|Ln<|Ln<|Lu<|Lp b h (.cons U .nil) .nil
 ·rintro d h
  replace h:=(k d).symm.trans h
  exact B2n U<|El<|oJ h▸Ea results168
def tI(a:List Int):Option (xq×Bool):=
 if decide ((a.length:Int)≠14) then none else chk ((0:Int)<=4/\4<(a.length:Int)) (chk ((0:Int)<=5/\5<(a.length:Int)) (chk ((0:Int)<=0/\(0:Int)<=4/\4<=(a.length:Int)) ((ko (a.take (4:Int).toNat)).bind fun b=>chk ((0:Int)<=6/\(6:Int)<=(a.length:Int)/\(a.length:Int)<=a.length) ((ko (a.drop (6:Int).toNat)).bind fun c=>some ((⟨(⟨i64 (nth a 4),i64 (nth a 5)⟩:xD),u32 b,c⟩:xq),((decide ((i64 (nth a 4))<=1))&&(decide ((i64 (nth a 5))>=1)))&&(decide ((i64 (nth a 5))<=16)))))))
theorem Vf(Z e f a r)(h:tI a=some r){Ek}(hz:PZ [] Ek Z)(d:ZS Z 1 (rq e5) e f a):
  RC 119 #[vs e a.length f] Ek (.tuple #[.agg #[vi r.1.yN.xf,vi r.1.yN.yW,.int .u32 r.1.yY,.int .u64 r.1.xh],.bool r.2]) [] []:=by
 unfold tI at h
 refine L3 func119 U U ?_
 let J:List Value:=[vi 0,vi 0,.int .u32 0,.int .u64 0];refine B0q<|Lh 2 (wn (cs:=J) zh0) ?_
 intro p _
 refine Q1n U<|Lb<|B1q U<|Lf 6 (wB underlying23)<|Q1n U<|Lj h (fun x h=>?_)<|fun x h=>?_
 ·cases h
 ·refine Ec<|Lb<|cK h fun y h=>cK h fun z h=>cK h fun B h=>bK h fun c L h=>cK h fun M h=>bK h fun g N h=>Lv (fun i=>[18].contains i) []<|Lg 0 U q_m<|L8 (j:=1) (dd:=10) (by kernel_rfl) z2W z2X (Z:=Z) (Pr:=(rq e5)) z2j d y ?_
  rintro q X O Y rfl
  refine Li 2 U (w8 m9 U<|vx hz.pv O)<|Lg 3 U (vo underlying5 underlying3)<|Lg 4 U q_m<|L8 (j:=5) (dd:=14) (by kernel_rfl) z2W z2X (Z:=Z) (Pr:=(rq e5)) z2j d z ?_
  rintro s aa P ab rfl
  let F:Value:=(.agg #[vi (i64 (nth a 4)),vi (i64 (nth a 5))]);refine Li 6 U (w8 m9 U<|vx hz.pv P)<|Lg 7 U (vo underlying5 underlying3)<|Lg 8 U (wN (v:=F) (Lt (l:=[.tmp 12,.tmp 16]) (.r2 U U) [0,1]) (fun _=>by kernel_rfl))<|Lg 9 U q_m<|Hl (j:=10) (dd:=19) (by kernel_rfl) U z2W z2X U U (Z:=Z) (Pr:=(rq e5)) z2j U d (fun _=>WE) (fun _=>np) U U B (List.drop_zero).symm ?_
  rintro Q R S
  refine L5 11 U (Eh call168) (cc hz .nil fun w pz ho=>oy _ _ _ _ _ L pz S)<|Lg 12 U (vo underlying24 underlying122)<|Lg 13 U q_m<|Hl (j:=14) (dd:=23) (by kernel_rfl) U z2W z2X U U (Z:=Z) (Pr:=(rq e5)) z2j U d (fun _=>np) (fun _=>WE) U U M (by rw[Int.toNat_natCast,List.take_length]) ?_
  rintro T V W
  let A:Value:=(.agg #[vi (i64 (nth a 4)),vi (i64 (nth a 5)),.int .u32 (u32 c),.int .u64 g]);refine L5 15 U (Eh call168) (cc hz .nil fun w pz ho=>oy _ _ _ _ _ N pz W)<|Lg 16 U (wN (v:=A) (Lt (l:=[.tmp 17,.tmp 21,.tmp 24]) (.r3 U U U) [0,1,2]) (fun _=>by kernel_rfl))<|WD.new (i:=17) (dd:=4) U (by kernel_rfl) U (wn (cs:=J) zh0) (fun h'=>absurd h' (by decide)) ?_
  intro b _
  let C:Value:=(vs e a.length f);let D:Value:=(.bool ((decide ((i64 (nth a 4))<=1))&&(decide ((i64 (nth a 5))>=1))));let E:Value:=(.bool (decide ((i64 (nth a 4))<=1)));let G:Value:=(vs Q ((a.take (4:Int).toNat).length) R);let H:Value:=(vs T ((a.drop (6:Int).toNat).length) V);let I:Value:=(.bool (decide ((a.length:Int)≠14)));let K:Value:=(vi (a.length:Int));refine Nb (i:=18) U (by kernel_rfl) (by kernel_rfl) (wl zdv .here)<|Eo (by kernel_rfl)<|Ld<|Lb<|Lv (fun i=>[17].contains i) [pp b 124 [(1,(vi<|i64<|nth a 5))]]<|Li 0 U (we zfq (wh .here))<|Lg 1 U (w7 mV)<|Lg 2 U (w7 dx)<|Li 3 U (Ei wm .here)<|Lg 4 U (WA U U)<|Lg 5 U q_m<|L9 (fuel':=8) [(0,C),(2,vp p),(3,.bool false),(5,C),(6,K),(7,I),(9,C),(10,vq q),(11,(.int .u8<|nth a 4)),(12,(vi<|i64<|nth a 4)),(13,C),(14,vq s),(15,(.int .u8<|nth a 5)),(16,(vi<|i64<|nth a 5)),(17,F),(18,C),(19,G),(20,.int .u64 c),(21,(.int .u32<|u32 c)),(22,C),(23,H),(24,.int .u64 g),(25,A),(4,vp b),(26,A),(27,vp b),(28,vp b),(29,(vi<|i64<|nth a 4)),(30,E),(31,E),(36,D)] (wR 19 (dn 11)) ?_<|fun t=>?_
  rotate_left
  ·rcases Bool.eq_false_or_eq_true (decide ((i64 (nth a 4))<=1)) with hb' | hb'
   ·have k:=hb';clear hb'
    refine L2 (i:=31) U k<|Lg 6 U (w7 mV)<|Lg 7 U (w7 cw)<|Li 8 U (Ei wm .here)<|Lg 9 U tZ<|Lg 10 U vH<|Lw .a2 ?_ t
    exact(.cons U (.cons U (.cons U (.cons U (.cons U (.cons U (.cons U (.cons U (.cons U (.cons U (.cons U (.cons U (.cons U (.cons U (.cons U (.cons U (.cons U (.cons U (.cons U (.cons U (.cons U (.cons U (.cons U (.cons U (.cons U (.cons U (.cons U (.cons U (.cons U (.cons (zq (Eq.symm k)) (.cons (zq (qe k)) .nil)))))))))))))))))))))))))))))))
   ·have m:=hb';clear hb'
    refine L2 (i:=31) U m<|Lo 6 U<|Lo 7 U<|Lo 8 U<|Lo 9 U<|Lg 10 U vA<|Lw .a2 ?_ t
    exact(.cons U (.cons U (.cons U (.cons U (.cons U (.cons U (.cons U (.cons U (.cons U (.cons U (.cons U (.cons U (.cons U (.cons U (.cons U (.cons U (.cons U (.cons U (.cons U (.cons U (.cons U (.cons U (.cons U (.cons U (.cons U (.cons U (.cons U (.cons U (.cons U (.cons (zq (Eq.symm m)) (.cons (zq (qd m)) .nil)))))))))))))))))))))))))))))))
  refine Lg 11 U q_m<|L9 (fuel':=2) [(0,C),(2,vp p),(3,.bool false),(5,C),(6,K),(7,I),(9,C),(10,vq q),(11,(.int .u8<|nth a 4)),(12,(vi<|i64<|nth a 4)),(13,C),(14,vq s),(15,(.int .u8<|nth a 5)),(16,(vi<|i64<|nth a 5)),(17,F),(18,C),(19,G),(20,.int .u64 c),(21,(.int .u32<|u32 c)),(22,C),(23,H),(24,.int .u64 g),(25,A),(4,vp b),(26,A),(27,vp b),(28,vp b),(29,(vi<|i64<|nth a 4)),(30,E),(31,E),(36,D),(37,D),(42,(.bool<|((decide ((i64<|nth a 4)<=1))&&(decide ((i64<|nth a 5)>=1)))&&(decide ((i64<|nth a 5)<=16))))] (wR 19 (dn 17)) ?_<|fun u=>?_
  rotate_left
  ·rcases Bool.eq_false_or_eq_true ((decide ((i64 (nth a 4))<=1))&&(decide ((i64 (nth a 5))>=1))) with hb' | hb'
   ·have n:=hb';clear hb'
    refine L2 (i:=37) U n<|Lg 12 U (w7 mV)<|Lg 13 U (w7 cw)<|Na 14 U (wS.wk (.cons .here .nil)<|.stb (.cons U .nil) .nil) (w8 wm U<|mF .here<|.head _)<|Lg 15 U (WA U U)<|Lg 16 U vH<|Lw .a2 ?_ u
    exact(.cons U (.cons U (.cons U (.cons U (.cons U (.cons U (.cons U (.cons U (.cons U (.cons U (.cons U (.cons U (.cons U (.cons U (.cons U (.cons U (.cons U (.cons U (.cons U (.cons U (.cons U (.cons U (.cons U (.cons U (.cons U (.cons U (.cons U (.cons U (.cons U (.cons U (.cons U (.cons (zq (Eq.symm n)) (.cons (zq (qe n)) .nil)))))))))))))))))))))))))))))))))
   ·have o:=hb';clear hb'
    refine L2 (i:=37) U o<|Lo 12 U<|Lo 13 U<|Lo 14 U<|Lo 15 U<|Lg 16 U vA<|Lw .a2 ?_ u
    exact(.cons U (.cons U (.cons U (.cons U (.cons U (.cons U (.cons U (.cons U (.cons U (.cons U (.cons U (.cons U (.cons U (.cons U (.cons U (.cons U (.cons U (.cons U (.cons U (.cons U (.cons U (.cons U (.cons U (.cons U (.cons U (.cons U (.cons U (.cons U (.cons U (.cons U (.cons U (.cons (zq (Eq.symm o)) (.cons (zq (qd o)) .nil)))))))))))))))))))))))))))))))))
  exact WD.forced0 (i:=17) U (by kernel_rfl) (wS.wk (.cons .h1 .nil)<|.stb (.cons U .nil) .nil) (wl zdv .h1)<|Lg 18 U q_z<|Eo (by kernel_rfl)<|Ld<|El<|oJ h▸Eb results119 (.agg U zfq U (wh .here)<|.tmp U .nil) .nil
def g9(a:xD):Option Int:=
 some (i64 (2+(i64 (16*a.xf))))
theorem iG(Z a r)(h:g9 a=some r){Ek}(hz:PZ [] Ek Z):
  RC 32 #[.agg #[vi a.xf,vi a.yW]] Ek (vi r) [] []:=by
 unfold g9 at h
 refine L3 func32 U U<|Lb<|Le (Lh 1 (wu (cs:=[vi a.xf,vi a.yW])) fun b _=>Q1n U<|B0q<|Lf 3 (w7 dx)<|Lf 4 (Ei wm .here)<|La U<|La U<|La U<|WL.nil<|Ld<|El ?_)
 exact oJ h▸Ea results32
def jq(a:Int)(b:List Int)(c:Bool):Option (List Int×List Int×Bool):=
 if decide (a>b.length) then chk (0<=a/\(a:Int)<=a/\(a:Int)*1<=140737488355328/\(a:Int)<=4611686018427387904) (some (List.replicate (a:Int).toNat (0:Int),b,true)) else chk ((0:Int)<=0/\(0:Int)<=a/\a<=b.length) (chk (0<=a/\(a:Int)<=b.length/\(b.length:Int)<=b.length) (some (b.take (a:Int).toNat,b.drop (a:Int).toNat,c)))
theorem uf(Z a b c d f g i r)(h:jq f g i=some r){Ek}(hz:Pz [stb a 23 [vs b g.length c],stb d 4 [.bool i]] Ek Z)(j:ZS Z 1 (rq e5) b c g)(iA:Ho Ek [stb a 23 [vs b g.length c],stb d 4 [.bool i]]):
  Calls Tryz.prog 169 #[vi f,vp a,vp d] Ek fun e w'=>∃ Zn:Zp,∃ k:Option Addr,∃ l:Nat,∃ m:Option Addr,∃ n:Nat,e = .returned (vs k r.1.length l)/\((ZS (Z++Zn) 1 (rq e5) k l r.1)/\(ZS (Z++Zn) 1 (rq e5) m n r.2.1))/\Hp (fps [stb a 23 [vs b g.length c],stb d 4 [.bool i]]) Ek w' [fz Zn,stb a 23 [vs m r.2.1.length n],stb d 4 [.bool r.2.2]]:=by
 unfold jq at h
 refine Ey func169 U iA U<|WC.pool<|B1n U<|Lb<|B1q U<|Lf 7 (Ei z56 .h1)<|Lf 8 (wB underlying23)<|Q1n U<|Lj h (fun o h=>?_)<|fun o h=>?_
 ·refine B0q<|Ll (wl WY .h2)<|Q0n<|Lb<|cK h fun p h=>Le<|La U (Lh 11 (eV (r:=[.int .u8 0]) (z0:=(0:Int)) z2j My U U U U p) fun q _=>N5 .here (cs':=(List.replicate (f:Int).toNat (0:Int)).flatMap e5) (XY (enc:=e5) (0:Int) _)<|Q1n U<|El<|L4<|WX.freezeS (ls:=List.replicate (f:Int).toNat (0:Int)) .here .h1 hz (RR.flat (enc:=e5) (fun _=>U) _) ?_)
  intro s t u
  exact oJ h▸Lk results169 (.tmp U .nil) fun w hw=>⟨s,some ⟨q,0,none⟩,(f:Int).toNat,b,c,wx,⟨u,j.mono (zl.trans t)⟩,hw.sub (.s3 .here .h1 .here)⟩
 ·refine Ec<|Lb<|cK h fun v h=>Le<|Lf 12 (Ei z56 .h1)<|La U<|Nn (dd:=14) (Z:=(Z++[])) (Pr:=(rq e5)) z2j U (j.mono<|zl) WE np U U v (List.drop_zero).symm ?_
  rintro x y z
  refine Q1n U<|Lb<|cK h fun A h=>Le<|Lf 15 (Ei z56 .h1)<|La U<|Nn (dd:=17) (Z:=(Z++[])) (Pr:=(rq e5)) z2j U (j.mono<|zl) np WE U U A (by rw[Int.toNat_natCast,List.take_length]) ?_
  rintro B C D
  exact Ll (wl zHZ .h1)<|Q0n<|B2n U<|El<|oJ h▸Lk results169 (.tmp U .nil) fun w hw=>⟨[],x,y,B,C,wx,⟨z,D⟩,hw.sub (.s3 .h1 .here .here)⟩
def bE(zgH:List Int):Option Unit:=
 chk (((([]:List Int)++zgH).length:Int)*1<=140737488355328/\((([]:List Int)++zgH).length:Int)<=4611686018427387904) (some ())
theorem QM(Z zXA zXB zgH r)(h:bE zgH=some r)(Ek)(hz:PZ [] Ek Z)(c:ZS Z 1 (rq e5) (some zXA) zXB zgH):
  Calls Tryz.prog 33 #[vs (some zXA) zgH.length zXB] Ek fun e w'=>∃ a:Option Addr,∃ b:Nat,e = .returned (vs a ((([]:List Int)++zgH).length) b)/\True/\Hp [] Ek w' [row (vs a ((([]:List Int)++zgH).length) b) 5 1 ((([]:List Int)++zgH).flatMap e5)]:=by
 unfold bE at h
 refine L3 func33 U U<|B1n U<|Lb<|B1q U<|Lf 4 (Xm underlying23 U U)<|Q0n<|Er (fun h'=>(by cases h'))<|fun h'=>?_
 clear h'
 refine Ec<|Lb<|cK h fun d h=>Le (Lh 5 (wD (cs:=([]:List Int).flatMap e5) z2j (Lt (l:=[]) .nil []) (fun _=>by kernel_rfl) (by unfold maxLen;omega)) fun i _=>La U<|WL.fA 7 (vb (enc:=e5) (l1:=([]:List Int)) (l2:=zgH) z2j .here (fun _=>U) (da hz.pv c) (vm tk _) d) ?_)
 rintro⟨f,g⟩ _
 refine Q1n U<|El ?_
 skip
 exact Lk results33 (.tmp U .nil)<|fun w hw=>⟨f,g,wx,trivial,hw.sub (.cons .here .nil)⟩
def ad  : Option Unit:=
 some ()
theorem VZ(Z z1bb r)(h:ad=some r)(Ek)(hz:PZ [] Ek Z):
  RC 33 #[vs none 0 z1bb] Ek vn [] []:=by
 unfold ad at h
 refine L3 func33 U U<|B1n U<|Lb<|B1q U<|Lf 4 (Xm underlying23 U U)<|Q0n<|Er (fun h'=>?_)<|fun h'=>(by cases h')
 clear h'
 refine B1n U<|El<|L4 ?_
 skip
 exact Lk results33 (.tmp U .nil)<|fun w hw=>⟨wx,hw.sub .nil⟩
def sL(l:List Int):Option (List Int):=chk (((l).length:Int)*1<=140737488355328/\((l).length:Int)<=4611686018427387904) (some l)
theorem ae(Z ao cap l r){Ek}(hz:PZ [] Ek Z)(hs:ZS Z 1 (rq e5) ao cap l)(h:sL l=some r):Calls Tryz.prog 33 #[.slice ao l.length cap] Ek fun e w'=>∃ Bd:Option Addr,∃ zy:Nat,e = .returned (vs Bd r.length zy)/\True/\Hp [] Ek w' [row (vs Bd r.length zy) 5 1 (r.flatMap e5)]:=by
 obtain⟨h0,h⟩:=wa h
 obtain rfl:=oJ h
 cases ao with
 | none=>
  obtain rfl:=hs.noneNil
  refine Calls.mono (VZ (z1bb:=cap) (Z:=Z) (r:=()) (Ek:=Ek) U hz) ?_
  rintro e w' ⟨rfl,hh⟩
  exact⟨none,0,U,trivial,hh.nilRow 5 1⟩
 | some A=>
  refine QM (zXA:=A) (zXB:=cap) (zgH:=l) (r:=()) (Z:=Z) (Ek:=Ek) ?_ hz hs
  unfold bE
  simp only[List.nil_append]
  exact if_pos h0
def jO(b:Int)(c:List Int)(d:Int->Option Int):Nat->Int->Int->Option Int
 | 0,_,_=>none
 | f+1,e,a=>if decide (a<8) then chk (0<=(i64 ((i64 (2+(i64 (8*b))))+a))/\(i64 ((i64 (2+(i64 (8*b))))+a))<c.length) (chk (0<=(i64 (8*a))) (jO b c d f (bits .or .u64 e (u64 ((u64 (nth c (i64 ((i64 (2+(i64 (8*b))))+a))))*2 ^ min ((i64 (8*a)):Int).toNat 64))) (i64 (a+1)))) else d e
def fu(a:Int)(b:List Int):Option Int:=
 vC (fun(c:Int)=>some c) fun d=>jO a b d wr 0 0
theorem eP(Z g i j d e r)(h:fu d e=some r){Ek}(hz:PZ [] Ek Z)(l:ZS Z 1 (rq e5) i j e)(m:ZC Z g [vs i e.length j]):
  RC 209 #[vi d,vq g] Ek (.int .u64 r) [] []:=by
 unfold fu at h
 refine Lz func209 U U<|B1n U<|B1n U<|jK1 h fun k n h=>Nd (fun c=>(k c=some r)) (fun c=>[(4,.int .u64 c)]) (fun c=>[]) ?_ ?_
 ·refine B1n U<|WC.block<|E4 (fun f b a=>(jO d e k f b a=some r)) (fun f b a=>[(0,vi d),(1,vq g),(4,.int .u64 b),(6,vi a)]) (fun f b a=>[]) (fun f b a=>f) ⟨wr,0,0⟩ h .q .nil ?_
  rintro(_|t) b a h;·cases h
  rw[jO] at h
  refine B1n U<|Lb<|Lj h (fun o h=>?_)<|fun o h=>?_
  ·refine Ec<|Lb<|WC.block<|B2n U<|cK h fun p h=>cK h fun q h=>D1q U<|Lf 10 (w8 z56 U<|vx hz.pv m)<|La U<|La U<|La U<|La U<|La U<|L0 (dd:=16) (Z:=Z) (Pr:=(rq e5)) z2j l p ?_
   rintro u v s x rfl
   exact Lf 17 (w8 m9 U<|vx hz.pv s)<|Lf 18 (vo underlying5 underlying24)<|Q2q U<|Lf 21 (cN q)<|Lf 22 VF<|La U<|WL.nil<|Lq<|Ld<|D2q U<|WL.nil<|Em ⟨t,(bits .or .u64 b<|u64 ((u64<|nth e<|i64 ((i64 (2+(i64 (8*d))))+a))*2 ^ min ((i64 (8*a)):Int).toNat 64)),i64 (a+1)⟩ h (Nat.lt_succ_self _) .q .nil
  ·exact En<|Ln<|Ln<|Lu<|Lp b h (.cons U .nil) .nil
 ·rintro c h
  replace h:=(n c).symm.trans h
  exact B2n U<|El<|oJ h▸Ea results209
def gT(b:List Int)(e:(List Int)->Option yC):Nat->Int->(List Int)->Option yC
 | 0,_,_=>none
 | f+1,c,a=>if decide (c<(i64 (nth b 1))) then(fu (i64 (18+c)) b).bind fun d=>chk (((a++([d]:List Int)).length:Int)*8<=140737488355328/\((a++([d]:List Int)).length:Int)<=4611686018427387904) (gT b e f (i64 (c+1)) (a++([d]:List Int))) else e a
def rB(a:List Int):Option yC:=
 (if decide ((a.length:Int)<2) then some true else chk ((0:Int)<=1/\1<(a.length:Int)) (chk ((0:Int)<=0/\0<(a.length:Int)) ((ki (i64 (nth a 1)) (i64 (nth a 0))).bind fun c=>some (!c)))).bind fun b=>chk (b=false->((0:Int)<=1/\1<(a.length:Int))) (if b||(decide ((a.length:Int)≠(i64 (2+(i64 (8*(i64 (18+(i64 (nth a 1)))))))))) then none else chk ((0:Int)<=0/\0<(a.length:Int)) ((fW (fun(y0:Int)=>fu y0 a)).bind fun d=>vC (fun(e:List Int)=>some (⟨i64 (nth a 0),d,e⟩:yC)) fun f=>chk ((0:Int)<=1/\1<(a.length:Int)) (gT a f wr 0 ([]:List Int))))
theorem QN(Z B D b r)(h:rB b=some r){Ek}(hz:PZ [] Ek Z)(g:ZS Z 1 (rq e5) B D b):
  Calls Tryz.prog 170 #[vs B b.length D] Ek fun e w'=>∃ I:Option Addr,∃ J:Nat,e = .returned (.tuple #[.agg #[vi r.yK,.int .u64 r.y4.a0,.int .u64 r.y4.a1,.int .u64 r.y4.a2,.int .u64 r.y4.a3,.int .u64 r.y4.a4,.int .u64 r.y4.a5,.int .u64 r.y4.a6,.int .u64 r.y4.a7,.int .u64 r.y4.a8,.int .u64 r.y4.a9,.int .u64 r.y4.a10,.int .u64 r.y4.a11,.int .u64 r.y4.a12,.int .u64 r.y4.a13,.int .u64 r.y4.a14,.int .u64 r.y4.a15,.int .u64 r.y4.a16,.int .u64 r.y4.a17,vs I r.yr.length J],vi 0])/\True/\Hp [] Ek w' [row (vs I r.yr.length J) 24 1 (r.yr.flatMap vK)]:=by
 unfold rB at h
 refine L3 func170 U U ?_
 let C:Value:=(vs B b.length D);refine B0q<|Lh 1 (wu (cs:=[C])) ?_
 intro s _
 let A:List Value:=[vi 0,.int .u64 0,.int .u64 0,.int .u64 0,.int .u64 0,.int .u64 0,.int .u64 0,.int .u64 0,.int .u64 0,.int .u64 0,.int .u64 0,.int .u64 0,.int .u64 0,.int .u64 0,.int .u64 0,.int .u64 0,.int .u64 0,.int .u64 0,.int .u64 0,vn];refine Lh 2 (wn (cs:=A) zvC) ?_
 intro o _
 refine Q1n U<|Lb<|Lb<|bK h fun u K h=>cK h fun Q h=>Lv nc []<|Li 0 U (Ei z56 .h1)<|Lg 1 U (wB underlying23)<|Lg 2 U oW<|Lg 3 U q_m<|L9 (fuel':=12) [(1,vp s),(2,vp o),(10,(.bool<|decide ((b.length:Int)<2))),(21,.bool u)] (wR 27 (dn 15)) ?_<|fun L=>?_
 rotate_left
 ·rcases Bool.eq_false_or_eq_true (decide ((b.length:Int)<2)) with hb' | hb'
  ·have E:=hb';clear hb'
   have F:=qf K E
   replace F:=oJ F
   refine L2 (i:=10) U E<|Lo 4 U<|Lo 5 U<|Lo 6 U<|Lo 7 U<|Lo 8 U<|Lo 9 U<|Lo 10 U<|Lo 11 U<|Lo 12 U<|Lo 13 U<|Lg 14 U vH<|Lw .a2 ?_ L
   exact .r4 U U (zq<|Eq.symm E)<|zq F
  ·have G:=hb';clear hb'
   have d:=qg K G
   obtain⟨R,d⟩:=wa d
   obtain⟨S,d⟩:=wa d
   obtain⟨am,T,d⟩:=z2 d
   replace d:=oJ d
   refine L2 (i:=10) U G<|Li 4 U (Ei z56 .h1)<|L8 (j:=5) (dd:=12) (by kernel_rfl) z2W z2X (Z:=Z) (Pr:=(rq e5)) z2j g R ?_
   rintro an ao V ap rfl
   refine Li 6 U (w8 m9 U<|vx hz.pv V)<|Lg 7 U (vo underlying5 underlying3)<|Li 8 U (Ei z56 .h1)<|L8 (j:=9) (dd:=16) (by kernel_rfl) z2W z2X (Z:=Z) (Pr:=(rq e5)) z2j g S ?_
   rintro aq ar W au rfl
   refine Li 10 U (w8 m9 U<|vx hz.pv W)<|Lg 11 U (vo underlying5 underlying3)<|L5 12 U (Eh call20) (cc hz .nil fun w pz ho=>pO _ _ _ _ T pz )<|Lg 13 U th<|Lg 14 U vA<|Lw .a2 ?_ L
   exact .r4 U U (zq<|Eq.symm G)<|zq d
 refine WD.d (bz 15 12) (by kernel_rfl)<|Lg 15 U q_m<|L9 (fuel':=0) [(1,vp s),(2,vp o),(22,.bool u),(33,.bool (u||(decide ((b.length:Int)≠(i64 (2+(i64 (8*(i64 (18+(i64<|nth b 1)))))))))))] (wR 27 (dn 27)) ?_<|fun M=>?_
 rotate_left
 ·rcases Bool.eq_false_or_eq_true u with hb' | hb'
  ·have H:=hb';clear hb'
   refine L2 (i:=22) U H<|Lo 16 U<|Lo 17 U<|Lo 18 U<|Lo 19 U<|Lo 20 U<|Lo 21 U<|Lo 22 U<|Lo 23 U<|Lo 24 U<|Lo 25 U<|Lg 26 U vH<|Lw .a2 ?_ M
   exact .r4 U U (zq<|Eq.symm H)<|zq<|jB H
  ·have x:=hb';clear hb'
   have X:=Q x
   refine L2 (i:=22) U x<|Li 16 U (Ei z56 .h1)<|Lg 17 U (wB underlying23)<|Li 18 U (Ei z56 .h1)<|L8 (j:=19) (dd:=26) (by kernel_rfl) z2W z2X (Z:=Z) (Pr:=(rq e5)) z2j g X ?_
   rintro av aw Y ax rfl
   refine Li 20 U (w8 m9 U<|vx hz.pv Y)<|Lg 21 U (vo underlying5 underlying3)<|Lg 22 U fb<|Lg 23 U uM<|Lg 24 U fb<|Lg 25 U kj<|Lg 26 U vA<|Lw .a2 ?_ M
   exact .r4 U U (zq<|Eq.symm x)<|zq<|jC x
 refine WD.d (bz 27 0) (by kernel_rfl)<|Eo (by kernel_rfl)<|Ld<|Lj h (fun aa h=>?_)<|fun aa h=>?_
 ·cases h
 ·refine Ec<|Lb<|cK h fun ab h=>Le<|Lf 35 (Ei z56 .h1)<|L0 (dd:=36) (Z:=Z) (Pr:=(rq e5)) z2j g ab ?_
  rintro ay az ad aA rfl
  refine Lf 37 (w8 m9 U<|vx hz.pv ad)<|Lf 38 (vo underlying5 underlying3)<|Lf 39 (wN (v:=(.agg #[(vi<|i64<|nth b 0),.int .u64 0,.int .u64 0,.int .u64 0,.int .u64 0,.int .u64 0,.int .u64 0,.int .u64 0,.int .u64 0,.int .u64 0,.int .u64 0,.int .u64 0,.int .u64 0,.int .u64 0,.int .u64 0,.int .u64 0,.int .u64 0,.int .u64 0,.int .u64 0,vn])) (Lt (l:=[.tmp 38]) (.cons U .nil) [0]) (fun _=>by kernel_rfl)) (Lh 4 (wn (cs:=A) zvC) fun y _=>Ll (wl zk4 .here)<|Q0n<|B0q<|Lf 40 (wO<|L6 (l:=[.tmp 1])<|.cons U .nil)<|Q1n U<|Lb ?_)
  refine bK h fun a ae h=>D1q U<|Lm 42 (Eh call62) .nil (kb hz .nil (.cons .h2 .nil) fun w pz ho la=>l0 _ (zj9:=209) (zr2:=[vp s]) (zdh:=(fun(y0:Int)=>fu y0 b)) _ ae pz call209<|fun w' nd y0  r  hr=>eP _ _ _ _ _ _ _ hr nd (g.mono<|zl)<|(la _ (.head _) _).stb)<|Lf 43 (w7 Xt)<|Ll (vg (ds:=[(vi<|i64<|nth b 0),.int .u64 a.a0,.int .u64 a.a1,.int .u64 a.a2,.int .u64 a.a3,.int .u64 a.a4,.int .u64 a.a5,.int .u64 a.a6,.int .u64 a.a7,.int .u64 a.a8,.int .u64 a.a9,.int .u64 a.a10,.int .u64 a.a11,.int .u64 a.a12,.int .u64 a.a13,.int .u64 a.a14,.int .u64 a.a15,.int .u64 a.a16,.int .u64 a.a17,vn]) zO1 .here)<|Q0n<|jK1 h fun P af h=>Nf (fun f p q=>(P f=some r)) (fun f p q=>[(2,vp o),(4,vp y)]) (fun f p q=>[stb o 40 A,stb y 40 [(vi<|i64<|nth b 0),.int .u64 a.a0,.int .u64 a.a1,.int .u64 a.a2,.int .u64 a.a3,.int .u64 a.a4,.int .u64 a.a5,.int .u64 a.a6,.int .u64 a.a7,.int .u64 a.a8,.int .u64 a.a9,.int .u64 a.a10,.int .u64 a.a11,.int .u64 a.a12,.int .u64 a.a13,.int .u64 a.a14,.int .u64 a.a15,.int .u64 a.a16,.int .u64 a.a17,vs p f.length q],row (vs p f.length q) 24 1 (f.flatMap vK)]) ?_ ?_
  ·refine Lb<|cK h fun ag h=>Le<|Lf 44 (Ei z56 .h2)<|L0 (dd:=45) (Z:=Z) (Pr:=(rq e5)) z2j g ag ?_
   rintro aB aC ah aD rfl
   refine Lf 46 (w8 m9 U<|vx hz.pv ah)<|Lf 47 (vo underlying5 underlying3)<|Q1n U<|WC.block<|WC.nilRow 24 1<|E6 (fun t k c m n=>(gT b P t k c=some r)) (fun t k c m n=>[(2,vp o),(4,vp y),(5,.func (.func 209) #[] #[vp s]),(47,(vi<|i64<|nth b 1)),(48,vi k)]) (fun t k c m n=>[stb o 40 A,stb y 40 [(vi<|i64<|nth b 0),.int .u64 a.a0,.int .u64 a.a1,.int .u64 a.a2,.int .u64 a.a3,.int .u64 a.a4,.int .u64 a.a5,.int .u64 a.a6,.int .u64 a.a7,.int .u64 a.a8,.int .u64 a.a9,.int .u64 a.a10,.int .u64 a.a11,.int .u64 a.a12,.int .u64 a.a13,.int .u64 a.a14,.int .u64 a.a15,.int .u64 a.a16,.int .u64 a.a17,vs m c.length n],row (vs m c.length n) 24 1 (c.flatMap vK),stb s 23 [C]]) (fun t k c m n=>t) ⟨wr,0,([]:List Int),none,0⟩ h .q (.s4 .h2 .h1 .here .here) ?_
   rintro(_|al) k c m n h;·cases h
   rw[gT] at h
   refine B1n U<|Lb<|Lj h (fun ai h=>?_)<|fun ai h=>?_
   ·refine Ec<|Lb<|WC.block<|B2n U<|bK h fun z aj h=>cK h fun ak h=>Lv (fun i=>[7,9].contains i) []<|Lg 0 U (w7 lH)<|Li 1 U (Ei zvD .h1)<|Lg 2 U q_m<|Lg 3 U q_m<|Lg 4 U fb<|L5 5 U (wV (l:=[.tmp 55]) call209<|.cons U .nil) (kb hz .nil (.cons .h3 .nil) fun w pz ho la=>eP _ _ _ _ _ _ _ aj pz (g.mono<|zl)<|(la _ (.head _) _).stb) (WD.new (i:=6) (dd:=57) U (by kernel_rfl) U (wD (cs:=([z]:List Int).flatMap vK) zcJ (Lt (l:=[.tmp 56]) (.cons U .nil) [0]) (fun _=>by kernel_rfl) (by unfold maxLen;omega)) (fun h'=>absurd h' (by decide)) fun aE _=>WD.old (i:=7) (dd:=58) U (by kernel_rfl) U (fun _=>(wS.of .nil)) (vb (enc:=vK) (l1:=c) (l2:=([z]:List Int)) zcJ .h3 (fun _=>U) (wY .here) (vm GH _) ak) ?_)
    rintro⟨N,O⟩ _
    exact Lg 8 U (w7 lH)<|Nb (i:=9) U (by kernel_rfl) (by kernel_rfl) (vg (ds:=[(vi<|i64<|nth b 0),.int .u64 a.a0,.int .u64 a.a1,.int .u64 a.a2,.int .u64 a.a3,.int .u64 a.a4,.int .u64 a.a5,.int .u64 a.a6,.int .u64 a.a7,.int .u64 a.a8,.int .u64 a.a9,.int .u64 a.a10,.int .u64 a.a11,.int .u64 a.a12,.int .u64 a.a13,.int .u64 a.a14,.int .u64 a.a15,.int .u64 a.a16,.int .u64 a.a17,vs N ((c++([z]:List Int)).length) O]) zZA .h3)<|Eo (by kernel_rfl)<|Lq<|Ld<|D2q U<|WL.nil<|Em ⟨al,i64 (k+1),c++([z]:List Int),N,O⟩ h (Nat.lt_succ_self _) .q<|.s4 .h3 .here .here .h1
   ·exact En<|Ln<|Ln<|Lu<|Lp ⟨c,m,n⟩ h .q<|.a3
  ·rintro f p q h
   replace h:=(af f).symm.trans h
   exact B0q<|Lf 61 (we zk5 (wh .h1))<|Ll (wl zk4 .here)<|Q1n U<|El<|oJ h▸Lk results170 (.agg U zk5 U (wh .here)<|.tmp U .nil) fun w hw=>⟨p,q,qq,trivial,hw.sub (.cons .h2 .nil)⟩
def mP(k:List Int):Option yz:=
 (jq 1 k false).bind fun a=>chk ((0:Int)<=0/\0<(a.1.length:Int)) ((jq (i64 (nth a.1 0)) a.2.1 a.2.2).bind fun b=>(jq 4 b.2.1 b.2.2).bind fun c=>(ko c.1).bind fun f=>(jq 2 c.2.1 c.2.2).bind fun d=>(ko d.1).bind fun i=>(jq (i64 i) d.2.1 d.2.2).bind fun e=>(sL e.1).bind fun g=>(rB e.2.1).bind fun h=>(if e.2.2 then some true else(g8 (⟨px b.1,i64 f,g,h⟩:yz)).bind fun j=>some (!j)).bind fun l=>if l then none else some (⟨px b.1,i64 f,g,h⟩:yz))
theorem Vg(Z g i d r)(h:mP d=some r){Ek}(hz:PZ [] Ek Z)(y:ZS Z 1 (rq e5) g i d):
  Calls Tryz.prog 120 #[vs g d.length i] Ek fun e w'=>∃ j:Option Addr,∃ k:Nat,∃ m:Option Addr,∃ n:Nat,e = .returned (.tuple #[.agg #[.string r.yl,vi r.yd,vs j r.yx.length k,vi r.y5.yK,.int .u64 r.y5.y4.a0,.int .u64 r.y5.y4.a1,.int .u64 r.y5.y4.a2,.int .u64 r.y5.y4.a3,.int .u64 r.y5.y4.a4,.int .u64 r.y5.y4.a5,.int .u64 r.y5.y4.a6,.int .u64 r.y5.y4.a7,.int .u64 r.y5.y4.a8,.int .u64 r.y5.y4.a9,.int .u64 r.y5.y4.a10,.int .u64 r.y5.y4.a11,.int .u64 r.y5.y4.a12,.int .u64 r.y5.y4.a13,.int .u64 r.y5.y4.a14,.int .u64 r.y5.y4.a15,.int .u64 r.y5.y4.a16,.int .u64 r.y5.y4.a17,vs m r.y5.yr.length n],vi 0])/\True/\Hp [] Ek w' [row (vs j r.yx.length k) 5 1 (r.yx.flatMap e5),row (vs m r.y5.yr.length n) 24 1 (r.y5.yr.flatMap vK)]:=by
 unfold mP at h
 refine L3 func120 U U ?_
 let A:List Value:=[.string ⟨#[]⟩,vi 0,vn,vi 0,.int .u64 0,.int .u64 0,.int .u64 0,.int .u64 0,.int .u64 0,.int .u64 0,.int .u64 0,.int .u64 0,.int .u64 0,.int .u64 0,.int .u64 0,.int .u64 0,.int .u64 0,.int .u64 0,.int .u64 0,.int .u64 0,.int .u64 0,.int .u64 0,vn];refine WC.pool<|B0q<|Lh 2 (wn (cs:=A) z8p) ?_
 intro aj _
 refine Q1n U<|B0q<|La U (Lh 4 (wn (cs:=[vn]) z1ex) fun ak _=>Lh 5 (wn (cs:=[.bool false]) Kn) fun al _=>Ll (wl zHZ .h1)<|Ll (wl WY .h1)<|Q0n<|B0q<|Lf 11 (wO<|L6 (l:=[.tmp 4,.tmp 5])<|.r2 U U)<|Q1n U<|Lb<|Le (Lh 7 (wn (cs:=A) z8p) fun am _=>Q0n<|Lb ?_))
 refine bK h fun aS z h=>cK h fun D h=>bK h fun b E h=>D2q U<|He (dd:=14) U (wV (l:=[.const (vi 1)]) call169<|.cons U .nil) (.s2 .h2 .h1) (qB hz (.s2 .h2 .h1) .h2 fun w pz ho=>uf _ _ _ _ _ _ _ _ _ z pz (y.mono<|zl) ho) ?_
 rintro F an ap aq ar ⟨G,H⟩
 refine WL.merge .here .h4<|L0 (dd:=15) (Z:=(Z++([]++F))) (Pr:=(rq e5)) z2j (G.mono<|wg.wG _ _ _) D ?_
 rintro au av I aw rfl
 refine Lf 16 (w8 m9 U<|vx (hz.pv2 .here) I)<|Lf 17 (vo underlying5 underlying3)<|He (dd:=18) U (wV (l:=[.tmp 17]) call169<|.cons U .nil) (.s2 .h1 .h1) (qB hz (.s2 .h1 .h1) .here fun w pz ho=>uf _ _ _ _ _ _ _ _ _ E pz (H.mono<|wg.wG _ _ _) ho) ?_
 rintro ax ay az aA aB ⟨J,K⟩
 refine WL.merge .here .h2<|Lf 19 (VG (q:=b.1) (enc:=e5) underlying23 underlying5 underlying9 U (fun _=>U)<|da (hz.pv2 .here)<|J.mono<|wg.wG _ _ _)<|Lf 20 (w7 bW)<|Ll (vg (ds:=[(.string<|px b.1),vi 0,vn,vi 0,.int .u64 0,.int .u64 0,.int .u64 0,.int .u64 0,.int .u64 0,.int .u64 0,.int .u64 0,.int .u64 0,.int .u64 0,.int .u64 0,.int .u64 0,.int .u64 0,.int .u64 0,.int .u64 0,.int .u64 0,.int .u64 0,.int .u64 0,.int .u64 0,vn]) MY .h3)<|Q0n<|Lb<|bK h fun aT L h=>bK h fun f M h=>D1q U<|He (dd:=22) U (wV (l:=[.const (vi 4)]) call169<|.cons U .nil) (.s2 .h2 .h2) (qB hz (.s2 .h2 .h2) .h1 fun w pz ho=>uf _ _ _ _ _ _ _ _ _ L pz (K.mono<|wg.wG _ _ _) ho) ?_
 rintro aC aD aE aF aG ⟨N,O⟩
 refine WL.merge .here .h3<|Lm 23 (Eh call168) .nil (qB hz .nil .here fun w pz ho=>oy _ _ _ _ _ M pz<|N.mono<|wg.wG _ _ _)<|Lf 24 (vo underlying24 underlying3)<|Lf 25 (w7 pX)<|Ll (vg (ds:=[(.string<|px b.1),(vi<|i64 f),vn,vi 0,.int .u64 0,.int .u64 0,.int .u64 0,.int .u64 0,.int .u64 0,.int .u64 0,.int .u64 0,.int .u64 0,.int .u64 0,.int .u64 0,.int .u64 0,.int .u64 0,.int .u64 0,.int .u64 0,.int .u64 0,.int .u64 0,.int .u64 0,.int .u64 0,vn]) jM .h3)<|Q0n<|Lb<|bK h fun aU P h=>bK h fun aH Q h=>bK h fun t R h=>bK h fun u S h=>D2q U<|He (dd:=28) U (wV (l:=[.const (vi 2)]) call169<|.cons U .nil) (.s2 .h2 .h2) (qB hz (.s2 .h2 .h2) .h1 fun w pz ho=>uf _ _ _ _ _ _ _ _ _ P pz (O.mono<|wg.wG _ _ _) ho) ?_
 rintro aI aJ aK aL aM ⟨T,V⟩
 refine WL.merge .here .h3<|Lm 29 (Eh call168) .nil (qB hz .nil .here fun w pz ho=>oy _ _ _ _ _ Q pz<|T.mono<|wg.wG _ _ _)<|Lf 30 (vo underlying24 underlying3)<|He (dd:=31) U (wV (l:=[.tmp 30]) call169<|.cons U .nil) (.s2 .h1 .h1) (qB hz (.s2 .h1 .h1) .here fun w pz ho=>uf _ _ _ _ _ _ _ _ _ R pz (V.mono<|wg.wG _ _ _) ho) ?_
 rintro aN W X aO aP ⟨Y,aa⟩
 refine WL.merge .here .h2<|L7 (dd:=32) U (Eh call33) .nil (qB hz .nil .here fun w pz ho=>ae (Z:=_) (ao:=W) (cap:=X) (l:=t.1) (r:=u) pz (Y.mono<|wg.wG _ _ _) S) ?_
 rintro v x _
 let C:Value:=(vs v u.length x);refine Lf 33 (w7 Xv)<|Ll (vg (ds:=[(.string<|px b.1),(vi<|i64 f),C,vi 0,.int .u64 0,.int .u64 0,.int .u64 0,.int .u64 0,.int .u64 0,.int .u64 0,.int .u64 0,.int .u64 0,.int .u64 0,.int .u64 0,.int .u64 0,.int .u64 0,.int .u64 0,.int .u64 0,.int .u64 0,.int .u64 0,.int .u64 0,.int .u64 0,vn]) zHZ .h4)<|Q0n<|Lb ?_
 refine bK h fun a ab h=>Le<|Lf 35 (Ei z56 .h3)<|L7 (dd:=36) U (Eh call170) .nil (qB hz .nil .h2 fun w pz ho=>QN _ _ _ _ _ ab pz<|aa.mono<|wg.wG _ _ _) ?_
 rintro o p _
 refine Q2q U<|La U (Lh 8 (wn (cs:=[vi 0,.int .u64 0,.int .u64 0,.int .u64 0,.int .u64 0,.int .u64 0,.int .u64 0,.int .u64 0,.int .u64 0,.int .u64 0,.int .u64 0,.int .u64 0,.int .u64 0,.int .u64 0,.int .u64 0,.int .u64 0,.int .u64 0,.int .u64 0,.int .u64 0,vn]) zvC) fun aQ _=>Ll (wl zk4 .here)<|Q1n U<|B0q<|Lf 39 (we zk5 (wh .here))<|Lf 40 (w7 bV)<|Ll (vg (ds:=[(.string<|px b.1),(vi<|i64 f),C,vi a.yK,.int .u64 a.y4.a0,.int .u64 a.y4.a1,.int .u64 a.y4.a2,.int .u64 a.y4.a3,.int .u64 a.y4.a4,.int .u64 a.y4.a5,.int .u64 a.y4.a6,.int .u64 a.y4.a7,.int .u64 a.y4.a8,.int .u64 a.y4.a9,.int .u64 a.y4.a10,.int .u64 a.y4.a11,.int .u64 a.y4.a12,.int .u64 a.y4.a13,.int .u64 a.y4.a14,.int .u64 a.y4.a15,.int .u64 a.y4.a16,.int .u64 a.y4.a17,vs o a.yr.length p]) zk4 .h2)<|Q0n<|Lb<|Lb ?_)
 refine bK h fun ai s h=>Le<|Lf 41 (Ei YZ .h6)<|La U<|Lx false 2 42 (B:=t.2.2) (fun h=>h) (fun _ ad=>?_) ?_
 ·exact La U<|Lf 44 kj<|La U<|Ly (Eq.symm ad) U .all
 refine La U<|Lx false 3 46 (B:=ai) (fun h=>(oJ<|qf s h).symm) (fun _ af=>?_) ?_
 ·have c:=qg s af
  obtain⟨aR,ag,c⟩:=z2 c
  replace c:=oJ c
  exact Lf 47 (we z4P (wh .here))<|Lm 48 (Eh call26) .nil (uT hz .nil .h4 (.s2 .h3 .h2) fun w pz ho la=>ox _ _ _ _ _ _ _ ag pz (ZA.row (la _ (.head _) _) (RR.flat (enc:=e5) (fun _=>U) _) ⟨w,pz.1⟩)<|ZA.row (la _ (.tail _<|.head _) _) (RR.flat (enc:=vK) (fun _=>U) _) ⟨w,pz.1⟩)<|Q2q U<|Ly c U .all
 refine Q0n<|Lj h (fun ah h=>?_)<|fun ah h=>?_
 ·cases h
 ·exact Ec<|B0q<|Lf 52 (we z4P (wh .here))<|Ll (wl z8q .h7)<|Q1n U<|El<|oJ h▸Lk results120 (.agg U z4P U (wh .here)<|.tmp U .nil) fun w hw=>⟨v,x,o,p,qq,trivial,hw.sub (.s2 .h4 .h3)⟩
def qh(c:xq×Bool)(e:xe)(f:(List Int)->Option (xq×yz×Bool)):Nat->(List Int)->Int->Option (xq×yz×Bool)
 | 0,_,_=>none
 | h+1,a,d=>if decide (d<c.1.yN.yW) then(g9 c.1.yN).bind fun g=>(fr e.xC (i64 (g+d))).bind fun b=>if decide (b.2≠0) then none else chk (((a++b.1).length:Int)*1<=140737488355328/\((a++b.1).length:Int)<=4611686018427387904) (qh c e f h (a++b.1) (i64 (d+1))) else f a
def ja(a:xe)(g:Int):Option (xq×yz×Bool):=
 (fr a.xC g).bind fun c=>if decide (c.2≠0) then some ((⟨(⟨0,0⟩:xD),0,0⟩:xq),(⟨⟨#[]⟩,0,([]:List Int),(⟨0,(⟨0,0,0,0,0,0,0,0,0,0,0,0,0,0,0,0,0,0⟩:xj),([]:List Int)⟩:yC)⟩:yz),false) else(tI c.1).bind fun b=>if !b.2 then none else vC (fun(d:List Int)=>(mP d).bind fun e=>(g4 d).bind fun h=>(if decide (h=b.1.xh) then(gS e a.xy a.fH).bind fun f=>some f else some false).bind fun i=>some (b.1,e,i)) fun j=>qh b a j wr ([]:List Int) 0
theorem iH(Z y z c W r)(h:ja c W=some r){Ek}(hz:PZ [] Ek Z)(N:ZS Z 1 (ff Z) y z c.xC.yf):
  Calls Tryz.prog 70 #[.agg #[vs y c.xC.yf.length z,.int .u64 c.xy,vi c.fH],vi W] Ek fun e w'=>∃ O:Option Addr,∃ P:Nat,∃ Q:Option Addr,∃ R:Nat,e = .returned (.tuple #[.agg #[vi r.1.yN.xf,vi r.1.yN.yW,.int .u32 r.1.yY,.int .u64 r.1.xh],.agg #[.string r.2.1.yl,vi r.2.1.yd,vs O r.2.1.yx.length P,vi r.2.1.y5.yK,.int .u64 r.2.1.y5.y4.a0,.int .u64 r.2.1.y5.y4.a1,.int .u64 r.2.1.y5.y4.a2,.int .u64 r.2.1.y5.y4.a3,.int .u64 r.2.1.y5.y4.a4,.int .u64 r.2.1.y5.y4.a5,.int .u64 r.2.1.y5.y4.a6,.int .u64 r.2.1.y5.y4.a7,.int .u64 r.2.1.y5.y4.a8,.int .u64 r.2.1.y5.y4.a9,.int .u64 r.2.1.y5.y4.a10,.int .u64 r.2.1.y5.y4.a11,.int .u64 r.2.1.y5.y4.a12,.int .u64 r.2.1.y5.y4.a13,.int .u64 r.2.1.y5.y4.a14,.int .u64 r.2.1.y5.y4.a15,.int .u64 r.2.1.y5.y4.a16,.int .u64 r.2.1.y5.y4.a17,vs Q r.2.1.y5.yr.length R],.bool r.2.2])/\True/\Hp [] Ek w' [row (vs O r.2.1.yx.length P) 5 1 (r.2.1.yx.flatMap e5),row (vs Q r.2.1.y5.yr.length R) 24 1 (r.2.1.y5.yr.flatMap vK)]:=by
 unfold ja at h
 refine Lz func70 U U ?_
 let D:Value:=(vs y c.xC.yf.length z);refine B0q<|Lh 2 (wu (cs:=[D,.int .u64 c.xy,vi c.fH])) ?_
 intro p _
 let E:List Value:=[vi 0,vi 0,.int .u32 0,.int .u64 0];refine Lh 4 (wn (cs:=E) zh0) ?_
 intro q _
 let C:List Value:=[.string ⟨#[]⟩,vi 0,vn,vi 0,.int .u64 0,.int .u64 0,.int .u64 0,.int .u64 0,.int .u64 0,.int .u64 0,.int .u64 0,.int .u64 0,.int .u64 0,.int .u64 0,.int .u64 0,.int .u64 0,.int .u64 0,.int .u64 0,.int .u64 0,.int .u64 0,.int .u64 0,.int .u64 0,vn];refine Lh 5 (wn (cs:=C) z8p) ?_
 intro t _
 refine Q1n U<|Lb<|bK h fun aE af h=>Le<|Lf 17 (w7 Jy)<|Lf 18 (wX (cs:=[D]) z3N<|qW (s:=1) .h2 U)<|La U<|L7 (dd:=20) U (Eh call118) .nil (cc hz .nil fun w pz ho=>Xf _ _ _ _ _ _ af pz N) ?_
 rintro ay az _
 refine Q5n U<|Lb<|B2n U<|Lj h (fun ag h=>?_)<|fun ag h=>?_
 ·exact B0q<|Lf 25 (wN (v:=(.agg #[vi 0,vi 0,.int .u32 0,.int .u64 0])) (Lt (l:=[]) .nil []) (fun _=>by kernel_rfl))<|Lf 26 (wN (v:=(.agg #[.string ⟨#[]⟩,vi 0,vn,vi 0,.int .u64 0,.int .u64 0,.int .u64 0,.int .u64 0,.int .u64 0,.int .u64 0,.int .u64 0,.int .u64 0,.int .u64 0,.int .u64 0,.int .u64 0,.int .u64 0,.int .u64 0,.int .u64 0,.int .u64 0,.int .u64 0,.int .u64 0,.int .u64 0,vn])) (Lt (l:=[]) .nil []) (fun _=>by kernel_rfl))<|Ll (wl zdv .h2)<|Ll (wl z8q .h2)<|Q1n U<|El<|L4<|WX.nilRow 5 1<|WX.nilRow 24 1<|oJ h▸Lk results70 (.agg U zfq U (wh .h3)<|.agg U z4P U (wh .h2)<|.tmp U .nil) fun w hw=>⟨none,0,none,0,XW,trivial,hw.sub (.s2 .h1 .here)⟩
 ·refine Ec<|Lb<|bK h fun b ah h=>D1q U<|Lm 29 (Eh call119) .nil (kb hz .nil (.cons .here .nil) fun w pz ho la=>Vf _ _ _ _ _ ah pz<|ZA.row (la _ (.head _) _) (RR.flat (enc:=e5) (fun _=>U) _) ⟨w,pz.1⟩)<|Q2q U<|La U (Lh 9 (wn (cs:=E) zh0) fun m _=>Ll (wl zdv .here)<|Q1n U<|Lb<|B2n U<|Lj h (fun ai h=>?_)<|fun ai h=>?_)
  ·cases h
  ·refine Ec<|B1n U ?_
   obtain⟨X,aj,h⟩:=wE h
   let F:List Value:=[vi b.1.yN.xf,vi b.1.yN.yW,.int .u32 b.1.yY,.int .u64 b.1.xh];refine Nf (fun f n o=>(X f=some r)) (fun f n o=>[(2,vp p),(4,vp q),(5,vp t),(9,vp m),(11,vs n f.length o)]) (fun f n o=>[row (vs n f.length o) 5 1 (f.flatMap e5),stb p 127 [D,.int .u64 c.xy,vi c.fH],stb q 124 E,stb t 42 C,stb m 124 F]) ?_ ?_
   ·refine B0q<|Lf 36 (w7 mV)<|Lf 37 (w7 cw)<|Lf 38 (Ei wm .here)<|Q1n U<|WC.block<|WC.nilRow 5 1<|E6 (fun u d g j k=>(qh b c X u d g=some r)) (fun u d g j k=>[(2,vp p),(4,vp q),(5,vp t),(9,vp m),(11,vs j d.length k),(38,vi b.1.yN.yW),(39,vi g)]) (fun u d g j k=>[row (vs j d.length k) 5 1 (d.flatMap e5),stb p 127 [D,.int .u64 c.xy,vi c.fH],stb q 124 E,stb t 42 C,stb m 124 F]) (fun u d g j k=>u) ⟨wr,([]:List Int),0,none,0⟩ h .q (.s5 .here .h4 .h3 .h2 .here) ?_
    rintro(_|aw) d g j k h;·cases h
    rw[qh] at h
    refine B1n U<|Lb<|Lj h (fun ak h=>?_)<|fun ak h=>?_
    ·refine Ec<|Lb<|WC.block<|B2n U<|Lb<|bK h fun aA al h=>bK h fun Y am h=>Lv nc []<|Lg 0 U (w7 Jy)<|Li 1 U (wX (cs:=[D]) z3N<|qW (s:=1) .h1 U)<|Lg 2 U (w7 mV)<|Li 3 U (wX (cs:=[vi b.1.yN.xf,vi b.1.yN.yW]) zZG<|qW (s:=2) .h4 U)<|L5 4 U (Eh call32) (cc hz .nil fun w pz ho=>iG _ _ _ al pz )<|Lg 5 U q_m<|Lg 6 U fb<|WD.call2 (i:=7) (dd:=50) U (by kernel_rfl) U (.inr U) (Eh call118) .nil (cc hz .nil fun w pz ho=>Xf _ _ _ _ _ _ am pz N) ?_
     rintro aB aC _
     refine Lg 8 U q_m<|Lg 9 U vF<|Lg 10 U vF<|Lg 11 U q_z<|Lg 12 U q_z<|Eo (by kernel_rfl)<|Ld<|Lb<|B2n U<|Lj h (fun an h=>?_)<|fun an h=>?_
     ·cases h
     ·refine Ec<|cK h fun ao h=>D2q U<|WL.fA 59 (vb (enc:=e5) (l1:=d) (l2:=Y.1) z2j .h1 (fun _=>U) (wY .here) (vm tk _) ao) ?_
      rintro⟨ap,aq⟩ _
      exact La U<|WL.nil<|Lq<|Ld<|D2q U<|WL.nil<|Em ⟨aw,d++Y.1,i64 (g+1),ap,aq⟩ h (Nat.lt_succ_self _) .q<|.s5 .here .h1 .h1 .h1 .h1
    ·exact En<|Ln<|Ln<|Lu<|Lp ⟨d,j,k⟩ h .q<|.a5
   ·rintro f n o h
    replace h:=(aj f).symm.trans h
    refine Lb<|bK h fun a ar h=>D1q U<|Np (dd:=63) U (Eh call120) .nil (kb hz .nil (.cons .here .nil) fun w pz ho la=>Vg _ _ _ _ _ ar pz<|ZA.row (la _ (.head _) _) (RR.flat (enc:=e5) (fun _=>U) _) ⟨w,pz.1⟩) ?_
    rintro aa ab ad ae _
    refine Q2q U<|La U (Lh 15 (wn (cs:=C) z8p) fun S _=>Ll (wl z8q .here)<|Q1n U<|Lb ?_)
    obtain⟨B,au,h⟩:=z2 h
    obtain⟨ax,T,h⟩:=z2 h
    let I:Value:=(vs ad a.y5.yr.length ae);let J:Value:=(vs aa a.yx.length ab);refine Lv (fun i=>[19,20].contains i) [stb S 42 [.string a.yl,vi a.yd,J,vi a.y5.yK,.int .u64 a.y5.y4.a0,.int .u64 a.y5.y4.a1,.int .u64 a.y5.y4.a2,.int .u64 a.y5.y4.a3,.int .u64 a.y5.y4.a4,.int .u64 a.y5.y4.a5,.int .u64 a.y5.y4.a6,.int .u64 a.y5.y4.a7,.int .u64 a.y5.y4.a8,.int .u64 a.y5.y4.a9,.int .u64 a.y5.y4.a10,.int .u64 a.y5.y4.a11,.int .u64 a.y5.y4.a12,.int .u64 a.y5.y4.a13,.int .u64 a.y5.y4.a14,.int .u64 a.y5.y4.a15,.int .u64 a.y5.y4.a16,.int .u64 a.y5.y4.a17,I]]<|Li 0 U (we zfq (wh .h7))<|Na 1 U (wS.of<|.cons .here .nil) (we z4P (wh .here))<|Lg 2 U q_m<|Lg 3 U uh<|Lg 4 U q_m<|Lg 5 U q_m<|L5 6 U (Eh call30) (kb hz .nil (.cons .h3 .nil) fun w pz ho la=>rH _ _ _ _ _ au pz<|ZA.row (la _ (.head _) _) (RR.flat (enc:=e5) (fun _=>U) _) ⟨w,pz.1⟩)<|Lg 7 U (w7 Wf)<|Li 8 U (Ei z4O .h7)<|Lg 9 U uh<|Lg 10 U vH<|Lg 11 U q_m ?_
    let A:Value:=(.agg #[.string a.yl,vi a.yd,J,vi a.y5.yK,.int .u64 a.y5.y4.a0,.int .u64 a.y5.y4.a1,.int .u64 a.y5.y4.a2,.int .u64 a.y5.y4.a3,.int .u64 a.y5.y4.a4,.int .u64 a.y5.y4.a5,.int .u64 a.y5.y4.a6,.int .u64 a.y5.y4.a7,.int .u64 a.y5.y4.a8,.int .u64 a.y5.y4.a9,.int .u64 a.y5.y4.a10,.int .u64 a.y5.y4.a11,.int .u64 a.y5.y4.a12,.int .u64 a.y5.y4.a13,.int .u64 a.y5.y4.a14,.int .u64 a.y5.y4.a15,.int .u64 a.y5.y4.a16,.int .u64 a.y5.y4.a17,I]);let G:Value:=(.bool (decide (B=b.1.xh)));let H:Value:=(vs n f.length o);refine L9 (fuel':=3) [(2,vp p),(4,vp q),(5,vp t),(9,vp m),(11,H),(62,H),(63,.tuple #[A,vi 0]),(61,.tuple #[A,vi 0]),(64,A),(65,vi 0),(15,vp S),(8,vi 0),(66,.agg #[vi b.1.yN.xf,vi b.1.yN.yW,.int .u32 b.1.yY,.int .u64 b.1.xh]),(67,A),(68,vi 0),(69,.bool true),(70,.bool true),(71,H),(72,.int .u64 B),(73,(.pointer<|some ⟨m,3,none⟩)),(74,.int .u64 b.1.xh),(75,G),(76,G),(77,G),(84,.bool ax)] (wR 22 (dn 19)) ?_<|fun V=>?_
    rotate_left
    ·rcases Bool.eq_false_or_eq_true (decide (B=b.1.xh)) with hb' | hb'
     ·have K:=hb';clear hb'
      have x:=qf T K
      obtain⟨aD,av,x⟩:=z2 x
      replace x:=oJ x
      refine L2 (i:=77) U K<|Li 12 U (we z4P (wh .here))<|Lg 13 U (w7 FM)<|Li 14 U (Ei z4O .h4)<|Lg 15 U (w7 FO)<|Li 16 U (Ei wm .h4)<|L5 17 U (Eh call27) (kb hz .nil (.s2 .h1 .h1) fun w pz ho la=>dN _ _ _ _ _ _ _ _ _ av pz (ZA.row (la _ (.head _) _) (RR.flat (enc:=e5) (fun _=>U) _) ⟨w,pz.1⟩)<|ZA.row (la _ (.tail _<|.head _) _) (RR.flat (enc:=vK) (fun _=>U) _) ⟨w,pz.1⟩)<|Lg 18 U vH<|Lw .a8 ?_ V
      exact .t 23<|.r2 (zq<|Eq.symm K)<|zq x
     ·have L:=hb';clear hb'
      have M:=qg T L
      replace M:=oJ M
      refine L2 (i:=77) U L<|Lo 12 U<|Lo 13 U<|Lo 14 U<|Lo 15 U<|Lo 16 U<|Lo 17 U<|Lg 18 U vA<|Lw .a8 ?_ V
      exact .t 23<|.r2 (zq<|Eq.symm L)<|zq M
    exact WD.forced0 (i:=19) U (by kernel_rfl) (wS.of<|.cons .h1 .nil) (wl zdv .h5)<|WD.forced0 (i:=20) U (by kernel_rfl) (wS.of<|.cons .h2 .nil) (wl z8q .h6)<|Lg 21 U q_z<|Eo (by kernel_rfl)<|Ld<|El<|oJ h▸Lk results70 (.agg U zfq U (wh .h1)<|.agg U z4P U (wh .here)<|.tmp U .nil) fun w hw=>⟨aa,ab,ad,ae,XW,trivial,hw.sub (.s2 .h3 .h3)⟩
def qi(c:xe):Option (xq×yz×Int):=
 (ja c 0).bind fun b=>(ja c 1).bind fun a=>if b.2.2&&((!a.2.2)||(decide (b.1.yY>=a.1.yY))) then some (b.1,b.2.1,0) else if a.2.2 then some (a.1,a.2.1,1) else some ((⟨(⟨0,0⟩:xD),0,0⟩:xq),(⟨⟨#[]⟩,0,([]:List Int),(⟨0,(⟨0,0,0,0,0,0,0,0,0,0,0,0,0,0,0,0,0,0⟩:xj),([]:List Int)⟩:yC)⟩:yz),-1)
theorem oD(Z d f c r)(h:qi c=some r){Ek}(hz:PZ [] Ek Z)(g:ZS Z 1 (ff Z) d f c.xC.yf):
  Calls Tryz.prog 28 #[.agg #[vs d c.xC.yf.length f,.int .u64 c.xy,vi c.fH]] Ek fun e w'=>∃ j:Option Addr,∃ k:Nat,∃ m:Option Addr,∃ n:Nat,e = .returned (.tuple #[.agg #[vi r.1.yN.xf,vi r.1.yN.yW,.int .u32 r.1.yY,.int .u64 r.1.xh],.agg #[.string r.2.1.yl,vi r.2.1.yd,vs j r.2.1.yx.length k,vi r.2.1.y5.yK,.int .u64 r.2.1.y5.y4.a0,.int .u64 r.2.1.y5.y4.a1,.int .u64 r.2.1.y5.y4.a2,.int .u64 r.2.1.y5.y4.a3,.int .u64 r.2.1.y5.y4.a4,.int .u64 r.2.1.y5.y4.a5,.int .u64 r.2.1.y5.y4.a6,.int .u64 r.2.1.y5.y4.a7,.int .u64 r.2.1.y5.y4.a8,.int .u64 r.2.1.y5.y4.a9,.int .u64 r.2.1.y5.y4.a10,.int .u64 r.2.1.y5.y4.a11,.int .u64 r.2.1.y5.y4.a12,.int .u64 r.2.1.y5.y4.a13,.int .u64 r.2.1.y5.y4.a14,.int .u64 r.2.1.y5.y4.a15,.int .u64 r.2.1.y5.y4.a16,.int .u64 r.2.1.y5.y4.a17,vs m r.2.1.y5.yr.length n],vi r.2.2])/\True/\Hp [] Ek w' [row (vs j r.2.1.yx.length k) 5 1 (r.2.1.yx.flatMap e5),row (vs m r.2.1.y5.yr.length n) 24 1 (r.2.1.y5.yr.flatMap vK)]:=by
 unfold qi at h
 refine L3 func28 U U<|B0q<|Lh 1 (wu (cs:=[vs d c.xC.yf.length f,.int .u64 c.xy,vi c.fH])) ?_
 intro K _
 let C:List Value:=[vi 0,vi 0,.int .u32 0,.int .u64 0];refine Lh 2 (wn (cs:=C) zh0) ?_
 intro L _
 let A:List Value:=[.string ⟨#[]⟩,vi 0,vn,vi 0,.int .u64 0,.int .u64 0,.int .u64 0,.int .u64 0,.int .u64 0,.int .u64 0,.int .u64 0,.int .u64 0,.int .u64 0,.int .u64 0,.int .u64 0,.int .u64 0,.int .u64 0,.int .u64 0,.int .u64 0,.int .u64 0,.int .u64 0,.int .u64 0,vn];refine Lh 3 (wn (cs:=A) z8p) ?_
 intro M _
 refine Q1n U<|Lb<|bK h fun b z h=>Le<|Lf 12 (we zZD (wh .h2))<|Np (dd:=13) U (Eh call70) .nil (cc hz .nil fun w pz ho=>iH _ _ _ _ _ _ z pz g) ?_
 rintro o p q s _
 refine Q3q U<|La U (Lh 5 (wn (cs:=C) zh0) fun N _=>Lh 6 (wn (cs:=A) z8p) fun D _=>Ll (wl zdv .h1)<|Ll (wl z8q .h1)<|Q1n U<|Lb ?_)
 refine bK h fun a E h=>Le<|Lf 18 (we zZD (wh .h6))<|Np (dd:=19) U (Eh call70) .nil (cc hz .nil fun w pz ho=>iH _ _ _ _ _ _ E pz g) ?_
 rintro t u x y _
 refine Q3q U<|La U (Lh 8 (wn (cs:=C) zh0) fun O _=>Lh 9 (wn (cs:=A) z8p) fun F _=>Ll (wl zdv .h1)<|Ll (wl z8q .h1)<|Q1n U<|Lb<|WC.block<|B2q U<|Lx true 9 25 (B:=b.2.2&&((!a.2.2)||(decide (b.1.yY>=a.1.yY)))) (fun h=>(qd h).symm) (fun _ G=>?_) ?_)
 ·refine Q3q U<|Lx false 5 28 (B:=(!a.2.2)||(decide (b.1.yY>=a.1.yY))) (fun h=>(jB h).symm) (fun _ H=>?_) ?_
  ·exact Lf 29 (w7 cx)<|Lf 30 (Ei zvE .h5)<|Lf 31 (w7 cx)<|Lf 32 (Ei zvE .h1)<|Q2q U<|Ly (jC H) U .all
  exact La U<|Ly (qe G) U .all
 refine Q1n U<|Lj h (fun I h=>?_)<|fun I h=>?_
 ·exact Lb<|Lv (fun i=>[2,3].contains i) [stb D 42 [.string b.2.1.yl,vi b.2.1.yd,vs o b.2.1.yx.length p,vi b.2.1.y5.yK,.int .u64 b.2.1.y5.y4.a0,.int .u64 b.2.1.y5.y4.a1,.int .u64 b.2.1.y5.y4.a2,.int .u64 b.2.1.y5.y4.a3,.int .u64 b.2.1.y5.y4.a4,.int .u64 b.2.1.y5.y4.a5,.int .u64 b.2.1.y5.y4.a6,.int .u64 b.2.1.y5.y4.a7,.int .u64 b.2.1.y5.y4.a8,.int .u64 b.2.1.y5.y4.a9,.int .u64 b.2.1.y5.y4.a10,.int .u64 b.2.1.y5.y4.a11,.int .u64 b.2.1.y5.y4.a12,.int .u64 b.2.1.y5.y4.a13,.int .u64 b.2.1.y5.y4.a14,.int .u64 b.2.1.y5.y4.a15,.int .u64 b.2.1.y5.y4.a16,.int .u64 b.2.1.y5.y4.a17,vs q b.2.1.y5.yr.length s]]<|Li 0 U (we zfq (wh .h5))<|Na 1 U (wS.of<|.cons .h4 .nil) (we z4P (wh .here))<|WD.forced0 (i:=2) U (by kernel_rfl) (wS.of<|.cons .h5 .nil) (wl zdv (.there<|.there .h7))<|WD.forced0 (i:=3) U (by kernel_rfl) (wS.of<|.cons .h6 .nil) (wl z8q (.there<|.there .h7))<|Lg 4 U q_z<|Eo (by kernel_rfl)<|Ld<|El<|Nc<|L4<|oJ h▸Lk results28 (.agg U zfq U (wh .h1)<|.agg U z4P U (wh .here)<|.tmp U .nil) fun w hw=>⟨o,p,q,s,XW,trivial,hw.sub (.s2 (.there .h7) (.there .h7))⟩
 ·refine B2n U<|Lj h (fun J h=>?_)<|fun J h=>?_
  ·exact Lb<|Lv (fun i=>[2,3].contains i) [stb F 42 [.string a.2.1.yl,vi a.2.1.yd,vs t a.2.1.yx.length u,vi a.2.1.y5.yK,.int .u64 a.2.1.y5.y4.a0,.int .u64 a.2.1.y5.y4.a1,.int .u64 a.2.1.y5.y4.a2,.int .u64 a.2.1.y5.y4.a3,.int .u64 a.2.1.y5.y4.a4,.int .u64 a.2.1.y5.y4.a5,.int .u64 a.2.1.y5.y4.a6,.int .u64 a.2.1.y5.y4.a7,.int .u64 a.2.1.y5.y4.a8,.int .u64 a.2.1.y5.y4.a9,.int .u64 a.2.1.y5.y4.a10,.int .u64 a.2.1.y5.y4.a11,.int .u64 a.2.1.y5.y4.a12,.int .u64 a.2.1.y5.y4.a13,.int .u64 a.2.1.y5.y4.a14,.int .u64 a.2.1.y5.y4.a15,.int .u64 a.2.1.y5.y4.a16,.int .u64 a.2.1.y5.y4.a17,vs x a.2.1.y5.yr.length y]]<|Li 0 U (we zfq (wh .h1))<|Na 1 U (wS.of<|.cons .here .nil) (we z4P (wh .here))<|WD.forced0 (i:=2) U (by kernel_rfl) (wS.of<|.cons .h1 .nil) (wl zdv (.there<|.there .h7))<|WD.forced0 (i:=3) U (by kernel_rfl) (wS.of<|.cons .h2 .nil) (wl z8q (.there<|.there .h7))<|Lg 4 U q_z<|Eo (by kernel_rfl)<|Ld<|El<|Nc<|L4<|oJ h▸Lk results28 (.agg U zfq U (wh .h1)<|.agg U z4P U (wh .here)<|.tmp U .nil) fun w hw=>⟨t,u,x,y,XW,trivial,hw.sub (.s2 .h4 .h4)⟩
  ·exact Ep<|Lq<|Ld<|B0q<|Lf 42 (wN (v:=(.agg #[vi 0,vi 0,.int .u32 0,.int .u64 0])) (Lt (l:=[]) .nil []) (fun _=>by kernel_rfl))<|Lf 43 (wN (v:=(.agg #[.string ⟨#[]⟩,vi 0,vn,vi 0,.int .u64 0,.int .u64 0,.int .u64 0,.int .u64 0,.int .u64 0,.int .u64 0,.int .u64 0,.int .u64 0,.int .u64 0,.int .u64 0,.int .u64 0,.int .u64 0,.int .u64 0,.int .u64 0,.int .u64 0,.int .u64 0,.int .u64 0,.int .u64 0,vn])) (Lt (l:=[]) .nil []) (fun _=>by kernel_rfl))<|Ll (wl zdv (.there<|.there .h7))<|Ll (wl z8q (.there<|.there .h7))<|Q1n U<|El<|WX.nilRow 5 1<|WX.nilRow 24 1<|oJ h▸Lk results28 (.agg U zfq U (wh .h3)<|.agg U z4P U (wh .h2)<|.tmp U .nil) fun w hw=>⟨none,0,none,0,XW,trivial,hw.sub (.s2 .h1 .here)⟩
def te(a:yz):Option (List Int):=
 (g8 a).bind fun d=>if !d then none else(ta a.y5).bind fun b=>(mj a).bind fun c=>chk (((c++b).length:Int)*1<=140737488355328/\((c++b).length:Int)<=4611686018427387904) (some (c++b))
theorem QO(Z b c d f a r)(h:te a=some r){Ek}(hz:PZ [] Ek Z)(i:ZS Z 1 (rq e5) b c a.yx)(g:ZS Z 1 (rq vK) d f a.y5.yr):
  Calls Tryz.prog 29 #[.agg #[.string a.yl,vi a.yd,vs b a.yx.length c,vi a.y5.yK,.int .u64 a.y5.y4.a0,.int .u64 a.y5.y4.a1,.int .u64 a.y5.y4.a2,.int .u64 a.y5.y4.a3,.int .u64 a.y5.y4.a4,.int .u64 a.y5.y4.a5,.int .u64 a.y5.y4.a6,.int .u64 a.y5.y4.a7,.int .u64 a.y5.y4.a8,.int .u64 a.y5.y4.a9,.int .u64 a.y5.y4.a10,.int .u64 a.y5.y4.a11,.int .u64 a.y5.y4.a12,.int .u64 a.y5.y4.a13,.int .u64 a.y5.y4.a14,.int .u64 a.y5.y4.a15,.int .u64 a.y5.y4.a16,.int .u64 a.y5.y4.a17,vs d a.y5.yr.length f]] Ek fun e w'=>∃ j:Option Addr,∃ k:Nat,e = .returned (.tuple #[vs j r.length k,vi 0])/\True/\Hp [] Ek w' [row (vs j r.length k) 5 1 (r.flatMap e5)]:=by
 unfold te at h
 refine L3 func29 U U ?_
 let A:Value:=(vs d a.y5.yr.length f);let C:Value:=(.int .u64 a.y5.y4.a10);let D:Value:=(.int .u64 a.y5.y4.a11);let E:Value:=(.int .u64 a.y5.y4.a12);let F:Value:=(.int .u64 a.y5.y4.a13);let G:Value:=(.int .u64 a.y5.y4.a14);let H:Value:=(.int .u64 a.y5.y4.a15);let I:Value:=(.int .u64 a.y5.y4.a16);let J:Value:=(.int .u64 a.y5.y4.a17);refine B0q<|Lh 1 (wu (cs:=[.string a.yl,vi a.yd,vs b a.yx.length c,vi a.y5.yK,.int .u64 a.y5.y4.a0,.int .u64 a.y5.y4.a1,.int .u64 a.y5.y4.a2,.int .u64 a.y5.y4.a3,.int .u64 a.y5.y4.a4,.int .u64 a.y5.y4.a5,.int .u64 a.y5.y4.a6,.int .u64 a.y5.y4.a7,.int .u64 a.y5.y4.a8,.int .u64 a.y5.y4.a9,C,D,E,F,G,H,I,J,A])) ?_
 intro x _
 refine Q2n U<|Lb<|Lb<|bK h fun y l h=>Le<|Lf 6 (we z4P (wh .here))<|Eg call26 hz (fun pz=>ox _ _ _ _ _ _ _ l pz i g)<|Q1n U<|Lj h (fun m h=>?_)<|fun m h=>?_
 ·cases h
 ·refine Ec<|Lb<|bK h fun u n h=>Le<|Lf 10 (w7 bV)<|Lf 11 (wX (cs:=[vi a.y5.yK,.int .u64 a.y5.y4.a0,.int .u64 a.y5.y4.a1,.int .u64 a.y5.y4.a2,.int .u64 a.y5.y4.a3,.int .u64 a.y5.y4.a4,.int .u64 a.y5.y4.a5,.int .u64 a.y5.y4.a6,.int .u64 a.y5.y4.a7,.int .u64 a.y5.y4.a8,.int .u64 a.y5.y4.a9,C,D,E,F,G,H,I,J,A]) zk5<|qW (s:=20) .here U)<|L7 (dd:=12) U (Eh call68) .nil (cc hz .nil fun w pz ho=>Ys _ _ _ _ _ n pz g) ?_
  rintro z B _
  refine Q5n U<|Lb<|bK h fun v o h=>cK h fun p h=>Le<|Lf 15 (we z4P (wh .h1))<|L7 (dd:=16) U (Eh call66) .nil (cc hz .nil fun w pz ho=>dM _ _ _ _ _ _ _ o pz i g) ?_
  rintro K L _
  refine La U<|WL.fA 18 (vb (enc:=e5) (l1:=v) (l2:=u) z2j .here (fun _=>U) (wY .h1) (vm tk _) p) ?_
  rintro⟨q,t⟩ _
  exact La U<|La U<|La U<|WL.nil<|Ld<|El<|oJ h▸Lk results29 (.tmp U<|.tmp U .nil) fun w hw=>⟨q,t,qq,trivial,hw.sub (.cons .here .nil)⟩
def tJ(a:List Int):Option (List Int):=
 some a
theorem Vh(Z a b c r)(h:tJ c=some r){Ek}(hz:PZ [] Ek Z)(i:ZS Z 1 (rq e5) a b c):
  Calls Tryz.prog 31 #[vs a c.length b] Ek fun e w'=>∃ d:Nat,∃ f:Option Addr,∃ g:Nat,e = .returned (.func (.func 74) #[] #[vp d])/\(ZS Z 1 (rq e5) f g r)/\Hp [] Ek w' [stb d 23 [vs f r.length g]]:=by
 unfold tJ at h
 refine L3 func31 U U<|Lb<|Le (Lh 1 (wu (cs:=[vs a c.length b])) fun j _=>Q1n U<|B0q<|Lf 3 (wO<|L6 (l:=[.tmp 1])<|.cons U .nil)<|Q1n U<|El ?_)
 exact oJ h▸Lk results31 (.tmp U .nil) fun w hw=>⟨j,a,b,wx,i,hw.sub (.cons .here .nil)⟩
def qO(z3X:Type)(zgJ:(Int×List Int)->z3X->Option (Bool×z3X))(b:z3X->(List Int)->Option z3X):Nat->Int->(List Int)->z3X->Option z3X
 | 0,_,_,_=>none
 | f+1,c,a,d=>if decide ((a.length:Int)>0) then chk ((0:Int)<=0/\(0:Int)<=(min (a.length:Int) 48)/\(min (a.length:Int) 48)<=a.length) ((zgJ (c,a.take ((min (a.length:Int) 48):Int).toNat) d).bind fun e=>if !e.1 then none else chk (0<=(min (a.length:Int) 48)/\(min (a.length:Int) 48:Int)<=a.length/\(a.length:Int)<=a.length) (qO z3X zgJ b f (i64 (c+1)) (a.drop ((min (a.length:Int) 48):Int).toNat) e.2)) else b d a
def ug(z3X:Type)(zgJ:(Int×List Int)->z3X->Option (Bool×z3X))(zjC:z3X)(zjD:List Int):Option z3X:=
 rl (fun(a:z3X) (c:List Int)=>some a) fun b=>qO z3X zgJ b wr 0 zjD zjC
theorem XH(Z)(z3X:Type)(zN7)(zro:Type)(zgK)(zBF:zro->z3X->Prop)(zuS znr zuT zuU zgJ zjC zjD r){Ek}(hz:Pz [zgK zuS zjC,stb znr 23 [vs zuT zjD.length zuU]] Ek Z)(z:WW Tryz.prog Z zN7 (α:=Int×List Int) (σ:=z3X) (G:=zro) (H:=Option Addr×Nat) (fun h x=>[vi x.1,vs h.1 x.2.length h.2]) (fun h x=>[]) (fun h x=>[]) (fun h x=>ZS Z 1 (rq e5) h.1 h.2 x.2) zgJ zgK zBF)(A:zBF zuS zjC)(B:ZS Z 1 (rq e5) zuT zuU zjD)(h:ug z3X zgJ zjC zjD=some r)(iA:Ho Ek [zgK zuS zjC,stb znr 23 [vs zuT zjD.length zuU]]):
  Calls Tryz.prog 74 #[.func (.yield zN7) #[] #[],vp znr] Ek fun e w'=>∃ u:zro,e = .returned (.tuple #[])/\(zBF u r)/\Hp (fps [zgK zuS zjC,stb znr 23 [vs zuT zjD.length zuU]]) Ek w' [zgK u r]:=by
 unfold ug at h
 refine Nk func74 U iA U<|B1n U<|jK2 h fun y C h=>H1 (fun i j m o p=>(y i j=some r)/\(zBF m i)/\(ZS Z 1 (rq e5) o p j)) (fun i j m o p=>[]) (fun i j m o p=>[zgK m i,stb znr 23 [vs o j.length p]]) ?_ ?_
 ·refine WC.block<|H2 (fun n f a c k l d=>(qO z3X zgJ y n f a c=some r)/\(ZS Z 1 (rq e5) k l a)/\(zBF d c)) (fun n f a c k l d=>[(0,.func (.yield zN7) #[] #[]),(1,vp znr),(3,vi f)]) (fun n f a c k l d=>[stb znr 23 [vs k a.length l],zgK d c]) (fun n f a c k l d=>n) ⟨wr,0,zjD,zjC,zuT,zuU,zuS⟩ ⟨h,B,A⟩ .q (.s2 .h1 .here) ?_
  rintro (_|T) f a c k l d ⟨h,q,v⟩;·cases h
  rw[qO] at h
  refine Lb<|B0q<|Lf 5 (Ei z56 .here)<|Lf 6 (wB underlying23)<|Q1n U<|Lj h (fun D h=>?_)<|fun D h=>?_
  ·refine Ec<|Lb<|WC.block<|B0q<|Lf 10 (Ei z56 .here)<|Lf 11 (wB underlying23)<|Lf 12 (KA U U U)<|Q1n U<|Lb<|Lb<|cK h fun E h=>bK h fun t F h=>D2q U<|Lf 15 (Ei z56 .here)<|La U<|Nn (dd:=17) (Z:=Z) (Pr:=(rq e5)) z2j U q WE np U U E (List.drop_zero).symm ?_
   rintro I J K
   refine Dv (dd:=18) (x:=(f,a.take ((min (a.length:Int) 48):Int).toNat)) (h:=(I,J)) (g:=d) (s:=c) (b:=t.1) (s':=t.2) z U U U .q ((.cons .h1 .nil):Sel _ [zgK d c] _) F v K (fun w hw=>hz.call hw ((.cons .h1 .nil):Sel _ [zgK d c] _)) fun L M=>Q1n U<|Lj h (fun N h=>?_)<|fun N h=>?_
   ·cases h
   ·refine Ec<|cK h fun O h=>Le<|Lf 20 (Ei z56 .h1)<|La U<|Nn (dd:=22) (Z:=Z) (Pr:=(rq e5)) z2j U q np WE U U O (by rw[Int.toNat_natCast,List.take_length]) ?_
    rintro P Q R
    exact Ll (wl zHZ .h1)<|WL.nil<|Lq<|Ld<|D3q U<|WL.nil<|Em ⟨T,i64 (f+1),a.drop ((min (a.length:Int) 48):Int).toNat,t.2,P,Q,L⟩ ⟨h,R,M⟩ (Nat.lt_succ_self _) .q<|.a2
  ·exact En<|Ln<|Ln<|Lu<|Lp ⟨c,a,d,k,l⟩ ⟨h,v,q⟩ .nil<|.s2 .h1 .here
 ·rintro i j m o p ⟨h,S,V⟩
  replace h:=(C i j).symm.trans h
  exact oJ h▸Nj results74 .nil fun w hw=>⟨m,ui,S,hw.sub (.cons .here .nil)⟩
def gE(a:xq):Option (List Int):=
 (gq a.yY 4).bind fun b=>chk (((b++([u8 a.yN.xf,u8 a.yN.yW]:List Int)).length:Int)*1<=140737488355328/\((b++([u8 a.yN.xf,u8 a.yN.yW]:List Int)).length:Int)<=4611686018427387904) ((jy a.xh).bind fun c=>chk (((((b++([u8 a.yN.xf,u8 a.yN.yW]:List Int))++c).length:Nat):Int)*1<=140737488355328/\((((b++([u8 a.yN.xf,u8 a.yN.yW]:List Int))++c).length:Nat):Int)<=4611686018427387904) (some ((b++([u8 a.yN.xf,u8 a.yN.yW]:List Int))++c)))
theorem nk(Z a r)(h:gE a=some r){Ek}(hz:PZ [] Ek Z):
  Calls Tryz.prog 34 #[.agg #[vi a.yN.xf,vi a.yN.yW,.int .u32 a.yY,.int .u64 a.xh]] Ek fun e w'=>∃ b:Option Addr,∃ c:Nat,e = .returned (vs b r.length c)/\True/\Hp [] Ek w' [row (vs b r.length c) 5 1 (r.flatMap e5)]:=by
 unfold gE at h
 refine L3 func34 U U<|Lb<|Le (Lh 1 (wu (cs:=[vi a.yN.xf,vi a.yN.yW,.int .u32 a.yY,.int .u64 a.xh])) fun f _=>Q1n U<|Lb ?_)
 refine bK h fun d g h=>Le<|Lf 4 (w7 cx)<|Lf 5 (Ei zvE .here)<|L7 (dd:=6) U (Eh call75) .nil (cc hz .nil fun w pz ho=>iD _ _ _ _ g pz ) ?_
 rintro q s _
 refine Q1n U<|Lb<|cK h fun j h=>bK h fun p k h=>cK h fun m h=>Lv (fun i=>[10,14].contains i) [pp f 124 [(3,.int .u64 a.xh)]]<|Lg 0 U q_m<|Lg 1 U (w7 mV)<|Lg 2 U (w7 dx)<|Li 3 U (Ei wm .h1)<|Lg 4 U (vo underlying3 underlying5)<|Lg 5 U (w7 mV)<|Lg 6 U (w7 cw)<|Li 7 U (Ei wm .h1)<|Lg 8 U (vo underlying3 underlying5)<|Lg 11 U (w7 Wf)<|Na 12 U (wS.wk (.cons .h1 .nil)<|.stb (.cons U .nil) .nil) (w8 z4O U<|mF .here<|.head _) (WD.new (i:=9) (dd:=16) U (by kernel_rfl) U (wD (cs:=([u8 a.yN.xf,u8 a.yN.yW]:List Int).flatMap e5) z2j (Lt (l:=[.tmp 11,.tmp 15]) (.r2 U U) [0,1]) (fun _=>by kernel_rfl) (by unfold maxLen;omega)) (fun h'=>absurd h' (by decide)) fun t _=>WD.old (i:=10) (dd:=17) U (by kernel_rfl) U (fun _=>(wS.wk (.cons .h2 .nil)<|.stb (.cons U .nil) .nil)) (vb (enc:=e5) (l1:=d) (l2:=([u8 a.yN.xf,u8 a.yN.yW]:List Int)) z2j .h1 (fun _=>U) (wY .here) (vm tk _) j) ?_)
 rintro⟨u,v⟩ _
 refine WD.call2 (i:=13) (dd:=20) U (by kernel_rfl) U (.inr U) (Eh call76) .nil (cc hz .nil fun w pz ho=>f2 _ _ _ k pz ) ?_
 rintro x y _
 refine WD.old (i:=14) (dd:=21) U (by kernel_rfl) U (fun _=>(wS.wk (.cons .h3 .nil)<|.stb (.cons U .nil) .nil)) (vb (enc:=e5) (l1:=d++([u8 a.yN.xf,u8 a.yN.yW]:List Int)) (l2:=p) z2j .h1 (fun _=>U) (wY .here) (vm tk _) m) ?_
 rintro⟨n,o⟩ _
 exact Lg 15 U q_z<|Eo (by kernel_rfl)<|Ld<|El<|oJ h▸Lk results34 (.tmp U .nil) fun w hw=>⟨n,o,wx,trivial,hw.sub (.cons .here .nil)⟩
end Go.Proofs.YtaefhckdgfpeaaaGreat

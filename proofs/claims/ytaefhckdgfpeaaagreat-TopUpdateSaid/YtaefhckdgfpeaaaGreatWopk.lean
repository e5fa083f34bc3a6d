/- A part of this claim's proof: models of functions, walks, plain laws. No conditions. -/
import Derived.Test.YtaefhckdgfpeaaaGreatWopj
set_option linter.all false
namespace Go.Proofs.YtaefhckdgfpeaaaGreat
open Go Go.RowKit Sep Tryz
set_option maxRecDepth 30000
set_option maxHeartbeats 4000000
def jf(b:Int)(u:Int->Int->Int->Int->Int->Int->Int->Int->Int->Int->Int->Int->Int->Int->Int->Int->Int->Int->Int->Option yV):Nat->Int->Int->Int->Int->Int->Int->Int->Int->Int->Int->Int->Int->Int->Int->Int->Int->Int->Int->Int->Int->Option yV
 | 0,_,_,_,_,_,_,_,_,_,_,_,_,_,_,_,_,_,_,_,_=>none
 | w+1,v,a,c,d,e,f,g,h,i,j,k,l,m,n,o,p,q,r,s,t=>if decide (a<16) then chk (0<=(i64 (4*a))) (chk (0<=a/\a<18) (chk (0<=a/\a<18) (jf b u w (i64 (v+(i64 (15-(nth ([nth (([c,d,e,f,g,h,i,j,k,l,m,n,o,p,q,r,s,t]:List Int).set (a:Int).toNat (i64 (bits .and .u64 (b / 2 ^ min ((i64 (4*a)):Int).toNat 64) 15))) 0,nth (([c,d,e,f,g,h,i,j,k,l,m,n,o,p,q,r,s,t]:List Int).set (a:Int).toNat (i64 (bits .and .u64 (b / 2 ^ min ((i64 (4*a)):Int).toNat 64) 15))) 1,nth (([c,d,e,f,g,h,i,j,k,l,m,n,o,p,q,r,s,t]:List Int).set (a:Int).toNat (i64 (bits .and .u64 (b / 2 ^ min ((i64 (4*a)):Int).toNat 64) 15))) 2,nth (([c,d,e,f,g,h,i,j,k,l,m,n,o,p,q,r,s,t]:List Int).set (a:Int).toNat (i64 (bits .and .u64 (b / 2 ^ min ((i64 (4*a)):Int).toNat 64) 15))) 3,nth (([c,d,e,f,g,h,i,j,k,l,m,n,o,p,q,r,s,t]:List Int).set (a:Int).toNat (i64 (bits .and .u64 (b / 2 ^ min ((i64 (4*a)):Int).toNat 64) 15))) 4,nth (([c,d,e,f,g,h,i,j,k,l,m,n,o,p,q,r,s,t]:List Int).set (a:Int).toNat (i64 (bits .and .u64 (b / 2 ^ min ((i64 (4*a)):Int).toNat 64) 15))) 5,nth (([c,d,e,f,g,h,i,j,k,l,m,n,o,p,q,r,s,t]:List Int).set (a:Int).toNat (i64 (bits .and .u64 (b / 2 ^ min ((i64 (4*a)):Int).toNat 64) 15))) 6,nth (([c,d,e,f,g,h,i,j,k,l,m,n,o,p,q,r,s,t]:List Int).set (a:Int).toNat (i64 (bits .and .u64 (b / 2 ^ min ((i64 (4*a)):Int).toNat 64) 15))) 7,nth (([c,d,e,f,g,h,i,j,k,l,m,n,o,p,q,r,s,t]:List Int).set (a:Int).toNat (i64 (bits .and .u64 (b / 2 ^ min ((i64 (4*a)):Int).toNat 64) 15))) 8,nth (([c,d,e,f,g,h,i,j,k,l,m,n,o,p,q,r,s,t]:List Int).set (a:Int).toNat (i64 (bits .and .u64 (b / 2 ^ min ((i64 (4*a)):Int).toNat 64) 15))) 9,nth (([c,d,e,f,g,h,i,j,k,l,m,n,o,p,q,r,s,t]:List Int).set (a:Int).toNat (i64 (bits .and .u64 (b / 2 ^ min ((i64 (4*a)):Int).toNat 64) 15))) 10,nth (([c,d,e,f,g,h,i,j,k,l,m,n,o,p,q,r,s,t]:List Int).set (a:Int).toNat (i64 (bits .and .u64 (b / 2 ^ min ((i64 (4*a)):Int).toNat 64) 15))) 11,nth (([c,d,e,f,g,h,i,j,k,l,m,n,o,p,q,r,s,t]:List Int).set (a:Int).toNat (i64 (bits .and .u64 (b / 2 ^ min ((i64 (4*a)):Int).toNat 64) 15))) 12,nth (([c,d,e,f,g,h,i,j,k,l,m,n,o,p,q,r,s,t]:List Int).set (a:Int).toNat (i64 (bits .and .u64 (b / 2 ^ min ((i64 (4*a)):Int).toNat 64) 15))) 13,nth (([c,d,e,f,g,h,i,j,k,l,m,n,o,p,q,r,s,t]:List Int).set (a:Int).toNat (i64 (bits .and .u64 (b / 2 ^ min ((i64 (4*a)):Int).toNat 64) 15))) 14,nth (([c,d,e,f,g,h,i,j,k,l,m,n,o,p,q,r,s,t]:List Int).set (a:Int).toNat (i64 (bits .and .u64 (b / 2 ^ min ((i64 (4*a)):Int).toNat 64) 15))) 15,nth (([c,d,e,f,g,h,i,j,k,l,m,n,o,p,q,r,s,t]:List Int).set (a:Int).toNat (i64 (bits .and .u64 (b / 2 ^ min ((i64 (4*a)):Int).toNat 64) 15))) 16,nth (([c,d,e,f,g,h,i,j,k,l,m,n,o,p,q,r,s,t]:List Int).set (a:Int).toNat (i64 (bits .and .u64 (b / 2 ^ min ((i64 (4*a)):Int).toNat 64) 15))) 17]:List Int) a))))) (i64 (a+1)) (nth (([c,d,e,f,g,h,i,j,k,l,m,n,o,p,q,r,s,t]:List Int).set (a:Int).toNat (i64 (bits .and .u64 (b / 2 ^ min ((i64 (4*a)):Int).toNat 64) 15))) 0) (nth (([c,d,e,f,g,h,i,j,k,l,m,n,o,p,q,r,s,t]:List Int).set (a:Int).toNat (i64 (bits .and .u64 (b / 2 ^ min ((i64 (4*a)):Int).toNat 64) 15))) 1) (nth (([c,d,e,f,g,h,i,j,k,l,m,n,o,p,q,r,s,t]:List Int).set (a:Int).toNat (i64 (bits .and .u64 (b / 2 ^ min ((i64 (4*a)):Int).toNat 64) 15))) 2) (nth (([c,d,e,f,g,h,i,j,k,l,m,n,o,p,q,r,s,t]:List Int).set (a:Int).toNat (i64 (bits .and .u64 (b / 2 ^ min ((i64 (4*a)):Int).toNat 64) 15))) 3) (nth (([c,d,e,f,g,h,i,j,k,l,m,n,o,p,q,r,s,t]:List Int).set (a:Int).toNat (i64 (bits .and .u64 (b / 2 ^ min ((i64 (4*a)):Int).toNat 64) 15))) 4) (nth (([c,d,e,f,g,h,i,j,k,l,m,n,o,p,q,r,s,t]:List Int).set (a:Int).toNat (i64 (bits .and .u64 (b / 2 ^ min ((i64 (4*a)):Int).toNat 64) 15))) 5) (nth (([c,d,e,f,g,h,i,j,k,l,m,n,o,p,q,r,s,t]:List Int).set (a:Int).toNat (i64 (bits .and .u64 (b / 2 ^ min ((i64 (4*a)):Int).toNat 64) 15))) 6) (nth (([c,d,e,f,g,h,i,j,k,l,m,n,o,p,q,r,s,t]:List Int).set (a:Int).toNat (i64 (bits .and .u64 (b / 2 ^ min ((i64 (4*a)):Int).toNat 64) 15))) 7) (nth (([c,d,e,f,g,h,i,j,k,l,m,n,o,p,q,r,s,t]:List Int).set (a:Int).toNat (i64 (bits .and .u64 (b / 2 ^ min ((i64 (4*a)):Int).toNat 64) 15))) 8) (nth (([c,d,e,f,g,h,i,j,k,l,m,n,o,p,q,r,s,t]:List Int).set (a:Int).toNat (i64 (bits .and .u64 (b / 2 ^ min ((i64 (4*a)):Int).toNat 64) 15))) 9) (nth (([c,d,e,f,g,h,i,j,k,l,m,n,o,p,q,r,s,t]:List Int).set (a:Int).toNat (i64 (bits .and .u64 (b / 2 ^ min ((i64 (4*a)):Int).toNat 64) 15))) 10) (nth (([c,d,e,f,g,h,i,j,k,l,m,n,o,p,q,r,s,t]:List Int).set (a:Int).toNat (i64 (bits .and .u64 (b / 2 ^ min ((i64 (4*a)):Int).toNat 64) 15))) 11) (nth (([c,d,e,f,g,h,i,j,k,l,m,n,o,p,q,r,s,t]:List Int).set (a:Int).toNat (i64 (bits .and .u64 (b / 2 ^ min ((i64 (4*a)):Int).toNat 64) 15))) 12) (nth (([c,d,e,f,g,h,i,j,k,l,m,n,o,p,q,r,s,t]:List Int).set (a:Int).toNat (i64 (bits .and .u64 (b / 2 ^ min ((i64 (4*a)):Int).toNat 64) 15))) 13) (nth (([c,d,e,f,g,h,i,j,k,l,m,n,o,p,q,r,s,t]:List Int).set (a:Int).toNat (i64 (bits .and .u64 (b / 2 ^ min ((i64 (4*a)):Int).toNat 64) 15))) 14) (nth (([c,d,e,f,g,h,i,j,k,l,m,n,o,p,q,r,s,t]:List Int).set (a:Int).toNat (i64 (bits .and .u64 (b / 2 ^ min ((i64 (4*a)):Int).toNat 64) 15))) 15) (nth (([c,d,e,f,g,h,i,j,k,l,m,n,o,p,q,r,s,t]:List Int).set (a:Int).toNat (i64 (bits .and .u64 (b / 2 ^ min ((i64 (4*a)):Int).toNat 64) 15))) 16) (nth (([c,d,e,f,g,h,i,j,k,l,m,n,o,p,q,r,s,t]:List Int).set (a:Int).toNat (i64 (bits .and .u64 (b / 2 ^ min ((i64 (4*a)):Int).toNat 64) 15))) 17)))) else u v c d e f g h i j k l m n o p q r s t
def jr(s:Int):Option yV:=
 Fi (fun(a:Int) (b:Int) (c:Int) (d:Int) (e:Int) (f:Int) (g:Int) (h:Int) (i:Int) (j:Int) (k:Int) (l:Int) (m:Int) (n:Int) (o:Int) (p:Int) (q:Int) (t:Int) (u:Int)=>some (⟨b,c,d,e,f,g,h,i,j,k,l,m,n,o,p,q,Int.tmod a 16,i64 (Int.tdiv a 16)⟩:yV)) fun r=>jf s r wr 0 0 0 0 0 0 0 0 0 0 0 0 0 0 0 0 0 0 0 0
theorem Yr(Z zP r)(h:jr zP=some r){Ek}(hz:PZ [] Ek Z):
  RC 61 #[.int .u64 zP] Ek (.agg #[vi r.a0,vi r.a1,vi r.a2,vi r.a3,vi r.a4,vi r.a5,vi r.a6,vi r.a7,vi r.a8,vi r.a9,vi r.a10,vi r.a11,vi r.a12,vi r.a13,vi r.a14,vi r.a15,vi r.a16,vi r.a17]) [] []:=by
 unfold jr at h
 refine L3 func61 U U ?_
 let C:List Value:=[vi 0,vi 0,vi 0,vi 0,vi 0,vi 0,vi 0,vi 0,vi 0,vi 0,vi 0,vi 0,vi 0,vi 0,vi 0,vi 0,vi 0,vi 0];refine B0q<|Lh 2 (wn (cs:=C) zHX) ?_
 intro ad _
 refine Q0n<|Lb<|Le (Lh 3 (wn (cs:=C) zHX) fun ae _=>Q0n<|B1n U ?_)
 obtain⟨ah,ai,h⟩:=Gg h
 refine Oe (fun E F G H I J K L M N O P Q R S T V Y X=>(ah E F G H I J K L M N O P Q R S T V Y X=some r)) (fun E F G H I J K L M N O P Q R S T V Y X=>[(2,vp ad),(3,vp ae),(4,vi E)]) (fun E F G H I J K L M N O P Q R S T V Y X=>[stb ad 179 C,stb ae 179 [vi F,vi G,vi H,vi I,vi J,vi K,vi L,vi M,vi N,vi O,vi P,vi Q,vi R,vi S,vi T,vi V,vi Y,vi X]]) ?_ ?_
 ·refine B1n U<|WC.block<|Oh (fun ab W a b c d e g i n o p q s t v x y z B D=>(jf zP ah ab W a b c d e g i n o p q s t v x y z B D=some r)) (fun ab W a b c d e g i n o p q s t v x y z B D=>[(0,.int .u64 zP),(2,vp ad),(3,vp ae),(4,vi W),(6,vi a)]) (fun ab W a b c d e g i n o p q s t v x y z B D=>[stb ad 179 C,stb ae 179 [vi b,vi c,vi d,vi e,vi g,vi i,vi n,vi o,vi p,vi q,vi s,vi t,vi v,vi x,vi y,vi z,vi B,vi D]]) (fun ab W a b c d e g i n o p q s t v x y z B D=>ab) ⟨wr,0,0,0,0,0,0,0,0,0,0,0,0,0,0,0,0,0,0,0,0⟩ h .q (.s2 .h1 .here) ?_
  rintro(_|al) W a b c d e g i n o p q s t v x y z B D h;·cases h
  rw[jf] at h
  refine B1n U<|Lb<|Lj h (fun aj h=>?_)<|fun aj h=>?_
  ·refine Ec<|Lb<|WC.block<|B2n U<|Lb<|cK h fun ak h=>cK h fun af h=>Le<|La U<|La U<|La U<|La U<|Lf 13 (oV ak)<|Lf 14 Wz<|Lf 15 (vo underlying24 underlying3)<|Lf 16 (qF zHY af jL) ?_
   let A:=(i64 (bits .and .u64 (zP / 2 ^ min ((i64 (4*a)):Int).toNat 64) 15));refine Ll (aC (l:=([b,c,d,e,g,i,n,o,p,q,s,t,v,x,y,z,B,D]:List Int)) (f:=Value.int .i64) (u:=i64 (bits .and .u64 (zP / 2 ^ min ((i64 (4*a)):Int).toNat 64) 15)) (k:=0) (m:=18) (j:=18) (ds:=[(vi<|nth (([b,c,d,e,g,i,n,o,p,q,s,t,v,x,y,z,B,D]:List Int).set (a:Int).toNat A) 0),(vi<|nth (([b,c,d,e,g,i,n,o,p,q,s,t,v,x,y,z,B,D]:List Int).set (a:Int).toNat A) 1),(vi<|nth (([b,c,d,e,g,i,n,o,p,q,s,t,v,x,y,z,B,D]:List Int).set (a:Int).toNat A) 2),(vi<|nth (([b,c,d,e,g,i,n,o,p,q,s,t,v,x,y,z,B,D]:List Int).set (a:Int).toNat A) 3),(vi<|nth (([b,c,d,e,g,i,n,o,p,q,s,t,v,x,y,z,B,D]:List Int).set (a:Int).toNat A) 4),(vi<|nth (([b,c,d,e,g,i,n,o,p,q,s,t,v,x,y,z,B,D]:List Int).set (a:Int).toNat A) 5),(vi<|nth (([b,c,d,e,g,i,n,o,p,q,s,t,v,x,y,z,B,D]:List Int).set (a:Int).toNat A) 6),(vi<|nth (([b,c,d,e,g,i,n,o,p,q,s,t,v,x,y,z,B,D]:List Int).set (a:Int).toNat A) 7),(vi<|nth (([b,c,d,e,g,i,n,o,p,q,s,t,v,x,y,z,B,D]:List Int).set (a:Int).toNat A) 8),(vi<|nth (([b,c,d,e,g,i,n,o,p,q,s,t,v,x,y,z,B,D]:List Int).set (a:Int).toNat A) 9),(vi<|nth (([b,c,d,e,g,i,n,o,p,q,s,t,v,x,y,z,B,D]:List Int).set (a:Int).toNat A) 10),(vi<|nth (([b,c,d,e,g,i,n,o,p,q,s,t,v,x,y,z,B,D]:List Int).set (a:Int).toNat A) 11),(vi<|nth (([b,c,d,e,g,i,n,o,p,q,s,t,v,x,y,z,B,D]:List Int).set (a:Int).toNat A) 12),(vi<|nth (([b,c,d,e,g,i,n,o,p,q,s,t,v,x,y,z,B,D]:List Int).set (a:Int).toNat A) 13),(vi<|nth (([b,c,d,e,g,i,n,o,p,q,s,t,v,x,y,z,B,D]:List Int).set (a:Int).toNat A) 14),(vi<|nth (([b,c,d,e,g,i,n,o,p,q,s,t,v,x,y,z,B,D]:List Int).set (a:Int).toNat A) 15),(vi<|nth (([b,c,d,e,g,i,n,o,p,q,s,t,v,x,y,z,B,D]:List Int).set (a:Int).toNat A) 16),(vi<|nth (([b,c,d,e,g,i,n,o,p,q,s,t,v,x,y,z,B,D]:List Int).set (a:Int).toNat A) 17)]) jM U U U U .h1 U U af U U) ?_
   exact Q0n<|cK h fun ag h=>D2q U<|Lf 19 (qF zHY ag jL)<|Lf 20 (w8 wm U<|nr (l:=([nth (([b,c,d,e,g,i,n,o,p,q,s,t,v,x,y,z,B,D]:List Int).set (a:Int).toNat A) 0,nth (([b,c,d,e,g,i,n,o,p,q,s,t,v,x,y,z,B,D]:List Int).set (a:Int).toNat A) 1,nth (([b,c,d,e,g,i,n,o,p,q,s,t,v,x,y,z,B,D]:List Int).set (a:Int).toNat A) 2,nth (([b,c,d,e,g,i,n,o,p,q,s,t,v,x,y,z,B,D]:List Int).set (a:Int).toNat A) 3,nth (([b,c,d,e,g,i,n,o,p,q,s,t,v,x,y,z,B,D]:List Int).set (a:Int).toNat A) 4,nth (([b,c,d,e,g,i,n,o,p,q,s,t,v,x,y,z,B,D]:List Int).set (a:Int).toNat A) 5,nth (([b,c,d,e,g,i,n,o,p,q,s,t,v,x,y,z,B,D]:List Int).set (a:Int).toNat A) 6,nth (([b,c,d,e,g,i,n,o,p,q,s,t,v,x,y,z,B,D]:List Int).set (a:Int).toNat A) 7,nth (([b,c,d,e,g,i,n,o,p,q,s,t,v,x,y,z,B,D]:List Int).set (a:Int).toNat A) 8,nth (([b,c,d,e,g,i,n,o,p,q,s,t,v,x,y,z,B,D]:List Int).set (a:Int).toNat A) 9,nth (([b,c,d,e,g,i,n,o,p,q,s,t,v,x,y,z,B,D]:List Int).set (a:Int).toNat A) 10,nth (([b,c,d,e,g,i,n,o,p,q,s,t,v,x,y,z,B,D]:List Int).set (a:Int).toNat A) 11,nth (([b,c,d,e,g,i,n,o,p,q,s,t,v,x,y,z,B,D]:List Int).set (a:Int).toNat A) 12,nth (([b,c,d,e,g,i,n,o,p,q,s,t,v,x,y,z,B,D]:List Int).set (a:Int).toNat A) 13,nth (([b,c,d,e,g,i,n,o,p,q,s,t,v,x,y,z,B,D]:List Int).set (a:Int).toNat A) 14,nth (([b,c,d,e,g,i,n,o,p,q,s,t,v,x,y,z,B,D]:List Int).set (a:Int).toNat A) 15,nth (([b,c,d,e,g,i,n,o,p,q,s,t,v,x,y,z,B,D]:List Int).set (a:Int).toNat A) 16,nth (([b,c,d,e,g,i,n,o,p,q,s,t,v,x,y,z,B,D]:List Int).set (a:Int).toNat A) 17]:List Int)) (f:=Value.int .i64) (k:=0) (m:=18) .here U U ag)<|Q3q U<|WL.nil<|Lq<|Ld<|D2q U<|WL.nil<|Em ⟨al,i64 (W+(i64 (15-(nth ([nth (([b,c,d,e,g,i,n,o,p,q,s,t,v,x,y,z,B,D]:List Int).set (a:Int).toNat A) 0,nth (([b,c,d,e,g,i,n,o,p,q,s,t,v,x,y,z,B,D]:List Int).set (a:Int).toNat A) 1,nth (([b,c,d,e,g,i,n,o,p,q,s,t,v,x,y,z,B,D]:List Int).set (a:Int).toNat A) 2,nth (([b,c,d,e,g,i,n,o,p,q,s,t,v,x,y,z,B,D]:List Int).set (a:Int).toNat A) 3,nth (([b,c,d,e,g,i,n,o,p,q,s,t,v,x,y,z,B,D]:List Int).set (a:Int).toNat A) 4,nth (([b,c,d,e,g,i,n,o,p,q,s,t,v,x,y,z,B,D]:List Int).set (a:Int).toNat A) 5,nth (([b,c,d,e,g,i,n,o,p,q,s,t,v,x,y,z,B,D]:List Int).set (a:Int).toNat A) 6,nth (([b,c,d,e,g,i,n,o,p,q,s,t,v,x,y,z,B,D]:List Int).set (a:Int).toNat A) 7,nth (([b,c,d,e,g,i,n,o,p,q,s,t,v,x,y,z,B,D]:List Int).set (a:Int).toNat A) 8,nth (([b,c,d,e,g,i,n,o,p,q,s,t,v,x,y,z,B,D]:List Int).set (a:Int).toNat A) 9,nth (([b,c,d,e,g,i,n,o,p,q,s,t,v,x,y,z,B,D]:List Int).set (a:Int).toNat A) 10,nth (([b,c,d,e,g,i,n,o,p,q,s,t,v,x,y,z,B,D]:List Int).set (a:Int).toNat A) 11,nth (([b,c,d,e,g,i,n,o,p,q,s,t,v,x,y,z,B,D]:List Int).set (a:Int).toNat A) 12,nth (([b,c,d,e,g,i,n,o,p,q,s,t,v,x,y,z,B,D]:List Int).set (a:Int).toNat A) 13,nth (([b,c,d,e,g,i,n,o,p,q,s,t,v,x,y,z,B,D]:List Int).set (a:Int).toNat A) 14,nth (([b,c,d,e,g,i,n,o,p,q,s,t,v,x,y,z,B,D]:List Int).set (a:Int).toNat A) 15,nth (([b,c,d,e,g,i,n,o,p,q,s,t,v,x,y,z,B,D]:List Int).set (a:Int).toNat A) 16,nth (([b,c,d,e,g,i,n,o,p,q,s,t,v,x,y,z,B,D]:List Int).set (a:Int).toNat A) 17]:List Int) a)))),i64 (a+1),nth (([b,c,d,e,g,i,n,o,p,q,s,t,v,x,y,z,B,D]:List Int).set (a:Int).toNat A) 0,nth (([b,c,d,e,g,i,n,o,p,q,s,t,v,x,y,z,B,D]:List Int).set (a:Int).toNat A) 1,nth (([b,c,d,e,g,i,n,o,p,q,s,t,v,x,y,z,B,D]:List Int).set (a:Int).toNat A) 2,nth (([b,c,d,e,g,i,n,o,p,q,s,t,v,x,y,z,B,D]:List Int).set (a:Int).toNat A) 3,nth (([b,c,d,e,g,i,n,o,p,q,s,t,v,x,y,z,B,D]:List Int).set (a:Int).toNat A) 4,nth (([b,c,d,e,g,i,n,o,p,q,s,t,v,x,y,z,B,D]:List Int).set (a:Int).toNat A) 5,nth (([b,c,d,e,g,i,n,o,p,q,s,t,v,x,y,z,B,D]:List Int).set (a:Int).toNat A) 6,nth (([b,c,d,e,g,i,n,o,p,q,s,t,v,x,y,z,B,D]:List Int).set (a:Int).toNat A) 7,nth (([b,c,d,e,g,i,n,o,p,q,s,t,v,x,y,z,B,D]:List Int).set (a:Int).toNat A) 8,nth (([b,c,d,e,g,i,n,o,p,q,s,t,v,x,y,z,B,D]:List Int).set (a:Int).toNat A) 9,nth (([b,c,d,e,g,i,n,o,p,q,s,t,v,x,y,z,B,D]:List Int).set (a:Int).toNat A) 10,nth (([b,c,d,e,g,i,n,o,p,q,s,t,v,x,y,z,B,D]:List Int).set (a:Int).toNat A) 11,nth (([b,c,d,e,g,i,n,o,p,q,s,t,v,x,y,z,B,D]:List Int).set (a:Int).toNat A) 12,nth (([b,c,d,e,g,i,n,o,p,q,s,t,v,x,y,z,B,D]:List Int).set (a:Int).toNat A) 13,nth (([b,c,d,e,g,i,n,o,p,q,s,t,v,x,y,z,B,D]:List Int).set (a:Int).toNat A) 14,nth (([b,c,d,e,g,i,n,o,p,q,s,t,v,x,y,z,B,D]:List Int).set (a:Int).toNat A) 15,nth (([b,c,d,e,g,i,n,o,p,q,s,t,v,x,y,z,B,D]:List Int).set (a:Int).toNat A) 16,nth (([b,c,d,e,g,i,n,o,p,q,s,t,v,x,y,z,B,D]:List Int).set (a:Int).toNat A) 17⟩ h (Nat.lt_succ_self _) .q<|.s2 .h1 .here
  ·exact En<|Ln<|Ln<|Lu<|Lp ⟨W,b,c,d,e,g,i,n,o,p,q,s,t,v,x,y,z,B,D⟩ h .q<|.a2
 ·rintro E F G H I J K L M N O P Q R S T V Y X h
  replace h:=(ai E F G H I J K L M N O P Q R S T V Y X).symm.trans h
  exact B1q U<|Lf 25 (et (by decide))<|La U<|Lf 27 (cM (by decide))<|Lf 28 (WK z1es U U U)<|Ll (vg (ds:=[vi F,vi G,vi H,vi I,vi J,vi K,vi L,vi M,vi N,vi O,vi P,vi Q,vi R,vi S,vi T,vi V,(vi<|Int.tmod E 16),vi X]) jM .h1)<|Lf 29 (WK z1et U U U)<|Ll (vg (ds:=[vi F,vi G,vi H,vi I,vi J,vi K,vi L,vi M,vi N,vi O,vi P,vi Q,vi R,vi S,vi T,vi V,(vi<|Int.tmod E 16),(vi<|i64<|Int.tdiv E 16)]) jM .here)<|Q0n<|B0q<|Lf 30 (we zZz (wh .here))<|Ll (wl zO2 .h1)<|Q0n<|El<|oJ h▸Eb results61 (.agg U zZz U (wh .here) .nil) .nil
def rA(b:Int)(a:yV)(e:Int)(f:Int):Option Int:=
 chk (0<=b/\b<18) ((t8 e f b).bind fun c=>(mi b 0 (nth ([a.a0,a.a1,a.a2,a.a3,a.a4,a.a5,a.a6,a.a7,a.a8,a.a9,a.a10,a.a11,a.a12,a.a13,a.a14,a.a15,a.a16,a.a17]:List Int) b) c).bind fun d=>some d)
theorem QJ(Z b c d g a i j r)(h:rA g a i j=some r){Ek}(hz:PZ [] Ek Z)(n:ZC Z b [vi a.a0,vi a.a1,vi a.a2,vi a.a3,vi a.a4,vi a.a5,vi a.a6,vi a.a7,vi a.a8,vi a.a9,vi a.a10,vi a.a11,vi a.a12,vi a.a13,vi a.a14,vi a.a15,vi a.a16,vi a.a17])(o:ZC Z c [.int .u64 i])(p:ZC Z d [vi j]):
  RC 63 #[vi g,vq b,vq c,vq d] Ek (.int .u64 r) [] []:=by
 unfold rA at h
 exact Nl func63 U U<|B1n U<|Lb<|cK h fun e h=>bK h fun t q h=>bK h fun u s h=>Lv nc []<|Lg 0 U q_m<|Lg 1 U q_m<|Lg 2 U (qF zHY e WP)<|Li 3 U (w8 wm U<|ns (l:=([a.a0,a.a1,a.a2,a.a3,a.a4,a.a5,a.a6,a.a7,a.a8,a.a9,a.a10,a.a11,a.a12,a.a13,a.a14,a.a15,a.a16,a.a17]:List Int)) (f:=Value.int .i64) (k:=0) (m:=18) hz.pv n U e)<|Li 4 U (w8 z4O U<|vx hz.pv o)<|Li 5 U (w8 wm U<|vx hz.pv p)<|Lg 6 U q_m<|L5 7 U (Eh call65) (cc hz .nil fun w pz ho=>Yp _ _ _ _ _ q pz )<|L5 8 U (Eh call64) (cc hz .nil fun w pz ho=>cE _ _ _ _ _ _ s pz )<|Lg 9 U q_z<|Eo (by kernel_rfl)<|Ld<|El<|oJ h▸Ea results63
def ov(b:List Int)(c:List Int)(a:Int):Option (Bool×(Nat×List Int×Int)):=
 vC (fun(e:List Int)=>some (true,(0,e,i64 (Int.tdiv a 2)))) fun d=>if decide ((b.length:Int)>1) then chk (0<=(bits .xor .i64 a 1)/\(bits .xor .i64 a 1)<b.length) (chk ((((c++([nth b (bits .xor .i64 a 1)]:List Int)).length:Nat):Int)*8<=140737488355328/\(((c++([nth b (bits .xor .i64 a 1)]:List Int)).length:Nat):Int)<=4611686018427387904) (d (c++([nth b (bits .xor .i64 a 1)]:List Int)))) else d c
def rI(b:Int)(c:Int)(a:Int)(e:Int):Option yC:=
 (ki c a).bind fun f=>if !f then none else(jr e).bind fun j=>(fW (fun(y0:Int)=>rA y0 j b a)).bind fun k=>vC (fun(g:List Int)=>some (⟨a,k,g⟩:yC)) fun h=>(t7 b c).bind fun d=>(mN (Nat×List Int×Int) (fun(x:List Int) (s:Nat×List Int×Int)=>chk (s.1=0) (ov x s.2.1 s.2.2)) (0,([]:List Int),a) d.1 d.2).bind fun i=>h i.2.1
theorem XT(Z o ad c ae r)(h:rI o ad c ae=some r){Ek}(hz:PZ [] Ek Z):
  Calls Tryz.prog 22 #[.int .u64 o,vi ad,vi c,.int .u64 ae] Ek fun e w'=>∃ ah:Option Addr,∃ ai:Nat,e = .returned (.tuple #[.agg #[vi r.yK,.int .u64 r.y4.a0,.int .u64 r.y4.a1,.int .u64 r.y4.a2,.int .u64 r.y4.a3,.int .u64 r.y4.a4,.int .u64 r.y4.a5,.int .u64 r.y4.a6,.int .u64 r.y4.a7,.int .u64 r.y4.a8,.int .u64 r.y4.a9,.int .u64 r.y4.a10,.int .u64 r.y4.a11,.int .u64 r.y4.a12,.int .u64 r.y4.a13,.int .u64 r.y4.a14,.int .u64 r.y4.a15,.int .u64 r.y4.a16,.int .u64 r.y4.a17,vs ah r.yr.length ai],vi 0])/\True/\Hp [] Ek w' [row (vs ah r.yr.length ai) 24 1 (r.yr.flatMap vK)]:=by
 unfold rI at h
 refine E7 (vs:=[.int .u64 o,vi ad,vi c,.int .u64 ae]) (pre:=[]) (env:=[(0,.int .u64 o),(1,vi ad),(2,vi c),(3,.int .u64 ae)]) func22 U ntmps22 (Hp.nil Ek _) U<|Lb<|Le (Lh 4 (wu (cs:=[.int .u64 o])) fun z _=>Lh 6 (wu (cs:=[vi c])) ?_)
 intro q _
 let C:List Value:=[vi 0,.int .u64 0,.int .u64 0,.int .u64 0,.int .u64 0,.int .u64 0,.int .u64 0,.int .u64 0,.int .u64 0,.int .u64 0,.int .u64 0,.int .u64 0,.int .u64 0,.int .u64 0,.int .u64 0,.int .u64 0,.int .u64 0,.int .u64 0,.int .u64 0,vn];refine Lh 8 (wn (cs:=C) zvC) ?_
 intro u _
 refine Q1n U<|Lb<|Lb<|bK h fun aG au h=>D1q U<|Lf 14 (Ei wm .h1)<|Eg call20 hz (pO _ _ _ _ au)<|Q1n U<|Lj h (fun av h=>?_)<|fun av h=>?_
 ·cases h
 ·refine Ec<|Lb<|bK h fun j aw h=>D1q U<|Eg call61 hz (Yr _ _ _ aw) (Lh 10 (wn (cs:=[vi 0,vi 0,vi 0,vi 0,vi 0,vi 0,vi 0,vi 0,vi 0,vi 0,vi 0,vi 0,vi 0,vi 0,vi 0,vi 0,vi 0,vi 0]) zHX) fun N _=>Ll (wl zO2 .here)<|Q0n<|B0q<|Lf 20 (Ei wm .h2)<|Lf 21 (wN (v:=(.agg #[vi c,.int .u64 0,.int .u64 0,.int .u64 0,.int .u64 0,.int .u64 0,.int .u64 0,.int .u64 0,.int .u64 0,.int .u64 0,.int .u64 0,.int .u64 0,.int .u64 0,.int .u64 0,.int .u64 0,.int .u64 0,.int .u64 0,.int .u64 0,.int .u64 0,vn])) (Lt (l:=[.tmp 20]) (.cons U .nil) [0]) (fun _=>by kernel_rfl)) (Lh 11 (wn (cs:=C) zvC) fun t _=>Ll (wl zk4 .here)<|Q0n<|Lb ?_))
  refine bK h fun a ax h=>Le<|Lf 22 (wO<|L6 (l:=[.tmp 10,.tmp 4,.tmp 6])<|.r3 U U U)<|Lm 23 (Eh call62) .nil (kb hz .nil (.s3 .h1 .h3 .h2) fun w pz ho la=>l0 _ (zj9:=63) (zr2:=[vp N,vp z,vp q]) (zdh:=(fun(y0:Int)=>rA y0 j o c)) _ ax pz call63<|fun w' nd y0  r  hr=>QJ _ _ _ _ _ _ _ _ _ hr nd ((la _ (.head _) _).stb) ((la _ (.tail _<|.head _) _).stb)<|(la _ (.tail _<|.tail _<|.head _) _).stb)<|Lf 24 (w7 Xt)<|Ll (vg (ds:=[vi c,.int .u64 a.a0,.int .u64 a.a1,.int .u64 a.a2,.int .u64 a.a3,.int .u64 a.a4,.int .u64 a.a5,.int .u64 a.a6,.int .u64 a.a7,.int .u64 a.a8,.int .u64 a.a9,.int .u64 a.a10,.int .u64 a.a11,.int .u64 a.a12,.int .u64 a.a13,.int .u64 a.a14,.int .u64 a.a15,.int .u64 a.a16,.int .u64 a.a17,vn]) zO1 .here)<|Q0n<|jK1 h fun aI ay h=>Oc (fun aa R X Y=>(aI R=some r)) (fun aa R X Y=>[(8,vp u),(11,vp t)]) (fun aa R X Y=>[stb u 40 C,stb t 40 [vi c,.int .u64 a.a0,.int .u64 a.a1,.int .u64 a.a2,.int .u64 a.a3,.int .u64 a.a4,.int .u64 a.a5,.int .u64 a.a6,.int .u64 a.a7,.int .u64 a.a8,.int .u64 a.a9,.int .u64 a.a10,.int .u64 a.a11,.int .u64 a.a12,.int .u64 a.a13,.int .u64 a.a14,.int .u64 a.a15,.int .u64 a.a16,.int .u64 a.a17,vs X R.length Y],row (vs X R.length Y) 24 1 (R.flatMap vK),wW aa]) ?_ ?_
  ·refine Lb<|bK h fun b az h=>Le<|Lf 25 (Ei z4O .h4)<|La U<|L7 (dd:=27) U (Eh call21) .nil (cc hz .nil fun w pz ho=>Yo _ _ _ _ az pz ) ?_
   rintro k m _
   refine Q0n<|WC.block<|WC.drop (.s7 .h2 .h2 .h2 .h2 .h2 .here .here)<|WC.nilRow 24 1<|Ez (f:=58) (caps:=[vp k,vp m]) U call58 ?_
   intro aM aN O n S af aA aB w hw
   let E:List Value:=[vi j.a0,vi j.a1,vi j.a2,vi j.a3,vi j.a4,vi j.a5,vi j.a6,vi j.a7,vi j.a8,vi j.a9,vi j.a10,vi j.a11,vi j.a12,vi j.a13,vi j.a14,vi j.a15,vi j.a16,vi j.a17];let K:Value:=(vs none (([]:List Int).length) 0);let A:List Asrt:=[stb t 40 [vi c,.int .u64 a.a0,.int .u64 a.a1,.int .u64 a.a2,.int .u64 a.a3,.int .u64 a.a4,.int .u64 a.a5,.int .u64 a.a6,.int .u64 a.a7,.int .u64 a.a8,.int .u64 a.a9,.int .u64 a.a10,.int .u64 a.a11,.int .u64 a.a12,.int .u64 a.a13,.int .u64 a.a14,.int .u64 a.a15,.int .u64 a.a16,.int .u64 a.a17,K],row K 24 1 (([]:List Int).flatMap vK),stb N 179 E,stb u 40 C,stb q 3 [vi c],stb z 24 [.int .u64 o],wA O (S .ready none)];have hw1:=hw.selAll ((.s7 .h3 .h2 .h2 .h2 .h2 .h2 .here):Sel _ A _)
   let H:List Asrt:=[stb k 3 [vi b.1],stb m 24 [.int .u64 b.2]];have pz:=(hz.call hw1 ((.cons .here .nil):Sel [wM A,wW n,stb k 3 [vi b.1],stb m 24 [.int .u64 b.2]] [wM A] [wW n,stb k 3 [vi b.1],stb m 24 [.int .u64 b.2]])).lend hw1 ((.cons .here .nil):Sel [wM A,wW n,stb k 3 [vi b.1],stb m 24 [.int .u64 b.2]] [wM A] [wW n,stb k 3 [vi b.1],stb m 24 [.int .u64 b.2]]) (B:=H) (fun _ nY=>((.s2 .h1 .h1):Sel _ H _).mem nY)
   refine bK h fun p aC h=>Calls.mono (eM (Z:=_) (zja:=O) (zn0:=(Option Addr×Nat)) (zay:=(fun(g:Option Addr×Nat) (s:Nat×List Int×Int)=>wM ([stb t 40 [vi c,.int .u64 a.a0,.int .u64 a.a1,.int .u64 a.a2,.int .u64 a.a3,.int .u64 a.a4,.int .u64 a.a5,.int .u64 a.a6,.int .u64 a.a7,.int .u64 a.a8,.int .u64 a.a9,.int .u64 a.a10,.int .u64 a.a11,.int .u64 a.a12,.int .u64 a.a13,.int .u64 a.a14,.int .u64 a.a15,.int .u64 a.a16,.int .u64 a.a17,vs g.1 s.2.1.length g.2],row (vs g.1 s.2.1.length g.2) 24 1 (s.2.1.flatMap vK),stb N 179 E,stb u 40 C,stb q 3 [vi s.2.2],stb z 24 [.int .u64 o]]++[wA O (S (ka<|vY [] s.1)<|vY [] s.1)]))) (zuj:=(fun(g:Option Addr×Nat) (s:Nat×List Int×Int)=>True)) (zjb:=(none,0)) (zMw:=⟨k,0,none⟩) (zGx:=⟨m,0,none⟩) (z2o:=(Nat×List Int×Int)) (zfa:=(fun(x:List Int) (s:Nat×List Int×Int)=>chk (s.1=0)<|ov x s.2.1 s.2.2)) (ze9:=(0,([]:List Int),c)) (z4G:=b.1) (zf9:=b.2) (r:=p) pz ?_ trivial ((hw1.lent ((.cons .here .nil):Sel [wM A,wW n,stb k 3 [vi b.1],stb m 24 [.int .u64 b.2]] [wM A] [wW n,stb k 3 [vi b.1],stb m 24 [.int .u64 b.2]]) (B:=H) (fun _ nY=>((.s2 .h1 .h1):Sel _ H _).mem nY) (.head _) _).stb) ((hw1.lent ((.cons .here .nil):Sel [wM A,wW n,stb k 3 [vi b.1],stb m 24 [.int .u64 b.2]] [wM A] [wW n,stb k 3 [vi b.1],stb m 24 [.int .u64 b.2]]) (B:=H) (fun _ nY=>((.s2 .h1 .h1):Sel _ H _).mem nY) (.tail _<|.head _) _).stb) aC<|hw1.owns ((.cons .here .nil):Sel [wM A,wW n,stb k 3 [vi b.1],stb m 24 [.int .u64 b.2]] [wM A] [wW n,stb k 3 [vi b.1],stb m 24 [.int .u64 b.2]])) ?_
   ·refine YW (LI:=(fun(g:Option Addr×Nat) (s:Nat×List Int×Int)=>[stb t 40 [vi c,.int .u64 a.a0,.int .u64 a.a1,.int .u64 a.a2,.int .u64 a.a3,.int .u64 a.a4,.int .u64 a.a5,.int .u64 a.a6,.int .u64 a.a7,.int .u64 a.a8,.int .u64 a.a9,.int .u64 a.a10,.int .u64 a.a11,.int .u64 a.a12,.int .u64 a.a13,.int .u64 a.a14,.int .u64 a.a15,.int .u64 a.a16,.int .u64 a.a17,vs g.1 s.2.1.length g.2],row (vs g.1 s.2.1.length g.2) 24 1 (s.2.1.flatMap vK),stb N 179 E,stb u 40 C,stb q 3 [vi s.2.2],stb z 24 [.int .u64 o]])) (pc:=(fun(s:Nat×List Int×Int)=>vY [] s.1)) af aA aB (fun _ _=>U) (by decide) ?_
    rintro P ⟨aJ,aK⟩ ⟨ao,ap⟩ ⟨aD,T,Q⟩ aj ak Fb wb al _ _ hz
    replace hz:=hz.left
    letI:Rnd:=rX O
    obtain⟨vj,d⟩:=wa al
    replace vj:aD=0:=vj;subst vj;clear al
    replace d:ov P T Q=some (aj,ak):=d
    unfold ov at d
    let J:Value:=(vs aJ P.length aK);let L:Value:=(vs ao T.length ap);refine WC.restr (env':=[(6,vp q),(16,.bool (!aG)),(11,vp t),(28,J)]) (.qo U)<|N4 (L':=[row J 24 1 (P.flatMap vK),stb t 40 [vi c,.int .u64 a.a0,.int .u64 a.a1,.int .u64 a.a2,.int .u64 a.a3,.int .u64 a.a4,.int .u64 a.a5,.int .u64 a.a6,.int .u64 a.a7,.int .u64 a.a8,.int .u64 a.a9,.int .u64 a.a10,.int .u64 a.a11,.int .u64 a.a12,.int .u64 a.a13,.int .u64 a.a14,.int .u64 a.a15,.int .u64 a.a16,.int .u64 a.a17,L],row L 24 1 (T.flatMap vK),stb N 179 E,stb u 40 C,stb q 3 [vi Q],stb z 24 [.int .u64 o],wA O (S .ready none)]) U<|D1q U<|WL.nil<|N0 af .h7<|WC.block ?_
    obtain⟨aL,aE,d⟩:=wE d
    refine Nf (fun y V W=>(aL y=some (aj,ak))) (fun y V W=>[(6,vp q)]) (fun y V W=>[row J 24 1 (P.flatMap vK),stb q 3 [vi Q],stb t 40 [vi c,.int .u64 a.a0,.int .u64 a.a1,.int .u64 a.a2,.int .u64 a.a3,.int .u64 a.a4,.int .u64 a.a5,.int .u64 a.a6,.int .u64 a.a7,.int .u64 a.a8,.int .u64 a.a9,.int .u64 a.a10,.int .u64 a.a11,.int .u64 a.a12,.int .u64 a.a13,.int .u64 a.a14,.int .u64 a.a15,.int .u64 a.a16,.int .u64 a.a17,vs V y.length W],row (vs V y.length W) 24 1 (y.flatMap vK),stb N 179 E,stb u 40 C,stb z 24 [.int .u64 o],wA O (S .busy none)]) ?_ ?_
    ·refine B1q U<|Lf 30 (wB underlying38)<|Q1n U<|Er (fun ag=>?_)<|fun ag=>?_
     ·replace d:=qf d ag
      obtain⟨ab,d⟩:=wa d
      obtain⟨aF,d⟩:=wa d
      refine Lv (fun i=>[8,10].contains i) []<|Lg 0 U (w7 lH)<|Li 1 U (Ei zvD .h2)<|Lg 2 U q_m<|Li 3 U (Ei wm .h6)<|Lg 4 U aH<|Eu (fun w hw=>Hp.vr .h1 hw (by intro nd;have:=ab;rw[nd] at this;omega)) ?_
      rintro⟨aO,rfl⟩
      refine Lg 5 U (wL zcJ ab.1 ab.2 vB)<|Li 6 U (w8 z4O U<|gt .h1<|(qm (enc:=vK) (l:=P) (i:=bits .xor .i64 Q 1) (sz:=1) (fun _=>U) ab.1 ab.2) 0 _ U) (WD.new (i:=7) (dd:=39) U (by kernel_rfl) U (wD (cs:=([(nth P<|bits .xor .i64 Q 1)]:List Int).flatMap vK) zcJ (Lt (l:=[.tmp 38]) (.cons U .nil) [0]) (fun _=>by kernel_rfl) (by unfold maxLen;omega)) (fun h'=>absurd h' (by decide)) fun aP _=>WD.old (i:=8) (dd:=40) U (by kernel_rfl) U (fun _=>(wS.of .nil)) (vb (enc:=vK) (l1:=T) (l2:=([(nth P<|bits .xor .i64 Q 1)]:List Int)) zcJ .h4 (fun _=>U) (wY .here) (vm GH _) aF) ?_)
      rintro⟨am,an⟩ _
      exact Lg 9 U (w7 lH)<|Nb (i:=10) U (by kernel_rfl) (by kernel_rfl) (vg (ds:=[vi c,.int .u64 a.a0,.int .u64 a.a1,.int .u64 a.a2,.int .u64 a.a3,.int .u64 a.a4,.int .u64 a.a5,.int .u64 a.a6,.int .u64 a.a7,.int .u64 a.a8,.int .u64 a.a9,.int .u64 a.a10,.int .u64 a.a11,.int .u64 a.a12,.int .u64 a.a13,.int .u64 a.a14,.int .u64 a.a15,.int .u64 a.a16,.int .u64 a.a17,vs am ((T++([(nth P<|bits .xor .i64 Q 1)]:List Int)).length) an]) zZA .h4)<|Eo (by kernel_rfl)<|Lp ⟨T++([(nth P<|bits .xor .i64 Q 1)]:List Int),am,an⟩ d (.cons U .nil)<|.s8 .h4 .h6 .here .here .h2 .h2 .h2 .h1
     ·replace d:=qg d ag
      exact Ep<|Lp ⟨T,ao,ap⟩ d (.cons U .nil)<|.s8 .h1 .h5 .h1 .h1 .h1 .h1 .h1 .here
    ·rintro y V W d
     replace d:=(aE y).symm.trans d
     refine Le<|Lf 42 (Ei wm .h1)<|Lf 43 (cM (by decide))<|Ll (wl jM .h1)<|WL.nil<|Lq ?_
     obtain⟨rfl,rfl⟩:=tj d
     let M:Value:=(vs V y.length W);exact Nt af .h7<|fun w' pQ=>⟨(V,W),U,trivial,(pQ.selAll ((.s7 .h3 .h3 .h3 .h3 .h1 .h2 .here):Sel _ [stb t 40 [vi c,.int .u64 a.a0,.int .u64 a.a1,.int .u64 a.a2,.int .u64 a.a3,.int .u64 a.a4,.int .u64 a.a5,.int .u64 a.a6,.int .u64 a.a7,.int .u64 a.a8,.int .u64 a.a9,.int .u64 a.a10,.int .u64 a.a11,.int .u64 a.a12,.int .u64 a.a13,.int .u64 a.a14,.int .u64 a.a15,.int .u64 a.a16,.int .u64 a.a17,M],row M 24 1 (y.flatMap vK),stb N 179 E,stb u 40 C,stb q 3 [(vi<|i64<|Int.tdiv Q 2)],stb z 24 [.int .u64 o],wA O (S .ready none)] _)).sub (.s2 .h1 .here)⟩
   ·rintro _ w' ⟨⟨aq,ar⟩,rfl,_,hp⟩
    have uY:=hw1.call ((.cons .here .nil):Sel [wM A,wW n,stb k 3 [vi b.1],stb m 24 [.int .u64 b.2]] [wM A] [wW n,stb k 3 [vi b.1],stb m 24 [.int .u64 b.2]]) hp
    let I:Value:=(vs aq p.2.1.length ar);let F:List Value:=[vi c,.int .u64 a.a0,.int .u64 a.a1,.int .u64 a.a2,.int .u64 a.a3,.int .u64 a.a4,.int .u64 a.a5,.int .u64 a.a6,.int .u64 a.a7,.int .u64 a.a8,.int .u64 a.a9,.int .u64 a.a10,.int .u64 a.a11,.int .u64 a.a12,.int .u64 a.a13,.int .u64 a.a14,.int .u64 a.a15,.int .u64 a.a16,.int .u64 a.a17,I];have wQ:Hp _ _ w' [stb t 40 F,row I 24 1 (p.2.1.flatMap vK),stb N 179 E,stb u 40 C,stb q 3 [vi p.2.2],stb z 24 [.int .u64 o],wA O (S (ka (vY [] p.1)) (vY [] p.1)),wW n,stb k 3 [vi b.1],stb m 24 [.int .u64 b.2]]:=uY.pickAll .here
    refine⟨_,vY [] p.1,_,U,wQ.sub ((.s10 .h6 .here .here .here .here .here .here .here .here .here):Sel _ [wA O (S (ka (vY [] p.1)) (vY [] p.1)),stb t 40 F,row I 24 1 (p.2.1.flatMap vK),stb N 179 E,stb u 40 C,stb q 3 [vi p.2.2],stb z 24 [.int .u64 o],wW n,stb k 3 [vi b.1],stb m 24 [.int .u64 b.2]] _),?_⟩
    clear hp uY wQ pz hw hw1
    refine wjN ?_
    letI:Rnd:=fO n
    exact Lq<|Nz (D:=fun(g:Nat×List Int×Option Addr×Nat)=>g.1) (G:=Nat×List Int×Option Addr×Nat) ⟨n,p.2.1,aq,ar⟩ h .q<|.s4 .h3 .here .here .h3
  ·rintro aa R X Y h
   replace h:=(ay R).symm.trans h
   letI:Rnd:=fO aa
   refine B0q<|Lf 44 (we zk5 (wh .h1))<|Ll (wl zk4 .here)<|Q1n U<|El ?_
   obtain rfl:=oJ h
   exact Hd .h3 results22 (.agg U zk5 U (wh .h1)<|.tmp U .nil)<|fun w hw=>⟨X,Y,qq,trivial,hw.sub (.cons .h3 .nil)⟩
def kZ(a:yC)(e:(List Int)->Option (List Int)):Nat->(List Int)->Int->Option (List Int)
 | 0,_,_=>none
 | f+1,c,b=>if decide (b<18) then chk (0<=b/\b<18) ((jy (nth ([a.y4.a0,a.y4.a1,a.y4.a2,a.y4.a3,a.y4.a4,a.y4.a5,a.y4.a6,a.y4.a7,a.y4.a8,a.y4.a9,a.y4.a10,a.y4.a11,a.y4.a12,a.y4.a13,a.y4.a14,a.y4.a15,a.y4.a16,a.y4.a17]:List Int) b)).bind fun d=>chk (((c++d).length:Int)*1<=140737488355328/\((c++d).length:Int)<=4611686018427387904) (kZ a e f (c++d) (i64 (b+1)))) else e c
def gR(c:yC)(e:(List Int)->Option (List Int)):Nat->(List Int)->Int->Option (List Int)
 | 0,_,_=>none
 | f+1,b,a=>if decide (a<c.yr.length) then chk (0<=a/\a<c.yr.length) ((jy (nth c.yr a)).bind fun d=>chk (((b++d).length:Int)*1<=140737488355328/\((b++d).length:Int)<=4611686018427387904) (gR c e f (b++d) (i64 (a+1)))) else e b
def ta(a:yC):Option (List Int):=
 (ki (a.yr.length:Int) a.yK).bind fun b=>if !b then none else vC (fun(c:List Int)=>vC (fun(d:List Int)=>some d) fun e=>gR a e wr c 0) fun f=>kZ a f wr ([u8 a.yK,u8 (a.yr.length:Int)]:List Int) 0
theorem Ys(Z z B a r)(h:ta a=some r){Ek}(hz:PZ [] Ek Z)(J:ZS Z 1 (rq vK) z B a.yr):
  Calls Tryz.prog 68 #[.agg #[vi a.yK,.int .u64 a.y4.a0,.int .u64 a.y4.a1,.int .u64 a.y4.a2,.int .u64 a.y4.a3,.int .u64 a.y4.a4,.int .u64 a.y4.a5,.int .u64 a.y4.a6,.int .u64 a.y4.a7,.int .u64 a.y4.a8,.int .u64 a.y4.a9,.int .u64 a.y4.a10,.int .u64 a.y4.a11,.int .u64 a.y4.a12,.int .u64 a.y4.a13,.int .u64 a.y4.a14,.int .u64 a.y4.a15,.int .u64 a.y4.a16,.int .u64 a.y4.a17,vs z a.yr.length B]] Ek fun e w'=>∃ D:Option Addr,∃ E:Nat,e = .returned (.tuple #[vs D r.length E,vi 0])/\True/\Hp [] Ek w' [row (vs D r.length E) 5 1 (r.flatMap e5)]:=by
 unfold ta at h
 refine L3 func68 U U ?_
 let C:Value:=(vs z a.yr.length B);let A:List Value:=[vi a.yK,.int .u64 a.y4.a0,.int .u64 a.y4.a1,.int .u64 a.y4.a2,.int .u64 a.y4.a3,.int .u64 a.y4.a4,.int .u64 a.y4.a5,.int .u64 a.y4.a6,.int .u64 a.y4.a7,.int .u64 a.y4.a8,.int .u64 a.y4.a9,.int .u64 a.y4.a10,.int .u64 a.y4.a11,.int .u64 a.y4.a12,.int .u64 a.y4.a13,.int .u64 a.y4.a14,.int .u64 a.y4.a15,.int .u64 a.y4.a16,.int .u64 a.y4.a17,C];refine B0q<|Lh 1 (wu (cs:=A)) ?_
 intro y _
 refine Q2n U<|B0q<|Lf 10 (w7 lH)<|Lf 11 (Ei zvD .here)<|Lf 12 (wB underlying38)<|Q1n U<|Lb<|Lb<|bK h fun ah K h=>D1q U<|Lf 14 (w7 Xu)<|Lf 15 (Ei wm .here)<|Eg call20 hz (pO _ _ _ _ K)<|Q1n U<|Lj h (fun L h=>?_)<|fun L h=>?_
 ·cases h
 ·refine Ec<|B0q<|Lf 18 (w7 Xu)<|Lf 19 (Ei wm .here)<|Lf 20 (vo underlying3 underlying5)<|La U<|Lf 22 (vo underlying3 underlying5) (Lh 23 (wD (cs:=([u8 a.yK,u8 (a.yr.length:Int)]:List Int).flatMap e5) z2j (Lt (l:=[.tmp 20,.tmp 22]) (.r2 U U) [0,1]) (fun _=>by kernel_rfl) (by unfold maxLen;omega)) fun M _=>Q1n U ?_)
  refine jK1 h fun F N h=>Nf (fun d p q=>(F d=some r)) (fun d p q=>[(1,vp y),(5,vs p d.length q)]) (fun d p q=>[row (vs p d.length q) 5 1 (d.flatMap e5),stb y 40 A]) ?_ ?_
  ·refine B0q<|Lf 24 (w7 Xt)<|Lf 25 (wX (cs:=[.int .u64 a.y4.a0,.int .u64 a.y4.a1,.int .u64 a.y4.a2,.int .u64 a.y4.a3,.int .u64 a.y4.a4,.int .u64 a.y4.a5,.int .u64 a.y4.a6,.int .u64 a.y4.a7,.int .u64 a.y4.a8,.int .u64 a.y4.a9,.int .u64 a.y4.a10,.int .u64 a.y4.a11,.int .u64 a.y4.a12,.int .u64 a.y4.a13,.int .u64 a.y4.a14,.int .u64 a.y4.a15,.int .u64 a.y4.a16,.int .u64 a.y4.a17]) zHW<|qW (s:=18) .h1 U)<|Q1n U<|WC.block<|E6 (fun v b i j k=>(kZ a F v b i=some r)) (fun v b i j k=>[(1,vp y),(5,vs j b.length k),(25,.agg #[.int .u64 a.y4.a0,.int .u64 a.y4.a1,.int .u64 a.y4.a2,.int .u64 a.y4.a3,.int .u64 a.y4.a4,.int .u64 a.y4.a5,.int .u64 a.y4.a6,.int .u64 a.y4.a7,.int .u64 a.y4.a8,.int .u64 a.y4.a9,.int .u64 a.y4.a10,.int .u64 a.y4.a11,.int .u64 a.y4.a12,.int .u64 a.y4.a13,.int .u64 a.y4.a14,.int .u64 a.y4.a15,.int .u64 a.y4.a16,.int .u64 a.y4.a17]),(26,vi i)]) (fun v b i j k=>[row (vs j b.length k) 5 1 (b.flatMap e5),stb y 40 A]) (fun v b i j k=>v) ⟨wr,([u8 a.yK,u8 (a.yr.length:Int)]:List Int),0,some ⟨M,0,none⟩,2⟩ h .q .a2 ?_
   rintro(_|af) b i j k h;·cases h
   rw[kZ] at h
   refine B1n U<|Lb<|Lj h (fun O h=>?_)<|fun O h=>?_
   ·refine Ec<|Lb<|WC.block<|Lb<|cK h fun P h=>Le<|Lf 28 (XP (l:=([a.y4.a0,a.y4.a1,a.y4.a2,a.y4.a3,a.y4.a4,a.y4.a5,a.y4.a6,a.y4.a7,a.y4.a8,a.y4.a9,a.y4.a10,a.y4.a11,a.y4.a12,a.y4.a13,a.y4.a14,a.y4.a15,a.y4.a16,a.y4.a17]:List Int)) (f:=Value.int .u64) zHV z4O U U U P)<|Q1n U<|bK h fun G Q h=>cK h fun R h=>D2q U<|L7 (dd:=31) U (Eh call76) .nil (cc hz .nil fun w pz ho=>f2 _ _ _ Q pz ) ?_
    rintro ai aj _
    refine WL.fA 32 (vb (enc:=e5) (l1:=b) (l2:=G) z2j .h1 (fun _=>U) (wY .here) (vm tk _) R) ?_
    rintro⟨S,T⟩ _
    exact La U<|WL.nil<|Lq<|Ld<|D2q U<|WL.nil<|Em ⟨af,b++G,i64 (i+1),S,T⟩ h (Nat.lt_succ_self _) .q<|.s2 .here .h1
   ·exact En<|Ln<|Ln<|Lu<|Lp ⟨b,j,k⟩ h .q<|.a2
  ·rintro d p q h
   replace h:=(N d).symm.trans h
   refine jK1 h fun H V h=>Nf (fun g t u=>(H g=some r)) (fun g t u=>[(5,vs t g.length u)]) (fun g t u=>[row (vs t g.length u) 5 1 (g.flatMap e5)]) ?_ ?_
   ·refine B0q<|Lf 34 (w7 lH)<|Lf 35 (Ei zvD .h1)<|Lf 36 (wB underlying38)<|Q1n U<|WC.block<|E6 (fun x c m n o=>(gR a H x c m=some r)) (fun x c m n o=>[(5,vs n c.length o),(35,C),(36,vi (a.yr.length:Int)),(37,vi m)]) (fun x c m n o=>[row (vs n c.length o) 5 1 (c.flatMap e5)]) (fun x c m n o=>x) ⟨wr,d,0,p,q⟩ h .q (.cons .here .nil) ?_
    rintro(_|ag) c m n o h;·cases h
    rw[gR] at h
    refine B1n U<|Lb<|Lj h (fun W h=>?_)<|fun W h=>?_
    ·refine Ec<|Lb<|WC.block<|Lb<|cK h fun X h=>Le<|L0 (dd:=39) (Z:=Z) (Pr:=(rq vK)) zcJ J X ?_
     rintro ak al Y am rfl
     refine Lf 40 (w8 z4O U<|vx hz.pv Y)<|Q1n U<|bK h fun I aa h=>cK h fun ab h=>D2q U<|L7 (dd:=43) U (Eh call76) .nil (cc hz .nil fun w pz ho=>f2 _ _ _ aa pz ) ?_
     rintro an ao _
     refine WL.fA 44 (vb (enc:=e5) (l1:=c) (l2:=I) z2j .h1 (fun _=>U) (wY .here) (vm tk _) ab) ?_
     rintro⟨ad,ae⟩ _
     exact La U<|WL.nil<|Lq<|Ld<|D2q U<|WL.nil<|Em ⟨ag,c++I,i64 (m+1),ad,ae⟩ h (Nat.lt_succ_self _) .q<|.cons .here .nil
    ·exact En<|Ln<|Ln<|Lu<|Lp ⟨c,n,o⟩ h (.cons U .nil)<|.cons .here .nil
   ·rintro g t u h
    replace h:=(V g).symm.trans h
    exact B3n U<|El<|oJ h▸Lk results68 (.tmp U<|.tmp U .nil) fun w hw=>⟨t,u,qq,trivial,hw.sub (.cons .here .nil)⟩
def g8(a:yz):Option Bool:=
 (ta a.y5).bind fun b=>some (((((decide (((a.yl.size:Nat):Int)>=1))&&(decide (((a.yl.size:Nat):Int)<=24)))&&(decide (a.yd>=0)))&&(decide (a.yd<=1048576)))&&(decide ((a.yx.length:Int)<=400)))
theorem ox(Z b c d e a r)(h:g8 a=some r){Ek}(hz:PZ [] Ek Z)(n:ZS Z 1 (rq e5) b c a.yx)(f:ZS Z 1 (rq vK) d e a.y5.yr):
  RC 26 #[.agg #[.string a.yl,vi a.yd,vs b a.yx.length c,vi a.y5.yK,.int .u64 a.y5.y4.a0,.int .u64 a.y5.y4.a1,.int .u64 a.y5.y4.a2,.int .u64 a.y5.y4.a3,.int .u64 a.y5.y4.a4,.int .u64 a.y5.y4.a5,.int .u64 a.y5.y4.a6,.int .u64 a.y5.y4.a7,.int .u64 a.y5.y4.a8,.int .u64 a.y5.y4.a9,.int .u64 a.y5.y4.a10,.int .u64 a.y5.y4.a11,.int .u64 a.y5.y4.a12,.int .u64 a.y5.y4.a13,.int .u64 a.y5.y4.a14,.int .u64 a.y5.y4.a15,.int .u64 a.y5.y4.a16,.int .u64 a.y5.y4.a17,vs d a.y5.yr.length e]] Ek (.bool r) [] []:=by
 unfold g8 at h
 refine L3 func26 U U ?_
 let C:Value:=(vs d a.y5.yr.length e);let E:Value:=(.int .u64 a.y5.y4.a10);let F:Value:=(.int .u64 a.y5.y4.a11);let G:Value:=(.int .u64 a.y5.y4.a12);let H:Value:=(.int .u64 a.y5.y4.a13);let I:Value:=(.int .u64 a.y5.y4.a14);let J:Value:=(.int .u64 a.y5.y4.a15);let K:Value:=(.int .u64 a.y5.y4.a16);let L:Value:=(.int .u64 a.y5.y4.a17);refine B0q<|Lh 1 (wu (cs:=[.string a.yl,vi a.yd,vs b a.yx.length c,vi a.y5.yK,.int .u64 a.y5.y4.a0,.int .u64 a.y5.y4.a1,.int .u64 a.y5.y4.a2,.int .u64 a.y5.y4.a3,.int .u64 a.y5.y4.a4,.int .u64 a.y5.y4.a5,.int .u64 a.y5.y4.a6,.int .u64 a.y5.y4.a7,.int .u64 a.y5.y4.a8,.int .u64 a.y5.y4.a9,E,F,G,H,I,J,K,L,C])) ?_
 intro o _
 refine Q1n U<|Lb<|bK h fun p g h=>Le<|Lf 6 (w7 bV)<|Lf 7 (wX (cs:=[vi a.y5.yK,.int .u64 a.y5.y4.a0,.int .u64 a.y5.y4.a1,.int .u64 a.y5.y4.a2,.int .u64 a.y5.y4.a3,.int .u64 a.y5.y4.a4,.int .u64 a.y5.y4.a5,.int .u64 a.y5.y4.a6,.int .u64 a.y5.y4.a7,.int .u64 a.y5.y4.a8,.int .u64 a.y5.y4.a9,E,F,G,H,I,J,K,L,C]) zk5<|qW (s:=20) .here U)<|L7 (dd:=8) U (Eh call68) .nil (cc hz .nil fun w pz ho=>Ys _ _ _ _ _ g pz f) ?_
 rintro q t _
 refine Q5n U<|B0q<|Lf 11 (w7 bW)<|Lf 12 (Ei ge .h1)<|Lf 13 (W2 underlying9 U)<|Q2q U<|Lx true 4 15 (B:=(decide (((a.yl.size:Nat):Int)>=1))&&(decide (((a.yl.size:Nat):Int)<=24))) (fun h=>(qd h).symm) (fun _ i=>?_) ?_
 ·exact Lf 16 (w7 bW)<|Lf 17 (Ei ge .h1)<|Lf 18 (W2 underlying9 U)<|Q2q U<|Ly (qe i) U .all
 let A:=((a.yl.size:Nat):Int);refine La U<|Lx true 3 21 (B:=((decide (A>=1))&&(decide (A<=24)))&&(decide (a.yd>=0))) (fun h=>(qd h).symm) (fun _ j=>?_) ?_
 ·exact Lf 22 (w7 pX)<|Lf 23 (Ei wm .h1)<|Q2q U<|Ly (qe j) U .all
 refine La U<|Lx true 3 26 (B:=(((decide (A>=1))&&(decide (A<=24)))&&(decide (a.yd>=0)))&&(decide (a.yd<=1048576))) (fun h=>(qd h).symm) (fun _ k=>?_) ?_
 ·exact Lf 27 (w7 pX)<|Lf 28 (Ei wm .h1)<|Q2q U<|Ly (qe k) U .all
 let D:=(a.yx.length:Int);refine La U<|Lx true 4 31 (B:=((((decide (A>=1))&&(decide (A<=24)))&&(decide (a.yd>=0)))&&(decide (a.yd<=1048576)))&&(decide (D<=400))) (fun h=>(qd h).symm) (fun _ l=>?_) ?_
 ·exact Lf 32 (w7 Xv)<|Lf 33 (Ei z56 .h1)<|Lf 34 (wB underlying23)<|Q2q U<|Ly (qe l) U .all
 refine La U<|Lx true 2 37 (B:=((((decide (A>=1))&&(decide (A<=24)))&&(decide (a.yd>=0)))&&(decide (a.yd<=1048576)))&&(decide (D<=400))) (fun h=>h) (fun _ m=>?_) ?_
 ·exact La U<|Lf 39 uh<|La U<|Ly (Eq.symm m) U .all
 exact Q1n U<|El<|oJ h▸Ea results26
def mE(d:Int)(b:Int)(e:(List Int)->Option (List Int)):Nat->(List Int)->Int->Option (List Int)
 | 0,_,_=>none
 | f+1,c,a=>if decide (a<d) then chk (0<=(i64 (8*a))) (chk ((((c++([u8 (b / 2 ^ min ((i64 (8*a)):Int).toNat 32)]:List Int)).length:Nat):Int)*1<=140737488355328/\(((c++([u8 (b / 2 ^ min ((i64 (8*a)):Int).toNat 32)]:List Int)).length:Nat):Int)<=4611686018427387904) (mE d b e f (c++([u8 (b / 2 ^ min ((i64 (8*a)):Int).toNat 32)]:List Int)) (i64 (a+1)))) else e c
def gq(a:Int)(b:Int):Option (List Int):=
 vC (fun(c:List Int)=>some c) fun d=>mE b a d wr ([]:List Int) 0
theorem iD(Z d m r)(h:gq d m=some r){Ek}(hz:PZ [] Ek Z):
  Calls Tryz.prog 75 #[.int .u32 d,vi m] Ek fun e w'=>∃ n:Option Addr,∃ o:Nat,e = .returned (vs n r.length o)/\True/\Hp [] Ek w' [row (vs n r.length o) 5 1 (r.flatMap e5)]:=by
 unfold gq at h
 refine Lz func75 U U<|B1n U<|B1n U<|jK1 h fun p q h=>Nf (fun c i j=>(p c=some r)) (fun c i j=>[(5,vs i c.length j)]) (fun c i j=>[row (vs i c.length j) 5 1 (c.flatMap e5)]) ?_ ?_
 ·refine B2n U<|WC.block<|WC.nilRow 5 1<|E6 (fun k a b f g=>(mE m d p k a b=some r)) (fun k a b f g=>[(0,.int .u32 d),(5,vs f a.length g),(7,vi m),(8,vi b)]) (fun k a b f g=>[row (vs f a.length g) 5 1 (a.flatMap e5)]) (fun k a b f g=>k) ⟨wr,([]:List Int),0,none,0⟩ h .q (.cons .here .nil) ?_
  rintro(_|y) a b f g h;·cases h
  rw[mE] at h
  refine B1n U<|Lb<|Lj h (fun s h=>?_)<|fun s h=>?_
  ·refine Ec<|Lb<|WC.block<|B2n U<|cK h fun t h=>cK h fun u h=>Le<|La U<|La U<|La U<|La U<|Lf 15 (oV t)<|Lf 16 (vo underlying122 underlying5) (Lh 17 (wD (cs:=([u8 (d / 2 ^ min ((i64 (8*b)):Int).toNat 32)]:List Int).flatMap e5) z2j (Lt (l:=[.tmp 16]) (.cons U .nil) [0]) (fun _=>by kernel_rfl) (by unfold maxLen;omega)) fun z _=>WL.fA 18 (vb (enc:=e5) (l1:=a) (l2:=([u8 (d / 2 ^ min ((i64 (8*b)):Int).toNat 32)]:List Int)) z2j .h1 (fun _=>U) (wY .here) (vm tk _) u) ?_)
   rintro⟨v,x⟩ _
   exact La U<|WL.nil<|Lq<|Ld<|D2q U<|WL.nil<|Em ⟨y,a++([u8 (d / 2 ^ min ((i64 (8*b)):Int).toNat 32)]:List Int),i64 (b+1),v,x⟩ h (Nat.lt_succ_self _) .q<|.cons .here .nil
  ·exact En<|Ln<|Ln<|Lu<|Lp ⟨a,f,g⟩ h (.cons U .nil)<|.cons .here .nil
 ·rintro c i j h
  replace h:=(q c).symm.trans h
  exact B2n U<|El<|oJ h▸Lk results75 (.tmp U .nil) fun w hw=>⟨i,j,wx,trivial,hw.sub (.cons .here .nil)⟩
def mj(a:yz):Option (List Int):=
 chk ((((([u8 ((a.yl.size:Nat):Int)]:List Int)++kw a.yl).length:Nat):Int)*1<=140737488355328/\(((([u8 ((a.yl.size:Nat):Int)]:List Int)++kw a.yl).length:Nat):Int)<=4611686018427387904) ((gq (u32 a.yd) 4).bind fun b=>chk (((((([u8 ((a.yl.size:Nat):Int)]:List Int)++kw a.yl)++b).length:Nat):Int)*1<=140737488355328/\((((([u8 ((a.yl.size:Nat):Int)]:List Int)++kw a.yl)++b).length:Nat):Int)<=4611686018427387904) ((gq (u32 (a.yx.length:Int)) 2).bind fun c=>chk ((((((([u8 ((a.yl.size:Nat):Int)]:List Int)++kw a.yl)++b)++c).length:Nat):Int)*1<=140737488355328/\(((((([u8 ((a.yl.size:Nat):Int)]:List Int)++kw a.yl)++b)++c).length:Nat):Int)<=4611686018427387904) (chk (((((((([u8 ((a.yl.size:Nat):Int)]:List Int)++kw a.yl)++b)++c)++a.yx).length:Nat):Int)*1<=140737488355328/\((((((([u8 ((a.yl.size:Nat):Int)]:List Int)++kw a.yl)++b)++c)++a.yx).length:Nat):Int)<=4611686018427387904) (some ((((([u8 ((a.yl.size:Nat):Int)]:List Int)++kw a.yl)++b)++c)++a.yx)))))
theorem dM(Z b c d f a r)(h:mj a=some r){Ek}(hz:PZ [] Ek Z)(m:ZS Z 1 (rq e5) b c a.yx)(x:ZS Z 1 (rq vK) d f a.y5.yr):
  Calls Tryz.prog 66 #[.agg #[.string a.yl,vi a.yd,vs b a.yx.length c,vi a.y5.yK,.int .u64 a.y5.y4.a0,.int .u64 a.y5.y4.a1,.int .u64 a.y5.y4.a2,.int .u64 a.y5.y4.a3,.int .u64 a.y5.y4.a4,.int .u64 a.y5.y4.a5,.int .u64 a.y5.y4.a6,.int .u64 a.y5.y4.a7,.int .u64 a.y5.y4.a8,.int .u64 a.y5.y4.a9,.int .u64 a.y5.y4.a10,.int .u64 a.y5.y4.a11,.int .u64 a.y5.y4.a12,.int .u64 a.y5.y4.a13,.int .u64 a.y5.y4.a14,.int .u64 a.y5.y4.a15,.int .u64 a.y5.y4.a16,.int .u64 a.y5.y4.a17,vs d a.y5.yr.length f]] Ek fun e w'=>∃ i:Option Addr,∃ j:Nat,e = .returned (vs i r.length j)/\True/\Hp [] Ek w' [row (vs i r.length j) 5 1 (r.flatMap e5)]:=by
 unfold mj at h
 refine L3 func66 U U<|Lb<|Le (Lh 1 (wu (cs:=[.string a.yl,vi a.yd,vs b a.yx.length c,vi a.y5.yK,.int .u64 a.y5.y4.a0,.int .u64 a.y5.y4.a1,.int .u64 a.y5.y4.a2,.int .u64 a.y5.y4.a3,.int .u64 a.y5.y4.a4,.int .u64 a.y5.y4.a5,.int .u64 a.y5.y4.a6,.int .u64 a.y5.y4.a7,.int .u64 a.y5.y4.a8,.int .u64 a.y5.y4.a9,.int .u64 a.y5.y4.a10,.int .u64 a.y5.y4.a11,.int .u64 a.y5.y4.a12,.int .u64 a.y5.y4.a13,.int .u64 a.y5.y4.a14,.int .u64 a.y5.y4.a15,.int .u64 a.y5.y4.a16,.int .u64 a.y5.y4.a17,vs d a.y5.yr.length f])) fun y _=>Q1n U<|Lb ?_)
 refine cK h fun n h=>Le<|Lf 4 (w7 bW)<|Lf 5 (Ei ge .here)<|Lf 6 (W2 underlying9 U)<|Lf 7 (vo underlying3 underlying5)<|Lh 8 (wD (cs:=([u8 ((a.yl.size:Nat):Int)]:List Int).flatMap e5) z2j (Lt (l:=[.tmp 7]) (.cons U .nil) [0]) (fun _=>by kernel_rfl) (by unfold maxLen;omega)) ?_
 intro z _
 let A:=((a.yl.size:Nat):Int);refine Lf 9 (w7 bW)<|Lf 10 (Ei ge .h1)<|WL.fA 11 (K3 (enc:=e5) (l1:=([u8 A]:List Int)) z2j U underlying9 U U .here (fun _=>U) n) ?_
 rintro⟨B,C⟩ _
 refine Q1n U<|Lb<|bK h fun g o h=>cK h fun p h=>D1q U<|Lf 13 (w7 pX)<|Lf 14 (Ei wm .h1)<|Lf 15 (vo underlying3 underlying122)<|L7 (dd:=16) U (Eh call75) .nil (cc hz .nil fun w pz ho=>iD _ _ _ _ o pz ) ?_
 rintro D E _
 refine WL.fA 17 (vb (enc:=e5) (l1:=([u8 A]:List Int)++kw a.yl) (l2:=g) z2j .h1 (fun _=>U) (wY .here) (vm tk _) p) ?_
 rintro⟨F,G⟩ _
 refine Q1n U<|Lb<|bK h fun k q h=>cK h fun s h=>D1q U<|Lf 19 (w7 Xv)<|Lf 20 (Ei z56 .h2)<|Lf 21 (wB underlying23)<|Lf 22 (vo underlying3 underlying122)<|L7 (dd:=23) U (Eh call75) .nil (cc hz .nil fun w pz ho=>iD _ _ _ _ q pz ) ?_
 rintro H I _
 refine WL.fA 24 (vb (enc:=e5) (l1:=(([u8 A]:List Int)++kw a.yl)++g) (l2:=k) z2j .h1 (fun _=>U) (wY .here) (vm tk _) s) ?_
 rintro⟨J,K⟩ _
 refine Q1n U<|Lb<|cK h fun t h=>D1q U<|Lf 26 (w7 Xv)<|Lf 27 (Ei z56 .h3)<|WL.fA 28 (vb (enc:=e5) (l1:=((([u8 A]:List Int)++kw a.yl)++g)++k) (l2:=a.yx) z2j .here (fun _=>U) (da hz.pv m) (vm tk _) t) ?_
 rintro⟨u,v⟩ _
 exact Q1n U<|El<|oJ h▸Lk results66 (.tmp U .nil) fun w hw=>⟨u,v,wx,trivial,hw.sub (.cons .here .nil)⟩
def fl(a:yz):Option Int:=
 (g8 a).bind fun b=>if !b then none else(mj a).bind fun c=>(g4 c).bind fun d=>some d
theorem eN(Z b c d e a r)(h:fl a=some r){Ek}(hz:PZ [] Ek Z)(f:ZS Z 1 (rq e5) b c a.yx)(g:ZS Z 1 (rq vK) d e a.y5.yr):
  RC 23 #[.agg #[.string a.yl,vi a.yd,vs b a.yx.length c,vi a.y5.yK,.int .u64 a.y5.y4.a0,.int .u64 a.y5.y4.a1,.int .u64 a.y5.y4.a2,.int .u64 a.y5.y4.a3,.int .u64 a.y5.y4.a4,.int .u64 a.y5.y4.a5,.int .u64 a.y5.y4.a6,.int .u64 a.y5.y4.a7,.int .u64 a.y5.y4.a8,.int .u64 a.y5.y4.a9,.int .u64 a.y5.y4.a10,.int .u64 a.y5.y4.a11,.int .u64 a.y5.y4.a12,.int .u64 a.y5.y4.a13,.int .u64 a.y5.y4.a14,.int .u64 a.y5.y4.a15,.int .u64 a.y5.y4.a16,.int .u64 a.y5.y4.a17,vs d a.y5.yr.length e]] Ek (.tuple #[.int .u64 r,vi 0]) [] []:=by
 unfold fl at h
 refine L3 func23 U U<|Lb<|Le (Lh 1 (wu (cs:=[.string a.yl,vi a.yd,vs b a.yx.length c,vi a.y5.yK,.int .u64 a.y5.y4.a0,.int .u64 a.y5.y4.a1,.int .u64 a.y5.y4.a2,.int .u64 a.y5.y4.a3,.int .u64 a.y5.y4.a4,.int .u64 a.y5.y4.a5,.int .u64 a.y5.y4.a6,.int .u64 a.y5.y4.a7,.int .u64 a.y5.y4.a8,.int .u64 a.y5.y4.a9,.int .u64 a.y5.y4.a10,.int .u64 a.y5.y4.a11,.int .u64 a.y5.y4.a12,.int .u64 a.y5.y4.a13,.int .u64 a.y5.y4.a14,.int .u64 a.y5.y4.a15,.int .u64 a.y5.y4.a16,.int .u64 a.y5.y4.a17,vs d a.y5.yr.length e])) fun m _=>Q2n U<|Lb<|Lb ?_)
 refine bK h fun n i h=>Le<|Lf 4 (we z4P (wh .here))<|Eg call26 hz (fun pz=>ox _ _ _ _ _ _ _ i pz f g)<|Q1n U<|Lj h (fun j h=>?_)<|fun j h=>?_
 ·cases h
 ·refine Ec<|Lb<|bK h fun o k h=>bK h fun p l h=>Le<|Lf 7 (we z4P (wh .here))<|L7 (dd:=8) U (Eh call66) .nil (cc hz .nil fun w pz ho=>dM _ _ _ _ _ _ _ k pz f g) ?_
  rintro q s _
  exact Lm 9 (Eh call30) .nil (kb hz .nil (.cons .here .nil) fun w pz ho la=>rH _ _ _ _ _ l pz<|ZA.row (la _ (.head _) _) (RR.flat (enc:=e5) (fun _=>U) _) ⟨w,pz.1⟩)<|Q2n U<|El<|oJ h▸Eb results23 (.tmp U<|.tmp U .nil) .nil
def uJ(b:Int)(c:Int)(a:ByteArray)(d:Int):Option yz:=
 chk (((a.size:Nat):Int)+(((⟨#[33]⟩:ByteArray).size:Nat):Int)<=4611686018427387904) (chk ((((a++(⟨#[33]⟩:ByteArray)).size:Nat):Int)<=4611686018427387904) ((rI b 1 c 0).bind fun f=>(fl (⟨a,d,kw (a++(⟨#[33]⟩:ByteArray)),f⟩:yz)).bind fun e=>(rI b 1 c e).bind fun g=>some (⟨a,d,kw (a++(⟨#[33]⟩:ByteArray)),g⟩:yz)))
theorem iE(Z o p c d r)(h:uJ o p c d=some r){Ek}(hz:PZ [] Ek Z):
  Calls Tryz.prog 7 #[.int .u64 o,vi p,.string c,vi d] Ek fun e w'=>∃ Zn:Zp,∃ f:Option Addr,∃ g:Nat,∃ i:Option Addr,∃ j:Nat,e = .returned (.tuple #[.agg #[.string r.yl,vi r.yd,vs f r.yx.length g,vi r.y5.yK,.int .u64 r.y5.y4.a0,.int .u64 r.y5.y4.a1,.int .u64 r.y5.y4.a2,.int .u64 r.y5.y4.a3,.int .u64 r.y5.y4.a4,.int .u64 r.y5.y4.a5,.int .u64 r.y5.y4.a6,.int .u64 r.y5.y4.a7,.int .u64 r.y5.y4.a8,.int .u64 r.y5.y4.a9,.int .u64 r.y5.y4.a10,.int .u64 r.y5.y4.a11,.int .u64 r.y5.y4.a12,.int .u64 r.y5.y4.a13,.int .u64 r.y5.y4.a14,.int .u64 r.y5.y4.a15,.int .u64 r.y5.y4.a16,.int .u64 r.y5.y4.a17,vs i r.y5.yr.length j],.bool true])/\(ZS (Z++Zn) 1 (rq e5) f g r.yx)/\Hp [] Ek w' [fz Zn,row (vs i r.y5.yr.length j) 24 1 (r.y5.yr.flatMap vK)]:=by
 unfold uJ at h
 refine Nl func7 U U ?_
 let A:List Value:=[.string ⟨#[]⟩,vi 0,vn,vi 0,.int .u64 0,.int .u64 0,.int .u64 0,.int .u64 0,.int .u64 0,.int .u64 0,.int .u64 0,.int .u64 0,.int .u64 0,.int .u64 0,.int .u64 0,.int .u64 0,.int .u64 0,.int .u64 0,.int .u64 0,.int .u64 0,.int .u64 0,.int .u64 0,vn];refine WC.pool<|B0q<|Lh 8 (wn (cs:=A) z8p) ?_
 intro G _
 refine Q1n U<|Lb<|cK h fun t h=>cK h fun u h=>D3q U<|Lf 18 (MV t U U)<|WL.fA 19 (KN underlying9 underlying23 underlying5 U u) ?_
 rintro⟨q,s⟩ x
 refine Dq (Z:=Z) (enc:=e5) .here .h1 (fun _=>U) x ?_
 intro y H k
 let C:Value:=(vs (some ⟨q,0,none⟩) ((kw (c++(⟨#[33]⟩:ByteArray))).length) s);refine Lf 20 (wN (v:=(.agg #[.string c,vi d,C,vi 0,.int .u64 0,.int .u64 0,.int .u64 0,.int .u64 0,.int .u64 0,.int .u64 0,.int .u64 0,.int .u64 0,.int .u64 0,.int .u64 0,.int .u64 0,.int .u64 0,.int .u64 0,.int .u64 0,.int .u64 0,.int .u64 0,.int .u64 0,.int .u64 0,vn])) (Lt (l:=[.tmp 15,.tmp 16,.tmp 19]) (.r3 U U U) [0,1,2]) (fun _=>by kernel_rfl))<|Lh 10 (wn (cs:=A) z8p) ?_
 intro I _
 refine Ll (wl z8q .here)<|Q0n<|Lb<|bK h fun a z h=>D2q U<|L7 (dd:=24) U (Eh call22) .nil (qB hz .nil .h1 fun w pz ho=>XT _ _ _ _ _ _ z pz ) ?_
 rintro B D _
 refine Q2q U<|La U (Lh 11 (wn (cs:=[vi 0,.int .u64 0,.int .u64 0,.int .u64 0,.int .u64 0,.int .u64 0,.int .u64 0,.int .u64 0,.int .u64 0,.int .u64 0,.int .u64 0,.int .u64 0,.int .u64 0,.int .u64 0,.int .u64 0,.int .u64 0,.int .u64 0,.int .u64 0,.int .u64 0,vn]) zvC) fun J _=>Ll (wl zk4 .here)<|Q1n U<|B0q<|Lf 27 (we zk5 (wh .here))<|Lf 28 (w7 bV)<|Ll (vg (ds:=[.string c,vi d,C,vi a.yK,.int .u64 a.y4.a0,.int .u64 a.y4.a1,.int .u64 a.y4.a2,.int .u64 a.y4.a3,.int .u64 a.y4.a4,.int .u64 a.y4.a5,.int .u64 a.y4.a6,.int .u64 a.y4.a7,.int .u64 a.y4.a8,.int .u64 a.y4.a9,.int .u64 a.y4.a10,.int .u64 a.y4.a11,.int .u64 a.y4.a12,.int .u64 a.y4.a13,.int .u64 a.y4.a14,.int .u64 a.y4.a15,.int .u64 a.y4.a16,.int .u64 a.y4.a17,vs B a.yr.length D]) zk4 .h2)<|Q0n<|Lb ?_)
 refine bK h fun K E h=>Le<|Lf 30 (we z4P (wh .here))<|Lm 31 (Eh call23) .nil (uT hz .nil .h3 (.cons .h2 .nil) fun w pz ho la=>eN _ _ _ _ _ _ _ E pz (k.mono<|zl)<|ZA.row (la _ (.head _) _) (RR.flat (enc:=vK) (fun _=>U) _) ⟨w,pz.1⟩)<|Q5n U<|Lb<|B1q U<|Lf 35 kj<|Q2q U<|Lf 38 kj<|Q1n U<|Er (fun h'=>(by cases h'))<|fun h'=>?_
 clear h'
 refine Ec<|Lb<|bK h fun b F h=>D3q U<|L7 (dd:=45) U (Eh call22) .nil (qB hz .nil .h3 fun w pz ho=>XT _ _ _ _ _ _ F pz ) ?_
 rintro m n _
 exact Q3q U<|Lf 48 (w7 bV)<|Ll (vg (ds:=[.string c,vi d,C,vi b.yK,.int .u64 b.y4.a0,.int .u64 b.y4.a1,.int .u64 b.y4.a2,.int .u64 b.y4.a3,.int .u64 b.y4.a4,.int .u64 b.y4.a5,.int .u64 b.y4.a6,.int .u64 b.y4.a7,.int .u64 b.y4.a8,.int .u64 b.y4.a9,.int .u64 b.y4.a10,.int .u64 b.y4.a11,.int .u64 b.y4.a12,.int .u64 b.y4.a13,.int .u64 b.y4.a14,.int .u64 b.y4.a15,.int .u64 b.y4.a16,.int .u64 b.y4.a17,vs m b.yr.length n]) zk4 .h1)<|Q1n U<|B0q<|Lf 49 (we z4P (wh .here))<|La U<|Lf 51 uh<|Ll (wl z8q .h5)<|Q1n U<|El<|oJ h▸Lk results7 (.agg U z4P U (wh .here)<|.tmp U .nil) fun w hw=>⟨y,some ⟨q,0,none⟩,s,m,n,qq,k,hw.sub (.s2 .h5 .h2)⟩
def ue(b:(List Int)->Option (List Int)):Nat->Int->(List Int)->Option (List Int)
 | 0,_,_=>none
 | d+1,a,c=>if decide (a<54) then chk (0<=a/\a<54) (ue b d (i64 (a+1)) (c.set (a:Int).toNat 255)) else b c
def uy  : Option (List Int):=
 vC (fun(a:List Int)=>some a) fun b=>ue b wr 0 (List.replicate 54 (0:Int))
theorem cF(Z r)(h:uy=some r){Ek}(hz:PZ [] Ek Z):
  Calls Tryz.prog 24 #[] Ek fun e w'=>∃ i:Option Addr,∃ j:Nat,e = .returned (vs i r.length j)/\True/\Hp [] Ek w' [row (vs i r.length j) 5 1 (r.flatMap e5)]:=by
 unfold uy at h
 refine Ns func24 U U<|B1n U<|Lb<|Le (Lh 1 (dh (f:=Value.int .u8) (m:=54) (z:=0) z1eu) fun d _=>Q0n ?_)
 refine jK1 h fun l n h=>Nd (fun c=>(l c=some r)) (fun c=>[(1,vp d)]) (fun c=>[arl d 186 (Value.int .u8) 54 c]) ?_ ?_
 ·refine B1n U<|WC.block<|E4 (fun g a b=>(ue l g a b=some r)) (fun g a b=>[(1,vp d),(3,vi a)]) (fun g a b=>[arl d 186 (Value.int .u8) 54 b]) (fun g a b=>g) ⟨wr,0,List.replicate 54 (0:Int)⟩ h .q (.cons .here .nil) ?_
  rintro(_|p) a b h;·cases h
  rw[ue] at h
  refine B1n U<|Lb<|Lj h (fun o h=>?_)<|fun o h=>?_
  ·exact Ec<|Lb<|WC.block<|B2n U<|cK h fun k h=>D1q U<|Lf 7 (qF zZB k jL)<|Ll (ce (f:=Value.int .u8) (u:=255) WZ .here k)<|WL.nil<|Lq<|Ld<|D2q U<|WL.nil<|Em ⟨p,i64 (a+1),b.set (a:Int).toNat 255⟩ h (Nat.lt_succ_self _) .q<|.cons .here .nil
  ·exact En<|Ln<|Ln<|Lu<|Lp b h (.cons U .nil)<|.cons .here .nil
 ·rintro c h
  replace h:=(n c).symm.trans h
  exact B0q<|Lf 9 (aG zZB U .here)<|Nq (fun _ h=>Hp.YV (e:=5) (enc:=e5) .here (by unfold maxLen;omega) (fun _=>U) h)<|Q1n U<|El<|oJ h▸Lk results24 (.tmp U .nil) fun w hw=>⟨some ⟨d,0,none⟩,c.length,wx,trivial,hw.sub (.cons .here .nil)⟩
def sH(c:Int)(d:(List (List Int))->Option yJ):Nat->Int->(List (List Int))->Option yJ
 | 0,_,_=>none
 | f+1,e,a=>if decide (e<c) then(uy).bind fun b=>chk ((((a++([b]:List (List Int))).length:Nat):Int)*24<=140737488355328/\(((a++([b]:List (List Int))).length:Nat):Int)<=4611686018427387904) (sH c d f (i64 (e+1)) (a++([b]:List (List Int)))) else d a
def cP(a:Int):Option yJ:=
 if (decide (a<1))||(decide (a>64)) then none else vC (fun(b:List (List Int))=>some (⟨b⟩:yJ)) fun c=>sH a c wr 0 ([]:List (List Int))
theorem Ka(Z n r)(h:cP n=some r){Ek}(hz:PZ [] Ek Z):
  Calls Tryz.prog 8 #[vi n] Ek fun e w'=>∃ Zn:Zp,∃ x:Option Addr,∃ y:Nat,∃ z:List Value,e = .returned (.tuple #[.agg #[vs x r.yf.length y],vi 0])/\(RR 1 (ff (Z++Zn)) z r.yf)/\Hp [] Ek w' [fz Zn,row (vs x r.yf.length y) 23 1 z]:=by
 unfold cP at h
 refine L3 func8 U U<|WC.pool<|Lb<|Le (Lh 2 (wn (cs:=[vn]) zdu) fun t _=>Q1n U<|Lb<|Lb<|Le<|La U<|La U<|La U<|Lx false 2 7 (B:=(decide (n<1))||(decide (n>64))) (fun h=>(jB h).symm) (fun _ J=>?_) ?_)
 ·exact Q3q U<|Ly (jC J) U .all
 refine Q0n<|Lj h (fun K h=>?_)<|fun K h=>?_
 ·cases h
 ·refine Ec<|Lb<|Le (Lh 4 (wn (cs:=[vn]) zdu) fun u _=>Q0n ?_)
  refine jK1 h fun G L h=>Hi (fun c f o p q=>(G c=some r)/\(wg (Z++[]) (Z++f))/\(RR 1 (ff (Z++f)) q c)) (fun c f o p q=>[(2,vp t),(4,vp u)]) (fun c f o p q=>[fz f,stb t 47 [vn],stb u 47 [vs o c.length p],row (vs o c.length p) 23 1 q]) ?_ ?_
  ·refine B2n U<|WC.block<|WC.nilRow 23 1<|H2 (fun s g a d j k b=>(sH n G s g a=some r)/\(wg (Z++[]) (Z++d))/\(RR 1 (ff (Z++d)) b a)) (fun s g a d j k b=>[(2,vp t),(4,vp u),(12,vi n),(13,vi g)]) (fun s g a d j k b=>[fz d,stb t 47 [vn],stb u 47 [vs j a.length k],row (vs j a.length k) 23 1 b]) (fun s g a d j k b=>s) ⟨wr,0,([]:List (List Int)),[],none,0,[]⟩ ⟨h,wg.refl _,RR.nil _ _⟩ .q (.s4 .h3 .h2 .h1 .here) ?_
   rintro (_|V) g a d j k b ⟨h,C,D⟩;·cases h
   rw[sH] at h
   refine B1n U<|Lb<|Lj h (fun M h=>?_)<|fun M h=>?_
   ·refine Ec<|Lb<|WC.block<|bK h fun m N h=>cK h fun O h=>Lv (fun i=>[4,6].contains i) []<|Lg 0 U (w7 ux)<|Li 1 U (Ei zfp .h2)<|WD.call2 (i:=2) (dd:=17) U (by kernel_rfl) U (.inr U) (Eh call24) .nil (qB hz .nil .here fun w pz ho=>cF _ _ N pz ) ?_
    rintro H I _
    refine WD.freezeS (ls:=m) .here .here hz (RR.flat (enc:=e5) (fun _=>U) _) ?_
    intro v E P
    let A:List Value:=[vs H m.length I];have F:RR 1 (ff (Z++v)) A ([m]:List (List Int)):=(RR.cons (r:=A) U (show ff _ _ _ from⟨_,_,U,P⟩) (RR.nil _ _))
    refine WD.new (i:=3) (dd:=18) U (by kernel_rfl) U (wD (cs:=[vs H m.length I]) zer (Lt (l:=[.tmp 17]) (.cons U .nil) [0]) (fun _=>by kernel_rfl) (by unfold maxLen;omega)) (fun h'=>absurd h' (by decide)) ?_
    intro W _
    have Q:RR 1 (ff (Z++v)) (b++A) (a++([m]:List (List Int))):=RR.app (D.weak (fun _ _ h=>gM E h)) F
    refine WD.old (i:=4) (dd:=19) U (by kernel_rfl) U (fun _=>(wS.of .nil)) (uq (l1:=a) (l2:=([m]:List (List Int))) (news:=A) (Pr:=(ff (Z++v))) zer .h4 F (wY .here) (uv si) O) ?_
    rintro⟨R,S⟩ _
    exact Lg 5 U (w7 ux)<|Nb (i:=6) U (by kernel_rfl) (by kernel_rfl) (wl zZC .h4)<|Eo (by kernel_rfl)<|Lq<|Ld<|D2q U<|WL.nil<|Em ⟨V,i64 (g+1),a++([m]:List (List Int)),v,R,S,b++A⟩ ⟨h,C.trans E,Q⟩ (Nat.lt_succ_self _) .q<|.s4 .h3 .h3 .here .here
   ·exact En<|Ln<|Ln<|Lu<|Lp ⟨a,d,j,k,b⟩ ⟨h,C,D⟩ .q<|.a4
  ·rintro c f o p q ⟨h,X,T⟩
   replace h:=(L c).symm.trans h
   exact B0q<|Lf 22 (we z3N (wh .h2))<|Ll (wl zcK .h1)<|Q1n U<|El<|oJ h▸Lk results8 (.agg U z3N U (wh .here)<|.tmp U .nil) fun w hw=>⟨f,o,p,q,qq,T,hw.sub (.s2 .h1 .h2)⟩
def fq(a:List Int):Option Bool:=
 some (decide ((a.length:Int)≠54))
theorem Vd(Z b c a r)(h:fq a=some r){Ek}(hz:PZ [] Ek Z)(d:ZS Z 1 (rq e5) b c a):
  RC 116 #[vs b a.length c] Ek (.bool r) [] []:=by
 unfold fq at h
 exact L3 func116 U U<|B1n U<|B1q U<|Lf 4 (wB underlying23)<|Q2n U<|El<|oJ h▸Ea results116
def vz(b:List (List Int))(zgC:(List Int)->Option Bool)(c:Option Unit):Nat->Int->Option Unit
 | 0,_=>none
 | d+1,a=>if decide (a<b.length) then chk (0<=a/\a<b.length) ((zgC (nth b a)).bind fun e=>if e then none else vz b zgC c d (i64 (a+1))) else c
def jz(a:List (List Int))(zgC:(List Int)->Option Bool):Option Unit:=
 uo (some ()) fun b=>vz a zgC b wr 0
theorem cG(Z d g zuy zGK b zgC r)(h:jz b zgC=some r){Ek}(hz:PZ [] Ek Z)(j:ZS Z 1 (ff Z) d g b)(k:∀ args w,(callFunc zuy args).run Tryz.prog w = .ok (.enter zuy args) w)(m:∀ w:World,PZ [] w Z->∀(x0:List Int) (nD:Option Addr) (nb:Nat) (r:Bool),ZS Z 1 (rq e5) nD nb x0->zgC x0=some r->Calls Tryz.prog zuy (([vs nD x0.length nb]:List Value)++zGK).toArray w fun e w'=>e = .returned (.bool r)/\Hp [] w w' []):
  RC 166 #[vs d b.length g,.func (.func zuy) #[] (zGK).toArray] Ek (vi (-1)) [] []:=by
 unfold jz at h
 refine Lz func166 U U<|B1n U<|jK0 h fun i n h=>Nh (i=some r) ([]) ([]) ?_ ?_
 ·refine B1q U<|Lf 7 (wB underlying45)<|Q1n U<|WC.block<|Ni (fun c a=>(vz b zgC i c a=some r)) (fun c a=>[(0,vs d b.length g),(1,.func (.func zuy) #[] (zGK).toArray),(7,vi (b.length:Int)),(8,vi a)]) (fun c a=>[]) (fun c a=>c) ⟨wr,0⟩ h .q .nil ?_
  rintro(_|y) a h;·cases h
  rw[vz] at h
  refine B1n U<|Lb<|Lj h (fun o h=>?_)<|fun o h=>?_
  ·refine Ec<|Lb<|WC.block<|B2n U<|Lb<|cK h fun p h=>bK h fun z q h=>D3q U<|L0 (dd:=14) (Z:=Z) (Pr:=(ff Z)) zer j p ?_
   rintro A B s C ⟨t,u,rfl,v⟩
   refine Lf 15 (w8 z56 U<|vx hz.pv s)<|Lm 16 (wV (l:=[.tmp 15]) (f:=zuy) (caps:=zGK) k<|.cons U .nil) .nil (fun w hw=>m w (hz.now hw) (nth b a) t u z v q)<|Q0n<|Lj h (fun x h=>?_)<|fun x h=>?_
   ·cases h
   ·exact Ep<|Lq<|Ld<|D2q U<|WL.nil<|Em ⟨y,i64 (a+1)⟩ h (Nat.lt_succ_self _) .q .nil
  ·exact En<|Ln<|Ln<|Lu<|Lp () h .nil .nil
 ·rintro  h
  replace h:=n.symm.trans h
  refine B1n U<|El ?_
  skip
  exact Lk results166 (.tmp U .nil)<|fun w hw=>⟨wx,hw.sub .nil⟩
def km(a:List (List Int))(zB6:(List Int)->Option Bool):Option Unit:=
 (jz a zB6).bind fun b=>some ()
theorem lR(Z b c zB7 zML a zB6 r)(h:km a zB6=some r){Ek}(hz:PZ [] Ek Z)(d:ZS Z 1 (ff Z) b c a)(f:∀ args w,(callFunc zB7 args).run Tryz.prog w = .ok (.enter zB7 args) w)(g:∀ w:World,PZ [] w Z->∀(x0:List Int) (nD:Option Addr) (nb:Nat) (r:Bool),ZS Z 1 (rq e5) nD nb x0->zB6 x0=some r->Calls Tryz.prog zB7 (([vs nD x0.length nb]:List Value)++zML).toArray w fun e w'=>e = .returned (.bool r)/\Hp [] w w' []):
  RC 115 #[vs b a.length c,.func (.func zB7) #[] (zML).toArray] Ek (.bool false) [] []:=by
 unfold km at h
 refine Lz func115 U U<|B1n U<|Lb<|bK h fun j i h=>D2q U<|Eg call166 hz (fun pz=>cG _ _ _ (zuy:=zB7) (zGK:=zML) _ (zgC:=zB6) _ i pz d f g)<|Lf 8 tZ<|Q1n U<|El ?_
 skip
 exact Lk results115 (.tmp U .nil)<|fun w hw=>⟨wx,hw.sub .nil⟩
def mY(a:yJ):Option Bool:=
 (if (decide ((a.yf.length:Int)>=1))&&(decide ((a.yf.length:Int)<=64)) then(km a.yf (fun y0=>fq y0)).bind fun c=>some true else some false).bind fun b=>some b
theorem bC(Z c d a r)(h:mY a=some r){Ek}(hz:PZ [] Ek Z)(f:ZS Z 1 (ff Z) c d a.yf):
  RC 67 #[.agg #[vs c a.yf.length d]] Ek (.bool r) [] []:=by
 unfold mY at h
 refine L3 func67 U U<|Lb<|Le (Lh 1 (wu (cs:=[vs c a.yf.length d])) fun l _=>Q1n U<|Lb ?_)
 obtain⟨k,e,h⟩:=z2 h
 let A:=(a.yf.length:Int);refine Le<|Lf 3 (w7 ux)<|Lf 4 (Ei zfp .here)<|Lf 5 (wB underlying45)<|Q2q U<|Lx true 4 7 (B:=(decide (A>=1))&&(decide (A<=64))) (fun h=>(qd h).symm) (fun _ g=>?_) ?_
 ·exact Lf 8 (w7 ux)<|Lf 9 (Ei zfp .here)<|Lf 10 (wB underlying45)<|Q2q U<|Ly (qe g) U .all
 refine La U<|Lx true 4 13 (B:=k) (fun h=>(oJ<|qg e h).symm) (fun _ i=>?_) ?_
 ·have b:=qf e i
  obtain⟨m,j,b⟩:=z2 b
  replace b:=oJ b
  exact Lf 14 (w7 ux)<|Lf 15 (Ei zfp .here)<|Eg call115 hz (fun pz=>lR _ _ _ (zB7:=116) (zML:=[]) _ (zB6:=(fun y0=>fq y0)) _ j pz f call116<|fun w' nd y0 ga0 gc0 r By hr=>Vd _ _ _ _ _ hr nd By)<|Lf 17 th<|La U<|Ly b U .all
 exact Q1n U<|El<|oJ h▸Ea results67
def mO(a:yJ):Option Bool:=
 (mY a).bind fun b=>some (b&&(decide ((a.yf.length:Int)=34)))
theorem eO(Z b c a r)(h:mO a=some r){Ek}(hz:PZ [] Ek Z)(d:ZS Z 1 (ff Z) b c a.yf):
  RC 25 #[.agg #[vs b a.yf.length c]] Ek (.bool r) [] []:=by
 unfold mO at h
 refine L3 func25 U U<|Lb<|Le (Lh 1 (wu (cs:=[vs b a.yf.length c])) fun i _=>Q1n U<|Lb ?_)
 refine bK h fun g e h=>Le<|Lf 3 (we z3N (wh .here))<|Eg call67 hz (fun pz=>bC _ _ _ _ _ e pz d)<|La U<|Lx true 4 5 (B:=g&&(decide ((a.yf.length:Int)=34))) (fun h=>(qd h).symm) (fun _ f=>?_) ?_
 ·exact Lf 6 (w7 ux)<|Lf 7 (Ei zfp .here)<|Lf 8 (wB underlying45)<|Q2q U<|Ly (qe f) U .all
 exact Q1n U<|El<|oJ h▸Ea results25
def tH(c:Int)(a:yV)(b:yC):Option Int:=
 chk (0<=c/\c<18) ((mi c (nth ([a.a0,a.a1,a.a2,a.a3,a.a4,a.a5,a.a6,a.a7,a.a8,a.a9,a.a10,a.a11,a.a12,a.a13,a.a14,a.a15,a.a16,a.a17]:List Int) c) 15 (nth ([b.y4.a0,b.y4.a1,b.y4.a2,b.y4.a3,b.y4.a4,b.y4.a5,b.y4.a6,b.y4.a7,b.y4.a8,b.y4.a9,b.y4.a10,b.y4.a11,b.y4.a12,b.y4.a13,b.y4.a14,b.y4.a15,b.y4.a16,b.y4.a17]:List Int) c)).bind fun d=>some d)
theorem Ve(Z d e g i j b a r)(h:tH j b a=some r){Ek}(hz:PZ [] Ek Z)(n:ZC Z d [vi b.a0,vi b.a1,vi b.a2,vi b.a3,vi b.a4,vi b.a5,vi b.a6,vi b.a7,vi b.a8,vi b.a9,vi b.a10,vi b.a11,vi b.a12,vi b.a13,vi b.a14,vi b.a15,vi b.a16,vi b.a17])(q:ZS Z 1 (rq vK) g i a.yr)(o:ZC Z e [vi a.yK,.int .u64 a.y4.a0,.int .u64 a.y4.a1,.int .u64 a.y4.a2,.int .u64 a.y4.a3,.int .u64 a.y4.a4,.int .u64 a.y4.a5,.int .u64 a.y4.a6,.int .u64 a.y4.a7,.int .u64 a.y4.a8,.int .u64 a.y4.a9,.int .u64 a.y4.a10,.int .u64 a.y4.a11,.int .u64 a.y4.a12,.int .u64 a.y4.a13,.int .u64 a.y4.a14,.int .u64 a.y4.a15,.int .u64 a.y4.a16,.int .u64 a.y4.a17,vs g a.yr.length i]):
  RC 117 #[vi j,vq d,vq e] Ek (.int .u64 r) [] []:=by
 unfold tH at h
 exact Ng func117 U U<|B1n U<|Lb<|cK h fun c h=>bK h fun s p h=>Lv nc []<|Lg 0 U q_m<|Lg 1 U q_m<|Lg 2 U (qF zHY c WP)<|Li 3 U (w8 wm U<|ns (l:=([b.a0,b.a1,b.a2,b.a3,b.a4,b.a5,b.a6,b.a7,b.a8,b.a9,b.a10,b.a11,b.a12,b.a13,b.a14,b.a15,b.a16,b.a17]:List Int)) (f:=Value.int .i64) (k:=0) (m:=18) hz.pv n U c)<|Lg 4 U q_m<|Lg 5 U (w7 Xt)<|Lg 6 U (qF zHV c MU)<|Li 7 U (w8 z4O U<|ns (l:=([a.y4.a0,a.y4.a1,a.y4.a2,a.y4.a3,a.y4.a4,a.y4.a5,a.y4.a6,a.y4.a7,a.y4.a8,a.y4.a9,a.y4.a10,a.y4.a11,a.y4.a12,a.y4.a13,a.y4.a14,a.y4.a15,a.y4.a16,a.y4.a17]:List Int)) (f:=Value.int .u64) (k:=1) (m:=19) hz.pv o U c)<|L5 8 U (Eh call64) (cc hz .nil fun w pz ho=>cE _ _ _ _ _ _ p pz )<|Lg 9 U q_z<|Eo (by kernel_rfl)<|Ld<|El<|oJ h▸Ea results117
def k6(b:yC)(d:Int->Option Bool):Nat->Int->Int->Option Bool
 | 0,_,_=>none
 | f+1,c,a=>if decide (a<b.yr.length) then vC (fun(g:Int)=>k6 b d f g (i64 (a+1))) fun e=>chk (0<=a/\a<b.yr.length) (chk (0<=a) (if decide ((bits .and .i64 (b.yK / 2 ^ min (a:Int).toNat 64) 1)=0) then(mX c (nth b.yr a)).bind fun h=>e h else(mX (nth b.yr a) c).bind fun i=>e i)) else d c
def tc(d:Int)(b:Int)(e:Int)(a:yC):Option Bool:=
 (ki b a.yK).bind fun f=>if (!f)||(decide ((a.yr.length:Int)≠b)) then none else(jr e).bind fun g=>(fW (fun(y0:Int)=>tH y0 g a)).bind fun c=>(fY c).bind fun h=>vC (fun(i:Int)=>some (decide (i=d))) fun j=>k6 a j wr h 0
theorem QK(Z j k f m o a r)(h:tc f m o a=some r){Ek}(hz:PZ [] Ek Z)(n:ZS Z 1 (rq vK) j k a.yr):
  RC 69 #[.int .u64 f,vi m,.int .u64 o,.agg #[vi a.yK,.int .u64 a.y4.a0,.int .u64 a.y4.a1,.int .u64 a.y4.a2,.int .u64 a.y4.a3,.int .u64 a.y4.a4,.int .u64 a.y4.a5,.int .u64 a.y4.a6,.int .u64 a.y4.a7,.int .u64 a.y4.a8,.int .u64 a.y4.a9,.int .u64 a.y4.a10,.int .u64 a.y4.a11,.int .u64 a.y4.a12,.int .u64 a.y4.a13,.int .u64 a.y4.a14,.int .u64 a.y4.a15,.int .u64 a.y4.a16,.int .u64 a.y4.a17,vs j a.yr.length k]] Ek (.bool r) [] []:=by
 unfold tc at h
 refine Nl func69 U U ?_
 let C:Value:=(vs j a.yr.length k);let A:List Value:=[vi a.yK,.int .u64 a.y4.a0,.int .u64 a.y4.a1,.int .u64 a.y4.a2,.int .u64 a.y4.a3,.int .u64 a.y4.a4,.int .u64 a.y4.a5,.int .u64 a.y4.a6,.int .u64 a.y4.a7,.int .u64 a.y4.a8,.int .u64 a.y4.a9,.int .u64 a.y4.a10,.int .u64 a.y4.a11,.int .u64 a.y4.a12,.int .u64 a.y4.a13,.int .u64 a.y4.a14,.int .u64 a.y4.a15,.int .u64 a.y4.a16,.int .u64 a.y4.a17,C];refine B0q<|Lh 7 (wu (cs:=A)) ?_
 intro g _
 refine Q1n U<|Lb<|Lb ?_
 obtain⟨M,q,h⟩:=z2 h
 let D:=(a.yr.length:Int);refine D1q U<|Lf 14 (w7 Xu)<|Lf 15 (Ei wm .here)<|Eg call20 hz (pO _ _ _ _ q)<|Q2q U<|Lx false 5 18 (B:=(!M)||(decide (D≠m))) (fun h=>(jB h).symm) (fun _ s=>?_) ?_
 ·exact Lf 19 (w7 lH)<|Lf 20 (Ei zvD .here)<|Lf 21 (wB underlying38)<|Q3q U<|Ly (jC s) U .all
 refine Q0n<|Lj h (fun t h=>?_)<|fun t h=>?_
 ·cases h
 ·refine Ec<|Lb<|bK h fun N u h=>D1q U<|Eg call61 hz (Yr _ _ _ u) (Lh 9 (wn (cs:=[vi 0,vi 0,vi 0,vi 0,vi 0,vi 0,vi 0,vi 0,vi 0,vi 0,vi 0,vi 0,vi 0,vi 0,vi 0,vi 0,vi 0,vi 0]) zHX) fun v _=>Ll (wl zO2 .here)<|Q0n<|Lb ?_)
  refine bK h fun T x h=>bK h fun O y h=>Le<|Lf 27 (wO<|L6 (l:=[.tmp 9,.tmp 7])<|.r2 U U)<|Lm 28 (Eh call62) .nil (kb hz .nil .a2 fun w pz ho la=>l0 _ (zj9:=117) (zr2:=[vp v,vp g]) (zdh:=(fun(y0:Int)=>tH y0 N a)) _ x pz call117<|fun w' nd y0  r  hr=>Ve _ _ _ _ _ _ _ _ _ hr nd ((la _ (.head _) _).stb) (n.mono<|zl)<|(la _ (.tail _<|.head _) _).stb)<|Eg call112 hz (Yq _ _ _ y)<|Q1n U<|jK1 h fun p z h=>Nd (fun e=>(p e=some r)) (fun e=>[(0,.int .u64 f),(10,.int .u64 e)]) (fun e=>[]) ?_ ?_
  ·refine B0q<|Lf 30 (w7 lH)<|Lf 31 (Ei zvD .h1)<|Lf 32 (wB underlying38)<|Q1n U<|WC.block<|E4 (fun i c b=>(k6 a p i c b=some r)) (fun i c b=>[(0,.int .u64 f),(7,vp g),(10,.int .u64 c),(31,C),(32,vi D),(33,vi b)]) (fun i c b=>[stb g 40 A]) (fun i c b=>i) ⟨wr,O,0⟩ h .q (.cons .h1 .nil) ?_
   rintro(_|P) c b h;·cases h
   rw[k6] at h
   refine B1n U<|Lb<|Lj h (fun E h=>?_)<|fun E h=>?_
   ·refine Ec<|jK1 h fun Q F h=>Nd (fun d=>(Q d=some r)) (fun d=>[(0,.int .u64 f),(7,vp g),(10,.int .u64 d),(31,C),(32,vi D),(33,vi b)]) (fun d=>[stb g 40 A]) ?_ ?_
    ·refine WC.block<|Lb<|cK h fun G h=>D1q U<|L0 (dd:=36) (Z:=Z) (Pr:=(rq vK)) zcJ n G ?_
     rintro V W H X rfl
     refine Lf 37 (w8 z4O U<|vx hz.pv H)<|Q2n U<|Lb<|cK h fun I h=>Le<|Lf 38 (w7 Xu)<|Lf 39 (Ei wm .here)<|La U<|Lf 41 (oV I)<|Lf 42 Wz<|Q1n U<|Lj h (fun J h=>?_)<|fun J h=>?_
     ·exact bK h fun R K h=>D2q U<|Eg call60 hz (bB _ _ _ _ K)<|La U<|WL.nil<|Lq<|Lp R h .q<|.cons .here .nil
     ·exact bK h fun S L h=>D2q U<|Eg call60 hz (bB _ _ _ _ L)<|La U<|WL.nil<|Lq<|Lp S h .q<|.cons .here .nil
    ·rintro d h
     replace h:=(F d).symm.trans h
     exact D2q U<|WL.nil<|Em ⟨P,d,i64 (b+1)⟩ h (Nat.lt_succ_self _) .q<|.cons .here .nil
   ·exact En<|Ln<|Ln<|Lu<|Lp c h .q .nil
  ·rintro e h
   replace h:=(z e).symm.trans h
   exact B4n U<|El<|oJ h▸Ea results69
end Go.Proofs.YtaefhckdgfpeaaaGreat

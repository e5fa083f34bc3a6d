/- A part of this claim's proof: models of functions, walks, plain laws. No conditions. -/
import Derived.Test.YtaefhckdgfpeaaaGreatWTopUpdate
set_option linter.all false
namespace Go.Proofs.YtaefhckdgfpeaaaGreat
open Go Go.RowKit Sep
section
set_option maxRecDepth 100000
theorem Wu:rG=some true:=by kernel_rfl
end
section
variable {data:List Int}{x:Int}
set_option maxRecDepth 100000
theorem Ko{α:Type}{o:Option α}(h:o.isSome=true):∃ a,o=some a:=Option.isSome_iff_exists.1 h
theorem GO(k:IntKind)(h:k.signed=false)(x:Int):0<=k.wrap x/\k.wrap x<2 ^ k.bits:=by
 have hp:(0:Int)<2 ^ k.bits:=Int.pow_pos (by decide)
 unfold IntKind.wrap
 simp only[h,Bool.false_and,Bool.false_eq_true,if_false]
 exact⟨Int.emod_nonneg x (by omega),Int.emod_lt_of_pos x hp⟩
theorem FS{op:BinOp}{y:Int}:0<=bits op .u64 x y/\bits op .u64 x y<18446744073709551616:=GO .u64 rfl _
theorem Mz{op:BinOp}{y:Int}:0<=bits op .u8 x y/\bits op .u8 x y<256:=GO .u8 rfl _
def fx(d:Int):List Int:=[u8 (d / 2 ^ 0),u8 (d / 2 ^ 8),u8 (d / 2 ^ 16),u8 (d / 2 ^ 24),u8 (d / 2 ^ 32),u8 (d / 2 ^ 40),u8 (d / 2 ^ 48),u8 (d / 2 ^ 56)]
theorem ly(d:Int):jy d=some (fx d):=by kernel_rfl
def mx(d:Int):Int:=bits .xor .u64 (u64 (d+(u64 (d*2 ^ 36)))) ((u64 (d+(u64 (d*2 ^ 36)))) / 2 ^ 28)
theorem GP(s:xk):gp s=some (mx (mx (bits .xor .u64 s.xm (u64 s.xl)))):=by kernel_rfl
theorem Qj(s:xk):∃ y,gp s=some y/\0<=y/\y<18446744073709551616:=⟨_,GP s,FS⟩
theorem MA(v:Int)(c:xk):∃ z,ot v c=some z:=Ko (by kernel_rfl)
theorem FT(hl:data.length<1099511627776){k:Int->Int->Option xk}:∀(m:Nat) (v c c':Int) (n:Nat),0<=v->v+m=data.length->m<n->∃ a b,go data k n v c c'=k a b:=by
 intro m
 induction m with
 | zero=>
  intro v c c' n h0 h1 h2
  obtain⟨n,rfl⟩:∃ q,n=q+1:=⟨n-1,by omega⟩
  rw[go,if_neg (by simp;omega)]
  exact⟨_,_,rfl⟩
 | succ m ih=>
  intro v c c' n h0 h1 h2
  obtain⟨n,rfl⟩:∃ q,n=q+1:=⟨n-1,by omega⟩
  obtain⟨z,hz⟩:=MA (nth data v) ⟨c,c'⟩
  rw[go,if_pos (by simp;omega),ws (by omega),hz,oB,va (by omega)]
  exact ih (v+1) _ _ n (by omega) (by omega) (by omega)
theorem GQ(s:xk)(hl:data.length<1099511627776):∃ z,pP s data=some z:=by
 obtain⟨a,b,h⟩:=FT hl (k:=fun a b=>some ⟨a,b⟩) data.length 0 s.xm s.xl wr (by omega) (by omega) (by rw[qJ];omega)
 exact⟨_,h⟩
theorem Ma(hl:data.length<1099511627776):∃ y,g4 data=some y/\0<=y/\y<18446744073709551616:=by
 obtain⟨z,hz⟩:=GQ ⟨7953747704174896417,0⟩ hl
 obtain⟨y,hy,hr⟩:=Qj z
 exact⟨y,by simp only[g4,sG,oB,hz,hy],hr⟩
def dg(data:List Int):Int:=(g4 data).getD 0
theorem Y9(hl:data.length<1099511627776):g4 data=some (dg data):=by
 obtain⟨y,hy,_⟩:=Ma hl
 unfold dg;rw[hy];rfl
theorem FU(hl:data.length<1099511627776):0<=dg data/\dg data<18446744073709551616:=by
 obtain⟨y,hy,hr⟩:=Ma hl
 unfold dg;rw[hy];exact hr
theorem Q0(a b:Int):mX a b=some (dg (fx a++fx b)):=by
 simp only[mX,ly,oB]
 rw[ws (by simp[fx]),Y9 (by simp[fx])];rfl
def st(i k x:Int):Int:=dg ([u8 i,u8 k]++fx x)
theorem MB(i k x:Int):oR i k x=some (st i k x):=by
 simp only[oR,ly,oB]
 rw[ws (by simp[fx]),Y9 (by simp[fx])];rfl
def Yv(seed q i:Int):Int:=dg (fx seed++[u8 q,u8 (q / 2 ^ 8),u8 i])
theorem Qk(seed q i:Int):t8 seed q i=some (Yv seed q i):=by
 simp only[t8,ly,oB]
 rw[ws (by simp[fx]),Y9 (by simp[fx])];rfl
def iS(i:Int):Nat->Int->Int->Int
 | 0,_,x=>x
 | n+1,k,x=>iS i n (k+1) (st i k x)
theorem Kp(i:Int):∀(a b:Nat) (k x:Int),iS i (a+b) k x=iS i b (k+a) (iS i a k x)
 | 0,b,k,x=>by simp[iS]
 | a+1,b,k,x=>by
  rw[show a+1+b=(a+b)+1 from by omega,iS,Kp i a b,iS]
  congr 1;push_cast;omega
theorem JE{i to:Int}{k:Int->Option Int}:∀(m:Nat) (x f:Int) (n:Nat),0<=f->f+m=to->to<=100->m<n->ku to i k n x f=k (iS i m f x):=by
 intro m
 induction m with
 | zero=>
  intro x f n h0 h1 _ h2
  obtain⟨n,rfl⟩:∃ q,n=q+1:=⟨n-1,by omega⟩
  rw[ku,if_neg (by simp;omega)];rfl
 | succ m ih=>
  intro x f n h0 h1 h3 h2
  obtain⟨n,rfl⟩:∃ q,n=q+1:=⟨n-1,by omega⟩
  rw[ku,if_pos (by simp;omega),MB,oB,va (by omega)]
  exact ih _ (f+1) n (by omega) (by omega) h3 (by omega)
theorem Ya{i f to:Int}(m:Nat)(h0:0<=f)(h1:f+m=to)(h2:to<=100):mi i f to x=some (iS i m f x):=
 JE (k:=fun x=>some x) m x f wr h0 h1 h2 (by rw[qJ];omega)
theorem st_r(i k x:Int):0<=st i k x/\st i k x<18446744073709551616:=FU (by simp[fx])
theorem Mb{i:Int}:∀(n:Nat) (k x:Int),0<=x/\x<18446744073709551616->0<=iS i n k x/\iS i n k x<18446744073709551616
 | 0,_,_,h=>h
 | n+1,k,x,_=>Mb n (k+1) _ (st_r i k x)
theorem sec_r(seed q i:Int):0<=Yv seed q i/\Yv seed q i<18446744073709551616:=FU (by simp[fx])
def ch(g:Int->Int):xj:=⟨g 0,g 1,g 2,g 3,g 4,g 5,g 6,g 7,g 8,g 9,g 10,g 11,g 12,g 13,g 14,g 15,g 16,g 17⟩
end
section
variable {l:List Int}{f:Int->Option Int}{k:Int->Int->Int->Int->Int->Int->Int->Int->Int->Int->Int->Int->Int->Int->Int->Int->Int->Int->Option xj}{n:Nat}{g:Int->Int}
set_option maxRecDepth 100000
def ap{R:Type}(k:Int->Int->Int->Int->Int->Int->Int->Int->Int->Int->Int->Int->Int->Int->Int->Int->Int->Int->R)(l:List Int):R:=k (nth l 0) (nth l 1) (nth l 2) (nth l 3) (nth l 4) (nth l 5) (nth l 6) (nth l 7) (nth l 8) (nth l 9) (nth l 10) (nth l 11) (nth l 12) (nth l 13) (nth l 14) (nth l 15) (nth l 16) (nth l 17)
theorem l18(h:l.length=18):[nth l 0,nth l 1,nth l 2,nth l 3,nth l 4,nth l 5,nth l 6,nth l 7,nth l 8,nth l 9,nth l 10,nth l 11,nth l 12,nth l 13,nth l 14,nth l 15,nth l 16,nth l 17]=l:=by
 match l,h with
 | [a0,a1,a2,a3,a4,a5,a6,a7,a8,a9,a10,a11,a12,a13,a14,a15,a16,a17],_=>rfl
theorem vstep{v:Int}(hl:l.length=18)(h0:0<=v)(h1:v<18):
  ap (qT f k (n+1) v) l=(f v).bind fun x=>ap (qT f k n (v+1)) (l.set v.toNat x):=by
 unfold ap
 rw[qT,if_pos (by simpa using h1),l18 hl,va (by omega)]
 simp only[ws (show(0:Int)<=v/\v<18 from⟨h0,h1⟩)]
theorem vend:ap (qT f k (n+1) 18) l=ap k l:=by
 unfold ap
 rw[qT,if_neg (by decide)]
theorem qc{α:Type}[Inhabited α]{l:List α}{k j:Int}{x:α}(h0:0<=k/\k<l.length)(h1:0<=j):nth (l.set k.toNat x) j=if j=k then x else nth l j:=by
 unfold nth
 rw[List.getD_eq_getElem?_getD,List.getElem?_set,List.getD_eq_getElem?_getD]
 by_cases h:j=k
 ·subst h;rw[if_pos rfl,if_pos rfl,if_pos (by omega)];rfl
 ·rw[if_neg (by omega),if_neg h]
theorem md(j:Int)(h0:0<=j)(h1:j<18):nth ([0,0,0,0,0,0,0,0,0,0,0,0,0,0,0,0,0,0]:List Int) j=0:=by
 have:=uw (l:=([0,0,0,0,0,0,0,0,0,0,0,0,0,0,0,0,0,0]:List Int)) (i:=j) h0 (by simpa using h1)
 simpa using this
theorem vloop(hf:∀ i,0<=i->i<18->f i=some (g i)):∀(m:Nat) (v:Int) (l:List Int) (n:Nat),l.length=18->0<=v->v+m=18->m<n->
  ∃ l':List Int,l'.length=18/\(∀ j,0<=j->j<18->nth l' j=if j<v then nth l j else g j)/\ap (qT f k n v) l=ap k l':=by
 intro m
 induction m with
 | zero=>
  intro v l n hl h0 h1 h2
  obtain⟨n,rfl⟩:∃ q,n=q+1:=⟨n-1,by omega⟩
  obtain rfl:v=18:=by omega
  exact⟨l,hl,fun j _ h=>by rw[if_pos h],vend⟩
 | succ m ih=>
  intro v l n hl h0 h1 h2
  obtain⟨n,rfl⟩:∃ q,n=q+1:=⟨n-1,by omega⟩
  obtain⟨l',a,b,c⟩:=ih (v+1) (l.set v.toNat (g v)) n (by simpa using hl) (by omega) (by omega) (by omega)
  refine⟨l',a,fun j j0 j1=>?_,?_⟩
  ·rw[b j j0 j1,qc (by omega) j0]
   by_cases h:j<v
   ·rw[if_pos (by omega),if_neg (by omega),if_pos h]
   ·by_cases e:j=v
    ·subst e;rw[if_pos (by omega),if_pos rfl,if_neg h]
    ·rw[if_neg (by omega),if_neg h]
  ·rw[vstep hl h0 (by omega),hf v h0 (by omega),oB,c]
theorem eQ(hf:∀ i,0<=i->i<18->f i=some (g i)):fW f=some (ch g):=by
 unfold fW Fh
 generalize hk:(fun(c0 c1 c2 c3 c4 c5 c6 c7 c8 c9 c10 c11 c12 c13 c14 c15 c16 c17:Int)=>some (⟨c0,c1,c2,c3,c4,c5,c6,c7,c8,c9,c10,c11,c12,c13,c14,c15,c16,c17⟩:xj))=k
 obtain⟨l',_,h,e⟩:=vloop hf (k:=k) 18 0 [0,0,0,0,0,0,0,0,0,0,0,0,0,0,0,0,0,0] wr rfl (by decide) (by decide) (by rw[qJ];omega)
 have q:∀ j,0<=j->j<18->nth l' j=g j:=fun j a b=>by rw[h j a b,if_neg (by omega)]
 unfold ap at e
 simp only[md 0 (by decide) (by decide),md 1 (by decide) (by decide),md 2 (by decide) (by decide),md 3 (by decide) (by decide),md 4 (by decide) (by decide),md 5 (by decide) (by decide),md 6 (by decide) (by decide),md 7 (by decide) (by decide),md 8 (by decide) (by decide),md 9 (by decide) (by decide),md 10 (by decide) (by decide),md 11 (by decide) (by decide),md 12 (by decide) (by decide),md 13 (by decide) (by decide),md 14 (by decide) (by decide),md 15 (by decide) (by decide),md 16 (by decide) (by decide),md 17 (by decide) (by decide)] at e
 dsimp only
 rw[e]
 unfold ch
 subst hk
 simp only[q 0 (by decide) (by decide),q 1 (by decide) (by decide),q 2 (by decide) (by decide),q 3 (by decide) (by decide),q 4 (by decide) (by decide),q 5 (by decide) (by decide),q 6 (by decide) (by decide),q 7 (by decide) (by decide),q 8 (by decide) (by decide),q 9 (by decide) (by decide),q 10 (by decide) (by decide),q 11 (by decide) (by decide),q 12 (by decide) (by decide),q 13 (by decide) (by decide),q 14 (by decide) (by decide),q 15 (by decide) (by decide),q 16 (by decide) (by decide),q 17 (by decide) (by decide)]
def cl(c:xj):List Int:=[c.a0,c.a1,c.a2,c.a3,c.a4,c.a5,c.a6,c.a7,c.a8,c.a9,c.a10,c.a11,c.a12,c.a13,c.a14,c.a15,c.a16,c.a17]
theorem nth18{i:Int}(h0:0<=i)(h1:i<18):nth (cl (ch g)) i=g i:=by
 obtain⟨m,rfl⟩:∃ m:Nat,i=m:=⟨i.toNat,by omega⟩
 have:m<18:=by omega
 match m,this with
 | 0,_=>rfl
 | 1,_=>rfl
 | 2,_=>rfl
 | 3,_=>rfl
 | 4,_=>rfl
 | 5,_=>rfl
 | 6,_=>rfl
 | 7,_=>rfl
 | 8,_=>rfl
 | 9,_=>rfl
 | 10,_=>rfl
 | 11,_=>rfl
 | 12,_=>rfl
 | 13,_=>rfl
 | 14,_=>rfl
 | 15,_=>rfl
 | 16,_=>rfl
 | 17,_=>rfl
def dl(c:yV):List Int:=[c.a0,c.a1,c.a2,c.a3,c.a4,c.a5,c.a6,c.a7,c.a8,c.a9,c.a10,c.a11,c.a12,c.a13,c.a14,c.a15,c.a16,c.a17]
theorem and15(y:Int):0<=bits .and .u64 y 15/\bits .and .u64 y 15<=15:=by
 have h:bits .and .u64 y 15=((BitVec.ofInt 64 y &&& BitVec.ofInt 64 15).toNat:Int) % 2 ^ 64:=rfl
 have h2:(BitVec.ofInt 64 y &&& BitVec.ofInt 64 15).toNat<=15:=by
  rw[BitVec.toNat_and];exact Nat.and_le_right
 rw[h];omega
def Ql(d v:Int):Int:=i64 (bits .and .u64 (d / 2 ^ min ((i64 (4*v)):Int).toNat 64) 15)
theorem dgt_r(d v:Int):0<=Ql d v/\Ql d v<=15:=by
 have:=and15 (d / 2 ^ min ((i64 (4*v)):Int).toNat 64)
 unfold Ql;rw[va (by omega)];exact this
theorem dstep{d:Int}{k:Int->Int->Int->Int->Int->Int->Int->Int->Int->Int->Int->Int->Int->Int->Int->Int->Int->Int->Int->Option yV}{s v:Int}(hl:l.length=18)(h0:0<=v)(h1:v<16):
  ap (jf d k (n+1) s v) l=ap (jf d k n (i64 (s+i64 (15-Ql d v))) (v+1)) (l.set v.toNat (Ql d v)):=by
 unfold ap
 rw[jf,if_pos (by simpa using h1),ws (by rw[va (by omega)];omega),ws (by omega),ws (by omega),l18 hl,va (x:=v+1) (by omega)]
 rw[show i64 (bits .and .u64 (d / 2 ^ min ((i64 (4*v)):Int).toNat 64) 15)=Ql d v from rfl,l18 (l:=l.set v.toNat (Ql d v)) (by simpa using hl),qc (by omega) h0,if_pos rfl]
theorem dloop{d:Int}{k:Int->Int->Int->Int->Int->Int->Int->Int->Int->Int->Int->Int->Int->Int->Int->Int->Int->Int->Int->Option yV}:∀(m:Nat) (s v:Int) (l:List Int) (n:Nat),l.length=18->0<=v->v+m=16->m<n->0<=s->s<=15*v->(∀ j,0<=j->j<18->0<=nth l j/\nth l j<=15)->
  ∃(s':Int) (l':List Int),l'.length=18/\(∀ j,0<=j->j<18->0<=nth l' j/\nth l' j<=15)/\0<=s'/\s'<=240/\ap (jf d k n s v) l=ap (k s') l':=by
 intro m
 induction m with
 | zero=>
  intro s v l n hl h0 h1 h2 s0 s1 hr
  obtain⟨n,rfl⟩:∃ q,n=q+1:=⟨n-1,by omega⟩
  refine⟨s,l,hl,hr,s0,by omega,?_⟩
  unfold ap
  rw[jf,if_neg (by simp;omega)]
 | succ m ih=>
  intro s v l n hl h0 h1 h2 s0 s1 hr
  obtain⟨n,rfl⟩:∃ q,n=q+1:=⟨n-1,by omega⟩
  have hd:=dgt_r d v
  rw[dstep hl h0 (by omega)]
  rw[va (x:=15-Ql d v) (by omega),va (by omega)]
  refine ih _ (v+1) _ n (by simpa using hl) (by omega) (by omega) (by omega) (by omega) (by omega) fun j j0 j1=>?_
  rw[qc (by omega) j0]
  split
  ·exact hd
  ·exact hr j j0 j1
theorem Qm(d:Int):∃ D,jr d=some D/\∀ j,0<=j->j<18->0<=nth (dl D) j/\nth (dl D) j<=15:=by
 unfold jr Fi
 generalize hk:(fun(s c0 c1 c2 c3 c4 c5 c6 c7 c8 c9 c10 c11 c12 c13 c14 c15 c16 c17:Int)=>some (⟨c0,c1,c2,c3,c4,c5,c6,c7,c8,c9,c10,c11,c12,c13,c14,c15,Int.tmod s 16,i64 (Int.tdiv s 16)⟩:yV))=k
 have hz:∀ j:Int,0<=j->j<18->0<=nth ([0,0,0,0,0,0,0,0,0,0,0,0,0,0,0,0,0,0]:List Int) j/\nth ([0,0,0,0,0,0,0,0,0,0,0,0,0,0,0,0,0,0]:List Int) j<=15:=fun j j0 j1=>by rw[md j j0 j1];decide
 obtain⟨s,l,hl,hr,s0,s1,e⟩:=dloop (d:=d) (k:=k) 16 0 0 [0,0,0,0,0,0,0,0,0,0,0,0,0,0,0,0,0,0] wr rfl (by decide) (by decide) (by rw[qJ];omega) (by decide) (by decide) hz
 unfold ap at e
 simp only[md 0 (by decide) (by decide),md 1 (by decide) (by decide),md 2 (by decide) (by decide),md 3 (by decide) (by decide),md 4 (by decide) (by decide),md 5 (by decide) (by decide),md 6 (by decide) (by decide),md 7 (by decide) (by decide),md 8 (by decide) (by decide),md 9 (by decide) (by decide),md 10 (by decide) (by decide),md 11 (by decide) (by decide),md 12 (by decide) (by decide),md 13 (by decide) (by decide),md 14 (by decide) (by decide),md 15 (by decide) (by decide),md 16 (by decide) (by decide),md 17 (by decide) (by decide)] at e
 dsimp only
 rw[e]
 subst hk
 refine⟨_,rfl,fun j j0 j1=>?_⟩
 obtain⟨m,rfl⟩:∃ m:Nat,j=m:=⟨j.toNat,by omega⟩
 have hm:m<18:=by omega
 have a1:0<=Int.tmod s 16/\Int.tmod s 16<=15:=by rw[Int.tmod_eq_emod_of_nonneg s0];omega
 have a2:0<=i64 (Int.tdiv s 16)/\i64 (Int.tdiv s 16)<=15:=by rw[Int.tdiv_eq_ediv_of_nonneg s0,va (by omega)];omega
 match m,hm with
 | 0,_=>exact hr 0 (by decide) (by decide)
 | 1,_=>exact hr 1 (by decide) (by decide)
 | 2,_=>exact hr 2 (by decide) (by decide)
 | 3,_=>exact hr 3 (by decide) (by decide)
 | 4,_=>exact hr 4 (by decide) (by decide)
 | 5,_=>exact hr 5 (by decide) (by decide)
 | 6,_=>exact hr 6 (by decide) (by decide)
 | 7,_=>exact hr 7 (by decide) (by decide)
 | 8,_=>exact hr 8 (by decide) (by decide)
 | 9,_=>exact hr 9 (by decide) (by decide)
 | 10,_=>exact hr 10 (by decide) (by decide)
 | 11,_=>exact hr 11 (by decide) (by decide)
 | 12,_=>exact hr 12 (by decide) (by decide)
 | 13,_=>exact hr 13 (by decide) (by decide)
 | 14,_=>exact hr 14 (by decide) (by decide)
 | 15,_=>exact hr 15 (by decide) (by decide)
 | 16,_=>exact a1
 | 17,_=>exact a2
end
section
set_option maxRecDepth 100000
theorem FV{c:xj}{k:Int->Int->Option Int}:∀(m:Nat) (v a b:Int) (n:Nat),0<=v->v+m=18->m<n->∃ a' b',kW c k n v a b=k a' b':=by
 intro m
 induction m with
 | zero=>
  intro v a b n h0 h1 h2
  obtain⟨n,rfl⟩:∃ q,n=q+1:=⟨n-1,by omega⟩
  rw[kW,if_neg (by simp;omega)]
  exact⟨_,_,rfl⟩
 | succ m ih=>
  intro v a b n h0 h1 h2
  obtain⟨n,rfl⟩:∃ q,n=q+1:=⟨n-1,by omega⟩
  rw[kW,if_pos (by simp;omega),ws (by omega),ly,oB]
  obtain⟨z,hz⟩:=GQ ⟨a,b⟩ (data:=fx (nth (cl c) v)) (by simp[fx])
  unfold cl at hz
  rw[hz,oB,va (by omega)]
  exact ih (v+1) _ _ n (by omega) (by omega) (by omega)
theorem Qn(c:xj):∃ y,fY c=some y/\0<=y/\y<18446744073709551616:=by
 unfold fY rl
 rw[show sG=some () from rfl,oB]
 generalize hk:(fun(a b:Int)=>(gp (⟨a,b⟩:xk)).bind fun x=>some x)=k
 dsimp only
 obtain⟨a,b,h⟩:=FV (c:=c) (k:=k) 18 0 7953747704174896417 0 wr (by omega) (by omega) (by rw[qJ];omega)
 obtain⟨y,hy,hr⟩:=Qj ⟨a,b⟩
 rw[h]
 subst hk
 exact⟨y,by change (gp ⟨a,b⟩).bind _=_;rw[hy];rfl,hr⟩
def pb(c:xj):Int:=(fY c).getD 0
theorem Qo(c:xj):fY c=some (pb c):=by
 obtain⟨y,hy,_⟩:=Qn c
 unfold pb;rw[hy];rfl
theorem pb_r(c:xj):0<=pb c/\pb c<18446744073709551616:=by
 obtain⟨y,hy,hr⟩:=Qn c
 unfold pb;rw[hy];exact hr
def Pk(seed q:Int):Int:=pb (ch fun i=>iS i 15 0 (Yv seed q i))
theorem Qp(seed q:Int):rz seed q=some (Pk seed q):=by
 unfold rz
 rw[eQ (g:=fun i=>iS i 15 0 (Yv seed q i)) fun i h0 h1=>by
  simp only[tG,Qk,oB]
  rw[Ya 15 (by decide) (by decide) (by decide),oB]]
 rw[oB,Qo,oB];rfl
def Rt(seed:Int):Int:=dg (fx (Pk seed 0)++fx (Pk seed 1))
theorem Yc:wr=18446744073709551613+1+1+1:=rfl
theorem nt{b:Bool}(h:b=false):¬b=true:=by rw[h];exact Bool.false_ne_true
theorem dt{p:Prop}[Decidable p](h:decide p=true):p:=of_decide_eq_true h
theorem Kq{Sg:Type}(y:List Int->Sg->Option (Bool×Sg))(s0:Sg)(seed:Int):
  mN Sg y s0 1 seed=(y [Pk seed 0,Pk seed 1] s0).bind fun x=>if x.1=true then(y [Rt seed] x.2).bind fun z=>some z.2 else some x.2:=by
 unfold mN
 rw[ws (by decide),ws (dt (by kernel_rfl))]
 refine j4 fun k hk=>?_
 rw[Yc]
 rw[jN,if_pos (by kernel_rfl),Qp,oB,ws (dt (by kernel_rfl))]
 rw[jN,if_pos (by kernel_rfl),Qp,oB,ws (dt (by kernel_rfl))]
 rw[jN,if_neg (nt (by kernel_rfl))]
 have e1:((List.replicate ((i64 (1*2 ^ min (1:Int).toNat 64)):Int).toNat (0:Int)).set (0:Int).toNat (Pk seed 0)).set (i64 (0+1)).toNat (Pk seed (i64 (0+1)))=[Pk seed 0,Pk seed 1]:=by kernel_rfl
 rw[e1,hk]
 refine j4 fun k2 wj=>?_
 rw[Yc,kY]
 refine congrArg (Option.bind _) (funext fun x=>?_)
 by_cases h:x.1=true
 ·rw[if_pos (by rw[h];kernel_rfl),if_pos h]
  refine j4 fun k3 Ao=>?_
  rw[ws (dt (by kernel_rfl))]
  refine j4 fun k4 Cj=>?_
  rw[Yc,kX,if_pos (by kernel_rfl),ws (dt (by kernel_rfl)),ws (dt (by kernel_rfl)),Q0,oB,ws (dt (by kernel_rfl))]
  rw[kX,if_neg (nt (by kernel_rfl)),Cj,Ao]
  have e2:(List.replicate ((i64 (Int.tdiv (([Pk seed 0,Pk seed 1].length:Nat):Int) 2)):Int).toNat (0:Int)).set (0:Int).toNat (dg (fx (nth [Pk seed 0,Pk seed 1] (i64 (2*0)))++fx (nth [Pk seed 0,Pk seed 1] (i64 (i64 (2*0)+1)))))=[Rt seed]:=by kernel_rfl
  rw[e2,kY]
  refine congrArg (Option.bind _) (funext fun z=>?_)
  rw[if_neg (nt (by rw[show decide ((([Rt seed].length:Nat):Int)>1)=false by kernel_rfl,Bool.and_false])),wj]
 ·rw[if_neg (nt (by rw[Bool.eq_false_iff.2 h,Bool.false_and])),if_neg h,wj]
theorem MC(seed:Int):oS seed 1=some (Rt seed):=by
 unfold oS
 rw[show ki 1 0=some true by kernel_rfl,oB,if_neg (nt (b := !true) rfl)]
 refine j4 fun k hk=>?_
 rw[show t7 seed 1=some (1,seed) from rfl,oB,Kq]
 change k (Rt seed)=_
 rw[hk]
def sg(seed q:Int)(D:yV):yC:=⟨q,ch fun i=>iS i (nth (dl D) i).toNat 0 (Yv seed q i),[Pk seed (1-q)]⟩
theorem Kr{seed q d:Int}{D:yV}(hD:jr d=some D)(hr:∀ j,0<=j->j<18->0<=nth (dl D) j/\nth (dl D) j<=15)(hq:q=0\/q=1):rI seed 1 q d=some (sg seed q D):=by
 unfold rI
 have hv:ki 1 q=some true:=by rcases hq with rfl | rfl <;> kernel_rfl
 rw[hv,oB,if_neg (nt (b := !true) rfl),hD,oB]
 rw[eQ (g:=fun i=>iS i (nth (dl D) i).toNat 0 (Yv seed q i)) fun i h0 h1=>by
  have:=hr i h0 h1
  have e:=Ya (i:=i) (f:=0) (to:=nth (dl D) i) (x:=Yv seed q i) (nth (dl D) i).toNat (by decide) (by omega) (by omega)
  unfold rA
  rw[ws ⟨h0,h1⟩,Qk,oB]
  unfold dl at e ⊢
  rw[e,oB]]
 rw[oB]
 refine j4 fun k hk=>?_
 rw[show t7 seed 1=some (1,seed) from rfl,oB,Kq]
 rcases hq with rfl | rfl
 ·refine Eq.trans (b:=k [Pk seed 1]) (by kernel_rfl) ?_
  rw[hk];rfl
 ·refine Eq.trans (b:=k [Pk seed 0]) (by kernel_rfl) ?_
  rw[hk];rfl
theorem GR{seed q d:Int}{D:yV}(hD:jr d=some D)(hr:∀ j,0<=j->j<18->0<=nth (dl D) j/\nth (dl D) j<=15)(hq:q=0\/q=1):tc (Rt seed) 1 d (sg seed q D)=some true:=by
 unfold tc
 have hv:ki 1 (sg seed q D).yK=some true:=by rcases hq with rfl | rfl <;> kernel_rfl
 rw[hv,oB,if_neg (nt (by rcases hq with rfl | rfl <;> kernel_rfl)),hD,oB]
 rw[eQ (g:=fun i=>iS i 15 0 (Yv seed q i)) fun i h0 h1=>by
  have:=hr i h0 h1
  have e:nth (cl (sg seed q D).y4) i=_:=nth18 (g:=fun i=>iS i (nth (dl D) i).toNat 0 (Yv seed q i)) h0 h1
  unfold cl at e
  unfold tH
  rw[ws ⟨h0,h1⟩,e]
  change (mi i (nth (dl D) i) 15 _).bind _=_
  rw[Ya (15-nth (dl D) i).toNat (by omega) (by omega) (by omega),oB]
  have h2:=Kp i (nth (dl D) i).toNat (15-nth (dl D) i).toNat 0 (Yv seed q i)
  rw[show(0:Int)+((nth (dl D) i).toNat:Int)=nth (dl D) i by omega,show(nth (dl D) i).toNat+(15-nth (dl D) i).toNat=15 by omega] at h2
  rw[h2]]
 rw[oB,Qo,oB]
 refine j4 fun k hk=>?_
 change k6 (sg seed q D) k wr (Pk seed q) 0=_
 rw[Yc,k6,if_pos (by kernel_rfl)]
 refine j4 fun k2 wj=>?_
 rw[ws (dt (by kernel_rfl)),ws (by decide),Q0,Q0]
 have CU:∀(x:Int) (n:Nat),k6 (sg seed q D) k (n+1) x (i64 (0+1))=some (decide (x=Rt seed)):=fun x n=>by
  rw[k6,if_neg (nt (by kernel_rfl)),hk]
 rcases hq with rfl | rfl
 ·rw[if_pos (by kernel_rfl),oB,wj,CU]
  exact congrArg some (decide_eq_true (by kernel_rfl))
 ·rw[if_neg (nt (by kernel_rfl)),oB,wj,CU]
  exact congrArg some (decide_eq_true (by kernel_rfl))
end
section
variable {l:List (List Int)}{i:Int}{data:List Int}
set_option maxRecDepth 100000
theorem oz{α:Type}[Inhabited α]{a b:List α}(h0:0<=i):nth (a++b) i=if i<a.length then nth a i else nth b (i-a.length):=by
 unfold nth
 rw[List.getD_eq_getElem?_getD,List.getElem?_append]
 by_cases h:i<a.length
 ·rw[if_pos (by omega),if_pos h,List.getD_eq_getElem?_getD]
 ·rw[if_neg (by omega),if_neg h,List.getD_eq_getElem?_getD,show(i-(a.length:Int)).toNat=i.toNat-a.length by omega]
theorem FW:∃ t,cQ=some t:=Ko (by kernel_rfl)
theorem FX{t:List Int}(hl:data.length<1099511627776){k:Int->Option Int}:∀(m:Nat) (r v:Int) (n:Nat),0<=v->v+m=data.length->m<n->∃ y,gr data t k n r v=k y:=by
 intro m
 induction m with
 | zero=>
  intro r v n h0 h1 h2
  obtain⟨n,rfl⟩:∃ q,n=q+1:=⟨n-1,by omega⟩
  rw[gr,if_neg (by simp;omega)]
  exact⟨_,rfl⟩
 | succ m ih=>
  intro r v n h0 h1 h2
  obtain⟨n,rfl⟩:∃ q,n=q+1:=⟨n-1,by omega⟩
  rw[gr,if_pos (by simp;omega),ws (by omega),ws Mz,va (by omega)]
  exact ih _ (v+1) n (by omega) (by omega) (by omega)
theorem MZ(hl:data.length<1099511627776):∃ y,lK data=some y:=by
 obtain⟨t,ht⟩:=FW
 obtain⟨y,hy⟩:=FX (t:=t) hl (k:=fun r=>some (bits .xor .u32 4294967295 r)) data.length (bits .xor .u32 4294967295 0) 0 wr (by decide) (by omega) (by rw[qJ];omega)
 refine⟨bits .xor .u32 4294967295 y,?_⟩
 simp only[lK,iF,ht,oB,vC]
 rw[hy];rfl
def crs(data:List Int):Int:=(lK data).getD 0
def cr(data:List Int):List Int:=[u8 (crs data / 2 ^ 0),u8 (crs data / 2 ^ 8),u8 (crs data / 2 ^ 16),u8 (crs data / 2 ^ 24)]
theorem KW:wr=18446744073709551611+1+1+1+1+1:=rfl
theorem app1{a:List Int}{x:Int}(h:a.length<10000):(((a++[x]).length:Nat):Int)*1<=140737488355328/\(((a++[x]).length:Nat):Int)<=4611686018427387904:=by
 rw[List.length_append,List.length_singleton];omega
theorem KX{a b:List Int}(h:a.length+b.length<10000):(((a++b).length:Nat):Int)*1<=140737488355328/\(((a++b).length:Nat):Int)<=4611686018427387904:=by
 rw[List.length_append];omega
theorem JF{l:List Int}(h:l.length<10000):qN l=some l:=by
 unfold qN;rw[ws (by omega)]
theorem GS{l:List Int}(h:l.length<10000):sL l=some l:=by
 unfold sL;rw[ws (by omega)]
theorem Yd{x v:Int}{k:List Int->Option (List Int)}{n:Nat}{uW:List Int}(h:uW.length<9000)(h0:0<=v/\v<4):kF x k (n+1) uW v=kF x k n (uW++[u8 (x / 2 ^ (8*v).toNat)]) (v+1):=by
 rw[kF,if_pos (by simpa using h0.2),va (x:=8*v) (by omega),ws (by omega),ws (app1 (by omega)),va (by omega),show min (8*v).toNat 32=(8*v).toNat by omega]
theorem GU(hl:data.length<5000):sK data=some (data++cr data):=by
 obtain⟨y,hy⟩:=MZ (data:=data) (by omega)
 have e:crs data=y:=by unfold crs;rw[hy];rfl
 unfold sK
 rw[hy,oB,JF (by omega),oB]
 refine j4 fun k hk=>?_
 rw[KW,Yd (by omega) (by decide),Yd (by simp;omega) (by decide),Yd (by simp;omega) (by decide),Yd (by simp;omega) (by decide)]
 rw[kF,if_neg (by decide),hk]
 congr 1
 rw[<- e]
 simp only[List.append_assoc,List.append_cancel_left_eq]
 rfl
def hd(d:List Int):List Int:=((List.replicate 49 (0:Int)).set (0:Int).toNat (u8 ((d.length:Nat):Int))).take 1++(d.take (49-1)++((List.replicate 49 (0:Int)).set (0:Int).toNat (u8 ((d.length:Nat):Int))).drop (1+(d.take (49-1)).length))
def qI(d:List Int):List Int:=(hd d++cr (hd d))++[0]
theorem KY{d:List Int}(h:d.length<=48):hd d=((d.length:Nat):Int)::(d++List.replicate (48-d.length) 0):=by
 have e1:(List.replicate 49 (0:Int)).set (0:Int).toNat (u8 ((d.length:Nat):Int))=u8 ((d.length:Nat):Int)::List.replicate 48 0:=rfl
 have e2:u8 ((d.length:Nat):Int)=d.length:=by
  have:u8 ((d.length:Nat):Int)=((d.length:Nat):Int) % 256:=rfl
  omega
 unfold hd
 rw[e1,e2,List.take_of_length_le (l:=d) (by omega)]
 simp only[List.take_succ_cons,List.take_zero,List.singleton_append,List.cons_append,List.nil_append]
 rw[Nat.add_comm 1,List.drop_succ_cons,List.drop_replicate]
theorem dP{d:List Int}(h:d.length<=48):(hd d).length=49:=by
 rw[KY h];simp;omega
theorem fG{d:List Int}(h:d.length<=48):(qI d).length=54:=by
 unfold qI;rw[List.length_append,List.length_append,dP h];rfl
theorem Qq{d:List Int}(h:d.length<=48):uz d=some (qI d):=by
 unfold uz
 rw[if_neg (by simp;omega),ws (by decide)]
 change (sK (hd d)).bind _=_
 rw[GU (by rw[dP h];omega),oB,ws (app1 (by rw[List.length_append,dP h];simp[cr]))];rfl
theorem enc_0{d:List Int}(h:d.length<=48):nth (qI d) 0=((d.length:Nat):Int):=by
 unfold qI;rw[KY h];rfl
theorem z1dP{d:List Int}(h:d.length<=48):nth (qI d) 53=0:=by
 unfold qI
 rw[oz (by decide),if_neg (by rw[List.length_append,dP h];exact Int.not_lt.2 (by simp[cr])),List.length_append,dP h];rfl
theorem MD{d:List Int}(h:d.length<=48):((qI d).take (1+d.length)).drop 1=d:=by
 unfold qI
 rw[List.take_append_of_le_length (by rw[List.length_append,dP h];omega),List.take_append_of_le_length (by rw[dP h];omega),KY h,Nat.add_comm,List.take_succ_cons,List.drop_succ_cons,List.drop_zero,List.take_left' rfl]
def E:List Int:=List.replicate 54 255
theorem Xg:uy=some E:=by kernel_rfl
theorem Vl:E.length=54:=rfl
theorem KZ{k:Option Unit}(hs:l.length<1000)(hx:∀ b∈l,b.length=54):∀(m:Nat) (v:Int) (n:Nat),0<=v->v+m=l.length->m<n->vz l (fun y=>fq y) k n v=k:=by
 intro m
 induction m with
 | zero=>
  intro v n h0 h1 h2
  obtain⟨n,rfl⟩:∃ q,n=q+1:=⟨n-1,by omega⟩
  rw[vz,if_neg (by simp;omega)]
 | succ m ih=>
  intro v n h0 h1 h2
  obtain⟨n,rfl⟩:∃ q,n=q+1:=⟨n-1,by omega⟩
  rw[vz,if_pos (by simp;omega),ws (by omega)]
  simp only[fq,oB]
  rw[if_neg (by rw[hx _ (uw h0 (by omega))];decide),va (by omega)]
  exact ih (v+1) n (by omega) (by omega) (by omega)
def SO(l:List (List Int)):Prop:=l.length=34/\∀ b∈l,b.length=54
theorem Ye(h:SO l):mY ⟨l⟩=some true:=by
 unfold mY
 rw[if_pos (by simp[h.1])]
 have:jz l (fun y=>fq y)=some ():=by
  unfold jz
  refine Vz fun k hk=>?_
  rw[KZ (by rw[h.1];decide) h.2 34 0 wr (by decide) (by rw[h.1];decide) (by rw[qJ];decide),hk]
 unfold km
 dsimp only
 rw[this];rfl
theorem SO.nl(h:SO l)(h0:0<=i)(h1:i<34):(nth l i).length=54:=h.2 _ (uw h0 (by rw[h.1];exact h1))
theorem SO.set{l:List (List Int)}(h:SO l){i:Int}{b:List Int}(hb:b.length=54):SO (l.set i.toNat b):=⟨by rw[List.length_set];exact h.1,fun x hx=>by
 rcases List.mem_or_eq_of_mem_set hx with h1 | h1
 ·exact h.2 _ h1
 ·rw[h1];exact hb⟩
theorem ME{a b:List Int}(i:Nat)(ha:i<a.length)(hb:i<b.length)(h:UInt8.ofNat (a[i]).toNat≠UInt8.ofNat (b[i]).toNat):px a≠px b:=by
 intro e
 have e:=congrArg (fun s:ByteArray=>s.data.toList[i]?) e
 simp only[px,List.toList_toArray,List.getElem?_map,List.getElem?_eq_getElem ha,List.getElem?_eq_getElem hb,Option.map_some,Option.some.injEq] at e
 exact h e
theorem Kt(h:SO l)(h0:0<=i)(h1:i<34){d:List Int}(hd:d.length<=48)(hb:nth l i=qI d):fr ⟨l⟩ i=some (d,0):=by
 have hl:=h.1
 unfold fr
 rw[Ye h,oB,if_neg (by simp[hl];omega),ws (by simp only[hl];omega),hb,ws (by rw[fG hd];decide),Xg,oB]
 have uQ:px (qI d)≠px E:=ME 53 (by rw[fG hd];decide) (by decide) (by
  have:=z1dP hd
  unfold nth at this
  rw[List.getD_eq_getElem?_getD,List.getElem?_eq_getElem (by rw[fG hd];decide)] at this
  rw[show(qI d)[53]'(by rw[fG hd];decide)=0 from this]
  decide)
 unfold td
 rw[oB,if_neg (by simpa using uQ),ws (by rw[fG hd];decide),z1dP hd,if_neg (by decide),enc_0 hd,va (by omega),if_neg (by simp;omega),va (x:=1+_) (by omega),ws (by rw[fG hd];omega)]
 rw[show(1+((d.length:Nat):Int)).toNat=1+d.length by omega,show(1:Int).toNat=1 from rfl,MD hd,Qq hd,oB,oB,if_neg (by simp),ws (by rw[fG hd];omega),JF (by omega)];rfl
theorem FY(h:SO l)(h0:0<=i)(h1:i<34)(hb:nth (nth l i) 53≠0):∃ e,e≠0/\fr ⟨l⟩ i=some ([],e):=by
 have hl:=h.1
 have hn:=h.nl h0 h1
 unfold fr
 rw[Ye h,oB,if_neg (by simp[hl];omega),ws (by simp only[hl];omega),ws (by rw[hn];decide),Xg,oB]
 unfold td
 rw[oB]
 split
 ·exact⟨6,by decide,rfl⟩
 ·rw[ws (by rw[hn];decide),if_pos (by simpa using hb)]
  exact⟨370,by decide,rfl⟩
theorem U0:cP 34=some ⟨List.replicate 34 E⟩:=by kernel_rfl
theorem ag:SO (List.replicate 34 E):=⟨rfl,fun b hb=>by rw[List.eq_of_mem_replicate hb];rfl⟩
end
section
variable {bl:List (List Int)}{ops:List yb}{B N kk:Int}
set_option maxRecDepth 100000
def Yb(B:Int)(x:xt)(s:Nat×List (List Int)×Int):Option (Bool×(Nat×List (List Int)×Int)):=
 chk (s.1=0) (if decide (s.2.2=0) then some (false,(1,s.2.1,s.2.2)) else chk ((0:Int)<=B/\B<((s.2.1.length:Nat):Int)) (chk ((0:Int)<=x.xo/\x.xo<(((nth s.2.1 B).length:Nat):Int)) (some (true,(0,s.2.1.set (B:Int).toNat ((nth s.2.1 B).set (x.xo:Int).toNat x.xn),i64 (s.2.2-1))))))
theorem JG{l:List (List Int)}(h0:0<=B)(h1:B<l.length){c:List Int}:nth (l.set B.toNat c) B=c:=by
 rw[qc ⟨h0,h1⟩ h0,if_pos rfl]
theorem U1{l c:List Int}{p:Int}(h0:0<=p)(h1:p<l.length)(h2:p<c.length):(l.take p.toNat++c.drop p.toNat).set p.toNat (nth l p)=l.take (p+1).toNat++c.drop (p+1).toNat:=by
 rw[List.set_append,if_neg (by rw[List.length_take];omega),cT h0 h2,Q6 l h0 h1,List.length_take,show p.toNat-min p.toNat l.length=0 by omega,List.set_cons_zero]
 simp
theorem GV{vs:List (List Int)}{ph:Int}{c:List Int}{k:Nat×List (List Int)×Int->Option (Nat×List (List Int)×Int)}(hl:(nth vs ph).length=54)(hc:c.length=54)(hs:SO bl)(Ck:0<=B)(CV:B<34):∀(m:Nat) (p q:Int) (n:Nat),0<=p->p+m=54->0<=q->q<=108->m<n->
  jP (Nat×List (List Int)×Int) vs ph (Yb B) k n p (0,bl.set B.toNat ((nth vs ph).take p.toNat++c.drop p.toNat),q)=if (m:Int)<=q then k (0,bl.set B.toNat (nth vs ph),q-m) else some (1,bl.set B.toNat ((nth vs ph).take (p+q).toNat++c.drop (p+q).toNat),0):=by
 have AW:=hs.1
 intro m
 induction m with
 | zero=>
  intro p q n h0 h1 h2 h3 h4
  obtain⟨n,rfl⟩:∃ q,n=q+1:=⟨n-1,by omega⟩
  obtain rfl:p=54:=by omega
  rw[jP,if_neg (by rw[hl];decide),if_pos (by omega)]
  rw[show(54:Int).toNat=54 from rfl,List.take_of_length_le (by omega),List.drop_eq_nil_of_le (by omega),List.append_nil,show q-((0:Nat):Int)=q by omega]
 | succ m ih=>
  intro p q n h0 h1 h2 h3 h4
  obtain⟨n,rfl⟩:∃ q,n=q+1:=⟨n-1,by omega⟩
  rw[jP,if_pos (by rw[hl];simp;omega),ws (by rw[hl];omega)]
  unfold Yb
  rw[ws rfl]
  by_cases hq:q=0
  ·subst hq
   rw[if_pos (by simp),oB,if_pos (by simp),if_neg (by omega)]
   rw[show p+0=p by omega]
  ·rw[if_neg (by simpa using hq)]
   dsimp only
   rw[ws (by rw[List.length_set];omega),JG Ck (by omega),ws (by rw[List.length_append,List.length_take,List.length_drop];omega),oB,if_neg (by simp),List.set_set,U1 h0 (by omega) (by omega),va (x:=p+1) (by omega),va (x:=q-1) (by omega)]
   have:=ih (p+1) (q-1) n (by omega) (by omega) (by omega) (by omega) (by omega)
   unfold Yb at this
   rw[this]
   by_cases hm:(m:Int)<=q-1
   ·rw[if_pos hm,if_pos (by omega),show q-1-(m:Int)=q-((m+1:Nat):Int) by omega]
   ·rw[if_neg hm,if_neg (by omega),show p+1+(q-1)=p+q by omega]
def part(c d:List Int)(q:Int):List Int:=if q<54 then E.take q.toNat++c.drop q.toNat else(qI d).take (q-54).toNat++E.drop (q-54).toNat
theorem eR{c d:List Int}(h:d.length<=48):part c d 108=qI d:=by
 unfold part
 rw[if_neg (by decide),show((108:Int)-54).toNat=54 from rfl,List.take_of_length_le (by rw[fG h];decide)]
 exact List.append_nil _
theorem JH{c d:List Int}(h:d.length<=48)(hc:c.length=54){q:Int}(h0:0<=q)(h1:q<=108):(part c d q).length=54:=by
 unfold part
 split
 ·rw[List.length_append,List.length_take,List.length_drop,Vl];omega
 ·rw[List.length_append,List.length_take,List.length_drop,Vl,fG h];omega
theorem z1Mb{d:List Int}(h:d.length<=48){q:Int}(h0:0<=q)(h1:q<108):nth (part E d q) 53=255:=by
 unfold part
 split
 ·rw[List.take_append_drop];rfl
 ·rw[oz (by decide),if_neg (by rw[List.length_take,fG h];omega),List.length_take,fG h]
  have e:∀ j:Int,0<=j->j<54->nth E j=255:=by
   intro j j0 j1
   have:=uw (l:=E) (i:=j) j0 (by rw[Vl];omega)
   exact List.eq_of_mem_replicate this
  have hd:∀(a:Nat) (j:Int),0<=j->nth (E.drop a) j=nth E (a+j):=by
   intro a j hj
   unfold nth
   rw[List.getD_eq_getElem?_getD,List.getD_eq_getElem?_getD,List.getElem?_drop,show((a:Int)+j).toNat=a+j.toNat by omega]
  rw[hd _ _ (by omega),e _ (by omega) (by omega)]
theorem l4{R A0:Type}{K:A0->Option R}{F:(A0->Option R)->Option R}{P:Option R->Prop}(h:∀ k:A0->Option R,(∀ x0,k x0=K x0)->P (F k)):P (vC K F):=h K fun _=>rfl
theorem QV{R A0 A1:Type}{K:A0->A1->Option R}{F:(A0->A1->Option R)->Option R}{P:Option R->Prop}(h:∀ k:A0->A1->Option R,(∀ x0 x1,k x0 x1=K x0 x1)->P (F k)):P (rl K F):=h K fun _ _=>rfl
theorem U2{q:Int}{op:yb}(he:op.yE=false)(hd:op.yA.length<=48)(hs:SO bl)(Ck:0<=B)(CV:B<34)(h0:0<=q)(h1:q<=108):
  ∃ f,(f=0\/f=1)/\tK (Nat×List (List Int)×Int) (Yb B) (0,bl,q) op=some (f,bl.set B.toNat (part (nth bl B) op.yA q),0):=by
 have AW:=hs.1
 unfold tK
 rw[Xg,oB,he,if_pos (by decide),Qq hd,oB,ws ⟨by simp,by simp⟩]
 refine l4 (P:=fun o=>∃ f,(f=0\/f=1)/\o=some (f,bl.set B.toNat (part (nth bl B) op.yA q),0)) fun k hk=>?_
 have e0:bl=bl.set B.toNat (E.take (0:Int).toNat++(nth bl B).drop (0:Int).toNat):=by
  rw[show(0:Int).toNat=0 from rfl,List.take_zero,List.drop_zero,List.nil_append,<- ti Ck (by omega)]
  exact(List.set_getElem_self ..).symm
 have e1:bl.set B.toNat E=bl.set B.toNat ((qI op.yA).take (0:Int).toNat++E.drop (0:Int).toNat):=rfl
 have a1:nth ([E]++[qI op.yA]) 0=E:=rfl
 have a2:nth ([E]++[qI op.yA]) 1=qI op.yA:=rfl
 rw[Yc,jQ,if_pos (by simp)]
 refine QV (P:=fun o=>∃ f,(f=0\/f=1)/\o=some (f,bl.set B.toNat (part (nth bl B) op.yA q),0)) fun k2 wj=>?_
 rw[ws (by simp)]
 refine l4 (P:=fun o=>∃ f,(f=0\/f=1)/\o=some (f,bl.set B.toNat (part (nth bl B) op.yA q),0)) fun kk hkk=>?_
 have r1:=GV (vs:=[E]++[qI op.yA]) (ph:=0) (B:=B) (bl:=bl) (c:=nth bl B) (k:=kk) (by rw[a1];rfl) (hs.nl Ck CV) hs Ck CV 54 0 q wr (by decide) (by decide) h0 h1 (by rw[qJ];decide)
 rw[a1,<- e0] at r1
 rw[r1]
 by_cases h54:((54:Nat):Int)<=q
 ·rw[if_pos h54,hkk,wj,show i64 (0+1)=1 from rfl,jQ,if_pos (by simp)]
  refine QV (P:=fun o=>∃ f,(f=0\/f=1)/\o=some (f,bl.set B.toNat (part (nth bl B) op.yA q),0)) fun k2 wj=>?_
  rw[ws (by simp)]
  refine l4 (P:=fun o=>∃ f,(f=0\/f=1)/\o=some (f,bl.set B.toNat (part (nth bl B) op.yA q),0)) fun kk hkk=>?_
  have r2:=GV (vs:=[E]++[qI op.yA]) (ph:=1) (B:=B) (bl:=bl) (c:=E) (k:=kk) (by rw[a2];exact fG hd) rfl hs Ck CV 54 0 (q-54) wr (by decide) (by decide) (by omega) (by omega) (by rw[qJ];decide)
  rw[a2,<- e1] at r2
  rw[show q-((54:Nat):Int)=q-54 by omega,r2]
  have hp:¬q<54:=by omega
  by_cases h108:((54:Nat):Int)<=q-54
  ·rw[if_pos h108,hkk,wj,show i64 (1+1)=2 from rfl,jQ,if_neg (by simp),hk]
   obtain rfl:q=108:=by omega
   rw[eR hd]
   exact⟨0,.inl rfl,rfl⟩
  ·rw[if_neg h108]
   unfold part
   rw[if_neg hp,Int.zero_add]
   exact⟨1,.inr rfl,rfl⟩
 ·rw[if_neg h54,Int.zero_add]
  unfold part
  rw[if_pos (by omega)]
  exact⟨1,.inr rfl,rfl⟩
def cJ(op:yb):Prop:=(0<=op.yo/\op.yo<34)/\op.yE=false/\op.yA.length<=48
def bF(bl:List (List Int))(ops:List yb):List (List Int):=ops.foldl (fun bl op=>bl.set op.yo.toNat (qI op.yA)) bl
theorem bX:∀ {ops:List yb} {bl:List (List Int)},SO bl->(∀ op∈ops,cJ op)->SO (bF bl ops)
 | [],_,h,_=>h
 | op::ops,_,h,ho=>bX (ops:=ops) (h.set (fG (ho op (.head _)).2.2)) fun o h=>ho o (.tail _ h)
theorem Wv{α:Type}[Inhabited α]{l:List α}{i j:Int}(h0:0<=i)(h:i<j):nth (l.take j.toNat) i=nth l i:=by
 unfold nth
 rw[List.getD_eq_getElem?_getD,List.getD_eq_getElem?_getD,List.getElem?_take,if_pos (by omega)]
theorem JI{v:Int}{k:List (List Int)->Option yJ}{n:Nat}(BB:0<=N)(Cl:N<ops.length)(hN2:N<1000)(Bj:∀ op∈ops,cJ op)(hs:SO bl)(Ah:0<=kk)(AL:kk<=108)(h0:0<=v)(h1:v<=N):
  jA ops N kk k (n+1) v bl=jA ops N kk k n (v+1) (bl.set (nth ops v).yo.toNat (part (nth bl (nth ops v).yo) (nth ops v).yA (if v=N then kk else 108))):=by
 obtain⟨⟨b0,b1⟩,he,hd⟩:=Bj _ (uw h0 (by omega))
 rw[jA,va (x:=N+1) (by omega),if_pos (by simp;omega)]
 refine j4 fun k2 wj=>?_
 rw[Wv h0 (by omega),ws (by rw[List.length_take];omega)]
 unfold f4
 rw[if_neg (by rw[he];decide),oB]
 refine j4 fun k3 Ao=>?_
 have key:∀ q,0<=q->q<=108->k3 q=jA ops N kk k n (v+1) (bl.set (nth ops v).yo.toNat (part (nth bl (nth ops v).yo) (nth ops v).yA q)):=by
  intro q q0 q1
  rw[Ao]
  unfold l3
  rw[oB]
  refine j4 fun k4 Cj=>?_
  have hY:(fun(x:xt) (s:Nat×List (List Int)×Int)=>chk (s.1=0) (mQ ops N v x s.2.1 s.2.2))=Yb (nth ops v).yo:=by
   funext x s
   unfold mQ Yb
   rw[va (x:=N+1) (by omega),Wv h0 (by omega)]
  rw[hY]
  obtain⟨f,hf,hr⟩:=U2 (op:=(⟨(nth ops v).yo,(nth ops v).yE,(nth ops v).yA⟩:yb)) he hd hs b0 b1 q0 q1
  rw[hr,oB]
  dsimp only
  rcases hf with rfl | rfl
  ·rw[if_pos rfl,Cj,wj,va (by omega)]
  ·rw[if_neg (by decide),if_pos rfl,Cj,wj,va (by omega)]
 by_cases hv:v=N
 ·rw[if_pos (by simpa using hv),if_pos hv,key _ Ah AL]
 ·rw[if_neg (by simpa using hv),if_neg hv,key _ (by decide) (by decide)]
theorem FZ{k:List (List Int)->Option yJ}(BB:0<=N)(Cl:N<ops.length)(hN2:N<1000)(Bj:∀ op∈ops,cJ op)(Ah:0<=kk)(AL:kk<=108):∀(m:Nat) (v:Int) (bl:List (List Int)) (n:Nat),SO bl->0<=v->v+m=N->m+1<n->
  jA ops N kk k n v bl=k ((bF bl ((ops.take N.toNat).drop v.toNat)).set (nth ops N).yo.toNat (part (nth (bF bl ((ops.take N.toNat).drop v.toNat)) (nth ops N).yo) (nth ops N).yA kk)):=by
 intro m
 induction m with
 | zero=>
  intro v bl n hs h0 h1 h2
  obtain⟨n,rfl⟩:∃ q,n=q+1+1:=⟨n-2,by omega⟩
  obtain rfl:v=N:=by omega
  rw[JI BB Cl hN2 Bj hs Ah AL h0 (by omega),if_pos rfl,jA,va (x:=v+1) (by omega),if_neg (by simp;omega)]
  rw[List.drop_eq_nil_of_le (by rw[List.length_take];omega)];rfl
 | succ m ih=>
  intro v bl n hs h0 h1 h2
  obtain⟨n,rfl⟩:∃ q,n=q+1:=⟨n-1,by omega⟩
  obtain⟨⟨b0,b1⟩,he,hd⟩:=Bj _ (uw h0 (show v<ops.length by omega))
  rw[JI BB Cl hN2 Bj hs Ah AL h0 (by omega),if_neg (by omega),eR hd,ih (v+1) _ n (hs.set (fG hd)) (by omega) (by omega) (by omega)]
  rw[cT (l:=ops.take N.toNat) (i:=v) h0 (by rw[List.length_take];omega),Wv h0 (by omega)]
  rfl
theorem GW(hs:SO bl):fF ⟨bl⟩=some ⟨bl⟩:=by
 have AW:=hs.1
 unfold fF
 refine j4 fun k hk=>?_
 have:=Gi (l:=bl) (f:=qN) (g:=id) (k:=k) (by_:=24) (L:=fun n uW i=>k8 ⟨bl⟩ k n i uW) (fun n uW i=>by rw[k8];rfl) (fun x hx=>JF (by rw[hs.2 x hx];decide)) (by omega) (by omega) wr [] 0 (by decide) (by omega) (by rw[qJ];omega) rfl
 refine this.trans ?_
 rw[hk]
 simp
theorem U3{l:List yb}{k:Option Unit}(hs:l.length<1000)(zH:SO bl)(hx:∀ b∈l,cJ b):∀(m:Nat) (v:Int) (n:Nat),0<=v->v+m=l.length->m<n->vd l (fun y=>fw y ⟨bl⟩) k n v=k:=by
 intro m
 induction m with
 | zero=>
  intro v n h0 h1 h2
  obtain⟨n,rfl⟩:∃ q,n=q+1:=⟨n-1,by omega⟩
  rw[vd,if_neg (by simp;omega)]
 | succ m ih=>
  intro v n h0 h1 h2
  obtain⟨n,rfl⟩:∃ q,n=q+1:=⟨n-1,by omega⟩
  obtain⟨⟨b0,b1⟩,he,hd⟩:=hx _ (uw h0 (show v<l.length by omega))
  rw[vd,if_pos (by simp;omega),ws (by omega)]
  simp only[fw,oB]
  rw[if_neg (by rw[he];simp[zH.1];omega),va (by omega)]
  exact ih (v+1) n (by omega) (by omega) (by omega)
theorem Xh(zH:SO bl)(hs:ops.length<1000)(hx:∀ b∈ops,cJ b):tf ⟨bl⟩ ops=some true:=by
 unfold tf
 rw[Ye zH,oB,if_pos rfl]
 have:qw ops (fun y=>fw y ⟨bl⟩)=some ():=by
  unfold qw
  refine Vz fun k hk=>?_
  rw[U3 hs zH hx ops.length 0 wr (by decide) (by omega) (by rw[qJ];omega),hk]
 unfold qR
 rw[this];rfl
theorem GX(zH:SO bl)(hs:ops.length<1000)(hx:∀ b∈ops,cJ b)(BB:0<=N)(Cl:N<ops.length)(Ah:0<=kk)(AL:kk<=108):
  tX ⟨bl⟩ ops N kk=some ⟨(bF bl (ops.take N.toNat)).set (nth ops N).yo.toNat (part (nth (bF bl (ops.take N.toNat)) (nth ops N).yo) (nth ops N).yA kk)⟩:=by
 obtain⟨⟨b0,b1⟩,he,hd⟩:=hx _ (uw BB Cl)
 unfold tX
 rw[GW zH,oB,Xh zH hs hx,oB,if_neg (by simp;omega),ws (by omega)]
 unfold f4
 rw[if_neg (by rw[he];decide),oB,oB,if_neg (by simp;omega)]
 refine j4 fun k hk=>?_
 rw[va (by omega),ws (by omega),FZ BB Cl (by omega) hx Ah AL N.toNat 0 bl wr zH (by decide) (by omega) (by rw[qJ];omega),hk]
 rfl
theorem GY(zH:SO bl)(hs:ops.length<1000)(h1:ops≠[])(hx:∀ b∈ops,cJ b):gF ⟨bl⟩ ops=some ⟨bF bl ops⟩:=by
 have hp:0<ops.length:=List.length_pos_iff.2 h1
 obtain⟨⟨b0,b1⟩,he,hd⟩:=hx _ (uw (i:=(ops.length:Int)-1) (by omega) (by omega))
 unfold gF
 rw[Xh zH hs hx,oB,if_neg (by simp),if_neg (by simp;exact h1),va (by omega),ws (by omega)]
 unfold f4
 rw[if_neg (by rw[he];decide),oB,GX zH hs hx (by omega) (by omega) (by decide) (by decide),oB,eR hd]
 congr 2
 have:ops=ops.take ((ops.length:Int)-1).toNat++[nth ops ((ops.length:Int)-1)]:=by
  have:=Q6 ops (i:=(ops.length:Int)-1) (by omega) (by omega)
  rw[<- this,show((ops.length:Int)-1+1).toNat=ops.length by omega,List.take_length]
 conv=>rhs;rw[this]
 unfold bF
 rw[List.foldl_append];rfl
theorem MF(zH:SO bl):gF ⟨bl⟩ []=some ⟨bl⟩:=by
 unfold gF
 rw[Xh zH (by decide) (fun _ h=>by cases h),oB,if_neg (by simp),if_pos (by simp),GW zH];rfl
end
section
variable {w:Nat}{y:Int}
set_option maxRecDepth 100000
theorem U4{a b:Nat}{i:Nat}(h:a<2 ^ i):a ||| (b*2 ^ i)=a+b*2 ^ i:=by
 rw[Nat.mul_comm,Nat.or_comm,<- Nat.two_pow_add_eq_or_of_lt h,Nat.add_comm]
theorem GZ{x:Int}(h:0<=x/\x<18446744073709551616):u64 x=x:=by
 have:u64 x=x % 18446744073709551616:=rfl
 omega
theorem Ku{v:Nat}(hw:w<18446744073709551616)(hv:v<8):bits .or .u64 ((w % 256 ^ v:Nat):Int) (u64 ((u64 (u8 ((w:Int) / 2 ^ (8*v))))*2 ^ (8*v)))=((w % 256 ^ (v+1):Nat):Int):=by
 have e1:(2:Nat) ^ (8*v)=256 ^ v:=by rw[Nat.pow_mul]
 have e2:u8 ((w:Int) / 2 ^ (8*v))=((w / 256 ^ v % 256:Nat):Int):=by
  have:u8 ((w:Int) / 2 ^ (8*v))=((w:Int) / 2 ^ (8*v)) % 256:=rfl
  rw[this,<- e1];push_cast;rfl
 have hb:w / 256 ^ v % 256<256:=Nat.mod_lt _ (by decide)
 have ha:w % 256 ^ v<256 ^ v:=Nat.mod_lt _ (Nat.pow_pos (by decide))
 generalize hbb:w / 256 ^ v % 256=b at e2 hb
 have hp:(256:Nat) ^ (v+1)<=256 ^ 8:=Nat.pow_le_pow_right (by decide) (by omega)
 have h3:b*256 ^ v<=255*256 ^ v:=Nat.mul_le_mul_right _ (by omega)
 rw[Nat.pow_succ] at hp
 have h4:b*256 ^ v<18446744073709551616:=by omega
 have e3:((b:Int)*2 ^ (8*v))=((b*256 ^ v:Nat):Int):=by rw[<- e1];push_cast;rfl
 rw[e2,GZ (x:=(b:Int)) (by omega),e3,GZ (by omega)]
 have h:bits .or .u64 ((w % 256 ^ v:Nat):Int) ((b*256 ^ v:Nat):Int)=((BitVec.ofInt 64 ((w % 256 ^ v:Nat):Int) ||| BitVec.ofInt 64 ((b*256 ^ v:Nat):Int)).toNat:Int) % 2 ^ 64:=rfl
 rw[h,BitVec.toNat_or,BitVec.ofInt_natCast,BitVec.ofInt_natCast,BitVec.toNat_ofNat,BitVec.toNat_ofNat,Nat.mod_eq_of_lt (a:=w % 256 ^ v) (by omega),Nat.mod_eq_of_lt (a:=b*256 ^ v) (by omega)]
 rw[<- e1,U4 (by rw[e1];exact ha),e1]
 have h5:w % 256 ^ (v+1)=w % 256 ^ v+256 ^ v*(w / 256 ^ v % 256):=Nat.mod_pow_succ ..
 rw[h5,hbb,Nat.mul_comm (256 ^ v) b]
 omega
theorem Kv(d:Int){v:Nat}(h:v<8):nth (fx d) (v:Int)=u8 (d / 2 ^ (8*v)):=by
 match v,h with
 | 0,_=>rfl
 | 1,_=>rfl
 | 2,_=>rfl
 | 3,_=>rfl
 | 4,_=>rfl
 | 5,_=>rfl
 | 6,_=>rfl
 | 7,_=>rfl
theorem G0(hw:w<18446744073709551616){k:Int->Option Int}:∀(m v n:Nat),v+m=8->m<n->kv (fx w) k n ((w % 256 ^ v:Nat):Int) v=k w:=by
 intro m
 induction m with
 | zero=>
  intro v n h1 h2
  obtain⟨n,rfl⟩:∃ q,n=q+1:=⟨n-1,by omega⟩
  obtain rfl:v=8:=by omega
  rw[kv,if_neg (by simp[fx])]
  rw[Nat.mod_eq_of_lt (by omega)]
 | succ m ih=>
  intro v n h1 h2
  obtain⟨n,rfl⟩:∃ q,n=q+1:=⟨n-1,by omega⟩
  have hl:(fx w).length=8:=rfl
  rw[kv,hl,if_pos (by simp;omega),ws (by omega),va (x:=8*(v:Int)) (by omega),ws (by omega),Kv _ (by omega),show min (8*(v:Int)).toNat 64=8*v by omega,Ku hw (by omega),va (by omega)]
  exact ih (v+1) n (by omega) (by omega)
theorem U5{d:Int}(h:0<=d/\d<18446744073709551616):ko (fx d)=some d:=by
 obtain⟨w,rfl⟩:∃ w:Nat,d=w:=⟨d.toNat,by omega⟩
 unfold ko
 refine j4 fun k hk=>?_
 have:=G0 (w:=w) (by omega) (k:=k) 8 0 wr rfl (by rw[qJ];decide)
 rw[Nat.pow_zero,Nat.mod_one] at this
 exact this.trans (hk _)
theorem JJ:∀(l:List Int) (i v:Nat),i<l.length->v<8->nth (l.flatMap fx) (8*i+v:Int)=nth (fx (nth l (i:Int))) v
 | [],i,v,h,_=>absurd h (Nat.not_lt_zero _)
 | x::l,0,v,h,hv=>by
  rw[List.flatMap_cons,oz (by omega),if_pos (by simp[fx];omega),show(8*((0:Nat):Int)+(v:Int))=(v:Int) by omega];rfl
 | x::l,i+1,v,h,hv=>by
  have hl:(fx x).length=8:=rfl
  rw[List.flatMap_cons,oz (by omega),if_neg (by rw[hl];omega),hl,show(8*((i+1:Nat):Int)+(v:Int)-((8:Nat):Int))=8*(i:Int)+v by omega,JJ l i v (by simpa using h) hv]
  congr 2
theorem F0{i:Nat}{data:List Int}(hw:w<18446744073709551616)(hi:i<100)(hl:8*i+10<=data.length)(hd:∀ v:Nat,v<8->nth data (2+(8*i+v):Int)=nth (fx w) v){k:Int->Option Int}:∀(m v n:Nat),v+m=8->m<n->jO i data k n ((w % 256 ^ v:Nat):Int) v=k w:=by
 intro m
 induction m with
 | zero=>
  intro v n h1 h2
  obtain⟨n,rfl⟩:∃ q,n=q+1:=⟨n-1,by omega⟩
  obtain rfl:v=8:=by omega
  rw[jO,if_neg (by simp)]
  rw[Nat.mod_eq_of_lt (by omega)]
 | succ m ih=>
  intro v n h1 h2
  obtain⟨n,rfl⟩:∃ q,n=q+1:=⟨n-1,by omega⟩
  rw[jO,if_pos (by simp;omega),va (x:=8*(i:Int)) (by omega),va (x:=2+8*(i:Int)) (by omega),va (x:=2+8*(i:Int)+(v:Int)) (by omega),ws (by omega),va (x:=8*(v:Int)) (by omega),ws (by omega),show(2+8*(i:Int)+(v:Int))=2+(8*i+v) by omega,hd v (by omega),Kv _ (by omega),show min (8*(v:Int)).toNat 64=8*v by omega,Ku hw (by omega),va (by omega)]
  exact ih (v+1) n (by omega) (by omega)
def Yw(q:Int)(c:xj)(y:Int):List Int:=[q,1]++(cl c++[y]).flatMap fx
theorem tL(l:List Int):(l.flatMap fx).length=8*l.length:=by
 induction l with
 | nil=>rfl
 | cons x l ih=>rw[List.flatMap_cons,List.length_append,ih];simp[fx];omega
theorem Xw(q:Int)(c:xj)(y:Int):(Yw q c y).length=154:=by
 unfold Yw;rw[List.length_append,tL];rfl
theorem M0{s:yC}{k:List Int->Option (List Int)}:∀(m:Nat) (v:Int) (uW:List Int) (n:Nat),0<=v->v+m=18->m<n->uW.length+8*m<9000->kZ s k n uW v=k (uW++((cl s.y4).drop v.toNat).flatMap fx):=by
 have hl:(cl s.y4).length=18:=rfl
 intro m
 induction m with
 | zero=>
  intro v uW n h0 h1 h2 h3
  obtain⟨n,rfl⟩:∃ q,n=q+1:=⟨n-1,by omega⟩
  rw[kZ,if_neg (by simp;omega),List.drop_eq_nil_of_le (by omega)]
  simp
 | succ m ih=>
  intro v uW n h0 h1 h2 h3
  obtain⟨n,rfl⟩:∃ q,n=q+1:=⟨n-1,by omega⟩
  rw[kZ,if_pos (by simp;omega),ws (by omega),ly,oB,ws (KX (by simp[fx];omega)),va (by omega)]
  rw[ih (v+1) _ n (by omega) (by omega) (by omega) (by rw[List.length_append];simp[fx];omega)]
  rw[cT h0 (by omega),List.flatMap_cons,List.append_assoc];rfl
theorem Vm{q:Int}{c:xj}(hq:q=0\/q=1):ta ⟨q,c,[y]⟩=some (Yw q c y):=by
 unfold ta
 have hv:ki ((([y]:List Int).length:Nat):Int) q=some true:=by rcases hq with rfl | rfl <;> kernel_rfl
 dsimp only
 rw[hv,oB,if_neg (by decide)]
 refine j4 fun k hk=>?_
 rw[M0 18 0 _ wr (by decide) (by decide) (by rw[qJ];decide) (by simp),hk]
 refine j4 fun k2 wj=>?_
 rw[Yc,gR,if_pos (by simp),ws (by simp),ly,oB,ws (KX (by rw[List.length_append,tL];simp[fx,cl]))]
 rw[gR,if_neg (nt (by rfl)),wj]
 unfold Yw
 rw[List.flatMap_append]
 rcases hq with rfl | rfl
 ·simp only[List.append_assoc];rfl
 ·simp only[List.append_assoc];rfl
theorem Kw{q:Int}{c:xj}(hr:∀ x∈cl c++[y],0<=x/\x<18446744073709551616){i:Int}(h0:0<=i)(h1:i<19):fu i (Yw q c y)=some (nth (cl c++[y]) i):=by
 have hl:(cl c++[y]).length=19:=rfl
 have hm:=hr _ (uw h0 (show i<((cl c++[y]).length:Nat) by rw[hl];exact h1))
 generalize hw:nth (cl c++[y]) i=w at hm ⊢
 obtain⟨w,rfl⟩:∃ n:Nat,w=n:=⟨w.toNat,by omega⟩
 obtain⟨i,rfl⟩:∃ n:Nat,i=n:=⟨i.toNat,by omega⟩
 unfold fu
 refine j4 fun k hk=>?_
 have:=F0 (w:=w) (i:=i) (data:=Yw q c y) (by omega) (by omega) (by rw[Xw];omega) (fun v hv=>by
  unfold Yw
  rw[oz (by omega),if_neg (by simp;omega),<- hw,<- JJ _ _ _ (by rw[hl];omega) hv]
  congr 1
  simp;omega) (k:=k) 8 0 wr rfl (by rw[qJ];decide)
 rw[Nat.pow_zero,Nat.mod_one] at this
 exact this.trans (hk _)
theorem ch_cl(c:xj):ch (fun i=>nth (cl c) i)=c:=rfl
theorem G1{q:Int}{c:xj}(hq:q=0\/q=1)(hr:∀ x∈cl c++[y],0<=x/\x<18446744073709551616):rB (Yw q c y)=some ⟨q,c,[y]⟩:=by
 have hq0:nth (Yw q c y) 0=q:=rfl
 have hq1:nth (Yw q c y) 1=1:=rfl
 have hl:=Xw q c y
 unfold rB
 have hv:ki 1 q=some true:=by rcases hq with rfl | rfl <;> kernel_rfl
 rw[hl,if_neg (by decide),ws (by decide),ws (by decide),hq0,hq1,va (x:=1) (by decide),va (x:=q) (by omega),hv,oB,oB,ws (fun _=>by decide),if_neg (by decide),ws (by decide)]
 rw[eQ (g:=fun i=>nth (cl c) i) fun i h0 h1=>by
  rw[Kw hr h0 (by omega),oz h0,if_pos (by simpa [cl] using h1)]]
 rw[oB,ch_cl]
 refine j4 fun k hk=>?_
 rw[ws (by decide),Yc,gT,hq1,if_pos (by decide),va (by decide),Kw hr (by decide) (by decide),oB,ws (by simp)]
 rw[gT,hq1,if_neg (by decide),hk];rfl
end
section
variable {i v y:Int}
set_option maxRecDepth 100000
def pi(i:Int):ByteArray:=nth ([⟨#[97]⟩,⟨#[98]⟩,⟨#[99]⟩,⟨#[100]⟩]:List ByteArray) i
theorem JK(h0:0<=i)(h1:i<4):i=0\/i=1\/i=2\/i=3:=by omega
theorem ten(h0:0<=v)(h1:v<10):v=0\/v=1\/v=2\/v=3\/v=4\/v=5\/v=6\/v=7\/v=8\/v=9:=by omega
def con(i v:Int):List Int:=[1]++([97+i]++([v,0,0,0]++([2,0]++[97+i,33])))
theorem Kx(i v:Int):(con i v).length=10:=rfl
theorem Ky(h0:0<=i)(h1:i<4):(pi i).size=1:=by
 rcases JK h0 h1 with rfl | rfl | rfl | rfl <;> kernel_rfl
theorem F1(h0:0<=i)(h1:i<4):kw (pi i++(⟨#[33]⟩:ByteArray))=[97+i,33]/\(pi i++(⟨#[33]⟩:ByteArray)).size=2:=by
 rcases JK h0 h1 with rfl | rfl | rfl | rfl <;> exact⟨by kernel_rfl,by kernel_rfl⟩
theorem U6(h0:0<=i)(h1:i<4):px [97+i]=pi i:=by
 rcases JK h0 h1 with rfl | rfl | rfl | rfl <;> kernel_rfl
theorem MH(h0:0<=v)(h1:v<10):gq (u32 v) 4=some [v,0,0,0]:=by
 rcases ten h0 h1 with rfl | rfl | rfl | rfl | rfl | rfl | rfl | rfl | rfl | rfl <;> kernel_rfl
theorem F2(h0:0<=v)(h1:v<10):ko [v,0,0,0]=some v:=by
 rcases ten h0 h1 with rfl | rfl | rfl | rfl | rfl | rfl | rfl | rfl | rfl | rfl <;> kernel_rfl
def sw(seed q i v:Int)(D:yV):yz:=⟨pi i,v,[97+i,33],sg seed q D⟩
theorem Vn{s:yC}(h0:0<=i)(h1:i<4)(v0:0<=v)(v1:v<10):mj ⟨pi i,v,[97+i,33],s⟩=some (con i v):=by
 have e1:[u8 (((pi i).size:Nat):Int)]++kw (pi i)=[1,97+i]:=by rcases JK h0 h1 with rfl | rfl | rfl | rfl <;> kernel_rfl
 have e2:gq (u32 ((([97+i,33]:List Int).length:Nat):Int)) 2=some [2,0]:=by kernel_rfl
 unfold mj
 dsimp only
 rw[e1,e2,MH v0 v1,ws (by simp),oB,ws (by simp),oB,ws (by simp),ws (by simp)]
 rfl
theorem eS{q:Int}{c:xj}(hq:q=0\/q=1)(h0:0<=i)(h1:i<4)(v0:0<=v)(v1:v<10):g8 ⟨pi i,v,[97+i,33],⟨q,c,[y]⟩⟩=some true:=by
 unfold g8
 dsimp only
 rw[Vm hq,oB,Ky h0 h1]
 simp
 omega
def di(i v:Int):Int:=dg (con i v)
theorem Qr{q:Int}{c:xj}(hq:q=0\/q=1)(h0:0<=i)(h1:i<4)(v0:0<=v)(v1:v<10):fl ⟨pi i,v,[97+i,33],⟨q,c,[y]⟩⟩=some (di i v):=by
 unfold fl
 rw[eS hq h0 h1 v0 v1,oB,if_neg (by decide),Vn h0 h1 v0 v1,oB,Y9 (by rw[Kx];decide)];rfl
theorem F3{seed q:Int}(hq:q=0\/q=1)(h0:0<=i)(h1:i<4)(v0:0<=v)(v1:v<10):∃ D,jr (di i v)=some D/\(∀ j,0<=j->j<18->0<=nth (dl D) j/\nth (dl D) j<=15)/\uJ seed q (pi i) v=some (sw seed q i v D):=by
 obtain⟨D0,hD0,hr0⟩:=Qm 0
 obtain⟨D,hD,hr⟩:=Qm (di i v)
 refine⟨D,hD,hr,?_⟩
 unfold uJ
 rw[ws (by rw[Ky h0 h1];decide),ws (by rw[(F1 h0 h1).2];decide),Kr hD0 hr0 hq,oB,(F1 h0 h1).1]
 unfold sg
 rw[Qr hq h0 h1 v0 v1,oB,Kr hD hr hq,oB];rfl
theorem G2{seed q:Int}{D:yV}(hD:jr (di i v)=some D)(hr:∀ j,0<=j->j<18->0<=nth (dl D) j/\nth (dl D) j<=15)(hq:q=0\/q=1)(h0:0<=i)(h1:i<4)(v0:0<=v)(v1:v<10):gS (sw seed q i v D) (Rt seed) 1=some true:=by
 unfold gS
 have:fl (sw seed q i v D)=some (di i v):=Qr hq h0 h1 v0 v1
 rw[this,oB]
 have:tc (Rt seed) 1 (di i v) (sw seed q i v D).y5=some true:=GR hD hr hq
 rw[this];rfl
def fo(i v q y:Int)(c:xj):List Int:=con i v++Yw q c y
theorem U7{q:Int}{c:xj}:(fo i v q y c).length=164:=by
 unfold fo;rw[List.length_append,Xw];rfl
theorem MI{q:Int}{c:xj}(hq:q=0\/q=1)(h0:0<=i)(h1:i<4)(v0:0<=v)(v1:v<10):te ⟨pi i,v,[97+i,33],⟨q,c,[y]⟩⟩=some (fo i v q y c):=by
 unfold te
 rw[eS hq h0 h1 v0 v1,oB,if_neg (by decide)]
 dsimp only
 rw[Vm hq,oB,Vn h0 h1 v0 v1,oB,ws (KX (by rw[Xw,Kx];decide))];rfl
theorem ah{a b:List Int}{n:Int}{s:Bool}(h:n=((a.length:Nat):Int)):jq n (a++b) s=some (a,b,s):=by
 unfold jq
 have hl:(a++b).length=a.length+b.length:=List.length_append
 rw[if_neg (by simp;omega),ws (by omega),ws (by omega),h,Int.toNat_natCast,List.take_left,List.drop_left]
theorem F4{q:Int}{c:xj}(hq:q=0\/q=1)(h0:0<=i)(h1:i<4)(v0:0<=v)(v1:v<10)(hr:∀ x∈cl c++[y],0<=x/\x<18446744073709551616):mP (fo i v q y c)=some ⟨pi i,v,[97+i,33],⟨q,c,[y]⟩⟩:=by
 have e:fo i v q y c=[1]++([97+i]++([v,0,0,0]++([2,0]++([97+i,33]++Yw q c y)))):=by
  unfold fo con;simp only[List.append_assoc]
 unfold mP
 rw[e,ah (by decide),oB]
 dsimp only
 rw[ws (by decide),show i64 (nth [1] 0)=1 from rfl,ah (by rfl),oB]
 dsimp only
 rw[ah (by rfl),oB]
 dsimp only
 rw[F2 v0 v1,oB,ah (by rfl),oB]
 dsimp only
 rw[show ko [2,0]=some 2 by kernel_rfl,oB,show i64 2=2 from rfl,ah (by rfl),oB]
 dsimp only
 rw[GS (by simp),oB,G1 hq hr,oB,if_neg (by decide),U6 h0 h1,va (by omega),eS hq h0 h1 v0 v1,oB,oB,if_neg (by decide)]
end
section
variable {seed i v bank nu w:Int}{D D':yV}{bl:List (List Int)}{f:List Int}
set_option maxRecDepth 100000
def ck(f:List Int)(j:Int):List Int:=(f.drop (48*j).toNat).take 48
def cL(bank nu:Int)(f:List Int):List Int:=[nu,0,0,0]++([bank,4]++fx (dg f))
def At(bl:List (List Int))(bank slot nu:Int)(f:List Int):Prop:=nth bl slot=qI (cL bank nu f)/\∀ j,0<=j->j<4->nth bl (2+16*bank+j)=qI (ck f j)
theorem oT{j:Int}:(ck f j).length<=48:=by unfold ck;rw[List.length_take];omega
theorem bY:(cL bank nu f).length=14:=rfl
theorem MJ(h:f.length=164):((([]++ck f 0)++ck f 1)++ck f 2)++ck f 3=f:=by
 unfold ck
 have e:∀ n:Nat,f.drop n=(f.drop n).take 48++f.drop (n+48):=fun n=>by
  conv=>lhs;rw[<- List.take_append_drop 48 (f.drop n)]
  rw[List.drop_drop]
 have e0:=e 0
 have e1:=e 48
 have e2:=e 96
 have e3:=e 144
 rw[List.drop_eq_nil_of_le (i:=144+48) (by omega),List.append_nil] at e3
 rw[List.nil_append,List.append_assoc,List.append_assoc]
 change (f.drop 0).take 48++((f.drop 48).take 48++((f.drop 96).take 48++(f.drop 144).take 48))=f
 rw[<- e3,<- e2,<- e1,<- e0,List.drop_zero]
theorem F5(hf:f.length=164)(hb:bank=0\/bank=1)(hn:nu=1\/nu=2):tI (cL bank nu f)=some (⟨⟨bank,4⟩,nu,dg f⟩,true):=by
 have e4:nth (cL bank nu f) 4=bank:=rfl
 have e5:nth (cL bank nu f) 5=4:=rfl
 have d6:(cL bank nu f).drop (6:Int).toNat=fx (dg f):=rfl
 have t4:(cL bank nu f).take (4:Int).toNat=[nu,0,0,0]:=rfl
 unfold tI
 rw[bY,if_neg (by decide),ws (by decide),ws (by decide),ws (by decide),t4,F2 (by omega) (by omega),oB,ws (by decide),d6,U5 (FU (by omega)),oB,e4,e5]
 rcases hb with rfl | rfl <;> rcases hn with rfl | rfl <;> rfl
structure Sgd (seed q i v:Int) (D:yV):Prop where
 hD:jr (di i v)=some D
 hr:∀ j,0<=j->j<18->0<=nth (dl D) j/\nth (dl D) j<=15
 hq:q=0\/q=1
 i0:0<=i
 i1:i<4
 v0:0<=v
 v1:v<10
theorem cl_ch{g:Int->Int}(h:∀ i,0<=g i/\g i<18446744073709551616):∀ x∈cl (ch g),0<=x/\x<18446744073709551616:=by
 intro x hx
 unfold cl ch at hx
 simp only[List.mem_cons,List.not_mem_nil,or_false] at hx
 rcases hx with h1 | h1 | h1 | h1 | h1 | h1 | h1 | h1 | h1 | h1 | h1 | h1 | h1 | h1 | h1 | h1 | h1 | h1 <;> (rw[h1];exact h _)
theorem Sgd.rng{q:Int}(h:Sgd seed q i v D):∀ x∈cl (sg seed q D).y4++[Pk seed (1-q)],0<=x/\x<18446744073709551616:=by
 intro x hx
 rcases List.mem_append.1 hx with h1 | h1
 ·exact cl_ch (g:=fun i=>iS i (nth (dl D) i).toNat 0 (Yv seed q i)) (fun i=>Mb _ _ _ (sec_r _ _ _)) x h1
 ·rw[List.mem_singleton.1 h1];exact pb_r _
def fm(seed q i v:Int)(D:yV):List Int:=fo i v q (Pk seed (1-q)) (sg seed q D).y4
theorem Xi{q:Int}:(fm seed q i v D).length=164:=U7
theorem Sgd.gen{q:Int}(h:Sgd seed q i v D):gS (sw seed q i v D) (Rt seed) 1=some true:=G2 h.hD h.hr h.hq h.i0 h.i1 h.v0 h.v1
theorem Sgd.unp{q:Int}(h:Sgd seed q i v D):mP (fm seed q i v D)=some (sw seed q i v D):=F4 h.hq h.i0 h.i1 h.v0 h.v1 h.rng
theorem Sgd.pk{q:Int}(h:Sgd seed q i v D):te (sw seed q i v D)=some (fm seed q i v D):=MI h.hq h.i0 h.i1 h.v0 h.v1
theorem Sgd.val{q:Int}(h:Sgd seed q i v D):g8 (sw seed q i v D)=some true:=eS h.hq h.i0 h.i1 h.v0 h.v1
theorem JL(hb:bank=0\/bank=1){c:Int}:g9 ⟨bank,c⟩=some (2+16*bank):=by
 unfold g9
 rcases hb with rfl | rfl <;> rfl
theorem Q1{slot q:Int}(h:Sgd seed q i v D)(hs:SO bl)(hb:bank=0\/bank=1)(hn:nu=1\/nu=2)(AW:slot=0\/slot=1)(ha:At bl bank slot nu (fm seed q i v D)):
  ja ⟨⟨bl⟩,Rt seed,1⟩ slot=some (⟨⟨bank,4⟩,nu,dg (fm seed q i v D)⟩,sw seed q i v D,true):=by
 obtain⟨a0,a1⟩:=ha
 have hf:(fm seed q i v D).length=164:=Xi
 have rd:∀ j:Int,0<=j->j<4->fr ⟨bl⟩ (i64 (2+16*bank+j))=some (ck (fm seed q i v D) j,0):=fun j j0 j1=>by
  rw[va (by omega),Kt hs (by omega) (by omega) oT (a1 j j0 j1)]
 unfold ja
 dsimp only
 rw[Kt hs (by omega) (by omega) (by rw[bY];decide) a0,oB,if_neg (nt (by rfl))]
 dsimp only
 rw[F5 hf hb hn,oB,if_neg (nt (by rfl))]
 refine j4 fun k hk=>?_
 have st:∀(j:Int) (n:Nat) (uW:List Int),0<=j->j<4->uW.length<1000->qh (⟨⟨bank,4⟩,nu,dg (fm seed q i v D)⟩,true) ⟨⟨bl⟩,Rt seed,1⟩ k (n+1) uW j=qh (⟨⟨bank,4⟩,nu,dg (fm seed q i v D)⟩,true) ⟨⟨bl⟩,Rt seed,1⟩ k n (uW++ck (fm seed q i v D) j) (j+1):=fun j n uW j0 j1 ho=>by
  have:=oT (f:=fm seed q i v D) (j:=j)
  rw[qh,if_pos (by simpa using j1),JL hb,oB]
  dsimp only
  rw[rd j j0 j1,oB,if_neg (nt (by rfl))]
  dsimp only
  rw[ws (KX (by omega)),va (by omega)]
 have c0:=oT (f:=fm seed q i v D) (j:=0)
 have c1:=oT (f:=fm seed q i v D) (j:=1)
 have c2:=oT (f:=fm seed q i v D) (j:=2)
 rw[KW,st 0 _ _ (by decide) (by decide) (by decide),st (0+1) _ _ (by decide) (by decide) (by rw[List.length_append];simp;omega),st (0+1+1) _ _ (by decide) (by decide) (by simp only[List.length_append,List.length_nil];change 0+(ck (fm seed q i v D) 0).length+(ck (fm seed q i v D) 1).length<1000;omega),st (0+1+1+1) _ _ (by decide) (by decide) (by simp only[List.length_append,List.length_nil];change 0+(ck (fm seed q i v D) 0).length+(ck (fm seed q i v D) 1).length+(ck (fm seed q i v D) 2).length<1000;omega)]
 simp only[show(0:Int)+1=1 from rfl,show(1:Int)+1=2 from rfl,show(2:Int)+1=3 from rfl,show(3:Int)+1=4 from rfl]
 rw[qh,if_neg (nt (by rfl)),MJ hf,hk,h.unp,oB,Y9 (by omega),oB,if_pos (by simp),h.gen];rfl
theorem Ww{r slot:Int}(hs:SO bl)(AW:slot=0\/slot=1)(hb:nth (nth bl slot) 53≠0):∃ r0 s0,ja ⟨⟨bl⟩,r,1⟩ slot=some (r0,s0,false):=by
 obtain⟨e,he,hr⟩:=FY hs (i:=slot) (by omega) (by omega) hb
 unfold ja
 dsimp only
 rw[hr,oB,if_pos (by simpa using he)]
 exact⟨_,_,rfl⟩
theorem eT(hs:SO bl):mO ⟨bl⟩=some true:=by
 unfold mO
 rw[Ye hs,oB]
 simp[hs.1]
def Xj(seed i v:Int)(D:yV)(bl:List (List Int)):Prop:=SO bl/\At bl 0 0 1 (fm seed 0 i v D)/\nth (nth bl 1) 53≠0
def StB(seed i v w:Int)(D D':yV)(bl:List (List Int)):Prop:=SO bl/\At bl 0 0 1 (fm seed 0 i v D)/\At bl 1 1 2 (fm seed 1 i w D')
theorem Qs(h:Sgd seed 0 i v D)(hA:Xj seed i v D bl):qi ⟨⟨bl⟩,Rt seed,1⟩=some (⟨⟨0,4⟩,1,dg (fm seed 0 i v D)⟩,sw seed 0 i v D,0):=by
 obtain⟨hs,ha,hn⟩:=hA
 obtain⟨r0,s0,e⟩:=Ww (r:=Rt seed) hs (slot:=1) (.inr rfl) hn
 unfold qi
 rw[Q1 h hs (.inl rfl) (.inl rfl) (.inl rfl) ha,oB,e,oB,if_pos (by rfl)]
theorem F6(h:Sgd seed 0 i v D)(h':Sgd seed 1 i w D')(hB:StB seed i v w D D' bl):qi ⟨⟨bl⟩,Rt seed,1⟩=some (⟨⟨1,4⟩,2,dg (fm seed 1 i w D')⟩,sw seed 1 i w D',1):=by
 obtain⟨hs,ha,hb⟩:=hB
 unfold qi
 rw[Q1 h hs (.inl rfl) (.inl rfl) (.inl rfl) ha,oB,Q1 h' hs (.inr rfl) (.inr rfl) (.inr rfl) hb,oB,if_neg (by simp),if_pos rfl]
theorem Qu(h:Sgd seed 0 i v D)(hA:Xj seed i v D bl):jg ⟨bl⟩ (Rt seed) 1=some (sw seed 0 i v D,0):=by
 unfold jg
 rw[eT hA.1,oB,if_neg (by decide),Qs h hA,oB,if_neg (by simp)]
theorem Qv(h:Sgd seed 0 i v D)(h':Sgd seed 1 i w D')(hB:StB seed i v w D D' bl):jg ⟨bl⟩ (Rt seed) 1=some (sw seed 1 i w D',1):=by
 unfold jg
 rw[eT hB.1,oB,if_neg (by decide),F6 h h' hB,oB,if_neg (by simp)]
def ai(bank:Int)(f:List Int):List yb:=[⟨2+16*bank+0,false,ck f 0⟩,⟨2+16*bank+1,false,ck f 1⟩,⟨2+16*bank+2,false,ck f 2⟩,⟨2+16*bank+3,false,ck f 3⟩]
def lL(bank to nu:Int)(f:List Int):List yb:=ai bank f++[⟨to,false,cL bank nu f⟩]
theorem bR(hb:bank=0\/bank=1)(hf:f.length=164){k:Nat×List yb×Int->List Int->Option (Nat×List yb×Int)}{n:Nat}{j:Int}{ops:List yb}(h0:0<=j)(h1:j<4)(ho:ops.length=j):
  qO (Nat×List yb×Int) (fun x s=>chk (s.1=0) (jm bank x s.2.1 s.2.2)) k (n+1) j (f.drop (48*j).toNat) (0,ops,j)=qO (Nat×List yb×Int) (fun x s=>chk (s.1=0) (jm bank x s.2.1 s.2.2)) k n (j+1) (f.drop (48*(j+1)).toNat) (0,ops++[⟨2+16*bank+j,false,ck f j⟩],j+1):=by
 have hl:(f.drop (48*j).toNat).length=164-(48*j).toNat:=by rw[List.length_drop,hf]
 have e1:(f.drop (48*j).toNat).take (min (((f.drop (48*j).toNat).length:Nat):Int) 48).toNat=ck f j:=by
  unfold ck
  by_cases h:(f.drop (48*j).toNat).length<=48
  ·rw[List.take_of_length_le (i:=48) h,List.take_of_length_le (by omega)]
  ·rw[show(min (((f.drop (48*j).toNat).length:Nat):Int) 48).toNat=48 by omega]
 have e2:(f.drop (48*j).toNat).drop (min (((f.drop (48*j).toNat).length:Nat):Int) 48).toNat=f.drop (48*(j+1)).toNat:=by
  by_cases h:(f.drop (48*j).toNat).length<=48
  ·rw[List.drop_eq_nil_of_le (by omega),List.drop_eq_nil_of_le (by omega)]
  ·rw[List.drop_drop];congr 1;omega
 rw[qO,if_pos (by rw[hl];simp;omega),ws (by rw[hl];omega)]
 unfold jm
 dsimp only
 rw[ws rfl,JL hb,oB,e1,GS (by have:=oT (f:=f) (j:=j);omega),oB,va (by omega),va (x:=j+1) (by omega),ws (by rw[List.length_append,List.length_singleton];omega),oB,if_neg (nt (by rfl)),ws (by rw[hl];omega),e2]
theorem Vo(hb:bank=0\/bank=1)(hf:f.length=164):ug (Nat×List yb×Int) (fun x s=>chk (s.1=0) (jm bank x s.2.1 s.2.2)) (0,[],0) f=some (0,ai bank f,4):=by
 unfold ug
 refine Xk fun k hk=>?_
 have e:f=f.drop (48*(0:Int)).toNat:=rfl
 conv=>lhs;rw[e]
 rw[KW,bR hb hf (by decide) (by decide) (by rfl),bR hb hf (by decide) (by decide) (by rfl),bR hb hf (by decide) (by decide) (by rfl),bR hb hf (by decide) (by decide) (by rfl)]
 rw[qO,List.drop_eq_nil_of_le (by rw[hf];decide),if_neg (by decide),hk];rfl
theorem renc(hb:bank=0\/bank=1)(hn:nu=1\/nu=2):gE ⟨⟨bank,4⟩,nu,dg f⟩=some (cL bank nu f):=by
 unfold gE
 have e:gq nu 4=some [nu,0,0,0]:=by rcases hn with rfl | rfl <;> kernel_rfl
 dsimp only
 rw[e,oB,ws (by simp),ly,oB,ws (by simp[fx])]
 rcases hb with rfl | rfl <;> rfl
theorem JM(h:Sgd seed 0 i v D):k7 ⟨List.replicate 34 E⟩ (sw seed 0 i v D) (Rt seed) 1=some (lL 0 0 1 (fm seed 0 i v D)):=by
 obtain⟨r0,s0,e0⟩:=Ww (bl:=List.replicate 34 E) (r:=Rt seed) ag (slot:=0) (.inl rfl) (by decide)
 obtain⟨r1,s1,e1⟩:=Ww (bl:=List.replicate 34 E) (r:=Rt seed) ag (slot:=1) (.inr rfl) (by decide)
 unfold k7
 rw[eT ag,oB,if_neg (by decide),h.val,oB,oB,if_neg (by decide),h.gen,oB,if_neg (by decide)]
 unfold qi
 rw[e0,oB,e1,oB,if_neg (by simp),if_neg (by simp),oB]
 refine Kd fun k hk=>?_
 rw[if_neg (by decide),hk,h.pk,oB,Y9 (by rw[Xi];decide),oB]
 refine Xk fun k2 wj=>?_
 unfold tJ
 rw[oB,Vo (.inl rfl) Xi,oB,wj,renc (.inl rfl) (.inl rfl),oB,ws (by simp[ai])];rfl
theorem Qw(h:Sgd seed 0 i v D)(h':Sgd seed 1 i w D')(hv:v<w)(hA:Xj seed i v D bl):k7 ⟨bl⟩ (sw seed 1 i w D') (Rt seed) 1=some (lL 1 1 2 (fm seed 1 i w D')):=by
 unfold k7
 rw[eT hA.1,oB,if_neg (by decide),h'.val,oB,oB,if_neg (by decide),h'.gen,oB,if_neg (by decide),Qs h hA,oB]
 refine Kd fun k hk=>?_
 dsimp only
 rw[if_pos (by rfl),if_neg (nt (decide_eq_false (by change ¬w<=v;omega))),if_neg (nt (by rfl)),hk,h'.pk,oB,Y9 (by rw[Xi];decide),oB]
 refine Xk fun k2 wj=>?_
 unfold tJ
 rw[oB]
 have e:i64 (1-0)=1:=rfl
 rw[e,Vo (.inr rfl) Xi,oB,wj,show u32 (1+1)=2 from rfl,e,renc (.inr rfl) (.inr rfl),oB,ws (by simp[ai])];rfl
end
section
variable {f:List Int}{nu bank to seed i v:Int}{bl:List (List Int)}{D:yV}
set_option maxRecDepth 100000
theorem M1{c d:List Int}(h:d.length<=48)(hc:c.length=54)(hn:nth c 53≠0){q:Int}(h0:0<=q)(h1:q<108):nth (part c d q) 53≠0:=by
 by_cases hq:q<54
 ·unfold part
  rw[if_pos hq,oz (by decide),if_neg (by rw[List.length_take,Vl];omega),List.length_take,Vl]
  have hd:∀(a:Nat) (j:Int),0<=j->nth (c.drop a) j=nth c (a+j):=by
   intro a j hj
   unfold nth
   rw[List.getD_eq_getElem?_getD,List.getD_eq_getElem?_getD,List.getElem?_drop,show((a:Int)+j).toNat=a+j.toNat by omega]
  rw[hd _ _ (by omega),show((q.toNat:Nat):Int)+(53-((min q.toNat 54:Nat):Int))=53 by omega]
  exact hn
 ·have:=z1Mb h h0 h1
  unfold part at this ⊢
  rw[if_neg hq] at this ⊢
  rw[this];decide
theorem dQ(hb:bank=0\/bank=1)(ht:to=0\/to=1):∀ op∈lL bank to nu f,cJ op:=by
 intro op h
 unfold lL ai at h
 simp only[List.mem_append,List.mem_cons,List.not_mem_nil,or_false] at h
 rcases h with(rfl | rfl | rfl | rfl) | rfl
 ·exact⟨⟨by dsimp only;omega,by dsimp only;omega⟩,rfl,oT⟩
 ·exact⟨⟨by dsimp only;omega,by dsimp only;omega⟩,rfl,oT⟩
 ·exact⟨⟨by dsimp only;omega,by dsimp only;omega⟩,rfl,oT⟩
 ·exact⟨⟨by dsimp only;omega,by dsimp only;omega⟩,rfl,oT⟩
 ·exact⟨⟨by dsimp only;omega,by dsimp only;omega⟩,rfl,by change (cL bank nu f).length<=48;rw[bY];decide⟩
theorem Q2(hs:SO bl)(hb:bank=0\/bank=1)(ht:to=0\/to=1):At (bF bl (lL bank to nu f)) bank to nu f:=by
 have hl:=hs.1
 have e:bF bl (lL bank to nu f)=((((bl.set (2+16*bank+0).toNat (qI (ck f 0))).set (2+16*bank+1).toNat (qI (ck f 1))).set (2+16*bank+2).toNat (qI (ck f 2))).set (2+16*bank+3).toNat (qI (ck f 3))).set to.toNat (qI (cL bank nu f)):=rfl
 rw[e]
 refine⟨?_,fun j j0 j1=>?_⟩
 ·rw[qc (by simp only[List.length_set];omega) (by omega),if_pos rfl]
 ·rcases JK j0 j1 with rfl | rfl | rfl | rfl
  ·rw[qc (by simp only[List.length_set];omega) (by omega),if_neg (by omega),qc (by simp only[List.length_set];omega) (by omega),if_neg (by omega),qc (by simp only[List.length_set];omega) (by omega),if_neg (by omega),qc (by simp only[List.length_set];omega) (by omega),if_neg (by omega),qc (by omega) (by omega),if_pos rfl]
  ·rw[qc (by simp only[List.length_set];omega) (by omega),if_neg (by omega),qc (by simp only[List.length_set];omega) (by omega),if_neg (by omega),qc (by simp only[List.length_set];omega) (by omega),if_neg (by omega),qc (by simp only[List.length_set];omega) (by omega),if_pos rfl]
  ·rw[qc (by simp only[List.length_set];omega) (by omega),if_neg (by omega),qc (by simp only[List.length_set];omega) (by omega),if_neg (by omega),qc (by simp only[List.length_set];omega) (by omega),if_pos rfl]
  ·rw[qc (by simp only[List.length_set];omega) (by omega),if_neg (by omega),qc (by simp only[List.length_set];omega) (by omega),if_pos rfl]
theorem Q3(hs:SO bl){x:List Int}{B:Int}(hB:B=1\/18<=B)(CV:B<34)(h:At bl 0 0 1 f):At (bl.set B.toNat x) 0 0 1 f:=by
 have hl:=hs.1
 obtain⟨h1,h2⟩:=h
 refine⟨?_,fun j j0 j1=>?_⟩
 ·rw[qc (by omega) (by omega),if_neg (by omega)];exact h1
 ·rw[qc (by omega) (by omega),if_neg (by omega)];exact h2 j j0 j1
theorem bf:∀ {ops:List yb} {bl:List (List Int)} {f:List Int},SO bl->(∀ op∈ops,cJ op/\(op.yo=1\/18<=op.yo))->At bl 0 0 1 f->At (bF bl ops) 0 0 1 f
 | [],_,_,_,_,h=>h
 | op::ops,bl,f,hs,ho,h=>by
  obtain⟨⟨⟨b0,b1⟩,e,d⟩,hb⟩:=ho op (.head _)
  exact bf (ops:=ops) (hs.set (fG d)) (fun o h=>ho o (.tail _ h)) (Q3 hs hb b1 h)
theorem Wx:∀ {ops:List yb} {bl:List (List Int)},SO bl->(∀ op∈ops,cJ op/\18<=op.yo)->nth (bF bl ops) 1=nth bl 1
 | [],_,_,_=>rfl
 | op::ops,bl,hs,ho=>by
  obtain⟨⟨⟨b0,b1⟩,e,d⟩,hb⟩:=ho op (.head _)
  have hl:=hs.1
  have:=Wx (ops:=ops) (hs.set (i:=op.yo) (fG d)) (fun o h=>ho o (.tail _ h))
  rw[qc (by omega) (by decide),if_neg (by omega)] at this
  exact this
theorem dR:∀ op∈ai 1 f,cJ op/\18<=op.yo:=by
 intro op h
 refine⟨dQ (bank:=1) (to:=1) (nu:=2) (f:=f) (.inr rfl) (.inr rfl) op (List.mem_append_left _ h),?_⟩
 unfold ai at h
 simp only[List.mem_cons,List.not_mem_nil,or_false] at h
 rcases h with rfl | rfl | rfl | rfl <;> (dsimp only;omega)
theorem F7:∀ op∈lL 1 1 nu f,cJ op/\(op.yo=1\/18<=op.yo):=by
 intro op h
 refine⟨dQ (.inr rfl) (.inr rfl) op h,?_⟩
 rcases List.mem_append.1 h with h | h
 ·exact .inr (dR op h).2
 ·rw[List.mem_singleton.1 h];exact .inl rfl
theorem bZ:(lL bank to nu f).length=5:=rfl
theorem F8:lL bank to nu f≠[]:=by intro h;have:=congrArg List.length h;rw[bZ] at this;cases this
theorem new_A:∃ bl,gF ⟨List.replicate 34 E⟩ (lL 0 0 1 (fm seed 0 i v D))=some ⟨bl⟩/\Xj seed i v D bl:=by
 refine⟨_,GY ag (by rw[bZ];decide) F8 (dQ (.inl rfl) (.inl rfl)),bX ag (dQ (.inl rfl) (.inl rfl)),Q2 ag (.inl rfl) (.inl rfl),?_⟩
 have e:bF (List.replicate 34 E) (lL 0 0 1 (fm seed 0 i v D))=(((((List.replicate 34 E).set (2+16*(0:Int)+0).toNat (qI (ck (fm seed 0 i v D) 0))).set (2+16*(0:Int)+1).toNat (qI (ck (fm seed 0 i v D) 1))).set (2+16*(0:Int)+2).toNat (qI (ck (fm seed 0 i v D) 2))).set (2+16*(0:Int)+3).toNat (qI (ck (fm seed 0 i v D) 3))).set (0:Int).toNat (qI (cL 0 1 (fm seed 0 i v D))):=rfl
 rw[e]
 rw[qc (by simp only[List.length_set];decide) (by decide),if_neg (by decide),qc (by simp only[List.length_set];decide) (by decide),if_neg (by decide),qc (by simp only[List.length_set];decide) (by decide),if_neg (by decide),qc (by simp only[List.length_set];decide) (by decide),if_neg (by decide),qc (by decide) (by decide),if_neg (by decide)]
 decide
theorem Mc{w:Int}{D':yV}(hA:Xj seed i v D bl):∃ Cm,gF ⟨bl⟩ (lL 1 1 2 (fm seed 1 i w D'))=some ⟨Cm⟩/\StB seed i v w D D' Cm:=
 ⟨_,GY hA.1 (by rw[bZ];decide) F8 (dQ (.inr rfl) (.inr rfl)),bX hA.1 (dQ (.inr rfl) (.inr rfl)),bf hA.1 F7 hA.2.1,Q2 hA.1 (.inr rfl) (.inr rfl)⟩
theorem U8{w N q:Int}{D':yV}(hA:Xj seed i v D bl)(n0:0<=N)(n1:N<5)(q0:0<=q)(q1:q<=108):∃ Cm,tX ⟨bl⟩ (lL 1 1 2 (fm seed 1 i w D')) N q=some ⟨Cm⟩/\(Xj seed i v D Cm\/StB seed i v w D D' Cm):=by
 obtain⟨hs,ha,hn⟩:=hA
 have hx:=dQ (bank:=1) (to:=1) (nu:=2) (f:=fm seed 1 i w D') (.inr rfl) (.inr rfl)
 refine⟨_,GX hs (by rw[bZ];decide) hx n0 (by rw[bZ];exact n1) q0 q1,?_⟩
 by_cases h4:N=4
 ·subst h4
  have e1:(lL 1 1 2 (fm seed 1 i w D')).take (4:Int).toNat=ai 1 (fm seed 1 i w D'):=rfl
  have e2:nth (lL 1 1 2 (fm seed 1 i w D')) 4=⟨1,false,cL 1 2 (fm seed 1 i w D')⟩:=rfl
  rw[e1,e2]
  dsimp only
  have Be:=bX hs fun op h=>(dR (f:=fm seed 1 i w D') op h).1
  have ha1:=bf hs (fun op h=>⟨(dR (f:=fm seed 1 i w D') op h).1,.inr (dR op h).2⟩) ha
  have AL:=Wx hs (dR (f:=fm seed 1 i w D'))
  by_cases h108:q=108
  ·subst h108
   right
   rw[eR (by rw[bY];decide)]
   exact⟨bX hs hx,bf hs F7 ha,Q2 hs (.inr rfl) (.inr rfl)⟩
  ·left
   refine⟨Be.set (JH (by rw[bY];decide) (by rw[AL];exact hs.nl (by decide) (by decide)) q0 q1),Q3 Be (.inl rfl) (by decide) ha1,?_⟩
   rw[JG (by decide) (by rw[Be.1];decide)]
   exact M1 (by rw[bY];decide) (by rw[AL];exact hs.nl (by decide) (by decide)) (by rw[AL];exact hn) q0 (by omega)
 ·left
  have AV:=dR (f:=fm seed 1 i w D') (nth (ai 1 (fm seed 1 i w D')) N) (uw n0 (by change N<4;omega))
  have e2:nth (lL 1 1 2 (fm seed 1 i w D')) N=nth (ai 1 (fm seed 1 i w D')) N:=by
   unfold lL
   rw[oz n0,if_pos (by change N<4;omega)]
  have e1:(lL 1 1 2 (fm seed 1 i w D')).take N.toNat=(ai 1 (fm seed 1 i w D')).take N.toNat:=by
   unfold lL
   rw[List.take_append_of_le_length (by change N.toNat<=4;omega)]
  rw[e1,e2]
  have hh:∀ op∈(ai 1 (fm seed 1 i w D')).take N.toNat,cJ op/\18<=op.yo:=fun op h=>dR op (List.mem_of_mem_take h)
  have Be:=bX hs fun op h=>(hh op h).1
  have ha1:=bf hs (fun op h=>⟨(hh op h).1,.inr (hh op h).2⟩) ha
  have AL:=Wx hs hh
  generalize nth (ai 1 (fm seed 1 i w D')) N=op at AV ⊢
  obtain⟨⟨⟨b0,b1⟩,he,hd⟩,hb⟩:=AV
  refine⟨Be.set (JH hd (Be.nl b0 b1) q0 q1),Q3 Be (.inr hb) b1 ha1,?_⟩
  rw[qc (by rw[Be.1];omega) (by decide),if_neg (by omega),AL]
  exact hn
end
section
variable {rows:List ym}{n n0:Nat}{x v:Int}{f:Int->Int}{l:List yj}
set_option maxRecDepth 100000
def ul(n:Nat)(f:Int->Int):List yj:=(List.range n).map fun k:Nat=>(⟨pi k,f k⟩:yj)
theorem gG:(ul n f).length=n:=by unfold ul;simp
theorem iI{i:Int}(h0:0<=i)(h1:i<n):nth (ul n f) i=⟨pi i,f i⟩:=by
 obtain⟨i,rfl⟩:∃ m:Nat,i=m:=⟨i.toNat,by omega⟩
 unfold ul nth
 rw[List.getD_eq_getElem?_getD,List.getElem?_map,Int.toNat_natCast,List.getElem?_range (by omega)];rfl
theorem Xx:ul (n+1) f=ul n f++[⟨pi n,f n⟩]:=by
 unfold ul;rw[List.range_succ,List.map_append];rfl
theorem U9{g:Int->Int}(h:∀ i:Int,0<=i->i<n->f i=g i):ul n f=ul n g:=by
 unfold ul
 refine List.map_congr_left fun k hk=>?_
 rw[h k (by omega) (by have:=List.mem_range.1 hk;omega)]
theorem five(h:n<=4):n=0\/n=1\/n=2\/n=3\/n=4:=by omega
theorem Ua(h:n<=4):sE (ul n f)=some true:=by
 rcases five h with rfl | rfl | rfl | rfl | rfl <;> kernel_rfl
theorem MK(h:n<=4){a b:Int->Int}:mM ⟨ul n a,ul n b,rows⟩=some true:=by
 rcases five h with rfl | rfl | rfl | rfl | rfl <;> kernel_rfl
theorem Qx(r:ym)(a b:yj)(c:Bool):∃ x,mh r a b c=some x:=by
 unfold mh
 split <;> exact⟨_,rfl⟩
theorem G3(hr:rows.length<1000){a b:yj}{k:Bool->Bool->Option Bool}:∀(m:Nat) (f:Bool) (v:Int) (c:Bool) (n:Nat),0<=v->v+m=rows.length->m<n->∃ f' c',kp rows a b k n f v c=k f' c':=by
 intro m
 induction m with
 | zero=>
  intro f v c n h0 h1 h2
  obtain⟨n,rfl⟩:∃ q,n=q+1:=⟨n-1,by omega⟩
  rw[kp,if_neg (by simp;omega)]
  exact⟨_,_,rfl⟩
 | succ m ih=>
  intro f v c n h0 h1 h2
  obtain⟨n,rfl⟩:∃ q,n=q+1:=⟨n-1,by omega⟩
  rw[kp,if_pos (by simp;omega),ws (by omega)]
  obtain⟨x,hx⟩:=Qx (⟨(nth rows v).fA,(nth rows v).xA,(nth rows v).fB,(nth rows v).xB⟩:ym) a b c
  rw[hx,oB]
  obtain⟨y,hy⟩:=Qx (⟨(nth rows v).fA,(nth rows v).xA,(nth rows v).fB,(nth rows v).xB⟩:ym) b a x.2
  rw[hy,oB,va (by omega)]
  exact ih _ (v+1) _ n (by omega) (by omega) (by omega)
theorem M2(hr:rows.length<1000)(a b:yj):∃ x,oq rows a b=some x:=by
 obtain⟨f,c,h⟩:=G3 hr (a:=a) (b:=b) (k:=fun f c=>some (f||(!c))) rows.length false 0 false wr (by decide) (by omega) (by rw[qJ];omega)
 exact⟨_,h⟩
theorem uidx(hl:l.length<1000){f:yj->Option Bool}(hf:∀ x,∃ b,f x=some b){k:Option Int}:∀(m:Nat) (v:Int) (n:Nat),0<=v->v+m=l.length->m<n->(∃ i,wZ l f k n v=some i)\/wZ l f k n v=k:=by
 intro m
 induction m with
 | zero=>
  intro v n h0 h1 h2
  obtain⟨n,rfl⟩:∃ q,n=q+1:=⟨n-1,by omega⟩
  rw[wZ,if_neg (by simp;omega)]
  exact .inr rfl
 | succ m ih=>
  intro v n h0 h1 h2
  obtain⟨n,rfl⟩:∃ q,n=q+1:=⟨n-1,by omega⟩
  obtain⟨b,hb⟩:=hf (⟨(nth l v).yh,(nth l v).yd⟩:yj)
  rw[wZ,if_pos (by simp;omega),ws (by omega),hb,oB,va (by omega)]
  cases b
  ·exact ih (v+1) n (by omega) (by omega) (by omega)
  ·exact .inl ⟨_,rfl⟩
theorem ucont(hl:l.length<1000){f:yj->Option Bool}(hf:∀ x,∃ b,f x=some b):∃ b,qa l f=some b:=by
 have:∃ i,qu l f=some i:=by
  unfold qu uo
  rcases uidx hl hf (k:=some (-1)) l.length 0 wr (by decide) (by omega) (by rw[qJ];omega) with h | h
  ·exact h
  ·exact⟨_,h⟩
 obtain⟨i,hi⟩:=this
 unfold qa
 rw[hi];exact⟨_,rfl⟩
theorem ML(hr:rows.length<1000)(hl:l.length<1000):∀(m:Nat) (v:Int) (n:Nat),0<=v->v+m=l.length->m<n->∃ b,qQ l rows (some true) n v=some b:=by
 intro m
 induction m with
 | zero=>
  intro v n h0 h1 h2
  obtain⟨n,rfl⟩:∃ q,n=q+1:=⟨n-1,by omega⟩
  rw[qQ,if_neg (by simp;omega)]
  exact⟨_,rfl⟩
 | succ m ih=>
  intro v n h0 h1 h2
  obtain⟨n,rfl⟩:∃ q,n=q+1:=⟨n-1,by omega⟩
  rw[qQ,if_pos (by simp;omega),ws (by omega),ws (by omega)]
  obtain⟨b,hb⟩:=ucont (l:=l.take v.toNat) (f:=fun y=>kJ y rows (⟨(nth l v).yh,(nth l v).yd⟩:yj)) (by rw[List.length_take];omega) (fun x=>by
   obtain⟨y,hy⟩:=M2 hr (⟨(nth l v).yh,(nth l v).yd⟩:yj) x
   unfold kJ
   rw[hy];exact⟨_,rfl⟩)
  rw[hb,oB,va (by omega)]
  cases b
  ·exact ih (v+1) n (by omega) (by omega) (by omega)
  ·exact⟨_,rfl⟩
def cp(rows:List ym)(l:List yj):Bool:=(qU rows l).getD false
theorem G4(hr:rows.length<1000)(hl:l.length<1000):qU rows l=some (cp rows l):=by
 obtain⟨b,hb⟩:∃ b,qU rows l=some b:=ML hr hl l.length 0 wr (by decide) (by omega) (by rw[qJ];omega)
 unfold cp
 rw[hb];rfl
theorem QQ(hr:rows.length<1000)(h:n<=4):mc rows (ul n f)=some (cp rows (ul n f)):=by
 unfold mc
 rw[Ua h,oB,if_neg (by decide),G4 hr (by rw[gG];omega)];rfl
def bt(x v:Int):Bool:=decide ((bits .and .i64 (x / 2 ^ min (v:Int).toNat 64) 1)=1)
def rD(x v:Int):Int:=bits .or .i64 x (i64 (1*2 ^ min (v:Int).toNat 64))
theorem M3:∀ x:Fin 16,∀ v:Fin 4,(x.val:Int)<=rD (x.val:Int) (v.val:Int)/\rD (x.val:Int) (v.val:Int)<16/\(bt (x.val:Int) (v.val:Int)=true->rD (x.val:Int) (v.val:Int)=x.val):=of_decide_eq_true (by kernel_rfl)
theorem tab2:∀ x:Fin 16,∀ v:Fin 4,∀ k:Fin 4,bt (rD (x.val:Int) (v.val:Int)) (k.val:Int)=(bt (x.val:Int) (k.val:Int)||decide (k=v)):=of_decide_eq_true (by kernel_rfl)
theorem tab3:∀ v:Fin 4,bt 0 (v.val:Int)=false:=of_decide_eq_true (by kernel_rfl)
theorem bg{m:Nat}(h0:0<=x)(h1:x<m):∃ y:Fin m,x=(y.val:Int):=⟨⟨x.toNat,by omega⟩,by simp;omega⟩
theorem Vp(x0:0<=x)(x1:x<16)(v0:0<=v)(v1:v<4):x<=rD x v/\rD x v<16:=by
 obtain⟨x,rfl⟩:=bg (m:=16) x0 x1
 obtain⟨v,rfl⟩:=bg (m:=4) v0 v1
 exact⟨(M3 x v).1,(M3 x v).2.1⟩
theorem Ub(x0:0<=x)(x1:x<16)(v0:0<=v)(v1:v<4)(h:rD x v≠x):bt x v=false:=by
 obtain⟨x,rfl⟩:=bg (m:=16) x0 x1
 obtain⟨v,rfl⟩:=bg (m:=4) v0 v1
 cases hb:bt (x.val:Int) (v.val:Int)
 ·rfl
 ·exact absurd ((M3 x v).2.2 hb) h
theorem F9{k:Int}(x0:0<=x)(x1:x<16)(v0:0<=v)(v1:v<4)(k0:0<=k)(k1:k<4):bt (rD x v) k=(bt x k||decide (k=v)):=by
 obtain⟨x,rfl⟩:=bg (m:=16) x0 x1
 obtain⟨v,rfl⟩:=bg (m:=4) v0 v1
 obtain⟨k,rfl⟩:=bg (m:=4) k0 k1
 rw[tab2 x v k]
 congr 1
 exact decide_eq_decide.2 ⟨fun h=>by rw[h],fun h=>Fin.ext (by omega)⟩
theorem M4(v0:0<=v)(v1:v<4):bt 0 v=false:=by
 obtain⟨v,rfl⟩:=bg (m:=4) v0 v1
 exact tab3 v
def uL(a b:Int->Int)(x:Int)(k:Int):Int:=if bt x k then b k else a k
theorem G5{a b:Int->Int}{k:List yj->Option (List yj)}(hn:n0<=4):∀(m v:Nat) (n:Nat),v+m=n0->m<n->qv ⟨ul n0 a,ul n0 b,rows⟩ x k n (ul v (uL a b x)) v=k (ul n0 (uL a b x)):=by
 intro m
 induction m with
 | zero=>
  intro v n h1 h2
  obtain⟨n,rfl⟩:∃ q,n=q+1:=⟨n-1,by omega⟩
  obtain rfl:v=n0:=by omega
  rw[qv,if_neg (by rw[gG];simp)]
 | succ m ih=>
  intro v n h1 h2
  obtain⟨n,rfl⟩:∃ q,n=q+1:=⟨n-1,by omega⟩
  have e:=Xx (n:=v) (f:=uL a b x)
  rw[qv]
  dsimp only
  rw[gG,if_pos (by simp;omega)]
  refine j4 fun k2 wj=>?_
  rw[ws (by omega),iI (by omega) (by omega),iI (by omega) (by omega)]
  have hl:∀ u:yj,((((ul v (uL a b x)++[u]).length:Nat):Int)*24<=140737488355328/\(((ul v (uL a b x)++[u]).length:Nat):Int)<=4611686018427387904):=fun u=>by rw[List.length_append,gG,List.length_singleton];omega
  rw[show decide ((bits .and .i64 (x / 2 ^ min ((v:Nat):Int).toNat 64) 1)=1)=bt x v from rfl]
  cases hb:bt x v
  ·rw[if_neg (by decide),ws (by omega),ws (hl _),wj,va (by omega)]
   have:uL a b x v=a v:=by unfold uL;rw[hb];rfl
   rw[this] at e
   rw[<- e]
   exact ih (v+1) n (by omega) (by omega)
  ·rw[if_pos rfl,ws (by rw[gG];omega),ws (hl _),wj,va (by omega)]
   have:uL a b x v=b v:=by unfold uL;rw[hb];rfl
   rw[this] at e
   rw[<- e]
   exact ih (v+1) n (by omega) (by omega)
theorem M5{a b:Int->Int}(hn:n0<=4):kL ⟨ul n0 a,ul n0 b,rows⟩ x=some (ul n0 (uL a b x)):=by
 unfold kL
 refine j4 fun k hk=>?_
 have:=G5 (rows:=rows) (a:=a) (b:=b) (x:=x) (k:=k) hn n0 0 wr (by omega) (by rw[qJ];omega)
 exact this.trans (hk _)
def Nx(rows:List ym)(n0:Nat)(a b:Int->Int)(x i:Int):Prop:=(0<=i/\i<n0)/\rD x i≠x/\a i≠b i/\cp rows (ul n0 (uL a b (rD x i)))=true
theorem u_ne{n0:Nat}{a b:Int->Int}{i:Int}:decide ((⟨pi i,a i⟩:yj)≠⟨pi i,b i⟩)=decide (a i≠b i):=by
 refine decide_eq_decide.2 (not_congr ⟨fun h=>?_,fun h=>by rw[h]⟩)
 injection h
theorem G6(hr:rows.length<1000)(hn:n0<=4){a b:Int->Int}{σ:Type}{Y:Int×Int->σ->Option (Bool×σ)}{I J:σ->Prop}(hY:∀ i s,Nx rows n0 a b x i->I s->∃ t s',Y (i,rD x i) s=some (t,s')/\(t=true->I s')/\(t=false->J s')):∀(m:Nat) (v:Int) (s:σ) (n:Nat),0<=v->v+m=n0->m<n->I s->∃ s',qb σ ⟨ul n0 a,ul n0 b,rows⟩ x Y (fun s=>some s) n v s=some s'/\(I s'\/J s'):=by
 intro m
 induction m with
 | zero=>
  intro v s n h0 h1 h2 hI
  obtain⟨n,rfl⟩:∃ q,n=q+1:=⟨n-1,by omega⟩
  rw[qb,if_neg (by rw[gG];simp;omega)]
  exact⟨s,rfl,.inl hI⟩
 | succ m ih=>
  intro v s n h0 h1 h2 hI
  obtain⟨n,rfl⟩:∃ q,n=q+1:=⟨n-1,by omega⟩
  rw[qb]
  dsimp only
  rw[gG,gG,if_pos (by simp;omega),ws h0,ws (fun _=>by omega),ws (fun _=>by omega),iI h0 (by omega),iI h0 (by omega)]
  dsimp only
  rw[u_ne (n0:=n0)]
  change ∃ s',(if decide (rD x v≠x)&&decide (a v≠b v) then(kL ⟨ul n0 a,ul n0 b,rows⟩ (rD x v)).bind fun y=>(qU rows y).bind fun y=>some y else some false).bind _=some s'/\_
  by_cases hc:(decide (rD x v≠x)&&decide (a v≠b v))=true
  ·rw[if_pos hc,M5 hn,oB,G4 hr (by rw[gG];omega),oB,oB]
   cases hp:cp rows (ul n0 (uL a b (rD x v)))
   ·rw[if_neg (by decide),oB,if_neg (by simp),va (by omega)]
    exact ih (v+1) s n (by omega) (by omega) (by omega) hI
   ·simp only[Bool.and_eq_true,decide_eq_true_eq] at hc
    obtain⟨t,s',hy,hi,hj⟩:=hY v s ⟨⟨h0,by omega⟩,hc.1,hc.2,hp⟩ hI
    rw[if_pos rfl]
    change ∃ s'',((Y (v,rD x v) s).bind _).bind _=some s''/\_
    rw[hy,oB,oB]
    cases t
    ·rw[if_pos (by simp)]
     exact⟨s',rfl,.inr (hj rfl)⟩
    ·rw[if_neg (by simp),va (by omega)]
     exact ih (v+1) s' n (by omega) (by omega) (by omega) (hi rfl)
  ·rw[if_neg hc,oB,if_neg (by decide),oB,if_neg (by simp),va (by omega)]
   exact ih (v+1) s n (by omega) (by omega) (by omega) hI
theorem Qy(hr:rows.length<1000)(hn:n0<=4){a b:Int->Int}{σ:Type}{Y:Int×Int->σ->Option (Bool×σ)}{I J:σ->Prop}(hY:∀ i s,Nx rows n0 a b x i->I s->∃ t s',Y (i,rD x i) s=some (t,s')/\(t=true->I s')/\(t=false->J s')){s:σ}(hI:I s):∃ s',gg σ Y s ⟨ul n0 a,ul n0 b,rows⟩ x=some s'/\(I s'\/J s'):=
 G6 hr hn hY n0 0 s wr (by decide) (by omega) (by rw[qJ];omega) hI
end
section
variable {n0:Nat}{rows:List ym}
set_option maxRecDepth 100000
def Gl(n0:Nat)(a b:Int->Int)(g:Int):Prop:=(0<=g/\g<16)/\∀ k:Int,0<=k->k<n0->bt g k=decide (a k≠b k)
theorem Fa(hn:n0<=4){a b:Int->Int}{k:Int->Option (List Int×Int)}:∀(m:Nat) (g v:Int) (n:Nat),0<=v->v+m=n0->m<n->0<=g->g<16->(∀ j:Int,0<=j->j<4->bt g j=(decide (j<v)&&decide (a j≠b j)))->
  ∃ g',Gl n0 a b g'/\kq (ul n0 a) (ul n0 b) k n g v=k g':=by
 intro m
 induction m with
 | zero=>
  intro g v n h0 h1 h2 g0 g1 hg
  obtain⟨n,rfl⟩:∃ q,n=q+1:=⟨n-1,by omega⟩
  refine⟨g,⟨⟨g0,g1⟩,fun j j0 j1=>?_⟩,?_⟩
  ·rw[hg j j0 (by omega),decide_eq_true (show j<v by omega),Bool.true_and]
  ·rw[kq,if_neg (by rw[gG];simp;omega)]
 | succ m ih=>
  intro g v n h0 h1 h2 g0 g1 hg
  obtain⟨n,rfl⟩:∃ q,n=q+1:=⟨n-1,by omega⟩
  rw[kq,gG,gG,if_pos (by simp;omega)]
  refine l4 (P:=fun o=>∃ g',Gl n0 a b g'/\o=k g') fun k2 wj=>?_
  rw[ws (by omega),ws (by omega),iI h0 (by omega),iI h0 (by omega)]
  dsimp only
  rw[u_ne (n0:=n0)]
  by_cases hv:a v≠b v
  ·rw[if_pos (by simpa using hv),ws h0,wj,va (x:=v+1) (by omega)]
   have ho:=Vp g0 g1 h0 (show v<4 by omega)
   refine ih _ (v+1) n (by omega) (by omega) (by omega) (by change 0<=rD g v;omega) ho.2 fun j j0 j1=>?_
   change bt (rD g v) j=_
   rw[F9 g0 g1 h0 (by omega) j0 j1,hg j j0 j1]
   by_cases e:j=v
   ·subst e
    rw[decide_eq_true (p:=j=j) rfl,Bool.or_true,decide_eq_true (show j<j+1 by omega),decide_eq_true hv];rfl
   ·rw[decide_eq_false e,Bool.or_false]
    congr 1
    exact decide_eq_decide.2 ⟨fun h=>by omega,fun h=>by omega⟩
  ·rw[if_neg (by simpa using hv),wj,va (by omega)]
   refine ih _ (v+1) n (by omega) (by omega) (by omega) g0 g1 fun j j0 j1=>?_
   rw[hg j j0 j1]
   by_cases e:j=v
   ·subst e
    rw[decide_eq_false hv,Bool.and_false,Bool.and_false]
   ·congr 1
    exact decide_eq_decide.2 ⟨fun h=>by omega,fun h=>by omega⟩
theorem G7(hr:rows.length<1000)(hn:n0<=4){a b:Int->Int}{k:List Int->Option (List Int×Int)}:∀(m:Nat) (l:List Int) (c:Int) (n:Nat),c+1=m->c<16->m<n->l.length=256->∃ l',l'.length=256/\kr (ul n0 a) (ul n0 b) rows k n l c=k l':=by
 intro m
 induction m with
 | zero=>
  intro l c n h0 h1 h2 hl
  obtain⟨n,rfl⟩:∃ q,n=q+1:=⟨n-1,by omega⟩
  rw[kr,if_neg (by simp;omega)]
  exact⟨l,hl,rfl⟩
 | succ m ih=>
  intro l c n h0 h1 h2 hl
  obtain⟨n,rfl⟩:∃ q,n=q+1:=⟨n-1,by omega⟩
  rw[kr,if_pos (by simp;omega)]
  refine l4 (P:=fun o=>∃ l',l'.length=256/\o=k l') fun k2 wj=>?_
  unfold kK
  rw[oB]
  refine l4 (P:=fun o=>∃ l',l'.length=256/\o=k l') fun k3 Ao=>?_
  obtain⟨s',hs,hI⟩:=Qy (σ:=Nat×List Int) hr hn (a:=a) (b:=b) (x:=c) (Y:=fun(x:Int×Int) (s:Nat×List Int)=>chk (s.1=0) (f0 c x s.2)) (I:=fun s=>s.1=0/\s.2.length=256) (J:=fun _=>False) (fun i s hN hI=>by
   have ho:=Vp (x:=c) (v:=i) (by omega) h1 hN.1.1 (by have:=hN.1.2;omega)
   rw[ws hI.1]
   unfold f0
   dsimp only
   rw[ws (by omega),ws (by omega)]
   exact⟨_,_,rfl,fun _=>⟨rfl,by rw[List.length_set];exact hI.2⟩,fun h=>by cases h⟩) (s:=(0,l)) ⟨rfl,hl⟩
  rcases hI with hI | hI
  ·rw[hs,oB,Ao,wj,va (by omega)]
   exact ih _ (c-1) n (by omega) (by omega) (by omega) hI.2
  ·exact hI.elim
def eU(rows:List ym)(n0:Nat)(a b:Int->Int):Int->List Int->Int->Prop
 | x,[],y=>x=y
 | x,i::l,y=>Nx rows n0 a b x i/\eU rows n0 a b (rD x i) l y
theorem eU.snoc{rows:List ym}{n0:Nat}{a b:Int->Int}:∀ {l:List Int} {x y i:Int},eU rows n0 a b x l y->Nx rows n0 a b y i->eU rows n0 a b x (l++[i]) (rD y i)
 | [],x,y,i,h,hN=>by
  have h:x=y:=h
  subst h
  exact⟨hN,rfl⟩
 | j::l,x,y,i,h,hN=>⟨h.1,eU.snoc h.2 hN⟩
theorem M6(hr:rows.length<1000)(hn:n0<=4){a b:Int->Int}{goal:Int}{l:List Int}(hl:l.length=256):∀(m:Nat) (uW:List Int) (x:Int) (n:Nat),0<=x->x<16->16-x<=m->m<n->uW.length<=x->eU rows n0 a b 0 uW x->
  ∃ r:List Int×Int,gk goal (ul n0 a) (ul n0 b) rows l (fun uW=>some (uW,0)) n uW x=some r/\(r.2=6\/(r.2=0/\r.1.length<=16/\eU rows n0 a b 0 r.1 goal)):=by
 intro m
 induction m with
 | zero=>intro uW x n x0 x1 h1;omega
 | succ m ih=>
  intro uW x n x0 x1 h1 h2 ho hw
  obtain⟨n,rfl⟩:∃ q,n=q+1:=⟨n-1,by omega⟩
  rw[gk]
  by_cases hx:x=goal
  ·rw[if_neg (by simpa using hx)]
   subst hx
   exact⟨_,rfl,.inr ⟨rfl,by dsimp only;omega,hw⟩⟩
  ·rw[if_pos (by simpa using hx)]
   refine QV (P:=fun o=>∃ r:List Int×Int,o=some r/\(r.2=6\/(r.2=0/\r.1.length<=16/\eU rows n0 a b 0 r.1 goal))) fun k2 wj=>?_
   refine l4 (P:=fun o=>∃ r:List Int×Int,o=some r/\(r.2=6\/(r.2=0/\r.1.length<=16/\eU rows n0 a b 0 r.1 goal))) fun k3 Ao=>?_
   unfold kK
   rw[oB]
   obtain⟨s',hs,hI⟩:=Qy (σ:=Nat×Int) hr hn (a:=a) (b:=b) (x:=x) (Y:=fun(y:Int×Int) (s:Nat×Int)=>chk (s.1=0) (f1 l y s.2)) (I:=fun s=>s.1=0/\s.2 = -1) (J:=fun s=>s.1=1/\Nx rows n0 a b x s.2) (fun i s hN hI=>by
    have ho:=Vp (x:=x) (v:=i) x0 x1 hN.1.1 (by have:=hN.1.2;omega)
    rw[ws hI.1]
    unfold f1
    dsimp only
    rw[ws (by omega)]
    split
    ·exact⟨_,_,rfl,fun h=>(by cases h),fun _=>⟨rfl,hN⟩⟩
    ·exact⟨_,_,rfl,fun _=>⟨rfl,hI.2⟩,fun h=>(by cases h)⟩) (s:=(0,-1)) ⟨rfl,rfl⟩
   rw[hs,oB]
   rcases hI with hI | hI
   ·rw[if_pos hI.1,Ao,hI.2,if_pos (by decide)]
    exact⟨_,rfl,.inl rfl⟩
   ·obtain⟨e1,hN⟩:=hI
    have CW:=Vp (x:=x) (v:=s'.2) x0 x1 hN.1.1 (by have:=hN.1.2;omega)
    have uQ:=hN.2.1
    have:=hN.1
    rw[e1,if_neg (by decide),if_pos rfl,Ao,if_neg (by simp;omega),ws (by rw[List.length_append,List.length_singleton];omega),ws hN.1.1,wj]
    exact ih _ (rD x s'.2) n (by omega) CW.2 (by omega) (by omega) (by rw[List.length_append,List.length_singleton];omega) (hw.snoc hN)
theorem mx_0(hn:n0<=4){a b:Int->Int}:ul n0 (uL a b 0)=ul n0 a:=U9 fun i h0 h1=>by
 unfold uL;rw[M4 h0 (by omega)];rfl
theorem M7(hr:rows.length<1000)(hn:n0<=4){a b:Int->Int}:∃ r:List Int×Int,sF rows (ul n0 a) (ul n0 b)=some r/\(r.2=6\/(r.2=0/\r.1.length<=16/\cp rows (ul n0 (uL a b 0))=true/\∃ g,Gl n0 a b g/\eU rows n0 a b 0 r.1 g)):=by
 unfold sF
 rw[MK hn,oB,if_neg (by decide)]
 refine l4 (P:=fun o=>∃ r:List Int×Int,o=some r/\(r.2=6\/(r.2=0/\r.1.length<=16/\cp rows (ul n0 (uL a b 0))=true/\∃ g,Gl n0 a b g/\eU rows n0 a b 0 r.1 g))) fun k hk=>?_
 obtain⟨g,hg,e⟩:=Fa hn (a:=a) (b:=b) (k:=k) n0 0 0 wr (by decide) (by omega) (by rw[qJ];omega) (by decide) (by decide) (fun j j0 j1=>by rw[M4 j0 j1,decide_eq_false (by omega)];rfl)
 rw[e,hk,G4 hr (by rw[gG];omega),oB]
 cases hc:cp rows (ul n0 a)
 ·rw[if_pos (by decide)]
  exact⟨_,rfl,.inl rfl⟩
 ·rw[if_neg (by decide),ws (by have:=hg.1;omega)]
  refine l4 (P:=fun o=>∃ r:List Int×Int,o=some r/\(r.2=6\/(r.2=0/\r.1.length<=16/\cp rows (ul n0 (uL a b 0))=true/\∃ g,Gl n0 a b g/\eU rows n0 a b 0 r.1 g))) fun k2 wj=>?_
  obtain⟨l,hl,e2⟩:=G7 hr hn (a:=a) (b:=b) (k:=k2) (g+1).toNat ((List.replicate 256 (0:Int)).set g.toNat 1) g wr (by have:=hg.1;omega) hg.1.2 (by rw[qJ];have:=hg.1;omega) (by simp)
  rw[e2,wj]
  refine l4 (P:=fun o=>∃ r:List Int×Int,o=some r/\(r.2=6\/(r.2=0/\r.1.length<=16/\cp rows (ul n0 (uL a b 0))=true/\∃ g,Gl n0 a b g/\eU rows n0 a b 0 r.1 g))) fun k3 Ao=>?_
  obtain rfl:k3=fun uW=>some (uW,0):=funext Ao
  obtain⟨r,hr1,B5⟩:=M6 hr hn (a:=a) (b:=b) (goal:=g) hl 16 [] 0 wr (by decide) (by decide) (by decide) (by rw[qJ];decide) (by decide) rfl
  refine⟨r,hr1,?_⟩
  rcases B5 with h | ⟨h1,h2,h3⟩
  ·exact .inl h
  ·exact .inr ⟨h1,h2,by rw[mx_0 hn];exact hc,g,hg,h3⟩
end
section
variable {seed x i:Int}{n0:Nat}
set_option maxRecDepth 100000
def iT(i v:Int):yV:=(jr (di i v)).getD default
theorem sgd{q v:Int}(hq:q=0\/q=1)(h0:0<=i)(h1:i<4)(v0:0<=v)(v1:v<10):Sgd seed q i v (iT i v)/\uJ seed q (pi i) v=some (sw seed q i v (iT i v)):=by
 obtain⟨D,hD,hr,e⟩:=F3 (seed:=seed) hq h0 h1 v0 v1
 have:iT i v=D:=by unfold iT;rw[hD];rfl
 rw[this]
 exact⟨⟨hD,hr,hq,h0,h1,v0,v1⟩,e⟩
def Vs(n0:Nat)(a b:Int->Int):Prop:=n0<=4/\∀ i:Int,0<=i->i<n0->0<=a i/\a i<=b i/\b i<10
def iJ(seed:Int)(n0:Nat)(a b:Int->Int)(x:Int)(c:List yJ):Prop:=
 c.length=n0/\∀ k:Int,0<=k->k<n0->∃ bl,nth c k=⟨bl⟩/\((bt x k=true/\StB seed k (a k) (b k) (iT k (a k)) (iT k (b k)) bl)\/(bt x k=false/\Xj seed k (a k) (iT k (a k)) bl))
theorem iJ.setB{a b:Int->Int}{c:List yJ}{bl:List (List Int)}(hn:n0<=4)(h:iJ seed n0 a b x c)(x0:0<=x)(x1:x<16)(i0:0<=i)(i1:i<n0)(hB:StB seed i (a i) (b i) (iT i (a i)) (iT i (b i)) bl):iJ seed n0 a b (rD x i) (c.set i.toNat ⟨bl⟩):=by
 refine⟨by rw[List.length_set];exact h.1,fun k k0 k1=>?_⟩
 have hl:=h.1
 rw[qc (by omega) k0,F9 x0 x1 i0 (by omega) k0 (by omega)]
 by_cases e:k=i
 ·subst e
  rw[if_pos rfl]
  exact⟨bl,rfl,.inl ⟨by simp,hB⟩⟩
 ·rw[if_neg e,decide_eq_false e,Bool.or_false]
  exact h.2 k k0 k1
theorem iJ.setA{a b:Int->Int}{c:List yJ}{bl:List (List Int)}(h:iJ seed n0 a b x c)(i0:0<=i)(i1:i<n0)(hb:bt x i=false)(hA:Xj seed i (a i) (iT i (a i)) bl):iJ seed n0 a b x (c.set i.toNat ⟨bl⟩):=by
 refine⟨by rw[List.length_set];exact h.1,fun k k0 k1=>?_⟩
 have hl:=h.1
 rw[qc (by omega) k0]
 by_cases e:k=i
 ·subst e
  rw[if_pos rfl]
  exact⟨bl,rfl,.inr ⟨hb,hA⟩⟩
 ·rw[if_neg e]
  exact h.2 k k0 k1
theorem iJ.run{a b:Int->Int}{k:Int}{c:List yJ}(hv:Vs n0 a b)(h:iJ seed n0 a b x c)(k0:0<=k)(k1:k<n0):∃ s i,jg ⟨(nth c k).yf⟩ (Rt seed) 1=some (s,i)/\s.yl=pi k/\s.yd=uL a b x k:=by
 obtain⟨hn,hv⟩:=hv
 obtain⟨v0,v1,v2⟩:=hv k k0 k1
 obtain⟨bl,e,h⟩:=h.2 k k0 k1
 have s1:=(sgd (seed:=seed) (q:=0) (.inl rfl) k0 (by omega) v0 (by omega)).1
 rw[e]
 rcases h with⟨hb,h⟩ | ⟨hb,h⟩
 ·have s2:=(sgd (seed:=seed) (q:=1) (i:=k) (v:=b k) (.inr rfl) k0 (by omega) (by omega) v2).1
  exact⟨_,_,Qv s1 s2 h,rfl,by unfold uL;rw[hb];rfl⟩
 ·exact⟨_,_,Qu s1 h,rfl,by unfold uL;rw[hb];rfl⟩
theorem Fc{a b:Int->Int}{c:List yJ}(hv:Vs n0 a b)(h:iJ seed n0 a b x c){k:List yj->Option Bool}:∀(m v n:Nat),v+m=n0->m<n->jb c (Rt seed) ⟨⟨#[97]⟩,⟨#[98]⟩,⟨#[99]⟩,⟨#[100]⟩⟩ k n (ul v (uL a b x)) v=k (ul n0 (uL a b x)):=by
 have hl:=h.1
 have hn:=hv.1
 intro m
 induction m with
 | zero=>
  intro v n h1 h2
  obtain⟨n,rfl⟩:∃ q,n=q+1:=⟨n-1,by omega⟩
  obtain rfl:v=n0:=by omega
  rw[jb,if_neg (by simp;omega)]
 | succ m ih=>
  intro v n h1 h2
  obtain⟨n,rfl⟩:∃ q,n=q+1:=⟨n-1,by omega⟩
  obtain⟨s,i,e,e1,e2⟩:=h.run hv (k:=(v:Int)) (by omega) (by omega)
  have eu:=Xx (n:=v) (f:=uL a b x)
  have en:nth ([(⟨⟨#[97]⟩,⟨#[98]⟩,⟨#[99]⟩,⟨#[100]⟩⟩:xF).a0,(⟨⟨#[97]⟩,⟨#[98]⟩,⟨#[99]⟩,⟨#[100]⟩⟩:xF).a1,(⟨⟨#[97]⟩,⟨#[98]⟩,⟨#[99]⟩,⟨#[100]⟩⟩:xF).a2,(⟨⟨#[97]⟩,⟨#[98]⟩,⟨#[99]⟩,⟨#[100]⟩⟩:xF).a3]:List ByteArray) (v:Int)=pi v:=rfl
  rw[jb,if_pos (by simp;omega),ws (by omega),e,oB,ws (by omega)]
  dsimp only at en ⊢
  rw[en,if_neg (by simpa using e1),ws (by omega),e2,<- eu,ws (by rw[gG];omega),va (by omega)]
  exact ih (v+1) n (by omega) (by omega)
theorem Xy{a b:Int->Int}{c:List yJ}{rows:List ym}(hr:rows.length<1000)(hv:Vs n0 a b)(h:iJ seed n0 a b x c)(hc:cp rows (ul n0 (uL a b x))=true):gl c (Rt seed) ⟨⟨#[97]⟩,⟨#[98]⟩,⟨#[99]⟩,⟨#[100]⟩⟩ rows=some true:=by
 unfold gl
 refine j4 fun k hk=>?_
 have:=Fc hv h (k:=k) n0 0 wr (by omega) (by rw[qJ];have:=hv.1;omega)
 refine this.trans ?_
 rw[hk,QQ hr hv.1,oB,hc]
theorem MM{old next:List Int}{a b:Int->Int}(hn:n0<=4)(hm:min (min ((old.length:Nat):Int) ((next.length:Nat):Int)) 4=n0)(ha:∀ i:Int,a i=min (i64 (Int.tmod (nth old i) 10)) (i64 (Int.tmod (nth next i) 10)))(hb:∀ i:Int,b i=max (i64 (Int.tmod (nth old i) 10)) (i64 (Int.tmod (nth next i) 10))){k:List yj->List yj->Option Bool}:∀(m v n:Nat),v+m=n0->m<n->jR old next k n (ul v a) (ul v b) v=k (ul n0 a) (ul n0 b):=by
 intro m
 induction m with
 | zero=>
  intro v n h1 h2
  obtain⟨n,rfl⟩:∃ q,n=q+1:=⟨n-1,by omega⟩
  obtain rfl:v=n0:=by omega
  rw[jR,hm,if_neg (by simp)]
 | succ m ih=>
  intro v n h1 h2
  obtain⟨n,rfl⟩:∃ q,n=q+1:=⟨n-1,by omega⟩
  have ea:=Xx (n:=v) (f:=a)
  have eb:=Xx (n:=v) (f:=b)
  have en:nth ([⟨#[97]⟩,⟨#[98]⟩,⟨#[99]⟩,⟨#[100]⟩]:List ByteArray) (v:Int)=pi v:=rfl
  rw[jR,hm,if_pos (by simp;omega),ws (by omega),ws (by omega),ws (by omega),<- ha,<- hb,en,<- ea,<- eb,ws (by rw[gG];omega),ws (by omega),ws (by rw[gG];omega),va (by omega)]
  exact ih (v+1) n (by omega) (by omega)
theorem MN{old next:List Int}{a b:Int->Int}(hv:Vs n0 a b)(hm:min (min ((old.length:Nat):Int) ((next.length:Nat):Int)) 4=n0){k:List yJ->Option Bool}:∀(m v n:Nat) (c:List yJ),v+m=n0->m<n->(c.length=v/\∀ j:Int,0<=j->j<v->∃ bl,nth c j=⟨bl⟩/\Xj seed j (a j) (iT j (a j)) bl)->
  ∃ c',iJ seed n0 a b 0 c'/\jS old next (ul n0 a) seed (Rt seed) k n v c=k c':=by
 obtain⟨hn,hv⟩:=hv
 intro m
 induction m with
 | zero=>
  intro v n c h1 h2 hc
  obtain⟨n,rfl⟩:∃ q,n=q+1:=⟨n-1,by omega⟩
  obtain rfl:v=n0:=by omega
  rw[jS,hm,if_neg (by simp)]
  refine⟨c,⟨hc.1,fun j j0 j1=>?_⟩,rfl⟩
  obtain⟨bl,e,h⟩:=hc.2 j j0 j1
  exact⟨bl,e,.inr ⟨M4 j0 (by omega),h⟩⟩
 | succ m ih=>
  intro v n c h1 h2 hc
  obtain⟨n,rfl⟩:∃ q,n=q+1:=⟨n-1,by omega⟩
  have en:nth ([⟨#[97]⟩,⟨#[98]⟩,⟨#[99]⟩,⟨#[100]⟩]:List ByteArray) (v:Int)=pi v:=rfl
  obtain⟨v0,v1,v2⟩:=hv v (by omega) (by omega)
  obtain⟨sg1,e1⟩:=sgd (seed:=seed) (q:=0) (i:=(v:Int)) (v:=a v) (.inl rfl) (by omega) (by omega) v0 (by omega)
  obtain⟨bl,e2,hA⟩:=new_A (seed:=seed) (i:=(v:Int)) (v:=a v) (D:=iT v (a v))
  rw[jS,hm,if_pos (by simp;omega),ws (by omega),ws (by rw[gG];omega),en,iI (by omega) (by omega)]
  dsimp only
  rw[e1,oB,U0,oB,JM sg1,oB,e2,oB,ws (by rw[List.length_append,List.length_singleton,hc.1];omega),va (by omega)]
  refine ih (v+1) n _ (by omega) (by omega) ⟨by rw[List.length_append,List.length_singleton,hc.1],fun j j0 j1=>?_⟩
  rw[oz j0]
  by_cases hj:j<v
  ·rw[if_pos (by rw[hc.1];exact hj)]
   exact hc.2 j j0 hj
  ·obtain rfl:j=v:=by omega
   rw[if_neg (by rw[hc.1];omega),hc.1,show((v:Int)-(v:Int))=0 by omega]
   exact⟨bl,rfl,hA⟩
theorem MO{r:List Int×Int}{a b:Int->Int}{g:Int}{rows:List ym}{step at' kk:Int}(hr:rows.length<1000)(hv:Vs n0 a b)(hat:0<=at'/\at'<=255)(hkk:0<=kk/\kk<=255)(hl:r.1.length<=16){k:List yJ->Option Bool}:∀(m:Nat) (v x:Int) (c:List yJ) (n:Nat),0<=v->v+m=r.1.length->m<n->0<=x->x<16->eU rows n0 a b x (r.1.drop v.toNat) g->cp rows (ul n0 (uL a b x))=true->iJ seed n0 a b x c->
  ∃ c',iJ seed n0 a b g c'/\jT r (ul n0 b) seed (Rt seed) rows step at' kk k n v c=k c':=by
 have hn:=hv.1
 intro m
 induction m with
 | zero=>
  intro v x c n h0 h1 h2 x0 x1 hw hcx hs
  obtain⟨n,rfl⟩:∃ q,n=q+1:=⟨n-1,by omega⟩
  rw[List.drop_eq_nil_of_le (by omega)] at hw
  obtain rfl:x=g:=hw
  rw[jT,if_neg (by simp;omega)]
  exact⟨c,hs,rfl⟩
 | succ m ih=>
  intro v x c n h0 h1 h2 x0 x1 hw hcx hs
  obtain⟨n,rfl⟩:∃ q,n=q+1:=⟨n-1,by omega⟩
  rw[cT h0 (by omega)] at hw
  obtain⟨hN,hw⟩:=hw
  generalize hi:nth r.1 v=i at hN hw
  obtain⟨⟨i0,i1⟩,uQ,hab,Cn⟩:=hN
  have i4:i<4:=by omega
  have hb:=Ub x0 x1 i0 i4 uQ
  have CW:=Vp x0 x1 i0 i4
  obtain⟨v0,v1,v2⟩:=hv.2 i i0 i1
  have wK:=hs.1
  obtain⟨bl,ebl,nE⟩:=hs.2 i i0 i1
  have hA:Xj seed i (a i) (iT i (a i)) bl:=by
   rcases nE with h | h
   ·rw[hb] at h;cases h.1
   ·exact h.2
  have s1:=(sgd (seed:=seed) (q:=0) (i:=i) (v:=a i) (.inl rfl) i0 i4 v0 (by omega)).1
  obtain⟨s2,e2⟩:=sgd (seed:=seed) (q:=1) (i:=i) (v:=b i) (.inr rfl) i0 i4 (by omega) v2
  have en:nth ([⟨#[97]⟩,⟨#[98]⟩,⟨#[99]⟩,⟨#[100]⟩]:List ByteArray) i=pi i:=rfl
  rw[jT,if_pos (by simp;omega),ws (by omega),hi,ws (by omega),ws (by rw[gG];omega),en,iI i0 i1]
  dsimp only
  rw[e2,oB,ws (by omega),ebl]
  dsimp only
  rw[Qw s1 s2 (by omega) hA,oB,bZ,if_neg (by decide)]
  refine QV (P:=fun o=>∃ c',iJ seed n0 a b g c'/\o=k c') fun k2 wj=>?_
  have tail:∀(ops:List yb) (c1:List yJ) (bl1 bl2:List (List Int)),iJ seed n0 a b (rD x i) (c1.set i.toNat ⟨bl2⟩)->c1.length=n0->nth c1 i=⟨bl1⟩->gF ⟨bl1⟩ ops=some ⟨bl2⟩->∃ c',iJ seed n0 a b g c'/\k2 ops c1=k c':=by
   intro ops c1 bl1 bl2 BW z6 e1 e2
   rw[wj,ws (by omega),e1]
   dsimp only
   rw[e2,oB,ws (by omega),Xy hr hv BW Cn,oB,if_neg (by decide),va (by omega)]
   exact ih (v+1) (rD x i) _ n (by omega) (by omega) (by omega) (by omega) CW.2 hw Cn BW
  obtain⟨bl3,e3,hB3⟩:=Mc (w:=b i) (D':=iT i (b i)) hA
  have Cb:=tail (lL 1 1 2 (fm seed 1 i (b i) (iT i (b i)))) c bl bl3 (hs.setB hn x0 x1 i0 i1 hB3) wK ebl e3
  rw[ws (by omega)]
  split
  ·rw[ws (by omega),ws (by decide)]
   have BB:0<=Int.tmod (i64 at') (((5:Nat):Int))/\Int.tmod (i64 at') (((5:Nat):Int))<5:=by
    rw[va (by omega),Int.tmod_eq_emod_of_nonneg (by omega)];omega
   have hK0:0<=Int.tmod (i64 kk) 109/\Int.tmod (i64 kk) 109<=108:=by
    rw[va (by omega),Int.tmod_eq_emod_of_nonneg (by omega)];omega
   obtain⟨bl4,e4,h4⟩:=U8 (w:=b i) (D':=iT i (b i)) hA BB.1 BB.2 hK0.1 hK0.2
   rw[e4,oB,ws (by omega)]
   rcases h4 with hA4 | hB4
   ·-- the old version runs
    have CX:=hs.setA i0 i1 hb hA4
    rw[Xy hr hv CX hcx,oB,if_neg (by decide)]
    refine l4 (P:=fun o=>∃ c',iJ seed n0 a b g c'/\o=k c') fun k3 Ao=>?_
    rw[Qu s1 hA4,oB,ws (by rw[gG];omega)]
    dsimp only
    rw[if_pos (decide_eq_true (p:=(sw seed 0 i (a i) (iT i (a i))).yd≠b i) hab),Qw s1 s2 (by omega) hA4,oB,Ao]
    obtain⟨bl5,e5,hB5⟩:=Mc (w:=b i) (D':=iT i (b i)) hA4
    exact tail _ _ bl4 bl5 (CX.setB hn x0 x1 i0 i1 hB5) (by rw[List.length_set];exact wK) (by rw[qc (by omega) i0,if_pos rfl]) e5
   ·-- the new version runs
    have CX:=hs.setB hn x0 x1 i0 i1 hB4
    rw[Xy hr hv CX Cn,oB,if_neg (by decide)]
    refine l4 (P:=fun o=>∃ c',iJ seed n0 a b g c'/\o=k c') fun k3 Ao=>?_
    rw[Qv s1 s2 hB4,oB,ws (by rw[gG];omega)]
    dsimp only
    rw[if_neg (by simp[sw]),Ao]
    exact tail _ _ bl4 bl4 (by rw[List.set_set];exact CX) (by rw[List.length_set];exact wK) (by rw[qc (by omega) i0,if_pos rfl]) (MF hB4.1)
  ·exact Cb
end
section
set_option maxRecDepth 100000
theorem MP{n0:Nat}{a b:Int->Int}{seed g:Int}{c:List yJ}(hv:Vs n0 a b)(hg:Gl n0 a b g)(hs:iJ seed n0 a b g c){k:Option Bool}:∀(m:Nat) (v:Int) (n:Nat),0<=v->v+m=n0->m<n->jU c (Rt seed) (ul n0 b) k n c v=k:=by
 have hn:=hv.1
 have hl:=hs.1
 intro m
 induction m with
 | zero=>
  intro v n h0 h1 h2
  obtain⟨n,rfl⟩:∃ q,n=q+1:=⟨n-1,by omega⟩
  rw[jU,if_neg (by simp;omega)]
 | succ m ih=>
  intro v n h0 h1 h2
  obtain⟨n,rfl⟩:∃ q,n=q+1:=⟨n-1,by omega⟩
  obtain⟨s,i,e,e1,e2⟩:=hs.run hv (k:=v) h0 (by omega)
  have hb:uL a b g v=b v:=by
   unfold uL
   rw[hg.2 v h0 (by omega)]
   by_cases h:a v=b v
   ·rw[if_neg (by simpa using h)];exact h
   ·rw[if_pos (by simpa using h)]
  rw[jU,if_pos (by simp;omega),ws (by omega),e,oB,ws (by rw[gG];omega),iI h0 (by omega)]
  dsimp only
  rw[e2,hb,if_neg (by simp),va (by omega)]
  exact ih (v+1) n (by omega) (by omega) (by omega)
theorem dig{l:List Int}(h:∀ y∈l,0<=y/\y<=255)(i:Int)(h0:0<=i)(h1:i<l.length):0<=i64 (Int.tmod (nth l i) 10)/\i64 (Int.tmod (nth l i) 10)<10:=by
 have:=h _ (uw h0 h1)
 rw[Int.tmod_eq_emod_of_nonneg this.1,va (by omega)];omega
theorem law(x0:List ym)(x1 x2:List Int)(x3 x4 x5 x6:Int)(h1:∀ y∈x1,0<=y/\y<=255)(h2:∀ y∈x2,0<=y/\y<=255)(h4:0<=x4/\x4<=255)(h5:0<=x5/\x5<=255)(h6:0<=x6/\x6<=255):pg x0 x1 x2 x3 x4 x5 x6=some true:=by
 unfold pg
 by_cases hr:((x0.length:Nat):Int)>20
 ·rw[if_pos (by simpa using hr),Wu];rfl
 rw[if_neg (by simpa using hr)]
 obtain⟨n0,hm⟩:∃ n0:Nat,min (min ((x1.length:Nat):Int) ((x2.length:Nat):Int)) 4=n0:=⟨(min (min ((x1.length:Nat):Int) ((x2.length:Nat):Int)) 4).toNat,by omega⟩
 obtain⟨a,ha⟩:∃ a:Int->Int,∀ i:Int,a i=min (i64 (Int.tmod (nth x1 i) 10)) (i64 (Int.tmod (nth x2 i) 10)):=⟨_,fun _=>rfl⟩
 obtain⟨b,hb⟩:∃ b:Int->Int,∀ i:Int,b i=max (i64 (Int.tmod (nth x1 i) 10)) (i64 (Int.tmod (nth x2 i) 10)):=⟨_,fun _=>rfl⟩
 have hv:Vs n0 a b:=⟨by omega,fun i i0 i1=>by
  have a1:=dig h1 i i0 (by omega)
  have a2:=dig h2 i i0 (by omega)
  rw[ha,hb];omega⟩
 refine Xk fun k hk=>?_
 refine(MM hv.1 hm ha hb (k:=k) n0 0 wr (by omega) (by rw[qJ];have:=hv.1;omega)).trans ?_
 rw[hk]
 obtain⟨r,e,CW⟩:=M7 (rows:=x0) (by omega) hv.1 (a:=a) (b:=b)
 rw[e,oB]
 rcases CW with h | ⟨h,nj,Cn,g,hg,hw⟩
 ·rw[h,if_pos (by decide),if_pos (by decide),Wu];rfl
 ·rw[h,if_neg (by decide),MC,oB]
  refine j4 fun k2 wj=>?_
  obtain⟨c,hs,e2⟩:=MN (seed:=x3) hv hm (k:=k2) n0 0 wr [] (by omega) (by rw[qJ];have:=hv.1;omega) ⟨rfl,fun j j0 j1=>by omega⟩
  refine e2.trans ?_
  rw[wj,Xy (by omega) hv hs Cn,oB,if_neg (by decide)]
  refine j4 fun k3 Ao=>?_
  obtain⟨c',hs',e3⟩:=MO (r:=r) (rows:=x0) (step:=x4) (at':=x5) (kk:=x6) (by omega) hv h5 h6 nj (k:=k3) r.1.length 0 0 c wr (by decide) (by omega) (by rw[qJ];omega) (by decide) (by decide) hw Cn hs
  rw[e3,Ao]
  refine Vz fun k4 Cj=>?_
  rw[MP hv hg hs' n0 0 wr (by decide) (by omega) (by rw[qJ];have:=hv.1;omega),Cj,Wu];rfl
end
end Go.Proofs.YtaefhckdgfpeaaaGreat

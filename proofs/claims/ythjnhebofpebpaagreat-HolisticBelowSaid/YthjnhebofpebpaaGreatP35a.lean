/- A part of this claim's proof: models of functions, walks, plain laws. No conditions. -/
import Derived.Test.YthjnhebofpebpaaGreatW36h
import Derived.Test.YthjnhebofpebpaaGreatZMem
set_option linter.all false
namespace Go.Proofs.YthjnhebofpebpaaGreat
open Go Go.RowKit Sep
variable {net:Int}
theorem y5D{R:Type}{K:Option R}{F:Option R->Option R}{P:Option R->Prop}(h:∀ k:Option R,k=K->P (F k)):P (jp0 K F):=h K rfl
theorem y28{R A0:Type}{K:A0->Option R}{F:(A0->Option R)->Option R}{P:Option R->Prop}(h:∀ k:A0->Option R,(∀ x0,k x0=K x0)->P (F k)):P (jp1 K F):=h K fun _=>rfl
theorem yb4{R A0 A1:Type}{K:A0->A1->Option R}{F:(A0->A1->Option R)->Option R}{P:Option R->Prop}(h:∀ k:A0->A1->Option R,(∀ x0 x1,k x0 x1=K x0 x1)->P (F k)):P (jp2 K F):=h K fun _ _=>rfl
/-! ### comparisons -/
def cmpI(x y:Int):Int:=if x<y then -1 else if x>y then 1 else 0
theorem yjP(x y:Int):y4V x y=some (cmpI x y):=by
 unfold y4V y6e cmpI
 simp only[ne_eq,not_true_eq_false,decide_false,oB,Bool.false_eq_true,if_false,decide_eq_true_eq]
 by_cases h1:x<y
 ·simp[h1]
 ·by_cases h2:x>y
  ·simp[h1,h2]
  ·simp[h1,h2]
def orI:List Int->Int
 | []=>0
 | x::l=>if x≠0 then x else orI l
theorem yj5{l:List Int}{k:Option Int}(hl:l.length<9000000000000000000):∀(n:Nat) (v:Int),0<=v->v<=l.length->l.length<n+v->
  y4N l k n v=if orI (l.drop v.toNat)≠0 then some (orI (l.drop v.toNat)) else k
 | 0,v,h0,h1,h2=>by omega
 | n+1,v,h0,h1,h2=>by
  rw[y4N]
  by_cases h:v<l.length
  ·rw[if_pos (decide_eq_true h),yt ⟨h0,h⟩]
   have hd:l.drop v.toNat=nth l v::l.drop (v.toNat+1):=by
    have h3:v.toNat<l.length:=by omega
    rw[<- List.getElem_cons_drop h3]
    rw[y5L (l:=l) h0 h]
   rw[hd,orI]
   by_cases hz:nth l v=0
   ·rw[if_neg (by simp[hz]),yz (by omega),yj5 hl n (v+1) (by omega) (by omega) (by omega),show(v+1).toNat=v.toNat+1 by omega]
    simp only[hz,ne_eq,not_true_eq_false,if_false]
   ·rw[if_pos (decide_eq_true hz),if_pos hz,if_pos hz]
  ·rw[if_neg (by simpa using h),List.drop_eq_nil_of_le (by omega)]
   simp[orI]
theorem or_eq{l:List Int}(hl:l.length<9000000000000000000):y7I l=some (orI l):=by
 unfold y7I
 refine y5D (P:=fun o=>o=some (orI l)) fun k hk=>?_
 rw[yj5 hl yy 0 (by omega) (by omega) (by rw[yV];omega),hk]
 simp only[Int.toNat_zero,List.drop_zero]
 by_cases h:orI l=0 <;> simp[h]
theorem y87{α:Type}[Inhabited α]{l:List α}{i:Int}(h:0<=i/\i<l.length):nth l i=l[i.toNat]'(by omega):=by
 exact(y5L (l:=l) h.1 h.2).symm
theorem y42{α:Type}[Inhabited α]{l:List α}{v:Int}(h0:0<=v)(h:v<l.length):l.drop v.toNat=nth l v::l.drop (v.toNat+1):=by
 have h3:v.toNat<l.length:=by omega
 rw[<- List.getElem_cons_drop h3,y5L (l:=l) h0 h]
abbrev Cf:=zs
abbrev Hop:=ze
def nM(c:Cf):Int:=c.fM.length
def nN(c:Cf):Int:=c.fM.length+c.fS.length
structure Small (c:Cf):Prop where
 m:c.fM.length<=1000
 s:c.fS.length<=1000
 l:c.fK.length<=1000
 v:c.fVLs.length<=1000
def sw(c:Cf)(n:Int):z87:=nth c.fS (n-nM c)
def nameS(c:Cf)(n:Int):ByteArray:=if n<0\/n>=nN c then⟨#[]⟩ else if n<nM c then(nth c.fM n).fName else(sw c n).fName
theorem yhL{c:Cf}(h:Small c):y5k c=some (nN c):=by
 have:=h.m;have:=h.s
 unfold y5k nN
 rw[yz (by omega)]
theorem name_eq{c:Cf}(h:Small c)(n:Int)(hn : -1000000<=n/\n<=1000000):y6F c n=some (nameS c n):=by
 have:=h.m;have:=h.s
 unfold y6F nameS
 rw[yhL h]
 by_cases h1:n<0
 ·simp[h1]
 ·rw[if_neg (by simpa using h1)]
  simp only[oB,decide_eq_true_eq]
  by_cases h2:n>=nN c
  ·rw[if_pos h2,if_pos (.inr h2)]
  ·rw[if_neg h2,if_neg (show ¬(n<0\/n>=nN c) by omega)]
   unfold nN nM at *
   by_cases h3:n<c.fM.length
   ·rw[if_pos h3,yt ⟨by omega,h3⟩,if_pos h3]
   ·rw[if_neg h3,yz (by omega),yt ⟨by omega,by omega⟩,if_neg h3]
    rfl
theorem ygS{c:Cf}(h:Small c){nm:ByteArray}{k:Option Int}:∀(f:Nat) (v:Int),0<=v->v<=nN c->nN c<f+v->
  (∃ i:Int,0<=i/\i<nN c/\y3p (nN c) c nm k f v=some i)\/y3p (nN c) c nm k f v=k
 | 0,v,h0,h1,h2=>by omega
 | f+1,v,h0,h1,h2=>by
  have hb:nN c<=2000:=by have:=h.m;have:=h.s;unfold nN;omega
  rw[y3p]
  by_cases h3:v<nN c
  ·rw[if_pos (decide_eq_true h3),name_eq h v (by omega)]
   simp only[oB,decide_eq_true_eq]
   by_cases h4:nameS c v=nm
   ·rw[if_pos h4];exact .inl ⟨v,h0,h3,rfl⟩
   ·rw[if_neg h4,yz (by omega)]
    exact ygS h f (v+1) (by omega) (by omega) (by omega)
  ·rw[if_neg (by simpa using h3)];exact .inr rfl
theorem yj6{c:Cf}(h:Small c)(nm:ByteArray):∃ i:Int,-1<=i/\i<nN c/\y3l c nm=some i:=by
 unfold y3l
 rw[yhL h]
 have hF:=yV
 generalize yy=N at hF ⊢
 refine y5D (P:=fun o=>∃ i:Int,-1<=i/\i<nN c/\o=some i) fun k hk=>?_
 have hb:0<=nN c/\nN c<=2000:=by have:=h.m;have:=h.s;unfold nN;omega
 simp only[oB]
 rcases ygS h (nm:=nm) (k:=k) N 0 (by omega) hb.1 (by omega) with⟨i,h1,h2,h3⟩ | h3
 ·exact⟨i,by omega,h2,h3⟩
 ·exact⟨-1,by omega,by omega,h3.trans hk⟩
def fA(c:Cf)(l:Int):Int:=(y3l c (nth c.fK l).fA).getD (-1)
def fB(c:Cf)(l:Int):Int:=(y3l c (nth c.fK l).fB).getD (-1)
theorem fA_eq{c:Cf}(h:Small c)(l:Int):y3l c (nth c.fK l).fA=some (fA c l) /\ -1<=fA c l/\fA c l<nN c:=by
 obtain⟨i,h1,h2,h3⟩:=yj6 h (nth c.fK l).fA
 unfold fA;rw[h3];exact⟨rfl,h1,h2⟩
theorem fB_eq{c:Cf}(h:Small c)(l:Int):y3l c (nth c.fK l).fB=some (fB c l) /\ -1<=fB c l/\fB c l<nN c:=by
 obtain⟨i,h1,h2,h3⟩:=yj6 h (nth c.fK l).fB
 unfold fB;rw[h3];exact⟨rfl,h1,h2⟩
def y9K(c:Cf)(net n:Int):Prop:=0<=n/\(n<nM c\/(sw c n).fNet=net/\0<=(sw c n).fDelay/\(sw c n).fDelay<=1000/\0<=(sw c n).fT/\(sw c n).fT<=1073741824)
instance (c:Cf) (net n:Int):Decidable (y9K c net n):=inferInstanceAs (Decidable (_/\_))
theorem yj7{c:Cf}(h:Small c){n:Int}(hn : -1<=n/\n<nN c):y5J c net n=some (decide (y9K c net n)):=by
 have:=h.m;have:=h.s
 unfold y5J
 unfold nN at hn
 by_cases h1:n<c.fM.length
 ·rw[if_pos (decide_eq_true h1)]
  refine congrArg some ?_
  rw[Bool.eq_iff_iff,decide_eq_true_iff,decide_eq_true_iff]
  unfold y9K nM
  exact⟨fun h=>⟨h,.inl h1⟩,fun h=>h.1⟩
 ·rw[if_neg (by simpa using h1),yz (by omega),yt ⟨by omega,by omega⟩]
  refine congrArg some ?_
  rw[Bool.eq_iff_iff,decide_eq_true_iff]
  unfold y9K sw nM
  simp only[Bool.and_eq_true,decide_eq_true_eq]
  constructor
  ·rintro⟨⟨⟨⟨a,b⟩,e⟩,d⟩,f⟩;exact⟨by omega,.inr ⟨a,b,e,d,f⟩⟩
  ·rintro⟨_,a | ⟨a,b,e,d,f⟩⟩
   ·exact absurd a h1
   ·exact⟨⟨⟨⟨a,b⟩,e⟩,d⟩,f⟩
def JN(c:Cf)(net link a b:Int):Prop:=0<=link/\link<c.fK.length/\(nth c.fK link).fNet=net/\1<=(nth c.fK link).fSlow/\(nth c.fK link).fSlow<=16/\fA c link≠fB c link/\
 y9K c net (fA c link)/\y9K c net (fB c link)/\(fA c link=a/\fB c link=b\/fA c link=b/\fB c link=a)
instance (c:Cf) (net link a b:Int):Decidable (JN c net link a b):=inferInstanceAs (Decidable (_/\_))
theorem joins_eq{c:Cf}(h:Small c)(net link a b:Int):y6b c net link a b=some (decide (JN c net link a b)):=by
 unfold y6b
 by_cases h1:link<0\/link>=c.fK.length
 ·rw[if_pos (by simpa using h1)]
  congr 1;symm
  rw[decide_eq_false_iff_not]
  rintro⟨a,b,_⟩;omega
 ·rw[if_neg (by simpa using h1),yt ⟨by omega,by omega⟩]
  obtain⟨a1,a2,a3⟩:=fA_eq h link
  obtain⟨b1,b2,b3⟩:=fB_eq h link
  rw[a1,b1]
  simp only[oB]
  rw[yj7 h ⟨a2,a3⟩,yj7 h ⟨b2,b3⟩]
  simp only[oB]
  by_cases h2:(nth c.fK link).fNet=net/\1<=(nth c.fK link).fSlow/\(nth c.fK link).fSlow<=16/\fA c link≠fB c link
  ·rw[if_pos (by simp only[Bool.and_eq_true,decide_eq_true_eq];exact⟨⟨⟨h2.1,h2.2.1⟩,h2.2.2.1⟩,h2.2.2.2⟩)]
   simp only[oB]
   by_cases h3:y9K c net (fA c link)
   ·rw[if_pos (decide_eq_true h3)]
    simp only[oB]
    congr 1
    rw[Bool.eq_iff_iff]
    simp only[Bool.and_eq_true,Bool.or_eq_true,decide_eq_true_eq]
    constructor
    ·rintro⟨x,y⟩;exact⟨by omega,by omega,h2.1,h2.2.1,h2.2.2.1,h2.2.2.2,h3,x,y⟩
    ·rintro⟨_,_,_,_,_,_,_,x,y⟩;exact⟨x,y⟩
   ·rw[if_neg (by simpa using h3)]
    simp only[oB,Bool.false_and]
    congr 1;symm
    rw[decide_eq_false_iff_not]
    rintro⟨_,_,_,_,_,_,x,_⟩;exact h3 x
  ·rw[if_neg (by simp only[Bool.and_eq_true,decide_eq_true_eq];rintro⟨⟨⟨x,y⟩,z⟩,w⟩;exact h2 ⟨x,y,z,w⟩)]
   simp only[oB,Bool.false_eq_true,if_false,Bool.false_and]
   congr 1;symm
   rw[decide_eq_false_iff_not]
   rintro⟨_,_,x,y,z,w,_⟩;exact h2 ⟨x,y,z,w⟩
/-! ### routes -/
def RK(r:List Hop)(v k:Int):Prop:=k=(nth r 0).fNode\/∃ q:Int,0<=q/\q<v/\(nth r q).fNext=k
def ycD(c:Cf)(net:Int)(r:List Hop)(v:Int):Prop:=
 RK r v (nth r v).fNode/\¬RK r v (nth r v).fNext/\((nth r v).fNode=(nth r 0).fNode\/nM c<=(nth r v).fNode)/\JN c net (nth r v).fQ (nth r v).fNode (nth r v).fNext
structure VR (c:Cf) (net:Int) (r:List Hop):Prop where
 len:r.length<=32
 cond:∀ v:Int,0<=v->v<r.length->ycD c net r v
theorem ye5{κ γ:Type}[DecidableEq κ]{k k':κ}{u d:γ}(h:k'≠k):∀(l:List (κ×γ)),yd (yC l k u) k' d=yd l k' d
 | []=>by simp[yC,yd,h]
 | p::l=>by
  by_cases hk:k=p.1
  ·subst hk;simp[yC,yd,h]
  ·simp only[yC,hk,if_false,yd];rw[ye5 h l]
theorem yc1{κ γ:Type}[DecidableEq κ]{k:κ}{u d:γ}:∀(l:List (κ×γ)),yd (yC l k u) k d=u
 | []=>by simp[yC,yd]
 | p::l=>by
  by_cases hk:k=p.1
  ·subst hk;simp[yC,yd]
  ·simp only[yC,hk,if_false,yd];exact yc1 l
theorem yfF{c:Cf}(h:Small c){net:Int}{r:List Hop}{k:Option Bool}(hr:r.length<1000000000):∀(f:Nat) (v:Int) (mp:List (Int×Int)),0<=v->v<=r.length->r.length<f+v->
  (∀ x,0<=yd mp x 0/\yd mp x 0<=2*v/\(0<yd mp x 0↔0<v/\RK r v x))->
  ((∃ q:Int,v<=q/\q<r.length/\¬ycD c net r q)/\y3a r c net k f v mp=some false)\/((∀ q:Int,v<=q->q<r.length->ycD c net r q)/\y3a r c net k f v mp=k)
 | 0,v,mp,h0,h1,h2,h3=>by omega
 | f+1,v,mp,h0,h1,h2,h3=>by
  rw[y3a]
  by_cases hv:v<r.length
  ·rw[if_pos (decide_eq_true hv),yt ⟨h0,hv⟩]
   refine y28 (P:=fun o=>((∃ q:Int,v<=q/\q<r.length/\¬ycD c net r q)/\o=some false)\/((∀ q:Int,v<=q->q<r.length->ycD c net r q)/\o=k)) fun kk hkk=>?_
   -- the map in which the start is counted
   have hm:∃ mp1,(if decide (v=0)=true then kk (yC mp ((nth r v).fNode) (i64 ((yd mp ((nth r v).fNode) 0)+1))) else kk mp)=kk mp1/\(∀ x,0<=yd mp1 x 0/\yd mp1 x 0<=2*v+1/\(0<yd mp1 x 0↔RK r v x)):=by
    by_cases hv0:v=0
    ·subst hv0
     rw[if_pos (by simp)]
     refine⟨_,rfl,fun x=>?_⟩
     have h4:=h3 (nth r 0).fNode
     rw[yz (by omega)]
     by_cases hx:x=(nth r 0).fNode
     ·subst hx;rw[yc1]
      refine⟨by omega,by omega,fun _ => .inl rfl,fun _=>by omega⟩
     ·rw[ye5 hx]
      have h5:=h3 x
      refine⟨by omega,by omega,fun h6=>absurd (h5.2.2.1 h6).1 (by omega),fun h6=>?_⟩
      rcases h6 with h6 | ⟨q,q1,q2,_⟩
      ·exact absurd h6 hx
      ·omega
    ·rw[if_neg (by simpa using hv0)]
     refine⟨mp,rfl,fun x=>?_⟩
     have h5:=h3 x
     exact⟨by omega,by omega,fun h6=>(h5.2.2.1 h6).2,fun h6=>h5.2.2.2 ⟨by omega,h6⟩⟩
   obtain⟨mp1,e1,h4⟩:=hm
   rw[e1,hkk,yt (fun _ hc=>⟨by omega,by omega⟩),joins_eq h]
   simp only[oB]
   have hN:=h4 (nth r v).fNode
   have hX:=h4 (nth r v).fNext
   -- the condition
   have hc:∃ b,(if ((decide ((yd mp1 ((nth r v).fNode) 0)=0))||(decide ((yd mp1 ((nth r v).fNext) 0)>0))||((decide (v>0))&&(decide (((nth r v).fNode)≠((nth r 0).fNode)))&&(decide (((nth r v).fNode)<((c.fM.length:Nat):Int)))))=true then some true else some (!decide (JN c net ((nth r v).fQ) ((nth r v).fNode) ((nth r v).fNext))))=some b/\(b=true↔¬ycD c net r v):=by
    by_cases hb:(decide ((yd mp1 ((nth r v).fNode) 0)=0)||decide ((yd mp1 ((nth r v).fNext) 0)>0)||(decide (v>0)&&decide (((nth r v).fNode)≠((nth r 0).fNode))&&decide (((nth r v).fNode)<((c.fM.length:Nat):Int))))=true
    ·rw[if_pos hb]
     refine⟨true,rfl,fun _=>?_,fun _=>rfl⟩
     rintro⟨a1,a2,a3,_⟩
     simp only[Bool.or_eq_true,Bool.and_eq_true,decide_eq_true_eq] at hb
     rcases hb with(hb | hb) | ⟨⟨b1,b2⟩,b3⟩
     ·have:=hN.2.2.2 a1;omega
     ·exact a2 (hX.2.2.1 hb)
     ·unfold nM at a3;rcases a3 with a3 | a3
      ·exact b2 a3
      ·omega
    ·rw[if_neg hb]
     refine⟨_,rfl,?_⟩
     simp only[Bool.or_eq_true,Bool.and_eq_true,decide_eq_true_eq,not_or,not_and] at hb
     obtain⟨⟨b1,b2⟩,b3⟩:=hb
     have c1:RK r v (nth r v).fNode:=hN.2.2.1 (by omega)
     have c2:¬RK r v (nth r v).fNext:=fun hk=>b2 (hX.2.2.2 hk)
     have c3:(nth r v).fNode=(nth r 0).fNode\/nM c<=(nth r v).fNode:=by
      unfold nM
      by_cases e:(nth r v).fNode=(nth r 0).fNode
      ·exact .inl e
      ·refine .inr ?_
       by_cases e0:v=0
       ·subst e0;exact absurd rfl e
       ·have:=b3 ⟨by omega,e⟩;omega
     simp only[Bool.not_eq_true',decide_eq_false_iff_not]
     exact⟨fun hj hc=>hj hc.2.2.2,fun hc hj=>hc ⟨c1,c2,c3,hj⟩⟩
   obtain⟨b,hb1,hb2⟩:=hc
   rw[hb1]
   simp only[oB]
   by_cases hb:b=true
   ·rw[if_pos hb];exact .inl ⟨⟨v,Int.le_refl _,hv,hb2.1 hb⟩,rfl⟩
   ·rw[if_neg hb]
    have hcv:ycD c net r v:=Classical.byContradiction fun hn=>hb (hb2.2 hn)
    rw[yz (x:=v+1) (by omega),yz (by omega)]
    have hnx:∀ x,0<=yd (yC mp1 ((nth r v).fNext) ((yd mp1 ((nth r v).fNext) 0)+1)) x 0/\yd (yC mp1 ((nth r v).fNext) ((yd mp1 ((nth r v).fNext) 0)+1)) x 0<=2*(v+1)/\(0<yd (yC mp1 ((nth r v).fNext) ((yd mp1 ((nth r v).fNext) 0)+1)) x 0↔0<v+1/\RK r (v+1) x):=by
     intro x
     by_cases hx:x=(nth r v).fNext
     ·subst hx;rw[yc1]
      exact⟨by omega,by omega,fun _=>⟨by omega,.inr ⟨v,h0,by omega,rfl⟩⟩,fun _=>by omega⟩
     ·rw[ye5 hx]
      have h5:=h4 x
      refine⟨by omega,by omega,fun h6=>⟨by omega,?_⟩,fun h6=>h5.2.2.2 ?_⟩
      ·rcases h5.2.2.1 h6 with h7 | ⟨q,q1,q2,q3⟩
       ·exact .inl h7
       ·exact .inr ⟨q,q1,by omega,q3⟩
      ·rcases h6.2 with h7 | ⟨q,q1,q2,q3⟩
       ·exact .inl h7
       ·by_cases e:q=v
        ·subst e;exact absurd q3.symm hx
        ·exact .inr ⟨q,q1,by omega,q3⟩
    rcases yfF h hr f (v+1) (yC mp1 ((nth r v).fNext) ((yd mp1 ((nth r v).fNext) 0)+1)) (by omega) (by omega) (by omega) hnx (k:=k) (net:=net) with⟨⟨q,q1,q2,q3⟩,h5⟩ | ⟨h5,h6⟩
    ·exact .inl ⟨⟨q,by omega,q2,q3⟩,h5⟩
    ·refine .inr ⟨fun q q1 q2=>?_,h6⟩
     by_cases e:q=v
     ·rw[e];exact hcv
     ·exact h5 q (by omega) q2
  ·rw[if_neg (by simpa using hv)]
   exact .inr ⟨fun q h1 h2=>by omega,rfl⟩
theorem yf3{c:Cf}(h:Small c){r:List Hop}(hr:r.length<1000000000):∃ b,y6c c net r=some b/\(b=true↔VR c net r):=by
 unfold y6c
 have hF:=yV
 generalize yy=N at hF ⊢
 refine y5D (P:=fun o=>∃ b,o=some b/\(b=true↔VR c net r)) fun k hk=>?_
 rcases yfF h hr N 0 [] (by omega) (by omega) (by omega) (fun x=>by simp[yd]) (k:=k) (net:=net) with⟨⟨q,q1,q2,q3⟩,h5⟩ | ⟨h5,h6⟩
 ·refine⟨false,h5,?_⟩
  simp only[Bool.false_eq_true,false_iff]
  exact fun hv=>q3 (hv.cond q q1 q2)
 ·refine⟨_,h6.trans hk,?_⟩
  rw[decide_eq_true_eq]
  exact⟨fun hl=>⟨by omega,h5⟩,fun hv=>by have:=hv.len;omega⟩
theorem ybC{l:List (List Hop)}{f:List Hop->Option Bool}{k:Option Int}(hf:∀ y∈l,∃ b,f y=some b)(hl:l.length<1000000000):∀(n:Nat) (v:Int),0<=v->v<=l.length->l.length<n+v->
  (∃ i:Int,v<=i/\i<l.length/\f (nth l i)=some true/\yQ l f k n v=some i)\/((∀ i:Int,v<=i->i<l.length->f (nth l i)=some false)/\yQ l f k n v=k)
 | 0,v,h0,h1,h2=>by omega
 | n+1,v,h0,h1,h2=>by
  rw[yQ]
  by_cases h:v<l.length
  ·rw[if_pos (decide_eq_true h),yt ⟨h0,h⟩]
   obtain⟨b,hb⟩:=hf _ (yO h0 h)
   rw[hb]
   simp only[oB]
   cases b with
   | true=>exact .inl ⟨v,Int.le_refl _,h,hb,by simp⟩
   | false=>
    simp only[Bool.false_eq_true,if_false]
    rw[yz (x:=v+1) (by omega)]
    rcases ybC hf hl n (v+1) (by omega) (by omega) (by omega) (k:=k) with⟨i,i1,i2,i3,i4⟩ | ⟨i1,i2⟩
    ·exact .inl ⟨i,by omega,i2,i3,i4⟩
    ·refine .inr ⟨fun i j1 j2=>?_,i2⟩
     by_cases e:i=v
     ·rw[e];exact hb
     ·exact i1 i (by omega) j2
  ·rw[if_neg (by simpa using h)]
   exact .inr ⟨fun i h1 h2=>by omega,rfl⟩
structure VA (c:Cf) (net:Int) (rs:List (List Hop)):Prop where
 nt:net=0\/net=1
 len:rs.length=c.fVLs.length
 most:rs.length<=16
 each:∀ r∈rs,VR c net r
theorem yf4{c:Cf}(h:Small c){rs:List (List Hop)}(hr:∀ r∈rs,r.length<1000000000)(hl:rs.length<1000000000):∃ b,y44 c net rs=some b/\(b=true↔VA c net rs):=by
 unfold y44
 by_cases h1:(net=0\/net=1)/\rs.length=c.fVLs.length/\rs.length<=16
 ·rw[if_pos (by simp only[Bool.and_eq_true,Bool.or_eq_true,decide_eq_true_eq];omega)]
  unfold y16 y1U
  have hF:=yV
  generalize yy=N at hF ⊢
  have hf:∀ y∈rs,∃ b,(fun(y0:List Hop)=>y1z y0 c net) y=some b:=fun y hy=>by
   obtain⟨b,hb,_⟩:=yf3 h (net:=net) (hr y hy)
   exact⟨!b,by show y1z y c net=_;unfold y1z;rw[hb];rfl⟩
  have hi:∃ x:Int,(jp0 (some (-1)) fun k=>yQ rs (fun(y0:List Hop)=>y1z y0 c net) k N 0)=some x/\(x<0↔∀ i:Int,0<=i->i<rs.length->y1z (nth rs i) c net=some false):=by
   refine y5D (P:=fun o=>∃ x:Int,o=some x/\(x<0↔∀ i:Int,0<=i->i<rs.length->y1z (nth rs i) c net=some false)) fun k hk=>?_
   rcases ybC hf hl N 0 (by omega) (by omega) (by omega) (k:=k) with⟨i,i1,i2,i3,i4⟩ | ⟨i1,i2⟩
   ·refine⟨i,i4,fun hx=>absurd hx (by omega),fun hx=>?_⟩
    have:=hx i i1 i2
    have i3':y1z (nth rs i) c net=some true:=i3
    rw[this] at i3';cases i3'
   ·exact⟨-1,i2.trans hk,fun _=>i1,fun _=>by omega⟩
  obtain⟨x,hx1,hx2⟩:=hi
  rw[hx1]
  refine⟨_,rfl,?_⟩
  simp only[Bool.not_eq_true',decide_eq_false_iff_not]
  have hall:(∀ i:Int,0<=i->i<rs.length->y1z (nth rs i) c net=some false)↔∀ r∈rs,VR c net r:=by
   constructor
   ·intro hh r hrm
    obtain⟨i,hi,rfl⟩:=List.getElem_of_mem hrm
    have h3:=hh (i:Int) (by omega) (by omega)
    rw[y87 ⟨by omega,by omega⟩] at h3
    simp only[Int.toNat_natCast] at h3
    obtain⟨b,hb,hb2⟩:=yf3 h (net:=net) (hr _ (List.getElem_mem hi))
    unfold y1z at h3
    rw[hb] at h3
    simp at h3
    exact hb2.1 h3
   ·intro hh i i1 i2
    have hm:=yO i1 i2
    obtain⟨b,hb,hb2⟩:=yf3 h (net:=net) (hr _ hm)
    unfold y1z
    rw[hb,hb2.2 (hh _ hm)];rfl
  constructor
  ·intro hh;exact⟨h1.1,h1.2.1,h1.2.2,hall.1 (hx2.1 (by omega))⟩
  ·intro hh;have:=hx2.2 (hall.2 hh.each);omega
 ·rw[if_neg (by simp only[Bool.and_eq_true,Bool.or_eq_true,decide_eq_true_eq];omega)]
  refine⟨false,rfl,?_⟩
  simp only[Bool.false_eq_true,false_iff]
  exact fun hv=>h1 ⟨hv.nt,hv.len,hv.most⟩
/-! ### frames -/
structure FewP (c:Cf) (rs:List (List Hop)):Prop where
 m:c.fM.length<=8
 s:c.fS.length<=8
 l:c.fK.length<=20
 v:c.fVLs.length<=20
 r:rs.length<=20
 e:∀ r∈rs,r.length<=40
theorem FewP.small{c:Cf}{rs:List (List Hop)}(h:FewP c rs):Small c:=⟨by have:=h.m;omega,by have:=h.s;omega,by have:=h.l;omega,by have:=h.v;omega⟩
theorem yhM{rs:List (List Hop)}{k:Option Bool}(hl:rs.length<=20):∀(n:Nat) (v:Int),0<=v->v<=rs.length->rs.length<n+v->
  y54 rs k n v=if ∀ r∈rs.drop v.toNat,r.length<=40 then k else some false
 | 0,v,h0,h1,h2=>by omega
 | n+1,v,h0,h1,h2=>by
  rw[y54]
  by_cases h:v<rs.length
  ·rw[if_pos (decide_eq_true h),yt ⟨h0,h⟩,y42 h0 h]
   by_cases hr:(((nth rs v).length:Nat):Int)>40
   ·rw[if_pos (decide_eq_true hr),if_neg]
    intro hc;have:=hc (nth rs v) (by simp);omega
   ·rw[if_neg (by simpa using hr),yz (x:=v+1) (by omega),yhM hl n (v+1) (by omega) (by omega) (by omega),show(v+1).toNat=v.toNat+1 by omega]
    by_cases hq:∀ r∈rs.drop (v.toNat+1),r.length<=40
    ·rw[if_pos hq,if_pos]
     intro r hr'
     rcases List.mem_cons.1 hr' with rfl | hr'
     ·omega
     ·exact hq r hr'
    ·rw[if_neg hq,if_neg]
     exact fun hc=>hq fun r hr'=>hc r (List.mem_cons_of_mem _ hr')
  ·rw[if_neg (by simpa using h),if_pos]
   rw[List.drop_eq_nil_of_le (by omega)];simp
theorem Few_eq(c:Cf)(rs:List (List Hop)):∃ b,y8j c rs=some b/\(b=true↔FewP c rs):=by
 unfold y8j
 by_cases h:c.fM.length<=8/\c.fS.length<=8/\c.fK.length<=20/\c.fVLs.length<=20/\rs.length<=20
 ·obtain⟨h1,h2,h3,h4,h5⟩:=h
  rw[if_neg (by simp only[Bool.or_eq_true,Bool.and_eq_true,decide_eq_true_eq];omega)]
  refine y5D (P:=fun o=>∃ b,o=some b/\(b=true↔FewP c rs)) fun k hk=>?_
  rw[yhM h5 yy 0 (by omega) (by omega) (by rw[yV];omega),hk]
  simp only[Int.toNat_zero,List.drop_zero]
  by_cases hq:∀ r∈rs,r.length<=40
  ·rw[if_pos hq];exact⟨true,rfl,by simp;exact⟨h1,h2,h3,h4,h5,hq⟩⟩
  ·rw[if_neg hq];exact⟨false,rfl,by simp;exact fun hc=>hq hc.e⟩
 ·rw[if_pos (by simp only[Bool.or_eq_true,Bool.and_eq_true,decide_eq_true_eq];omega)]
  refine⟨false,rfl,by simp;exact fun hc=>h ⟨hc.m,hc.s,hc.l,hc.v,hc.r⟩⟩
end Go.Proofs.YthjnhebofpebpaaGreat
namespace Go.Proofs.YthjnhebofpebpaaGreat
open Go Go.RowKit Sep
variable {r:List Hop}{rs:List (List Hop)}
theorem jp3_ex'{RR A0 A1 A2:Type}{K:A0->A1->A2->Option RR}{F:(A0->A1->A2->Option RR)->Option RR}{P:Option RR->Prop}(h:∀ k:A0->A1->A2->Option RR,(∀ x0 x1 x2,k x0 x1 x2=K x0 x1 x2)->P (F k)):P (jp3 K F):=h K fun _ _ _=>rfl
/-! ### maps -/
theorem y8x{κ γ:Type}[DecidableEq κ]{k k':κ}{u:γ}:∀ l:List (κ×γ),y2A (yC l k u) k'=(decide (k'=k)||y2A l k')
 | []=>by simp[yC,y2A]
 | p::l=>by
  by_cases hk:k=p.1
  ·subst hk
   by_cases h2:k'=p.1 <;> simp[yC,y2A,h2]
  ·simp only[yC,hk,if_false,y2A,y8x l]
   by_cases h2:k'=p.1
   ·simp[h2]
   ·simp[h2]
theorem y94{κ γ:Type}[DecidableEq κ]{k:κ}{u:γ}:∀ l:List (κ×γ),(yC l k u).map (·.1)=if k∈l.map (·.1) then l.map (·.1) else l.map (·.1)++[k]
 | []=>by simp[yC]
 | p::l=>by
  by_cases hk:k=p.1
  ·subst hk;simp[yC]
  ·simp only[yC,hk,if_false,List.map_cons,y94 l,List.mem_cons,false_or]
   by_cases h:k∈l.map (·.1) <;> simp[h]
theorem y1u{κ γ:Type}[DecidableEq κ]{k k':κ}{u d:γ}(l:List (κ×γ)):yd (yC l k u) k' d=if k'=k then u else yd l k' d:=by
 by_cases h:k'=k
 ·subst h;rw[yc1,if_pos rfl]
 ·rw[ye5 h,if_neg h]
/-! ### sorting by a strict order -/
theorem ydx{α:Type}{p:α->α->Option Int}{lt:α->α->Prop}{l0:List α}(hp:∀ x∈l0,∀ y∈l0,(cby p x y<=0↔¬lt y x))(hasym:∀ x y,lt x y->¬lt y x)(htr:∀ x y z,¬lt y x->¬lt z y->¬lt z x){x:α}(hx:x∈l0):∀ l:List α,(∀ y∈l,y∈l0)->(l.Pairwise fun a b=>¬lt b a)->(y67 p x l).Pairwise fun a b=>¬lt b a
 | [],_,_=>by simp[y67]
 | y::l,hl,h=>by
  obtain⟨h1,h2⟩:=List.pairwise_cons.1 h
  unfold y67
  split
  ·rename_i hxy
   have hxy:=(hp x hx y (hl y (by simp))).1 hxy
   refine List.pairwise_cons.2 ⟨fun z hz=>?_,h⟩
   rcases List.mem_cons.1 hz with rfl | hz
   ·exact hxy
   ·exact htr _ _ _ hxy (h1 z hz)
  ·rename_i hxy
   have hyx:lt y x:=by
    by_cases hc:lt y x
    ·exact hc
    ·exact absurd ((hp x hx y (hl y (by simp))).2 hc) hxy
   refine List.pairwise_cons.2 ⟨fun z hz=>?_,ydx hp hasym htr hx l (fun z hz=>hl z (List.mem_cons_of_mem _ hz)) h2⟩
   rcases List.mem_cons.1 ((ycn _ x l).mem_iff.1 hz) with rfl | hz
   ·exact hasym _ _ hyx
   ·exact h1 z hz
theorem ycY{α:Type}{p:α->α->Option Int}{lt:α->α->Prop}{l0:List α}(hp:∀ x∈l0,∀ y∈l0,(cby p x y<=0↔¬lt y x))(hasym:∀ x y,lt x y->¬lt y x)(htr:∀ x y z,¬lt y x->¬lt z y->¬lt z x):∀ l:List α,(∀ y∈l,y∈l0)->(yK p l).Pairwise fun a b=>¬lt b a
 | [],_=>by simp[yK]
 | x::l,hl=>by
  unfold yK
  exact ydx hp hasym htr (hl x (by simp)) _ (fun y hy=>hl y (List.mem_cons_of_mem _ ((y2C p l).mem_iff.1 hy))) (ycY hp hasym htr l fun y hy=>hl y (List.mem_cons_of_mem _ hy))
theorem ye6{α:Type}[DecidableEq α]{p:α->α->Option Int}{lt:α->α->Prop}{l:List α}(hp:∀ x∈l,∀ y∈l,∃ v,p x y=some v/\(v<0↔lt x y)/\(v<=0↔¬lt y x))(hasym:∀ x y,lt x y->¬lt y x)(htr:∀ x y z,¬lt y x->¬lt z y->¬lt z x)(heq:∀ x∈l,∀ y∈l,¬lt x y->¬lt y x->x=y):y8r p (yK p l)=true/\(yK p l).Pairwise fun a b=>¬lt b a:=by
 have hc:∀ x∈l,∀ y∈l,p x y=some (cby p x y)/\(cby p x y<0↔lt x y)/\(cby p x y<=0↔¬lt y x):=fun x hx y hy=>by
  obtain⟨v,h1,h2,h3⟩:=hp x hx y hy
  unfold cby;rw[h1];exact⟨rfl,h2,h3⟩
 have hm:∀ x∈yK p l,x∈l:=fun x hx=>(y2C p l).mem_iff.1 hx
 have hs:=ycY (fun x hx y hy=>(hc x hx y hy).2.2) hasym htr l (fun y hy=>hy)
 refine⟨?_,hs⟩
 simp only[y8r,Bool.and_eq_true,List.all_eq_true,Bool.not_eq_true',decide_eq_false_iff_not,yco]
 refine⟨fun x hx=>⟨fun y hy=>by rw[(hc x (hm x hx) y (hm y hy)).1];rfl,fun h=>?_⟩,?_⟩
 ·have:=((hc x (hm x hx) x (hm x hx)).2.1).1 h;exact hasym _ _ this this
 ·refine List.Pairwise.imp_of_mem ?_ hs
  intro x y hx hy hxy
  rw[(hc x (hm x hx) y (hm y hy)).2.1,(hc y (hm y hy) x (hm x hx)).2.1]
  by_cases h:lt x y
  ·exact .inr ⟨h,hxy⟩
  ·exact .inl (heq x (hm x hx) y (hm y hy) h hxy)
theorem ycE(n:Nat)(h:n<4611686018427387904):Go.Lib.bitLen n<=62:=Go.Lib.bitLen_le n 62 (by omega) (by omega)
theorem ye7{x:Int}(h:0<=x/\x<=18446744073709551615):u64 x=x:=by
 unfold u64 IntKind.wrap;simp[IntKind.signed,IntKind.bits];omega
/-! ### places -/
abbrev Pl:=z8
def pk(h:Hop):Pl:=⟨h.fNode,h.fQ⟩
theorem yfG(h:Hop):y4M h=some (pk h):=rfl
def plt(a b:Pl):Prop:=a.fNode<b.fNode\/a.fNode=b.fNode/\a.fQ<b.fQ
theorem yfH(a b:Pl):∃ v,y1x a b=some v/\(v<0↔plt a b)/\(v<=0↔¬plt b a):=by
 unfold y1x
 simp only[yjP,oB]
 rw[or_eq (by simp)]
 refine⟨_,rfl,?_⟩
 unfold orI orI orI cmpI plt
 repeat' split
 all_goals first | omega | (constructor <;> omega)
theorem yf5(x y:Pl):plt x y->¬plt y x:=by unfold plt;omega
theorem yhN(x y z:Pl):¬plt y x->¬plt z y->¬plt z x:=by unfold plt;omega
theorem yfI(x y:Pl)(h1:¬plt x y)(h2:¬plt y x):x=y:=by
 unfold plt at h1 h2
 obtain⟨a,b⟩:=x;obtain⟨c,d⟩:=y
 simp only at h1 h2
 have:a=c:=by omega
 have:b=d:=by omega
 subst_vars;rfl
theorem yhO{l:List Pl}(hs:l.length<=1000000):
  y1G l (fun y0 y1=>y1x y0 y1)=some (yK y1x l)/\(yK y1x l).Pairwise fun a b=>¬plt b a:=by
 obtain⟨ho,hsrt⟩:=ye6 (p:=y1x) (l:=l) (fun x _ y _=>yfH x y) yf5 yhN (fun x _ y _=>yfI x y)
 refine⟨?_,hsrt⟩
 unfold y1G y4i y3R
 rw[ye7 (by omega),yt (by omega),oB]
 have hb:=ycE l.length (by omega)
 rw[Int.toNat_natCast,yt ⟨⟨rfl,rfl⟩,by omega,by omega,by omega⟩,yt ho,oB]
theorem yeH{l:List Pl}{v:Pl}{k:Option Int}(hl:l.length<1000000000):∀(n:Nat) (i:Int),0<=i->i<=l.length->l.length<n+i->
  (v∈l.drop i.toNat/\∃ j:Int,0<=j/\yY l v k n i=some j)\/(v∉l.drop i.toNat/\yY l v k n i=k)
 | 0,i,h0,h1,h2=>by omega
 | n+1,i,h0,h1,h2=>by
  rw[yY]
  by_cases h:i<l.length
  ·rw[if_pos (decide_eq_true h),yt ⟨h0,h⟩,y42 h0 h]
   have e:(⟨((nth l i).fNode),((nth l i).fQ)⟩:z8)=nth l i:=rfl
   rw[e]
   by_cases hv:v=nth l i
   ·rw[if_pos (decide_eq_true hv)]
    exact .inl ⟨by rw[hv];simp,i,h0,rfl⟩
   ·rw[if_neg (by simpa using hv),yz (x:=i+1) (by omega)]
    have e2:(i+1).toNat=i.toNat+1:=by omega
    rcases yeH hl n (i+1) (by omega) (by omega) (by omega) (v:=v) (k:=k) with⟨h3,h4⟩ | ⟨h3,h4⟩
    ·rw[e2] at h3;exact .inl ⟨List.mem_cons_of_mem _ h3,h4⟩
    ·rw[e2] at h3
     refine .inr ⟨fun hc=>?_,h4⟩
     rcases List.mem_cons.1 hc with hc | hc
     ·exact hv hc
     ·exact h3 hc
  ·rw[if_neg (by simpa using h),List.drop_eq_nil_of_le (by omega)]
   exact .inr ⟨by simp,rfl⟩
theorem yhP{l:List Pl}{v:Pl}(hl:l.length<1000000000):y1F l v=some (decide (v∈l)):=by
 unfold y1F y2u
 have hF:=yV
 generalize yy=N at hF ⊢
 refine y5D (P:=fun o=>(o.bind fun x=>some (decide (x>=0)))=some (decide (v∈l))) fun k hk=>?_
 rcases yeH hl N 0 (by omega) (by omega) (by omega) (v:=v) (k:=k) with⟨h1,j,h2,h3⟩ | ⟨h1,h2⟩
 ·rw[h3];simp only[Int.toNat_zero,List.drop_zero] at h1
  simp[h1,h2]
 ·rw[h2,hk];simp only[Int.toNat_zero,List.drop_zero] at h1
  simp[h1]
def y76(l:List Pl)(h:Hop):List Pl:=if pk h∈l then l else l++[pk h]
theorem ycF(hs:List Hop)(l:List Pl):(hs.foldl y76 l).length<=l.length+hs.length:=by
 induction hs generalizing l with
 | nil=>simp
 | cons h hs ih=>
  have:=ih (y76 l h)
  have h2:(y76 l h).length<=l.length+1:=by unfold y76;split <;> simp
  simp only[List.foldl_cons,List.length_cons];omega
theorem ygT(hs:List Hop)(l:List Pl)(hn:l.Nodup):(hs.foldl y76 l).Nodup/\∀ p,p∈hs.foldl y76 l↔p∈l\/∃ h∈hs,pk h=p:=by
 induction hs generalizing l with
 | nil=>simp[hn]
 | cons h hs ih=>
  have h2:(y76 l h).Nodup/\∀ p,p∈y76 l h↔p∈l\/pk h=p:=by
   unfold y76
   split
   ·rename_i hc
    refine⟨hn,fun p=>⟨.inl,?_⟩⟩
    rintro(h | rfl)
    ·exact h
    ·exact hc
   ·rename_i hc
    refine⟨List.nodup_append.2 ⟨hn,by simp,fun a ha b hb=>?_⟩,fun p=>by simp[eq_comm]⟩
    simp at hb;subst hb;exact fun e=>hc (e▸ha)
  obtain⟨i1,i2⟩:=ih _ h2.1
  refine⟨i1,fun p=>?_⟩
  rw[List.foldl_cons,i2,h2.2]
  simp only[List.mem_cons,exists_eq_or_imp,or_assoc]
theorem ygU{rs:List (List Hop)}{v:Int}{k:List Pl->Option (List Pl)}(hr:(nth rs v).length<=1000)(h0:0<=v)(hv:v<rs.length):∀(n:Nat) (o:List Pl) (i:Int),0<=i->i<=(nth rs v).length->(nth rs v).length<n+i->(o.length:Int)+((nth rs v).length-i)<=1000000->
  y3Y rs v k n o i=k (((nth rs v).drop i.toNat).foldl y76 o)
 | 0,o,i,a0,a1,a2,a3=>by omega
 | n+1,o,i,a0,a1,a2,a3=>by
  rw[y3Y]
  by_cases h:i<(nth rs v).length
  ·rw[if_pos (decide_eq_true h),y42 a0 h,List.foldl_cons]
   refine y28 (P:=fun x=>x=_) fun kk hkk=>?_
   rw[yt ⟨a0,h⟩]
   have e:(⟨((nth (nth rs v) i).fNode),((nth (nth rs v) i).fNext),((nth (nth rs v) i).fQ)⟩:ze)=nth (nth rs v) i:=rfl
   rw[e,yfG,oB,yhP (by omega),oB]
   have e2:(i+1).toNat=i.toNat+1:=by omega
   have hlen:(y76 o (nth (nth rs v) i)).length<=o.length+1:=by unfold y76;split <;> simp
   have hgo:kk (y76 o (nth (nth rs v) i))=k (((nth rs v).drop (i.toNat+1)).foldl y76 (y76 o (nth (nth rs v) i))):=by
    rw[hkk,yz (x:=i+1) (by omega),ygU hr h0 hv n _ (i+1) (by omega) (by omega) (by omega) (by omega),e2]
   by_cases hc:pk (nth (nth rs v) i)∈o
   ·rw[if_neg (by simpa using hc),<- hgo]
    unfold y76;rw[if_pos hc]
   ·rw[if_pos (by simpa using hc),oB,yt (by simp;omega),<- hgo]
    unfold y76;rw[if_neg hc]
  ·rw[if_neg (by simpa using h),List.drop_eq_nil_of_le (by omega)];rfl
def allH(rs:List (List Hop)):List Hop:=rs.flatten
theorem yfJ{rs:List (List Hop)}{k:List Pl->Option (List Pl)}(hr:∀ r∈rs,r.length<=1000)(hl:rs.length<=100):∀(n:Nat) (o:List Pl) (v:Int),0<=v->v<=rs.length->rs.length<n+v->(o.length:Int)+1000*(rs.length-v)<=1000000->
  y3Z rs k n o v=k ((allH (rs.drop v.toNat)).foldl y76 o)
 | 0,o,i,a0,a1,a2,a3=>by omega
 | n+1,o,v,a0,a1,a2,a3=>by
  rw[y3Z]
  by_cases h:v<rs.length
  ·have hrl:=hr _ (yO a0 h)
   rw[if_pos (decide_eq_true h),y42 a0 h]
   unfold allH
   rw[List.flatten_cons,List.foldl_append]
   refine y28 (P:=fun x=>x=_) fun kk hkk=>?_
   rw[yt ⟨a0,h⟩]
   refine y28 (P:=fun x=>x=_) fun k2 hk2=>?_
   rw[ygU hrl a0 h yy o 0 (by omega) (by omega) (by rw[yV];omega) (by omega)]
   simp only[Int.toNat_zero,List.drop_zero]
   have:=ycF (nth rs v) o
   rw[hk2,hkk,yz (x:=v+1) (by omega),yfJ hr hl n _ (v+1) (by omega) (by omega) (by omega) (by omega),show(v+1).toNat=v.toNat+1 by omega]
   rfl
  ·rw[if_neg (by simpa using h),List.drop_eq_nil_of_le (by omega)];rfl
def PS(rs:List (List Hop)):List Pl:=yK y1x ((allH rs).foldl y76 [])
theorem y5x(rs:List (List Hop)):(PS rs).Nodup:=(y2C _ _).nodup_iff.2 (ygT _ [] (by simp)).1
theorem y7N(rs:List (List Hop))(p:Pl):p∈PS rs↔∃ r∈rs,∃ h∈r,pk h=p:=by
 unfold PS
 rw[(y2C _ _).mem_iff,(ygT _ [] (by simp)).2]
 unfold allH
 simp only[List.not_mem_nil,false_or,List.mem_flatten]
 exact⟨fun⟨h,⟨r,hr,hh⟩,e⟩=>⟨r,hr,h,hh,e⟩,fun⟨r,hr,h,hh,e⟩=>⟨h,⟨r,hr,hh⟩,e⟩⟩
theorem yf6{m:Nat}(hr:∀ r∈rs,r.length<=m):(allH rs).length<=rs.length*m:=by
 unfold allH
 induction rs with
 | nil=>simp
 | cons r rs ih=>
  have:=ih fun r h=>hr r (List.mem_cons_of_mem _ h)
  have h1:=hr r (by simp)
  rw[List.flatten_cons,List.length_append,List.length_cons,Nat.succ_mul];omega
theorem yc2{m:Nat}(hr:∀ r∈rs,r.length<=m):(PS rs).length<=rs.length*m:=by
 unfold PS
 rw[y63]
 have:=ycF (allH rs) []
 have:=yf6 hr
 simp at *;omega
theorem yko(hr:∀ r∈rs,r.length<=1000)(hl:rs.length<=100):y6G rs=some (PS rs):=by
 unfold y6G
 refine y28 (P:=fun o=>o=some (PS rs)) fun k hk=>?_
 rw[yfJ hr hl yy [] 0 (by omega) (by omega) (by rw[yV];omega) (by simp;omega),hk]
 simp only[Int.toNat_zero,List.drop_zero]
 have h1:=ycF (allH rs) []
 have h2:=yf6 hr
 have h3:rs.length*1000<=100*1000:=Nat.mul_le_mul_right _ hl
 rw[(yhO (by simp at h1;omega)).1]
 rfl
/-! ### the hop by which a node is reached -/
def y39(r:List Hop)(n:Int):Hop×Bool:=match r.find? (fun h=>decide (h.fNext=n)) with | some h=>(h,true) | none=>(⟨0,0,0⟩,false)
theorem y88{n:Int}(h:(y39 r n).2=true):(y39 r n).1∈r/\(y39 r n).1.fNext=n:=by
 unfold y39 at *
 split at h
 ·rename_i x hx
  simp only[hx]
  exact⟨List.mem_of_find?_eq_some hx,by simpa using List.find?_some hx⟩
 ·cases h
theorem yf7{g:Hop}(h:g∈r):(y39 r g.fNext).2=true:=by
 unfold y39
 split
 ·rfl
 ·rename_i hx
  have:=List.find?_eq_none.1 hx g h
  simp at this
theorem yeI{r:List Hop}{f:Hop->Option Bool}{p:Hop->Bool}{k:Option Int}(hf:∀ h∈r,f h=some (p h))(hl:r.length<1000000000):∀(n:Nat) (i:Int),0<=i->i<=r.length->r.length<n+i->
  (∃ j:Int,0<=j/\j<r.length/\(r.drop i.toNat).find? p=some (nth r j)/\y12 r f k n i=some j)\/((r.drop i.toNat).find? p=none/\y12 r f k n i=k)
 | 0,i,h0,h1,h2=>by omega
 | n+1,i,h0,h1,h2=>by
  rw[y12]
  by_cases h:i<r.length
  ·rw[if_pos (decide_eq_true h),yt ⟨h0,h⟩,y42 h0 h]
   have e:(⟨((nth r i).fNode),((nth r i).fNext),((nth r i).fQ)⟩:ze)=nth r i:=rfl
   rw[e,hf _ (yO h0 h),oB]
   by_cases hp:p (nth r i)=true
   ·rw[if_pos hp,List.find?_cons_of_pos hp];exact .inl ⟨i,h0,h,rfl,rfl⟩
   ·rw[if_neg hp,List.find?_cons_of_neg hp,yz (x:=i+1) (by omega)]
    have e2:(i+1).toNat=i.toNat+1:=by omega
    rw[<- e2]
    exact yeI hf hl n (i+1) (by omega) (by omega) (by omega)
  ·rw[if_neg (by simpa using h),List.drop_eq_nil_of_le (by omega)]
   exact .inr ⟨rfl,rfl⟩
theorem ybt{f:Hop->Option Bool}{p:Hop->Bool}(hf:∀ h∈r,f h=some (p h))(hl:r.length<1000000000):
  (∃ j:Int,0<=j/\j<r.length/\r.find? p=some (nth r j)/\yZ r f=some j)\/(r.find? p=none/\yZ r f=some (-1)):=by
 unfold yZ
 have hF:=yV
 generalize yy=N at hF ⊢
 refine y5D (P:=fun o=>(∃ j:Int,0<=j/\j<r.length/\r.find? p=some (nth r j)/\o=some j)\/(r.find? p=none/\o=some (-1))) fun k hk=>?_
 have:=yeI hf hl N 0 (by omega) (by omega) (by omega) (k:=k)
 simp only[Int.toNat_zero,List.drop_zero] at this
 rw[hk] at this ⊢
 exact this
theorem ygp{n:Int}(hl:r.length<1000000000):y5M r n=some (y39 r n):=by
 unfold y5M y39
 rcases ybt (r:=r) (f:=fun y0=>y6H y0 n) (p:=fun h=>decide (h.fNext=n)) (fun h _=>rfl) hl with⟨j,j0,j1,j2,j3⟩ | ⟨j2,j3⟩
 ·rw[j3,j2,oB,if_neg (by simpa using j0),yt ⟨j0,j1⟩]
 ·rw[j3,j2,oB];rfl
theorem yhQ{f:Hop->Option Bool}{p:Hop->Bool}(hf:∀ h∈r,f h=some (p h))(hl:r.length<1000000000):y1l r f=some (r.any p):=by
 unfold y1l
 rcases ybt hf hl with⟨j,j0,j1,j2,j3⟩ | ⟨j2,j3⟩
 ·rw[j3,oB,decide_eq_true j0]
  rw[eq_comm,Option.some.injEq,eq_comm,eq_comm,List.any_eq_true]
  exact⟨_,yO j0 j1,List.find?_some j2⟩
 ·rw[j3,oB]
  have:r.any p=false:=by
   rw[List.any_eq_false];exact List.find?_eq_none.1 j2
  rw[this];rfl
end Go.Proofs.YthjnhebofpebpaaGreat
namespace Go.Proofs.YthjnhebofpebpaaGreat
open Go Go.RowKit Sep
variable {p:Pl}{mp:List (Pl×Int)}{rs:List (List Hop)}
/-! ### the order of computation -/
def blk1(r:List Hop)(p:Pl)(mp:List (Pl×Int))(h:Hop):Bool:=(decide (pk h=p)&&(y39 r h.fNode).2)&&decide (yd mp (pk (y39 r h.fNode).1) 0=0)
theorem yjQ{r:List Hop}{h:Hop}(hl:r.length<1000000000):y5A h r p mp=some (blk1 r p mp h):=by
 unfold y5A blk1
 rw[ygp hl,yfG,oB,oB]
 by_cases hc:(decide (pk h=p)&&(y39 r h.fNode).2)=true
 ·rw[if_pos hc,yfG,hc];rfl
 ·rw[if_neg hc];simp only[Bool.not_eq_true] at hc;rw[hc];rfl
theorem yj8{s r:List Hop}{p:Pl}{mp:List (Pl×Int)}{k:Option Int}(hr:r.length<1000000000)(hl:s.length<1000000000):∀(n:Nat) (i:Int),0<=i->i<=s.length->s.length<n+i->
  ((s.drop i.toNat).any (blk1 r p mp)=true/\∃ j:Int,0<=j/\y10 s r p mp k n i=some j)\/((s.drop i.toNat).any (blk1 r p mp)=false/\y10 s r p mp k n i=k)
 | 0,i,h0,h1,h2=>by omega
 | n+1,i,h0,h1,h2=>by
  rw[y10]
  by_cases h:i<s.length
  ·rw[if_pos (decide_eq_true h),yt ⟨h0,h⟩,y42 h0 h]
   have e:(⟨((nth s i).fNode),((nth s i).fNext),((nth s i).fQ)⟩:ze)=nth s i:=rfl
   rw[e,yjQ hr,oB,List.any_cons]
   cases hb:blk1 r p mp (nth s i) with
   | true=>rw[if_pos rfl];exact .inl ⟨rfl,i,h0,rfl⟩
   | false=>
    rw[if_neg (by simp),Bool.false_or,yz (x:=i+1) (by omega)]
    have e2:(i+1).toNat=i.toNat+1:=by omega
    rw[<- e2]
    exact yj8 hr hl n (i+1) (by omega) (by omega) (by omega)
  ·rw[if_neg (by simpa using h),List.drop_eq_nil_of_le (by omega)]
   exact .inr ⟨rfl,rfl⟩
def blkR(p:Pl)(mp:List (Pl×Int))(r:List Hop):Bool:=r.any (blk1 r p mp)
theorem ykp{r:List Hop}(hl:r.length<1000000000):y6g r p mp=some (blkR p mp r):=by
 unfold y6g y2k y2D
 have hF:=yV
 generalize yy=N at hF ⊢
 refine y5D (P:=fun o=>((o.bind fun x=>some (decide (x>=0))).bind fun x=>some x)=some (blkR p mp r)) fun k hk=>?_
 have:=yj8 (s:=r) (r:=r) (p:=p) (mp:=mp) (k:=k) hl hl N 0 (by omega) (by omega) (by omega)
 simp only[Int.toNat_zero,List.drop_zero] at this
 unfold blkR
 rcases this with⟨h1,j,h2,h3⟩ | ⟨h1,h2⟩
 ·rw[h3,h1];simp[h2]
 ·rw[h2,hk,h1];simp
theorem yj9{s:List (List Hop)}{p:Pl}{mp:List (Pl×Int)}{k:Option Int}(hr:∀ r∈s,r.length<1000000000)(hl:s.length<1000000000):∀(n:Nat) (i:Int),0<=i->i<=s.length->s.length<n+i->
  ((s.drop i.toNat).any (blkR p mp)=true/\∃ j:Int,0<=j/\yW s p mp k n i=some j)\/((s.drop i.toNat).any (blkR p mp)=false/\yW s p mp k n i=k)
 | 0,i,h0,h1,h2=>by omega
 | n+1,i,h0,h1,h2=>by
  rw[yW]
  by_cases h:i<s.length
  ·rw[if_pos (decide_eq_true h),yt ⟨h0,h⟩,y42 h0 h]
   rw[ykp (hr _ (yO h0 h)),oB,List.any_cons]
   cases hb:blkR p mp (nth s i) with
   | true=>rw[if_pos rfl];exact .inl ⟨rfl,i,h0,rfl⟩
   | false=>
    rw[if_neg (by simp),Bool.false_or,yz (x:=i+1) (by omega)]
    have e2:(i+1).toNat=i.toNat+1:=by omega
    rw[<- e2]
    exact yj9 hr hl n (i+1) (by omega) (by omega) (by omega)
  ·rw[if_neg (by simpa using h),List.drop_eq_nil_of_le (by omega)]
   exact .inr ⟨rfl,rfl⟩
def blk(rs:List (List Hop))(mp:List (Pl×Int))(p:Pl):Bool:=rs.any (blkR p mp)
theorem blk_eq(hr:∀ r∈rs,r.length<1000000000)(hl:rs.length<1000000000):y1C rs p mp=some (blk rs mp p):=by
 unfold y1C y2l
 have hF:=yV
 generalize yy=N at hF ⊢
 refine y5D (P:=fun o=>(o.bind fun x=>some (decide (x>=0)))=some (blk rs mp p)) fun k hk=>?_
 have:=yj9 (s:=rs) (p:=p) (mp:=mp) (k:=k) hr hl N 0 (by omega) (by omega) (by omega)
 simp only[Int.toNat_zero,List.drop_zero] at this
 unfold blk
 rcases this with⟨h1,j,h2,h3⟩ | ⟨h1,h2⟩
 ·rw[h3,h1];simp[h2]
 ·rw[h2,hk,h1];simp
def yb5(rs:List (List Hop))(p q:Pl):Prop:=∃ r∈rs,∃ h∈r,pk h=p/\(y39 r h.fNode).2=true/\pk (y39 r h.fNode).1=q
theorem ygq:blk rs mp p=true↔∃ q,yb5 rs p q/\yd mp q 0=0:=by
 unfold blk blkR blk1 yb5
 simp only[List.any_eq_true,Bool.and_eq_true,decide_eq_true_eq]
 constructor
 ·rintro⟨r,hr,h,hh,⟨e,i⟩,z⟩;exact⟨_,⟨r,hr,h,hh,e,i,rfl⟩,z⟩
 ·rintro⟨q,⟨r,hr,h,hh,e,i,rfl⟩,z⟩;exact⟨r,hr,h,hh,⟨e,i⟩,z⟩
theorem yb5.mem{q:Pl}(h:yb5 rs p q):q∈PS rs:=by
 obtain⟨r,hr,h,hh,e,i,rfl⟩:=h
 exact(y7N rs _).2 ⟨r,hr,_,(y88 i).1,rfl⟩
abbrev OR:=List z8×Int
theorem yhR{rest out:List Pl}{rs:List (List Hop)}{mp:List (Pl×Int)}{k1:List Pl->List Pl->List (Pl×Int)->Option OR}{k2:Option OR}(hr:∀ r∈rs,r.length<1000000000)(hl:rs.length<1000000000)(hs:rest.length+out.length<=1000000):∀(n:Nat) (v:Int),0<=v->v<=rest.length->rest.length<n+v->
  (∃(l1:List Pl) (p:Pl) (l2:List Pl),rest=l1++p::l2/\blk rs mp p=false/\y3H rest rs mp out k1 k2 n v=k1 (l1++l2) (out++[p]) (yC mp p (i64 (yd mp p 0+1)))) \/
  ((∀ p∈rest.drop v.toNat,blk rs mp p=true)/\y3H rest rs mp out k1 k2 n v=k2)
 | 0,v,h0,h1,h2=>by omega
 | n+1,v,h0,h1,h2=>by
  rw[y3H]
  by_cases h:v<rest.length
  ·rw[if_pos (decide_eq_true h),yt ⟨h0,h⟩]
   have e:(⟨((nth rest v).fNode),((nth rest v).fQ)⟩:z8)=nth rest v:=rfl
   rw[e,blk_eq hr hl,oB]
   cases hb:blk rs mp (nth rest v) with
   | false=>
    rw[if_pos (by rfl),yt (by simp;omega)]
    refine .inl ⟨rest.take v.toNat,nth rest v,rest.drop (v.toNat+1),?_,hb,?_⟩
    ·rw[<- y42 h0 h,List.take_append_drop]
    ·unfold y92
     rw[yz (x:=v+1) (by omega),yt (by omega),oB,show(v+1).toNat=v.toNat+1 by omega]
   | true=>
    rw[if_neg (by simp),yz (x:=v+1) (by omega)]
    have e2:(v+1).toNat=v.toNat+1:=by omega
    rcases yhR hr hl hs n (v+1) (by omega) (by omega) (by omega) (k1:=k1) (k2:=k2) (mp:=mp) with h3 | ⟨h3,h4⟩
    ·exact .inl h3
    ·refine .inr ⟨?_,h4⟩
     rw[y42 h0 h,<- e2]
     intro p hp
     rcases List.mem_cons.1 hp with rfl | hp
     ·exact hb
     ·exact h3 p hp
  ·rw[if_neg (by simpa using h),List.drop_eq_nil_of_le (by omega)]
   exact .inr ⟨by simp,rfl⟩
def y21(rs:List (List Hop))(l:List Pl):Prop:=∀ l1 p l2,l=l1++p::l2->∀ q,yb5 rs p q->q∈l1
def y9L(rs:List (List Hop))(s:List Pl):Prop:=s≠[]/\∀ p∈s,p∈PS rs/\∃ q∈s,yb5 rs p q
theorem yfK{rs:List (List Hop)}{k:List Pl->Option OR}(hr:∀ r∈rs,r.length<1000000000)(hl:rs.length<1000000000)(hp:(PS rs).length<=1000000):∀(n:Nat) (rest out:List Pl) (mp:List (Pl×Int)),rest.length<n->
  (rest++out).Perm (PS rs)->(∀ q,yd mp q 0=if q∈out then 1 else 0)->y21 rs out->
  (∃ l,l.Perm (PS rs)/\y21 rs l/\y3I rs k n rest out mp=k l)\/(∃ s,y9L rs s/\y3I rs k n rest out mp=some ([],351))
 | 0,rest,out,mp,h0,h1,h2,h3=>by omega
 | n+1,rest,out,mp,h0,h1,h2,h3=>by
  rw[y3I]
  have hlen:=h1.length_eq
  rw[List.length_append] at hlen
  have hnd:(rest++out).Nodup:=h1.nodup_iff.2 (y5x rs)
  by_cases h:rest.length>0
  ·rw[if_pos (by simpa using h)]
   refine jp3_ex' (P:=fun o=>(∃ l,l.Perm (PS rs)/\y21 rs l/\o=k l)\/(∃ s,y9L rs s/\o=some ([],351))) fun k1 hk1=>?_
   refine y5D (P:=fun o=>(∃ l,l.Perm (PS rs)/\y21 rs l/\o=k l)\/(∃ s,y9L rs s/\o=some ([],351))) fun k2 hk2=>?_
   rcases yhR hr hl (show rest.length+out.length<=1000000 by omega) yy 0 (by omega) (by omega) (by rw[yV];omega) (k1:=k1) (k2:=k2) (mp:=mp) with⟨l1,p,l2,e1,e2,e3⟩ | ⟨e1,e2⟩
   ·subst e1
    have hpo:p∉out:=fun hc=>by
     have:=(List.nodup_append.1 hnd).2.2 p (by simp) p hc;exact this rfl
    rw[e3,hk1]
    have hm:yd mp p 0=0:=by rw[h2,if_neg hpo]
    rw[hm,yz (by omega)]
    refine yfK hr hl hp n _ _ _ (by simp at h0 ⊢;omega) ?_ ?_ ?_
    ·refine List.Perm.trans ?_ h1
     rw[<- List.append_assoc]
     refine(List.perm_append_comm).trans ?_
     simp only[List.singleton_append,List.append_assoc,List.cons_append]
     refine List.Perm.trans ?_ (List.perm_middle (l₁:=l1)).symm
     simp
    ·intro q
     rw[y1u,h2]
     by_cases hq:q=p
     ·subst hq;simp
     ·simp[hq]
    ·intro a q b hab q' hq'
     rcases List.append_eq_append_iff.1 hab with⟨w,hw1,hw2⟩ | ⟨w,hw1,hw2⟩
     ·-- the last one
      cases w with
      | nil=>
       simp at hw2 hw1
       obtain⟨rfl,rfl⟩:=hw2
       subst hw1
       by_cases hc:yd mp q' 0=0
       ·exact absurd (ygq.2 ⟨q',hq',hc⟩) (by rw[e2];simp)
       ·rw[h2] at hc
        by_cases hc2:q'∈a
        ·exact hc2
        ·rw[if_neg hc2] at hc;exact absurd rfl hc
      | cons x w=>simp at hw2
     ·cases w with
      | nil=>
       simp at hw2 hw1
       obtain⟨rfl,rfl⟩:=hw2
       subst hw1
       by_cases hc:yd mp q' 0=0
       ·exact absurd (ygq.2 ⟨q',hq',hc⟩) (by rw[e2];simp)
       ·rw[h2] at hc
        by_cases hc2:q'∈out
        ·exact hc2
        ·rw[if_neg hc2] at hc;exact absurd rfl hc
      | cons x w=>
       rw[List.cons_append] at hw2
       injection hw2 with hx hw2
       subst hx
       exact h3 a q w hw1 q' hq'
   ·refine .inr ⟨rest,⟨by rintro rfl;simp at h,fun p hp=>⟨h1.subset (by simp[hp]),?_⟩⟩,by rw[e2,hk2]⟩
    obtain⟨q,hq,hz⟩:=ygq.1 (e1 p (by simpa using hp))
    refine⟨q,?_,hq⟩
    have hm:=h1.symm.subset hq.mem
    rcases List.mem_append.1 hm with hm | hm
    ·exact hm
    ·rw[h2,if_pos hm] at hz;omega
  ·rw[if_neg (by simpa using h)]
   have:rest=[]:=List.eq_nil_of_length_eq_zero (by omega)
   subst this
   exact .inl ⟨out,h1,h3,rfl⟩
theorem yhS(hr:∀ r∈rs,r.length<=1000)(hl:rs.length<=100):
  (∃ l,l.Perm (PS rs)/\y21 rs l/\y5v rs=some (l,0))\/(∃ s,y9L rs s/\y5v rs=some ([],351)):=by
 unfold y5v
 have hps:=yc2 hr
 have h3:rs.length*1000<=100*1000:=Nat.mul_le_mul_right _ hl
 rw[yko hr hl,oB]
 refine y28 (P:=fun o:Option OR=>(∃ l,l.Perm (PS rs)/\y21 rs l/\o=some (l,0))\/(∃ s,y9L rs s/\o=some ([],351))) fun k hk=>?_
 rcases yfK (k:=k) (fun r h=>by have:=hr r h;omega) (by omega) (by omega) yy (PS rs) [] [] (by rw[yV];omega) (by simp) (by simp[yd]) (fun l1 p l2 h=>by simp at h) with⟨l,e1,e2,e3⟩ | ⟨s,e1,e2⟩
 ·exact .inl ⟨l,e1,e2,by rw[e3,hk]⟩
 ·exact .inr ⟨s,e1,e2⟩
end Go.Proofs.YthjnhebofpebpaaGreat
namespace Go.Proofs.YthjnhebofpebpaaGreat
open Go Go.RowKit Sep
variable {net:Int}{rs:List (List Hop)}
/-! ### what a valid route is -/
theorem y65{α:Type}[Inhabited α]{l:List α}{x:α}(h:x∈l):∃ i:Int,0<=i/\i<l.length/\nth l i=x:=by
 obtain⟨i,hi,rfl⟩:=List.getElem_of_mem h
 refine⟨(i:Int),by omega,by omega,?_⟩
 rw[y87 ⟨by omega,by omega⟩];rfl
theorem VR.uniq{c:Cf}{r:List Hop}(h:VR c net r){x y:Hop}(hx:x∈r)(hy:y∈r)(e:x.fNext=y.fNext):x=y:=by
 obtain⟨i,i0,i1,rfl⟩:=y65 hx
 obtain⟨j,j0,j1,rfl⟩:=y65 hy
 rcases Int.lt_trichotomy i j with k | k | k
 ·exact absurd (.inr ⟨i,i0,k,e⟩) (h.cond j j0 j1).2.1
 ·rw[k]
 ·exact absurd (.inr ⟨j,j0,k,e.symm⟩) (h.cond i i0 i1).2.1
theorem VR.into{c:Cf}{r:List Hop}(h:VR c net r){g:Hop}(hg:g∈r):y39 r g.fNext=(g,true):=by
 have h1:=yf7 hg
 obtain⟨h2,h3⟩:=y88 h1
 exact Prod.ext (h.uniq h2 hg h3) h1
def Edg(rs:List (List Hop))(a b:Pl):Prop:=∃ r∈rs,∃ g∈r,∃ h∈r,g.fNext=h.fNode/\pk g=a/\pk h=b
theorem ygV{c:Cf}(hv:VA c net rs){a b:Pl}:Edg rs a b↔yb5 rs b a:=by
 constructor
 ·rintro⟨r,hr,g,hg,h,hh,e,rfl,rfl⟩
  refine⟨r,hr,h,hh,rfl,?_⟩
  rw[<- e,(hv.each r hr).into hg];exact⟨rfl,rfl⟩
 ·rintro⟨r,hr,h,hh,rfl,e,rfl⟩
  obtain⟨h2,h3⟩:=y88 e
  exact⟨r,hr,_,h2,h,hh,h3,rfl,rfl⟩
theorem Edg.left{a b:Pl}(h:Edg rs a b):a∈PS rs:=by
 obtain⟨r,hr,g,hg,h,hh,e,rfl,rfl⟩:=h;exact(y7N rs _).2 ⟨r,hr,g,hg,rfl⟩
theorem Edg.right{a b:Pl}(h:Edg rs a b):b∈PS rs:=by
 obtain⟨r,hr,g,hg,h,hh,e,rfl,rfl⟩:=h;exact(y7N rs _).2 ⟨r,hr,h,hh,rfl⟩
theorem y9L.no{c:Cf}(hv:VA c net rs){s:List Pl}(h:y9L rs s)(f:Pl->Int)(h0:∀ p∈PS rs,0<=f p)(hf:∀ a b,Edg rs a b->f a<f b):False:=by
 obtain⟨hne,hs⟩:=h
 have key:∀ n:Nat,∀ p∈s,(f p).toNat<n->False:=by
  intro n
  induction n with
  | zero=>intro p hp h;omega
  | succ n ih=>
   intro p hp hlt
   obtain⟨hp1,q,hq,hqp⟩:=hs p hp
   have h1:=hf q p ((ygV hv).2 hqp)
   have h2:=h0 q (hs q hq).1
   exact ih q hq (by omega)
 cases s with
 | nil=>exact hne rfl
 | cons p s=>exact key ((f p).toNat+1) p (by simp) (by omega)
end Go.Proofs.YthjnhebofpebpaaGreat
namespace Go.Proofs.YthjnhebofpebpaaGreat
open Go Go.RowKit Sep
abbrev R:=z2
variable {x:R}
theorem yb6{x:Int}(h:0<=x/\x<=18446744073709551615):u64 x=x:=by
 unfold u64 IntKind.wrap;simp[IntKind.signed,IntKind.bits];omega
theorem ye8{n:Int}(h : -9223372036854775808<=n/\n<=9223372036854775807):y6h n=some (n.natAbs:Int):=by
 unfold y6h
 by_cases hn:n<0
 ·rw[if_pos (by simpa using hn)]
  rw[yz (x:=n+1) (by omega),yz (x:=0-(n+1)) (by omega),yb6 (x:=0-(n+1)) (by omega),yb6 (by omega)]
  congr 1;omega
 ·rw[if_neg (by simpa using hn),yb6 (by omega)]
  congr 1;omega
theorem yhT(x y:Nat):Int.tmod (x:Int) (y:Int)=((x % y:Nat):Int):=rfl
theorem yhU{k:Int->Option Int}:∀(m n x y:Nat),y<2 ^ m->2*m<n->y2v k n x y=k (Nat.gcd x y:Nat)
 | 0,n+1,x,y,hy,_=>by
  have:y=0:=by omega
  subst this
  rw[y2v];simp
 | m+1,n+2,x,y,hy,hn=>by
  rw[y2v]
  by_cases h0:y=0
  ·subst h0;simp
  ·rw[if_pos (by simpa using h0),yt (by simpa using h0),yhT]
   rw[y2v]
   have hg:Nat.gcd x y=Nat.gcd y (x % y):=by rw[Nat.gcd_comm x y,Nat.gcd_rec,Nat.gcd_comm]
   by_cases h1:x % y=0
   ·rw[h1] at hg ⊢;simp[hg]
   ·have h1':((x % y:Nat):Int)≠0:=fun h=>h1 (by exact_mod_cast h)
    rw[if_pos (decide_eq_true h1'),yt h1',yhT]
    have hr:x % y<y:=Nat.mod_lt _ (by omega)
    have hg2:Nat.gcd y (x % y)=Nat.gcd (x % y) (y % (x % y)):=by rw[Nat.gcd_comm y (x % y),Nat.gcd_rec,Nat.gcd_comm]
    rw[yhU m n (x % y) (y % (x % y)) ?_ (by omega),hg,hg2]
    have h2:y % (x % y)<x % y:=Nat.mod_lt _ (by omega)
    have h3:2*(y % (x % y))<=y:=by
     have h4:=Nat.div_add_mod y (x % y)
     have h5:1<=y / (x % y):=(Nat.one_le_div_iff (by omega)).2 (by omega)
     have h6:x % y*1<=x % y*(y / (x % y)):=Nat.mul_le_mul_left _ h5
     omega
    have h7:2 ^ (m+1)=2*2 ^ m:=by rw[Nat.pow_succ,Nat.mul_comm]
    omega
theorem gcd_eq{x y:Nat}(hy:y<2 ^ 64):y55 x y=some ((Nat.gcd x y:Nat):Int):=by
 unfold y55
 simp only[jp1]
 exact yhU 64 yy x y hy (by rw[yV];omega)
/-! ### numbers -/
def fits(q:Rat):Bool:=decide (q.num.natAbs<=1073741824/\q.den<=1073741824)
def ofQ(q:Rat):R:=⟨q.num,(q.den:Int)⟩
def val(x:R):Rat:=Rat.divInt x.fN x.fD
def V(x:R):Bool:=decide (1<=x.fD/\x.fD<=1073741824 /\ -1073741824<=x.fN/\x.fN<=1073741824/\Nat.gcd x.fN.natAbs x.fD.natAbs=1)
theorem y5p(q:Rat):val (ofQ q)=q:=Rat.num_divInt_den q
theorem y7u{q:Rat}(h:fits q=true):V (ofQ q)=true:=by
 simp only[fits,decide_eq_true_eq] at h
 have hr:=q.reduced
 have hd:=q.den_pos
 unfold V ofQ
 rw[decide_eq_true_eq]
 refine⟨by show(1:Int)<=(q.den:Int);omega,by show(q.den:Int)<=1073741824;omega,by show _<=q.num;omega,by show q.num<=_;omega,hr⟩
theorem ybu(h:V x=true):(val x).num=x.fN/\((val x).den:Int)=x.fD:=by
 simp only[V,decide_eq_true_eq] at h
 obtain⟨h1,h2,h3,h4,h5⟩:=h
 have hg:Int.gcd x.fD x.fN=1:=by rw[Int.gcd,Nat.gcd_comm];exact h5
 constructor
 ·rw[val,Rat.num_divInt,hg,Int.sign_eq_one_of_pos (by omega)];simp
 ·rw[val,Rat.den_divInt,hg,if_neg (by omega)];simp;omega
theorem ygr(h:V x=true):ofQ (val x)=x:=by
 obtain⟨h1,h2⟩:=ybu h
 simp only[ofQ,h1,h2]
theorem ye9{y:R}(hx:V x=true)(hy:V y=true)(h:val x=val y):x=y:=by rw[<- ygr hx,<- ygr hy,h]
def mk(q:Rat):R×Int:=if fits q then(ofQ q,0) else(⟨0,0⟩,3)
theorem yc3{n d:Int}(hd:d≠0)(h:n.natAbs<=4611686018427387904/\d.natAbs<=4611686018427387904):y5G n d=some (mk (Rat.divInt n d)):=by
 unfold y5G
 rw[if_neg (by simpa using hd),ye8 (by omega),ye8 (by omega),oB,oB,gcd_eq (by omega),oB]
 have hg:0<Nat.gcd n.natAbs d.natAbs:=Nat.gcd_pos_of_pos_right _ (by omega)
 rw[yt (by omega)]
 have hn:=Nat.div_le_self n.natAbs (Nat.gcd n.natAbs d.natAbs)
 have hdd:=Nat.div_le_self d.natAbs (Nat.gcd n.natAbs d.natAbs)
 have en:u64 (Int.tdiv (n.natAbs:Int) (Nat.gcd n.natAbs d.natAbs:Nat))=((n.natAbs / Nat.gcd n.natAbs d.natAbs:Nat):Int):=yb6 ⟨Int.natCast_nonneg _,by
  show((n.natAbs / Nat.gcd n.natAbs d.natAbs:Nat):Int)<=_
  omega⟩
 have ed:u64 (Int.tdiv (d.natAbs:Int) (Nat.gcd n.natAbs d.natAbs:Nat))=((d.natAbs / Nat.gcd n.natAbs d.natAbs:Nat):Int):=yb6 ⟨Int.natCast_nonneg _,by
  show((d.natAbs / Nat.gcd n.natAbs d.natAbs:Nat):Int)<=_
  omega⟩
 rw[en,ed]
 have hG:Int.gcd d n=Nat.gcd n.natAbs d.natAbs:=by rw[Int.gcd,Nat.gcd_comm]
 have qd:(Rat.divInt n d).den=d.natAbs / Nat.gcd n.natAbs d.natAbs:=by rw[Rat.den_divInt,if_neg hd,hG]
 have qn:(Rat.divInt n d).num=if (decide (n<0)) != (decide (d<0)) then -((n.natAbs / Nat.gcd n.natAbs d.natAbs:Nat):Int) else((n.natAbs / Nat.gcd n.natAbs d.natAbs:Nat):Int):=by
  rw[Rat.num_divInt,hG]
  have hdv:(Nat.gcd n.natAbs d.natAbs:Int) ∣ (n.natAbs:Int):=Int.natCast_dvd_natCast.2 (Nat.gcd_dvd_left _ _)
  rcases Int.lt_or_le n 0 with h1 | h1 <;> rcases Int.lt_or_le d 0 with h2 | h2
  ·rw[Int.sign_eq_neg_one_of_neg h2,show(-1:Int)*n=(n.natAbs:Int) by omega]
   simp[h1,h2]
  ·rw[Int.sign_eq_one_of_pos (by omega),show(1:Int)*n = -(n.natAbs:Int) by omega,Int.neg_ediv_of_dvd hdv]
   have h2':¬d<0:=by omega
   simp[h1,h2']
  ·rw[Int.sign_eq_neg_one_of_neg h2,show(-1:Int)*n = -(n.natAbs:Int) by omega,Int.neg_ediv_of_dvd hdv]
   have h1':¬n<0:=by omega
   simp[h2,h1']
  ·rw[Int.sign_eq_one_of_pos (by omega),show(1:Int)*n=(n.natAbs:Int) by omega]
   have h1':¬n<0:=by omega
   have h2':¬d<0:=by omega
   simp[h2',h1']
 generalize hA:n.natAbs / Nat.gcd n.natAbs d.natAbs=A at *
 generalize hB:d.natAbs / Nat.gcd n.natAbs d.natAbs=B at *
 have hqn:(Rat.divInt n d).num.natAbs=A:=by rw[qn];split <;> omega
 unfold mk fits
 rw[hqn,qd]
 by_cases hf:A<=1073741824/\B<=1073741824
 ·rw[if_neg (by simp;omega)]
  simp only[jp1,hf,and_self,decide_true,if_true]
  rw[yz (x:=(A:Int)) (by omega),yz (x:=(B:Int)) (by omega),yz (by omega)]
  unfold ofQ
  rw[qd,qn]
  split <;> simp
 ·rw[if_pos (by simp;omega)]
  simp only[hf,decide_false]
  rfl
theorem y1W(x:R):y1Y x=some (V x):=by
 unfold y1Y V
 by_cases h:(x.fD>=1/\x.fD<=1073741824/\x.fN>=(-1073741824)/\x.fN<=1073741824)
 ·rw[if_pos (by simp;omega),ye8 (by omega),ye8 (by omega),oB,oB,gcd_eq (by omega),oB,oB]
  congr 1
  rw[Bool.eq_iff_iff]
  simp only[decide_eq_true_eq]
  omega
 ·rw[if_neg (by simp;omega),oB]
  congr 1
  symm
  rw[decide_eq_false_iff_not]
  omega
end Go.Proofs.YthjnhebofpebpaaGreat
namespace Go.Proofs.YthjnhebofpebpaaGreat
open Go Go.RowKit Sep
theorem yai{a b:Int}(ha:a.natAbs<=1073741824)(hb:b.natAbs<=1073741824):(a*b).natAbs<=1152921504606846976:=by
 rw[Int.natAbs_mul]
 exact Nat.mul_le_mul ha hb
theorem yaj{x:R}(h:V x=true):x.fN.natAbs<=1073741824/\x.fD.natAbs<=1073741824/\1<=x.fD:=by
 simp only[V,decide_eq_true_eq] at h;omega
theorem D_ne{x y:R}(hx:V x=true)(hy:V y=true):x.fD*y.fD≠0:=Int.mul_ne_zero (by have:=yaj hx;omega) (by have:=yaj hy;omega)
theorem ydy{x y:R}(hx:V x=true)(hy:V y=true):y1q x y=some (mk (val x+val y)):=by
 have bx:=yaj hx;have b2:=yaj hy
 have h1:=yai bx.1 b2.2.1;have h2:=yai b2.1 bx.2.1;have h3:=yai bx.2.1 b2.2.1
 unfold y1q y9W yav
 rw[y1W,y1W,hx,hy]
 simp only[oB,Bool.not_true,Bool.false_eq_true,if_false]
 rw[yz (x:=x.fN*y.fD) (by omega),yz (x:=y.fN*x.fD) (by omega),yz (by omega),yz (by omega),yc3 (D_ne hx hy) (by omega)]
 rw[val,val,Rat.divInt_add_divInt _ _ (by omega) (by omega)]
 rfl
theorem yc4{x y:R}(hx:V x=true)(hy:V y=true):y2z x y=some (mk (val x-val y)):=by
 have bx:=yaj hx;have b2:=yaj hy
 have h1:=yai bx.1 b2.2.1;have h2:=yai b2.1 bx.2.1;have h3:=yai bx.2.1 b2.2.1
 unfold y2z ya0 yaw
 rw[y1W,y1W,hx,hy]
 simp only[oB,Bool.not_true,Bool.false_eq_true,if_false]
 rw[yz (x:=x.fN*y.fD) (by omega),yz (x:=y.fN*x.fD) (by omega),yz (by omega),yz (by omega),yc3 (D_ne hx hy) (by omega)]
 rw[val,val,Rat.divInt_sub_divInt _ _ (by omega) (by omega)]
 rfl
theorem ydz{x y:R}(hx:V x=true)(hy:V y=true):y3J x y=some (mk (val x*val y)):=by
 have bx:=yaj hx;have b2:=yaj hy
 have h1:=yai bx.1 b2.1;have h3:=yai bx.2.1 b2.2.1
 unfold y3J yaW yau
 rw[y1W,y1W,hx,hy]
 simp only[oB,Bool.not_true,Bool.false_eq_true,if_false]
 rw[yz (by omega),yz (by omega),yc3 (D_ne hx hy) (by omega)]
 rw[val,val,Rat.divInt_mul_divInt]
 rfl
theorem yc5{x y:R}(hx:V x=true)(hy:V y=true)(h0:y.fN≠0):y46 x y=some (mk (val x / val y)):=by
 have bx:=yaj hx;have b2:=yaj hy
 have h1:=yai bx.1 b2.2.1;have h3:=yai bx.2.1 b2.1
 unfold y46 ya2 yax
 rw[y1W,y1W,hx,hy]
 simp only[oB,Bool.not_true,Bool.false_or,decide_eq_true_eq,h0,if_false,Bool.false_eq_true]
 rw[yz (by omega),yz (by omega),yc3 (Int.mul_ne_zero (by omega) h0) (by omega)]
 rw[val,val,Rat.div_def,Rat.inv_divInt,Rat.divInt_mul_divInt]
 rfl
def y5P(p q:Rat):Int:=if p<q then -1 else if q<p then 1 else 0
theorem lt_val{x y:R}(hx:V x=true)(hy:V y=true):val x<val y↔x.fN*y.fD<y.fN*x.fD:=by
 rw[Rat.lt_iff,(ybu hx).1,(ybu hx).2,(ybu hy).1,(ybu hy).2]
theorem y95{x y:R}(hx:V x=true)(hy:V y=true):y1w x y=some (y5P (val x) (val y)):=by
 have bx:=yaj hx;have b2:=yaj hy
 have h1:=yai bx.1 b2.2.1;have h2:=yai b2.1 bx.2.1
 unfold y1w y5P
 rw[y1W,y1W,hx,hy]
 simp only[oB,Bool.not_true,Bool.false_eq_true,if_false,decide_eq_true_eq]
 rw[yz (x:=x.fN*y.fD) (by omega),yz (x:=y.fN*x.fD) (by omega)]
 simp only[lt_val hx hy,lt_val hy hx]
 by_cases h:x.fN*y.fD<y.fN*x.fD
 ·simp[h]
 ·by_cases h':y.fN*x.fD<x.fN*y.fD <;> simp[h,h']
theorem yaJ{p q:Rat}:y5P p q<=0↔p<=q:=by unfold y5P;grind
theorem y89{p q:Rat}:y5P p q<0↔p<q:=by unfold y5P;grind
theorem yea{p q:Rat}:0<y5P p q↔q<p:=by unfold y5P;grind
theorem yf8{p q:Rat}(h:p<=q):p<q\/p=q:=by grind
theorem ykq(p:Rat):y5P p p=0:=by unfold y5P;simp[Rat.lt_irrefl]
/-! ### buckets -/
abbrev B:=z6
def GR(x:R):Bool:=V x&&decide (0<=x.fN)
def GB(b:B):Bool:=GR b.fBurst&&GR b.fRate
def bq(b:B):Rat:=val b.fBurst
def rq(b:B):Rat:=val b.fRate
theorem y57{x:R}(h:GR x=true):V x=true:=by simp[GR] at h;exact h.1
theorem yb7{x:R}(h:GR x=true):0<=val x:=by
 have hv:=y57 h
 simp[GR] at h
 rw[<- Rat.num_nonneg,(ybu hv).1];exact h.2
theorem y9A{b:B}(h:GB b=true):GR b.fBurst=true:=by simp[GB] at h;exact h.1
theorem y9B{b:B}(h:GB b=true):GR b.fRate=true:=by simp[GB] at h;exact h.2
theorem yjR{a b:B}(ha:GB a=true)(hb:GB b=true)(h1:bq a=bq b)(h2:rq a=rq b):a=b:=by
 have e1:=ye9 (y57 (y9A ha)) (y57 (y9A hb)) h1
 have e2:=ye9 (y57 (y9B ha)) (y57 (y9B hb)) h2
 cases a;cases b;simp at e1 e2;rw[e1,e2]
theorem yeb(x:R):y5N x=some (GR x):=by unfold y5N GR;rw[y1W,oB]
theorem ykr(b:B):y5l b=some (!GB b):=by
 unfold y5l GB
 rw[yeb,yeb]
 cases GR b.fBurst <;> simp
theorem ygW{s:List B}{f:B->Option Bool}{p:B->Bool}(hf:∀ x∈s,f x=some (p x))(hs:(s.length:Int)<=4611686018427387000):y1D s f=some (s.any p):=
 ycT (yfm (L:=fun k=>y1f s f k) (fun _ _ _=>rfl) hf hs)
theorem yiF{s:List B}{v:B}(hs:(s.length:Int)<=4611686018427387000):y2x s v=some (s.any fun x=>decide (v=x)):=
 ycT (yfm (L:=fun k=>y1s s v k) (f:=fun x=>some (decide (v=x))) (fun _ _ _=>rfl) (fun _ _=>rfl) hs)
def VC(c:List B):Bool:=decide (1<=c.length/\c.length<=32)&&c.all GB
theorem y7i(c:List B):y4Y c=some (VC c):=by
 unfold y4Y VC
 by_cases h:1<=c.length/\c.length<=32
 ·rw[if_pos (by simp;omega),ygW (p:=fun b => !GB b) (fun x _=>ykr x) (by omega)]
  simp only[oB,h,and_self,decide_true,Bool.true_and]
  congr 1
  rw[List.all_eq_not_any_not]
 ·rw[if_neg (by simp;omega)]
  simp[h]
theorem y96{c:List B}(h:VC c=true):∀ b∈c,GB b=true:=by simp[VC] at h;exact h.2
theorem yfL{c:List B}(h:VC c=true):1<=c.length/\c.length<=32:=by simp[VC] at h;omega
def dom(a b:B):Bool:=decide (a≠b)&&decide (bq a<=bq b)&&decide (rq a<=rq b)
theorem yhV{a b:B}(ha:GB a=true)(hb:GB b=true):y5B a b=some (dom a b):=by
 unfold y5B dom
 rw[y95 (y57 (y9A ha)) (y57 (y9A hb)),y95 (y57 (y9B ha)) (y57 (y9B hb))]
 have e1:decide (y5P (val a.fBurst) (val b.fBurst)<=0)=decide (bq a<=bq b):=decide_eq_decide.2 yaJ
 have e2:decide (y5P (val a.fRate) (val b.fRate)<=0)=decide (rq a<=rq b):=decide_eq_decide.2 yaJ
 by_cases hab:a≠b
 ·rw[if_pos (by simpa using hab),oB,oB,e1]
  by_cases h1:bq a<=bq b
  ·rw[if_pos (by simpa using h1),oB,e2];simp[hab,h1]
  ·rw[if_neg (by simpa using h1),oB];simp[h1]
 ·rw[if_neg (by simpa using hab)];simp[hab]
/-! ### the normal form -/
def y9C(c:List B)(out:List B)(v:B):List B:=if (!(out.any fun x=>decide (v=x)) && !(c.any fun a=>dom a v))=true then out++[v] else out
theorem yks{c:List B}{k:List B->Option (List B)}(hc:∀ b∈c,GB b=true)(hs:(c.length:Int)<=1000000):
  ∀(n:Nat) (out:List B) (i:Int),0<=i->i<=c.length->c.length-i<n->(out.length:Int)<=i->y4P c k n out i=k ((c.drop i.toNat).foldl (y9C c) out):=by
 intro n
 induction n with
 | zero=>intro out i h0 h1 h2;omega
 | succ n ih=>
  intro out i h0 h1 h2 h3
  rw[y4P]
  by_cases h:i<c.length
  ·rw[if_pos (by simpa using h)]
   simp only[jp1]
   rw[yt ⟨h0,h⟩,y3y h0 h,List.foldl_cons]
   have hm:=hc _ (yO h0 h)
   have e1:=yiF (s:=out) (v:=nth c i) (by omega)
   have e2:=ygW (s:=c) (f:=fun y0=>y5K y0 (nth c i)) (p:=fun a=>dom a (nth c i)) (fun x hx=>by unfold y5K;rw[yhV (hc x hx) hm];rfl) (by omega)
   refine(congrArg (fun o=>Option.bind o _) e1).trans ?_
   rw[oB]
   have hlen:(out.length:Int)+1<=1000000:=by omega
   cases hA:out.any fun x=>decide (nth c i=x) with
   | true=>
    simp only[Bool.not_true,Bool.false_eq_true,if_false,oB]
    rw[yz (by omega),ih out (i+1) (by omega) (by omega) (by omega) (by omega)]
    congr 2
    unfold y9C;simp[hA]
   | false=>
    simp only[Bool.not_false,if_true]
    refine(congrArg (fun o=>Option.bind (Option.bind o _) _) e2).trans ?_
    simp only[oB]
    cases hB:c.any fun a=>dom a (nth c i) with
    | true=>
     simp only[Bool.not_true,Bool.false_eq_true,if_false]
     rw[yz (by omega),ih out (i+1) (by omega) (by omega) (by omega) (by omega)]
     congr 2
     unfold y9C;simp[hA,hB]
    | false=>
     simp only[Bool.not_false,if_true]
     rw[yt (by simp only[List.length_append,List.length_cons,List.length_nil];omega),yz (by omega)]
     refine(ih _ (i+1) (by omega) (by omega) (by omega) (by simp;omega)).trans ?_
     congr 2
     unfold y9C;simp[hA,hB]
  ·rw[if_neg (by simpa using h),y4j h];rfl
/-! sorting by a key -/
def yaB{α:Type}(key:α->Rat)(l:List α):List α:=yK (fun x y=>some (y5P (key x) (key y))) l
theorem yiG{α:Type}{p q:α->α->Option Int}{x:α}{l:List α}(h:∀ y∈l,cby p x y=cby q x y):y67 p x l=y67 q x l:=by
 induction l with
 | nil=>rfl
 | cons y l ih=>
  unfold y67
  rw[h y (by simp),ih fun z hz=>h z (by simp[hz])]
theorem yhW{α:Type}{p q:α->α->Option Int}{l:List α}(h:∀ x∈l,∀ y∈l,cby p x y=cby q x y):yK p l=yK q l:=by
 induction l with
 | nil=>rfl
 | cons x l ih=>
  unfold yK
  rw[ih fun a ha b hb=>h a (by simp[ha]) b (by simp[hb])]
  exact yiG fun y hy=>h x (by simp) y (by simp[(y2C q l).mem_iff.1 hy])
theorem yiH{α:Type}{key:α->Rat}(x:α)(l:List α)(h:l.Pairwise fun a b=>key a<=key b):(y67 (fun x y=>some (y5P (key x) (key y))) x l).Pairwise fun a b=>key a<=key b:=by
 induction l with
 | nil=>simp[y67]
 | cons y l ih=>
  obtain⟨h1,h2⟩:=List.pairwise_cons.1 h
  unfold y67
  split
  ·rename_i hxy
   have hxy:key x<=key y:=yaJ.1 hxy
   refine List.pairwise_cons.2 ⟨fun z hz=>?_,h⟩
   rcases List.mem_cons.1 hz with rfl | hz
   ·exact hxy
   ·exact Rat.le_trans hxy (h1 z hz)
  ·rename_i hxy
   have hxy:key y<=key x:=Rat.le_of_lt (Rat.not_le.1 fun h=>hxy (yaJ.2 h))
   refine List.pairwise_cons.2 ⟨fun z hz=>?_,ih h2⟩
   rcases List.mem_cons.1 ((ycn _ x l).mem_iff.1 hz) with rfl | hz
   ·exact hxy
   ·exact h1 z hz
theorem yb8{α:Type}(key:α->Rat)(l:List α):(yaB key l).Pairwise fun a b=>key a<=key b:=by
 unfold yaB
 induction l with
 | nil=>simp[yK]
 | cons x l ih=>exact yiH x _ ih
theorem yaC{α:Type}(key:α->Rat)(l:List α):(yaB key l).Perm l:=y2C _ l
theorem yhX{α:Type}[DecidableEq α]{key:α->Rat}{p:α->α->Option Int}{l:List α}(hp:∀ x∈l,∀ y∈l,p x y=some (y5P (key x) (key y)))(hi:∀ x∈l,∀ y∈l,key x=key y->x=y):
  yK p l=yaB key l/\y8r p (yK p l)=true:=by
 have hc:∀ x∈l,∀ y∈l,cby p x y=y5P (key x) (key y):=fun x hx y hy=>by unfold cby;rw[hp x hx y hy];rfl
 have e:yK p l=yaB key l:=yhW fun x hx y hy=>by rw[hc x hx y hy];rfl
 refine⟨e,?_⟩
 have hm:∀ x∈yK p l,x∈l:=fun x hx=>(y2C p l).mem_iff.1 hx
 have hs:=yb8 key l
 rw[<- e] at hs
 simp only[y8r,Bool.and_eq_true,List.all_eq_true,Bool.not_eq_true',decide_eq_false_iff_not,yco]
 refine⟨fun x hx=>⟨fun y hy=>by rw[hp x (hm x hx) y (hm y hy)];rfl,by rw[hc x (hm x hx) x (hm x hx),ykq];omega⟩,?_⟩
 refine List.Pairwise.imp_of_mem ?_ hs
 intro x y hx hy hxy
 rw[hc x (hm x hx) y (hm y hy),hc y (hm y hy) x (hm x hx),y89,y89]
 rcases yf8 hxy with h | h
 ·exact .inr ⟨h,Rat.not_lt.2 hxy⟩
 ·exact .inl (hi x (hm x hx) y (hm y hy) h)
theorem ygX(n:Nat)(h:n<4611686018427387904):Go.Lib.bitLen n<=62:=Go.Lib.bitLen_le n 62 (by omega) (by omega)
theorem sortB_eq{l:List B}{p:B->B->Option Int}{key:B->Rat}(hp:∀ x∈l,∀ y∈l,p x y=some (y5P (key x) (key y)))(hi:∀ x∈l,∀ y∈l,key x=key y->x=y)(hs:(l.length:Int)<=1000000):
  y1t l p=some (yaB key l):=by
 obtain⟨e,ho⟩:=yhX hp hi
 unfold y1t y4i y41
 rw[yb6 (by omega),yt (by omega),oB]
 have hb:=ygX l.length (by omega)
 rw[Int.toNat_natCast,yt ⟨⟨rfl,rfl⟩,by omega,by omega,by omega⟩,yt ho,oB,e]
theorem sortR_eq{l:List R}{p:R->R->Option Int}{key:R->Rat}(hp:∀ x∈l,∀ y∈l,p x y=some (y5P (key x) (key y)))(hi:∀ x∈l,∀ y∈l,key x=key y->x=y)(hs:(l.length:Int)<=1000000):
  y2g l p=some (yaB key l):=by
 obtain⟨e,ho⟩:=yhX hp hi
 unfold y2g y4i y4F
 rw[yb6 (by omega),yt (by omega),oB]
 have hb:=ygX l.length (by omega)
 rw[Int.toNat_natCast,yt ⟨⟨rfl,rfl⟩,by omega,by omega,by omega⟩,yt ho,oB,e]
theorem yhY{c:List B}:∀(l out:List B) (v:B),v∈l.foldl (y9C c) out↔v∈out\/(v∈l/\(c.any fun a=>dom a v)=false)
 | [],out,v=>by simp
 | x::l,out,v=>by
  rw[List.foldl_cons,yhY l]
  unfold y9C
  by_cases h1:(out.any fun y=>decide (x=y))=true
  ·have hx:x∈out:=by simpa using h1
   rw[if_neg (by simp[h1])]
   constructor
   ·rintro(h | h)
    ·exact .inl h
    ·exact .inr ⟨by simp[h.1],h.2⟩
   ·rintro(h | ⟨h,h'⟩)
    ·exact .inl h
    ·rcases List.mem_cons.1 h with rfl | h
     ·exact .inl hx
     ·exact .inr ⟨h,h'⟩
  ·by_cases h2:(c.any fun a=>dom a x)=true
   ·rw[if_neg (by simp[h2])]
    constructor
    ·rintro(h | h)
     ·exact .inl h
     ·exact .inr ⟨by simp[h.1],h.2⟩
    ·rintro(h | ⟨h,h'⟩)
     ·exact .inl h
     ·rcases List.mem_cons.1 h with rfl | h
      ·rw[h2] at h';cases h'
      ·exact .inr ⟨h,h'⟩
   ·rw[if_pos (by simp[h1,h2])]
    simp only[List.mem_append,List.mem_singleton]
    constructor
    ·rintro((h | rfl) | h)
     ·exact .inl h
     ·exact .inr ⟨by simp,by simpa using h2⟩
     ·exact .inr ⟨by simp[h.1],h.2⟩
    ·rintro(h | ⟨h,h'⟩)
     ·exact .inl (.inl h)
     ·rcases List.mem_cons.1 h with rfl | h
      ·exact .inl (.inr rfl)
      ·exact .inr ⟨h,h'⟩
theorem yfM{c:List B}:∀(l out:List B),out.Nodup->(l.foldl (y9C c) out).Nodup
 | [],out,h=>h
 | x::l,out,h=>by
  rw[List.foldl_cons]
  apply yfM l
  unfold y9C
  split
  ·rename_i h1
   simp only[Bool.and_eq_true,Bool.not_eq_true'] at h1
   have hx:x∉out:=by have:=h1.1;simp at this;exact fun hm=>this x hm rfl
   rw[List.nodup_append]
   refine⟨h,by simp,fun a ha b hb=>?_⟩
   simp at hb;subst hb
   intro e;subst e;exact hx ha
  ·exact h
theorem yf9{c:List B}:∀(l out:List B),(l.foldl (y9C c) out).length<=out.length+l.length
 | [],out=>by simp
 | x::l,out=>by
  rw[List.foldl_cons]
  have:=yf9 (c:=c) l (y9C c out x)
  have h:(y9C c out x).length<=out.length+1:=by unfold y9C;split <;> simp
  simp;omega
def nrm0(c:List B):List B:=c.foldl (y9C c) []
def y24(c:List B):List B:=yaB bq (nrm0 c)
theorem yb9{c:List B}{v:B}:v∈nrm0 c↔v∈c/\∀ a∈c,dom a v=false:=by
 unfold nrm0;rw[yhY];simp
theorem yfa{c:List B}{v:B}:v∈y24 c↔v∈c/\∀ a∈c,dom a v=false:=by
 unfold y24;rw[(yaC _ _).mem_iff,yb9]
theorem NORM_len(c:List B):(y24 c).length<=c.length:=by
 unfold y24;rw[(yaC _ _).length_eq]
 have:=yf9 (c:=c) c []
 simpa [nrm0] using this
theorem nd_inj{c:List B}{x y:B}(hx:x∈c/\∀ a∈c,dom a x=false)(hy:y∈c/\∀ a∈c,dom a y=false)(h:bq x=bq y):x=y:=by
 have h1:=hx.2 y hy.1
 have h2:=hy.2 x hx.1
 by_cases e:x=y
 ·exact e
 ·exfalso
  have e':y≠x:=fun h=>e h.symm
  unfold dom at h1 h2
  rw[h] at h1 h2
  simp[e,e',Rat.le_refl] at h1 h2
  grind
theorem norm_eq{c:List B}(hc:∀ b∈c,GB b=true)(hs:(c.length:Int)<=1000000):y7J c=some (y24 c):=by
 unfold y7J
 simp only[jp1]
 rw[yks hc hs yy [] 0 (by omega) (by omega) (by rw[yV];omega) (by simp)]
 show Option.bind (y1t (nrm0 c) _) _=_
 have hl:(nrm0 c).length<=c.length:=by have:=yf9 (c:=c) c [];simpa [nrm0] using this
 rw[sortB_eq (key:=bq) (fun x hx y hy=>?_) (fun x hx y hy h=>nd_inj (yb9.1 hx) (yb9.1 hy) h) (by omega)]
 ·rfl
 ·unfold y6J
  rw[y95 (y57 (y9A (hc x (yb9.1 hx).1))) (y57 (y9A (hc y (yb9.1 hy).1)))];rfl
theorem y8n{c:List B}:(y24 c).Pairwise fun x y=>bq x<bq y/\rq y<rq x:=by
 have h:=yb8 bq (nrm0 c)
 have hn:(y24 c).Nodup:=(yaC bq (nrm0 c)).nodup_iff.2 (yfM c [] (by simp))
 have h2:=List.Pairwise.and h hn
 refine List.Pairwise.imp_of_mem ?_ h2
 intro x y hx hy hxy
 have hx:=yfa.1 hx;have hy:=yfa.1 hy
 have hlt:bq x<bq y:=by
  rcases yf8 hxy.1 with h | h
  ·exact h
  ·exact absurd (nd_inj hx hy h) hxy.2
 refine⟨hlt,?_⟩
 have:=hy.2 x hx.1
 unfold dom at this
 simp[hxy.2,hxy.1] at this
 grind
end Go.Proofs.YthjnhebofpebpaaGreat
namespace Go.Proofs.YthjnhebofpebpaaGreat
open Go Go.RowKit Sep
variable {m k m':Nat}{p q:Rat}{t:R}
/-! ### grids -/
theorem ybD{n d:Int}(hd:0<d)(h:n.natAbs<=1073741824/\d<=1073741824):fits (Rat.divInt n d)=true:=by
 simp only[fits,decide_eq_true_eq]
 rw[Rat.den_divInt,if_neg (by omega),Rat.num_divInt]
 have hs:d.sign=1:=Int.sign_eq_one_of_pos hd
 rw[hs,Int.one_mul]
 constructor
 ·have h1:(n / (Int.gcd d n:Int)).natAbs<=n.natAbs:=by
   have h2:((Int.gcd d n:Nat):Int) ∣ n:=Int.gcd_dvd_right ..
   rw[Int.natAbs_ediv_of_dvd h2]
   exact Nat.div_le_self _ _
  omega
 ·have:=Nat.div_le_self d.natAbs (Int.gcd d n)
  omega
def G(m k:Nat)(q:Rat):Prop:=∃ n:Int,n.natAbs<=m*k/\q=Rat.divInt n k
theorem G.fits{m k:Nat}{q:Rat}(h:G m k q)(hk:0<k)(hk2:k<=1073741824)(hm:m*k<=1073741824):fits q=true:=by
 obtain⟨n,hn,rfl⟩:=h
 exact ybD (by omega) ⟨by omega,by omega⟩
theorem G.add(hk:0<k)(hp:G m k p)(hq:G m' k q):G (m+m') k (p+q):=by
 obtain⟨n,hn,rfl⟩:=hp;obtain⟨n',hn',rfl⟩:=hq
 refine⟨n+n',?_,?_⟩
 ·have:=Nat.add_mul m m' k
  omega
 ·rw[Rat.divInt_add_divInt _ _ (by omega) (by omega),show n*(k:Int)+n'*k=(n+n')*k by rw[Int.add_mul],Rat.divInt_mul_right (by omega)]
theorem G.neg(hp:G m k p):G m k (-p):=by
 obtain⟨n,hn,rfl⟩:=hp
 exact⟨-n,by omega,by rw[Rat.neg_divInt]⟩
theorem G.sub(hk:0<k)(hp:G m k p)(hq:G m' k q):G (m+m') k (p-q):=by
 rw[Rat.sub_eq_add_neg];exact hp.add hk hq.neg
theorem G.mul{k':Nat}(hp:G m k p)(hq:G m' k' q):G (m*m') (k*k') (p*q):=by
 obtain⟨n,hn,rfl⟩:=hp;obtain⟨n',hn',rfl⟩:=hq
 refine⟨n*n',?_,?_⟩
 ·rw[Int.natAbs_mul,show m*m'*(k*k')=(m*k)*(m'*k') by rw[Nat.mul_mul_mul_comm]]
  exact Nat.mul_le_mul hn hn'
 ·rw[Rat.divInt_mul_divInt];rfl
theorem G.fine(j:Nat)(hj:0<j)(hp:G m k p):G m (k*j) p:=by
 obtain⟨n,hn,rfl⟩:=hp
 refine⟨n*j,?_,?_⟩
 ·rw[Int.natAbs_mul,<- Nat.mul_assoc];exact Nat.mul_le_mul hn (by omega)
 ·rw[show((k*j:Nat):Int)=(k:Int)*j by push_cast;rfl,Rat.divInt_mul_right (by omega)]
theorem G.le(h:m<=m')(hp:G m k p):G m' k p:=by
 obtain⟨n,hn,rfl⟩:=hp
 exact⟨n,Nat.le_trans hn (Nat.mul_le_mul_right _ h),rfl⟩
theorem yec(h:fits q=true):mk q=(ofQ q,0):=by unfold mk;rw[if_pos h]
theorem divInt_nonneg{n d:Int}(h:0<=n)(hd:0<=d):(0:Rat)<=Rat.divInt n d:=Rat.divInt_nonneg h hd
/-! ### the law's points and curves -/
def SB(b:B):Prop:=GB b=true/\G 100 1 (bq b)/\G 5 8 (rq b)
def SC(c:List B):Prop:=1<=c.length/\c.length<=4/\∀ b∈c,SB b
theorem SC.all{c:List B}(h:SC c):∀ b∈c,GB b=true:=fun b hb=>(h.2.2 b hb).1
theorem SC.VC{c:List B}(h:SC c):VC c=true:=by
 unfold YthjnhebofpebpaaGreat.VC
 rw[Bool.and_eq_true,decide_eq_true_eq,List.all_eq_true]
 exact⟨⟨h.1,by have:=h.2.1;omega⟩,h.all⟩
theorem SB.pos{b:B}(h:SB b):0<=bq b/\0<=rq b:=⟨yb7 (y9A h.1),yb7 (y9B h.1)⟩
/-! ### values -/
def vq(t:Rat)(b:B):Rat:=bq b+rq b*t
def yak(t:Rat)(b:B):Bool:=fits (rq b*t)&&fits (vq t b)
theorem vq_pos{t:Rat}{b:B}(hb:GB b=true)(ht:0<=t):0<=vq t b:=Rat.add_nonneg (yb7 (y9A hb)) (Rat.mul_nonneg (yb7 (y9B hb)) ht)
theorem value_ok{b:B}(hb:GB b=true)(ht:GR t=true):y2h ⟨0⟩ b t=some (if yak (val t) b then(ofQ (vq (val t) b),(⟨0⟩:z1A)) else(⟨0,0⟩,⟨3⟩)):=by
 unfold y2h y26
 rw[if_neg (by simp)]
 simp only[]
 rw[ydz (y57 (y9B hb)) (y57 ht),oB,oB]
 show Option.bind (if _ then _ else _) _=_
 have hr:val b.fRate*val t=rq b*val t:=rfl
 rw[hr]
 unfold yak
 cases h:fits (rq b*val t) with
 | true=>
  rw[yec h]
  rw[if_neg (by simp)]
  rw[ydy (y57 (y9A hb)) (y7u h),y5p]
  simp only[oB,Bool.true_and]
  have hv:val b.fBurst+rq b*val t=vq (val t) b:=rfl
  rw[hv]
  cases h2:fits (vq (val t) b) with
  | true=>rw[yec h2];rfl
  | false=>unfold mk;rw[h2];rfl
 | false=>
  unfold mk
  rw[h]
  simp
theorem ykt{b:B}{e:Int}(he:e≠0):y2h ⟨e⟩ b t=some (⟨0,0⟩,⟨e⟩):=by
 unfold y2h y26
 simp[he]
theorem yhZ{α β R:Type}[Inhabited α]{c:List α}{S:Int->α->Option (β×Int)}{ok:α->Bool}{g:α->β}{z:β}{k:List β->Int->Option R}{K3:Option R}{L:Nat->List β->Int->Int->Option R}(hS:∀ b∈c,S 0 b=some (if ok b then(g b,0) else(z,3))/\S 3 b=some (z,3))(hL:∀ n out (i:Int) e v e',0<=i->i<c.length->(out.length:Int)=i->S e (nth c i)=some (v,e')->L (n+1) out i e=L n (out++[v]) (i+1) e')(hE:∀ n out (i:Int) e,¬i<c.length->L (n+1) out i e=k out e)(hK:∀ out,k out 3=K3):
  ∀(n:Nat) (out:List β) (i:Int),0<=i->(out.length:Int)=i->i<=c.length->c.length<n+i->
   L n out i 3=K3/\L n out i 0=if (c.drop i.toNat).all ok then k (out++(c.drop i.toNat).map g) 0 else K3
 | 0,out,i,h0,ho,h1,h2=>by omega
 | n+1,out,i,h0,ho,h1,h2=>by
  by_cases h:i<c.length
  ·have hm:=hS _ (yO h0 h)
   have ih:=fun out' ho'=>yhZ hS hL hE hK n out' (i+1) (by omega) ho' (by omega) (by omega)
   refine⟨?_,?_⟩
   ·rw[hL n out i 3 _ _ h0 h ho hm.2]
    exact(ih _ (by simp;omega)).1
   ·rw[y3y h0 h,List.all_cons,List.map_cons]
    cases hb:ok (nth c i) with
    | true=>
     have h3:=hm.1
     rw[hb,if_pos rfl] at h3
     rw[hL n out i 0 _ _ h0 h ho h3,(ih _ (by simp;omega)).2]
     simp
    | false=>
     have h3:=hm.1
     rw[hb,if_neg (by simp)] at h3
     rw[hL n out i 0 _ _ h0 h ho h3,(ih _ (by simp;omega)).1]
     simp
  ·rw[hE n out i 3 h,hE n out i 0 h,y4j h,hK]
   simp
/-! ### least -/
def minQ:List Rat->Rat
 | []=>0
 | [x]=>x
 | x::y::l=>let m:=minQ (y::l);if x<=m then x else m
def yed(l:List Rat)(q:Rat):Prop:=q∈l/\∀ x∈l,q<=x
theorem yed.unique{l:List Rat}(hp:yed l p)(hq:yed l q):p=q:=Rat.le_antisymm (hp.2 _ hq.1) (hq.2 _ hp.1)
theorem yee:∀(l:List Rat),l≠[]->yed l (minQ l)
 | [],h=>absurd rfl h
 | [x],_=>⟨by simp[minQ],fun y hy=>by simp at hy;subst hy;exact Rat.le_refl⟩
 | x::y::l,_=>by
  have ih:=yee (y::l) (by simp)
  unfold minQ
  by_cases h:x<=minQ (y::l)
  ·rw[if_pos h]
   refine⟨by simp,fun z hz=>?_⟩
   rcases List.mem_cons.1 hz with rfl | hz
   ·exact Rat.le_refl
   ·exact Rat.le_trans h (ih.2 z hz)
  ·rw[if_neg h]
   refine⟨List.mem_cons_of_mem _ ih.1,fun z hz=>?_⟩
   rcases List.mem_cons.1 hz with rfl | hz
   ·exact Rat.le_of_lt (Rat.not_le.1 h)
   ·exact ih.2 z hz
theorem ygs{l:List Rat}(h:yed l q):minQ l=q:=(yee l (List.ne_nil_of_mem h.1)).unique h
theorem y66{α:Type}[Inhabited α]{l:List α}{i:Int}{x:α}(h0:0<=i)(h:i<l.length):x∈l.take (i+1).toNat↔x∈l.take i.toNat\/x=nth l i:=by
 rw[take_succ l h0 h,List.mem_append,List.mem_singleton]
theorem ydA{l:List R}{k:Int->Int->Option R}(hl:∀ x∈l,V x=true)(hs:(l.length:Int)<=1000000):
  ∀(n:Nat) (i:Int) (c:R),0<=i->i<=l.length->l.length<n+i->c∈l->(∀ x∈l.take i.toNat,val c<=val x)->
   ∃ d:R,y1o l (fun y0 y1=>y1w y0 y1) k n i c.fN c.fD=k d.fN d.fD/\d∈l/\∀ x∈l,val d<=val x
 | 0,i,c,h0,h1,h2,hc,hm=>by omega
 | n+1,i,c,h0,h1,h2,hc,hm=>by
  rw[y1o]
  by_cases h:i<l.length
  ·rw[if_pos (by simpa using h)]
   simp only[jp2]
   rw[yt ⟨h0,h⟩,yt ⟨h0,h⟩,yz (by omega)]
   have hx:=yO h0 h
   show ∃ d:R,Option.bind (y1w (nth l i) c) _=_/\_
   rw[y95 (hl _ hx) (hl _ hc),oB]
   by_cases hlt:val (nth l i)<val c
   ·rw[if_pos (by simpa using y89.2 hlt)]
    refine ydA hl hs n (i+1) (nth l i) (by omega) (by omega) (by omega) hx fun x hx'=>?_
    rcases(y66 h0 h).1 hx' with h3 | rfl
    ·exact Rat.le_trans (Rat.le_of_lt hlt) (hm x h3)
    ·exact Rat.le_refl
   ·rw[if_neg (by simpa using fun h=>hlt (y89.1 h))]
    refine ydA hl hs n (i+1) c (by omega) (by omega) (by omega) hc fun x hx'=>?_
    rcases(y66 h0 h).1 hx' with h3 | rfl
    ·exact hm x h3
    ·exact Rat.not_lt.1 hlt
  ·rw[if_neg (by simpa using h)]
   refine⟨c,rfl,hc,fun x hx=>hm x ?_⟩
   rwa [List.take_of_length_le (by omega)]
theorem minR_eq{l:List R}(hl:∀ x∈l,V x=true)(h0:l≠[])(hs:(l.length:Int)<=1000000):y2p l (fun y0 y1=>y1w y0 y1)=some (ofQ (minQ (l.map val))):=by
 have hp:=List.length_pos_iff.2 h0
 unfold y2p
 rw[if_neg (by simp;omega),yt (by omega)]
 refine yb4 (P:=fun o=>o=_) fun k hk=>?_
 have hm0:=yO (l:=l) (i:=0) (by omega) (by omega)
 obtain⟨d,e,hd,hle⟩:=ydA (k:=k) hl hs yy 1 (nth l 0) (by omega) (by omega) (by rw[yV];omega) hm0 (by
  intro x hx
  have h1:(1:Int)=0+1:=rfl
  rw[h1] at hx
  rcases(y66 (by omega) (by omega)).1 hx with h3 | rfl
  ·simp at h3
  ·exact Rat.le_refl)
 have h1:minQ (l.map val)=val d:=ygs ⟨List.mem_map_of_mem hd,fun x hx=>by
  obtain⟨y,hy,rfl⟩:=List.mem_map.1 hx
  exact hle y hy⟩
 rw[e,hk,h1,ygr (hl d hd)]
theorem rate1_eq{a b:B}(ha:GB a=true)(hb:GB b=true):y3T a b=some (y5P (rq a) (rq b)):=by
 unfold y3T
 rw[y95 (y57 (y9B ha)) (y57 (y9B hb))];rfl
theorem ydB{l:List B}{k:Int->Int->Int->Int->Option B}(hl:∀ x∈l,GB x=true)(hs:(l.length:Int)<=1000000):
  ∀(n:Nat) (i:Int) (c:B),0<=i->i<=l.length->l.length<n+i->c∈l->(∀ x∈l.take i.toNat,rq c<=rq x)->
   ∃ d:B,y19 l (fun y0 y1=>y3T y0 y1) k n i c.fBurst.fN c.fBurst.fD c.fRate.fN c.fRate.fD=k d.fBurst.fN d.fBurst.fD d.fRate.fN d.fRate.fD/\d∈l/\∀ x∈l,rq d<=rq x
 | 0,i,c,h0,h1,h2,hc,hm=>by omega
 | n+1,i,c,h0,h1,h2,hc,hm=>by
  rw[y19]
  by_cases h:i<l.length
  ·rw[if_pos (by simpa using h)]
   simp only[jp4]
   rw[yt ⟨h0,h⟩,yt ⟨h0,h⟩,yz (by omega)]
   have hx:=yO h0 h
   show ∃ d:B,Option.bind (y3T (nth l i) c) _=_/\_
   rw[rate1_eq (hl _ hx) (hl _ hc),oB]
   by_cases hlt:rq (nth l i)<rq c
   ·rw[if_pos (decide_eq_true (y89.2 hlt))]
    refine ydB hl hs n (i+1) (nth l i) (by omega) (by omega) (by omega) hx fun x hx'=>?_
    rcases(y66 h0 h).1 hx' with h3 | rfl
    ·exact Rat.le_trans (Rat.le_of_lt hlt) (hm x h3)
    ·exact Rat.le_refl
   ·rw[if_neg (fun h=>hlt (y89.1 (of_decide_eq_true h)))]
    refine ydB hl hs n (i+1) c (by omega) (by omega) (by omega) hc fun x hx'=>?_
    rcases(y66 h0 h).1 hx' with h3 | rfl
    ·exact hm x h3
    ·exact Rat.not_lt.1 hlt
  ·rw[if_neg (by simpa using h)]
   refine⟨c,rfl,hc,fun x hx=>hm x ?_⟩
   rwa [List.take_of_length_le (by omega)]
theorem jp4_ex{R A0 A1 A2 A3:Type}{K:A0->A1->A2->A3->Option R}{F:(A0->A1->A2->A3->Option R)->Option R}{P:Option R->Prop}(h:∀ k:A0->A1->A2->A3->Option R,(∀ x0 x1 x2 x3,k x0 x1 x2 x3=K x0 x1 x2 x3)->P (F k)):P (jp4 K F):=h K fun _ _ _ _=>rfl
theorem minB_eq{l:List B}(hl:∀ x∈l,GB x=true)(h0:l≠[])(hs:(l.length:Int)<=1000000):∃ d,y1X l (fun y0 y1=>y3T y0 y1)=some d/\d∈l/\∀ x∈l,rq d<=rq x:=by
 have hp:=List.length_pos_iff.2 h0
 unfold y1X
 rw[if_neg (by simp;omega),yt (by omega)]
 refine jp4_ex (P:=fun o=>∃ d,o=some d/\d∈l/\∀ x∈l,rq d<=rq x) fun k hk=>?_
 have hm0:=yO (l:=l) (i:=0) (by omega) (by omega)
 obtain⟨d,e,hd,hle⟩:=ydB (k:=k) hl hs yy 1 (nth l 0) (by omega) (by omega) (by rw[yV];omega) hm0 (by
  intro x hx
  have h1:(1:Int)=0+1:=rfl
  rw[h1] at hx
  rcases(y66 (by omega) (by omega)).1 hx with h3 | rfl
  ·simp at h3
  ·exact Rat.le_refl)
 rw[e,hk]
 exact⟨d,rfl,hd,hle⟩
/-! ### At and Rate -/
def AT(c:List B)(t:Rat):Rat:=minQ (c.map (vq t))
theorem yfN{c:List B}{t:Rat}(h:c≠[]):yed (c.map (vq t)) (AT c t):=yee _ (by simpa using h)
theorem at_loop{c:List B}{k:List R->Int->Option (R×Int)}{K3:Option (R×Int)}(hc:∀ b∈c,GB b=true)(ht:GR t=true)(hs:(c.length:Int)<=1000000)(hK:∀ out,k out 3=K3){n:Nat}(hn:c.length<n):y3j c t k n [] 0 0=if c.all (yak (val t)) then k (c.map fun b=>ofQ (vq (val t) b)) 0 else K3:=by
 have:=(yhZ (c:=c) (S:=fun e b=>(y2h ⟨e⟩ b t).bind fun x=>some (x.1,x.2.fE)) (ok:=yak (val t)) (g:=fun b=>ofQ (vq (val t) b)) (z:=⟨0,0⟩) (k:=k) (K3:=K3) (L:=fun n out i e=>y3j c t k n out i e)
  (fun b hb=>⟨by rw[value_ok (hc b hb) ht];cases yak (val t) b <;> rfl,by rw[ykt (by decide)];rfl⟩) ?_ ?_ hK n [] 0 (by omega) rfl (by omega) (by omega)).2
 ·simpa using this
 ·intro n out i e v e' h0 h ho hS
  show y3j c t k (n+1) out i e=_
  rw[y3j,if_pos (by simpa using h),yt ⟨h0,h⟩]
  show Option.bind (y2h ⟨e⟩ (nth c i) t) _=_
  cases hv:y2h ⟨e⟩ (nth c i) t with
  | none=>rw[hv] at hS;cases hS
  | some x=>
   rw[hv] at hS
   have hS:some (x.1,x.2.fE)=some (v,e'):=hS
   obtain⟨rfl,rfl⟩:=Prod.mk.inj (oJ hS)
   rw[oB,yt (by simp only[List.length_append,List.length_cons,List.length_nil];omega),yz (by omega)]
 ·intro n out i e h
  show y3j c t k (n+1) out i e=_
  rw[y3j,if_neg (by simpa using h)]
theorem at_eq{c:List B}(hc:VC c=true)(ht:GR t=true):y5a c t=some (if c.all (yak (val t)) then(ofQ (AT c (val t)),0) else(⟨0,0⟩,3)):=by
 have hl:=yfL hc
 unfold y5a
 rw[y7i,yeb,hc,ht]
 simp only[oB,Bool.not_true,Bool.false_eq_true,if_false]
 refine yb4 (P:=fun o=>o=_) fun k hk=>?_
 rw[at_loop (K3:=some (⟨0,0⟩,3)) (y96 hc) ht (by omega) (fun out=>by rw[hk];rfl) (by rw[yV];omega)]
 cases ha:c.all (yak (val t)) with
 | true=>
  rw[if_pos rfl,if_pos rfl,hk,if_neg (by simp)]
  rw[List.all_eq_true] at ha
  rw[minR_eq (l:=c.map fun b=>ofQ (vq (val t) b)) ?_ ?_ (by simp;omega),oB]
  ·rw[List.map_map]
   congr 3
   unfold AT
   congr 2
   funext b
   exact y5p _
  ·intro x hx
   obtain⟨b,hb,rfl⟩:=List.mem_map.1 hx
   have:=ha b hb
   simp only[yak,Bool.and_eq_true] at this
   exact y7u this.2
  ·intro h
   have:=congrArg List.length h
   simp at this;subst this;simp at hl
 | false=>simp
theorem yi0{c:List B}(h:¬(VC c=true/\GR t=true)):y5a c t=some (⟨0,0⟩,2):=by
 unfold y5a
 rw[y7i,yeb]
 cases h1:VC c <;> cases h2:GR t <;> simp_all
theorem yef{c:List B}(hc:VC c=true):c≠[]:=fun h=>by have:=yfL hc;subst h;simp at this
theorem yja{c:List B}(hc:VC c=true):∃ d,y5d c=some (d.fRate,0)/\d∈c/\∀ x∈c,rq d<=rq x:=by
 have hl:=yfL hc
 unfold y5d
 rw[y7i,hc]
 simp only[oB,Bool.not_true,Bool.false_eq_true,if_false]
 obtain⟨d,e,h1,h2⟩:=minB_eq (y96 hc) (yef hc) (by omega)
 rw[e]
 exact⟨d,rfl,h1,h2⟩
theorem SB.val{b:B}{t:Rat}(h:SB b)(ht:G m 4 t):G (5*m) 32 (rq b*t)/\G (100+5*m) 32 (vq t b):=by
 have h1:=h.2.2.mul ht
 exact⟨h1,(h.2.1.fine 32 (by omega)).add (by omega) h1⟩
theorem SC.ne{c:List B}(h:SC c):c≠[]:=yef h.VC
theorem SC.at{c:List B}{t:Rat}(h:SC c)(ht:G m 4 t):G (100+5*m) 32 (AT c t):=by
 obtain⟨b,hb,e⟩:=List.mem_map.1 (yfN (t:=t) h.ne).1
 rw[<- e]
 exact((h.2.2 b hb).val ht).2
end Go.Proofs.YthjnhebofpebpaaGreat
namespace Go.Proofs.YthjnhebofpebpaaGreat
open Go Go.RowKit Sep
variable {t:Rat}
/-! ### the order of buckets -/
def le2(a b:B):Prop:=bq a<=bq b/\rq a<=rq b
instance (a b:B):Decidable (le2 a b):=inferInstanceAs (Decidable (_/\_))
theorem yi1(a:B):le2 a a:=⟨Rat.le_refl,Rat.le_refl⟩
theorem yku{a b c:B}(h:le2 a b)(h':le2 b c):le2 a c:=⟨Rat.le_trans h.1 h'.1,Rat.le_trans h.2 h'.2⟩
theorem dom_iff{a b:B}:dom a b=true↔a≠b/\le2 a b:=by unfold dom le2;simp[and_assoc]
theorem ykv{a b:B}:dom a b=false↔(le2 a b->a=b):=by
 rw[Bool.eq_false_iff,ne_eq,dom_iff]
 constructor
 ·intro h h'
  exact Classical.byContradiction fun hn=>h ⟨hn,h'⟩
 ·intro h h'
  exact h'.1 (h h'.2)
theorem ygt{c:List B}{v:B}:v∈y24 c↔v∈c/\∀ a∈c,le2 a v->a=v:=by
 rw[yfa];simp only[ykv]
theorem cmpb{a b:B}(ha:GB a=true)(hb:GB b=true):y1w a.fBurst b.fBurst=some (y5P (bq a) (bq b)):=y95 (y57 (y9A ha)) (y57 (y9A hb))
theorem ydC{α:Type}(key:α->Rat)(l:List α)(h:l≠[]):∃ x∈l,∀ y∈l,key x<=key y:=by
 have hm:=yee (l.map key) (by simpa using h)
 obtain⟨x,hx,e⟩:=List.mem_map.1 hm.1
 exact⟨x,hx,fun y hy=>by rw[e];exact hm.2 _ (List.mem_map_of_mem hy)⟩
theorem ycG{c:List B}(hc:∀ b∈c,GB b=true){v:B}(hv:v∈c):∃ a∈y24 c,le2 a v:=by
 have hne:(c.filter fun a=>decide (le2 a v))≠[]:=List.ne_nil_of_mem (List.mem_filter.2 ⟨hv,decide_eq_true (yi1 v)⟩)
 obtain⟨a,ha,hle⟩:=ydC (fun b=>bq b+rq b) _ hne
 obtain⟨ha,hav⟩:=List.mem_filter.1 ha
 have hav:=of_decide_eq_true hav
 refine⟨a,ygt.2 ⟨ha,fun b hb hba=>?_⟩,hav⟩
 have h1:=hle b (List.mem_filter.2 ⟨hb,decide_eq_true (yku hba hav)⟩)
 have h2:=hba.1;have h3:=hba.2
 refine yjR (hc b hb) (hc a ha) ?_ ?_ <;> grind
theorem NORM_all{c:List B}(hc:∀ b∈c,GB b=true):∀ b∈y24 c,GB b=true:=fun b hb=>hc b (ygt.1 hb).1
theorem NORM_sub{c:List B}{b:B}(hb:b∈y24 c):b∈c:=(ygt.1 hb).1
theorem yjb{c:List B}(hc:∀ b∈c,GB b=true)(h:c≠[]):y24 c≠[]:=by
 obtain⟨v,hv⟩:=List.exists_mem_of_ne_nil c h
 obtain⟨a,ha,_⟩:=ycG hc hv
 exact List.ne_nil_of_mem ha
theorem VC_of{c:List B}(hc:∀ b∈c,GB b=true)(h:c≠[])(hl:c.length<=32):VC c=true:=by
 unfold VC
 rw[Bool.and_eq_true,decide_eq_true_eq,List.all_eq_true]
 have:=List.length_pos_iff.2 h
 exact⟨⟨by omega,hl⟩,hc⟩
/-! values of lists -/
theorem vq_le{a b:B}(h:le2 a b)(ht:0<=t):vq t a<=vq t b:=by
 have h1:=h.1
 have h2:=Rat.mul_le_mul_of_nonneg_right h.2 ht
 unfold vq
 grind
theorem AT_congr{c d:List B}(hc:c≠[])(hd:d≠[])(ht:0<=t)(h1:∀ v∈c,∃ a∈d,le2 a v)(h2:∀ v∈d,∃ a∈c,le2 a v):AT c t=AT d t:=by
 have sub:∀ {c d:List B},c≠[]->d≠[]->(∀ v∈c,∃ a∈d,le2 a v)->AT d t<=AT c t:=by
  intro c d hc hd h
  obtain⟨b,hb,e⟩:=List.mem_map.1 (yfN (t:=t) hc).1
  obtain⟨a,ha,hab⟩:=h b hb
  rw[<- e]
  exact Rat.le_trans ((yfN (t:=t) hd).2 _ (List.mem_map_of_mem ha)) (vq_le hab ht)
 exact Rat.le_antisymm (sub hd hc h2) (sub hc hd h1)
theorem ygu{c:List B}(hc:∀ b∈c,GB b=true)(hn:c≠[])(ht:0<=t):AT (y24 c) t=AT c t:=
 AT_congr (yjb hc hn) hn ht (fun v hv=>⟨v,NORM_sub hv,yi1 v⟩) (fun v hv=>ycG hc hv)
/-! ### Shift -/
end Go.Proofs.YthjnhebofpebpaaGreat
namespace Go.Proofs.YthjnhebofpebpaaGreat
open Go Go.RowKit Sep
/-! ### a loop over a function's pairs -/
def y6L{β Sg:Type}(y:β->Sg->Option (Bool×Sg))(k:Sg->Option Sg):List β->Sg->Option Sg
 | [],s=>k s
 | p::l,s=>(y p s).bind fun x=>if !x.1 then some x.2 else y6L y k l x.2
theorem yeJ{β Sg:Type}{y:β->Sg->Option (Bool×Sg)}{k:Sg->Option Sg}{m:List β}:∀(l:List β) (s:Sg),y6L y k (l++m) s=y6L y (y6L y k m) l s
 | [],s=>rfl
 | p::l,s=>by
  show Option.bind _ _=Option.bind _ _
  congr 1
  funext x
  show(if _ then _ else y6L y k (l++m) x.2)=_
  rw[yeJ l]
theorem ycH{β Sg:Type}{y:β->Sg->Option (Bool×Sg)}{k k':Sg->Option Sg}(h:∀ s,k s=k' s):∀(l:List β) (s:Sg),y6L y k l s=y6L y k' l s
 | [],s=>h s
 | p::l,s=>by
  show Option.bind _ _=Option.bind _ _
  congr 1
  funext x
  rw[ycH h l]
theorem yeK{Sg:Type}{c d:List B}{y:B×B->Sg->Option (Bool×Sg)}{v:Int}{k:Sg->Option Sg}(hs:(d.length:Int)<=1000000):
  ∀(n:Nat) (i:Int) (s:Sg),0<=i->i<=d.length->d.length<n+i->y3K Sg d y c v k n i s=y6L y k ((d.drop i.toNat).map fun z=>(nth c v,z)) s
 | 0,i,s,h0,h1,h2=>by omega
 | n+1,i,s,h0,h1,h2=>by
  rw[y3K]
  by_cases h:i<d.length
  ·rw[if_pos (decide_eq_true h),yt ⟨h0,h⟩,y3y h0 h,List.map_cons,y6L]
   show Option.bind (y (nth c v,nth d i) s) _=_
   congr 1
   funext x
   rw[yz (by omega),yeK hs n (i+1) x.2 (by omega) (by omega) (by omega)]
  ·rw[if_neg (by simpa using h),y4j h]
   rfl
def y6M(a b:List B):List (B×B):=a.flatMap fun x=>b.map fun z=>(x,z)
theorem ycI{a b:List B}{p:B×B}:p∈y6M a b↔p.1∈a/\p.2∈b:=by
 unfold y6M
 simp only[List.mem_flatMap,List.mem_map]
 constructor
 ·rintro⟨x,hx,z,hz,rfl⟩;exact⟨hx,hz⟩
 ·intro h;exact⟨p.1,h.1,p.2,h.2,rfl⟩
theorem yiI(a b:List B):(y6M a b).length=a.length*b.length:=by
 induction a with
 | nil=>simp[y6M]
 | cons x a ih=>
  have:y6M (x::a) b=b.map (fun z=>(x,z))++y6M a b:=rfl
  rw[this,List.length_append,ih,List.length_map,List.length_cons,Nat.succ_mul];omega
theorem yeL{Sg:Type}{c d:List B}{y:B×B->Sg->Option (Bool×Sg)}{k:Sg->Option Sg}(hs:(c.length:Int)<=1000000)(hd:(d.length:Int)<=1000000):
  ∀(n:Nat) (i:Int) (s:Sg),0<=i->i<=c.length->c.length<n+i->y3L Sg c d y k n i s=y6L y k (y6M (c.drop i.toNat) d) s
 | 0,i,s,h0,h1,h2=>by omega
 | n+1,i,s,h0,h1,h2=>by
  rw[y3L]
  by_cases h:i<c.length
  ·rw[if_pos (decide_eq_true h)]
   refine y28 (P:=fun o=>o=_) fun k1 hk1=>?_
   rw[yt ⟨h0,h⟩]
   refine y28 (P:=fun o=>o=_) fun k2 hk2=>?_
   rw[yeK hd yy 0 s (by omega) (by omega) (by rw[yV];omega),y3y h0 h]
   show _=y6L y k (((d.map fun z=>(nth c i,z)))++y6M (c.drop (i+1).toNat) d) s
   rw[yeJ,Int.toNat_zero,List.drop_zero]
   refine ycH (fun s'=>?_) _ _
   rw[hk2,hk1,yz (by omega),yeL hs hd n (i+1) s' (by omega) (by omega) (by omega)]
  ·rw[if_neg (by simpa using h),y4j h]
   rfl
theorem pairs_eq{Sg:Type}{c d:List B}{y:B×B->Sg->Option (Bool×Sg)}{s:Sg}(hs:(c.length:Int)<=1000000)(hd:(d.length:Int)<=1000000):
  y5m Sg y s c d=y6L y some (y6M c d) s:=by
 unfold y5m
 refine y28 (P:=fun o=>o=_) fun k hk=>?_
 rw[yeL hs hd yy 0 s (by omega) (by omega) (by rw[yV];omega),Int.toNat_zero,List.drop_zero]
 exact ycH hk _ _
theorem yjc{β γ:Type}{y:β->Nat×List γ×Int->Option (Bool×(Nat×List γ×Int))}{ok:β->Bool}{g:β->List γ}{N:Nat}:
  ∀(l:List β) (out:List γ),out.length+l.length<=N->
   (∀ p∈l,(g p).length<=1/\∀ out:List γ,out.length<N->(ok p=true->y p (0,out,0)=some (true,(0,out++g p,0)))/\(ok p=false->∃ o,o.length<=out.length+1/\y p (0,out,0)=some (true,(0,o,3)))/\∃ o,o.length<=out.length+1/\y p (0,out,3)=some (true,(0,o,3)))->
   (∃ out',y6L y some l (0,out,3)=some (0,out',3))/\∃ out',y6L y some l (0,out,0)=some (0,if l.all ok then(out++l.flatMap g,0) else(out',3))
 | [],out,hl,h=>⟨⟨out,rfl⟩,⟨out,by simp[y6L]⟩⟩
 | p::l,out,hl,h=>by
  simp only[List.length_cons] at hl
  obtain⟨h1,hp⟩:=h p (by simp)
  obtain⟨h2,h3,h4⟩:=hp out (by omega)
  have ih:=fun o ho=>yjc l o ho fun q hq=>h q (by simp[hq])
  constructor
  ·obtain⟨o1,hl1,e1⟩:=h4
   obtain⟨o,ho⟩:=(ih o1 (by omega)).1
   exact⟨o,by rw[y6L,e1,oB];exact ho⟩
  ·cases hb:ok p with
   | true=>
    obtain⟨o,ho⟩:=(ih (out++g p) (by rw[List.length_append];omega)).2
    refine⟨o,?_⟩
    rw[y6L,h2 hb,oB]
    refine Eq.trans (show _=y6L y some l (0,out++g p,0) from rfl) (ho.trans ?_)
    rw[List.all_cons,hb,Bool.true_and,List.flatMap_cons,List.append_assoc]
   | false=>
    obtain⟨o1,hl1,e1⟩:=h3 hb
    obtain⟨o,ho⟩:=(ih o1 (by omega)).1
    refine⟨o,?_⟩
    rw[y6L,e1,oB]
    refine Eq.trans (show _=y6L y some l (0,o1,3) from rfl) (ho.trans ?_)
    rw[List.all_cons,hb,Bool.false_and,if_neg Bool.false_ne_true]
/-! ### Sum -/
theorem yc6{e:Int}(he:e≠0){f:R->R->Option (R×Int)}{x y:R}:y26 ⟨e⟩ f x y=some (⟨0,0⟩,⟨e⟩):=by
 unfold y26;rw[if_pos (by simpa using he)]
theorem do_ok{f:R->R->Option (R×Int)}{x y:R}{q:Rat}(h:f x y=some (mk q)):y26 ⟨0⟩ f x y=some (if fits q then(ofQ q,⟨0⟩) else(⟨0,0⟩,⟨3⟩)):=by
 unfold y26
 rw[if_neg (by simp),h,oB]
 unfold mk
 cases fits q <;> rfl
/-! ### Min -/
end Go.Proofs.YthjnhebofpebpaaGreat
namespace Go.Proofs.YthjnhebofpebpaaGreat
open Go Go.RowKit Sep
theorem ygv{R:Type}{K:Option R}{F:Option R->Option R}{P:Option R->Prop}(h:∀ k:Option R,k=K->P (F k)):P (jp0 K F):=h K rfl
/-! ### Compact -/
def Inc(l:List R):Prop:=l.Pairwise fun x y=>val x<val y
theorem Inc.ext:∀ {l m:List R},Inc l->Inc m->(∀ v,v∈l↔v∈m)->l=m
 | [],[],_,_,_=>rfl
 | [],y::m,_,_,h=>by have:=(h y).2 (by simp);simp at this
 | x::l,[],_,_,h=>by have:=(h x).1 (by simp);simp at this
 | x::l,y::m,hl,hm,h=>by
  obtain⟨h1,hl'⟩:=List.pairwise_cons.1 hl
  obtain⟨h2,hm'⟩:=List.pairwise_cons.1 hm
  have e:x=y:=by
   rcases List.mem_cons.1 ((h x).1 (by simp)) with e | h3
   ·exact e
   ·rcases List.mem_cons.1 ((h y).2 (by simp)) with e | h4
    ·exact e.symm
    ·have:=h1 y h4;have:=h2 x h3;grind
  subst e
  refine congrArg (x::·) (Inc.ext hl' hm' fun v=>?_)
  constructor
  ·intro hv
   rcases List.mem_cons.1 ((h v).1 (by simp[hv])) with e | h3
   ·subst e;have:=h1 v hv;grind
   ·exact h3
  ·intro hv
   rcases List.mem_cons.1 ((h v).2 (by simp[hv])) with e | h3
   ·subst e;have:=h2 v hv;grind
   ·exact h3
theorem yiJ{a b c:Rat}(h:a<=b)(h':b<c):a<c:=by grind
def y9D(s0:List R)(m:Int)(r:List R):Prop:=Inc r/\(∀ v,v∈r↔v∈s0.take m.toNat)/\(r.length:Int)<=m
theorem y9D.step{s0:List R}(hv:∀ x∈s0,V x=true)(hs:s0.Pairwise fun x y=>val x<=val y){m:Int}(h0:1<=m)(h:m<s0.length){r:List R}(hr:y9D s0 m r):
  (nth s0 m=nth s0 (m-1)->y9D s0 (m+1) r)/\(nth s0 m≠nth s0 (m-1)->y9D s0 (m+1) (r++[nth s0 m])):=by
 have ht:=take_succ s0 (i:=m) (by omega) h
 have hp:=take_succ s0 (i:=m-1) (by omega) (by omega)
 have hm1:nth s0 (m-1)∈s0.take m.toNat:=by
  rw[show m=m-1+1 by omega,hp];simp
 constructor
 ·intro e
  refine⟨hr.1,fun v=>?_,by have:=hr.2.2;omega⟩
  rw[ht,hr.2.1,List.mem_append,List.mem_singleton]
  constructor
  ·exact fun h => .inl h
  ·rintro(h | rfl)
   ·exact h
   ·rw[e];exact hm1
 ·intro e
  have hlt:val (nth s0 (m-1))<val (nth s0 m):=by
   have h1:=List.pairwise_iff_getElem.1 hs (m-1).toNat m.toNat (by omega) (by omega) (by omega)
   rw[y5L (by omega) (by omega),y5L (by omega) (by omega)] at h1
   rcases yf8 h1 with h | h
   ·exact h
   ·exact absurd (ye9 (hv _ (yO (by omega) (by omega))) (hv _ (yO (by omega) (by omega))) h).symm e
  constructor
  ·unfold Inc
   rw[List.pairwise_append]
   refine⟨hr.1,by simp,fun a ha b hb=>?_⟩
   obtain rfl:=List.mem_singleton.1 hb
   have ha:=(hr.2.1 a).1 ha
   obtain⟨i,hi,rfl⟩:=List.mem_iff_getElem.1 ha
   rw[List.length_take] at hi
   rw[List.getElem_take]
   refine yiJ ?_ hlt
   by_cases e2:i=(m-1).toNat
   ·subst e2
    rw[y5L (by omega) (by omega)];exact Rat.le_refl
   ·have h1:=List.pairwise_iff_getElem.1 hs i (m-1).toNat (by omega) (by omega) (by omega)
    rw[y5L (i:=m-1) (by omega) (by omega)] at h1
    exact h1
  ·refine⟨fun v=>?_,by have:=hr.2.2;rw[List.length_append,List.length_singleton];omega⟩
   rw[ht,List.mem_append,List.mem_append,hr.2.1]
theorem yjS{s:List R}{k j:Int}{v:R}(h0:0<=k)(h1:0<=j)(h:k≠j):nth (s.set k.toNat v) j=nth s j:=by
 unfold nth
 rw[List.getD_eq_getElem?_getD,List.getD_eq_getElem?_getD,List.getElem?_set_ne (by omega)]
theorem take_set{s:List R}{k:Int}{v:R}(h0:0<=k)(h:k<s.length):(s.set k.toNat v).take (k+1).toNat=s.take k.toNat++[v]:=by
 rw[show(k+1).toNat=k.toNat+1 by omega,List.take_add_one,List.take_set_of_le (by omega),List.getElem?_set_self (by omega)]
 rfl
theorem yfb{s0:List R}{K:Int}{k:List R->Int->Option (List R)}(hv:∀ x∈s0,V x=true)(hs:s0.Pairwise fun x y=>val x<=val y)(hK:1<=K/\K<s0.length)(hl:(s0.length:Int)<=1000000):
  ∀(n:Nat) (s:List R) (j i:Int),1<=i->K+i<=s0.length->s0.length-K<n+i->K<=j->j<=K+i-1->s.length=s0.length->(∀ q:Int,K+i-1<=q->nth s q=nth s0 q)->y9D s0 (K+i) (s.take j.toNat)->
   ∃ s' j',y1m s0 K k n s j i=k s' j'/\0<=j'/\j'<=s'.length/\y9D s0 s0.length (s'.take j'.toNat)
 | 0,s,j,i,h0,h1,h2,h3,h4,h5,h6,h7=>by omega
 | n+1,s,j,i,h0,h1,h2,h3,h4,h5,h6,h7=>by
  rw[y1m]
  by_cases h:i<((s0.length-K.toNat:Nat):Int)
  ·rw[if_pos (decide_eq_true h)]
   simp only[jp2]
   rw[yz (x:=i-1) (by omega),yt (by omega),yt (by omega)]
   have e1:nth s (K+i)=nth s0 (K+i):=h6 _ (by omega)
   have e2:nth s (K+(i-1))=nth s0 (K+i-1):=by rw[show K+(i-1)=K+i-1 by omega];exact h6 _ (by omega)
   show ∃ s' j',(if decide (nth s (K+i)≠nth s (K+(i-1))) then _ else _)=_/\_
   rw[e1,e2]
   have st:=y9D.step hv hs (m:=K+i) (by omega) (by omega) h7
   by_cases he:nth s0 (K+i)=nth s0 (K+i-1)
   ·rw[if_neg (by simpa using he),yz (x:=i+1) (by omega)]
    refine yfb (k:=k) hv hs hK hl n s j (i+1) (by omega) (by omega) (by omega) h3 (by omega) h5 (fun q hq=>h6 q (by omega)) ?_
    rw[show K+(i+1)=K+i+1 by omega]
    exact st.1 he
   ·rw[if_pos (decide_eq_true he),yt (by omega),yt (by omega),yz (x:=i+1) (by omega),yz (x:=j+1) (by omega)]
    have eta:(⟨(nth s0 (K+i)).fN,(nth s0 (K+i)).fD⟩:R)=nth s0 (K+i):=rfl
    rw[eta]
    refine yfb (k:=k) hv hs hK hl n (s.set j.toNat (nth s0 (K+i))) (j+1) (i+1) (by omega) (by omega) (by omega) (by omega) (by omega) (by rw[List.length_set];exact h5) (fun q hq=>?_) ?_
    ·rw[yjS (by omega) (by omega) (by omega)]
     exact h6 q (by omega)
    ·rw[take_set (by omega) (by omega),show K+(i+1)=K+i+1 by omega]
     exact st.2 he
  ·rw[if_neg (by simpa using h)]
   refine⟨s,j,rfl,by omega,by omega,?_⟩
   rw[show(s0.length:Int)=K+i by omega]
   exact h7
theorem yi2{s0:List R}{k:Option (List R)}(hv:∀ x∈s0,V x=true)(hs:s0.Pairwise fun x y=>val x<=val y)(hl:(s0.length:Int)<=1000000)(hk:k=some s0):
  ∀(n:Nat) (i:Int),1<=i->i<=s0.length->s0.length<n+i->y9D s0 i (s0.take i.toNat)->
   ∃ r,y1n s0 k n i=some r/\y9D s0 s0.length r
 | 0,i,h0,h1,h2,h3=>by omega
 | n+1,i,h0,h1,h2,h3=>by
  rw[y1n]
  by_cases h:i<s0.length
  ·rw[if_pos (decide_eq_true h)]
   refine ygv (P:=fun o=>∃ r,o=some r/\y9D s0 s0.length r) fun k1 hk1=>?_
   rw[yz (x:=i+1) (by omega)] at hk1
   rw[yz (x:=i-1) (by omega),yt (by omega),yt (by omega)]
   have st:=y9D.step hv hs (m:=i) h0 h h3
   show ∃ r,(if decide (nth s0 i=nth s0 (i-1)) then _ else _)=_/\_
   by_cases he:nth s0 i=nth s0 (i-1)
   ·rw[if_pos (decide_eq_true he),yt (by omega)]
    refine yb4 (P:=fun o=>∃ r,o=some r/\y9D s0 s0.length r) fun k2 hk2=>?_
    obtain⟨s',j',e,h4,h5,h6⟩:=yfb (k:=k2) hv hs ⟨h0,h⟩ hl yy s0 i 1 (by omega) (by omega) (by rw[yV];omega) (by omega) (by omega) rfl (fun q _=>rfl) (by exact st.1 he)
    rw[e,hk2]
    have ht:(s'.take j'.toNat++List.replicate (s'.length-j'.toNat) ((⟨0,0⟩:R):R)).take j'.toNat=s'.take j'.toNat:=by
     rw[List.take_append_of_le_length (by rw[List.length_take];omega),List.take_take,Nat.min_self]
    rw[yt ⟨h4,h5⟩,yt ⟨h4,by rw[List.length_append,List.length_take,List.length_replicate];omega⟩]
    exact⟨_,congrArg some ht,h6⟩
   ·rw[if_neg (by simpa using he),hk1]
    refine yi2 hv hs hl hk n (i+1) (by omega) (by omega) (by omega) ?_
    rw[take_succ s0 (by omega) h]
    exact st.2 he
  ·rw[if_neg (by simpa using h)]
   refine⟨s0,hk,?_⟩
   rw[show(s0.length:Int)=i by omega]
   have:=h3
   rwa [List.take_of_length_le (by omega)] at this
theorem yjT{s0:List R}(hv:∀ x∈s0,V x=true)(hs:s0.Pairwise fun x y=>val x<=val y)(hl:(s0.length:Int)<=1000000):
  ∃ r,y2o s0=some r/\Inc r/\(∀ v,v∈r↔v∈s0)/\r.length<=s0.length:=by
 unfold y2o
 by_cases h:(s0.length:Int)<2
 ·rw[if_pos (decide_eq_true h)]
  refine⟨s0,rfl,?_,fun _=>Iff.rfl,Nat.le_refl _⟩
  unfold Inc
  rcases s0 with _ | ⟨x,_ | ⟨y,l⟩⟩
  ·exact .nil
  ·simp
  ·simp only[List.length_cons] at h;omega
 ·rw[if_neg (by simpa using h)]
  refine ygv (P:=fun o=>∃ r,o=some r/\Inc r/\(∀ v,v∈r↔v∈s0)/\r.length<=s0.length) fun k hk=>?_
  have h1:y9D s0 1 (s0.take (1:Int).toNat):=by
   refine⟨?_,fun _=>Iff.rfl,by rw[List.length_take];omega⟩
   have:=take_succ s0 (i:=0) (by omega) (by omega)
   rw[show((0:Int)+1)=1 from rfl,Int.toNat_zero,List.take_zero,List.nil_append] at this
   rw[this]
   simp[Inc]
  obtain⟨r,e,hr⟩:=yi2 hv hs hl hk yy 1 (by omega) (by omega) (by rw[yV];omega) h1
  refine⟨r,e,hr.1,fun v=>?_,by have:=hr.2.2;omega⟩
  rw[hr.2.1,Int.toNat_natCast,List.take_length]
end Go.Proofs.YthjnhebofpebpaaGreat
namespace Go.Proofs.YthjnhebofpebpaaGreat
open Go Go.RowKit Sep
/-! ### Breaks -/
def bpA(p:B×B):Rat:=bq p.2-bq p.1
def bpD(p:B×B):Rat:=rq p.1-rq p.2
def bp(p:B×B):Rat:=bpA p / bpD p
def bfit(p:B×B):Bool:=fits (bpA p)&&fits (bpD p)&&fits (bp p)
def bl(p:B×B):Bool:=decide (bq p.1<bq p.2)
def bok(p:B×B):Bool := !bl p||bfit p
def bg(p:B×B):List R:=if bl p then[ofQ (bp p)] else[]
theorem yjU{p:B×B}{out:List R}(h1:GB p.1=true)(h2:GB p.2=true)(hd:bl p=true->rq p.2<rq p.1)(hl:out.length<2000):
  (bok p=true->y1M p out 0=some (true,(0,out++bg p,0)))/\(bok p=false->∃ o,o.length<=out.length+1/\y1M p out 0=some (true,(0,o,3)))/\∃ o,o.length<=out.length+1/\y1M p out 3=some (true,(0,o,3)):=by
 unfold y1M
 rw[cmpb h1 h2]
 simp only[oB]
 have a1:=do_ok (f:=fun y0 y1=>y2z y0 y1) (yc4 (y57 (y9A h2)) (y57 (y9A h1)))
 have a2:=do_ok (f:=fun y0 y1=>y2z y0 y1) (yc4 (y57 (y9B h1)) (y57 (y9B h2)))
 have e1:val p.2.fBurst-val p.1.fBurst=bpA p:=rfl
 have e2:val p.1.fRate-val p.2.fRate=bpD p:=rfl
 rw[e1] at a1;rw[e2] at a2
 unfold bok bg
 by_cases hb:bq p.1<bq p.2
 ·have hbl:bl p=true:=decide_eq_true hb
  rw[if_pos (decide_eq_true (y89.2 hb)),if_pos (decide_eq_true (y89.2 hb))]
  rw[hbl,if_pos rfl]
  have hpos:0<bpD p:=by have:=hd hbl;unfold bpD;grind
  have l1:∀ v:R,(((out++[v]).length:Nat):Int)*16<=140737488355328/\(((out++[v]).length:Nat):Int)<=4611686018427387904:=fun v=>by
   simp only[List.length_append,List.length_cons,List.length_nil];omega
  refine⟨fun hk=>?_,fun hk=>?_,?_⟩
  ·simp only[Bool.not_true,Bool.false_or,bfit,Bool.and_eq_true] at hk
   obtain⟨⟨f1,f2⟩,f3⟩:=hk
   rw[a1,f1,if_pos rfl,oB]
   simp only[]
   rw[a2,f2,if_pos rfl,oB]
   simp only[]
   have hn:(ofQ (bpD p)).fN≠0:=by
    intro h0
    have h1:(bpD p).num=0:=h0
    rw[Rat.num_eq_zero.1 h1] at hpos
    exact absurd hpos (by decide)
   have a3:=do_ok (f:=fun y0 y1=>y46 y0 y1) (yc5 (y7u f1) (y7u f2) hn)
   rw[y5p,y5p] at a3
   have e3:bpA p / bpD p=bp p:=rfl
   rw[e3,f3,if_pos rfl] at a3
   rw[a3,oB]
   rw[yt (l1 _)]
  ·simp only[Bool.not_true,Bool.false_or,bfit] at hk
   cases f1:fits (bpA p) with
   | false=>
    rw[a1,f1,if_neg Bool.false_ne_true,oB]
    simp only[]
    rw[yc6 (by decide),oB]
    simp only[]
    rw[yc6 (by decide),oB,yt (l1 _)]
    exact⟨_,by simp,rfl⟩
   | true=>
    rw[a1,f1,if_pos rfl,oB]
    simp only[]
    cases f2:fits (bpD p) with
    | false=>
     rw[a2,f2,if_neg Bool.false_ne_true,oB]
     simp only[]
     rw[yc6 (by decide),oB,yt (l1 _)]
     exact⟨_,by simp,rfl⟩
    | true=>
     rw[a2,f2,if_pos rfl,oB]
     simp only[]
     have hn:(ofQ (bpD p)).fN≠0:=by
      intro h0
      have h1:(bpD p).num=0:=h0
      rw[Rat.num_eq_zero.1 h1] at hpos
      exact absurd hpos (by decide)
     have a3:=do_ok (f:=fun y0 y1=>y46 y0 y1) (yc5 (y7u f1) (y7u f2) hn)
     rw[y5p,y5p] at a3
     have e3:bpA p / bpD p=bp p:=rfl
     rw[f1,f2,Bool.true_and,Bool.true_and] at hk
     rw[e3,hk,if_neg Bool.false_ne_true] at a3
     rw[a3,oB,yt (l1 _)]
     exact⟨_,by simp,rfl⟩
  ·rw[yc6 (by decide),oB]
   simp only[]
   rw[yc6 (by decide),oB]
   simp only[]
   rw[yc6 (by decide),oB,yt (l1 _)]
   exact⟨_,by simp,rfl⟩
 ·have hbl:bl p=false:=decide_eq_false hb
  have hn:¬decide (y5P (bq p.1) (bq p.2)<0)=true:=fun h=>hb (y89.1 (of_decide_eq_true h))
  rw[if_neg hn,if_neg hn,hbl,if_neg Bool.false_ne_true]
  refine⟨fun _=>by rw[List.append_nil],fun h=>by simp at h,⟨out,by omega,rfl⟩⟩
theorem ydD:∀ {l:List B},(l.Pairwise fun x y=>bq x<bq y/\rq y<rq x)->∀ {x y:B},x∈l->y∈l->bq x<bq y->rq y<rq x
 | [],_,x,y,hx,_,_=>by simp at hx
 | z::l,h,x,y,hx,hy,hxy=>by
  obtain⟨h1,h2⟩:=List.pairwise_cons.1 h
  rcases List.mem_cons.1 hx with e | hx'
  ·subst e
   rcases List.mem_cons.1 hy with e | hy'
   ·subst e;grind
   ·exact(h1 y hy').2
  ·rcases List.mem_cons.1 hy with e | hy'
   ·subst e;have:=(h1 x hx').1;grind
   ·exact ydD h2 hx' hy' hxy
theorem bok_fit{p:B×B}(h:bok p=true)(h2:bl p=true):fits (bp p)=true:=by
 unfold bok bfit at h
 rw[h2] at h
 simp only[Bool.not_true,Bool.false_or,Bool.and_eq_true] at h
 exact h.2
theorem ybv{c:List B}(hc:VC c=true):
  if (y6M (y24 c) (y24 c)).all bok then ∃ r,y27 c=some (r,0)/\Inc r/\(∀ v,v∈r↔∃ p,(p.1∈y24 c/\p.2∈y24 c)/\bl p=true/\v=ofQ (bp p))/\(∀ v∈r,V v=true)/\r.length<=1100
  else y27 c=some ([],3):=by
 have la:=yfL hc;have na:=NORM_len c
 have ga:=NORM_all (y96 hc)
 unfold y27
 rw[y7i,hc,norm_eq (y96 hc) (by omega)]
 simp only[oB,Bool.not_true,Bool.false_eq_true,if_false]
 have hp:=yiI (y24 c) (y24 c)
 have hm:(y24 c).length*(y24 c).length<=32*32:=Nat.mul_le_mul (by omega) (by omega)
 obtain⟨o,ho⟩:=(yjc (y:=fun(x:B×B) (s:Nat×List R×Int)=>chk (s.1=0) (y1M x s.2.1 s.2.2)) (ok:=bok) (g:=bg) (N:=1100) (y6M (y24 c) (y24 c)) [] (by rw[hp];simp;omega) (by
   intro p hp
   have hm:=ycI.1 hp
   refine⟨by unfold bg;split <;> simp,fun out hl=>?_⟩
   have st:=yjU (p:=p) (out:=out) (ga _ hm.1) (ga _ hm.2) (fun h=>ydD y8n hm.1 hm.2 (of_decide_eq_true h)) (by omega)
   refine⟨fun hk=>?_,fun hk=>?_,?_⟩
   ·show chk (0=0) (y1M p out 0)=_
    rw[yt rfl];exact st.1 hk
   ·obtain⟨o,h1,h2⟩:=st.2.1 hk
    refine⟨o,h1,?_⟩
    show chk (0=0) (y1M p out 0)=_
    rw[yt rfl];exact h2
   ·obtain⟨o,h1,h2⟩:=st.2.2
    refine⟨o,h1,?_⟩
    show chk (0=0) (y1M p out 3)=_
    rw[yt rfl];exact h2)).2
 have key:∀ k:Int->List R->Option (List R×Int),(y7b (y24 c) (y24 c)).bind (fun zLE=>(y5m (Nat×List R×Int) (fun(x:B×B) (s:Nat×List R×Int)=>chk (s.1=0) (y1M x s.2.1 s.2.2)) (0,([]:List R),0) zLE.1 zLE.2).bind fun zLF=>k zLF.2.2 zLF.2.1)=if (y6M (y24 c) (y24 c)).all bok then k 0 ((y6M (y24 c) (y24 c)).flatMap bg) else k 3 o:=by
  intro k
  unfold y7b
  rw[oB]
  simp only[]
  rw[pairs_eq (by omega) (by omega),ho,oB]
  split <;> simp
 cases hf:(y6M (y24 c) (y24 c)).all bok with
 | true=>
  rw[if_pos rfl]
  refine yb4 (P:=fun(o:Option (List R×Int))=>∃ r,o=some (r,0)/\Inc r/\(∀ v,v∈r↔∃ p,(p.1∈y24 c/\p.2∈y24 c)/\bl p=true/\v=ofQ (bp p))/\(∀ v∈r,V v=true)/\r.length<=1100) fun k hk=>?_
  rw[key,hf,if_pos rfl,hk,if_neg (by simp)]
  have hmem:∀ v,v∈(y6M (y24 c) (y24 c)).flatMap bg↔∃ p,(p.1∈y24 c/\p.2∈y24 c)/\bl p=true/\v=ofQ (bp p):=by
   intro v
   rw[List.mem_flatMap]
   constructor
   ·rintro⟨p,hp,hv⟩
    unfold bg at hv
    cases hb:bl p with
    | true=>rw[hb,if_pos rfl] at hv;exact⟨p,ycI.1 hp,hb,by simpa using hv⟩
    | false=>rw[hb] at hv;simp at hv
   ·rintro⟨p,hp,hb,rfl⟩
    exact⟨p,ycI.2 hp,by unfold bg;rw[hb,if_pos rfl];simp⟩
  have hV:∀ v∈(y6M (y24 c) (y24 c)).flatMap bg,V v=true:=by
   intro v hv
   obtain⟨p,hp,hb,rfl⟩:=(hmem v).1 hv
   exact y7u (bok_fit (List.all_eq_true.1 hf p (ycI.2 hp)) hb)
  have hlen:((y6M (y24 c) (y24 c)).flatMap bg).length<=1100:=by
   have:∀ l:List (B×B),(l.flatMap bg).length<=l.length:=by
    intro l
    induction l with
    | nil=>simp
    | cons x l ih=>
     rw[List.flatMap_cons,List.length_append,List.length_cons]
     have:(bg x).length<=1:=by unfold bg;split <;> simp
     omega
   have:=this (y6M (y24 c) (y24 c));omega
  rw[sortR_eq (key:=val) (fun x hx y hy=>y95 (hV x hx) (hV y hy)) (fun x hx y hy h=>ye9 (hV x hx) (hV y hy) h) (by omega),oB]
  have hperm:=yaC val ((y6M (y24 c) (y24 c)).flatMap bg)
  obtain⟨r,e,h1,h2,h3⟩:=yjT (s0:=yaB val ((y6M (y24 c) (y24 c)).flatMap bg)) (fun x hx=>hV x (hperm.mem_iff.1 hx)) (yb8 _ _) (by rw[hperm.length_eq];omega)
  rw[e,oB]
  refine⟨r,rfl,h1,fun v=>?_,fun v hv=>hV v (hperm.mem_iff.1 ((h2 v).1 hv)),by rw[hperm.length_eq] at h3;omega⟩
  rw[h2,hperm.mem_iff,hmem]
 | false=>
  rw[if_neg Bool.false_ne_true]
  refine yb4 (P:=fun o=>o=_) fun k hk=>?_
  rw[key,hf,if_neg Bool.false_ne_true,hk]
  simp
theorem yfO{c:List B}(h:VC c=false):y27 c=some ([],2):=by
 unfold y27
 rw[y7i,h];rfl
end Go.Proofs.YthjnhebofpebpaaGreat
namespace Go.Proofs.YthjnhebofpebpaaGreat
open Go Go.RowKit Sep
variable {x y:R}{r:R×Int}
abbrev SV:=zSv
def Z1:R:=⟨0,1⟩
theorem yaK:y38=some Z1:=rfl
theorem V_Z1:V Z1=true:=by decide +kernel
theorem ydE{RR A0 A1 A2:Type}{K:A0->A1->A2->Option RR}{F:(A0->A1->A2->Option RR)->Option RR}{P:Option RR->Prop}(h:∀ k:A0->A1->A2->Option RR,(∀ x0 x1 x2,k x0 x1 x2=K x0 x1 x2)->P (F k)):P (jp3 K F):=h K fun _ _ _=>rfl
/-! ### operations agree -/
theorem ya7(h:¬(V x=true/\V y=true)):(if !(V x) then some true else(some (V y)).bind fun v=>some (!v))=some true:=by
 cases hx:V x with
 | false=>rfl
 | true=>
  cases hy:V y with
  | false=>rfl
  | true=>exact absurd ⟨hx,hy⟩ h
theorem ygw(h:¬(V x=true/\V y=true)):y1q x y=some (⟨0,0⟩,2):=by
 unfold y1q y9W
 rw[y1W,y1W,oB,ya7 h];rfl
theorem ygx(h:¬(V x=true/\V y=true)):y2z x y=some (⟨0,0⟩,2):=by
 unfold y2z ya0
 rw[y1W,y1W,oB,ya7 h];rfl
theorem ygy(h:¬(V x=true/\V y=true)):y3J x y=some (⟨0,0⟩,2):=by
 unfold y3J yaW
 rw[y1W,y1W,oB,ya7 h];rfl
theorem ygz(h:¬(V x=true/\V y=true)):y46 x y=some (⟨0,0⟩,2):=by
 unfold y46 ya2
 rw[y1W,y1W,oB,ya7 h];rfl
theorem cmp_bad(h:¬(V x=true/\V y=true)):y1w x y=some 0:=by
 unfold y1w
 rw[y1W,y1W,oB,ya7 h];rfl
def ADD(x y:R):R×Int:=(y1q x y).getD (⟨0,0⟩,0)
def SUB(x y:R):R×Int:=(y2z x y).getD (⟨0,0⟩,0)
def MUL(x y:R):R×Int:=(y3J x y).getD (⟨0,0⟩,0)
def DIV(x y:R):R×Int:=(y46 x y).getD (⟨0,0⟩,0)
def CM(x y:R):Int:=(y1w x y).getD 0
theorem ycJ(x y:R):y1q x y=some (ADD x y)/\True:=by
 unfold ADD
 by_cases h:V x=true/\V y=true
 ·rw[ydy h.1 h.2];exact⟨rfl,trivial⟩
 ·rw[ygw h];exact⟨rfl,trivial⟩
theorem sub_s(x y:R):y2z x y=some (SUB x y)/\True:=by
 unfold SUB
 by_cases h:V x=true/\V y=true
 ·rw[yc4 h.1 h.2];exact⟨rfl,trivial⟩
 ·rw[ygx h];exact⟨rfl,trivial⟩
theorem mul_s(x y:R):y3J x y=some (MUL x y)/\True:=by
 unfold MUL
 by_cases h:V x=true/\V y=true
 ·rw[ydz h.1 h.2];exact⟨rfl,trivial⟩
 ·rw[ygy h];exact⟨rfl,trivial⟩
theorem div_s(x:R)(h0:y.fN≠0):y46 x y=some (DIV x y)/\True:=by
 unfold DIV
 by_cases h:V x=true/\V y=true
 ·rw[yc5 h.1 h.2 h0];exact⟨rfl,trivial⟩
 ·rw[ygz h];exact⟨rfl,trivial⟩
theorem cm_s(x y:R):y1w x y=some (CM x y)/\True:=by
 unfold CM
 by_cases h:V x=true/\V y=true
 ·rw[y95 h.1 h.2];exact⟨rfl,trivial⟩
 ·rw[cmp_bad h];exact⟨rfl,trivial⟩
/-! ### rounding -/
theorem yjV{N D:Int}(hD:0<D):∃ f:Int,(f=if Int.tmod N D<0 then Int.tdiv N D-1 else Int.tdiv N D)/\f*D<=N/\N<(f+1)*D:=by
 have h1:=Int.mul_tdiv_add_tmod N D
 have h2:Int.tmod N D<D:=Int.tmod_lt_of_pos N hD
 have h3 : -D<Int.tmod N D:=by
  have h4:=Int.tmod_lt_of_pos (-N) hD
  rw[Int.neg_tmod] at h4
  omega
 by_cases h:Int.tmod N D<0
 ·refine⟨_,rfl,?_⟩
  rw[if_pos h]
  have e1:(Int.tdiv N D-1)*D=D*Int.tdiv N D-D:=by rw[Int.sub_mul,Int.one_mul,Int.mul_comm]
  have e2:(Int.tdiv N D-1+1)*D=D*Int.tdiv N D:=by rw[Int.sub_add_cancel,Int.mul_comm]
  rw[e1,e2]
  omega
 ·refine⟨_,rfl,?_⟩
  rw[if_neg h]
  have e1:Int.tdiv N D*D=D*Int.tdiv N D:=Int.mul_comm _ _
  have e2:(Int.tdiv N D+1)*D=D*Int.tdiv N D+D:=by rw[Int.add_mul,Int.one_mul,Int.mul_comm]
  rw[e1,e2]
  omega
theorem fl_bd{f N D:Int}(hD:1<=D)(hN : -1073741824<=N/\N<=1073741824)(h1:f*D<=N)(h2:N<(f+1)*D) : -1073741824<=f/\f<=1073741824:=by
 constructor
 ·refine Int.not_lt.1 fun h=>?_
  have:=Int.mul_le_mul_of_nonneg_left hD (show 0 <= -(f+1) by omega)
  have e : -(f+1)*D = -((f+1)*D):=Int.neg_mul _ _
  omega
 ·refine Int.not_lt.1 fun h=>?_
  have:=Int.mul_le_mul_of_nonneg_left hD (show 0<=f by omega)
  omega
theorem y6s(hx:V x=true):∃ f:Int,y1S x=some f/\f*x.fD<=x.fN/\x.fN<(f+1)*x.fD /\ -1073741824<=f/\f<=1073741824:=by
 have hv:=hx
 simp only[V,decide_eq_true_eq] at hv
 obtain⟨f,hf,h1,h2⟩:=yjV (N:=x.fN) (D:=x.fD) (by omega)
 have hb:=fl_bd hv.1 (by omega) h1 h2
 refine⟨f,?_,h1,h2,hb⟩
 unfold y1S
 rw[y1W,hx,oB,if_neg (by simp),yt (by omega)]
 simp only[jp1]
 rw[yt (by omega)]
 have hq : -1073741824<=Int.tdiv x.fN x.fD/\Int.tdiv x.fN x.fD<=1073741825:=by
  by_cases h:Int.tmod x.fN x.fD<0
  ·rw[if_pos h] at hf;omega
  ·rw[if_neg h] at hf;omega
 by_cases h:Int.tmod x.fN x.fD<0
 ·rw[if_pos (decide_eq_true h),yz (x:=Int.tdiv x.fN x.fD) (by omega),yz (by omega),hf,if_pos h]
 ·rw[if_neg (by simpa using h),yz (by omega),hf,if_neg h]
theorem ygA(hx:V x=true):∃ e:Int,y2S x=some e/\(e-1)*x.fD<x.fN/\x.fN<=e*x.fD /\ -1073741824<=e/\e<=1073741824:=by
 have hv:=hx
 simp only[V,decide_eq_true_eq] at hv
 have hn:V ⟨-x.fN,x.fD⟩=true:=by
  unfold V
  rw[decide_eq_true_eq]
  refine⟨hv.1,hv.2.1,by show -1073741824 <= -x.fN;omega,by show -x.fN<=1073741824;omega,?_⟩
  show Nat.gcd (-x.fN).natAbs x.fD.natAbs=1
  rw[Int.natAbs_neg];exact hv.2.2.2.2
 obtain⟨f,ef,f1,f2,f3,f4⟩:=y6s hn
 have f1:f*x.fD <= -x.fN:=f1
 have f2 : -x.fN<(f+1)*x.fD:=f2
 refine⟨-f,?_,?_,?_,by omega,by omega⟩
 ·unfold y2S
  rw[y1W,hx,oB,if_neg (by simp),yz (x:=0-x.fN) (by omega),show(0:Int)-x.fN = -x.fN by omega,ef,oB,yz (by omega)]
  congr 1;omega
 ·have e:(-f-1)*x.fD = -((f+1)*x.fD):=by rw[show -f-1 = -(f+1) by omega,Int.neg_mul]
  rw[e];omega
 ·rw[Int.neg_mul];omega
def flr(x:R):Int:=(y1S x).getD 0
def cel(x:R):Int:=(y2S x).getD 0
theorem yeg(x:R):y1S x=some (flr x)/\True:=by
 unfold flr
 cases hx:V x with
 | true=>
  obtain⟨f,ef,_⟩:=y6s hx
  rw[ef];exact⟨rfl,trivial⟩
 | false=>
  have h1:y1S x=some 0:=by unfold y1S;rw[y1W,hx];rfl
  rw[h1];exact⟨rfl,trivial⟩
theorem cel_s(x:R):y2S x=some (cel x)/\True:=by
 unfold cel
 cases hx:V x with
 | true=>
  obtain⟨f,ef,_⟩:=ygA hx
  rw[ef];exact⟨rfl,trivial⟩
 | false=>
  have h1:y2S x=some 0:=by unfold y2S;rw[y1W,hx];rfl
  rw[h1];exact⟨rfl,trivial⟩
def y8y(r:List R):List R:=r.flatMap fun x=>[⟨flr x,1⟩,⟨cel x,1⟩]
theorem arnd_len(r:List R):(y8y r).length=2*r.length:=by
 unfold y8y
 induction r with
 | nil=>rfl
 | cons x r ih=>rw[List.flatMap_cons,List.length_append,ih];simp;omega
/-! ### servers -/
def VS(s:SV):Bool:=(V s.fRate&&decide (s.fRate.fN>0)&&V s.fL)&&decide (s.fL.fN>=0)
theorem ygY(s:SV):y56 s=some (VS s):=by
 unfold y56 VS
 rw[y1W,y1W,oB,oB]
 cases V s.fRate <;> cases decide (s.fRate.fN>0) <;> simp
theorem yal{s:SV}(h:VS s=true):V s.fRate=true/\0<s.fRate.fN/\V s.fL=true/\0<=s.fL.fN:=by
 simp only[VS,Bool.and_eq_true,decide_eq_true_eq] at h
 exact⟨h.1.1.1,h.1.1.2,h.1.2,h.2⟩
/-! ### the calculator that keeps the first error -/
def CD(e:Int)(r:R×Int):R×Int:=if e≠0 then(Z1,e) else if r.2≠0 then(Z1,r.2) else r
theorem cdo{e:Int}{f:R->R->Option (R×Int)}(h:f x y=some r):y1c ⟨e⟩ f x y=some ((CD e r).1,⟨(CD e r).2⟩):=by
 unfold y1c CD
 rw[h,yaK]
 by_cases he:e≠0
 ·rw[if_pos (by simpa using he),if_pos he];rfl
 ·rw[if_neg (by simpa using he),if_neg he,oB]
  by_cases hr:r.2≠0
  ·rw[if_pos (by simpa using hr),if_pos hr];rfl
  ·rw[if_neg (by simpa using hr),if_neg hr]
theorem y97{e:Int}(he:e≠0)(r:R×Int):CD e r=(Z1,e):=if_pos he
theorem ygB(h:r.2=0):CD 0 r=r:=by unfold CD;rw[if_neg (by simp),if_neg (by simpa using h)]
theorem yi3(h:r.2≠0):CD 0 r=(Z1,r.2):=by unfold CD;rw[if_neg (by simp),if_pos h]
end Go.Proofs.YthjnhebofpebpaaGreat
namespace Go.Proofs.YthjnhebofpebpaaGreat
open Go Go.RowKit Sep
variable {l:List (List B)}{s:SV}{t:R}
theorem at_some(c:List B)(t:R):∃ x,y5a c t=some x:=by
 by_cases h:VC c=true/\GR t=true
 ·exact⟨_,at_eq h.1 h.2⟩
 ·exact⟨_,yi0 h⟩
def ATF(c:List B)(t:R):R×Int:=(y5a c t).getD (⟨0,0⟩,0)
theorem at_s(c:List B)(t:R):y5a c t=some (ATF c t):=by
 obtain⟨x,e⟩:=at_some c t
 unfold ATF;rw[e];rfl
/-! ### the total -/
def tot(t:R):List (List B)->R×Int->R×Int
 | [],a=>a
 | c::l,a=>tot t l (CD (if a.2=0 then(ATF c t).2 else a.2) (ADD a.1 (ATF c t).1))
theorem ygC{t:R}{e:Int}(he:e≠0):∀ l:List (List B),tot t l (Z1,e)=(Z1,e)
 | []=>rfl
 | c::l=>by
  rw[tot,if_neg he,y97 he,ygC he l]
theorem yfP{l:List (List B)}{t:R}{k:Int->Int->Int->Option (R×z1A)}(hl:l.length<=1000):∀(n:Nat) (i:Int) (a:R×Int),0<=i->i<=l.length->l.length<n+i->
  y2q l t k n i a.2 a.1.fN a.1.fD=k (tot t (l.drop i.toNat) a).1.fN (tot t (l.drop i.toNat) a).1.fD (tot t (l.drop i.toNat) a).2
 | 0,i,a,h0,h1,h2=>by omega
 | n+1,i,a,h0,h1,h2=>by
  rw[y2q]
  by_cases h:i<l.length
  ·rw[if_pos (decide_eq_true h),yt ⟨h0,h⟩,at_s,oB,y3y h0 h,tot]
   refine y28 (P:=fun o=>o=_) fun kk hkk=>?_
   have e1:(if decide (a.2=0)=true then kk (ATF (nth l i) t).2 else kk a.2)=kk (if a.2=0 then(ATF (nth l i) t).2 else a.2):=by
    by_cases h:a.2=0 <;> simp[h]
   rw[e1,hkk]
   show((y1c ⟨_⟩ (fun y0 y1=>y1q y0 y1) a.1 (ATF (nth l i) t).1).bind _)=_
   rw[cdo (ycJ a.1 (ATF (nth l i) t).1).1,oB,yz (by omega)]
   exact yfP hl n (i+1) _ (by omega) (by omega) (by omega)
  ·rw[if_neg (by simpa using h),y4j h]
   rfl
theorem yi4{e:Int}(hl:l.length<=1000):y3u ⟨e⟩ l t=some ((tot t l (Z1,e)).1,⟨(tot t l (Z1,e)).2⟩):=by
 unfold y3u
 rw[yaK,oB]
 refine ydE (P:=fun o=>o=_) fun k hk=>?_
 have:=yfP (t:=t) (k:=k) hl yy 0 (Z1,e) (by omega) (by omega) (by rw[yV];omega)
 rw[this,hk];rfl
/-! ### the values at a point -/
def dv(l:List (List B))(s:SV)(e:Int)(t:R):R×Int:=
 let x1:=tot t l (Z1,e)
 let x2:=CD x1.2 (DIV x1.1 s.fRate)
 let x3:=CD x2.2 (SUB x2.1 t)
 CD x3.2 (ADD x3.1 s.fL)
def bv(l:List (List B))(s:SV)(e:Int)(t:R):R×Int:=
 let x1:=tot t l (Z1,e)
 let x2:=CD x1.2 (SUB t s.fL)
 let x3:=CD x2.2 (MUL s.fRate x2.1)
 if CM t s.fL<=0 then x1 else CD x3.2 (SUB x1.1 x3.1)
theorem dv_err{e:Int}(he:e≠0):dv l s e t=(Z1,e):=by
 unfold dv
 simp only[ygC he,y97 he]
theorem bv_err{e:Int}(he:e≠0):bv l s e t=(Z1,e):=by
 unfold bv
 simp only[ygC he,y97 he]
 split <;> rfl
theorem ykw{e:Int}(hl:l.length<=1000)(hs:VS s=true):y5e ⟨e⟩ t l s=some ((dv l s e t).1,⟨(dv l s e t).2⟩):=by
 have h0:=(yal hs).2.1
 unfold y5e
 rw[yi4 hl,oB,cdo (div_s _ (y:=s.fRate) (by omega)).1,oB,cdo (sub_s _ t).1,oB,cdo (ycJ _ s.fL).1]
 rfl
theorem yiK{e:Int}(hl:l.length<=1000):y4R ⟨e⟩ t l s=some ((bv l s e t).1,⟨(bv l s e t).2⟩):=by
 unfold y4R bv
 rw[yi4 hl,oB,(cm_s t s.fL).1,oB]
 by_cases h:CM t s.fL<=0
 ·rw[if_pos (decide_eq_true h),if_pos h]
 ·rw[if_neg (by simpa using h),if_neg h,cdo (sub_s t s.fL).1,oB,cdo (mul_s s.fRate _).1,oB,cdo (sub_s _ _).1]
  rfl
/-! ### the greatest value -/
section
variable {f:Int->R->R×Int}
def stp(f:Int->R->R×Int)(s:List R×Int)(p:R):List R×Int:=
 (match s.1 with | []=>[(f s.2 p).1] | b::r=>if CM (f s.2 p).1 b>0 then[(f s.2 p).1] else b::r,(f s.2 p).2)
theorem ygD(hf:∀ e t,e≠0->f e t=(Z1,e)):∀(P:List R) (s:List R×Int),s.2≠0->(P.foldl (stp f) s).2=s.2
 | [],s,h=>rfl
 | p::P,s,h=>by
  have:(stp f s p).2=s.2:=by unfold stp;rw[hf _ _ h]
  rw[List.foldl_cons,ygD hf P _ (by rw[this];exact h),this]
theorem yfQ:∀(P:List R) (s:List R×Int),s.1≠[]->(P.foldl (stp f) s).1≠[]
 | [],s,h=>h
 | p::P,s,h=>by
  rw[List.foldl_cons]
  refine yfQ P _ ?_
  unfold stp
  cases hs:s.1 with
  | nil=>exact absurd hs h
  | cons b r=>simp only;split <;> simp
def mxv(f:Int->R->R×Int)(P:List R):R×Int:=
 let r:=P.foldl (stp f) ([],0)
 if r.2≠0 then(⟨0,0⟩,r.2) else(nth r.1 0,0)
end
theorem yiL(a:List B):∃ x:List R×Int,y27 a=some x/\x.1.length<=1100:=by
 cases h:VC a with
 | true=>
  have:=ybv h
  split at this
  ·obtain⟨r,e,_,_,_,hl⟩:=this
   exact⟨_,e,hl⟩
  ·exact⟨_,this,by simp⟩
 | false=>exact⟨_,yfO h,by simp⟩
def BRK(c:List B):List R×Int:=(y27 c).getD ([],0)
theorem ycK(c:List B):y27 c=some (BRK c)/\(BRK c).1.length<=1100:=by
 obtain⟨x,e,h⟩:=yiL c
 unfold BRK
 rw[e];exact⟨rfl,h⟩
def RTF(c:List B):R×Int:=(y5d c).getD (⟨0,0⟩,0)
theorem rt_s{c:List B}(h:VC c=true):y5d c=some (RTF c)/\V (RTF c).1=true:=by
 obtain⟨d,e,hd,_⟩:=yja h
 unfold RTF
 rw[e]
 exact⟨rfl,y57 (y9B (y96 h d hd))⟩
def PTS(l:List (List B))(more:List R):List R:=Z1::((l.flatMap fun c=>y8y (BRK c).1)++y8y more)
theorem y7C(l:List (List B)):(l.flatMap fun c=>y8y (BRK c).1).length<=2200*l.length:=by
 induction l with
 | nil=>simp
 | cons c l ih=>
  have:=(ycK c).2
  rw[List.flatMap_cons,List.length_append,arnd_len,List.length_cons];omega
/-! ### the check -/
def ckl:List (List B)->R×Int->Int ⊕ (R×Int)
 | [],a => .inr a
 | c::l,a=>if (BRK c).2≠0 then .inl (BRK c).2 else ckl l (CD a.2 (ADD a.1 (RTF c).1))
section
variable {Sg:Type} {y:R->(Nat×List R×Int)->Option (Bool×(Nat×List R×Int))} {f:Int->R->R×Int}
theorem p5{x:List R×Int}{k:(Nat×List R×Int)->Option (Nat×List R×Int)}(hy:∀ p s,y p (0,s)=some (true,(0,stp f s p)))(hl:x.1.length<=100000):∀(n:Nat) (v:Int) (s:List R×Int),0<=v->v<=x.1.length->x.1.length<n+v->
  y1P _ x y k n v (0,s)=k (0,(y8y (x.1.drop v.toNat)).foldl (stp f) s)
 | 0,v,s,h0,h1,h2=>by omega
 | n+1,v,s,h0,h1,h2=>by
  rw[y1P]
  by_cases h:v<x.1.length
  ·rw[if_pos (decide_eq_true h),yt ⟨h0,h⟩]
   show Option.bind (y1S (nth x.1 v)) _=_
   rw[(yeg _).1,oB]
   unfold y1y
   rw[oB,hy,oB,if_neg (by simp)]
   have e2:(y2S (⟨(nth x.1 v).fN,(nth x.1 v).fD⟩:R))=some (cel (nth x.1 v)):=(cel_s _).1
   rw[e2,oB,oB,hy,oB,oB,if_neg (by simp),yz (by omega),p5 hy hl n (v+1) _ (by omega) (by omega) (by omega),y3y h0 h]
   rfl
  ·rw[if_neg (by simpa using h),y4j h];rfl
theorem p6{x:List R}{k:(Nat×List R×Int)->Option (Nat×List R×Int)}(hy:∀ p s,y p (0,s)=some (true,(0,stp f s p)))(hl:x.length<=100000):∀(n:Nat) (v:Int) (s:List R×Int),0<=v->v<=x.length->x.length<n+v->
  y1R _ x y k n v (0,s)=k (0,(y8y (x.drop v.toNat)).foldl (stp f) s)
 | 0,v,s,h0,h1,h2=>by omega
 | n+1,v,s,h0,h1,h2=>by
  rw[y1R]
  by_cases h:v<x.length
  ·rw[if_pos (decide_eq_true h),yt ⟨h0,h⟩]
   show Option.bind (y1S (nth x v)) _=_
   rw[(yeg _).1,oB]
   unfold y1y
   rw[oB,hy,oB,if_neg (by simp)]
   have e2:(y2S (⟨(nth x v).fN,(nth x v).fD⟩:R))=some (cel (nth x v)):=(cel_s _).1
   rw[e2,oB,oB,hy,oB,oB,if_neg (by simp),yz (by omega),p6 hy hl n (v+1) _ (by omega) (by omega) (by omega),y3y h0 h]
   rfl
  ·rw[if_neg (by simpa using h),y4j h];rfl
theorem p4{l:List (List B)}{k:(Nat×List R×Int)->Option (Nat×List R×Int)}(hy:∀ p s,y p (0,s)=some (true,(0,stp f s p)))(hl:l.length<=100000):∀(n:Nat) (v:Int) (s:List R×Int),0<=v->v<=l.length->l.length<n+v->
  y1Q _ l y k n v (0,s)=k (0,((l.drop v.toNat).flatMap fun c=>y8y (BRK c).1).foldl (stp f) s)
 | 0,v,s,h0,h1,h2=>by omega
 | n+1,v,s,h0,h1,h2=>by
  rw[y1Q]
  by_cases h:v<l.length
  ·rw[if_pos (decide_eq_true h)]
   refine y28 (P:=fun o=>o=_) fun k1 hk1=>?_
   rw[yt ⟨h0,h⟩,(ycK _).1,oB]
   refine y28 (P:=fun o=>o=_) fun k2 hk2=>?_
   have hb:=(ycK (nth l v)).2
   rw[p5 (f:=f) hy (by omega) yy 0 s (by omega) (by omega) (by rw[yV];omega),hk2,hk1,yz (by omega),p4 hy hl n (v+1) _ (by omega) (by omega) (by omega),y3y h0 h,List.flatMap_cons,List.foldl_append]
   rfl
  ·rw[if_neg (by simpa using h),y4j h];rfl
theorem ykx{a b:SV}{c:List (List B)}{more:List R}(hy:∀ p s,y p (0,s)=some (true,(0,stp f s p)))(hl:l.length<=100000)(hm:more.length<=100000):
  y3i _ y (0,([],0)) l a c b more=some (0,(PTS l more).foldl (stp f) ([],0)):=by
 unfold y3i
 rw[yaK,oB,hy,oB,if_neg (by simp)]
 refine y28 (P:=fun o=>o=_) fun k hk=>?_
 rw[p4 (f:=f) hy hl yy 0 _ (by omega) (by omega) (by rw[yV];omega),hk]
 refine y28 (P:=fun o=>o=_) fun k2 hk2=>?_
 rw[p6 (f:=f) hy hm yy 0 _ (by omega) (by omega) (by rw[yV];omega),hk2]
 unfold PTS
 rw[List.foldl_cons,List.foldl_append]
 rfl
end
section
variable {Sg:Type} {y:R->(Nat×List R×Int)->Option (Bool×(Nat×List R×Int))} {f:Int->R->R×Int}
theorem p5b{x:List R×Int}{k:(Nat×List R×Int)->Option (Nat×List R×Int)}(hy:∀ p s,y p (0,s)=some (true,(0,stp f s p)))(hl:x.1.length<=100000):∀(n:Nat) (v:Int) (s:List R×Int),0<=v->v<=x.1.length->x.1.length<n+v->
  y1J _ x y k n v (0,s)=k (0,(y8y (x.1.drop v.toNat)).foldl (stp f) s)
 | 0,v,s,h0,h1,h2=>by omega
 | n+1,v,s,h0,h1,h2=>by
  rw[y1J]
  by_cases h:v<x.1.length
  ·rw[if_pos (decide_eq_true h),yt ⟨h0,h⟩]
   show Option.bind (y1S (nth x.1 v)) _=_
   rw[(yeg _).1,oB]
   unfold y1y
   rw[oB,hy,oB,if_neg (by simp)]
   have e2:(y2S (⟨(nth x.1 v).fN,(nth x.1 v).fD⟩:R))=some (cel (nth x.1 v)):=(cel_s _).1
   rw[e2,oB,oB,hy,oB,oB,if_neg (by simp),yz (by omega),p5b hy hl n (v+1) _ (by omega) (by omega) (by omega),y3y h0 h]
   rfl
  ·rw[if_neg (by simpa using h),y4j h];rfl
theorem p6b{x:List R}{k:(Nat×List R×Int)->Option (Nat×List R×Int)}(hy:∀ p s,y p (0,s)=some (true,(0,stp f s p)))(hl:x.length<=100000):∀(n:Nat) (v:Int) (s:List R×Int),0<=v->v<=x.length->x.length<n+v->
  y1L _ x y k n v (0,s)=k (0,(y8y (x.drop v.toNat)).foldl (stp f) s)
 | 0,v,s,h0,h1,h2=>by omega
 | n+1,v,s,h0,h1,h2=>by
  rw[y1L]
  by_cases h:v<x.length
  ·rw[if_pos (decide_eq_true h),yt ⟨h0,h⟩]
   show Option.bind (y1S (nth x v)) _=_
   rw[(yeg _).1,oB]
   unfold y1y
   rw[oB,hy,oB,if_neg (by simp)]
   have e2:(y2S (⟨(nth x v).fN,(nth x v).fD⟩:R))=some (cel (nth x v)):=(cel_s _).1
   rw[e2,oB,oB,hy,oB,oB,if_neg (by simp),yz (by omega),p6b hy hl n (v+1) _ (by omega) (by omega) (by omega),y3y h0 h]
   rfl
  ·rw[if_neg (by simpa using h),y4j h];rfl
theorem p4b{l:List (List B)}{k:(Nat×List R×Int)->Option (Nat×List R×Int)}(hy:∀ p s,y p (0,s)=some (true,(0,stp f s p)))(hl:l.length<=100000):∀(n:Nat) (v:Int) (s:List R×Int),0<=v->v<=l.length->l.length<n+v->
  y1K _ l y k n v (0,s)=k (0,((l.drop v.toNat).flatMap fun c=>y8y (BRK c).1).foldl (stp f) s)
 | 0,v,s,h0,h1,h2=>by omega
 | n+1,v,s,h0,h1,h2=>by
  rw[y1K]
  by_cases h:v<l.length
  ·rw[if_pos (decide_eq_true h)]
   refine y28 (P:=fun o=>o=_) fun k1 hk1=>?_
   rw[yt ⟨h0,h⟩,(ycK _).1,oB]
   refine y28 (P:=fun o=>o=_) fun k2 hk2=>?_
   have hb:=(ycK (nth l v)).2
   rw[p5b (f:=f) hy (by omega) yy 0 s (by omega) (by omega) (by rw[yV];omega),hk2,hk1,yz (by omega),p4b hy hl n (v+1) _ (by omega) (by omega) (by omega),y3y h0 h,List.flatMap_cons,List.foldl_append]
   rfl
  ·rw[if_neg (by simpa using h),y4j h];rfl
theorem yjW{a b:SV}{c:List (List B)}{more:List R}(hy:∀ p s,y p (0,s)=some (true,(0,stp f s p)))(hl:l.length<=100000)(hm:more.length<=100000):
  y3b _ y (0,([],0)) l a c b more=some (0,(PTS l more).foldl (stp f) ([],0)):=by
 unfold y3b
 rw[yaK,oB,hy,oB,if_neg (by simp)]
 refine y28 (P:=fun o=>o=_) fun k hk=>?_
 rw[p4b (f:=f) hy hl yy 0 _ (by omega) (by omega) (by rw[yV];omega),hk]
 refine y28 (P:=fun o=>o=_) fun k2 hk2=>?_
 rw[p6b (f:=f) hy hm yy 0 _ (by omega) (by omega) (by rw[yV];omega),hk2]
 unfold PTS
 rw[List.foldl_cons,List.foldl_append]
 rfl
end
def CKF(l:List (List B))(s:SV):Int:=
 if l.length>32 || !(l.all VC) || !(VS s) then 2 else
 match ckl l (Z1,0) with
 | .inl e=>e
 | .inr r=>if r.2≠0 then r.2 else if CM r.1 s.fRate>0 then 6 else 0
theorem yi5(h:CKF l s=0):VS s=true:=by
 unfold CKF at h
 cases hs:VS s with
 | true=>rfl
 | false=>rw[if_pos (by simp[hs])] at h;cases h
theorem rindex{s:List (List B)}{k:Option Int}(hl:s.length<=100000):∀(n:Nat) (v:Int),0<=v->v<=s.length->s.length<n+v->k=some (-1)->
  ∃ x:Int,y17 s (fun y0=>y1E y0) k n v=some x/\(x>=0↔(s.drop v.toNat).all VC=false)
 | 0,v,h0,h1,h2,hk=>by omega
 | n+1,v,h0,h1,h2,hk=>by
  rw[y17]
  by_cases h:v<s.length
  ·rw[if_pos (decide_eq_true h),yt ⟨h0,h⟩,y3y h0 h]
   unfold y1E
   rw[y7i,oB,oB,List.all_cons]
   cases hc:VC (nth s v) with
   | false=>exact⟨v,by simp,by simp;omega⟩
   | true=>
    rw[if_neg (by simp),yz (by omega),Bool.true_and]
    exact rindex hl n (v+1) (by omega) (by omega) (by omega) hk
  ·rw[if_neg (by simpa using h),y4j h,hk]
   exact⟨-1,rfl,by simp⟩
theorem ydF(hl:l.length<=100000):(y1i l (fun y0=>y1E y0))=some (!(l.all VC)):=by
 unfold y1i y2w
 refine ygv (P:=fun o=>(o.bind fun x=>some (decide (x>=0)))=some (!(l.all VC))) fun k hk=>?_
 obtain⟨x,e,h⟩:=rindex hl yy 0 (by omega) (by omega) (by rw[yV];omega) hk
 rw[e,oB]
 rw[show(0:Int).toNat=0 from rfl,List.drop_zero] at h
 cases ha:l.all VC with
 | true=>rw[ha] at h;simp at h;simp;omega
 | false=>rw[ha] at h;simp at h;simp;omega
theorem yjd{l:List (List B)}{k:Int->Int->Int->Option Int}(hv:∀ c∈l,VC c=true)(hl:l.length<=1000):∀(n:Nat) (v:Int) (a:R×Int),0<=v->v<=l.length->l.length<n+v->
  y2a l k n v a.2 a.1.fN a.1.fD=match ckl (l.drop v.toNat) a with | .inl e=>some e | .inr r=>k r.2 r.1.fN r.1.fD
 | 0,v,a,h0,h1,h2=>by omega
 | n+1,v,a,h0,h1,h2=>by
  rw[y2a]
  by_cases h:v<l.length
  ·have hc:=hv _ (yO h0 h)
   rw[if_pos (decide_eq_true h),yt ⟨h0,h⟩,(ycK _).1,oB,y3y h0 h,ckl]
   by_cases hb:(BRK (nth l v)).2≠0
   ·rw[if_pos (by simpa using hb),if_pos hb]
   ·rw[if_neg (by simpa using hb),if_neg hb,(rt_s hc).1,oB]
    show((y1c ⟨a.2⟩ (fun y0 y1=>y1q y0 y1) a.1 (RTF (nth l v)).1).bind _)=_
    rw[cdo (ycJ _ _).1,oB,yz (by omega)]
    exact yjd hv hl n (v+1) _ (by omega) (by omega) (by omega)
  ·rw[if_neg (by simpa using h),y4j h]
   rfl
theorem check_eq{c:List (List B)}{t:SV}{m:List R}(hl:l.length<=40):y3W l s c t m=some (CKF l s):=by
 unfold y3W CKF
 by_cases h1:(((l.length:Nat):Int)>32)
 ·rw[if_pos (decide_eq_true h1),oB,if_pos rfl,oB,if_pos rfl,if_pos (by simp;omega)]
 ·rw[if_neg (by simpa using h1),ydF (by omega)]
  simp only[oB]
  by_cases h2:l.all VC=true
  ·rw[h2]
   simp only[Bool.not_true,Bool.false_eq_true,if_false]
   rw[ygY,oB,oB]
   cases hs:VS s with
   | false=>rw[if_pos (by rfl),if_pos (by simp)]
   | true=>
    rw[if_neg (by simp),if_neg (by simp;omega),yaK,oB]
    refine ydE (P:=fun o=>o=_) fun k hk=>?_
    have:=yjd (k:=k) (List.all_eq_true.1 h2) (by omega) yy 0 (Z1,0) (by omega) (by omega) (by rw[yV];omega)
    rw[this,show(0:Int).toNat=0 from rfl,List.drop_zero]
    cases ckl l (Z1,0) with
    | inl e=>rfl
    | inr r=>
     simp only
     rw[hk]
     by_cases hr:r.2=0
     ·rw[if_pos (decide_eq_true hr),if_neg (by simp[hr])]
      show(((y1w r.1 s.fRate).bind _).bind _)=_
      rw[(cm_s _ _).1,oB,oB]
      by_cases hc:CM r.1 s.fRate>0
      ·rw[if_pos (decide_eq_true hc),if_pos hc]
      ·rw[if_neg (by simpa using hc),if_neg hc,hr]
     ·rw[if_neg (by simpa using hr),oB,if_neg (by simp),if_pos hr]
  ·have h2':l.all VC=false:=by simpa using h2
   rw[h2']
   simp only[Bool.not_false,if_true]
   rw[oB,if_pos rfl,if_pos (by simp)]
theorem yi6{l:List (List B)}{k:Int->Int->Int->Option Int}(hv:∀ c∈l,VC c=true)(hl:l.length<=1000):∀(n:Nat) (v:Int) (a:R×Int),0<=v->v<=l.length->l.length<n+v->
  y23 l k n v a.2 a.1.fN a.1.fD=match ckl (l.drop v.toNat) a with | .inl e=>some e | .inr r=>k r.2 r.1.fN r.1.fD
 | 0,v,a,h0,h1,h2=>by omega
 | n+1,v,a,h0,h1,h2=>by
  rw[y23]
  by_cases h:v<l.length
  ·have hc:=hv _ (yO h0 h)
   rw[if_pos (decide_eq_true h),yt ⟨h0,h⟩,(ycK _).1,oB,y3y h0 h,ckl]
   by_cases hb:(BRK (nth l v)).2≠0
   ·rw[if_pos (by simpa using hb),if_pos hb]
   ·rw[if_neg (by simpa using hb),if_neg hb,(rt_s hc).1,oB]
    show((y1c ⟨a.2⟩ (fun y0 y1=>y1q y0 y1) a.1 (RTF (nth l v)).1).bind _)=_
    rw[cdo (ycJ _ _).1,oB,yz (by omega)]
    exact yi6 hv hl n (v+1) _ (by omega) (by omega) (by omega)
  ·rw[if_neg (by simpa using h),y4j h]
   rfl
theorem yky{c:List (List B)}{t:SV}{m:List R}(hl:l.length<=40):y3M l s c t m=some (CKF l s):=by
 unfold y3M CKF
 by_cases h1:(((l.length:Nat):Int)>32)
 ·rw[if_pos (decide_eq_true h1),oB,if_pos rfl,oB,if_pos rfl,if_pos (by simp;omega)]
 ·rw[if_neg (by simpa using h1),ydF (by omega)]
  simp only[oB]
  by_cases h2:l.all VC=true
  ·rw[h2]
   simp only[Bool.not_true,Bool.false_eq_true,if_false]
   rw[ygY,oB,oB]
   cases hs:VS s with
   | false=>rw[if_pos (by rfl),if_pos (by simp)]
   | true=>
    rw[if_neg (by simp),if_neg (by simp;omega),yaK,oB]
    refine ydE (P:=fun o=>o=_) fun k hk=>?_
    have:=yi6 (k:=k) (List.all_eq_true.1 h2) (by omega) yy 0 (Z1,0) (by omega) (by omega) (by rw[yV];omega)
    rw[this,show(0:Int).toNat=0 from rfl,List.drop_zero]
    cases ckl l (Z1,0) with
    | inl e=>rfl
    | inr r=>
     simp only
     rw[hk]
     by_cases hr:r.2=0
     ·rw[if_pos (decide_eq_true hr),if_neg (by simp[hr])]
      show(((y1w r.1 s.fRate).bind _).bind _)=_
      rw[(cm_s _ _).1,oB,oB]
      by_cases hc:CM r.1 s.fRate>0
      ·rw[if_pos (decide_eq_true hc),if_pos hc]
      ·rw[if_neg (by simpa using hc),if_neg hc,hr]
     ·rw[if_neg (by simpa using hr),oB,if_neg (by simp),if_pos hr]
  ·have h2':l.all VC=false:=by simpa using h2
   rw[h2']
   simp only[Bool.not_false,if_true]
   rw[oB,if_pos rfl,if_pos (by simp)]
end Go.Proofs.YthjnhebofpebpaaGreat
namespace Go.Proofs.YthjnhebofpebpaaGreat
open Go Go.RowKit Sep
variable {l:List (List B)}{s:SV}
/-! ### the reference's check -/
/-! ### the greatest value -/
def rk(k:Int->Int->Option (R×Int))(b:R)(r:List R×Int):Option (R×Int):=
 if r.2≠0 then some (⟨0,0⟩,r.2) else match r.1 with | []=>k b.fN b.fD | x::_=>k x.fN x.fD
theorem mxv_rk{f:Int->R->R×Int}{P:List R}(hP:P≠[]){k:Int->Int->Option (R×Int)}(hk:∀ x y,k x y=some (⟨x,y⟩,0)):rk k ⟨0,0⟩ (P.foldl (stp f) ([],0))=some (mxv f P):=by
 unfold rk mxv
 by_cases h:(P.foldl (stp f) ([],0)).2≠0
 ·rw[if_pos h];simp only;rw[if_pos h]
 ·rw[if_neg h];simp only;rw[if_neg h]
  cases P with
  | nil=>exact absurd rfl hP
  | cons p P=>
   have hne:((p::P).foldl (stp f) ([],0)).1≠[]:=by
    rw[List.foldl_cons];exact yfQ _ _ (by simp[stp])
   cases hr:((p::P).foldl (stp f) ([],0)).1 with
   | nil=>exact absurd hr hne
   | cons x t=>simp only;rw[hk];rfl
/-! ### the code's search -/
theorem R4_eq(hl:l.length<=1000)(hs:VS s=true)(p:R)(st:List R×Int):chk ((0:Nat)=0) (y35 l s p st.1 st.2)=some (true,(0,stp (dv l s) st p)):=by
 rw[yt rfl]
 unfold y35
 rw[ykw hl hs,oB]
 unfold stp
 cases hst:st.1 with
 | nil=>rw[if_pos (by simp),oB,if_pos rfl]
 | cons x r=>
  rw[if_neg (by simp;omega),yt (by simp)]
  have hn:(⟨(nth (x::r) 0).fN,(nth (x::r) 0).fD⟩:R)=x:=rfl
  rw[hn,(cm_s _ _).1,oB,oB]
  simp only
  by_cases hc:CM (dv l s st.2 p).1 x>0
  ·rw[if_pos (decide_eq_true hc),if_pos hc]
  ·rw[if_neg (by simpa using hc),if_neg hc]
theorem max_eq{more:List R}(hl:l.length<=40)(hm:more.length<=1000):y4t l s l s more=some (if CKF l s=0 then mxv (dv l s) (PTS l more) else(⟨0,0⟩,CKF l s)):=by
 unfold y4t
 rw[check_eq hl,oB]
 by_cases h:CKF l s=0
 ·have hs:VS s=true:=yi5 h
  rw[if_pos h,if_neg (by simpa using h)]
  refine yb4 (P:=fun o=>o=_) fun k hk=>?_
  unfold y4Q
  rw[oB,ykx (f:=dv l s) (fun p st=>R4_eq (by omega) hs p st) (by omega) (by omega),oB,hk]
  have:=mxv_rk (f:=dv l s) (P:=PTS l more) (k:=fun x y=>some (⟨x,y⟩,0)) (by simp[PTS]) (fun _ _=>rfl)
  rw[<- this]
  unfold rk
  generalize hr:(PTS l more).foldl (stp (dv l s)) ([],0)=r
  have hne:r.1≠[]:=by
   rw[<- hr];unfold PTS;rw[List.foldl_cons];exact yfQ _ _ (by simp[stp])
  simp only
  by_cases h2:r.2≠0
  ·rw[if_pos (by simpa using h2),if_pos h2]
  ·rw[if_neg (by simpa using h2),if_neg h2]
   cases hr1:r.1 with
   | nil=>exact absurd hr1 hne
   | cons x t=>rw[yt (by simp)];rfl
 ·rw[if_neg h,if_pos (by simpa using h)]
theorem R4b_eq(hl:l.length<=1000)(hs:VS s=true)(p:R)(st:List R×Int):chk ((0:Nat)=0) (y31 l s p st.1 st.2)=some (true,(0,stp (bv l s) st p)):=by
 rw[yt rfl]
 unfold y31
 rw[yiK hl,oB]
 unfold stp
 cases hst:st.1 with
 | nil=>rw[if_pos (by simp),oB,if_pos rfl]
 | cons x r=>
  rw[if_neg (by simp;omega),yt (by simp)]
  have hn:(⟨(nth (x::r) 0).fN,(nth (x::r) 0).fD⟩:R)=x:=rfl
  rw[hn,(cm_s _ _).1,oB,oB]
  simp only
  by_cases hc:CM (bv l s st.2 p).1 x>0
  ·rw[if_pos (decide_eq_true hc),if_pos hc]
  ·rw[if_neg (by simpa using hc),if_neg hc]
theorem maxb_eq{more:List R}(hl:l.length<=40)(hm:more.length<=1000):y4e l s l s more=some (if CKF l s=0 then mxv (bv l s) (PTS l more) else(⟨0,0⟩,CKF l s)):=by
 unfold y4e
 rw[yky hl,oB]
 by_cases h:CKF l s=0
 ·have hs:VS s=true:=yi5 h
  rw[if_pos h,if_neg (by simpa using h)]
  refine yb4 (P:=fun o=>o=_) fun k hk=>?_
  unfold y4C
  rw[oB,yjW (f:=bv l s) (fun p st=>R4b_eq (by omega) hs p st) (by omega) (by omega),oB,hk]
  have:=mxv_rk (f:=bv l s) (P:=PTS l more) (k:=fun x y=>some (⟨x,y⟩,0)) (by simp[PTS]) (fun _ _=>rfl)
  rw[<- this]
  unfold rk
  generalize hr:(PTS l more).foldl (stp (bv l s)) ([],0)=r
  have hne:r.1≠[]:=by
   rw[<- hr];unfold PTS;rw[List.foldl_cons];exact yfQ _ _ (by simp[stp])
  simp only
  by_cases h2:r.2≠0
  ·rw[if_pos (by simpa using h2),if_pos h2]
  ·rw[if_neg (by simpa using h2),if_neg h2]
   cases hr1:r.1 with
   | nil=>exact absurd hr1 hne
   | cons x t=>rw[yt (by simp)];rfl
 ·rw[if_neg h,if_pos (by simpa using h)]
end Go.Proofs.YthjnhebofpebpaaGreat
namespace Go.Proofs.YthjnhebofpebpaaGreat
open Go Go.RowKit Sep
theorem yc7{RR A0 A1:Type}{K:A0->A1->Option RR}{F:(A0->A1->Option RR)->Option RR}{P:Option RR->Prop}(h:∀ k:A0->A1->Option RR,(∀ x0 x1,k x0 x1=K x0 x1)->P (F k)):P (jp2 K F):=h K fun _ _=>rfl
theorem yi7{RR A0 A1 A2 A3 A4:Type}{K:A0->A1->A2->A3->A4->Option RR}{F:(A0->A1->A2->A3->A4->Option RR)->Option RR}{P:Option RR->Prop}(h:∀ k:A0->A1->A2->A3->A4->Option RR,(∀ x0 x1 x2 x3 x4,k x0 x1 x2 x3 x4=K x0 x1 x2 x3 x4)->P (F k)):P (jp5 K F):=h K fun _ _ _ _ _=>rfl
theorem jp6_ex{RR A0 A1 A2 A3 A4 A5:Type}{K:A0->A1->A2->A3->A4->A5->Option RR}{F:(A0->A1->A2->A3->A4->A5->Option RR)->Option RR}{P:Option RR->Prop}(h:∀ k:A0->A1->A2->A3->A4->A5->Option RR,(∀ x0 x1 x2 x3 x4 x5,k x0 x1 x2 x3 x4 x5=K x0 x1 x2 x3 x4 x5)->P (F k)):P (jp6 K F):=h K fun _ _ _ _ _ _=>rfl
abbrev yam:=zP
abbrev PB:=S36
abbrev BM:=List (yam×R)
abbrev DM:=List (Pl×Int)
/-! ### the computation keeps its first error -/
def DO(e:Int)(r:R×Int):R×Int:=(if r.2≠0 then⟨0,1⟩ else r.1,if e=0 then r.2 else e)
theorem do_eq{c:Cf}{rs:List (List Hop)}{bu:BM}{de:DM}{e:Int}{f:R->R->Option (R×Int)}{x y:R}{r:R×Int}(h:f x y=some r):y45 c rs bu de e f x y=some (DO e r):=by
 unfold y45 DO y2L
 rw[h,oB]
 refine y28 (P:=fun o=>o=_) fun k hk=>?_
 have e1:(if decide (e=0)=true then k r.2 else k e)=k (if e=0 then r.2 else e):=by
  by_cases h:e=0 <;> simp[h]
 rw[e1,hk]
 by_cases hr:r.2≠0
 ·rw[if_pos (by simpa using hr),if_pos hr];rfl
 ·rw[if_neg (by simpa using hr),if_neg hr]
def VLs(c:Cf):Prop:=∀ v∈c.fVLs,(100<=v.fBag/\v.fBag<=12800)/\1<=v.fMax/\v.fMax<=72
def mx(c:Cf)(v:Int):Int:=(nth c.fVLs v).fMax
def RT(c:Cf)(v:Int):R:=(mk (Rat.divInt (mx c v) (nth c.fVLs v).fBag)).1
theorem ygE{c:Cf}{rs:List (List Hop)}{bu:BM}{de:DM}{e v:Int}(hv:VLs c)(h:0<=v/\v<c.fVLs.length):y40 c rs bu de e v=some (RT c v):=by
 have h2:=hv _ (yO h.1 h.2)
 unfold y40 RT mx
 rw[yt h,yc3 (by omega) (by omega)]
 rfl
/-! ### the curves at a port -/
def uses(p:Pl)(r:List Hop):Bool:=r.any fun h=>decide (pk h=p)
theorem uses_eq{r:List Hop}{p:Pl}(hl:r.length<1000000000):y1l r (fun y0=>y4r y0 p)=some (uses p r):=
 yhQ (p:=fun h=>decide (pk h=p)) (fun h _=>rfl) hl
structure CS where
 own:List (List B)
 most:Int
 e:Int
 lk:List (Int×List Int)
 bu:BM
def cst(c:Cf)(rs:List (List Hop))(de:DM)(p:Pl)(s:CS)(v:Int):CS:=
 let r:=nth rs v
 if uses p r then
  let g:=y39 r p.fNode
  if g.2 then
   let a:=DO s.e (MUL (RT c v) ⟨yd de (pk g.1) 0,1⟩)
   let b:=DO a.2 (ADD (yd s.bu ⟨v,pk g.1⟩ ⟨0,0⟩) a.1)
   ⟨s.own,max s.most (mx c v),b.2,yC s.lk g.1.fQ (yd s.lk g.1.fQ []++[v]),yC s.bu ⟨v,p⟩ b.1⟩
  else⟨s.own++[[⟨⟨mx c v,1⟩,RT c v⟩]],max s.most (mx c v),s.e,s.lk,yC s.bu ⟨v,p⟩ ⟨mx c v,1⟩⟩
 else s
def y1r(v:Int):Nat->List Int
 | 0=>[]
 | n+1=>v::y1r (v+1) n
abbrev CR:=List (List B)×Int×Int×BM
theorem ygZ{c:Cf}{rs:List (List Hop)}{de:DM}{p:Pl}{s:CS}{v:Int}{n:Int}(h:(s.own.length:Int)<=n/\∀ k,((yd s.lk k []).length:Int)<=n):((cst c rs de p s v).own.length:Int)<=n+1/\∀ k,((yd (cst c rs de p s v).lk k []).length:Int)<=n+1:=by
 unfold cst
 simp only
 split
 ·split
  ·refine⟨by have:=h.1;show(s.own.length:Int)<=_;omega,fun k=>?_⟩
   show((yd (yC s.lk _ _) k []).length:Int)<=_
   rw[y1u]
   split
   ·have:=h.2 (y39 (nth rs v) p.fNode).1.fQ;simp;omega
   ·have:=h.2 k;omega
  ·refine⟨by have:=h.1;simp;omega,fun k=>by have:=h.2 k;show((yd s.lk k []).length:Int)<=_;omega⟩
 ·exact⟨by have:=h.1;omega,fun k=>by have:=h.2 k;omega⟩
theorem yh0{c:Cf}{rs:List (List Hop)}{de:DM}{p:Pl}{k:List (List B)->Int->Int->List (Int×List Int)->BM->Option CR}(hv:VLs c)(hl:rs.length=c.fVLs.length)(hr:∀ r∈rs,r.length<1000000000)(hs:rs.length<=1000):
  ∀(n:Nat) (v:Int) (s:CS),0<=v->v<=rs.length->rs.length<n+v->((s.own.length:Int)<=v/\∀ k,((yd s.lk k []).length:Int)<=v)->
   y2X rs p c de k n s.own s.most v s.e s.lk s.bu=(fun t:CS=>k t.own t.most t.e t.lk t.bu) ((y1r v (rs.length-v.toNat)).foldl (cst c rs de p) s)
 | 0,v,s,h0,h1,h2,h3=>by omega
 | n+1,v,s,h0,h1,h2,h3=>by
  rw[y2X]
  by_cases h:v<rs.length
  ·have hb:0<=v/\v<(c.fVLs.length:Int):=⟨h0,by omega⟩
   rw[if_pos (decide_eq_true h),show rs.length-v.toNat=(rs.length-(v+1).toNat)+1 by omega,y1r,List.foldl_cons]
   refine yi7 (P:=fun o=>o=_) fun k1 hk1=>?_
   have hgo:∀ t:CS,t=cst c rs de p s v->k1 t.own t.most t.e t.lk t.bu=(fun t:CS=>k t.own t.most t.e t.lk t.bu) ((y1r (v+1) (rs.length-(v+1).toNat)).foldl (cst c rs de p) (cst c rs de p s v)):=fun t ht=>by
    subst ht
    rw[hk1,yz (x:=v+1) (by omega)]
    exact yh0 hv hl hr hs n (v+1) _ (by omega) (by omega) (by omega) (ygZ h3)
   rw[yt ⟨h0,h⟩,uses_eq (hr _ (yO h0 h)),oB]
   cases hu:uses p (nth rs v) with
   | false=>
    rw[if_pos (by rfl)]
    refine hgo s ?_
    unfold cst;simp only[hu];rfl
   | true=>
    rw[if_neg (by simp),yt hb,yt hb]
    unfold y2L
    rw[oB]
    refine yi7 (P:=fun o=>o=_) fun k2 hk2=>?_
    rw[ygp (hr _ (yO h0 h)),oB]
    cases hg:(y39 (nth rs v) p.fNode).2 with
    | true=>
     rw[if_pos rfl,yfG,oB,ygE hv hb,oB,oB,oB]
     rw[do_eq (f:=fun y0 y1=>y3J y0 y1) (mul_s _ _).1,oB]
     rw[do_eq (f:=fun y0 y1=>y1q y0 y1) (ycJ _ _).1,oB]
     have:=h3.2 (y39 (nth rs v) p.fNode).1.fQ
     rw[yt (by simp;omega),hk2]
     refine Eq.trans ?_ (hgo _ rfl)
     have e:cst c rs de p s v=cst c rs de p s v:=rfl
     conv at e=>rhs;unfold cst
     simp only[hu,hg,if_true,if_false,Bool.false_eq_true] at e
     rw[e]
     rfl
    | false=>
     rw[if_neg (by simp),ygE hv hb,oB]
     have:=h3.1
     rw[yt (by simp;omega),hk2]
     refine Eq.trans ?_ (hgo _ rfl)
     have e:cst c rs de p s v=cst c rs de p s v:=rfl
     conv at e=>rhs;unfold cst
     simp only[hu,hg,if_true,if_false,Bool.false_eq_true] at e
     rw[e]
     rfl
  ·rw[if_neg (by simpa using h),show rs.length-v.toNat=0 by omega];rfl
structure GS where
 wide:Int
 e:Int
 b:R
 r:R
def gst(c:Cf)(bu:BM)(p:Pl)(s:GS)(v:Int):GS:=
 let x:=DO s.e (ADD s.b (yd bu ⟨v,p⟩ ⟨0,0⟩))
 let y:=DO x.2 (ADD s.r (RT c v))
 ⟨max s.wide (mx c v),y.2,x.1,y.1⟩
theorem yfR{c:Cf}{rs:List (List Hop)}{lk:List (Int×List Int)}{q:Int}{bu:BM}{de:DM}{p:Pl}{k:Int->Int->Int->Int->Int->Int->Option CR}(hv:VLs c)(hl:∀ v∈yd lk q [],0<=v/\v<c.fVLs.length)(hs:(yd lk q []).length<=1000):
  ∀(n:Nat) (i:Int) (s:GS),0<=i->i<=(yd lk q []).length->(yd lk q []).length<n+i->
   y2Y lk q c rs bu de p k n s.wide i s.e s.b.fN s.b.fD s.r.fN s.r.fD=(fun t:GS=>k t.wide t.e t.b.fN t.b.fD t.r.fN t.r.fD) (((yd lk q []).drop i.toNat).foldl (gst c bu p) s)
 | 0,v,s,h0,h1,h2=>by omega
 | n+1,i,s,h0,h1,h2=>by
  rw[y2Y]
  by_cases h:i<(yd lk q []).length
  ·have hb:=hl _ (yO h0 h)
   rw[if_pos (decide_eq_true h),yt ⟨h0,h⟩,y42 h0 h,List.foldl_cons]
   rw[do_eq (f:=fun y0 y1=>y1q y0 y1) (ycJ _ _).1,oB,ygE hv hb,oB,do_eq (f:=fun y0 y1=>y1q y0 y1) (ycJ _ _).1,oB,yt hb,yz (x:=i+1) (by omega)]
   have e2:(i+1).toNat=i.toNat+1:=by omega
   have:=yfR (rs:=rs) (de:=de) (bu:=bu) (p:=p) (k:=k) hv hl hs n (i+1) (gst c bu p s (nth (yd lk q []) i)) (by omega) (by omega) (by omega)
   rw[e2] at this
   exact this
  ·rw[if_neg (by simpa using h),List.drop_eq_nil_of_le (by omega)];rfl
def lst(c:Cf)(lk:List (Int×List Int))(bu:BM)(p:Pl)(s:List (List B)×Int)(q:Int):List (List B)×Int:=
 if yd lk q []=[] then s else
  let g:=(yd lk q []).foldl (gst c bu p) ⟨0,s.2,⟨0,1⟩,⟨0,1⟩⟩
  (s.1++[[⟨g.b,g.r⟩,⟨⟨g.wide,1⟩,⟨1,(nth c.fK q).fSlow⟩⟩]],g.e)
theorem yh1{c:Cf}{rs:List (List Hop)}{lk:List (Int×List Int)}{bu:BM}{de:DM}{p:Pl}{k:List (List B)->Int->Option CR}(hv:VLs c)(hl:∀ q,∀ v∈yd lk q [],0<=v/\v<c.fVLs.length)(hs:∀ q,(yd lk q []).length<=1000)(hL:c.fK.length<=1000):
  ∀(n:Nat) (q:Int) (s:List (List B)×Int),0<=q->q<=c.fK.length->c.fK.length<n+q->(s.1.length:Int)<=q->
   y2Z c lk rs bu de p k n s.1 q s.2=(fun t:List (List B)×Int=>k t.1 t.2) ((y1r q (c.fK.length-q.toNat)).foldl (lst c lk bu p) s)
 | 0,v,s,h0,h1,h2,h3=>by omega
 | n+1,q,s,h0,h1,h2,h3=>by
  rw[y2Z]
  by_cases h:q<c.fK.length
  ·rw[if_pos (decide_eq_true h),show c.fK.length-q.toNat=(c.fK.length-(q+1).toNat)+1 by omega,y1r,List.foldl_cons]
   refine yc7 (P:=fun o=>o=_) fun k1 hk1=>?_
   have hlen:((lst c lk bu p s q).1.length:Int)<=q+1:=by
    unfold lst;split
    ·omega
    ·simp;omega
   have hgo:∀ t:List (List B)×Int,t=lst c lk bu p s q->k1 t.1 t.2=(fun t:List (List B)×Int=>k t.1 t.2) ((y1r (q+1) (c.fK.length-(q+1).toNat)).foldl (lst c lk bu p) (lst c lk bu p s q)):=fun t ht=>by
    subst ht
    rw[hk1,yz (x:=q+1) (by omega)]
    exact yh1 hv hl hs hL n (q+1) _ (by omega) (by omega) (by omega) hlen
   by_cases hz:yd lk q []=[]
   ·rw[if_pos (by simp[hz])]
    refine hgo s ?_
    unfold lst;rw[if_pos hz]
   ·rw[if_neg (by simpa using hz)]
    unfold y2L
    rw[oB,oB]
    refine jp6_ex (P:=fun o=>o=_) fun k2 hk2=>?_
    have:=yfR (rs:=rs) (de:=de) (k:=k2) (bu:=bu) (p:=p) hv (hl q) (hs q) yy 0 ⟨0,s.2,⟨0,1⟩,⟨0,1⟩⟩ (by omega) (by omega) (by rw[yV];have:=hs q;omega)
    simp only[Int.toNat_zero,List.drop_zero] at this
    rw[this,hk2,oB,yt ⟨h0,h⟩,yt (by simp;omega)]
    refine hgo (_,_) ?_
    unfold lst;rw[if_neg hz]
  ·rw[if_neg (by simpa using h),show c.fK.length-q.toNat=0 by omega];rfl
theorem cst_lk{c:Cf}{rs:List (List Hop)}{de:DM}{p:Pl}:∀(n:Nat) (v:Int) (s:CS),0<=v->((s.own.length:Int)<=v/\∀ k,((yd s.lk k []).length:Int)<=v)->(∀ k,∀ x∈yd s.lk k [],0<=x/\x<v)->
  (((y1r v n).foldl (cst c rs de p) s).own.length:Int)<=v+n/\(∀ k,((yd ((y1r v n).foldl (cst c rs de p) s).lk k []).length:Int)<=v+n)/\∀ k,∀ x∈yd ((y1r v n).foldl (cst c rs de p) s).lk k [],0<=x/\x<v+n
 | 0,v,s,_,h,h2=>⟨by have:=h.1;show(s.own.length:Int)<=_;omega,fun k=>by have:=h.2 k;show((yd s.lk k []).length:Int)<=_;omega,fun k x hx=>by have:=h2 k x hx;omega⟩
 | n+1,v,s,h0,h,h2=>by
  rw[y1r,List.foldl_cons]
  obtain⟨a1,a2,a3⟩:=cst_lk (c:=c) (rs:=rs) (de:=de) (p:=p) n (v+1) (cst c rs de p s v) (by omega) (ygZ h) (fun k x hx=>by
   unfold cst at hx
   simp only at hx
   split at hx
   ·split at hx
    ·rw[show(CS.lk ⟨_,_,_,_,_⟩)=yC s.lk _ _ from rfl,y1u] at hx
     split at hx
     ·rcases List.mem_append.1 hx with hx | hx
      ·have:=h2 _ x hx;omega
      ·rw[List.mem_singleton] at hx;omega
     ·have:=h2 k x hx;omega
    ·have:=h2 k x hx;omega
   ·have:=h2 k x hx;omega)
  exact⟨by omega,fun k=>by have:=a2 k;omega,fun k x hx=>by have:=a3 k x hx;omega⟩
def CU(c:Cf)(rs:List (List Hop))(bu:BM)(de:DM)(e:Int)(p:Pl):CR:=
 let s:=(y1r 0 rs.length).foldl (cst c rs de p) ⟨[],0,e,[],bu⟩
 let g:=(y1r 0 c.fK.length).foldl (lst c s.lk s.bu p) ([],s.e)
 (s.own++g.1,s.most,g.2,s.bu)
theorem yje{c:Cf}{lk:List (Int×List Int)}{bu:BM}{p:Pl}:∀(n:Nat) (q:Int) (s:List (List B)×Int),((y1r q n).foldl (lst c lk bu p) s).1.length<=s.1.length+n
 | 0,q,s=>by show s.1.length<=_;omega
 | n+1,q,s=>by
  rw[y1r,List.foldl_cons]
  have h1:=yje (c:=c) (lk:=lk) (bu:=bu) (p:=p) n (q+1) (lst c lk bu p s q)
  have h2:(lst c lk bu p s q).1.length<=s.1.length+1:=by
   unfold lst;split
   ·omega
   ·simp
  omega
theorem ykz{c:Cf}{rs:List (List Hop)}{bu:BM}{de:DM}{e:Int}{p:Pl}(hv:VLs c)(hl:rs.length=c.fVLs.length)(hr:∀ r∈rs,r.length<1000000000)(hs:rs.length<=16)(hL:c.fK.length<=20):
  y50 c rs bu de e p=some (CU c rs bu de e p)/\(CU c rs bu de e p).1.length<=36:=by
 obtain⟨a1,a2,a3⟩:=cst_lk (c:=c) (rs:=rs) (de:=de) (p:=p) rs.length 0 ⟨[],0,e,[],bu⟩ (by omega) ⟨by simp,fun k=>by simp[yd]⟩ (fun k x hx=>by simp[yd] at hx)
 have hlen:(CU c rs bu de e p).1.length<=36:=by
  unfold CU
  simp only[List.length_append]
  have:=yje (c:=c) (lk:=((y1r 0 rs.length).foldl (cst c rs de p) ⟨[],0,e,[],bu⟩).lk) (bu:=((y1r 0 rs.length).foldl (cst c rs de p) ⟨[],0,e,[],bu⟩).bu) (p:=p) c.fK.length 0 ([],((y1r 0 rs.length).foldl (cst c rs de p) ⟨[],0,e,[],bu⟩).e)
  simp only[List.length_nil,Nat.zero_add] at this
  omega
 refine⟨?_,hlen⟩
 unfold y50
 refine yi7 (P:=fun o=>o=_) fun k hk=>?_
 have h1:=yh0 (k:=k) (p:=p) (de:=de) hv hl hr (by omega) yy 0 ⟨[],0,e,[],bu⟩ (by omega) (by omega) (by rw[yV];omega) ⟨by simp,fun k=>by simp[yd]⟩
 simp only[Int.toNat_zero,Nat.sub_zero] at h1
 rw[h1,hk]
 refine yc7 (P:=fun o=>o=_) fun k2 hk2=>?_
 have h2:=yh1 (rs:=rs) (de:=de) (p:=p) (k:=k2) (bu:=((y1r 0 rs.length).foldl (cst c rs de p) ⟨[],0,e,[],bu⟩).bu) hv (fun q v hx=>by have:=a3 q v hx;omega) (fun q=>by have:=a2 q;omega) (by omega) yy 0 ([],((y1r 0 rs.length).foldl (cst c rs de p) ⟨[],0,e,[],bu⟩).e) (by omega) (by omega) (by rw[yV];omega) (by simp)
 simp only[Int.toNat_zero,Nat.sub_zero] at h2
 rw[h2,hk2]
 unfold CU at hlen
 simp only at hlen
 rw[yt (by omega)]
 rfl
end Go.Proofs.YthjnhebofpebpaaGreat

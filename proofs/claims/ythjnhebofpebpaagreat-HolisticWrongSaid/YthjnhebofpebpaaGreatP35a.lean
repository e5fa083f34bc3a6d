/- A part of this claim's proof: models of functions, walks, plain laws. No conditions. -/
import Derived.Test.YthjnhebofpebpaaGreatW36wh
import Derived.Test.YthjnhebofpebpaaGreatZMem
set_option linter.all false
namespace Go.Proofs.YthjnhebofpebpaaGreat
open Go Go.RowKit Sep
section
variable {net:Int}
theorem mb{R:Type}{K:Option R}{F:Option R->Option R}{P:Option R->Prop}(h:∀ k:Option R,k=K->P (F k)):P (mh K F):=h K rfl
theorem vj{R A0:Type}{K:A0->Option R}{F:(A0->Option R)->Option R}{P:Option R->Prop}(h:∀ k:A0->Option R,(∀ x0,k x0=K x0)->P (F k)):P (jG K F):=h K fun _=>rfl
theorem pw{R A0 A1:Type}{K:A0->A1->Option R}{F:(A0->A1->Option R)->Option R}{P:Option R->Prop}(h:∀ k:A0->A1->Option R,(∀ x0 x1,k x0 x1=K x0 x1)->P (F k)):P (si K F):=h K fun _ _=>rfl
/-! ### comparisons -/
def WV(x y:Int):Int:=if x<y then -1 else if x>y then 1 else 0
theorem Xj(x y:Int):kX x y=some (WV x y):=by
 unfold kX fw WV
 simp only[ne_eq,not_true_eq_false,decide_false,oB,Bool.false_eq_true,if_false,decide_eq_true_eq]
 by_cases h1:x<y
 ·simp[h1]
 ·by_cases h2:x>y
  ·simp[h1,h2]
  ·simp[h1,h2]
def iV:List Int->Int
 | []=>0
 | x::l=>if x≠0 then x else iV l
theorem YG{l:List Int}{k:Option Int}(hl:l.length<9000000000000000000):∀(n:Nat) (v:Int),0<=v->v<=l.length->l.length<n+v->
  kR l k n v=if iV (l.drop v.toNat)≠0 then some (iV (l.drop v.toNat)) else k
 | 0,v,h0,h1,h2=>by omega
 | n+1,v,h0,h1,h2=>by
  rw[kR]
  by_cases h:v<l.length
  ·rw[if_pos (decide_eq_true h),xA ⟨h0,h⟩]
   have hd:l.drop v.toNat=nth l v::l.drop (v.toNat+1):=by
    have h3:v.toNat<l.length:=by omega
    rw[<- List.getElem_cons_drop h3]
    rw[gU (l:=l) h0 h]
   rw[hd,iV]
   by_cases hz:nth l v=0
   ·rw[if_neg (by simp[hz]),xD (by omega),YG hl n (v+1) (by omega) (by omega) (by omega),show(v+1).toNat=v.toNat+1 by omega]
    simp only[hz,ne_eq,not_true_eq_false,if_false]
   ·rw[if_pos (decide_eq_true hz),if_pos hz,if_pos hz]
  ·rw[if_neg (by simpa using h),List.drop_eq_nil_of_le (by omega)]
   simp[iV]
theorem or_eq{l:List Int}(hl:l.length<9000000000000000000):uI l=some (iV l):=by
 unfold uI
 refine mb (P:=fun o=>o=some (iV l)) fun k hk=>?_
 rw[YG hl xI 0 (by omega) (by omega) (by rw[w5];omega),hk]
 simp only[Int.toNat_zero,List.drop_zero]
 by_cases h:iV l=0 <;> simp[h]
theorem uY{α:Type}[Inhabited α]{l:List α}{i:Int}(h:0<=i/\i<l.length):nth l i=l[i.toNat]'(by omega):=by
 exact(gU (l:=l) h.1 h.2).symm
theorem jZ{α:Type}[Inhabited α]{l:List α}{v:Int}(h0:0<=v)(h:v<l.length):l.drop v.toNat=nth l v::l.drop (v.toNat+1):=by
 have h3:v.toNat<l.length:=by omega
 rw[<- List.getElem_cons_drop h3,gU (l:=l) h0 h]
abbrev Cf:=zt
abbrev Hop:=zd
def nM(c:Cf):Int:=c.fM.length
def nN(c:Cf):Int:=c.fM.length+c.fS.length
structure Small (c:Cf):Prop where
 m:c.fM.length<=1000
 s:c.fS.length<=1000
 l:c.fK.length<=1000
 v:c.yb.length<=1000
def sw(c:Cf)(n:Int):yw:=nth c.fS (n-nM c)
def Xk(c:Cf)(n:Int):ByteArray:=if n<0\/n>=nN c then⟨#[]⟩ else if n<nM c then(nth c.fM n).ys else(sw c n).ys
theorem ak{c:Cf}(h:Small c):ke c=some (nN c):=by
 have:=h.m;have:=h.s
 unfold ke nN
 rw[xD (by omega)]
theorem VJ{c:Cf}(h:Small c)(n:Int)(hn : -1000000<=n/\n<=1000000):kz c n=some (Xk c n):=by
 have:=h.m;have:=h.s
 unfold kz Xk
 rw[ak h]
 by_cases h1:n<0
 ·simp[h1]
 ·rw[if_neg (by simpa using h1)]
  simp only[oB,decide_eq_true_eq]
  by_cases h2:n>=nN c
  ·rw[if_pos h2,if_pos (.inr h2)]
  ·rw[if_neg h2,if_neg (show ¬(n<0\/n>=nN c) by omega)]
   unfold nN nM at *
   by_cases h3:n<c.fM.length
   ·rw[if_pos h3,xA ⟨by omega,h3⟩,if_pos h3]
   ·rw[if_neg h3,xD (by omega),xA ⟨by omega,by omega⟩,if_neg h3]
    rfl
theorem eS{c:Cf}(h:Small c){nm:ByteArray}{k:Option Int}:∀(f:Nat) (v:Int),0<=v->v<=nN c->nN c<f+v->
  (∃ i:Int,0<=i/\i<nN c/\vu (nN c) c nm k f v=some i)\/vu (nN c) c nm k f v=k
 | 0,v,h0,h1,h2=>by omega
 | f+1,v,h0,h1,h2=>by
  have hb:nN c<=2000:=by have:=h.m;have:=h.s;unfold nN;omega
  rw[vu]
  by_cases h3:v<nN c
  ·rw[if_pos (decide_eq_true h3),VJ h v (by omega)]
   simp only[oB,decide_eq_true_eq]
   by_cases h4:Xk c v=nm
   ·rw[if_pos h4];exact .inl ⟨v,h0,h3,rfl⟩
   ·rw[if_neg h4,xD (by omega)]
    exact eS h f (v+1) (by omega) (by omega) (by omega)
  ·rw[if_neg (by simpa using h3)];exact .inr rfl
theorem YH{c:Cf}(h:Small c)(nm:ByteArray):∃ i:Int,-1<=i/\i<nN c/\vP c nm=some i:=by
 unfold vP
 rw[ak h]
 have hF:=w5
 generalize xI=N at hF ⊢
 refine mb (P:=fun o=>∃ i:Int,-1<=i/\i<nN c/\o=some i) fun k hk=>?_
 have hb:0<=nN c/\nN c<=2000:=by have:=h.m;have:=h.s;unfold nN;omega
 simp only[oB]
 rcases eS h (nm:=nm) (k:=k) N 0 (by omega) hb.1 (by omega) with⟨i,h1,h2,h3⟩ | h3
 ·exact⟨i,by omega,h2,h3⟩
 ·exact⟨-1,by omega,by omega,h3.trans hk⟩
def fA(c:Cf)(l:Int):Int:=(vP c (nth c.fK l).fA).getD (-1)
def fB(c:Cf)(l:Int):Int:=(vP c (nth c.fK l).fB).getD (-1)
theorem Xl{c:Cf}(h:Small c)(l:Int):vP c (nth c.fK l).fA=some (fA c l) /\ -1<=fA c l/\fA c l<nN c:=by
 obtain⟨i,h1,h2,h3⟩:=YH h (nth c.fK l).fA
 unfold fA;rw[h3];exact⟨rfl,h1,h2⟩
theorem Xm{c:Cf}(h:Small c)(l:Int):vP c (nth c.fK l).fB=some (fB c l) /\ -1<=fB c l/\fB c l<nN c:=by
 obtain⟨i,h1,h2,h3⟩:=YH h (nth c.fK l).fB
 unfold fB;rw[h3];exact⟨rfl,h1,h2⟩
def sO(c:Cf)(net n:Int):Prop:=0<=n/\(n<nM c\/(sw c n).yD=net/\0<=(sw c n).yj/\(sw c n).yj<=1000/\0<=(sw c n).fT/\(sw c n).fT<=1073741824)
instance (c:Cf) (net n:Int):Decidable (sO c net n):=inferInstanceAs (Decidable (_/\_))
theorem YI{c:Cf}(h:Small c){n:Int}(hn : -1<=n/\n<nN c):gS c net n=some (decide (sO c net n)):=by
 have:=h.m;have:=h.s
 unfold gS
 unfold nN at hn
 by_cases h1:n<c.fM.length
 ·rw[if_pos (decide_eq_true h1)]
  refine congrArg some ?_
  rw[Bool.eq_iff_iff,decide_eq_true_iff,decide_eq_true_iff]
  unfold sO nM
  exact⟨fun h=>⟨h,.inl h1⟩,fun h=>h.1⟩
 ·rw[if_neg (by simpa using h1),xD (by omega),xA ⟨by omega,by omega⟩]
  refine congrArg some ?_
  rw[Bool.eq_iff_iff,decide_eq_true_iff]
  unfold sO sw nM
  simp only[Bool.and_eq_true,decide_eq_true_eq]
  constructor
  ·rintro⟨⟨⟨⟨a,b⟩,e⟩,d⟩,f⟩;exact⟨by omega,.inr ⟨a,b,e,d,f⟩⟩
  ·rintro⟨_,a | ⟨a,b,e,d,f⟩⟩
   ·exact absurd a h1
   ·exact⟨⟨⟨⟨a,b⟩,e⟩,d⟩,f⟩
def JN(c:Cf)(net mM a b:Int):Prop:=0<=mM/\mM<c.fK.length/\(nth c.fK mM).yD=net/\1<=(nth c.fK mM).yp/\(nth c.fK mM).yp<=16/\fA c mM≠fB c mM/\
 sO c net (fA c mM)/\sO c net (fB c mM)/\(fA c mM=a/\fB c mM=b\/fA c mM=b/\fB c mM=a)
instance (c:Cf) (net mM a b:Int):Decidable (JN c net mM a b):=inferInstanceAs (Decidable (_/\_))
theorem WW{c:Cf}(h:Small c)(net mM a b:Int):fq c net mM a b=some (decide (JN c net mM a b)):=by
 unfold fq
 by_cases h1:mM<0\/mM>=c.fK.length
 ·rw[if_pos (by simpa using h1)]
  congr 1;symm
  rw[decide_eq_false_iff_not]
  rintro⟨a,b,_⟩;omega
 ·rw[if_neg (by simpa using h1),xA ⟨by omega,by omega⟩]
  obtain⟨a1,a2,a3⟩:=Xl h mM
  obtain⟨b1,b2,b3⟩:=Xm h mM
  rw[a1,b1]
  simp only[oB]
  rw[YI h ⟨a2,a3⟩,YI h ⟨b2,b3⟩]
  simp only[oB]
  by_cases h2:(nth c.fK mM).yD=net/\1<=(nth c.fK mM).yp/\(nth c.fK mM).yp<=16/\fA c mM≠fB c mM
  ·rw[if_pos (by simp only[Bool.and_eq_true,decide_eq_true_eq];exact⟨⟨⟨h2.1,h2.2.1⟩,h2.2.2.1⟩,h2.2.2.2⟩)]
   simp only[oB]
   by_cases h3:sO c net (fA c mM)
   ·rw[if_pos (decide_eq_true h3)]
    simp only[oB]
    congr 1
    rw[Bool.eq_iff_iff]
    simp only[Bool.and_eq_true,Bool.or_eq_true,decide_eq_true_eq]
    constructor
    ·rintro⟨x,y⟩;exact⟨by omega,by omega,h2.1,h2.2.1,h2.2.2.1,h2.2.2.2,h3,x,y⟩
    ·rintro⟨_,_,_,_,_,_,_,x,y⟩;exact⟨x,y⟩
   ·rw[if_neg (by simpa using h3)]
    simp only[oB,Bool.false_and]
    congr 1;symm
    rw[decide_eq_false_iff_not]
    rintro⟨_,_,_,_,_,_,x,_⟩;exact h3 x
  ·rw[if_neg (by simp only[Bool.and_eq_true,decide_eq_true_eq];rintro⟨⟨⟨x,y⟩,z⟩,w⟩;exact h2 ⟨x,y,z,w⟩)]
   simp only[oB,Bool.false_eq_true,if_false,Bool.false_and]
   congr 1;symm
   rw[decide_eq_false_iff_not]
   rintro⟨_,_,x,y,z,w,_⟩;exact h2 ⟨x,y,z,w⟩
/-! ### routes -/
def RK(r:List Hop)(v k:Int):Prop:=k=(nth r 0).ya\/∃ q:Int,0<=q/\q<v/\(nth r q).yh=k
def pZ(c:Cf)(net:Int)(r:List Hop)(v:Int):Prop:=
 RK r v (nth r v).ya/\¬RK r v (nth r v).yh/\((nth r v).ya=(nth r 0).ya\/nM c<=(nth r v).ya)/\JN c net (nth r v).fQ (nth r v).ya (nth r v).yh
structure VR (c:Cf) (net:Int) (r:List Hop):Prop where
 len:r.length<=32
 cond:∀ v:Int,0<=v->v<r.length->pZ c net r v
theorem cI{κ γ:Type}[DecidableEq κ]{k k':κ}{u d:γ}(h:k'≠k):∀(l:List (κ×γ)),xp (xM l k u) k' d=xp l k' d
 | []=>by simp[xM,xp,h]
 | p::l=>by
  by_cases hk:k=p.1
  ·subst hk;simp[xM,xp,h]
  ·simp only[xM,hk,if_false,xp];rw[cI h l]
theorem oS{κ γ:Type}[DecidableEq κ]{k:κ}{u d:γ}:∀(l:List (κ×γ)),xp (xM l k u) k d=u
 | []=>by simp[xM,xp]
 | p::l=>by
  by_cases hk:k=p.1
  ·subst hk;simp[xM,xp]
  ·simp only[xM,hk,if_false,xp];exact oS l
theorem dA{c:Cf}(h:Small c){net:Int}{r:List Hop}{k:Option Bool}(hr:r.length<1000000000):∀(f:Nat) (v:Int) (mp:List (Int×Int)),0<=v->v<=r.length->r.length<f+v->
  (∀ x,0<=xp mp x 0/\xp mp x 0<=2*v/\(0<xp mp x 0↔0<v/\RK r v x))->
  ((∃ q:Int,v<=q/\q<r.length/\¬pZ c net r q)/\qX r c net k f v mp=some false)\/((∀ q:Int,v<=q->q<r.length->pZ c net r q)/\qX r c net k f v mp=k)
 | 0,v,mp,h0,h1,h2,h3=>by omega
 | f+1,v,mp,h0,h1,h2,h3=>by
  rw[qX]
  by_cases hv:v<r.length
  ·rw[if_pos (decide_eq_true hv),xA ⟨h0,hv⟩]
   refine vj (P:=fun o=>((∃ q:Int,v<=q/\q<r.length/\¬pZ c net r q)/\o=some false)\/((∀ q:Int,v<=q->q<r.length->pZ c net r q)/\o=k)) fun kk AX=>?_
   -- the map in which the start is counted
   have hm:∃ AC,(if decide (v=0)=true then kk (xM mp ((nth r v).ya) (i64 ((xp mp ((nth r v).ya) 0)+1))) else kk mp)=kk AC/\(∀ x,0<=xp AC x 0/\xp AC x 0<=2*v+1/\(0<xp AC x 0↔RK r v x)):=by
    by_cases BB:v=0
    ·subst BB
     rw[if_pos (by simp)]
     refine⟨_,rfl,fun x=>?_⟩
     have h4:=h3 (nth r 0).ya
     rw[xD (by omega)]
     by_cases hx:x=(nth r 0).ya
     ·subst hx;rw[oS]
      refine⟨by omega,by omega,fun _ => .inl rfl,fun _=>by omega⟩
     ·rw[cI hx]
      have h5:=h3 x
      refine⟨by omega,by omega,fun h6=>absurd (h5.2.2.1 h6).1 (by omega),fun h6=>?_⟩
      rcases h6 with h6 | ⟨q,q1,q2,_⟩
      ·exact absurd h6 hx
      ·omega
    ·rw[if_neg (by simpa using BB)]
     refine⟨mp,rfl,fun x=>?_⟩
     have h5:=h3 x
     exact⟨by omega,by omega,fun h6=>(h5.2.2.1 h6).2,fun h6=>h5.2.2.2 ⟨by omega,h6⟩⟩
   obtain⟨AC,e1,h4⟩:=hm
   rw[e1,AX,xA (fun _ hc=>⟨by omega,by omega⟩),WW h]
   simp only[oB]
   have hN:=h4 (nth r v).ya
   have hX:=h4 (nth r v).yh
   -- the condition
   have hc:∃ b,(if ((decide ((xp AC ((nth r v).ya) 0)=0))||(decide ((xp AC ((nth r v).yh) 0)>0))||((decide (v>0))&&(decide (((nth r v).ya)≠((nth r 0).ya)))&&(decide (((nth r v).ya)<((c.fM.length:Nat):Int)))))=true then some true else some (!decide (JN c net ((nth r v).fQ) ((nth r v).ya) ((nth r v).yh))))=some b/\(b=true↔¬pZ c net r v):=by
    by_cases hb:(decide ((xp AC ((nth r v).ya) 0)=0)||decide ((xp AC ((nth r v).yh) 0)>0)||(decide (v>0)&&decide (((nth r v).ya)≠((nth r 0).ya))&&decide (((nth r v).ya)<((c.fM.length:Nat):Int))))=true
    ·rw[if_pos hb]
     refine⟨true,rfl,fun _=>?_,fun _=>rfl⟩
     rintro⟨a1,a2,a3,_⟩
     simp only[Bool.or_eq_true,Bool.and_eq_true,decide_eq_true_eq] at hb
     rcases hb with(hb | hb) | ⟨⟨b1,b2⟩,b3⟩
     ·have:=hN.2.2.2 a1;omega
     ·exact a2 (hX.2.2.1 hb)
     ·unfold nM at a3;rcases a3 with a3 | a3
      ·exact b2 a3
      ·omega
    ·rw[if_neg hb]
     refine⟨_,rfl,?_⟩
     simp only[Bool.or_eq_true,Bool.and_eq_true,decide_eq_true_eq,not_or,not_and] at hb
     obtain⟨⟨b1,b2⟩,b3⟩:=hb
     have c1:RK r v (nth r v).ya:=hN.2.2.1 (by omega)
     have c2:¬RK r v (nth r v).yh:=fun hk=>b2 (hX.2.2.2 hk)
     have c3:(nth r v).ya=(nth r 0).ya\/nM c<=(nth r v).ya:=by
      unfold nM
      by_cases e:(nth r v).ya=(nth r 0).ya
      ·exact .inl e
      ·refine .inr ?_
       by_cases e0:v=0
       ·subst e0;exact absurd rfl e
       ·have:=b3 ⟨by omega,e⟩;omega
     simp only[Bool.not_eq_true',decide_eq_false_iff_not]
     exact⟨fun hj hc=>hj hc.2.2.2,fun hc hj=>hc ⟨c1,c2,c3,hj⟩⟩
   obtain⟨b,hb1,Dl⟩:=hc
   rw[hb1]
   simp only[oB]
   by_cases hb:b=true
   ·rw[if_pos hb];exact .inl ⟨⟨v,Int.le_refl _,hv,Dl.1 hb⟩,rfl⟩
   ·rw[if_neg hb]
    have hcv:pZ c net r v:=Classical.byContradiction fun hn=>hb (Dl.2 hn)
    rw[xD (x:=v+1) (by omega),xD (by omega)]
    have Dm:∀ x,0<=xp (xM AC ((nth r v).yh) ((xp AC ((nth r v).yh) 0)+1)) x 0/\xp (xM AC ((nth r v).yh) ((xp AC ((nth r v).yh) 0)+1)) x 0<=2*(v+1)/\(0<xp (xM AC ((nth r v).yh) ((xp AC ((nth r v).yh) 0)+1)) x 0↔0<v+1/\RK r (v+1) x):=by
     intro x
     by_cases hx:x=(nth r v).yh
     ·subst hx;rw[oS]
      exact⟨by omega,by omega,fun _=>⟨by omega,.inr ⟨v,h0,by omega,rfl⟩⟩,fun _=>by omega⟩
     ·rw[cI hx]
      have h5:=h4 x
      refine⟨by omega,by omega,fun h6=>⟨by omega,?_⟩,fun h6=>h5.2.2.2 ?_⟩
      ·rcases h5.2.2.1 h6 with h7 | ⟨q,q1,q2,q3⟩
       ·exact .inl h7
       ·exact .inr ⟨q,q1,by omega,q3⟩
      ·rcases h6.2 with h7 | ⟨q,q1,q2,q3⟩
       ·exact .inl h7
       ·by_cases e:q=v
        ·subst e;exact absurd q3.symm hx
        ·exact .inr ⟨q,q1,by omega,q3⟩
    rcases dA h hr f (v+1) (xM AC ((nth r v).yh) ((xp AC ((nth r v).yh) 0)+1)) (by omega) (by omega) (by omega) Dm (k:=k) (net:=net) with⟨⟨q,q1,q2,q3⟩,h5⟩ | ⟨h5,h6⟩
    ·exact .inl ⟨⟨q,by omega,q2,q3⟩,h5⟩
    ·refine .inr ⟨fun q q1 q2=>?_,h6⟩
     by_cases e:q=v
     ·rw[e];exact hcv
     ·exact h5 q (by omega) q2
  ·rw[if_neg (by simpa using hv)]
   exact .inr ⟨fun q h1 h2=>by omega,rfl⟩
theorem bP{c:Cf}(h:Small c){r:List Hop}(hr:r.length<1000000000):∃ b,fr c net r=some b/\(b=true↔VR c net r):=by
 unfold fr
 have hF:=w5
 generalize xI=N at hF ⊢
 refine mb (P:=fun o=>∃ b,o=some b/\(b=true↔VR c net r)) fun k hk=>?_
 rcases dA h hr N 0 [] (by omega) (by omega) (by omega) (fun x=>by simp[xp]) (k:=k) (net:=net) with⟨⟨q,q1,q2,q3⟩,h5⟩ | ⟨h5,h6⟩
 ·refine⟨false,h5,?_⟩
  simp only[Bool.false_eq_true,false_iff]
  exact fun hv=>q3 (hv.cond q q1 q2)
 ·refine⟨_,h6.trans hk,?_⟩
  rw[decide_eq_true_eq]
  exact⟨fun hl=>⟨by omega,h5⟩,fun hv=>by have:=hv.len;omega⟩
theorem od{l:List (List Hop)}{f:List Hop->Option Bool}{k:Option Int}(hf:∀ y∈l,∃ b,f y=some b)(hl:l.length<1000000000):∀(n:Nat) (v:Int),0<=v->v<=l.length->l.length<n+v->
  (∃ i:Int,v<=i/\i<l.length/\f (nth l i)=some true/\xX l f k n v=some i)\/((∀ i:Int,v<=i->i<l.length->f (nth l i)=some false)/\xX l f k n v=k)
 | 0,v,h0,h1,h2=>by omega
 | n+1,v,h0,h1,h2=>by
  rw[xX]
  by_cases h:v<l.length
  ·rw[if_pos (decide_eq_true h),xA ⟨h0,h⟩]
   obtain⟨b,hb⟩:=hf _ (wt h0 h)
   rw[hb]
   simp only[oB]
   cases b with
   | true=>exact .inl ⟨v,Int.le_refl _,h,hb,by simp⟩
   | false=>
    simp only[Bool.false_eq_true,if_false]
    rw[xD (x:=v+1) (by omega)]
    rcases od hf hl n (v+1) (by omega) (by omega) (by omega) (k:=k) with⟨i,i1,i2,i3,i4⟩ | ⟨i1,i2⟩
    ·exact .inl ⟨i,by omega,i2,i3,i4⟩
    ·refine .inr ⟨fun i j1 j2=>?_,i2⟩
     by_cases e:i=v
     ·rw[e];exact hb
     ·exact i1 i (by omega) j2
  ·rw[if_neg (by simpa using h)]
   exact .inr ⟨fun i h1 h2=>by omega,rfl⟩
structure VA (c:Cf) (net:Int) (rs:List (List Hop)):Prop where
 nt:net=0\/net=1
 len:rs.length=c.yb.length
 most:rs.length<=16
 each:∀ r∈rs,VR c net r
theorem px{c:Cf}(h:Small c){rs:List (List Hop)}(hr:∀ r∈rs,r.length<1000000000)(hl:rs.length<1000000000):∃ b,kf c net rs=some b/\(b=true↔VA c net rs):=by
 unfold kf
 by_cases h1:(net=0\/net=1)/\rs.length=c.yb.length/\rs.length<=16
 ·rw[if_pos (by simp only[Bool.and_eq_true,Bool.or_eq_true,decide_eq_true_eq];omega)]
  unfold wn vh
  have hF:=w5
  generalize xI=N at hF ⊢
  have hf:∀ y∈rs,∃ b,(fun(y0:List Hop)=>wO y0 c net) y=some b:=fun y hy=>by
   obtain⟨b,hb,_⟩:=bP h (net:=net) (hr y hy)
   exact⟨!b,by show wO y c net=_;unfold wO;rw[hb];rfl⟩
  have hi:∃ x:Int,(mh (some (-1)) fun k=>xX rs (fun(y0:List Hop)=>wO y0 c net) k N 0)=some x/\(x<0↔∀ i:Int,0<=i->i<rs.length->wO (nth rs i) c net=some false):=by
   refine mb (P:=fun o=>∃ x:Int,o=some x/\(x<0↔∀ i:Int,0<=i->i<rs.length->wO (nth rs i) c net=some false)) fun k hk=>?_
   rcases od hf hl N 0 (by omega) (by omega) (by omega) (k:=k) with⟨i,i1,i2,i3,i4⟩ | ⟨i1,i2⟩
   ·refine⟨i,i4,fun hx=>absurd hx (by omega),fun hx=>?_⟩
    have:=hx i i1 i2
    have i3':wO (nth rs i) c net=some true:=i3
    rw[this] at i3';cases i3'
   ·exact⟨-1,i2.trans hk,fun _=>i1,fun _=>by omega⟩
  obtain⟨x,hx1,hx2⟩:=hi
  rw[hx1]
  refine⟨_,rfl,?_⟩
  simp only[Bool.not_eq_true',decide_eq_false_iff_not]
  have Aw:(∀ i:Int,0<=i->i<rs.length->wO (nth rs i) c net=some false)↔∀ r∈rs,VR c net r:=by
   constructor
   ·intro hh r Bi
    obtain⟨i,hi,rfl⟩:=List.getElem_of_mem Bi
    have h3:=hh (i:Int) (by omega) (by omega)
    rw[uY ⟨by omega,by omega⟩] at h3
    simp only[Int.toNat_natCast] at h3
    obtain⟨b,hb,Dl⟩:=bP h (net:=net) (hr _ (List.getElem_mem hi))
    unfold wO at h3
    rw[hb] at h3
    simp at h3
    exact Dl.1 h3
   ·intro hh i i1 i2
    have hm:=wt i1 i2
    obtain⟨b,hb,Dl⟩:=bP h (net:=net) (hr _ hm)
    unfold wO
    rw[hb,Dl.2 (hh _ hm)];rfl
  constructor
  ·intro hh;exact⟨h1.1,h1.2.1,h1.2.2,Aw.1 (hx2.1 (by omega))⟩
  ·intro hh;have:=hx2.2 (Aw.2 hh.each);omega
 ·rw[if_neg (by simp only[Bool.and_eq_true,Bool.or_eq_true,decide_eq_true_eq];omega)]
  refine⟨false,rfl,?_⟩
  simp only[Bool.false_eq_true,false_iff]
  exact fun hv=>h1 ⟨hv.nt,hv.len,hv.most⟩
/-! ### frames -/
structure FewP (c:Cf) (rs:List (List Hop)):Prop where
 m:c.fM.length<=8
 s:c.fS.length<=8
 l:c.fK.length<=20
 v:c.yb.length<=20
 r:rs.length<=20
 e:∀ r∈rs,r.length<=40
theorem FewP.small{c:Cf}{rs:List (List Hop)}(h:FewP c rs):Small c:=⟨by have:=h.m;omega,by have:=h.s;omega,by have:=h.l;omega,by have:=h.v;omega⟩
theorem al{rs:List (List Hop)}{k:Option Bool}(hl:rs.length<=20):∀(n:Nat) (v:Int),0<=v->v<=rs.length->rs.length<n+v->
  gb rs k n v=if ∀ r∈rs.drop v.toNat,r.length<=40 then k else some false
 | 0,v,h0,h1,h2=>by omega
 | n+1,v,h0,h1,h2=>by
  rw[gb]
  by_cases h:v<rs.length
  ·rw[if_pos (decide_eq_true h),xA ⟨h0,h⟩,jZ h0 h]
   by_cases hr:(((nth rs v).length:Nat):Int)>40
   ·rw[if_pos (decide_eq_true hr),if_neg]
    intro hc;have:=hc (nth rs v) (by simp);omega
   ·rw[if_neg (by simpa using hr),xD (x:=v+1) (by omega),al hl n (v+1) (by omega) (by omega) (by omega),show(v+1).toNat=v.toNat+1 by omega]
    by_cases hq:∀ r∈rs.drop (v.toNat+1),r.length<=40
    ·rw[if_pos hq,if_pos]
     intro r hr'
     rcases List.mem_cons.1 hr' with rfl | hr'
     ·omega
     ·exact hq r hr'
    ·rw[if_neg hq,if_neg]
     exact fun hc=>hq fun r hr'=>hc r (List.mem_cons_of_mem _ hr')
  ·rw[if_neg (by simpa using h),if_pos]
   rw[List.drop_eq_nil_of_le (by omega)];simp
theorem Qa(c:Cf)(rs:List (List Hop)):∃ b,tn c rs=some b/\(b=true↔FewP c rs):=by
 unfold tn
 by_cases h:c.fM.length<=8/\c.fS.length<=8/\c.fK.length<=20/\c.yb.length<=20/\rs.length<=20
 ·obtain⟨h1,h2,h3,h4,h5⟩:=h
  rw[if_neg (by simp only[Bool.or_eq_true,Bool.and_eq_true,decide_eq_true_eq];omega)]
  refine mb (P:=fun o=>∃ b,o=some b/\(b=true↔FewP c rs)) fun k hk=>?_
  rw[al h5 xI 0 (by omega) (by omega) (by rw[w5];omega),hk]
  simp only[Int.toNat_zero,List.drop_zero]
  by_cases hq:∀ r∈rs,r.length<=40
  ·rw[if_pos hq];exact⟨true,rfl,by simp;exact⟨h1,h2,h3,h4,h5,hq⟩⟩
  ·rw[if_neg hq];exact⟨false,rfl,by simp;exact fun hc=>hq hc.e⟩
 ·rw[if_pos (by simp only[Bool.or_eq_true,Bool.and_eq_true,decide_eq_true_eq];omega)]
  refine⟨false,rfl,by simp;exact fun hc=>h ⟨hc.m,hc.s,hc.l,hc.v,hc.r⟩⟩
end
section
variable {r:List Hop}{rs:List (List Hop)}
theorem YJ{RR A0 A1 A2:Type}{K:A0->A1->A2->Option RR}{F:(A0->A1->A2->Option RR)->Option RR}{P:Option RR->Prop}(h:∀ k:A0->A1->A2->Option RR,(∀ x0 x1 x2,k x0 x1 x2=K x0 x1 x2)->P (F k)):P (d7 K F):=h K fun _ _ _=>rfl
/-! ### maps -/
theorem py{κ γ:Type}[DecidableEq κ]{k k':κ}{u:γ}:∀ l:List (κ×γ),qK (xM l k u) k'=(decide (k'=k)||qK l k')
 | []=>by simp[xM,qK]
 | p::l=>by
  by_cases hk:k=p.1
  ·subst hk
   by_cases h2:k'=p.1 <;> simp[xM,qK,h2]
  ·simp only[xM,hk,if_false,qK,py l]
   by_cases h2:k'=p.1
   ·simp[h2]
   ·simp[h2]
theorem sc{κ γ:Type}[DecidableEq κ]{k:κ}{u:γ}:∀ l:List (κ×γ),(xM l k u).map (·.1)=if k∈l.map (·.1) then l.map (·.1) else l.map (·.1)++[k]
 | []=>by simp[xM]
 | p::l=>by
  by_cases hk:k=p.1
  ·subst hk;simp[xM]
  ·simp only[xM,hk,if_false,List.map_cons,sc l,List.mem_cons,false_or]
   by_cases h:k∈l.map (·.1) <;> simp[h]
theorem jg{κ γ:Type}[DecidableEq κ]{k k':κ}{u d:γ}(l:List (κ×γ)):xp (xM l k u) k' d=if k'=k then u else xp l k' d:=by
 by_cases h:k'=k
 ·subst h;rw[oS,if_pos rfl]
 ·rw[cI h,if_neg h]
/-! ### sorting by a strict order -/
theorem iW{α:Type}{p:α->α->Option Int}{lt:α->α->Prop}{l0:List α}(hp:∀ x∈l0,∀ y∈l0,mS p x y<=0↔¬lt y x)(zr:∀ x y,lt x y->¬lt y x)(C5:∀ x y z,¬lt y x->¬lt z y->¬lt z x){x:α}(hx:x∈l0):∀ l:List α,(∀ y∈l,y∈l0)->(l.Pairwise fun a b=>¬lt b a)->(uS p x l).Pairwise fun a b=>¬lt b a
 | [],_,_=>by simp[uS]
 | y::l,hl,h=>by
  obtain⟨h1,h2⟩:=List.pairwise_cons.1 h
  unfold uS
  split
  ·rename_i hxy
   have hxy:=(hp x hx y (hl y (by simp))).1 hxy
   refine List.pairwise_cons.2 ⟨fun z hz=>?_,h⟩
   rcases List.mem_cons.1 hz with rfl | hz
   ·exact hxy
   ·exact C5 _ _ _ hxy (h1 z hz)
  ·rename_i hxy
   have hyx:lt y x:=by
    by_cases hc:lt y x
    ·exact hc
    ·exact absurd ((hp x hx y (hl y (by simp))).2 hc) hxy
   refine List.pairwise_cons.2 ⟨fun z hz=>?_,iW hp zr C5 hx l (fun z hz=>hl z (List.mem_cons_of_mem _ hz)) h2⟩
   rcases List.mem_cons.1 ((lf _ x l).mem_iff.1 hz) with rfl | hz
   ·exact zr _ _ hyx
   ·exact h1 z hz
theorem ia{α:Type}{p:α->α->Option Int}{lt:α->α->Prop}{l0:List α}(hp:∀ x∈l0,∀ y∈l0,mS p x y<=0↔¬lt y x)(zr:∀ x y,lt x y->¬lt y x)(C5:∀ x y z,¬lt y x->¬lt z y->¬lt z x):∀ l:List α,(∀ y∈l,y∈l0)->(w8 p l).Pairwise fun a b=>¬lt b a
 | [],_=>by simp[w8]
 | x::l,hl=>by
  unfold w8
  exact iW hp zr C5 (hl x (by simp)) _ (fun y hy=>hl y (List.mem_cons_of_mem _ ((jF p l).mem_iff.1 hy))) (ia hp zr C5 l fun y hy=>hl y (List.mem_cons_of_mem _ hy))
theorem cJ{α:Type}[DecidableEq α]{p:α->α->Option Int}{lt:α->α->Prop}{l:List α}(hp:∀ x∈l,∀ y∈l,∃ v,p x y=some v/\(v<0↔lt x y)/\(v<=0↔¬lt y x))(zr:∀ x y,lt x y->¬lt y x)(C5:∀ x y z,¬lt y x->¬lt z y->¬lt z x)(Dh:∀ x∈l,∀ y∈l,¬lt x y->¬lt y x->x=y):tB p (w8 p l)=true/\(w8 p l).Pairwise fun a b=>¬lt b a:=by
 have hc:∀ x∈l,∀ y∈l,p x y=some (mS p x y)/\(mS p x y<0↔lt x y)/\(mS p x y<=0↔¬lt y x):=fun x hx y hy=>by
  obtain⟨v,h1,h2,h3⟩:=hp x hx y hy
  unfold mS;rw[h1];exact⟨rfl,h2,h3⟩
 have hm:∀ x∈w8 p l,x∈l:=fun x hx=>(jF p l).mem_iff.1 hx
 have hs:=ia (fun x hx y hy=>(hc x hx y hy).2.2) zr C5 l (fun y hy=>hy)
 refine⟨?_,hs⟩
 simp only[tB,Bool.and_eq_true,List.all_eq_true,Bool.not_eq_true',decide_eq_false_iff_not,lh]
 refine⟨fun x hx=>⟨fun y hy=>by rw[(hc x (hm x hx) y (hm y hy)).1];rfl,fun h=>?_⟩,?_⟩
 ·have:=((hc x (hm x hx) x (hm x hx)).2.1).1 h;exact zr _ _ this this
 ·refine List.Pairwise.imp_of_mem ?_ hs
  intro x y hx hy hxy
  rw[(hc x (hm x hx) y (hm y hy)).2.1,(hc y (hm y hy) x (hm x hx)).2.1]
  by_cases h:lt x y
  ·exact .inr ⟨h,hxy⟩
  ·exact .inl (Dh x (hm x hx) y (hm y hy) h hxy)
theorem lD(n:Nat)(h:n<4611686018427387904):Go.Lib.bitLen n<=62:=Go.Lib.bitLen_le n 62 (by omega) (by omega)
theorem cL{x:Int}(h:0<=x/\x<=18446744073709551615):u64 x=x:=by
 unfold u64 IntKind.wrap;simp[IntKind.signed,IntKind.bits];omega
/-! ### places -/
abbrev Pl:=za
def pk(h:Hop):Pl:=⟨h.ya,h.fQ⟩
theorem dB(h:Hop):kQ h=some (pk h):=rfl
def ur(a b:Pl):Prop:=a.ya<b.ya\/a.ya=b.ya/\a.fQ<b.fQ
theorem dC(a b:Pl):∃ v,wM a b=some v/\(v<0↔ur a b)/\(v<=0↔¬ur b a):=by
 unfold wM
 simp only[Xj,oB]
 rw[or_eq (by simp)]
 refine⟨_,rfl,?_⟩
 unfold iV iV iV WV ur
 repeat' split
 all_goals first | omega | (constructor <;> omega)
theorem bQ(x y:Pl):ur x y->¬ur y x:=by unfold ur;omega
theorem am(x y z:Pl):¬ur y x->¬ur z y->¬ur z x:=by unfold ur;omega
theorem dE(x y:Pl)(h1:¬ur x y)(h2:¬ur y x):x=y:=by
 unfold ur at h1 h2
 obtain⟨a,b⟩:=x;obtain⟨c,d⟩:=y
 simp only at h1 h2
 have:a=c:=by omega
 have:b=d:=by omega
 subst_vars;rfl
theorem ap{l:List Pl}(hs:l.length<=1000000):
  wV l (fun y0 y1=>wM y0 y1)=some (w8 wM l)/\(w8 wM l).Pairwise fun a b=>¬ur b a:=by
 obtain⟨ho,BF⟩:=cJ (p:=wM) (l:=l) (fun x _ y _=>dC x y) bQ am (fun x _ y _=>dE x y)
 refine⟨?_,BF⟩
 unfold wV kq jL
 rw[cL (by omega),xA (by omega),oB]
 have hb:=lD l.length (by omega)
 rw[Int.toNat_natCast,xA ⟨⟨rfl,rfl⟩,by omega,by omega,by omega⟩,xA ho,oB]
theorem bf{l:List Pl}{v:Pl}{k:Option Int}(hl:l.length<1000000000):∀(n:Nat) (i:Int),0<=i->i<=l.length->l.length<n+i->
  (v∈l.drop i.toNat/\∃ j:Int,0<=j/\wc l v k n i=some j)\/(v∉l.drop i.toNat/\wc l v k n i=k)
 | 0,i,h0,h1,h2=>by omega
 | n+1,i,h0,h1,h2=>by
  rw[wc]
  by_cases h:i<l.length
  ·rw[if_pos (decide_eq_true h),xA ⟨h0,h⟩,jZ h0 h]
   have e:(⟨(nth l i).ya,(nth l i).fQ⟩:za)=nth l i:=rfl
   rw[e]
   by_cases hv:v=nth l i
   ·rw[if_pos (decide_eq_true hv)]
    exact .inl ⟨by rw[hv];simp,i,h0,rfl⟩
   ·rw[if_neg (by simpa using hv),xD (x:=i+1) (by omega)]
    have e2:(i+1).toNat=i.toNat+1:=by omega
    rcases bf hl n (i+1) (by omega) (by omega) (by omega) (v:=v) (k:=k) with⟨h3,h4⟩ | ⟨h3,h4⟩
    ·rw[e2] at h3;exact .inl ⟨List.mem_cons_of_mem _ h3,h4⟩
    ·rw[e2] at h3
     refine .inr ⟨fun hc=>?_,h4⟩
     rcases List.mem_cons.1 hc with hc | hc
     ·exact hv hc
     ·exact h3 hc
  ·rw[if_neg (by simpa using h),List.drop_eq_nil_of_le (by omega)]
   exact .inr ⟨by simp,rfl⟩
theorem aq{l:List Pl}{v:Pl}(hl:l.length<1000000000):wU l v=some (decide (v∈l)):=by
 unfold wU vZ
 have hF:=w5
 generalize xI=N at hF ⊢
 refine mb (P:=fun o=>(o.bind fun x=>some (decide (x>=0)))=some (decide (v∈l))) fun k hk=>?_
 rcases bf hl N 0 (by omega) (by omega) (by omega) (v:=v) (k:=k) with⟨h1,j,h2,h3⟩ | ⟨h1,h2⟩
 ·rw[h3];simp only[Int.toNat_zero,List.drop_zero] at h1
  simp[h1,h2]
 ·rw[h2,hk];simp only[Int.toNat_zero,List.drop_zero] at h1
  simp[h1]
def mP(l:List Pl)(h:Hop):List Pl:=if pk h∈l then l else l++[pk h]
theorem lE(hs:List Hop)(l:List Pl):(hs.foldl mP l).length<=l.length+hs.length:=by
 induction hs generalizing l with
 | nil=>simp
 | cons h hs ih=>
  have:=ih (mP l h)
  have h2:(mP l h).length<=l.length+1:=by unfold mP;split <;> simp
  simp only[List.foldl_cons,List.length_cons];omega
theorem eT(hs:List Hop)(l:List Pl)(hn:l.Nodup):(hs.foldl mP l).Nodup/\∀ p,p∈hs.foldl mP l↔p∈l\/∃ h∈hs,pk h=p:=by
 induction hs generalizing l with
 | nil=>simp[hn]
 | cons h hs ih=>
  have h2:(mP l h).Nodup/\∀ p,p∈mP l h↔p∈l\/pk h=p:=by
   unfold mP
   split
   ·rename_i hc
    refine⟨hn,fun p=>⟨.inl,?_⟩⟩
    rintro(h | rfl)
    ·exact h
    ·exact hc
   ·rename_i hc
    refine⟨List.nodup_append.2 ⟨hn,by simp,fun a ha b hb=>?_⟩,fun p=>by simp[eq_comm]⟩
    simp at hb;subst hb;exact fun e=>hc (e▸ha)
  obtain⟨i1,i2⟩:=ih _ h2.1
  refine⟨i1,fun p=>?_⟩
  rw[List.foldl_cons,i2,h2.2]
  simp only[List.mem_cons,exists_eq_or_imp,or_assoc]
theorem eU{rs:List (List Hop)}{v:Int}{k:List Pl->Option (List Pl)}(hr:(nth rs v).length<=1000)(h0:0<=v)(hv:v<rs.length):∀(n:Nat) (o:List Pl) (i:Int),0<=i->i<=(nth rs v).length->(nth rs v).length<n+i->(o.length:Int)+((nth rs v).length-i)<=1000000->
  jV rs v k n o i=k (((nth rs v).drop i.toNat).foldl mP o)
 | 0,o,i,a0,a1,a2,a3=>by omega
 | n+1,o,i,a0,a1,a2,a3=>by
  rw[jV]
  by_cases h:i<(nth rs v).length
  ·rw[if_pos (decide_eq_true h),jZ a0 h,List.foldl_cons]
   refine vj (P:=fun x=>x=_) fun kk AX=>?_
   rw[xA ⟨a0,h⟩]
   have e:(⟨(nth (nth rs v) i).ya,(nth (nth rs v) i).yh,(nth (nth rs v) i).fQ⟩:zd)=nth (nth rs v) i:=rfl
   rw[e,dB,oB,aq (by omega),oB]
   have e2:(i+1).toNat=i.toNat+1:=by omega
   have jo:(mP o (nth (nth rs v) i)).length<=o.length+1:=by unfold mP;split <;> simp
   have Bg:kk (mP o (nth (nth rs v) i))=k (((nth rs v).drop (i.toNat+1)).foldl mP (mP o (nth (nth rs v) i))):=by
    rw[AX,xD (x:=i+1) (by omega),eU hr h0 hv n _ (i+1) (by omega) (by omega) (by omega) (by omega),e2]
   by_cases hc:pk (nth (nth rs v) i)∈o
   ·rw[if_neg (by simpa using hc),<- Bg]
    unfold mP;rw[if_pos hc]
   ·rw[if_pos (by simpa using hc),oB,xA (by simp;omega),<- Bg]
    unfold mP;rw[if_neg hc]
  ·rw[if_neg (by simpa using h),List.drop_eq_nil_of_le (by omega)];rfl
def lF(rs:List (List Hop)):List Hop:=rs.flatten
theorem dF{rs:List (List Hop)}{k:List Pl->Option (List Pl)}(hr:∀ r∈rs,r.length<=1000)(hl:rs.length<=100):∀(n:Nat) (o:List Pl) (v:Int),0<=v->v<=rs.length->rs.length<n+v->(o.length:Int)+1000*(rs.length-v)<=1000000->
  jW rs k n o v=k ((lF (rs.drop v.toNat)).foldl mP o)
 | 0,o,i,a0,a1,a2,a3=>by omega
 | n+1,o,v,a0,a1,a2,a3=>by
  rw[jW]
  by_cases h:v<rs.length
  ·have B1:=hr _ (wt a0 h)
   rw[if_pos (decide_eq_true h),jZ a0 h]
   unfold lF
   rw[List.flatten_cons,List.foldl_append]
   refine vj (P:=fun x=>x=_) fun kk AX=>?_
   rw[xA ⟨a0,h⟩]
   refine vj (P:=fun x=>x=_) fun k2 rv=>?_
   rw[eU B1 a0 h xI o 0 (by omega) (by omega) (by rw[w5];omega) (by omega)]
   simp only[Int.toNat_zero,List.drop_zero]
   have:=lE (nth rs v) o
   rw[rv,AX,xD (x:=v+1) (by omega),dF hr hl n _ (v+1) (by omega) (by omega) (by omega) (by omega),show(v+1).toNat=v.toNat+1 by omega]
   rfl
  ·rw[if_neg (by simpa using h),List.drop_eq_nil_of_le (by omega)];rfl
def PS(rs:List (List Hop)):List Pl:=w8 wM ((lF rs).foldl mP [])
theorem tF(rs:List (List Hop)):(PS rs).Nodup:=(jF _ _).nodup_iff.2 (eT _ [] (by simp)).1
theorem uO(rs:List (List Hop))(p:Pl):p∈PS rs↔∃ r∈rs,∃ h∈r,pk h=p:=by
 unfold PS
 rw[(jF _ _).mem_iff,(eT _ [] (by simp)).2]
 unfold lF
 simp only[List.not_mem_nil,false_or,List.mem_flatten]
 exact⟨fun⟨h,⟨r,hr,hh⟩,e⟩=>⟨r,hr,h,hh,e⟩,fun⟨r,hr,h,hh,e⟩=>⟨h,⟨r,hr,hh⟩,e⟩⟩
theorem bR{m:Nat}(hr:∀ r∈rs,r.length<=m):(lF rs).length<=rs.length*m:=by
 unfold lF
 induction rs with
 | nil=>simp
 | cons r rs ih=>
  have:=ih fun r h=>hr r (List.mem_cons_of_mem _ h)
  have h1:=hr r (by simp)
  rw[List.flatten_cons,List.length_append,List.length_cons,Nat.succ_mul];omega
theorem iX{m:Nat}(hr:∀ r∈rs,r.length<=m):(PS rs).length<=rs.length*m:=by
 unfold PS
 rw[mT]
 have:=lE (lF rs) []
 have:=bR hr
 simp at *;omega
theorem W1(hr:∀ r∈rs,r.length<=1000)(hl:rs.length<=100):mq rs=some (PS rs):=by
 unfold mq
 refine vj (P:=fun o=>o=some (PS rs)) fun k hk=>?_
 rw[dF hr hl xI [] 0 (by omega) (by omega) (by rw[w5];omega) (by simp;omega),hk]
 simp only[Int.toNat_zero,List.drop_zero]
 have h1:=lE (lF rs) []
 have h2:=bR hr
 have h3:rs.length*1000<=100*1000:=Nat.mul_le_mul_right _ hl
 rw[(ap (by simp at h1;omega)).1]
 rfl
/-! ### the hop by which a node is reached -/
def jO(r:List Hop)(n:Int):Hop×Bool:=match r.find? (fun h=>decide (h.yh=n)) with | some h=>(h,true) | none=>(⟨0,0,0⟩,false)
theorem cM{n:Int}(h:(jO r n).2=true):(jO r n).1∈r/\(jO r n).1.yh=n:=by
 unfold jO at *
 split at h
 ·rename_i x hx
  simp only[hx]
  exact⟨List.mem_of_find?_eq_some hx,by simpa using List.find?_some hx⟩
 ·cases h
theorem au{g:Hop}(h:g∈r):(jO r g.yh).2=true:=by
 unfold jO
 split
 ·rfl
 ·rename_i hx
  have:=List.find?_eq_none.1 hx g h
  simp at this
theorem bh{r:List Hop}{f:Hop->Option Bool}{p:Hop->Bool}{k:Option Int}(hf:∀ h∈r,f h=some (p h))(hl:r.length<1000000000):∀(n:Nat) (i:Int),0<=i->i<=r.length->r.length<n+i->
  (∃ j:Int,0<=j/\j<r.length/\(r.drop i.toNat).find? p=some (nth r j)/\wi r f k n i=some j)\/((r.drop i.toNat).find? p=none/\wi r f k n i=k)
 | 0,i,h0,h1,h2=>by omega
 | n+1,i,h0,h1,h2=>by
  rw[wi]
  by_cases h:i<r.length
  ·rw[if_pos (decide_eq_true h),xA ⟨h0,h⟩,jZ h0 h]
   have e:(⟨(nth r i).ya,(nth r i).yh,(nth r i).fQ⟩:zd)=nth r i:=rfl
   rw[e,hf _ (wt h0 h),oB]
   by_cases hp:p (nth r i)=true
   ·rw[if_pos hp,List.find?_cons_of_pos hp];exact .inl ⟨i,h0,h,rfl,rfl⟩
   ·rw[if_neg hp,List.find?_cons_of_neg hp,xD (x:=i+1) (by omega)]
    have e2:(i+1).toNat=i.toNat+1:=by omega
    rw[<- e2]
    exact bh hf hl n (i+1) (by omega) (by omega) (by omega)
  ·rw[if_neg (by simpa using h),List.drop_eq_nil_of_le (by omega)]
   exact .inr ⟨rfl,rfl⟩
theorem o0{f:Hop->Option Bool}{p:Hop->Bool}(hf:∀ h∈r,f h=some (p h))(hl:r.length<1000000000):
  (∃ j:Int,0<=j/\j<r.length/\r.find? p=some (nth r j)/\we r f=some j)\/(r.find? p=none/\we r f=some (-1)):=by
 unfold we
 have hF:=w5
 generalize xI=N at hF ⊢
 refine mb (P:=fun o=>(∃ j:Int,0<=j/\j<r.length/\r.find? p=some (nth r j)/\o=some j)\/(r.find? p=none/\o=some (-1))) fun k hk=>?_
 have:=bh hf hl N 0 (by omega) (by omega) (by omega) (k:=k)
 simp only[Int.toNat_zero,List.drop_zero] at this
 rw[hk] at this ⊢
 exact this
theorem eC{n:Int}(hl:r.length<1000000000):gV r n=some (jO r n):=by
 unfold gV jO
 rcases o0 (r:=r) (f:=fun y0=>mr y0 n) (p:=fun h=>decide (h.yh=n)) (fun h _=>rfl) hl with⟨j,j0,j1,j2,j3⟩ | ⟨j2,j3⟩
 ·rw[j3,j2,oB,if_neg (by simpa using j0),xA ⟨j0,j1⟩]
 ·rw[j3,j2,oB];rfl
theorem aw{f:Hop->Option Bool}{p:Hop->Bool}(hf:∀ h∈r,f h=some (p h))(hl:r.length<1000000000):wF r f=some (r.any p):=by
 unfold wF
 rcases o0 hf hl with⟨j,j0,j1,j2,j3⟩ | ⟨j2,j3⟩
 ·rw[j3,oB,decide_eq_true j0]
  rw[eq_comm,Option.some.injEq,eq_comm,eq_comm,List.any_eq_true]
  exact⟨_,wt j0 j1,List.find?_some j2⟩
 ·rw[j3,oB]
  have:r.any p=false:=by
   rw[List.any_eq_false];exact List.find?_eq_none.1 j2
  rw[this];rfl
end
section
variable {p:Pl}{mp:List (Pl×Int)}{rs:List (List Hop)}
/-! ### the order of computation -/
def bS(r:List Hop)(p:Pl)(mp:List (Pl×Int))(h:Hop):Bool:=(decide (pk h=p)&&(jO r h.ya).2)&&decide (xp mp (pk (jO r h.ya).1) 0=0)
theorem Xn{r:List Hop}{h:Hop}(hl:r.length<1000000000):gH h r p mp=some (bS r p mp h):=by
 unfold gH bS
 rw[eC hl,dB,oB,oB]
 by_cases hc:(decide (pk h=p)&&(jO r h.ya).2)=true
 ·rw[if_pos hc,dB,hc];rfl
 ·rw[if_neg hc];simp only[Bool.not_eq_true] at hc;rw[hc];rfl
theorem YK{s r:List Hop}{p:Pl}{mp:List (Pl×Int)}{k:Option Int}(hr:r.length<1000000000)(hl:s.length<1000000000):∀(n:Nat) (i:Int),0<=i->i<=s.length->s.length<n+i->
  ((s.drop i.toNat).any (bS r p mp)=true/\∃ j:Int,0<=j/\wg s r p mp k n i=some j)\/((s.drop i.toNat).any (bS r p mp)=false/\wg s r p mp k n i=k)
 | 0,i,h0,h1,h2=>by omega
 | n+1,i,h0,h1,h2=>by
  rw[wg]
  by_cases h:i<s.length
  ·rw[if_pos (decide_eq_true h),xA ⟨h0,h⟩,jZ h0 h]
   have e:(⟨(nth s i).ya,(nth s i).yh,(nth s i).fQ⟩:zd)=nth s i:=rfl
   rw[e,Xn hr,oB,List.any_cons]
   cases hb:bS r p mp (nth s i) with
   | true=>rw[if_pos rfl];exact .inl ⟨rfl,i,h0,rfl⟩
   | false=>
    rw[if_neg (by simp),Bool.false_or,xD (x:=i+1) (by omega)]
    have e2:(i+1).toNat=i.toNat+1:=by omega
    rw[<- e2]
    exact YK hr hl n (i+1) (by omega) (by omega) (by omega)
  ·rw[if_neg (by simpa using h),List.drop_eq_nil_of_le (by omega)]
   exact .inr ⟨rfl,rfl⟩
def iY(p:Pl)(mp:List (Pl×Int))(r:List Hop):Bool:=r.any (bS r p mp)
theorem W2{r:List Hop}(hl:r.length<1000000000):fy r p mp=some (iY p mp r):=by
 unfold fy vQ qe
 have hF:=w5
 generalize xI=N at hF ⊢
 refine mb (P:=fun o=>((o.bind fun x=>some (decide (x>=0))).bind fun x=>some x)=some (iY p mp r)) fun k hk=>?_
 have:=YK (s:=r) (r:=r) (p:=p) (mp:=mp) (k:=k) hl hl N 0 (by omega) (by omega) (by omega)
 simp only[Int.toNat_zero,List.drop_zero] at this
 unfold iY
 rcases this with⟨h1,j,h2,h3⟩ | ⟨h1,h2⟩
 ·rw[h3,h1];simp[h2]
 ·rw[h2,hk,h1];simp
theorem YL{s:List (List Hop)}{p:Pl}{mp:List (Pl×Int)}{k:Option Int}(hr:∀ r∈s,r.length<1000000000)(hl:s.length<1000000000):∀(n:Nat) (i:Int),0<=i->i<=s.length->s.length<n+i->
  ((s.drop i.toNat).any (iY p mp)=true/\∃ j:Int,0<=j/\w6 s p mp k n i=some j)\/((s.drop i.toNat).any (iY p mp)=false/\w6 s p mp k n i=k)
 | 0,i,h0,h1,h2=>by omega
 | n+1,i,h0,h1,h2=>by
  rw[w6]
  by_cases h:i<s.length
  ·rw[if_pos (decide_eq_true h),xA ⟨h0,h⟩,jZ h0 h]
   rw[W2 (hr _ (wt h0 h)),oB,List.any_cons]
   cases hb:iY p mp (nth s i) with
   | true=>rw[if_pos rfl];exact .inl ⟨rfl,i,h0,rfl⟩
   | false=>
    rw[if_neg (by simp),Bool.false_or,xD (x:=i+1) (by omega)]
    have e2:(i+1).toNat=i.toNat+1:=by omega
    rw[<- e2]
    exact YL hr hl n (i+1) (by omega) (by omega) (by omega)
  ·rw[if_neg (by simpa using h),List.drop_eq_nil_of_le (by omega)]
   exact .inr ⟨rfl,rfl⟩
def xR(rs:List (List Hop))(mp:List (Pl×Int))(p:Pl):Bool:=rs.any (iY p mp)
theorem Qb(hr:∀ r∈rs,r.length<1000000000)(hl:rs.length<1000000000):wQ rs p mp=some (xR rs mp p):=by
 unfold wQ vR
 have hF:=w5
 generalize xI=N at hF ⊢
 refine mb (P:=fun o=>(o.bind fun x=>some (decide (x>=0)))=some (xR rs mp p)) fun k hk=>?_
 have:=YL (s:=rs) (p:=p) (mp:=mp) (k:=k) hr hl N 0 (by omega) (by omega) (by omega)
 simp only[Int.toNat_zero,List.drop_zero] at this
 unfold xR
 rcases this with⟨h1,j,h2,h3⟩ | ⟨h1,h2⟩
 ·rw[h3,h1];simp[h2]
 ·rw[h2,hk,h1];simp
def iZ(rs:List (List Hop))(p q:Pl):Prop:=∃ r∈rs,∃ h∈r,pk h=p/\(jO r h.ya).2=true/\pk (jO r h.ya).1=q
theorem eD:xR rs mp p=true↔∃ q,iZ rs p q/\xp mp q 0=0:=by
 unfold xR iY bS iZ
 simp only[List.any_eq_true,Bool.and_eq_true,decide_eq_true_eq]
 constructor
 ·rintro⟨r,hr,h,hh,⟨e,i⟩,z⟩;exact⟨_,⟨r,hr,h,hh,e,i,rfl⟩,z⟩
 ·rintro⟨q,⟨r,hr,h,hh,e,i,rfl⟩,z⟩;exact⟨r,hr,h,hh,⟨e,i⟩,z⟩
theorem iZ.mem{q:Pl}(h:iZ rs p q):q∈PS rs:=by
 obtain⟨r,hr,h,hh,e,i,rfl⟩:=h
 exact(uO rs _).2 ⟨r,hr,_,(cM i).1,rfl⟩
abbrev OR:=List za×Int
theorem ax{fi out:List Pl}{rs:List (List Hop)}{mp:List (Pl×Int)}{k1:List Pl->List Pl->List (Pl×Int)->Option OR}{k2:Option OR}(hr:∀ r∈rs,r.length<1000000000)(hl:rs.length<1000000000)(hs:fi.length+out.length<=1000000):∀(n:Nat) (v:Int),0<=v->v<=fi.length->fi.length<n+v->
  (∃(l1:List Pl) (p:Pl) (l2:List Pl),fi=l1++p::l2/\xR rs mp p=false/\jw fi rs mp out k1 k2 n v=k1 (l1++l2) (out++[p]) (xM mp p (i64 (xp mp p 0+1)))) \/
  ((∀ p∈fi.drop v.toNat,xR rs mp p=true)/\jw fi rs mp out k1 k2 n v=k2)
 | 0,v,h0,h1,h2=>by omega
 | n+1,v,h0,h1,h2=>by
  rw[jw]
  by_cases h:v<fi.length
  ·rw[if_pos (decide_eq_true h),xA ⟨h0,h⟩]
   have e:(⟨(nth fi v).ya,(nth fi v).fQ⟩:za)=nth fi v:=rfl
   rw[e,Qb hr hl,oB]
   cases hb:xR rs mp (nth fi v) with
   | false=>
    rw[if_pos (by rfl),xA (by simp;omega)]
    refine .inl ⟨fi.take v.toNat,nth fi v,fi.drop (v.toNat+1),?_,hb,?_⟩
    ·rw[<- jZ h0 h,List.take_append_drop]
    ·unfold sa
     rw[xD (x:=v+1) (by omega),xA (by omega),oB,show(v+1).toNat=v.toNat+1 by omega]
   | true=>
    rw[if_neg (by simp),xD (x:=v+1) (by omega)]
    have e2:(v+1).toNat=v.toNat+1:=by omega
    rcases ax hr hl hs n (v+1) (by omega) (by omega) (by omega) (k1:=k1) (k2:=k2) (mp:=mp) with h3 | ⟨h3,h4⟩
    ·exact .inl h3
    ·refine .inr ⟨?_,h4⟩
     rw[jZ h0 h,<- e2]
     intro p hp
     rcases List.mem_cons.1 hp with rfl | hp
     ·exact hb
     ·exact h3 p hp
  ·rw[if_neg (by simpa using h),List.drop_eq_nil_of_le (by omega)]
   exact .inr ⟨by simp,rfl⟩
def qo(rs:List (List Hop))(l:List Pl):Prop:=∀ l1 p l2,l=l1++p::l2->∀ q,iZ rs p q->q∈l1
def sP(rs:List (List Hop))(s:List Pl):Prop:=s≠[]/\∀ p∈s,p∈PS rs/\∃ q∈s,iZ rs p q
theorem dG{rs:List (List Hop)}{k:List Pl->Option OR}(hr:∀ r∈rs,r.length<1000000000)(hl:rs.length<1000000000)(hp:(PS rs).length<=1000000):∀(n:Nat) (fi out:List Pl) (mp:List (Pl×Int)),fi.length<n->
  (fi++out).Perm (PS rs)->(∀ q,xp mp q 0=if q∈out then 1 else 0)->qo rs out->
  (∃ l,l.Perm (PS rs)/\qo rs l/\jx rs k n fi out mp=k l)\/(∃ s,sP rs s/\jx rs k n fi out mp=some ([],351))
 | 0,fi,out,mp,h0,h1,h2,h3=>by omega
 | n+1,fi,out,mp,h0,h1,h2,h3=>by
  rw[jx]
  have jo:=h1.length_eq
  rw[List.length_append] at jo
  have Dy:(fi++out).Nodup:=h1.nodup_iff.2 (tF rs)
  by_cases h:fi.length>0
  ·rw[if_pos (by simpa using h)]
   refine YJ (P:=fun o=>(∃ l,l.Perm (PS rs)/\qo rs l/\o=k l)\/(∃ s,sP rs s/\o=some ([],351))) fun k1 zS=>?_
   refine mb (P:=fun o=>(∃ l,l.Perm (PS rs)/\qo rs l/\o=k l)\/(∃ s,sP rs s/\o=some ([],351))) fun k2 rv=>?_
   rcases ax hr hl (show fi.length+out.length<=1000000 by omega) xI 0 (by omega) (by omega) (by rw[w5];omega) (k1:=k1) (k2:=k2) (mp:=mp) with⟨l1,p,l2,e1,e2,e3⟩ | ⟨e1,e2⟩
   ·subst e1
    have hpo:p∉out:=fun hc=>by
     have:=(List.nodup_append.1 Dy).2.2 p (by simp) p hc;exact this rfl
    rw[e3,zS]
    have hm:xp mp p 0=0:=by rw[h2,if_neg hpo]
    rw[hm,xD (by omega)]
    refine dG hr hl hp n _ _ _ (by simp at h0 ⊢;omega) ?_ ?_ ?_
    ·refine List.Perm.trans ?_ h1
     rw[<- List.append_assoc]
     refine(List.perm_append_comm).trans ?_
     simp only[List.singleton_append,List.append_assoc,List.cons_append]
     refine List.Perm.trans ?_ (List.perm_middle (l₁:=l1)).symm
     simp
    ·intro q
     rw[jg,h2]
     by_cases hq:q=p
     ·subst hq;simp
     ·simp[hq]
    ·intro a q b Dn q' DY
     rcases List.append_eq_append_iff.1 Dn with⟨w,hw1,Bv⟩ | ⟨w,hw1,Bv⟩
     ·-- the last one
      cases w with
      | nil=>
       simp at Bv hw1
       obtain⟨rfl,rfl⟩:=Bv
       subst hw1
       by_cases hc:xp mp q' 0=0
       ·exact absurd (eD.2 ⟨q',DY,hc⟩) (by rw[e2];simp)
       ·rw[h2] at hc
        by_cases zk:q'∈a
        ·exact zk
        ·rw[if_neg zk] at hc;exact absurd rfl hc
      | cons x w=>simp at Bv
     ·cases w with
      | nil=>
       simp at Bv hw1
       obtain⟨rfl,rfl⟩:=Bv
       subst hw1
       by_cases hc:xp mp q' 0=0
       ·exact absurd (eD.2 ⟨q',DY,hc⟩) (by rw[e2];simp)
       ·rw[h2] at hc
        by_cases zk:q'∈out
        ·exact zk
        ·rw[if_neg zk] at hc;exact absurd rfl hc
      | cons x w=>
       rw[List.cons_append] at Bv
       injection Bv with hx Bv
       subst hx
       exact h3 a q w hw1 q' DY
   ·refine .inr ⟨fi,⟨by rintro rfl;simp at h,fun p hp=>⟨h1.subset (by simp[hp]),?_⟩⟩,by rw[e2,rv]⟩
    obtain⟨q,hq,hz⟩:=eD.1 (e1 p (by simpa using hp))
    refine⟨q,?_,hq⟩
    have hm:=h1.symm.subset hq.mem
    rcases List.mem_append.1 hm with hm | hm
    ·exact hm
    ·rw[h2,if_pos hm] at hz;omega
  ·rw[if_neg (by simpa using h)]
   have:fi=[]:=List.eq_nil_of_length_eq_zero (by omega)
   subst this
   exact .inl ⟨out,h1,h3,rfl⟩
theorem ay(hr:∀ r∈rs,r.length<=1000)(hl:rs.length<=100):
  (∃ l,l.Perm (PS rs)/\qo rs l/\gE rs=some (l,0))\/(∃ s,sP rs s/\gE rs=some ([],351)):=by
 unfold gE
 have DC:=iX hr
 have h3:rs.length*1000<=100*1000:=Nat.mul_le_mul_right _ hl
 rw[W1 hr hl,oB]
 refine vj (P:=fun o:Option OR=>(∃ l,l.Perm (PS rs)/\qo rs l/\o=some (l,0))\/(∃ s,sP rs s/\o=some ([],351))) fun k hk=>?_
 rcases dG (k:=k) (fun r h=>by have:=hr r h;omega) (by omega) (by omega) xI (PS rs) [] [] (by rw[w5];omega) (by simp) (by simp[xp]) (fun l1 p l2 h=>by simp at h) with⟨l,e1,e2,e3⟩ | ⟨s,e1,e2⟩
 ·exact .inl ⟨l,e1,e2,by rw[e3,hk]⟩
 ·exact .inr ⟨s,e1,e2⟩
end
section
variable {net:Int}{rs:List (List Hop)}
/-! ### what a valid route is -/
theorem mv{α:Type}[Inhabited α]{l:List α}{x:α}(h:x∈l):∃ i:Int,0<=i/\i<l.length/\nth l i=x:=by
 obtain⟨i,hi,rfl⟩:=List.getElem_of_mem h
 refine⟨(i:Int),by omega,by omega,?_⟩
 rw[uY ⟨by omega,by omega⟩];rfl
theorem VR.uniq{c:Cf}{r:List Hop}(h:VR c net r){x y:Hop}(hx:x∈r)(hy:y∈r)(e:x.yh=y.yh):x=y:=by
 obtain⟨i,i0,i1,rfl⟩:=mv hx
 obtain⟨j,j0,j1,rfl⟩:=mv hy
 rcases Int.lt_trichotomy i j with k | k | k
 ·exact absurd (.inr ⟨i,i0,k,e⟩) (h.cond j j0 j1).2.1
 ·rw[k]
 ·exact absurd (.inr ⟨j,j0,k,e.symm⟩) (h.cond i i0 i1).2.1
theorem VR.into{c:Cf}{r:List Hop}(h:VR c net r){g:Hop}(hg:g∈r):jO r g.yh=(g,true):=by
 have h1:=au hg
 obtain⟨h2,h3⟩:=cM h1
 exact Prod.ext (h.uniq h2 hg h3) h1
def az(rs:List (List Hop))(a b:Pl):Prop:=∃ r∈rs,∃ g∈r,∃ h∈r,g.yh=h.ya/\pk g=a/\pk h=b
theorem ca{c:Cf}(hv:VA c net rs){a b:Pl}:az rs a b↔iZ rs b a:=by
 constructor
 ·rintro⟨r,hr,g,hg,h,hh,e,rfl,rfl⟩
  refine⟨r,hr,h,hh,rfl,?_⟩
  rw[<- e,(hv.each r hr).into hg];exact⟨rfl,rfl⟩
 ·rintro⟨r,hr,h,hh,rfl,e,rfl⟩
  obtain⟨h2,h3⟩:=cM e
  exact⟨r,hr,_,h2,h,hh,h3,rfl,rfl⟩
theorem az.left{a b:Pl}(h:az rs a b):a∈PS rs:=by
 obtain⟨r,hr,g,hg,h,hh,e,rfl,rfl⟩:=h;exact(uO rs _).2 ⟨r,hr,g,hg,rfl⟩
theorem az.right{a b:Pl}(h:az rs a b):b∈PS rs:=by
 obtain⟨r,hr,g,hg,h,hh,e,rfl,rfl⟩:=h;exact(uO rs _).2 ⟨r,hr,h,hh,rfl⟩
theorem sP.no{c:Cf}(hv:VA c net rs){s:List Pl}(h:sP rs s)(f:Pl->Int)(h0:∀ p∈PS rs,0<=f p)(hf:∀ a b,az rs a b->f a<f b):False:=by
 obtain⟨oH,hs⟩:=h
 have key:∀ n:Nat,∀ p∈s,(f p).toNat<n->False:=by
  intro n
  induction n with
  | zero=>intro p hp h;omega
  | succ n ih=>
   intro p hp mL
   obtain⟨zB,q,hq,hqp⟩:=hs p hp
   have h1:=hf q p ((ca hv).2 hqp)
   have h2:=h0 q (hs q hq).1
   exact ih q hq (by omega)
 cases s with
 | nil=>exact oH rfl
 | cons p s=>exact key ((f p).toNat+1) p (by simp) (by omega)
theorem qo.idx{c:Cf}(hv:VA c net rs){l:List Pl}(h:qo rs l)(hp:l.Perm (PS rs)){a b:Pl}(he:az rs a b):l.idxOf a<l.idxOf b:=by
 have hb:b∈l:=hp.symm.subset he.right
 obtain⟨l1,l2,e⟩:=List.append_of_mem hb
 have hn:l.Nodup:=hp.nodup_iff.2 (tF rs)
 have ha:=h l1 b l2 e a ((ca hv).1 he)
 have hb1:b∉l1:=fun hc=>by
  rw[e] at hn;exact(List.nodup_append.1 hn).2.2 b hc b (by simp) rfl
 rw[e,List.idxOf_append,if_pos ha,List.idxOf_append,if_neg hb1]
 have:=List.idxOf_lt_length_of_mem ha
 omega
end
section
abbrev R:=z1
variable {x:R}
theorem pB{x:Int}(h:0<=x/\x<=18446744073709551615):u64 x=x:=by
 unfold u64 IntKind.wrap;simp[IntKind.signed,IntKind.bits];omega
theorem cN{n:Int}(h : -9223372036854775808<=n/\n<=9223372036854775807):fF n=some (n.natAbs:Int):=by
 unfold fF
 by_cases hn:n<0
 ·rw[if_pos (by simpa using hn)]
  rw[xD (x:=n+1) (by omega),xD (x:=0-(n+1)) (by omega),pB (x:=0-(n+1)) (by omega),pB (by omega)]
  congr 1;omega
 ·rw[if_neg (by simpa using hn),pB (by omega)]
  congr 1;omega
theorem aA(x y:Nat):Int.tmod (x:Int) (y:Int)=((x % y:Nat):Int):=rfl
theorem aB{k:Int->Option Int}:∀(m n x y:Nat),y<2 ^ m->2*m<n->q7 k n x y=k (Nat.gcd x y:Nat)
 | 0,n+1,x,y,hy,_=>by
  have:y=0:=by omega
  subst this
  rw[q7];simp
 | m+1,n+2,x,y,hy,hn=>by
  rw[q7]
  by_cases h0:y=0
  ·subst h0;simp
  ·rw[if_pos (by simpa using h0),xA (by simpa using h0),aA]
   rw[q7]
   have hg:Nat.gcd x y=Nat.gcd y (x % y):=by rw[Nat.gcd_comm x y,Nat.gcd_rec,Nat.gcd_comm]
   by_cases h1:x % y=0
   ·rw[h1] at hg ⊢;simp[hg]
   ·have BY:((x % y:Nat):Int)≠0:=fun h=>h1 (by exact_mod_cast h)
    rw[if_pos (decide_eq_true BY),xA BY,aA]
    have hr:x % y<y:=Nat.mod_lt _ (by omega)
    have Dj:Nat.gcd y (x % y)=Nat.gcd (x % y) (y % (x % y)):=by rw[Nat.gcd_comm y (x % y),Nat.gcd_rec,Nat.gcd_comm]
    rw[aB m n (x % y) (y % (x % y)) ?_ (by omega),hg,Dj]
    have h2:y % (x % y)<x % y:=Nat.mod_lt _ (by omega)
    have h3:2*(y % (x % y))<=y:=by
     have h4:=Nat.div_add_mod y (x % y)
     have h5:1<=y / (x % y):=(Nat.one_le_div_iff (by omega)).2 (by omega)
     have h6:x % y*1<=x % y*(y / (x % y)):=Nat.mul_le_mul_left _ h5
     omega
    have h7:2 ^ (m+1)=2*2 ^ m:=by rw[Nat.pow_succ,Nat.mul_comm]
    omega
theorem W3{x y:Nat}(hy:y<2 ^ 64):gc x y=some ((Nat.gcd x y:Nat):Int):=by
 unfold gc
 simp only[jG]
 exact aB 64 xI x y hy (by rw[w5];omega)
/-! ### numbers -/
def fits(q:Rat):Bool:=decide (q.num.natAbs<=1073741824/\q.den<=1073741824)
def t8(q:Rat):R:=⟨q.num,(q.den:Int)⟩
def val(x:R):Rat:=Rat.divInt x.fN x.fD
def V(x:R):Bool:=decide (1<=x.fD/\x.fD<=1073741824 /\ -1073741824<=x.fN/\x.fN<=1073741824/\Nat.gcd x.fN.natAbs x.fD.natAbs=1)
theorem p7(q:Rat):val (t8 q)=q:=Rat.num_divInt_den q
theorem lG{q:Rat}(h:fits q=true):V (t8 q)=true:=by
 simp only[fits,decide_eq_true_eq] at h
 have hr:=q.reduced
 have hd:=q.den_pos
 unfold V t8
 rw[decide_eq_true_eq]
 refine⟨by show(1:Int)<=(q.den:Int);omega,by show(q.den:Int)<=1073741824;omega,by show _<=q.num;omega,by show q.num<=_;omega,hr⟩
theorem cO(h:V x=true):(val x).num=x.fN/\((val x).den:Int)=x.fD:=by
 simp only[V,decide_eq_true_eq] at h
 obtain⟨h1,h2,h3,h4,h5⟩:=h
 have hg:Int.gcd x.fD x.fN=1:=by rw[Int.gcd,Nat.gcd_comm];exact h5
 constructor
 ·rw[val,Rat.num_divInt,hg,Int.sign_eq_one_of_pos (by omega)];simp
 ·rw[val,Rat.den_divInt,hg,if_neg (by omega)];simp;omega
theorem eE(h:V x=true):t8 (val x)=x:=by
 obtain⟨h1,h2⟩:=cO h
 simp only[t8,h1,h2]
theorem YM{y:R}(hx:V x=true)(hy:V y=true)(h:val x=val y):x=y:=by rw[<- eE hx,<- eE hy,h]
def mk(q:Rat):R×Int:=if fits q then(t8 q,0) else(⟨0,0⟩,3)
theorem oT{n d:Int}(hd:d≠0)(h:n.natAbs<=4611686018427387904/\d.natAbs<=4611686018427387904):gN n d=some (mk (Rat.divInt n d)):=by
 unfold gN
 rw[if_neg (by simpa using hd),cN (by omega),cN (by omega),oB,oB,W3 (by omega),oB]
 have hg:0<Nat.gcd n.natAbs d.natAbs:=Nat.gcd_pos_of_pos_right _ (by omega)
 rw[xA (by omega)]
 have hn:=Nat.div_le_self n.natAbs (Nat.gcd n.natAbs d.natAbs)
 have hdd:=Nat.div_le_self d.natAbs (Nat.gcd n.natAbs d.natAbs)
 have en:u64 (Int.tdiv (n.natAbs:Int) (Nat.gcd n.natAbs d.natAbs:Nat))=((n.natAbs / Nat.gcd n.natAbs d.natAbs:Nat):Int):=pB ⟨Int.natCast_nonneg _,by
  show((n.natAbs / Nat.gcd n.natAbs d.natAbs:Nat):Int)<=_
  omega⟩
 have ed:u64 (Int.tdiv (d.natAbs:Int) (Nat.gcd n.natAbs d.natAbs:Nat))=((d.natAbs / Nat.gcd n.natAbs d.natAbs:Nat):Int):=pB ⟨Int.natCast_nonneg _,by
  show((d.natAbs / Nat.gcd n.natAbs d.natAbs:Nat):Int)<=_
  omega⟩
 rw[en,ed]
 have hG:Int.gcd d n=Nat.gcd n.natAbs d.natAbs:=by rw[Int.gcd,Nat.gcd_comm]
 have qd:(Rat.divInt n d).den=d.natAbs / Nat.gcd n.natAbs d.natAbs:=by rw[Rat.den_divInt,if_neg hd,hG]
 have qn:(Rat.divInt n d).num=if (decide (n<0)) != (decide (d<0)) then -((n.natAbs / Nat.gcd n.natAbs d.natAbs:Nat):Int) else((n.natAbs / Nat.gcd n.natAbs d.natAbs:Nat):Int):=by
  rw[Rat.num_divInt,hG]
  have hdv:(Nat.gcd n.natAbs d.natAbs:Int) ∣ (n.natAbs:Int):=Int.natCast_dvd_natCast.2 (Nat.gcd_dvd_left _ _)
  rcases Int.lt_or_le n 0 with h1 | h1 <;> rcases Int.lt_or_le d 0 with h2 | h2
  ·rw[Int.sign_eq_neg_one_of_neg h2,show(-1:Int)*n=(n.natAbs:Int) by omega]
   simp[h1,h2]
  ·rw[Int.sign_eq_one_of_pos (by omega),show(1:Int)*n = -(n.natAbs:Int) by omega,Int.neg_ediv_of_dvd hdv]
   have C6:¬d<0:=by omega
   simp[h1,C6]
  ·rw[Int.sign_eq_neg_one_of_neg h2,show(-1:Int)*n = -(n.natAbs:Int) by omega,Int.neg_ediv_of_dvd hdv]
   have BY:¬n<0:=by omega
   simp[h2,BY]
  ·rw[Int.sign_eq_one_of_pos (by omega),show(1:Int)*n=(n.natAbs:Int) by omega]
   have BY:¬n<0:=by omega
   have C6:¬d<0:=by omega
   simp[C6,BY]
 generalize hA:n.natAbs / Nat.gcd n.natAbs d.natAbs=A at *
 generalize hB:d.natAbs / Nat.gcd n.natAbs d.natAbs=B at *
 have hqn:(Rat.divInt n d).num.natAbs=A:=by rw[qn];split <;> omega
 unfold mk fits
 rw[hqn,qd]
 by_cases hf:A<=1073741824/\B<=1073741824
 ·rw[if_neg (by simp;omega)]
  simp only[jG,hf,and_self,decide_true,if_true]
  rw[xD (x:=(A:Int)) (by omega),xD (x:=(B:Int)) (by omega),xD (by omega)]
  unfold t8
  rw[qd,qn]
  split <;> simp
 ·rw[if_pos (by simp;omega)]
  simp only[hf,decide_false]
  rfl
theorem vm(x:R):vx x=some (V x):=by
 unfold vx V
 by_cases h:(x.fD>=1/\x.fD<=1073741824/\x.fN>=(-1073741824)/\x.fN<=1073741824)
 ·rw[if_pos (by simp;omega),cN (by omega),cN (by omega),oB,oB,W3 (by omega),oB,oB]
  congr 1
  rw[Bool.eq_iff_iff]
  simp only[decide_eq_true_eq]
  omega
 ·rw[if_neg (by simp;omega),oB]
  congr 1
  symm
  rw[decide_eq_false_iff_not]
  omega
end
section
theorem rz{a b:Int}(ha:a.natAbs<=1073741824)(hb:b.natAbs<=1073741824):(a*b).natAbs<=1152921504606846976:=by
 rw[Int.natAbs_mul]
 exact Nat.mul_le_mul ha hb
theorem rA{x:R}(h:V x=true):x.fN.natAbs<=1073741824/\x.fD.natAbs<=1073741824/\1<=x.fD:=by
 simp only[V,decide_eq_true_eq] at h;omega
theorem WY{x y:R}(hx:V x=true)(hy:V y=true):x.fD*y.fD≠0:=Int.mul_ne_zero (by have:=rA hx;omega) (by have:=rA hy;omega)
theorem aC{x y:R}(hx:V x=true)(hy:V y=true):wL x y=some (mk (val x+val y)):=by
 have bx:=rA hx;have b2:=rA hy
 have h1:=rz bx.1 b2.2.1;have h2:=rz b2.1 bx.2.1;have h3:=rz bx.2.1 b2.2.1
 unfold wL sZ rP
 rw[vm,vm,hx,hy]
 simp only[oB,Bool.not_true,Bool.false_eq_true,if_false]
 rw[xD (x:=x.fN*y.fD) (by omega),xD (x:=y.fN*x.fD) (by omega),xD (by omega),xD (by omega),oT (WY hx hy) (by omega)]
 rw[val,val,Rat.divInt_add_divInt _ _ (by omega) (by omega)]
 rfl
theorem dH{x y:R}(hx:V x=true)(hy:V y=true):qa x y=some (mk (val x-val y)):=by
 have bx:=rA hx;have b2:=rA hy
 have h1:=rz bx.1 b2.2.1;have h2:=rz b2.1 bx.2.1;have h3:=rz bx.2.1 b2.2.1
 unfold qa re rR
 rw[vm,vm,hx,hy]
 simp only[oB,Bool.not_true,Bool.false_eq_true,if_false]
 rw[xD (x:=x.fN*y.fD) (by omega),xD (x:=y.fN*x.fD) (by omega),xD (by omega),xD (by omega),oT (WY hx hy) (by omega)]
 rw[val,val,Rat.divInt_sub_divInt _ _ (by omega) (by omega)]
 rfl
theorem aD{x y:R}(hx:V x=true)(hy:V y=true):jy x y=some (mk (val x*val y)):=by
 have bx:=rA hx;have b2:=rA hy
 have h1:=rz bx.1 b2.1;have h3:=rz bx.2.1 b2.2.1
 unfold jy po rO
 rw[vm,vm,hx,hy]
 simp only[oB,Bool.not_true,Bool.false_eq_true,if_false]
 rw[xD (by omega),xD (by omega),oT (WY hx hy) (by omega)]
 rw[val,val,Rat.divInt_mul_divInt]
 rfl
theorem dI{x y:R}(hx:V x=true)(hy:V y=true)(h0:y.fN≠0):ki x y=some (mk (val x / val y)):=by
 have bx:=rA hx;have b2:=rA hy
 have h1:=rz bx.1 b2.2.1;have h3:=rz bx.2.1 b2.1
 unfold ki rg rS
 rw[vm,vm,hx,hy]
 simp only[oB,Bool.not_true,Bool.false_or,decide_eq_true_eq,h0,if_false,Bool.false_eq_true]
 rw[xD (by omega),xD (by omega),oT (Int.mul_ne_zero (by omega) h0) (by omega)]
 rw[val,val,Rat.div_def,Rat.inv_divInt,Rat.divInt_mul_divInt]
 rfl
def mQ(p q:Rat):Int:=if p<q then -1 else if q<p then 1 else 0
theorem W4{x y:R}(hx:V x=true)(hy:V y=true):val x<val y↔x.fN*y.fD<y.fN*x.fD:=by
 rw[Rat.lt_iff,(cO hx).1,(cO hx).2,(cO hy).1,(cO hy).2]
theorem rl{x y:R}(hx:V x=true)(hy:V y=true):wS x y=some (mQ (val x) (val y)):=by
 have bx:=rA hx;have b2:=rA hy
 have h1:=rz bx.1 b2.2.1;have h2:=rz b2.1 bx.2.1
 unfold wS mQ
 rw[vm,vm,hx,hy]
 simp only[oB,Bool.not_true,Bool.false_eq_true,if_false,decide_eq_true_eq]
 rw[xD (x:=x.fN*y.fD) (by omega),xD (x:=y.fN*x.fD) (by omega)]
 simp only[W4 hx hy,W4 hy hx]
 by_cases h:x.fN*y.fD<y.fN*x.fD
 ·simp[h]
 ·by_cases h':y.fN*x.fD<x.fN*y.fD <;> simp[h,h']
theorem cP{p q:Rat}:mQ p q<=0↔p<=q:=by unfold mQ;grind
theorem uZ{p q:Rat}:mQ p q<0↔p<q:=by unfold mQ;grind
theorem bT{p q:Rat}(h:p<=q):p<q\/p=q:=by grind
theorem W5(p:Rat):mQ p p=0:=by unfold mQ;simp[Rat.lt_irrefl]
/-! ### buckets -/
abbrev B:=z8
def GR(x:R):Bool:=V x&&decide (0<=x.fN)
def GB(b:B):Bool:=GR b.yg&&GR b.ye
def bq(b:B):Rat:=val b.yg
def rq(b:B):Rat:=val b.ye
theorem mR{x:R}(h:GR x=true):V x=true:=by simp[GR] at h;exact h.1
theorem W6{x:R}(h:GR x=true):0<=val x:=by
 have hv:=mR h
 simp[GR] at h
 rw[<- Rat.num_nonneg,(cO hv).1];exact h.2
theorem og{b:B}(h:GB b=true):GR b.yg=true:=by simp[GB] at h;exact h.1
theorem lH{b:B}(h:GB b=true):GR b.ye=true:=by simp[GB] at h;exact h.2
theorem cQ(x:R):gW x=some (GR x):=by unfold gW GR;rw[vm,oB]
theorem W7(b:B):gw b=some (!GB b):=by
 unfold gw GB
 rw[cQ,cQ]
 cases GR b.yg <;> simp
theorem eV{s:List B}{f:B->Option Bool}{p:B->Bool}(hf:∀ x∈s,f x=some (p x))(hs:(s.length:Int)<=4611686018427387000):wR s f=some (s.any p):=
 lV (d8 (L:=fun k=>wz s f k) (fun _ _ _=>rfl) hf hs)
theorem Yl{s:List B}{v:B}(hs:(s.length:Int)<=4611686018427387000):q9 s v=some (s.any fun x=>decide (v=x)):=
 lV (d8 (L:=fun k=>wJ s v k) (f:=fun x=>some (decide (v=x))) (fun _ _ _=>rfl) (fun _ _=>rfl) hs)
def VC(c:List B):Bool:=decide (1<=c.length/\c.length<=32)&&c.all GB
theorem ud(c:List B):g4 c=some (VC c):=by
 unfold g4 VC
 by_cases h:1<=c.length/\c.length<=32
 ·rw[if_pos (by simp;omega),eV (p:=fun b => !GB b) (fun x _=>W7 x) (by omega)]
  simp only[oB,h,and_self,decide_true,Bool.true_and]
  congr 1
  rw[List.all_eq_not_any_not]
 ·rw[if_neg (by simp;omega)]
  simp[h]
theorem cd{c:List B}(h:VC c=true):∀ b∈c,GB b=true:=by simp[VC] at h;exact h.2
theorem dJ{c:List B}(h:VC c=true):1<=c.length/\c.length<=32:=by simp[VC] at h;omega
def rF(a b:B):Bool:=decide (a≠b)&&decide (bq a<=bq b)&&decide (rq a<=rq b)
theorem aF{a b:B}(ha:GB a=true)(hb:GB b=true):gI a b=some (rF a b):=by
 unfold gI rF
 rw[rl (mR (og ha)) (mR (og hb)),rl (mR (lH ha)) (mR (lH hb))]
 have e1:decide (mQ (val a.yg) (val b.yg)<=0)=decide (bq a<=bq b):=decide_eq_decide.2 cP
 have e2:decide (mQ (val a.ye) (val b.ye)<=0)=decide (rq a<=rq b):=decide_eq_decide.2 cP
 by_cases Dn:a≠b
 ·rw[if_pos (by simpa using Dn),oB,oB,e1]
  by_cases h1:bq a<=bq b
  ·rw[if_pos (by simpa using h1),oB,e2];simp[Dn,h1]
  ·rw[if_neg (by simpa using h1),oB];simp[h1]
 ·rw[if_neg (by simpa using Dn)];simp[Dn]
/-! ### the normal form -/
def sJ(c:List B)(out:List B)(v:B):List B:=if (!(out.any fun x=>decide (v=x)) && !(c.any fun a=>rF a v))=true then out++[v] else out
theorem W8{c:List B}{k:List B->Option (List B)}(hc:∀ b∈c,GB b=true)(hs:(c.length:Int)<=1000000):
  ∀(n:Nat) (out:List B) (i:Int),0<=i->i<=c.length->c.length-i<n->(out.length:Int)<=i->kS c k n out i=k ((c.drop i.toNat).foldl (sJ c) out):=by
 intro n
 induction n with
 | zero=>intro out i h0 h1 h2;omega
 | succ n ih=>
  intro out i h0 h1 h2 h3
  rw[kS]
  by_cases h:i<c.length
  ·rw[if_pos (by simpa using h)]
   simp only[jG]
   rw[xA ⟨h0,h⟩,jl h0 h,List.foldl_cons]
   have hm:=hc _ (wt h0 h)
   have e1:=Yl (s:=out) (v:=nth c i) (by omega)
   have e2:=eV (s:=c) (f:=fun y0=>gT y0 (nth c i)) (p:=fun a=>rF a (nth c i)) (fun x hx=>by unfold gT;rw[aF (hc x hx) hm];rfl) (by omega)
   refine(congrArg (fun o=>Option.bind o _) e1).trans ?_
   rw[oB]
   have jo:(out.length:Int)+1<=1000000:=by omega
   cases hA:out.any fun x=>decide (nth c i=x) with
   | true=>
    simp only[Bool.not_true,Bool.false_eq_true,if_false,oB]
    rw[xD (by omega),ih out (i+1) (by omega) (by omega) (by omega) (by omega)]
    congr 2
    unfold sJ;simp[hA]
   | false=>
    simp only[Bool.not_false,if_true]
    refine(congrArg (fun o=>Option.bind (Option.bind o _) _) e2).trans ?_
    simp only[oB]
    cases hB:c.any fun a=>rF a (nth c i) with
    | true=>
     simp only[Bool.not_true,Bool.false_eq_true,if_false]
     rw[xD (by omega),ih out (i+1) (by omega) (by omega) (by omega) (by omega)]
     congr 2
     unfold sJ;simp[hA,hB]
    | false=>
     simp only[Bool.not_false,if_true]
     rw[xA (by simp only[List.length_append,List.length_cons,List.length_nil];omega),xD (by omega)]
     refine(ih _ (i+1) (by omega) (by omega) (by omega) (by simp;omega)).trans ?_
     congr 2
     unfold sJ;simp[hA,hB]
  ·rw[if_neg (by simpa using h),kr h];rfl
/-! sorting by a key -/
def rU{α:Type}(key:α->Rat)(l:List α):List α:=w8 (fun x y=>some (mQ (key x) (key y))) l
theorem Ym{α:Type}{p q:α->α->Option Int}{x:α}{l:List α}(h:∀ y∈l,mS p x y=mS q x y):uS p x l=uS q x l:=by
 induction l with
 | nil=>rfl
 | cons y l ih=>
  unfold uS
  rw[h y (by simp),ih fun z hz=>h z (by simp[hz])]
theorem aG{α:Type}{p q:α->α->Option Int}{l:List α}(h:∀ x∈l,∀ y∈l,mS p x y=mS q x y):w8 p l=w8 q l:=by
 induction l with
 | nil=>rfl
 | cons x l ih=>
  unfold w8
  rw[ih fun a ha b hb=>h a (by simp[ha]) b (by simp[hb])]
  exact Ym fun y hy=>h x (by simp) y (by simp[(jF q l).mem_iff.1 hy])
theorem Yn{α:Type}{key:α->Rat}(x:α)(l:List α)(h:l.Pairwise fun a b=>key a<=key b):(uS (fun x y=>some (mQ (key x) (key y))) x l).Pairwise fun a b=>key a<=key b:=by
 induction l with
 | nil=>simp[uS]
 | cons y l ih=>
  obtain⟨h1,h2⟩:=List.pairwise_cons.1 h
  unfold uS
  split
  ·rename_i hxy
   have hxy:key x<=key y:=cP.1 hxy
   refine List.pairwise_cons.2 ⟨fun z hz=>?_,h⟩
   rcases List.mem_cons.1 hz with rfl | hz
   ·exact hxy
   ·exact Rat.le_trans hxy (h1 z hz)
  ·rename_i hxy
   have hxy:key y<=key x:=Rat.le_of_lt (Rat.not_le.1 fun h=>hxy (cP.2 h))
   refine List.pairwise_cons.2 ⟨fun z hz=>?_,ih h2⟩
   rcases List.mem_cons.1 ((lf _ x l).mem_iff.1 hz) with rfl | hz
   ·exact hxy
   ·exact h1 z hz
theorem pC{α:Type}(key:α->Rat)(l:List α):(rU key l).Pairwise fun a b=>key a<=key b:=by
 unfold rU
 induction l with
 | nil=>simp[w8]
 | cons x l ih=>exact Yn x _ ih
theorem rV{α:Type}(key:α->Rat)(l:List α):(rU key l).Perm l:=jF _ l
theorem aH{α:Type}[DecidableEq α]{key:α->Rat}{p:α->α->Option Int}{l:List α}(hp:∀ x∈l,∀ y∈l,p x y=some (mQ (key x) (key y)))(hi:∀ x∈l,∀ y∈l,key x=key y->x=y):
  w8 p l=rU key l/\tB p (w8 p l)=true:=by
 have hc:∀ x∈l,∀ y∈l,mS p x y=mQ (key x) (key y):=fun x hx y hy=>by unfold mS;rw[hp x hx y hy];rfl
 have e:w8 p l=rU key l:=aG fun x hx y hy=>by rw[hc x hx y hy];rfl
 refine⟨e,?_⟩
 have hm:∀ x∈w8 p l,x∈l:=fun x hx=>(jF p l).mem_iff.1 hx
 have hs:=pC key l
 rw[<- e] at hs
 simp only[tB,Bool.and_eq_true,List.all_eq_true,Bool.not_eq_true',decide_eq_false_iff_not,lh]
 refine⟨fun x hx=>⟨fun y hy=>by rw[hp x (hm x hx) y (hm y hy)];rfl,by rw[hc x (hm x hx) x (hm x hx),W5];omega⟩,?_⟩
 refine List.Pairwise.imp_of_mem ?_ hs
 intro x y hx hy hxy
 rw[hc x (hm x hx) y (hm y hy),hc y (hm y hy) x (hm x hx),uZ,uZ]
 rcases bT hxy with h | h
 ·exact .inr ⟨h,Rat.not_lt.2 hxy⟩
 ·exact .inl (hi x (hm x hx) y (hm y hy) h)
theorem eW(n:Nat)(h:n<4611686018427387904):Go.Lib.bitLen n<=62:=Go.Lib.bitLen_le n 62 (by omega) (by omega)
theorem WZ{l:List B}{p:B->B->Option Int}{key:B->Rat}(hp:∀ x∈l,∀ y∈l,p x y=some (mQ (key x) (key y)))(hi:∀ x∈l,∀ y∈l,key x=key y->x=y)(hs:(l.length:Int)<=1000000):
  wK l p=some (rU key l):=by
 obtain⟨e,ho⟩:=aH hp hi
 unfold wK kq jY
 rw[pB (by omega),xA (by omega),oB]
 have hb:=eW l.length (by omega)
 rw[Int.toNat_natCast,xA ⟨⟨rfl,rfl⟩,by omega,by omega,by omega⟩,xA ho,oB,e]
theorem V0{l:List R}{p:R->R->Option Int}{key:R->Rat}(hp:∀ x∈l,∀ y∈l,p x y=some (mQ (key x) (key y)))(hi:∀ x∈l,∀ y∈l,key x=key y->x=y)(hs:(l.length:Int)<=1000000):
  vL l p=some (rU key l):=by
 obtain⟨e,ho⟩:=aH hp hi
 unfold vL kq kM
 rw[pB (by omega),xA (by omega),oB]
 have hb:=eW l.length (by omega)
 rw[Int.toNat_natCast,xA ⟨⟨rfl,rfl⟩,by omega,by omega,by omega⟩,xA ho,oB,e]
theorem aI{c:List B}:∀(l out:List B) (v:B),v∈l.foldl (sJ c) out↔v∈out\/(v∈l/\(c.any fun a=>rF a v)=false)
 | [],out,v=>by simp
 | x::l,out,v=>by
  rw[List.foldl_cons,aI l]
  unfold sJ
  by_cases h1:(out.any fun y=>decide (x=y))=true
  ·have hx:x∈out:=by simpa using h1
   rw[if_neg (by simp[h1])]
   constructor
   ·rintro(h | h)
    ·exact .inl h
    ·exact .inr ⟨by simp[h.1],h.2⟩
   ·rintro(h | ⟨h,h'⟩)
    ·exact .inl h
    ·rcases List.mem_cons.1 h with rfl | h
     ·exact .inl hx
     ·exact .inr ⟨h,h'⟩
  ·by_cases h2:(c.any fun a=>rF a x)=true
   ·rw[if_neg (by simp[h2])]
    constructor
    ·rintro(h | h)
     ·exact .inl h
     ·exact .inr ⟨by simp[h.1],h.2⟩
    ·rintro(h | ⟨h,h'⟩)
     ·exact .inl h
     ·rcases List.mem_cons.1 h with rfl | h
      ·rw[h2] at h';cases h'
      ·exact .inr ⟨h,h'⟩
   ·rw[if_pos (by simp[h1,h2])]
    simp only[List.mem_append,List.mem_singleton]
    constructor
    ·rintro((h | rfl) | h)
     ·exact .inl h
     ·exact .inr ⟨by simp,by simpa using h2⟩
     ·exact .inr ⟨by simp[h.1],h.2⟩
    ·rintro(h | ⟨h,h'⟩)
     ·exact .inl (.inl h)
     ·rcases List.mem_cons.1 h with rfl | h
      ·exact .inl (.inr rfl)
      ·exact .inr ⟨h,h'⟩
theorem dK{c:List B}:∀(l out:List B),out.Nodup->(l.foldl (sJ c) out).Nodup
 | [],out,h=>h
 | x::l,out,h=>by
  rw[List.foldl_cons]
  apply dK l
  unfold sJ
  split
  ·rename_i h1
   simp only[Bool.and_eq_true,Bool.not_eq_true'] at h1
   have hx:x∉out:=by have:=h1.1;simp at this;exact fun hm=>this x hm rfl
   rw[List.nodup_append]
   refine⟨h,by simp,fun a ha b hb=>?_⟩
   simp at hb;subst hb
   intro e;subst e;exact hx ha
  ·exact h
theorem bU{c:List B}:∀(l out:List B),(l.foldl (sJ c) out).length<=out.length+l.length
 | [],out=>by simp
 | x::l,out=>by
  rw[List.foldl_cons]
  have:=bU (c:=c) l (sJ c out x)
  have h:(sJ c out x).length<=out.length+1:=by unfold sJ;split <;> simp
  simp;omega
def lI(c:List B):List B:=c.foldl (sJ c) []
def qH(c:List B):List B:=rU bq (lI c)
theorem pD{c:List B}{v:B}:v∈lI c↔v∈c/\∀ a∈c,rF a v=false:=by
 unfold lI;rw[aI];simp
theorem bV{c:List B}{v:B}:v∈qH c↔v∈c/\∀ a∈c,rF a v=false:=by
 unfold qH;rw[(rV _ _).mem_iff,pD]
theorem V1(c:List B):(qH c).length<=c.length:=by
 unfold qH;rw[(rV _ _).length_eq]
 have:=bU (c:=c) c []
 simpa [lI] using this
theorem W9{c:List B}{x y:B}(hx:x∈c/\∀ a∈c,rF a x=false)(hy:y∈c/\∀ a∈c,rF a y=false)(h:bq x=bq y):x=y:=by
 have h1:=hx.2 y hy.1
 have h2:=hy.2 x hx.1
 by_cases e:x=y
 ·exact e
 ·exfalso
  have e':y≠x:=fun h=>e h.symm
  unfold rF at h1 h2
  rw[h] at h1 h2
  simp[e,e',Rat.le_refl] at h1 h2
  grind
theorem VK{c:List B}(hc:∀ b∈c,GB b=true)(hs:(c.length:Int)<=1000000):uK c=some (qH c):=by
 unfold uK
 simp only[jG]
 rw[W8 hc hs xI [] 0 (by omega) (by omega) (by rw[w5];omega) (by simp)]
 show Option.bind (wK (lI c) _) _=_
 have hl:(lI c).length<=c.length:=by have:=bU (c:=c) c [];simpa [lI] using this
 rw[WZ (key:=bq) (fun x hx y hy=>?_) (fun x hx y hy h=>W9 (pD.1 hx) (pD.1 hy) h) (by omega)]
 ·rfl
 ·unfold mt
  rw[rl (mR (og (hc x (pD.1 hx).1))) (mR (og (hc y (pD.1 hy).1)))];rfl
theorem Yo{c:List B}:(qH c).Pairwise fun x y=>bq x<bq y/\rq y<rq x:=by
 have h:=pC bq (lI c)
 have hn:(qH c).Nodup:=(rV bq (lI c)).nodup_iff.2 (dK c [] (by simp))
 have h2:=List.Pairwise.and h hn
 refine List.Pairwise.imp_of_mem ?_ h2
 intro x y hx hy hxy
 have hx:=bV.1 hx;have hy:=bV.1 hy
 have mL:bq x<bq y:=by
  rcases bT hxy.1 with h | h
  ·exact h
  ·exact absurd (W9 hx hy h) hxy.2
 refine⟨mL,?_⟩
 have:=hy.2 x hx.1
 unfold rF at this
 simp[hxy.2,hxy.1] at this
 grind
end
section
variable {m k m':Nat}{p:Rat}{t:R}
/-! ### grids -/
theorem Yp{n d:Int}(hd:0<d)(h:n.natAbs<=1073741824/\d<=1073741824):fits (Rat.divInt n d)=true:=by
 simp only[fits,decide_eq_true_eq]
 rw[Rat.den_divInt,if_neg (by omega),Rat.num_divInt]
 have hs:d.sign=1:=Int.sign_eq_one_of_pos hd
 rw[hs,Int.one_mul]
 constructor
 ·have h1:(n / (Int.gcd d n:Int)).natAbs<=n.natAbs:=by
   have h2:((Int.gcd d n:Nat):Int) ∣ n:=Int.gcd_dvd_right ..
   rw[Int.natAbs_ediv_of_dvd h2]
   exact Nat.div_le_self _ _
  omega
 ·have:=Nat.div_le_self d.natAbs (Int.gcd d n)
  omega
def G(m k:Nat)(q:Rat):Prop:=∃ n:Int,n.natAbs<=m*k/\q=Rat.divInt n k
theorem G.fits{m k:Nat}{q:Rat}(h:G m k q)(hk:0<k)(rv:k<=1073741824)(hm:m*k<=1073741824):fits q=true:=by
 obtain⟨n,hn,rfl⟩:=h
 exact Yp (by omega) ⟨by omega,by omega⟩
theorem G.add{q:Rat}(hk:0<k)(hp:G m k p)(hq:G m' k q):G (m+m') k (p+q):=by
 obtain⟨n,hn,rfl⟩:=hp;obtain⟨n',hn',rfl⟩:=hq
 refine⟨n+n',?_,?_⟩
 ·have:=Nat.add_mul m m' k
  omega
 ·rw[Rat.divInt_add_divInt _ _ (by omega) (by omega),show n*(k:Int)+n'*k=(n+n')*k by rw[Int.add_mul],Rat.divInt_mul_right (by omega)]
theorem G.neg(hp:G m k p):G m k (-p):=by
 obtain⟨n,hn,rfl⟩:=hp
 exact⟨-n,by omega,by rw[Rat.neg_divInt]⟩
theorem G.sub{q:Rat}(hk:0<k)(hp:G m k p)(hq:G m' k q):G (m+m') k (p-q):=by
 rw[Rat.sub_eq_add_neg];exact hp.add hk hq.neg
theorem G.mul{k':Nat}{q:Rat}(hp:G m k p)(hq:G m' k' q):G (m*m') (k*k') (p*q):=by
 obtain⟨n,hn,rfl⟩:=hp;obtain⟨n',hn',rfl⟩:=hq
 refine⟨n*n',?_,?_⟩
 ·rw[Int.natAbs_mul,show m*m'*(k*k')=(m*k)*(m'*k') by rw[Nat.mul_mul_mul_comm]]
  exact Nat.mul_le_mul hn hn'
 ·rw[Rat.divInt_mul_divInt];rfl
theorem G.fine(j:Nat)(hj:0<j)(hp:G m k p):G m (k*j) p:=by
 obtain⟨n,hn,rfl⟩:=hp
 refine⟨n*j,?_,?_⟩
 ·rw[Int.natAbs_mul,<- Nat.mul_assoc];exact Nat.mul_le_mul hn (by omega)
 ·rw[show((k*j:Nat):Int)=(k:Int)*j by push_cast;rfl,Rat.divInt_mul_right (by omega)]
theorem G.le(h:m<=m')(hp:G m k p):G m' k p:=by
 obtain⟨n,hn,rfl⟩:=hp
 exact⟨n,Nat.le_trans hn (Nat.mul_le_mul_right _ h),rfl⟩
theorem YN{q:Rat}(h:fits q=true):mk q=(t8 q,0):=by unfold mk;rw[if_pos h]
/-! ### the law's points and curves -/
def SB(b:B):Prop:=GB b=true/\G 100 1 (bq b)/\G 5 8 (rq b)
def SC(c:List B):Prop:=1<=c.length/\c.length<=4/\∀ b∈c,SB b
theorem SC.all{c:List B}(h:SC c):∀ b∈c,GB b=true:=fun b hb=>(h.2.2 b hb).1
theorem SC.VC{c:List B}(h:SC c):VC c=true:=by
 unfold YthjnhebofpebpaaGreat.VC
 rw[Bool.and_eq_true,decide_eq_true_eq,List.all_eq_true]
 exact⟨⟨h.1,by have:=h.2.1;omega⟩,h.all⟩
theorem SB.pos{b:B}(h:SB b):0<=bq b/\0<=rq b:=⟨W6 (og h.1),W6 (lH h.1)⟩
/-! ### values -/
def vq(t:Rat)(b:B):Rat:=bq b+rq b*t
def lJ(t:Rat)(b:B):Bool:=fits (rq b*t)&&fits (vq t b)
theorem V2{b:B}(hb:GB b=true)(ht:GR t=true):vN ⟨0⟩ b t=some (if lJ (val t) b then(t8 (vq (val t) b),(⟨0⟩:ym)) else(⟨0,0⟩,⟨3⟩)):=by
 unfold vN vA
 rw[if_neg (by simp)]
 simp only[]
 rw[aD (mR (lH hb)) (mR ht),oB,oB]
 show Option.bind (if _ then _ else _) _=_
 have hr:val b.ye*val t=rq b*val t:=rfl
 rw[hr]
 unfold lJ
 cases h:fits (rq b*val t) with
 | true=>
  rw[YN h]
  rw[if_neg (by simp)]
  rw[aC (mR (og hb)) (lG h),p7]
  simp only[oB,Bool.true_and]
  have hv:val b.yg+rq b*val t=vq (val t) b:=rfl
  rw[hv]
  cases h2:fits (vq (val t) b) with
  | true=>rw[YN h2];rfl
  | false=>unfold mk;rw[h2];rfl
 | false=>
  unfold mk
  rw[h]
  simp
theorem Wa{b:B}{e:Int}(he:e≠0):vN ⟨e⟩ b t=some (⟨0,0⟩,⟨e⟩):=by
 unfold vN vA
 simp[he]
theorem aJ{α β R:Type}[Inhabited α]{c:List α}{S:Int->α->Option (β×Int)}{ok:α->Bool}{g:α->β}{z:β}{k:List β->Int->Option R}{K3:Option R}{L:Nat->List β->Int->Int->Option R}(hS:∀ b∈c,S 0 b=some (if ok b then(g b,0) else(z,3))/\S 3 b=some (z,3))(hL:∀ n out (i:Int) e v e',0<=i->i<c.length->(out.length:Int)=i->S e (nth c i)=some (v,e')->L (n+1) out i e=L n (out++[v]) (i+1) e')(hE:∀ n out (i:Int) e,¬i<c.length->L (n+1) out i e=k out e)(hK:∀ out,k out 3=K3):
  ∀(n:Nat) (out:List β) (i:Int),0<=i->(out.length:Int)=i->i<=c.length->c.length<n+i->
   L n out i 3=K3/\L n out i 0=if (c.drop i.toNat).all ok then k (out++(c.drop i.toNat).map g) 0 else K3
 | 0,out,i,h0,ho,h1,h2=>by omega
 | n+1,out,i,h0,ho,h1,h2=>by
  by_cases h:i<c.length
  ·have hm:=hS _ (wt h0 h)
   have ih:=fun BG ho'=>aJ hS hL hE hK n BG (i+1) (by omega) ho' (by omega) (by omega)
   refine⟨?_,?_⟩
   ·rw[hL n out i 3 _ _ h0 h ho hm.2]
    exact(ih _ (by simp;omega)).1
   ·rw[jl h0 h,List.all_cons,List.map_cons]
    cases hb:ok (nth c i) with
    | true=>
     have h3:=hm.1
     rw[hb,if_pos rfl] at h3
     rw[hL n out i 0 _ _ h0 h ho h3,(ih _ (by simp;omega)).2]
     simp
    | false=>
     have h3:=hm.1
     rw[hb,if_neg (by simp)] at h3
     rw[hL n out i 0 _ _ h0 h ho h3,(ih _ (by simp;omega)).1]
     simp
  ·rw[hE n out i 3 h,hE n out i 0 h,kr h,hK]
   simp
/-! ### least -/
def lK:List Rat->Rat
 | []=>0
 | [x]=>x
 | x::y::l=>let m:=lK (y::l);if x<=m then x else m
def cR(l:List Rat)(q:Rat):Prop:=q∈l/\∀ x∈l,q<=x
theorem cR.unique{l:List Rat}{q:Rat}(hp:cR l p)(hq:cR l q):p=q:=Rat.le_antisymm (hp.2 _ hq.1) (hq.2 _ hp.1)
theorem eF:∀(l:List Rat),l≠[]->cR l (lK l)
 | [],h=>absurd rfl h
 | [x],_=>⟨by simp[lK],fun y hy=>by simp at hy;subst hy;exact Rat.le_refl⟩
 | x::y::l,_=>by
  have ih:=eF (y::l) (by simp)
  unfold lK
  by_cases h:x<=lK (y::l)
  ·rw[if_pos h]
   refine⟨by simp,fun z hz=>?_⟩
   rcases List.mem_cons.1 hz with rfl | hz
   ·exact Rat.le_refl
   ·exact Rat.le_trans h (ih.2 z hz)
  ·rw[if_neg h]
   refine⟨List.mem_cons_of_mem _ ih.1,fun z hz=>?_⟩
   rcases List.mem_cons.1 hz with rfl | hz
   ·exact Rat.le_of_lt (Rat.not_le.1 h)
   ·exact ih.2 z hz
theorem VM{l:List Rat}{q:Rat}(h:cR l q):lK l=q:=(eF l (List.ne_nil_of_mem h.1)).unique h
theorem fl{α:Type}[Inhabited α]{l:List α}{i:Int}{x:α}(h0:0<=i)(h:i<l.length):x∈l.take (i+1).toNat↔x∈l.take i.toNat\/x=nth l i:=by
 rw[take_succ l h0 h,List.mem_append,List.mem_singleton]
theorem ce{l:List R}{k:Int->Int->Option R}(hl:∀ x∈l,V x=true)(hs:(l.length:Int)<=1000000):
  ∀(n:Nat) (i:Int) (c:R),0<=i->i<=l.length->l.length<n+i->c∈l->(∀ x∈l.take i.toNat,val c<=val x)->
   ∃ d:R,wI l (fun y0 y1=>wS y0 y1) k n i c.fN c.fD=k d.fN d.fD/\d∈l/\∀ x∈l,val d<=val x
 | 0,i,c,h0,h1,h2,hc,hm=>by omega
 | n+1,i,c,h0,h1,h2,hc,hm=>by
  rw[wI]
  by_cases h:i<l.length
  ·rw[if_pos (by simpa using h)]
   simp only[si]
   rw[xA ⟨h0,h⟩,xA ⟨h0,h⟩,xD (by omega)]
   have hx:=wt h0 h
   show ∃ d:R,Option.bind (wS (nth l i) c) _=_/\_
   rw[rl (hl _ hx) (hl _ hc),oB]
   by_cases mL:val (nth l i)<val c
   ·rw[if_pos (by simpa using uZ.2 mL)]
    refine ce hl hs n (i+1) (nth l i) (by omega) (by omega) (by omega) hx fun x hx'=>?_
    rcases(fl h0 h).1 hx' with h3 | rfl
    ·exact Rat.le_trans (Rat.le_of_lt mL) (hm x h3)
    ·exact Rat.le_refl
   ·rw[if_neg (by simpa using fun h=>mL (uZ.1 h))]
    refine ce hl hs n (i+1) c (by omega) (by omega) (by omega) hc fun x hx'=>?_
    rcases(fl h0 h).1 hx' with h3 | rfl
    ·exact hm x h3
    ·exact Rat.not_lt.1 mL
  ·rw[if_neg (by simpa using h)]
   refine⟨c,rfl,hc,fun x hx=>hm x ?_⟩
   rwa [List.take_of_length_le (by omega)]
theorem VN{l:List R}(hl:∀ x∈l,V x=true)(h0:l≠[])(hs:(l.length:Int)<=1000000):vW l (fun y0 y1=>wS y0 y1)=some (t8 (lK (l.map val))):=by
 have hp:=List.length_pos_iff.2 h0
 unfold vW
 rw[if_neg (by simp;omega),xA (by omega)]
 refine pw (P:=fun o=>o=_) fun k hk=>?_
 have hm0:=wt (l:=l) (i:=0) (by omega) (by omega)
 obtain⟨d,e,hd,zZ⟩:=ce (k:=k) hl hs xI 1 (nth l 0) (by omega) (by omega) (by rw[w5];omega) hm0 (by
  intro x hx
  have h1:(1:Int)=0+1:=rfl
  rw[h1] at hx
  rcases(fl (by omega) (by omega)).1 hx with h3 | rfl
  ·simp at h3
  ·exact Rat.le_refl)
 have h1:lK (l.map val)=val d:=VM ⟨List.mem_map_of_mem hd,fun x hx=>by
  obtain⟨y,hy,rfl⟩:=List.mem_map.1 hx
  exact zZ y hy⟩
 rw[e,hk,h1,eE (hl d hd)]
theorem V3{a b:B}(ha:GB a=true)(hb:GB b=true):jN a b=some (mQ (rq a) (rq b)):=by
 unfold jN
 rw[rl (mR (lH ha)) (mR (lH hb))];rfl
theorem cg{l:List B}{k:Int->Int->Int->Int->Option B}(hl:∀ x∈l,GB x=true)(hs:(l.length:Int)<=1000000):
  ∀(n:Nat) (i:Int) (c:B),0<=i->i<=l.length->l.length<n+i->c∈l->(∀ x∈l.take i.toNat,rq c<=rq x)->
   ∃ d:B,wr l (fun y0 y1=>jN y0 y1) k n i c.yg.fN c.yg.fD c.ye.fN c.ye.fD=k d.yg.fN d.yg.fD d.ye.fN d.ye.fD/\d∈l/\∀ x∈l,rq d<=rq x
 | 0,i,c,h0,h1,h2,hc,hm=>by omega
 | n+1,i,c,h0,h1,h2,hc,hm=>by
  rw[wr]
  by_cases h:i<l.length
  ·rw[if_pos (by simpa using h)]
   simp only[jp4]
   rw[xA ⟨h0,h⟩,xA ⟨h0,h⟩,xD (by omega)]
   have hx:=wt h0 h
   show ∃ d:B,Option.bind (jN (nth l i) c) _=_/\_
   rw[V3 (hl _ hx) (hl _ hc),oB]
   by_cases mL:rq (nth l i)<rq c
   ·rw[if_pos (decide_eq_true (uZ.2 mL))]
    refine cg hl hs n (i+1) (nth l i) (by omega) (by omega) (by omega) hx fun x hx'=>?_
    rcases(fl h0 h).1 hx' with h3 | rfl
    ·exact Rat.le_trans (Rat.le_of_lt mL) (hm x h3)
    ·exact Rat.le_refl
   ·rw[if_neg (fun h=>mL (uZ.1 (of_decide_eq_true h)))]
    refine cg hl hs n (i+1) c (by omega) (by omega) (by omega) hc fun x hx'=>?_
    rcases(fl h0 h).1 hx' with h3 | rfl
    ·exact hm x h3
    ·exact Rat.not_lt.1 mL
  ·rw[if_neg (by simpa using h)]
   refine⟨c,rfl,hc,fun x hx=>hm x ?_⟩
   rwa [List.take_of_length_le (by omega)]
theorem Qc{R A0 A1 A2 A3:Type}{K:A0->A1->A2->A3->Option R}{F:(A0->A1->A2->A3->Option R)->Option R}{P:Option R->Prop}(h:∀ k:A0->A1->A2->A3->Option R,(∀ x0 x1 x2 x3,k x0 x1 x2 x3=K x0 x1 x2 x3)->P (F k)):P (jp4 K F):=h K fun _ _ _ _=>rfl
theorem VO{l:List B}(hl:∀ x∈l,GB x=true)(h0:l≠[])(hs:(l.length:Int)<=1000000):∃ d,vt l (fun y0 y1=>jN y0 y1)=some d/\d∈l/\∀ x∈l,rq d<=rq x:=by
 have hp:=List.length_pos_iff.2 h0
 unfold vt
 rw[if_neg (by simp;omega),xA (by omega)]
 refine Qc (P:=fun o=>∃ d,o=some d/\d∈l/\∀ x∈l,rq d<=rq x) fun k hk=>?_
 have hm0:=wt (l:=l) (i:=0) (by omega) (by omega)
 obtain⟨d,e,hd,zZ⟩:=cg (k:=k) hl hs xI 1 (nth l 0) (by omega) (by omega) (by rw[w5];omega) hm0 (by
  intro x hx
  have h1:(1:Int)=0+1:=rfl
  rw[h1] at hx
  rcases(fl (by omega) (by omega)).1 hx with h3 | rfl
  ·simp at h3
  ·exact Rat.le_refl)
 rw[e,hk]
 exact⟨d,rfl,hd,zZ⟩
/-! ### At and Rate -/
def AT(c:List B)(t:Rat):Rat:=lK (c.map (vq t))
theorem AT_is{c:List B}{t:Rat}(h:c≠[]):cR (c.map (vq t)) (AT c t):=eF _ (by simpa using h)
theorem VP{c:List B}{k:List R->Int->Option (R×Int)}{K3:Option (R×Int)}(hc:∀ b∈c,GB b=true)(ht:GR t=true)(hs:(c.length:Int)<=1000000)(hK:∀ out,k out 3=K3){n:Nat}(hn:c.length<n):j9 c t k n [] 0 0=if c.all (lJ (val t)) then k (c.map fun b=>t8 (vq (val t) b)) 0 else K3:=by
 have:=(aJ (c:=c) (S:=fun e b=>(vN ⟨e⟩ b t).bind fun x=>some (x.1,x.2.fE)) (ok:=lJ (val t)) (g:=fun b=>t8 (vq (val t) b)) (z:=⟨0,0⟩) (k:=k) (K3:=K3) (L:=fun n out i e=>j9 c t k n out i e)
  (fun b hb=>⟨by rw[V2 (hc b hb) ht];cases lJ (val t) b <;> rfl,by rw[Wa (by decide)];rfl⟩) ?_ ?_ hK n [] 0 (by omega) rfl (by omega) (by omega)).2
 ·simpa using this
 ·intro n out i e v e' h0 h ho hS
  show j9 c t k (n+1) out i e=_
  rw[j9,if_pos (by simpa using h),xA ⟨h0,h⟩]
  show Option.bind (vN ⟨e⟩ (nth c i) t) _=_
  cases hv:vN ⟨e⟩ (nth c i) t with
  | none=>rw[hv] at hS;cases hS
  | some x=>
   rw[hv] at hS
   have hS:some (x.1,x.2.fE)=some (v,e'):=hS
   obtain⟨rfl,rfl⟩:=Prod.mk.inj (oJ hS)
   rw[oB,xA (by simp only[List.length_append,List.length_cons,List.length_nil];omega),xD (by omega)]
 ·intro n out i e h
  show j9 c t k (n+1) out i e=_
  rw[j9,if_neg (by simpa using h)]
theorem Vm{c:List B}(hc:VC c=true)(ht:GR t=true):gg c t=some (if c.all (lJ (val t)) then(t8 (AT c (val t)),0) else(⟨0,0⟩,3)):=by
 have hl:=dJ hc
 unfold gg
 rw[ud,cQ,hc,ht]
 simp only[oB,Bool.not_true,Bool.false_eq_true,if_false]
 refine pw (P:=fun o=>o=_) fun k hk=>?_
 rw[VP (K3:=some (⟨0,0⟩,3)) (cd hc) ht (by omega) (fun out=>by rw[hk];rfl) (by rw[w5];omega)]
 cases ha:c.all (lJ (val t)) with
 | true=>
  rw[if_pos rfl,if_pos rfl,hk,if_neg (by simp)]
  rw[List.all_eq_true] at ha
  rw[VN (l:=c.map fun b=>t8 (vq (val t) b)) ?_ ?_ (by simp;omega),oB]
  ·rw[List.map_map]
   congr 3
   unfold AT
   congr 2
   funext b
   exact p7 _
  ·intro x hx
   obtain⟨b,hb,rfl⟩:=List.mem_map.1 hx
   have:=ha b hb
   simp only[lJ,Bool.and_eq_true] at this
   exact lG this.2
  ·intro h
   have:=congrArg List.length h
   simp at this;subst this;simp at hl
 | false=>simp
theorem Wb{c:List B}(h:¬(VC c=true/\GR t=true)):gg c t=some (⟨0,0⟩,2):=by
 unfold gg
 rw[ud,cQ]
 cases h1:VC c <;> cases h2:GR t <;> simp_all
theorem Vn{c:List B}(hc:VC c=true):c≠[]:=fun h=>by have:=dJ hc;subst h;simp at this
theorem VQ{c:List B}(hc:VC c=true):∃ d,gZ c=some (d.ye,0)/\d∈c/\∀ x∈c,rq d<=rq x:=by
 have hl:=dJ hc
 unfold gZ
 rw[ud,hc]
 simp only[oB,Bool.not_true,Bool.false_eq_true,if_false]
 obtain⟨d,e,h1,h2⟩:=VO (cd hc) (Vn hc) (by omega)
 rw[e]
 exact⟨d,rfl,h1,h2⟩
theorem SB.val{b:B}{t:Rat}(h:SB b)(ht:G m 4 t):G (5*m) 32 (rq b*t)/\G (100+5*m) 32 (vq t b):=by
 have h1:=h.2.2.mul ht
 exact⟨h1,(h.2.1.fine 32 (by omega)).add (by omega) h1⟩
theorem SC.ne{c:List B}(h:SC c):c≠[]:=Vn h.VC
theorem SC.at{c:List B}{t:Rat}(h:SC c)(ht:G m 4 t):G (100+5*m) 32 (AT c t):=by
 obtain⟨b,hb,e⟩:=List.mem_map.1 (AT_is (t:=t) h.ne).1
 rw[<- e]
 exact((h.2.2 b hb).val ht).2
end
section
/-! ### the order of buckets -/
def le2(a b:B):Prop:=bq a<=bq b/\rq a<=rq b
instance (a b:B):Decidable (le2 a b):=inferInstanceAs (Decidable (_/\_))
theorem VT{a b:B}:rF a b=true↔a≠b/\le2 a b:=by unfold rF le2;simp[and_assoc]
theorem Wc{a b:B}:rF a b=false↔(le2 a b->a=b):=by
 rw[Bool.eq_false_iff,ne_eq,VT]
 constructor
 ·intro h h'
  exact Classical.byContradiction fun hn=>h ⟨hn,h'⟩
 ·intro h h'
  exact h'.1 (h h'.2)
theorem VU{c:List B}{v:B}:v∈qH c↔v∈c/\∀ a∈c,le2 a v->a=v:=by
 rw[bV];simp only[Wc]
theorem cmpb{a b:B}(ha:GB a=true)(hb:GB b=true):wS a.yg b.yg=some (mQ (bq a) (bq b)):=rl (mR (og ha)) (mR (og hb))
theorem V4{c:List B}(hc:∀ b∈c,GB b=true):∀ b∈qH c,GB b=true:=fun b hb=>hc b (VU.1 hb).1
/-! values of lists -/
/-! ### Shift -/
end
section
/-! ### a loop over a function's pairs -/
def mw{β Sg:Type}(y:β->Sg->Option (Bool×Sg))(k:Sg->Option Sg):List β->Sg->Option Sg
 | [],s=>k s
 | p::l,s=>(y p s).bind fun x=>if !x.1 then some x.2 else mw y k l x.2
theorem bi{β Sg:Type}{y:β->Sg->Option (Bool×Sg)}{k:Sg->Option Sg}{m:List β}:∀(l:List β) (s:Sg),mw y k (l++m) s=mw y (mw y k m) l s
 | [],s=>rfl
 | p::l,s=>by
  show Option.bind _ _=Option.bind _ _
  congr 1
  funext x
  show(if _ then _ else mw y k (l++m) x.2)=_
  rw[bi l]
theorem lL{β Sg:Type}{y:β->Sg->Option (Bool×Sg)}{k k':Sg->Option Sg}(h:∀ s,k s=k' s):∀(l:List β) (s:Sg),mw y k l s=mw y k' l s
 | [],s=>h s
 | p::l,s=>by
  show Option.bind _ _=Option.bind _ _
  congr 1
  funext x
  rw[lL h l]
theorem bj{Sg:Type}{c d:List B}{y:B×B->Sg->Option (Bool×Sg)}{v:Int}{k:Sg->Option Sg}(hs:(d.length:Int)<=1000000):
  ∀(n:Nat) (i:Int) (s:Sg),0<=i->i<=d.length->d.length<n+i->jz Sg d y c v k n i s=mw y k ((d.drop i.toNat).map fun z=>(nth c v,z)) s
 | 0,i,s,h0,h1,h2=>by omega
 | n+1,i,s,h0,h1,h2=>by
  rw[jz]
  by_cases h:i<d.length
  ·rw[if_pos (decide_eq_true h),xA ⟨h0,h⟩,jl h0 h,List.map_cons,mw]
   show Option.bind (y (nth c v,nth d i) s) _=_
   congr 1
   funext x
   rw[xD (by omega),bj hs n (i+1) x.2 (by omega) (by omega) (by omega)]
  ·rw[if_neg (by simpa using h),kr h]
   rfl
def my(a b:List B):List (B×B):=a.flatMap fun x=>b.map fun z=>(x,z)
theorem lM{a b:List B}{p:B×B}:p∈my a b↔p.1∈a/\p.2∈b:=by
 unfold my
 simp only[List.mem_flatMap,List.mem_map]
 constructor
 ·rintro⟨x,hx,z,hz,rfl⟩;exact⟨hx,hz⟩
 ·intro h;exact⟨p.1,h.1,p.2,h.2,rfl⟩
theorem Yq(a b:List B):(my a b).length=a.length*b.length:=by
 induction a with
 | nil=>simp[my]
 | cons x a ih=>
  have:my (x::a) b=b.map (fun z=>(x,z))++my a b:=rfl
  rw[this,List.length_append,ih,List.length_map,List.length_cons,Nat.succ_mul];omega
theorem bk{Sg:Type}{c d:List B}{y:B×B->Sg->Option (Bool×Sg)}{k:Sg->Option Sg}(hs:(c.length:Int)<=1000000)(hd:(d.length:Int)<=1000000):
  ∀(n:Nat) (i:Int) (s:Sg),0<=i->i<=c.length->c.length<n+i->jA Sg c d y k n i s=mw y k (my (c.drop i.toNat) d) s
 | 0,i,s,h0,h1,h2=>by omega
 | n+1,i,s,h0,h1,h2=>by
  rw[jA]
  by_cases h:i<c.length
  ·rw[if_pos (decide_eq_true h)]
   refine vj (P:=fun o=>o=_) fun k1 zS=>?_
   rw[xA ⟨h0,h⟩]
   refine vj (P:=fun o=>o=_) fun k2 rv=>?_
   rw[bj hd xI 0 s (by omega) (by omega) (by rw[w5];omega),jl h0 h]
   show _=mw y k (((d.map fun z=>(nth c i,z)))++my (c.drop (i+1).toNat) d) s
   rw[bi,Int.toNat_zero,List.drop_zero]
   refine lL (fun s'=>?_) _ _
   rw[rv,zS,xD (by omega),bk hs hd n (i+1) s' (by omega) (by omega) (by omega)]
  ·rw[if_neg (by simpa using h),kr h]
   rfl
theorem V5{Sg:Type}{c d:List B}{y:B×B->Sg->Option (Bool×Sg)}{s:Sg}(hs:(c.length:Int)<=1000000)(hd:(d.length:Int)<=1000000):
  gz Sg y s c d=mw y some (my c d) s:=by
 unfold gz
 refine vj (P:=fun o=>o=_) fun k hk=>?_
 rw[bk hs hd xI 0 s (by omega) (by omega) (by rw[w5];omega),Int.toNat_zero,List.drop_zero]
 exact lL hk _ _
theorem YO{β γ:Type}{y:β->Nat×List γ×Int->Option (Bool×(Nat×List γ×Int))}{ok:β->Bool}{g:β->List γ}{N:Nat}:
  ∀(l:List β) (out:List γ),out.length+l.length<=N->
   (∀ p∈l,(g p).length<=1/\∀ out:List γ,out.length<N->(ok p=true->y p (0,out,0)=some (true,(0,out++g p,0)))/\(ok p=false->∃ o,o.length<=out.length+1/\y p (0,out,0)=some (true,(0,o,3)))/\∃ o,o.length<=out.length+1/\y p (0,out,3)=some (true,(0,o,3)))->
   (∃ BG,mw y some l (0,out,3)=some (0,BG,3))/\∃ BG,mw y some l (0,out,0)=some (0,if l.all ok then(out++l.flatMap g,0) else(BG,3))
 | [],out,hl,h=>⟨⟨out,rfl⟩,⟨out,by simp[mw]⟩⟩
 | p::l,out,hl,h=>by
  simp only[List.length_cons] at hl
  obtain⟨h1,hp⟩:=h p (by simp)
  obtain⟨h2,h3,h4⟩:=hp out (by omega)
  have ih:=fun o ho=>YO l o ho fun q hq=>h q (by simp[hq])
  constructor
  ·obtain⟨o1,hl1,e1⟩:=h4
   obtain⟨o,ho⟩:=(ih o1 (by omega)).1
   exact⟨o,by rw[mw,e1,oB];exact ho⟩
  ·cases hb:ok p with
   | true=>
    obtain⟨o,ho⟩:=(ih (out++g p) (by rw[List.length_append];omega)).2
    refine⟨o,?_⟩
    rw[mw,h2 hb,oB]
    refine Eq.trans (show _=mw y some l (0,out++g p,0) from rfl) (ho.trans ?_)
    rw[List.all_cons,hb,Bool.true_and,List.flatMap_cons,List.append_assoc]
   | false=>
    obtain⟨o1,hl1,e1⟩:=h3 hb
    obtain⟨o,ho⟩:=(ih o1 (by omega)).1
    refine⟨o,?_⟩
    rw[mw,e1,oB]
    refine Eq.trans (show _=mw y some l (0,o1,3) from rfl) (ho.trans ?_)
    rw[List.all_cons,hb,Bool.false_and,if_neg Bool.false_ne_true]
/-! ### Sum -/
theorem oU{e:Int}(he:e≠0){f:R->R->Option (R×Int)}{x y:R}:vA ⟨e⟩ f x y=some (⟨0,0⟩,⟨e⟩):=by
 unfold vA;rw[if_pos (by simpa using he)]
theorem nu{f:R->R->Option (R×Int)}{x y:R}{q:Rat}(h:f x y=some (mk q)):vA ⟨0⟩ f x y=some (if fits q then(t8 q,⟨0⟩) else(⟨0,0⟩,⟨3⟩)):=by
 unfold vA
 rw[if_neg (by simp),h,oB]
 unfold mk
 cases fits q <;> rfl
/-! ### Min -/
end
section
theorem eG{R:Type}{K:Option R}{F:Option R->Option R}{P:Option R->Prop}(h:∀ k:Option R,k=K->P (F k)):P (mh K F):=h K rfl
/-! ### Compact -/
def ib(l:List R):Prop:=l.Pairwise fun x y=>val x<val y
theorem ib.ext:∀ {l m:List R},ib l->ib m->(∀ v,v∈l↔v∈m)->l=m
 | [],[],_,_,_=>rfl
 | [],y::m,_,_,h=>by have:=(h y).2 (by simp);simp at this
 | x::l,[],_,_,h=>by have:=(h x).1 (by simp);simp at this
 | x::l,y::m,hl,hm,h=>by
  obtain⟨h1,DG⟩:=List.pairwise_cons.1 hl
  obtain⟨h2,Bk⟩:=List.pairwise_cons.1 hm
  have e:x=y:=by
   rcases List.mem_cons.1 ((h x).1 (by simp)) with e | h3
   ·exact e
   ·rcases List.mem_cons.1 ((h y).2 (by simp)) with e | h4
    ·exact e.symm
    ·have:=h1 y h4;have:=h2 x h3;grind
  subst e
  refine congrArg (x::·) (ib.ext DG Bk fun v=>?_)
  constructor
  ·intro hv
   rcases List.mem_cons.1 ((h v).1 (by simp[hv])) with e | h3
   ·subst e;have:=h1 v hv;grind
   ·exact h3
  ·intro hv
   rcases List.mem_cons.1 ((h v).2 (by simp[hv])) with e | h3
   ·subst e;have:=h2 v hv;grind
   ·exact h3
theorem Yr{a b c:Rat}(h:a<=b)(h':b<c):a<c:=by grind
def sK(s0:List R)(m:Int)(r:List R):Prop:=ib r/\(∀ v,v∈r↔v∈s0.take m.toNat)/\(r.length:Int)<=m
theorem sK.step{s0:List R}(hv:∀ x∈s0,V x=true)(hs:s0.Pairwise fun x y=>val x<=val y){m:Int}(h0:1<=m)(h:m<s0.length){r:List R}(hr:sK s0 m r):
  (nth s0 m=nth s0 (m-1)->sK s0 (m+1) r)/\(nth s0 m≠nth s0 (m-1)->sK s0 (m+1) (r++[nth s0 m])):=by
 have ht:=take_succ s0 (i:=m) (by omega) h
 have hp:=take_succ s0 (i:=m-1) (by omega) (by omega)
 have hm1:nth s0 (m-1)∈s0.take m.toNat:=by
  rw[show m=m-1+1 by omega,hp];simp
 constructor
 ·intro e
  refine⟨hr.1,fun v=>?_,by have:=hr.2.2;omega⟩
  rw[ht,hr.2.1,List.mem_append,List.mem_singleton]
  constructor
  ·exact fun h => .inl h
  ·rintro(h | rfl)
   ·exact h
   ·rw[e];exact hm1
 ·intro e
  have mL:val (nth s0 (m-1))<val (nth s0 m):=by
   have h1:=List.pairwise_iff_getElem.1 hs (m-1).toNat m.toNat (by omega) (by omega) (by omega)
   rw[gU (by omega) (by omega),gU (by omega) (by omega)] at h1
   rcases bT h1 with h | h
   ·exact h
   ·exact absurd (YM (hv _ (wt (by omega) (by omega))) (hv _ (wt (by omega) (by omega))) h).symm e
  constructor
  ·unfold ib
   rw[List.pairwise_append]
   refine⟨hr.1,by simp,fun a ha b hb=>?_⟩
   obtain rfl:=List.mem_singleton.1 hb
   have ha:=(hr.2.1 a).1 ha
   obtain⟨i,hi,rfl⟩:=List.mem_iff_getElem.1 ha
   rw[List.length_take] at hi
   rw[List.getElem_take]
   refine Yr ?_ mL
   by_cases e2:i=(m-1).toNat
   ·subst e2
    rw[gU (by omega) (by omega)];exact Rat.le_refl
   ·have h1:=List.pairwise_iff_getElem.1 hs i (m-1).toNat (by omega) (by omega) (by omega)
    rw[gU (i:=m-1) (by omega) (by omega)] at h1
    exact h1
  ·refine⟨fun v=>?_,by have:=hr.2.2;rw[List.length_append,List.length_singleton];omega⟩
   rw[ht,List.mem_append,List.mem_append,hr.2.1]
theorem Xo{s:List R}{k j:Int}{v:R}(h0:0<=k)(h1:0<=j)(h:k≠j):nth (s.set k.toNat v) j=nth s j:=by
 unfold nth
 rw[List.getD_eq_getElem?_getD,List.getD_eq_getElem?_getD,List.getElem?_set_ne (by omega)]
theorem V6{s:List R}{k:Int}{v:R}(h0:0<=k)(h:k<s.length):(s.set k.toNat v).take (k+1).toNat=s.take k.toNat++[v]:=by
 rw[show(k+1).toNat=k.toNat+1 by omega,List.take_add_one,List.take_set_of_le (by omega),List.getElem?_set_self (by omega)]
 rfl
theorem bW{s0:List R}{K:Int}{k:List R->Int->Option (List R)}(hv:∀ x∈s0,V x=true)(hs:s0.Pairwise fun x y=>val x<=val y)(hK:1<=K/\K<s0.length)(hl:(s0.length:Int)<=1000000):
  ∀(n:Nat) (s:List R) (j i:Int),1<=i->K+i<=s0.length->s0.length-K<n+i->K<=j->j<=K+i-1->s.length=s0.length->(∀ q:Int,K+i-1<=q->nth s q=nth s0 q)->sK s0 (K+i) (s.take j.toNat)->
   ∃ s' j',wG s0 K k n s j i=k s' j'/\0<=j'/\j'<=s'.length/\sK s0 s0.length (s'.take j'.toNat)
 | 0,s,j,i,h0,h1,h2,h3,h4,h5,h6,h7=>by omega
 | n+1,s,j,i,h0,h1,h2,h3,h4,h5,h6,h7=>by
  rw[wG]
  by_cases h:i<((s0.length-K.toNat:Nat):Int)
  ·rw[if_pos (decide_eq_true h)]
   simp only[si]
   rw[xD (x:=i-1) (by omega),xA (by omega),xA (by omega)]
   have e1:nth s (K+i)=nth s0 (K+i):=h6 _ (by omega)
   have e2:nth s (K+(i-1))=nth s0 (K+i-1):=by rw[show K+(i-1)=K+i-1 by omega];exact h6 _ (by omega)
   show ∃ s' j',(if decide (nth s (K+i)≠nth s (K+(i-1))) then _ else _)=_/\_
   rw[e1,e2]
   have st:=sK.step hv hs (m:=K+i) (by omega) (by omega) h7
   by_cases he:nth s0 (K+i)=nth s0 (K+i-1)
   ·rw[if_neg (by simpa using he),xD (x:=i+1) (by omega)]
    refine bW (k:=k) hv hs hK hl n s j (i+1) (by omega) (by omega) (by omega) h3 (by omega) h5 (fun q hq=>h6 q (by omega)) ?_
    rw[show K+(i+1)=K+i+1 by omega]
    exact st.1 he
   ·rw[if_pos (decide_eq_true he),xA (by omega),xA (by omega),xD (x:=i+1) (by omega),xD (x:=j+1) (by omega)]
    have eta:(⟨(nth s0 (K+i)).fN,(nth s0 (K+i)).fD⟩:R)=nth s0 (K+i):=rfl
    rw[eta]
    refine bW (k:=k) hv hs hK hl n (s.set j.toNat (nth s0 (K+i))) (j+1) (i+1) (by omega) (by omega) (by omega) (by omega) (by omega) (by rw[List.length_set];exact h5) (fun q hq=>?_) ?_
    ·rw[Xo (by omega) (by omega) (by omega)]
     exact h6 q (by omega)
    ·rw[V6 (by omega) (by omega),show K+(i+1)=K+i+1 by omega]
     exact st.2 he
  ·rw[if_neg (by simpa using h)]
   refine⟨s,j,rfl,by omega,by omega,?_⟩
   rw[show(s0.length:Int)=K+i by omega]
   exact h7
theorem aK{s0:List R}{k:Option (List R)}(hv:∀ x∈s0,V x=true)(hs:s0.Pairwise fun x y=>val x<=val y)(hl:(s0.length:Int)<=1000000)(hk:k=some s0):
  ∀(n:Nat) (i:Int),1<=i->i<=s0.length->s0.length<n+i->sK s0 i (s0.take i.toNat)->
   ∃ r,wH s0 k n i=some r/\sK s0 s0.length r
 | 0,i,h0,h1,h2,h3=>by omega
 | n+1,i,h0,h1,h2,h3=>by
  rw[wH]
  by_cases h:i<s0.length
  ·rw[if_pos (decide_eq_true h)]
   refine eG (P:=fun o=>∃ r,o=some r/\sK s0 s0.length r) fun k1 zS=>?_
   rw[xD (x:=i+1) (by omega)] at zS
   rw[xD (x:=i-1) (by omega),xA (by omega),xA (by omega)]
   have st:=sK.step hv hs (m:=i) h0 h h3
   show ∃ r,(if decide (nth s0 i=nth s0 (i-1)) then _ else _)=_/\_
   by_cases he:nth s0 i=nth s0 (i-1)
   ·rw[if_pos (decide_eq_true he),xA (by omega)]
    refine pw (P:=fun o=>∃ r,o=some r/\sK s0 s0.length r) fun k2 rv=>?_
    obtain⟨s',j',e,h4,h5,h6⟩:=bW (k:=k2) hv hs ⟨h0,h⟩ hl xI s0 i 1 (by omega) (by omega) (by rw[w5];omega) (by omega) (by omega) rfl (fun q _=>rfl) (by exact st.1 he)
    rw[e,rv]
    have ht:(s'.take j'.toNat++List.replicate (s'.length-j'.toNat) ((⟨0,0⟩:R):R)).take j'.toNat=s'.take j'.toNat:=by
     rw[List.take_append_of_le_length (by rw[List.length_take];omega),List.take_take,Nat.min_self]
    rw[xA ⟨h4,h5⟩,xA ⟨h4,by rw[List.length_append,List.length_take,List.length_replicate];omega⟩]
    exact⟨_,congrArg some ht,h6⟩
   ·rw[if_neg (by simpa using he),zS]
    refine aK hv hs hl hk n (i+1) (by omega) (by omega) (by omega) ?_
    rw[take_succ s0 (by omega) h]
    exact st.2 he
  ·rw[if_neg (by simpa using h)]
   refine⟨s0,hk,?_⟩
   rw[show(s0.length:Int)=i by omega]
   have:=h3
   rwa [List.take_of_length_le (by omega)] at this
theorem Xp{s0:List R}(hv:∀ x∈s0,V x=true)(hs:s0.Pairwise fun x y=>val x<=val y)(hl:(s0.length:Int)<=1000000):
  ∃ r,vV s0=some r/\ib r/\(∀ v,v∈r↔v∈s0)/\r.length<=s0.length:=by
 unfold vV
 by_cases h:(s0.length:Int)<2
 ·rw[if_pos (decide_eq_true h)]
  refine⟨s0,rfl,?_,fun _=>Iff.rfl,Nat.le_refl _⟩
  unfold ib
  rcases s0 with _ | ⟨x,_ | ⟨y,l⟩⟩
  ·exact .nil
  ·simp
  ·simp only[List.length_cons] at h;omega
 ·rw[if_neg (by simpa using h)]
  refine eG (P:=fun o=>∃ r,o=some r/\ib r/\(∀ v,v∈r↔v∈s0)/\r.length<=s0.length) fun k hk=>?_
  have h1:sK s0 1 (s0.take (1:Int).toNat):=by
   refine⟨?_,fun _=>Iff.rfl,by rw[List.length_take];omega⟩
   have:=take_succ s0 (i:=0) (by omega) (by omega)
   rw[show((0:Int)+1)=1 from rfl,Int.toNat_zero,List.take_zero,List.nil_append] at this
   rw[this]
   simp[ib]
  obtain⟨r,e,hr⟩:=aK hv hs hl hk xI 1 (by omega) (by omega) (by rw[w5];omega) h1
  refine⟨r,e,hr.1,fun v=>?_,by have:=hr.2.2;omega⟩
  rw[hr.2.1,Int.toNat_natCast,List.take_length]
end
section
/-! ### Breaks -/
def bpA(p:B×B):Rat:=bq p.2-bq p.1
def ic(p:B×B):Rat:=rq p.1-rq p.2
def bp(p:B×B):Rat:=bpA p / ic p
def Xq(p:B×B):Bool:=fits (bpA p)&&fits (ic p)&&fits (bp p)
def bl(p:B×B):Bool:=decide (bq p.1<bq p.2)
def dL(p:B×B):Bool := !bl p||Xq p
def bg(p:B×B):List R:=if bl p then[t8 (bp p)] else[]
theorem Xr{p:B×B}{out:List R}(h1:GB p.1=true)(h2:GB p.2=true)(hd:bl p=true->rq p.2<rq p.1)(hl:out.length<2000):
  (dL p=true->wZ p out 0=some (true,(0,out++bg p,0)))/\(dL p=false->∃ o,o.length<=out.length+1/\wZ p out 0=some (true,(0,o,3)))/\∃ o,o.length<=out.length+1/\wZ p out 3=some (true,(0,o,3)):=by
 unfold wZ
 rw[cmpb h1 h2]
 simp only[oB]
 have a1:=nu (f:=fun y0 y1=>qa y0 y1) (dH (mR (og h2)) (mR (og h1)))
 have a2:=nu (f:=fun y0 y1=>qa y0 y1) (dH (mR (lH h1)) (mR (lH h2)))
 have e1:val p.2.yg-val p.1.yg=bpA p:=rfl
 have e2:val p.1.ye-val p.2.ye=ic p:=rfl
 rw[e1] at a1;rw[e2] at a2
 unfold dL bg
 by_cases hb:bq p.1<bq p.2
 ·have Br:bl p=true:=decide_eq_true hb
  rw[if_pos (decide_eq_true (uZ.2 hb)),if_pos (decide_eq_true (uZ.2 hb))]
  rw[Br,if_pos rfl]
  have BC:0<ic p:=by have:=hd Br;unfold ic;grind
  have l1:∀ v:R,(((out++[v]).length:Nat):Int)*16<=140737488355328/\(((out++[v]).length:Nat):Int)<=4611686018427387904:=fun v=>by
   simp only[List.length_append,List.length_cons,List.length_nil];omega
  refine⟨fun hk=>?_,fun hk=>?_,?_⟩
  ·simp only[Bool.not_true,Bool.false_or,Xq,Bool.and_eq_true] at hk
   obtain⟨⟨f1,f2⟩,f3⟩:=hk
   rw[a1,f1,if_pos rfl,oB]
   simp only[]
   rw[a2,f2,if_pos rfl,oB]
   simp only[]
   have hn:(t8 (ic p)).fN≠0:=by
    intro h0
    have h1:(ic p).num=0:=h0
    rw[Rat.num_eq_zero.1 h1] at BC
    exact absurd BC (by decide)
   have a3:=nu (f:=fun y0 y1=>ki y0 y1) (dI (lG f1) (lG f2) hn)
   rw[p7,p7] at a3
   have e3:bpA p / ic p=bp p:=rfl
   rw[e3,f3,if_pos rfl] at a3
   rw[a3,oB]
   rw[xA (l1 _)]
  ·simp only[Bool.not_true,Bool.false_or,Xq] at hk
   cases f1:fits (bpA p) with
   | false=>
    rw[a1,f1,if_neg Bool.false_ne_true,oB]
    simp only[]
    rw[oU (by decide),oB]
    simp only[]
    rw[oU (by decide),oB,xA (l1 _)]
    exact⟨_,by simp,rfl⟩
   | true=>
    rw[a1,f1,if_pos rfl,oB]
    simp only[]
    cases f2:fits (ic p) with
    | false=>
     rw[a2,f2,if_neg Bool.false_ne_true,oB]
     simp only[]
     rw[oU (by decide),oB,xA (l1 _)]
     exact⟨_,by simp,rfl⟩
    | true=>
     rw[a2,f2,if_pos rfl,oB]
     simp only[]
     have hn:(t8 (ic p)).fN≠0:=by
      intro h0
      have h1:(ic p).num=0:=h0
      rw[Rat.num_eq_zero.1 h1] at BC
      exact absurd BC (by decide)
     have a3:=nu (f:=fun y0 y1=>ki y0 y1) (dI (lG f1) (lG f2) hn)
     rw[p7,p7] at a3
     have e3:bpA p / ic p=bp p:=rfl
     rw[f1,f2,Bool.true_and,Bool.true_and] at hk
     rw[e3,hk,if_neg Bool.false_ne_true] at a3
     rw[a3,oB,xA (l1 _)]
     exact⟨_,by simp,rfl⟩
  ·rw[oU (by decide),oB]
   simp only[]
   rw[oU (by decide),oB]
   simp only[]
   rw[oU (by decide),oB,xA (l1 _)]
   exact⟨_,by simp,rfl⟩
 ·have Br:bl p=false:=decide_eq_false hb
  have hn:¬decide (mQ (bq p.1) (bq p.2)<0)=true:=fun h=>hb (uZ.1 (of_decide_eq_true h))
  rw[if_neg hn,if_neg hn,Br,if_neg Bool.false_ne_true]
  refine⟨fun _=>by rw[List.append_nil],fun h=>by simp at h,⟨out,by omega,rfl⟩⟩
theorem eX:∀ {l:List B},(l.Pairwise fun x y=>bq x<bq y/\rq y<rq x)->∀ {x y:B},x∈l->y∈l->bq x<bq y->rq y<rq x
 | [],_,x,y,hx,_,_=>by simp at hx
 | z::l,h,x,y,hx,hy,hxy=>by
  obtain⟨h1,h2⟩:=List.pairwise_cons.1 h
  rcases List.mem_cons.1 hx with e | hx'
  ·subst e
   rcases List.mem_cons.1 hy with e | hy'
   ·subst e;grind
   ·exact(h1 y hy').2
  ·rcases List.mem_cons.1 hy with e | hy'
   ·subst e;have:=(h1 x hx').1;grind
   ·exact eX h2 hx' hy' hxy
theorem VV{p:B×B}(h:dL p=true)(h2:bl p=true):fits (bp p)=true:=by
 unfold dL Xq at h
 rw[h2] at h
 simp only[Bool.not_true,Bool.false_or,Bool.and_eq_true] at h
 exact h.2
theorem eY{c:List B}(hc:VC c=true):
  if (my (qH c) (qH c)).all dL then ∃ r,qm c=some (r,0)/\ib r/\(∀ v,v∈r↔∃ p,(p.1∈qH c/\p.2∈qH c)/\bl p=true/\v=t8 (bp p))/\(∀ v∈r,V v=true)/\r.length<=1100
  else qm c=some ([],3):=by
 have la:=dJ hc;have na:=V1 c
 have ga:=V4 (cd hc)
 unfold qm
 rw[ud,hc,VK (cd hc) (by omega)]
 simp only[oB,Bool.not_true,Bool.false_eq_true,if_false]
 have hp:=Yq (qH c) (qH c)
 have hm:(qH c).length*(qH c).length<=32*32:=Nat.mul_le_mul (by omega) (by omega)
 obtain⟨o,ho⟩:=(YO (y:=fun(x:B×B) (s:Nat×List R×Int)=>chk (s.1=0) (wZ x s.2.1 s.2.2)) (ok:=dL) (g:=bg) (N:=1100) (my (qH c) (qH c)) [] (by rw[hp];simp;omega) (by
   intro p hp
   have hm:=lM.1 hp
   refine⟨by unfold bg;split <;> simp,fun out hl=>?_⟩
   have st:=Xr (p:=p) (out:=out) (ga _ hm.1) (ga _ hm.2) (fun h=>eX Yo hm.1 hm.2 (of_decide_eq_true h)) (by omega)
   refine⟨fun hk=>?_,fun hk=>?_,?_⟩
   ·show chk (0=0) (wZ p out 0)=_
    rw[xA rfl];exact st.1 hk
   ·obtain⟨o,h1,h2⟩:=st.2.1 hk
    refine⟨o,h1,?_⟩
    show chk (0=0) (wZ p out 0)=_
    rw[xA rfl];exact h2
   ·obtain⟨o,h1,h2⟩:=st.2.2
    refine⟨o,h1,?_⟩
    show chk (0=0) (wZ p out 3)=_
    rw[xA rfl];exact h2)).2
 have key:∀ k:Int->List R->Option (List R×Int),(mX (qH c) (qH c)).bind (fun zIw=>(gz (Nat×List R×Int) (fun(x:B×B) (s:Nat×List R×Int)=>chk (s.1=0) (wZ x s.2.1 s.2.2)) (0,([]:List R),0) zIw.1 zIw.2).bind fun zIx=>k zIx.2.2 zIx.2.1)=if (my (qH c) (qH c)).all dL then k 0 ((my (qH c) (qH c)).flatMap bg) else k 3 o:=by
  intro k
  unfold mX
  rw[oB]
  simp only[]
  rw[V5 (by omega) (by omega),ho,oB]
  split <;> simp
 cases hf:(my (qH c) (qH c)).all dL with
 | true=>
  rw[if_pos rfl]
  refine pw (P:=fun(o:Option (List R×Int))=>∃ r,o=some (r,0)/\ib r/\(∀ v,v∈r↔∃ p,(p.1∈qH c/\p.2∈qH c)/\bl p=true/\v=t8 (bp p))/\(∀ v∈r,V v=true)/\r.length<=1100) fun k hk=>?_
  rw[key,hf,if_pos rfl,hk,if_neg (by simp)]
  have zw:∀ v,v∈(my (qH c) (qH c)).flatMap bg↔∃ p,(p.1∈qH c/\p.2∈qH c)/\bl p=true/\v=t8 (bp p):=by
   intro v
   rw[List.mem_flatMap]
   constructor
   ·rintro⟨p,hp,hv⟩
    unfold bg at hv
    cases hb:bl p with
    | true=>rw[hb,if_pos rfl] at hv;exact⟨p,lM.1 hp,hb,by simpa using hv⟩
    | false=>rw[hb] at hv;simp at hv
   ·rintro⟨p,hp,hb,rfl⟩
    exact⟨p,lM.2 hp,by unfold bg;rw[hb,if_pos rfl];simp⟩
  have hV:∀ v∈(my (qH c) (qH c)).flatMap bg,V v=true:=by
   intro v hv
   obtain⟨p,hp,hb,rfl⟩:=(zw v).1 hv
   exact lG (VV (List.all_eq_true.1 hf p (lM.2 hp)) hb)
  have jo:((my (qH c) (qH c)).flatMap bg).length<=1100:=by
   have:∀ l:List (B×B),(l.flatMap bg).length<=l.length:=by
    intro l
    induction l with
    | nil=>simp
    | cons x l ih=>
     rw[List.flatMap_cons,List.length_append,List.length_cons]
     have:(bg x).length<=1:=by unfold bg;split <;> simp
     omega
   have:=this (my (qH c) (qH c));omega
  rw[V0 (key:=val) (fun x hx y hy=>rl (hV x hx) (hV y hy)) (fun x hx y hy h=>YM (hV x hx) (hV y hy) h) (by omega),oB]
  have xT:=rV val ((my (qH c) (qH c)).flatMap bg)
  obtain⟨r,e,h1,h2,h3⟩:=Xp (s0:=rU val ((my (qH c) (qH c)).flatMap bg)) (fun x hx=>hV x (xT.mem_iff.1 hx)) (pC _ _) (by rw[xT.length_eq];omega)
  rw[e,oB]
  refine⟨r,rfl,h1,fun v=>?_,fun v hv=>hV v (xT.mem_iff.1 ((h2 v).1 hv)),by rw[xT.length_eq] at h3;omega⟩
  rw[h2,xT.mem_iff,zw]
 | false=>
  rw[if_neg Bool.false_ne_true]
  refine pw (P:=fun o=>o=_) fun k hk=>?_
  rw[key,hf,if_neg Bool.false_ne_true,hk]
  simp
theorem dM{c:List B}(h:VC c=false):qm c=some ([],2):=by
 unfold qm
 rw[ud,h];rfl
end
section
variable {x y:R}
abbrev SV:=yn
def Z1:R:=⟨0,1⟩
theorem p8:kh=some Z1:=rfl
theorem cj{RR A0 A1 A2:Type}{K:A0->A1->A2->Option RR}{F:(A0->A1->A2->Option RR)->Option RR}{P:Option RR->Prop}(h:∀ k:A0->A1->A2->Option RR,(∀ x0 x1 x2,k x0 x1 x2=K x0 x1 x2)->P (F k)):P (d7 K F):=h K fun _ _ _=>rfl
/-! ### operations agree -/
theorem rm(h:¬(V x=true/\V y=true)):(if !(V x) then some true else(some (V y)).bind fun v=>some (!v))=some true:=by
 cases hx:V x with
 | false=>rfl
 | true=>
  cases hy:V y with
  | false=>rfl
  | true=>exact absurd ⟨hx,hy⟩ h
theorem YP(h:¬(V x=true/\V y=true)):wL x y=some (⟨0,0⟩,2):=by
 unfold wL sZ
 rw[vm,vm,oB,rm h];rfl
theorem YQ(h:¬(V x=true/\V y=true)):qa x y=some (⟨0,0⟩,2):=by
 unfold qa re
 rw[vm,vm,oB,rm h];rfl
theorem YR(h:¬(V x=true/\V y=true)):jy x y=some (⟨0,0⟩,2):=by
 unfold jy po
 rw[vm,vm,oB,rm h];rfl
theorem YS(h:¬(V x=true/\V y=true)):ki x y=some (⟨0,0⟩,2):=by
 unfold ki rg
 rw[vm,vm,oB,rm h];rfl
theorem VW(h:¬(V x=true/\V y=true)):wS x y=some 0:=by
 unfold wS
 rw[vm,vm,oB,rm h];rfl
def bm(x y:R):R×Int:=(wL x y).getD (⟨0,0⟩,0)
def aL(x y:R):R×Int:=(qa x y).getD (⟨0,0⟩,0)
def MUL(x y:R):R×Int:=(jy x y).getD (⟨0,0⟩,0)
def DIV(x y:R):R×Int:=(ki x y).getD (⟨0,0⟩,0)
def CM(x y:R):Int:=(wS x y).getD 0
theorem lN(x y:R):wL x y=some (bm x y)/\True:=by
 unfold bm
 by_cases h:V x=true/\V y=true
 ·rw[aC h.1 h.2];exact⟨rfl,trivial⟩
 ·rw[YP h];exact⟨rfl,trivial⟩
theorem Xs(x y:R):qa x y=some (aL x y)/\True:=by
 unfold aL
 by_cases h:V x=true/\V y=true
 ·rw[dH h.1 h.2];exact⟨rfl,trivial⟩
 ·rw[YQ h];exact⟨rfl,trivial⟩
theorem Vo(x y:R):jy x y=some (MUL x y)/\True:=by
 unfold MUL
 by_cases h:V x=true/\V y=true
 ·rw[aD h.1 h.2];exact⟨rfl,trivial⟩
 ·rw[YR h];exact⟨rfl,trivial⟩
theorem div_s(x:R)(h0:y.fN≠0):ki x y=some (DIV x y)/\True:=by
 unfold DIV
 by_cases h:V x=true/\V y=true
 ·rw[dI h.1 h.2 h0];exact⟨rfl,trivial⟩
 ·rw[YS h];exact⟨rfl,trivial⟩
theorem aM(x y:R):wS x y=some (CM x y)/\True:=by
 unfold CM
 by_cases h:V x=true/\V y=true
 ·rw[rl h.1 h.2];exact⟨rfl,trivial⟩
 ·rw[VW h];exact⟨rfl,trivial⟩
/-! ### rounding -/
theorem Xt{N D:Int}(hD:0<D):∃ f:Int,(f=if Int.tmod N D<0 then Int.tdiv N D-1 else Int.tdiv N D)/\f*D<=N/\N<(f+1)*D:=by
 have h1:=Int.mul_tdiv_add_tmod N D
 have h2:Int.tmod N D<D:=Int.tmod_lt_of_pos N hD
 have h3 : -D<Int.tmod N D:=by
  have h4:=Int.tmod_lt_of_pos (-N) hD
  rw[Int.neg_tmod] at h4
  omega
 by_cases h:Int.tmod N D<0
 ·refine⟨_,rfl,?_⟩
  rw[if_pos h]
  have e1:(Int.tdiv N D-1)*D=D*Int.tdiv N D-D:=by rw[Int.sub_mul,Int.one_mul,Int.mul_comm]
  have e2:(Int.tdiv N D-1+1)*D=D*Int.tdiv N D:=by rw[Int.sub_add_cancel,Int.mul_comm]
  rw[e1,e2]
  omega
 ·refine⟨_,rfl,?_⟩
  rw[if_neg h]
  have e1:Int.tdiv N D*D=D*Int.tdiv N D:=Int.mul_comm _ _
  have e2:(Int.tdiv N D+1)*D=D*Int.tdiv N D+D:=by rw[Int.add_mul,Int.one_mul,Int.mul_comm]
  rw[e1,e2]
  omega
theorem fl_bd{f N D:Int}(hD:1<=D)(hN : -1073741824<=N/\N<=1073741824)(h1:f*D<=N)(h2:N<(f+1)*D) : -1073741824<=f/\f<=1073741824:=by
 constructor
 ·refine Int.not_lt.1 fun h=>?_
  have:=Int.mul_le_mul_of_nonneg_left hD (show 0 <= -(f+1) by omega)
  have e : -(f+1)*D = -((f+1)*D):=Int.neg_mul _ _
  omega
 ·refine Int.not_lt.1 fun h=>?_
  have:=Int.mul_le_mul_of_nonneg_left hD (show 0<=f by omega)
  omega
theorem aN(hx:V x=true):∃ f:Int,vM x=some f/\f*x.fD<=x.fN/\x.fN<(f+1)*x.fD /\ -1073741824<=f/\f<=1073741824:=by
 have hv:=hx
 simp only[V,decide_eq_true_eq] at hv
 obtain⟨f,hf,h1,h2⟩:=Xt (N:=x.fN) (D:=x.fD) (by omega)
 have hb:=fl_bd hv.1 (by omega) h1 h2
 refine⟨f,?_,h1,h2,hb⟩
 unfold vM
 rw[vm,hx,oB,if_neg (by simp),xA (by omega)]
 simp only[jG]
 rw[xA (by omega)]
 have hq : -1073741824<=Int.tdiv x.fN x.fD/\Int.tdiv x.fN x.fD<=1073741825:=by
  by_cases h:Int.tmod x.fN x.fD<0
  ·rw[if_pos h] at hf;omega
  ·rw[if_neg h] at hf;omega
 by_cases h:Int.tmod x.fN x.fD<0
 ·rw[if_pos (decide_eq_true h),xD (x:=Int.tdiv x.fN x.fD) (by omega),xD (by omega),hf,if_pos h]
 ·rw[if_neg (by simpa using h),xD (by omega),hf,if_neg h]
theorem VX(hx:V x=true):∃ e:Int,ji x=some e/\(e-1)*x.fD<x.fN/\x.fN<=e*x.fD /\ -1073741824<=e/\e<=1073741824:=by
 have hv:=hx
 simp only[V,decide_eq_true_eq] at hv
 have hn:V ⟨-x.fN,x.fD⟩=true:=by
  unfold V
  rw[decide_eq_true_eq]
  refine⟨hv.1,hv.2.1,by show -1073741824 <= -x.fN;omega,by show -x.fN<=1073741824;omega,?_⟩
  show Nat.gcd (-x.fN).natAbs x.fD.natAbs=1
  rw[Int.natAbs_neg];exact hv.2.2.2.2
 obtain⟨f,ef,f1,f2,f3,f4⟩:=aN hn
 have f1:f*x.fD <= -x.fN:=f1
 have f2 : -x.fN<(f+1)*x.fD:=f2
 refine⟨-f,?_,?_,?_,by omega,by omega⟩
 ·unfold ji
  rw[vm,hx,oB,if_neg (by simp),xD (x:=0-x.fN) (by omega),show(0:Int)-x.fN = -x.fN by omega,ef,oB,xD (by omega)]
  congr 1;omega
 ·have e:(-f-1)*x.fD = -((f+1)*x.fD):=by rw[show -f-1 = -(f+1) by omega,Int.neg_mul]
  rw[e];omega
 ·rw[Int.neg_mul];omega
def flr(x:R):Int:=(vM x).getD 0
def aO(x:R):Int:=(ji x).getD 0
theorem cS(x:R):vM x=some (flr x)/\True:=by
 unfold flr
 cases hx:V x with
 | true=>
  obtain⟨f,ef,_⟩:=aN hx
  rw[ef];exact⟨rfl,trivial⟩
 | false=>
  have h1:vM x=some 0:=by unfold vM;rw[vm,hx];rfl
  rw[h1];exact⟨rfl,trivial⟩
theorem nv(x:R):ji x=some (aO x)/\True:=by
 unfold aO
 cases hx:V x with
 | true=>
  obtain⟨f,ef,_⟩:=VX hx
  rw[ef];exact⟨rfl,trivial⟩
 | false=>
  have h1:ji x=some 0:=by unfold ji;rw[vm,hx];rfl
  rw[h1];exact⟨rfl,trivial⟩
def pE(r:List R):List R:=r.flatMap fun x=>[⟨flr x,1⟩,⟨aO x,1⟩]
theorem V7(r:List R):(pE r).length=2*r.length:=by
 unfold pE
 induction r with
 | nil=>rfl
 | cons x r ih=>rw[List.flatMap_cons,List.length_append,ih];simp;omega
/-! ### servers -/
def VS(s:SV):Bool:=(V s.ye&&decide (s.ye.fN>0)&&V s.fL)&&decide (s.fL.fN>=0)
theorem eZ(s:SV):gX s=some (VS s):=by
 unfold gX VS
 rw[vm,vm,oB,oB]
 cases V s.ye <;> cases decide (s.ye.fN>0) <;> simp
theorem VS_r{s:SV}(h:VS s=true):V s.ye=true/\0<s.ye.fN/\V s.fL=true/\0<=s.fL.fN:=by
 simp only[VS,Bool.and_eq_true,decide_eq_true_eq] at h
 exact⟨h.1.1.1,h.1.1.2,h.1.2,h.2⟩
/-! ### the calculator that keeps the first error -/
def CD(e:Int)(r:R×Int):R×Int:=if e≠0 then(Z1,e) else if r.2≠0 then(Z1,r.2) else r
theorem dN{e:Int}{f:R->R->Option (R×Int)}{r:R×Int}(h:f x y=some r):wE ⟨e⟩ f x y=some ((CD e r).1,⟨(CD e r).2⟩):=by
 unfold wE CD
 rw[h,p8]
 by_cases he:e≠0
 ·rw[if_pos (by simpa using he),if_pos he];rfl
 ·rw[if_neg (by simpa using he),if_neg he,oB]
  by_cases hr:r.2≠0
  ·rw[if_pos (by simpa using hr),if_pos hr];rfl
  ·rw[if_neg (by simpa using hr),if_neg hr]
end
section
variable {l:List (List B)}{s:SV}{t:R}
theorem VY(c:List B)(t:R):∃ x,gg c t=some x:=by
 by_cases h:VC c=true/\GR t=true
 ·exact⟨_,Vm h.1 h.2⟩
 ·exact⟨_,Wb h⟩
def bn(c:List B)(t:R):R×Int:=(gg c t).getD (⟨0,0⟩,0)
theorem at_s(c:List B)(t:R):gg c t=some (bn c t):=by
 obtain⟨x,e⟩:=VY c t
 unfold bn;rw[e];rfl
/-! ### the total -/
def cl(t:R):List (List B)->R×Int->R×Int
 | [],a=>a
 | c::l,a=>cl t l (CD (if a.2=0 then(bn c t).2 else a.2) (bm a.1 (bn c t).1))
theorem dO{l:List (List B)}{t:R}{k:Int->Int->Int->Option (R×ym)}(hl:l.length<=1000):∀(n:Nat) (i:Int) (a:R×Int),0<=i->i<=l.length->l.length<n+i->
  vX l t k n i a.2 a.1.fN a.1.fD=k (cl t (l.drop i.toNat) a).1.fN (cl t (l.drop i.toNat) a).1.fD (cl t (l.drop i.toNat) a).2
 | 0,i,a,h0,h1,h2=>by omega
 | n+1,i,a,h0,h1,h2=>by
  rw[vX]
  by_cases h:i<l.length
  ·rw[if_pos (decide_eq_true h),xA ⟨h0,h⟩,at_s,oB,jl h0 h,cl]
   refine vj (P:=fun o=>o=_) fun kk AX=>?_
   have e1:(if decide (a.2=0)=true then kk (bn (nth l i) t).2 else kk a.2)=kk (if a.2=0 then(bn (nth l i) t).2 else a.2):=by
    by_cases h:a.2=0 <;> simp[h]
   rw[e1,AX]
   show((wE ⟨_⟩ (fun y0 y1=>wL y0 y1) a.1 (bn (nth l i) t).1).bind _)=_
   rw[dN (lN a.1 (bn (nth l i) t).1).1,oB,xD (by omega)]
   exact dO hl n (i+1) _ (by omega) (by omega) (by omega)
  ·rw[if_neg (by simpa using h),kr h]
   rfl
theorem aP{e:Int}(hl:l.length<=1000):jk ⟨e⟩ l t=some ((cl t l (Z1,e)).1,⟨(cl t l (Z1,e)).2⟩):=by
 unfold jk
 rw[p8,oB]
 refine cj (P:=fun o=>o=_) fun k hk=>?_
 have:=dO (t:=t) (k:=k) hl xI 0 (Z1,e) (by omega) (by omega) (by rw[w5];omega)
 rw[this,hk];rfl
/-! ### the values at a point -/
def dv(l:List (List B))(s:SV)(e:Int)(t:R):R×Int:=
 let x1:=cl t l (Z1,e)
 let x2:=CD x1.2 (DIV x1.1 s.ye)
 let x3:=CD x2.2 (aL x2.1 t)
 CD x3.2 (bm x3.1 s.fL)
def bv(l:List (List B))(s:SV)(e:Int)(t:R):R×Int:=
 let x1:=cl t l (Z1,e)
 let x2:=CD x1.2 (aL t s.fL)
 let x3:=CD x2.2 (MUL s.ye x2.1)
 if CM t s.fL<=0 then x1 else CD x3.2 (aL x1.1 x3.1)
theorem Wd{e:Int}(hl:l.length<=1000)(hs:VS s=true):gm ⟨e⟩ t l s=some ((dv l s e t).1,⟨(dv l s e t).2⟩):=by
 have h0:=(VS_r hs).2.1
 unfold gm
 rw[aP hl,oB,dN (div_s _ (y:=s.ye) (by omega)).1,oB,dN (Xs _ t).1,oB,dN (lN _ s.fL).1]
 rfl
theorem Ys{e:Int}(hl:l.length<=1000):kT ⟨e⟩ t l s=some ((bv l s e t).1,⟨(bv l s e t).2⟩):=by
 unfold kT bv
 rw[aP hl,oB,(aM t s.fL).1,oB]
 by_cases h:CM t s.fL<=0
 ·rw[if_pos (decide_eq_true h),if_pos h]
 ·rw[if_neg (by simpa using h),if_neg h,dN (Xs t s.fL).1,oB,dN (Vo s.ye _).1,oB,dN (Xs _ _).1]
  rfl
/-! ### the greatest value -/
section
variable {f:Int->R->R×Int}
def gK(f:Int->R->R×Int)(s:List R×Int)(p:R):List R×Int:=
 (match s.1 with | []=>[(f s.2 p).1] | b::r=>if CM (f s.2 p).1 b>0 then[(f s.2 p).1] else b::r,(f s.2 p).2)
theorem dP:∀(P:List R) (s:List R×Int),s.1≠[]->(P.foldl (gK f) s).1≠[]
 | [],s,h=>h
 | p::P,s,h=>by
  rw[List.foldl_cons]
  refine dP P _ ?_
  unfold gK
  cases hs:s.1 with
  | nil=>exact absurd hs h
  | cons b r=>simp only;split <;> simp
def n2(f:Int->R->R×Int)(P:List R):R×Int:=
 let r:=P.foldl (gK f) ([],0)
 if r.2≠0 then(⟨0,0⟩,r.2) else(nth r.1 0,0)
end
theorem Yt(a:List B):∃ x:List R×Int,qm a=some x/\x.1.length<=1100:=by
 cases h:VC a with
 | true=>
  have:=eY h
  split at this
  ·obtain⟨r,e,_,_,_,hl⟩:=this
   exact⟨_,e,hl⟩
  ·exact⟨_,this,by simp⟩
 | false=>exact⟨_,dM h,by simp⟩
def oV(c:List B):List R×Int:=(qm c).getD ([],0)
theorem lO(c:List B):qm c=some (oV c)/\(oV c).1.length<=1100:=by
 obtain⟨x,e,h⟩:=Yt c
 unfold oV
 rw[e];exact⟨rfl,h⟩
def n3(c:List B):R×Int:=(gZ c).getD (⟨0,0⟩,0)
theorem rt_s{c:List B}(h:VC c=true):gZ c=some (n3 c)/\V (n3 c).1=true:=by
 obtain⟨d,e,hd,_⟩:=VQ h
 unfold n3
 rw[e]
 exact⟨rfl,mR (lH (cd h d hd))⟩
def rG(l:List (List B))(qA:List R):List R:=Z1::((l.flatMap fun c=>pE (oV c).1)++pE qA)
theorem uB(l:List (List B)):(l.flatMap fun c=>pE (oV c).1).length<=2200*l.length:=by
 induction l with
 | nil=>simp
 | cons c l ih=>
  have:=(lO c).2
  rw[List.flatMap_cons,List.length_append,V7,List.length_cons];omega
/-! ### the check -/
def br:List (List B)->R×Int->Int ⊕ (R×Int)
 | [],a => .inr a
 | c::l,a=>if (oV c).2≠0 then .inl (oV c).2 else br l (CD a.2 (bm a.1 (n3 c).1))
section
variable {Sg:Type} {y:R->(Nat×List R×Int)->Option (Bool×(Nat×List R×Int))} {f:Int->R->R×Int}
theorem p5{x:List R×Int}{k:(Nat×List R×Int)->Option (Nat×List R×Int)}(hy:∀ p s,y p (0,s)=some (true,(0,gK f s p)))(hl:x.1.length<=100000):∀(n:Nat) (v:Int) (s:List R×Int),0<=v->v<=x.1.length->x.1.length<n+v->
  wB _ x y k n v (0,s)=k (0,(pE (x.1.drop v.toNat)).foldl (gK f) s)
 | 0,v,s,h0,h1,h2=>by omega
 | n+1,v,s,h0,h1,h2=>by
  rw[wB]
  by_cases h:v<x.1.length
  ·rw[if_pos (decide_eq_true h),xA ⟨h0,h⟩]
   show Option.bind (vM (nth x.1 v)) _=_
   rw[(cS _).1,oB]
   unfold vU
   rw[oB,hy,oB,if_neg (by simp)]
   have e2:(ji (⟨(nth x.1 v).fN,(nth x.1 v).fD⟩:R))=some (aO (nth x.1 v)):=(nv _).1
   rw[e2,oB,oB,hy,oB,oB,if_neg (by simp),xD (by omega),p5 hy hl n (v+1) _ (by omega) (by omega) (by omega),jl h0 h]
   rfl
  ·rw[if_neg (by simpa using h),kr h];rfl
theorem p6{x:List R}{k:(Nat×List R×Int)->Option (Nat×List R×Int)}(hy:∀ p s,y p (0,s)=some (true,(0,gK f s p)))(hl:x.length<=100000):∀(n:Nat) (v:Int) (s:List R×Int),0<=v->v<=x.length->x.length<n+v->
  wD _ x y k n v (0,s)=k (0,(pE (x.drop v.toNat)).foldl (gK f) s)
 | 0,v,s,h0,h1,h2=>by omega
 | n+1,v,s,h0,h1,h2=>by
  rw[wD]
  by_cases h:v<x.length
  ·rw[if_pos (decide_eq_true h),xA ⟨h0,h⟩]
   show Option.bind (vM (nth x v)) _=_
   rw[(cS _).1,oB]
   unfold vU
   rw[oB,hy,oB,if_neg (by simp)]
   have e2:(ji (⟨(nth x v).fN,(nth x v).fD⟩:R))=some (aO (nth x v)):=(nv _).1
   rw[e2,oB,oB,hy,oB,oB,if_neg (by simp),xD (by omega),p6 hy hl n (v+1) _ (by omega) (by omega) (by omega),jl h0 h]
   rfl
  ·rw[if_neg (by simpa using h),kr h];rfl
theorem p4{l:List (List B)}{k:(Nat×List R×Int)->Option (Nat×List R×Int)}(hy:∀ p s,y p (0,s)=some (true,(0,gK f s p)))(hl:l.length<=100000):∀(n:Nat) (v:Int) (s:List R×Int),0<=v->v<=l.length->l.length<n+v->
  wC _ l y k n v (0,s)=k (0,((l.drop v.toNat).flatMap fun c=>pE (oV c).1).foldl (gK f) s)
 | 0,v,s,h0,h1,h2=>by omega
 | n+1,v,s,h0,h1,h2=>by
  rw[wC]
  by_cases h:v<l.length
  ·rw[if_pos (decide_eq_true h)]
   refine vj (P:=fun o=>o=_) fun k1 zS=>?_
   rw[xA ⟨h0,h⟩,(lO _).1,oB]
   refine vj (P:=fun o=>o=_) fun k2 rv=>?_
   have hb:=(lO (nth l v)).2
   rw[p5 (f:=f) hy (by omega) xI 0 s (by omega) (by omega) (by rw[w5];omega),rv,zS,xD (by omega),p4 hy hl n (v+1) _ (by omega) (by omega) (by omega),jl h0 h,List.flatMap_cons,List.foldl_append]
   rfl
  ·rw[if_neg (by simpa using h),kr h];rfl
theorem We{a b:SV}{c:List (List B)}{qA:List R}(hy:∀ p s,y p (0,s)=some (true,(0,gK f s p)))(hl:l.length<=100000)(hm:qA.length<=100000):
  vb _ y (0,([],0)) l a c b qA=some (0,(rG l qA).foldl (gK f) ([],0)):=by
 unfold vb
 rw[p8,oB,hy,oB,if_neg (by simp)]
 refine vj (P:=fun o=>o=_) fun k hk=>?_
 rw[p4 (f:=f) hy hl xI 0 _ (by omega) (by omega) (by rw[w5];omega),hk]
 refine vj (P:=fun o=>o=_) fun k2 rv=>?_
 rw[p6 (f:=f) hy hm xI 0 _ (by omega) (by omega) (by rw[w5];omega),rv]
 unfold rG
 rw[List.foldl_cons,List.foldl_append]
 rfl
end
section
variable {Sg:Type} {y:R->(Nat×List R×Int)->Option (Bool×(Nat×List R×Int))} {f:Int->R->R×Int}
theorem p5b{x:List R×Int}{k:(Nat×List R×Int)->Option (Nat×List R×Int)}(hy:∀ p s,y p (0,s)=some (true,(0,gK f s p)))(hl:x.1.length<=100000):∀(n:Nat) (v:Int) (s:List R×Int),0<=v->v<=x.1.length->x.1.length<n+v->
  wB _ x y k n v (0,s)=k (0,(pE (x.1.drop v.toNat)).foldl (gK f) s)
 | 0,v,s,h0,h1,h2=>by omega
 | n+1,v,s,h0,h1,h2=>by
  rw[wB]
  by_cases h:v<x.1.length
  ·rw[if_pos (decide_eq_true h),xA ⟨h0,h⟩]
   show Option.bind (vM (nth x.1 v)) _=_
   rw[(cS _).1,oB]
   unfold vU
   rw[oB,hy,oB,if_neg (by simp)]
   have e2:(ji (⟨(nth x.1 v).fN,(nth x.1 v).fD⟩:R))=some (aO (nth x.1 v)):=(nv _).1
   rw[e2,oB,oB,hy,oB,oB,if_neg (by simp),xD (by omega),p5b hy hl n (v+1) _ (by omega) (by omega) (by omega),jl h0 h]
   rfl
  ·rw[if_neg (by simpa using h),kr h];rfl
theorem p6b{x:List R}{k:(Nat×List R×Int)->Option (Nat×List R×Int)}(hy:∀ p s,y p (0,s)=some (true,(0,gK f s p)))(hl:x.length<=100000):∀(n:Nat) (v:Int) (s:List R×Int),0<=v->v<=x.length->x.length<n+v->
  wD _ x y k n v (0,s)=k (0,(pE (x.drop v.toNat)).foldl (gK f) s)
 | 0,v,s,h0,h1,h2=>by omega
 | n+1,v,s,h0,h1,h2=>by
  rw[wD]
  by_cases h:v<x.length
  ·rw[if_pos (decide_eq_true h),xA ⟨h0,h⟩]
   show Option.bind (vM (nth x v)) _=_
   rw[(cS _).1,oB]
   unfold vU
   rw[oB,hy,oB,if_neg (by simp)]
   have e2:(ji (⟨(nth x v).fN,(nth x v).fD⟩:R))=some (aO (nth x v)):=(nv _).1
   rw[e2,oB,oB,hy,oB,oB,if_neg (by simp),xD (by omega),p6b hy hl n (v+1) _ (by omega) (by omega) (by omega),jl h0 h]
   rfl
  ·rw[if_neg (by simpa using h),kr h];rfl
theorem p4b{l:List (List B)}{k:(Nat×List R×Int)->Option (Nat×List R×Int)}(hy:∀ p s,y p (0,s)=some (true,(0,gK f s p)))(hl:l.length<=100000):∀(n:Nat) (v:Int) (s:List R×Int),0<=v->v<=l.length->l.length<n+v->
  wC _ l y k n v (0,s)=k (0,((l.drop v.toNat).flatMap fun c=>pE (oV c).1).foldl (gK f) s)
 | 0,v,s,h0,h1,h2=>by omega
 | n+1,v,s,h0,h1,h2=>by
  rw[wC]
  by_cases h:v<l.length
  ·rw[if_pos (decide_eq_true h)]
   refine vj (P:=fun o=>o=_) fun k1 zS=>?_
   rw[xA ⟨h0,h⟩,(lO _).1,oB]
   refine vj (P:=fun o=>o=_) fun k2 rv=>?_
   have hb:=(lO (nth l v)).2
   rw[p5b (f:=f) hy (by omega) xI 0 s (by omega) (by omega) (by rw[w5];omega),rv,zS,xD (by omega),p4b hy hl n (v+1) _ (by omega) (by omega) (by omega),jl h0 h,List.flatMap_cons,List.foldl_append]
   rfl
  ·rw[if_neg (by simpa using h),kr h];rfl
theorem Xu{a b:SV}{c:List (List B)}{qA:List R}(hy:∀ p s,y p (0,s)=some (true,(0,gK f s p)))(hl:l.length<=100000)(hm:qA.length<=100000):
  vb _ y (0,([],0)) l a c b qA=some (0,(rG l qA).foldl (gK f) ([],0)):=by
 unfold vb
 rw[p8,oB,hy,oB,if_neg (by simp)]
 refine vj (P:=fun o=>o=_) fun k hk=>?_
 rw[p4b (f:=f) hy hl xI 0 _ (by omega) (by omega) (by rw[w5];omega),hk]
 refine vj (P:=fun o=>o=_) fun k2 rv=>?_
 rw[p6b (f:=f) hy hm xI 0 _ (by omega) (by omega) (by rw[w5];omega),rv]
 unfold rG
 rw[List.foldl_cons,List.foldl_append]
 rfl
end
def sk(l:List (List B))(s:SV):Int:=
 if l.length>32 || !(l.all VC) || !(VS s) then 2 else
 match br l (Z1,0) with
 | .inl e=>e
 | .inr r=>if r.2≠0 then r.2 else if CM r.1 s.ye>0 then 6 else 0
theorem Wf(h:sk l s=0):VS s=true:=by
 unfold sk at h
 cases hs:VS s with
 | true=>rfl
 | false=>rw[if_pos (by simp[hs])] at h;cases h
theorem Wg{s:List (List B)}{k:Option Int}(hl:s.length<=100000):∀(n:Nat) (v:Int),0<=v->v<=s.length->s.length<n+v->k=some (-1)->
  ∃ x:Int,wo s (fun y0=>vH y0) k n v=some x/\(x>=0↔(s.drop v.toNat).all VC=false)
 | 0,v,h0,h1,h2,hk=>by omega
 | n+1,v,h0,h1,h2,hk=>by
  rw[wo]
  by_cases h:v<s.length
  ·rw[if_pos (decide_eq_true h),xA ⟨h0,h⟩,jl h0 h]
   unfold vH
   rw[ud,oB,oB,List.all_cons]
   cases hc:VC (nth s v) with
   | false=>exact⟨v,by simp,by simp;omega⟩
   | true=>
    rw[if_neg (by simp),xD (by omega),Bool.true_and]
    exact Wg hl n (v+1) (by omega) (by omega) (by omega) hk
  ·rw[if_neg (by simpa using h),kr h,hk]
   exact⟨-1,rfl,by simp⟩
theorem cm(hl:l.length<=100000):(wW l (fun y0=>vH y0))=some (!(l.all VC)):=by
 unfold wW q8
 refine eG (P:=fun o=>(o.bind fun x=>some (decide (x>=0)))=some (!(l.all VC))) fun k hk=>?_
 obtain⟨x,e,h⟩:=Wg hl xI 0 (by omega) (by omega) (by rw[w5];omega) hk
 rw[e,oB]
 rw[show(0:Int).toNat=0 from rfl,List.drop_zero] at h
 cases ha:l.all VC with
 | true=>rw[ha] at h;simp at h;simp;omega
 | false=>rw[ha] at h;simp at h;simp;omega
theorem YT{l:List (List B)}{k:Int->Int->Int->Option Int}(hv:∀ c∈l,VC c=true)(hl:l.length<=1000):∀(n:Nat) (v:Int) (a:R×Int),0<=v->v<=l.length->l.length<n+v->
  wN l k n v a.2 a.1.fN a.1.fD=match br (l.drop v.toNat) a with | .inl e=>some e | .inr r=>k r.2 r.1.fN r.1.fD
 | 0,v,a,h0,h1,h2=>by omega
 | n+1,v,a,h0,h1,h2=>by
  rw[wN]
  by_cases h:v<l.length
  ·have hc:=hv _ (wt h0 h)
   rw[if_pos (decide_eq_true h),xA ⟨h0,h⟩,(lO _).1,oB,jl h0 h,br]
   by_cases hb:(oV (nth l v)).2≠0
   ·rw[if_pos (by simpa using hb),if_pos hb]
   ·rw[if_neg (by simpa using hb),if_neg hb,(rt_s hc).1,oB]
    show((wE ⟨a.2⟩ (fun y0 y1=>wL y0 y1) a.1 (n3 (nth l v)).1).bind _)=_
    rw[dN (lN _ _).1,oB,xD (by omega)]
    exact YT hv hl n (v+1) _ (by omega) (by omega) (by omega)
  ·rw[if_neg (by simpa using h),kr h]
   rfl
theorem V8{c:List (List B)}{t:SV}{m:List R}(hl:l.length<=40):vD l s c t m=some (sk l s):=by
 unfold vD sk
 by_cases h1:(((l.length:Nat):Int)>32)
 ·rw[if_pos (decide_eq_true h1),oB,if_pos rfl,oB,if_pos rfl,if_pos (by simp;omega)]
 ·rw[if_neg (by simpa using h1),cm (by omega)]
  simp only[oB]
  by_cases h2:l.all VC=true
  ·rw[h2]
   simp only[Bool.not_true,Bool.false_eq_true,if_false]
   rw[eZ,oB,oB]
   cases hs:VS s with
   | false=>rw[if_pos (by rfl),if_pos (by simp)]
   | true=>
    rw[if_neg (by simp),if_neg (by simp;omega),p8,oB]
    refine cj (P:=fun o=>o=_) fun k hk=>?_
    have:=YT (k:=k) (List.all_eq_true.1 h2) (by omega) xI 0 (Z1,0) (by omega) (by omega) (by rw[w5];omega)
    rw[this,show(0:Int).toNat=0 from rfl,List.drop_zero]
    cases br l (Z1,0) with
    | inl e=>rfl
    | inr r=>
     simp only
     rw[hk]
     by_cases hr:r.2=0
     ·rw[if_pos (decide_eq_true hr),if_neg (by simp[hr])]
      show(((wS r.1 s.ye).bind _).bind _)=_
      rw[(aM _ _).1,oB,oB]
      by_cases hc:CM r.1 s.ye>0
      ·rw[if_pos (decide_eq_true hc),if_pos hc]
      ·rw[if_neg (by simpa using hc),if_neg hc,hr]
     ·rw[if_neg (by simpa using hr),oB,if_neg (by simp),if_pos hr]
  ·have C6:l.all VC=false:=by simpa using h2
   rw[C6]
   simp only[Bool.not_false,if_true]
   rw[oB,if_pos rfl,if_pos (by simp)]
theorem aQ{l:List (List B)}{k:Int->Int->Int->Option Int}(hv:∀ c∈l,VC c=true)(hl:l.length<=1000):∀(n:Nat) (v:Int) (a:R×Int),0<=v->v<=l.length->l.length<n+v->
  wN l k n v a.2 a.1.fN a.1.fD=match br (l.drop v.toNat) a with | .inl e=>some e | .inr r=>k r.2 r.1.fN r.1.fD
 | 0,v,a,h0,h1,h2=>by omega
 | n+1,v,a,h0,h1,h2=>by
  rw[wN]
  by_cases h:v<l.length
  ·have hc:=hv _ (wt h0 h)
   rw[if_pos (decide_eq_true h),xA ⟨h0,h⟩,(lO _).1,oB,jl h0 h,br]
   by_cases hb:(oV (nth l v)).2≠0
   ·rw[if_pos (by simpa using hb),if_pos hb]
   ·rw[if_neg (by simpa using hb),if_neg hb,(rt_s hc).1,oB]
    show((wE ⟨a.2⟩ (fun y0 y1=>wL y0 y1) a.1 (n3 (nth l v)).1).bind _)=_
    rw[dN (lN _ _).1,oB,xD (by omega)]
    exact aQ hv hl n (v+1) _ (by omega) (by omega) (by omega)
  ·rw[if_neg (by simpa using h),kr h]
   rfl
theorem Wh{c:List (List B)}{t:SV}{m:List R}(hl:l.length<=40):vD l s c t m=some (sk l s):=by
 unfold vD sk
 by_cases h1:(((l.length:Nat):Int)>32)
 ·rw[if_pos (decide_eq_true h1),oB,if_pos rfl,oB,if_pos rfl,if_pos (by simp;omega)]
 ·rw[if_neg (by simpa using h1),cm (by omega)]
  simp only[oB]
  by_cases h2:l.all VC=true
  ·rw[h2]
   simp only[Bool.not_true,Bool.false_eq_true,if_false]
   rw[eZ,oB,oB]
   cases hs:VS s with
   | false=>rw[if_pos (by rfl),if_pos (by simp)]
   | true=>
    rw[if_neg (by simp),if_neg (by simp;omega),p8,oB]
    refine cj (P:=fun o=>o=_) fun k hk=>?_
    have:=aQ (k:=k) (List.all_eq_true.1 h2) (by omega) xI 0 (Z1,0) (by omega) (by omega) (by rw[w5];omega)
    rw[this,show(0:Int).toNat=0 from rfl,List.drop_zero]
    cases br l (Z1,0) with
    | inl e=>rfl
    | inr r=>
     simp only
     rw[hk]
     by_cases hr:r.2=0
     ·rw[if_pos (decide_eq_true hr),if_neg (by simp[hr])]
      show(((wS r.1 s.ye).bind _).bind _)=_
      rw[(aM _ _).1,oB,oB]
      by_cases hc:CM r.1 s.ye>0
      ·rw[if_pos (decide_eq_true hc),if_pos hc]
      ·rw[if_neg (by simpa using hc),if_neg hc,hr]
     ·rw[if_neg (by simpa using hr),oB,if_neg (by simp),if_pos hr]
  ·have C6:l.all VC=false:=by simpa using h2
   rw[C6]
   simp only[Bool.not_false,if_true]
   rw[oB,if_pos rfl,if_pos (by simp)]
end
section
variable {l:List (List B)}{s:SV}
/-! ### the reference's check -/
/-! ### the greatest value -/
def rk(k:Int->Int->Option (R×Int))(b:R)(r:List R×Int):Option (R×Int):=
 if r.2≠0 then some (⟨0,0⟩,r.2) else match r.1 with | []=>k b.fN b.fD | x::_=>k x.fN x.fD
theorem Wi{f:Int->R->R×Int}{P:List R}(hP:P≠[]){k:Int->Int->Option (R×Int)}(hk:∀ x y,k x y=some (⟨x,y⟩,0)):rk k ⟨0,0⟩ (P.foldl (gK f) ([],0))=some (n2 f P):=by
 unfold rk n2
 by_cases h:(P.foldl (gK f) ([],0)).2≠0
 ·rw[if_pos h];simp only;rw[if_pos h]
 ·rw[if_neg h];simp only;rw[if_neg h]
  cases P with
  | nil=>exact absurd rfl hP
  | cons p P=>
   have oH:((p::P).foldl (gK f) ([],0)).1≠[]:=by
    rw[List.foldl_cons];exact dP _ _ (by simp[gK])
   cases hr:((p::P).foldl (gK f) ([],0)).1 with
   | nil=>exact absurd hr oH
   | cons x t=>simp only;rw[hk];rfl
/-! ### the code's search -/
theorem R4_eq(hl:l.length<=1000)(hs:VS s=true)(p:R)(st:List R×Int):chk ((0:Nat)=0) (qT l s p st.1 st.2)=some (true,(0,gK (dv l s) st p)):=by
 rw[xA rfl]
 unfold qT
 rw[Wd hl hs,oB]
 unfold gK
 cases lu:st.1 with
 | nil=>rw[if_pos (by simp),oB,if_pos rfl]
 | cons x r=>
  rw[if_neg (by simp;omega),xA (by simp)]
  have hn:(⟨(nth (x::r) 0).fN,(nth (x::r) 0).fD⟩:R)=x:=rfl
  rw[hn,(aM _ _).1,oB,oB]
  simp only
  by_cases hc:CM (dv l s st.2 p).1 x>0
  ·rw[if_pos (decide_eq_true hc),if_pos hc]
  ·rw[if_neg (by simpa using hc),if_neg hc]
theorem Qd{qA:List R}(hl:l.length<=40)(hm:qA.length<=1000):kD l s l s qA=some (if sk l s=0 then n2 (dv l s) (rG l qA) else(⟨0,0⟩,sk l s)):=by
 unfold kD
 rw[V8 hl,oB]
 by_cases h:sk l s=0
 ·have hs:VS s=true:=Wf h
  rw[if_pos h,if_neg (by simpa using h)]
  refine pw (P:=fun o=>o=_) fun k hk=>?_
  unfold qS
  rw[oB,We (f:=dv l s) (fun p st=>R4_eq (by omega) hs p st) (by omega) (by omega),oB,hk]
  have:=Wi (f:=dv l s) (P:=rG l qA) (k:=fun x y=>some (⟨x,y⟩,0)) (by simp[rG]) (fun _ _=>rfl)
  rw[<- this]
  unfold rk
  generalize hr:(rG l qA).foldl (gK (dv l s)) ([],0)=r
  have oH:r.1≠[]:=by
   rw[<- hr];unfold rG;rw[List.foldl_cons];exact dP _ _ (by simp[gK])
  simp only
  by_cases h2:r.2≠0
  ·rw[if_pos (by simpa using h2),if_pos h2]
  ·rw[if_neg (by simpa using h2),if_neg h2]
   cases Bf:r.1 with
   | nil=>exact absurd Bf oH
   | cons x t=>rw[xA (by simp)];rfl
 ·rw[if_neg h,if_pos (by simpa using h)]
theorem Qe(hl:l.length<=1000)(hs:VS s=true)(p:R)(st:List R×Int):chk ((0:Nat)=0) (qI l s p st.1 st.2)=some (true,(0,gK (bv l s) st p)):=by
 rw[xA rfl]
 unfold qI
 rw[Ys hl,oB]
 unfold gK
 cases lu:st.1 with
 | nil=>rw[if_pos (by simp),oB,if_pos rfl]
 | cons x r=>
  rw[if_neg (by simp;omega),xA (by simp)]
  have hn:(⟨(nth (x::r) 0).fN,(nth (x::r) 0).fD⟩:R)=x:=rfl
  rw[hn,(aM _ _).1,oB,oB]
  simp only
  by_cases hc:CM (bv l s st.2 p).1 x>0
  ·rw[if_pos (decide_eq_true hc),if_pos hc]
  ·rw[if_neg (by simpa using hc),if_neg hc]
theorem VZ{qA:List R}(hl:l.length<=40)(hm:qA.length<=1000):kp l s l s qA=some (if sk l s=0 then n2 (bv l s) (rG l qA) else(⟨0,0⟩,sk l s)):=by
 unfold kp
 rw[Wh hl,oB]
 by_cases h:sk l s=0
 ·have hs:VS s=true:=Wf h
  rw[if_pos h,if_neg (by simpa using h)]
  refine pw (P:=fun o=>o=_) fun k hk=>?_
  unfold qS
  rw[oB,Xu (f:=bv l s) (fun p st=>Qe (by omega) hs p st) (by omega) (by omega),oB,hk]
  have:=Wi (f:=bv l s) (P:=rG l qA) (k:=fun x y=>some (⟨x,y⟩,0)) (by simp[rG]) (fun _ _=>rfl)
  rw[<- this]
  unfold rk
  generalize hr:(rG l qA).foldl (gK (bv l s)) ([],0)=r
  have oH:r.1≠[]:=by
   rw[<- hr];unfold rG;rw[List.foldl_cons];exact dP _ _ (by simp[gK])
  simp only
  by_cases h2:r.2≠0
  ·rw[if_pos (by simpa using h2),if_pos h2]
  ·rw[if_neg (by simpa using h2),if_neg h2]
   cases Bf:r.1 with
   | nil=>exact absurd Bf oH
   | cons x t=>rw[xA (by simp)];rfl
 ·rw[if_neg h,if_pos (by simpa using h)]
end
section
theorem oW{RR A0 A1:Type}{K:A0->A1->Option RR}{F:(A0->A1->Option RR)->Option RR}{P:Option RR->Prop}(h:∀ k:A0->A1->Option RR,(∀ x0 x1,k x0 x1=K x0 x1)->P (F k)):P (si K F):=h K fun _ _=>rfl
theorem aR{RR A0 A1 A2 A3 A4:Type}{K:A0->A1->A2->A3->A4->Option RR}{F:(A0->A1->A2->A3->A4->Option RR)->Option RR}{P:Option RR->Prop}(h:∀ k:A0->A1->A2->A3->A4->Option RR,(∀ x0 x1 x2 x3 x4,k x0 x1 x2 x3 x4=K x0 x1 x2 x3 x4)->P (F k)):P (jp5 K F):=h K fun _ _ _ _ _=>rfl
theorem Qf{RR A0 A1 A2 A3 A4 A5:Type}{K:A0->A1->A2->A3->A4->A5->Option RR}{F:(A0->A1->A2->A3->A4->A5->Option RR)->Option RR}{P:Option RR->Prop}(h:∀ k:A0->A1->A2->A3->A4->A5->Option RR,(∀ x0 x1 x2 x3 x4 x5,k x0 x1 x2 x3 x4 x5=K x0 x1 x2 x3 x4 x5)->P (F k)):P (jp6 K F):=h K fun _ _ _ _ _ _=>rfl
abbrev Flow:=zT
abbrev PB:=yl
abbrev BM:=List (Flow×R)
abbrev DM:=List (Pl×Int)
/-! ### the computation keeps its first error -/
def DO(e:Int)(r:R×Int):R×Int:=(if r.2≠0 then⟨0,1⟩ else r.1,if e=0 then r.2 else e)
theorem nw{c:Cf}{rs:List (List Hop)}{bu:BM}{de:DM}{e:Int}{f:R->R->Option (R×Int)}{x y:R}{r:R×Int}(h:f x y=some r):kg c rs bu de e f x y=some (DO e r):=by
 unfold kg DO ql
 rw[h,oB]
 refine vj (P:=fun o=>o=_) fun k hk=>?_
 have e1:(if decide (e=0)=true then k r.2 else k e)=k (if e=0 then r.2 else e):=by
  by_cases h:e=0 <;> simp[h]
 rw[e1,hk]
 by_cases hr:r.2≠0
 ·rw[if_pos (by simpa using hr),if_pos hr];rfl
 ·rw[if_neg (by simpa using hr),if_neg hr]
def fc(c:Cf):Prop:=∀ v∈c.yb,(100<=v.yr/\v.yr<=12800)/\1<=v.yo/\v.yo<=72
def mx(c:Cf)(v:Int):Int:=(nth c.yb v).yo
def RT(c:Cf)(v:Int):R:=(mk (Rat.divInt (mx c v) (nth c.yb v).yr)).1
theorem eH{c:Cf}{rs:List (List Hop)}{bu:BM}{de:DM}{e v:Int}(hv:fc c)(h:0<=v/\v<c.yb.length):jX c rs bu de e v=some (RT c v):=by
 have h2:=hv _ (wt h.1 h.2)
 unfold jX RT mx
 rw[xA h,oT (by omega) (by omega)]
 rfl
/-! ### the curves at a port -/
def uses(p:Pl)(r:List Hop):Bool:=r.any fun h=>decide (pk h=p)
theorem Q0{r:List Hop}{p:Pl}(hl:r.length<1000000000):wF r (fun y0=>kB y0 p)=some (uses p r):=
 aw (p:=fun h=>decide (pk h=p)) (fun h _=>rfl) hl
structure CS where
 own:List (List B)
 most:Int
 e:Int
 lk:List (Int×List Int)
 bu:BM
def mz(c:Cf)(rs:List (List Hop))(de:DM)(p:Pl)(s:CS)(v:Int):CS:=
 let r:=nth rs v
 if uses p r then
  let g:=jO r p.ya
  if g.2 then
   let a:=DO s.e (MUL (RT c v) ⟨xp de (pk g.1) 0,1⟩)
   let b:=DO a.2 (bm (xp s.bu ⟨v,pk g.1⟩ ⟨0,0⟩) a.1)
   ⟨s.own,max s.most (mx c v),b.2,xM s.lk g.1.fQ (xp s.lk g.1.fQ []++[v]),xM s.bu ⟨v,p⟩ b.1⟩
  else⟨s.own++[[⟨⟨mx c v,1⟩,RT c v⟩]],max s.most (mx c v),s.e,s.lk,xM s.bu ⟨v,p⟩ ⟨mx c v,1⟩⟩
 else s
def qW(v:Int):Nat->List Int
 | 0=>[]
 | n+1=>v::qW (v+1) n
abbrev CR:=List (List B)×Int×Int×BM
theorem n4{c:Cf}{rs:List (List Hop)}{de:DM}{p:Pl}{s:CS}{v:Int}{n:Int}(h:(s.own.length:Int)<=n/\∀ k,((xp s.lk k []).length:Int)<=n):((mz c rs de p s v).own.length:Int)<=n+1/\∀ k,((xp (mz c rs de p s v).lk k []).length:Int)<=n+1:=by
 unfold mz
 simp only
 split
 ·split
  ·refine⟨by have:=h.1;show(s.own.length:Int)<=_;omega,fun k=>?_⟩
   show((xp (xM s.lk _ _) k []).length:Int)<=_
   rw[jg]
   split
   ·have:=h.2 (jO (nth rs v) p.ya).1.fQ;simp;omega
   ·have:=h.2 k;omega
  ·refine⟨by have:=h.1;simp;omega,fun k=>by have:=h.2 k;show((xp s.lk k []).length:Int)<=_;omega⟩
 ·exact⟨by have:=h.1;omega,fun k=>by have:=h.2 k;omega⟩
theorem n5{c:Cf}{rs:List (List Hop)}{de:DM}{p:Pl}{k:List (List B)->Int->Int->List (Int×List Int)->BM->Option CR}(hv:fc c)(hl:rs.length=c.yb.length)(hr:∀ r∈rs,r.length<1000000000)(hs:rs.length<=1000):
  ∀(n:Nat) (v:Int) (s:CS),0<=v->v<=rs.length->rs.length<n+v->((s.own.length:Int)<=v/\∀ k,((xp s.lk k []).length:Int)<=v)->
   qD rs p c de k n s.own s.most v s.e s.lk s.bu=(fun t:CS=>k t.own t.most t.e t.lk t.bu) ((qW v (rs.length-v.toNat)).foldl (mz c rs de p) s)
 | 0,v,s,h0,h1,h2,h3=>by omega
 | n+1,v,s,h0,h1,h2,h3=>by
  rw[qD]
  by_cases h:v<rs.length
  ·have hb:0<=v/\v<(c.yb.length:Int):=⟨h0,by omega⟩
   rw[if_pos (decide_eq_true h),show rs.length-v.toNat=(rs.length-(v+1).toNat)+1 by omega,qW,List.foldl_cons]
   refine aR (P:=fun o=>o=_) fun k1 zS=>?_
   have Bg:∀ t:CS,t=mz c rs de p s v->k1 t.own t.most t.e t.lk t.bu=(fun t:CS=>k t.own t.most t.e t.lk t.bu) ((qW (v+1) (rs.length-(v+1).toNat)).foldl (mz c rs de p) (mz c rs de p s v)):=fun t ht=>by
    subst ht
    rw[zS,xD (x:=v+1) (by omega)]
    exact n5 hv hl hr hs n (v+1) _ (by omega) (by omega) (by omega) (n4 h3)
   rw[xA ⟨h0,h⟩,Q0 (hr _ (wt h0 h)),oB]
   cases hu:uses p (nth rs v) with
   | false=>
    rw[if_pos (by rfl)]
    refine Bg s ?_
    unfold mz;simp only[hu];rfl
   | true=>
    rw[if_neg (by simp),xA hb,xA hb]
    unfold ql
    rw[oB]
    refine aR (P:=fun o=>o=_) fun k2 rv=>?_
    rw[eC (hr _ (wt h0 h)),oB]
    cases hg:(jO (nth rs v) p.ya).2 with
    | true=>
     rw[if_pos rfl,dB,oB,eH hv hb,oB,oB,oB]
     rw[nw (f:=fun y0 y1=>jy y0 y1) (Vo _ _).1,oB]
     rw[nw (f:=fun y0 y1=>wL y0 y1) (lN _ _).1,oB]
     have:=h3.2 (jO (nth rs v) p.ya).1.fQ
     rw[xA (by simp;omega),rv]
     refine Eq.trans ?_ (Bg _ rfl)
     have e:mz c rs de p s v=mz c rs de p s v:=rfl
     conv at e=>rhs;unfold mz
     simp only[hu,hg,if_true,if_false,Bool.false_eq_true] at e
     rw[e]
     rfl
    | false=>
     rw[if_neg (by simp),eH hv hb,oB]
     have:=h3.1
     rw[xA (by simp;omega),rv]
     refine Eq.trans ?_ (Bg _ rfl)
     have e:mz c rs de p s v=mz c rs de p s v:=rfl
     conv at e=>rhs;unfold mz
     simp only[hu,hg,if_true,if_false,Bool.false_eq_true] at e
     rw[e]
     rfl
  ·rw[if_neg (by simpa using h),show rs.length-v.toNat=0 by omega];rfl
structure GS where
 wide:Int
 e:Int
 b:R
 r:R
def gst(c:Cf)(bu:BM)(p:Pl)(s:GS)(v:Int):GS:=
 let x:=DO s.e (bm s.b (xp bu ⟨v,p⟩ ⟨0,0⟩))
 let y:=DO x.2 (bm s.r (RT c v))
 ⟨max s.wide (mx c v),y.2,x.1,y.1⟩
theorem dQ{c:Cf}{rs:List (List Hop)}{lk:List (Int×List Int)}{q:Int}{bu:BM}{de:DM}{p:Pl}{k:Int->Int->Int->Int->Int->Int->Option CR}(hv:fc c)(hl:∀ v∈xp lk q [],0<=v/\v<c.yb.length)(hs:(xp lk q []).length<=1000):
  ∀(n:Nat) (i:Int) (s:GS),0<=i->i<=(xp lk q []).length->(xp lk q []).length<n+i->
   qE lk q c rs bu de p k n s.wide i s.e s.b.fN s.b.fD s.r.fN s.r.fD=(fun t:GS=>k t.wide t.e t.b.fN t.b.fD t.r.fN t.r.fD) (((xp lk q []).drop i.toNat).foldl (gst c bu p) s)
 | 0,v,s,h0,h1,h2=>by omega
 | n+1,i,s,h0,h1,h2=>by
  rw[qE]
  by_cases h:i<(xp lk q []).length
  ·have hb:=hl _ (wt h0 h)
   rw[if_pos (decide_eq_true h),xA ⟨h0,h⟩,jZ h0 h,List.foldl_cons]
   rw[nw (f:=fun y0 y1=>wL y0 y1) (lN _ _).1,oB,eH hv hb,oB,nw (f:=fun y0 y1=>wL y0 y1) (lN _ _).1,oB,xA hb,xD (x:=i+1) (by omega)]
   have e2:(i+1).toNat=i.toNat+1:=by omega
   have:=dQ (rs:=rs) (de:=de) (bu:=bu) (p:=p) (k:=k) hv hl hs n (i+1) (gst c bu p s (nth (xp lk q []) i)) (by omega) (by omega) (by omega)
   rw[e2] at this
   exact this
  ·rw[if_neg (by simpa using h),List.drop_eq_nil_of_le (by omega)];rfl
def pF(c:Cf)(lk:List (Int×List Int))(bu:BM)(p:Pl)(s:List (List B)×Int)(q:Int):List (List B)×Int:=
 if xp lk q []=[] then s else
  let g:=(xp lk q []).foldl (gst c bu p) ⟨0,s.2,⟨0,1⟩,⟨0,1⟩⟩
  (s.1++[[⟨g.b,g.r⟩,⟨⟨g.wide,1⟩,⟨1,(nth c.fK q).yp⟩⟩]],g.e)
theorem n6{c:Cf}{rs:List (List Hop)}{lk:List (Int×List Int)}{bu:BM}{de:DM}{p:Pl}{k:List (List B)->Int->Option CR}(hv:fc c)(hl:∀ q,∀ v∈xp lk q [],0<=v/\v<c.yb.length)(hs:∀ q,(xp lk q []).length<=1000)(hL:c.fK.length<=1000):
  ∀(n:Nat) (q:Int) (s:List (List B)×Int),0<=q->q<=c.fK.length->c.fK.length<n+q->(s.1.length:Int)<=q->
   qF c lk rs bu de p k n s.1 q s.2=(fun t:List (List B)×Int=>k t.1 t.2) ((qW q (c.fK.length-q.toNat)).foldl (pF c lk bu p) s)
 | 0,v,s,h0,h1,h2,h3=>by omega
 | n+1,q,s,h0,h1,h2,h3=>by
  rw[qF]
  by_cases h:q<c.fK.length
  ·rw[if_pos (decide_eq_true h),show c.fK.length-q.toNat=(c.fK.length-(q+1).toNat)+1 by omega,qW,List.foldl_cons]
   refine oW (P:=fun o=>o=_) fun k1 zS=>?_
   have jo:((pF c lk bu p s q).1.length:Int)<=q+1:=by
    unfold pF;split
    ·omega
    ·simp;omega
   have Bg:∀ t:List (List B)×Int,t=pF c lk bu p s q->k1 t.1 t.2=(fun t:List (List B)×Int=>k t.1 t.2) ((qW (q+1) (c.fK.length-(q+1).toNat)).foldl (pF c lk bu p) (pF c lk bu p s q)):=fun t ht=>by
    subst ht
    rw[zS,xD (x:=q+1) (by omega)]
    exact n6 hv hl hs hL n (q+1) _ (by omega) (by omega) (by omega) jo
   by_cases hz:xp lk q []=[]
   ·rw[if_pos (by simp[hz])]
    refine Bg s ?_
    unfold pF;rw[if_pos hz]
   ·rw[if_neg (by simpa using hz)]
    unfold ql
    rw[oB,oB]
    refine Qf (P:=fun o=>o=_) fun k2 rv=>?_
    have:=dQ (rs:=rs) (de:=de) (k:=k2) (bu:=bu) (p:=p) hv (hl q) (hs q) xI 0 ⟨0,s.2,⟨0,1⟩,⟨0,1⟩⟩ (by omega) (by omega) (by rw[w5];have:=hs q;omega)
    simp only[Int.toNat_zero,List.drop_zero] at this
    rw[this,rv,oB,xA ⟨h0,h⟩,xA (by simp;omega)]
    refine Bg (_,_) ?_
    unfold pF;rw[if_neg hz]
  ·rw[if_neg (by simpa using h),show c.fK.length-q.toNat=0 by omega];rfl
theorem Wj{c:Cf}{rs:List (List Hop)}{de:DM}{p:Pl}:∀(n:Nat) (v:Int) (s:CS),0<=v->((s.own.length:Int)<=v/\∀ k,((xp s.lk k []).length:Int)<=v)->(∀ k,∀ x∈xp s.lk k [],0<=x/\x<v)->
  (((qW v n).foldl (mz c rs de p) s).own.length:Int)<=v+n/\(∀ k,((xp ((qW v n).foldl (mz c rs de p) s).lk k []).length:Int)<=v+n)/\∀ k,∀ x∈xp ((qW v n).foldl (mz c rs de p) s).lk k [],0<=x/\x<v+n
 | 0,v,s,_,h,h2=>⟨by have:=h.1;show(s.own.length:Int)<=_;omega,fun k=>by have:=h.2 k;show((xp s.lk k []).length:Int)<=_;omega,fun k x hx=>by have:=h2 k x hx;omega⟩
 | n+1,v,s,h0,h,h2=>by
  rw[qW,List.foldl_cons]
  obtain⟨a1,a2,a3⟩:=Wj (c:=c) (rs:=rs) (de:=de) (p:=p) n (v+1) (mz c rs de p s v) (by omega) (n4 h) (fun k x hx=>by
   unfold mz at hx
   simp only at hx
   split at hx
   ·split at hx
    ·rw[show(CS.lk ⟨_,_,_,_,_⟩)=xM s.lk _ _ from rfl,jg] at hx
     split at hx
     ·rcases List.mem_append.1 hx with hx | hx
      ·have:=h2 _ x hx;omega
      ·rw[List.mem_singleton] at hx;omega
     ·have:=h2 k x hx;omega
    ·have:=h2 k x hx;omega
   ·have:=h2 k x hx;omega)
  exact⟨by omega,fun k=>by have:=a2 k;omega,fun k x hx=>by have:=a3 k x hx;omega⟩
def CU(c:Cf)(rs:List (List Hop))(bu:BM)(de:DM)(e:Int)(p:Pl):CR:=
 let s:=(qW 0 rs.length).foldl (mz c rs de p) ⟨[],0,e,[],bu⟩
 let g:=(qW 0 c.fK.length).foldl (pF c s.lk s.bu p) ([],s.e)
 (s.own++g.1,s.most,g.2,s.bu)
theorem YU{c:Cf}{lk:List (Int×List Int)}{bu:BM}{p:Pl}:∀(n:Nat) (q:Int) (s:List (List B)×Int),((qW q n).foldl (pF c lk bu p) s).1.length<=s.1.length+n
 | 0,q,s=>by show s.1.length<=_;omega
 | n+1,q,s=>by
  rw[qW,List.foldl_cons]
  have h1:=YU (c:=c) (lk:=lk) (bu:=bu) (p:=p) n (q+1) (pF c lk bu p s q)
  have h2:(pF c lk bu p s q).1.length<=s.1.length+1:=by
   unfold pF;split
   ·omega
   ·simp
  omega
theorem Wl{c:Cf}{rs:List (List Hop)}{bu:BM}{de:DM}{e:Int}{p:Pl}(hv:fc c)(hl:rs.length=c.yb.length)(hr:∀ r∈rs,r.length<1000000000)(hs:rs.length<=16)(hL:c.fK.length<=20):
  g5 c rs bu de e p=some (CU c rs bu de e p)/\(CU c rs bu de e p).1.length<=36:=by
 obtain⟨a1,a2,a3⟩:=Wj (c:=c) (rs:=rs) (de:=de) (p:=p) rs.length 0 ⟨[],0,e,[],bu⟩ (by omega) ⟨by simp,fun k=>by simp[xp]⟩ (fun k x hx=>by simp[xp] at hx)
 have jo:(CU c rs bu de e p).1.length<=36:=by
  unfold CU
  simp only[List.length_append]
  have:=YU (c:=c) (lk:=((qW 0 rs.length).foldl (mz c rs de p) ⟨[],0,e,[],bu⟩).lk) (bu:=((qW 0 rs.length).foldl (mz c rs de p) ⟨[],0,e,[],bu⟩).bu) (p:=p) c.fK.length 0 ([],((qW 0 rs.length).foldl (mz c rs de p) ⟨[],0,e,[],bu⟩).e)
  simp only[List.length_nil,Nat.zero_add] at this
  omega
 refine⟨?_,jo⟩
 unfold g5
 refine aR (P:=fun o=>o=_) fun k hk=>?_
 have h1:=n5 (k:=k) (p:=p) (de:=de) hv hl hr (by omega) xI 0 ⟨[],0,e,[],bu⟩ (by omega) (by omega) (by rw[w5];omega) ⟨by simp,fun k=>by simp[xp]⟩
 simp only[Int.toNat_zero,Nat.sub_zero] at h1
 rw[h1,hk]
 refine oW (P:=fun o=>o=_) fun k2 rv=>?_
 have h2:=n6 (rs:=rs) (de:=de) (p:=p) (k:=k2) (bu:=((qW 0 rs.length).foldl (mz c rs de p) ⟨[],0,e,[],bu⟩).bu) hv (fun q v hx=>by have:=a3 q v hx;omega) (fun q=>by have:=a2 q;omega) (by omega) xI 0 ([],((qW 0 rs.length).foldl (mz c rs de p) ⟨[],0,e,[],bu⟩).e) (by omega) (by omega) (by rw[w5];omega) (by simp)
 simp only[Int.toNat_zero,Nat.sub_zero] at h2
 rw[h2,rv]
 unfold CU at jo
 simp only at jo
 rw[xA (by omega)]
 rfl
end
section
variable {rs:List (List Hop)}{de:DM}{net v:Int}
/-! ### a port -/
def er(x:Int):Int:=if x=6 then 352 else x
def fe(e a b:Int):Int:=if (if e=0 then er a else e)=0 then er b else(if e=0 then er a else e)
theorem Wm{x y:R×Int}{k:Int->Option (PB×Int×BM×DM)}(e:Int):vy x y k xI 0 e=k (fe e x.2 y.2):=by
 have hF:xI=(xI-3)+3:=by rw[w5]
 rw[hF]
 generalize xI-3=N
 have wX:∀(n:Nat) (v e a:Int),0<=v->v<2->nth ([x.2,y.2]:List Int) v=a->vy x y k (n+1) v e=vy x y k n (v+1) (if e=0 then er a else e):=by
  intro n v e a h0 h1 ha
  rw[vy,if_pos (by simp;omega)]
  refine vj (P:=fun o=>o=_) fun k1 zS=>?_
  rw[xA (by simp;omega)]
  refine vj (P:=fun o=>o=_) fun k2 rv=>?_
  rw[ha]
  have e1:(if decide (a=6)=true then k2 352 else k2 a)=k2 (er a):=by
   unfold er;by_cases h:a=6 <;> simp[h]
  have e2:(if decide (e=0)=true then k1 (er a) else k1 e)=k1 (if e=0 then er a else e):=by
   by_cases h:e=0 <;> simp[h]
  rw[e1,rv,e2,zS,xD (x:=v+1) (by omega)]
 rw[wX (N+2) 0 e x.2 (by omega) (by omega) rfl,wX (N+1) (0+1) _ y.2 (by omega) (by omega) rfl,vy,if_neg (by simp)]
 rfl
def DL(l:List (List B))(s:SV):R×Int:=if sk l s=0 then n2 (dv l s) (rG l []) else(⟨0,0⟩,sk l s)
def BL(l:List (List B))(s:SV):R×Int:=if sk l s=0 then n2 (bv l s) (rG l [s.fL]) else(⟨0,0⟩,sk l s)
theorem V9{l:List (List B)}{s:SV}(hl:l.length<=40):f0 l s=some (DL l s):=by
 unfold f0 DL
 rw[Qd hl (by simp),oB]
theorem Xv{l:List (List B)}{s:SV}(hl:l.length<=40):gn l s=some (BL l s):=by
 unfold gn BL
 rw[VZ hl (by simp),oB]
def lat(c:Cf)(p:Pl):Int:=if p.ya-nM c>=0 then(nth c.fS (p.ya-nM c)).yj else 0
def srv(c:Cf)(p:Pl):SV:=⟨⟨1,(nth c.fK p.fQ).yp⟩,⟨lat c p,1⟩⟩
def PO(c:Cf)(rs:List (List Hop))(bu:BM)(de:DM)(e:Int)(p:Pl):PB×Int×BM×DM:=
 let u:=CU c rs bu de e p
 let d:=DL u.1 (srv c p)
 let b:=BL u.1 (srv c p)
 (⟨p.ya,p.fQ,flr d.1,i64 (flr b.1+u.2.1)⟩,fe u.2.2.1 d.2 b.2,u.2.2.2,xM de p (flr d.1))
structure PI (c:Cf) (p:Pl):Prop where
 l0:0<=p.fQ
 l1:p.fQ<c.fK.length
 n0:0<=p.ya
 n1:p.ya<nN c
theorem Q1{c:Cf}{bu:BM}{e:Int}{p:Pl}(hv:fc c)(hl:rs.length=c.yb.length)(hr:∀ r∈rs,r.length<1000000000)(hs:rs.length<=16)(hL:c.fK.length<=20)(hS:Small c)(hp:PI c p):
  gJ c rs bu de e p=some (PO c rs bu de e p):=by
 unfold gJ
 obtain⟨a1,a2⟩:=Wl (bu:=bu) (de:=de) (e:=e) (p:=p) hv hl hr hs hL
 have hn1:=hp.n1;have hn0:=hp.n0;have hm:=hS.m;have hsw:=hS.s
 unfold nN at hn1
 rw[a1,oB]
 refine oW (P:=fun o=>o=_) fun k hk=>?_
 have hlat:(if decide ((i64 (p.ya-((c.fM.length:Nat):Int)))>=0) then chk ((0:Int)<=(i64 (p.ya-((c.fM.length:Nat):Int)))/\(i64 (p.ya-((c.fM.length:Nat):Int)))<((c.fS.length:Nat):Int)) (k (CU c rs bu de e p).1 ((nth c.fS (i64 (p.ya-((c.fM.length:Nat):Int)))).yj)) else k (CU c rs bu de e p).1 0)=k (CU c rs bu de e p).1 (lat c p):=by
  rw[xD (x:=p.ya-((c.fM.length:Nat):Int)) (by omega)]
  unfold lat nM
  by_cases h:p.ya-((c.fM.length:Nat):Int)>=0
  ·rw[if_pos (decide_eq_true h),xA ⟨h,by omega⟩,if_pos h]
  ·rw[if_neg (by simpa using h),if_neg h]
 rw[hlat,hk,xA ⟨hp.l0,hp.l1⟩]
 unfold ql
 rw[oB,V9 (by omega),oB,Xv (by omega),oB]
 refine vj (P:=fun o=>o=_) fun k2 rv=>?_
 rw[Wm,rv]
 rw[(cS _).1,oB,(cS _).1,oB,oS]
 rfl
/-! ### all ports -/
structure WS where
 out:List PB
 e:Int
 bu:BM
 de:DM
def aS(c:Cf)(rs:List (List Hop))(s:WS)(p:Pl):WS:=let x:=PO c rs s.bu s.de s.e p;⟨s.out++[x.1],x.2.1,x.2.2.1,x.2.2.2⟩
def rB(c:Cf)(rs:List (List Hop)):List Pl->WS->WS ⊕ Int
 | [],s => .inl s
 | p::l,s=>if (aS c rs s p).e≠0 then .inr (aS c rs s p).e else rB c rs l (aS c rs s p)
theorem dR{c:Cf}{rs:List (List Hop)}{l:List Pl×Int}{k:List PB->Option (yz×Int)}(hv:fc c)(hl:rs.length=c.yb.length)(hr:∀ r∈rs,r.length<1000000000)(hs:rs.length<=16)(hL:c.fK.length<=20)(hS:Small c)(hp:∀ p∈l.1,PI c p)(zZ:l.1.length<=100000):
  ∀(n:Nat) (v:Int) (s:WS),0<=v->v<=l.1.length->l.1.length<n+v->s.out.length=v->
   qw l c rs k n v s.e s.out s.bu s.de=match rB c rs (l.1.drop v.toNat) s with | .inl t=>k t.out | .inr e=>some (⟨[],[]⟩,e)
 | 0,v,s,h0,h1,h2,h3=>by omega
 | n+1,v,s,h0,h1,h2,h3=>by
  rw[qw]
  by_cases h:v<l.1.length
  ·rw[if_pos (decide_eq_true h),xA ⟨h0,h⟩,jZ h0 h]
   have e:(⟨(nth l.1 v).ya,(nth l.1 v).fQ⟩:za)=nth l.1 v:=rfl
   rw[e,Q1 hv hl hr hs hL hS (hp _ (wt h0 h)),oB,xA (by simp;omega),rB]
   by_cases he:(aS c rs s (nth l.1 v)).e≠0
   ·rw[if_pos he,if_pos (by exact decide_eq_true he)];rfl
   ·rw[if_neg he,if_neg (by rw[decide_eq_true_eq];exact he),xD (x:=v+1) (by omega)]
    have:=dR (k:=k) hv hl hr hs hL hS hp zZ n (v+1) (aS c rs s (nth l.1 v)) (by omega) (by omega) (by omega) (by simp[aS];omega)
    rw[show(v+1).toNat=v.toNat+1 by omega] at this
    exact this
  ·rw[if_neg (by simpa using h),List.drop_eq_nil_of_le (by omega)];rfl
/-! ### sorting -/
def qx(b:PB):Pl:=⟨b.ya,b.fQ⟩
theorem Wn{l:List PB}(hn:(l.map qx).Nodup)(hs:l.length<=1000000):
  xY l (fun y0 y1=>vG y0 y1)=some (w8 vG l)/\(w8 vG l).Pairwise fun a b=>¬ur (qx b) (qx a):=by
 have BH:∀ x∈l,∀ y∈l,qx x=qx y->x=y:=by
  intro x hx y hy e
  obtain⟨i,hi,rfl⟩:=List.getElem_of_mem hx
  obtain⟨j,hj,rfl⟩:=List.getElem_of_mem hy
  have h1:(l.map qx)[i]'(by simpa using hi)=(l.map qx)[j]'(by simpa using hj):=by simpa using e
  have:=(List.getElem_inj (h₀:=by simpa using hi) (h₁:=by simpa using hj) hn).1 h1
  subst this;rfl
 obtain⟨ho,BF⟩:=cJ (p:=vG) (lt:=fun a b=>ur (qx a) (qx b)) (l:=l) (fun x _ y _=>by
  obtain⟨v,e1,e2⟩:=dC (qx x) (qx y)
  refine⟨v,?_,e2⟩
  unfold vG
  rw[show(⟨x.ya,x.fQ⟩:za)=qx x from rfl,show(⟨y.ya,y.fQ⟩:za)=qx y from rfl,e1];rfl) (fun x y=>bQ _ _) (fun x y z=>am _ _ _) (fun x hx y hy h1 h2=>BH x hx y hy (dE _ _ h1 h2))
 refine⟨?_,BF⟩
 unfold xY kq qf
 rw[cL (by omega),xA (by omega),oB]
 have hb:=lD l.length (by omega)
 rw[Int.toNat_natCast,xA ⟨⟨rfl,rfl⟩,by omega,by omega,by omega⟩,xA ho,oB]
/-! ### the ends -/
theorem n7{r:List Hop}{k:Option Bool}(hl:r.length<1000000000):∀(n:Nat) (v:Int),0<=v->v<=r.length->r.length<n+v->
  ((∃ q:Int,v<=q/\q<r.length/\(jO (r.take q.toNat) (nth r q).ya).2=false/\(nth r q).ya≠(nth r 0).ya)/\kl r k n v=some false) \/
  ((∀ q:Int,v<=q->q<r.length->(jO (r.take q.toNat) (nth r q).ya).2=true\/(nth r q).ya=(nth r 0).ya)/\kl r k n v=k)
 | 0,v,h0,h1,h2=>by omega
 | n+1,v,h0,h1,h2=>by
  rw[kl]
  by_cases h:v<r.length
  ·rw[if_pos (decide_eq_true h),xA ⟨h0,h⟩,xA ⟨by omega,h0,by omega⟩,eC (by rw[List.length_take];omega),oB,xA (fun _=>⟨by omega,by omega⟩)]
   by_cases hc:(!(jO (r.take v.toNat) (nth r v).ya).2&&decide ((nth r v).ya≠(nth r 0).ya))=true
   ·rw[if_pos hc]
    simp only[Bool.and_eq_true,Bool.not_eq_true',decide_eq_true_eq] at hc
    exact .inl ⟨⟨v,by omega,h,hc.1,hc.2⟩,rfl⟩
   ·rw[if_neg hc,xD (x:=v+1) (by omega)]
    have zk:(jO (r.take v.toNat) (nth r v).ya).2=true\/(nth r v).ya=(nth r 0).ya:=by
     simp only[Bool.and_eq_true,Bool.not_eq_true',decide_eq_true_eq] at hc
     by_cases h5:(nth r v).ya=(nth r 0).ya
     ·exact .inr h5
     ·refine .inl ?_
      cases h6:(jO (r.take v.toNat) (nth r v).ya).2 with
      | true=>rfl
      | false=>exact absurd ⟨h6,h5⟩ hc
    rcases n7 hl n (v+1) (by omega) (by omega) (by omega) (k:=k) with⟨⟨q,q1,q2⟩,h3⟩ | ⟨h3,h4⟩
    ·exact .inl ⟨⟨q,by omega,q2⟩,h3⟩
    ·refine .inr ⟨fun q q1 q2=>?_,h4⟩
     by_cases e:q=v
     ·rw[e];exact zk
     ·exact h3 q (by omega) q2
  ·rw[if_neg (by simpa using h)]
   exact .inr ⟨fun q q1 q2=>by omega,rfl⟩
theorem VR.tree{c:Cf}{r:List Hop}(h:VR c net r):uM r=some true:=by
 have hl:=h.len
 unfold uM
 have hF:=w5
 generalize xI=N at hF ⊢
 refine mb (P:=fun o=>o=some true) fun k hk=>?_
 rcases n7 (k:=k) (by omega) N 0 (by omega) (by omega) (by omega) (r:=r) with⟨⟨q,q1,q2,q3,q4⟩,h5⟩ | ⟨h3,h4⟩
 ·exfalso
  have hc:=(h.cond q q1 q2).1
  rcases hc with hc | ⟨j,j0,j1,j2⟩
  ·exact q4 hc
  ·have hm:nth r j∈r.take q.toNat:=by
    rw[uY ⟨j0,by omega⟩]
    have:(r.take q.toNat)[j.toNat]'(by simp;omega)=r[j.toNat]'(by omega):=List.getElem_take
    rw[<- this];exact List.getElem_mem _
   have:=au hm
   rw[j2,q3] at this;cases this
 ·rw[h4,hk]
abbrev SM:=List (Int×Int)
structure ES where
 ends:List zo
 sum:SM
def mZ(c:Cf)(r:List Hop)(de:DM)(vl:Int)(s:ES)(h:Hop):ES:=
 if qK s.sum h.yh||decide (h.yh=(nth r 0).ya) then s else
  let m:=xM s.sum h.yh (i64 (xp s.sum h.ya 0+xp de (pk h) 0))
  ⟨if 0<=h.yh/\h.yh<nM c then s.ends++[⟨vl,h.yh,xp m h.yh 0⟩] else s.ends,m⟩
theorem aT{c:Cf}{rs:List (List Hop)}{v:Int}{de:DM}{k:List zo->Option (List zo)}(h0v:0<=v/\v<rs.length)(hl:(nth rs v).length<=1000):∀(n:Nat) (i:Int) (s:ES),0<=i->i<=(nth rs v).length->(nth rs v).length<n+i->(s.ends.length:Int)<=i->
  kV rs v c de k n s.ends i s.sum=k (((nth rs v).drop i.toNat).foldl (mZ c (nth rs v) de v) s).ends
 | 0,i,s,h0,h1,h2,h3=>by omega
 | n+1,i,s,h0,h1,h2,h3=>by
  rw[kV]
  by_cases h:i<(nth rs v).length
  ·rw[if_pos (decide_eq_true h),jZ h0 h,List.foldl_cons]
   refine oW (P:=fun o=>o=_) fun k1 zS=>?_
   have jo:((mZ c (nth rs v) de v s (nth (nth rs v) i)).ends.length:Int)<=i+1:=by
    unfold mZ
    simp only
    split
    ·omega
    ·show(((if _ then _ else _:List zo)).length:Int)<=_
     split
     ·simp;omega
     ·omega
   have Bg:∀ t:ES,t=mZ c (nth rs v) de v s (nth (nth rs v) i)->k1 t.ends t.sum=k (((nth rs v).drop (i.toNat+1)).foldl (mZ c (nth rs v) de v) (mZ c (nth rs v) de v s (nth (nth rs v) i))).ends:=fun t ht=>by
    subst ht
    rw[zS,xD (x:=i+1) (by omega)]
    have:=aT (k:=k) (c:=c) (de:=de) h0v hl n (i+1) (mZ c (nth rs v) de v s (nth (nth rs v) i)) (by omega) (by omega) (by omega) jo
    rw[show(i+1).toNat=i.toNat+1 by omega] at this
    exact this
   rw[xA ⟨h0,h⟩,xA (fun _=>⟨by omega,by omega⟩)]
   by_cases hc:(qK s.sum ((nth (nth rs v) i).yh)||decide ((nth (nth rs v) i).yh=(nth (nth rs v) 0).ya))=true
   ·rw[if_pos hc]
    refine Bg s ?_
    unfold mZ;rw[if_pos hc]
   ·rw[if_neg hc,dB,oB]
    by_cases hn:0<=(nth (nth rs v) i).yh/\(nth (nth rs v) i).yh<nM c
    ·rw[if_pos (by have:=hn.2;unfold nM at this;simp only[Bool.and_eq_true,decide_eq_true_eq];exact⟨hn.1,this⟩),xA (by simp;omega)]
     refine Bg ⟨_,_⟩ ?_
     unfold mZ;rw[if_neg hc];simp only;rw[if_pos hn]
    ·rw[if_neg (by unfold nM at hn;simp only[Bool.and_eq_true,decide_eq_true_eq];exact hn)]
     refine Bg ⟨s.ends,xM s.sum (nth (nth rs v) i).yh (i64 (xp s.sum (nth (nth rs v) i).ya 0+xp de (pk (nth (nth rs v) i)) 0))⟩ ?_
     unfold mZ;rw[if_neg hc];simp only;rw[if_neg hn]
  ·rw[if_neg (by simpa using h),List.drop_eq_nil_of_le (by omega)];rfl
structure EI (c:Cf) (vl:Int) (s:ES):Prop where
 nd:(s.ends.map (·.ya)).Nodup
 vl:∀ x∈s.ends,x.yJ=vl/\0<=x.ya/\x.ya<nM c/\qK s.sum x.ya=true
theorem EI.step{c:Cf}{r:List Hop}{s:ES}{h:Hop}(hi:EI c v s):EI c v (mZ c r de v s h):=by
 unfold mZ
 split
 ·exact hi
 ·rename_i hc
  simp only[Bool.or_eq_true,not_or,decide_eq_true_eq,Bool.not_eq_true] at hc
  simp only
  have hk:∀ n,qK s.sum n=true->qK (xM s.sum h.yh (i64 (xp s.sum h.ya 0+xp de (pk h) 0))) n=true:=fun n hn=>by rw[py,hn];simp
  split
  ·rename_i hn
   refine⟨?_,fun x hx=>?_⟩
   ·rw[List.map_append]
    refine List.nodup_append.2 ⟨hi.nd,by simp,fun a ha b hb=>?_⟩
    simp at hb;subst hb
    rintro rfl
    obtain⟨x,hx,e⟩:=List.mem_map.1 ha
    have:=(hi.vl x hx).2.2.2
    rw[e,hc.1] at this;cases this
   ·rcases List.mem_append.1 hx with hx | hx
    ·obtain⟨a1,a2,a3,a4⟩:=hi.vl x hx
     exact⟨a1,a2,a3,hk _ a4⟩
    ·rw[List.mem_singleton] at hx;subst hx
     exact⟨rfl,hn.1,hn.2,by show qK (xM _ _ _) h.yh=true;rw[py];simp⟩
  ·exact⟨hi.nd,fun x hx=>by obtain⟨a1,a2,a3,a4⟩:=hi.vl x hx;exact⟨a1,a2,a3,hk _ a4⟩⟩
theorem EI.fold{c:Cf}{r:List Hop}{de:DM}{v:Int}:∀(hs:List Hop) {s:ES},EI c v s->EI c v (hs.foldl (mZ c r de v) s)
 | [],_,hi=>hi
 | h::hs,_,hi=>by rw[List.foldl_cons];exact EI.fold hs hi.step
def VE(c:Cf)(rs:List (List Hop))(de:DM)(v:Int):List zo:=((nth rs v).foldl (mZ c (nth rs v) de v) ⟨[],[]⟩).ends
theorem Qg(c:Cf)(rs:List (List Hop))(de:DM)(v:Int):EI c v ((nth rs v).foldl (mZ c (nth rs v) de v) ⟨[],[]⟩):=EI.fold _ ⟨by simp,by simp⟩
theorem Qh{c:Cf}:(VE c rs de v).length<=(nth rs v).length:=by
 unfold VE
 have:∀(hs:List Hop) (s:ES),(hs.foldl (mZ c (nth rs v) de v) s).ends.length<=s.ends.length+hs.length:=by
  intro hs
  induction hs with
  | nil=>intro s;simp
  | cons h hs ih=>
   intro s
   rw[List.foldl_cons]
   have h1:=ih (mZ c (nth rs v) de v s h)
   have h2:(mZ c (nth rs v) de v s h).ends.length<=s.ends.length+1:=by
    unfold mZ
    split
    ·omega
    ·simp only;split
     ·simp
     ·omega
   rw[List.length_cons];omega
 have:=this (nth rs v) ⟨[],[]⟩
 simpa using this
def elt(a b:zo):Prop:=a.ya<b.ya
theorem Va{c:Cf}{l:List zo}(hS:Small c)(hn:(l.map (·.ya)).Nodup)(hb:∀ x∈l,x.yJ=v/\0<=x.ya/\x.ya<nM c)(hs:l.length<=1000000):
  vO l (fun y0 y1=>jd y0 y1)=some (w8 jd l):=by
 have hm:=hS.m
 have BH:∀ x∈l,∀ y∈l,x.ya=y.ya->x=y:=by
  intro x hx y hy e
  obtain⟨i,hi,rfl⟩:=List.getElem_of_mem hx
  obtain⟨j,hj,rfl⟩:=List.getElem_of_mem hy
  have h1:(l.map (·.ya))[i]'(by simpa using hi)=(l.map (·.ya))[j]'(by simpa using hj):=by simpa using e
  have:=(List.getElem_inj (h₀:=by simpa using hi) (h₁:=by simpa using hj) hn).1 h1
  subst this;rfl
 obtain⟨ho,_⟩:=cJ (p:=jd) (lt:=elt) (l:=l) (fun x hx y hy=>by
  have h1:=hb x hx;have h2:=hb y hy
  unfold nM at h1 h2
  refine⟨_,rfl,?_⟩
  rw[xD (by omega)]
  unfold elt
  omega) (fun x y=>by unfold elt;omega) (fun x y z=>by unfold elt;omega) (fun x hx y hy h1 h2=>BH x hx y hy (by unfold elt at h1 h2;omega))
 unfold vO kq kN
 rw[cL (by omega),xA (by omega),oB]
 have hb:=lD l.length (by omega)
 rw[Int.toNat_natCast,xA ⟨⟨rfl,rfl⟩,by omega,by omega,by omega⟩,xA ho,oB]
theorem YV{c:Cf}{rs:List (List Hop)}{de:DM}{k:List zo->Option (List zo)}(hS:Small c)(hr:∀ r∈rs,r.length<=1000)(hl:rs.length<=100):∀(n:Nat) (v:Int) (o:List zo),0<=v->v<=rs.length->rs.length<n+v->(o.length:Int)<=1000*v->
  kW rs c de k n o v=k (o++(qW v (rs.length-v.toNat)).flatMap fun v=>w8 jd (VE c rs de v))
 | 0,v,o,h0,h1,h2,h3=>by omega
 | n+1,v,o,h0,h1,h2,h3=>by
  rw[kW]
  by_cases h:v<rs.length
  ·have B1:=hr _ (wt h0 h)
   rw[if_pos (decide_eq_true h),show rs.length-v.toNat=(rs.length-(v+1).toNat)+1 by omega,qW,List.flatMap_cons]
   refine vj (P:=fun x=>x=_) fun k1 zS=>?_
   rw[xA ⟨h0,h⟩]
   refine vj (P:=fun x=>x=_) fun k2 rv=>?_
   have h4:=aT (k:=k2) (c:=c) (de:=de) ⟨h0,h⟩ B1 xI 0 ⟨[],[]⟩ (by omega) (by omega) (by rw[w5];omega) (by simp)
   simp only[Int.toNat_zero,List.drop_zero] at h4
   have hi:=Qg c rs de v
   have jo:=Qh (c:=c) (rs:=rs) (de:=de) (v:=v)
   rw[h4,rv]
   have hi1:((VE c rs de v).map (·.ya)).Nodup:=hi.nd
   have hi2:∀ x∈VE c rs de v,x.yJ=v/\0<=x.ya/\x.ya<nM c:=fun x hx=>by obtain⟨a1,a2,a3,_⟩:=hi.vl x hx;exact⟨a1,a2,a3⟩
   rw[show((nth rs v).foldl (mZ c (nth rs v) de v) ⟨[],[]⟩).ends=VE c rs de v from rfl]
   rw[Va (v:=v) hS hi1 hi2 (by omega),oB]
   have hsl:=mT jd (VE c rs de v)
   rw[xA (by rw[List.length_append];omega),zS,xD (x:=v+1) (by omega),YV hS hr hl n (v+1) _ (by omega) (by omega) (by omega) (by rw[List.length_append];omega),List.append_assoc]
  ·rw[if_neg (by simpa using h),show rs.length-v.toNat=0 by omega];simp[qW]
def dem(l:List PB):DM:=l.foldr (fun b m=>xM m (qx b) b.yj) []
theorem aU{l:List PB}{k:DM->Option (List zo)}(hl:l.length<=1000000):∀(n:Nat) (i:Int) (m:DM),-1<=i->i<l.length->i+1<n->kU l k n i m=k ((l.take (i+1).toNat).foldr (fun b m=>xM m (qx b) b.yj) m)
 | 0,i,m,h0,h1,h2=>by omega
 | n+1,i,m,h0,h1,h2=>by
  rw[kU]
  by_cases h:i>=0
  ·rw[if_pos (decide_eq_true h),xA ⟨h,h1⟩,xD (x:=i-1) (by omega),aU hl n (i-1) _ (by omega) (by omega) (by omega)]
   congr 1
   have h3:i.toNat<l.length:=by omega
   rw[show(i+1).toNat=i.toNat+1 by omega,show(i-1+1).toNat=i.toNat by omega,List.take_succ,List.getElem?_eq_getElem h3,List.foldr_append]
   rw[uY ⟨h,h1⟩]
   rfl
  ·rw[if_neg (by simpa using h),show(i+1).toNat=0 by omega];rfl
def EN(c:Cf)(rs:List (List Hop))(ps:List PB):List zo:=(qW 0 rs.length).flatMap fun v=>w8 jd (VE c rs (dem ps) v)
theorem Wo{c:Cf}(hv:∀ r∈rs,VR c net r)(hl:rs.length<1000000000):wn rs (fun y0=>kE y0)=some false:=by
 unfold wn vh
 have hF:=w5
 generalize xI=N at hF ⊢
 have hf:∀ y∈rs,kE y=some false:=fun y hy=>by unfold kE;rw[(hv y hy).tree];rfl
 refine mb (P:=fun o=>(o.bind fun x=>some (decide (x>=0)))=some false) fun k hk=>?_
 rcases od (f:=fun y0=>kE y0) (k:=k) (fun y hy=>⟨false,hf y hy⟩) hl N 0 (by omega) (by omega) (by omega) with⟨i,i1,i2,i3,i4⟩ | ⟨i1,i2⟩
 ·rw[hf _ (wt i1 i2)] at i3;cases i3
 ·rw[i2,hk];rfl
theorem YW{c:Cf}{ps:List PB}(hS:Small c)(hv:∀ r∈rs,VR c net r)(hl:rs.length<=100)(hp:ps.length<=1000000):mu c rs ps=some (EN c rs ps):=by
 unfold mu
 rw[Wo hv (by omega),oB,if_neg (by simp)]
 refine vj (P:=fun o=>o=_) fun k hk=>?_
 have h1:=aU (k:=k) hp xI (((ps.length:Nat):Int)-1) [] (by omega) (by omega) (by rw[w5];omega)
 rw[xD (x:=((ps.length:Nat):Int)-1) (by omega),h1,hk,show(((ps.length:Nat):Int)-1+1).toNat=ps.length by omega,List.take_length]
 refine vj (P:=fun o=>o=_) fun k2 rv=>?_
 have h2:=YV (k:=k2) (de:=dem ps) hS (fun r hr=>by have:=(hv r hr).len;omega) hl xI 0 [] (by omega) (by omega) (by rw[w5];omega) (by simp)
 simp only[Int.toNat_zero,Nat.sub_zero,List.nil_append] at h2
 rw[show(ps.foldr (fun b m=>xM m (qx b) b.yj) ([]:DM))=dem ps from rfl,h2,rv]
 rfl
end
end Go.Proofs.YthjnhebofpebpaaGreat

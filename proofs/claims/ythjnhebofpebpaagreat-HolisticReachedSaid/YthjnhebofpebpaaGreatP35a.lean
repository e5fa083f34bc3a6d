/- A part of this claim's proof. No conditions. -/
import Derived.Test.YthjnhebofpebpaaGreatW36m
import Derived.Test.YthjnhebofpebpaaGreatZMem
set_option linter.all false
namespace Go.Proofs.YthjnhebofpebpaaGreat
open Go Go.RowKit Sep
section
variable {net:Int}
theorem gN{R:Type}{K:Option R}{F:Option R->Option R}{P:Option R->Prop}(h:∀ k:Option R,k=K->P (F k)):P (mZ K F):=h K rfl
theorem wA{R A0:Type}{K:A0->Option R}{F:(A0->Option R)->Option R}{P:Option R->Prop}(h:∀ k:A0->Option R,(∀ x0,k x0=K x0)->P (F k)):P (qI K F):=h K fun _=>rfl
theorem tc{R A0 A1:Type}{K:A0->A1->Option R}{F:(A0->A1->Option R)->Option R}{P:Option R->Prop}(h:∀ k:A0->A1->Option R,(∀ x0 x1,k x0 x1=K x0 x1)->P (F k)):P (sk K F):=h K fun _ _=>rfl
def QU(x y:Int):Int:=if x<y then -1 else if x>y then 1 else 0
theorem n4(x y:Int):qm x y=some (QU x y):=by
 unfold qm tM QU
 simp only[ne_eq,not_true_eq_false,decide_false,oB,Bool.false_eq_true,if_false,decide_eq_true_eq]
 by_cases h1:x<y
 ·simp[h1]
 ·by_cases h2:x>y
  ·simp[h1,h2]
  ·simp[h1,h2]
def oC:List Int->Int
 | []=>0
 | x::l=>if x≠0 then x else oC l
theorem KB{l:List Int}{k:Option Int}(hl:l.length<9000000000000000000):∀(n:Nat) (v:Int),0<=v->v<=l.length->l.length<n+v->
  mu l k n v=if oC (l.drop v.toNat)≠0 then some (oC (l.drop v.toNat)) else k
 | 0,v,h0,h1,h2=>by omega
 | n+1,v,h0,h1,h2=>by
  rw[mu]
  by_cases h:v<l.length
  ·rw[Nv h,xL ⟨h0,h⟩]
   have hd:l.drop v.toNat=nth l v::l.drop (v.toNat+1):=by
    have h3:v.toNat<l.length:=by omega
    rw[<- List.getElem_cons_drop h3]
    rw[sj (l:=l) h0 h]
   rw[hd,oC]
   by_cases hz:nth l v=0
   ·rw[if_neg (by simp[hz]),xQ (by omega),KB hl n (v+1) (by omega) (by omega) (by omega),show(v+1).toNat=v.toNat+1 by omega]
    simp only[hz,ne_eq,not_true_eq_false,if_false]
   ·rw[Nv hz,if_pos hz,if_pos hz]
  ·rw[Nw h,List.drop_eq_nil_of_le (by omega)]
   simp[oC]
theorem Gp{l:List Int}(hl:l.length<9000000000000000000:=by simp):uT l=some (oC l):=by
 unfold uT
 refine gN (P:=fun o=>o=some (oC l)) fun k hk=>?_
 rw[KB hl xR 0 (by omega) (by omega) (by rw[wi];omega),hk]
 simp only[Int.toNat_zero,List.drop_zero]
 by_cases h:oC l=0 <;> simp[h]
theorem kh{α:Type}[Inhabited α]{l:List α}{i:Int}(h:0<=i/\i<l.length):nth l i=l[i.toNat]'(by omega):=by
 exact(sj (l:=l) h.1 h.2).symm
theorem kd{α:Type}[Inhabited α]{l:List α}{v:Int}(h0:0<=v)(h:v<l.length):l.drop v.toNat=nth l v::l.drop (v.toNat+1):=by
 have h3:v.toNat<l.length:=by omega
 rw[<- List.getElem_cons_drop h3,sj (l:=l) h0 h]
abbrev Cf:=zu
abbrev Hop:=zd
def nM(c:Cf):Int:=c.fM.length
def nN(c:Cf):Int:=c.fM.length+c.fS.length
structure Small (c:Cf):Prop where
 m:c.fM.length<=1000
 s:c.fS.length<=1000
 l:c.fK.length<=1000
 v:c.yc.length<=1000
def sw(c:Cf)(n:Int):yu:=nth c.fS (n-nM c)
def Gq(c:Cf)(n:Int):ByteArray:=if n<0\/n>=nN c then⟨#[]⟩ else if n<nM c then(nth c.fM n).yB else(sw c n).yB
theorem QV{c:Cf}(h:Small c):kD c=some (nN c):=by
 have:=h.m;have:=h.s
 unfold kD nN
 rw[xQ (by omega)]
theorem Uo{c:Cf}(h:Small c)(n:Int)(hn : -1000000<=n/\n<=1000000):fJ c n=some (Gq c n):=by
 have:=h.m;have:=h.s
 unfold fJ Gq
 rw[QV h]
 by_cases h1:n<0
 ·simp[h1]
 ·rw[Nw h1]
  simp only[oB,decide_eq_true_eq]
  by_cases h2:n>=nN c
  ·rw[if_pos h2,if_pos (.inr h2)]
  ·rw[if_neg h2,if_neg (show ¬(n<0\/n>=nN c) by omega)]
   unfold nN nM at *
   by_cases h3:n<c.fM.length
   ·rw[if_pos h3,xL ⟨by omega,h3⟩,if_pos h3]
   ·rw[if_neg h3,xQ (by omega),xL ⟨by omega,by omega⟩,if_neg h3]
    rfl
theorem Vm{c:Cf}(h:Small c){nm:ByteArray}{k:Option Int}:∀(f:Nat) (v:Int),0<=v->v<=nN c->nN c<f+v->
  (∃ i:Int,0<=i/\i<nN c/\vW (nN c) c nm k f v=some i)\/vW (nN c) c nm k f v=k
 | 0,v,h0,h1,h2=>by omega
 | f+1,v,h0,h1,h2=>by
  have hb:nN c<=2000:=by have:=h.m;have:=h.s;unfold nN;omega
  rw[vW]
  by_cases h3:v<nN c
  ·rw[Nv h3,Uo h v (by omega)]
   simp only[oB,decide_eq_true_eq]
   by_cases h4:Gq c v=nm
   ·rw[if_pos h4];exact .inl ⟨v,h0,h3,rfl⟩
   ·rw[if_neg h4,xQ (by omega)]
    exact Vm h f (v+1) (by omega) (by omega) (by omega)
  ·rw[Nw h3];exact .inr rfl
theorem KC{c:Cf}(h:Small c)(nm:ByteArray):∃ i:Int,-1<=i/\i<nN c/\jb c nm=some i:=by
 unfold jb
 rw[QV h]
 have hF:=wi
 generalize xR=N at hF ⊢
 refine gN (P:=fun o=>∃ i:Int,-1<=i/\i<nN c/\o=some i) fun k hk=>?_
 have hb:0<=nN c/\nN c<=2000:=by have:=h.m;have:=h.s;unfold nN;omega
 simp only[oB]
 rcases Vm h (nm:=nm) (k:=k) N 0 (by omega) hb.1 (by omega) with⟨i,h1,h2,h3⟩ | h3
 ·exact⟨i,by omega,h2,h3⟩
 ·exact⟨-1,by omega,by omega,h3.trans hk⟩
def fA(c:Cf)(l:Int):Int:=(jb c (nth c.fK l).fA).getD (-1)
def fB(c:Cf)(l:Int):Int:=(jb c (nth c.fK l).fB).getD (-1)
theorem Q7{c:Cf}(h:Small c)(l:Int):jb c (nth c.fK l).fA=some (fA c l) /\ -1<=fA c l/\fA c l<nN c:=by
 obtain⟨i,h1,h2,h3⟩:=KC h (nth c.fK l).fA
 unfold fA;rw[h3];exact⟨rfl,h1,h2⟩
theorem Q8{c:Cf}(h:Small c)(l:Int):jb c (nth c.fK l).fB=some (fB c l) /\ -1<=fB c l/\fB c l<nN c:=by
 obtain⟨i,h1,h2,h3⟩:=KC h (nth c.fK l).fB
 unfold fB;rw[h3];exact⟨rfl,h1,h2⟩
def rt(c:Cf)(net n:Int):Prop:=0<=n/\(n<nM c\/(sw c n).yQ=net/\0<=(sw c n).yl/\(sw c n).yl<=1000/\0<=(sw c n).fT/\(sw c n).fT<=1073741824)
instance (c:Cf) (net n:Int):Decidable (rt c net n):=inferInstanceAs (Decidable (_/\_))
theorem KD{c:Cf}(h:Small c){n:Int}(hn : -1<=n/\n<nN c):uP c net n=some (decide (rt c net n)):=by
 have:=h.m;have:=h.s
 unfold uP
 unfold nN at hn
 by_cases h1:n<c.fM.length
 ·rw[Nv h1]
  refine congrArg some ?_
  rw[Bool.eq_iff_iff,decide_eq_true_iff,decide_eq_true_iff]
  unfold rt nM
  exact⟨fun h=>⟨h,.inl h1⟩,fun h=>h.1⟩
 ·rw[Nw h1,xQ (by omega),xL ⟨by omega,by omega⟩]
  refine congrArg some ?_
  rw[Bool.eq_iff_iff,decide_eq_true_iff]
  unfold rt sw nM
  simp only[Bool.and_eq_true,decide_eq_true_eq]
  constructor
  ·rintro⟨⟨⟨⟨a,b⟩,e⟩,d⟩,f⟩;exact⟨by omega,.inr ⟨a,b,e,d,f⟩⟩
  ·rintro⟨_,a | ⟨a,b,e,d,f⟩⟩
   ·exact absurd a h1
   ·exact⟨⟨⟨⟨a,b⟩,e⟩,d⟩,f⟩
def JN(c:Cf)(net link a b:Int):Prop:=0<=link/\link<c.fK.length/\(nth c.fK link).yQ=net/\1<=(nth c.fK link).yp/\(nth c.fK link).yp<=16/\fA c link≠fB c link/\
 rt c net (fA c link)/\rt c net (fB c link)/\(fA c link=a/\fB c link=b\/fA c link=b/\fB c link=a)
instance (c:Cf) (net link a b:Int):Decidable (JN c net link a b):=inferInstanceAs (Decidable (_/\_))
theorem Mt{c:Cf}(h:Small c)(net link a b:Int):tJ c net link a b=some (decide (JN c net link a b)):=by
 unfold tJ
 by_cases h1:link<0\/link>=c.fK.length
 ·rw[if_pos (by simpa using h1)]
  congr 1;symm
  rw[decide_eq_false_iff_not]
  rintro⟨a,b,_⟩;omega
 ·rw[if_neg (by simpa using h1),xL ⟨by omega,by omega⟩]
  obtain⟨a1,a2,a3⟩:=Q7 h link
  obtain⟨b1,b2,b3⟩:=Q8 h link
  rw[a1,b1]
  simp only[oB]
  rw[KD h ⟨a2,a3⟩,KD h ⟨b2,b3⟩]
  simp only[oB]
  by_cases h2:(nth c.fK link).yQ=net/\1<=(nth c.fK link).yp/\(nth c.fK link).yp<=16/\fA c link≠fB c link
  ·rw[if_pos (by simp only[Bool.and_eq_true,decide_eq_true_eq];exact⟨⟨⟨h2.1,h2.2.1⟩,h2.2.2.1⟩,h2.2.2.2⟩)]
   simp only[oB]
   by_cases h3:rt c net (fA c link)
   ·rw[Nv h3]
    simp only[oB]
    congr 1
    rw[Bool.eq_iff_iff]
    simp only[Bool.and_eq_true,Bool.or_eq_true,decide_eq_true_eq]
    constructor
    ·rintro⟨x,y⟩;exact⟨by omega,by omega,h2.1,h2.2.1,h2.2.2.1,h2.2.2.2,h3,x,y⟩
    ·rintro⟨_,_,_,_,_,_,_,x,y⟩;exact⟨x,y⟩
   ·rw[Nw h3]
    simp only[oB,Bool.false_and]
    congr 1;symm
    rw[decide_eq_false_iff_not]
    rintro⟨_,_,_,_,_,_,x,_⟩;exact h3 x
  ·rw[if_neg (by simp only[Bool.and_eq_true,decide_eq_true_eq];rintro⟨⟨⟨x,y⟩,z⟩,w⟩;exact h2 ⟨x,y,z,w⟩)]
   simp only[oB,Bool.false_eq_true,if_false,Bool.false_and]
   congr 1;symm
   rw[decide_eq_false_iff_not]
   rintro⟨_,_,x,y,z,w,_⟩;exact h2 ⟨x,y,z,w⟩
def RK(r:List Hop)(v k:Int):Prop:=k=(nth r 0).ya\/∃ q:Int,0<=q/\q<v/\(nth r q).fX=k
def n5(c:Cf)(net:Int)(r:List Hop)(v:Int):Prop:=
 RK r v (nth r v).ya/\¬RK r v (nth r v).fX/\((nth r v).ya=(nth r 0).ya\/nM c<=(nth r v).ya)/\JN c net (nth r v).fQ (nth r v).ya (nth r v).fX
structure VR (c:Cf) (net:Int) (r:List Hop):Prop where
 len:r.length<=32
 cond:∀ v:Int,0<=v->v<r.length->n5 c net r v
theorem ct{κ γ:Type}[DecidableEq κ]{k k':κ}{u d:γ}(h:k'≠k):∀(l:List (κ×γ)),xI (w6 l k u) k' d=xI l k' d
 | []=>by simp[w6,xI,h]
 | p::l=>by
  by_cases hk:k=p.1
  ·subst hk;simp[w6,xI,h]
  ·simp only[w6,hk,if_false,xI];rw[ct h l]
theorem lQ{κ γ:Type}[DecidableEq κ]{k:κ}{u d:γ}:∀(l:List (κ×γ)),xI (w6 l k u) k d=u
 | []=>by simp[w6,xI]
 | p::l=>by
  by_cases hk:k=p.1
  ·subst hk;simp[w6,xI]
  ·simp only[w6,hk,if_false,xI];exact lQ l
theorem XZ{c:Cf}(h:Small c){net:Int}{r:List Hop}{k:Option Bool}(hr:r.length<1000000000):∀(f:Nat) (v:Int) (mp:List (Int×Int)),0<=v->v<=r.length->r.length<f+v->
  (∀ x,0<=xI mp x 0/\xI mp x 0<=2*v/\(0<xI mp x 0↔0<v/\RK r v x))->
  ((∃ q:Int,v<=q/\q<r.length/\¬n5 c net r q)/\kJ r c net k f v mp=some false)\/((∀ q:Int,v<=q->q<r.length->n5 c net r q)/\kJ r c net k f v mp=k)
 | 0,v,mp,h0,h1,h2,h3=>by omega
 | f+1,v,mp,h0,h1,h2,h3=>by
  rw[kJ]
  by_cases hv:v<r.length
  ·rw[Nv hv,xL ⟨h0,hv⟩]
   refine wA (P:=fun o=>((∃ q:Int,v<=q/\q<r.length/\¬n5 c net r q)/\o=some false)\/((∀ q:Int,v<=q->q<r.length->n5 c net r q)/\o=k)) fun kk xH=>?_
   have hm:∃ Av,(if decide (v=0)=true then kk (w6 mp ((nth r v).ya) (i64 ((xI mp ((nth r v).ya) 0)+1))) else kk mp)=kk Av/\(∀ x,0<=xI Av x 0/\xI Av x 0<=2*v+1/\(0<xI Av x 0↔RK r v x)):=by
    by_cases CB:v=0
    ·subst CB
     rw[if_pos (by simp)]
     refine⟨_,rfl,fun x=>?_⟩
     have h4:=h3 (nth r 0).ya
     rw[xQ (by omega)]
     by_cases hx:x=(nth r 0).ya
     ·subst hx;rw[lQ]
      refine⟨by omega,by omega,fun _ => .inl rfl,fun _=>by omega⟩
     ·rw[ct hx]
      have h5:=h3 x
      refine⟨by omega,by omega,fun h6=>absurd (h5.2.2.1 h6).1 (by omega),fun h6=>?_⟩
      rcases h6 with h6 | ⟨q,q1,q2,_⟩
      ·exact absurd h6 hx
      ·omega
    ·rw[Nw CB]
     refine⟨mp,rfl,fun x=>?_⟩
     have h5:=h3 x
     exact⟨by omega,by omega,fun h6=>(h5.2.2.1 h6).2,fun h6=>h5.2.2.2 ⟨by omega,h6⟩⟩
   obtain⟨Av,e1,h4⟩:=hm
   rw[e1,xH,xL (fun _ hc=>⟨by omega,by omega⟩),Mt h]
   simp only[oB]
   have hN:=h4 (nth r v).ya
   have hX:=h4 (nth r v).fX
   have hc:∃ b,(if ((decide ((xI Av ((nth r v).ya) 0)=0))||(decide ((xI Av ((nth r v).fX) 0)>0))||((decide (v>0))&&(decide (((nth r v).ya)≠((nth r 0).ya)))&&(decide (((nth r v).ya)<((c.fM.length:Nat):Int)))))=true then some true else some (!decide (JN c net ((nth r v).fQ) ((nth r v).ya) ((nth r v).fX))))=some b/\(b=true↔¬n5 c net r v):=by
    by_cases hb:(decide ((xI Av ((nth r v).ya) 0)=0)||decide ((xI Av ((nth r v).fX) 0)>0)||(decide (v>0)&&decide (((nth r v).ya)≠((nth r 0).ya))&&decide (((nth r v).ya)<((c.fM.length:Nat):Int))))=true
    ·rw[if_pos hb]
     refine⟨true,rfl,fun _=>?_,fun _=>rfl⟩
     rintro⟨a1,a2,a3,_⟩
     simp only[Bool.or_eq_true,Bool.and_eq_true,decide_eq_true_eq] at hb
     rcases hb with(hb | hb) | ⟨⟨b1,b2⟩,b3⟩
     ·have:=hN.2.2.2 a1;omega
     ·exact a2 (hX.2.2.1 hb)
     ·unfold nM at a3;rcases a3 with a3 | a3
      ·exact b2 a3
      ·omega
    ·rw[if_neg hb]
     refine⟨_,rfl,?_⟩
     simp only[Bool.or_eq_true,Bool.and_eq_true,decide_eq_true_eq,not_or,not_and] at hb
     obtain⟨⟨b1,b2⟩,b3⟩:=hb
     have c1:RK r v (nth r v).ya:=hN.2.2.1 (by omega)
     have c2:¬RK r v (nth r v).fX:=fun hk=>b2 (hX.2.2.2 hk)
     have c3:(nth r v).ya=(nth r 0).ya\/nM c<=(nth r v).ya:=by
      unfold nM
      by_cases e:(nth r v).ya=(nth r 0).ya
      ·exact .inl e
      ·refine .inr ?_
       by_cases e0:v=0
       ·subst e0;exact absurd rfl e
       ·have:=b3 ⟨by omega,e⟩;omega
     simp only[Bool.not_eq_true',decide_eq_false_iff_not]
     exact⟨fun hj hc=>hj hc.2.2.2,fun hc hj=>hc ⟨c1,c2,c3,hj⟩⟩
   obtain⟨b,hb1,BK⟩:=hc
   rw[hb1]
   simp only[oB]
   by_cases hb:b=true
   ·rw[if_pos hb];exact .inl ⟨⟨v,Int.le_refl _,hv,BK.1 hb⟩,rfl⟩
   ·rw[if_neg hb]
    have hcv:n5 c net r v:=Classical.byContradiction fun hn=>hb (BK.2 hn)
    rw[xQ (x:=v+1) (by omega),xQ (by omega)]
    have D9:∀ x,0<=xI (w6 Av ((nth r v).fX) ((xI Av ((nth r v).fX) 0)+1)) x 0/\xI (w6 Av ((nth r v).fX) ((xI Av ((nth r v).fX) 0)+1)) x 0<=2*(v+1)/\(0<xI (w6 Av ((nth r v).fX) ((xI Av ((nth r v).fX) 0)+1)) x 0↔0<v+1/\RK r (v+1) x):=by
     intro x
     by_cases hx:x=(nth r v).fX
     ·subst hx;rw[lQ]
      exact⟨by omega,by omega,fun _=>⟨by omega,.inr ⟨v,h0,by omega,rfl⟩⟩,fun _=>by omega⟩
     ·rw[ct hx]
      have h5:=h4 x
      refine⟨by omega,by omega,fun h6=>⟨by omega,?_⟩,fun h6=>h5.2.2.2 ?_⟩
      ·rcases h5.2.2.1 h6 with h7 | ⟨q,q1,q2,q3⟩
       ·exact .inl h7
       ·exact .inr ⟨q,q1,by omega,q3⟩
      ·rcases h6.2 with h7 | ⟨q,q1,q2,q3⟩
       ·exact .inl h7
       ·by_cases e:q=v
        ·subst e;exact absurd q3.symm hx
        ·exact .inr ⟨q,q1,by omega,q3⟩
    rcases XZ h hr f (v+1) (w6 Av ((nth r v).fX) ((xI Av ((nth r v).fX) 0)+1)) (by omega) (by omega) (by omega) D9 (k:=k) (net:=net) with⟨⟨q,q1,q2,q3⟩,h5⟩ | ⟨h5,h6⟩
    ·exact .inl ⟨⟨q,by omega,q2,q3⟩,h5⟩
    ·refine .inr ⟨fun q q1 q2=>?_,h6⟩
     by_cases e:q=v
     ·rw[e];exact hcv
     ·exact h5 q (by omega) q2
  ·rw[Nw hv]
   exact .inr ⟨fun q h1 h2=>by omega,rfl⟩
theorem Xe{c:Cf}(h:Small c){r:List Hop}(hr:r.length<1000000000):∃ b,tK c net r=some b/\(b=true↔VR c net r):=by
 unfold tK
 have hF:=wi
 generalize xR=N at hF ⊢
 refine gN (P:=fun o=>∃ b,o=some b/\(b=true↔VR c net r)) fun k hk=>?_
 rcases XZ h hr N 0 [] (by omega) (by omega) (by omega) (fun x=>by simp[xI]) (k:=k) (net:=net) with⟨⟨q,q1,q2,q3⟩,h5⟩ | ⟨h5,h6⟩
 ·refine⟨false,h5,?_⟩
  simp only[Bool.false_eq_true,false_iff]
  exact fun hv=>q3 (hv.cond q q1 q2)
 ·refine⟨_,h6.trans hk,?_⟩
  rw[decide_eq_true_eq]
  exact⟨fun hl=>⟨by omega,h5⟩,fun hv=>by have:=hv.len;omega⟩
theorem dg{l:List (List Hop)}{f:List Hop->Option Bool}{k:Option Int}(hf:∀ y∈l,∃ b,f y=some b)(hl:l.length<1000000000):∀(n:Nat) (v:Int),0<=v->v<=l.length->l.length<n+v->
  (∃ i:Int,v<=i/\i<l.length/\f (nth l i)=some true/\wr l f k n v=some i)\/((∀ i:Int,v<=i->i<l.length->f (nth l i)=some false)/\wr l f k n v=k)
 | 0,v,h0,h1,h2=>by omega
 | n+1,v,h0,h1,h2=>by
  rw[wr]
  by_cases h:v<l.length
  ·rw[Nv h,xL ⟨h0,h⟩]
   obtain⟨b,hb⟩:=hf _ (wp h0 h)
   rw[hb]
   simp only[oB]
   cases b with
   | true=>exact .inl ⟨v,Int.le_refl _,h,hb,by simp⟩
   | false=>
    simp only[Bool.false_eq_true,if_false]
    rw[xQ (x:=v+1) (by omega)]
    rcases dg hf hl n (v+1) (by omega) (by omega) (by omega) (k:=k) with⟨i,i1,i2,i3,i4⟩ | ⟨i1,i2⟩
    ·exact .inl ⟨i,by omega,i2,i3,i4⟩
    ·refine .inr ⟨fun i j1 j2=>?_,i2⟩
     by_cases e:i=v
     ·rw[e];exact hb
     ·exact i1 i (by omega) j2
  ·rw[Nw h]
   exact .inr ⟨fun i h1 h2=>by omega,rfl⟩
structure VA (c:Cf) (net:Int) (rs:List (List Hop)):Prop where
 nt:net=0\/net=1
 len:rs.length=c.yc.length
 most:rs.length<=16
 each:∀ r∈rs,VR c net r
theorem cY{c:Cf}(h:Small c){rs:List (List Hop)}(hr:∀ r∈rs,r.length<1000000000)(hl:rs.length<1000000000):∃ b,kE c net rs=some b/\(b=true↔VA c net rs):=by
 unfold kE
 by_cases h1:(net=0\/net=1)/\rs.length=c.yc.length/\rs.length<=16
 ·rw[if_pos (by simp only[Bool.and_eq_true,Bool.or_eq_true,decide_eq_true_eq];omega)]
  unfold wN qy
  have hF:=wi
  generalize xR=N at hF ⊢
  have hf:∀ y∈rs,∃ b,(fun(y0:List Hop)=>vX y0 c net) y=some b:=fun y hy=>by
   obtain⟨b,hb,_⟩:=Xe h (net:=net) (hr y hy)
   exact⟨!b,by show vX y c net=_;unfold vX;rw[hb];rfl⟩
  have hi:∃ x:Int,(mZ (some (-1)) fun k=>wr rs (fun(y0:List Hop)=>vX y0 c net) k N 0)=some x/\(x<0↔∀ i:Int,0<=i->i<rs.length->vX (nth rs i) c net=some false):=by
   refine gN (P:=fun o=>∃ x:Int,o=some x/\(x<0↔∀ i:Int,0<=i->i<rs.length->vX (nth rs i) c net=some false)) fun k hk=>?_
   rcases dg hf hl N 0 (by omega) (by omega) (by omega) (k:=k) with⟨i,i1,i2,i3,i4⟩ | ⟨i1,i2⟩
   ·refine⟨i,i4,fun hx=>absurd hx (by omega),fun hx=>?_⟩
    have:=hx i i1 i2
    have i3':vX (nth rs i) c net=some true:=i3
    rw[this] at i3';cases i3'
   ·exact⟨-1,i2.trans hk,fun _=>i1,fun _=>by omega⟩
  obtain⟨x,hx1,hx2⟩:=hi
  rw[hx1]
  refine⟨_,rfl,?_⟩
  simp only[Bool.not_eq_true',decide_eq_false_iff_not]
  have zK:(∀ i:Int,0<=i->i<rs.length->vX (nth rs i) c net=some false)↔∀ r∈rs,VR c net r:=by
   constructor
   ·intro hh r zq
    obtain⟨i,hi,rfl⟩:=List.getElem_of_mem zq
    have h3:=hh (i:Int) (by omega) (by omega)
    rw[kh ⟨by omega,by omega⟩] at h3
    simp only[Int.toNat_natCast] at h3
    obtain⟨b,hb,BK⟩:=Xe h (net:=net) (hr _ (List.getElem_mem hi))
    unfold vX at h3
    rw[hb] at h3
    simp at h3
    exact BK.1 h3
   ·intro hh i i1 i2
    have hm:=wp i1 i2
    obtain⟨b,hb,BK⟩:=Xe h (net:=net) (hr _ hm)
    unfold vX
    rw[hb,BK.2 (hh _ hm)];rfl
  constructor
  ·intro hh;exact⟨h1.1,h1.2.1,h1.2.2,zK.1 (hx2.1 (by omega))⟩
  ·intro hh;have:=hx2.2 (zK.2 hh.each);omega
 ·rw[if_neg (by simp only[Bool.and_eq_true,Bool.or_eq_true,decide_eq_true_eq];omega)]
  refine⟨false,rfl,?_⟩
  simp only[Bool.false_eq_true,false_iff]
  exact fun hv=>h1 ⟨hv.nt,hv.len,hv.most⟩
structure FewP (c:Cf) (rs:List (List Hop)):Prop where
 m:c.fM.length<=8
 s:c.fS.length<=8
 l:c.fK.length<=20
 v:c.yc.length<=20
 r:rs.length<=20
 e:∀ r∈rs,r.length<=40
theorem FewP.small{c:Cf}{rs:List (List Hop)}(h:FewP c rs):Small c:=⟨by have:=h.m;omega,by have:=h.s;omega,by have:=h.l;omega,by have:=h.v;omega⟩
theorem QW{rs:List (List Hop)}{k:Option Bool}(hl:rs.length<=20):∀(n:Nat) (v:Int),0<=v->v<=rs.length->rs.length<n+v->
  mT rs k n v=if ∀ r∈rs.drop v.toNat,r.length<=40 then k else some false
 | 0,v,h0,h1,h2=>by omega
 | n+1,v,h0,h1,h2=>by
  rw[mT]
  by_cases h:v<rs.length
  ·rw[Nv h,xL ⟨h0,h⟩,kd h0 h]
   by_cases hr:(((nth rs v).length:Nat):Int)>40
   ·rw[Nv hr,if_neg]
    intro hc;have:=hc (nth rs v) (by simp);omega
   ·rw[Nw hr,xQ (x:=v+1) (by omega),QW hl n (v+1) (by omega) (by omega) (by omega),show(v+1).toNat=v.toNat+1 by omega]
    by_cases hq:∀ r∈rs.drop (v.toNat+1),r.length<=40
    ·rw[if_pos hq,if_pos]
     intro r hr'
     rcases List.mem_cons.1 hr' with rfl | hr'
     ·omega
     ·exact hq r hr'
    ·rw[if_neg hq,if_neg]
     exact fun hc=>hq fun r hr'=>hc r (List.mem_cons_of_mem _ hr')
  ·rw[Nw h,if_pos]
   rw[List.drop_eq_nil_of_le (by omega)];simp
theorem T5(c:Cf)(rs:List (List Hop)):∃ b,ob c rs=some b/\(b=true↔FewP c rs):=by
 unfold ob
 by_cases h:c.fM.length<=8/\c.fS.length<=8/\c.fK.length<=20/\c.yc.length<=20/\rs.length<=20
 ·obtain⟨h1,h2,h3,h4,h5⟩:=h
  rw[if_neg (by simp only[Bool.or_eq_true,Bool.and_eq_true,decide_eq_true_eq];omega)]
  refine gN (P:=fun o=>∃ b,o=some b/\(b=true↔FewP c rs)) fun k hk=>?_
  rw[QW h5 xR 0 (by omega) (by omega) (by rw[wi];omega),hk]
  simp only[Int.toNat_zero,List.drop_zero]
  by_cases hq:∀ r∈rs,r.length<=40
  ·rw[if_pos hq];exact⟨true,rfl,by simp;exact⟨h1,h2,h3,h4,h5,hq⟩⟩
  ·rw[if_neg hq];exact⟨false,rfl,by simp;exact fun hc=>hq hc.e⟩
 ·rw[if_pos (by simp only[Bool.or_eq_true,Bool.and_eq_true,decide_eq_true_eq];omega)]
  refine⟨false,rfl,by simp;exact fun hc=>h ⟨hc.m,hc.s,hc.l,hc.v,hc.r⟩⟩
end
section
variable {r:List Hop}{rs:List (List Hop)}
theorem Up{RR A0 A1 A2:Type}{K:A0->A1->A2->Option RR}{F:(A0->A1->A2->Option RR)->Option RR}{P:Option RR->Prop}(h:∀ k:A0->A1->A2->Option RR,(∀ x0 x1 x2,k x0 x1 x2=K x0 x1 x2)->P (F k)):P (Va K F):=h K fun _ _ _=>rfl
theorem n6{κ γ:Type}[DecidableEq κ]{k k':κ}{u:γ}:∀ l:List (κ×γ),vH (w6 l k u) k'=(decide (k'=k)||vH l k')
 | []=>by simp[w6,vH]
 | p::l=>by
  by_cases hk:k=p.1
  ·subst hk
   by_cases h2:k'=p.1 <;> simp[w6,vH,h2]
  ·simp only[w6,hk,if_false,vH,n6 l]
   by_cases h2:k'=p.1
   ·simp[h2]
   ·simp[h2]
theorem l7{κ γ:Type}[DecidableEq κ]{k:κ}{u:γ}:∀ l:List (κ×γ),(w6 l k u).map (·.1)=if k∈l.map (·.1) then l.map (·.1) else l.map (·.1)++[k]
 | []=>by simp[w6]
 | p::l=>by
  by_cases hk:k=p.1
  ·subst hk;simp[w6]
  ·simp only[w6,hk,if_false,List.map_cons,l7 l,List.mem_cons,false_or]
   by_cases h:k∈l.map (·.1) <;> simp[h]
theorem gW{κ γ:Type}[DecidableEq κ]{k k':κ}{u d:γ}(l:List (κ×γ)):xI (w6 l k u) k' d=if k'=k then u else xI l k' d:=by
 by_cases h:k'=k
 ·subst h;rw[lQ,if_pos rfl]
 ·rw[ct h,if_neg h]
theorem aJ{α:Type}{p:α->α->Option Int}{lt:α->α->Prop}{l0:List α}(hp:∀ x∈l0,∀ y∈l0,rz p x y<=0↔¬lt y x)(zm:∀ x y,lt x y->¬lt y x)(DJ:∀ x y z,¬lt y x->¬lt z y->¬lt z x){x:α}(hx:x∈l0):∀ l:List α,(∀ y∈l,y∈l0)->(l.Pairwise fun a b=>¬lt b a)->(pM p x l).Pairwise fun a b=>¬lt b a
 | [],_,_=>by simp[pM]
 | y::l,hl,h=>by
  obtain⟨h1,h2⟩:=List.pairwise_cons.1 h
  unfold pM
  split
  ·rename_i hxy
   have hxy:=(hp x hx y (hl y (by simp))).1 hxy
   refine List.pairwise_cons.2 ⟨fun z hz=>?_,h⟩
   rcases List.mem_cons.1 hz with rfl | hz
   ·exact hxy
   ·exact DJ _ _ _ hxy (h1 z hz)
  ·rename_i hxy
   have hyx:lt y x:=by
    by_cases hc:lt y x
    ·exact hc
    ·exact absurd ((hp x hx y (hl y (by simp))).2 hc) hxy
   refine List.pairwise_cons.2 ⟨fun z hz=>?_,aJ hp zm DJ hx l (fun z hz=>hl z (List.mem_cons_of_mem _ hz)) h2⟩
   rcases List.mem_cons.1 ((eB _ x l).mem_iff.1 hz) with rfl | hz
   ·exact zm _ _ hyx
   ·exact h1 z hz
theorem nL{α:Type}{p:α->α->Option Int}{lt:α->α->Prop}{l0:List α}(hp:∀ x∈l0,∀ y∈l0,rz p x y<=0↔¬lt y x)(zm:∀ x y,lt x y->¬lt y x)(DJ:∀ x y z,¬lt y x->¬lt z y->¬lt z x):∀ l:List α,(∀ y∈l,y∈l0)->(wx p l).Pairwise fun a b=>¬lt b a
 | [],_=>by simp[wx]
 | x::l,hl=>by
  unfold wx
  exact aJ hp zm DJ (hl x (by simp)) _ (fun y hy=>hl y (List.mem_cons_of_mem _ ((jS p l).mem_iff.1 hy))) (nL hp zm DJ l fun y hy=>hl y (List.mem_cons_of_mem _ hy))
theorem Yd{α:Type}[DecidableEq α]{p:α->α->Option Int}{lt:α->α->Prop}{l:List α}(hp:∀ x∈l,∀ y∈l,∃ v,p x y=some v/\(v<0↔lt x y)/\(v<=0↔¬lt y x))(zm:∀ x y,lt x y->¬lt y x)(DJ:∀ x y z,¬lt y x->¬lt z y->¬lt z x)(zV:∀ x∈l,∀ y∈l,¬lt x y->¬lt y x->x=y):oq p (wx p l)=true/\(wx p l).Pairwise fun a b=>¬lt b a:=by
 have hc:∀ x∈l,∀ y∈l,p x y=some (rz p x y)/\(rz p x y<0↔lt x y)/\(rz p x y<=0↔¬lt y x):=fun x hx y hy=>by
  obtain⟨v,h1,h2,h3⟩:=hp x hx y hy
  unfold rz;rw[h1];exact⟨rfl,h2,h3⟩
 have hm:∀ x∈wx p l,x∈l:=fun x hx=>(jS p l).mem_iff.1 hx
 have hs:=nL (fun x hx y hy=>(hc x hx y hy).2.2) zm DJ l (fun y hy=>hy)
 refine⟨?_,hs⟩
 simp only[oq,Bool.and_eq_true,List.all_eq_true,Bool.not_eq_true',decide_eq_false_iff_not,eC]
 refine⟨fun x hx=>⟨fun y hy=>by rw[(hc x (hm x hx) y (hm y hy)).1];rfl,fun h=>?_⟩,?_⟩
 ·have:=((hc x (hm x hx) x (hm x hx)).2.1).1 h;exact zm _ _ this this
 ·refine List.Pairwise.imp_of_mem ?_ hs
  intro x y hx hy hxy
  rw[(hc x (hm x hx) y (hm y hy)).2.1,(hc y (hm y hy) x (hm x hx)).2.1]
  by_cases h:lt x y
  ·exact .inr ⟨h,hxy⟩
  ·exact .inl (zV x (hm x hx) y (hm y hy) h hxy)
theorem n7(n:Nat)(h:n<4611686018427387904:=by omega):Go.Lib.bitLen n<=62:=Go.Lib.bitLen_le n 62 (by omega) (by omega)
theorem Ye{x:Int}(h:0<=x/\x<=18446744073709551615:=by omega):u64 x=x:=by
 unfold u64 IntKind.wrap;simp[IntKind.signed,IntKind.bits];omega
abbrev Pl:=z6
def pk(h:Hop):Pl:=⟨h.ya,h.fQ⟩
theorem of_eq(h:Hop):mt h=some (pk h):=rfl
def p7(a b:Pl):Prop:=a.ya<b.ya\/a.ya=b.ya/\a.fQ<b.fQ
theorem W0(a b:Pl):∃ v,vS a b=some v/\(v<0↔p7 a b)/\(v<=0↔¬p7 b a):=by
 unfold vS
 simp only[n4,oB]
 rw[Gp]
 refine⟨_,rfl,?_⟩
 unfold oC oC oC QU p7
 repeat' split
 all_goals first | omega | (constructor <;> omega)
theorem Xf(x y:Pl):p7 x y->¬p7 y x:=by unfold p7;omega
theorem QX(x y z:Pl):¬p7 y x->¬p7 z y->¬p7 z x:=by unfold p7;omega
theorem W1{x y:Pl}(h1:¬p7 x y)(h2:¬p7 y x):x=y:=by
 unfold p7 at h1 h2
 obtain⟨a,b⟩:=x;obtain⟨c,d⟩:=y
 simp only at h1 h2
 have:a=c:=by omega
 have:b=d:=by omega
 subst_vars;rfl
theorem QY{l:List Pl}(hs:l.length<=1000000):
  qc l (fun y0 y1=>vS y0 y1)=some (wx vS l)/\(wx vS l).Pairwise fun a b=>¬p7 b a:=by
 obtain⟨ho,BN⟩:=Yd (p:=vS) (l:=l) (fun x _ y _=>W0 x y) Xf QX (fun x _ y _=>W1 (x:=x) (y:=y))
 refine⟨?_,BN⟩
 unfold qc fj gG
 rw[Ye,xL (by omega),oB]
 have hb:=n7 l.length
 rw[Int.toNat_natCast,xL ⟨⟨rfl,rfl⟩,by omega,by omega,by omega⟩,xL ho,oB]
theorem YD{l:List Pl}{v:Pl}{k:Option Int}(hl:l.length<1000000000):∀(n:Nat) (i:Int),0<=i->i<=l.length->l.length<n+i->
  (v∈l.drop i.toNat/\∃ j:Int,0<=j/\wz l v k n i=some j)\/(v∉l.drop i.toNat/\wz l v k n i=k)
 | 0,i,h0,h1,h2=>by omega
 | n+1,i,h0,h1,h2=>by
  rw[wz]
  by_cases h:i<l.length
  ·rw[Nv h,xL ⟨h0,h⟩,kd h0 h]
   have e:(⟨(nth l i).ya,(nth l i).fQ⟩:z6)=nth l i:=rfl
   rw[e]
   by_cases hv:v=nth l i
   ·rw[Nv hv]
    exact .inl ⟨by rw[hv];simp,i,h0,rfl⟩
   ·rw[Nw hv,xQ (x:=i+1) (by omega)]
    have e2:(i+1).toNat=i.toNat+1:=by omega
    rcases YD hl n (i+1) (by omega) (by omega) (by omega) (v:=v) (k:=k) with⟨h3,h4⟩ | ⟨h3,h4⟩
    ·rw[e2] at h3;exact .inl ⟨List.mem_cons_of_mem _ h3,h4⟩
    ·rw[e2] at h3
     refine .inr ⟨fun hc=>?_,h4⟩
     rcases List.mem_cons.1 hc with hc | hc
     ·exact hv hc
     ·exact h3 hc
  ·rw[Nw h,List.drop_eq_nil_of_le (by omega)]
   exact .inr ⟨by simp,rfl⟩
theorem QZ{l:List Pl}{v:Pl}(hl:l.length<1000000000):qb l v=some (decide (v∈l)):=by
 unfold qb jp
 have hF:=wi
 generalize xR=N at hF ⊢
 refine gN (P:=fun o=>(o.bind fun x=>some (decide (x>=0)))=some (decide (v∈l))) fun k hk=>?_
 rcases YD hl N 0 (by omega) (by omega) (by omega) (v:=v) (k:=k) with⟨h1,j,h2,h3⟩ | ⟨h1,h2⟩
 ·rw[h3];simp only[Int.toNat_zero,List.drop_zero] at h1
  simp[h1,h2]
 ·rw[h2,hk];simp only[Int.toNat_zero,List.drop_zero] at h1
  simp[h1]
def ru(l:List Pl)(h:Hop):List Pl:=if pk h∈l then l else l++[pk h]
theorem n8(hs:List Hop)(l:List Pl):(hs.foldl ru l).length<=l.length+hs.length:=by
 induction hs generalizing l with
 | nil=>simp
 | cons h hs ih=>
  have:=ih (ru l h)
  have h2:(ru l h).length<=l.length+1:=by unfold ru;split <;> simp
  simp only[List.foldl_cons,List.length_cons];omega
theorem Vn{hs:List Hop}(l:List Pl)(hn:l.Nodup):(hs.foldl ru l).Nodup/\∀ p,p∈hs.foldl ru l↔p∈l\/∃ h∈hs,pk h=p:=by
 induction hs generalizing l with
 | nil=>simp[hn]
 | cons h hs ih=>
  have h2:(ru l h).Nodup/\∀ p,p∈ru l h↔p∈l\/pk h=p:=by
   unfold ru
   split
   ·rename_i hc
    refine⟨hn,fun p=>⟨.inl,?_⟩⟩
    rintro(h | rfl)
    ·exact h
    ·exact hc
   ·rename_i hc
    refine⟨List.nodup_append.2 ⟨hn,by simp,fun a ha b hb=>?_⟩,fun p=>by simp[eq_comm]⟩
    simp at hb;subst hb;exact fun e=>hc (e▸ha)
  obtain⟨i1,i2⟩:=ih _ h2.1
  refine⟨i1,fun p=>?_⟩
  rw[List.foldl_cons,i2,h2.2]
  simp only[List.mem_cons,exists_eq_or_imp,or_assoc]
theorem Vo{rs:List (List Hop)}{v:Int}{k:List Pl->Option (List Pl)}(hr:(nth rs v).length<=1000)(h0:0<=v)(hv:v<rs.length):∀(n:Nat) (o:List Pl) (i:Int),0<=i->i<=(nth rs v).length->(nth rs v).length<n+i->(o.length:Int)+((nth rs v).length-i)<=1000000->
  gR rs v k n o i=k (((nth rs v).drop i.toNat).foldl ru o)
 | 0,o,i,a0,a1,a2,a3=>by omega
 | n+1,o,i,a0,a1,a2,a3=>by
  rw[gR]
  by_cases h:i<(nth rs v).length
  ·rw[Nv h,kd a0 h,List.foldl_cons]
   refine wA (P:=fun x=>x=_) fun kk xH=>?_
   rw[xL ⟨a0,h⟩]
   have e:(⟨(nth (nth rs v) i).ya,(nth (nth rs v) i).fX,(nth (nth rs v) i).fQ⟩:zd)=nth (nth rs v) i:=rfl
   rw[e,of_eq,oB,QZ (by omega),oB]
   have e2:(i+1).toNat=i.toNat+1:=by omega
   have eW:(ru o (nth (nth rs v) i)).length<=o.length+1:=by unfold ru;split <;> simp
   have Bn:kk (ru o (nth (nth rs v) i))=k (((nth rs v).drop (i.toNat+1)).foldl ru (ru o (nth (nth rs v) i))):=by
    rw[xH,xQ (x:=i+1) (by omega),Vo hr h0 hv n _ (i+1) (by omega) (by omega) (by omega) (by omega),e2]
   by_cases hc:pk (nth (nth rs v) i)∈o
   ·rw[if_neg (by simpa using hc),<- Bn]
    unfold ru;rw[if_pos hc]
   ·rw[if_pos (by simpa using hc),oB,xL (by simp;omega),<- Bn]
    unfold ru;rw[if_neg hc]
  ·rw[Nw h,List.drop_eq_nil_of_le (by omega)];rfl
def n9(rs:List (List Hop)):List Hop:=rs.flatten
theorem W2{rs:List (List Hop)}{k:List Pl->Option (List Pl)}(hr:∀ r∈rs,r.length<=1000)(hl:rs.length<=100):∀(n:Nat) (o:List Pl) (v:Int),0<=v->v<=rs.length->rs.length<n+v->(o.length:Int)+1000*(rs.length-v)<=1000000->
  gS rs k n o v=k ((n9 (rs.drop v.toNat)).foldl ru o)
 | 0,o,i,a0,a1,a2,a3=>by omega
 | n+1,o,v,a0,a1,a2,a3=>by
  rw[gS]
  by_cases h:v<rs.length
  ·have Cl:=hr _ (wp a0 h)
   rw[Nv h,kd a0 h]
   unfold n9
   rw[List.flatten_cons,List.foldl_append]
   refine wA (P:=fun x=>x=_) fun kk xH=>?_
   rw[xL ⟨a0,h⟩]
   refine wA (P:=fun x=>x=_) fun k2 qh=>?_
   rw[Vo Cl a0 h xR o 0 (by omega) (by omega) (by rw[wi];omega) (by omega)]
   simp only[Int.toNat_zero,List.drop_zero]
   have:=n8 (nth rs v) o
   rw[qh,xH,xQ (x:=v+1) (by omega),W2 hr hl n _ (v+1) (by omega) (by omega) (by omega) (by omega),show(v+1).toNat=v.toNat+1 by omega]
   rfl
  ·rw[Nw h,List.drop_eq_nil_of_le (by omega)];rfl
def PS(rs:List (List Hop)):List Pl:=wx vS ((n9 rs).foldl ru [])
theorem lR(rs:List (List Hop)):(PS rs).Nodup:=(jS _ _).nodup_iff.2 (Vn [] (by simp)).1
theorem sG(rs:List (List Hop)){p:Pl}:p∈PS rs↔∃ r∈rs,∃ h∈r,pk h=p:=by
 unfold PS
 rw[(jS _ _).mem_iff,(Vn [] (by simp)).2]
 unfold n9
 simp only[List.not_mem_nil,false_or,List.mem_flatten]
 exact⟨fun⟨h,⟨r,hr,hh⟩,e⟩=>⟨r,hr,h,hh,e⟩,fun⟨r,hr,h,hh,e⟩=>⟨h,⟨r,hr,hh⟩,e⟩⟩
theorem Xg{m:Nat}(hr:∀ r∈rs,r.length<=m):(n9 rs).length<=rs.length*m:=by
 unfold n9
 induction rs with
 | nil=>simp
 | cons r rs ih=>
  have:=ih fun r h=>hr r (List.mem_cons_of_mem _ h)
  have h1:=hr r (by simp)
  rw[List.flatten_cons,List.length_append,List.length_cons,Nat.succ_mul];omega
theorem aK{m:Nat}(hr:∀ r∈rs,r.length<=m):(PS rs).length<=rs.length*m:=by
 unfold PS
 rw[tv]
 have:=n8 (n9 rs) []
 have:=Xg hr
 simp at *;omega
theorem Fe(hr:∀ r∈rs,r.length<=1000)(hl:rs.length<=100):sr rs=some (PS rs):=by
 unfold sr
 refine wA (P:=fun o=>o=some (PS rs)) fun k hk=>?_
 rw[W2 hr hl xR [] 0 (by omega) (by omega) (by rw[wi];omega) (by simp;omega),hk]
 simp only[Int.toNat_zero,List.drop_zero]
 have h1:=n8 (n9 rs) []
 have h2:=Xg hr
 have h3:rs.length*1000<=100*1000:=Nat.mul_le_mul_right _ hl
 rw[(QY (by simp at h1;omega)).1]
 rfl
def gj(r:List Hop)(n:Int):Hop×Bool:=match r.find? (fun h=>decide (h.fX=n)) with | some h=>(h,true) | none=>(⟨0,0,0⟩,false)
theorem dT{n:Int}(h:(gj r n).2=true):(gj r n).1∈r/\(gj r n).1.fX=n:=by
 unfold gj at *
 split at h
 ·rename_i x hx
  simp only[hx]
  exact⟨List.mem_of_find?_eq_some hx,by simpa using List.find?_some hx⟩
 ·cases h
theorem J0{g:Hop}(h:g∈r):(gj r g.fX).2=true:=by
 unfold gj
 split
 ·rfl
 ·rename_i hx
  have:=List.find?_eq_none.1 hx g h
  simp at this
theorem YF{r:List Hop}{f:Hop->Option Bool}{p:Hop->Bool}{k:Option Int}(hf:∀ h∈r,f h=some (p h))(hl:r.length<1000000000):∀(n:Nat) (i:Int),0<=i->i<=r.length->r.length<n+i->
  (∃ j:Int,0<=j/\j<r.length/\(r.drop i.toNat).find? p=some (nth r j)/\wG r f k n i=some j)\/((r.drop i.toNat).find? p=none/\wG r f k n i=k)
 | 0,i,h0,h1,h2=>by omega
 | n+1,i,h0,h1,h2=>by
  rw[wG]
  by_cases h:i<r.length
  ·rw[Nv h,xL ⟨h0,h⟩,kd h0 h]
   have e:(⟨(nth r i).ya,(nth r i).fX,(nth r i).fQ⟩:zd)=nth r i:=rfl
   rw[e,hf _ (wp h0 h),oB]
   by_cases hp:p (nth r i)=true
   ·rw[if_pos hp,List.find?_cons_of_pos hp];exact .inl ⟨i,h0,h,rfl,rfl⟩
   ·rw[if_neg hp,List.find?_cons_of_neg hp,xQ (x:=i+1) (by omega)]
    have e2:(i+1).toNat=i.toNat+1:=by omega
    rw[<- e2]
    exact YF hf hl n (i+1) (by omega) (by omega) (by omega)
  ·rw[Nw h,List.drop_eq_nil_of_le (by omega)]
   exact .inr ⟨rfl,rfl⟩
theorem bQ{f:Hop->Option Bool}{p:Hop->Bool}(hf:∀ h∈r,f h=some (p h))(hl:r.length<1000000000):
  (∃ j:Int,0<=j/\j<r.length/\r.find? p=some (nth r j)/\wC r f=some j)\/(r.find? p=none/\wC r f=some (-1)):=by
 unfold wC
 have hF:=wi
 generalize xR=N at hF ⊢
 refine gN (P:=fun o=>(∃ j:Int,0<=j/\j<r.length/\r.find? p=some (nth r j)/\o=some j)\/(r.find? p=none/\o=some (-1))) fun k hk=>?_
 have:=YF hf hl N 0 (by omega) (by omega) (by omega) (k:=k)
 simp only[Int.toNat_zero,List.drop_zero] at this
 rw[hk] at this ⊢
 exact this
theorem WR{n:Int}(hl:r.length<1000000000):uU r n=some (gj r n):=by
 unfold uU gj
 rcases bQ (r:=r) (f:=fun y0=>ss y0 n) (p:=fun h=>decide (h.fX=n)) (fun h _=>rfl) hl with⟨j,j0,j1,j2,j3⟩ | ⟨j2,j3⟩
 ·rw[j3,j2,oB,if_neg (by simpa using j0),xL ⟨j0,j1⟩]
 ·rw[j3,j2,oB];rfl
theorem J1{f:Hop->Option Bool}{p:Hop->Bool}(hf:∀ h∈r,f h=some (p h))(hl:r.length<1000000000):vC r f=some (r.any p):=by
 unfold vC
 rcases bQ hf hl with⟨j,j0,j1,j2,j3⟩ | ⟨j2,j3⟩
 ·rw[j3,oB,decide_eq_true j0]
  rw[eq_comm,Option.some.injEq,eq_comm,eq_comm,List.any_eq_true]
  exact⟨_,wp j0 j1,List.find?_some j2⟩
 ·rw[j3,oB]
  have:r.any p=false:=by
   rw[List.any_eq_false];exact List.find?_eq_none.1 j2
  rw[this];rfl
end
section
variable {p:Pl}{mp:List (Pl×Int)}{rs:List (List Hop)}
def Xh(r:List Hop)(p:Pl)(mp:List (Pl×Int))(h:Hop):Bool:=(decide (pk h=p)&&(gj r h.ya).2)&&decide (xI mp (pk (gj r h.ya).1) 0=0)
theorem Gr{r:List Hop}{h:Hop}(hl:r.length<1000000000):uy h r p mp=some (Xh r p mp h):=by
 unfold uy Xh
 rw[WR hl,of_eq,oB,oB]
 by_cases hc:(decide (pk h=p)&&(gj r h.ya).2)=true
 ·rw[if_pos hc,of_eq,hc];rfl
 ·rw[if_neg hc];simp only[Bool.not_eq_true] at hc;rw[hc];rfl
theorem KE{s r:List Hop}{p:Pl}{mp:List (Pl×Int)}{k:Option Int}(hr:r.length<1000000000)(hl:s.length<1000000000):∀(n:Nat) (i:Int),0<=i->i<=s.length->s.length<n+i->
  ((s.drop i.toNat).any (Xh r p mp)=true/\∃ j:Int,0<=j/\wD s r p mp k n i=some j)\/((s.drop i.toNat).any (Xh r p mp)=false/\wD s r p mp k n i=k)
 | 0,i,h0,h1,h2=>by omega
 | n+1,i,h0,h1,h2=>by
  rw[wD]
  by_cases h:i<s.length
  ·rw[Nv h,xL ⟨h0,h⟩,kd h0 h]
   have e:(⟨(nth s i).ya,(nth s i).fX,(nth s i).fQ⟩:zd)=nth s i:=rfl
   rw[e,Gr hr,oB,List.any_cons]
   cases hb:Xh r p mp (nth s i) with
   | true=>rw[if_pos rfl];exact .inl ⟨rfl,i,h0,rfl⟩
   | false=>
    rw[if_neg (by simp),Bool.false_or,xQ (x:=i+1) (by omega)]
    have e2:(i+1).toNat=i.toNat+1:=by omega
    rw[<- e2]
    exact KE hr hl n (i+1) (by omega) (by omega) (by omega)
  ·rw[Nw h,List.drop_eq_nil_of_le (by omega)]
   exact .inr ⟨rfl,rfl⟩
def aL(p:Pl)(mp:List (Pl×Int))(r:List Hop):Bool:=r.any (Xh r p mp)
theorem Ff{r:List Hop}(hl:r.length<1000000000):tO r p mp=some (aL p mp r):=by
 unfold tO jc jz
 have hF:=wi
 generalize xR=N at hF ⊢
 refine gN (P:=fun o=>((o.bind fun x=>some (decide (x>=0))).bind fun x=>some x)=some (aL p mp r)) fun k hk=>?_
 have:=KE (s:=r) (r:=r) (p:=p) (mp:=mp) (k:=k) hl hl N 0 (by omega) (by omega) (by omega)
 simp only[Int.toNat_zero,List.drop_zero] at this
 unfold aL
 rcases this with⟨h1,j,h2,h3⟩ | ⟨h1,h2⟩
 ·rw[h3,h1];simp[h2]
 ·rw[h2,hk,h1];simp
theorem KF{s:List (List Hop)}{p:Pl}{mp:List (Pl×Int)}{k:Option Int}(hr:∀ r∈s,r.length<1000000000)(hl:s.length<1000000000):∀(n:Nat) (i:Int),0<=i->i<=s.length->s.length<n+i->
  ((s.drop i.toNat).any (aL p mp)=true/\∃ j:Int,0<=j/\wy s p mp k n i=some j)\/((s.drop i.toNat).any (aL p mp)=false/\wy s p mp k n i=k)
 | 0,i,h0,h1,h2=>by omega
 | n+1,i,h0,h1,h2=>by
  rw[wy]
  by_cases h:i<s.length
  ·rw[Nv h,xL ⟨h0,h⟩,kd h0 h]
   rw[Ff (hr _ (wp h0 h)),oB,List.any_cons]
   cases hb:aL p mp (nth s i) with
   | true=>rw[if_pos rfl];exact .inl ⟨rfl,i,h0,rfl⟩
   | false=>
    rw[if_neg (by simp),Bool.false_or,xQ (x:=i+1) (by omega)]
    have e2:(i+1).toNat=i.toNat+1:=by omega
    rw[<- e2]
    exact KF hr hl n (i+1) (by omega) (by omega) (by omega)
  ·rw[Nw h,List.drop_eq_nil_of_le (by omega)]
   exact .inr ⟨rfl,rfl⟩
def wm(rs:List (List Hop))(mp:List (Pl×Int))(p:Pl):Bool:=rs.any (aL p mp)
theorem T6(hr:∀ r∈rs,r.length<1000000000)(hl:rs.length<1000000000):vZ rs p mp=some (wm rs mp p):=by
 unfold vZ jd
 have hF:=wi
 generalize xR=N at hF ⊢
 refine gN (P:=fun o=>(o.bind fun x=>some (decide (x>=0)))=some (wm rs mp p)) fun k hk=>?_
 have:=KF (s:=rs) (p:=p) (mp:=mp) (k:=k) hr hl N 0 (by omega) (by omega) (by omega)
 simp only[Int.toNat_zero,List.drop_zero] at this
 unfold wm
 rcases this with⟨h1,j,h2,h3⟩ | ⟨h1,h2⟩
 ·rw[h3,h1];simp[h2]
 ·rw[h2,hk,h1];simp
def aM(rs:List (List Hop))(p q:Pl):Prop:=∃ r∈rs,∃ h∈r,pk h=p/\(gj r h.ya).2=true/\pk (gj r h.ya).1=q
theorem WT:wm rs mp p=true↔∃ q,aM rs p q/\xI mp q 0=0:=by
 unfold wm aL Xh aM
 simp only[List.any_eq_true,Bool.and_eq_true,decide_eq_true_eq]
 constructor
 ·rintro⟨r,hr,h,hh,⟨e,i⟩,z⟩;exact⟨_,⟨r,hr,h,hh,e,i,rfl⟩,z⟩
 ·rintro⟨q,⟨r,hr,h,hh,e,i,rfl⟩,z⟩;exact⟨r,hr,h,hh,⟨e,i⟩,z⟩
theorem aM.mem{q:Pl}(h:aM rs p q):q∈PS rs:=by
 obtain⟨r,hr,h,hh,e,i,rfl⟩:=h
 exact(sG rs).2 ⟨r,hr,_,(dT i).1,rfl⟩
abbrev OR:=List z6×Int
theorem J2{eN out:List Pl}{rs:List (List Hop)}{mp:List (Pl×Int)}{k1:List Pl->List Pl->List (Pl×Int)->Option OR}{k2:Option OR}(hr:∀ r∈rs,r.length<1000000000)(hl:rs.length<1000000000)(hs:eN.length+out.length<=1000000):∀(n:Nat) (v:Int),0<=v->v<=eN.length->eN.length<n+v->
  (∃(l1:List Pl) (p:Pl) (l2:List Pl),eN=l1++p::l2/\wm rs mp p=false/\gt eN rs mp out k1 k2 n v=k1 (l1++l2) (out++[p]) (w6 mp p (i64 (xI mp p 0+1)))) \/
  ((∀ p∈eN.drop v.toNat,wm rs mp p=true)/\gt eN rs mp out k1 k2 n v=k2)
 | 0,v,h0,h1,h2=>by omega
 | n+1,v,h0,h1,h2=>by
  rw[gt]
  by_cases h:v<eN.length
  ·rw[Nv h,xL ⟨h0,h⟩]
   have e:(⟨(nth eN v).ya,(nth eN v).fQ⟩:z6)=nth eN v:=rfl
   rw[e,T6 hr hl,oB]
   cases hb:wm rs mp (nth eN v) with
   | false=>
    rw[if_pos (by rfl),xL (by simp;omega)]
    refine .inl ⟨eN.take v.toNat,nth eN v,eN.drop (v.toNat+1),?_,hb,?_⟩
    ·rw[<- kd h0 h,List.take_append_drop]
    ·unfold l3
     rw[xQ (x:=v+1) (by omega),xL (by omega),oB,show(v+1).toNat=v.toNat+1 by omega]
   | true=>
    rw[if_neg (by simp),xQ (x:=v+1) (by omega)]
    have e2:(v+1).toNat=v.toNat+1:=by omega
    rcases J2 hr hl hs n (v+1) (by omega) (by omega) (by omega) (k1:=k1) (k2:=k2) (mp:=mp) with h3 | ⟨h3,h4⟩
    ·exact .inl h3
    ·refine .inr ⟨?_,h4⟩
     rw[kd h0 h,<- e2]
     intro p hp
     rcases List.mem_cons.1 hp with rfl | hp
     ·exact hb
     ·exact h3 p hp
  ·rw[Nw h,List.drop_eq_nil_of_le (by omega)]
   exact .inr ⟨by simp,rfl⟩
def qC(rs:List (List Hop))(l:List Pl):Prop:=∀ l1 p l2,l=l1++p::l2->∀ q,aM rs p q->q∈l1
def bR(rs:List (List Hop))(s:List Pl):Prop:=s≠[]/\∀ p∈s,p∈PS rs/\∃ q∈s,aM rs p q
theorem W3{rs:List (List Hop)}{k:List Pl->Option OR}(hr:∀ r∈rs,r.length<1000000000)(hl:rs.length<1000000000)(hp:(PS rs).length<=1000000):∀(n:Nat) (eN out:List Pl) (mp:List (Pl×Int)),eN.length<n->
  (eN++out).Perm (PS rs)->(∀ q,xI mp q 0=if q∈out then 1 else 0)->qC rs out->
  (∃ l,l.Perm (PS rs)/\qC rs l/\gv rs k n eN out mp=k l)\/(∃ s,bR rs s/\gv rs k n eN out mp=some ([],351))
 | 0,eN,out,mp,h0,h1,h2,h3=>by omega
 | n+1,eN,out,mp,h0,h1,h2,h3=>by
  rw[gv]
  have eW:=h1.length_eq
  rw[List.length_append] at eW
  have Aq:(eN++out).Nodup:=h1.nodup_iff.2 (lR rs)
  by_cases h:eN.length>0
  ·rw[if_pos (by simpa using h)]
   refine Up (P:=fun o=>(∃ l,l.Perm (PS rs)/\qC rs l/\o=k l)\/(∃ s,bR rs s/\o=some ([],351))) fun k1 w5=>?_
   refine gN (P:=fun o=>(∃ l,l.Perm (PS rs)/\qC rs l/\o=k l)\/(∃ s,bR rs s/\o=some ([],351))) fun k2 qh=>?_
   rcases J2 hr hl (show eN.length+out.length<=1000000 by omega) xR 0 (by omega) (by omega) (by rw[wi];omega) (k1:=k1) (k2:=k2) (mp:=mp) with⟨l1,p,l2,e1,e2,e3⟩ | ⟨e1,e2⟩
   ·subst e1
    have hpo:p∉out:=fun hc=>by
     have:=(List.nodup_append.1 Aq).2.2 p (by simp) p hc;exact this rfl
    rw[e3,w5]
    have hm:xI mp p 0=0:=by rw[h2,if_neg hpo]
    rw[hm,xQ (by omega)]
    refine W3 hr hl hp n _ _ _ (by simp at h0 ⊢;omega) ?_ ?_ ?_
    ·refine List.Perm.trans ?_ h1
     rw[<- List.append_assoc]
     refine(List.perm_append_comm).trans ?_
     simp only[List.singleton_append,List.append_assoc,List.cons_append]
     refine List.Perm.trans ?_ (List.perm_middle (l₁:=l1)).symm
     simp
    ·intro q
     rw[gW,h2]
     by_cases hq:q=p
     ·subst hq;simp
     ·simp[hq]
    ·intro a q b zJ q' C9
     rcases List.append_eq_append_iff.1 zJ with⟨w,hw1,AD⟩ | ⟨w,hw1,AD⟩
     ·-- the last one
      cases w with
      | nil=>
       simp at AD hw1
       obtain⟨rfl,rfl⟩:=AD
       subst hw1
       by_cases hc:xI mp q' 0=0
       ·exact absurd (WT.2 ⟨q',C9,hc⟩) (by rw[e2];simp)
       ·rw[h2] at hc
        by_cases zj:q'∈a
        ·exact zj
        ·rw[if_neg zj] at hc;exact absurd rfl hc
      | cons x w=>simp at AD
     ·cases w with
      | nil=>
       simp at AD hw1
       obtain⟨rfl,rfl⟩:=AD
       subst hw1
       by_cases hc:xI mp q' 0=0
       ·exact absurd (WT.2 ⟨q',C9,hc⟩) (by rw[e2];simp)
       ·rw[h2] at hc
        by_cases zj:q'∈out
        ·exact zj
        ·rw[if_neg zj] at hc;exact absurd rfl hc
      | cons x w=>
       rw[List.cons_append] at AD
       injection AD with hx AD
       subst hx
       exact h3 a q w hw1 q' C9
   ·refine .inr ⟨eN,⟨by rintro rfl;simp at h,fun p hp=>⟨h1.subset (by simp[hp]),?_⟩⟩,by rw[e2,qh]⟩
    obtain⟨q,hq,hz⟩:=WT.1 (e1 p (by simpa using hp))
    refine⟨q,?_,hq⟩
    have hm:=h1.symm.subset hq.mem
    rcases List.mem_append.1 hm with hm | hm
    ·exact hm
    ·rw[h2,if_pos hm] at hz;omega
  ·rw[if_neg (by simpa using h)]
   have:eN=[]:=List.eq_nil_of_length_eq_zero (by omega)
   subst this
   exact .inl ⟨out,h1,h3,rfl⟩
theorem J3(hr:∀ r∈rs,r.length<=1000)(hl:rs.length<=100):
  (∃ l,l.Perm (PS rs)/\qC rs l/\ur rs=some (l,0))\/(∃ s,bR rs s/\ur rs=some ([],351)):=by
 unfold ur
 have Eo:=aK hr
 have h3:rs.length*1000<=100*1000:=Nat.mul_le_mul_right _ hl
 rw[Fe hr hl,oB]
 refine wA (P:=fun o:Option OR=>(∃ l,l.Perm (PS rs)/\qC rs l/\o=some (l,0))\/(∃ s,bR rs s/\o=some ([],351))) fun k hk=>?_
 rcases W3 (k:=k) (fun r h=>by have:=hr r h;omega) (by omega) (by omega) xR (PS rs) [] [] (by rw[wi];omega) (by simp) (by simp[xI]) (fun l1 p l2 h=>by simp at h) with⟨l,e1,e2,e3⟩ | ⟨s,e1,e2⟩
 ·exact .inl ⟨l,e1,e2,by rw[e3,hk]⟩
 ·exact .inr ⟨s,e1,e2⟩
end
section
variable {net:Int}{rs:List (List Hop)}
theorem tB{α:Type}[Inhabited α]{l:List α}{x:α}(h:x∈l):∃ i:Int,0<=i/\i<l.length/\nth l i=x:=by
 obtain⟨i,hi,rfl⟩:=List.getElem_of_mem h
 refine⟨(i:Int),by omega,by omega,?_⟩
 rw[kh ⟨by omega,by omega⟩];rfl
theorem VR.uniq{c:Cf}{r:List Hop}(h:VR c net r){x y:Hop}(hx:x∈r)(hy:y∈r)(e:x.fX=y.fX):x=y:=by
 obtain⟨i,i0,i1,rfl⟩:=tB hx
 obtain⟨j,j0,j1,rfl⟩:=tB hy
 rcases Int.lt_trichotomy i j with k | k | k
 ·exact absurd (.inr ⟨i,i0,k,e⟩) (h.cond j j0 j1).2.1
 ·rw[k]
 ·exact absurd (.inr ⟨j,j0,k,e.symm⟩) (h.cond i i0 i1).2.1
theorem VR.into{c:Cf}{r:List Hop}(h:VR c net r){g:Hop}(hg:g∈r):gj r g.fX=(g,true):=by
 have h1:=J0 hg
 obtain⟨h2,h3⟩:=dT h1
 exact Prod.ext (h.uniq h2 hg h3) h1
def Edg(rs:List (List Hop))(a b:Pl):Prop:=∃ r∈rs,∃ g∈r,∃ h∈r,g.fX=h.ya/\pk g=a/\pk h=b
theorem Fg{c:Cf}(hv:VA c net rs){a b:Pl}:Edg rs a b↔aM rs b a:=by
 constructor
 ·rintro⟨r,hr,g,hg,h,hh,e,rfl,rfl⟩
  refine⟨r,hr,h,hh,rfl,?_⟩
  rw[<- e,(hv.each r hr).into hg];exact⟨rfl,rfl⟩
 ·rintro⟨r,hr,h,hh,rfl,e,rfl⟩
  obtain⟨h2,h3⟩:=dT e
  exact⟨r,hr,_,h2,h,hh,h3,rfl,rfl⟩
theorem Edg.left{a b:Pl}(h:Edg rs a b):a∈PS rs:=by
 obtain⟨r,hr,g,hg,h,hh,e,rfl,rfl⟩:=h;exact(sG rs).2 ⟨r,hr,g,hg,rfl⟩
theorem Edg.right{a b:Pl}(h:Edg rs a b):b∈PS rs:=by
 obtain⟨r,hr,g,hg,h,hh,e,rfl,rfl⟩:=h;exact(sG rs).2 ⟨r,hr,h,hh,rfl⟩
end
section
abbrev R:=z2
variable {x:R}
theorem cZ{x:Int}(h:0<=x/\x<=18446744073709551615:=by omega):u64 x=x:=by
 unfold u64 IntKind.wrap;simp[IntKind.signed,IntKind.bits];omega
theorem Yf{n:Int}(h:-9223372036854775808<=n/\n<=9223372036854775807:=by omega):tP n=some (n.natAbs:Int):=by
 unfold tP
 by_cases hn:n<0
 ·rw[if_pos (by simpa using hn)]
  rw[xQ (x:=n+1) (by omega),xQ (x:=0-(n+1)) (by omega),cZ (x:=0-(n+1)),cZ]
  congr 1;omega
 ·rw[Nw hn,cZ]
  congr 1;omega
theorem J4(x y:Nat):Int.tmod (x:Int) (y:Int)=((x % y:Nat):Int):=rfl
theorem J5{k:Int->Option Int}:∀(m n x y:Nat),y<2 ^ m->2*m<n->jq k n x y=k (Nat.gcd x y:Nat)
 | 0,n+1,x,y,hy,_=>by
  have:y=0:=by omega
  subst this
  rw[jq];simp
 | m+1,n+2,x,y,hy,hn=>by
  rw[jq]
  by_cases h0:y=0
  ·subst h0;simp
  ·rw[if_pos (by simpa using h0),xL (by simpa using h0),J4]
   rw[jq]
   have hg:Nat.gcd x y=Nat.gcd y (x % y):=by rw[Nat.gcd_comm x y,Nat.gcd_rec,Nat.gcd_comm]
   by_cases h1:x % y=0
   ·rw[h1] at hg ⊢;simp[hg]
   ·have Bs:((x % y:Nat):Int)≠0:=fun h=>h1 (by exact_mod_cast h)
    rw[Nv Bs,xL Bs,J4]
    have hr:x % y<y:=Nat.mod_lt _ (by omega)
    have D7:Nat.gcd y (x % y)=Nat.gcd (x % y) (y % (x % y)):=by rw[Nat.gcd_comm y (x % y),Nat.gcd_rec,Nat.gcd_comm]
    rw[J5 m n (x % y) (y % (x % y)) ?_ (by omega),hg,D7]
    have h2:y % (x % y)<x % y:=Nat.mod_lt _ (by omega)
    have h3:2*(y % (x % y))<=y:=by
     have h4:=Nat.div_add_mod y (x % y)
     have h5:1<=y / (x % y):=(Nat.one_le_div_iff (by omega)).2 (by omega)
     have h6:x % y*1<=x % y*(y / (x % y)):=Nat.mul_le_mul_left _ h5
     omega
    have h7:2 ^ (m+1)=2*2 ^ m:=by rw[Nat.pow_succ,Nat.mul_comm]
    omega
theorem Fh{x y:Nat}(hy:y<2 ^ 64):mU x y=some ((Nat.gcd x y:Nat):Int):=by
 unfold mU
 simp only[qI]
 exact J5 64 xR x y hy (by rw[wi];omega)
def fits(q:Rat):Bool:=decide (q.num.natAbs<=1073741824/\q.den<=1073741824)
def p8(q:Rat):R:=⟨q.num,(q.den:Int)⟩
def val(x:R):Rat:=Rat.divInt x.fN x.fD
def V(x:R):Bool:=decide (1<=x.fD/\x.fD<=1073741824 /\ -1073741824<=x.fN/\x.fN<=1073741824/\Nat.gcd x.fN.natAbs x.fD.natAbs=1)
theorem cu(q:Rat):val (p8 q)=q:=Rat.num_divInt_den q
theorem nb{q:Rat}(h:fits q=true):V (p8 q)=true:=by
 simp only[fits,decide_eq_true_eq] at h
 have hr:=q.reduced
 have hd:=q.den_pos
 unfold V p8
 rw[decide_eq_true_eq]
 refine⟨by show(1:Int)<=(q.den:Int);omega,by show(q.den:Int)<=1073741824;omega,by show _<=q.num;omega,by show q.num<=_;omega,hr⟩
theorem W4(h:V x=true):(val x).num=x.fN/\((val x).den:Int)=x.fD:=by
 simp only[V,decide_eq_true_eq] at h
 obtain⟨h1,h2,h3,h4,h5⟩:=h
 have hg:Int.gcd x.fD x.fN=1:=by rw[Int.gcd,Nat.gcd_comm];exact h5
 constructor
 ·rw[val,Rat.num_divInt,hg,Int.sign_eq_one_of_pos (by omega)];simp
 ·rw[val,Rat.den_divInt,hg,if_neg (by omega)];simp;omega
theorem WU(h:V x=true):p8 (val x)=x:=by
 obtain⟨h1,h2⟩:=W4 h
 simp only[p8,h1,h2]
theorem KG{y:R}(hx:V x=true)(hy:V y=true)(h:val x=val y):x=y:=by rw[<- WU hx,<- WU hy,h]
def mk(q:Rat):R×Int:=if fits q then(p8 q,0) else(⟨0,0⟩,3)
theorem dU{n d:Int}(hd:d≠0)(h:n.natAbs<=4611686018427387904/\d.natAbs<=4611686018427387904:=by omega):uF n d=some (mk (Rat.divInt n d)):=by
 unfold uF
 rw[Nw hd,Yf,Yf,oB,oB,Fh (by omega),oB]
 have hg:0<Nat.gcd n.natAbs d.natAbs:=Nat.gcd_pos_of_pos_right _ (by omega)
 rw[xL (by omega)]
 have hn:=Nat.div_le_self n.natAbs (Nat.gcd n.natAbs d.natAbs)
 have hdd:=Nat.div_le_self d.natAbs (Nat.gcd n.natAbs d.natAbs)
 have en:u64 (Int.tdiv (n.natAbs:Int) (Nat.gcd n.natAbs d.natAbs:Nat))=((n.natAbs / Nat.gcd n.natAbs d.natAbs:Nat):Int):=cZ (h:=⟨Int.natCast_nonneg _,by
  show((n.natAbs / Nat.gcd n.natAbs d.natAbs:Nat):Int)<=_
  omega⟩)
 have ed:u64 (Int.tdiv (d.natAbs:Int) (Nat.gcd n.natAbs d.natAbs:Nat))=((d.natAbs / Nat.gcd n.natAbs d.natAbs:Nat):Int):=cZ (h:=⟨Int.natCast_nonneg _,by
  show((d.natAbs / Nat.gcd n.natAbs d.natAbs:Nat):Int)<=_
  omega⟩)
 rw[en,ed]
 have hG:Int.gcd d n=Nat.gcd n.natAbs d.natAbs:=by rw[Int.gcd,Nat.gcd_comm]
 have qd:(Rat.divInt n d).den=d.natAbs / Nat.gcd n.natAbs d.natAbs:=by rw[Rat.den_divInt,if_neg hd,hG]
 have qn:(Rat.divInt n d).num=if (decide (n<0)) != (decide (d<0)) then -((n.natAbs / Nat.gcd n.natAbs d.natAbs:Nat):Int) else((n.natAbs / Nat.gcd n.natAbs d.natAbs:Nat):Int):=by
  rw[Rat.num_divInt,hG]
  have hdv:(Nat.gcd n.natAbs d.natAbs:Int) ∣ (n.natAbs:Int):=Int.natCast_dvd_natCast.2 (Nat.gcd_dvd_left _ _)
  rcases Int.lt_or_le n 0 with h1 | h1 <;> rcases Int.lt_or_le d 0 with h2 | h2
  ·rw[Int.sign_eq_neg_one_of_neg h2,show(-1:Int)*n=(n.natAbs:Int) by omega]
   simp[h1,h2]
  ·rw[Int.sign_eq_one_of_pos (by omega),show(1:Int)*n = -(n.natAbs:Int) by omega,Int.neg_ediv_of_dvd hdv]
   have DK:¬d<0:=by omega
   simp[h1,DK]
  ·rw[Int.sign_eq_neg_one_of_neg h2,show(-1:Int)*n = -(n.natAbs:Int) by omega,Int.neg_ediv_of_dvd hdv]
   have Bs:¬n<0:=by omega
   simp[h2,Bs]
  ·rw[Int.sign_eq_one_of_pos (by omega),show(1:Int)*n=(n.natAbs:Int) by omega]
   have Bs:¬n<0:=by omega
   have DK:¬d<0:=by omega
   simp[DK,Bs]
 generalize hA:n.natAbs / Nat.gcd n.natAbs d.natAbs=A at *
 generalize hB:d.natAbs / Nat.gcd n.natAbs d.natAbs=B at *
 have hqn:(Rat.divInt n d).num.natAbs=A:=by rw[qn];split <;> omega
 unfold mk fits
 rw[hqn,qd]
 by_cases hf:A<=1073741824/\B<=1073741824
 ·rw[if_neg (by simp;omega)]
  simp only[qI,hf,and_self,decide_true,if_true]
  rw[xQ (x:=(A:Int)) (by omega),xQ (x:=(B:Int)) (by omega),xQ (by omega)]
  unfold p8
  rw[qd,qn]
  split <;> simp
 ·rw[if_pos (by simp;omega)]
  simp only[hf,decide_false]
  rfl
theorem qD(x:R):qG x=some (V x):=by
 unfold qG V
 by_cases h:(x.fD>=1/\x.fD<=1073741824/\x.fN>=(-1073741824)/\x.fN<=1073741824)
 ·rw[if_pos (by simp;omega),Yf,Yf,oB,oB,Fh (by omega),oB,oB]
  congr 1
  rw[Bool.eq_iff_iff]
  simp only[decide_eq_true_eq]
  omega
 ·rw[if_neg (by simp;omega),oB]
  congr 1
  symm
  rw[decide_eq_false_iff_not]
  omega
end
section
theorem iP{a b:Int}(ha:a.natAbs<=1073741824)(hb:b.natAbs<=1073741824):(a*b).natAbs<=1152921504606846976:=by
 rw[Int.natAbs_mul]
 exact Nat.mul_le_mul ha hb
theorem iQ{x:R}(h:V x=true):x.fN.natAbs<=1073741824/\x.fD.natAbs<=1073741824/\1<=x.fD:=by
 simp only[V,decide_eq_true_eq] at h;omega
theorem Mu{x y:R}(hx:V x=true)(hy:V y=true):x.fD*y.fD≠0:=Int.mul_ne_zero (by have:=iQ hx;omega) (by have:=iQ hy;omega)
theorem J6{x y:R}(hx:V x=true)(hy:V y=true):vR x y=some (mk (val x+val y)):=by
 have bx:=iQ hx;have b2:=iQ hy
 have h1:=iP bx.1 b2.2.1;have h2:=iP b2.1 bx.2.1;have h3:=iP bx.2.1 b2.2.1
 unfold vR ik c5
 rw[qD,qD,hx,hy]
 simp only[oB,Bool.not_true,Bool.false_eq_true,if_false]
 rw[xQ (x:=x.fN*y.fD) (by omega),xQ (x:=y.fN*x.fD) (by omega),xQ (by omega),xQ (by omega),dU (Mu hx hy)]
 rw[val,val,Rat.divInt_add_divInt _ _ (by omega) (by omega)]
 rfl
theorem W5{x y:R}(hx:V x=true)(hy:V y=true):ju x y=some (mk (val x-val y)):=by
 have bx:=iQ hx;have b2:=iQ hy
 have h1:=iP bx.1 b2.2.1;have h2:=iP b2.1 bx.2.1;have h3:=iP bx.2.1 b2.2.1
 unfold ju ip c7
 rw[qD,qD,hx,hy]
 simp only[oB,Bool.not_true,Bool.false_eq_true,if_false]
 rw[xQ (x:=x.fN*y.fD) (by omega),xQ (x:=y.fN*x.fD) (by omega),xQ (by omega),xQ (by omega),dU (Mu hx hy)]
 rw[val,val,Rat.divInt_sub_divInt _ _ (by omega) (by omega)]
 rfl
theorem J7{x y:R}(hx:V x=true)(hy:V y=true):gw x y=some (mk (val x*val y)):=by
 have bx:=iQ hx;have b2:=iQ hy
 have h1:=iP bx.1 b2.1;have h3:=iP bx.2.1 b2.2.1
 unfold gw cQ c4
 rw[qD,qD,hx,hy]
 simp only[oB,Bool.not_true,Bool.false_eq_true,if_false]
 rw[xQ (by omega),xQ (by omega),dU (Mu hx hy)]
 rw[val,val,Rat.divInt_mul_divInt]
 rfl
theorem W6{x y:R}(hx:V x=true)(hy:V y=true)(h0:y.fN≠0):f0 x y=some (mk (val x / val y)):=by
 have bx:=iQ hx;have b2:=iQ hy
 have h1:=iP bx.1 b2.2.1;have h3:=iP bx.2.1 b2.1
 unfold f0 ir c8
 rw[qD,qD,hx,hy]
 simp only[oB,Bool.not_true,Bool.false_or,decide_eq_true_eq,h0,if_false,Bool.false_eq_true]
 rw[xQ (by omega),xQ (by omega),dU (Int.mul_ne_zero (by omega) h0)]
 rw[val,val,Rat.div_def,Rat.inv_divInt,Rat.divInt_mul_divInt]
 rfl
def rv(p q:Rat):Int:=if p<q then -1 else if q<p then 1 else 0
theorem Fi{x y:R}(hx:V x=true)(hy:V y=true):val x<val y↔x.fN*y.fD<y.fN*x.fD:=by
 rw[Rat.lt_iff,(W4 hx).1,(W4 hx).2,(W4 hy).1,(W4 hy).2]
theorem iC{x y:R}(hx:V x=true)(hy:V y=true):q8 x y=some (rv (val x) (val y)):=by
 have bx:=iQ hx;have b2:=iQ hy
 have h1:=iP bx.1 b2.2.1;have h2:=iP b2.1 bx.2.1
 unfold q8 rv
 rw[qD,qD,hx,hy]
 simp only[oB,Bool.not_true,Bool.false_eq_true,if_false,decide_eq_true_eq]
 rw[xQ (x:=x.fN*y.fD) (by omega),xQ (x:=y.fN*x.fD) (by omega)]
 simp only[Fi hx hy,Fi hy hx]
 by_cases h:x.fN*y.fD<y.fN*x.fD
 ·simp[h]
 ·by_cases h':y.fN*x.fD<x.fN*y.fD <;> simp[h,h']
theorem Yg{p q:Rat}:rv p q<=0↔p<=q:=by unfold rv;grind
theorem pS{p q:Rat}:rv p q<0↔p<q:=by unfold rv;grind
theorem Xi{p q:Rat}(h:p<=q):p<q\/p=q:=by grind
theorem Fj(p:Rat):rv p p=0:=by unfold rv;simp[Rat.lt_irrefl]
abbrev B:=z8
def GR(x:R):Bool:=V x&&decide (0<=x.fN)
def GB(b:B):Bool:=GR b.yi&&GR b.fR
def bq(b:B):Rat:=val b.yi
def rq(b:B):Rat:=val b.fR
theorem rU{x:R}(h:GR x=true):V x=true:=by simp[GR] at h;exact h.1
theorem nf{b:B}(h:GB b=true):GR b.yi=true:=by simp[GB] at h;exact h.1
theorem aN{b:B}(h:GB b=true):GR b.fR=true:=by simp[GB] at h;exact h.2
theorem Yh(x:R):uV x=some (GR x):=by unfold uV GR;rw[qD,oB]
theorem Fk(b:B):ui b=some (!GB b):=by
 unfold ui GB
 rw[Yh,Yh]
 cases GR b.yi <;> simp
theorem Vp{s:List B}{f:B->Option Bool}{p:B->Bool}(hf:∀ x∈s,f x=some (p x))(hs:(s.length:Int)<=4611686018427387000):q7 s f=some (s.any p):=
 nF (XB (L:=fun k=>vg s f k) (fun _ _ _=>rfl) hf hs)
theorem Kb{s:List B}{v:B}(hs:(s.length:Int)<=4611686018427387000):js s v=some (s.any fun x=>decide (v=x)):=
 nF (XB (L:=fun k=>vN s v k) (f:=fun x=>some (decide (v=x))) (fun _ _ _=>rfl) (fun _ _=>rfl) hs)
def VC(c:List B):Bool:=decide (1<=c.length/\c.length<=32)&&c.all GB
theorem rM(c:List B):mH c=some (VC c):=by
 unfold mH VC
 by_cases h:1<=c.length/\c.length<=32
 ·rw[if_pos (by simp;omega),Vp (p:=fun b => !GB b) (fun x _=>Fk x) (by omega)]
  simp only[oB,h,and_self,decide_true,Bool.true_and]
  congr 1
  rw[List.all_eq_not_any_not]
 ·rw[if_neg (by simp;omega)]
  simp[h]
theorem aO{c:List B}(h:VC c=true):∀ b∈c,GB b=true:=by simp[VC] at h;exact h.2
theorem W7{c:List B}(h:VC c=true):1<=c.length/\c.length<=32:=by simp[VC] at h;omega
def iU(a b:B):Bool:=decide (a≠b)&&decide (bq a<=bq b)&&decide (rq a<=rq b)
theorem J8{a b:B}(ha:GB a=true)(hb:GB b=true):uz a b=some (iU a b):=by
 unfold uz iU
 rw[iC (rU (nf ha)) (rU (nf hb)),iC (rU (aN ha)) (rU (aN hb))]
 have e1:decide (rv (val a.yi) (val b.yi)<=0)=decide (bq a<=bq b):=decide_eq_decide.2 Yg
 have e2:decide (rv (val a.fR) (val b.fR)<=0)=decide (rq a<=rq b):=decide_eq_decide.2 Yg
 by_cases zJ:a≠b
 ·rw[if_pos (by simpa using zJ),oB,oB,e1]
  by_cases h1:bq a<=bq b
  ·rw[if_pos (by simpa using h1),oB,e2];simp[zJ,h1]
  ·rw[Nw h1,oB];simp[h1]
 ·rw[Nw zJ];simp[zJ]
def lS(c:List B)(out:List B)(v:B):List B:=if (!(out.any fun x=>decide (v=x)) && !(c.any fun a=>iU a v))=true then out++[v] else out
theorem Fl{c:List B}{k:List B->Option (List B)}(hc:∀ b∈c,GB b=true)(hs:(c.length:Int)<=1000000):
  ∀(n:Nat) (out:List B) (i:Int),0<=i->i<=c.length->c.length-i<n->(out.length:Int)<=i->mv c k n out i=k ((c.drop i.toNat).foldl (lS c) out):=by
 intro n
 induction n with
 | zero=>intro out i h0 h1 h2;omega
 | succ n ih=>
  intro out i h0 h1 h2 h3
  rw[mv]
  by_cases h:i<c.length
  ·rw[if_pos (by simpa using h)]
   simp only[qI]
   rw[xL ⟨h0,h⟩,kZ h0 h,List.foldl_cons]
   have hm:=hc _ (wp h0 h)
   have e1:=Kb (s:=out) (v:=nth c i) (by omega)
   have e2:=Vp (s:=c) (f:=fun y0=>uQ y0 (nth c i)) (p:=fun a=>iU a (nth c i)) (fun x hx=>by unfold uQ;rw[J8 (hc x hx) hm];rfl) (by omega)
   refine(congrArg (fun o=>Option.bind o _) e1).trans ?_
   rw[oB]
   have eW:(out.length:Int)+1<=1000000:=by omega
   cases hA:out.any fun x=>decide (nth c i=x) with
   | true=>
    simp only[Bool.not_true,Bool.false_eq_true,if_false,oB]
    rw[xQ (by omega),ih out (i+1) (by omega) (by omega) (by omega) (by omega)]
    congr 2
    unfold lS;simp[hA]
   | false=>
    simp only[Bool.not_false,if_true]
    refine(congrArg (fun o=>Option.bind (Option.bind o _) _) e2).trans ?_
    simp only[oB]
    cases hB:c.any fun a=>iU a (nth c i) with
    | true=>
     simp only[Bool.not_true,Bool.false_eq_true,if_false]
     rw[xQ (by omega),ih out (i+1) (by omega) (by omega) (by omega) (by omega)]
     congr 2
     unfold lS;simp[hA,hB]
    | false=>
     simp only[Bool.not_false,if_true]
     rw[xL (by simp only[List.length_append,List.length_cons,List.length_nil];omega),xQ (by omega)]
     refine(ih _ (i+1) (by omega) (by omega) (by omega) (by simp;omega)).trans ?_
     congr 2
     unfold lS;simp[hA,hB]
  ·rw[Nw h,fo h];rfl
def cd{α:Type}(key:α->Rat)(l:List α):List α:=wx (fun x y=>some (rv (key x) (key y))) l
theorem Kc{α:Type}{p q:α->α->Option Int}{x:α}{l:List α}(h:∀ y∈l,rz p x y=rz q x y):pM p x l=pM q x l:=by
 induction l with
 | nil=>rfl
 | cons y l ih=>
  unfold pM
  rw[h y (by simp),ih fun z hz=>h z (by simp[hz])]
theorem J9{α:Type}{p q:α->α->Option Int}{l:List α}(h:∀ x∈l,∀ y∈l,rz p x y=rz q x y):wx p l=wx q l:=by
 induction l with
 | nil=>rfl
 | cons x l ih=>
  unfold wx
  rw[ih fun a ha b hb=>h a (by simp[ha]) b (by simp[hb])]
  exact Kc fun y hy=>h x (by simp) y (by simp[(jS q l).mem_iff.1 hy])
theorem Kd{α:Type}{key:α->Rat}(x:α){l:List α}(h:l.Pairwise fun a b=>key a<=key b):(pM (fun x y=>some (rv (key x) (key y))) x l).Pairwise fun a b=>key a<=key b:=by
 induction l with
 | nil=>simp[pM]
 | cons y l ih=>
  obtain⟨h1,h2⟩:=List.pairwise_cons.1 h
  unfold pM
  split
  ·rename_i hxy
   have hxy:key x<=key y:=Yg.1 hxy
   refine List.pairwise_cons.2 ⟨fun z hz=>?_,h⟩
   rcases List.mem_cons.1 hz with rfl | hz
   ·exact hxy
   ·exact Rat.le_trans hxy (h1 z hz)
  ·rename_i hxy
   have hxy:key y<=key x:=Rat.le_of_lt (Rat.not_le.1 fun h=>hxy (Yg.2 h))
   refine List.pairwise_cons.2 ⟨fun z hz=>?_,ih h2⟩
   rcases List.mem_cons.1 ((eB _ x l).mem_iff.1 hz) with rfl | hz
   ·exact hxy
   ·exact h1 z hz
theorem hI{α:Type}(key:α->Rat)(l:List α):(cd key l).Pairwise fun a b=>key a<=key b:=by
 unfold cd
 induction l with
 | nil=>simp[wx]
 | cons x l ih=>exact Kd x ih
theorem ce{α:Type}(key:α->Rat)(l:List α):(cd key l).Perm l:=jS _ l
theorem Ja{α:Type}[DecidableEq α]{key:α->Rat}{p:α->α->Option Int}{l:List α}(hp:∀ x∈l,∀ y∈l,p x y=some (rv (key x) (key y)))(hi:∀ x∈l,∀ y∈l,key x=key y->x=y):
  wx p l=cd key l/\oq p (wx p l)=true:=by
 have hc:∀ x∈l,∀ y∈l,rz p x y=rv (key x) (key y):=fun x hx y hy=>by unfold rz;rw[hp x hx y hy];rfl
 have e:wx p l=cd key l:=J9 fun x hx y hy=>by rw[hc x hx y hy];rfl
 refine⟨e,?_⟩
 have hm:∀ x∈wx p l,x∈l:=fun x hx=>(jS p l).mem_iff.1 hx
 have hs:=hI key l
 rw[<- e] at hs
 simp only[oq,Bool.and_eq_true,List.all_eq_true,Bool.not_eq_true',decide_eq_false_iff_not,eC]
 refine⟨fun x hx=>⟨fun y hy=>by rw[hp x (hm x hx) y (hm y hy)];rfl,by rw[hc x (hm x hx) x (hm x hx),Fj];omega⟩,?_⟩
 refine List.Pairwise.imp_of_mem ?_ hs
 intro x y hx hy hxy
 rw[hc x (hm x hx) y (hm y hy),hc y (hm y hy) x (hm x hx),pS,pS]
 rcases Xi hxy with h | h
 ·exact .inr ⟨h,Rat.not_lt.2 hxy⟩
 ·exact .inl (hi x (hm x hx) y (hm y hy) h)
theorem Vq(n:Nat)(h:n<4611686018427387904):Go.Lib.bitLen n<=62:=Go.Lib.bitLen_le n 62 (by omega) (by omega)
theorem Mv{l:List B}{p:B->B->Option Int}{key:B->Rat}(hp:∀ x∈l,∀ y∈l,p x y=some (rv (key x) (key y)))(hi:∀ x∈l,∀ y∈l,key x=key y->x=y)(hs:(l.length:Int)<=1000000):
  vO l p=some (cd key l):=by
 obtain⟨e,ho⟩:=Ja hp hi
 unfold vO fj gU
 rw[cZ,xL (by omega),oB]
 have hb:=Vq l.length (by omega)
 rw[Int.toNat_natCast,xL ⟨⟨rfl,rfl⟩,by omega,by omega,by omega⟩,xL ho,oB,e]
theorem Mw{l:List R}{p:R->R->Option Int}{key:R->Rat}(hp:∀ x∈l,∀ y∈l,p x y=some (rv (key x) (key y)))(hi:∀ x∈l,∀ y∈l,key x=key y->x=y)(hs:(l.length:Int)<=1000000):
  j5 l p=some (cd key l):=by
 obtain⟨e,ho⟩:=Ja hp hi
 unfold j5 fj mj
 rw[cZ,xL (by omega),oB]
 have hb:=Vq l.length (by omega)
 rw[Int.toNat_natCast,xL ⟨⟨rfl,rfl⟩,by omega,by omega,by omega⟩,xL ho,oB,e]
theorem Jb{c:List B}:∀(l out:List B) (v:B),v∈l.foldl (lS c) out↔v∈out\/(v∈l/\(c.any fun a=>iU a v)=false)
 | [],out,v=>by simp
 | x::l,out,v=>by
  rw[List.foldl_cons,Jb l]
  unfold lS
  by_cases h1:(out.any fun y=>decide (x=y))=true
  ·have hx:x∈out:=by simpa using h1
   rw[if_neg (by simp[h1])]
   constructor
   ·rintro(h | h)
    ·exact .inl h
    ·exact .inr ⟨by simp[h.1],h.2⟩
   ·rintro(h | ⟨h,h'⟩)
    ·exact .inl h
    ·rcases List.mem_cons.1 h with rfl | h
     ·exact .inl hx
     ·exact .inr ⟨h,h'⟩
  ·by_cases h2:(c.any fun a=>iU a x)=true
   ·rw[if_neg (by simp[h2])]
    constructor
    ·rintro(h | h)
     ·exact .inl h
     ·exact .inr ⟨by simp[h.1],h.2⟩
    ·rintro(h | ⟨h,h'⟩)
     ·exact .inl h
     ·rcases List.mem_cons.1 h with rfl | h
      ·rw[h2] at h';cases h'
      ·exact .inr ⟨h,h'⟩
   ·rw[if_pos (by simp[h1,h2])]
    simp only[List.mem_append,List.mem_singleton]
    constructor
    ·rintro((h | rfl) | h)
     ·exact .inl h
     ·exact .inr ⟨by simp,by simpa using h2⟩
     ·exact .inr ⟨by simp[h.1],h.2⟩
    ·rintro(h | ⟨h,h'⟩)
     ·exact .inl (.inl h)
     ·rcases List.mem_cons.1 h with rfl | h
      ·exact .inl (.inr rfl)
      ·exact .inr ⟨h,h'⟩
theorem W8{c:List B}:∀(l out:List B),out.Nodup->(l.foldl (lS c) out).Nodup
 | [],out,h=>h
 | x::l,out,h=>by
  rw[List.foldl_cons]
  apply W8 l
  unfold lS
  split
  ·rename_i h1
   simp only[Bool.and_eq_true,Bool.not_eq_true'] at h1
   have hx:x∉out:=by have:=h1.1;simp at this;exact fun hm=>this x hm rfl
   rw[List.nodup_append]
   refine⟨h,by simp,fun a ha b hb=>?_⟩
   simp at hb;subst hb
   intro e;subst e;exact hx ha
  ·exact h
theorem Xj{c:List B}:∀(l out:List B),(l.foldl (lS c) out).length<=out.length+l.length
 | [],out=>by simp
 | x::l,out=>by
  rw[List.foldl_cons]
  have:=Xj (c:=c) l (lS c out x)
  have h:(lS c out x).length<=out.length+1:=by unfold lS;split <;> simp
  simp;omega
def ng(c:List B):List B:=c.foldl (lS c) []
def ke(c:List B):List B:=cd bq (ng c)
theorem b5{c:List B}{v:B}:v∈ng c↔v∈c/\∀ a∈c,iU a v=false:=by
 unfold ng;rw[Jb];simp
theorem Xk{c:List B}{v:B}:v∈ke c↔v∈c/\∀ a∈c,iU a v=false:=by
 unfold ke;rw[(ce _ _).mem_iff,b5]
theorem Mx(c:List B):(ke c).length<=c.length:=by
 unfold ke;rw[(ce _ _).length_eq]
 have:=Xj (c:=c) c []
 simpa [ng] using this
theorem Fm{c:List B}{x y:B}(hx:x∈c/\∀ a∈c,iU a x=false)(hy:y∈c/\∀ a∈c,iU a y=false)(h:bq x=bq y):x=y:=by
 have h1:=hx.2 y hy.1
 have h2:=hy.2 x hx.1
 by_cases e:x=y
 ·exact e
 ·exfalso
  have e':y≠x:=fun h=>e h.symm
  unfold iU at h1 h2
  rw[h] at h1 h2
  simp[e,e',Rat.le_refl] at h1 h2
  grind
theorem Uq{c:List B}(hc:∀ b∈c,GB b=true)(hs:(c.length:Int)<=1000000):py c=some (ke c):=by
 unfold py
 simp only[qI]
 rw[Fl hc hs xR [] 0 (by omega) (by omega) (by rw[wi];omega) (by simp)]
 show Option.bind (vO (ng c) _) _=_
 have hl:(ng c).length<=c.length:=by have:=Xj (c:=c) c [];simpa [ng] using this
 rw[Mv (key:=bq) (fun x hx y hy=>?_) (fun x hx y hy h=>Fm (b5.1 hx) (b5.1 hy) h) (by omega)]
 ·rfl
 ·unfold sx
  rw[iC (rU (nf (hc x (b5.1 hx).1))) (rU (nf (hc y (b5.1 hy).1)))];rfl
theorem Ke{c:List B}:(ke c).Pairwise fun x y=>bq x<bq y/\rq y<rq x:=by
 have h:=hI bq (ng c)
 have hn:(ke c).Nodup:=(ce bq (ng c)).nodup_iff.2 (W8 c [] (by simp))
 have h2:=List.Pairwise.and h hn
 refine List.Pairwise.imp_of_mem ?_ h2
 intro x y hx hy hxy
 have hx:=Xk.1 hx;have hy:=Xk.1 hy
 have nS:bq x<bq y:=by
  rcases Xi hxy.1 with h | h
  ·exact h
  ·exact absurd (Fm hx hy h) hxy.2
 refine⟨nS,?_⟩
 have:=hy.2 x hx.1
 unfold iU at this
 simp[hxy.2,hxy.1] at this
 grind
end
section
variable {m k m':Nat}{p:Rat}{t:R}
theorem Kf{n d:Int}(hd:0<d)(h:n.natAbs<=1073741824/\d<=1073741824):fits (Rat.divInt n d)=true:=by
 simp only[fits,decide_eq_true_eq]
 rw[Rat.den_divInt,if_neg (by omega),Rat.num_divInt]
 have hs:d.sign=1:=Int.sign_eq_one_of_pos hd
 rw[hs,Int.one_mul]
 constructor
 ·have h1:(n / (Int.gcd d n:Int)).natAbs<=n.natAbs:=by
   have h2:((Int.gcd d n:Nat):Int) ∣ n:=Int.gcd_dvd_right ..
   rw[Int.natAbs_ediv_of_dvd h2]
   exact Nat.div_le_self _ _
  omega
 ·have:=Nat.div_le_self d.natAbs (Int.gcd d n)
  omega
def G(m k:Nat)(q:Rat):Prop:=∃ n:Int,n.natAbs<=m*k/\q=Rat.divInt n k
theorem G.fits{m k:Nat}{q:Rat}(h:G m k q)(hk:0<k)(qh:k<=1073741824)(hm:m*k<=1073741824):fits q=true:=by
 obtain⟨n,hn,rfl⟩:=h
 exact Kf (by omega) ⟨by omega,by omega⟩
theorem G.add{q:Rat}(hk:0<k)(hp:G m k p)(hq:G m' k q):G (m+m') k (p+q):=by
 obtain⟨n,hn,rfl⟩:=hp;obtain⟨n',hn',rfl⟩:=hq
 refine⟨n+n',?_,?_⟩
 ·have:=Nat.add_mul m m' k
  omega
 ·rw[Rat.divInt_add_divInt _ _ (by omega) (by omega),show n*(k:Int)+n'*k=(n+n')*k by rw[Int.add_mul],Rat.divInt_mul_right (by omega)]
theorem G.neg(hp:G m k p):G m k (-p):=by
 obtain⟨n,hn,rfl⟩:=hp
 exact⟨-n,by omega,by rw[Rat.neg_divInt]⟩
theorem G.sub{q:Rat}(hk:0<k)(hp:G m k p)(hq:G m' k q):G (m+m') k (p-q):=by
 rw[Rat.sub_eq_add_neg];exact hp.add hk hq.neg
theorem G.mul{k':Nat}{q:Rat}(hp:G m k p)(hq:G m' k' q):G (m*m') (k*k') (p*q):=by
 obtain⟨n,hn,rfl⟩:=hp;obtain⟨n',hn',rfl⟩:=hq
 refine⟨n*n',?_,?_⟩
 ·rw[Int.natAbs_mul,show m*m'*(k*k')=(m*k)*(m'*k') by rw[Nat.mul_mul_mul_comm]]
  exact Nat.mul_le_mul hn hn'
 ·rw[Rat.divInt_mul_divInt];rfl
theorem G.fine(j:Nat)(hj:0<j)(hp:G m k p):G m (k*j) p:=by
 obtain⟨n,hn,rfl⟩:=hp
 refine⟨n*j,?_,?_⟩
 ·rw[Int.natAbs_mul,<- Nat.mul_assoc];exact Nat.mul_le_mul hn (by omega)
 ·rw[show((k*j:Nat):Int)=(k:Int)*j by push_cast;rfl,Rat.divInt_mul_right (by omega)]
theorem G.le(h:m<=m')(hp:G m k p):G m' k p:=by
 obtain⟨n,hn,rfl⟩:=hp
 exact⟨n,Nat.le_trans hn (Nat.mul_le_mul_right _ h),rfl⟩
theorem KH{q:Rat}(h:fits q=true):mk q=(p8 q,0):=by unfold mk;rw[if_pos h]
def SB(b:B):Prop:=GB b=true/\G 100 1 (bq b)/\G 5 8 (rq b)
def SC(c:List B):Prop:=1<=c.length/\c.length<=4/\∀ b∈c,SB b
theorem SC.all{c:List B}(h:SC c):∀ b∈c,GB b=true:=fun b hb=>(h.2.2 b hb).1
theorem SC.VC{c:List B}(h:SC c):VC c=true:=by
 unfold YthjnhebofpebpaaGreat.VC
 rw[Bool.and_eq_true,decide_eq_true_eq,List.all_eq_true]
 exact⟨⟨h.1,by have:=h.2.1;omega⟩,h.all⟩
def vq(t:Rat)(b:B):Rat:=bq b+rq b*t
def nh(t:Rat)(b:B):Bool:=fits (rq b*t)&&fits (vq t b)
theorem My{b:B}(hb:GB b=true)(ht:GR t=true):j7 ⟨0⟩ b t=some (if nh (val t) b then(p8 (vq (val t) b),(⟨0⟩:yt)) else(⟨0,0⟩,⟨3⟩)):=by
 unfold j7 qM
 rw[if_neg (by simp)]
 simp only[]
 rw[J7 (rU (aN hb)) (rU ht),oB,oB]
 show Option.bind (if _ then _ else _) _=_
 have hr:val b.fR*val t=rq b*val t:=rfl
 rw[hr]
 unfold nh
 cases h:fits (rq b*val t) with
 | true=>
  rw[KH h]
  rw[if_neg (by simp)]
  rw[J6 (rU (nf hb)) (nb h),cu]
  simp only[oB,Bool.true_and]
  have hv:val b.yi+rq b*val t=vq (val t) b:=rfl
  rw[hv]
  cases h2:fits (vq (val t) b) with
  | true=>rw[KH h2];rfl
  | false=>unfold mk;rw[h2];rfl
 | false=>
  unfold mk
  rw[h]
  simp
theorem Fo{b:B}{e:Int}(he:e≠0):j7 ⟨e⟩ b t=some (⟨0,0⟩,⟨e⟩):=by
 unfold j7 qM
 simp[he]
theorem Jc{α β R:Type}[Inhabited α]{c:List α}{S:Int->α->Option (β×Int)}{ok:α->Bool}{g:α->β}{z:β}{k:List β->Int->Option R}{K3:Option R}{L:Nat->List β->Int->Int->Option R}(hS:∀ b∈c,S 0 b=some (if ok b then(g b,0) else(z,3))/\S 3 b=some (z,3))(hL:∀ n out (i:Int) e v e',0<=i->i<c.length->(out.length:Int)=i->S e (nth c i)=some (v,e')->L (n+1) out i e=L n (out++[v]) (i+1) e')(hE:∀ n out (i:Int) e,¬i<c.length->L (n+1) out i e=k out e)(hK:∀ out,k out 3=K3):
  ∀(n:Nat) (out:List β) (i:Int),0<=i->(out.length:Int)=i->i<=c.length->c.length<n+i->
   L n out i 3=K3/\L n out i 0=if (c.drop i.toNat).all ok then k (out++(c.drop i.toNat).map g) 0 else K3
 | 0,out,i,h0,ho,h1,h2=>by omega
 | n+1,out,i,h0,ho,h1,h2=>by
  by_cases h:i<c.length
  ·have hm:=hS _ (wp h0 h)
   have ih:=fun BO ho'=>Jc hS hL hE hK n BO (i+1) (by omega) ho' (by omega) (by omega)
   refine⟨?_,?_⟩
   ·rw[hL n out i 3 _ _ h0 h ho hm.2]
    exact(ih _ (by simp;omega)).1
   ·rw[kZ h0 h,List.all_cons,List.map_cons]
    cases hb:ok (nth c i) with
    | true=>
     have h3:=hm.1
     rw[hb,if_pos rfl] at h3
     rw[hL n out i 0 _ _ h0 h ho h3,(ih _ (by simp;omega)).2]
     simp
    | false=>
     have h3:=hm.1
     rw[hb,if_neg (by simp)] at h3
     rw[hL n out i 0 _ _ h0 h ho h3,(ih _ (by simp;omega)).1]
     simp
  ·rw[hE n out i 3 h,hE n out i 0 h,fo h,hK]
   simp
def ni:List Rat->Rat
 | []=>0
 | [x]=>x
 | x::y::l=>let m:=ni (y::l);if x<=m then x else m
def Yi(l:List Rat)(q:Rat):Prop:=q∈l/\∀ x∈l,q<=x
theorem Yi.unique{l:List Rat}{q:Rat}(hp:Yi l p)(hq:Yi l q):p=q:=Rat.le_antisymm (hp.2 _ hq.1) (hq.2 _ hp.1)
theorem WV:∀(l:List Rat),l≠[]->Yi l (ni l)
 | [],h=>absurd rfl h
 | [x],_=>⟨by simp[ni],fun y hy=>by simp at hy;subst hy;exact Rat.le_refl⟩
 | x::y::l,_=>by
  have ih:=WV (y::l) (by simp)
  unfold ni
  by_cases h:x<=ni (y::l)
  ·rw[if_pos h]
   refine⟨by simp,fun z hz=>?_⟩
   rcases List.mem_cons.1 hz with rfl | hz
   ·exact Rat.le_refl
   ·exact Rat.le_trans h (ih.2 z hz)
  ·rw[if_neg h]
   refine⟨List.mem_cons_of_mem _ ih.1,fun z hz=>?_⟩
   rcases List.mem_cons.1 hz with rfl | hz
   ·exact Rat.le_of_lt (Rat.not_le.1 h)
   ·exact ih.2 z hz
theorem Ur{l:List Rat}{q:Rat}(h:Yi l q):ni l=q:=(WV l (List.ne_nil_of_mem h.1)).unique h
theorem tC{α:Type}[Inhabited α]{l:List α}{i:Int}{x:α}(h0:0<=i)(h:i<l.length):x∈l.take (i+1).toNat↔x∈l.take i.toNat\/x=nth l i:=by
 rw[take_succ l (h0:=h0) h,List.mem_append,List.mem_singleton]
theorem aP{l:List R}{k:Int->Int->Option R}(hl:∀ x∈l,V x=true)(hs:(l.length:Int)<=1000000):
  ∀(n:Nat) (i:Int) (c:R),0<=i->i<=l.length->l.length<n+i->c∈l->(∀ x∈l.take i.toNat,val c<=val x)->
   ∃ d:R,vF l (fun y0 y1=>q8 y0 y1) k n i c.fN c.fD=k d.fN d.fD/\d∈l/\∀ x∈l,val d<=val x
 | 0,i,c,h0,h1,h2,hc,hm=>by omega
 | n+1,i,c,h0,h1,h2,hc,hm=>by
  rw[vF]
  by_cases h:i<l.length
  ·rw[if_pos (by simpa using h)]
   simp only[sk]
   rw[xL ⟨h0,h⟩,xL ⟨h0,h⟩,xQ (by omega)]
   have hx:=wp h0 h
   show ∃ d:R,Option.bind (q8 (nth l i) c) _=_/\_
   rw[iC (hl _ hx) (hl _ hc),oB]
   by_cases nS:val (nth l i)<val c
   ·rw[if_pos (by simpa using pS.2 nS)]
    refine aP hl hs n (i+1) (nth l i) (by omega) (by omega) (by omega) hx fun x hx'=>?_
    rcases(tC h0 h).1 hx' with h3 | rfl
    ·exact Rat.le_trans (Rat.le_of_lt nS) (hm x h3)
    ·exact Rat.le_refl
   ·rw[Nw (fun h=>nS (pS.1 h))]
    refine aP hl hs n (i+1) c (by omega) (by omega) (by omega) hc fun x hx'=>?_
    rcases(tC h0 h).1 hx' with h3 | rfl
    ·exact hm x h3
    ·exact Rat.not_lt.1 nS
  ·rw[Nw h]
   refine⟨c,rfl,hc,fun x hx=>hm x ?_⟩
   rwa [List.take_of_length_le (by omega)]
theorem Us{l:List R}(hl:∀ x∈l,V x=true)(h0:l≠[])(hs:(l.length:Int)<=1000000):jm l (fun y0 y1=>q8 y0 y1)=some (p8 (ni (l.map val))):=by
 have hp:=List.length_pos_iff.2 h0
 unfold jm
 rw[if_neg (by simp;omega),xL (by omega)]
 refine tc (P:=fun o=>o=_) fun k hk=>?_
 have hm0:=wp (l:=l) (i:=0) (by omega) (by omega)
 obtain⟨d,e,hd,xS⟩:=aP (k:=k) hl hs xR 1 (nth l 0) (by omega) (by omega) (by rw[wi];omega) hm0 (by
  intro x hx
  have h1:(1:Int)=0+1:=rfl
  rw[h1] at hx
  rcases(tC (by omega) (by omega)).1 hx with h3 | rfl
  ·simp at h3
  ·exact Rat.le_refl)
 have h1:ni (l.map val)=val d:=Ur ⟨List.mem_map_of_mem hd,fun x hx=>by
  obtain⟨y,hy,rfl⟩:=List.mem_map.1 hx
  exact xS y hy⟩
 rw[e,hk,h1,WU (hl d hd)]
theorem Mz{a b:B}(ha:GB a=true)(hb:GB b=true):gI a b=some (rv (rq a) (rq b)):=by
 unfold gI
 rw[iC (rU (aN ha)) (rU (aN hb))];rfl
theorem aQ{l:List B}{k:Int->Int->Int->Int->Option B}(hl:∀ x∈l,GB x=true)(hs:(l.length:Int)<=1000000):
  ∀(n:Nat) (i:Int) (c:B),0<=i->i<=l.length->l.length<n+i->c∈l->(∀ x∈l.take i.toNat,rq c<=rq x)->
   ∃ d:B,wT l (fun y0 y1=>gI y0 y1) k n i c.yi.fN c.yi.fD c.fR.fN c.fR.fD=k d.yi.fN d.yi.fD d.fR.fN d.fR.fD/\d∈l/\∀ x∈l,rq d<=rq x
 | 0,i,c,h0,h1,h2,hc,hm=>by omega
 | n+1,i,c,h0,h1,h2,hc,hm=>by
  rw[wT]
  by_cases h:i<l.length
  ·rw[if_pos (by simpa using h)]
   simp only[jp4]
   rw[xL ⟨h0,h⟩,xL ⟨h0,h⟩,xQ (by omega)]
   have hx:=wp h0 h
   show ∃ d:B,Option.bind (gI (nth l i) c) _=_/\_
   rw[Mz (hl _ hx) (hl _ hc),oB]
   by_cases nS:rq (nth l i)<rq c
   ·rw[Nv (pS.2 nS)]
    refine aQ hl hs n (i+1) (nth l i) (by omega) (by omega) (by omega) hx fun x hx'=>?_
    rcases(tC h0 h).1 hx' with h3 | rfl
    ·exact Rat.le_trans (Rat.le_of_lt nS) (hm x h3)
    ·exact Rat.le_refl
   ·rw[if_neg (fun h=>nS (pS.1 (of_decide_eq_true h)))]
    refine aQ hl hs n (i+1) c (by omega) (by omega) (by omega) hc fun x hx'=>?_
    rcases(tC h0 h).1 hx' with h3 | rfl
    ·exact hm x h3
    ·exact Rat.not_lt.1 nS
  ·rw[Nw h]
   refine⟨c,rfl,hc,fun x hx=>hm x ?_⟩
   rwa [List.take_of_length_le (by omega)]
theorem Fp{R A0 A1 A2 A3:Type}{K:A0->A1->A2->A3->Option R}{F:(A0->A1->A2->A3->Option R)->Option R}{P:Option R->Prop}(h:∀ k:A0->A1->A2->A3->Option R,(∀ x0 x1 x2 x3,k x0 x1 x2 x3=K x0 x1 x2 x3)->P (F k)):P (jp4 K F):=h K fun _ _ _ _=>rfl
theorem Ut{l:List B}(hl:∀ x∈l,GB x=true)(h0:l≠[])(hs:(l.length:Int)<=1000000):∃ d,qF l (fun y0 y1=>gI y0 y1)=some d/\d∈l/\∀ x∈l,rq d<=rq x:=by
 have hp:=List.length_pos_iff.2 h0
 unfold qF
 rw[if_neg (by simp;omega),xL (by omega)]
 refine Fp (P:=fun o=>∃ d,o=some d/\d∈l/\∀ x∈l,rq d<=rq x) fun k hk=>?_
 have hm0:=wp (l:=l) (i:=0) (by omega) (by omega)
 obtain⟨d,e,hd,xS⟩:=aQ (k:=k) hl hs xR 1 (nth l 0) (by omega) (by omega) (by rw[wi];omega) hm0 (by
  intro x hx
  have h1:(1:Int)=0+1:=rfl
  rw[h1] at hx
  rcases(tC (by omega) (by omega)).1 hx with h3 | rfl
  ·simp at h3
  ·exact Rat.le_refl)
 rw[e,hk]
 exact⟨d,rfl,hd,xS⟩
def AT(c:List B)(t:Rat):Rat:=ni (c.map (vq t))
theorem AT_is{c:List B}{t:Rat}(h:c≠[]):Yi (c.map (vq t)) (AT c t):=WV _ (by simpa using h)
theorem Uu{c:List B}{k:List R->Int->Option (R×Int)}{K3:Option (R×Int)}(hc:∀ b∈c,GB b=true)(ht:GR t=true)(hs:(c.length:Int)<=1000000)(hK:∀ out,k out 3=K3){n:Nat}(hn:c.length<n):kQ c t k n [] 0 0=if c.all (nh (val t)) then k (c.map fun b=>p8 (vq (val t) b)) 0 else K3:=by
 have:=(Jc (c:=c) (S:=fun e b=>(j7 ⟨e⟩ b t).bind fun x=>some (x.1,x.2.fE)) (ok:=nh (val t)) (g:=fun b=>p8 (vq (val t) b)) (z:=⟨0,0⟩) (k:=k) (K3:=K3) (L:=fun n out i e=>kQ c t k n out i e)
  (fun b hb=>⟨by rw[My (hc b hb) ht];cases nh (val t) b <;> rfl,by rw[Fo (by decide)];rfl⟩) ?_ ?_ hK n [] 0 (by omega) rfl (by omega) (by omega)).2
 ·simpa using this
 ·intro n out i e v e' h0 h ho hS
  show kQ c t k (n+1) out i e=_
  rw[kQ,if_pos (by simpa using h),xL ⟨h0,h⟩]
  show Option.bind (j7 ⟨e⟩ (nth c i) t) _=_
  cases hv:j7 ⟨e⟩ (nth c i) t with
  | none=>rw[hv] at hS;cases hS
  | some x=>
   rw[hv] at hS
   have hS:some (x.1,x.2.fE)=some (v,e'):=hS
   obtain⟨rfl,rfl⟩:=Prod.mk.inj (oJ hS)
   rw[oB,xL (by simp only[List.length_append,List.length_cons,List.length_nil];omega),xQ (by omega)]
 ·intro n out i e h
  show kQ c t k (n+1) out i e=_
  rw[kQ,Nw h]
theorem U4{c:List B}(hc:VC c=true)(ht:GR t=true):mW c t=some (if c.all (nh (val t)) then(p8 (AT c (val t)),0) else(⟨0,0⟩,3)):=by
 have hl:=W7 hc
 unfold mW
 rw[rM,Yh,hc,ht]
 simp only[oB,Bool.not_true,Bool.false_eq_true,if_false]
 refine tc (P:=fun o=>o=_) fun k hk=>?_
 rw[Uu (K3:=some (⟨0,0⟩,3)) (aO hc) ht (by omega) (fun out=>by rw[hk];rfl) (by rw[wi];omega)]
 cases ha:c.all (nh (val t)) with
 | true=>
  rw[if_pos rfl,if_pos rfl,hk,if_neg (by simp)]
  rw[List.all_eq_true] at ha
  rw[Us (l:=c.map fun b=>p8 (vq (val t) b)) ?_ ?_ (by simp;omega),oB]
  ·rw[List.map_map]
   congr 3
   unfold AT
   congr 2
   funext b
   exact cu _
  ·intro x hx
   obtain⟨b,hb,rfl⟩:=List.mem_map.1 hx
   have:=ha b hb
   simp only[nh,Bool.and_eq_true] at this
   exact nb this.2
  ·intro h
   have:=congrArg List.length h
   simp at this;subst this;simp at hl
 | false=>simp
theorem Fq{c:List B}(h:¬(VC c=true/\GR t=true)):mW c t=some (⟨0,0⟩,2):=by
 unfold mW
 rw[rM,Yh]
 cases h1:VC c <;> cases h2:GR t <;> simp_all
theorem U5{c:List B}(hc:VC c=true):c≠[]:=fun h=>by have:=W7 hc;subst h;simp at this
theorem Uv{c:List B}(hc:VC c=true):∃ d,uY c=some (d.fR,0)/\d∈c/\∀ x∈c,rq d<=rq x:=by
 have hl:=W7 hc
 unfold uY
 rw[rM,hc]
 simp only[oB,Bool.not_true,Bool.false_eq_true,if_false]
 obtain⟨d,e,h1,h2⟩:=Ut (aO hc) (U5 hc) (by omega)
 rw[e]
 exact⟨d,rfl,h1,h2⟩
theorem SB.val{b:B}{t:Rat}(h:SB b)(ht:G m 4 t):G (5*m) 32 (rq b*t)/\G (100+5*m) 32 (vq t b):=by
 have h1:=h.2.2.mul ht
 exact⟨h1,(h.2.1.fine 32 (by omega)).add (by omega) h1⟩
theorem SC.ne{c:List B}(h:SC c):c≠[]:=U5 h.VC
theorem SC.at{c:List B}{t:Rat}(h:SC c)(ht:G m 4 t):G (100+5*m) 32 (AT c t):=by
 obtain⟨b,hb,e⟩:=List.mem_map.1 (AT_is (t:=t) h.ne).1
 rw[<- e]
 exact((h.2.2 b hb).val ht).2
end
section
def le2(a b:B):Prop:=bq a<=bq b/\rq a<=rq b
instance (a b:B):Decidable (le2 a b):=inferInstanceAs (Decidable (_/\_))
theorem Uw{a b:B}:iU a b=true↔a≠b/\le2 a b:=by unfold iU le2;simp[and_assoc]
theorem Fs{a b:B}:iU a b=false↔(le2 a b->a=b):=by
 rw[Bool.eq_false_iff,ne_eq,Uw]
 constructor
 ·intro h h'
  exact Classical.byContradiction fun hn=>h ⟨hn,h'⟩
 ·intro h h'
  exact h'.1 (h h'.2)
theorem Ux{c:List B}{v:B}:v∈ke c↔v∈c/\∀ a∈c,le2 a v->a=v:=by
 rw[Xk];simp only[Fs]
theorem cmpb{a b:B}(ha:GB a=true)(hb:GB b=true):q8 a.yi b.yi=some (rv (bq a) (bq b)):=iC (rU (nf ha)) (rU (nf hb))
theorem MA{c:List B}(hc:∀ b∈c,GB b=true):∀ b∈ke c,GB b=true:=fun b hb=>hc b (Ux.1 hb).1
end
section
def sH{β Sg:Type}(y:β->Sg->Option (Bool×Sg))(k:Sg->Option Sg):List β->Sg->Option Sg
 | [],s=>k s
 | p::l,s=>(y p s).bind fun x=>if !x.1 then some x.2 else sH y k l x.2
theorem YG{β Sg:Type}{y:β->Sg->Option (Bool×Sg)}{k:Sg->Option Sg}{m:List β}:∀(l:List β) (s:Sg),sH y k (l++m) s=sH y (sH y k m) l s
 | [],s=>rfl
 | p::l,s=>by
  show Option.bind _ _=Option.bind _ _
  congr 1
  funext x
  show(if _ then _ else sH y k (l++m) x.2)=_
  rw[YG l]
theorem nj{β Sg:Type}{y:β->Sg->Option (Bool×Sg)}{k k':Sg->Option Sg}(h:∀ s,k s=k' s):∀(l:List β) (s:Sg),sH y k l s=sH y k' l s
 | [],s=>h s
 | p::l,s=>by
  show Option.bind _ _=Option.bind _ _
  congr 1
  funext x
  rw[nj h l]
theorem YH{Sg:Type}{c d:List B}{y:B×B->Sg->Option (Bool×Sg)}{v:Int}{k:Sg->Option Sg}(hs:(d.length:Int)<=1000000):
  ∀(n:Nat) (i:Int) (s:Sg),0<=i->i<=d.length->d.length<n+i->gz Sg d y c v k n i s=sH y k ((d.drop i.toNat).map fun z=>(nth c v,z)) s
 | 0,i,s,h0,h1,h2=>by omega
 | n+1,i,s,h0,h1,h2=>by
  rw[gz]
  by_cases h:i<d.length
  ·rw[Nv h,xL ⟨h0,h⟩,kZ h0 h,List.map_cons,sH]
   show Option.bind (y (nth c v,nth d i) s) _=_
   congr 1
   funext x
   rw[xQ (by omega),YH hs n (i+1) x.2 (by omega) (by omega) (by omega)]
  ·rw[Nw h,fo h]
   rfl
def sI(a b:List B):List (B×B):=a.flatMap fun x=>b.map fun z=>(x,z)
theorem nk{a b:List B}{p:B×B}:p∈sI a b↔p.1∈a/\p.2∈b:=by
 unfold sI
 simp only[List.mem_flatMap,List.mem_map]
 constructor
 ·rintro⟨x,hx,z,hz,rfl⟩;exact⟨hx,hz⟩
 ·intro h;exact⟨p.1,h.1,p.2,h.2,rfl⟩
theorem Kg(a b:List B):(sI a b).length=a.length*b.length:=by
 induction a with
 | nil=>simp[sI]
 | cons x a ih=>
  have:sI (x::a) b=b.map (fun z=>(x,z))++sI a b:=rfl
  rw[this,List.length_append,ih,List.length_map,List.length_cons,Nat.succ_mul];omega
theorem YI{Sg:Type}{c d:List B}{y:B×B->Sg->Option (Bool×Sg)}{k:Sg->Option Sg}(hs:(c.length:Int)<=1000000)(hd:(d.length:Int)<=1000000):
  ∀(n:Nat) (i:Int) (s:Sg),0<=i->i<=c.length->c.length<n+i->gA Sg c d y k n i s=sH y k (sI (c.drop i.toNat) d) s
 | 0,i,s,h0,h1,h2=>by omega
 | n+1,i,s,h0,h1,h2=>by
  rw[gA]
  by_cases h:i<c.length
  ·rw[Nv h]
   refine wA (P:=fun o=>o=_) fun k1 w5=>?_
   rw[xL ⟨h0,h⟩]
   refine wA (P:=fun o=>o=_) fun k2 qh=>?_
   rw[YH hd xR 0 s (by omega) (by omega) (by rw[wi];omega),kZ h0 h]
   show _=sH y k (((d.map fun z=>(nth c i,z)))++sI (c.drop (i+1).toNat) d) s
   rw[YG,Int.toNat_zero,List.drop_zero]
   refine nj (fun s'=>?_) _ _
   rw[qh,w5,xQ (by omega),YI hs hd n (i+1) s' (by omega) (by omega) (by omega)]
  ·rw[Nw h,fo h]
   rfl
theorem MB{Sg:Type}{c d:List B}{y:B×B->Sg->Option (Bool×Sg)}{s:Sg}(hs:(c.length:Int)<=1000000)(hd:(d.length:Int)<=1000000):
  uj Sg y s c d=sH y some (sI c d) s:=by
 unfold uj
 refine wA (P:=fun o=>o=_) fun k hk=>?_
 rw[YI hs hd xR 0 s (by omega) (by omega) (by rw[wi];omega),Int.toNat_zero,List.drop_zero]
 exact nj hk _ _
theorem KI{β γ:Type}{y:β->Nat×List γ×Int->Option (Bool×(Nat×List γ×Int))}{ok:β->Bool}{g:β->List γ}{N:Nat}:
  ∀(l:List β) (out:List γ),out.length+l.length<=N->
   (∀ p∈l,(g p).length<=1/\∀ out:List γ,out.length<N->(ok p=true->y p (0,out,0)=some (true,(0,out++g p,0)))/\(ok p=false->∃ o,o.length<=out.length+1/\y p (0,out,0)=some (true,(0,o,3)))/\∃ o,o.length<=out.length+1/\y p (0,out,3)=some (true,(0,o,3)))->
   (∃ BO,sH y some l (0,out,3)=some (0,BO,3))/\∃ BO,sH y some l (0,out,0)=some (0,if l.all ok then(out++l.flatMap g,0) else(BO,3))
 | [],out,hl,h=>⟨⟨out,rfl⟩,⟨out,by simp[sH]⟩⟩
 | p::l,out,hl,h=>by
  simp only[List.length_cons] at hl
  obtain⟨h1,hp⟩:=h p (by simp)
  obtain⟨h2,h3,h4⟩:=hp out (by omega)
  have ih:=fun o ho=>KI l o ho fun q hq=>h q (by simp[hq])
  constructor
  ·obtain⟨o1,hl1,e1⟩:=h4
   obtain⟨o,ho⟩:=(ih o1 (by omega)).1
   exact⟨o,by rw[sH,e1,oB];exact ho⟩
  ·cases hb:ok p with
   | true=>
    obtain⟨o,ho⟩:=(ih (out++g p) (by rw[List.length_append];omega)).2
    refine⟨o,?_⟩
    rw[sH,h2 hb,oB]
    refine Eq.trans (show _=sH y some l (0,out++g p,0) from rfl) (ho.trans ?_)
    rw[List.all_cons,hb,Bool.true_and,List.flatMap_cons,List.append_assoc]
   | false=>
    obtain⟨o1,hl1,e1⟩:=h3 hb
    obtain⟨o,ho⟩:=(ih o1 (by omega)).1
    refine⟨o,?_⟩
    rw[sH,e1,oB]
    refine Eq.trans (show _=sH y some l (0,o1,3) from rfl) (ho.trans ?_)
    rw[List.all_cons,hb,Bool.false_and,if_neg Bool.false_ne_true]
def sB(p:B×B):B:=⟨p8 (bq p.1+bq p.2),p8 (rq p.1+rq p.2)⟩
theorem dV{e:Int}{f:R->R->Option (R×Int)}{x y:R}(he:e≠0:=by decide):qM ⟨e⟩ f x y=some (⟨0,0⟩,⟨e⟩):=by
 unfold qM;rw[if_pos (by simpa using he)]
theorem Q9{f:R->R->Option (R×Int)}{x y:R}{q:Rat}(h:f x y=some (mk q)):qM ⟨0⟩ f x y=some (if fits q then(p8 q,⟨0⟩) else(⟨0,0⟩,⟨3⟩)):=by
 unfold qM
 rw[if_neg (by simp),h,oB]
 unfold mk
 cases fits q <;> rfl
end
section
theorem WW{R:Type}{K:Option R}{F:Option R->Option R}{P:Option R->Prop}(h:∀ k:Option R,k=K->P (F k)):P (mZ K F):=h K rfl
def Vr(l:List R):Prop:=l.Pairwise fun x y=>val x<val y
theorem Kh{a b c:Rat}(h:a<=b)(h':b<c):a<c:=by grind
def lT(s0:List R)(m:Int)(r:List R):Prop:=Vr r/\(∀ v,v∈r↔v∈s0.take m.toNat)/\(r.length:Int)<=m
theorem lT.step{s0:List R}(hv:∀ x∈s0,V x=true)(hs:s0.Pairwise fun x y=>val x<=val y){m:Int}(h0:1<=m)(h:m<s0.length){r:List R}(hr:lT s0 m r):
  (nth s0 m=nth s0 (m-1)->lT s0 (m+1) r)/\(nth s0 m≠nth s0 (m-1)->lT s0 (m+1) (r++[nth s0 m])):=by
 have ht:=take_succ s0 (i:=m) h
 have hp:=take_succ s0 (i:=m-1) (by omega)
 have hm1:nth s0 (m-1)∈s0.take m.toNat:=by
  rw[show m=m-1+1 by omega,hp];simp
 constructor
 ·intro e
  refine⟨hr.1,fun v=>?_,by have:=hr.2.2;omega⟩
  rw[ht,hr.2.1,List.mem_append,List.mem_singleton]
  constructor
  ·exact fun h => .inl h
  ·rintro(h | rfl)
   ·exact h
   ·rw[e];exact hm1
 ·intro e
  have nS:val (nth s0 (m-1))<val (nth s0 m):=by
   have h1:=List.pairwise_iff_getElem.1 hs (m-1).toNat m.toNat (by omega) (by omega) (by omega)
   rw[sj (by omega) (by omega),sj (by omega) (by omega)] at h1
   rcases Xi h1 with h | h
   ·exact h
   ·exact absurd (KG (hv _ (wp (by omega) (by omega))) (hv _ (wp (by omega) (by omega))) h).symm e
  constructor
  ·unfold Vr
   rw[List.pairwise_append]
   refine⟨hr.1,by simp,fun a ha b hb=>?_⟩
   obtain rfl:=List.mem_singleton.1 hb
   have ha:=(hr.2.1 a).1 ha
   obtain⟨i,hi,rfl⟩:=List.mem_iff_getElem.1 ha
   rw[List.length_take] at hi
   rw[List.getElem_take]
   refine Kh ?_ nS
   by_cases e2:i=(m-1).toNat
   ·subst e2
    rw[sj (by omega) (by omega)];exact Rat.le_refl
   ·have h1:=List.pairwise_iff_getElem.1 hs i (m-1).toNat (by omega) (by omega) (by omega)
    rw[sj (i:=m-1) (by omega) (by omega)] at h1
    exact h1
  ·refine⟨fun v=>?_,by have:=hr.2.2;rw[List.length_append,List.length_singleton];omega⟩
   rw[ht,List.mem_append,List.mem_append,hr.2.1]
theorem Gs{s:List R}{k j:Int}{v:R}(h0:0<=k)(h1:0<=j)(h:k≠j):nth (s.set k.toNat v) j=nth s j:=by
 unfold nth
 rw[List.getD_eq_getElem?_getD,List.getD_eq_getElem?_getD,List.getElem?_set_ne (by omega)]
theorem MC{s:List R}{k:Int}{v:R}(h0:0<=k)(h:k<s.length):(s.set k.toNat v).take (k+1).toNat=s.take k.toNat++[v]:=by
 rw[show(k+1).toNat=k.toNat+1 by omega,List.take_add_one,List.take_set_of_le (by omega),List.getElem?_set_self (by omega)]
 rfl
theorem Xl{s0:List R}{K:Int}{k:List R->Int->Option (List R)}(hv:∀ x∈s0,V x=true)(hs:s0.Pairwise fun x y=>val x<=val y)(hK:1<=K/\K<s0.length)(hl:(s0.length:Int)<=1000000):
  ∀(n:Nat) (s:List R) (j i:Int),1<=i->K+i<=s0.length->s0.length-K<n+i->K<=j->j<=K+i-1->s.length=s0.length->(∀ q:Int,K+i-1<=q->nth s q=nth s0 q)->lT s0 (K+i) (s.take j.toNat)->
   ∃ s' j',vD s0 K k n s j i=k s' j'/\0<=j'/\j'<=s'.length/\lT s0 s0.length (s'.take j'.toNat)
 | 0,s,j,i,h0,h1,h2,h3,h4,h5,h6,h7=>by omega
 | n+1,s,j,i,h0,h1,h2,h3,h4,h5,h6,h7=>by
  rw[vD]
  by_cases h:i<((s0.length-K.toNat:Nat):Int)
  ·rw[Nv h]
   simp only[sk]
   rw[xQ (x:=i-1) (by omega),xL (by omega),xL (by omega)]
   have e1:nth s (K+i)=nth s0 (K+i):=h6 _ (by omega)
   have e2:nth s (K+(i-1))=nth s0 (K+i-1):=by rw[show K+(i-1)=K+i-1 by omega];exact h6 _ (by omega)
   show ∃ s' j',(if decide (nth s (K+i)≠nth s (K+(i-1))) then _ else _)=_/\_
   rw[e1,e2]
   have st:=lT.step hv hs (m:=K+i) (by omega) (by omega) h7
   by_cases he:nth s0 (K+i)=nth s0 (K+i-1)
   ·rw[if_neg (by simpa using he),xQ (x:=i+1) (by omega)]
    refine Xl (k:=k) hv hs hK hl n s j (i+1) (by omega) (by omega) (by omega) h3 (by omega) h5 (fun q hq=>h6 q (by omega)) ?_
    rw[show K+(i+1)=K+i+1 by omega]
    exact st.1 he
   ·rw[Nv he,xL (by omega),xL (by omega),xQ (x:=i+1) (by omega),xQ (x:=j+1) (by omega)]
    have eta:(⟨(nth s0 (K+i)).fN,(nth s0 (K+i)).fD⟩:R)=nth s0 (K+i):=rfl
    rw[eta]
    refine Xl (k:=k) hv hs hK hl n (s.set j.toNat (nth s0 (K+i))) (j+1) (i+1) (by omega) (by omega) (by omega) (by omega) (by omega) (by rw[List.length_set];exact h5) (fun q hq=>?_) ?_
    ·rw[Gs (by omega) (by omega) (by omega)]
     exact h6 q (by omega)
    ·rw[MC (by omega) (by omega),show K+(i+1)=K+i+1 by omega]
     exact st.2 he
  ·rw[Nw h]
   refine⟨s,j,rfl,by omega,by omega,?_⟩
   rw[show(s0.length:Int)=K+i by omega]
   exact h7
theorem Jd{s0:List R}{k:Option (List R)}(hv:∀ x∈s0,V x=true)(hs:s0.Pairwise fun x y=>val x<=val y)(hl:(s0.length:Int)<=1000000)(hk:k=some s0):
  ∀(n:Nat) (i:Int),1<=i->i<=s0.length->s0.length<n+i->lT s0 i (s0.take i.toNat)->
   ∃ r,vE s0 k n i=some r/\lT s0 s0.length r
 | 0,i,h0,h1,h2,h3=>by omega
 | n+1,i,h0,h1,h2,h3=>by
  rw[vE]
  by_cases h:i<s0.length
  ·rw[Nv h]
   refine WW (P:=fun o=>∃ r,o=some r/\lT s0 s0.length r) fun k1 w5=>?_
   rw[xQ (x:=i+1) (by omega)] at w5
   rw[xQ (x:=i-1) (by omega),xL (by omega),xL (by omega)]
   have st:=lT.step hv hs (m:=i) h0 h h3
   show ∃ r,(if decide (nth s0 i=nth s0 (i-1)) then _ else _)=_/\_
   by_cases he:nth s0 i=nth s0 (i-1)
   ·rw[Nv he,xL (by omega)]
    refine tc (P:=fun o=>∃ r,o=some r/\lT s0 s0.length r) fun k2 qh=>?_
    obtain⟨s',j',e,h4,h5,h6⟩:=Xl (k:=k2) hv hs ⟨h0,h⟩ hl xR s0 i 1 (by omega) (by omega) (by rw[wi];omega) (by omega) (by omega) rfl (fun q _=>rfl) (by exact st.1 he)
    rw[e,qh]
    have ht:(s'.take j'.toNat++List.replicate (s'.length-j'.toNat) ((⟨0,0⟩:R):R)).take j'.toNat=s'.take j'.toNat:=by
     rw[List.take_append_of_le_length (by rw[List.length_take];omega),List.take_take,Nat.min_self]
    rw[xL ⟨h4,h5⟩,xL ⟨h4,by rw[List.length_append,List.length_take,List.length_replicate];omega⟩]
    exact⟨_,congrArg some ht,h6⟩
   ·rw[Nw he,w5]
    refine Jd hv hs hl hk n (i+1) (by omega) (by omega) (by omega) ?_
    rw[take_succ s0 h]
    exact st.2 he
  ·rw[Nw h]
   refine⟨s0,hk,?_⟩
   rw[show(s0.length:Int)=i by omega]
   have:=h3
   rwa [List.take_of_length_le (by omega)] at this
theorem Gt{s0:List R}(hv:∀ x∈s0,V x=true)(hs:s0.Pairwise fun x y=>val x<=val y)(hl:(s0.length:Int)<=1000000):
  ∃ r,jl s0=some r/\Vr r/\(∀ v,v∈r↔v∈s0)/\r.length<=s0.length:=by
 unfold jl
 by_cases h:(s0.length:Int)<2
 ·rw[Nv h]
  refine⟨s0,rfl,?_,fun _=>Iff.rfl,Nat.le_refl _⟩
  unfold Vr
  rcases s0 with _ | ⟨x,_ | ⟨y,l⟩⟩
  ·exact .nil
  ·simp
  ·simp only[List.length_cons] at h;omega
 ·rw[Nw h]
  refine WW (P:=fun o=>∃ r,o=some r/\Vr r/\(∀ v,v∈r↔v∈s0)/\r.length<=s0.length) fun k hk=>?_
  have h1:lT s0 1 (s0.take (1:Int).toNat):=by
   refine⟨?_,fun _=>Iff.rfl,by rw[List.length_take];omega⟩
   have:=take_succ s0 (i:=0) (by omega)
   rw[show((0:Int)+1)=1 from rfl,Int.toNat_zero,List.take_zero,List.nil_append] at this
   rw[this]
   simp[Vr]
  obtain⟨r,e,hr⟩:=Jd hv hs hl hk xR 1 (by omega) (by omega) (by rw[wi];omega) h1
  refine⟨r,e,hr.1,fun v=>?_,by have:=hr.2.2;omega⟩
  rw[hr.2.1,Int.toNat_natCast,List.take_length]
end
section
def bpA(p:B×B):Rat:=bq p.2-bq p.1
def nO(p:B×B):Rat:=rq p.1-rq p.2
def bp(p:B×B):Rat:=bpA p / nO p
def Gu(p:B×B):Bool:=fits (bpA p)&&fits (nO p)&&fits (bp p)
def bl(p:B×B):Bool:=decide (bq p.1<bq p.2)
def W9(p:B×B):Bool := !bl p||Gu p
def bg(p:B×B):List R:=if bl p then[p8 (bp p)] else[]
theorem Gv{p:B×B}{out:List R}(h1:GB p.1=true)(h2:GB p.2=true)(hd:bl p=true->rq p.2<rq p.1)(hl:out.length<2000):
  (W9 p=true->qo p out 0=some (true,(0,out++bg p,0)))/\(W9 p=false->∃ o,o.length<=out.length+1/\qo p out 0=some (true,(0,o,3)))/\∃ o,o.length<=out.length+1/\qo p out 3=some (true,(0,o,3)):=by
 unfold qo
 rw[cmpb h1 h2]
 simp only[oB]
 have a1:=Q9 (f:=fun y0 y1=>ju y0 y1) (W5 (rU (nf h2)) (rU (nf h1)))
 have a2:=Q9 (f:=fun y0 y1=>ju y0 y1) (W5 (rU (aN h1)) (rU (aN h2)))
 have e1:val p.2.yi-val p.1.yi=bpA p:=rfl
 have e2:val p.1.fR-val p.2.fR=nO p:=rfl
 rw[e1] at a1;rw[e2] at a2
 unfold W9 bg
 by_cases hb:bq p.1<bq p.2
 ·have BC:bl p=true:=decide_eq_true hb
  rw[Nv (pS.2 hb),Nv (pS.2 hb)]
  rw[BC,if_pos rfl]
  have zN:0<nO p:=by have:=hd BC;unfold nO;grind
  have l1:∀ v:R,(((out++[v]).length:Nat):Int)*16<=140737488355328/\(((out++[v]).length:Nat):Int)<=4611686018427387904:=fun v=>by
   simp only[List.length_append,List.length_cons,List.length_nil];omega
  refine⟨fun hk=>?_,fun hk=>?_,?_⟩
  ·simp only[Bool.not_true,Bool.false_or,Gu,Bool.and_eq_true] at hk
   obtain⟨⟨f1,f2⟩,f3⟩:=hk
   rw[a1,f1,if_pos rfl,oB]
   simp only[]
   rw[a2,f2,if_pos rfl,oB]
   simp only[]
   have hn:(p8 (nO p)).fN≠0:=by
    intro h0
    have h1:(nO p).num=0:=h0
    rw[Rat.num_eq_zero.1 h1] at zN
    exact absurd zN (by decide)
   have a3:=Q9 (f:=fun y0 y1=>f0 y0 y1) (W6 (nb f1) (nb f2) hn)
   rw[cu,cu] at a3
   have e3:bpA p / nO p=bp p:=rfl
   rw[e3,f3,if_pos rfl] at a3
   rw[a3,oB]
   rw[xL (l1 _)]
  ·simp only[Bool.not_true,Bool.false_or,Gu] at hk
   cases f1:fits (bpA p) with
   | false=>
    rw[a1,f1,if_neg Bool.false_ne_true,oB]
    simp only[]
    rw[dV,oB]
    simp only[]
    rw[dV,oB,xL (l1 _)]
    exact⟨_,by simp,rfl⟩
   | true=>
    rw[a1,f1,if_pos rfl,oB]
    simp only[]
    cases f2:fits (nO p) with
    | false=>
     rw[a2,f2,if_neg Bool.false_ne_true,oB]
     simp only[]
     rw[dV,oB,xL (l1 _)]
     exact⟨_,by simp,rfl⟩
    | true=>
     rw[a2,f2,if_pos rfl,oB]
     simp only[]
     have hn:(p8 (nO p)).fN≠0:=by
      intro h0
      have h1:(nO p).num=0:=h0
      rw[Rat.num_eq_zero.1 h1] at zN
      exact absurd zN (by decide)
     have a3:=Q9 (f:=fun y0 y1=>f0 y0 y1) (W6 (nb f1) (nb f2) hn)
     rw[cu,cu] at a3
     have e3:bpA p / nO p=bp p:=rfl
     rw[f1,f2,Bool.true_and,Bool.true_and] at hk
     rw[e3,hk,if_neg Bool.false_ne_true] at a3
     rw[a3,oB,xL (l1 _)]
     exact⟨_,by simp,rfl⟩
  ·rw[dV,oB]
   simp only[]
   rw[dV,oB]
   simp only[]
   rw[dV,oB,xL (l1 _)]
   exact⟨_,by simp,rfl⟩
 ·have BC:bl p=false:=decide_eq_false hb
  have hn:¬decide (rv (bq p.1) (bq p.2)<0)=true:=fun h=>hb (pS.1 (of_decide_eq_true h))
  rw[if_neg hn,if_neg hn,BC,if_neg Bool.false_ne_true]
  refine⟨fun _=>by rw[List.append_nil],fun h=>by simp at h,⟨out,by omega,rfl⟩⟩
theorem Vs:∀ {l:List B},(l.Pairwise fun x y=>bq x<bq y/\rq y<rq x)->∀ {x y:B},x∈l->y∈l->bq x<bq y->rq y<rq x
 | [],_,x,y,hx,_,_=>by simp at hx
 | z::l,h,x,y,hx,hy,hxy=>by
  obtain⟨h1,h2⟩:=List.pairwise_cons.1 h
  rcases List.mem_cons.1 hx with e | hx'
  ·subst e
   rcases List.mem_cons.1 hy with e | hy'
   ·subst e;grind
   ·exact(h1 y hy').2
  ·rcases List.mem_cons.1 hy with e | hy'
   ·subst e;have:=(h1 x hx').1;grind
   ·exact Vs h2 hx' hy' hxy
theorem Uy{p:B×B}(h:W9 p=true)(h2:bl p=true):fits (bp p)=true:=by
 unfold W9 Gu at h
 rw[h2] at h
 simp only[Bool.not_true,Bool.false_or,Bool.and_eq_true] at h
 exact h.2
theorem Vt{c:List B}(hc:VC c=true):
  if (sI (ke c) (ke c)).all W9 then ∃ r,jH c=some (r,0)/\Vr r/\(∀ v,v∈r↔∃ p,(p.1∈ke c/\p.2∈ke c)/\bl p=true/\v=p8 (bp p))/\(∀ v∈r,V v=true)/\r.length<=1100
  else jH c=some ([],3):=by
 have la:=W7 hc;have na:=Mx c
 have ga:=MA (aO hc)
 unfold jH
 rw[rM,hc,Uq (aO hc) (by omega)]
 simp only[oB,Bool.not_true,Bool.false_eq_true,if_false]
 have hp:=Kg (ke c) (ke c)
 have hm:(ke c).length*(ke c).length<=32*32:=Nat.mul_le_mul (by omega) (by omega)
 obtain⟨o,ho⟩:=(KI (y:=fun(x:B×B) (s:Nat×List R×Int)=>chk (s.1=0) (qo x s.2.1 s.2.2)) (ok:=W9) (g:=bg) (N:=1100) (sI (ke c) (ke c)) [] (by rw[hp];simp;omega) (by
   intro p hp
   have hm:=nk.1 hp
   refine⟨by unfold bg;split <;> simp,fun out hl=>?_⟩
   have st:=Gv (p:=p) (out:=out) (ga _ hm.1) (ga _ hm.2) (fun h=>Vs Ke hm.1 hm.2 (of_decide_eq_true h)) (by omega)
   refine⟨fun hk=>?_,fun hk=>?_,?_⟩
   ·show chk (0=0) (qo p out 0)=_
    rw[xL rfl];exact st.1 hk
   ·obtain⟨o,h1,h2⟩:=st.2.1 hk
    refine⟨o,h1,?_⟩
    show chk (0=0) (qo p out 0)=_
    rw[xL rfl];exact h2
   ·obtain⟨o,h1,h2⟩:=st.2.2
    refine⟨o,h1,?_⟩
    show chk (0=0) (qo p out 3)=_
    rw[xL rfl];exact h2)).2
 have key:∀ k:Int->List R->Option (List R×Int),(rD (ke c) (ke c)).bind (fun zWi=>(uj (Nat×List R×Int) (fun(x:B×B) (s:Nat×List R×Int)=>chk (s.1=0) (qo x s.2.1 s.2.2)) (0,([]:List R),0) zWi.1 zWi.2).bind fun zWj=>k zWj.2.2 zWj.2.1)=if (sI (ke c) (ke c)).all W9 then k 0 ((sI (ke c) (ke c)).flatMap bg) else k 3 o:=by
  intro k
  unfold rD
  rw[oB]
  simp only[]
  rw[MB (by omega) (by omega),ho,oB]
  split <;> simp
 cases hf:(sI (ke c) (ke c)).all W9 with
 | true=>
  rw[if_pos rfl]
  refine tc (P:=fun(o:Option (List R×Int))=>∃ r,o=some (r,0)/\Vr r/\(∀ v,v∈r↔∃ p,(p.1∈ke c/\p.2∈ke c)/\bl p=true/\v=p8 (bp p))/\(∀ v∈r,V v=true)/\r.length<=1100) fun k hk=>?_
  rw[key,hf,if_pos rfl,hk,if_neg (by simp)]
  have oH:∀ v,v∈(sI (ke c) (ke c)).flatMap bg↔∃ p,(p.1∈ke c/\p.2∈ke c)/\bl p=true/\v=p8 (bp p):=by
   intro v
   rw[List.mem_flatMap]
   constructor
   ·rintro⟨p,hp,hv⟩
    unfold bg at hv
    cases hb:bl p with
    | true=>rw[hb,if_pos rfl] at hv;exact⟨p,nk.1 hp,hb,by simpa using hv⟩
    | false=>rw[hb] at hv;simp at hv
   ·rintro⟨p,hp,hb,rfl⟩
    exact⟨p,nk.2 hp,by unfold bg;rw[hb,if_pos rfl];simp⟩
  have hV:∀ v∈(sI (ke c) (ke c)).flatMap bg,V v=true:=by
   intro v hv
   obtain⟨p,hp,hb,rfl⟩:=(oH v).1 hv
   exact nb (Uy (List.all_eq_true.1 hf p (nk.2 hp)) hb)
  have eW:((sI (ke c) (ke c)).flatMap bg).length<=1100:=by
   have:∀ l:List (B×B),(l.flatMap bg).length<=l.length:=by
    intro l
    induction l with
    | nil=>simp
    | cons x l ih=>
     rw[List.flatMap_cons,List.length_append,List.length_cons]
     have:(bg x).length<=1:=by unfold bg;split <;> simp
     omega
   have:=this (sI (ke c) (ke c));omega
  rw[Mw (key:=val) (fun x hx y hy=>iC (hV x hx) (hV y hy)) (fun x hx y hy h=>KG (hV x hx) (hV y hy) h) (by omega),oB]
  have tN:=ce val ((sI (ke c) (ke c)).flatMap bg)
  obtain⟨r,e,h1,h2,h3⟩:=Gt (s0:=cd val ((sI (ke c) (ke c)).flatMap bg)) (fun x hx=>hV x (tN.mem_iff.1 hx)) (hI _ _) (by rw[tN.length_eq];omega)
  rw[e,oB]
  refine⟨r,rfl,h1,fun v=>?_,fun v hv=>hV v (tN.mem_iff.1 ((h2 v).1 hv)),by rw[tN.length_eq] at h3;omega⟩
  rw[h2,tN.mem_iff,oH]
 | false=>
  rw[if_neg Bool.false_ne_true]
  refine tc (P:=fun o=>o=_) fun k hk=>?_
  rw[key,hf,if_neg Bool.false_ne_true,hk]
  simp
theorem Wa{c:List B}(h:VC c=false):jH c=some ([],2):=by
 unfold jH
 rw[rM,h];rfl
end
section
variable {x y:R}
abbrev SV:=yv
def Z1:R:=⟨0,1⟩
theorem cv:gZ=some Z1:=rfl
theorem aR{RR A0 A1 A2:Type}{K:A0->A1->A2->Option RR}{F:(A0->A1->A2->Option RR)->Option RR}{P:Option RR->Prop}(h:∀ k:A0->A1->A2->Option RR,(∀ x0 x1 x2,k x0 x1 x2=K x0 x1 x2)->P (F k)):P (Va K F):=h K fun _ _ _=>rfl
theorem iD(h:¬(V x=true/\V y=true)):(if !(V x) then some true else(some (V y)).bind fun v=>some (!v))=some true:=by
 cases hx:V x with
 | false=>rfl
 | true=>
  cases hy:V y with
  | false=>rfl
  | true=>exact absurd ⟨hx,hy⟩ h
theorem KJ(h:¬(V x=true/\V y=true)):vR x y=some (⟨0,0⟩,2):=by
 unfold vR ik
 rw[qD,qD,oB,iD h];rfl
theorem KK(h:¬(V x=true/\V y=true)):ju x y=some (⟨0,0⟩,2):=by
 unfold ju ip
 rw[qD,qD,oB,iD h];rfl
theorem KL(h:¬(V x=true/\V y=true)):gw x y=some (⟨0,0⟩,2):=by
 unfold gw cQ
 rw[qD,qD,oB,iD h];rfl
theorem KM(h:¬(V x=true/\V y=true)):f0 x y=some (⟨0,0⟩,2):=by
 unfold f0 ir
 rw[qD,qD,oB,iD h];rfl
theorem Uz(h:¬(V x=true/\V y=true)):q8 x y=some 0:=by
 unfold q8
 rw[qD,qD,oB,iD h];rfl
def YJ(x y:R):R×Int:=(vR x y).getD (⟨0,0⟩,0)
def Je(x y:R):R×Int:=(ju x y).getD (⟨0,0⟩,0)
def MUL(x y:R):R×Int:=(gw x y).getD (⟨0,0⟩,0)
def DIV(x y:R):R×Int:=(f0 x y).getD (⟨0,0⟩,0)
def CM(x y:R):Int:=(q8 x y).getD 0
theorem nl{x:R}(y:R):vR x y=some (YJ x y)/\True:=by
 unfold YJ
 by_cases h:V x=true/\V y=true
 ·rw[J6 h.1 h.2];exact⟨rfl,trivial⟩
 ·rw[KJ h];exact⟨rfl,trivial⟩
theorem Gw(x y:R):ju x y=some (Je x y)/\True:=by
 unfold Je
 by_cases h:V x=true/\V y=true
 ·rw[W5 h.1 h.2];exact⟨rfl,trivial⟩
 ·rw[KK h];exact⟨rfl,trivial⟩
theorem U6(x:R){y:R}:gw x y=some (MUL x y)/\True:=by
 unfold MUL
 by_cases h:V x=true/\V y=true
 ·rw[J7 h.1 h.2];exact⟨rfl,trivial⟩
 ·rw[KL h];exact⟨rfl,trivial⟩
theorem div_s{x:R}(h0:y.fN≠0):f0 x y=some (DIV x y)/\True:=by
 unfold DIV
 by_cases h:V x=true/\V y=true
 ·rw[W6 h.1 h.2 h0];exact⟨rfl,trivial⟩
 ·rw[KM h];exact⟨rfl,trivial⟩
theorem Jf{x y:R}:q8 x y=some (CM x y)/\True:=by
 unfold CM
 by_cases h:V x=true/\V y=true
 ·rw[iC h.1 h.2];exact⟨rfl,trivial⟩
 ·rw[Uz h];exact⟨rfl,trivial⟩
theorem Gx{N D:Int}(hD:0<D):∃ f:Int,(f=if Int.tmod N D<0 then Int.tdiv N D-1 else Int.tdiv N D)/\f*D<=N/\N<(f+1)*D:=by
 have h1:=Int.mul_tdiv_add_tmod N D
 have h2:Int.tmod N D<D:=Int.tmod_lt_of_pos N hD
 have h3 : -D<Int.tmod N D:=by
  have h4:=Int.tmod_lt_of_pos (-N) hD
  rw[Int.neg_tmod] at h4
  omega
 by_cases h:Int.tmod N D<0
 ·refine⟨_,rfl,?_⟩
  rw[if_pos h]
  have e1:(Int.tdiv N D-1)*D=D*Int.tdiv N D-D:=by rw[Int.sub_mul,Int.one_mul,Int.mul_comm]
  have e2:(Int.tdiv N D-1+1)*D=D*Int.tdiv N D:=by rw[Int.sub_add_cancel,Int.mul_comm]
  rw[e1,e2]
  omega
 ·refine⟨_,rfl,?_⟩
  rw[if_neg h]
  have e1:Int.tdiv N D*D=D*Int.tdiv N D:=Int.mul_comm _ _
  have e2:(Int.tdiv N D+1)*D=D*Int.tdiv N D+D:=by rw[Int.add_mul,Int.one_mul,Int.mul_comm]
  rw[e1,e2]
  omega
theorem fl_bd{f N D:Int}(hD:1<=D)(hN : -1073741824<=N/\N<=1073741824)(h1:f*D<=N)(h2:N<(f+1)*D) : -1073741824<=f/\f<=1073741824:=by
 constructor
 ·refine Int.not_lt.1 fun h=>?_
  have:=Int.mul_le_mul_of_nonneg_left hD (show 0 <= -(f+1) by omega)
  have e : -(f+1)*D = -((f+1)*D):=Int.neg_mul _ _
  omega
 ·refine Int.not_lt.1 fun h=>?_
  have:=Int.mul_le_mul_of_nonneg_left hD (show 0<=f by omega)
  omega
theorem Jg(hx:V x=true):∃ f:Int,j6 x=some f/\f*x.fD<=x.fN/\x.fN<(f+1)*x.fD /\ -1073741824<=f/\f<=1073741824:=by
 have hv:=hx
 simp only[V,decide_eq_true_eq] at hv
 obtain⟨f,hf,h1,h2⟩:=Gx (N:=x.fN) (D:=x.fD) (by omega)
 have hb:=fl_bd hv.1 (by omega) h1 h2
 refine⟨f,?_,h1,h2,hb⟩
 unfold j6
 rw[qD,hx,oB,if_neg (by simp),xL (by omega)]
 simp only[qI]
 rw[xL (by omega)]
 have hq : -1073741824<=Int.tdiv x.fN x.fD/\Int.tdiv x.fN x.fD<=1073741825:=by
  by_cases h:Int.tmod x.fN x.fD<0
  ·rw[if_pos h] at hf;omega
  ·rw[if_neg h] at hf;omega
 by_cases h:Int.tmod x.fN x.fD<0
 ·rw[Nv h,xQ (x:=Int.tdiv x.fN x.fD) (by omega),xQ (by omega),hf,if_pos h]
 ·rw[Nw h,xQ (by omega),hf,if_neg h]
theorem UA(hx:V x=true):∃ e:Int,gb x=some e/\(e-1)*x.fD<x.fN/\x.fN<=e*x.fD /\ -1073741824<=e/\e<=1073741824:=by
 have hv:=hx
 simp only[V,decide_eq_true_eq] at hv
 have hn:V ⟨-x.fN,x.fD⟩=true:=by
  unfold V
  rw[decide_eq_true_eq]
  refine⟨hv.1,hv.2.1,by show -1073741824 <= -x.fN;omega,by show -x.fN<=1073741824;omega,?_⟩
  show Nat.gcd (-x.fN).natAbs x.fD.natAbs=1
  rw[Int.natAbs_neg];exact hv.2.2.2.2
 obtain⟨f,ef,f1,f2,f3,f4⟩:=Jg hn
 have f1:f*x.fD <= -x.fN:=f1
 have f2 : -x.fN<(f+1)*x.fD:=f2
 refine⟨-f,?_,?_,?_,by omega,by omega⟩
 ·unfold gb
  rw[qD,hx,oB,if_neg (by simp),xQ (x:=0-x.fN) (by omega),show(0:Int)-x.fN = -x.fN by omega,ef,oB,xQ (by omega)]
  congr 1;omega
 ·have e:(-f-1)*x.fD = -((f+1)*x.fD):=by rw[show -f-1 = -(f+1) by omega,Int.neg_mul]
  rw[e];omega
 ·rw[Int.neg_mul];omega
def flr(x:R):Int:=(j6 x).getD 0
def Jh(x:R):Int:=(gb x).getD 0
theorem Yj{x:R}:j6 x=some (flr x)/\True:=by
 unfold flr
 cases hx:V x with
 | true=>
  obtain⟨f,ef,_⟩:=Jg hx
  rw[ef];exact⟨rfl,trivial⟩
 | false=>
  have h1:j6 x=some 0:=by unfold j6;rw[qD,hx];rfl
  rw[h1];exact⟨rfl,trivial⟩
theorem Qa{x:R}:gb x=some (Jh x)/\True:=by
 unfold Jh
 cases hx:V x with
 | true=>
  obtain⟨f,ef,_⟩:=UA hx
  rw[ef];exact⟨rfl,trivial⟩
 | false=>
  have h1:gb x=some 0:=by unfold gb;rw[qD,hx];rfl
  rw[h1];exact⟨rfl,trivial⟩
def b6(r:List R):List R:=r.flatMap fun x=>[⟨flr x,1⟩,⟨Jh x,1⟩]
theorem MD(r:List R):(b6 r).length=2*r.length:=by
 unfold b6
 induction r with
 | nil=>rfl
 | cons x r ih=>rw[List.flatMap_cons,List.length_append,ih];simp;omega
def VS(s:SV):Bool:=(V s.fR&&decide (s.fR.fN>0)&&V s.fL)&&decide (s.fL.fN>=0)
theorem Vu(s:SV):uW s=some (VS s):=by
 unfold uW VS
 rw[qD,qD,oB,oB]
 cases V s.fR <;> cases decide (s.fR.fN>0) <;> simp
theorem VS_r{s:SV}(h:VS s=true):V s.fR=true/\0<s.fR.fN/\V s.fL=true/\0<=s.fL.fN:=by
 simp only[VS,Bool.and_eq_true,decide_eq_true_eq] at h
 exact⟨h.1.1.1,h.1.1.2,h.1.2,h.2⟩
def CD(e:Int)(r:R×Int):R×Int:=if e≠0 then(Z1,e) else if r.2≠0 then(Z1,r.2) else r
theorem Wb{e:Int}{f:R->R->Option (R×Int)}{r:R×Int}(h:f x y=some r):vw ⟨e⟩ f x y=some ((CD e r).1,⟨(CD e r).2⟩):=by
 unfold vw CD
 rw[h,cv]
 by_cases he:e≠0
 ·rw[if_pos (by simpa using he),if_pos he];rfl
 ·rw[Nw he,if_neg he,oB]
  by_cases hr:r.2≠0
  ·rw[if_pos (by simpa using hr),if_pos hr];rfl
  ·rw[Nw hr,if_neg hr]
end
section
variable {l:List (List B)}{s:SV}{t:R}
theorem UB(c:List B)(t:R):∃ x,mW c t=some x:=by
 by_cases h:VC c=true/\GR t=true
 ·exact⟨_,U4 h.1 h.2⟩
 ·exact⟨_,Fq h⟩
def YK(c:List B)(t:R):R×Int:=(mW c t).getD (⟨0,0⟩,0)
theorem at_s(c:List B)(t:R):mW c t=some (YK c t):=by
 obtain⟨x,e⟩:=UB c t
 unfold YK;rw[e];rfl
def aS(t:R):List (List B)->R×Int->R×Int
 | [],a=>a
 | c::l,a=>aS t l (CD (if a.2=0 then(YK c t).2 else a.2) (YJ a.1 (YK c t).1))
theorem Wc{l:List (List B)}{t:R}{k:Int->Int->Int->Option (R×yt)}(hl:l.length<=1000):∀(n:Nat) (i:Int) (a:R×Int),0<=i->i<=l.length->l.length<n+i->
  jo l t k n i a.2 a.1.fN a.1.fD=k (aS t (l.drop i.toNat) a).1.fN (aS t (l.drop i.toNat) a).1.fD (aS t (l.drop i.toNat) a).2
 | 0,i,a,h0,h1,h2=>by omega
 | n+1,i,a,h0,h1,h2=>by
  rw[jo]
  by_cases h:i<l.length
  ·rw[Nv h,xL ⟨h0,h⟩,at_s,oB,kZ h0 h,aS]
   refine wA (P:=fun o=>o=_) fun kk xH=>?_
   have e1:(if decide (a.2=0)=true then kk (YK (nth l i) t).2 else kk a.2)=kk (if a.2=0 then(YK (nth l i) t).2 else a.2):=by
    by_cases h:a.2=0 <;> simp[h]
   rw[e1,xH]
   show((vw ⟨_⟩ (fun y0 y1=>vR y0 y1) a.1 (YK (nth l i) t).1).bind _)=_
   rw[Wb (nl (x:=a.1) (YK (nth l i) t).1).1,oB,xQ (by omega)]
   exact Wc hl n (i+1) _ (by omega) (by omega) (by omega)
  ·rw[Nw h,fo h]
   rfl
theorem Ji{e:Int}(hl:l.length<=1000):gi ⟨e⟩ l t=some ((aS t l (Z1,e)).1,⟨(aS t l (Z1,e)).2⟩):=by
 unfold gi
 rw[cv,oB]
 refine aR (P:=fun o=>o=_) fun k hk=>?_
 have:=Wc (t:=t) (k:=k) hl xR 0 (Z1,e) (by omega) (by omega) (by rw[wi];omega)
 rw[this,hk];rfl
def dv(l:List (List B))(s:SV)(e:Int)(t:R):R×Int:=
 let x1:=aS t l (Z1,e)
 let x2:=CD x1.2 (DIV x1.1 s.fR)
 let x3:=CD x2.2 (Je x2.1 t)
 CD x3.2 (YJ x3.1 s.fL)
def bv(l:List (List B))(s:SV)(e:Int)(t:R):R×Int:=
 let x1:=aS t l (Z1,e)
 let x2:=CD x1.2 (Je t s.fL)
 let x3:=CD x2.2 (MUL s.fR x2.1)
 if CM t s.fL<=0 then x1 else CD x3.2 (Je x1.1 x3.1)
theorem Ft{e:Int}(hl:l.length<=1000)(hs:VS s=true):ub ⟨e⟩ t l s=some ((dv l s e t).1,⟨(dv l s e t).2⟩):=by
 have h0:=(VS_r hs).2.1
 unfold ub
 rw[Ji hl,oB,Wb (div_s (y:=s.fR) (by omega)).1,oB,Wb (Gw _ t).1,oB,Wb (nl s.fL).1]
 rfl
theorem Ki{e:Int}(hl:l.length<=1000):mw ⟨e⟩ t l s=some ((bv l s e t).1,⟨(bv l s e t).2⟩):=by
 unfold mw bv
 rw[Ji hl,oB,(Jf (x:=t) (y:=s.fL)).1,oB]
 by_cases h:CM t s.fL<=0
 ·rw[Nv h,if_pos h]
 ·rw[Nw h,if_neg h,Wb (Gw t s.fL).1,oB,Wb (U6 s.fR).1,oB,Wb (Gw _ _).1]
  rfl
section
variable {f:Int->R->R×Int}
def uB(f:Int->R->R×Int)(s:List R×Int)(p:R):List R×Int:=
 (match s.1 with | []=>[(f s.2 p).1] | b::r=>if CM (f s.2 p).1 b>0 then[(f s.2 p).1] else b::r,(f s.2 p).2)
theorem Wd:∀(P:List R) (s:List R×Int),s.1≠[]->(P.foldl (uB f) s).1≠[]
 | [],s,h=>h
 | p::P,s,h=>by
  rw[List.foldl_cons]
  refine Wd P _ ?_
  unfold uB
  cases hs:s.1 with
  | nil=>exact absurd hs h
  | cons b r=>simp only;split <;> simp
def Vv(f:Int->R->R×Int)(P:List R):R×Int:=
 let r:=P.foldl (uB f) ([],0)
 if r.2≠0 then(⟨0,0⟩,r.2) else(nth r.1 0,0)
end
theorem Kj(a:List B):∃ x:List R×Int,jH a=some x/\x.1.length<=1100:=by
 cases h:VC a with
 | true=>
  have:=Vt h
  split at this
  ·obtain⟨r,e,_,_,_,hl⟩:=this
   exact⟨_,e,hl⟩
  ·exact⟨_,this,by simp⟩
 | false=>exact⟨_,Wa h,by simp⟩
def dW(c:List B):List R×Int:=(jH c).getD ([],0)
theorem nn(c:List B):jH c=some (dW c)/\(dW c).1.length<=1100:=by
 obtain⟨x,e,h⟩:=Kj c
 unfold dW
 rw[e];exact⟨rfl,h⟩
def Vw(c:List B):R×Int:=(uY c).getD (⟨0,0⟩,0)
theorem rt_s{c:List B}(h:VC c=true):uY c=some (Vw c)/\V (Vw c).1=true:=by
 obtain⟨d,e,hd,_⟩:=Uv h
 unfold Vw
 rw[e]
 exact⟨rfl,rU (aN (aO h d hd))⟩
def iV(l:List (List B))(sg:List R):List R:=Z1::((l.flatMap fun c=>b6 (dW c).1)++b6 sg)
theorem pp(l:List (List B)):(l.flatMap fun c=>b6 (dW c).1).length<=2200*l.length:=by
 induction l with
 | nil=>simp
 | cons c l ih=>
  have:=(nn c).2
  rw[List.flatMap_cons,List.length_append,MD,List.length_cons];omega
def YL:List (List B)->R×Int->Int ⊕ (R×Int)
 | [],a => .inr a
 | c::l,a=>if (dW c).2≠0 then .inl (dW c).2 else YL l (CD a.2 (YJ a.1 (Vw c).1))
section
variable {Sg:Type} {y:R->(Nat×List R×Int)->Option (Bool×(Nat×List R×Int))} {f:Int->R->R×Int}
theorem p5{x:List R×Int}{k:(Nat×List R×Int)->Option (Nat×List R×Int)}(hy:∀ p s,y p (0,s)=some (true,(0,uB f s p)))(hl:x.1.length<=100000):∀(n:Nat) (v:Int) (s:List R×Int),0<=v->v<=x.1.length->x.1.length<n+v->
  vk _ x y k n v (0,s)=k (0,(b6 (x.1.drop v.toNat)).foldl (uB f) s)
 | 0,v,s,h0,h1,h2=>by omega
 | n+1,v,s,h0,h1,h2=>by
  rw[vk]
  by_cases h:v<x.1.length
  ·rw[Nv h,xL ⟨h0,h⟩]
   show Option.bind (j6 (nth x.1 v)) _=_
   rw[(Yj).1,oB]
   unfold jk
   rw[oB,hy,oB,if_neg (by simp)]
   have e2:(gb (⟨(nth x.1 v).fN,(nth x.1 v).fD⟩:R))=some (Jh (nth x.1 v)):=(Qa).1
   rw[e2,oB,oB,hy,oB,oB,if_neg (by simp),xQ (by omega),p5 hy hl n (v+1) _ (by omega) (by omega) (by omega),kZ h0 h]
   rfl
  ·rw[Nw h,fo h];rfl
theorem p6{x:List R}{k:(Nat×List R×Int)->Option (Nat×List R×Int)}(hy:∀ p s,y p (0,s)=some (true,(0,uB f s p)))(hl:x.length<=100000):∀(n:Nat) (v:Int) (s:List R×Int),0<=v->v<=x.length->x.length<n+v->
  vo _ x y k n v (0,s)=k (0,(b6 (x.drop v.toNat)).foldl (uB f) s)
 | 0,v,s,h0,h1,h2=>by omega
 | n+1,v,s,h0,h1,h2=>by
  rw[vo]
  by_cases h:v<x.length
  ·rw[Nv h,xL ⟨h0,h⟩]
   show Option.bind (j6 (nth x v)) _=_
   rw[(Yj).1,oB]
   unfold jk
   rw[oB,hy,oB,if_neg (by simp)]
   have e2:(gb (⟨(nth x v).fN,(nth x v).fD⟩:R))=some (Jh (nth x v)):=(Qa).1
   rw[e2,oB,oB,hy,oB,oB,if_neg (by simp),xQ (by omega),p6 hy hl n (v+1) _ (by omega) (by omega) (by omega),kZ h0 h]
   rfl
  ·rw[Nw h,fo h];rfl
theorem p4{l:List (List B)}{k:(Nat×List R×Int)->Option (Nat×List R×Int)}(hy:∀ p s,y p (0,s)=some (true,(0,uB f s p)))(hl:l.length<=100000):∀(n:Nat) (v:Int) (s:List R×Int),0<=v->v<=l.length->l.length<n+v->
  vm _ l y k n v (0,s)=k (0,((l.drop v.toNat).flatMap fun c=>b6 (dW c).1).foldl (uB f) s)
 | 0,v,s,h0,h1,h2=>by omega
 | n+1,v,s,h0,h1,h2=>by
  rw[vm]
  by_cases h:v<l.length
  ·rw[Nv h]
   refine wA (P:=fun o=>o=_) fun k1 w5=>?_
   rw[xL ⟨h0,h⟩,(nn _).1,oB]
   refine wA (P:=fun o=>o=_) fun k2 qh=>?_
   have hb:=(nn (nth l v)).2
   rw[p5 (f:=f) hy (by omega) xR 0 s (by omega) (by omega) (by rw[wi];omega),qh,w5,xQ (by omega),p4 hy hl n (v+1) _ (by omega) (by omega) (by omega),kZ h0 h,List.flatMap_cons,List.foldl_append]
   rfl
  ·rw[Nw h,fo h];rfl
theorem Fu{a b:SV}{c:List (List B)}{sg:List R}(hy:∀ p s,y p (0,s)=some (true,(0,uB f s p)))(hl:l.length<=100000)(hm:sg.length<=100000):
  qq _ y (0,([],0)) l a c b sg=some (0,(iV l sg).foldl (uB f) ([],0)):=by
 unfold qq
 rw[cv,oB,hy,oB,if_neg (by simp)]
 refine wA (P:=fun o=>o=_) fun k hk=>?_
 rw[p4 (f:=f) hy hl xR 0 _ (by omega) (by omega) (by rw[wi];omega),hk]
 refine wA (P:=fun o=>o=_) fun k2 qh=>?_
 rw[p6 (f:=f) hy hm xR 0 _ (by omega) (by omega) (by rw[wi];omega),qh]
 unfold iV
 rw[List.foldl_cons,List.foldl_append]
 rfl
end
section
variable {Sg:Type} {y:R->(Nat×List R×Int)->Option (Bool×(Nat×List R×Int))} {f:Int->R->R×Int}
theorem p5b{x:List R×Int}{k:(Nat×List R×Int)->Option (Nat×List R×Int)}(hy:∀ p s,y p (0,s)=some (true,(0,uB f s p)))(hl:x.1.length<=100000):∀(n:Nat) (v:Int) (s:List R×Int),0<=v->v<=x.1.length->x.1.length<n+v->
  vk _ x y k n v (0,s)=k (0,(b6 (x.1.drop v.toNat)).foldl (uB f) s)
 | 0,v,s,h0,h1,h2=>by omega
 | n+1,v,s,h0,h1,h2=>by
  rw[vk]
  by_cases h:v<x.1.length
  ·rw[Nv h,xL ⟨h0,h⟩]
   show Option.bind (j6 (nth x.1 v)) _=_
   rw[(Yj).1,oB]
   unfold jk
   rw[oB,hy,oB,if_neg (by simp)]
   have e2:(gb (⟨(nth x.1 v).fN,(nth x.1 v).fD⟩:R))=some (Jh (nth x.1 v)):=(Qa).1
   rw[e2,oB,oB,hy,oB,oB,if_neg (by simp),xQ (by omega),p5b hy hl n (v+1) _ (by omega) (by omega) (by omega),kZ h0 h]
   rfl
  ·rw[Nw h,fo h];rfl
theorem p6b{x:List R}{k:(Nat×List R×Int)->Option (Nat×List R×Int)}(hy:∀ p s,y p (0,s)=some (true,(0,uB f s p)))(hl:x.length<=100000):∀(n:Nat) (v:Int) (s:List R×Int),0<=v->v<=x.length->x.length<n+v->
  vo _ x y k n v (0,s)=k (0,(b6 (x.drop v.toNat)).foldl (uB f) s)
 | 0,v,s,h0,h1,h2=>by omega
 | n+1,v,s,h0,h1,h2=>by
  rw[vo]
  by_cases h:v<x.length
  ·rw[Nv h,xL ⟨h0,h⟩]
   show Option.bind (j6 (nth x v)) _=_
   rw[(Yj).1,oB]
   unfold jk
   rw[oB,hy,oB,if_neg (by simp)]
   have e2:(gb (⟨(nth x v).fN,(nth x v).fD⟩:R))=some (Jh (nth x v)):=(Qa).1
   rw[e2,oB,oB,hy,oB,oB,if_neg (by simp),xQ (by omega),p6b hy hl n (v+1) _ (by omega) (by omega) (by omega),kZ h0 h]
   rfl
  ·rw[Nw h,fo h];rfl
theorem p4b{l:List (List B)}{k:(Nat×List R×Int)->Option (Nat×List R×Int)}(hy:∀ p s,y p (0,s)=some (true,(0,uB f s p)))(hl:l.length<=100000):∀(n:Nat) (v:Int) (s:List R×Int),0<=v->v<=l.length->l.length<n+v->
  vm _ l y k n v (0,s)=k (0,((l.drop v.toNat).flatMap fun c=>b6 (dW c).1).foldl (uB f) s)
 | 0,v,s,h0,h1,h2=>by omega
 | n+1,v,s,h0,h1,h2=>by
  rw[vm]
  by_cases h:v<l.length
  ·rw[Nv h]
   refine wA (P:=fun o=>o=_) fun k1 w5=>?_
   rw[xL ⟨h0,h⟩,(nn _).1,oB]
   refine wA (P:=fun o=>o=_) fun k2 qh=>?_
   have hb:=(nn (nth l v)).2
   rw[p5b (f:=f) hy (by omega) xR 0 s (by omega) (by omega) (by rw[wi];omega),qh,w5,xQ (by omega),p4b hy hl n (v+1) _ (by omega) (by omega) (by omega),kZ h0 h,List.flatMap_cons,List.foldl_append]
   rfl
  ·rw[Nw h,fo h];rfl
theorem Gy{a b:SV}{c:List (List B)}{sg:List R}(hy:∀ p s,y p (0,s)=some (true,(0,uB f s p)))(hl:l.length<=100000)(hm:sg.length<=100000):
  qq _ y (0,([],0)) l a c b sg=some (0,(iV l sg).foldl (uB f) ([],0)):=by
 unfold qq
 rw[cv,oB,hy,oB,if_neg (by simp)]
 refine wA (P:=fun o=>o=_) fun k hk=>?_
 rw[p4b (f:=f) hy hl xR 0 _ (by omega) (by omega) (by rw[wi];omega),hk]
 refine wA (P:=fun o=>o=_) fun k2 qh=>?_
 rw[p6b (f:=f) hy hm xR 0 _ (by omega) (by omega) (by rw[wi];omega),qh]
 unfold iV
 rw[List.foldl_cons,List.foldl_append]
 rfl
end
def lp(l:List (List B))(s:SV):Int:=
 if l.length>32 || !(l.all VC) || !(VS s) then 2 else
 match YL l (Z1,0) with
 | .inl e=>e
 | .inr r=>if r.2≠0 then r.2 else if CM r.1 s.fR>0 then 6 else 0
theorem Fv(h:lp l s=0):VS s=true:=by
 unfold lp at h
 cases hs:VS s with
 | true=>rfl
 | false=>rw[if_pos (by simp[hs])] at h;cases h
theorem Fx{s:List (List B)}{k:Option Int}(hl:s.length<=100000):∀(n:Nat) (v:Int),0<=v->v<=s.length->s.length<n+v->k=some (-1)->
  ∃ x:Int,wO s (fun y0=>j4 y0) k n v=some x/\(x>=0↔(s.drop v.toNat).all VC=false)
 | 0,v,h0,h1,h2,hk=>by omega
 | n+1,v,h0,h1,h2,hk=>by
  rw[wO]
  by_cases h:v<s.length
  ·rw[Nv h,xL ⟨h0,h⟩,kZ h0 h]
   unfold j4
   rw[rM,oB,oB,List.all_cons]
   cases hc:VC (nth s v) with
   | false=>exact⟨v,by simp,by simp;omega⟩
   | true=>
    rw[if_neg (by simp),xQ (by omega),Bool.true_and]
    exact Fx hl n (v+1) (by omega) (by omega) (by omega) hk
  ·rw[Nw h,fo h,hk]
   exact⟨-1,rfl,by simp⟩
theorem aT(hl:l.length<=100000):(qe l (fun y0=>j4 y0))=some (!(l.all VC)):=by
 unfold qe jr
 refine WW (P:=fun o=>(o.bind fun x=>some (decide (x>=0)))=some (!(l.all VC))) fun k hk=>?_
 obtain⟨x,e,h⟩:=Fx hl xR 0 (by omega) (by omega) (by rw[wi];omega) hk
 rw[e,oB]
 rw[show(0:Int).toNat=0 from rfl,List.drop_zero] at h
 cases ha:l.all VC with
 | true=>rw[ha] at h;simp at h;simp;omega
 | false=>rw[ha] at h;simp at h;simp;omega
theorem KN{l:List (List B)}{k:Int->Int->Int->Option Int}(hv:∀ c∈l,VC c=true)(hl:l.length<=1000):∀(n:Nat) (v:Int) (a:R×Int),0<=v->v<=l.length->l.length<n+v->
  vT l k n v a.2 a.1.fN a.1.fD=match YL (l.drop v.toNat) a with | .inl e=>some e | .inr r=>k r.2 r.1.fN r.1.fD
 | 0,v,a,h0,h1,h2=>by omega
 | n+1,v,a,h0,h1,h2=>by
  rw[vT]
  by_cases h:v<l.length
  ·have hc:=hv _ (wp h0 h)
   rw[Nv h,xL ⟨h0,h⟩,(nn _).1,oB,kZ h0 h,YL]
   by_cases hb:(dW (nth l v)).2≠0
   ·rw[if_pos (by simpa using hb),if_pos hb]
   ·rw[Nw hb,if_neg hb,(rt_s hc).1,oB]
    show((vw ⟨a.2⟩ (fun y0 y1=>vR y0 y1) a.1 (Vw (nth l v)).1).bind _)=_
    rw[Wb (nl _).1,oB,xQ (by omega)]
    exact KN hv hl n (v+1) _ (by omega) (by omega) (by omega)
  ·rw[Nw h,fo h]
   rfl
theorem ME{c:List (List B)}{t:SV}{m:List R}(hl:l.length<=40):qT l s c t m=some (lp l s):=by
 unfold qT lp
 by_cases h1:(((l.length:Nat):Int)>32)
 ·rw[Nv h1,oB,if_pos rfl,oB,if_pos rfl,if_pos (by simp;omega)]
 ·rw[Nw h1,aT (by omega)]
  simp only[oB]
  by_cases h2:l.all VC=true
  ·rw[h2]
   simp only[Bool.not_true,Bool.false_eq_true,if_false]
   rw[Vu,oB,oB]
   cases hs:VS s with
   | false=>rw[if_pos (by rfl),if_pos (by simp)]
   | true=>
    rw[if_neg (by simp),if_neg (by simp;omega),cv,oB]
    refine aR (P:=fun o=>o=_) fun k hk=>?_
    have:=KN (k:=k) (List.all_eq_true.1 h2) (by omega) xR 0 (Z1,0) (by omega) (by omega) (by rw[wi];omega)
    rw[this,show(0:Int).toNat=0 from rfl,List.drop_zero]
    cases YL l (Z1,0) with
    | inl e=>rfl
    | inr r=>
     simp only
     rw[hk]
     by_cases hr:r.2=0
     ·rw[Nv hr,if_neg (by simp[hr])]
      show(((q8 r.1 s.fR).bind _).bind _)=_
      rw[(Jf).1,oB,oB]
      by_cases hc:CM r.1 s.fR>0
      ·rw[Nv hc,if_pos hc]
      ·rw[Nw hc,if_neg hc,hr]
     ·rw[Nw hr,oB,if_neg (by simp),if_pos hr]
  ·have DK:l.all VC=false:=by simpa using h2
   rw[DK]
   simp only[Bool.not_false,if_true]
   rw[oB,if_pos rfl,if_pos (by simp)]
theorem Jj{l:List (List B)}{k:Int->Int->Int->Option Int}(hv:∀ c∈l,VC c=true)(hl:l.length<=1000):∀(n:Nat) (v:Int) (a:R×Int),0<=v->v<=l.length->l.length<n+v->
  vT l k n v a.2 a.1.fN a.1.fD=match YL (l.drop v.toNat) a with | .inl e=>some e | .inr r=>k r.2 r.1.fN r.1.fD
 | 0,v,a,h0,h1,h2=>by omega
 | n+1,v,a,h0,h1,h2=>by
  rw[vT]
  by_cases h:v<l.length
  ·have hc:=hv _ (wp h0 h)
   rw[Nv h,xL ⟨h0,h⟩,(nn _).1,oB,kZ h0 h,YL]
   by_cases hb:(dW (nth l v)).2≠0
   ·rw[if_pos (by simpa using hb),if_pos hb]
   ·rw[Nw hb,if_neg hb,(rt_s hc).1,oB]
    show((vw ⟨a.2⟩ (fun y0 y1=>vR y0 y1) a.1 (Vw (nth l v)).1).bind _)=_
    rw[Wb (nl _).1,oB,xQ (by omega)]
    exact Jj hv hl n (v+1) _ (by omega) (by omega) (by omega)
  ·rw[Nw h,fo h]
   rfl
theorem Fy{c:List (List B)}{t:SV}{m:List R}(hl:l.length<=40):qT l s c t m=some (lp l s):=by
 unfold qT lp
 by_cases h1:(((l.length:Nat):Int)>32)
 ·rw[Nv h1,oB,if_pos rfl,oB,if_pos rfl,if_pos (by simp;omega)]
 ·rw[Nw h1,aT (by omega)]
  simp only[oB]
  by_cases h2:l.all VC=true
  ·rw[h2]
   simp only[Bool.not_true,Bool.false_eq_true,if_false]
   rw[Vu,oB,oB]
   cases hs:VS s with
   | false=>rw[if_pos (by rfl),if_pos (by simp)]
   | true=>
    rw[if_neg (by simp),if_neg (by simp;omega),cv,oB]
    refine aR (P:=fun o=>o=_) fun k hk=>?_
    have:=Jj (k:=k) (List.all_eq_true.1 h2) (by omega) xR 0 (Z1,0) (by omega) (by omega) (by rw[wi];omega)
    rw[this,show(0:Int).toNat=0 from rfl,List.drop_zero]
    cases YL l (Z1,0) with
    | inl e=>rfl
    | inr r=>
     simp only
     rw[hk]
     by_cases hr:r.2=0
     ·rw[Nv hr,if_neg (by simp[hr])]
      show(((q8 r.1 s.fR).bind _).bind _)=_
      rw[(Jf).1,oB,oB]
      by_cases hc:CM r.1 s.fR>0
      ·rw[Nv hc,if_pos hc]
      ·rw[Nw hc,if_neg hc,hr]
     ·rw[Nw hr,oB,if_neg (by simp),if_pos hr]
  ·have DK:l.all VC=false:=by simpa using h2
   rw[DK]
   simp only[Bool.not_false,if_true]
   rw[oB,if_pos rfl,if_pos (by simp)]
end
section
variable {l:List (List B)}{s:SV}
def rk(k:Int->Int->Option (R×Int))(b:R)(r:List R×Int):Option (R×Int):=
 if r.2≠0 then some (⟨0,0⟩,r.2) else match r.1 with | []=>k b.fN b.fD | x::_=>k x.fN x.fD
theorem Fz{f:Int->R->R×Int}{P:List R}(hP:P≠[]){k:Int->Int->Option (R×Int)}(hk:∀ x y,k x y=some (⟨x,y⟩,0)):rk k ⟨0,0⟩ (P.foldl (uB f) ([],0))=some (Vv f P):=by
 unfold rk Vv
 by_cases h:(P.foldl (uB f) ([],0)).2≠0
 ·rw[if_pos h];simp only;rw[if_pos h]
 ·rw[if_neg h];simp only;rw[if_neg h]
  cases P with
  | nil=>exact absurd rfl hP
  | cons p P=>
   have oM:((p::P).foldl (uB f) ([],0)).1≠[]:=by
    rw[List.foldl_cons];exact Wd _ _ (by simp[uB])
   cases hr:((p::P).foldl (uB f) ([],0)).1 with
   | nil=>exact absurd hr oM
   | cons x t=>simp only;rw[hk];rfl
theorem R4_eq(hl:l.length<=1000)(hs:VS s=true)(p:R)(st:List R×Int):chk ((0:Nat)=0) (ky l s p st.1 st.2)=some (true,(0,uB (dv l s) st p)):=by
 rw[xL rfl]
 unfold ky
 rw[Ft hl hs,oB]
 unfold uB
 cases jf:st.1 with
 | nil=>rw[if_pos (by simp),oB,if_pos rfl]
 | cons x r=>
  rw[if_neg (by simp;omega),xL (by simp)]
  have hn:(⟨(nth (x::r) 0).fN,(nth (x::r) 0).fD⟩:R)=x:=rfl
  rw[hn,(Jf).1,oB,oB]
  simp only
  by_cases hc:CM (dv l s st.2 p).1 x>0
  ·rw[Nv hc,if_pos hc]
  ·rw[Nw hc,if_neg hc]
theorem T7{sg:List R}(hl:l.length<=40)(hm:sg.length<=1000):fW l s l s sg=some (if lp l s=0 then Vv (dv l s) (iV l sg) else(⟨0,0⟩,lp l s)):=by
 unfold fW
 rw[ME hl,oB]
 by_cases h:lp l s=0
 ·have hs:VS s=true:=Fv h
  rw[if_pos h,if_neg (by simpa using h)]
  refine tc (P:=fun o=>o=_) fun k hk=>?_
  unfold kx
  rw[oB,Fu (f:=dv l s) (fun p st=>R4_eq (by omega) hs p st) (by omega) (by omega),oB,hk]
  have:=Fz (f:=dv l s) (P:=iV l sg) (k:=fun x y=>some (⟨x,y⟩,0)) (by simp[iV]) (fun _ _=>rfl)
  rw[<- this]
  unfold rk
  generalize hr:(iV l sg).foldl (uB (dv l s)) ([],0)=r
  have oM:r.1≠[]:=by
   rw[<- hr];unfold iV;rw[List.foldl_cons];exact Wd _ _ (by simp[uB])
  simp only
  by_cases h2:r.2≠0
  ·rw[if_pos (by simpa using h2),if_pos h2]
  ·rw[Nw h2,if_neg h2]
   cases Bv:r.1 with
   | nil=>exact absurd Bv oM
   | cons x t=>rw[xL (by simp)];rfl
 ·rw[if_neg h,if_pos (by simpa using h)]
theorem T8(hl:l.length<=1000)(hs:VS s=true)(p:R)(st:List R×Int):chk ((0:Nat)=0) (kg l s p st.1 st.2)=some (true,(0,uB (bv l s) st p)):=by
 rw[xL rfl]
 unfold kg
 rw[Ki hl,oB]
 unfold uB
 cases jf:st.1 with
 | nil=>rw[if_pos (by simp),oB,if_pos rfl]
 | cons x r=>
  rw[if_neg (by simp;omega),xL (by simp)]
  have hn:(⟨(nth (x::r) 0).fN,(nth (x::r) 0).fD⟩:R)=x:=rfl
  rw[hn,(Jf).1,oB,oB]
  simp only
  by_cases hc:CM (bv l s st.2 p).1 x>0
  ·rw[Nv hc,if_pos hc]
  ·rw[Nw hc,if_neg hc]
theorem UC{sg:List R}(hl:l.length<=40)(hm:sg.length<=1000):fh l s l s sg=some (if lp l s=0 then Vv (bv l s) (iV l sg) else(⟨0,0⟩,lp l s)):=by
 unfold fh
 rw[Fy hl,oB]
 by_cases h:lp l s=0
 ·have hs:VS s=true:=Fv h
  rw[if_pos h,if_neg (by simpa using h)]
  refine tc (P:=fun o=>o=_) fun k hk=>?_
  unfold kx
  rw[oB,Gy (f:=bv l s) (fun p st=>T8 (by omega) hs p st) (by omega) (by omega),oB,hk]
  have:=Fz (f:=bv l s) (P:=iV l sg) (k:=fun x y=>some (⟨x,y⟩,0)) (by simp[iV]) (fun _ _=>rfl)
  rw[<- this]
  unfold rk
  generalize hr:(iV l sg).foldl (uB (bv l s)) ([],0)=r
  have oM:r.1≠[]:=by
   rw[<- hr];unfold iV;rw[List.foldl_cons];exact Wd _ _ (by simp[uB])
  simp only
  by_cases h2:r.2≠0
  ·rw[if_pos (by simpa using h2),if_pos h2]
  ·rw[Nw h2,if_neg h2]
   cases Bv:r.1 with
   | nil=>exact absurd Bv oM
   | cons x t=>rw[xL (by simp)];rfl
 ·rw[if_neg h,if_pos (by simpa using h)]
end
section
theorem dX{RR A0 A1:Type}{K:A0->A1->Option RR}{F:(A0->A1->Option RR)->Option RR}{P:Option RR->Prop}(h:∀ k:A0->A1->Option RR,(∀ x0 x1,k x0 x1=K x0 x1)->P (F k)):P (sk K F):=h K fun _ _=>rfl
theorem Jk{RR A0 A1 A2 A3 A4:Type}{K:A0->A1->A2->A3->A4->Option RR}{F:(A0->A1->A2->A3->A4->Option RR)->Option RR}{P:Option RR->Prop}(h:∀ k:A0->A1->A2->A3->A4->Option RR,(∀ x0 x1 x2 x3 x4,k x0 x1 x2 x3 x4=K x0 x1 x2 x3 x4)->P (F k)):P (jp5 K F):=h K fun _ _ _ _ _=>rfl
theorem T9{RR A0 A1 A2 A3 A4 A5:Type}{K:A0->A1->A2->A3->A4->A5->Option RR}{F:(A0->A1->A2->A3->A4->A5->Option RR)->Option RR}{P:Option RR->Prop}(h:∀ k:A0->A1->A2->A3->A4->A5->Option RR,(∀ x0 x1 x2 x3 x4 x5,k x0 x1 x2 x3 x4 x5=K x0 x1 x2 x3 x4 x5)->P (F k)):P (jp6 K F):=h K fun _ _ _ _ _ _=>rfl
abbrev Flow:=ym
abbrev PB:=ys
abbrev BM:=List (Flow×R)
abbrev DM:=List (Pl×Int)
def DO(e:Int)(r:R×Int):R×Int:=(if r.2≠0 then⟨0,1⟩ else r.1,if e=0 then r.2 else e)
theorem Qb{c:Cf}{rs:List (List Hop)}{bu:BM}{de:DM}{e:Int}{f:R->R->Option (R×Int)}{x y:R}{r:R×Int}(h:f x y=some r):gY c rs bu de e f x y=some (DO e r):=by
 unfold gY DO jG
 rw[h,oB]
 refine wA (P:=fun o=>o=_) fun k hk=>?_
 have e1:(if decide (e=0)=true then k r.2 else k e)=k (if e=0 then r.2 else e):=by
  by_cases h:e=0 <;> simp[h]
 rw[e1,hk]
 by_cases hr:r.2≠0
 ·rw[if_pos (by simpa using hr),if_pos hr];rfl
 ·rw[Nw hr,if_neg hr]
def mI(c:Cf):Prop:=∀ v∈c.yc,(100<=v.yE/\v.yE<=12800)/\1<=v.yA/\v.yA<=72
def mx(c:Cf)(v:Int):Int:=(nth c.yc v).yA
def RT(c:Cf)(v:Int):R:=(mk (Rat.divInt (mx c v) (nth c.yc v).yE)).1
theorem WY{c:Cf}{rs:List (List Hop)}{bu:BM}{de:DM}{e v:Int}(hv:mI c)(h:0<=v/\v<c.yc.length):gT c rs bu de e v=some (RT c v):=by
 have h2:=hv _ (wp h.1 h.2)
 unfold gT RT mx
 rw[xL h,dU (by omega)]
 rfl
def sJ(p:Pl)(r:List Hop):Bool:=r.any fun h=>decide (pk h=p)
theorem UD{r:List Hop}{p:Pl}(hl:r.length<1000000000):vC r (fun y0=>fO y0 p)=some (sJ p r):=
 J1 (p:=fun h=>decide (pk h=p)) (fun h _=>rfl) hl
structure CS where
 own:List (List B)
 most:Int
 e:Int
 lk:List (Int×List Int)
 bu:BM
def sK(c:Cf)(rs:List (List Hop))(de:DM)(p:Pl)(s:CS)(v:Int):CS:=
 let r:=nth rs v
 if sJ p r then
  let g:=gj r p.ya
  if g.2 then
   let a:=DO s.e (MUL (RT c v) ⟨xI de (pk g.1) 0,1⟩)
   let b:=DO a.2 (YJ (xI s.bu ⟨v,pk g.1⟩ ⟨0,0⟩) a.1)
   ⟨s.own,max s.most (mx c v),b.2,w6 s.lk g.1.fQ (xI s.lk g.1.fQ []++[v]),w6 s.bu ⟨v,p⟩ b.1⟩
  else⟨s.own++[[⟨⟨mx c v,1⟩,RT c v⟩]],max s.most (mx c v),s.e,s.lk,w6 s.bu ⟨v,p⟩ ⟨mx c v,1⟩⟩
 else s
def jE(v:Int):Nat->List Int
 | 0=>[]
 | n+1=>v::jE (v+1) n
abbrev CR:=List (List B)×Int×Int×BM
theorem Vx{c:Cf}{rs:List (List Hop)}{de:DM}{p:Pl}{s:CS}{v:Int}{n:Int}(h:(s.own.length:Int)<=n/\∀ k,((xI s.lk k []).length:Int)<=n):((sK c rs de p s v).own.length:Int)<=n+1/\∀ k,((xI (sK c rs de p s v).lk k []).length:Int)<=n+1:=by
 unfold sK
 simp only
 split
 ·split
  ·refine⟨by have:=h.1;show(s.own.length:Int)<=_;omega,fun k=>?_⟩
   show((xI (w6 s.lk _ _) k []).length:Int)<=_
   rw[gW]
   split
   ·have:=h.2 (gj (nth rs v) p.ya).1.fQ;simp;omega
   ·have:=h.2 k;omega
  ·refine⟨by have:=h.1;simp;omega,fun k=>by have:=h.2 k;show((xI s.lk k []).length:Int)<=_;omega⟩
 ·exact⟨by have:=h.1;omega,fun k=>by have:=h.2 k;omega⟩
theorem Vy{c:Cf}{rs:List (List Hop)}{de:DM}{p:Pl}{k:List (List B)->Int->Int->List (Int×List Int)->BM->Option CR}(hv:mI c)(hl:rs.length=c.yc.length)(hr:∀ r∈rs,r.length<1000000000)(hs:rs.length<=1000):
  ∀(n:Nat) (v:Int) (s:CS),0<=v->v<=rs.length->rs.length<n+v->((s.own.length:Int)<=v/\∀ k,((xI s.lk k []).length:Int)<=v)->
   jV rs p c de k n s.own s.most v s.e s.lk s.bu=(fun t:CS=>k t.own t.most t.e t.lk t.bu) ((jE v (rs.length-v.toNat)).foldl (sK c rs de p) s)
 | 0,v,s,h0,h1,h2,h3=>by omega
 | n+1,v,s,h0,h1,h2,h3=>by
  rw[jV]
  by_cases h:v<rs.length
  ·have hb:0<=v/\v<(c.yc.length:Int):=⟨h0,by omega⟩
   rw[Nv h,show rs.length-v.toNat=(rs.length-(v+1).toNat)+1 by omega,jE,List.foldl_cons]
   refine Jk (P:=fun o=>o=_) fun k1 w5=>?_
   have Bn:∀ t:CS,t=sK c rs de p s v->k1 t.own t.most t.e t.lk t.bu=(fun t:CS=>k t.own t.most t.e t.lk t.bu) ((jE (v+1) (rs.length-(v+1).toNat)).foldl (sK c rs de p) (sK c rs de p s v)):=fun t ht=>by
    subst ht
    rw[w5,xQ (x:=v+1) (by omega)]
    exact Vy hv hl hr hs n (v+1) _ (by omega) (by omega) (by omega) (Vx h3)
   rw[xL ⟨h0,h⟩,UD (hr _ (wp h0 h)),oB]
   cases hu:sJ p (nth rs v) with
   | false=>
    rw[if_pos (by rfl)]
    refine Bn s ?_
    unfold sK;simp only[hu];rfl
   | true=>
    rw[if_neg (by simp),xL hb,xL hb]
    unfold jG
    rw[oB]
    refine Jk (P:=fun o=>o=_) fun k2 qh=>?_
    rw[WR (hr _ (wp h0 h)),oB]
    cases hg:(gj (nth rs v) p.ya).2 with
    | true=>
     rw[if_pos rfl,of_eq,oB,WY hv hb,oB,oB,oB]
     rw[Qb (f:=fun y0 y1=>gw y0 y1) (U6 _).1,oB]
     rw[Qb (f:=fun y0 y1=>vR y0 y1) (nl _).1,oB]
     have:=h3.2 (gj (nth rs v) p.ya).1.fQ
     rw[xL (by simp;omega),qh]
     refine Eq.trans ?_ (Bn _ rfl)
     have e:sK c rs de p s v=sK c rs de p s v:=rfl
     conv at e=>rhs;unfold sK
     simp only[hu,hg,if_true,if_false,Bool.false_eq_true] at e
     rw[e]
     rfl
    | false=>
     rw[if_neg (by simp),WY hv hb,oB]
     have:=h3.1
     rw[xL (by simp;omega),qh]
     refine Eq.trans ?_ (Bn _ rfl)
     have e:sK c rs de p s v=sK c rs de p s v:=rfl
     conv at e=>rhs;unfold sK
     simp only[hu,hg,if_true,if_false,Bool.false_eq_true] at e
     rw[e]
     rfl
  ·rw[Nw h,show rs.length-v.toNat=0 by omega];rfl
structure GS where
 wide:Int
 e:Int
 b:R
 r:R
def gst(c:Cf)(bu:BM)(p:Pl)(s:GS)(v:Int):GS:=
 let x:=DO s.e (YJ s.b (xI bu ⟨v,p⟩ ⟨0,0⟩))
 let y:=DO x.2 (YJ s.r (RT c v))
 ⟨max s.wide (mx c v),y.2,x.1,y.1⟩
theorem We{c:Cf}{rs:List (List Hop)}{lk:List (Int×List Int)}{q:Int}{bu:BM}{de:DM}{p:Pl}{k:Int->Int->Int->Int->Int->Int->Option CR}(hv:mI c)(hl:∀ v∈xI lk q [],0<=v/\v<c.yc.length)(hs:(xI lk q []).length<=1000):
  ∀(n:Nat) (i:Int) (s:GS),0<=i->i<=(xI lk q []).length->(xI lk q []).length<n+i->
   jW lk q c rs bu de p k n s.wide i s.e s.b.fN s.b.fD s.r.fN s.r.fD=(fun t:GS=>k t.wide t.e t.b.fN t.b.fD t.r.fN t.r.fD) (((xI lk q []).drop i.toNat).foldl (gst c bu p) s)
 | 0,v,s,h0,h1,h2=>by omega
 | n+1,i,s,h0,h1,h2=>by
  rw[jW]
  by_cases h:i<(xI lk q []).length
  ·have hb:=hl _ (wp h0 h)
   rw[Nv h,xL ⟨h0,h⟩,kd h0 h,List.foldl_cons]
   rw[Qb (f:=fun y0 y1=>vR y0 y1) (nl _).1,oB,WY hv hb,oB,Qb (f:=fun y0 y1=>vR y0 y1) (nl _).1,oB,xL hb,xQ (x:=i+1) (by omega)]
   have e2:(i+1).toNat=i.toNat+1:=by omega
   have:=We (rs:=rs) (de:=de) (bu:=bu) (p:=p) (k:=k) hv hl hs n (i+1) (gst c bu p s (nth (xI lk q []) i)) (by omega) (by omega) (by omega)
   rw[e2] at this
   exact this
  ·rw[Nw h,List.drop_eq_nil_of_le (by omega)];rfl
def b7(c:Cf)(lk:List (Int×List Int))(bu:BM)(p:Pl)(s:List (List B)×Int)(q:Int):List (List B)×Int:=
 if xI lk q []=[] then s else
  let g:=(xI lk q []).foldl (gst c bu p) ⟨0,s.2,⟨0,1⟩,⟨0,1⟩⟩
  (s.1++[[⟨g.b,g.r⟩,⟨⟨g.wide,1⟩,⟨1,(nth c.fK q).yp⟩⟩]],g.e)
theorem Vz{c:Cf}{rs:List (List Hop)}{lk:List (Int×List Int)}{bu:BM}{de:DM}{p:Pl}{k:List (List B)->Int->Option CR}(hv:mI c)(hl:∀ q,∀ v∈xI lk q [],0<=v/\v<c.yc.length)(hs:∀ q,(xI lk q []).length<=1000)(hL:c.fK.length<=1000):
  ∀(n:Nat) (q:Int) (s:List (List B)×Int),0<=q->q<=c.fK.length->c.fK.length<n+q->(s.1.length:Int)<=q->
   jX c lk rs bu de p k n s.1 q s.2=(fun t:List (List B)×Int=>k t.1 t.2) ((jE q (c.fK.length-q.toNat)).foldl (b7 c lk bu p) s)
 | 0,v,s,h0,h1,h2,h3=>by omega
 | n+1,q,s,h0,h1,h2,h3=>by
  rw[jX]
  by_cases h:q<c.fK.length
  ·rw[Nv h,show c.fK.length-q.toNat=(c.fK.length-(q+1).toNat)+1 by omega,jE,List.foldl_cons]
   refine dX (P:=fun o=>o=_) fun k1 w5=>?_
   have eW:((b7 c lk bu p s q).1.length:Int)<=q+1:=by
    unfold b7;split
    ·omega
    ·simp;omega
   have Bn:∀ t:List (List B)×Int,t=b7 c lk bu p s q->k1 t.1 t.2=(fun t:List (List B)×Int=>k t.1 t.2) ((jE (q+1) (c.fK.length-(q+1).toNat)).foldl (b7 c lk bu p) (b7 c lk bu p s q)):=fun t ht=>by
    subst ht
    rw[w5,xQ (x:=q+1) (by omega)]
    exact Vz hv hl hs hL n (q+1) _ (by omega) (by omega) (by omega) eW
   by_cases hz:xI lk q []=[]
   ·rw[if_pos (by simp[hz])]
    refine Bn s ?_
    unfold b7;rw[if_pos hz]
   ·rw[if_neg (by simpa using hz)]
    unfold jG
    rw[oB,oB]
    refine T9 (P:=fun o=>o=_) fun k2 qh=>?_
    have:=We (rs:=rs) (de:=de) (k:=k2) (bu:=bu) (p:=p) hv (hl q) (hs q) xR 0 ⟨0,s.2,⟨0,1⟩,⟨0,1⟩⟩ (by omega) (by omega) (by rw[wi];have:=hs q;omega)
    simp only[Int.toNat_zero,List.drop_zero] at this
    rw[this,qh,oB,xL ⟨h0,h⟩,xL (by simp;omega)]
    refine Bn (_,_) ?_
    unfold b7;rw[if_neg hz]
  ·rw[Nw h,show c.fK.length-q.toNat=0 by omega];rfl
theorem FA{c:Cf}{rs:List (List Hop)}{de:DM}{p:Pl}:∀(n:Nat) (v:Int) (s:CS),0<=v->((s.own.length:Int)<=v/\∀ k,((xI s.lk k []).length:Int)<=v)->(∀ k,∀ x∈xI s.lk k [],0<=x/\x<v)->
  (((jE v n).foldl (sK c rs de p) s).own.length:Int)<=v+n/\(∀ k,((xI ((jE v n).foldl (sK c rs de p) s).lk k []).length:Int)<=v+n)/\∀ k,∀ x∈xI ((jE v n).foldl (sK c rs de p) s).lk k [],0<=x/\x<v+n
 | 0,v,s,_,h,h2=>⟨by have:=h.1;show(s.own.length:Int)<=_;omega,fun k=>by have:=h.2 k;show((xI s.lk k []).length:Int)<=_;omega,fun k x hx=>by have:=h2 k x hx;omega⟩
 | n+1,v,s,h0,h,h2=>by
  rw[jE,List.foldl_cons]
  obtain⟨a1,a2,a3⟩:=FA (c:=c) (rs:=rs) (de:=de) (p:=p) n (v+1) (sK c rs de p s v) (by omega) (Vx h) (fun k x hx=>by
   unfold sK at hx
   simp only at hx
   split at hx
   ·split at hx
    ·rw[show(CS.lk ⟨_,_,_,_,_⟩)=w6 s.lk _ _ from rfl,gW] at hx
     split at hx
     ·rcases List.mem_append.1 hx with hx | hx
      ·have:=h2 _ x hx;omega
      ·rw[List.mem_singleton] at hx;omega
     ·have:=h2 k x hx;omega
    ·have:=h2 k x hx;omega
   ·have:=h2 k x hx;omega)
  exact⟨by omega,fun k=>by have:=a2 k;omega,fun k x hx=>by have:=a3 k x hx;omega⟩
def CU(c:Cf)(rs:List (List Hop))(bu:BM)(de:DM)(e:Int)(p:Pl):CR:=
 let s:=(jE 0 rs.length).foldl (sK c rs de p) ⟨[],0,e,[],bu⟩
 let g:=(jE 0 c.fK.length).foldl (b7 c s.lk s.bu p) ([],s.e)
 (s.own++g.1,s.most,g.2,s.bu)
theorem KO{c:Cf}{lk:List (Int×List Int)}{bu:BM}{p:Pl}:∀(n:Nat) (q:Int) (s:List (List B)×Int),((jE q n).foldl (b7 c lk bu p) s).1.length<=s.1.length+n
 | 0,q,s=>by show s.1.length<=_;omega
 | n+1,q,s=>by
  rw[jE,List.foldl_cons]
  have h1:=KO (c:=c) (lk:=lk) (bu:=bu) (p:=p) n (q+1) (b7 c lk bu p s q)
  have h2:(b7 c lk bu p s q).1.length<=s.1.length+1:=by
   unfold b7;split
   ·omega
   ·simp
  omega
theorem FB{c:Cf}{rs:List (List Hop)}{bu:BM}{de:DM}{e:Int}{p:Pl}(hv:mI c)(hl:rs.length=c.yc.length)(hr:∀ r∈rs,r.length<1000000000)(hs:rs.length<=16)(hL:c.fK.length<=20):
  mO c rs bu de e p=some (CU c rs bu de e p)/\(CU c rs bu de e p).1.length<=36:=by
 obtain⟨a1,a2,a3⟩:=FA (c:=c) (rs:=rs) (de:=de) (p:=p) rs.length 0 ⟨[],0,e,[],bu⟩ (by omega) ⟨by simp,fun k=>by simp[xI]⟩ (fun k x hx=>by simp[xI] at hx)
 have eW:(CU c rs bu de e p).1.length<=36:=by
  unfold CU
  simp only[List.length_append]
  have:=KO (c:=c) (lk:=((jE 0 rs.length).foldl (sK c rs de p) ⟨[],0,e,[],bu⟩).lk) (bu:=((jE 0 rs.length).foldl (sK c rs de p) ⟨[],0,e,[],bu⟩).bu) (p:=p) c.fK.length 0 ([],((jE 0 rs.length).foldl (sK c rs de p) ⟨[],0,e,[],bu⟩).e)
  simp only[List.length_nil,Nat.zero_add] at this
  omega
 refine⟨?_,eW⟩
 unfold mO
 refine Jk (P:=fun o=>o=_) fun k hk=>?_
 have h1:=Vy (k:=k) (p:=p) (de:=de) hv hl hr (by omega) xR 0 ⟨[],0,e,[],bu⟩ (by omega) (by omega) (by rw[wi];omega) ⟨by simp,fun k=>by simp[xI]⟩
 simp only[Int.toNat_zero,Nat.sub_zero] at h1
 rw[h1,hk]
 refine dX (P:=fun o=>o=_) fun k2 qh=>?_
 have h2:=Vz (rs:=rs) (de:=de) (p:=p) (k:=k2) (bu:=((jE 0 rs.length).foldl (sK c rs de p) ⟨[],0,e,[],bu⟩).bu) hv (fun q v hx=>by have:=a3 q v hx;omega) (fun q=>by have:=a2 q;omega) (by omega) xR 0 ([],((jE 0 rs.length).foldl (sK c rs de p) ⟨[],0,e,[],bu⟩).e) (by omega) (by omega) (by rw[wi];omega) (by simp)
 simp only[Int.toNat_zero,Nat.sub_zero] at h2
 rw[h2,qh]
 unfold CU at eW
 simp only at eW
 rw[xL (by omega)]
 rfl
end
section
variable {rs:List (List Hop)}{de:DM}{net v:Int}
def er(x:Int):Int:=if x=6 then 352 else x
def fe(e a b:Int):Int:=if (if e=0 then er a else e)=0 then er b else(if e=0 then er a else e)
theorem FC{x y:R×Int}{k:Int->Option (PB×Int×BM×DM)}(e:Int):qH x y k xR 0 e=k (fe e x.2 y.2):=by
 have hF:xR=(xR-3)+3:=by rw[wi]
 rw[hF]
 generalize xR-3=N
 have tS:∀(n:Nat) (v e a:Int),0<=v->v<2->nth ([x.2,y.2]:List Int) v=a->qH x y k (n+1) v e=qH x y k n (v+1) (if e=0 then er a else e):=by
  intro n v e a h0 h1 ha
  rw[qH,if_pos (by simp;omega)]
  refine wA (P:=fun o=>o=_) fun k1 w5=>?_
  rw[xL (by simp;omega)]
  refine wA (P:=fun o=>o=_) fun k2 qh=>?_
  rw[ha]
  have e1:(if decide (a=6)=true then k2 352 else k2 a)=k2 (er a):=by
   unfold er;by_cases h:a=6 <;> simp[h]
  have e2:(if decide (e=0)=true then k1 (er a) else k1 e)=k1 (if e=0 then er a else e):=by
   by_cases h:e=0 <;> simp[h]
  rw[e1,qh,e2,w5,xQ (x:=v+1) (by omega)]
 rw[tS (N+2) 0 e x.2 (by omega) (by omega) rfl,tS (N+1) (0+1) _ y.2 (by omega) (by omega) rfl,qH,if_neg (by simp)]
 rfl
def DL(l:List (List B))(s:SV):R×Int:=if lp l s=0 then Vv (dv l s) (iV l []) else(⟨0,0⟩,lp l s)
def BL(l:List (List B))(s:SV):R×Int:=if lp l s=0 then Vv (bv l s) (iV l [s.fL]) else(⟨0,0⟩,lp l s)
theorem MF{l:List (List B)}{s:SV}(hl:l.length<=40):uZ l s=some (DL l s):=by
 unfold uZ DL
 rw[T7 hl (by simp),oB]
theorem Gz{l:List (List B)}{s:SV}(hl:l.length<=40):uc l s=some (BL l s):=by
 unfold uc BL
 rw[UC hl (by simp),oB]
def lat(c:Cf)(p:Pl):Int:=if p.ya-nM c>=0 then(nth c.fS (p.ya-nM c)).yl else 0
def srv(c:Cf)(p:Pl):SV:=⟨⟨1,(nth c.fK p.fQ).yp⟩,⟨lat c p,1⟩⟩
def PO(c:Cf)(rs:List (List Hop))(bu:BM)(de:DM)(e:Int)(p:Pl):PB×Int×BM×DM:=
 let u:=CU c rs bu de e p
 let d:=DL u.1 (srv c p)
 let b:=BL u.1 (srv c p)
 (⟨p.ya,p.fQ,flr d.1,i64 (flr b.1+u.2.1)⟩,fe u.2.2.1 d.2 b.2,u.2.2.2,w6 de p (flr d.1))
structure PI (c:Cf) (p:Pl):Prop where
 l0:0<=p.fQ
 l1:p.fQ<c.fK.length
 n0:0<=p.ya
 n1:p.ya<nN c
theorem UE{c:Cf}{bu:BM}{e:Int}{p:Pl}(hv:mI c)(hl:rs.length=c.yc.length)(hr:∀ r∈rs,r.length<1000000000)(hs:rs.length<=16)(hL:c.fK.length<=20)(hS:Small c)(hp:PI c p):
  uA c rs bu de e p=some (PO c rs bu de e p):=by
 unfold uA
 obtain⟨a1,a2⟩:=FB (bu:=bu) (de:=de) (e:=e) (p:=p) hv hl hr hs hL
 have hn1:=hp.n1;have hn0:=hp.n0;have hm:=hS.m;have hsw:=hS.s
 unfold nN at hn1
 rw[a1,oB]
 refine dX (P:=fun o=>o=_) fun k hk=>?_
 have hlat:(if decide ((i64 (p.ya-((c.fM.length:Nat):Int)))>=0) then chk ((0:Int)<=(i64 (p.ya-((c.fM.length:Nat):Int)))/\(i64 (p.ya-((c.fM.length:Nat):Int)))<((c.fS.length:Nat):Int)) (k (CU c rs bu de e p).1 ((nth c.fS (i64 (p.ya-((c.fM.length:Nat):Int)))).yl)) else k (CU c rs bu de e p).1 0)=k (CU c rs bu de e p).1 (lat c p):=by
  rw[xQ (x:=p.ya-((c.fM.length:Nat):Int)) (by omega)]
  unfold lat nM
  by_cases h:p.ya-((c.fM.length:Nat):Int)>=0
  ·rw[Nv h,xL ⟨h,by omega⟩,if_pos h]
  ·rw[Nw h,if_neg h]
 rw[hlat,hk,xL ⟨hp.l0,hp.l1⟩]
 unfold jG
 rw[oB,MF (by omega),oB,Gz (by omega),oB]
 refine wA (P:=fun o=>o=_) fun k2 qh=>?_
 rw[FC,qh]
 rw[(Yj).1,oB,(Yj).1,oB,lQ]
 rfl
structure WS where
 out:List PB
 e:Int
 bu:BM
 de:DM
def Jl(c:Cf)(rs:List (List Hop))(s:WS)(p:Pl):WS:=let x:=PO c rs s.bu s.de s.e p;⟨s.out++[x.1],x.2.1,x.2.2.1,x.2.2.2⟩
def iR(c:Cf)(rs:List (List Hop)):List Pl->WS->WS ⊕ Int
 | [],s => .inl s
 | p::l,s=>if (Jl c rs s p).e≠0 then .inr (Jl c rs s p).e else iR c rs l (Jl c rs s p)
theorem Wf{c:Cf}{rs:List (List Hop)}{l:List Pl×Int}{k:List PB->Option (yL×Int)}(hv:mI c)(hl:rs.length=c.yc.length)(hr:∀ r∈rs,r.length<1000000000)(hs:rs.length<=16)(hL:c.fK.length<=20)(hS:Small c)(hp:∀ p∈l.1,PI c p)(xS:l.1.length<=100000):
  ∀(n:Nat) (v:Int) (s:WS),0<=v->v<=l.1.length->l.1.length<n+v->s.out.length=v->
   jO l c rs k n v s.e s.out s.bu s.de=match iR c rs (l.1.drop v.toNat) s with | .inl t=>k t.out | .inr e=>some (⟨[],[]⟩,e)
 | 0,v,s,h0,h1,h2,h3=>by omega
 | n+1,v,s,h0,h1,h2,h3=>by
  rw[jO]
  by_cases h:v<l.1.length
  ·rw[Nv h,xL ⟨h0,h⟩,kd h0 h]
   have e:(⟨(nth l.1 v).ya,(nth l.1 v).fQ⟩:z6)=nth l.1 v:=rfl
   rw[e,UE hv hl hr hs hL hS (hp _ (wp h0 h)),oB,xL (by simp;omega),iR]
   by_cases he:(Jl c rs s (nth l.1 v)).e≠0
   ·rw[if_pos he,if_pos (by exact decide_eq_true he)];rfl
   ·rw[if_neg he,if_neg (by rw[decide_eq_true_eq];exact he),xQ (x:=v+1) (by omega)]
    have:=Wf (k:=k) hv hl hr hs hL hS hp xS n (v+1) (Jl c rs s (nth l.1 v)) (by omega) (by omega) (by omega) (by simp[Jl];omega)
    rw[show(v+1).toNat=v.toNat+1 by omega] at this
    exact this
  ·rw[Nw h,List.drop_eq_nil_of_le (by omega)];rfl
def kC(b:PB):Pl:=⟨b.ya,b.fQ⟩
theorem FD{l:List PB}(hn:(l.map kC).Nodup)(hs:l.length<=1000000):
  wt l (fun y0 y1=>qV y0 y1)=some (wx qV l)/\(wx qV l).Pairwise fun a b=>¬p7 (kC b) (kC a):=by
 have BP:∀ x∈l,∀ y∈l,kC x=kC y->x=y:=by
  intro x hx y hy e
  obtain⟨i,hi,rfl⟩:=List.getElem_of_mem hx
  obtain⟨j,hj,rfl⟩:=List.getElem_of_mem hy
  have h1:(l.map kC)[i]'(by simpa using hi)=(l.map kC)[j]'(by simpa using hj):=by simpa using e
  have:=(List.getElem_inj (h₀:=by simpa using hi) (h₁:=by simpa using hj) hn).1 h1
  subst this;rfl
 obtain⟨ho,BN⟩:=Yd (p:=qV) (lt:=fun a b=>p7 (kC a) (kC b)) (l:=l) (fun x _ y _=>by
  obtain⟨v,e1,e2⟩:=W0 (kC x) (kC y)
  refine⟨v,?_,e2⟩
  unfold qV
  rw[show(⟨x.ya,x.fQ⟩:z6)=kC x from rfl,show(⟨y.ya,y.fQ⟩:z6)=kC y from rfl,e1];rfl) (fun x y=>Xf _ _) (fun x y z=>QX _ _ _) (fun x hx y hy h1 h2=>BP x hx y hy (W1 h1 h2))
 refine⟨?_,BN⟩
 unfold wt fj jA
 rw[Ye,xL (by omega),oB]
 have hb:=n7 l.length
 rw[Int.toNat_natCast,xL ⟨⟨rfl,rfl⟩,by omega,by omega,by omega⟩,xL ho,oB]
theorem VB{r:List Hop}{k:Option Bool}(hl:r.length<1000000000):∀(n:Nat) (v:Int),0<=v->v<=r.length->r.length<n+v->
  ((∃ q:Int,v<=q/\q<r.length/\(gj (r.take q.toNat) (nth r q).ya).2=false/\(nth r q).ya≠(nth r 0).ya)/\f6 r k n v=some false) \/
  ((∀ q:Int,v<=q->q<r.length->(gj (r.take q.toNat) (nth r q).ya).2=true\/(nth r q).ya=(nth r 0).ya)/\f6 r k n v=k)
 | 0,v,h0,h1,h2=>by omega
 | n+1,v,h0,h1,h2=>by
  rw[f6]
  by_cases h:v<r.length
  ·rw[Nv h,xL ⟨h0,h⟩,xL ⟨by omega,h0,by omega⟩,WR (by rw[List.length_take];omega),oB,xL (fun _=>⟨by omega,by omega⟩)]
   by_cases hc:(!(gj (r.take v.toNat) (nth r v).ya).2&&decide ((nth r v).ya≠(nth r 0).ya))=true
   ·rw[if_pos hc]
    simp only[Bool.and_eq_true,Bool.not_eq_true',decide_eq_true_eq] at hc
    exact .inl ⟨⟨v,by omega,h,hc.1,hc.2⟩,rfl⟩
   ·rw[if_neg hc,xQ (x:=v+1) (by omega)]
    have zj:(gj (r.take v.toNat) (nth r v).ya).2=true\/(nth r v).ya=(nth r 0).ya:=by
     simp only[Bool.and_eq_true,Bool.not_eq_true',decide_eq_true_eq] at hc
     by_cases h5:(nth r v).ya=(nth r 0).ya
     ·exact .inr h5
     ·refine .inl ?_
      cases h6:(gj (r.take v.toNat) (nth r v).ya).2 with
      | true=>rfl
      | false=>exact absurd ⟨h6,h5⟩ hc
    rcases VB hl n (v+1) (by omega) (by omega) (by omega) (k:=k) with⟨⟨q,q1,q2⟩,h3⟩ | ⟨h3,h4⟩
    ·exact .inl ⟨⟨q,by omega,q2⟩,h3⟩
    ·refine .inr ⟨fun q q1 q2=>?_,h4⟩
     by_cases e:q=v
     ·rw[e];exact zj
     ·exact h3 q (by omega) q2
  ·rw[Nw h]
   exact .inr ⟨fun q q1 q2=>by omega,rfl⟩
theorem VR.tree{c:Cf}{r:List Hop}(h:VR c net r):pC r=some true:=by
 have hl:=h.len
 unfold pC
 have hF:=wi
 generalize xR=N at hF ⊢
 refine gN (P:=fun o=>o=some true) fun k hk=>?_
 rcases VB (k:=k) (by omega) N 0 (by omega) (by omega) (by omega) (r:=r) with⟨⟨q,q1,q2,q3,q4⟩,h5⟩ | ⟨h3,h4⟩
 ·exfalso
  have hc:=(h.cond q q1 q2).1
  rcases hc with hc | ⟨j,j0,j1,j2⟩
  ·exact q4 hc
  ·have hm:nth r j∈r.take q.toNat:=by
    rw[kh ⟨j0,by omega⟩]
    have:(r.take q.toNat)[j.toNat]'(by simp;omega)=r[j.toNat]'(by omega):=List.getElem_take
    rw[<- this];exact List.getElem_mem _
   have:=J0 hm
   rw[j2,q3] at this;cases this
 ·rw[h4,hk]
abbrev SM:=List (Int×Int)
structure ES where
 ends:List zt
 sum:SM
def pF(c:Cf)(r:List Hop)(de:DM)(vl:Int)(s:ES)(h:Hop):ES:=
 if vH s.sum h.fX||decide (h.fX=(nth r 0).ya) then s else
  let m:=w6 s.sum h.fX (i64 (xI s.sum h.ya 0+xI de (pk h) 0))
  ⟨if 0<=h.fX/\h.fX<nM c then s.ends++[⟨vl,h.fX,xI m h.fX 0⟩] else s.ends,m⟩
theorem Jm{c:Cf}{rs:List (List Hop)}{v:Int}{de:DM}{k:List zt->Option (List zt)}(h0v:0<=v/\v<rs.length)(hl:(nth rs v).length<=1000):∀(n:Nat) (i:Int) (s:ES),0<=i->i<=(nth rs v).length->(nth rs v).length<n+i->(s.ends.length:Int)<=i->
  mz rs v c de k n s.ends i s.sum=k (((nth rs v).drop i.toNat).foldl (pF c (nth rs v) de v) s).ends
 | 0,i,s,h0,h1,h2,h3=>by omega
 | n+1,i,s,h0,h1,h2,h3=>by
  rw[mz]
  by_cases h:i<(nth rs v).length
  ·rw[Nv h,kd h0 h,List.foldl_cons]
   refine dX (P:=fun o=>o=_) fun k1 w5=>?_
   have eW:((pF c (nth rs v) de v s (nth (nth rs v) i)).ends.length:Int)<=i+1:=by
    unfold pF
    simp only
    split
    ·omega
    ·show(((if _ then _ else _:List zt)).length:Int)<=_
     split
     ·simp;omega
     ·omega
   have Bn:∀ t:ES,t=pF c (nth rs v) de v s (nth (nth rs v) i)->k1 t.ends t.sum=k (((nth rs v).drop (i.toNat+1)).foldl (pF c (nth rs v) de v) (pF c (nth rs v) de v s (nth (nth rs v) i))).ends:=fun t ht=>by
    subst ht
    rw[w5,xQ (x:=i+1) (by omega)]
    have:=Jm (k:=k) (c:=c) (de:=de) h0v hl n (i+1) (pF c (nth rs v) de v s (nth (nth rs v) i)) (by omega) (by omega) (by omega) eW
    rw[show(i+1).toNat=i.toNat+1 by omega] at this
    exact this
   rw[xL ⟨h0,h⟩,xL (fun _=>⟨by omega,by omega⟩)]
   by_cases hc:(vH s.sum ((nth (nth rs v) i).fX)||decide ((nth (nth rs v) i).fX=(nth (nth rs v) 0).ya))=true
   ·rw[if_pos hc]
    refine Bn s ?_
    unfold pF;rw[if_pos hc]
   ·rw[if_neg hc,of_eq,oB]
    by_cases hn:0<=(nth (nth rs v) i).fX/\(nth (nth rs v) i).fX<nM c
    ·rw[if_pos (by have:=hn.2;unfold nM at this;simp only[Bool.and_eq_true,decide_eq_true_eq];exact⟨hn.1,this⟩),xL (by simp;omega)]
     refine Bn ⟨_,_⟩ ?_
     unfold pF;rw[if_neg hc];simp only;rw[if_pos hn]
    ·rw[if_neg (by unfold nM at hn;simp only[Bool.and_eq_true,decide_eq_true_eq];exact hn)]
     refine Bn ⟨s.ends,w6 s.sum (nth (nth rs v) i).fX (i64 (xI s.sum (nth (nth rs v) i).ya 0+xI de (pk (nth (nth rs v) i)) 0))⟩ ?_
     unfold pF;rw[if_neg hc];simp only;rw[if_neg hn]
  ·rw[Nw h,List.drop_eq_nil_of_le (by omega)];rfl
structure EI (c:Cf) (vl:Int) (s:ES):Prop where
 nd:(s.ends.map (·.ya)).Nodup
 vl:∀ x∈s.ends,x.yx=vl/\0<=x.ya/\x.ya<nM c/\vH s.sum x.ya=true
theorem EI.step{c:Cf}{r:List Hop}{s:ES}{h:Hop}(hi:EI c v s):EI c v (pF c r de v s h):=by
 unfold pF
 split
 ·exact hi
 ·rename_i hc
  simp only[Bool.or_eq_true,not_or,decide_eq_true_eq,Bool.not_eq_true] at hc
  simp only
  have hk:∀ n,vH s.sum n=true->vH (w6 s.sum h.fX (i64 (xI s.sum h.ya 0+xI de (pk h) 0))) n=true:=fun n hn=>by rw[n6,hn];simp
  split
  ·rename_i hn
   refine⟨?_,fun x hx=>?_⟩
   ·rw[List.map_append]
    refine List.nodup_append.2 ⟨hi.nd,by simp,fun a ha b hb=>?_⟩
    simp at hb;subst hb
    rintro rfl
    obtain⟨x,hx,e⟩:=List.mem_map.1 ha
    have:=(hi.vl x hx).2.2.2
    rw[e,hc.1] at this;cases this
   ·rcases List.mem_append.1 hx with hx | hx
    ·obtain⟨a1,a2,a3,a4⟩:=hi.vl x hx
     exact⟨a1,a2,a3,hk _ a4⟩
    ·rw[List.mem_singleton] at hx;subst hx
     exact⟨rfl,hn.1,hn.2,by show vH (w6 _ _ _) h.fX=true;rw[n6];simp⟩
  ·exact⟨hi.nd,fun x hx=>by obtain⟨a1,a2,a3,a4⟩:=hi.vl x hx;exact⟨a1,a2,a3,hk _ a4⟩⟩
theorem EI.fold{c:Cf}{r:List Hop}{de:DM}{v:Int}:∀(hs:List Hop) {s:ES},EI c v s->EI c v (hs.foldl (pF c r de v) s)
 | [],_,hi=>hi
 | h::hs,_,hi=>by rw[List.foldl_cons];exact EI.fold hs hi.step
def VE(c:Cf)(rs:List (List Hop))(de:DM)(v:Int):List zt:=((nth rs v).foldl (pF c (nth rs v) de v) ⟨[],[]⟩).ends
theorem b8(c:Cf)(rs:List (List Hop))(de:DM)(v:Int):EI c v ((nth rs v).foldl (pF c (nth rs v) de v) ⟨[],[]⟩):=EI.fold _ ⟨by simp,by simp⟩
theorem Wg{c:Cf}:(VE c rs de v).length<=(nth rs v).length:=by
 unfold VE
 have:∀(hs:List Hop) (s:ES),(hs.foldl (pF c (nth rs v) de v) s).ends.length<=s.ends.length+hs.length:=by
  intro hs
  induction hs with
  | nil=>intro s;simp
  | cons h hs ih=>
   intro s
   rw[List.foldl_cons]
   have h1:=ih (pF c (nth rs v) de v s h)
   have h2:(pF c (nth rs v) de v s h).ends.length<=s.ends.length+1:=by
    unfold pF
    split
    ·omega
    ·simp only;split
     ·simp
     ·omega
   rw[List.length_cons];omega
 have:=this (nth rs v) ⟨[],[]⟩
 simpa using this
def elt(a b:zt):Prop:=a.ya<b.ya
theorem MH{c:Cf}{l:List zt}(hS:Small c)(hn:(l.map (·.ya)).Nodup)(hb:∀ x∈l,x.yx=v/\0<=x.ya/\x.ya<nM c)(hs:l.length<=1000000):
  j8 l (fun y0 y1=>jI y0 y1)=some (wx jI l):=by
 have hm:=hS.m
 have BP:∀ x∈l,∀ y∈l,x.ya=y.ya->x=y:=by
  intro x hx y hy e
  obtain⟨i,hi,rfl⟩:=List.getElem_of_mem hx
  obtain⟨j,hj,rfl⟩:=List.getElem_of_mem hy
  have h1:(l.map (·.ya))[i]'(by simpa using hi)=(l.map (·.ya))[j]'(by simpa using hj):=by simpa using e
  have:=(List.getElem_inj (h₀:=by simpa using hi) (h₁:=by simpa using hj) hn).1 h1
  subst this;rfl
 obtain⟨ho,_⟩:=Yd (p:=jI) (lt:=elt) (l:=l) (fun x hx y hy=>by
  have h1:=hb x hx;have h2:=hb y hy
  unfold nM at h1 h2
  refine⟨_,rfl,?_⟩
  rw[xQ (by omega)]
  unfold elt
  omega) (fun x y=>by unfold elt;omega) (fun x y z=>by unfold elt;omega) (fun x hx y hy h1 h2=>BP x hx y hy (by unfold elt at h1 h2;omega))
 unfold j8 fj mm
 rw[Ye,xL (by omega),oB]
 have hb:=n7 l.length
 rw[Int.toNat_natCast,xL ⟨⟨rfl,rfl⟩,by omega,by omega,by omega⟩,xL ho,oB]
theorem KP{c:Cf}{rs:List (List Hop)}{de:DM}{k:List zt->Option (List zt)}(hS:Small c)(hr:∀ r∈rs,r.length<=1000)(hl:rs.length<=100):∀(n:Nat) (v:Int) (o:List zt),0<=v->v<=rs.length->rs.length<n+v->(o.length:Int)<=1000*v->
  mA rs c de k n o v=k (o++(jE v (rs.length-v.toNat)).flatMap fun v=>wx jI (VE c rs de v))
 | 0,v,o,h0,h1,h2,h3=>by omega
 | n+1,v,o,h0,h1,h2,h3=>by
  rw[mA]
  by_cases h:v<rs.length
  ·have Cl:=hr _ (wp h0 h)
   rw[Nv h,show rs.length-v.toNat=(rs.length-(v+1).toNat)+1 by omega,jE,List.flatMap_cons]
   refine wA (P:=fun x=>x=_) fun k1 w5=>?_
   rw[xL ⟨h0,h⟩]
   refine wA (P:=fun x=>x=_) fun k2 qh=>?_
   have h4:=Jm (k:=k2) (c:=c) (de:=de) ⟨h0,h⟩ Cl xR 0 ⟨[],[]⟩ (by omega) (by omega) (by rw[wi];omega) (by simp)
   simp only[Int.toNat_zero,List.drop_zero] at h4
   have hi:=b8 c rs de v
   have eW:=Wg (c:=c) (rs:=rs) (de:=de) (v:=v)
   rw[h4,qh]
   have hi1:((VE c rs de v).map (·.ya)).Nodup:=hi.nd
   have hi2:∀ x∈VE c rs de v,x.yx=v/\0<=x.ya/\x.ya<nM c:=fun x hx=>by obtain⟨a1,a2,a3,_⟩:=hi.vl x hx;exact⟨a1,a2,a3⟩
   rw[show((nth rs v).foldl (pF c (nth rs v) de v) ⟨[],[]⟩).ends=VE c rs de v from rfl]
   rw[MH (v:=v) hS hi1 hi2 (by omega),oB]
   have vB:=tv jI (VE c rs de v)
   rw[xL (by rw[List.length_append];omega),w5,xQ (x:=v+1) (by omega),KP hS hr hl n (v+1) _ (by omega) (by omega) (by omega) (by rw[List.length_append];omega),List.append_assoc]
  ·rw[Nw h,show rs.length-v.toNat=0 by omega];simp[jE]
def dem(l:List PB):DM:=l.foldr (fun b m=>w6 m (kC b) b.yl) []
theorem Jn{l:List PB}{k:DM->Option (List zt)}(hl:l.length<=1000000):∀(n:Nat) (i:Int) (m:DM),-1<=i->i<l.length->i+1<n->my l k n i m=k ((l.take (i+1).toNat).foldr (fun b m=>w6 m (kC b) b.yl) m)
 | 0,i,m,h0,h1,h2=>by omega
 | n+1,i,m,h0,h1,h2=>by
  rw[my]
  by_cases h:i>=0
  ·rw[Nv h,xL ⟨h,h1⟩,xQ (x:=i-1) (by omega),Jn hl n (i-1) _ (by omega) (by omega) (by omega)]
   congr 1
   have h3:i.toNat<l.length:=by omega
   rw[show(i+1).toNat=i.toNat+1 by omega,show(i-1+1).toNat=i.toNat by omega,List.take_succ,List.getElem?_eq_getElem h3,List.foldr_append]
   rw[kh ⟨h,h1⟩]
   rfl
  ·rw[Nw h,show(i+1).toNat=0 by omega];rfl
def EN(c:Cf)(rs:List (List Hop))(ps:List PB):List zt:=(jE 0 rs.length).flatMap fun v=>wx jI (VE c rs (dem ps) v)
theorem FE{c:Cf}(hv:∀ r∈rs,VR c net r)(hl:rs.length<1000000000):wN rs (fun y0=>fY y0)=some false:=by
 unfold wN qy
 have hF:=wi
 generalize xR=N at hF ⊢
 have hf:∀ y∈rs,fY y=some false:=fun y hy=>by unfold fY;rw[(hv y hy).tree];rfl
 refine gN (P:=fun o=>(o.bind fun x=>some (decide (x>=0)))=some false) fun k hk=>?_
 rcases dg (f:=fun y0=>fY y0) (k:=k) (fun y hy=>⟨false,hf y hy⟩) hl N 0 (by omega) (by omega) (by omega) with⟨i,i1,i2,i3,i4⟩ | ⟨i1,i2⟩
 ·rw[hf _ (wp i1 i2)] at i3;cases i3
 ·rw[i2,hk];rfl
theorem KQ{c:Cf}{ps:List PB}(hS:Small c)(hv:∀ r∈rs,VR c net r)(hl:rs.length<=100)(hp:ps.length<=1000000):sy c rs ps=some (EN c rs ps):=by
 unfold sy
 rw[FE hv (by omega),oB,if_neg (by simp)]
 refine wA (P:=fun o=>o=_) fun k hk=>?_
 have h1:=Jn (k:=k) hp xR (((ps.length:Nat):Int)-1) [] (by omega) (by omega) (by rw[wi];omega)
 rw[xQ (x:=((ps.length:Nat):Int)-1) (by omega),h1,hk,show(((ps.length:Nat):Int)-1+1).toNat=ps.length by omega,List.take_length]
 refine wA (P:=fun o=>o=_) fun k2 qh=>?_
 have h2:=KP (k:=k2) (de:=dem ps) hS (fun r hr=>by have:=(hv r hr).len;omega) hl xR 0 [] (by omega) (by omega) (by rw[wi];omega) (by simp)
 simp only[Int.toNat_zero,Nat.sub_zero,List.nil_append] at h2
 rw[show(ps.foldr (fun b m=>w6 m (kC b) b.yl) ([]:DM))=dem ps from rfl,h2,qh]
 rfl
end
section
def Jo:List Int:=[100,200,400,800,1600,3200,6400,12800]
theorem Ta(b:Int):od b=some (decide (b∈Jo)):=by
 unfold od
 have hF:xR=(xR-9)+9:=by rw[wi]
 rw[hF]
 generalize xR-9=N
 refine gN (P:=fun o=>o=_) fun k hk=>?_
 have tS:∀(n:Nat) (x:Int),0<=x->x<=12800->kW b k (n+1) x=if x=b then some true else kW b k n (2*x):=fun n x h0 h1=>by
  rw[kW,Nv h1,xQ (x:=x*2) (by omega),Int.mul_comm]
  by_cases h:x=b
  ·rw[Nv h,if_pos h]
  ·rw[Nw h,if_neg h]
 have Bo:kW b k (N+1) (2*12800)=some false:=by
  rw[kW,if_neg (by decide),hk]
 rw[tS _ 100 (by omega) (by omega),tS _ (2*100) (by omega) (by omega),tS _ (2*(2*100)) (by omega) (by omega),tS _ (2*(2*(2*100))) (by omega) (by omega),tS _ (2*(2*(2*(2*100)))) (by omega) (by omega),tS _ (2*(2*(2*(2*(2*100))))) (by omega) (by omega),tS _ (2*(2*(2*(2*(2*(2*100)))))) (by omega) (by omega),tS _ (2*(2*(2*(2*(2*(2*(2*100))))))) (by omega) (by omega)]
 have:(2*(2*(2*(2*(2*(2*(2*(2*100)))))) ):Int)=2*12800:=by decide
 rw[this,Bo]
 unfold Jo
 repeat' split
 all_goals
  simp only[Option.some.injEq]
  first
  | (symm;rw[decide_eq_true_iff];simp only[List.mem_cons,List.not_mem_nil,or_false];omega)
  | (symm;rw[decide_eq_false_iff_not];simp only[List.mem_cons,List.not_mem_nil,or_false];omega)
def Jp(v:yw):Prop:=v.yE∈Jo/\1<=v.yA/\v.yA<=72
instance (v:yw):Decidable (Jp v):=inferInstanceAs (Decidable (_/\_))
theorem Tb(v:yw):kq v=some (!decide (Jp v)):=by
 unfold kq Jp
 rw[Ta,oB]
 congr 1
 by_cases h1:v.yE∈Jo <;> by_cases h2:1<=v.yA <;> by_cases h3:v.yA<=72 <;> simp[h1,h2,h3] <;> omega
theorem aU{l:List yw}{k:Option Int}(hl:l.length<1000000000):∀(n:Nat) (v:Int),0<=v->v<=l.length->l.length<n+v->
  ((∃ i:Int,v<=i/\i<l.length/\¬Jp (nth l i)/\wW l (fun y0=>kq y0) k n v=some i)\/((∀ i:Int,v<=i->i<l.length->Jp (nth l i))/\wW l (fun y0=>kq y0) k n v=k))
 | 0,v,h0,h1,h2=>by omega
 | n+1,v,h0,h1,h2=>by
  rw[wW]
  by_cases h:v<l.length
  ·rw[Nv h,xL ⟨h0,h⟩]
   have e:(⟨(nth l v).yB,(⟨((nth l v).yq).yz,((nth l v).yq).yF,((nth l v).yq).yI⟩:yG),(nth l v).yE,(nth l v).yA,(nth l v).yM⟩:yw)=nth l v:=rfl
   rw[e,Tb,oB]
   by_cases hv:Jp (nth l v)
   ·rw[if_neg (by simpa using hv),xQ (x:=v+1) (by omega)]
    rcases aU hl n (v+1) (by omega) (by omega) (by omega) (k:=k) with⟨i,i1,i2,i3,i4⟩ | ⟨i1,i2⟩
    ·exact .inl ⟨i,by omega,i2,i3,i4⟩
    ·refine .inr ⟨fun i j1 j2=>?_,i2⟩
     by_cases e:i=v
     ·rw[e];exact hv
     ·exact i1 i (by omega) j2
   ·rw[if_pos (by simpa using hv)]
    exact .inl ⟨v,Int.le_refl _,h,hv,rfl⟩
  ·rw[Nw h]
   exact .inr ⟨fun i h1 h2=>by omega,rfl⟩
def bS(c:Cf):Prop:=∀ v∈c.yc,Jp v
theorem Tc{c:Cf}(hl:c.yc.length<1000000000):∃ b,qL c.yc (fun y0=>kq y0)=some b/\(b=false↔bS c):=by
 unfold qL kO
 have hF:=wi
 generalize xR=N at hF ⊢
 refine gN (P:=fun o=>∃ b,(o.bind fun x=>some (decide (x>=0)))=some b/\(b=false↔bS c)) fun k hk=>?_
 rcases aU (k:=k) hl N 0 (by omega) (by omega) (by omega) with⟨i,i1,i2,i3,i4⟩ | ⟨i1,i2⟩
 ·refine⟨true,by rw[i4];simp[i1],?_⟩
  simp only[Bool.true_eq_false,false_iff]
  exact fun h=>i3 (h _ (wp i1 i2))
 ·refine⟨false,by rw[i2,hk];rfl,?_⟩
  simp only[true_iff]
  intro v hv
  obtain⟨i,j0,j1,rfl⟩:=tB hv
  exact i1 i j0 j1
theorem bS.vls{c:Cf}(h:bS c):mI c:=fun v hv=>by
 obtain⟨h1,h2,h3⟩:=h v hv
 refine⟨?_,h2,h3⟩
 unfold Jo at h1
 simp only[List.mem_cons,List.not_mem_nil,or_false] at h1
 omega
theorem VA.pi{c:Cf}{net:Int}{rs:List (List Hop)}(hS:Small c)(hv:VA c net rs){p:Pl}(hp:p∈PS rs):PI c p:=by
 obtain⟨r,hr,h,hh,rfl⟩:=(sG rs (p:=p)).1 hp
 obtain⟨i,i0,i1,rfl⟩:=tB hh
 obtain⟨_,_,_,j0,j1,_,_,_,_,jf1,jf2,jj⟩:=(hv.each r hr).cond i i0 i1
 have hA:=(Q7 hS (nth r i).fQ).2
 have hB:=(Q8 hS (nth r i).fQ).2
 refine⟨j0,j1,?_,?_⟩
 ·have a1:=jf1.1;have a2:=jf2.1
  show 0<=(nth r i).ya
  rcases jj with⟨e,_⟩ | ⟨_,e⟩ <;> omega
 ·show(nth r i).ya<nN c
  rcases jj with⟨e,_⟩ | ⟨_,e⟩ <;> omega
def w0:WS:=⟨[],0,[],[]⟩
theorem Jq{c:Cf}{rs:List (List Hop)}:∀(l:List Pl) (s t:WS),iR c rs l s = .inl t->t.out.map kC=s.out.map kC++l/\t.out.length=s.out.length+l.length/\(s.e=0->t.e=0)
 | [],s,t,h=>by injection h with h;subst h;simp
 | p::l,s,t,h=>by
  rw[iR] at h
  split at h
  ·cases h
  ·rename_i he
   obtain⟨h1,h2,h3⟩:=Jq l _ t h
   have e:(Jl c rs s p).out=s.out++[(PO c rs s.bu s.de s.e p).1]:=rfl
   rw[e] at h1 h2
   refine⟨?_,?_,fun _=>h3 (by simpa using he)⟩
   ·rw[h1,List.map_append,List.append_assoc];rfl
   ·rw[h2];simp;omega
inductive CP (c:Cf) (net:Int) (rs:List (List Hop)):yL×Int->Prop
 | route:¬VA c net rs->CP c net rs (⟨[],[]⟩,310)
 | vl:VA c net rs->¬bS c->CP c net rs (⟨[],[]⟩,350)
 | cycle (s:List Pl):VA c net rs->bS c->bR rs s->CP c net rs (⟨[],[]⟩,351)
 | err (l:List Pl) (e:Int):VA c net rs->bS c->l.Perm (PS rs)->qC rs l->iR c rs l w0 = .inr e->e≠0->CP c net rs (⟨[],[]⟩,e)
 | ok (l:List Pl) (t:WS):VA c net rs->bS c->l.Perm (PS rs)->qC rs l->iR c rs l w0 = .inl t->CP c net rs (⟨wx qV t.out,EN c rs (wx qV t.out)⟩,0)
theorem Jr{c:Cf}{rs:List (List Hop)}:∀(l:List Pl) (s:WS) (e:Int),iR c rs l s = .inr e->e≠0
 | [],s,e,h=>by cases h
 | p::l,s,e,h=>by
  rw[iR] at h
  split at h
  ·rename_i he
   injection h with h;subst h;exact he
  ·exact Jr l _ e h
theorem GA{c:Cf}{net:Int}{rs:List (List Hop)}(hf:FewP c rs):∃ x,tT c net rs=some x/\CP c net rs x:=by
 have hS:=hf.small
 have Bv:∀ r∈rs,r.length<1000000000:=fun r hr=>by have:=hf.e r hr;omega
 have hrs:=hf.r
 obtain⟨b,q1,q2⟩:=cY hS (net:=net) (rs:=rs) Bv (by omega)
 unfold tT
 rw[q1,oB]
 cases b with
 | false=>
  rw[if_pos (by rfl)]
  exact⟨_,rfl,.route fun h=>by have:=q2.2 h;cases this⟩
 | true=>
 have hv:=q2.1 rfl
 rw[if_neg (by simp)]
 obtain⟨b,r1,r2⟩:=Tc (c:=c) (by have:=hf.v;omega)
 rw[r1,oB]
 cases b with
 | true=>
  rw[if_pos rfl]
  exact⟨_,rfl,.vl hv fun h=>by have:=r2.2 h;cases this⟩
 | false=>
 have zW:=r2.1 rfl
 rw[if_neg (by simp)]
 have Eo:=aK hf.e
 have h3:rs.length*40<=20*40:=Nat.mul_le_mul_right _ hrs
 rcases J3 (rs:=rs) (fun r h=>by have:=hf.e r h;omega) (by omega) with⟨l,e1,e2,e3⟩ | ⟨s,e1,e2⟩
 ·rw[e3,oB,if_neg (by simp)]
  have eW:=e1.length_eq
  refine wA (P:=fun o=>∃ x,o=some x/\CP c net rs x) fun k hk=>?_
  have hL:=Wf (l:=(l,0)) (k:=k) (rs:=rs) zW.vls hv.len Bv hv.most hf.l hS (fun p hp=>hv.pi hS (e1.subset hp)) (by show l.length<=_;omega) xR 0 w0 (by omega) (by simp) (by rw[wi];show((l.length:Nat):Int)<_;omega) rfl
  simp only[Int.toNat_zero,List.drop_zero] at hL
  rw[show(0:Int)=w0.e from rfl,show([]:List PB)=w0.out from rfl,show([]:BM)=w0.bu from rfl,show([]:DM)=w0.de from rfl]
  rw[show jO (l,w0.e) c rs k xR w0.e w0.e w0.out w0.bu w0.de=jO (l,0) c rs k xR 0 w0.e w0.out w0.bu w0.de from rfl,hL]
  cases eT:iR c rs l w0 with
  | inr e=>exact⟨_,rfl,.err l e hv zW e1 e2 eT (Jr _ _ _ eT)⟩
  | inl t=>
   obtain⟨o1,o2,o3⟩:=Jq l w0 t eT
   have hol:t.out.length=l.length:=by rw[o2];simp[w0]
   have BQ:t.out.map kC=l:=by rw[o1];simp[w0]
   simp only
   rw[hk,(FD (by rw[BQ];exact e1.nodup_iff.2 (lR rs)) (by omega)).1,oB]
   rw[KQ (net:=net) hS hv.each (by omega) (by rw[tv];omega),oB]
   exact⟨_,rfl,.ok l t hv zW e1 e2 eT⟩
 ·rw[e2,oB,if_pos (by simp)]
  exact⟨_,rfl,.cycle s hv zW e1⟩
end
end Go.Proofs.YthjnhebofpebpaaGreat

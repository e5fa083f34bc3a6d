/- A part of this claim's proof: models of functions, walks, plain laws. No conditions. -/
import Derived.Test.YtcahmabkeaijdaaGreatW35xi
import Derived.Test.YtcahmabkeaijdaaGreatZMem
set_option linter.all false
namespace Go.Proofs.YtcahmabkeaijdaaGreat
open Go Go.RowKit Sep
section
variable {net:Int}
theorem fy{R:Type}{K:Option R}{F:Option R->Option R}{P:Option R->Prop}(h:∀ k:Option R,k=K->P (F k)):P (uB K F):=h K rfl
theorem wD{R A0:Type}{K:A0->Option R}{F:(A0->Option R)->Option R}{P:Option R->Prop}(h:∀ k:A0->Option R,(∀ x0,k x0=K x0)->P (F k)):P (qP K F):=h K fun _=>rfl
theorem uY{R A0 A1:Type}{K:A0->A1->Option R}{F:(A0->A1->Option R)->Option R}{P:Option R->Prop}(h:∀ k:A0->A1->Option R,(∀ x0 x1,k x0 x1=K x0 x1)->P (F k)):P (sK K F):=h K fun _ _=>rfl
def Jy(x y:Int):Int:=if x<y then -1 else if x>y then 1 else 0
theorem nh(x y:Int):qf x y=some (Jy x y):=by
 unfold qf tE Jy
 simp only[ne_eq,not_true_eq_false,decide_false,oB,Bool.false_eq_true,if_false,decide_eq_true_eq]
 by_cases h1:x<y
 ·simp[h1]
 ·by_cases h2:x>y
  ·simp[h1,h2]
  ·simp[h1,h2]
def oG:List Int->Int
 | []=>0
 | x::l=>if x≠0 then x else oG l
theorem G8{l:List Int}{k:Option Int}(hl:l.length<9000000000000000000):∀(n:Nat) (v:Int),0<=v->v<=l.length->l.length<n+v->
  mf l k n v=if oG (l.drop v.toNat)≠0 then some (oG (l.drop v.toNat)) else k
 | 0,v,h0,h1,h2=>by omega
 | n+1,v,h0,h1,h2=>by
  rw[mf]
  by_cases h:v<l.length
  ·rw[if_pos (decide_eq_true h),xJ ⟨h0,h⟩]
   have hd:l.drop v.toNat=nth l v::l.drop (v.toNat+1):=by
    have h3:v.toNat<l.length:=by omega
    rw[<- List.getElem_cons_drop h3]
    rw[tY (l:=l) h0 h]
   rw[hd,oG]
   by_cases hz:nth l v=0
   ·rw[if_neg (by simp[hz]),xQ (by omega),G8 hl n (v+1) (by omega) (by omega) (by omega),show(v+1).toNat=v.toNat+1 by omega]
    simp only[hz,ne_eq,not_true_eq_false,if_false]
   ·rw[if_pos (decide_eq_true hz),if_pos hz,if_pos hz]
  ·rw[if_neg (by simpa using h),List.drop_eq_nil_of_le (by omega)]
   simp[oG]
theorem F9{l:List Int}(hl:l.length<9000000000000000000):uN l=some (oG l):=by
 unfold uN
 refine fy (P:=fun o=>o=some (oG l)) fun k hk=>?_
 rw[G8 hl xR 0 (by omega) (by omega) (by rw[wq];omega),hk]
 simp only[Int.toNat_zero,List.drop_zero]
 by_cases h:oG l=0 <;> simp[h]
theorem jY{α:Type}[Inhabited α]{l:List α}{i:Int}(h:0<=i/\i<l.length):nth l i=l[i.toNat]'(by omega):=by
 exact(tY (l:=l) h.1 h.2).symm
theorem kP{α:Type}[Inhabited α]{l:List α}{v:Int}(h0:0<=v)(h:v<l.length):l.drop v.toNat=nth l v::l.drop (v.toNat+1):=by
 have h3:v.toNat<l.length:=by omega
 rw[<- List.getElem_cons_drop h3,tY (l:=l) h0 h]
abbrev Cf:=zV
abbrev Hop:=zb
def nM(c:Cf):Int:=c.fM.length
def nN(c:Cf):Int:=c.fM.length+c.fS.length
structure Small (c:Cf):Prop where
 m:c.fM.length<=1000
 s:c.fS.length<=1000
 l:c.fK.length<=1000
 v:c.yg.length<=1000
def sw(c:Cf)(n:Int):yu:=nth c.fS (n-nM c)
def Fa(c:Cf)(n:Int):ByteArray:=if n<0\/n>=nN c then⟨#[]⟩ else if n<nM c then(nth c.fM n).yJ else(sw c n).yJ
theorem Jz{c:Cf}(h:Small c):ko c=some (nN c):=by
 have:=h.m;have:=h.s
 unfold ko nN
 rw[xQ (by omega)]
theorem Tx{c:Cf}(h:Small c)(n:Int)(hn : -1000000<=n/\n<=1000000):fk c n=some (Fa c n):=by
 have:=h.m;have:=h.s
 unfold fk Fa
 rw[Jz h]
 by_cases h1:n<0
 ·simp[h1]
 ·rw[if_neg (by simpa using h1)]
  simp only[oB,decide_eq_true_eq]
  by_cases h2:n>=nN c
  ·rw[if_pos h2,if_pos (.inr h2)]
  ·rw[if_neg h2,if_neg (show ¬(n<0\/n>=nN c) by omega)]
   unfold nN nM at *
   by_cases h3:n<c.fM.length
   ·rw[if_pos h3,xJ ⟨by omega,h3⟩,if_pos h3]
   ·rw[if_neg h3,xQ (by omega),xJ ⟨by omega,by omega⟩,if_neg h3]
    rfl
theorem Q6{c:Cf}(h:Small c){nm:ByteArray}{k:Option Int}:∀(f:Nat) (v:Int),0<=v->v<=nN c->nN c<f+v->
  (∃ i:Int,0<=i/\i<nN c/\vT (nN c) c nm k f v=some i)\/vT (nN c) c nm k f v=k
 | 0,v,h0,h1,h2=>by omega
 | f+1,v,h0,h1,h2=>by
  have hb:nN c<=2000:=by have:=h.m;have:=h.s;unfold nN;omega
  rw[vT]
  by_cases h3:v<nN c
  ·rw[if_pos (decide_eq_true h3),Tx h v (by omega)]
   simp only[oB,decide_eq_true_eq]
   by_cases h4:Fa c v=nm
   ·rw[if_pos h4];exact .inl ⟨v,h0,h3,rfl⟩
   ·rw[if_neg h4,xQ (by omega)]
    exact Q6 h f (v+1) (by omega) (by omega) (by omega)
  ·rw[if_neg (by simpa using h3)];exact .inr rfl
theorem G9{c:Cf}(h:Small c)(nm:ByteArray):∃ i:Int,-1<=i/\i<nN c/\j8 c nm=some i:=by
 unfold j8
 rw[Jz h]
 have hF:=wq
 generalize xR=N at hF ⊢
 refine fy (P:=fun o=>∃ i:Int,-1<=i/\i<nN c/\o=some i) fun k hk=>?_
 have hb:0<=nN c/\nN c<=2000:=by have:=h.m;have:=h.s;unfold nN;omega
 simp only[oB]
 rcases Q6 h (nm:=nm) (k:=k) N 0 (by omega) hb.1 (by omega) with⟨i,h1,h2,h3⟩ | h3
 ·exact⟨i,by omega,h2,h3⟩
 ·exact⟨-1,by omega,by omega,h3.trans hk⟩
def fA(c:Cf)(l:Int):Int:=(j8 c (nth c.fK l).fA).getD (-1)
def fB(c:Cf)(l:Int):Int:=(j8 c (nth c.fK l).fB).getD (-1)
theorem QM{c:Cf}(h:Small c)(l:Int):j8 c (nth c.fK l).fA=some (fA c l) /\ -1<=fA c l/\fA c l<nN c:=by
 obtain⟨i,h1,h2,h3⟩:=G9 h (nth c.fK l).fA
 unfold fA;rw[h3];exact⟨rfl,h1,h2⟩
theorem QN{c:Cf}(h:Small c)(l:Int):j8 c (nth c.fK l).fB=some (fB c l) /\ -1<=fB c l/\fB c l<nN c:=by
 obtain⟨i,h1,h2,h3⟩:=G9 h (nth c.fK l).fB
 unfold fB;rw[h3];exact⟨rfl,h1,h2⟩
def tX(c:Cf)(net n:Int):Prop:=0<=n/\(n<nM c\/(sw c n).yR=net/\0<=(sw c n).yl/\(sw c n).yl<=1000/\0<=(sw c n).fT/\(sw c n).fT<=1073741824)
instance (c:Cf) (net n:Int):Decidable (tX c net n):=inferInstanceAs (Decidable (_/\_))
theorem Ga{c:Cf}(h:Small c){n:Int}(hn : -1<=n/\n<nN c):uF c net n=some (decide (tX c net n)):=by
 have:=h.m;have:=h.s
 unfold uF
 unfold nN at hn
 by_cases h1:n<c.fM.length
 ·rw[if_pos (decide_eq_true h1)]
  refine congrArg some ?_
  rw[Bool.eq_iff_iff,decide_eq_true_iff,decide_eq_true_iff]
  unfold tX nM
  exact⟨fun h=>⟨h,.inl h1⟩,fun h=>h.1⟩
 ·rw[if_neg (by simpa using h1),xQ (by omega),xJ ⟨by omega,by omega⟩]
  refine congrArg some ?_
  rw[Bool.eq_iff_iff,decide_eq_true_iff]
  unfold tX sw nM
  simp only[Bool.and_eq_true,decide_eq_true_eq]
  constructor
  ·rintro⟨⟨⟨⟨a,b⟩,e⟩,d⟩,f⟩;exact⟨by omega,.inr ⟨a,b,e,d,f⟩⟩
  ·rintro⟨_,a | ⟨a,b,e,d,f⟩⟩
   ·exact absurd a h1
   ·exact⟨⟨⟨⟨a,b⟩,e⟩,d⟩,f⟩
def JN(c:Cf)(net link a b:Int):Prop:=0<=link/\link<c.fK.length/\(nth c.fK link).yR=net/\1<=(nth c.fK link).yr/\(nth c.fK link).yr<=16/\fA c link≠fB c link/\
 tX c net (fA c link)/\tX c net (fB c link)/\(fA c link=a/\fB c link=b\/fA c link=b/\fB c link=a)
instance (c:Cf) (net link a b:Int):Decidable (JN c net link a b):=inferInstanceAs (Decidable (_/\_))
theorem Um{c:Cf}(h:Small c)(net link a b:Int):tB c net link a b=some (decide (JN c net link a b)):=by
 unfold tB
 by_cases h1:link<0\/link>=c.fK.length
 ·rw[if_pos (by simpa using h1)]
  congr 1;symm
  rw[decide_eq_false_iff_not]
  rintro⟨a,b,_⟩;omega
 ·rw[if_neg (by simpa using h1),xJ ⟨by omega,by omega⟩]
  obtain⟨a1,a2,a3⟩:=QM h link
  obtain⟨b1,b2,b3⟩:=QN h link
  rw[a1,b1]
  simp only[oB]
  rw[Ga h ⟨a2,a3⟩,Ga h ⟨b2,b3⟩]
  simp only[oB]
  by_cases h2:(nth c.fK link).yR=net/\1<=(nth c.fK link).yr/\(nth c.fK link).yr<=16/\fA c link≠fB c link
  ·rw[if_pos (by simp only[Bool.and_eq_true,decide_eq_true_eq];exact⟨⟨⟨h2.1,h2.2.1⟩,h2.2.2.1⟩,h2.2.2.2⟩)]
   simp only[oB]
   by_cases h3:tX c net (fA c link)
   ·rw[if_pos (decide_eq_true h3)]
    simp only[oB]
    congr 1
    rw[Bool.eq_iff_iff]
    simp only[Bool.and_eq_true,Bool.or_eq_true,decide_eq_true_eq]
    constructor
    ·rintro⟨x,y⟩;exact⟨by omega,by omega,h2.1,h2.2.1,h2.2.2.1,h2.2.2.2,h3,x,y⟩
    ·rintro⟨_,_,_,_,_,_,_,x,y⟩;exact⟨x,y⟩
   ·rw[if_neg (by simpa using h3)]
    simp only[oB,Bool.false_and]
    congr 1;symm
    rw[decide_eq_false_iff_not]
    rintro⟨_,_,_,_,_,_,x,_⟩;exact h3 x
  ·rw[if_neg (by simp only[Bool.and_eq_true,decide_eq_true_eq];rintro⟨⟨⟨x,y⟩,z⟩,w⟩;exact h2 ⟨x,y,z,w⟩)]
   simp only[oB,Bool.false_eq_true,if_false,Bool.false_and]
   congr 1;symm
   rw[decide_eq_false_iff_not]
   rintro⟨_,_,x,y,z,w,_⟩;exact h2 ⟨x,y,z,w⟩
def RK(r:List Hop)(v k:Int):Prop:=k=(nth r 0).ya\/∃ q:Int,0<=q/\q<v/\(nth r q).fX=k
def ni(c:Cf)(net:Int)(r:List Hop)(v:Int):Prop:=
 RK r v (nth r v).ya/\¬RK r v (nth r v).fX/\((nth r v).ya=(nth r 0).ya\/nM c<=(nth r v).ya)/\JN c net (nth r v).fQ (nth r v).ya (nth r v).fX
structure VR (c:Cf) (net:Int) (r:List Hop):Prop where
 len:r.length<=32
 cond:∀ v:Int,0<=v->v<r.length->ni c net r v
theorem cz{κ γ:Type}[DecidableEq κ]{k k':κ}{u d:γ}(h:k'≠k):∀(l:List (κ×γ)),xC (w4 l k u) k' d=xC l k' d
 | []=>by simp[w4,xC,h]
 | p::l=>by
  by_cases hk:k=p.1
  ·subst hk;simp[w4,xC,h]
  ·simp only[w4,hk,if_false,xC];rw[cz h l]
theorem lS{κ γ:Type}[DecidableEq κ]{k:κ}{u d:γ}:∀(l:List (κ×γ)),xC (w4 l k u) k d=u
 | []=>by simp[w4,xC]
 | p::l=>by
  by_cases hk:k=p.1
  ·subst hk;simp[w4,xC]
  ·simp only[w4,hk,if_false,xC];exact lS l
theorem Wl{c:Cf}(h:Small c){net:Int}{r:List Hop}{k:Option Bool}(hr:r.length<1000000000):∀(f:Nat) (v:Int) (mp:List (Int×Int)),0<=v->v<=r.length->r.length<f+v->
  (∀ x,0<=xC mp x 0/\xC mp x 0<=2*v/\(0<xC mp x 0↔0<v/\RK r v x))->
  ((∃ q:Int,v<=q/\q<r.length/\¬ni c net r q)/\kp r c net k f v mp=some false)\/((∀ q:Int,v<=q->q<r.length->ni c net r q)/\kp r c net k f v mp=k)
 | 0,v,mp,h0,h1,h2,h3=>by omega
 | f+1,v,mp,h0,h1,h2,h3=>by
  rw[kp]
  by_cases hv:v<r.length
  ·rw[if_pos (decide_eq_true hv),xJ ⟨h0,hv⟩]
   refine wD (P:=fun o=>((∃ q:Int,v<=q/\q<r.length/\¬ni c net r q)/\o=some false)\/((∀ q:Int,v<=q->q<r.length->ni c net r q)/\o=k)) fun kk xO=>?_
   have hm:∃ Ap,(if decide (v=0)=true then kk (w4 mp ((nth r v).ya) (i64 ((xC mp ((nth r v).ya) 0)+1))) else kk mp)=kk Ap/\(∀ x,0<=xC Ap x 0/\xC Ap x 0<=2*v+1/\(0<xC Ap x 0↔RK r v x)):=by
    by_cases hv0:v=0
    ·subst hv0
     rw[if_pos (by simp)]
     refine⟨_,rfl,fun x=>?_⟩
     have h4:=h3 (nth r 0).ya
     rw[xQ (by omega)]
     by_cases hx:x=(nth r 0).ya
     ·subst hx;rw[lS]
      refine⟨by omega,by omega,fun _ => .inl rfl,fun _=>by omega⟩
     ·rw[cz hx]
      have h5:=h3 x
      refine⟨by omega,by omega,fun h6=>absurd (h5.2.2.1 h6).1 (by omega),fun h6=>?_⟩
      rcases h6 with h6 | ⟨q,q1,q2,_⟩
      ·exact absurd h6 hx
      ·omega
    ·rw[if_neg (by simpa using hv0)]
     refine⟨mp,rfl,fun x=>?_⟩
     have h5:=h3 x
     exact⟨by omega,by omega,fun h6=>(h5.2.2.1 h6).2,fun h6=>h5.2.2.2 ⟨by omega,h6⟩⟩
   obtain⟨Ap,e1,h4⟩:=hm
   rw[e1,xO,xJ (fun _ hc=>⟨by omega,by omega⟩),Um h]
   simp only[oB]
   have hN:=h4 (nth r v).ya
   have hX:=h4 (nth r v).fX
   have hc:∃ b,(if ((decide ((xC Ap ((nth r v).ya) 0)=0))||(decide ((xC Ap ((nth r v).fX) 0)>0))||((decide (v>0))&&(decide (((nth r v).ya)≠((nth r 0).ya)))&&(decide (((nth r v).ya)<((c.fM.length:Nat):Int)))))=true then some true else some (!decide (JN c net ((nth r v).fQ) ((nth r v).ya) ((nth r v).fX))))=some b/\(b=true↔¬ni c net r v):=by
    by_cases hb:(decide ((xC Ap ((nth r v).ya) 0)=0)||decide ((xC Ap ((nth r v).fX) 0)>0)||(decide (v>0)&&decide (((nth r v).ya)≠((nth r 0).ya))&&decide (((nth r v).ya)<((c.fM.length:Nat):Int))))=true
    ·rw[if_pos hb]
     refine⟨true,rfl,fun _=>?_,fun _=>rfl⟩
     rintro⟨a1,a2,a3,_⟩
     simp only[Bool.or_eq_true,Bool.and_eq_true,decide_eq_true_eq] at hb
     rcases hb with(hb | hb) | ⟨⟨b1,b2⟩,b3⟩
     ·have:=hN.2.2.2 a1;omega
     ·exact a2 (hX.2.2.1 hb)
     ·unfold nM at a3;rcases a3 with a3 | a3
      ·exact b2 a3
      ·omega
    ·rw[if_neg hb]
     refine⟨_,rfl,?_⟩
     simp only[Bool.or_eq_true,Bool.and_eq_true,decide_eq_true_eq,not_or,not_and] at hb
     obtain⟨⟨b1,b2⟩,b3⟩:=hb
     have c1:RK r v (nth r v).ya:=hN.2.2.1 (by omega)
     have c2:¬RK r v (nth r v).fX:=fun hk=>b2 (hX.2.2.2 hk)
     have c3:(nth r v).ya=(nth r 0).ya\/nM c<=(nth r v).ya:=by
      unfold nM
      by_cases e:(nth r v).ya=(nth r 0).ya
      ·exact .inl e
      ·refine .inr ?_
       by_cases e0:v=0
       ·subst e0;exact absurd rfl e
       ·have:=b3 ⟨by omega,e⟩;omega
     simp only[Bool.not_eq_true',decide_eq_false_iff_not]
     exact⟨fun hj hc=>hj hc.2.2.2,fun hc hj=>hc ⟨c1,c2,c3,hj⟩⟩
   obtain⟨b,DD,Cr⟩:=hc
   rw[DD]
   simp only[oB]
   by_cases hb:b=true
   ·rw[if_pos hb];exact .inl ⟨⟨v,Int.le_refl _,hv,Cr.1 hb⟩,rfl⟩
   ·rw[if_neg hb]
    have hcv:ni c net r v:=Classical.byContradiction fun hn=>hb (Cr.2 hn)
    rw[xQ (x:=v+1) (by omega),xQ (by omega)]
    have hnx:∀ x,0<=xC (w4 Ap ((nth r v).fX) ((xC Ap ((nth r v).fX) 0)+1)) x 0/\xC (w4 Ap ((nth r v).fX) ((xC Ap ((nth r v).fX) 0)+1)) x 0<=2*(v+1)/\(0<xC (w4 Ap ((nth r v).fX) ((xC Ap ((nth r v).fX) 0)+1)) x 0↔0<v+1/\RK r (v+1) x):=by
     intro x
     by_cases hx:x=(nth r v).fX
     ·subst hx;rw[lS]
      exact⟨by omega,by omega,fun _=>⟨by omega,.inr ⟨v,h0,by omega,rfl⟩⟩,fun _=>by omega⟩
     ·rw[cz hx]
      have h5:=h4 x
      refine⟨by omega,by omega,fun h6=>⟨by omega,?_⟩,fun h6=>h5.2.2.2 ?_⟩
      ·rcases h5.2.2.1 h6 with h7 | ⟨q,q1,q2,q3⟩
       ·exact .inl h7
       ·exact .inr ⟨q,q1,by omega,q3⟩
      ·rcases h6.2 with h7 | ⟨q,q1,q2,q3⟩
       ·exact .inl h7
       ·by_cases e:q=v
        ·subst e;exact absurd q3.symm hx
        ·exact .inr ⟨q,q1,by omega,q3⟩
    rcases Wl h hr f (v+1) (w4 Ap ((nth r v).fX) ((xC Ap ((nth r v).fX) 0)+1)) (by omega) (by omega) (by omega) hnx (k:=k) (net:=net) with⟨⟨q,q1,q2,q3⟩,h5⟩ | ⟨h5,h6⟩
    ·exact .inl ⟨⟨q,by omega,q2,q3⟩,h5⟩
    ·refine .inr ⟨fun q q1 q2=>?_,h6⟩
     by_cases e:q=v
     ·rw[e];exact hcv
     ·exact h5 q (by omega) q2
  ·rw[if_neg (by simpa using hv)]
   exact .inr ⟨fun q h1 h2=>by omega,rfl⟩
theorem Xw{c:Cf}(h:Small c){r:List Hop}(hr:r.length<1000000000):∃ b,tC c net r=some b/\(b=true↔VR c net r):=by
 unfold tC
 have hF:=wq
 generalize xR=N at hF ⊢
 refine fy (P:=fun o=>∃ b,o=some b/\(b=true↔VR c net r)) fun k hk=>?_
 rcases Wl h hr N 0 [] (by omega) (by omega) (by omega) (fun x=>by simp[xC]) (k:=k) (net:=net) with⟨⟨q,q1,q2,q3⟩,h5⟩ | ⟨h5,h6⟩
 ·refine⟨false,h5,?_⟩
  simp only[Bool.false_eq_true,false_iff]
  exact fun hv=>q3 (hv.cond q q1 q2)
 ·refine⟨_,h6.trans hk,?_⟩
  rw[decide_eq_true_eq]
  exact⟨fun hl=>⟨by omega,h5⟩,fun hv=>by have:=hv.len;omega⟩
theorem du{l:List (List Hop)}{f:List Hop->Option Bool}{k:Option Int}(hf:∀ y∈l,∃ b,f y=some b)(hl:l.length<1000000000):∀(n:Nat) (v:Int),0<=v->v<=l.length->l.length<n+v->
  (∃ i:Int,v<=i/\i<l.length/\f (nth l i)=some true/\wt l f k n v=some i)\/((∀ i:Int,v<=i->i<l.length->f (nth l i)=some false)/\wt l f k n v=k)
 | 0,v,h0,h1,h2=>by omega
 | n+1,v,h0,h1,h2=>by
  rw[wt]
  by_cases h:v<l.length
  ·rw[if_pos (decide_eq_true h),xJ ⟨h0,h⟩]
   obtain⟨b,hb⟩:=hf _ (wn h0 h)
   rw[hb]
   simp only[oB]
   cases b with
   | true=>exact .inl ⟨v,Int.le_refl _,h,hb,by simp⟩
   | false=>
    simp only[Bool.false_eq_true,if_false]
    rw[xQ (x:=v+1) (by omega)]
    rcases du hf hl n (v+1) (by omega) (by omega) (by omega) (k:=k) with⟨i,i1,i2,i3,i4⟩ | ⟨i1,i2⟩
    ·exact .inl ⟨i,by omega,i2,i3,i4⟩
    ·refine .inr ⟨fun i j1 j2=>?_,i2⟩
     by_cases e:i=v
     ·rw[e];exact hb
     ·exact i1 i (by omega) j2
  ·rw[if_neg (by simpa using h)]
   exact .inr ⟨fun i h1 h2=>by omega,rfl⟩
structure VA (c:Cf) (net:Int) (rs:List (List Hop)):Prop where
 nt:net=0\/net=1
 len:rs.length=c.yg.length
 most:rs.length<=16
 each:∀ r∈rs,VR c net r
theorem JA{c:Cf}(h:Small c){rs:List (List Hop)}(hr:∀ r∈rs,r.length<1000000000)(hl:rs.length<1000000000):∃ b,md c net rs=some b/\(b=true↔VA c net rs):=by
 unfold md
 by_cases h1:(net=0\/net=1)/\rs.length=c.yg.length/\rs.length<=16
 ·rw[if_pos (by simp only[Bool.and_eq_true,Bool.or_eq_true,decide_eq_true_eq];omega)]
  unfold wM qo
  have hF:=wq
  generalize xR=N at hF ⊢
  have hf:∀ y∈rs,∃ b,(fun(y0:List Hop)=>vU y0 c net) y=some b:=fun y hy=>by
   obtain⟨b,hb,_⟩:=Xw h (net:=net) (hr y hy)
   exact⟨!b,by show vU y c net=_;unfold vU;rw[hb];rfl⟩
  have hi:∃ x:Int,(uB (some (-1)) fun k=>wt rs (fun(y0:List Hop)=>vU y0 c net) k N 0)=some x/\(x<0↔∀ i:Int,0<=i->i<rs.length->vU (nth rs i) c net=some false):=by
   refine fy (P:=fun o=>∃ x:Int,o=some x/\(x<0↔∀ i:Int,0<=i->i<rs.length->vU (nth rs i) c net=some false)) fun k hk=>?_
   rcases du hf hl N 0 (by omega) (by omega) (by omega) (k:=k) with⟨i,i1,i2,i3,i4⟩ | ⟨i1,i2⟩
   ·refine⟨i,i4,fun hx=>absurd hx (by omega),fun hx=>?_⟩
    have:=hx i i1 i2
    have i3':vU (nth rs i) c net=some true:=i3
    rw[this] at i3';cases i3'
   ·exact⟨-1,i2.trans hk,fun _=>i1,fun _=>by omega⟩
  obtain⟨x,hx1,EP⟩:=hi
  rw[hx1]
  refine⟨_,rfl,?_⟩
  simp only[Bool.not_eq_true',decide_eq_false_iff_not]
  have zq:(∀ i:Int,0<=i->i<rs.length->vU (nth rs i) c net=some false)↔∀ r∈rs,VR c net r:=by
   constructor
   ·intro hh r zj
    obtain⟨i,hi,rfl⟩:=List.getElem_of_mem zj
    have h3:=hh (i:Int) (by omega) (by omega)
    rw[jY ⟨by omega,by omega⟩] at h3
    simp only[Int.toNat_natCast] at h3
    obtain⟨b,hb,Cr⟩:=Xw h (net:=net) (hr _ (List.getElem_mem hi))
    unfold vU at h3
    rw[hb] at h3
    simp at h3
    exact Cr.1 h3
   ·intro hh i i1 i2
    have hm:=wn i1 i2
    obtain⟨b,hb,Cr⟩:=Xw h (net:=net) (hr _ hm)
    unfold vU
    rw[hb,Cr.2 (hh _ hm)];rfl
  constructor
  ·intro hh;exact⟨h1.1,h1.2.1,h1.2.2,zq.1 (EP.1 (by omega))⟩
  ·intro hh;have:=EP.2 (zq.2 hh.each);omega
 ·rw[if_neg (by simp only[Bool.and_eq_true,Bool.or_eq_true,decide_eq_true_eq];omega)]
  refine⟨false,rfl,?_⟩
  simp only[Bool.false_eq_true,false_iff]
  exact fun hv=>h1 ⟨hv.nt,hv.len,hv.most⟩
structure FewP (c:Cf) (rs:List (List Hop)):Prop where
 m:c.fM.length<=8
 s:c.fS.length<=8
 l:c.fK.length<=20
 v:c.yg.length<=20
 r:rs.length<=20
 e:∀ r∈rs,r.length<=40
theorem FewP.small{c:Cf}{rs:List (List Hop)}(h:FewP c rs):Small c:=⟨by have:=h.m;omega,by have:=h.s;omega,by have:=h.l;omega,by have:=h.v;omega⟩
theorem JB{rs:List (List Hop)}{k:Option Bool}(hl:rs.length<=20):∀(n:Nat) (v:Int),0<=v->v<=rs.length->rs.length<n+v->
  mI rs k n v=if ∀ r∈rs.drop v.toNat,r.length<=40 then k else some false
 | 0,v,h0,h1,h2=>by omega
 | n+1,v,h0,h1,h2=>by
  rw[mI]
  by_cases h:v<rs.length
  ·rw[if_pos (decide_eq_true h),xJ ⟨h0,h⟩,kP h0 h]
   by_cases hr:(((nth rs v).length:Nat):Int)>40
   ·rw[if_pos (decide_eq_true hr),if_neg]
    intro hc;have:=hc (nth rs v) (by simp);omega
   ·rw[if_neg (by simpa using hr),xQ (x:=v+1) (by omega),JB hl n (v+1) (by omega) (by omega) (by omega),show(v+1).toNat=v.toNat+1 by omega]
    by_cases hq:∀ r∈rs.drop (v.toNat+1),r.length<=40
    ·rw[if_pos hq,if_pos]
     intro r hr'
     rcases List.mem_cons.1 hr' with rfl | hr'
     ·omega
     ·exact hq r hr'
    ·rw[if_neg hq,if_neg]
     exact fun hc=>hq fun r hr'=>hc r (List.mem_cons_of_mem _ hr')
  ·rw[if_neg (by simpa using h),if_pos]
   rw[List.drop_eq_nil_of_le (by omega)];simp
theorem Sc(c:Cf)(rs:List (List Hop)):∃ b,pZ c rs=some b/\(b=true↔FewP c rs):=by
 unfold pZ
 by_cases h:c.fM.length<=8/\c.fS.length<=8/\c.fK.length<=20/\c.yg.length<=20/\rs.length<=20
 ·obtain⟨h1,h2,h3,h4,h5⟩:=h
  rw[if_neg (by simp only[Bool.or_eq_true,Bool.and_eq_true,decide_eq_true_eq];omega)]
  refine fy (P:=fun o=>∃ b,o=some b/\(b=true↔FewP c rs)) fun k hk=>?_
  rw[JB h5 xR 0 (by omega) (by omega) (by rw[wq];omega),hk]
  simp only[Int.toNat_zero,List.drop_zero]
  by_cases hq:∀ r∈rs,r.length<=40
  ·rw[if_pos hq];exact⟨true,rfl,by simp;exact⟨h1,h2,h3,h4,h5,hq⟩⟩
  ·rw[if_neg hq];exact⟨false,rfl,by simp;exact fun hc=>hq hc.e⟩
 ·rw[if_pos (by simp only[Bool.or_eq_true,Bool.and_eq_true,decide_eq_true_eq];omega)]
  refine⟨false,rfl,by simp;exact fun hc=>h ⟨hc.m,hc.s,hc.l,hc.v,hc.r⟩⟩
end
section
variable {r:List Hop}{rs:List (List Hop)}
theorem Ty{RR A0 A1 A2:Type}{K:A0->A1->A2->Option RR}{F:(A0->A1->A2->Option RR)->Option RR}{P:Option RR->Prop}(h:∀ k:A0->A1->A2->Option RR,(∀ x0 x1 x2,k x0 x1 x2=K x0 x1 x2)->P (F k)):P (jp3 K F):=h K fun _ _ _=>rfl
theorem cX{κ γ:Type}[DecidableEq κ]{k k':κ}{u:γ}:∀ l:List (κ×γ),wK (w4 l k u) k'=(decide (k'=k)||wK l k')
 | []=>by simp[w4,wK]
 | p::l=>by
  by_cases hk:k=p.1
  ·subst hk
   by_cases h2:k'=p.1 <;> simp[w4,wK,h2]
  ·simp only[w4,hk,if_false,wK,cX l]
   by_cases h2:k'=p.1
   ·simp[h2]
   ·simp[h2]
theorem jh{κ γ:Type}[DecidableEq κ]{k k':κ}{u d:γ}(l:List (κ×γ)):xC (w4 l k u) k' d=if k'=k then u else xC l k' d:=by
 by_cases h:k'=k
 ·subst h;rw[lS,if_pos rfl]
 ·rw[cz h,if_neg h]
theorem aI{α:Type}{p:α->α->Option Int}{lt:α->α->Prop}{l0:List α}(hp:∀ x∈l0,∀ y∈l0,rf p x y<=0↔¬lt y x)(zn:∀ x y,lt x y->¬lt y x)(DE:∀ x y z,¬lt y x->¬lt z y->¬lt z x){x:α}(hx:x∈l0):∀ l:List α,(∀ y∈l,y∈l0)->(l.Pairwise fun a b=>¬lt b a)->(pI p x l).Pairwise fun a b=>¬lt b a
 | [],_,_=>by simp[pI]
 | y::l,hl,h=>by
  obtain⟨h1,h2⟩:=List.pairwise_cons.1 h
  unfold pI
  split
  ·rename_i hxy
   have hxy:=(hp x hx y (hl y (by simp))).1 hxy
   refine List.pairwise_cons.2 ⟨fun z hz=>?_,h⟩
   rcases List.mem_cons.1 hz with rfl | hz
   ·exact hxy
   ·exact DE _ _ _ hxy (h1 z hz)
  ·rename_i hxy
   have hyx:lt y x:=by
    by_cases hc:lt y x
    ·exact hc
    ·exact absurd ((hp x hx y (hl y (by simp))).2 hc) hxy
   refine List.pairwise_cons.2 ⟨fun z hz=>?_,aI hp zn DE hx l (fun z hz=>hl z (List.mem_cons_of_mem _ hz)) h2⟩
   rcases List.mem_cons.1 ((eO _ x l).mem_iff.1 hz) with rfl | hz
   ·exact zn _ _ hyx
   ·exact h1 z hz
theorem nQ{α:Type}{p:α->α->Option Int}{lt:α->α->Prop}{l0:List α}(hp:∀ x∈l0,∀ y∈l0,rf p x y<=0↔¬lt y x)(zn:∀ x y,lt x y->¬lt y x)(DE:∀ x y z,¬lt y x->¬lt z y->¬lt z x):∀ l:List α,(∀ y∈l,y∈l0)->(wH p l).Pairwise fun a b=>¬lt b a
 | [],_=>by simp[wH]
 | x::l,hl=>by
  unfold wH
  exact aI hp zn DE (hl x (by simp)) _ (fun y hy=>hl y (List.mem_cons_of_mem _ ((kF p l).mem_iff.1 hy))) (nQ hp zn DE l fun y hy=>hl y (List.mem_cons_of_mem _ hy))
theorem Vk{α:Type}[DecidableEq α]{p:α->α->Option Int}{lt:α->α->Prop}{l:List α}(hp:∀ x∈l,∀ y∈l,∃ v,p x y=some v/\(v<0↔lt x y)/\(v<=0↔¬lt y x))(zn:∀ x y,lt x y->¬lt y x)(DE:∀ x y z,¬lt y x->¬lt z y->¬lt z x)(zy:∀ x∈l,∀ y∈l,¬lt x y->¬lt y x->x=y):ot p (wH p l)=true/\(wH p l).Pairwise fun a b=>¬lt b a:=by
 have hc:∀ x∈l,∀ y∈l,p x y=some (rf p x y)/\(rf p x y<0↔lt x y)/\(rf p x y<=0↔¬lt y x):=fun x hx y hy=>by
  obtain⟨v,h1,h2,h3⟩:=hp x hx y hy
  unfold rf;rw[h1];exact⟨rfl,h2,h3⟩
 have hm:∀ x∈wH p l,x∈l:=fun x hx=>(kF p l).mem_iff.1 hx
 have hs:=nQ (fun x hx y hy=>(hc x hx y hy).2.2) zn DE l (fun y hy=>hy)
 refine⟨?_,hs⟩
 simp only[ot,Bool.and_eq_true,List.all_eq_true,Bool.not_eq_true',decide_eq_false_iff_not,eP]
 refine⟨fun x hx=>⟨fun y hy=>by rw[(hc x (hm x hx) y (hm y hy)).1];rfl,fun h=>?_⟩,?_⟩
 ·have:=((hc x (hm x hx) x (hm x hx)).2.1).1 h;exact zn _ _ this this
 ·refine List.Pairwise.imp_of_mem ?_ hs
  intro x y hx hy hxy
  rw[(hc x (hm x hx) y (hm y hy)).2.1,(hc y (hm y hy) x (hm x hx)).2.1]
  by_cases h:lt x y
  ·exact .inr ⟨h,hxy⟩
  ·exact .inl (zy x (hm x hx) y (hm y hy) h hxy)
theorem Xx(n:Nat)(h:n<4611686018427387904):Go.Lib.bitLen n<=62:=Go.Lib.bitLen_le n 62 (by omega) (by omega)
theorem Vl{x:Int}(h:0<=x/\x<=18446744073709551615):u64 x=x:=by
 unfold u64 IntKind.wrap;simp[IntKind.signed,IntKind.bits];omega
abbrev Pl:=z7
def pk(h:Hop):Pl:=⟨h.ya,h.fQ⟩
theorem of_eq(h:Hop):me h=some (pk h):=rfl
def iW(a b:Pl):Prop:=a.ya<b.ya\/a.ya=b.ya/\a.fQ<b.fQ
theorem Wm(a b:Pl):∃ v,vR a b=some v/\(v<0↔iW a b)/\(v<=0↔¬iW b a):=by
 unfold vR
 simp only[nh,oB]
 rw[F9 (by simp)]
 refine⟨_,rfl,?_⟩
 unfold oG oG oG Jy iW
 repeat' split
 all_goals first | omega | (constructor <;> omega)
theorem JC(x y:Pl):iW x y->¬iW y x:=by unfold iW;omega
theorem M4(x y z:Pl):¬iW y x->¬iW z y->¬iW z x:=by unfold iW;omega
theorem M5(x y:Pl)(h1:¬iW x y)(h2:¬iW y x):x=y:=by
 unfold iW at h1 h2
 obtain⟨a,b⟩:=x;obtain⟨c,d⟩:=y
 simp only at h1 h2
 have:a=c:=by omega
 have:b=d:=by omega
 subst_vars;rfl
theorem Un{l:List Pl}(hs:l.length<=1000000):
  q9 l (fun y0 y1=>vR y0 y1)=some (wH vR l)/\(wH vR l).Pairwise fun a b=>¬iW b a:=by
 obtain⟨ho,DF⟩:=Vk (p:=vR) (l:=l) (fun x _ y _=>Wm x y) JC M4 (fun x _ y _=>M5 x y)
 refine⟨?_,DF⟩
 unfold q9 mg gl
 rw[Vl (by omega),xJ (by omega),oB]
 have hb:=Xx l.length (by omega)
 rw[Int.toNat_natCast,xJ ⟨⟨rfl,rfl⟩,by omega,by omega,by omega⟩,xJ ho,oB]
theorem X3{l:List Pl}{v:Pl}{k:Option Int}(hl:l.length<1000000000):∀(n:Nat) (i:Int),0<=i->i<=l.length->l.length<n+i->
  (v∈l.drop i.toNat/\∃ j:Int,0<=j/\wy l v k n i=some j)\/(v∉l.drop i.toNat/\wy l v k n i=k)
 | 0,i,h0,h1,h2=>by omega
 | n+1,i,h0,h1,h2=>by
  rw[wy]
  by_cases h:i<l.length
  ·rw[if_pos (decide_eq_true h),xJ ⟨h0,h⟩,kP h0 h]
   have e:(⟨(nth l i).ya,(nth l i).fQ⟩:z7)=nth l i:=rfl
   rw[e]
   by_cases hv:v=nth l i
   ·rw[if_pos (decide_eq_true hv)]
    exact .inl ⟨by rw[hv];simp,i,h0,rfl⟩
   ·rw[if_neg (by simpa using hv),xQ (x:=i+1) (by omega)]
    have e2:(i+1).toNat=i.toNat+1:=by omega
    rcases X3 hl n (i+1) (by omega) (by omega) (by omega) (v:=v) (k:=k) with⟨h3,h4⟩ | ⟨h3,h4⟩
    ·rw[e2] at h3;exact .inl ⟨List.mem_cons_of_mem _ h3,h4⟩
    ·rw[e2] at h3
     refine .inr ⟨fun hc=>?_,h4⟩
     rcases List.mem_cons.1 hc with hc | hc
     ·exact hv hc
     ·exact h3 hc
  ·rw[if_neg (by simpa using h),List.drop_eq_nil_of_le (by omega)]
   exact .inr ⟨by simp,rfl⟩
theorem JD{l:List Pl}{v:Pl}(hl:l.length<1000000000):q8 l v=some (decide (v∈l)):=by
 unfold q8 jl
 have hF:=wq
 generalize xR=N at hF ⊢
 refine fy (P:=fun o=>(o.bind fun x=>some (decide (x>=0)))=some (decide (v∈l))) fun k hk=>?_
 rcases X3 hl N 0 (by omega) (by omega) (by omega) (v:=v) (k:=k) with⟨h1,j,h2,h3⟩ | ⟨h1,h2⟩
 ·rw[h3];simp only[Int.toNat_zero,List.drop_zero] at h1
  simp[h1,h2]
 ·rw[h2,hk];simp only[Int.toNat_zero,List.drop_zero] at h1
  simp[h1]
def rd(l:List Pl)(h:Hop):List Pl:=if pk h∈l then l else l++[pk h]
theorem Xy(hs:List Hop)(l:List Pl):(hs.foldl rd l).length<=l.length+hs.length:=by
 induction hs generalizing l with
 | nil=>simp
 | cons h hs ih=>
  have:=ih (rd l h)
  have h2:(rd l h).length<=l.length+1:=by unfold rd;split <;> simp
  simp only[List.foldl_cons,List.length_cons];omega
theorem Q7(hs:List Hop)(l:List Pl)(hn:l.Nodup):(hs.foldl rd l).Nodup/\∀ p,p∈hs.foldl rd l↔p∈l\/∃ h∈hs,pk h=p:=by
 induction hs generalizing l with
 | nil=>simp[hn]
 | cons h hs ih=>
  have h2:(rd l h).Nodup/\∀ p,p∈rd l h↔p∈l\/pk h=p:=by
   unfold rd
   split
   ·rename_i hc
    refine⟨hn,fun p=>⟨.inl,?_⟩⟩
    rintro(h | rfl)
    ·exact h
    ·exact hc
   ·rename_i hc
    refine⟨List.nodup_append.2 ⟨hn,by simp,fun a ha b hb=>?_⟩,fun p=>by simp[eq_comm]⟩
    simp at hb;subst hb;exact fun e=>hc (e▸ha)
  obtain⟨i1,i2⟩:=ih _ h2.1
  refine⟨i1,fun p=>?_⟩
  rw[List.foldl_cons,i2,h2.2]
  simp only[List.mem_cons,exists_eq_or_imp,or_assoc]
theorem Q8{rs:List (List Hop)}{v:Int}{k:List Pl->Option (List Pl)}(hr:(nth rs v).length<=1000)(h0:0<=v)(hv:v<rs.length):∀(n:Nat) (o:List Pl) (i:Int),0<=i->i<=(nth rs v).length->(nth rs v).length<n+i->(o.length:Int)+((nth rs v).length-i)<=1000000->
  gC rs v k n o i=k (((nth rs v).drop i.toNat).foldl rd o)
 | 0,o,i,a0,a1,a2,a3=>by omega
 | n+1,o,i,a0,a1,a2,a3=>by
  rw[gC]
  by_cases h:i<(nth rs v).length
  ·rw[if_pos (decide_eq_true h),kP a0 h,List.foldl_cons]
   refine wD (P:=fun x=>x=_) fun kk xO=>?_
   rw[xJ ⟨a0,h⟩]
   have e:(⟨(nth (nth rs v) i).ya,(nth (nth rs v) i).fX,(nth (nth rs v) i).fQ⟩:zb)=nth (nth rs v) i:=rfl
   rw[e,of_eq,oB,JD (by omega),oB]
   have e2:(i+1).toNat=i.toNat+1:=by omega
   have jy:(rd o (nth (nth rs v) i)).length<=o.length+1:=by unfold rd;split <;> simp
   have Bj:kk (rd o (nth (nth rs v) i))=k (((nth rs v).drop (i.toNat+1)).foldl rd (rd o (nth (nth rs v) i))):=by
    rw[xO,xQ (x:=i+1) (by omega),Q8 hr h0 hv n _ (i+1) (by omega) (by omega) (by omega) (by omega),e2]
   by_cases hc:pk (nth (nth rs v) i)∈o
   ·rw[if_neg (by simpa using hc),<- Bj]
    unfold rd;rw[if_pos hc]
   ·rw[if_pos (by simpa using hc),oB,xJ (by simp;omega),<- Bj]
    unfold rd;rw[if_neg hc]
  ·rw[if_neg (by simpa using h),List.drop_eq_nil_of_le (by omega)];rfl
def aJ(rs:List (List Hop)):List Hop:=rs.flatten
theorem Wn{rs:List (List Hop)}{k:List Pl->Option (List Pl)}(hr:∀ r∈rs,r.length<=1000)(hl:rs.length<=100):∀(n:Nat) (o:List Pl) (v:Int),0<=v->v<=rs.length->rs.length<n+v->(o.length:Int)+1000*(rs.length-v)<=1000000->
  gD rs k n o v=k ((aJ (rs.drop v.toNat)).foldl rd o)
 | 0,o,i,a0,a1,a2,a3=>by omega
 | n+1,o,v,a0,a1,a2,a3=>by
  rw[gD]
  by_cases h:v<rs.length
  ·have D7:=hr _ (wn a0 h)
   rw[if_pos (decide_eq_true h),kP a0 h]
   unfold aJ
   rw[List.flatten_cons,List.foldl_append]
   refine wD (P:=fun x=>x=_) fun kk xO=>?_
   rw[xJ ⟨a0,h⟩]
   refine wD (P:=fun x=>x=_) fun k2 sG=>?_
   rw[Q8 D7 a0 h xR o 0 (by omega) (by omega) (by rw[wq];omega) (by omega)]
   simp only[Int.toNat_zero,List.drop_zero]
   have:=Xy (nth rs v) o
   rw[sG,xO,xQ (x:=v+1) (by omega),Wn hr hl n _ (v+1) (by omega) (by omega) (by omega) (by omega),show(v+1).toNat=v.toNat+1 by omega]
   rfl
  ·rw[if_neg (by simpa using h),List.drop_eq_nil_of_le (by omega)];rfl
def PS(rs:List (List Hop)):List Pl:=wH vR ((aJ rs).foldl rd [])
theorem cY(rs:List (List Hop)):(PS rs).Nodup:=(kF _ _).nodup_iff.2 (Q7 _ [] (by simp)).1
theorem o9(rs:List (List Hop))(p:Pl):p∈PS rs↔∃ r∈rs,∃ h∈r,pk h=p:=by
 unfold PS
 rw[(kF _ _).mem_iff,(Q7 _ [] (by simp)).2]
 unfold aJ
 simp only[List.not_mem_nil,false_or,List.mem_flatten]
 exact⟨fun⟨h,⟨r,hr,hh⟩,e⟩=>⟨r,hr,h,hh,e⟩,fun⟨r,hr,h,hh,e⟩=>⟨h,⟨r,hr,hh⟩,e⟩⟩
theorem JE{m:Nat}(hr:∀ r∈rs,r.length<=m):(aJ rs).length<=rs.length*m:=by
 unfold aJ
 induction rs with
 | nil=>simp
 | cons r rs ih=>
  have:=ih fun r h=>hr r (List.mem_cons_of_mem _ h)
  have h1:=hr r (by simp)
  rw[List.flatten_cons,List.length_append,List.length_cons,Nat.succ_mul];omega
theorem JF{m:Nat}(hr:∀ r∈rs,r.length<=m):(PS rs).length<=rs.length*m:=by
 unfold PS
 rw[rg]
 have:=Xy (aJ rs) []
 have:=JE hr
 simp at *;omega
theorem M6(hr:∀ r∈rs,r.length<=1000)(hl:rs.length<=100):sa rs=some (PS rs):=by
 unfold sa
 refine wD (P:=fun o=>o=some (PS rs)) fun k hk=>?_
 rw[Wn hr hl xR [] 0 (by omega) (by omega) (by rw[wq];omega) (by simp;omega),hk]
 simp only[Int.toNat_zero,List.drop_zero]
 have h1:=Xy (aJ rs) []
 have h2:=JE hr
 have h3:rs.length*1000<=100*1000:=Nat.mul_le_mul_right _ hl
 rw[(Un (by simp at h1;omega)).1]
 rfl
def ky(r:List Hop)(n:Int):Hop×Bool:=match r.find? (fun h=>decide (h.fX=n)) with | some h=>(h,true) | none=>(⟨0,0,0⟩,false)
theorem rC{n:Int}(h:(ky r n).2=true):(ky r n).1∈r/\(ky r n).1.fX=n:=by
 unfold ky at *
 split at h
 ·rename_i x hx
  simp only[hx]
  exact⟨List.mem_of_find?_eq_some hx,by simpa using List.find?_some hx⟩
 ·cases h
theorem Xz{g:Hop}(h:g∈r):(ky r g.fX).2=true:=by
 unfold ky
 split
 ·rfl
 ·rename_i hx
  have:=List.find?_eq_none.1 hx g h
  simp at this
theorem X4{r:List Hop}{f:Hop->Option Bool}{p:Hop->Bool}{k:Option Int}(hf:∀ h∈r,f h=some (p h))(hl:r.length<1000000000):∀(n:Nat) (i:Int),0<=i->i<=r.length->r.length<n+i->
  (∃ j:Int,0<=j/\j<r.length/\(r.drop i.toNat).find? p=some (nth r j)/\wF r f k n i=some j)\/((r.drop i.toNat).find? p=none/\wF r f k n i=k)
 | 0,i,h0,h1,h2=>by omega
 | n+1,i,h0,h1,h2=>by
  rw[wF]
  by_cases h:i<r.length
  ·rw[if_pos (decide_eq_true h),xJ ⟨h0,h⟩,kP h0 h]
   have e:(⟨(nth r i).ya,(nth r i).fX,(nth r i).fQ⟩:zb)=nth r i:=rfl
   rw[e,hf _ (wn h0 h),oB]
   by_cases hp:p (nth r i)=true
   ·rw[if_pos hp,List.find?_cons_of_pos hp];exact .inl ⟨i,h0,h,rfl,rfl⟩
   ·rw[if_neg hp,List.find?_cons_of_neg hp,xQ (x:=i+1) (by omega)]
    have e2:(i+1).toNat=i.toNat+1:=by omega
    rw[<- e2]
    exact X4 hf hl n (i+1) (by omega) (by omega) (by omega)
  ·rw[if_neg (by simpa using h),List.drop_eq_nil_of_le (by omega)]
   exact .inr ⟨rfl,rfl⟩
theorem Q9{f:Hop->Option Bool}{p:Hop->Bool}(hf:∀ h∈r,f h=some (p h))(hl:r.length<1000000000):
  (∃ j:Int,0<=j/\j<r.length/\r.find? p=some (nth r j)/\vt r f=some j)\/(r.find? p=none/\vt r f=some (-1)):=by
 unfold vt
 have hF:=wq
 generalize xR=N at hF ⊢
 refine fy (P:=fun o=>(∃ j:Int,0<=j/\j<r.length/\r.find? p=some (nth r j)/\o=some j)\/(r.find? p=none/\o=some (-1))) fun k hk=>?_
 have:=X4 hf hl N 0 (by omega) (by omega) (by omega) (k:=k)
 simp only[Int.toNat_zero,List.drop_zero] at this
 rw[hk] at this ⊢
 exact this
theorem Vm{n:Int}(hl:r.length<1000000000):uO r n=some (ky r n):=by
 unfold uO ky
 rcases Q9 (r:=r) (f:=fun y0=>sd y0 n) (p:=fun h=>decide (h.fX=n)) (fun h _=>rfl) hl with⟨j,j0,j1,j2,j3⟩ | ⟨j2,j3⟩
 ·rw[j3,j2,oB,if_neg (by simpa using j0),xJ ⟨j0,j1⟩]
 ·rw[j3,j2,oB];rfl
theorem JG{f:Hop->Option Bool}{p:Hop->Bool}(hf:∀ h∈r,f h=some (p h))(hl:r.length<1000000000):vC r f=some (r.any p):=by
 unfold vC
 rcases Q9 hf hl with⟨j,j0,j1,j2,j3⟩ | ⟨j2,j3⟩
 ·rw[j3,oB,decide_eq_true j0]
  rw[eq_comm,Option.some.injEq,eq_comm,eq_comm,List.any_eq_true]
  exact⟨_,wn j0 j1,List.find?_some j2⟩
 ·rw[j3,oB]
  have:r.any p=false:=by
   rw[List.any_eq_false];exact List.find?_eq_none.1 j2
  rw[this];rfl
end
section
variable {p:Pl}{mp:List (Pl×Int)}{rs:List (List Hop)}
def XA(r:List Hop)(p:Pl)(mp:List (Pl×Int))(h:Hop):Bool:=(decide (pk h=p)&&(ky r h.ya).2)&&decide (xC mp (pk (ky r h.ya).1) 0=0)
theorem Fc{r:List Hop}{h:Hop}(hl:r.length<1000000000):uq h r p mp=some (XA r p mp h):=by
 unfold uq XA
 rw[Vm hl,of_eq,oB,oB]
 by_cases hc:(decide (pk h=p)&&(ky r h.ya).2)=true
 ·rw[if_pos hc,of_eq,hc];rfl
 ·rw[if_neg hc];simp only[Bool.not_eq_true] at hc;rw[hc];rfl
theorem Gb{s r:List Hop}{p:Pl}{mp:List (Pl×Int)}{k:Option Int}(hr:r.length<1000000000)(hl:s.length<1000000000):∀(n:Nat) (i:Int),0<=i->i<=s.length->s.length<n+i->
  ((s.drop i.toNat).any (XA r p mp)=true/\∃ j:Int,0<=j/\wB s r p mp k n i=some j)\/((s.drop i.toNat).any (XA r p mp)=false/\wB s r p mp k n i=k)
 | 0,i,h0,h1,h2=>by omega
 | n+1,i,h0,h1,h2=>by
  rw[wB]
  by_cases h:i<s.length
  ·rw[if_pos (decide_eq_true h),xJ ⟨h0,h⟩,kP h0 h]
   have e:(⟨(nth s i).ya,(nth s i).fX,(nth s i).fQ⟩:zb)=nth s i:=rfl
   rw[e,Fc hr,oB,List.any_cons]
   cases hb:XA r p mp (nth s i) with
   | true=>rw[if_pos rfl];exact .inl ⟨rfl,i,h0,rfl⟩
   | false=>
    rw[if_neg (by simp),Bool.false_or,xQ (x:=i+1) (by omega)]
    have e2:(i+1).toNat=i.toNat+1:=by omega
    rw[<- e2]
    exact Gb hr hl n (i+1) (by omega) (by omega) (by omega)
  ·rw[if_neg (by simpa using h),List.drop_eq_nil_of_le (by omega)]
   exact .inr ⟨rfl,rfl⟩
def aK(p:Pl)(mp:List (Pl×Int))(r:List Hop):Bool:=r.any (XA r p mp)
theorem M7{r:List Hop}(hl:r.length<1000000000):tG r p mp=some (aK p mp r):=by
 unfold tG j9 jx
 have hF:=wq
 generalize xR=N at hF ⊢
 refine fy (P:=fun o=>((o.bind fun x=>some (decide (x>=0))).bind fun x=>some x)=some (aK p mp r)) fun k hk=>?_
 have:=Gb (s:=r) (r:=r) (p:=p) (mp:=mp) (k:=k) hl hl N 0 (by omega) (by omega) (by omega)
 simp only[Int.toNat_zero,List.drop_zero] at this
 unfold aK
 rcases this with⟨h1,j,h2,h3⟩ | ⟨h1,h2⟩
 ·rw[h3,h1];simp[h2]
 ·rw[h2,hk,h1];simp
theorem Gc{s:List (List Hop)}{p:Pl}{mp:List (Pl×Int)}{k:Option Int}(hr:∀ r∈s,r.length<1000000000)(hl:s.length<1000000000):∀(n:Nat) (i:Int),0<=i->i<=s.length->s.length<n+i->
  ((s.drop i.toNat).any (aK p mp)=true/\∃ j:Int,0<=j/\wx s p mp k n i=some j)\/((s.drop i.toNat).any (aK p mp)=false/\wx s p mp k n i=k)
 | 0,i,h0,h1,h2=>by omega
 | n+1,i,h0,h1,h2=>by
  rw[wx]
  by_cases h:i<s.length
  ·rw[if_pos (decide_eq_true h),xJ ⟨h0,h⟩,kP h0 h]
   rw[M7 (hr _ (wn h0 h)),oB,List.any_cons]
   cases hb:aK p mp (nth s i) with
   | true=>rw[if_pos rfl];exact .inl ⟨rfl,i,h0,rfl⟩
   | false=>
    rw[if_neg (by simp),Bool.false_or,xQ (x:=i+1) (by omega)]
    have e2:(i+1).toNat=i.toNat+1:=by omega
    rw[<- e2]
    exact Gc hr hl n (i+1) (by omega) (by omega) (by omega)
  ·rw[if_neg (by simpa using h),List.drop_eq_nil_of_le (by omega)]
   exact .inr ⟨rfl,rfl⟩
def wr(rs:List (List Hop))(mp:List (Pl×Int))(p:Pl):Bool:=rs.any (aK p mp)
theorem Sd(hr:∀ r∈rs,r.length<1000000000)(hl:rs.length<1000000000):vX rs p mp=some (wr rs mp p):=by
 unfold vX ja
 have hF:=wq
 generalize xR=N at hF ⊢
 refine fy (P:=fun o=>(o.bind fun x=>some (decide (x>=0)))=some (wr rs mp p)) fun k hk=>?_
 have:=Gc (s:=rs) (p:=p) (mp:=mp) (k:=k) hr hl N 0 (by omega) (by omega) (by omega)
 simp only[Int.toNat_zero,List.drop_zero] at this
 unfold wr
 rcases this with⟨h1,j,h2,h3⟩ | ⟨h1,h2⟩
 ·rw[h3,h1];simp[h2]
 ·rw[h2,hk,h1];simp
def cZ(rs:List (List Hop))(p q:Pl):Prop:=∃ r∈rs,∃ h∈r,pk h=p/\(ky r h.ya).2=true/\pk (ky r h.ya).1=q
theorem Vn:wr rs mp p=true↔∃ q,cZ rs p q/\xC mp q 0=0:=by
 unfold wr aK XA cZ
 simp only[List.any_eq_true,Bool.and_eq_true,decide_eq_true_eq]
 constructor
 ·rintro⟨r,hr,h,hh,⟨e,i⟩,z⟩;exact⟨_,⟨r,hr,h,hh,e,i,rfl⟩,z⟩
 ·rintro⟨q,⟨r,hr,h,hh,e,i,rfl⟩,z⟩;exact⟨r,hr,h,hh,⟨e,i⟩,z⟩
theorem cZ.mem{q:Pl}(h:cZ rs p q):q∈PS rs:=by
 obtain⟨r,hr,h,hh,e,i,rfl⟩:=h
 exact(o9 rs _).2 ⟨r,hr,_,(rC i).1,rfl⟩
abbrev OR:=List z7×Int
theorem JH{eZ out:List Pl}{rs:List (List Hop)}{mp:List (Pl×Int)}{k1:List Pl->List Pl->List (Pl×Int)->Option OR}{k2:Option OR}(hr:∀ r∈rs,r.length<1000000000)(hl:rs.length<1000000000)(hs:eZ.length+out.length<=1000000):∀(n:Nat) (v:Int),0<=v->v<=eZ.length->eZ.length<n+v->
  (∃(l1:List Pl) (p:Pl) (l2:List Pl),eZ=l1++p::l2/\wr rs mp p=false/\g9 eZ rs mp out k1 k2 n v=k1 (l1++l2) (out++[p]) (w4 mp p (i64 (xC mp p 0+1)))) \/
  ((∀ p∈eZ.drop v.toNat,wr rs mp p=true)/\g9 eZ rs mp out k1 k2 n v=k2)
 | 0,v,h0,h1,h2=>by omega
 | n+1,v,h0,h1,h2=>by
  rw[g9]
  by_cases h:v<eZ.length
  ·rw[if_pos (decide_eq_true h),xJ ⟨h0,h⟩]
   have e:(⟨(nth eZ v).ya,(nth eZ v).fQ⟩:z7)=nth eZ v:=rfl
   rw[e,Sd hr hl,oB]
   cases hb:wr rs mp (nth eZ v) with
   | false=>
    rw[if_pos (by rfl),xJ (by simp;omega)]
    refine .inl ⟨eZ.take v.toNat,nth eZ v,eZ.drop (v.toNat+1),?_,hb,?_⟩
    ·rw[<- kP h0 h,List.take_append_drop]
    ·unfold l3
     rw[xQ (x:=v+1) (by omega),xJ (by omega),oB,show(v+1).toNat=v.toNat+1 by omega]
   | true=>
    rw[if_neg (by simp),xQ (x:=v+1) (by omega)]
    have e2:(v+1).toNat=v.toNat+1:=by omega
    rcases JH hr hl hs n (v+1) (by omega) (by omega) (by omega) (k1:=k1) (k2:=k2) (mp:=mp) with h3 | ⟨h3,h4⟩
    ·exact .inl h3
    ·refine .inr ⟨?_,h4⟩
     rw[kP h0 h,<- e2]
     intro p hp
     rcases List.mem_cons.1 hp with rfl | hp
     ·exact hb
     ·exact h3 p hp
  ·rw[if_neg (by simpa using h),List.drop_eq_nil_of_le (by omega)]
   exact .inr ⟨by simp,rfl⟩
def qS(rs:List (List Hop))(l:List Pl):Prop:=∀ l1 p l2,l=l1++p::l2->∀ q,cZ rs p q->q∈l1
def Yq(rs:List (List Hop))(s:List Pl):Prop:=s≠[]/\∀ p∈s,p∈PS rs/\∃ q∈s,cZ rs p q
theorem Wo{rs:List (List Hop)}{k:List Pl->Option OR}(hr:∀ r∈rs,r.length<1000000000)(hl:rs.length<1000000000)(hp:(PS rs).length<=1000000):∀(n:Nat) (eZ out:List Pl) (mp:List (Pl×Int)),eZ.length<n->
  (eZ++out).Perm (PS rs)->(∀ q,xC mp q 0=if q∈out then 1 else 0)->qS rs out->
  (∃ l,l.Perm (PS rs)/\qS rs l/\gb rs k n eZ out mp=k l)\/(∃ s,Yq rs s/\gb rs k n eZ out mp=some ([],351))
 | 0,eZ,out,mp,h0,h1,h2,h3=>by omega
 | n+1,eZ,out,mp,h0,h1,h2,h3=>by
  rw[gb]
  have jy:=h1.length_eq
  rw[List.length_append] at jy
  have Bm:(eZ++out).Nodup:=h1.nodup_iff.2 (cY rs)
  by_cases h:eZ.length>0
  ·rw[if_pos (by simpa using h)]
   refine Ty (P:=fun o=>(∃ l,l.Perm (PS rs)/\qS rs l/\o=k l)\/(∃ s,Yq rs s/\o=some ([],351))) fun k1 wj=>?_
   refine fy (P:=fun o=>(∃ l,l.Perm (PS rs)/\qS rs l/\o=k l)\/(∃ s,Yq rs s/\o=some ([],351))) fun k2 sG=>?_
   rcases JH hr hl (show eZ.length+out.length<=1000000 by omega) xR 0 (by omega) (by omega) (by rw[wq];omega) (k1:=k1) (k2:=k2) (mp:=mp) with⟨l1,p,l2,e1,e2,e3⟩ | ⟨e1,e2⟩
   ·subst e1
    have hpo:p∉out:=fun hc=>by
     have:=(List.nodup_append.1 Bm).2.2 p (by simp) p hc;exact this rfl
    rw[e3,wj]
    have hm:xC mp p 0=0:=by rw[h2,if_neg hpo]
    rw[hm,xQ (by omega)]
    refine Wo hr hl hp n _ _ _ (by simp at h0 ⊢;omega) ?_ ?_ ?_
    ·refine List.Perm.trans ?_ h1
     rw[<- List.append_assoc]
     refine(List.perm_append_comm).trans ?_
     simp only[List.singleton_append,List.append_assoc,List.cons_append]
     refine List.Perm.trans ?_ (List.perm_middle (l₁:=l1)).symm
     simp
    ·intro q
     rw[jh,h2]
     by_cases hq:q=p
     ·subst hq;simp
     ·simp[hq]
    ·intro a q b zJ q' Eb
     rcases List.append_eq_append_iff.1 zJ with⟨w,hw1,Ae⟩ | ⟨w,hw1,Ae⟩
     ·-- the last one
      cases w with
      | nil=>
       simp at Ae hw1
       obtain⟨rfl,rfl⟩:=Ae
       subst hw1
       by_cases hc:xC mp q' 0=0
       ·exact absurd (Vn.2 ⟨q',Eb,hc⟩) (by rw[e2];simp)
       ·rw[h2] at hc
        by_cases zk:q'∈a
        ·exact zk
        ·rw[if_neg zk] at hc;exact absurd rfl hc
      | cons x w=>simp at Ae
     ·cases w with
      | nil=>
       simp at Ae hw1
       obtain⟨rfl,rfl⟩:=Ae
       subst hw1
       by_cases hc:xC mp q' 0=0
       ·exact absurd (Vn.2 ⟨q',Eb,hc⟩) (by rw[e2];simp)
       ·rw[h2] at hc
        by_cases zk:q'∈out
        ·exact zk
        ·rw[if_neg zk] at hc;exact absurd rfl hc
      | cons x w=>
       rw[List.cons_append] at Ae
       injection Ae with hx Ae
       subst hx
       exact h3 a q w hw1 q' Eb
   ·refine .inr ⟨eZ,⟨by rintro rfl;simp at h,fun p hp=>⟨h1.subset (by simp[hp]),?_⟩⟩,by rw[e2,sG]⟩
    obtain⟨q,hq,hz⟩:=Vn.1 (e1 p (by simpa using hp))
    refine⟨q,?_,hq⟩
    have hm:=h1.symm.subset hq.mem
    rcases List.mem_append.1 hm with hm | hm
    ·exact hm
    ·rw[h2,if_pos hm] at hz;omega
  ·rw[if_neg (by simpa using h)]
   have:eZ=[]:=List.eq_nil_of_length_eq_zero (by omega)
   subst this
   exact .inl ⟨out,h1,h3,rfl⟩
theorem Uo(hr:∀ r∈rs,r.length<=1000)(hl:rs.length<=100):
  (∃ l,l.Perm (PS rs)/\qS rs l/\ug rs=some (l,0))\/(∃ s,Yq rs s/\ug rs=some ([],351)):=by
 unfold ug
 have hps:=JF hr
 have h3:rs.length*1000<=100*1000:=Nat.mul_le_mul_right _ hl
 rw[M6 hr hl,oB]
 refine wD (P:=fun o:Option OR=>(∃ l,l.Perm (PS rs)/\qS rs l/\o=some (l,0))\/(∃ s,Yq rs s/\o=some ([],351))) fun k hk=>?_
 rcases Wo (k:=k) (fun r h=>by have:=hr r h;omega) (by omega) (by omega) xR (PS rs) [] [] (by rw[wq];omega) (by simp) (by simp[xC]) (fun l1 p l2 h=>by simp at h) with⟨l,e1,e2,e3⟩ | ⟨s,e1,e2⟩
 ·exact .inl ⟨l,e1,e2,by rw[e3,hk]⟩
 ·exact .inr ⟨s,e1,e2⟩
end
section
variable {net:Int}
theorem sm{α:Type}[Inhabited α]{l:List α}{x:α}(h:x∈l):∃ i:Int,0<=i/\i<l.length/\nth l i=x:=by
 obtain⟨i,hi,rfl⟩:=List.getElem_of_mem h
 refine⟨(i:Int),by omega,by omega,?_⟩
 rw[jY ⟨by omega,by omega⟩];rfl
theorem VR.uniq{c:Cf}{r:List Hop}(h:VR c net r){x y:Hop}(hx:x∈r)(hy:y∈r)(e:x.fX=y.fX):x=y:=by
 obtain⟨i,i0,i1,rfl⟩:=sm hx
 obtain⟨j,j0,j1,rfl⟩:=sm hy
 rcases Int.lt_trichotomy i j with k | k | k
 ·exact absurd (.inr ⟨i,i0,k,e⟩) (h.cond j j0 j1).2.1
 ·rw[k]
 ·exact absurd (.inr ⟨j,j0,k,e.symm⟩) (h.cond i i0 i1).2.1
theorem VR.into{c:Cf}{r:List Hop}(h:VR c net r){g:Hop}(hg:g∈r):ky r g.fX=(g,true):=by
 have h1:=Xz hg
 obtain⟨h2,h3⟩:=rC h1
 exact Prod.ext (h.uniq h2 hg h3) h1
def Edg(rs:List (List Hop))(a b:Pl):Prop:=∃ r∈rs,∃ g∈r,∃ h∈r,g.fX=h.ya/\pk g=a/\pk h=b
theorem M8{c:Cf}{rs:List (List Hop)}(hv:VA c net rs){a b:Pl}:Edg rs a b↔cZ rs b a:=by
 constructor
 ·rintro⟨r,hr,g,hg,h,hh,e,rfl,rfl⟩
  refine⟨r,hr,h,hh,rfl,?_⟩
  rw[<- e,(hv.each r hr).into hg];exact⟨rfl,rfl⟩
 ·rintro⟨r,hr,h,hh,rfl,e,rfl⟩
  obtain⟨h2,h3⟩:=rC e
  exact⟨r,hr,_,h2,h,hh,h3,rfl,rfl⟩
theorem Edg.left{rs:List (List Hop)}{a b:Pl}(h:Edg rs a b):a∈PS rs:=by
 obtain⟨r,hr,g,hg,h,hh,e,rfl,rfl⟩:=h;exact(o9 rs _).2 ⟨r,hr,g,hg,rfl⟩
end
section
abbrev R:=z2
variable {x:R}
theorem b5{x:Int}(h:0<=x/\x<=18446744073709551615):u64 x=x:=by
 unfold u64 IntKind.wrap;simp[IntKind.signed,IntKind.bits];omega
theorem Yr{n:Int}(h : -9223372036854775808<=n/\n<=9223372036854775807):tH n=some (n.natAbs:Int):=by
 unfold tH
 by_cases hn:n<0
 ·rw[if_pos (by simpa using hn)]
  rw[xQ (x:=n+1) (by omega),xQ (x:=0-(n+1)) (by omega),b5 (x:=0-(n+1)) (by omega),b5 (by omega)]
  congr 1;omega
 ·rw[if_neg (by simpa using hn),b5 (by omega)]
  congr 1;omega
theorem JI(x y:Nat):Int.tmod (x:Int) (y:Int)=((x % y:Nat):Int):=rfl
theorem JJ{k:Int->Option Int}:∀(m n x y:Nat),y<2 ^ m->2*m<n->jm k n x y=k (Nat.gcd x y:Nat)
 | 0,n+1,x,y,hy,_=>by
  have:y=0:=by omega
  subst this
  rw[jm];simp
 | m+1,n+2,x,y,hy,hn=>by
  rw[jm]
  by_cases h0:y=0
  ·subst h0;simp
  ·rw[if_pos (by simpa using h0),xJ (by simpa using h0),JI]
   rw[jm]
   have hg:Nat.gcd x y=Nat.gcd y (x % y):=by rw[Nat.gcd_comm x y,Nat.gcd_rec,Nat.gcd_comm]
   by_cases h1:x % y=0
   ·rw[h1] at hg ⊢;simp[hg]
   ·have AL:((x % y:Nat):Int)≠0:=fun h=>h1 (by exact_mod_cast h)
    rw[if_pos (decide_eq_true AL),xJ AL,JI]
    have hr:x % y<y:=Nat.mod_lt _ (by omega)
    have hg2:Nat.gcd y (x % y)=Nat.gcd (x % y) (y % (x % y)):=by rw[Nat.gcd_comm y (x % y),Nat.gcd_rec,Nat.gcd_comm]
    rw[JJ m n (x % y) (y % (x % y)) ?_ (by omega),hg,hg2]
    have h2:y % (x % y)<x % y:=Nat.mod_lt _ (by omega)
    have h3:2*(y % (x % y))<=y:=by
     have h4:=Nat.div_add_mod y (x % y)
     have h5:1<=y / (x % y):=(Nat.one_le_div_iff (by omega)).2 (by omega)
     have h6:x % y*1<=x % y*(y / (x % y)):=Nat.mul_le_mul_left _ h5
     omega
    have h7:2 ^ (m+1)=2*2 ^ m:=by rw[Nat.pow_succ,Nat.mul_comm]
    omega
theorem M9{x y:Nat}(hy:y<2 ^ 64):mJ x y=some ((Nat.gcd x y:Nat):Int):=by
 unfold mJ
 simp only[qP]
 exact JJ 64 xR x y hy (by rw[wq];omega)
def fits(q:Rat):Bool:=decide (q.num.natAbs<=1073741824/\q.den<=1073741824)
def sn(q:Rat):R:=⟨q.num,(q.den:Int)⟩
def val(x:R):Rat:=Rat.divInt x.fN x.fD
def V(x:R):Bool:=decide (1<=x.fD/\x.fD<=1073741824 /\ -1073741824<=x.fN/\x.fN<=1073741824/\Nat.gcd x.fN.natAbs x.fD.natAbs=1)
theorem ue(q:Rat):val (sn q)=q:=Rat.num_divInt_den q
theorem rU{q:Rat}(h:fits q=true):V (sn q)=true:=by
 simp only[fits,decide_eq_true_eq] at h
 have hr:=q.reduced
 have hd:=q.den_pos
 unfold V sn
 rw[decide_eq_true_eq]
 refine⟨by show(1:Int)<=(q.den:Int);omega,by show(q.den:Int)<=1073741824;omega,by show _<=q.num;omega,by show q.num<=_;omega,hr⟩
theorem bQ(h:V x=true):(val x).num=x.fN/\((val x).den:Int)=x.fD:=by
 simp only[V,decide_eq_true_eq] at h
 obtain⟨h1,h2,h3,h4,h5⟩:=h
 have hg:Int.gcd x.fD x.fN=1:=by rw[Int.gcd,Nat.gcd_comm];exact h5
 constructor
 ·rw[val,Rat.num_divInt,hg,Int.sign_eq_one_of_pos (by omega)];simp
 ·rw[val,Rat.den_divInt,hg,if_neg (by omega)];simp;omega
theorem Vo(h:V x=true):sn (val x)=x:=by
 obtain⟨h1,h2⟩:=bQ h
 simp only[sn,h1,h2]
theorem Ys{y:R}(hx:V x=true)(hy:V y=true)(h:val x=val y):x=y:=by rw[<- Vo hx,<- Vo hy,h]
def mk(q:Rat):R×Int:=if fits q then(sn q,0) else(⟨0,0⟩,3)
theorem ep{n d:Int}(hd:d≠0)(h:n.natAbs<=4611686018427387904/\d.natAbs<=4611686018427387904):uw n d=some (mk (Rat.divInt n d)):=by
 unfold uw
 rw[if_neg (by simpa using hd),Yr (by omega),Yr (by omega),oB,oB,M9 (by omega),oB]
 have hg:0<Nat.gcd n.natAbs d.natAbs:=Nat.gcd_pos_of_pos_right _ (by omega)
 rw[xJ (by omega)]
 have hn:=Nat.div_le_self n.natAbs (Nat.gcd n.natAbs d.natAbs)
 have hdd:=Nat.div_le_self d.natAbs (Nat.gcd n.natAbs d.natAbs)
 have en:u64 (Int.tdiv (n.natAbs:Int) (Nat.gcd n.natAbs d.natAbs:Nat))=((n.natAbs / Nat.gcd n.natAbs d.natAbs:Nat):Int):=b5 ⟨Int.natCast_nonneg _,by
  show((n.natAbs / Nat.gcd n.natAbs d.natAbs:Nat):Int)<=_
  omega⟩
 have ed:u64 (Int.tdiv (d.natAbs:Int) (Nat.gcd n.natAbs d.natAbs:Nat))=((d.natAbs / Nat.gcd n.natAbs d.natAbs:Nat):Int):=b5 ⟨Int.natCast_nonneg _,by
  show((d.natAbs / Nat.gcd n.natAbs d.natAbs:Nat):Int)<=_
  omega⟩
 rw[en,ed]
 have hG:Int.gcd d n=Nat.gcd n.natAbs d.natAbs:=by rw[Int.gcd,Nat.gcd_comm]
 have qd:(Rat.divInt n d).den=d.natAbs / Nat.gcd n.natAbs d.natAbs:=by rw[Rat.den_divInt,if_neg hd,hG]
 have qn:(Rat.divInt n d).num=if (decide (n<0)) != (decide (d<0)) then -((n.natAbs / Nat.gcd n.natAbs d.natAbs:Nat):Int) else((n.natAbs / Nat.gcd n.natAbs d.natAbs:Nat):Int):=by
  rw[Rat.num_divInt,hG]
  have ER:(Nat.gcd n.natAbs d.natAbs:Int) ∣ (n.natAbs:Int):=Int.natCast_dvd_natCast.2 (Nat.gcd_dvd_left _ _)
  rcases Int.lt_or_le n 0 with h1 | h1 <;> rcases Int.lt_or_le d 0 with h2 | h2
  ·rw[Int.sign_eq_neg_one_of_neg h2,show(-1:Int)*n=(n.natAbs:Int) by omega]
   simp[h1,h2]
  ·rw[Int.sign_eq_one_of_pos (by omega),show(1:Int)*n = -(n.natAbs:Int) by omega,Int.neg_ediv_of_dvd ER]
   have DG:¬d<0:=by omega
   simp[h1,DG]
  ·rw[Int.sign_eq_neg_one_of_neg h2,show(-1:Int)*n = -(n.natAbs:Int) by omega,Int.neg_ediv_of_dvd ER]
   have AL:¬n<0:=by omega
   simp[h2,AL]
  ·rw[Int.sign_eq_one_of_pos (by omega),show(1:Int)*n=(n.natAbs:Int) by omega]
   have AL:¬n<0:=by omega
   have DG:¬d<0:=by omega
   simp[DG,AL]
 generalize hA:n.natAbs / Nat.gcd n.natAbs d.natAbs=A at *
 generalize hB:d.natAbs / Nat.gcd n.natAbs d.natAbs=B at *
 have hqn:(Rat.divInt n d).num.natAbs=A:=by rw[qn];split <;> omega
 unfold mk fits
 rw[hqn,qd]
 by_cases hf:A<=1073741824/\B<=1073741824
 ·rw[if_neg (by simp;omega)]
  simp only[qP,hf,and_self,decide_true,if_true]
  rw[xQ (x:=(A:Int)) (by omega),xQ (x:=(B:Int)) (by omega),xQ (by omega)]
  unfold sn
  rw[qd,qn]
  split <;> simp
 ·rw[if_pos (by simp;omega)]
  simp only[hf,decide_false]
  rfl
theorem qt(x:R):qw x=some (V x):=by
 unfold qw V
 by_cases h:(x.fD>=1/\x.fD<=1073741824/\x.fN>=(-1073741824)/\x.fN<=1073741824)
 ·rw[if_pos (by simp;omega),Yr (by omega),Yr (by omega),oB,oB,M9 (by omega),oB,oB]
  congr 1
  rw[Bool.eq_iff_iff]
  simp only[decide_eq_true_eq]
  omega
 ·rw[if_neg (by simp;omega),oB]
  congr 1
  symm
  rw[decide_eq_false_iff_not]
  omega
end
section
theorem iM{a b:Int}(ha:a.natAbs<=1073741824)(hb:b.natAbs<=1073741824):(a*b).natAbs<=1152921504606846976:=by
 rw[Int.natAbs_mul]
 exact Nat.mul_le_mul ha hb
theorem iN{x:R}(h:V x=true):x.fN.natAbs<=1073741824/\x.fD.natAbs<=1073741824/\1<=x.fD:=by
 simp only[V,decide_eq_true_eq] at h;omega
theorem Up{x y:R}(hx:V x=true)(hy:V y=true):x.fD*y.fD≠0:=Int.mul_ne_zero (by have:=iN hx;omega) (by have:=iN hy;omega)
theorem Wp{x y:R}(hx:V x=true)(hy:V y=true):vQ x y=some (mk (val x+val y)):=by
 have bx:=iN hx;have b2:=iN hy
 have h1:=iM bx.1 b2.2.1;have h2:=iM b2.1 bx.2.1;have h3:=iM bx.2.1 b2.2.1
 unfold vQ im c9
 rw[qt,qt,hx,hy]
 simp only[oB,Bool.not_true,Bool.false_eq_true,if_false]
 rw[xQ (x:=x.fN*y.fD) (by omega),xQ (x:=y.fN*x.fD) (by omega),xQ (by omega),xQ (by omega),ep (Up hx hy) (by omega)]
 rw[val,val,Rat.divInt_add_divInt _ _ (by omega) (by omega)]
 rfl
theorem aL{x y:R}(hx:V x=true)(hy:V y=true):jq x y=some (mk (val x-val y)):=by
 have bx:=iN hx;have b2:=iN hy
 have h1:=iM bx.1 b2.2.1;have h2:=iM b2.1 bx.2.1;have h3:=iM bx.2.1 b2.2.1
 unfold jq ir cd
 rw[qt,qt,hx,hy]
 simp only[oB,Bool.not_true,Bool.false_eq_true,if_false]
 rw[xQ (x:=x.fN*y.fD) (by omega),xQ (x:=y.fN*x.fD) (by omega),xQ (by omega),xQ (by omega),ep (Up hx hy) (by omega)]
 rw[val,val,Rat.divInt_sub_divInt _ _ (by omega) (by omega)]
 rfl
theorem Wq{x y:R}(hx:V x=true)(hy:V y=true):gc x y=some (mk (val x*val y)):=by
 have bx:=iN hx;have b2:=iN hy
 have h1:=iM bx.1 b2.1;have h3:=iM bx.2.1 b2.2.1
 unfold gc cR c8
 rw[qt,qt,hx,hy]
 simp only[oB,Bool.not_true,Bool.false_eq_true,if_false]
 rw[xQ (by omega),xQ (by omega),ep (Up hx hy) (by omega)]
 rw[val,val,Rat.divInt_mul_divInt]
 rfl
theorem aM{x y:R}(hx:V x=true)(hy:V y=true)(h0:y.fN≠0):gJ x y=some (mk (val x / val y)):=by
 have bx:=iN hx;have b2:=iN hy
 have h1:=iM bx.1 b2.2.1;have h3:=iM bx.2.1 b2.1
 unfold gJ iz ce
 rw[qt,qt,hx,hy]
 simp only[oB,Bool.not_true,Bool.false_or,decide_eq_true_eq,h0,if_false,Bool.false_eq_true]
 rw[xQ (by omega),xQ (by omega),ep (Int.mul_ne_zero (by omega) h0) (by omega)]
 rw[val,val,Rat.div_def,Rat.inv_divInt,Rat.divInt_mul_divInt]
 rfl
def uZ(p q:Rat):Int:=if p<q then -1 else if q<p then 1 else 0
theorem Ma{x y:R}(hx:V x=true)(hy:V y=true):val x<val y↔x.fN*y.fD<y.fN*x.fD:=by
 rw[Rat.lt_iff,(bQ hx).1,(bQ hx).2,(bQ hy).1,(bQ hy).2]
theorem l7{x y:R}(hx:V x=true)(hy:V y=true):vZ x y=some (uZ (val x) (val y)):=by
 have bx:=iN hx;have b2:=iN hy
 have h1:=iM bx.1 b2.2.1;have h2:=iM b2.1 bx.2.1
 unfold vZ uZ
 rw[qt,qt,hx,hy]
 simp only[oB,Bool.not_true,Bool.false_eq_true,if_false,decide_eq_true_eq]
 rw[xQ (x:=x.fN*y.fD) (by omega),xQ (x:=y.fN*x.fD) (by omega)]
 simp only[Ma hx hy,Ma hy hx]
 by_cases h:x.fN*y.fD<y.fN*x.fD
 ·simp[h]
 ·by_cases h':y.fN*x.fD<x.fN*y.fD <;> simp[h,h']
theorem cB{p q:Rat}:uZ p q<=0↔p<=q:=by unfold uZ;grind
theorem pM{p q:Rat}:uZ p q<0↔p<q:=by unfold uZ;grind
theorem Yt{p q:Rat}:0<uZ p q↔q<p:=by unfold uZ;grind
theorem XB{p q:Rat}(h:p<=q):p<q\/p=q:=by grind
theorem Mb(p:Rat):uZ p p=0:=by unfold uZ;simp[Rat.lt_irrefl]
abbrev B:=z6
def GR(x:R):Bool:=V x&&decide (0<=x.fN)
def GB(b:B):Bool:=GR b.yi&&GR b.fR
def bq(b:B):Rat:=val b.yi
def rq(b:B):Rat:=val b.fR
theorem mL{x:R}(h:GR x=true):V x=true:=by simp[GR] at h;exact h.1
theorem aN{x:R}(h:GR x=true):0<=val x:=by
 have hv:=mL h
 simp[GR] at h
 rw[<- Rat.num_nonneg,(bQ hv).1];exact h.2
theorem iO{b:B}(h:GB b=true):GR b.yi=true:=by simp[GB] at h;exact h.1
theorem iP{b:B}(h:GB b=true):GR b.fR=true:=by simp[GB] at h;exact h.2
theorem Fd{a b:B}(ha:GB a=true)(hb:GB b=true)(h1:bq a=bq b)(h2:rq a=rq b):a=b:=by
 have e1:=Ys (mL (iO ha)) (mL (iO hb)) h1
 have e2:=Ys (mL (iP ha)) (mL (iP hb)) h2
 cases a;cases b;simp at e1 e2;rw[e1,e2]
theorem Yu(x:R):uP x=some (GR x):=by unfold uP GR;rw[qt,oB]
theorem Mc(b:B):mZ b=some (!GB b):=by
 unfold mZ GB
 rw[Yu,Yu]
 cases GR b.yi <;> simp
theorem Qa{s:List B}{f:B->Option Bool}{p:B->Bool}(hf:∀ x∈s,f x=some (p x))(hs:(s.length:Int)<=4611686018427387000):vY s f=some (s.any p):=
 nJ (W0 (L:=fun k=>vb s f k) (fun _ _ _=>rfl) hf hs)
theorem KO{s:List B}{v:B}(hs:(s.length:Int)<=4611686018427387000):jp s v=some (s.any fun x=>decide (v=x)):=
 nJ (W0 (L:=fun k=>vO s v k) (f:=fun x=>some (decide (v=x))) (fun _ _ _=>rfl) (fun _ _=>rfl) hs)
def VC(c:List B):Bool:=decide (1<=c.length/\c.length<=32)&&c.all GB
theorem rD(c:List B):mw c=some (VC c):=by
 unfold mw VC
 by_cases h:1<=c.length/\c.length<=32
 ·rw[if_pos (by simp;omega),Qa (p:=fun b => !GB b) (fun x _=>Mc x) (by omega)]
  simp only[oB,h,and_self,decide_true,Bool.true_and]
  congr 1
  rw[List.all_eq_not_any_not]
 ·rw[if_neg (by simp;omega)]
  simp[h]
theorem l8{c:List B}(h:VC c=true):∀ b∈c,GB b=true:=by simp[VC] at h;exact h.2
theorem Wr{c:List B}(h:VC c=true):1<=c.length/\c.length<=32:=by simp[VC] at h;omega
def iX(a b:B):Bool:=decide (a≠b)&&decide (bq a<=bq b)&&decide (rq a<=rq b)
theorem JK{a b:B}(ha:GB a=true)(hb:GB b=true):uu a b=some (iX a b):=by
 unfold uu iX
 rw[l7 (mL (iO ha)) (mL (iO hb)),l7 (mL (iP ha)) (mL (iP hb))]
 have e1:decide (uZ (val a.yi) (val b.yi)<=0)=decide (bq a<=bq b):=decide_eq_decide.2 cB
 have e2:decide (uZ (val a.fR) (val b.fR)<=0)=decide (rq a<=rq b):=decide_eq_decide.2 cB
 by_cases zJ:a≠b
 ·rw[if_pos (by simpa using zJ),oB,oB,e1]
  by_cases h1:bq a<=bq b
  ·rw[if_pos (by simpa using h1),oB,e2];simp[zJ,h1]
  ·rw[if_neg (by simpa using h1),oB];simp[h1]
 ·rw[if_neg (by simpa using zJ)];simp[zJ]
def lT(c:List B)(out:List B)(v:B):List B:=if (!(out.any fun x=>decide (v=x)) && !(c.any fun a=>iX a v))=true then out++[v] else out
theorem Md{c:List B}{k:List B->Option (List B)}(hc:∀ b∈c,GB b=true)(hs:(c.length:Int)<=1000000):
  ∀(n:Nat) (out:List B) (i:Int),0<=i->i<=c.length->c.length-i<n->(out.length:Int)<=i->mh c k n out i=k ((c.drop i.toNat).foldl (lT c) out):=by
 intro n
 induction n with
 | zero=>intro out i h0 h1 h2;omega
 | succ n ih=>
  intro out i h0 h1 h2 h3
  rw[mh]
  by_cases h:i<c.length
  ·rw[if_pos (by simpa using h)]
   simp only[qP]
   rw[xJ ⟨h0,h⟩,kL h0 h,List.foldl_cons]
   have hm:=hc _ (wn h0 h)
   have e1:=KO (s:=out) (v:=nth c i) (by omega)
   have e2:=Qa (s:=c) (f:=fun y0=>uG y0 (nth c i)) (p:=fun a=>iX a (nth c i)) (fun x hx=>by unfold uG;rw[JK (hc x hx) hm];rfl) (by omega)
   refine(congrArg (fun o=>Option.bind o _) e1).trans ?_
   rw[oB]
   have jy:(out.length:Int)+1<=1000000:=by omega
   cases hA:out.any fun x=>decide (nth c i=x) with
   | true=>
    simp only[Bool.not_true,Bool.false_eq_true,if_false,oB]
    rw[xQ (by omega),ih out (i+1) (by omega) (by omega) (by omega) (by omega)]
    congr 2
    unfold lT;simp[hA]
   | false=>
    simp only[Bool.not_false,if_true]
    refine(congrArg (fun o=>Option.bind (Option.bind o _) _) e2).trans ?_
    simp only[oB]
    cases hB:c.any fun a=>iX a (nth c i) with
    | true=>
     simp only[Bool.not_true,Bool.false_eq_true,if_false]
     rw[xQ (by omega),ih out (i+1) (by omega) (by omega) (by omega) (by omega)]
     congr 2
     unfold lT;simp[hA,hB]
    | false=>
     simp only[Bool.not_false,if_true]
     rw[xJ (by simp only[List.length_append,List.length_cons,List.length_nil];omega),xQ (by omega)]
     refine(ih _ (i+1) (by omega) (by omega) (by omega) (by simp;omega)).trans ?_
     congr 2
     unfold lT;simp[hA,hB]
  ·rw[if_neg (by simpa using h),f6 h];rfl
def co{α:Type}(key:α->Rat)(l:List α):List α:=wH (fun x y=>some (uZ (key x) (key y))) l
theorem KP{α:Type}{p q:α->α->Option Int}{x:α}{l:List α}(h:∀ y∈l,rf p x y=rf q x y):pI p x l=pI q x l:=by
 induction l with
 | nil=>rfl
 | cons y l ih=>
  unfold pI
  rw[h y (by simp),ih fun z hz=>h z (by simp[hz])]
theorem JL{α:Type}{p q:α->α->Option Int}{l:List α}(h:∀ x∈l,∀ y∈l,rf p x y=rf q x y):wH p l=wH q l:=by
 induction l with
 | nil=>rfl
 | cons x l ih=>
  unfold wH
  rw[ih fun a ha b hb=>h a (by simp[ha]) b (by simp[hb])]
  exact KP fun y hy=>h x (by simp) y (by simp[(kF q l).mem_iff.1 hy])
theorem KQ{α:Type}{key:α->Rat}(x:α)(l:List α)(h:l.Pairwise fun a b=>key a<=key b):(pI (fun x y=>some (uZ (key x) (key y))) x l).Pairwise fun a b=>key a<=key b:=by
 induction l with
 | nil=>simp[pI]
 | cons y l ih=>
  obtain⟨h1,h2⟩:=List.pairwise_cons.1 h
  unfold pI
  split
  ·rename_i hxy
   have hxy:key x<=key y:=cB.1 hxy
   refine List.pairwise_cons.2 ⟨fun z hz=>?_,h⟩
   rcases List.mem_cons.1 hz with rfl | hz
   ·exact hxy
   ·exact Rat.le_trans hxy (h1 z hz)
  ·rename_i hxy
   have hxy:key y<=key x:=Rat.le_of_lt (Rat.not_le.1 fun h=>hxy (cB.2 h))
   refine List.pairwise_cons.2 ⟨fun z hz=>?_,ih h2⟩
   rcases List.mem_cons.1 ((eO _ x l).mem_iff.1 hz) with rfl | hz
   ·exact hxy
   ·exact h1 z hz
theorem b6{α:Type}(key:α->Rat)(l:List α):(co key l).Pairwise fun a b=>key a<=key b:=by
 unfold co
 induction l with
 | nil=>simp[wH]
 | cons x l ih=>exact KQ x _ ih
theorem cp{α:Type}(key:α->Rat)(l:List α):(co key l).Perm l:=kF _ l
theorem JM{α:Type}[DecidableEq α]{key:α->Rat}{p:α->α->Option Int}{l:List α}(hp:∀ x∈l,∀ y∈l,p x y=some (uZ (key x) (key y)))(hi:∀ x∈l,∀ y∈l,key x=key y->x=y):
  wH p l=co key l/\ot p (wH p l)=true:=by
 have hc:∀ x∈l,∀ y∈l,rf p x y=uZ (key x) (key y):=fun x hx y hy=>by unfold rf;rw[hp x hx y hy];rfl
 have e:wH p l=co key l:=JL fun x hx y hy=>by rw[hc x hx y hy];rfl
 refine⟨e,?_⟩
 have hm:∀ x∈wH p l,x∈l:=fun x hx=>(kF p l).mem_iff.1 hx
 have hs:=b6 key l
 rw[<- e] at hs
 simp only[ot,Bool.and_eq_true,List.all_eq_true,Bool.not_eq_true',decide_eq_false_iff_not,eP]
 refine⟨fun x hx=>⟨fun y hy=>by rw[hp x (hm x hx) y (hm y hy)];rfl,by rw[hc x (hm x hx) x (hm x hx),Mb];omega⟩,?_⟩
 refine List.Pairwise.imp_of_mem ?_ hs
 intro x y hx hy hxy
 rw[hc x (hm x hx) y (hm y hy),hc y (hm y hy) x (hm x hx),pM,pM]
 rcases XB hxy with h | h
 ·exact .inr ⟨h,Rat.not_lt.2 hxy⟩
 ·exact .inl (hi x (hm x hx) y (hm y hy) h)
theorem Qb(n:Nat)(h:n<4611686018427387904):Go.Lib.bitLen n<=62:=Go.Lib.bitLen_le n 62 (by omega) (by omega)
theorem Uq{l:List B}{p:B->B->Option Int}{key:B->Rat}(hp:∀ x∈l,∀ y∈l,p x y=some (uZ (key x) (key y)))(hi:∀ x∈l,∀ y∈l,key x=key y->x=y)(hs:(l.length:Int)<=1000000):
  vP l p=some (co key l):=by
 obtain⟨e,ho⟩:=JM hp hi
 unfold vP mg gF
 rw[b5 (by omega),xJ (by omega),oB]
 have hb:=Qb l.length (by omega)
 rw[Int.toNat_natCast,xJ ⟨⟨rfl,rfl⟩,by omega,by omega,by omega⟩,xJ ho,oB,e]
theorem Ur{l:List R}{p:R->R->Option Int}{key:R->Rat}(hp:∀ x∈l,∀ y∈l,p x y=some (uZ (key x) (key y)))(hi:∀ x∈l,∀ y∈l,key x=key y->x=y)(hs:(l.length:Int)<=1000000):
  qZ l p=some (co key l):=by
 obtain⟨e,ho⟩:=JM hp hi
 unfold qZ mg fV
 rw[b5 (by omega),xJ (by omega),oB]
 have hb:=Qb l.length (by omega)
 rw[Int.toNat_natCast,xJ ⟨⟨rfl,rfl⟩,by omega,by omega,by omega⟩,xJ ho,oB,e]
theorem JO{c:List B}:∀(l out:List B) (v:B),v∈l.foldl (lT c) out↔v∈out\/(v∈l/\(c.any fun a=>iX a v)=false)
 | [],out,v=>by simp
 | x::l,out,v=>by
  rw[List.foldl_cons,JO l]
  unfold lT
  by_cases h1:(out.any fun y=>decide (x=y))=true
  ·have hx:x∈out:=by simpa using h1
   rw[if_neg (by simp[h1])]
   constructor
   ·rintro(h | h)
    ·exact .inl h
    ·exact .inr ⟨by simp[h.1],h.2⟩
   ·rintro(h | ⟨h,h'⟩)
    ·exact .inl h
    ·rcases List.mem_cons.1 h with rfl | h
     ·exact .inl hx
     ·exact .inr ⟨h,h'⟩
  ·by_cases h2:(c.any fun a=>iX a x)=true
   ·rw[if_neg (by simp[h2])]
    constructor
    ·rintro(h | h)
     ·exact .inl h
     ·exact .inr ⟨by simp[h.1],h.2⟩
    ·rintro(h | ⟨h,h'⟩)
     ·exact .inl h
     ·rcases List.mem_cons.1 h with rfl | h
      ·rw[h2] at h';cases h'
      ·exact .inr ⟨h,h'⟩
   ·rw[if_pos (by simp[h1,h2])]
    simp only[List.mem_append,List.mem_singleton]
    constructor
    ·rintro((h | rfl) | h)
     ·exact .inl h
     ·exact .inr ⟨by simp,by simpa using h2⟩
     ·exact .inr ⟨by simp[h.1],h.2⟩
    ·rintro(h | ⟨h,h'⟩)
     ·exact .inl (.inl h)
     ·rcases List.mem_cons.1 h with rfl | h
      ·exact .inl (.inr rfl)
      ·exact .inr ⟨h,h'⟩
theorem Ws{c:List B}:∀(l out:List B),out.Nodup->(l.foldl (lT c) out).Nodup
 | [],out,h=>h
 | x::l,out,h=>by
  rw[List.foldl_cons]
  apply Ws l
  unfold lT
  split
  ·rename_i h1
   simp only[Bool.and_eq_true,Bool.not_eq_true'] at h1
   have hx:x∉out:=by have:=h1.1;simp at this;exact fun hm=>this x hm rfl
   rw[List.nodup_append]
   refine⟨h,by simp,fun a ha b hb=>?_⟩
   simp at hb;subst hb
   intro e;subst e;exact hx ha
  ·exact h
theorem XC{c:List B}:∀(l out:List B),(l.foldl (lT c) out).length<=out.length+l.length
 | [],out=>by simp
 | x::l,out=>by
  rw[List.foldl_cons]
  have:=XC (c:=c) l (lT c out x)
  have h:(lT c out x).length<=out.length+1:=by unfold lT;split <;> simp
  simp;omega
def nj(c:List B):List B:=c.foldl (lT c) []
def qD(c:List B):List B:=co bq (nj c)
theorem b7{c:List B}{v:B}:v∈nj c↔v∈c/\∀ a∈c,iX a v=false:=by
 unfold nj;rw[JO];simp
theorem XD{c:List B}{v:B}:v∈qD c↔v∈c/\∀ a∈c,iX a v=false:=by
 unfold qD;rw[(cp _ _).mem_iff,b7]
theorem Us(c:List B):(qD c).length<=c.length:=by
 unfold qD;rw[(cp _ _).length_eq]
 have:=XC (c:=c) c []
 simpa [nj] using this
theorem Me{c:List B}{x y:B}(hx:x∈c/\∀ a∈c,iX a x=false)(hy:y∈c/\∀ a∈c,iX a y=false)(h:bq x=bq y):x=y:=by
 have h1:=hx.2 y hy.1
 have h2:=hy.2 x hx.1
 by_cases e:x=y
 ·exact e
 ·exfalso
  have e':y≠x:=fun h=>e h.symm
  unfold iX at h1 h2
  rw[h] at h1 h2
  simp[e,e',Rat.le_refl] at h1 h2
  grind
theorem Tz{c:List B}(hc:∀ b∈c,GB b=true)(hs:(c.length:Int)<=1000000):pm c=some (qD c):=by
 unfold pm
 simp only[qP]
 rw[Md hc hs xR [] 0 (by omega) (by omega) (by rw[wq];omega) (by simp)]
 show Option.bind (vP (nj c) _) _=_
 have hl:(nj c).length<=c.length:=by have:=XC (c:=c) c [];simpa [nj] using this
 rw[Uq (key:=bq) (fun x hx y hy=>?_) (fun x hx y hy h=>Me (b7.1 hx) (b7.1 hy) h) (by omega)]
 ·rfl
 ·unfold sf
  rw[l7 (mL (iO (hc x (b7.1 hx).1))) (mL (iO (hc y (b7.1 hy).1)))];rfl
theorem oa{c:List B}:(qD c).Pairwise fun x y=>bq x<bq y/\rq y<rq x:=by
 have h:=b6 bq (nj c)
 have hn:(qD c).Nodup:=(cp bq (nj c)).nodup_iff.2 (Ws c [] (by simp))
 have h2:=List.Pairwise.and h hn
 refine List.Pairwise.imp_of_mem ?_ h2
 intro x y hx hy hxy
 have hx:=XD.1 hx;have hy:=XD.1 hy
 have nU:bq x<bq y:=by
  rcases XB hxy.1 with h | h
  ·exact h
  ·exact absurd (Me hx hy h) hxy.2
 refine⟨nU,?_⟩
 have:=hy.2 x hx.1
 unfold iX at this
 simp[hxy.2,hxy.1] at this
 grind
end
section
variable {m k m':Nat}{p:Rat}{t:R}
theorem dw{n d:Int}(hd:0<d)(h:n.natAbs<=1073741824/\d<=1073741824):fits (Rat.divInt n d)=true:=by
 simp only[fits,decide_eq_true_eq]
 rw[Rat.den_divInt,if_neg (by omega),Rat.num_divInt]
 have hs:d.sign=1:=Int.sign_eq_one_of_pos hd
 rw[hs,Int.one_mul]
 constructor
 ·have h1:(n / (Int.gcd d n:Int)).natAbs<=n.natAbs:=by
   have h2:((Int.gcd d n:Nat):Int) ∣ n:=Int.gcd_dvd_right ..
   rw[Int.natAbs_ediv_of_dvd h2]
   exact Nat.div_le_self _ _
  omega
 ·have:=Nat.div_le_self d.natAbs (Int.gcd d n)
  omega
def G(m k:Nat)(q:Rat):Prop:=∃ n:Int,n.natAbs<=m*k/\q=Rat.divInt n k
theorem G.fits{m k:Nat}{q:Rat}(h:G m k q)(hk:0<k)(sG:k<=1073741824)(hm:m*k<=1073741824):fits q=true:=by
 obtain⟨n,hn,rfl⟩:=h
 exact dw (by omega) ⟨by omega,by omega⟩
theorem G.add{q:Rat}(hk:0<k)(hp:G m k p)(hq:G m' k q):G (m+m') k (p+q):=by
 obtain⟨n,hn,rfl⟩:=hp;obtain⟨n',hn',rfl⟩:=hq
 refine⟨n+n',?_,?_⟩
 ·have:=Nat.add_mul m m' k
  omega
 ·rw[Rat.divInt_add_divInt _ _ (by omega) (by omega),show n*(k:Int)+n'*k=(n+n')*k by rw[Int.add_mul],Rat.divInt_mul_right (by omega)]
theorem G.neg(hp:G m k p):G m k (-p):=by
 obtain⟨n,hn,rfl⟩:=hp
 exact⟨-n,by omega,by rw[Rat.neg_divInt]⟩
theorem G.sub{q:Rat}(hk:0<k)(hp:G m k p)(hq:G m' k q):G (m+m') k (p-q):=by
 rw[Rat.sub_eq_add_neg];exact hp.add hk hq.neg
theorem G.mul{k':Nat}{q:Rat}(hp:G m k p)(hq:G m' k' q):G (m*m') (k*k') (p*q):=by
 obtain⟨n,hn,rfl⟩:=hp;obtain⟨n',hn',rfl⟩:=hq
 refine⟨n*n',?_,?_⟩
 ·rw[Int.natAbs_mul,show m*m'*(k*k')=(m*k)*(m'*k') by rw[Nat.mul_mul_mul_comm]]
  exact Nat.mul_le_mul hn hn'
 ·rw[Rat.divInt_mul_divInt];rfl
theorem G.fine(j:Nat)(hj:0<j)(hp:G m k p):G m (k*j) p:=by
 obtain⟨n,hn,rfl⟩:=hp
 refine⟨n*j,?_,?_⟩
 ·rw[Int.natAbs_mul,<- Nat.mul_assoc];exact Nat.mul_le_mul hn (by omega)
 ·rw[show((k*j:Nat):Int)=(k:Int)*j by push_cast;rfl,Rat.divInt_mul_right (by omega)]
theorem G.le(h:m<=m')(hp:G m k p):G m' k p:=by
 obtain⟨n,hn,rfl⟩:=hp
 exact⟨n,Nat.le_trans hn (Nat.mul_le_mul_right _ h),rfl⟩
theorem Yv{q:Rat}(h:fits q=true):mk q=(sn q,0):=by unfold mk;rw[if_pos h]
theorem divInt_nonneg{n d:Int}(h:0<=n)(hd:0<=d):(0:Rat)<=Rat.divInt n d:=Rat.divInt_nonneg h hd
def SB(b:B):Prop:=GB b=true/\G 100 1 (bq b)/\G 5 8 (rq b)
def SC(c:List B):Prop:=1<=c.length/\c.length<=4/\∀ b∈c,SB b
theorem SC.all{c:List B}(h:SC c):∀ b∈c,GB b=true:=fun b hb=>(h.2.2 b hb).1
def vq(t:Rat)(b:B):Rat:=bq b+rq b*t
def b8(t:Rat)(b:B):Bool:=fits (rq b*t)&&fits (vq t b)
theorem Se{t:Rat}{b:B}(hb:GB b=true)(ht:0<=t):0<=vq t b:=Rat.add_nonneg (aN (iO hb)) (Rat.mul_nonneg (aN (iP hb)) ht)
theorem Ut{b:B}(hb:GB b=true)(ht:GR t=true):j4 ⟨0⟩ b t=some (if b8 (val t) b then(sn (vq (val t) b),(⟨0⟩:ys)) else(⟨0,0⟩,⟨3⟩)):=by
 unfold j4 qI
 rw[if_neg (by simp)]
 simp only[]
 rw[Wq (mL (iP hb)) (mL ht),oB,oB]
 show Option.bind (if _ then _ else _) _=_
 have hr:val b.fR*val t=rq b*val t:=rfl
 rw[hr]
 unfold b8
 cases h:fits (rq b*val t) with
 | true=>
  rw[Yv h]
  rw[if_neg (by simp)]
  rw[Wp (mL (iO hb)) (rU h),ue]
  simp only[oB,Bool.true_and]
  have hv:val b.yi+rq b*val t=vq (val t) b:=rfl
  rw[hv]
  cases h2:fits (vq (val t) b) with
  | true=>rw[Yv h2];rfl
  | false=>unfold mk;rw[h2];rfl
 | false=>
  unfold mk
  rw[h]
  simp
theorem Mf{b:B}{e:Int}(he:e≠0):j4 ⟨e⟩ b t=some (⟨0,0⟩,⟨e⟩):=by
 unfold j4 qI
 simp[he]
theorem JP{α β R:Type}[Inhabited α]{c:List α}{S:Int->α->Option (β×Int)}{ok:α->Bool}{g:α->β}{z:β}{k:List β->Int->Option R}{K3:Option R}{L:Nat->List β->Int->Int->Option R}(hS:∀ b∈c,S 0 b=some (if ok b then(g b,0) else(z,3))/\S 3 b=some (z,3))(hL:∀ n out (i:Int) e v e',0<=i->i<c.length->(out.length:Int)=i->S e (nth c i)=some (v,e')->L (n+1) out i e=L n (out++[v]) (i+1) e')(hE:∀ n out (i:Int) e,¬i<c.length->L (n+1) out i e=k out e)(hK:∀ out,k out 3=K3):
  ∀(n:Nat) (out:List β) (i:Int),0<=i->(out.length:Int)=i->i<=c.length->c.length<n+i->
   L n out i 3=K3/\L n out i 0=if (c.drop i.toNat).all ok then k (out++(c.drop i.toNat).map g) 0 else K3
 | 0,out,i,h0,ho,h1,h2=>by omega
 | n+1,out,i,h0,ho,h1,h2=>by
  by_cases h:i<c.length
  ·have hm:=hS _ (wn h0 h)
   have ih:=fun BF ho'=>JP hS hL hE hK n BF (i+1) (by omega) ho' (by omega) (by omega)
   refine⟨?_,?_⟩
   ·rw[hL n out i 3 _ _ h0 h ho hm.2]
    exact(ih _ (by simp;omega)).1
   ·rw[kL h0 h,List.all_cons,List.map_cons]
    cases hb:ok (nth c i) with
    | true=>
     have h3:=hm.1
     rw[hb,if_pos rfl] at h3
     rw[hL n out i 0 _ _ h0 h ho h3,(ih _ (by simp;omega)).2]
     simp
    | false=>
     have h3:=hm.1
     rw[hb,if_neg (by simp)] at h3
     rw[hL n out i 0 _ _ h0 h ho h3,(ih _ (by simp;omega)).1]
     simp
  ·rw[hE n out i 3 h,hE n out i 0 h,f6 h,hK]
   simp
def nk:List Rat->Rat
 | []=>0
 | [x]=>x
 | x::y::l=>let m:=nk (y::l);if x<=m then x else m
def Yw(l:List Rat)(q:Rat):Prop:=q∈l/\∀ x∈l,q<=x
theorem Yw.unique{l:List Rat}{q:Rat}(hp:Yw l p)(hq:Yw l q):p=q:=Rat.le_antisymm (hp.2 _ hq.1) (hq.2 _ hp.1)
theorem Yx:∀(l:List Rat),l≠[]->Yw l (nk l)
 | [],h=>absurd rfl h
 | [x],_=>⟨by simp[nk],fun y hy=>by simp at hy;subst hy;exact Rat.le_refl⟩
 | x::y::l,_=>by
  have ih:=Yx (y::l) (by simp)
  unfold nk
  by_cases h:x<=nk (y::l)
  ·rw[if_pos h]
   refine⟨by simp,fun z hz=>?_⟩
   rcases List.mem_cons.1 hz with rfl | hz
   ·exact Rat.le_refl
   ·exact Rat.le_trans h (ih.2 z hz)
  ·rw[if_neg h]
   refine⟨List.mem_cons_of_mem _ ih.1,fun z hz=>?_⟩
   rcases List.mem_cons.1 hz with rfl | hz
   ·exact Rat.le_of_lt (Rat.not_le.1 h)
   ·exact ih.2 z hz
theorem Vp{l:List Rat}{q:Rat}(h:Yw l q):nk l=q:=(Yx l (List.ne_nil_of_mem h.1)).unique h
theorem tt{α:Type}[Inhabited α]{l:List α}{i:Int}{x:α}(h0:0<=i)(h:i<l.length):x∈l.take (i+1).toNat↔x∈l.take i.toNat\/x=nth l i:=by
 rw[take_succ l h0 h,List.mem_append,List.mem_singleton]
theorem aO{l:List R}{k:Int->Int->Option R}(hl:∀ x∈l,V x=true)(hs:(l.length:Int)<=1000000):
  ∀(n:Nat) (i:Int) (c:R),0<=i->i<=l.length->l.length<n+i->c∈l->(∀ x∈l.take i.toNat,val c<=val x)->
   ∃ d:R,vF l (fun y0 y1=>vZ y0 y1) k n i c.fN c.fD=k d.fN d.fD/\d∈l/\∀ x∈l,val d<=val x
 | 0,i,c,h0,h1,h2,hc,hm=>by omega
 | n+1,i,c,h0,h1,h2,hc,hm=>by
  rw[vF]
  by_cases h:i<l.length
  ·rw[if_pos (by simpa using h)]
   simp only[sK]
   rw[xJ ⟨h0,h⟩,xJ ⟨h0,h⟩,xQ (by omega)]
   have hx:=wn h0 h
   show ∃ d:R,Option.bind (vZ (nth l i) c) _=_/\_
   rw[l7 (hl _ hx) (hl _ hc),oB]
   by_cases nU:val (nth l i)<val c
   ·rw[if_pos (by simpa using pM.2 nU)]
    refine aO hl hs n (i+1) (nth l i) (by omega) (by omega) (by omega) hx fun x hx'=>?_
    rcases(tt h0 h).1 hx' with h3 | rfl
    ·exact Rat.le_trans (Rat.le_of_lt nU) (hm x h3)
    ·exact Rat.le_refl
   ·rw[if_neg (by simpa using fun h=>nU (pM.1 h))]
    refine aO hl hs n (i+1) c (by omega) (by omega) (by omega) hc fun x hx'=>?_
    rcases(tt h0 h).1 hx' with h3 | rfl
    ·exact hm x h3
    ·exact Rat.not_lt.1 nU
  ·rw[if_neg (by simpa using h)]
   refine⟨c,rfl,hc,fun x hx=>hm x ?_⟩
   rwa [List.take_of_length_le (by omega)]
theorem TA{l:List R}(hl:∀ x∈l,V x=true)(h0:l≠[])(hs:(l.length:Int)<=1000000):jf l (fun y0 y1=>vZ y0 y1)=some (sn (nk (l.map val))):=by
 have hp:=List.length_pos_iff.2 h0
 unfold jf
 rw[if_neg (by simp;omega),xJ (by omega)]
 refine uY (P:=fun o=>o=_) fun k hk=>?_
 have hm0:=wn (l:=l) (i:=0) (by omega) (by omega)
 obtain⟨d,e,hd,qm⟩:=aO (k:=k) hl hs xR 1 (nth l 0) (by omega) (by omega) (by rw[wq];omega) hm0 (by
  intro x hx
  have h1:(1:Int)=0+1:=rfl
  rw[h1] at hx
  rcases(tt (by omega) (by omega)).1 hx with h3 | rfl
  ·simp at h3
  ·exact Rat.le_refl)
 have h1:nk (l.map val)=val d:=Vp ⟨List.mem_map_of_mem hd,fun x hx=>by
  obtain⟨y,hy,rfl⟩:=List.mem_map.1 hx
  exact qm y hy⟩
 rw[e,hk,h1,Vo (hl d hd)]
theorem Uu{a b:B}(ha:GB a=true)(hb:GB b=true):gn a b=some (uZ (rq a) (rq b)):=by
 unfold gn
 rw[l7 (mL (iP ha)) (mL (iP hb))];rfl
theorem aP{l:List B}{k:Int->Int->Int->Int->Option B}(hl:∀ x∈l,GB x=true)(hs:(l.length:Int)<=1000000):
  ∀(n:Nat) (i:Int) (c:B),0<=i->i<=l.length->l.length<n+i->c∈l->(∀ x∈l.take i.toNat,rq c<=rq x)->
   ∃ d:B,wS l (fun y0 y1=>gn y0 y1) k n i c.yi.fN c.yi.fD c.fR.fN c.fR.fD=k d.yi.fN d.yi.fD d.fR.fN d.fR.fD/\d∈l/\∀ x∈l,rq d<=rq x
 | 0,i,c,h0,h1,h2,hc,hm=>by omega
 | n+1,i,c,h0,h1,h2,hc,hm=>by
  rw[wS]
  by_cases h:i<l.length
  ·rw[if_pos (by simpa using h)]
   simp only[jp4]
   rw[xJ ⟨h0,h⟩,xJ ⟨h0,h⟩,xQ (by omega)]
   have hx:=wn h0 h
   show ∃ d:B,Option.bind (gn (nth l i) c) _=_/\_
   rw[Uu (hl _ hx) (hl _ hc),oB]
   by_cases nU:rq (nth l i)<rq c
   ·rw[if_pos (decide_eq_true (pM.2 nU))]
    refine aP hl hs n (i+1) (nth l i) (by omega) (by omega) (by omega) hx fun x hx'=>?_
    rcases(tt h0 h).1 hx' with h3 | rfl
    ·exact Rat.le_trans (Rat.le_of_lt nU) (hm x h3)
    ·exact Rat.le_refl
   ·rw[if_neg (fun h=>nU (pM.1 (of_decide_eq_true h)))]
    refine aP hl hs n (i+1) c (by omega) (by omega) (by omega) hc fun x hx'=>?_
    rcases(tt h0 h).1 hx' with h3 | rfl
    ·exact hm x h3
    ·exact Rat.not_lt.1 nU
  ·rw[if_neg (by simpa using h)]
   refine⟨c,rfl,hc,fun x hx=>hm x ?_⟩
   rwa [List.take_of_length_le (by omega)]
theorem Mg{R A0 A1 A2 A3:Type}{K:A0->A1->A2->A3->Option R}{F:(A0->A1->A2->A3->Option R)->Option R}{P:Option R->Prop}(h:∀ k:A0->A1->A2->A3->Option R,(∀ x0 x1 x2 x3,k x0 x1 x2 x3=K x0 x1 x2 x3)->P (F k)):P (jp4 K F):=h K fun _ _ _ _=>rfl
theorem TB{l:List B}(hl:∀ x∈l,GB x=true)(h0:l≠[])(hs:(l.length:Int)<=1000000):∃ d,qu l (fun y0 y1=>gn y0 y1)=some d/\d∈l/\∀ x∈l,rq d<=rq x:=by
 have hp:=List.length_pos_iff.2 h0
 unfold qu
 rw[if_neg (by simp;omega),xJ (by omega)]
 refine Mg (P:=fun o=>∃ d,o=some d/\d∈l/\∀ x∈l,rq d<=rq x) fun k hk=>?_
 have hm0:=wn (l:=l) (i:=0) (by omega) (by omega)
 obtain⟨d,e,hd,qm⟩:=aP (k:=k) hl hs xR 1 (nth l 0) (by omega) (by omega) (by rw[wq];omega) hm0 (by
  intro x hx
  have h1:(1:Int)=0+1:=rfl
  rw[h1] at hx
  rcases(tt (by omega) (by omega)).1 hx with h3 | rfl
  ·simp at h3
  ·exact Rat.le_refl)
 rw[e,hk]
 exact⟨d,rfl,hd,qm⟩
def AT(c:List B)(t:Rat):Rat:=nk (c.map (vq t))
theorem QO{c:List B}{t:Rat}(h:c≠[]):Yw (c.map (vq t)) (AT c t):=Yx _ (by simpa using h)
theorem TC{c:List B}{k:List R->Int->Option (R×Int)}{K3:Option (R×Int)}(hc:∀ b∈c,GB b=true)(ht:GR t=true)(hs:(c.length:Int)<=1000000)(hK:∀ out,k out 3=K3){n:Nat}(hn:c.length<n):kC c t k n [] 0 0=if c.all (b8 (val t)) then k (c.map fun b=>sn (vq (val t) b)) 0 else K3:=by
 have:=(JP (c:=c) (S:=fun e b=>(j4 ⟨e⟩ b t).bind fun x=>some (x.1,x.2.fE)) (ok:=b8 (val t)) (g:=fun b=>sn (vq (val t) b)) (z:=⟨0,0⟩) (k:=k) (K3:=K3) (L:=fun n out i e=>kC c t k n out i e)
  (fun b hb=>⟨by rw[Ut (hc b hb) ht];cases b8 (val t) b <;> rfl,by rw[Mf (by decide)];rfl⟩) ?_ ?_ hK n [] 0 (by omega) rfl (by omega) (by omega)).2
 ·simpa using this
 ·intro n out i e v e' h0 h ho hS
  show kC c t k (n+1) out i e=_
  rw[kC,if_pos (by simpa using h),xJ ⟨h0,h⟩]
  show Option.bind (j4 ⟨e⟩ (nth c i) t) _=_
  cases hv:j4 ⟨e⟩ (nth c i) t with
  | none=>rw[hv] at hS;cases hS
  | some x=>
   rw[hv] at hS
   have hS:some (x.1,x.2.fE)=some (v,e'):=hS
   obtain⟨rfl,rfl⟩:=Prod.mk.inj (oJ hS)
   rw[oB,xJ (by simp only[List.length_append,List.length_cons,List.length_nil];omega),xQ (by omega)]
 ·intro n out i e h
  show kC c t k (n+1) out i e=_
  rw[kC,if_neg (by simpa using h)]
theorem Fe{c:List B}(hc:VC c=true)(ht:GR t=true):mP c t=some (if c.all (b8 (val t)) then(sn (AT c (val t)),0) else(⟨0,0⟩,3)):=by
 have hl:=Wr hc
 unfold mP
 rw[rD,Yu,hc,ht]
 simp only[oB,Bool.not_true,Bool.false_eq_true,if_false]
 refine uY (P:=fun o=>o=_) fun k hk=>?_
 rw[TC (K3:=some (⟨0,0⟩,3)) (l8 hc) ht (by omega) (fun out=>by rw[hk];rfl) (by rw[wq];omega)]
 cases ha:c.all (b8 (val t)) with
 | true=>
  rw[if_pos rfl,if_pos rfl,hk,if_neg (by simp)]
  rw[List.all_eq_true] at ha
  rw[TA (l:=c.map fun b=>sn (vq (val t) b)) ?_ ?_ (by simp;omega),oB]
  ·rw[List.map_map]
   congr 3
   unfold AT
   congr 2
   funext b
   exact ue _
  ·intro x hx
   obtain⟨b,hb,rfl⟩:=List.mem_map.1 hx
   have:=ha b hb
   simp only[b8,Bool.and_eq_true] at this
   exact rU this.2
  ·intro h
   have:=congrArg List.length h
   simp at this;subst this;simp at hl
 | false=>simp
theorem Mh{c:List B}(h:¬(VC c=true/\GR t=true)):mP c t=some (⟨0,0⟩,2):=by
 unfold mP
 rw[rD,Yu]
 cases h1:VC c <;> cases h2:GR t <;> simp_all
theorem Wt{c:List B}(hc:VC c=true):c≠[]:=fun h=>by have:=Wr hc;subst h;simp at this
theorem Gd{c:List B}(hc:VC c=true):∃ d,uS c=some (d.fR,0)/\d∈c/\∀ x∈c,rq d<=rq x:=by
 have hl:=Wr hc
 unfold uS
 rw[rD,hc]
 simp only[oB,Bool.not_true,Bool.false_eq_true,if_false]
 obtain⟨d,e,h1,h2⟩:=TB (l8 hc) (Wt hc) (by omega)
 rw[e]
 exact⟨d,rfl,h1,h2⟩
theorem SB.val{b:B}{t:Rat}(h:SB b)(ht:G m 4 t):G (5*m) 32 (rq b*t)/\G (100+5*m) 32 (vq t b):=by
 have h1:=h.2.2.mul ht
 exact⟨h1,(h.2.1.fine 32 (by omega)).add (by omega) h1⟩
end
section
variable {t:Rat}
def iY(a b:B):Prop:=bq a<=bq b/\rq a<=rq b
instance (a b:B):Decidable (iY a b):=inferInstanceAs (Decidable (_/\_))
theorem JQ(a:B):iY a a:=⟨Rat.le_refl,Rat.le_refl⟩
theorem Mj{a b c:B}(h:iY a b)(h':iY b c):iY a c:=⟨Rat.le_trans h.1 h'.1,Rat.le_trans h.2 h'.2⟩
theorem TE{a b:B}:iX a b=true↔a≠b/\iY a b:=by unfold iX iY;simp[and_assoc]
theorem Mk{a b:B}:iX a b=false↔(iY a b->a=b):=by
 rw[Bool.eq_false_iff,ne_eq,TE]
 constructor
 ·intro h h'
  exact Classical.byContradiction fun hn=>h ⟨hn,h'⟩
 ·intro h h'
  exact h'.1 (h h'.2)
theorem Vq{c:List B}{v:B}:v∈qD c↔v∈c/\∀ a∈c,iY a v->a=v:=by
 rw[XD];simp only[Mk]
theorem cmpb{a b:B}(ha:GB a=true)(hb:GB b=true):vZ a.yi b.yi=some (uZ (bq a) (bq b)):=l7 (mL (iO ha)) (mL (iO hb))
theorem aQ{α:Type}(key:α->Rat)(l:List α)(h:l≠[]):∃ x∈l,∀ y∈l,key x<=key y:=by
 have hm:=Yx (l.map key) (by simpa using h)
 obtain⟨x,hx,e⟩:=List.mem_map.1 hm.1
 exact⟨x,hx,fun y hy=>by rw[e];exact hm.2 _ (List.mem_map_of_mem hy)⟩
theorem nn{c:List B}(hc:∀ b∈c,GB b=true){v:B}(hv:v∈c):∃ a∈qD c,iY a v:=by
 have n9:(c.filter fun a=>decide (iY a v))≠[]:=List.ne_nil_of_mem (List.mem_filter.2 ⟨hv,decide_eq_true (JQ v)⟩)
 obtain⟨a,ha,qm⟩:=aQ (fun b=>bq b+rq b) _ n9
 obtain⟨ha,hav⟩:=List.mem_filter.1 ha
 have hav:=of_decide_eq_true hav
 refine⟨a,Vq.2 ⟨ha,fun b hb hba=>?_⟩,hav⟩
 have h1:=qm b (List.mem_filter.2 ⟨hb,decide_eq_true (Mj hba hav)⟩)
 have h2:=hba.1;have h3:=hba.2
 refine Fd (hc b hb) (hc a ha) ?_ ?_ <;> grind
theorem Uv{c:List B}(hc:∀ b∈c,GB b=true):∀ b∈qD c,GB b=true:=fun b hb=>hc b (Vq.1 hb).1
theorem Uw{c:List B}{b:B}(hb:b∈qD c):b∈c:=(Vq.1 hb).1
theorem Ge{c:List B}(hc:∀ b∈c,GB b=true)(h:c≠[]):qD c≠[]:=by
 obtain⟨v,hv⟩:=List.exists_mem_of_ne_nil c h
 obtain⟨a,ha,_⟩:=nn hc hv
 exact List.ne_nil_of_mem ha
theorem UY{c:List B}(hc:∀ b∈c,GB b=true)(h:c≠[])(hl:c.length<=32):VC c=true:=by
 unfold VC
 rw[Bool.and_eq_true,decide_eq_true_eq,List.all_eq_true]
 have:=List.length_pos_iff.2 h
 exact⟨⟨by omega,hl⟩,hc⟩
theorem UZ{a b:B}(h:iY a b)(ht:0<=t):vq t a<=vq t b:=by
 have h1:=h.1
 have h2:=Rat.mul_le_mul_of_nonneg_right h.2 ht
 unfold vq
 grind
theorem Ux{c d:List B}(hc:c≠[])(hd:d≠[])(ht:0<=t)(h1:∀ v∈c,∃ a∈d,iY a v)(h2:∀ v∈d,∃ a∈c,iY a v):AT c t=AT d t:=by
 have sub:∀ {c d:List B},c≠[]->d≠[]->(∀ v∈c,∃ a∈d,iY a v)->AT d t<=AT c t:=by
  intro c d hc hd h
  obtain⟨b,hb,e⟩:=List.mem_map.1 (QO (t:=t) hc).1
  obtain⟨a,ha,zJ⟩:=h b hb
  rw[<- e]
  exact Rat.le_trans ((QO (t:=t) hd).2 _ (List.mem_map_of_mem ha)) (UZ zJ ht)
 exact Rat.le_antisymm (sub hd hc h2) (sub hc hd h1)
theorem Vr{c:List B}(hc:∀ b∈c,GB b=true)(hn:c≠[])(ht:0<=t):AT (qD c) t=AT c t:=
 Ux (Ge hc hn) hn ht (fun v hv=>⟨v,Uw hv,JQ v⟩) (fun v hv=>nn hc hv)
end
section
def sq{β Sg:Type}(y:β->Sg->Option (Bool×Sg))(k:Sg->Option Sg):List β->Sg->Option Sg
 | [],s=>k s
 | p::l,s=>(y p s).bind fun x=>if !x.1 then some x.2 else sq y k l x.2
theorem X5{β Sg:Type}{y:β->Sg->Option (Bool×Sg)}{k:Sg->Option Sg}{m:List β}:∀(l:List β) (s:Sg),sq y k (l++m) s=sq y (sq y k m) l s
 | [],s=>rfl
 | p::l,s=>by
  show Option.bind _ _=Option.bind _ _
  congr 1
  funext x
  show(if _ then _ else sq y k (l++m) x.2)=_
  rw[X5 l]
theorem np{β Sg:Type}{y:β->Sg->Option (Bool×Sg)}{k k':Sg->Option Sg}(h:∀ s,k s=k' s):∀(l:List β) (s:Sg),sq y k l s=sq y k' l s
 | [],s=>h s
 | p::l,s=>by
  show Option.bind _ _=Option.bind _ _
  congr 1
  funext x
  rw[np h l]
theorem X6{Sg:Type}{c d:List B}{y:B×B->Sg->Option (Bool×Sg)}{v:Int}{k:Sg->Option Sg}(hs:(d.length:Int)<=1000000):
  ∀(n:Nat) (i:Int) (s:Sg),0<=i->i<=d.length->d.length<n+i->ge Sg d y c v k n i s=sq y k ((d.drop i.toNat).map fun z=>(nth c v,z)) s
 | 0,i,s,h0,h1,h2=>by omega
 | n+1,i,s,h0,h1,h2=>by
  rw[ge]
  by_cases h:i<d.length
  ·rw[if_pos (decide_eq_true h),xJ ⟨h0,h⟩,kL h0 h,List.map_cons,sq]
   show Option.bind (y (nth c v,nth d i) s) _=_
   congr 1
   funext x
   rw[xQ (by omega),X6 hs n (i+1) x.2 (by omega) (by omega) (by omega)]
  ·rw[if_neg (by simpa using h),f6 h]
   rfl
def sr(a b:List B):List (B×B):=a.flatMap fun x=>b.map fun z=>(x,z)
theorem nq{a b:List B}{p:B×B}:p∈sr a b↔p.1∈a/\p.2∈b:=by
 unfold sr
 simp only[List.mem_flatMap,List.mem_map]
 constructor
 ·rintro⟨x,hx,z,hz,rfl⟩;exact⟨hx,hz⟩
 ·intro h;exact⟨p.1,h.1,p.2,h.2,rfl⟩
theorem KR(a b:List B):(sr a b).length=a.length*b.length:=by
 induction a with
 | nil=>simp[sr]
 | cons x a ih=>
  have:sr (x::a) b=b.map (fun z=>(x,z))++sr a b:=rfl
  rw[this,List.length_append,ih,List.length_map,List.length_cons,Nat.succ_mul];omega
theorem X7{Sg:Type}{c d:List B}{y:B×B->Sg->Option (Bool×Sg)}{k:Sg->Option Sg}(hs:(c.length:Int)<=1000000)(hd:(d.length:Int)<=1000000):
  ∀(n:Nat) (i:Int) (s:Sg),0<=i->i<=c.length->c.length<n+i->gf Sg c d y k n i s=sq y k (sr (c.drop i.toNat) d) s
 | 0,i,s,h0,h1,h2=>by omega
 | n+1,i,s,h0,h1,h2=>by
  rw[gf]
  by_cases h:i<c.length
  ·rw[if_pos (decide_eq_true h)]
   refine wD (P:=fun o=>o=_) fun k1 wj=>?_
   rw[xJ ⟨h0,h⟩]
   refine wD (P:=fun o=>o=_) fun k2 sG=>?_
   rw[X6 hd xR 0 s (by omega) (by omega) (by rw[wq];omega),kL h0 h]
   show _=sq y k (((d.map fun z=>(nth c i,z)))++sr (c.drop (i+1).toNat) d) s
   rw[X5,Int.toNat_zero,List.drop_zero]
   refine np (fun s'=>?_) _ _
   rw[sG,wj,xQ (by omega),X7 hs hd n (i+1) s' (by omega) (by omega) (by omega)]
  ·rw[if_neg (by simpa using h),f6 h]
   rfl
theorem Uy{Sg:Type}{c d:List B}{y:B×B->Sg->Option (Bool×Sg)}{s:Sg}(hs:(c.length:Int)<=1000000)(hd:(d.length:Int)<=1000000):
  ua Sg y s c d=sq y some (sr c d) s:=by
 unfold ua
 refine wD (P:=fun o=>o=_) fun k hk=>?_
 rw[X7 hs hd xR 0 s (by omega) (by omega) (by rw[wq];omega),Int.toNat_zero,List.drop_zero]
 exact np hk _ _
theorem Gf{β γ:Type}{y:β->Nat×List γ×Int->Option (Bool×(Nat×List γ×Int))}{ok:β->Bool}{g:β->List γ}{N:Nat}:
  ∀(l:List β) (out:List γ),out.length+l.length<=N->
   (∀ p∈l,(g p).length<=1/\∀ out:List γ,out.length<N->(ok p=true->y p (0,out,0)=some (true,(0,out++g p,0)))/\(ok p=false->∃ o,o.length<=out.length+1/\y p (0,out,0)=some (true,(0,o,3)))/\∃ o,o.length<=out.length+1/\y p (0,out,3)=some (true,(0,o,3)))->
   (∃ BF,sq y some l (0,out,3)=some (0,BF,3))/\∃ BF,sq y some l (0,out,0)=some (0,if l.all ok then(out++l.flatMap g,0) else(BF,3))
 | [],out,hl,h=>⟨⟨out,rfl⟩,⟨out,by simp[sq]⟩⟩
 | p::l,out,hl,h=>by
  simp only[List.length_cons] at hl
  obtain⟨h1,hp⟩:=h p (by simp)
  obtain⟨h2,h3,h4⟩:=hp out (by omega)
  have ih:=fun o ho=>Gf l o ho fun q hq=>h q (by simp[hq])
  constructor
  ·obtain⟨o1,hl1,e1⟩:=h4
   obtain⟨o,ho⟩:=(ih o1 (by omega)).1
   exact⟨o,by rw[sq,e1,oB];exact ho⟩
  ·cases hb:ok p with
   | true=>
    obtain⟨o,ho⟩:=(ih (out++g p) (by rw[List.length_append];omega)).2
    refine⟨o,?_⟩
    rw[sq,h2 hb,oB]
    refine Eq.trans (show _=sq y some l (0,out++g p,0) from rfl) (ho.trans ?_)
    rw[List.all_cons,hb,Bool.true_and,List.flatMap_cons,List.append_assoc]
   | false=>
    obtain⟨o1,hl1,e1⟩:=h3 hb
    obtain⟨o,ho⟩:=(ih o1 (by omega)).1
    refine⟨o,?_⟩
    rw[sq,e1,oB]
    refine Eq.trans (show _=sq y some l (0,o1,3) from rfl) (ho.trans ?_)
    rw[List.all_cons,hb,Bool.false_and,if_neg Bool.false_ne_true]
def sB(p:B×B):B:=⟨sn (bq p.1+bq p.2),sn (rq p.1+rq p.2)⟩
theorem et{e:Int}(he:e≠0){f:R->R->Option (R×Int)}{x y:R}:qI ⟨e⟩ f x y=some (⟨0,0⟩,⟨e⟩):=by
 unfold qI;rw[if_pos (by simpa using he)]
theorem QP{f:R->R->Option (R×Int)}{x y:R}{q:Rat}(h:f x y=some (mk q)):qI ⟨0⟩ f x y=some (if fits q then(sn q,⟨0⟩) else(⟨0,0⟩,⟨3⟩)):=by
 unfold qI
 rw[if_neg (by simp),h,oB]
 unfold mk
 cases fits q <;> rfl
end
section
theorem Vs{R:Type}{K:Option R}{F:Option R->Option R}{P:Option R->Prop}(h:∀ k:Option R,k=K->P (F k)):P (uB K F):=h K rfl
def Qc(l:List R):Prop:=l.Pairwise fun x y=>val x<val y
theorem KS{a b c:Rat}(h:a<=b)(h':b<c):a<c:=by grind
def lU(s0:List R)(m:Int)(r:List R):Prop:=Qc r/\(∀ v,v∈r↔v∈s0.take m.toNat)/\(r.length:Int)<=m
theorem lU.step{s0:List R}(hv:∀ x∈s0,V x=true)(hs:s0.Pairwise fun x y=>val x<=val y){m:Int}(h0:1<=m)(h:m<s0.length){r:List R}(hr:lU s0 m r):
  (nth s0 m=nth s0 (m-1)->lU s0 (m+1) r)/\(nth s0 m≠nth s0 (m-1)->lU s0 (m+1) (r++[nth s0 m])):=by
 have ht:=take_succ s0 (i:=m) (by omega) h
 have hp:=take_succ s0 (i:=m-1) (by omega) (by omega)
 have hm1:nth s0 (m-1)∈s0.take m.toNat:=by
  rw[show m=m-1+1 by omega,hp];simp
 constructor
 ·intro e
  refine⟨hr.1,fun v=>?_,by have:=hr.2.2;omega⟩
  rw[ht,hr.2.1,List.mem_append,List.mem_singleton]
  constructor
  ·exact fun h => .inl h
  ·rintro(h | rfl)
   ·exact h
   ·rw[e];exact hm1
 ·intro e
  have nU:val (nth s0 (m-1))<val (nth s0 m):=by
   have h1:=List.pairwise_iff_getElem.1 hs (m-1).toNat m.toNat (by omega) (by omega) (by omega)
   rw[tY (by omega) (by omega),tY (by omega) (by omega)] at h1
   rcases XB h1 with h | h
   ·exact h
   ·exact absurd (Ys (hv _ (wn (by omega) (by omega))) (hv _ (wn (by omega) (by omega))) h).symm e
  constructor
  ·unfold Qc
   rw[List.pairwise_append]
   refine⟨hr.1,by simp,fun a ha b hb=>?_⟩
   obtain rfl:=List.mem_singleton.1 hb
   have ha:=(hr.2.1 a).1 ha
   obtain⟨i,hi,rfl⟩:=List.mem_iff_getElem.1 ha
   rw[List.length_take] at hi
   rw[List.getElem_take]
   refine KS ?_ nU
   by_cases e2:i=(m-1).toNat
   ·subst e2
    rw[tY (by omega) (by omega)];exact Rat.le_refl
   ·have h1:=List.pairwise_iff_getElem.1 hs i (m-1).toNat (by omega) (by omega) (by omega)
    rw[tY (i:=m-1) (by omega) (by omega)] at h1
    exact h1
  ·refine⟨fun v=>?_,by have:=hr.2.2;rw[List.length_append,List.length_singleton];omega⟩
   rw[ht,List.mem_append,List.mem_append,hr.2.1]
theorem Ff{s:List R}{k j:Int}{v:R}(h0:0<=k)(h1:0<=j)(h:k≠j):nth (s.set k.toNat v) j=nth s j:=by
 unfold nth
 rw[List.getD_eq_getElem?_getD,List.getD_eq_getElem?_getD,List.getElem?_set_ne (by omega)]
theorem Uz{s:List R}{k:Int}{v:R}(h0:0<=k)(h:k<s.length):(s.set k.toNat v).take (k+1).toNat=s.take k.toNat++[v]:=by
 rw[show(k+1).toNat=k.toNat+1 by omega,List.take_add_one,List.take_set_of_le (by omega),List.getElem?_set_self (by omega)]
 rfl
theorem XE{s0:List R}{K:Int}{k:List R->Int->Option (List R)}(hv:∀ x∈s0,V x=true)(hs:s0.Pairwise fun x y=>val x<=val y)(hK:1<=K/\K<s0.length)(hl:(s0.length:Int)<=1000000):
  ∀(n:Nat) (s:List R) (j i:Int),1<=i->K+i<=s0.length->s0.length-K<n+i->K<=j->j<=K+i-1->s.length=s0.length->(∀ q:Int,K+i-1<=q->nth s q=nth s0 q)->lU s0 (K+i) (s.take j.toNat)->
   ∃ s' j',vD s0 K k n s j i=k s' j'/\0<=j'/\j'<=s'.length/\lU s0 s0.length (s'.take j'.toNat)
 | 0,s,j,i,h0,h1,h2,h3,h4,h5,h6,h7=>by omega
 | n+1,s,j,i,h0,h1,h2,h3,h4,h5,h6,h7=>by
  rw[vD]
  by_cases h:i<((s0.length-K.toNat:Nat):Int)
  ·rw[if_pos (decide_eq_true h)]
   simp only[sK]
   rw[xQ (x:=i-1) (by omega),xJ (by omega),xJ (by omega)]
   have e1:nth s (K+i)=nth s0 (K+i):=h6 _ (by omega)
   have e2:nth s (K+(i-1))=nth s0 (K+i-1):=by rw[show K+(i-1)=K+i-1 by omega];exact h6 _ (by omega)
   show ∃ s' j',(if decide (nth s (K+i)≠nth s (K+(i-1))) then _ else _)=_/\_
   rw[e1,e2]
   have st:=lU.step hv hs (m:=K+i) (by omega) (by omega) h7
   by_cases he:nth s0 (K+i)=nth s0 (K+i-1)
   ·rw[if_neg (by simpa using he),xQ (x:=i+1) (by omega)]
    refine XE (k:=k) hv hs hK hl n s j (i+1) (by omega) (by omega) (by omega) h3 (by omega) h5 (fun q hq=>h6 q (by omega)) ?_
    rw[show K+(i+1)=K+i+1 by omega]
    exact st.1 he
   ·rw[if_pos (decide_eq_true he),xJ (by omega),xJ (by omega),xQ (x:=i+1) (by omega),xQ (x:=j+1) (by omega)]
    have eta:(⟨(nth s0 (K+i)).fN,(nth s0 (K+i)).fD⟩:R)=nth s0 (K+i):=rfl
    rw[eta]
    refine XE (k:=k) hv hs hK hl n (s.set j.toNat (nth s0 (K+i))) (j+1) (i+1) (by omega) (by omega) (by omega) (by omega) (by omega) (by rw[List.length_set];exact h5) (fun q hq=>?_) ?_
    ·rw[Ff (by omega) (by omega) (by omega)]
     exact h6 q (by omega)
    ·rw[Uz (by omega) (by omega),show K+(i+1)=K+i+1 by omega]
     exact st.2 he
  ·rw[if_neg (by simpa using h)]
   refine⟨s,j,rfl,by omega,by omega,?_⟩
   rw[show(s0.length:Int)=K+i by omega]
   exact h7
theorem JR{s0:List R}{k:Option (List R)}(hv:∀ x∈s0,V x=true)(hs:s0.Pairwise fun x y=>val x<=val y)(hl:(s0.length:Int)<=1000000)(hk:k=some s0):
  ∀(n:Nat) (i:Int),1<=i->i<=s0.length->s0.length<n+i->lU s0 i (s0.take i.toNat)->
   ∃ r,vE s0 k n i=some r/\lU s0 s0.length r
 | 0,i,h0,h1,h2,h3=>by omega
 | n+1,i,h0,h1,h2,h3=>by
  rw[vE]
  by_cases h:i<s0.length
  ·rw[if_pos (decide_eq_true h)]
   refine Vs (P:=fun o=>∃ r,o=some r/\lU s0 s0.length r) fun k1 wj=>?_
   rw[xQ (x:=i+1) (by omega)] at wj
   rw[xQ (x:=i-1) (by omega),xJ (by omega),xJ (by omega)]
   have st:=lU.step hv hs (m:=i) h0 h h3
   show ∃ r,(if decide (nth s0 i=nth s0 (i-1)) then _ else _)=_/\_
   by_cases he:nth s0 i=nth s0 (i-1)
   ·rw[if_pos (decide_eq_true he),xJ (by omega)]
    refine uY (P:=fun o=>∃ r,o=some r/\lU s0 s0.length r) fun k2 sG=>?_
    obtain⟨s',j',e,h4,h5,h6⟩:=XE (k:=k2) hv hs ⟨h0,h⟩ hl xR s0 i 1 (by omega) (by omega) (by rw[wq];omega) (by omega) (by omega) rfl (fun q _=>rfl) (by exact st.1 he)
    rw[e,sG]
    have ht:(s'.take j'.toNat++List.replicate (s'.length-j'.toNat) ((⟨0,0⟩:R):R)).take j'.toNat=s'.take j'.toNat:=by
     rw[List.take_append_of_le_length (by rw[List.length_take];omega),List.take_take,Nat.min_self]
    rw[xJ ⟨h4,h5⟩,xJ ⟨h4,by rw[List.length_append,List.length_take,List.length_replicate];omega⟩]
    exact⟨_,congrArg some ht,h6⟩
   ·rw[if_neg (by simpa using he),wj]
    refine JR hv hs hl hk n (i+1) (by omega) (by omega) (by omega) ?_
    rw[take_succ s0 (by omega) h]
    exact st.2 he
  ·rw[if_neg (by simpa using h)]
   refine⟨s0,hk,?_⟩
   rw[show(s0.length:Int)=i by omega]
   have:=h3
   rwa [List.take_of_length_le (by omega)] at this
theorem Fg{s0:List R}(hv:∀ x∈s0,V x=true)(hs:s0.Pairwise fun x y=>val x<=val y)(hl:(s0.length:Int)<=1000000):
  ∃ r,je s0=some r/\Qc r/\(∀ v,v∈r↔v∈s0)/\r.length<=s0.length:=by
 unfold je
 by_cases h:(s0.length:Int)<2
 ·rw[if_pos (decide_eq_true h)]
  refine⟨s0,rfl,?_,fun _=>Iff.rfl,Nat.le_refl _⟩
  unfold Qc
  rcases s0 with _ | ⟨x,_ | ⟨y,l⟩⟩
  ·exact .nil
  ·simp
  ·simp only[List.length_cons] at h;omega
 ·rw[if_neg (by simpa using h)]
  refine Vs (P:=fun o=>∃ r,o=some r/\Qc r/\(∀ v,v∈r↔v∈s0)/\r.length<=s0.length) fun k hk=>?_
  have h1:lU s0 1 (s0.take (1:Int).toNat):=by
   refine⟨?_,fun _=>Iff.rfl,by rw[List.length_take];omega⟩
   have:=take_succ s0 (i:=0) (by omega) (by omega)
   rw[show((0:Int)+1)=1 from rfl,Int.toNat_zero,List.take_zero,List.nil_append] at this
   rw[this]
   simp[Qc]
  obtain⟨r,e,hr⟩:=JR hv hs hl hk xR 1 (by omega) (by omega) (by rw[wq];omega) h1
  refine⟨r,e,hr.1,fun v=>?_,by have:=hr.2.2;omega⟩
  rw[hr.2.1,Int.toNat_natCast,List.take_length]
end
section
def eu(p:B×B):Rat:=bq p.2-bq p.1
def ta(p:B×B):Rat:=rq p.1-rq p.2
def bp(p:B×B):Rat:=eu p / ta p
def Fh(p:B×B):Bool:=fits (eu p)&&fits (ta p)&&fits (bp p)
def bl(p:B×B):Bool:=decide (bq p.1<bq p.2)
def Wu(p:B×B):Bool := !bl p||Fh p
def bg(p:B×B):List R:=if bl p then[sn (bp p)] else[]
theorem Fi{p:B×B}{out:List R}(h1:GB p.1=true)(h2:GB p.2=true)(hd:bl p=true->rq p.2<rq p.1)(hl:out.length<2000):
  (Wu p=true->qg p out 0=some (true,(0,out++bg p,0)))/\(Wu p=false->∃ o,o.length<=out.length+1/\qg p out 0=some (true,(0,o,3)))/\∃ o,o.length<=out.length+1/\qg p out 3=some (true,(0,o,3)):=by
 unfold qg
 rw[cmpb h1 h2]
 simp only[oB]
 have a1:=QP (f:=fun y0 y1=>jq y0 y1) (aL (mL (iO h2)) (mL (iO h1)))
 have a2:=QP (f:=fun y0 y1=>jq y0 y1) (aL (mL (iP h1)) (mL (iP h2)))
 have e1:val p.2.yi-val p.1.yi=eu p:=rfl
 have e2:val p.1.fR-val p.2.fR=ta p:=rfl
 rw[e1] at a1;rw[e2] at a2
 unfold Wu bg
 by_cases hb:bq p.1<bq p.2
 ·have Dj:bl p=true:=decide_eq_true hb
  rw[if_pos (decide_eq_true (pM.2 hb)),if_pos (decide_eq_true (pM.2 hb))]
  rw[Dj,if_pos rfl]
  have zt:0<ta p:=by have:=hd Dj;unfold ta;grind
  have l1:∀ v:R,(((out++[v]).length:Nat):Int)*16<=140737488355328/\(((out++[v]).length:Nat):Int)<=4611686018427387904:=fun v=>by
   simp only[List.length_append,List.length_cons,List.length_nil];omega
  refine⟨fun hk=>?_,fun hk=>?_,?_⟩
  ·simp only[Bool.not_true,Bool.false_or,Fh,Bool.and_eq_true] at hk
   obtain⟨⟨f1,f2⟩,f3⟩:=hk
   rw[a1,f1,if_pos rfl,oB]
   simp only[]
   rw[a2,f2,if_pos rfl,oB]
   simp only[]
   have hn:(sn (ta p)).fN≠0:=by
    intro h0
    have h1:(ta p).num=0:=h0
    rw[Rat.num_eq_zero.1 h1] at zt
    exact absurd zt (by decide)
   have a3:=QP (f:=fun y0 y1=>gJ y0 y1) (aM (rU f1) (rU f2) hn)
   rw[ue,ue] at a3
   have e3:eu p / ta p=bp p:=rfl
   rw[e3,f3,if_pos rfl] at a3
   rw[a3,oB]
   rw[xJ (l1 _)]
  ·simp only[Bool.not_true,Bool.false_or,Fh] at hk
   cases f1:fits (eu p) with
   | false=>
    rw[a1,f1,if_neg Bool.false_ne_true,oB]
    simp only[]
    rw[et (by decide),oB]
    simp only[]
    rw[et (by decide),oB,xJ (l1 _)]
    exact⟨_,by simp,rfl⟩
   | true=>
    rw[a1,f1,if_pos rfl,oB]
    simp only[]
    cases f2:fits (ta p) with
    | false=>
     rw[a2,f2,if_neg Bool.false_ne_true,oB]
     simp only[]
     rw[et (by decide),oB,xJ (l1 _)]
     exact⟨_,by simp,rfl⟩
    | true=>
     rw[a2,f2,if_pos rfl,oB]
     simp only[]
     have hn:(sn (ta p)).fN≠0:=by
      intro h0
      have h1:(ta p).num=0:=h0
      rw[Rat.num_eq_zero.1 h1] at zt
      exact absurd zt (by decide)
     have a3:=QP (f:=fun y0 y1=>gJ y0 y1) (aM (rU f1) (rU f2) hn)
     rw[ue,ue] at a3
     have e3:eu p / ta p=bp p:=rfl
     rw[f1,f2,Bool.true_and,Bool.true_and] at hk
     rw[e3,hk,if_neg Bool.false_ne_true] at a3
     rw[a3,oB,xJ (l1 _)]
     exact⟨_,by simp,rfl⟩
  ·rw[et (by decide),oB]
   simp only[]
   rw[et (by decide),oB]
   simp only[]
   rw[et (by decide),oB,xJ (l1 _)]
   exact⟨_,by simp,rfl⟩
 ·have Dj:bl p=false:=decide_eq_false hb
  have hn:¬decide (uZ (bq p.1) (bq p.2)<0)=true:=fun h=>hb (pM.1 (of_decide_eq_true h))
  rw[if_neg hn,if_neg hn,Dj,if_neg Bool.false_ne_true]
  refine⟨fun _=>by rw[List.append_nil],fun h=>by simp at h,⟨out,by omega,rfl⟩⟩
theorem aR:∀ {l:List B},(l.Pairwise fun x y=>bq x<bq y/\rq y<rq x)->∀ {x y:B},x∈l->y∈l->bq x<bq y->rq y<rq x
 | [],_,x,y,hx,_,_=>by simp at hx
 | z::l,h,x,y,hx,hy,hxy=>by
  obtain⟨h1,h2⟩:=List.pairwise_cons.1 h
  rcases List.mem_cons.1 hx with e | hx'
  ·subst e
   rcases List.mem_cons.1 hy with e | hy'
   ·subst e;grind
   ·exact(h1 y hy').2
  ·rcases List.mem_cons.1 hy with e | hy'
   ·subst e;have:=(h1 x hx').1;grind
   ·exact aR h2 hx' hy' hxy
theorem TF{p:B×B}(h:Wu p=true)(h2:bl p=true):fits (bp p)=true:=by
 unfold Wu Fh at h
 rw[h2] at h
 simp only[Bool.not_true,Bool.false_or,Bool.and_eq_true] at h
 exact h.2
theorem aS{c:List B}(hc:VC c=true):
  if (sr (qD c) (qD c)).all Wu then ∃ r,jC c=some (r,0)/\Qc r/\(∀ v,v∈r↔∃ p,(p.1∈qD c/\p.2∈qD c)/\bl p=true/\v=sn (bp p))/\(∀ v∈r,V v=true)/\r.length<=1100
  else jC c=some ([],3):=by
 have la:=Wr hc;have na:=Us c
 have ga:=Uv (l8 hc)
 unfold jC
 rw[rD,hc,Tz (l8 hc) (by omega)]
 simp only[oB,Bool.not_true,Bool.false_eq_true,if_false]
 have hp:=KR (qD c) (qD c)
 have hm:(qD c).length*(qD c).length<=32*32:=Nat.mul_le_mul (by omega) (by omega)
 obtain⟨o,ho⟩:=(Gf (y:=fun(x:B×B) (s:Nat×List R×Int)=>chk (s.1=0) (qg x s.2.1 s.2.2)) (ok:=Wu) (g:=bg) (N:=1100) (sr (qD c) (qD c)) [] (by rw[hp];simp;omega) (by
   intro p hp
   have hm:=nq.1 hp
   refine⟨by unfold bg;split <;> simp,fun out hl=>?_⟩
   have st:=Fi (p:=p) (out:=out) (ga _ hm.1) (ga _ hm.2) (fun h=>aR oa hm.1 hm.2 (of_decide_eq_true h)) (by omega)
   refine⟨fun hk=>?_,fun hk=>?_,?_⟩
   ·show chk (0=0) (qg p out 0)=_
    rw[xJ rfl];exact st.1 hk
   ·obtain⟨o,h1,h2⟩:=st.2.1 hk
    refine⟨o,h1,?_⟩
    show chk (0=0) (qg p out 0)=_
    rw[xJ rfl];exact h2
   ·obtain⟨o,h1,h2⟩:=st.2.2
    refine⟨o,h1,?_⟩
    show chk (0=0) (qg p out 3)=_
    rw[xJ rfl];exact h2)).2
 have key:∀ k:Int->List R->Option (List R×Int),(rl (qD c) (qD c)).bind (fun zP2=>(ua (Nat×List R×Int) (fun(x:B×B) (s:Nat×List R×Int)=>chk (s.1=0) (qg x s.2.1 s.2.2)) (0,([]:List R),0) zP2.1 zP2.2).bind fun zP3=>k zP3.2.2 zP3.2.1)=if (sr (qD c) (qD c)).all Wu then k 0 ((sr (qD c) (qD c)).flatMap bg) else k 3 o:=by
  intro k
  unfold rl
  rw[oB]
  simp only[]
  rw[Uy (by omega) (by omega),ho,oB]
  split <;> simp
 cases hf:(sr (qD c) (qD c)).all Wu with
 | true=>
  rw[if_pos rfl]
  refine uY (P:=fun(o:Option (List R×Int))=>∃ r,o=some (r,0)/\Qc r/\(∀ v,v∈r↔∃ p,(p.1∈qD c/\p.2∈qD c)/\bl p=true/\v=sn (bp p))/\(∀ v∈r,V v=true)/\r.length<=1100) fun k hk=>?_
  rw[key,hf,if_pos rfl,hk,if_neg (by simp)]
  have n8:∀ v,v∈(sr (qD c) (qD c)).flatMap bg↔∃ p,(p.1∈qD c/\p.2∈qD c)/\bl p=true/\v=sn (bp p):=by
   intro v
   rw[List.mem_flatMap]
   constructor
   ·rintro⟨p,hp,hv⟩
    unfold bg at hv
    cases hb:bl p with
    | true=>rw[hb,if_pos rfl] at hv;exact⟨p,nq.1 hp,hb,by simpa using hv⟩
    | false=>rw[hb] at hv;simp at hv
   ·rintro⟨p,hp,hb,rfl⟩
    exact⟨p,nq.2 hp,by unfold bg;rw[hb,if_pos rfl];simp⟩
  have hV:∀ v∈(sr (qD c) (qD c)).flatMap bg,V v=true:=by
   intro v hv
   obtain⟨p,hp,hb,rfl⟩:=(n8 v).1 hv
   exact rU (TF (List.all_eq_true.1 hf p (nq.2 hp)) hb)
  have jy:((sr (qD c) (qD c)).flatMap bg).length<=1100:=by
   have:∀ l:List (B×B),(l.flatMap bg).length<=l.length:=by
    intro l
    induction l with
    | nil=>simp
    | cons x l ih=>
     rw[List.flatMap_cons,List.length_append,List.length_cons]
     have:(bg x).length<=1:=by unfold bg;split <;> simp
     omega
   have:=this (sr (qD c) (qD c));omega
  rw[Ur (key:=val) (fun x hx y hy=>l7 (hV x hx) (hV y hy)) (fun x hx y hy h=>Ys (hV x hx) (hV y hy) h) (by omega),oB]
  have uX:=cp val ((sr (qD c) (qD c)).flatMap bg)
  obtain⟨r,e,h1,h2,h3⟩:=Fg (s0:=co val ((sr (qD c) (qD c)).flatMap bg)) (fun x hx=>hV x (uX.mem_iff.1 hx)) (b6 _ _) (by rw[uX.length_eq];omega)
  rw[e,oB]
  refine⟨r,rfl,h1,fun v=>?_,fun v hv=>hV v (uX.mem_iff.1 ((h2 v).1 hv)),by rw[uX.length_eq] at h3;omega⟩
  rw[h2,uX.mem_iff,n8]
 | false=>
  rw[if_neg Bool.false_ne_true]
  refine uY (P:=fun o=>o=_) fun k hk=>?_
  rw[key,hf,if_neg Bool.false_ne_true,hk]
  simp
theorem Fj{c:List B}(h:VC c=false):jC c=some ([],2):=by
 unfold jC
 rw[rD,h];rfl
end
section
variable {x y:R}{r:R×Int}
abbrev SV:=yt
def Z1:R:=⟨0,1⟩
theorem cC:gI=some Z1:=rfl
theorem dx:V Z1=true:=by decide +kernel
theorem JS{RR A0 A1 A2:Type}{K:A0->A1->A2->Option RR}{F:(A0->A1->A2->Option RR)->Option RR}{P:Option RR->Prop}(h:∀ k:A0->A1->A2->Option RR,(∀ x0 x1 x2,k x0 x1 x2=K x0 x1 x2)->P (F k)):P (jp3 K F):=h K fun _ _ _=>rfl
theorem iB(h:¬(V x=true/\V y=true)):(if !(V x) then some true else(some (V y)).bind fun v=>some (!v))=some true:=by
 cases hx:V x with
 | false=>rfl
 | true=>
  cases hy:V y with
  | false=>rfl
  | true=>exact absurd ⟨hx,hy⟩ h
theorem Gg(h:¬(V x=true/\V y=true)):vQ x y=some (⟨0,0⟩,2):=by
 unfold vQ im
 rw[qt,qt,oB,iB h];rfl
theorem Gh(h:¬(V x=true/\V y=true)):jq x y=some (⟨0,0⟩,2):=by
 unfold jq ir
 rw[qt,qt,oB,iB h];rfl
theorem Gi(h:¬(V x=true/\V y=true)):gc x y=some (⟨0,0⟩,2):=by
 unfold gc cR
 rw[qt,qt,oB,iB h];rfl
theorem Gj(h:¬(V x=true/\V y=true)):gJ x y=some (⟨0,0⟩,2):=by
 unfold gJ iz
 rw[qt,qt,oB,iB h];rfl
theorem TG(h:¬(V x=true/\V y=true)):vZ x y=some 0:=by
 unfold vZ
 rw[qt,qt,oB,iB h];rfl
def jw(x y:R):R×Int:=(vQ x y).getD (⟨0,0⟩,0)
def b9(x y:R):R×Int:=(jq x y).getD (⟨0,0⟩,0)
def pQ(x y:R):R×Int:=(gc x y).getD (⟨0,0⟩,0)
def nR(x y:R):R×Int:=(gJ x y).getD (⟨0,0⟩,0)
def CM(x y:R):Int:=(vZ x y).getD 0
theorem nr(x y:R):vQ x y=some (jw x y)/\True:=by
 unfold jw
 by_cases h:V x=true/\V y=true
 ·rw[Wp h.1 h.2];exact⟨rfl,trivial⟩
 ·rw[Gg h];exact⟨rfl,trivial⟩
theorem Fk(x y:R):jq x y=some (b9 x y)/\True:=by
 unfold b9
 by_cases h:V x=true/\V y=true
 ·rw[aL h.1 h.2];exact⟨rfl,trivial⟩
 ·rw[Gh h];exact⟨rfl,trivial⟩
theorem T0(x y:R):gc x y=some (pQ x y)/\True:=by
 unfold pQ
 by_cases h:V x=true/\V y=true
 ·rw[Wq h.1 h.2];exact⟨rfl,trivial⟩
 ·rw[Gi h];exact⟨rfl,trivial⟩
theorem div_s(x:R)(h0:y.fN≠0):gJ x y=some (nR x y)/\True:=by
 unfold nR
 by_cases h:V x=true/\V y=true
 ·rw[aM h.1 h.2 h0];exact⟨rfl,trivial⟩
 ·rw[Gj h];exact⟨rfl,trivial⟩
theorem JT(x y:R):vZ x y=some (CM x y)/\True:=by
 unfold CM
 by_cases h:V x=true/\V y=true
 ·rw[l7 h.1 h.2];exact⟨rfl,trivial⟩
 ·rw[TG h];exact⟨rfl,trivial⟩
theorem Fl{N D:Int}(hD:0<D):∃ f:Int,(f=if Int.tmod N D<0 then Int.tdiv N D-1 else Int.tdiv N D)/\f*D<=N/\N<(f+1)*D:=by
 have h1:=Int.mul_tdiv_add_tmod N D
 have h2:Int.tmod N D<D:=Int.tmod_lt_of_pos N hD
 have h3 : -D<Int.tmod N D:=by
  have h4:=Int.tmod_lt_of_pos (-N) hD
  rw[Int.neg_tmod] at h4
  omega
 by_cases h:Int.tmod N D<0
 ·refine⟨_,rfl,?_⟩
  rw[if_pos h]
  have e1:(Int.tdiv N D-1)*D=D*Int.tdiv N D-D:=by rw[Int.sub_mul,Int.one_mul,Int.mul_comm]
  have e2:(Int.tdiv N D-1+1)*D=D*Int.tdiv N D:=by rw[Int.sub_add_cancel,Int.mul_comm]
  rw[e1,e2]
  omega
 ·refine⟨_,rfl,?_⟩
  rw[if_neg h]
  have e1:Int.tdiv N D*D=D*Int.tdiv N D:=Int.mul_comm _ _
  have e2:(Int.tdiv N D+1)*D=D*Int.tdiv N D+D:=by rw[Int.add_mul,Int.one_mul,Int.mul_comm]
  rw[e1,e2]
  omega
theorem fl_bd{f N D:Int}(hD:1<=D)(hN : -1073741824<=N/\N<=1073741824)(h1:f*D<=N)(h2:N<(f+1)*D) : -1073741824<=f/\f<=1073741824:=by
 constructor
 ·refine Int.not_lt.1 fun h=>?_
  have:=Int.mul_le_mul_of_nonneg_left hD (show 0 <= -(f+1) by omega)
  have e : -(f+1)*D = -((f+1)*D):=Int.neg_mul _ _
  omega
 ·refine Int.not_lt.1 fun h=>?_
  have:=Int.mul_le_mul_of_nonneg_left hD (show 0<=f by omega)
  omega
theorem t6(hx:V x=true):∃ f:Int,qL x=some f/\f*x.fD<=x.fN/\x.fN<(f+1)*x.fD /\ -1073741824<=f/\f<=1073741824:=by
 have hv:=hx
 simp only[V,decide_eq_true_eq] at hv
 obtain⟨f,hf,h1,h2⟩:=Fl (N:=x.fN) (D:=x.fD) (by omega)
 have hb:=fl_bd hv.1 (by omega) h1 h2
 refine⟨f,?_,h1,h2,hb⟩
 unfold qL
 rw[qt,hx,oB,if_neg (by simp),xJ (by omega)]
 simp only[qP]
 rw[xJ (by omega)]
 have hq : -1073741824<=Int.tdiv x.fN x.fD/\Int.tdiv x.fN x.fD<=1073741825:=by
  by_cases h:Int.tmod x.fN x.fD<0
  ·rw[if_pos h] at hf;omega
  ·rw[if_neg h] at hf;omega
 by_cases h:Int.tmod x.fN x.fD<0
 ·rw[if_pos (decide_eq_true h),xQ (x:=Int.tdiv x.fN x.fD) (by omega),xQ (by omega),hf,if_pos h]
 ·rw[if_neg (by simpa using h),xQ (by omega),hf,if_neg h]
theorem Vt(hx:V x=true):∃ e:Int,kx x=some e/\(e-1)*x.fD<x.fN/\x.fN<=e*x.fD /\ -1073741824<=e/\e<=1073741824:=by
 have hv:=hx
 simp only[V,decide_eq_true_eq] at hv
 have hn:V ⟨-x.fN,x.fD⟩=true:=by
  unfold V
  rw[decide_eq_true_eq]
  refine⟨hv.1,hv.2.1,by show -1073741824 <= -x.fN;omega,by show -x.fN<=1073741824;omega,?_⟩
  show Nat.gcd (-x.fN).natAbs x.fD.natAbs=1
  rw[Int.natAbs_neg];exact hv.2.2.2.2
 obtain⟨f,ef,f1,f2,f3,f4⟩:=t6 hn
 have f1:f*x.fD <= -x.fN:=f1
 have f2 : -x.fN<(f+1)*x.fD:=f2
 refine⟨-f,?_,?_,?_,by omega,by omega⟩
 ·unfold kx
  rw[qt,hx,oB,if_neg (by simp),xQ (x:=0-x.fN) (by omega),show(0:Int)-x.fN = -x.fN by omega,ef,oB,xQ (by omega)]
  congr 1;omega
 ·have e:(-f-1)*x.fD = -((f+1)*x.fD):=by rw[show -f-1 = -(f+1) by omega,Int.neg_mul]
  rw[e];omega
 ·rw[Int.neg_mul];omega
def gw(x:R):Int:=(qL x).getD 0
def nS(x:R):Int:=(kx x).getD 0
theorem Yy(x:R):qL x=some (gw x)/\True:=by
 unfold gw
 cases hx:V x with
 | true=>
  obtain⟨f,ef,_⟩:=t6 hx
  rw[ef];exact⟨rfl,trivial⟩
 | false=>
  have h1:qL x=some 0:=by unfold qL;rw[qt,hx];rfl
  rw[h1];exact⟨rfl,trivial⟩
theorem QQ(x:R):kx x=some (nS x)/\True:=by
 unfold nS
 cases hx:V x with
 | true=>
  obtain⟨f,ef,_⟩:=Vt hx
  rw[ef];exact⟨rfl,trivial⟩
 | false=>
  have h1:kx x=some 0:=by unfold kx;rw[qt,hx];rfl
  rw[h1];exact⟨rfl,trivial⟩
def oy(r:List R):List R:=r.flatMap fun x=>[⟨gw x,1⟩,⟨nS x,1⟩]
theorem UA(r:List R):(oy r).length=2*r.length:=by
 unfold oy
 induction r with
 | nil=>rfl
 | cons x r ih=>rw[List.flatMap_cons,List.length_append,ih];simp;omega
def VS(s:SV):Bool:=(V s.fR&&decide (s.fR.fN>0)&&V s.fL)&&decide (s.fL.fN>=0)
theorem Qd(s:SV):uQ s=some (VS s):=by
 unfold uQ VS
 rw[qt,qt,oB,oB]
 cases V s.fR <;> cases decide (s.fR.fN>0) <;> simp
theorem iQ{s:SV}(h:VS s=true):V s.fR=true/\0<s.fR.fN/\V s.fL=true/\0<=s.fL.fN:=by
 simp only[VS,Bool.and_eq_true,decide_eq_true_eq] at h
 exact⟨h.1.1.1,h.1.1.2,h.1.2,h.2⟩
def CD(e:Int)(r:R×Int):R×Int:=if e≠0 then(Z1,e) else if r.2≠0 then(Z1,r.2) else r
theorem Wv{e:Int}{f:R->R->Option (R×Int)}(h:f x y=some r):vu ⟨e⟩ f x y=some ((CD e r).1,⟨(CD e r).2⟩):=by
 unfold vu CD
 rw[h,cC]
 by_cases he:e≠0
 ·rw[if_pos (by simpa using he),if_pos he];rfl
 ·rw[if_neg (by simpa using he),if_neg he,oB]
  by_cases hr:r.2≠0
  ·rw[if_pos (by simpa using hr),if_pos hr];rfl
  ·rw[if_neg (by simpa using hr),if_neg hr]
theorem l9{e:Int}(he:e≠0)(r:R×Int):CD e r=(Z1,e):=if_pos he
theorem Vu(h:r.2=0):CD 0 r=r:=by unfold CD;rw[if_neg (by simp),if_neg (by simpa using h)]
theorem JU(h:r.2≠0):CD 0 r=(Z1,r.2):=by unfold CD;rw[if_neg (by simp),if_pos h]
end
section
variable {l:List (List B)}{s:SV}{t:R}
theorem TH(c:List B)(t:R):∃ x,mP c t=some x:=by
 by_cases h:VC c=true/\GR t=true
 ·exact⟨_,Fe h.1 h.2⟩
 ·exact⟨_,Mh h⟩
def iC(c:List B)(t:R):R×Int:=(mP c t).getD (⟨0,0⟩,0)
theorem at_s(c:List B)(t:R):mP c t=some (iC c t):=by
 obtain⟨x,e⟩:=TH c t
 unfold iC;rw[e];rfl
def rx(t:R):List (List B)->R×Int->R×Int
 | [],a=>a
 | c::l,a=>rx t l (CD (if a.2=0 then(iC c t).2 else a.2) (jw a.1 (iC c t).1))
theorem Vv{t:R}{e:Int}(he:e≠0):∀ l:List (List B),rx t l (Z1,e)=(Z1,e)
 | []=>rfl
 | c::l=>by
  rw[rx,if_neg he,l9 he,Vv he l]
theorem Ww{l:List (List B)}{t:R}{k:Int->Int->Int->Option (R×ys)}(hl:l.length<=1000):∀(n:Nat) (i:Int) (a:R×Int),0<=i->i<=l.length->l.length<n+i->
  jg l t k n i a.2 a.1.fN a.1.fD=k (rx t (l.drop i.toNat) a).1.fN (rx t (l.drop i.toNat) a).1.fD (rx t (l.drop i.toNat) a).2
 | 0,i,a,h0,h1,h2=>by omega
 | n+1,i,a,h0,h1,h2=>by
  rw[jg]
  by_cases h:i<l.length
  ·rw[if_pos (decide_eq_true h),xJ ⟨h0,h⟩,at_s,oB,kL h0 h,rx]
   refine wD (P:=fun o=>o=_) fun kk xO=>?_
   have e1:(if decide (a.2=0)=true then kk (iC (nth l i) t).2 else kk a.2)=kk (if a.2=0 then(iC (nth l i) t).2 else a.2):=by
    by_cases h:a.2=0 <;> simp[h]
   rw[e1,xO]
   show((vu ⟨_⟩ (fun y0 y1=>vQ y0 y1) a.1 (iC (nth l i) t).1).bind _)=_
   rw[Wv (nr a.1 (iC (nth l i) t).1).1,oB,xQ (by omega)]
   exact Ww hl n (i+1) _ (by omega) (by omega) (by omega)
  ·rw[if_neg (by simpa using h),f6 h]
   rfl
theorem JW{e:Int}(hl:l.length<=1000):kU ⟨e⟩ l t=some ((rx t l (Z1,e)).1,⟨(rx t l (Z1,e)).2⟩):=by
 unfold kU
 rw[cC,oB]
 refine JS (P:=fun o=>o=_) fun k hk=>?_
 have:=Ww (t:=t) (k:=k) hl xR 0 (Z1,e) (by omega) (by omega) (by rw[wq];omega)
 rw[this,hk];rfl
def dv(l:List (List B))(s:SV)(e:Int)(t:R):R×Int:=
 let x1:=rx t l (Z1,e)
 let x2:=CD x1.2 (nR x1.1 s.fR)
 let x3:=CD x2.2 (b9 x2.1 t)
 CD x3.2 (jw x3.1 s.fL)
def bv(l:List (List B))(s:SV)(e:Int)(t:R):R×Int:=
 let x1:=rx t l (Z1,e)
 let x2:=CD x1.2 (b9 t s.fL)
 let x3:=CD x2.2 (pQ s.fR x2.1)
 if CM t s.fL<=0 then x1 else CD x3.2 (b9 x1.1 x3.1)
theorem Ml{e:Int}(he:e≠0):dv l s e t=(Z1,e):=by
 unfold dv
 simp only[Vv he,l9 he]
theorem Mm{e:Int}(he:e≠0):bv l s e t=(Z1,e):=by
 unfold bv
 simp only[Vv he,l9 he]
 split <;> rfl
theorem Mn{e:Int}(hl:l.length<=1000)(hs:VS s=true):mT ⟨e⟩ t l s=some ((dv l s e t).1,⟨(dv l s e t).2⟩):=by
 have h0:=(iQ hs).2.1
 unfold mT
 rw[JW hl,oB,Wv (div_s _ (y:=s.fR) (by omega)).1,oB,Wv (Fk _ t).1,oB,Wv (nr _ s.fL).1]
 rfl
theorem KT{e:Int}(hl:l.length<=1000):mi ⟨e⟩ t l s=some ((bv l s e t).1,⟨(bv l s e t).2⟩):=by
 unfold mi bv
 rw[JW hl,oB,(JT t s.fL).1,oB]
 by_cases h:CM t s.fL<=0
 ·rw[if_pos (decide_eq_true h),if_pos h]
 ·rw[if_neg (by simpa using h),if_neg h,Wv (Fk t s.fL).1,oB,Wv (T0 s.fR _).1,oB,Wv (Fk _ _).1]
  rfl
section
variable {f:Int->R->R×Int}
def kV(f:Int->R->R×Int)(s:List R×Int)(p:R):List R×Int:=
 (match s.1 with | []=>[(f s.2 p).1] | b::r=>if CM (f s.2 p).1 b>0 then[(f s.2 p).1] else b::r,(f s.2 p).2)
theorem Vw(hf:∀ e t,e≠0->f e t=(Z1,e)):∀(P:List R) (s:List R×Int),s.2≠0->(P.foldl (kV f) s).2=s.2
 | [],s,h=>rfl
 | p::P,s,h=>by
  have:(kV f s p).2=s.2:=by unfold kV;rw[hf _ _ h]
  rw[List.foldl_cons,Vw hf P _ (by rw[this];exact h),this]
theorem Wx:∀(P:List R) (s:List R×Int),s.1≠[]->(P.foldl (kV f) s).1≠[]
 | [],s,h=>h
 | p::P,s,h=>by
  rw[List.foldl_cons]
  refine Wx P _ ?_
  unfold kV
  cases hs:s.1 with
  | nil=>exact absurd hs h
  | cons b r=>simp only;split <;> simp
def iZ(f:Int->R->R×Int)(P:List R):R×Int:=
 let r:=P.foldl (kV f) ([],0)
 if r.2≠0 then(⟨0,0⟩,r.2) else(nth r.1 0,0)
end
theorem KU(a:List B):∃ x:List R×Int,jC a=some x/\x.1.length<=1100:=by
 cases h:VC a with
 | true=>
  have:=aS h
  split at this
  ·obtain⟨r,e,_,_,_,hl⟩:=this
   exact⟨_,e,hl⟩
  ·exact⟨_,this,by simp⟩
 | false=>exact⟨_,Fj h,by simp⟩
def pR(c:List B):List R×Int:=(jC c).getD ([],0)
theorem ns(c:List B):jC c=some (pR c)/\(pR c).1.length<=1100:=by
 obtain⟨x,e,h⟩:=KU c
 unfold pR
 rw[e];exact⟨rfl,h⟩
def X8(c:List B):R×Int:=(uS c).getD (⟨0,0⟩,0)
theorem UB{c:List B}(h:VC c=true):uS c=some (X8 c)/\V (X8 c).1=true:=by
 obtain⟨d,e,hd,_⟩:=Gd h
 unfold X8
 rw[e]
 exact⟨rfl,mL (iP (l8 h d hd))⟩
def mD(l:List (List B))(more:List R):List R:=Z1::((l.flatMap fun c=>oy (pR c).1)++oy more)
theorem pg(l:List (List B)):(l.flatMap fun c=>oy (pR c).1).length<=2200*l.length:=by
 induction l with
 | nil=>simp
 | cons c l ih=>
  have:=(ns c).2
  rw[List.flatMap_cons,List.length_append,UA,List.length_cons];omega
def ba:List (List B)->R×Int->Int ⊕ (R×Int)
 | [],a => .inr a
 | c::l,a=>if (pR c).2≠0 then .inl (pR c).2 else ba l (CD a.2 (jw a.1 (X8 c).1))
section
variable {Sg:Type} {y:R->(Nat×List R×Int)->Option (Bool×(Nat×List R×Int))} {f:Int->R->R×Int}
theorem p5{x:List R×Int}{k:(Nat×List R×Int)->Option (Nat×List R×Int)}(hy:∀ p s,y p (0,s)=some (true,(0,kV f s p)))(hl:x.1.length<=100000):∀(n:Nat) (v:Int) (s:List R×Int),0<=v->v<=x.1.length->x.1.length<n+v->
  vj _ x y k n v (0,s)=k (0,(oy (x.1.drop v.toNat)).foldl (kV f) s)
 | 0,v,s,h0,h1,h2=>by omega
 | n+1,v,s,h0,h1,h2=>by
  rw[vj]
  by_cases h:v<x.1.length
  ·rw[if_pos (decide_eq_true h),xJ ⟨h0,h⟩]
   show Option.bind (qL (nth x.1 v)) _=_
   rw[(Yy _).1,oB]
   unfold jd
   rw[oB,hy,oB,if_neg (by simp)]
   have e2:(kx (⟨(nth x.1 v).fN,(nth x.1 v).fD⟩:R))=some (nS (nth x.1 v)):=(QQ _).1
   rw[e2,oB,oB,hy,oB,oB,if_neg (by simp),xQ (by omega),p5 hy hl n (v+1) _ (by omega) (by omega) (by omega),kL h0 h]
   rfl
  ·rw[if_neg (by simpa using h),f6 h];rfl
theorem p6{x:List R}{k:(Nat×List R×Int)->Option (Nat×List R×Int)}(hy:∀ p s,y p (0,s)=some (true,(0,kV f s p)))(hl:x.length<=100000):∀(n:Nat) (v:Int) (s:List R×Int),0<=v->v<=x.length->x.length<n+v->
  vm _ x y k n v (0,s)=k (0,(oy (x.drop v.toNat)).foldl (kV f) s)
 | 0,v,s,h0,h1,h2=>by omega
 | n+1,v,s,h0,h1,h2=>by
  rw[vm]
  by_cases h:v<x.length
  ·rw[if_pos (decide_eq_true h),xJ ⟨h0,h⟩]
   show Option.bind (qL (nth x v)) _=_
   rw[(Yy _).1,oB]
   unfold jd
   rw[oB,hy,oB,if_neg (by simp)]
   have e2:(kx (⟨(nth x v).fN,(nth x v).fD⟩:R))=some (nS (nth x v)):=(QQ _).1
   rw[e2,oB,oB,hy,oB,oB,if_neg (by simp),xQ (by omega),p6 hy hl n (v+1) _ (by omega) (by omega) (by omega),kL h0 h]
   rfl
  ·rw[if_neg (by simpa using h),f6 h];rfl
theorem p4{l:List (List B)}{k:(Nat×List R×Int)->Option (Nat×List R×Int)}(hy:∀ p s,y p (0,s)=some (true,(0,kV f s p)))(hl:l.length<=100000):∀(n:Nat) (v:Int) (s:List R×Int),0<=v->v<=l.length->l.length<n+v->
  vk _ l y k n v (0,s)=k (0,((l.drop v.toNat).flatMap fun c=>oy (pR c).1).foldl (kV f) s)
 | 0,v,s,h0,h1,h2=>by omega
 | n+1,v,s,h0,h1,h2=>by
  rw[vk]
  by_cases h:v<l.length
  ·rw[if_pos (decide_eq_true h)]
   refine wD (P:=fun o=>o=_) fun k1 wj=>?_
   rw[xJ ⟨h0,h⟩,(ns _).1,oB]
   refine wD (P:=fun o=>o=_) fun k2 sG=>?_
   have hb:=(ns (nth l v)).2
   rw[p5 (f:=f) hy (by omega) xR 0 s (by omega) (by omega) (by rw[wq];omega),sG,wj,xQ (by omega),p4 hy hl n (v+1) _ (by omega) (by omega) (by omega),kL h0 h,List.flatMap_cons,List.foldl_append]
   rfl
  ·rw[if_neg (by simpa using h),f6 h];rfl
theorem Mo{a b:SV}{c:List (List B)}{more:List R}(hy:∀ p s,y p (0,s)=some (true,(0,kV f s p)))(hl:l.length<=100000)(hm:more.length<=100000):
  qj _ y (0,([],0)) l a c b more=some (0,(mD l more).foldl (kV f) ([],0)):=by
 unfold qj
 rw[cC,oB,hy,oB,if_neg (by simp)]
 refine wD (P:=fun o=>o=_) fun k hk=>?_
 rw[p4 (f:=f) hy hl xR 0 _ (by omega) (by omega) (by rw[wq];omega),hk]
 refine wD (P:=fun o=>o=_) fun k2 sG=>?_
 rw[p6 (f:=f) hy hm xR 0 _ (by omega) (by omega) (by rw[wq];omega),sG]
 unfold mD
 rw[List.foldl_cons,List.foldl_append]
 rfl
end
section
variable {Sg:Type} {y:R->(Nat×List R×Int)->Option (Bool×(Nat×List R×Int))} {f:Int->R->R×Int}
theorem p5b{x:List R×Int}{k:(Nat×List R×Int)->Option (Nat×List R×Int)}(hy:∀ p s,y p (0,s)=some (true,(0,kV f s p)))(hl:x.1.length<=100000):∀(n:Nat) (v:Int) (s:List R×Int),0<=v->v<=x.1.length->x.1.length<n+v->
  vj _ x y k n v (0,s)=k (0,(oy (x.1.drop v.toNat)).foldl (kV f) s)
 | 0,v,s,h0,h1,h2=>by omega
 | n+1,v,s,h0,h1,h2=>by
  rw[vj]
  by_cases h:v<x.1.length
  ·rw[if_pos (decide_eq_true h),xJ ⟨h0,h⟩]
   show Option.bind (qL (nth x.1 v)) _=_
   rw[(Yy _).1,oB]
   unfold jd
   rw[oB,hy,oB,if_neg (by simp)]
   have e2:(kx (⟨(nth x.1 v).fN,(nth x.1 v).fD⟩:R))=some (nS (nth x.1 v)):=(QQ _).1
   rw[e2,oB,oB,hy,oB,oB,if_neg (by simp),xQ (by omega),p5b hy hl n (v+1) _ (by omega) (by omega) (by omega),kL h0 h]
   rfl
  ·rw[if_neg (by simpa using h),f6 h];rfl
theorem p6b{x:List R}{k:(Nat×List R×Int)->Option (Nat×List R×Int)}(hy:∀ p s,y p (0,s)=some (true,(0,kV f s p)))(hl:x.length<=100000):∀(n:Nat) (v:Int) (s:List R×Int),0<=v->v<=x.length->x.length<n+v->
  vm _ x y k n v (0,s)=k (0,(oy (x.drop v.toNat)).foldl (kV f) s)
 | 0,v,s,h0,h1,h2=>by omega
 | n+1,v,s,h0,h1,h2=>by
  rw[vm]
  by_cases h:v<x.length
  ·rw[if_pos (decide_eq_true h),xJ ⟨h0,h⟩]
   show Option.bind (qL (nth x v)) _=_
   rw[(Yy _).1,oB]
   unfold jd
   rw[oB,hy,oB,if_neg (by simp)]
   have e2:(kx (⟨(nth x v).fN,(nth x v).fD⟩:R))=some (nS (nth x v)):=(QQ _).1
   rw[e2,oB,oB,hy,oB,oB,if_neg (by simp),xQ (by omega),p6b hy hl n (v+1) _ (by omega) (by omega) (by omega),kL h0 h]
   rfl
  ·rw[if_neg (by simpa using h),f6 h];rfl
theorem p4b{l:List (List B)}{k:(Nat×List R×Int)->Option (Nat×List R×Int)}(hy:∀ p s,y p (0,s)=some (true,(0,kV f s p)))(hl:l.length<=100000):∀(n:Nat) (v:Int) (s:List R×Int),0<=v->v<=l.length->l.length<n+v->
  vk _ l y k n v (0,s)=k (0,((l.drop v.toNat).flatMap fun c=>oy (pR c).1).foldl (kV f) s)
 | 0,v,s,h0,h1,h2=>by omega
 | n+1,v,s,h0,h1,h2=>by
  rw[vk]
  by_cases h:v<l.length
  ·rw[if_pos (decide_eq_true h)]
   refine wD (P:=fun o=>o=_) fun k1 wj=>?_
   rw[xJ ⟨h0,h⟩,(ns _).1,oB]
   refine wD (P:=fun o=>o=_) fun k2 sG=>?_
   have hb:=(ns (nth l v)).2
   rw[p5b (f:=f) hy (by omega) xR 0 s (by omega) (by omega) (by rw[wq];omega),sG,wj,xQ (by omega),p4b hy hl n (v+1) _ (by omega) (by omega) (by omega),kL h0 h,List.flatMap_cons,List.foldl_append]
   rfl
  ·rw[if_neg (by simpa using h),f6 h];rfl
theorem Fm{a b:SV}{c:List (List B)}{more:List R}(hy:∀ p s,y p (0,s)=some (true,(0,kV f s p)))(hl:l.length<=100000)(hm:more.length<=100000):
  qj _ y (0,([],0)) l a c b more=some (0,(mD l more).foldl (kV f) ([],0)):=by
 unfold qj
 rw[cC,oB,hy,oB,if_neg (by simp)]
 refine wD (P:=fun o=>o=_) fun k hk=>?_
 rw[p4b (f:=f) hy hl xR 0 _ (by omega) (by omega) (by rw[wq];omega),hk]
 refine wD (P:=fun o=>o=_) fun k2 sG=>?_
 rw[p6b (f:=f) hy hm xR 0 _ (by omega) (by omega) (by rw[wq];omega),sG]
 unfold mD
 rw[List.foldl_cons,List.foldl_append]
 rfl
end
def rV(l:List (List B))(s:SV):Int:=
 if l.length>32 || !(l.all VC) || !(VS s) then 2 else
 match ba l (Z1,0) with
 | .inl e=>e
 | .inr r=>if r.2≠0 then r.2 else if CM r.1 s.fR>0 then 6 else 0
theorem JX(h:rV l s=0):VS s=true:=by
 unfold rV at h
 cases hs:VS s with
 | true=>rfl
 | false=>rw[if_pos (by simp[hs])] at h;cases h
theorem Mp{s:List (List B)}{k:Option Int}(hl:s.length<=100000):∀(n:Nat) (v:Int),0<=v->v<=s.length->s.length<n+v->k=some (-1)->
  ∃ x:Int,wN s (fun y0=>qW y0) k n v=some x/\(x>=0↔(s.drop v.toNat).all VC=false)
 | 0,v,h0,h1,h2,hk=>by omega
 | n+1,v,h0,h1,h2,hk=>by
  rw[wN]
  by_cases h:v<s.length
  ·rw[if_pos (decide_eq_true h),xJ ⟨h0,h⟩,kL h0 h]
   unfold qW
   rw[rD,oB,oB,List.all_cons]
   cases hc:VC (nth s v) with
   | false=>exact⟨v,by simp,by simp;omega⟩
   | true=>
    rw[if_neg (by simp),xQ (by omega),Bool.true_and]
    exact Mp hl n (v+1) (by omega) (by omega) (by omega) hk
  ·rw[if_neg (by simpa using h),f6 h,hk]
   exact⟨-1,rfl,by simp⟩
theorem aT(hl:l.length<=100000):(qa l (fun y0=>qW y0))=some (!(l.all VC)):=by
 unfold qa jo
 refine Vs (P:=fun o=>(o.bind fun x=>some (decide (x>=0)))=some (!(l.all VC))) fun k hk=>?_
 obtain⟨x,e,h⟩:=Mp hl xR 0 (by omega) (by omega) (by rw[wq];omega) hk
 rw[e,oB]
 rw[show(0:Int).toNat=0 from rfl,List.drop_zero] at h
 cases ha:l.all VC with
 | true=>rw[ha] at h;simp at h;simp;omega
 | false=>rw[ha] at h;simp at h;simp;omega
theorem Gk{l:List (List B)}{k:Int->Int->Int->Option Int}(hv:∀ c∈l,VC c=true)(hl:l.length<=1000):∀(n:Nat) (v:Int) (a:R×Int),0<=v->v<=l.length->l.length<n+v->
  vS l k n v a.2 a.1.fN a.1.fD=match ba (l.drop v.toNat) a with | .inl e=>some e | .inr r=>k r.2 r.1.fN r.1.fD
 | 0,v,a,h0,h1,h2=>by omega
 | n+1,v,a,h0,h1,h2=>by
  rw[vS]
  by_cases h:v<l.length
  ·have hc:=hv _ (wn h0 h)
   rw[if_pos (decide_eq_true h),xJ ⟨h0,h⟩,(ns _).1,oB,kL h0 h,ba]
   by_cases hb:(pR (nth l v)).2≠0
   ·rw[if_pos (by simpa using hb),if_pos hb]
   ·rw[if_neg (by simpa using hb),if_neg hb,(UB hc).1,oB]
    show((vu ⟨a.2⟩ (fun y0 y1=>vQ y0 y1) a.1 (X8 (nth l v)).1).bind _)=_
    rw[Wv (nr _ _).1,oB,xQ (by omega)]
    exact Gk hv hl n (v+1) _ (by omega) (by omega) (by omega)
  ·rw[if_neg (by simpa using h),f6 h]
   rfl
theorem UC{c:List (List B)}{t:SV}{m:List R}(hl:l.length<=40):qR l s c t m=some (rV l s):=by
 unfold qR rV
 by_cases h1:(((l.length:Nat):Int)>32)
 ·rw[if_pos (decide_eq_true h1),oB,if_pos rfl,oB,if_pos rfl,if_pos (by simp;omega)]
 ·rw[if_neg (by simpa using h1),aT (by omega)]
  simp only[oB]
  by_cases h2:l.all VC=true
  ·rw[h2]
   simp only[Bool.not_true,Bool.false_eq_true,if_false]
   rw[Qd,oB,oB]
   cases hs:VS s with
   | false=>rw[if_pos (by rfl),if_pos (by simp)]
   | true=>
    rw[if_neg (by simp),if_neg (by simp;omega),cC,oB]
    refine JS (P:=fun o=>o=_) fun k hk=>?_
    have:=Gk (k:=k) (List.all_eq_true.1 h2) (by omega) xR 0 (Z1,0) (by omega) (by omega) (by rw[wq];omega)
    rw[this,show(0:Int).toNat=0 from rfl,List.drop_zero]
    cases ba l (Z1,0) with
    | inl e=>rfl
    | inr r=>
     simp only
     rw[hk]
     by_cases hr:r.2=0
     ·rw[if_pos (decide_eq_true hr),if_neg (by simp[hr])]
      show(((vZ r.1 s.fR).bind _).bind _)=_
      rw[(JT _ _).1,oB,oB]
      by_cases hc:CM r.1 s.fR>0
      ·rw[if_pos (decide_eq_true hc),if_pos hc]
      ·rw[if_neg (by simpa using hc),if_neg hc,hr]
     ·rw[if_neg (by simpa using hr),oB,if_neg (by simp),if_pos hr]
  ·have DG:l.all VC=false:=by simpa using h2
   rw[DG]
   simp only[Bool.not_false,if_true]
   rw[oB,if_pos rfl,if_pos (by simp)]
theorem JY{l:List (List B)}{k:Int->Int->Int->Option Int}(hv:∀ c∈l,VC c=true)(hl:l.length<=1000):∀(n:Nat) (v:Int) (a:R×Int),0<=v->v<=l.length->l.length<n+v->
  vS l k n v a.2 a.1.fN a.1.fD=match ba (l.drop v.toNat) a with | .inl e=>some e | .inr r=>k r.2 r.1.fN r.1.fD
 | 0,v,a,h0,h1,h2=>by omega
 | n+1,v,a,h0,h1,h2=>by
  rw[vS]
  by_cases h:v<l.length
  ·have hc:=hv _ (wn h0 h)
   rw[if_pos (decide_eq_true h),xJ ⟨h0,h⟩,(ns _).1,oB,kL h0 h,ba]
   by_cases hb:(pR (nth l v)).2≠0
   ·rw[if_pos (by simpa using hb),if_pos hb]
   ·rw[if_neg (by simpa using hb),if_neg hb,(UB hc).1,oB]
    show((vu ⟨a.2⟩ (fun y0 y1=>vQ y0 y1) a.1 (X8 (nth l v)).1).bind _)=_
    rw[Wv (nr _ _).1,oB,xQ (by omega)]
    exact JY hv hl n (v+1) _ (by omega) (by omega) (by omega)
  ·rw[if_neg (by simpa using h),f6 h]
   rfl
theorem Mq{c:List (List B)}{t:SV}{m:List R}(hl:l.length<=40):qR l s c t m=some (rV l s):=by
 unfold qR rV
 by_cases h1:(((l.length:Nat):Int)>32)
 ·rw[if_pos (decide_eq_true h1),oB,if_pos rfl,oB,if_pos rfl,if_pos (by simp;omega)]
 ·rw[if_neg (by simpa using h1),aT (by omega)]
  simp only[oB]
  by_cases h2:l.all VC=true
  ·rw[h2]
   simp only[Bool.not_true,Bool.false_eq_true,if_false]
   rw[Qd,oB,oB]
   cases hs:VS s with
   | false=>rw[if_pos (by rfl),if_pos (by simp)]
   | true=>
    rw[if_neg (by simp),if_neg (by simp;omega),cC,oB]
    refine JS (P:=fun o=>o=_) fun k hk=>?_
    have:=JY (k:=k) (List.all_eq_true.1 h2) (by omega) xR 0 (Z1,0) (by omega) (by omega) (by rw[wq];omega)
    rw[this,show(0:Int).toNat=0 from rfl,List.drop_zero]
    cases ba l (Z1,0) with
    | inl e=>rfl
    | inr r=>
     simp only
     rw[hk]
     by_cases hr:r.2=0
     ·rw[if_pos (decide_eq_true hr),if_neg (by simp[hr])]
      show(((vZ r.1 s.fR).bind _).bind _)=_
      rw[(JT _ _).1,oB,oB]
      by_cases hc:CM r.1 s.fR>0
      ·rw[if_pos (decide_eq_true hc),if_pos hc]
      ·rw[if_neg (by simpa using hc),if_neg hc,hr]
     ·rw[if_neg (by simpa using hr),oB,if_neg (by simp),if_pos hr]
  ·have DG:l.all VC=false:=by simpa using h2
   rw[DG]
   simp only[Bool.not_false,if_true]
   rw[oB,if_pos rfl,if_pos (by simp)]
end
section
variable {l:List (List B)}{s:SV}
def rk(k:Int->Int->Option (R×Int))(b:R)(r:List R×Int):Option (R×Int):=
 if r.2≠0 then some (⟨0,0⟩,r.2) else match r.1 with | []=>k b.fN b.fD | x::_=>k x.fN x.fD
theorem Mr{f:Int->R->R×Int}{P:List R}(hP:P≠[]){k:Int->Int->Option (R×Int)}(hk:∀ x y,k x y=some (⟨x,y⟩,0)):rk k ⟨0,0⟩ (P.foldl (kV f) ([],0))=some (iZ f P):=by
 unfold rk iZ
 by_cases h:(P.foldl (kV f) ([],0)).2≠0
 ·rw[if_pos h];simp only;rw[if_pos h]
 ·rw[if_neg h];simp only;rw[if_neg h]
  cases P with
  | nil=>exact absurd rfl hP
  | cons p P=>
   have n9:((p::P).foldl (kV f) ([],0)).1≠[]:=by
    rw[List.foldl_cons];exact Wx _ _ (by simp[kV])
   cases hr:((p::P).foldl (kV f) ([],0)).1 with
   | nil=>exact absurd hr n9
   | cons x t=>simp only;rw[hk];rfl
theorem R4_eq(hl:l.length<=1000)(hs:VS s=true)(p:R)(st:List R×Int):chk ((0:Nat)=0) (kf l s p st.1 st.2)=some (true,(0,kV (dv l s) st p)):=by
 rw[xJ rfl]
 unfold kf
 rw[Mn hl hs,oB]
 unfold kV
 cases n4:st.1 with
 | nil=>rw[if_pos (by simp),oB,if_pos rfl]
 | cons x r=>
  rw[if_neg (by simp;omega),xJ (by simp)]
  have hn:(⟨(nth (x::r) 0).fN,(nth (x::r) 0).fD⟩:R)=x:=rfl
  rw[hn,(JT _ _).1,oB,oB]
  simp only
  by_cases hc:CM (dv l s st.2 p).1 x>0
  ·rw[if_pos (decide_eq_true hc),if_pos hc]
  ·rw[if_neg (by simpa using hc),if_neg hc]
theorem Sf{more:List R}(hl:l.length<=40)(hm:more.length<=1000):fo l s l s more=some (if rV l s=0 then iZ (dv l s) (mD l more) else(⟨0,0⟩,rV l s)):=by
 unfold fo
 rw[UC hl,oB]
 by_cases h:rV l s=0
 ·have hs:VS s=true:=JX h
  rw[if_pos h,if_neg (by simpa using h)]
  refine uY (P:=fun o=>o=_) fun k hk=>?_
  unfold ke
  rw[oB,Mo (f:=dv l s) (fun p st=>R4_eq (by omega) hs p st) (by omega) (by omega),oB,hk]
  have:=Mr (f:=dv l s) (P:=mD l more) (k:=fun x y=>some (⟨x,y⟩,0)) (by simp[mD]) (fun _ _=>rfl)
  rw[<- this]
  unfold rk
  generalize hr:(mD l more).foldl (kV (dv l s)) ([],0)=r
  have n9:r.1≠[]:=by
   rw[<- hr];unfold mD;rw[List.foldl_cons];exact Wx _ _ (by simp[kV])
  simp only
  by_cases h2:r.2≠0
  ·rw[if_pos (by simpa using h2),if_pos h2]
  ·rw[if_neg (by simpa using h2),if_neg h2]
   cases BG:r.1 with
   | nil=>exact absurd BG n9
   | cons x t=>rw[xJ (by simp)];rfl
 ·rw[if_neg h,if_pos (by simpa using h)]
theorem Sh(hl:l.length<=1000)(hs:VS s=true)(p:R)(st:List R×Int):chk ((0:Nat)=0) (jT l s p st.1 st.2)=some (true,(0,kV (bv l s) st p)):=by
 rw[xJ rfl]
 unfold jT
 rw[KT hl,oB]
 unfold kV
 cases n4:st.1 with
 | nil=>rw[if_pos (by simp),oB,if_pos rfl]
 | cons x r=>
  rw[if_neg (by simp;omega),xJ (by simp)]
  have hn:(⟨(nth (x::r) 0).fN,(nth (x::r) 0).fD⟩:R)=x:=rfl
  rw[hn,(JT _ _).1,oB,oB]
  simp only
  by_cases hc:CM (bv l s st.2 p).1 x>0
  ·rw[if_pos (decide_eq_true hc),if_pos hc]
  ·rw[if_neg (by simpa using hc),if_neg hc]
theorem TI{more:List R}(hl:l.length<=40)(hm:more.length<=1000):gT l s l s more=some (if rV l s=0 then iZ (bv l s) (mD l more) else(⟨0,0⟩,rV l s)):=by
 unfold gT
 rw[Mq hl,oB]
 by_cases h:rV l s=0
 ·have hs:VS s=true:=JX h
  rw[if_pos h,if_neg (by simpa using h)]
  refine uY (P:=fun o=>o=_) fun k hk=>?_
  unfold ke
  rw[oB,Fm (f:=bv l s) (fun p st=>Sh (by omega) hs p st) (by omega) (by omega),oB,hk]
  have:=Mr (f:=bv l s) (P:=mD l more) (k:=fun x y=>some (⟨x,y⟩,0)) (by simp[mD]) (fun _ _=>rfl)
  rw[<- this]
  unfold rk
  generalize hr:(mD l more).foldl (kV (bv l s)) ([],0)=r
  have n9:r.1≠[]:=by
   rw[<- hr];unfold mD;rw[List.foldl_cons];exact Wx _ _ (by simp[kV])
  simp only
  by_cases h2:r.2≠0
  ·rw[if_pos (by simpa using h2),if_pos h2]
  ·rw[if_neg (by simpa using h2),if_neg h2]
   cases BG:r.1 with
   | nil=>exact absurd BG n9
   | cons x t=>rw[xJ (by simp)];rfl
 ·rw[if_neg h,if_pos (by simpa using h)]
end
section
theorem Yz{RR A0 A1:Type}{K:A0->A1->Option RR}{F:(A0->A1->Option RR)->Option RR}{P:Option RR->Prop}(h:∀ k:A0->A1->Option RR,(∀ x0 x1,k x0 x1=K x0 x1)->P (F k)):P (sK K F):=h K fun _ _=>rfl
theorem JZ{RR A0 A1 A2 A3 A4:Type}{K:A0->A1->A2->A3->A4->Option RR}{F:(A0->A1->A2->A3->A4->Option RR)->Option RR}{P:Option RR->Prop}(h:∀ k:A0->A1->A2->A3->A4->Option RR,(∀ x0 x1 x2 x3 x4,k x0 x1 x2 x3 x4=K x0 x1 x2 x3 x4)->P (F k)):P (jp5 K F):=h K fun _ _ _ _ _=>rfl
theorem Si{RR A0 A1 A2 A3 A4 A5:Type}{K:A0->A1->A2->A3->A4->A5->Option RR}{F:(A0->A1->A2->A3->A4->A5->Option RR)->Option RR}{P:Option RR->Prop}(h:∀ k:A0->A1->A2->A3->A4->A5->Option RR,(∀ x0 x1 x2 x3 x4 x5,k x0 x1 x2 x3 x4 x5=K x0 x1 x2 x3 x4 x5)->P (F k)):P (jp6 K F):=h K fun _ _ _ _ _ _=>rfl
abbrev iR:=ym
abbrev PB:=zp
abbrev BM:=List (iR×R)
abbrev DM:=List (Pl×Int)
def DO(e:Int)(r:R×Int):R×Int:=(if r.2≠0 then⟨0,1⟩ else r.1,if e=0 then r.2 else e)
theorem QR{c:Cf}{rs:List (List Hop)}{bu:BM}{de:DM}{e:Int}{f:R->R->Option (R×Int)}{x y:R}{r:R×Int}(h:f x y=some r):gH c rs bu de e f x y=some (DO e r):=by
 unfold gH DO jB
 rw[h,oB]
 refine wD (P:=fun o=>o=_) fun k hk=>?_
 have e1:(if decide (e=0)=true then k r.2 else k e)=k (if e=0 then r.2 else e):=by
  by_cases h:e=0 <;> simp[h]
 rw[e1,hk]
 by_cases hr:r.2≠0
 ·rw[if_pos (by simpa using hr),if_pos hr];rfl
 ·rw[if_neg (by simpa using hr),if_neg hr]
def gV(c:Cf):Prop:=∀ v∈c.yg,(100<=v.yK/\v.yK<=12800)/\1<=v.yC/\v.yC<=72
def mx(c:Cf)(v:Int):Int:=(nth c.yg v).yC
def RT(c:Cf)(v:Int):R:=(mk (Rat.divInt (mx c v) (nth c.yg v).yK)).1
theorem Vx{c:Cf}{rs:List (List Hop)}{bu:BM}{de:DM}{e v:Int}(hv:gV c)(h:0<=v/\v<c.yg.length):gE c rs bu de e v=some (RT c v):=by
 have h2:=hv _ (wn h.1 h.2)
 unfold gE RT mx
 rw[xJ h,ep (by omega) (by omega)]
 rfl
def qp(p:Pl)(r:List Hop):Bool:=r.any fun h=>decide (pk h=p)
theorem TJ{r:List Hop}{p:Pl}(hl:r.length<1000000000):vC r (fun y0=>fl y0 p)=some (qp p r):=
 JG (p:=fun h=>decide (pk h=p)) (fun h _=>rfl) hl
structure CS where
 own:List (List B)
 most:Int
 e:Int
 lk:List (Int×List Int)
 bu:BM
def kh(c:Cf)(rs:List (List Hop))(de:DM)(p:Pl)(s:CS)(v:Int):CS:=
 let r:=nth rs v
 if qp p r then
  let g:=ky r p.ya
  if g.2 then
   let a:=DO s.e (pQ (RT c v) ⟨xC de (pk g.1) 0,1⟩)
   let b:=DO a.2 (jw (xC s.bu ⟨v,pk g.1⟩ ⟨0,0⟩) a.1)
   ⟨s.own,max s.most (mx c v),b.2,w4 s.lk g.1.fQ (xC s.lk g.1.fQ []++[v]),w4 s.bu ⟨v,p⟩ b.1⟩
  else⟨s.own++[[⟨⟨mx c v,1⟩,RT c v⟩]],max s.most (mx c v),s.e,s.lk,w4 s.bu ⟨v,p⟩ ⟨mx c v,1⟩⟩
 else s
def vA(v:Int):Nat->List Int
 | 0=>[]
 | n+1=>v::vA (v+1) n
abbrev CR:=List (List B)×Int×Int×BM
theorem Qe{c:Cf}{rs:List (List Hop)}{de:DM}{p:Pl}{s:CS}{v:Int}{n:Int}(h:(s.own.length:Int)<=n/\∀ k,((xC s.lk k []).length:Int)<=n):((kh c rs de p s v).own.length:Int)<=n+1/\∀ k,((xC (kh c rs de p s v).lk k []).length:Int)<=n+1:=by
 unfold kh
 simp only
 split
 ·split
  ·refine⟨by have:=h.1;show(s.own.length:Int)<=_;omega,fun k=>?_⟩
   show((xC (w4 s.lk _ _) k []).length:Int)<=_
   rw[jh]
   split
   ·have:=h.2 (ky (nth rs v) p.ya).1.fQ;simp;omega
   ·have:=h.2 k;omega
  ·refine⟨by have:=h.1;simp;omega,fun k=>by have:=h.2 k;show((xC s.lk k []).length:Int)<=_;omega⟩
 ·exact⟨by have:=h.1;omega,fun k=>by have:=h.2 k;omega⟩
theorem Qf{c:Cf}{rs:List (List Hop)}{de:DM}{p:Pl}{k:List (List B)->Int->Int->List (Int×List Int)->BM->Option CR}(hv:gV c)(hl:rs.length=c.yg.length)(hr:∀ r∈rs,r.length<1000000000)(hs:rs.length<=1000):
  ∀(n:Nat) (v:Int) (s:CS),0<=v->v<=rs.length->rs.length<n+v->((s.own.length:Int)<=v/\∀ k,((xC s.lk k []).length:Int)<=v)->
   jL rs p c de k n s.own s.most v s.e s.lk s.bu=(fun t:CS=>k t.own t.most t.e t.lk t.bu) ((vA v (rs.length-v.toNat)).foldl (kh c rs de p) s)
 | 0,v,s,h0,h1,h2,h3=>by omega
 | n+1,v,s,h0,h1,h2,h3=>by
  rw[jL]
  by_cases h:v<rs.length
  ·have hb:0<=v/\v<(c.yg.length:Int):=⟨h0,by omega⟩
   rw[if_pos (decide_eq_true h),show rs.length-v.toNat=(rs.length-(v+1).toNat)+1 by omega,vA,List.foldl_cons]
   refine JZ (P:=fun o=>o=_) fun k1 wj=>?_
   have Bj:∀ t:CS,t=kh c rs de p s v->k1 t.own t.most t.e t.lk t.bu=(fun t:CS=>k t.own t.most t.e t.lk t.bu) ((vA (v+1) (rs.length-(v+1).toNat)).foldl (kh c rs de p) (kh c rs de p s v)):=fun t ht=>by
    subst ht
    rw[wj,xQ (x:=v+1) (by omega)]
    exact Qf hv hl hr hs n (v+1) _ (by omega) (by omega) (by omega) (Qe h3)
   rw[xJ ⟨h0,h⟩,TJ (hr _ (wn h0 h)),oB]
   cases hu:qp p (nth rs v) with
   | false=>
    rw[if_pos (by rfl)]
    refine Bj s ?_
    unfold kh;simp only[hu];rfl
   | true=>
    rw[if_neg (by simp),xJ hb,xJ hb]
    unfold jB
    rw[oB]
    refine JZ (P:=fun o=>o=_) fun k2 sG=>?_
    rw[Vm (hr _ (wn h0 h)),oB]
    cases hg:(ky (nth rs v) p.ya).2 with
    | true=>
     rw[if_pos rfl,of_eq,oB,Vx hv hb,oB,oB,oB]
     rw[QR (f:=fun y0 y1=>gc y0 y1) (T0 _ _).1,oB]
     rw[QR (f:=fun y0 y1=>vQ y0 y1) (nr _ _).1,oB]
     have:=h3.2 (ky (nth rs v) p.ya).1.fQ
     rw[xJ (by simp;omega),sG]
     refine Eq.trans ?_ (Bj _ rfl)
     have e:kh c rs de p s v=kh c rs de p s v:=rfl
     conv at e=>rhs;unfold kh
     simp only[hu,hg,if_true,if_false,Bool.false_eq_true] at e
     rw[e]
     rfl
    | false=>
     rw[if_neg (by simp),Vx hv hb,oB]
     have:=h3.1
     rw[xJ (by simp;omega),sG]
     refine Eq.trans ?_ (Bj _ rfl)
     have e:kh c rs de p s v=kh c rs de p s v:=rfl
     conv at e=>rhs;unfold kh
     simp only[hu,hg,if_true,if_false,Bool.false_eq_true] at e
     rw[e]
     rfl
  ·rw[if_neg (by simpa using h),show rs.length-v.toNat=0 by omega];rfl
structure GS where
 wide:Int
 e:Int
 b:R
 r:R
def ob(c:Cf)(bu:BM)(p:Pl)(s:GS)(v:Int):GS:=
 let x:=DO s.e (jw s.b (xC bu ⟨v,p⟩ ⟨0,0⟩))
 let y:=DO x.2 (jw s.r (RT c v))
 ⟨max s.wide (mx c v),y.2,x.1,y.1⟩
theorem Wy{c:Cf}{rs:List (List Hop)}{lk:List (Int×List Int)}{q:Int}{bu:BM}{de:DM}{p:Pl}{k:Int->Int->Int->Int->Int->Int->Option CR}(hv:gV c)(hl:∀ v∈xC lk q [],0<=v/\v<c.yg.length)(hs:(xC lk q []).length<=1000):
  ∀(n:Nat) (i:Int) (s:GS),0<=i->i<=(xC lk q []).length->(xC lk q []).length<n+i->
   jM lk q c rs bu de p k n s.wide i s.e s.b.fN s.b.fD s.r.fN s.r.fD=(fun t:GS=>k t.wide t.e t.b.fN t.b.fD t.r.fN t.r.fD) (((xC lk q []).drop i.toNat).foldl (ob c bu p) s)
 | 0,v,s,h0,h1,h2=>by omega
 | n+1,i,s,h0,h1,h2=>by
  rw[jM]
  by_cases h:i<(xC lk q []).length
  ·have hb:=hl _ (wn h0 h)
   rw[if_pos (decide_eq_true h),xJ ⟨h0,h⟩,kP h0 h,List.foldl_cons]
   rw[QR (f:=fun y0 y1=>vQ y0 y1) (nr _ _).1,oB,Vx hv hb,oB,QR (f:=fun y0 y1=>vQ y0 y1) (nr _ _).1,oB,xJ hb,xQ (x:=i+1) (by omega)]
   have e2:(i+1).toNat=i.toNat+1:=by omega
   have:=Wy (rs:=rs) (de:=de) (bu:=bu) (p:=p) (k:=k) hv hl hs n (i+1) (ob c bu p s (nth (xC lk q []) i)) (by omega) (by omega) (by omega)
   rw[e2] at this
   exact this
  ·rw[if_neg (by simpa using h),List.drop_eq_nil_of_le (by omega)];rfl
def fF(c:Cf)(lk:List (Int×List Int))(bu:BM)(p:Pl)(s:List (List B)×Int)(q:Int):List (List B)×Int:=
 if xC lk q []=[] then s else
  let g:=(xC lk q []).foldl (ob c bu p) ⟨0,s.2,⟨0,1⟩,⟨0,1⟩⟩
  (s.1++[[⟨g.b,g.r⟩,⟨⟨g.wide,1⟩,⟨1,(nth c.fK q).yr⟩⟩]],g.e)
theorem Qg{c:Cf}{rs:List (List Hop)}{lk:List (Int×List Int)}{bu:BM}{de:DM}{p:Pl}{k:List (List B)->Int->Option CR}(hv:gV c)(hl:∀ q,∀ v∈xC lk q [],0<=v/\v<c.yg.length)(hs:∀ q,(xC lk q []).length<=1000)(hL:c.fK.length<=1000):
  ∀(n:Nat) (q:Int) (s:List (List B)×Int),0<=q->q<=c.fK.length->c.fK.length<n+q->(s.1.length:Int)<=q->
   jN c lk rs bu de p k n s.1 q s.2=(fun t:List (List B)×Int=>k t.1 t.2) ((vA q (c.fK.length-q.toNat)).foldl (fF c lk bu p) s)
 | 0,v,s,h0,h1,h2,h3=>by omega
 | n+1,q,s,h0,h1,h2,h3=>by
  rw[jN]
  by_cases h:q<c.fK.length
  ·rw[if_pos (decide_eq_true h),show c.fK.length-q.toNat=(c.fK.length-(q+1).toNat)+1 by omega,vA,List.foldl_cons]
   refine Yz (P:=fun o=>o=_) fun k1 wj=>?_
   have jy:((fF c lk bu p s q).1.length:Int)<=q+1:=by
    unfold fF;split
    ·omega
    ·simp;omega
   have Bj:∀ t:List (List B)×Int,t=fF c lk bu p s q->k1 t.1 t.2=(fun t:List (List B)×Int=>k t.1 t.2) ((vA (q+1) (c.fK.length-(q+1).toNat)).foldl (fF c lk bu p) (fF c lk bu p s q)):=fun t ht=>by
    subst ht
    rw[wj,xQ (x:=q+1) (by omega)]
    exact Qg hv hl hs hL n (q+1) _ (by omega) (by omega) (by omega) jy
   by_cases hz:xC lk q []=[]
   ·rw[if_pos (by simp[hz])]
    refine Bj s ?_
    unfold fF;rw[if_pos hz]
   ·rw[if_neg (by simpa using hz)]
    unfold jB
    rw[oB,oB]
    refine Si (P:=fun o=>o=_) fun k2 sG=>?_
    have:=Wy (rs:=rs) (de:=de) (k:=k2) (bu:=bu) (p:=p) hv (hl q) (hs q) xR 0 ⟨0,s.2,⟨0,1⟩,⟨0,1⟩⟩ (by omega) (by omega) (by rw[wq];have:=hs q;omega)
    simp only[Int.toNat_zero,List.drop_zero] at this
    rw[this,sG,oB,xJ ⟨h0,h⟩,xJ (by simp;omega)]
    refine Bj (_,_) ?_
    unfold fF;rw[if_neg hz]
  ·rw[if_neg (by simpa using h),show c.fK.length-q.toNat=0 by omega];rfl
theorem Ms{c:Cf}{rs:List (List Hop)}{de:DM}{p:Pl}:∀(n:Nat) (v:Int) (s:CS),0<=v->((s.own.length:Int)<=v/\∀ k,((xC s.lk k []).length:Int)<=v)->(∀ k,∀ x∈xC s.lk k [],0<=x/\x<v)->
  (((vA v n).foldl (kh c rs de p) s).own.length:Int)<=v+n/\(∀ k,((xC ((vA v n).foldl (kh c rs de p) s).lk k []).length:Int)<=v+n)/\∀ k,∀ x∈xC ((vA v n).foldl (kh c rs de p) s).lk k [],0<=x/\x<v+n
 | 0,v,s,_,h,h2=>⟨by have:=h.1;show(s.own.length:Int)<=_;omega,fun k=>by have:=h.2 k;show((xC s.lk k []).length:Int)<=_;omega,fun k x hx=>by have:=h2 k x hx;omega⟩
 | n+1,v,s,h0,h,h2=>by
  rw[vA,List.foldl_cons]
  obtain⟨a1,a2,a3⟩:=Ms (c:=c) (rs:=rs) (de:=de) (p:=p) n (v+1) (kh c rs de p s v) (by omega) (Qe h) (fun k x hx=>by
   unfold kh at hx
   simp only at hx
   split at hx
   ·split at hx
    ·rw[show(CS.lk ⟨_,_,_,_,_⟩)=w4 s.lk _ _ from rfl,jh] at hx
     split at hx
     ·rcases List.mem_append.1 hx with hx | hx
      ·have:=h2 _ x hx;omega
      ·rw[List.mem_singleton] at hx;omega
     ·have:=h2 k x hx;omega
    ·have:=h2 k x hx;omega
   ·have:=h2 k x hx;omega)
  exact⟨by omega,fun k=>by have:=a2 k;omega,fun k x hx=>by have:=a3 k x hx;omega⟩
def CU(c:Cf)(rs:List (List Hop))(bu:BM)(de:DM)(e:Int)(p:Pl):CR:=
 let s:=(vA 0 rs.length).foldl (kh c rs de p) ⟨[],0,e,[],bu⟩
 let g:=(vA 0 c.fK.length).foldl (fF c s.lk s.bu p) ([],s.e)
 (s.own++g.1,s.most,g.2,s.bu)
theorem Gl{c:Cf}{lk:List (Int×List Int)}{bu:BM}{p:Pl}:∀(n:Nat) (q:Int) (s:List (List B)×Int),((vA q n).foldl (fF c lk bu p) s).1.length<=s.1.length+n
 | 0,q,s=>by show s.1.length<=_;omega
 | n+1,q,s=>by
  rw[vA,List.foldl_cons]
  have h1:=Gl (c:=c) (lk:=lk) (bu:=bu) (p:=p) n (q+1) (fF c lk bu p s q)
  have h2:(fF c lk bu p s q).1.length<=s.1.length+1:=by
   unfold fF;split
   ·omega
   ·simp
  omega
theorem Mt{c:Cf}{rs:List (List Hop)}{bu:BM}{de:DM}{e:Int}{p:Pl}(hv:gV c)(hl:rs.length=c.yg.length)(hr:∀ r∈rs,r.length<1000000000)(hs:rs.length<=16)(hL:c.fK.length<=20):
  mB c rs bu de e p=some (CU c rs bu de e p)/\(CU c rs bu de e p).1.length<=36:=by
 obtain⟨a1,a2,a3⟩:=Ms (c:=c) (rs:=rs) (de:=de) (p:=p) rs.length 0 ⟨[],0,e,[],bu⟩ (by omega) ⟨by simp,fun k=>by simp[xC]⟩ (fun k x hx=>by simp[xC] at hx)
 have jy:(CU c rs bu de e p).1.length<=36:=by
  unfold CU
  simp only[List.length_append]
  have:=Gl (c:=c) (lk:=((vA 0 rs.length).foldl (kh c rs de p) ⟨[],0,e,[],bu⟩).lk) (bu:=((vA 0 rs.length).foldl (kh c rs de p) ⟨[],0,e,[],bu⟩).bu) (p:=p) c.fK.length 0 ([],((vA 0 rs.length).foldl (kh c rs de p) ⟨[],0,e,[],bu⟩).e)
  simp only[List.length_nil,Nat.zero_add] at this
  omega
 refine⟨?_,jy⟩
 unfold mB
 refine JZ (P:=fun o=>o=_) fun k hk=>?_
 have h1:=Qf (k:=k) (p:=p) (de:=de) hv hl hr (by omega) xR 0 ⟨[],0,e,[],bu⟩ (by omega) (by omega) (by rw[wq];omega) ⟨by simp,fun k=>by simp[xC]⟩
 simp only[Int.toNat_zero,Nat.sub_zero] at h1
 rw[h1,hk]
 refine Yz (P:=fun o=>o=_) fun k2 sG=>?_
 have h2:=Qg (rs:=rs) (de:=de) (p:=p) (k:=k2) (bu:=((vA 0 rs.length).foldl (kh c rs de p) ⟨[],0,e,[],bu⟩).bu) hv (fun q v hx=>by have:=a3 q v hx;omega) (fun q=>by have:=a2 q;omega) (by omega) xR 0 ([],((vA 0 rs.length).foldl (kh c rs de p) ⟨[],0,e,[],bu⟩).e) (by omega) (by omega) (by rw[wq];omega) (by simp)
 simp only[Int.toNat_zero,Nat.sub_zero] at h2
 rw[h2,sG]
 unfold CU at jy
 simp only at jy
 rw[xJ (by omega)]
 rfl
end
section
variable {rs:List (List Hop)}{de:DM}{net v:Int}
def er(x:Int):Int:=if x=6 then 352 else x
def fe(e a b:Int):Int:=if (if e=0 then er a else e)=0 then er b else(if e=0 then er a else e)
theorem Mu{x y:R×Int}{k:Int->Option (PB×Int×BM×DM)}(e:Int):qx x y k xR 0 e=k (fe e x.2 y.2):=by
 have hF:xR=(xR-3)+3:=by rw[wq]
 rw[hF]
 generalize xR-3=N
 have tf:∀(n:Nat) (v e a:Int),0<=v->v<2->nth ([x.2,y.2]:List Int) v=a->qx x y k (n+1) v e=qx x y k n (v+1) (if e=0 then er a else e):=by
  intro n v e a h0 h1 ha
  rw[qx,if_pos (by simp;omega)]
  refine wD (P:=fun o=>o=_) fun k1 wj=>?_
  rw[xJ (by simp;omega)]
  refine wD (P:=fun o=>o=_) fun k2 sG=>?_
  rw[ha]
  have e1:(if decide (a=6)=true then k2 352 else k2 a)=k2 (er a):=by
   unfold er;by_cases h:a=6 <;> simp[h]
  have e2:(if decide (e=0)=true then k1 (er a) else k1 e)=k1 (if e=0 then er a else e):=by
   by_cases h:e=0 <;> simp[h]
  rw[e1,sG,e2,wj,xQ (x:=v+1) (by omega)]
 rw[tf (N+2) 0 e x.2 (by omega) (by omega) rfl,tf (N+1) (0+1) _ y.2 (by omega) (by omega) rfl,qx,if_neg (by simp)]
 rfl
def DL(l:List (List B))(s:SV):R×Int:=if rV l s=0 then iZ (dv l s) (mD l []) else(⟨0,0⟩,rV l s)
def BL(l:List (List B))(s:SV):R×Int:=if rV l s=0 then iZ (bv l s) (mD l [s.fL]) else(⟨0,0⟩,rV l s)
theorem UD{l:List (List B)}{s:SV}(hl:l.length<=40):uT l s=some (DL l s):=by
 unfold uT DL
 rw[Sf hl (by simp),oB]
theorem Fo{l:List (List B)}{s:SV}(hl:l.length<=40):mU l s=some (BL l s):=by
 unfold mU BL
 rw[TI hl (by simp),oB]
def lat(c:Cf)(p:Pl):Int:=if p.ya-nM c>=0 then(nth c.fS (p.ya-nM c)).yl else 0
def gz(c:Cf)(p:Pl):SV:=⟨⟨1,(nth c.fK p.fQ).yr⟩,⟨lat c p,1⟩⟩
def PO(c:Cf)(rs:List (List Hop))(bu:BM)(de:DM)(e:Int)(p:Pl):PB×Int×BM×DM:=
 let u:=CU c rs bu de e p
 let d:=DL u.1 (gz c p)
 let b:=BL u.1 (gz c p)
 (⟨p.ya,p.fQ,gw d.1,i64 (gw b.1+u.2.1)⟩,fe u.2.2.1 d.2 b.2,u.2.2.2,w4 de p (gw d.1))
structure PI (c:Cf) (p:Pl):Prop where
 l0:0<=p.fQ
 l1:p.fQ<c.fK.length
 n0:0<=p.ya
 n1:p.ya<nN c
theorem TK{c:Cf}{bu:BM}{e:Int}{p:Pl}(hv:gV c)(hl:rs.length=c.yg.length)(hr:∀ r∈rs,r.length<1000000000)(hs:rs.length<=16)(hL:c.fK.length<=20)(hS:Small c)(hp:PI c p):
  uv c rs bu de e p=some (PO c rs bu de e p):=by
 unfold uv
 obtain⟨a1,a2⟩:=Mt (bu:=bu) (de:=de) (e:=e) (p:=p) hv hl hr hs hL
 have hn1:=hp.n1;have hn0:=hp.n0;have hm:=hS.m;have hsw:=hS.s
 unfold nN at hn1
 rw[a1,oB]
 refine Yz (P:=fun o=>o=_) fun k hk=>?_
 have hlat:(if decide ((i64 (p.ya-((c.fM.length:Nat):Int)))>=0) then chk ((0:Int)<=(i64 (p.ya-((c.fM.length:Nat):Int)))/\(i64 (p.ya-((c.fM.length:Nat):Int)))<((c.fS.length:Nat):Int)) (k (CU c rs bu de e p).1 ((nth c.fS (i64 (p.ya-((c.fM.length:Nat):Int)))).yl)) else k (CU c rs bu de e p).1 0)=k (CU c rs bu de e p).1 (lat c p):=by
  rw[xQ (x:=p.ya-((c.fM.length:Nat):Int)) (by omega)]
  unfold lat nM
  by_cases h:p.ya-((c.fM.length:Nat):Int)>=0
  ·rw[if_pos (decide_eq_true h),xJ ⟨h,by omega⟩,if_pos h]
  ·rw[if_neg (by simpa using h),if_neg h]
 rw[hlat,hk,xJ ⟨hp.l0,hp.l1⟩]
 unfold jB
 rw[oB,UD (by omega),oB,Fo (by omega),oB]
 refine wD (P:=fun o=>o=_) fun k2 sG=>?_
 rw[Mu,sG]
 rw[(Yy _).1,oB,(Yy _).1,oB,lS]
 rfl
structure WS where
 out:List PB
 e:Int
 bu:BM
 de:DM
def pq(c:Cf)(rs:List (List Hop))(s:WS)(p:Pl):WS:=let x:=PO c rs s.bu s.de s.e p;⟨s.out++[x.1],x.2.1,x.2.2.1,x.2.2.2⟩
def mq(c:Cf)(rs:List (List Hop)):List Pl->WS->WS ⊕ Int
 | [],s => .inl s
 | p::l,s=>if (pq c rs s p).e≠0 then .inr (pq c rs s p).e else mq c rs l (pq c rs s p)
theorem Wz{c:Cf}{rs:List (List Hop)}{l:List Pl×Int}{k:List PB->Option (yM×Int)}(hv:gV c)(hl:rs.length=c.yg.length)(hr:∀ r∈rs,r.length<1000000000)(hs:rs.length<=16)(hL:c.fK.length<=20)(hS:Small c)(hp:∀ p∈l.1,PI c p)(qm:l.1.length<=100000):
  ∀(n:Nat) (v:Int) (s:WS),0<=v->v<=l.1.length->l.1.length<n+v->s.out.length=v->
   jI l c rs k n v s.e s.out s.bu s.de=match mq c rs (l.1.drop v.toNat) s with | .inl t=>k t.out | .inr e=>some (⟨[],[]⟩,e)
 | 0,v,s,h0,h1,h2,h3=>by omega
 | n+1,v,s,h0,h1,h2,h3=>by
  rw[jI]
  by_cases h:v<l.1.length
  ·rw[if_pos (decide_eq_true h),xJ ⟨h0,h⟩,kP h0 h]
   have e:(⟨(nth l.1 v).ya,(nth l.1 v).fQ⟩:z7)=nth l.1 v:=rfl
   rw[e,TK hv hl hr hs hL hS (hp _ (wn h0 h)),oB,xJ (by simp;omega),mq]
   by_cases he:(pq c rs s (nth l.1 v)).e≠0
   ·rw[if_pos he,if_pos (by exact decide_eq_true he)];rfl
   ·rw[if_neg he,if_neg (by rw[decide_eq_true_eq];exact he),xQ (x:=v+1) (by omega)]
    have:=Wz (k:=k) hv hl hr hs hL hS hp qm n (v+1) (pq c rs s (nth l.1 v)) (by omega) (by omega) (by omega) (by simp[pq];omega)
    rw[show(v+1).toNat=v.toNat+1 by omega] at this
    exact this
  ·rw[if_neg (by simpa using h),List.drop_eq_nil_of_le (by omega)];rfl
def fG(b:PB):Pl:=⟨b.ya,b.fQ⟩
theorem Mv{l:List PB}(hn:(l.map fG).Nodup)(hs:l.length<=1000000):
  vM l (fun y0 y1=>qh y0 y1)=some (wH qh l)/\(wH qh l).Pairwise fun a b=>¬iW (fG b) (fG a):=by
 have DH:∀ x∈l,∀ y∈l,fG x=fG y->x=y:=by
  intro x hx y hy e
  obtain⟨i,hi,rfl⟩:=List.getElem_of_mem hx
  obtain⟨j,hj,rfl⟩:=List.getElem_of_mem hy
  have h1:(l.map fG)[i]'(by simpa using hi)=(l.map fG)[j]'(by simpa using hj):=by simpa using e
  have:=(List.getElem_inj (h₀:=by simpa using hi) (h₁:=by simpa using hj) hn).1 h1
  subst this;rfl
 obtain⟨ho,DF⟩:=Vk (p:=qh) (lt:=fun a b=>iW (fG a) (fG b)) (l:=l) (fun x _ y _=>by
  obtain⟨v,e1,e2⟩:=Wm (fG x) (fG y)
  refine⟨v,?_,e2⟩
  unfold qh
  rw[show(⟨x.ya,x.fQ⟩:z7)=fG x from rfl,show(⟨y.ya,y.fQ⟩:z7)=fG y from rfl,e1];rfl) (fun x y=>JC _ _) (fun x y z=>M4 _ _ _) (fun x hx y hy h1 h2=>DH x hx y hy (M5 _ _ h1 h2))
 refine⟨?_,DF⟩
 unfold vM mg kR
 rw[Vl (by omega),xJ (by omega),oB]
 have hb:=Xx l.length (by omega)
 rw[Int.toNat_natCast,xJ ⟨⟨rfl,rfl⟩,by omega,by omega,by omega⟩,xJ ho,oB]
theorem Qh{r:List Hop}{k:Option Bool}(hl:r.length<1000000000):∀(n:Nat) (v:Int),0<=v->v<=r.length->r.length<n+v->
  ((∃ q:Int,v<=q/\q<r.length/\(ky (r.take q.toNat) (nth r q).ya).2=false/\(nth r q).ya≠(nth r 0).ya)/\gK r k n v=some false) \/
  ((∀ q:Int,v<=q->q<r.length->(ky (r.take q.toNat) (nth r q).ya).2=true\/(nth r q).ya=(nth r 0).ya)/\gK r k n v=k)
 | 0,v,h0,h1,h2=>by omega
 | n+1,v,h0,h1,h2=>by
  rw[gK]
  by_cases h:v<r.length
  ·rw[if_pos (decide_eq_true h),xJ ⟨h0,h⟩,xJ ⟨by omega,h0,by omega⟩,Vm (by rw[List.length_take];omega),oB,xJ (fun _=>⟨by omega,by omega⟩)]
   by_cases hc:(!(ky (r.take v.toNat) (nth r v).ya).2&&decide ((nth r v).ya≠(nth r 0).ya))=true
   ·rw[if_pos hc]
    simp only[Bool.and_eq_true,Bool.not_eq_true',decide_eq_true_eq] at hc
    exact .inl ⟨⟨v,by omega,h,hc.1,hc.2⟩,rfl⟩
   ·rw[if_neg hc,xQ (x:=v+1) (by omega)]
    have zk:(ky (r.take v.toNat) (nth r v).ya).2=true\/(nth r v).ya=(nth r 0).ya:=by
     simp only[Bool.and_eq_true,Bool.not_eq_true',decide_eq_true_eq] at hc
     by_cases h5:(nth r v).ya=(nth r 0).ya
     ·exact .inr h5
     ·refine .inl ?_
      cases h6:(ky (r.take v.toNat) (nth r v).ya).2 with
      | true=>rfl
      | false=>exact absurd ⟨h6,h5⟩ hc
    rcases Qh hl n (v+1) (by omega) (by omega) (by omega) (k:=k) with⟨⟨q,q1,q2⟩,h3⟩ | ⟨h3,h4⟩
    ·exact .inl ⟨⟨q,by omega,q2⟩,h3⟩
    ·refine .inr ⟨fun q q1 q2=>?_,h4⟩
     by_cases e:q=v
     ·rw[e];exact zk
     ·exact h3 q (by omega) q2
  ·rw[if_neg (by simpa using h)]
   exact .inr ⟨fun q q1 q2=>by omega,rfl⟩
theorem VR.tree{c:Cf}{r:List Hop}(h:VR c net r):po r=some true:=by
 have hl:=h.len
 unfold po
 have hF:=wq
 generalize xR=N at hF ⊢
 refine fy (P:=fun o=>o=some true) fun k hk=>?_
 rcases Qh (k:=k) (by omega) N 0 (by omega) (by omega) (by omega) (r:=r) with⟨⟨q,q1,q2,q3,q4⟩,h5⟩ | ⟨h3,h4⟩
 ·exfalso
  have hc:=(h.cond q q1 q2).1
  rcases hc with hc | ⟨j,j0,j1,j2⟩
  ·exact q4 hc
  ·have hm:nth r j∈r.take q.toNat:=by
    rw[jY ⟨j0,by omega⟩]
    have:(r.take q.toNat)[j.toNat]'(by simp;omega)=r[j.toNat]'(by omega):=List.getElem_take
    rw[<- this];exact List.getElem_mem _
   have:=Xz hm
   rw[j2,q3] at this;cases this
 ·rw[h4,hk]
abbrev SM:=List (Int×Int)
structure ES where
 ends:List zw
 sum:SM
def pr(c:Cf)(r:List Hop)(de:DM)(vl:Int)(s:ES)(h:Hop):ES:=
 if wK s.sum h.fX||decide (h.fX=(nth r 0).ya) then s else
  let m:=w4 s.sum h.fX (i64 (xC s.sum h.ya 0+xC de (pk h) 0))
  ⟨if 0<=h.fX/\h.fX<nM c then s.ends++[⟨vl,h.fX,xC m h.fX 0⟩] else s.ends,m⟩
theorem K0{c:Cf}{rs:List (List Hop)}{v:Int}{de:DM}{k:List zw->Option (List zw)}(h0v:0<=v/\v<rs.length)(hl:(nth rs v).length<=1000):∀(n:Nat) (i:Int) (s:ES),0<=i->i<=(nth rs v).length->(nth rs v).length<n+i->(s.ends.length:Int)<=i->
  mm rs v c de k n s.ends i s.sum=k (((nth rs v).drop i.toNat).foldl (pr c (nth rs v) de v) s).ends
 | 0,i,s,h0,h1,h2,h3=>by omega
 | n+1,i,s,h0,h1,h2,h3=>by
  rw[mm]
  by_cases h:i<(nth rs v).length
  ·rw[if_pos (decide_eq_true h),kP h0 h,List.foldl_cons]
   refine Yz (P:=fun o=>o=_) fun k1 wj=>?_
   have jy:((pr c (nth rs v) de v s (nth (nth rs v) i)).ends.length:Int)<=i+1:=by
    unfold pr
    simp only
    split
    ·omega
    ·show(((if _ then _ else _:List zw)).length:Int)<=_
     split
     ·simp;omega
     ·omega
   have Bj:∀ t:ES,t=pr c (nth rs v) de v s (nth (nth rs v) i)->k1 t.ends t.sum=k (((nth rs v).drop (i.toNat+1)).foldl (pr c (nth rs v) de v) (pr c (nth rs v) de v s (nth (nth rs v) i))).ends:=fun t ht=>by
    subst ht
    rw[wj,xQ (x:=i+1) (by omega)]
    have:=K0 (k:=k) (c:=c) (de:=de) h0v hl n (i+1) (pr c (nth rs v) de v s (nth (nth rs v) i)) (by omega) (by omega) (by omega) jy
    rw[show(i+1).toNat=i.toNat+1 by omega] at this
    exact this
   rw[xJ ⟨h0,h⟩,xJ (fun _=>⟨by omega,by omega⟩)]
   by_cases hc:(wK s.sum ((nth (nth rs v) i).fX)||decide ((nth (nth rs v) i).fX=(nth (nth rs v) 0).ya))=true
   ·rw[if_pos hc]
    refine Bj s ?_
    unfold pr;rw[if_pos hc]
   ·rw[if_neg hc,of_eq,oB]
    by_cases hn:0<=(nth (nth rs v) i).fX/\(nth (nth rs v) i).fX<nM c
    ·rw[if_pos (by have:=hn.2;unfold nM at this;simp only[Bool.and_eq_true,decide_eq_true_eq];exact⟨hn.1,this⟩),xJ (by simp;omega)]
     refine Bj ⟨_,_⟩ ?_
     unfold pr;rw[if_neg hc];simp only;rw[if_pos hn]
    ·rw[if_neg (by unfold nM at hn;simp only[Bool.and_eq_true,decide_eq_true_eq];exact hn)]
     refine Bj ⟨s.ends,w4 s.sum (nth (nth rs v) i).fX (i64 (xC s.sum (nth (nth rs v) i).ya 0+xC de (pk (nth (nth rs v) i)) 0))⟩ ?_
     unfold pr;rw[if_neg hc];simp only;rw[if_neg hn]
  ·rw[if_neg (by simpa using h),List.drop_eq_nil_of_le (by omega)];rfl
structure EI (c:Cf) (vl:Int) (s:ES):Prop where
 nd:(s.ends.map (·.ya)).Nodup
 vl:∀ x∈s.ends,x.yq=vl/\0<=x.ya/\x.ya<nM c/\wK s.sum x.ya=true
theorem EI.step{c:Cf}{r:List Hop}{s:ES}{h:Hop}(hi:EI c v s):EI c v (pr c r de v s h):=by
 unfold pr
 split
 ·exact hi
 ·rename_i hc
  simp only[Bool.or_eq_true,not_or,decide_eq_true_eq,Bool.not_eq_true] at hc
  simp only
  have hk:∀ n,wK s.sum n=true->wK (w4 s.sum h.fX (i64 (xC s.sum h.ya 0+xC de (pk h) 0))) n=true:=fun n hn=>by rw[cX,hn];simp
  split
  ·rename_i hn
   refine⟨?_,fun x hx=>?_⟩
   ·rw[List.map_append]
    refine List.nodup_append.2 ⟨hi.nd,by simp,fun a ha b hb=>?_⟩
    simp at hb;subst hb
    rintro rfl
    obtain⟨x,hx,e⟩:=List.mem_map.1 ha
    have:=(hi.vl x hx).2.2.2
    rw[e,hc.1] at this;cases this
   ·rcases List.mem_append.1 hx with hx | hx
    ·obtain⟨a1,a2,a3,a4⟩:=hi.vl x hx
     exact⟨a1,a2,a3,hk _ a4⟩
    ·rw[List.mem_singleton] at hx;subst hx
     exact⟨rfl,hn.1,hn.2,by show wK (w4 _ _ _) h.fX=true;rw[cX];simp⟩
  ·exact⟨hi.nd,fun x hx=>by obtain⟨a1,a2,a3,a4⟩:=hi.vl x hx;exact⟨a1,a2,a3,hk _ a4⟩⟩
theorem EI.fold{c:Cf}{r:List Hop}{de:DM}{v:Int}:∀(hs:List Hop) {s:ES},EI c v s->EI c v (hs.foldl (pr c r de v) s)
 | [],_,hi=>hi
 | h::hs,_,hi=>by rw[List.foldl_cons];exact EI.fold hs hi.step
def VE(c:Cf)(rs:List (List Hop))(de:DM)(v:Int):List zw:=((nth rs v).foldl (pr c (nth rs v) de v) ⟨[],[]⟩).ends
theorem K1(c:Cf)(rs:List (List Hop))(de:DM)(v:Int):EI c v ((nth rs v).foldl (pr c (nth rs v) de v) ⟨[],[]⟩):=EI.fold _ ⟨by simp,by simp⟩
theorem Mw{c:Cf}:(VE c rs de v).length<=(nth rs v).length:=by
 unfold VE
 have:∀(hs:List Hop) (s:ES),(hs.foldl (pr c (nth rs v) de v) s).ends.length<=s.ends.length+hs.length:=by
  intro hs
  induction hs with
  | nil=>intro s;simp
  | cons h hs ih=>
   intro s
   rw[List.foldl_cons]
   have h1:=ih (pr c (nth rs v) de v s h)
   have h2:(pr c (nth rs v) de v s h).ends.length<=s.ends.length+1:=by
    unfold pr
    split
    ·omega
    ·simp only;split
     ·simp
     ·omega
   rw[List.length_cons];omega
 have:=this (nth rs v) ⟨[],[]⟩
 simpa using this
def elt(a b:zw):Prop:=a.ya<b.ya
theorem UE{c:Cf}{l:List zw}(hS:Small c)(hn:(l.map (·.ya)).Nodup)(hb:∀ x∈l,x.yq=v/\0<=x.ya/\x.ya<nM c)(hs:l.length<=1000000):
  j5 l (fun y0 y1=>kg y0 y1)=some (wH kg l):=by
 have hm:=hS.m
 have DH:∀ x∈l,∀ y∈l,x.ya=y.ya->x=y:=by
  intro x hx y hy e
  obtain⟨i,hi,rfl⟩:=List.getElem_of_mem hx
  obtain⟨j,hj,rfl⟩:=List.getElem_of_mem hy
  have h1:(l.map (·.ya))[i]'(by simpa using hi)=(l.map (·.ya))[j]'(by simpa using hj):=by simpa using e
  have:=(List.getElem_inj (h₀:=by simpa using hi) (h₁:=by simpa using hj) hn).1 h1
  subst this;rfl
 obtain⟨ho,_⟩:=Vk (p:=kg) (lt:=elt) (l:=l) (fun x hx y hy=>by
  have h1:=hb x hx;have h2:=hb y hy
  unfold nM at h1 h2
  refine⟨_,rfl,?_⟩
  rw[xQ (by omega)]
  unfold elt
  omega) (fun x y=>by unfold elt;omega) (fun x y z=>by unfold elt;omega) (fun x hx y hy h1 h2=>DH x hx y hy (by unfold elt at h1 h2;omega))
 unfold j5 mg fW
 rw[Vl (by omega),xJ (by omega),oB]
 have hb:=Xx l.length (by omega)
 rw[Int.toNat_natCast,xJ ⟨⟨rfl,rfl⟩,by omega,by omega,by omega⟩,xJ ho,oB]
theorem Gm{c:Cf}{rs:List (List Hop)}{de:DM}{k:List zw->Option (List zw)}(hS:Small c)(hr:∀ r∈rs,r.length<=1000)(hl:rs.length<=100):∀(n:Nat) (v:Int) (o:List zw),0<=v->v<=rs.length->rs.length<n+v->(o.length:Int)<=1000*v->
  mn rs c de k n o v=k (o++(vA v (rs.length-v.toNat)).flatMap fun v=>wH kg (VE c rs de v))
 | 0,v,o,h0,h1,h2,h3=>by omega
 | n+1,v,o,h0,h1,h2,h3=>by
  rw[mn]
  by_cases h:v<rs.length
  ·have D7:=hr _ (wn h0 h)
   rw[if_pos (decide_eq_true h),show rs.length-v.toNat=(rs.length-(v+1).toNat)+1 by omega,vA,List.flatMap_cons]
   refine wD (P:=fun x=>x=_) fun k1 wj=>?_
   rw[xJ ⟨h0,h⟩]
   refine wD (P:=fun x=>x=_) fun k2 sG=>?_
   have h4:=K0 (k:=k2) (c:=c) (de:=de) ⟨h0,h⟩ D7 xR 0 ⟨[],[]⟩ (by omega) (by omega) (by rw[wq];omega) (by simp)
   simp only[Int.toNat_zero,List.drop_zero] at h4
   have hi:=K1 c rs de v
   have jy:=Mw (c:=c) (rs:=rs) (de:=de) (v:=v)
   rw[h4,sG]
   have hi1:((VE c rs de v).map (·.ya)).Nodup:=hi.nd
   have hi2:∀ x∈VE c rs de v,x.yq=v/\0<=x.ya/\x.ya<nM c:=fun x hx=>by obtain⟨a1,a2,a3,_⟩:=hi.vl x hx;exact⟨a1,a2,a3⟩
   rw[show((nth rs v).foldl (pr c (nth rs v) de v) ⟨[],[]⟩).ends=VE c rs de v from rfl]
   rw[UE (v:=v) hS hi1 hi2 (by omega),oB]
   have vL:=rg kg (VE c rs de v)
   rw[xJ (by rw[List.length_append];omega),wj,xQ (x:=v+1) (by omega),Gm hS hr hl n (v+1) _ (by omega) (by omega) (by omega) (by rw[List.length_append];omega),List.append_assoc]
  ·rw[if_neg (by simpa using h),show rs.length-v.toNat=0 by omega];simp[vA]
def ew(l:List PB):DM:=l.foldr (fun b m=>w4 m (fG b) b.yl) []
theorem K2{l:List PB}{k:DM->Option (List zw)}(hl:l.length<=1000000):∀(n:Nat) (i:Int) (m:DM),-1<=i->i<l.length->i+1<n->mj l k n i m=k ((l.take (i+1).toNat).foldr (fun b m=>w4 m (fG b) b.yl) m)
 | 0,i,m,h0,h1,h2=>by omega
 | n+1,i,m,h0,h1,h2=>by
  rw[mj]
  by_cases h:i>=0
  ·rw[if_pos (decide_eq_true h),xJ ⟨h,h1⟩,xQ (x:=i-1) (by omega),K2 hl n (i-1) _ (by omega) (by omega) (by omega)]
   congr 1
   have h3:i.toNat<l.length:=by omega
   rw[show(i+1).toNat=i.toNat+1 by omega,show(i-1+1).toNat=i.toNat by omega,List.take_succ,List.getElem?_eq_getElem h3,List.foldr_append]
   rw[jY ⟨h,h1⟩]
   rfl
  ·rw[if_neg (by simpa using h),show(i+1).toNat=0 by omega];rfl
def EN(c:Cf)(rs:List (List Hop))(ps:List PB):List zw:=(vA 0 rs.length).flatMap fun v=>wH kg (VE c rs (ew ps) v)
theorem Mx{c:Cf}(hv:∀ r∈rs,VR c net r)(hl:rs.length<1000000000):wM rs (fun y0=>fq y0)=some false:=by
 unfold wM qo
 have hF:=wq
 generalize xR=N at hF ⊢
 have hf:∀ y∈rs,fq y=some false:=fun y hy=>by unfold fq;rw[(hv y hy).tree];rfl
 refine fy (P:=fun o=>(o.bind fun x=>some (decide (x>=0)))=some false) fun k hk=>?_
 rcases du (f:=fun y0=>fq y0) (k:=k) (fun y hy=>⟨false,hf y hy⟩) hl N 0 (by omega) (by omega) (by omega) with⟨i,i1,i2,i3,i4⟩ | ⟨i1,i2⟩
 ·rw[hf _ (wn i1 i2)] at i3;cases i3
 ·rw[i2,hk];rfl
theorem TL{c:Cf}{ps:List PB}(hS:Small c)(hv:∀ r∈rs,VR c net r)(hl:rs.length<=100)(hp:ps.length<=1000000):pp c rs ps=some (EN c rs ps):=by
 unfold pp
 rw[Mx hv (by omega),oB,if_neg (by simp)]
 refine wD (P:=fun o=>o=_) fun k hk=>?_
 have h1:=K2 (k:=k) hp xR (((ps.length:Nat):Int)-1) [] (by omega) (by omega) (by rw[wq];omega)
 rw[xQ (x:=((ps.length:Nat):Int)-1) (by omega),h1,hk,show(((ps.length:Nat):Int)-1+1).toNat=ps.length by omega,List.take_length]
 refine wD (P:=fun o=>o=_) fun k2 sG=>?_
 have h2:=Gm (k:=k2) (de:=ew ps) hS (fun r hr=>by have:=(hv r hr).len;omega) hl xR 0 [] (by omega) (by omega) (by rw[wq];omega) (by simp)
 simp only[Int.toNat_zero,Nat.sub_zero,List.nil_append] at h2
 rw[show(ps.foldr (fun b m=>w4 m (fG b) b.yl) ([]:DM))=ew ps from rfl,h2,sG]
 rfl
end
end Go.Proofs.YtcahmabkeaijdaaGreat

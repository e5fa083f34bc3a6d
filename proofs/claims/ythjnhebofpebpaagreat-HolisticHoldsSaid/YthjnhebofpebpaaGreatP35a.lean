/- A part of this claim's proof. No conditions. -/
import Derived.Test.YthjnhebofpebpaaGreatW36m
import Derived.Test.YthjnhebofpebpaaGreatZMem
set_option linter.all false
namespace Go.Proofs.YthjnhebofpebpaaGreat
open Go Go.RowKit Sep
section
variable {net:Int}
theorem mF{R:Type}{K:Option R}{F:Option R->Option R}{P:Option R->Prop}(h:∀ k:Option R,k=K->P (F k)):P (uN K F):=h K rfl
theorem wx{R A0:Type}{K:A0->Option R}{F:(A0->Option R)->Option R}{P:Option R->Prop}(h:∀ k:A0->Option R,(∀ x0,k x0=K x0)->P (F k)):P (qt K F):=h K fun _=>rfl
theorem tg{R A0 A1:Type}{K:A0->A1->Option R}{F:(A0->A1->Option R)->Option R}{P:Option R->Prop}(h:∀ k:A0->A1->Option R,(∀ x0 x1,k x0 x1=K x0 x1)->P (F k)):P (sm K F):=h K fun _ _=>rfl
def Jd(x y:Int):Int:=if x<y then -1 else if x>y then 1 else 0
theorem np(x y:Int):qr x y=some (Jd x y):=by
 unfold qr tM Jd
 simp only[ne_eq,not_true_eq_false,decide_false,oB,Bool.false_eq_true,if_false,decide_eq_true_eq]
 by_cases h1:x<y
 ·simp[h1]
 ·by_cases h2:x>y
  ·simp[h1,h2]
  ·simp[h1,h2]
def oG:List Int->Int
 | []=>0
 | x::l=>if x≠0 then x else oG l
theorem KS{l:List Int}{k:Option Int}(hl:l.length<9000000000000000000):∀(n:Nat) (v:Int),0<=v->v<=l.length->l.length<n+v->
  my l k n v=if oG (l.drop v.toNat)≠0 then some (oG (l.drop v.toNat)) else k
 | 0,v,h0,h1,h2=>by omega
 | n+1,v,h0,h1,h2=>by
  rw[my]
  by_cases h:v<l.length
  ·rw[Nw h,xM ⟨h0,h⟩]
   have hd:l.drop v.toNat=nth l v::l.drop (v.toNat+1):=by
    have h3:v.toNat<l.length:=by omega
    rw[<- List.getElem_cons_drop h3]
    rw[sk (l:=l) h0 h]
   rw[hd,oG]
   by_cases hz:nth l v=0
   ·rw[if_neg (by simp[hz]),xS (by omega),KS hl n (v+1) (by omega) (by omega) (by omega),show(v+1).toNat=v.toNat+1 by omega]
    simp only[hz,ne_eq,not_true_eq_false,if_false]
   ·rw[Nw hz,if_pos hz,if_pos hz]
  ·rw[Nx h,List.drop_eq_nil_of_le (by omega)]
   simp[oG]
theorem GG{l:List Int}(hl:l.length<9000000000000000000:=by simp):uX l=some (oG l):=by
 unfold uX
 refine mF (P:=fun o=>o=some (oG l)) fun k hk=>?_
 rw[KS hl xT 0 (by omega) (by omega) (by rw[wp];omega),hk]
 simp only[Int.toNat_zero,List.drop_zero]
 by_cases h:oG l=0 <;> simp[h]
theorem j6{α:Type}[Inhabited α]{l:List α}{i:Int}(h:0<=i/\i<l.length):nth l i=l[i.toNat]'(by omega):=by
 exact(sk (l:=l) h.1 h.2).symm
theorem kg{α:Type}[Inhabited α]{l:List α}{v:Int}(h0:0<=v)(h:v<l.length):l.drop v.toNat=nth l v::l.drop (v.toNat+1):=by
 have h3:v.toNat<l.length:=by omega
 rw[<- List.getElem_cons_drop h3,sk (l:=l) h0 h]
abbrev Cf:=zy
abbrev Hop:=zd
def nM(c:Cf):Int:=c.fM.length
def nN(c:Cf):Int:=c.fM.length+c.fS.length
structure Small (c:Cf):Prop where
 m:c.fM.length<=1000
 s:c.fS.length<=1000
 l:c.fK.length<=1000
 v:c.yb.length<=1000
def sw(c:Cf)(n:Int):yw:=nth c.fS (n-nM c)
def GH(c:Cf)(n:Int):ByteArray:=if n<0\/n>=nN c then⟨#[]⟩ else if n<nM c then(nth c.fM n).yB else(sw c n).yB
theorem Je{c:Cf}(h:Small c):kL c=some (nN c):=by
 have:=h.m;have:=h.s
 unfold kL nN
 rw[xS (by omega)]
theorem UJ{c:Cf}(h:Small c)(n:Int)(hn : -1000000<=n/\n<=1000000):fO c n=some (GH c n):=by
 have:=h.m;have:=h.s
 unfold fO GH
 rw[Je h]
 by_cases h1:n<0
 ·simp[h1]
 ·rw[Nx h1]
  simp only[oB,decide_eq_true_eq]
  by_cases h2:n>=nN c
  ·rw[if_pos h2,if_pos (.inr h2)]
  ·rw[if_neg h2,if_neg (show ¬(n<0\/n>=nN c) by omega)]
   unfold nN nM at *
   by_cases h3:n<c.fM.length
   ·rw[if_pos h3,xM ⟨by omega,h3⟩,if_pos h3]
   ·rw[if_neg h3,xS (by omega),xM ⟨by omega,by omega⟩,if_neg h3]
    rfl
theorem VM{c:Cf}(h:Small c){nm:ByteArray}{k:Option Int}:∀(f:Nat) (v:Int),0<=v->v<=nN c->nN c<f+v->
  (∃ i:Int,0<=i/\i<nN c/\vZ (nN c) c nm k f v=some i)\/vZ (nN c) c nm k f v=k
 | 0,v,h0,h1,h2=>by omega
 | f+1,v,h0,h1,h2=>by
  have hb:nN c<=2000:=by have:=h.m;have:=h.s;unfold nN;omega
  rw[vZ]
  by_cases h3:v<nN c
  ·rw[Nw h3,UJ h v (by omega)]
   simp only[oB,decide_eq_true_eq]
   by_cases h4:GH c v=nm
   ·rw[if_pos h4];exact .inl ⟨v,h0,h3,rfl⟩
   ·rw[if_neg h4,xS (by omega)]
    exact VM h f (v+1) (by omega) (by omega) (by omega)
  ·rw[Nx h3];exact .inr rfl
theorem KT{c:Cf}(h:Small c)(nm:ByteArray):∃ i:Int,-1<=i/\i<nN c/\jd c nm=some i:=by
 unfold jd
 rw[Je h]
 have hF:=wp
 generalize xT=N at hF ⊢
 refine mF (P:=fun o=>∃ i:Int,-1<=i/\i<nN c/\o=some i) fun k hk=>?_
 have hb:0<=nN c/\nN c<=2000:=by have:=h.m;have:=h.s;unfold nN;omega
 simp only[oB]
 rcases VM h (nm:=nm) (k:=k) N 0 (by omega) hb.1 (by omega) with⟨i,h1,h2,h3⟩ | h3
 ·exact⟨i,by omega,h2,h3⟩
 ·exact⟨-1,by omega,by omega,h3.trans hk⟩
def fA(c:Cf)(l:Int):Int:=(jd c (nth c.fK l).fA).getD (-1)
def fB(c:Cf)(l:Int):Int:=(jd c (nth c.fK l).fB).getD (-1)
theorem Qq{c:Cf}(h:Small c)(l:Int):jd c (nth c.fK l).fA=some (fA c l) /\ -1<=fA c l/\fA c l<nN c:=by
 obtain⟨i,h1,h2,h3⟩:=KT h (nth c.fK l).fA
 unfold fA;rw[h3];exact⟨rfl,h1,h2⟩
theorem Qr{c:Cf}(h:Small c)(l:Int):jd c (nth c.fK l).fB=some (fB c l) /\ -1<=fB c l/\fB c l<nN c:=by
 obtain⟨i,h1,h2,h3⟩:=KT h (nth c.fK l).fB
 unfold fB;rw[h3];exact⟨rfl,h1,h2⟩
def rn(c:Cf)(net n:Int):Prop:=0<=n/\(n<nM c\/(sw c n).yV=net/\0<=(sw c n).yl/\(sw c n).yl<=1000/\0<=(sw c n).fT/\(sw c n).fT<=1073741824)
instance (c:Cf) (net n:Int):Decidable (rn c net n):=inferInstanceAs (Decidable (_/\_))
theorem KU{c:Cf}(h:Small c){n:Int}(hn : -1<=n/\n<nN c):uT c net n=some (decide (rn c net n)):=by
 have:=h.m;have:=h.s
 unfold uT
 unfold nN at hn
 by_cases h1:n<c.fM.length
 ·rw[Nw h1]
  refine congrArg some ?_
  rw[Bool.eq_iff_iff,decide_eq_true_iff,decide_eq_true_iff]
  unfold rn nM
  exact⟨fun h=>⟨h,.inl h1⟩,fun h=>h.1⟩
 ·rw[Nx h1,xS (by omega),xM ⟨by omega,by omega⟩]
  refine congrArg some ?_
  rw[Bool.eq_iff_iff,decide_eq_true_iff]
  unfold rn sw nM
  simp only[Bool.and_eq_true,decide_eq_true_eq]
  constructor
  ·rintro⟨⟨⟨⟨a,b⟩,e⟩,d⟩,f⟩;exact⟨by omega,.inr ⟨a,b,e,d,f⟩⟩
  ·rintro⟨_,a | ⟨a,b,e,d,f⟩⟩
   ·exact absurd a h1
   ·exact⟨⟨⟨⟨a,b⟩,e⟩,d⟩,f⟩
def JN(c:Cf)(net link a b:Int):Prop:=0<=link/\link<c.fK.length/\(nth c.fK link).yV=net/\1<=(nth c.fK link).yp/\(nth c.fK link).yp<=16/\fA c link≠fB c link/\
 rn c net (fA c link)/\rn c net (fB c link)/\(fA c link=a/\fB c link=b\/fA c link=b/\fB c link=a)
instance (c:Cf) (net link a b:Int):Decidable (JN c net link a b):=inferInstanceAs (Decidable (_/\_))
theorem MK{c:Cf}(h:Small c)(net link a b:Int):tI c net link a b=some (decide (JN c net link a b)):=by
 unfold tI
 by_cases h1:link<0\/link>=c.fK.length
 ·rw[if_pos (by simpa using h1)]
  congr 1;symm
  rw[decide_eq_false_iff_not]
  rintro⟨a,b,_⟩;omega
 ·rw[if_neg (by simpa using h1),xM ⟨by omega,by omega⟩]
  obtain⟨a1,a2,a3⟩:=Qq h link
  obtain⟨b1,b2,b3⟩:=Qr h link
  rw[a1,b1]
  simp only[oB]
  rw[KU h ⟨a2,a3⟩,KU h ⟨b2,b3⟩]
  simp only[oB]
  by_cases h2:(nth c.fK link).yV=net/\1<=(nth c.fK link).yp/\(nth c.fK link).yp<=16/\fA c link≠fB c link
  ·rw[if_pos (by simp only[Bool.and_eq_true,decide_eq_true_eq];exact⟨⟨⟨h2.1,h2.2.1⟩,h2.2.2.1⟩,h2.2.2.2⟩)]
   simp only[oB]
   by_cases h3:rn c net (fA c link)
   ·rw[Nw h3]
    simp only[oB]
    congr 1
    rw[Bool.eq_iff_iff]
    simp only[Bool.and_eq_true,Bool.or_eq_true,decide_eq_true_eq]
    constructor
    ·rintro⟨x,y⟩;exact⟨by omega,by omega,h2.1,h2.2.1,h2.2.2.1,h2.2.2.2,h3,x,y⟩
    ·rintro⟨_,_,_,_,_,_,_,x,y⟩;exact⟨x,y⟩
   ·rw[Nx h3]
    simp only[oB,Bool.false_and]
    congr 1;symm
    rw[decide_eq_false_iff_not]
    rintro⟨_,_,_,_,_,_,x,_⟩;exact h3 x
  ·rw[if_neg (by simp only[Bool.and_eq_true,decide_eq_true_eq];rintro⟨⟨⟨x,y⟩,z⟩,w⟩;exact h2 ⟨x,y,z,w⟩)]
   simp only[oB,Bool.false_eq_true,if_false,Bool.false_and]
   congr 1;symm
   rw[decide_eq_false_iff_not]
   rintro⟨_,_,x,y,z,w,_⟩;exact h2 ⟨x,y,z,w⟩
def RK(r:List Hop)(v k:Int):Prop:=k=(nth r 0).ya\/∃ q:Int,0<=q/\q<v/\(nth r q).fX=k
def nq(c:Cf)(net:Int)(r:List Hop)(v:Int):Prop:=
 RK r v (nth r v).ya/\¬RK r v (nth r v).fX/\((nth r v).ya=(nth r 0).ya\/nM c<=(nth r v).ya)/\JN c net (nth r v).fQ (nth r v).ya (nth r v).fX
structure VR (c:Cf) (net:Int) (r:List Hop):Prop where
 len:r.length<=32
 cond:∀ v:Int,0<=v->v<r.length->nq c net r v
theorem cB{κ γ:Type}[DecidableEq κ]{k k':κ}{u d:γ}(h:k'≠k):∀(l:List (κ×γ)),xK (w7 l k u) k' d=xK l k' d
 | []=>by simp[w7,xK,h]
 | p::l=>by
  by_cases hk:k=p.1
  ·subst hk;simp[w7,xK,h]
  ·simp only[w7,hk,if_false,xK];rw[cB h l]
theorem lU{κ γ:Type}[DecidableEq κ]{k:κ}{u d:γ}:∀(l:List (κ×γ)),xK (w7 l k u) k d=u
 | []=>by simp[w7,xK]
 | p::l=>by
  by_cases hk:k=p.1
  ·subst hk;simp[w7,xK]
  ·simp only[w7,hk,if_false,xK];exact lU l
theorem Wn{c:Cf}(h:Small c){net:Int}{r:List Hop}{k:Option Bool}(hr:r.length<1000000000):∀(f:Nat) (v:Int) (mp:List (Int×Int)),0<=v->v<=r.length->r.length<f+v->
  (∀ x,0<=xK mp x 0/\xK mp x 0<=2*v/\(0<xK mp x 0↔0<v/\RK r v x))->
  ((∃ q:Int,v<=q/\q<r.length/\¬nq c net r q)/\kN r c net k f v mp=some false)\/((∀ q:Int,v<=q->q<r.length->nq c net r q)/\kN r c net k f v mp=k)
 | 0,v,mp,h0,h1,h2,h3=>by omega
 | f+1,v,mp,h0,h1,h2,h3=>by
  rw[kN]
  by_cases hv:v<r.length
  ·rw[Nw hv,xM ⟨h0,hv⟩]
   refine wx (P:=fun o=>((∃ q:Int,v<=q/\q<r.length/\¬nq c net r q)/\o=some false)\/((∀ q:Int,v<=q->q<r.length->nq c net r q)/\o=k)) fun kk wT=>?_
   have hm:∃ Aw,(if decide (v=0)=true then kk (w7 mp ((nth r v).ya) (i64 ((xK mp ((nth r v).ya) 0)+1))) else kk mp)=kk Aw/\(∀ x,0<=xK Aw x 0/\xK Aw x 0<=2*v+1/\(0<xK Aw x 0↔RK r v x)):=by
    by_cases Cy:v=0
    ·subst Cy
     rw[if_pos (by simp)]
     refine⟨_,rfl,fun x=>?_⟩
     have h4:=h3 (nth r 0).ya
     rw[xS (by omega)]
     by_cases hx:x=(nth r 0).ya
     ·subst hx;rw[lU]
      refine⟨by omega,by omega,fun _ => .inl rfl,fun _=>by omega⟩
     ·rw[cB hx]
      have h5:=h3 x
      refine⟨by omega,by omega,fun h6=>absurd (h5.2.2.1 h6).1 (by omega),fun h6=>?_⟩
      rcases h6 with h6 | ⟨q,q1,q2,_⟩
      ·exact absurd h6 hx
      ·omega
    ·rw[Nx Cy]
     refine⟨mp,rfl,fun x=>?_⟩
     have h5:=h3 x
     exact⟨by omega,by omega,fun h6=>(h5.2.2.1 h6).2,fun h6=>h5.2.2.2 ⟨by omega,h6⟩⟩
   obtain⟨Aw,e1,h4⟩:=hm
   rw[e1,wT,xM (fun _ hc=>⟨by omega,by omega⟩),MK h]
   simp only[oB]
   have hN:=h4 (nth r v).ya
   have hX:=h4 (nth r v).fX
   have hc:∃ b,(if ((decide ((xK Aw ((nth r v).ya) 0)=0))||(decide ((xK Aw ((nth r v).fX) 0)>0))||((decide (v>0))&&(decide (((nth r v).ya)≠((nth r 0).ya)))&&(decide (((nth r v).ya)<((c.fM.length:Nat):Int)))))=true then some true else some (!decide (JN c net ((nth r v).fQ) ((nth r v).ya) ((nth r v).fX))))=some b/\(b=true↔¬nq c net r v):=by
    by_cases hb:(decide ((xK Aw ((nth r v).ya) 0)=0)||decide ((xK Aw ((nth r v).fX) 0)>0)||(decide (v>0)&&decide (((nth r v).ya)≠((nth r 0).ya))&&decide (((nth r v).ya)<((c.fM.length:Nat):Int))))=true
    ·rw[if_pos hb]
     refine⟨true,rfl,fun _=>?_,fun _=>rfl⟩
     rintro⟨a1,a2,a3,_⟩
     simp only[Bool.or_eq_true,Bool.and_eq_true,decide_eq_true_eq] at hb
     rcases hb with(hb | hb) | ⟨⟨b1,b2⟩,b3⟩
     ·have:=hN.2.2.2 a1;omega
     ·exact a2 (hX.2.2.1 hb)
     ·unfold nM at a3;rcases a3 with a3 | a3
      ·exact b2 a3
      ·omega
    ·rw[if_neg hb]
     refine⟨_,rfl,?_⟩
     simp only[Bool.or_eq_true,Bool.and_eq_true,decide_eq_true_eq,not_or,not_and] at hb
     obtain⟨⟨b1,b2⟩,b3⟩:=hb
     have c1:RK r v (nth r v).ya:=hN.2.2.1 (by omega)
     have c2:¬RK r v (nth r v).fX:=fun hk=>b2 (hX.2.2.2 hk)
     have c3:(nth r v).ya=(nth r 0).ya\/nM c<=(nth r v).ya:=by
      unfold nM
      by_cases e:(nth r v).ya=(nth r 0).ya
      ·exact .inl e
      ·refine .inr ?_
       by_cases e0:v=0
       ·subst e0;exact absurd rfl e
       ·have:=b3 ⟨by omega,e⟩;omega
     simp only[Bool.not_eq_true',decide_eq_false_iff_not]
     exact⟨fun hj hc=>hj hc.2.2.2,fun hc hj=>hc ⟨c1,c2,c3,hj⟩⟩
   obtain⟨b,hb1,CI⟩:=hc
   rw[hb1]
   simp only[oB]
   by_cases hb:b=true
   ·rw[if_pos hb];exact .inl ⟨⟨v,Int.le_refl _,hv,CI.1 hb⟩,rfl⟩
   ·rw[if_neg hb]
    have hcv:nq c net r v:=Classical.byContradiction fun hn=>hb (CI.2 hn)
    rw[xS (x:=v+1) (by omega),xS (by omega)]
    have Ei:∀ x,0<=xK (w7 Aw ((nth r v).fX) ((xK Aw ((nth r v).fX) 0)+1)) x 0/\xK (w7 Aw ((nth r v).fX) ((xK Aw ((nth r v).fX) 0)+1)) x 0<=2*(v+1)/\(0<xK (w7 Aw ((nth r v).fX) ((xK Aw ((nth r v).fX) 0)+1)) x 0↔0<v+1/\RK r (v+1) x):=by
     intro x
     by_cases hx:x=(nth r v).fX
     ·subst hx;rw[lU]
      exact⟨by omega,by omega,fun _=>⟨by omega,.inr ⟨v,h0,by omega,rfl⟩⟩,fun _=>by omega⟩
     ·rw[cB hx]
      have h5:=h4 x
      refine⟨by omega,by omega,fun h6=>⟨by omega,?_⟩,fun h6=>h5.2.2.2 ?_⟩
      ·rcases h5.2.2.1 h6 with h7 | ⟨q,q1,q2,q3⟩
       ·exact .inl h7
       ·exact .inr ⟨q,q1,by omega,q3⟩
      ·rcases h6.2 with h7 | ⟨q,q1,q2,q3⟩
       ·exact .inl h7
       ·by_cases e:q=v
        ·subst e;exact absurd q3.symm hx
        ·exact .inr ⟨q,q1,by omega,q3⟩
    rcases Wn h hr f (v+1) (w7 Aw ((nth r v).fX) ((xK Aw ((nth r v).fX) 0)+1)) (by omega) (by omega) (by omega) Ei (k:=k) (net:=net) with⟨⟨q,q1,q2,q3⟩,h5⟩ | ⟨h5,h6⟩
    ·exact .inl ⟨⟨q,by omega,q2,q3⟩,h5⟩
    ·refine .inr ⟨fun q q1 q2=>?_,h6⟩
     by_cases e:q=v
     ·rw[e];exact hcv
     ·exact h5 q (by omega) q2
  ·rw[Nx hv]
   exact .inr ⟨fun q h1 h2=>by omega,rfl⟩
theorem XB{c:Cf}(h:Small c){r:List Hop}(hr:r.length<1000000000):∃ b,tJ c net r=some b/\(b=true↔VR c net r):=by
 unfold tJ
 have hF:=wp
 generalize xT=N at hF ⊢
 refine mF (P:=fun o=>∃ b,o=some b/\(b=true↔VR c net r)) fun k hk=>?_
 rcases Wn h hr N 0 [] (by omega) (by omega) (by omega) (fun x=>by simp[xK]) (k:=k) (net:=net) with⟨⟨q,q1,q2,q3⟩,h5⟩ | ⟨h5,h6⟩
 ·refine⟨false,h5,?_⟩
  simp only[Bool.false_eq_true,false_iff]
  exact fun hv=>q3 (hv.cond q q1 q2)
 ·refine⟨_,h6.trans hk,?_⟩
  rw[decide_eq_true_eq]
  exact⟨fun hl=>⟨by omega,h5⟩,fun hv=>by have:=hv.len;omega⟩
theorem dx{l:List (List Hop)}{f:List Hop->Option Bool}{k:Option Int}(hf:∀ y∈l,∃ b,f y=some b)(hl:l.length<1000000000):∀(n:Nat) (v:Int),0<=v->v<=l.length->l.length<n+v->
  (∃ i:Int,v<=i/\i<l.length/\f (nth l i)=some true/\wu l f k n v=some i)\/((∀ i:Int,v<=i->i<l.length->f (nth l i)=some false)/\wu l f k n v=k)
 | 0,v,h0,h1,h2=>by omega
 | n+1,v,h0,h1,h2=>by
  rw[wu]
  by_cases h:v<l.length
  ·rw[Nw h,xM ⟨h0,h⟩]
   obtain⟨b,hb⟩:=hf _ (ws h0 h)
   rw[hb]
   simp only[oB]
   cases b with
   | true=>exact .inl ⟨v,Int.le_refl _,h,hb,by simp⟩
   | false=>
    simp only[Bool.false_eq_true,if_false]
    rw[xS (x:=v+1) (by omega)]
    rcases dx hf hl n (v+1) (by omega) (by omega) (by omega) (k:=k) with⟨i,i1,i2,i3,i4⟩ | ⟨i1,i2⟩
    ·exact .inl ⟨i,by omega,i2,i3,i4⟩
    ·refine .inr ⟨fun i j1 j2=>?_,i2⟩
     by_cases e:i=v
     ·rw[e];exact hb
     ·exact i1 i (by omega) j2
  ·rw[Nx h]
   exact .inr ⟨fun i h1 h2=>by omega,rfl⟩
structure VA (c:Cf) (net:Int) (rs:List (List Hop)):Prop where
 nt:net=0\/net=1
 len:rs.length=c.yb.length
 most:rs.length<=16
 each:∀ r∈rs,VR c net r
theorem nr{c:Cf}(h:Small c){rs:List (List Hop)}(hr:∀ r∈rs,r.length<1000000000)(hl:rs.length<1000000000):∃ b,gc c net rs=some b/\(b=true↔VA c net rs):=by
 unfold gc
 by_cases h1:(net=0\/net=1)/\rs.length=c.yb.length/\rs.length<=16
 ·rw[if_pos (by simp only[Bool.and_eq_true,Bool.or_eq_true,decide_eq_true_eq];omega)]
  unfold wU qy
  have hF:=wp
  generalize xT=N at hF ⊢
  have hf:∀ y∈rs,∃ b,(fun(y0:List Hop)=>q7 y0 c net) y=some b:=fun y hy=>by
   obtain⟨b,hb,_⟩:=XB h (net:=net) (hr y hy)
   exact⟨!b,by show q7 y c net=_;unfold q7;rw[hb];rfl⟩
  have hi:∃ x:Int,(uN (some (-1)) fun k=>wu rs (fun(y0:List Hop)=>q7 y0 c net) k N 0)=some x/\(x<0↔∀ i:Int,0<=i->i<rs.length->q7 (nth rs i) c net=some false):=by
   refine mF (P:=fun o=>∃ x:Int,o=some x/\(x<0↔∀ i:Int,0<=i->i<rs.length->q7 (nth rs i) c net=some false)) fun k hk=>?_
   rcases dx hf hl N 0 (by omega) (by omega) (by omega) (k:=k) with⟨i,i1,i2,i3,i4⟩ | ⟨i1,i2⟩
   ·refine⟨i,i4,fun hx=>absurd hx (by omega),fun hx=>?_⟩
    have:=hx i i1 i2
    have i3':q7 (nth rs i) c net=some true:=i3
    rw[this] at i3';cases i3'
   ·exact⟨-1,i2.trans hk,fun _=>i1,fun _=>by omega⟩
  obtain⟨x,hx1,hx2⟩:=hi
  rw[hx1]
  refine⟨_,rfl,?_⟩
  simp only[Bool.not_eq_true',decide_eq_false_iff_not]
  have Aq:(∀ i:Int,0<=i->i<rs.length->q7 (nth rs i) c net=some false)↔∀ r∈rs,VR c net r:=by
   constructor
   ·intro hh r zt
    obtain⟨i,hi,rfl⟩:=List.getElem_of_mem zt
    have h3:=hh (i:Int) (by omega) (by omega)
    rw[j6 ⟨by omega,by omega⟩] at h3
    simp only[Int.toNat_natCast] at h3
    obtain⟨b,hb,CI⟩:=XB h (net:=net) (hr _ (List.getElem_mem hi))
    unfold q7 at h3
    rw[hb] at h3
    simp at h3
    exact CI.1 h3
   ·intro hh i i1 i2
    have hm:=ws i1 i2
    obtain⟨b,hb,CI⟩:=XB h (net:=net) (hr _ hm)
    unfold q7
    rw[hb,CI.2 (hh _ hm)];rfl
  constructor
  ·intro hh;exact⟨h1.1,h1.2.1,h1.2.2,Aq.1 (hx2.1 (by omega))⟩
  ·intro hh;have:=hx2.2 (Aq.2 hh.each);omega
 ·rw[if_neg (by simp only[Bool.and_eq_true,Bool.or_eq_true,decide_eq_true_eq];omega)]
  refine⟨false,rfl,?_⟩
  simp only[Bool.false_eq_true,false_iff]
  exact fun hv=>h1 ⟨hv.nt,hv.len,hv.most⟩
structure FewP (c:Cf) (rs:List (List Hop)):Prop where
 m:c.fM.length<=8
 s:c.fS.length<=8
 l:c.fK.length<=20
 v:c.yb.length<=20
 r:rs.length<=20
 e:∀ r∈rs,r.length<=40
theorem FewP.small{c:Cf}{rs:List (List Hop)}(h:FewP c rs):Small c:=⟨by have:=h.m;omega,by have:=h.s;omega,by have:=h.l;omega,by have:=h.v;omega⟩
theorem Jf{rs:List (List Hop)}{k:Option Bool}(hl:rs.length<=20):∀(n:Nat) (v:Int),0<=v->v<=rs.length->rs.length<n+v->
  mY rs k n v=if ∀ r∈rs.drop v.toNat,r.length<=40 then k else some false
 | 0,v,h0,h1,h2=>by omega
 | n+1,v,h0,h1,h2=>by
  rw[mY]
  by_cases h:v<rs.length
  ·rw[Nw h,xM ⟨h0,h⟩,kg h0 h]
   by_cases hr:(((nth rs v).length:Nat):Int)>40
   ·rw[Nw hr,if_neg]
    intro hc;have:=hc (nth rs v) (by simp);omega
   ·rw[Nx hr,xS (x:=v+1) (by omega),Jf hl n (v+1) (by omega) (by omega) (by omega),show(v+1).toNat=v.toNat+1 by omega]
    by_cases hq:∀ r∈rs.drop (v.toNat+1),r.length<=40
    ·rw[if_pos hq,if_pos]
     intro r hr'
     rcases List.mem_cons.1 hr' with rfl | hr'
     ·omega
     ·exact hq r hr'
    ·rw[if_neg hq,if_neg]
     exact fun hc=>hq fun r hr'=>hc r (List.mem_cons_of_mem _ hr')
  ·rw[Nx h,if_pos]
   rw[List.drop_eq_nil_of_le (by omega)];simp
theorem Tp(c:Cf)(rs:List (List Hop)):∃ b,oa c rs=some b/\(b=true↔FewP c rs):=by
 unfold oa
 by_cases h:c.fM.length<=8/\c.fS.length<=8/\c.fK.length<=20/\c.yb.length<=20/\rs.length<=20
 ·obtain⟨h1,h2,h3,h4,h5⟩:=h
  rw[if_neg (by simp only[Bool.or_eq_true,Bool.and_eq_true,decide_eq_true_eq];omega)]
  refine mF (P:=fun o=>∃ b,o=some b/\(b=true↔FewP c rs)) fun k hk=>?_
  rw[Jf h5 xT 0 (by omega) (by omega) (by rw[wp];omega),hk]
  simp only[Int.toNat_zero,List.drop_zero]
  by_cases hq:∀ r∈rs,r.length<=40
  ·rw[if_pos hq];exact⟨true,rfl,by simp;exact⟨h1,h2,h3,h4,h5,hq⟩⟩
  ·rw[if_neg hq];exact⟨false,rfl,by simp;exact fun hc=>hq hc.e⟩
 ·rw[if_pos (by simp only[Bool.or_eq_true,Bool.and_eq_true,decide_eq_true_eq];omega)]
  refine⟨false,rfl,by simp;exact fun hc=>h ⟨hc.m,hc.s,hc.l,hc.v,hc.r⟩⟩
end
section
variable {r:List Hop}{rs:List (List Hop)}
theorem UL{RR A0 A1 A2:Type}{K:A0->A1->A2->Option RR}{F:(A0->A1->A2->Option RR)->Option RR}{P:Option RR->Prop}(h:∀ k:A0->A1->A2->Option RR,(∀ x0 x1 x2,k x0 x1 x2=K x0 x1 x2)->P (F k)):P (Vw K F):=h K fun _ _ _=>rfl
theorem bc{κ γ:Type}[DecidableEq κ]{k k':κ}{u:γ}:∀ l:List (κ×γ),wS (w7 l k u) k'=(decide (k'=k)||wS l k')
 | []=>by simp[w7,wS]
 | p::l=>by
  by_cases hk:k=p.1
  ·subst hk
   by_cases h2:k'=p.1 <;> simp[w7,wS,h2]
  ·simp only[w7,hk,if_false,wS,bc l]
   by_cases h2:k'=p.1
   ·simp[h2]
   ·simp[h2]
theorem l7{κ γ:Type}[DecidableEq κ]{k:κ}{u:γ}:∀ l:List (κ×γ),(w7 l k u).map (·.1)=if k∈l.map (·.1) then l.map (·.1) else l.map (·.1)++[k]
 | []=>by simp[w7]
 | p::l=>by
  by_cases hk:k=p.1
  ·subst hk;simp[w7]
  ·simp only[w7,hk,if_false,List.map_cons,l7 l,List.mem_cons,false_or]
   by_cases h:k∈l.map (·.1) <;> simp[h]
theorem gG{κ γ:Type}[DecidableEq κ]{k k':κ}{u d:γ}(l:List (κ×γ)):xK (w7 l k u) k' d=if k'=k then u else xK l k' d:=by
 by_cases h:k'=k
 ·subst h;rw[lU,if_pos rfl]
 ·rw[cB h,if_neg h]
theorem aW{α:Type}{p:α->α->Option Int}{lt:α->α->Prop}{l0:List α}(hp:∀ x∈l0,∀ y∈l0,rx p x y<=0↔¬lt y x)(zp:∀ x y,lt x y->¬lt y x)(DQ:∀ x y z,¬lt y x->¬lt z y->¬lt z x){x:α}(hx:x∈l0):∀ l:List α,(∀ y∈l,y∈l0)->(l.Pairwise fun a b=>¬lt b a)->(pO p x l).Pairwise fun a b=>¬lt b a
 | [],_,_=>by simp[pO]
 | y::l,hl,h=>by
  obtain⟨h1,h2⟩:=List.pairwise_cons.1 h
  unfold pO
  split
  ·rename_i hxy
   have hxy:=(hp x hx y (hl y (by simp))).1 hxy
   refine List.pairwise_cons.2 ⟨fun z hz=>?_,h⟩
   rcases List.mem_cons.1 hz with rfl | hz
   ·exact hxy
   ·exact DQ _ _ _ hxy (h1 z hz)
  ·rename_i hxy
   have hyx:lt y x:=by
    by_cases hc:lt y x
    ·exact hc
    ·exact absurd ((hp x hx y (hl y (by simp))).2 hc) hxy
   refine List.pairwise_cons.2 ⟨fun z hz=>?_,aW hp zp DQ hx l (fun z hz=>hl z (List.mem_cons_of_mem _ hz)) h2⟩
   rcases List.mem_cons.1 ((eQ _ x l).mem_iff.1 hz) with rfl | hz
   ·exact zp _ _ hyx
   ·exact h1 z hz
theorem ad{α:Type}{p:α->α->Option Int}{lt:α->α->Prop}{l0:List α}(hp:∀ x∈l0,∀ y∈l0,rx p x y<=0↔¬lt y x)(zp:∀ x y,lt x y->¬lt y x)(DQ:∀ x y z,¬lt y x->¬lt z y->¬lt z x):∀ l:List α,(∀ y∈l,y∈l0)->(wC p l).Pairwise fun a b=>¬lt b a
 | [],_=>by simp[wC]
 | x::l,hl=>by
  unfold wC
  exact aW hp zp DQ (hl x (by simp)) _ (fun y hy=>hl y (List.mem_cons_of_mem _ ((kK p l).mem_iff.1 hy))) (ad hp zp DQ l fun y hy=>hl y (List.mem_cons_of_mem _ hy))
theorem Yw{α:Type}[DecidableEq α]{p:α->α->Option Int}{lt:α->α->Prop}{l:List α}(hp:∀ x∈l,∀ y∈l,∃ v,p x y=some v/\(v<0↔lt x y)/\(v<=0↔¬lt y x))(zp:∀ x y,lt x y->¬lt y x)(DQ:∀ x y z,¬lt y x->¬lt z y->¬lt z x)(zS:∀ x∈l,∀ y∈l,¬lt x y->¬lt y x->x=y):ou p (wC p l)=true/\(wC p l).Pairwise fun a b=>¬lt b a:=by
 have hc:∀ x∈l,∀ y∈l,p x y=some (rx p x y)/\(rx p x y<0↔lt x y)/\(rx p x y<=0↔¬lt y x):=fun x hx y hy=>by
  obtain⟨v,h1,h2,h3⟩:=hp x hx y hy
  unfold rx;rw[h1];exact⟨rfl,h2,h3⟩
 have hm:∀ x∈wC p l,x∈l:=fun x hx=>(kK p l).mem_iff.1 hx
 have hs:=ad (fun x hx y hy=>(hc x hx y hy).2.2) zp DQ l (fun y hy=>hy)
 refine⟨?_,hs⟩
 simp only[ou,Bool.and_eq_true,List.all_eq_true,Bool.not_eq_true',decide_eq_false_iff_not,eR]
 refine⟨fun x hx=>⟨fun y hy=>by rw[(hc x (hm x hx) y (hm y hy)).1];rfl,fun h=>?_⟩,?_⟩
 ·have:=((hc x (hm x hx) x (hm x hx)).2.1).1 h;exact zp _ _ this this
 ·refine List.Pairwise.imp_of_mem ?_ hs
  intro x y hx hy hxy
  rw[(hc x (hm x hx) y (hm y hy)).2.1,(hc y (hm y hy) x (hm x hx)).2.1]
  by_cases h:lt x y
  ·exact .inr ⟨h,hxy⟩
  ·exact .inl (zS x (hm x hx) y (hm y hy) h hxy)
theorem ns(n:Nat)(h:n<4611686018427387904:=by omega):Go.Lib.bitLen n<=62:=Go.Lib.bitLen_le n 62 (by omega) (by omega)
theorem Yx{x:Int}(h:0<=x/\x<=18446744073709551615:=by omega):u64 x=x:=by
 unfold u64 IntKind.wrap;simp[IntKind.signed,IntKind.bits];omega
abbrev Pl:=z6
def pk(h:Hop):Pl:=⟨h.ya,h.fQ⟩
theorem of_eq(h:Hop):mw h=some (pk h):=rfl
def rZ(a b:Pl):Prop:=a.ya<b.ya\/a.ya=b.ya/\a.fQ<b.fQ
theorem Wo(a b:Pl):∃ v,vW a b=some v/\(v<0↔rZ a b)/\(v<=0↔¬rZ b a):=by
 unfold vW
 simp only[np,oB]
 rw[GG]
 refine⟨_,rfl,?_⟩
 unfold oG oG oG Jd rZ
 repeat' split
 all_goals first | omega | (constructor <;> omega)
theorem XC(x y:Pl):rZ x y->¬rZ y x:=by unfold rZ;omega
theorem Jg(x y z:Pl):¬rZ y x->¬rZ z y->¬rZ z x:=by unfold rZ;omega
theorem Wp{x y:Pl}(h1:¬rZ x y)(h2:¬rZ y x):x=y:=by
 unfold rZ at h1 h2
 obtain⟨a,b⟩:=x;obtain⟨c,d⟩:=y
 simp only at h1 h2
 have:a=c:=by omega
 have:b=d:=by omega
 subst_vars;rfl
theorem Jh{l:List Pl}(hs:l.length<=1000000):
  qg l (fun y0 y1=>vW y0 y1)=some (wC vW l)/\(wC vW l).Pairwise fun a b=>¬rZ b a:=by
 obtain⟨ho,BI⟩:=Yw (p:=vW) (l:=l) (fun x _ y _=>Wo x y) XC Jg (fun x _ y _=>Wp (x:=x) (y:=y))
 refine⟨?_,BI⟩
 unfold qg fj gJ
 rw[Yx,xM (by omega),oB]
 have hb:=ns l.length
 rw[Int.toNat_natCast,xM ⟨⟨rfl,rfl⟩,by omega,by omega,by omega⟩,xM ho,oB]
theorem YZ{l:List Pl}{v:Pl}{k:Option Int}(hl:l.length<1000000000):∀(n:Nat) (i:Int),0<=i->i<=l.length->l.length<n+i->
  (v∈l.drop i.toNat/\∃ j:Int,0<=j/\wE l v k n i=some j)\/(v∉l.drop i.toNat/\wE l v k n i=k)
 | 0,i,h0,h1,h2=>by omega
 | n+1,i,h0,h1,h2=>by
  rw[wE]
  by_cases h:i<l.length
  ·rw[Nw h,xM ⟨h0,h⟩,kg h0 h]
   have e:(⟨(nth l i).ya,(nth l i).fQ⟩:z6)=nth l i:=rfl
   rw[e]
   by_cases hv:v=nth l i
   ·rw[Nw hv]
    exact .inl ⟨by rw[hv];simp,i,h0,rfl⟩
   ·rw[Nx hv,xS (x:=i+1) (by omega)]
    have e2:(i+1).toNat=i.toNat+1:=by omega
    rcases YZ hl n (i+1) (by omega) (by omega) (by omega) (v:=v) (k:=k) with⟨h3,h4⟩ | ⟨h3,h4⟩
    ·rw[e2] at h3;exact .inl ⟨List.mem_cons_of_mem _ h3,h4⟩
    ·rw[e2] at h3
     refine .inr ⟨fun hc=>?_,h4⟩
     rcases List.mem_cons.1 hc with hc | hc
     ·exact hv hc
     ·exact h3 hc
  ·rw[Nx h,List.drop_eq_nil_of_le (by omega)]
   exact .inr ⟨by simp,rfl⟩
theorem Ji{l:List Pl}{v:Pl}(hl:l.length<1000000000):qf l v=some (decide (v∈l)):=by
 unfold qf jw
 have hF:=wp
 generalize xT=N at hF ⊢
 refine mF (P:=fun o=>(o.bind fun x=>some (decide (x>=0)))=some (decide (v∈l))) fun k hk=>?_
 rcases YZ hl N 0 (by omega) (by omega) (by omega) (v:=v) (k:=k) with⟨h1,j,h2,h3⟩ | ⟨h1,h2⟩
 ·rw[h3];simp only[Int.toNat_zero,List.drop_zero] at h1
  simp[h1,h2]
 ·rw[h2,hk];simp only[Int.toNat_zero,List.drop_zero] at h1
  simp[h1]
def rp(l:List Pl)(h:Hop):List Pl:=if pk h∈l then l else l++[pk h]
theorem nu(hs:List Hop)(l:List Pl):(hs.foldl rp l).length<=l.length+hs.length:=by
 induction hs generalizing l with
 | nil=>simp
 | cons h hs ih=>
  have:=ih (rp l h)
  have h2:(rp l h).length<=l.length+1:=by unfold rp;split <;> simp
  simp only[List.foldl_cons,List.length_cons];omega
theorem VN{hs:List Hop}(l:List Pl)(hn:l.Nodup):(hs.foldl rp l).Nodup/\∀ p,p∈hs.foldl rp l↔p∈l\/∃ h∈hs,pk h=p:=by
 induction hs generalizing l with
 | nil=>simp[hn]
 | cons h hs ih=>
  have h2:(rp l h).Nodup/\∀ p,p∈rp l h↔p∈l\/pk h=p:=by
   unfold rp
   split
   ·rename_i hc
    refine⟨hn,fun p=>⟨.inl,?_⟩⟩
    rintro(h | rfl)
    ·exact h
    ·exact hc
   ·rename_i hc
    refine⟨List.nodup_append.2 ⟨hn,by simp,fun a ha b hb=>?_⟩,fun p=>by simp[eq_comm]⟩
    simp at hb;subst hb;exact fun e=>hc (e▸ha)
  obtain⟨i1,i2⟩:=ih _ h2.1
  refine⟨i1,fun p=>?_⟩
  rw[List.foldl_cons,i2,h2.2]
  simp only[List.mem_cons,exists_eq_or_imp,or_assoc]
theorem VO{rs:List (List Hop)}{v:Int}{k:List Pl->Option (List Pl)}(hr:(nth rs v).length<=1000)(h0:0<=v)(hv:v<rs.length):∀(n:Nat) (o:List Pl) (i:Int),0<=i->i<=(nth rs v).length->(nth rs v).length<n+i->(o.length:Int)+((nth rs v).length-i)<=1000000->
  gS rs v k n o i=k (((nth rs v).drop i.toNat).foldl rp o)
 | 0,o,i,a0,a1,a2,a3=>by omega
 | n+1,o,i,a0,a1,a2,a3=>by
  rw[gS]
  by_cases h:i<(nth rs v).length
  ·rw[Nw h,kg a0 h,List.foldl_cons]
   refine wx (P:=fun x=>x=_) fun kk wT=>?_
   rw[xM ⟨a0,h⟩]
   have e:(⟨(nth (nth rs v) i).ya,(nth (nth rs v) i).fX,(nth (nth rs v) i).fQ⟩:zd)=nth (nth rs v) i:=rfl
   rw[e,of_eq,oB,Ji (by omega),oB]
   have e2:(i+1).toNat=i.toNat+1:=by omega
   have kM:(rp o (nth (nth rs v) i)).length<=o.length+1:=by unfold rp;split <;> simp
   have Bo:kk (rp o (nth (nth rs v) i))=k (((nth rs v).drop (i.toNat+1)).foldl rp (rp o (nth (nth rs v) i))):=by
    rw[wT,xS (x:=i+1) (by omega),VO hr h0 hv n _ (i+1) (by omega) (by omega) (by omega) (by omega),e2]
   by_cases hc:pk (nth (nth rs v) i)∈o
   ·rw[if_neg (by simpa using hc),<- Bo]
    unfold rp;rw[if_pos hc]
   ·rw[if_pos (by simpa using hc),oB,xM (by simp;omega),<- Bo]
    unfold rp;rw[if_neg hc]
  ·rw[Nx h,List.drop_eq_nil_of_le (by omega)];rfl
def nv(rs:List (List Hop)):List Hop:=rs.flatten
theorem Wq{rs:List (List Hop)}{k:List Pl->Option (List Pl)}(hr:∀ r∈rs,r.length<=1000)(hl:rs.length<=100):∀(n:Nat) (o:List Pl) (v:Int),0<=v->v<=rs.length->rs.length<n+v->(o.length:Int)+1000*(rs.length-v)<=1000000->
  gT rs k n o v=k ((nv (rs.drop v.toNat)).foldl rp o)
 | 0,o,i,a0,a1,a2,a3=>by omega
 | n+1,o,v,a0,a1,a2,a3=>by
  rw[gT]
  by_cases h:v<rs.length
  ·have Ci:=hr _ (ws a0 h)
   rw[Nw h,kg a0 h]
   unfold nv
   rw[List.flatten_cons,List.foldl_append]
   refine wx (P:=fun x=>x=_) fun kk wT=>?_
   rw[xM ⟨a0,h⟩]
   refine wx (P:=fun x=>x=_) fun k2 qI=>?_
   rw[VO Ci a0 h xT o 0 (by omega) (by omega) (by rw[wp];omega) (by omega)]
   simp only[Int.toNat_zero,List.drop_zero]
   have:=nu (nth rs v) o
   rw[qI,wT,xS (x:=v+1) (by omega),Wq hr hl n _ (v+1) (by omega) (by omega) (by omega) (by omega),show(v+1).toNat=v.toNat+1 by omega]
   rfl
  ·rw[Nx h,List.drop_eq_nil_of_le (by omega)];rfl
def PS(rs:List (List Hop)):List Pl:=wC vW ((nv rs).foldl rp [])
theorem lV(rs:List (List Hop)):(PS rs).Nodup:=(kK _ _).nodup_iff.2 (VN [] (by simp)).1
theorem sH(rs:List (List Hop)){p:Pl}:p∈PS rs↔∃ r∈rs,∃ h∈r,pk h=p:=by
 unfold PS
 rw[(kK _ _).mem_iff,(VN [] (by simp)).2]
 unfold nv
 simp only[List.not_mem_nil,false_or,List.mem_flatten]
 exact⟨fun⟨h,⟨r,hr,hh⟩,e⟩=>⟨r,hr,h,hh,e⟩,fun⟨r,hr,h,hh,e⟩=>⟨h,⟨r,hr,hh⟩,e⟩⟩
theorem XD{m:Nat}(hr:∀ r∈rs,r.length<=m):(nv rs).length<=rs.length*m:=by
 unfold nv
 induction rs with
 | nil=>simp
 | cons r rs ih=>
  have:=ih fun r h=>hr r (List.mem_cons_of_mem _ h)
  have h1:=hr r (by simp)
  rw[List.flatten_cons,List.length_append,List.length_cons,Nat.succ_mul];omega
theorem aX{m:Nat}(hr:∀ r∈rs,r.length<=m):(PS rs).length<=rs.length*m:=by
 unfold PS
 rw[tz]
 have:=nu (nv rs) []
 have:=XD hr
 simp at *;omega
theorem Fu(hr:∀ r∈rs,r.length<=1000)(hl:rs.length<=100):ss rs=some (PS rs):=by
 unfold ss
 refine wx (P:=fun o=>o=some (PS rs)) fun k hk=>?_
 rw[Wq hr hl xT [] 0 (by omega) (by omega) (by rw[wp];omega) (by simp;omega),hk]
 simp only[Int.toNat_zero,List.drop_zero]
 have h1:=nu (nv rs) []
 have h2:=XD hr
 have h3:rs.length*1000<=100*1000:=Nat.mul_le_mul_right _ hl
 rw[(Jh (by simp at h1;omega)).1]
 rfl
def gk(r:List Hop)(n:Int):Hop×Bool:=match r.find? (fun h=>decide (h.fX=n)) with | some h=>(h,true) | none=>(⟨0,0,0⟩,false)
theorem ew{n:Int}(h:(gk r n).2=true):(gk r n).1∈r/\(gk r n).1.fX=n:=by
 unfold gk at *
 split at h
 ·rename_i x hx
  simp only[hx]
  exact⟨List.mem_of_find?_eq_some hx,by simpa using List.find?_some hx⟩
 ·cases h
theorem Jj{g:Hop}(h:g∈r):(gk r g.fX).2=true:=by
 unfold gk
 split
 ·rfl
 ·rename_i hx
  have:=List.find?_eq_none.1 hx g h
  simp at this
theorem X0{r:List Hop}{f:Hop->Option Bool}{p:Hop->Bool}{k:Option Int}(hf:∀ h∈r,f h=some (p h))(hl:r.length<1000000000):∀(n:Nat) (i:Int),0<=i->i<=r.length->r.length<n+i->
  (∃ j:Int,0<=j/\j<r.length/\(r.drop i.toNat).find? p=some (nth r j)/\wL r f k n i=some j)\/((r.drop i.toNat).find? p=none/\wL r f k n i=k)
 | 0,i,h0,h1,h2=>by omega
 | n+1,i,h0,h1,h2=>by
  rw[wL]
  by_cases h:i<r.length
  ·rw[Nw h,xM ⟨h0,h⟩,kg h0 h]
   have e:(⟨(nth r i).ya,(nth r i).fX,(nth r i).fQ⟩:zd)=nth r i:=rfl
   rw[e,hf _ (ws h0 h),oB]
   by_cases hp:p (nth r i)=true
   ·rw[if_pos hp,List.find?_cons_of_pos hp];exact .inl ⟨i,h0,h,rfl,rfl⟩
   ·rw[if_neg hp,List.find?_cons_of_neg hp,xS (x:=i+1) (by omega)]
    have e2:(i+1).toNat=i.toNat+1:=by omega
    rw[<- e2]
    exact X0 hf hl n (i+1) (by omega) (by omega) (by omega)
  ·rw[Nx h,List.drop_eq_nil_of_le (by omega)]
   exact .inr ⟨rfl,rfl⟩
theorem bY{f:Hop->Option Bool}{p:Hop->Bool}(hf:∀ h∈r,f h=some (p h))(hl:r.length<1000000000):
  (∃ j:Int,0<=j/\j<r.length/\r.find? p=some (nth r j)/\wG r f=some j)\/(r.find? p=none/\wG r f=some (-1)):=by
 unfold wG
 have hF:=wp
 generalize xT=N at hF ⊢
 refine mF (P:=fun o=>(∃ j:Int,0<=j/\j<r.length/\r.find? p=some (nth r j)/\o=some j)\/(r.find? p=none/\o=some (-1))) fun k hk=>?_
 have:=X0 hf hl N 0 (by omega) (by omega) (by omega) (k:=k)
 simp only[Int.toNat_zero,List.drop_zero] at this
 rw[hk] at this ⊢
 exact this
theorem Vh{n:Int}(hl:r.length<1000000000):uY r n=some (gk r n):=by
 unfold uY gk
 rcases bY (r:=r) (f:=fun y0=>su y0 n) (p:=fun h=>decide (h.fX=n)) (fun h _=>rfl) hl with⟨j,j0,j1,j2,j3⟩ | ⟨j2,j3⟩
 ·rw[j3,j2,oB,if_neg (by simpa using j0),xM ⟨j0,j1⟩]
 ·rw[j3,j2,oB];rfl
theorem Jk{f:Hop->Option Bool}{p:Hop->Bool}(hf:∀ h∈r,f h=some (p h))(hl:r.length<1000000000):vG r f=some (r.any p):=by
 unfold vG
 rcases bY hf hl with⟨j,j0,j1,j2,j3⟩ | ⟨j2,j3⟩
 ·rw[j3,oB,decide_eq_true j0]
  rw[eq_comm,Option.some.injEq,eq_comm,eq_comm,List.any_eq_true]
  exact⟨_,ws j0 j1,List.find?_some j2⟩
 ·rw[j3,oB]
  have:r.any p=false:=by
   rw[List.any_eq_false];exact List.find?_eq_none.1 j2
  rw[this];rfl
end
section
variable {p:Pl}{mp:List (Pl×Int)}{rs:List (List Hop)}
def XE(r:List Hop)(p:Pl)(mp:List (Pl×Int))(h:Hop):Bool:=(decide (pk h=p)&&(gk r h.ya).2)&&decide (xK mp (pk (gk r h.ya).1) 0=0)
theorem GI{r:List Hop}{h:Hop}(hl:r.length<1000000000):uC h r p mp=some (XE r p mp h):=by
 unfold uC XE
 rw[Vh hl,of_eq,oB,oB]
 by_cases hc:(decide (pk h=p)&&(gk r h.ya).2)=true
 ·rw[if_pos hc,of_eq,hc];rfl
 ·rw[if_neg hc];simp only[Bool.not_eq_true] at hc;rw[hc];rfl
theorem KW{s r:List Hop}{p:Pl}{mp:List (Pl×Int)}{k:Option Int}(hr:r.length<1000000000)(hl:s.length<1000000000):∀(n:Nat) (i:Int),0<=i->i<=s.length->s.length<n+i->
  ((s.drop i.toNat).any (XE r p mp)=true/\∃ j:Int,0<=j/\wH s r p mp k n i=some j)\/((s.drop i.toNat).any (XE r p mp)=false/\wH s r p mp k n i=k)
 | 0,i,h0,h1,h2=>by omega
 | n+1,i,h0,h1,h2=>by
  rw[wH]
  by_cases h:i<s.length
  ·rw[Nw h,xM ⟨h0,h⟩,kg h0 h]
   have e:(⟨(nth s i).ya,(nth s i).fX,(nth s i).fQ⟩:zd)=nth s i:=rfl
   rw[e,GI hr,oB,List.any_cons]
   cases hb:XE r p mp (nth s i) with
   | true=>rw[if_pos rfl];exact .inl ⟨rfl,i,h0,rfl⟩
   | false=>
    rw[if_neg (by simp),Bool.false_or,xS (x:=i+1) (by omega)]
    have e2:(i+1).toNat=i.toNat+1:=by omega
    rw[<- e2]
    exact KW hr hl n (i+1) (by omega) (by omega) (by omega)
  ·rw[Nx h,List.drop_eq_nil_of_le (by omega)]
   exact .inr ⟨rfl,rfl⟩
def aY(p:Pl)(mp:List (Pl×Int))(r:List Hop):Bool:=r.any (XE r p mp)
theorem Fv{r:List Hop}(hl:r.length<1000000000):tO r p mp=some (aY p mp r):=by
 unfold tO je jG
 have hF:=wp
 generalize xT=N at hF ⊢
 refine mF (P:=fun o=>((o.bind fun x=>some (decide (x>=0))).bind fun x=>some x)=some (aY p mp r)) fun k hk=>?_
 have:=KW (s:=r) (r:=r) (p:=p) (mp:=mp) (k:=k) hl hl N 0 (by omega) (by omega) (by omega)
 simp only[Int.toNat_zero,List.drop_zero] at this
 unfold aY
 rcases this with⟨h1,j,h2,h3⟩ | ⟨h1,h2⟩
 ·rw[h3,h1];simp[h2]
 ·rw[h2,hk,h1];simp
theorem KX{s:List (List Hop)}{p:Pl}{mp:List (Pl×Int)}{k:Option Int}(hr:∀ r∈s,r.length<1000000000)(hl:s.length<1000000000):∀(n:Nat) (i:Int),0<=i->i<=s.length->s.length<n+i->
  ((s.drop i.toNat).any (aY p mp)=true/\∃ j:Int,0<=j/\wD s p mp k n i=some j)\/((s.drop i.toNat).any (aY p mp)=false/\wD s p mp k n i=k)
 | 0,i,h0,h1,h2=>by omega
 | n+1,i,h0,h1,h2=>by
  rw[wD]
  by_cases h:i<s.length
  ·rw[Nw h,xM ⟨h0,h⟩,kg h0 h]
   rw[Fv (hr _ (ws h0 h)),oB,List.any_cons]
   cases hb:aY p mp (nth s i) with
   | true=>rw[if_pos rfl];exact .inl ⟨rfl,i,h0,rfl⟩
   | false=>
    rw[if_neg (by simp),Bool.false_or,xS (x:=i+1) (by omega)]
    have e2:(i+1).toNat=i.toNat+1:=by omega
    rw[<- e2]
    exact KX hr hl n (i+1) (by omega) (by omega) (by omega)
  ·rw[Nx h,List.drop_eq_nil_of_le (by omega)]
   exact .inr ⟨rfl,rfl⟩
def wq(rs:List (List Hop))(mp:List (Pl×Int))(p:Pl):Bool:=rs.any (aY p mp)
theorem Tq(hr:∀ r∈rs,r.length<1000000000)(hl:rs.length<1000000000):q8 rs p mp=some (wq rs mp p):=by
 unfold q8 jf
 have hF:=wp
 generalize xT=N at hF ⊢
 refine mF (P:=fun o=>(o.bind fun x=>some (decide (x>=0)))=some (wq rs mp p)) fun k hk=>?_
 have:=KX (s:=rs) (p:=p) (mp:=mp) (k:=k) hr hl N 0 (by omega) (by omega) (by omega)
 simp only[Int.toNat_zero,List.drop_zero] at this
 unfold wq
 rcases this with⟨h1,j,h2,h3⟩ | ⟨h1,h2⟩
 ·rw[h3,h1];simp[h2]
 ·rw[h2,hk,h1];simp
def aZ(rs:List (List Hop))(p q:Pl):Prop:=∃ r∈rs,∃ h∈r,pk h=p/\(gk r h.ya).2=true/\pk (gk r h.ya).1=q
theorem Vi:wq rs mp p=true↔∃ q,aZ rs p q/\xK mp q 0=0:=by
 unfold wq aY XE aZ
 simp only[List.any_eq_true,Bool.and_eq_true,decide_eq_true_eq]
 constructor
 ·rintro⟨r,hr,h,hh,⟨e,i⟩,z⟩;exact⟨_,⟨r,hr,h,hh,e,i,rfl⟩,z⟩
 ·rintro⟨q,⟨r,hr,h,hh,e,i,rfl⟩,z⟩;exact⟨r,hr,h,hh,⟨e,i⟩,z⟩
theorem aZ.mem{q:Pl}(h:aZ rs p q):q∈PS rs:=by
 obtain⟨r,hr,h,hh,e,i,rfl⟩:=h
 exact(sH rs).2 ⟨r,hr,_,(ew i).1,rfl⟩
abbrev OR:=List z6×Int
theorem Jl{ir out:List Pl}{rs:List (List Hop)}{mp:List (Pl×Int)}{k1:List Pl->List Pl->List (Pl×Int)->Option OR}{k2:Option OR}(hr:∀ r∈rs,r.length<1000000000)(hl:rs.length<1000000000)(hs:ir.length+out.length<=1000000):∀(n:Nat) (v:Int),0<=v->v<=ir.length->ir.length<n+v->
  (∃(l1:List Pl) (p:Pl) (l2:List Pl),ir=l1++p::l2/\wq rs mp p=false/\gv ir rs mp out k1 k2 n v=k1 (l1++l2) (out++[p]) (w7 mp p (i64 (xK mp p 0+1)))) \/
  ((∀ p∈ir.drop v.toNat,wq rs mp p=true)/\gv ir rs mp out k1 k2 n v=k2)
 | 0,v,h0,h1,h2=>by omega
 | n+1,v,h0,h1,h2=>by
  rw[gv]
  by_cases h:v<ir.length
  ·rw[Nw h,xM ⟨h0,h⟩]
   have e:(⟨(nth ir v).ya,(nth ir v).fQ⟩:z6)=nth ir v:=rfl
   rw[e,Tq hr hl,oB]
   cases hb:wq rs mp (nth ir v) with
   | false=>
    rw[if_pos (by rfl),xM (by simp;omega)]
    refine .inl ⟨ir.take v.toNat,nth ir v,ir.drop (v.toNat+1),?_,hb,?_⟩
    ·rw[<- kg h0 h,List.take_append_drop]
    ·unfold l3
     rw[xS (x:=v+1) (by omega),xM (by omega),oB,show(v+1).toNat=v.toNat+1 by omega]
   | true=>
    rw[if_neg (by simp),xS (x:=v+1) (by omega)]
    have e2:(v+1).toNat=v.toNat+1:=by omega
    rcases Jl hr hl hs n (v+1) (by omega) (by omega) (by omega) (k1:=k1) (k2:=k2) (mp:=mp) with h3 | ⟨h3,h4⟩
    ·exact .inl h3
    ·refine .inr ⟨?_,h4⟩
     rw[kg h0 h,<- e2]
     intro p hp
     rcases List.mem_cons.1 hp with rfl | hp
     ·exact hb
     ·exact h3 p hp
  ·rw[Nx h,List.drop_eq_nil_of_le (by omega)]
   exact .inr ⟨by simp,rfl⟩
def qx(rs:List (List Hop))(l:List Pl):Prop:=∀ l1 p l2,l=l1++p::l2->∀ q,aZ rs p q->q∈l1
def bZ(rs:List (List Hop))(s:List Pl):Prop:=s≠[]/\∀ p∈s,p∈PS rs/\∃ q∈s,aZ rs p q
theorem Wr{rs:List (List Hop)}{k:List Pl->Option OR}(hr:∀ r∈rs,r.length<1000000000)(hl:rs.length<1000000000)(hp:(PS rs).length<=1000000):∀(n:Nat) (ir out:List Pl) (mp:List (Pl×Int)),ir.length<n->
  (ir++out).Perm (PS rs)->(∀ q,xK mp q 0=if q∈out then 1 else 0)->qx rs out->
  (∃ l,l.Perm (PS rs)/\qx rs l/\gw rs k n ir out mp=k l)\/(∃ s,bZ rs s/\gw rs k n ir out mp=some ([],351))
 | 0,ir,out,mp,h0,h1,h2,h3=>by omega
 | n+1,ir,out,mp,h0,h1,h2,h3=>by
  rw[gw]
  have kM:=h1.length_eq
  rw[List.length_append] at kM
  have BB:(ir++out).Nodup:=h1.nodup_iff.2 (lV rs)
  by_cases h:ir.length>0
  ·rw[if_pos (by simpa using h)]
   refine UL (P:=fun o=>(∃ l,l.Perm (PS rs)/\qx rs l/\o=k l)\/(∃ s,bZ rs s/\o=some ([],351))) fun k1 w6=>?_
   refine mF (P:=fun o=>(∃ l,l.Perm (PS rs)/\qx rs l/\o=k l)\/(∃ s,bZ rs s/\o=some ([],351))) fun k2 qI=>?_
   rcases Jl hr hl (show ir.length+out.length<=1000000 by omega) xT 0 (by omega) (by omega) (by rw[wp];omega) (k1:=k1) (k2:=k2) (mp:=mp) with⟨l1,p,l2,e1,e2,e3⟩ | ⟨e1,e2⟩
   ·subst e1
    have hpo:p∉out:=fun hc=>by
     have:=(List.nodup_append.1 BB).2.2 p (by simp) p hc;exact this rfl
    rw[e3,w6]
    have hm:xK mp p 0=0:=by rw[h2,if_neg hpo]
    rw[hm,xS (by omega)]
    refine Wr hr hl hp n _ _ _ (by simp at h0 ⊢;omega) ?_ ?_ ?_
    ·refine List.Perm.trans ?_ h1
     rw[<- List.append_assoc]
     refine(List.perm_append_comm).trans ?_
     simp only[List.singleton_append,List.append_assoc,List.cons_append]
     refine List.Perm.trans ?_ (List.perm_middle (l₁:=l1)).symm
     simp
    ·intro q
     rw[gG,h2]
     by_cases hq:q=p
     ·subst hq;simp
     ·simp[hq]
    ·intro a q b zT q' C7
     rcases List.append_eq_append_iff.1 zT with⟨w,hw1,AF⟩ | ⟨w,hw1,AF⟩
     ·-- the last one
      cases w with
      | nil=>
       simp at AF hw1
       obtain⟨rfl,rfl⟩:=AF
       subst hw1
       by_cases hc:xK mp q' 0=0
       ·exact absurd (Vi.2 ⟨q',C7,hc⟩) (by rw[e2];simp)
       ·rw[h2] at hc
        by_cases zn:q'∈a
        ·exact zn
        ·rw[if_neg zn] at hc;exact absurd rfl hc
      | cons x w=>simp at AF
     ·cases w with
      | nil=>
       simp at AF hw1
       obtain⟨rfl,rfl⟩:=AF
       subst hw1
       by_cases hc:xK mp q' 0=0
       ·exact absurd (Vi.2 ⟨q',C7,hc⟩) (by rw[e2];simp)
       ·rw[h2] at hc
        by_cases zn:q'∈out
        ·exact zn
        ·rw[if_neg zn] at hc;exact absurd rfl hc
      | cons x w=>
       rw[List.cons_append] at AF
       injection AF with hx AF
       subst hx
       exact h3 a q w hw1 q' C7
   ·refine .inr ⟨ir,⟨by rintro rfl;simp at h,fun p hp=>⟨h1.subset (by simp[hp]),?_⟩⟩,by rw[e2,qI]⟩
    obtain⟨q,hq,hz⟩:=Vi.1 (e1 p (by simpa using hp))
    refine⟨q,?_,hq⟩
    have hm:=h1.symm.subset hq.mem
    rcases List.mem_append.1 hm with hm | hm
    ·exact hm
    ·rw[h2,if_pos hm] at hz;omega
  ·rw[if_neg (by simpa using h)]
   have:ir=[]:=List.eq_nil_of_length_eq_zero (by omega)
   subst this
   exact .inl ⟨out,h1,h3,rfl⟩
theorem Jm(hr:∀ r∈rs,r.length<=1000)(hl:rs.length<=100):
  (∃ l,l.Perm (PS rs)/\qx rs l/\ux rs=some (l,0))\/(∃ s,bZ rs s/\ux rs=some ([],351)):=by
 unfold ux
 have Ez:=aX hr
 have h3:rs.length*1000<=100*1000:=Nat.mul_le_mul_right _ hl
 rw[Fu hr hl,oB]
 refine wx (P:=fun o:Option OR=>(∃ l,l.Perm (PS rs)/\qx rs l/\o=some (l,0))\/(∃ s,bZ rs s/\o=some ([],351))) fun k hk=>?_
 rcases Wr (k:=k) (fun r h=>by have:=hr r h;omega) (by omega) (by omega) xT (PS rs) [] [] (by rw[wp];omega) (by simp) (by simp[xK]) (fun l1 p l2 h=>by simp at h) with⟨l,e1,e2,e3⟩ | ⟨s,e1,e2⟩
 ·exact .inl ⟨l,e1,e2,by rw[e3,hk]⟩
 ·exact .inr ⟨s,e1,e2⟩
end
section
variable {net:Int}{rs:List (List Hop)}
theorem rL{α:Type}[Inhabited α]{l:List α}{x:α}(h:x∈l):∃ i:Int,0<=i/\i<l.length/\nth l i=x:=by
 obtain⟨i,hi,rfl⟩:=List.getElem_of_mem h
 refine⟨(i:Int),by omega,by omega,?_⟩
 rw[j6 ⟨by omega,by omega⟩];rfl
theorem VR.uniq{c:Cf}{r:List Hop}(h:VR c net r){x y:Hop}(hx:x∈r)(hy:y∈r)(e:x.fX=y.fX):x=y:=by
 obtain⟨i,i0,i1,rfl⟩:=rL hx
 obtain⟨j,j0,j1,rfl⟩:=rL hy
 rcases Int.lt_trichotomy i j with k | k | k
 ·exact absurd (.inr ⟨i,i0,k,e⟩) (h.cond j j0 j1).2.1
 ·rw[k]
 ·exact absurd (.inr ⟨j,j0,k,e.symm⟩) (h.cond i i0 i1).2.1
theorem VR.into{c:Cf}{r:List Hop}(h:VR c net r){g:Hop}(hg:g∈r):gk r g.fX=(g,true):=by
 have h1:=Jj hg
 obtain⟨h2,h3⟩:=ew h1
 exact Prod.ext (h.uniq h2 hg h3) h1
def Edg(rs:List (List Hop))(a b:Pl):Prop:=∃ r∈rs,∃ g∈r,∃ h∈r,g.fX=h.ya/\pk g=a/\pk h=b
theorem Fx{c:Cf}(hv:VA c net rs){a b:Pl}:Edg rs a b↔aZ rs b a:=by
 constructor
 ·rintro⟨r,hr,g,hg,h,hh,e,rfl,rfl⟩
  refine⟨r,hr,h,hh,rfl,?_⟩
  rw[<- e,(hv.each r hr).into hg];exact⟨rfl,rfl⟩
 ·rintro⟨r,hr,h,hh,rfl,e,rfl⟩
  obtain⟨h2,h3⟩:=ew e
  exact⟨r,hr,_,h2,h,hh,h3,rfl,rfl⟩
theorem Edg.left{a b:Pl}(h:Edg rs a b):a∈PS rs:=by
 obtain⟨r,hr,g,hg,h,hh,e,rfl,rfl⟩:=h;exact(sH rs).2 ⟨r,hr,g,hg,rfl⟩
theorem Edg.right{a b:Pl}(h:Edg rs a b):b∈PS rs:=by
 obtain⟨r,hr,g,hg,h,hh,e,rfl,rfl⟩:=h;exact(sH rs).2 ⟨r,hr,h,hh,rfl⟩
end
section
abbrev R:=z2
variable {x:R}
theorem bd{x:Int}(h:0<=x/\x<=18446744073709551615:=by omega):u64 x=x:=by
 unfold u64 IntKind.wrap;simp[IntKind.signed,IntKind.bits];omega
theorem Yy{n:Int}(h:-9223372036854775808<=n/\n<=9223372036854775807:=by omega):tP n=some (n.natAbs:Int):=by
 unfold tP
 by_cases hn:n<0
 ·rw[if_pos (by simpa using hn)]
  rw[xS (x:=n+1) (by omega),xS (x:=0-(n+1)) (by omega),bd (x:=0-(n+1)),bd]
  congr 1;omega
 ·rw[Nx hn,bd]
  congr 1;omega
theorem Jn(x y:Nat):Int.tmod (x:Int) (y:Int)=((x % y:Nat):Int):=rfl
theorem Jo{k:Int->Option Int}:∀(m n x y:Nat),y<2 ^ m->2*m<n->jx k n x y=k (Nat.gcd x y:Nat)
 | 0,n+1,x,y,hy,_=>by
  have:y=0:=by omega
  subst this
  rw[jx];simp
 | m+1,n+2,x,y,hy,hn=>by
  rw[jx]
  by_cases h0:y=0
  ·subst h0;simp
  ·rw[if_pos (by simpa using h0),xM (by simpa using h0),Jn]
   rw[jx]
   have hg:Nat.gcd x y=Nat.gcd y (x % y):=by rw[Nat.gcd_comm x y,Nat.gcd_rec,Nat.gcd_comm]
   by_cases h1:x % y=0
   ·rw[h1] at hg ⊢;simp[hg]
   ·have Br:((x % y:Nat):Int)≠0:=fun h=>h1 (by exact_mod_cast h)
    rw[Nw Br,xM Br,Jn]
    have hr:x % y<y:=Nat.mod_lt _ (by omega)
    have Cz:Nat.gcd y (x % y)=Nat.gcd (x % y) (y % (x % y)):=by rw[Nat.gcd_comm y (x % y),Nat.gcd_rec,Nat.gcd_comm]
    rw[Jo m n (x % y) (y % (x % y)) ?_ (by omega),hg,Cz]
    have h2:y % (x % y)<x % y:=Nat.mod_lt _ (by omega)
    have h3:2*(y % (x % y))<=y:=by
     have h4:=Nat.div_add_mod y (x % y)
     have h5:1<=y / (x % y):=(Nat.one_le_div_iff (by omega)).2 (by omega)
     have h6:x % y*1<=x % y*(y / (x % y)):=Nat.mul_le_mul_left _ h5
     omega
    have h7:2 ^ (m+1)=2*2 ^ m:=by rw[Nat.pow_succ,Nat.mul_comm]
    omega
theorem Fy{x y:Nat}(hy:y<2 ^ 64):mZ x y=some ((Nat.gcd x y:Nat):Int):=by
 unfold mZ
 simp only[qt]
 exact Jo 64 xT x y hy (by rw[wp];omega)
def fits(q:Rat):Bool:=decide (q.num.natAbs<=1073741824/\q.den<=1073741824)
def p7(q:Rat):R:=⟨q.num,(q.den:Int)⟩
def val(x:R):Rat:=Rat.divInt x.fN x.fD
def V(x:R):Bool:=decide (1<=x.fD/\x.fD<=1073741824 /\ -1073741824<=x.fN/\x.fN<=1073741824/\Nat.gcd x.fN.natAbs x.fD.natAbs=1)
theorem cC(q:Rat):val (p7 q)=q:=Rat.num_divInt_den q
theorem nw{q:Rat}(h:fits q=true):V (p7 q)=true:=by
 simp only[fits,decide_eq_true_eq] at h
 have hr:=q.reduced
 have hd:=q.den_pos
 unfold V p7
 rw[decide_eq_true_eq]
 refine⟨by show(1:Int)<=(q.den:Int);omega,by show(q.den:Int)<=1073741824;omega,by show _<=q.num;omega,by show q.num<=_;omega,hr⟩
theorem Ws(h:V x=true):(val x).num=x.fN/\((val x).den:Int)=x.fD:=by
 simp only[V,decide_eq_true_eq] at h
 obtain⟨h1,h2,h3,h4,h5⟩:=h
 have hg:Int.gcd x.fD x.fN=1:=by rw[Int.gcd,Nat.gcd_comm];exact h5
 constructor
 ·rw[val,Rat.num_divInt,hg,Int.sign_eq_one_of_pos (by omega)];simp
 ·rw[val,Rat.den_divInt,hg,if_neg (by omega)];simp;omega
theorem Vj(h:V x=true):p7 (val x)=x:=by
 obtain⟨h1,h2⟩:=Ws h
 simp only[p7,h1,h2]
theorem KY{y:R}(hx:V x=true)(hy:V y=true)(h:val x=val y):x=y:=by rw[<- Vj hx,<- Vj hy,h]
def mk(q:Rat):R×Int:=if fits q then(p7 q,0) else(⟨0,0⟩,3)
theorem ez{n d:Int}(hd:d≠0)(h:n.natAbs<=4611686018427387904/\d.natAbs<=4611686018427387904:=by omega):uJ n d=some (mk (Rat.divInt n d)):=by
 unfold uJ
 rw[Nx hd,Yy,Yy,oB,oB,Fy (by omega),oB]
 have hg:0<Nat.gcd n.natAbs d.natAbs:=Nat.gcd_pos_of_pos_right _ (by omega)
 rw[xM (by omega)]
 have hn:=Nat.div_le_self n.natAbs (Nat.gcd n.natAbs d.natAbs)
 have hdd:=Nat.div_le_self d.natAbs (Nat.gcd n.natAbs d.natAbs)
 have en:u64 (Int.tdiv (n.natAbs:Int) (Nat.gcd n.natAbs d.natAbs:Nat))=((n.natAbs / Nat.gcd n.natAbs d.natAbs:Nat):Int):=bd (h:=⟨Int.natCast_nonneg _,by
  show((n.natAbs / Nat.gcd n.natAbs d.natAbs:Nat):Int)<=_
  omega⟩)
 have ed:u64 (Int.tdiv (d.natAbs:Int) (Nat.gcd n.natAbs d.natAbs:Nat))=((d.natAbs / Nat.gcd n.natAbs d.natAbs:Nat):Int):=bd (h:=⟨Int.natCast_nonneg _,by
  show((d.natAbs / Nat.gcd n.natAbs d.natAbs:Nat):Int)<=_
  omega⟩)
 rw[en,ed]
 have hG:Int.gcd d n=Nat.gcd n.natAbs d.natAbs:=by rw[Int.gcd,Nat.gcd_comm]
 have qd:(Rat.divInt n d).den=d.natAbs / Nat.gcd n.natAbs d.natAbs:=by rw[Rat.den_divInt,if_neg hd,hG]
 have qn:(Rat.divInt n d).num=if (decide (n<0)) != (decide (d<0)) then -((n.natAbs / Nat.gcd n.natAbs d.natAbs:Nat):Int) else((n.natAbs / Nat.gcd n.natAbs d.natAbs:Nat):Int):=by
  rw[Rat.num_divInt,hG]
  have hdv:(Nat.gcd n.natAbs d.natAbs:Int) ∣ (n.natAbs:Int):=Int.natCast_dvd_natCast.2 (Nat.gcd_dvd_left _ _)
  rcases Int.lt_or_le n 0 with h1 | h1 <;> rcases Int.lt_or_le d 0 with h2 | h2
  ·rw[Int.sign_eq_neg_one_of_neg h2,show(-1:Int)*n=(n.natAbs:Int) by omega]
   simp[h1,h2]
  ·rw[Int.sign_eq_one_of_pos (by omega),show(1:Int)*n = -(n.natAbs:Int) by omega,Int.neg_ediv_of_dvd hdv]
   have DR:¬d<0:=by omega
   simp[h1,DR]
  ·rw[Int.sign_eq_neg_one_of_neg h2,show(-1:Int)*n = -(n.natAbs:Int) by omega,Int.neg_ediv_of_dvd hdv]
   have Br:¬n<0:=by omega
   simp[h2,Br]
  ·rw[Int.sign_eq_one_of_pos (by omega),show(1:Int)*n=(n.natAbs:Int) by omega]
   have Br:¬n<0:=by omega
   have DR:¬d<0:=by omega
   simp[DR,Br]
 generalize hA:n.natAbs / Nat.gcd n.natAbs d.natAbs=A at *
 generalize hB:d.natAbs / Nat.gcd n.natAbs d.natAbs=B at *
 have hqn:(Rat.divInt n d).num.natAbs=A:=by rw[qn];split <;> omega
 unfold mk fits
 rw[hqn,qd]
 by_cases hf:A<=1073741824/\B<=1073741824
 ·rw[if_neg (by simp;omega)]
  simp only[qt,hf,and_self,decide_true,if_true]
  rw[xS (x:=(A:Int)) (by omega),xS (x:=(B:Int)) (by omega),xS (by omega)]
  unfold p7
  rw[qd,qn]
  split <;> simp
 ·rw[if_pos (by simp;omega)]
  simp only[hf,decide_false]
  rfl
theorem qE(x:R):qJ x=some (V x):=by
 unfold qJ V
 by_cases h:(x.fD>=1/\x.fD<=1073741824/\x.fN>=(-1073741824)/\x.fN<=1073741824)
 ·rw[if_pos (by simp;omega),Yy,Yy,oB,oB,Fy (by omega),oB,oB]
  congr 1
  rw[Bool.eq_iff_iff]
  simp only[decide_eq_true_eq]
  omega
 ·rw[if_neg (by simp;omega),oB]
  congr 1
  symm
  rw[decide_eq_false_iff_not]
  omega
end
section
theorem iS{a b:Int}(ha:a.natAbs<=1073741824)(hb:b.natAbs<=1073741824):(a*b).natAbs<=1152921504606846976:=by
 rw[Int.natAbs_mul]
 exact Nat.mul_le_mul ha hb
theorem iT{x:R}(h:V x=true):x.fN.natAbs<=1073741824/\x.fD.natAbs<=1073741824/\1<=x.fD:=by
 simp only[V,decide_eq_true_eq] at h;omega
theorem ML{x y:R}(hx:V x=true)(hy:V y=true):x.fD*y.fD≠0:=Int.mul_ne_zero (by have:=iT hx;omega) (by have:=iT hy;omega)
theorem Jp{x y:R}(hx:V x=true)(hy:V y=true):vV x y=some (mk (val x+val y)):=by
 have bx:=iT hx;have b2:=iT hy
 have h1:=iS bx.1 b2.2.1;have h2:=iS b2.1 bx.2.1;have h3:=iS bx.2.1 b2.2.1
 unfold vV ip ca
 rw[qE,qE,hx,hy]
 simp only[oB,Bool.not_true,Bool.false_eq_true,if_false]
 rw[xS (x:=x.fN*y.fD) (by omega),xS (x:=y.fN*x.fD) (by omega),xS (by omega),xS (by omega),ez (ML hx hy)]
 rw[val,val,Rat.divInt_add_divInt _ _ (by omega) (by omega)]
 rfl
theorem Wt{x y:R}(hx:V x=true)(hy:V y=true):jB x y=some (mk (val x-val y)):=by
 have bx:=iT hx;have b2:=iT hy
 have h1:=iS bx.1 b2.2.1;have h2:=iS b2.1 bx.2.1;have h3:=iS bx.2.1 b2.2.1
 unfold jB iz ce
 rw[qE,qE,hx,hy]
 simp only[oB,Bool.not_true,Bool.false_eq_true,if_false]
 rw[xS (x:=x.fN*y.fD) (by omega),xS (x:=y.fN*x.fD) (by omega),xS (by omega),xS (by omega),ez (ML hx hy)]
 rw[val,val,Rat.divInt_sub_divInt _ _ (by omega) (by omega)]
 rfl
theorem Jq{x y:R}(hx:V x=true)(hy:V y=true):gz x y=some (mk (val x*val y)):=by
 have bx:=iT hx;have b2:=iT hy
 have h1:=iS bx.1 b2.1;have h3:=iS bx.2.1 b2.2.1
 unfold gz cZ c9
 rw[qE,qE,hx,hy]
 simp only[oB,Bool.not_true,Bool.false_eq_true,if_false]
 rw[xS (by omega),xS (by omega),ez (ML hx hy)]
 rw[val,val,Rat.divInt_mul_divInt]
 rfl
theorem Wu{x y:R}(hx:V x=true)(hy:V y=true)(h0:y.fN≠0):gZ x y=some (mk (val x / val y)):=by
 have bx:=iT hx;have b2:=iT hy
 have h1:=iS bx.1 b2.2.1;have h3:=iS bx.2.1 b2.1
 unfold gZ iB cg
 rw[qE,qE,hx,hy]
 simp only[oB,Bool.not_true,Bool.false_or,decide_eq_true_eq,h0,if_false,Bool.false_eq_true]
 rw[xS (by omega),xS (by omega),ez (Int.mul_ne_zero (by omega) h0)]
 rw[val,val,Rat.div_def,Rat.inv_divInt,Rat.divInt_mul_divInt]
 rfl
def rt(p q:Rat):Int:=if p<q then -1 else if q<p then 1 else 0
theorem Fz{x y:R}(hx:V x=true)(hy:V y=true):val x<val y↔x.fN*y.fD<y.fN*x.fD:=by
 rw[Rat.lt_iff,(Ws hx).1,(Ws hx).2,(Ws hy).1,(Ws hy).2]
theorem iG{x y:R}(hx:V x=true)(hy:V y=true):qa x y=some (rt (val x) (val y)):=by
 have bx:=iT hx;have b2:=iT hy
 have h1:=iS bx.1 b2.2.1;have h2:=iS b2.1 bx.2.1
 unfold qa rt
 rw[qE,qE,hx,hy]
 simp only[oB,Bool.not_true,Bool.false_eq_true,if_false,decide_eq_true_eq]
 rw[xS (x:=x.fN*y.fD) (by omega),xS (x:=y.fN*x.fD) (by omega)]
 simp only[Fz hx hy,Fz hy hx]
 by_cases h:x.fN*y.fD<y.fN*x.fD
 ·simp[h]
 ·by_cases h':y.fN*x.fD<x.fN*y.fD <;> simp[h,h']
theorem Yz{p q:Rat}:rt p q<=0↔p<=q:=by unfold rt;grind
theorem pS{p q:Rat}:rt p q<0↔p<q:=by unfold rt;grind
theorem XF{p q:Rat}(h:p<=q):p<q\/p=q:=by grind
theorem FA(p:Rat):rt p p=0:=by unfold rt;simp[Rat.lt_irrefl]
abbrev B:=z8
def GR(x:R):Bool:=V x&&decide (0<=x.fN)
def GB(b:B):Bool:=GR b.yi&&GR b.fR
def bq(b:B):Rat:=val b.yi
def rq(b:B):Rat:=val b.fR
theorem rT{x:R}(h:GR x=true):V x=true:=by simp[GR] at h;exact h.1
theorem ny{b:B}(h:GB b=true):GR b.yi=true:=by simp[GB] at h;exact h.1
theorem Y0{b:B}(h:GB b=true):GR b.fR=true:=by simp[GB] at h;exact h.2
theorem YA(x:R):uZ x=some (GR x):=by unfold uZ GR;rw[qE,oB]
theorem FB(b:B):ul b=some (!GB b):=by
 unfold ul GB
 rw[YA,YA]
 cases GR b.yi <;> simp
theorem VP{s:List B}{f:B->Option Bool}{p:B->Bool}(hf:∀ x∈s,f x=some (p x))(hs:(s.length:Int)<=4611686018427387000):q9 s f=some (s.any p):=
 nW (XX (L:=fun k=>vt s f k) (fun _ _ _=>rfl) hf hs)
theorem Kx{s:List B}{v:B}(hs:(s.length:Int)<=4611686018427387000):jz s v=some (s.any fun x=>decide (v=x)):=
 nW (XX (L:=fun k=>vR s v k) (f:=fun x=>some (decide (v=x))) (fun _ _ _=>rfl) (fun _ _=>rfl) hs)
def VC(c:List B):Bool:=decide (1<=c.length/\c.length<=32)&&c.all GB
theorem rM(c:List B):mM c=some (VC c):=by
 unfold mM VC
 by_cases h:1<=c.length/\c.length<=32
 ·rw[if_pos (by simp;omega),VP (p:=fun b => !GB b) (fun x _=>FB x) (by omega)]
  simp only[oB,h,and_self,decide_true,Bool.true_and]
  congr 1
  rw[List.all_eq_not_any_not]
 ·rw[if_neg (by simp;omega)]
  simp[h]
theorem Y3{c:List B}(h:VC c=true):∀ b∈c,GB b=true:=by simp[VC] at h;exact h.2
theorem Wv{c:List B}(h:VC c=true):1<=c.length/\c.length<=32:=by simp[VC] at h;omega
def iY(a b:B):Bool:=decide (a≠b)&&decide (bq a<=bq b)&&decide (rq a<=rq b)
theorem Jr{a b:B}(ha:GB a=true)(hb:GB b=true):uD a b=some (iY a b):=by
 unfold uD iY
 rw[iG (rT (ny ha)) (rT (ny hb)),iG (rT (Y0 ha)) (rT (Y0 hb))]
 have e1:decide (rt (val a.yi) (val b.yi)<=0)=decide (bq a<=bq b):=decide_eq_decide.2 Yz
 have e2:decide (rt (val a.fR) (val b.fR)<=0)=decide (rq a<=rq b):=decide_eq_decide.2 Yz
 by_cases zT:a≠b
 ·rw[if_pos (by simpa using zT),oB,oB,e1]
  by_cases h1:bq a<=bq b
  ·rw[if_pos (by simpa using h1),oB,e2];simp[zT,h1]
  ·rw[Nx h1,oB];simp[h1]
 ·rw[Nx zT];simp[zT]
def lW(c:List B)(out:List B)(v:B):List B:=if (!(out.any fun x=>decide (v=x)) && !(c.any fun a=>iY a v))=true then out++[v] else out
theorem FC{c:List B}{k:List B->Option (List B)}(hc:∀ b∈c,GB b=true)(hs:(c.length:Int)<=1000000):
  ∀(n:Nat) (out:List B) (i:Int),0<=i->i<=c.length->c.length-i<n->(out.length:Int)<=i->mz c k n out i=k ((c.drop i.toNat).foldl (lW c) out):=by
 intro n
 induction n with
 | zero=>intro out i h0 h1 h2;omega
 | succ n ih=>
  intro out i h0 h1 h2 h3
  rw[mz]
  by_cases h:i<c.length
  ·rw[if_pos (by simpa using h)]
   simp only[qt]
   rw[xM ⟨h0,h⟩,g6 h0 h,List.foldl_cons]
   have hm:=hc _ (ws h0 h)
   have e1:=Kx (s:=out) (v:=nth c i) (by omega)
   have e2:=VP (s:=c) (f:=fun y0=>uU y0 (nth c i)) (p:=fun a=>iY a (nth c i)) (fun x hx=>by unfold uU;rw[Jr (hc x hx) hm];rfl) (by omega)
   refine(congrArg (fun o=>Option.bind o _) e1).trans ?_
   rw[oB]
   have kM:(out.length:Int)+1<=1000000:=by omega
   cases hA:out.any fun x=>decide (nth c i=x) with
   | true=>
    simp only[Bool.not_true,Bool.false_eq_true,if_false,oB]
    rw[xS (by omega),ih out (i+1) (by omega) (by omega) (by omega) (by omega)]
    congr 2
    unfold lW;simp[hA]
   | false=>
    simp only[Bool.not_false,if_true]
    refine(congrArg (fun o=>Option.bind (Option.bind o _) _) e2).trans ?_
    simp only[oB]
    cases hB:c.any fun a=>iY a (nth c i) with
    | true=>
     simp only[Bool.not_true,Bool.false_eq_true,if_false]
     rw[xS (by omega),ih out (i+1) (by omega) (by omega) (by omega) (by omega)]
     congr 2
     unfold lW;simp[hA,hB]
    | false=>
     simp only[Bool.not_false,if_true]
     rw[xM (by simp only[List.length_append,List.length_cons,List.length_nil];omega),xS (by omega)]
     refine(ih _ (i+1) (by omega) (by omega) (by omega) (by simp;omega)).trans ?_
     congr 2
     unfold lW;simp[hA,hB]
  ·rw[Nx h,fo h];rfl
def cp{α:Type}(key:α->Rat)(l:List α):List α:=wC (fun x y=>some (rt (key x) (key y))) l
theorem Ky{α:Type}{p q:α->α->Option Int}{x:α}{l:List α}(h:∀ y∈l,rx p x y=rx q x y):pO p x l=pO q x l:=by
 induction l with
 | nil=>rfl
 | cons y l ih=>
  unfold pO
  rw[h y (by simp),ih fun z hz=>h z (by simp[hz])]
theorem Js{α:Type}{p q:α->α->Option Int}{l:List α}(h:∀ x∈l,∀ y∈l,rx p x y=rx q x y):wC p l=wC q l:=by
 induction l with
 | nil=>rfl
 | cons x l ih=>
  unfold wC
  rw[ih fun a ha b hb=>h a (by simp[ha]) b (by simp[hb])]
  exact Ky fun y hy=>h x (by simp) y (by simp[(kK q l).mem_iff.1 hy])
theorem Kz{α:Type}{key:α->Rat}(x:α){l:List α}(h:l.Pairwise fun a b=>key a<=key b):(pO (fun x y=>some (rt (key x) (key y))) x l).Pairwise fun a b=>key a<=key b:=by
 induction l with
 | nil=>simp[pO]
 | cons y l ih=>
  obtain⟨h1,h2⟩:=List.pairwise_cons.1 h
  unfold pO
  split
  ·rename_i hxy
   have hxy:key x<=key y:=Yz.1 hxy
   refine List.pairwise_cons.2 ⟨fun z hz=>?_,h⟩
   rcases List.mem_cons.1 hz with rfl | hz
   ·exact hxy
   ·exact Rat.le_trans hxy (h1 z hz)
  ·rename_i hxy
   have hxy:key y<=key x:=Rat.le_of_lt (Rat.not_le.1 fun h=>hxy (Yz.2 h))
   refine List.pairwise_cons.2 ⟨fun z hz=>?_,ih h2⟩
   rcases List.mem_cons.1 ((eQ _ x l).mem_iff.1 hz) with rfl | hz
   ·exact hxy
   ·exact h1 z hz
theorem bf{α:Type}(key:α->Rat)(l:List α):(cp key l).Pairwise fun a b=>key a<=key b:=by
 unfold cp
 induction l with
 | nil=>simp[wC]
 | cons x l ih=>exact Kz x ih
theorem cq{α:Type}(key:α->Rat)(l:List α):(cp key l).Perm l:=kK _ l
theorem Jt{α:Type}[DecidableEq α]{key:α->Rat}{p:α->α->Option Int}{l:List α}(hp:∀ x∈l,∀ y∈l,p x y=some (rt (key x) (key y)))(hi:∀ x∈l,∀ y∈l,key x=key y->x=y):
  wC p l=cp key l/\ou p (wC p l)=true:=by
 have hc:∀ x∈l,∀ y∈l,rx p x y=rt (key x) (key y):=fun x hx y hy=>by unfold rx;rw[hp x hx y hy];rfl
 have e:wC p l=cp key l:=Js fun x hx y hy=>by rw[hc x hx y hy];rfl
 refine⟨e,?_⟩
 have hm:∀ x∈wC p l,x∈l:=fun x hx=>(kK p l).mem_iff.1 hx
 have hs:=bf key l
 rw[<- e] at hs
 simp only[ou,Bool.and_eq_true,List.all_eq_true,Bool.not_eq_true',decide_eq_false_iff_not,eR]
 refine⟨fun x hx=>⟨fun y hy=>by rw[hp x (hm x hx) y (hm y hy)];rfl,by rw[hc x (hm x hx) x (hm x hx),FA];omega⟩,?_⟩
 refine List.Pairwise.imp_of_mem ?_ hs
 intro x y hx hy hxy
 rw[hc x (hm x hx) y (hm y hy),hc y (hm y hy) x (hm x hx),pS,pS]
 rcases XF hxy with h | h
 ·exact .inr ⟨h,Rat.not_lt.2 hxy⟩
 ·exact .inl (hi x (hm x hx) y (hm y hy) h)
theorem VQ(n:Nat)(h:n<4611686018427387904):Go.Lib.bitLen n<=62:=Go.Lib.bitLen_le n 62 (by omega) (by omega)
theorem MM{l:List B}{p:B->B->Option Int}{key:B->Rat}(hp:∀ x∈l,∀ y∈l,p x y=some (rt (key x) (key y)))(hi:∀ x∈l,∀ y∈l,key x=key y->x=y)(hs:(l.length:Int)<=1000000):
  vS l p=some (cp key l):=by
 obtain⟨e,ho⟩:=Jt hp hi
 unfold vS fj gV
 rw[bd,xM (by omega),oB]
 have hb:=VQ l.length (by omega)
 rw[Int.toNat_natCast,xM ⟨⟨rfl,rfl⟩,by omega,by omega,by omega⟩,xM ho,oB,e]
theorem MN{l:List R}{p:R->R->Option Int}{key:R->Rat}(hp:∀ x∈l,∀ y∈l,p x y=some (rt (key x) (key y)))(hi:∀ x∈l,∀ y∈l,key x=key y->x=y)(hs:(l.length:Int)<=1000000):
  j7 l p=some (cp key l):=by
 obtain⟨e,ho⟩:=Jt hp hi
 unfold j7 fj mn
 rw[bd,xM (by omega),oB]
 have hb:=VQ l.length (by omega)
 rw[Int.toNat_natCast,xM ⟨⟨rfl,rfl⟩,by omega,by omega,by omega⟩,xM ho,oB,e]
theorem Ju{c:List B}:∀(l out:List B) (v:B),v∈l.foldl (lW c) out↔v∈out\/(v∈l/\(c.any fun a=>iY a v)=false)
 | [],out,v=>by simp
 | x::l,out,v=>by
  rw[List.foldl_cons,Ju l]
  unfold lW
  by_cases h1:(out.any fun y=>decide (x=y))=true
  ·have hx:x∈out:=by simpa using h1
   rw[if_neg (by simp[h1])]
   constructor
   ·rintro(h | h)
    ·exact .inl h
    ·exact .inr ⟨by simp[h.1],h.2⟩
   ·rintro(h | ⟨h,h'⟩)
    ·exact .inl h
    ·rcases List.mem_cons.1 h with rfl | h
     ·exact .inl hx
     ·exact .inr ⟨h,h'⟩
  ·by_cases h2:(c.any fun a=>iY a x)=true
   ·rw[if_neg (by simp[h2])]
    constructor
    ·rintro(h | h)
     ·exact .inl h
     ·exact .inr ⟨by simp[h.1],h.2⟩
    ·rintro(h | ⟨h,h'⟩)
     ·exact .inl h
     ·rcases List.mem_cons.1 h with rfl | h
      ·rw[h2] at h';cases h'
      ·exact .inr ⟨h,h'⟩
   ·rw[if_pos (by simp[h1,h2])]
    simp only[List.mem_append,List.mem_singleton]
    constructor
    ·rintro((h | rfl) | h)
     ·exact .inl h
     ·exact .inr ⟨by simp,by simpa using h2⟩
     ·exact .inr ⟨by simp[h.1],h.2⟩
    ·rintro(h | ⟨h,h'⟩)
     ·exact .inl (.inl h)
     ·rcases List.mem_cons.1 h with rfl | h
      ·exact .inl (.inr rfl)
      ·exact .inr ⟨h,h'⟩
theorem Ww{c:List B}:∀(l out:List B),out.Nodup->(l.foldl (lW c) out).Nodup
 | [],out,h=>h
 | x::l,out,h=>by
  rw[List.foldl_cons]
  apply Ww l
  unfold lW
  split
  ·rename_i h1
   simp only[Bool.and_eq_true,Bool.not_eq_true'] at h1
   have hx:x∉out:=by have:=h1.1;simp at this;exact fun hm=>this x hm rfl
   rw[List.nodup_append]
   refine⟨h,by simp,fun a ha b hb=>?_⟩
   simp at hb;subst hb
   intro e;subst e;exact hx ha
  ·exact h
theorem XG{c:List B}:∀(l out:List B),(l.foldl (lW c) out).length<=out.length+l.length
 | [],out=>by simp
 | x::l,out=>by
  rw[List.foldl_cons]
  have:=XG (c:=c) l (lW c out x)
  have h:(lW c out x).length<=out.length+1:=by unfold lW;split <;> simp
  simp;omega
def nz(c:List B):List B:=c.foldl (lW c) []
def kh(c:List B):List B:=cp bq (nz c)
theorem bh{c:List B}{v:B}:v∈nz c↔v∈c/\∀ a∈c,iY a v=false:=by
 unfold nz;rw[Ju];simp
theorem XH{c:List B}{v:B}:v∈kh c↔v∈c/\∀ a∈c,iY a v=false:=by
 unfold kh;rw[(cq _ _).mem_iff,bh]
theorem MO(c:List B):(kh c).length<=c.length:=by
 unfold kh;rw[(cq _ _).length_eq]
 have:=XG (c:=c) c []
 simpa [nz] using this
theorem FD{c:List B}{x y:B}(hx:x∈c/\∀ a∈c,iY a x=false)(hy:y∈c/\∀ a∈c,iY a y=false)(h:bq x=bq y):x=y:=by
 have h1:=hx.2 y hy.1
 have h2:=hy.2 x hx.1
 by_cases e:x=y
 ·exact e
 ·exfalso
  have e':y≠x:=fun h=>e h.symm
  unfold iY at h1 h2
  rw[h] at h1 h2
  simp[e,e',Rat.le_refl] at h1 h2
  grind
theorem UM{c:List B}(hc:∀ b∈c,GB b=true)(hs:(c.length:Int)<=1000000):pB c=some (kh c):=by
 unfold pB
 simp only[qt]
 rw[FC hc hs xT [] 0 (by omega) (by omega) (by rw[wp];omega) (by simp)]
 show Option.bind (vS (nz c) _) _=_
 have hl:(nz c).length<=c.length:=by have:=XG (c:=c) c [];simpa [nz] using this
 rw[MM (key:=bq) (fun x hx y hy=>?_) (fun x hx y hy h=>FD (bh.1 hx) (bh.1 hy) h) (by omega)]
 ·rfl
 ·unfold sy
  rw[iG (rT (ny (hc x (bh.1 hx).1))) (rT (ny (hc y (bh.1 hy).1)))];rfl
theorem KA{c:List B}:(kh c).Pairwise fun x y=>bq x<bq y/\rq y<rq x:=by
 have h:=bf bq (nz c)
 have hn:(kh c).Nodup:=(cq bq (nz c)).nodup_iff.2 (Ww c [] (by simp))
 have h2:=List.Pairwise.and h hn
 refine List.Pairwise.imp_of_mem ?_ h2
 intro x y hx hy hxy
 have hx:=XH.1 hx;have hy:=XH.1 hy
 have n8:bq x<bq y:=by
  rcases XF hxy.1 with h | h
  ·exact h
  ·exact absurd (FD hx hy h) hxy.2
 refine⟨n8,?_⟩
 have:=hy.2 x hx.1
 unfold iY at this
 simp[hxy.2,hxy.1] at this
 grind
end
section
variable {m k m':Nat}{p:Rat}{t:R}
theorem KB{n d:Int}(hd:0<d)(h:n.natAbs<=1073741824/\d<=1073741824):fits (Rat.divInt n d)=true:=by
 simp only[fits,decide_eq_true_eq]
 rw[Rat.den_divInt,if_neg (by omega),Rat.num_divInt]
 have hs:d.sign=1:=Int.sign_eq_one_of_pos hd
 rw[hs,Int.one_mul]
 constructor
 ·have h1:(n / (Int.gcd d n:Int)).natAbs<=n.natAbs:=by
   have h2:((Int.gcd d n:Nat):Int) ∣ n:=Int.gcd_dvd_right ..
   rw[Int.natAbs_ediv_of_dvd h2]
   exact Nat.div_le_self _ _
  omega
 ·have:=Nat.div_le_self d.natAbs (Int.gcd d n)
  omega
def G(m k:Nat)(q:Rat):Prop:=∃ n:Int,n.natAbs<=m*k/\q=Rat.divInt n k
theorem G.fits{m k:Nat}{q:Rat}(h:G m k q)(hk:0<k)(qI:k<=1073741824)(hm:m*k<=1073741824):fits q=true:=by
 obtain⟨n,hn,rfl⟩:=h
 exact KB (by omega) ⟨by omega,by omega⟩
theorem G.add{q:Rat}(hk:0<k)(hp:G m k p)(hq:G m' k q):G (m+m') k (p+q):=by
 obtain⟨n,hn,rfl⟩:=hp;obtain⟨n',hn',rfl⟩:=hq
 refine⟨n+n',?_,?_⟩
 ·have:=Nat.add_mul m m' k
  omega
 ·rw[Rat.divInt_add_divInt _ _ (by omega) (by omega),show n*(k:Int)+n'*k=(n+n')*k by rw[Int.add_mul],Rat.divInt_mul_right (by omega)]
theorem G.neg(hp:G m k p):G m k (-p):=by
 obtain⟨n,hn,rfl⟩:=hp
 exact⟨-n,by omega,by rw[Rat.neg_divInt]⟩
theorem G.sub{q:Rat}(hk:0<k)(hp:G m k p)(hq:G m' k q):G (m+m') k (p-q):=by
 rw[Rat.sub_eq_add_neg];exact hp.add hk hq.neg
theorem G.mul{k':Nat}{q:Rat}(hp:G m k p)(hq:G m' k' q):G (m*m') (k*k') (p*q):=by
 obtain⟨n,hn,rfl⟩:=hp;obtain⟨n',hn',rfl⟩:=hq
 refine⟨n*n',?_,?_⟩
 ·rw[Int.natAbs_mul,show m*m'*(k*k')=(m*k)*(m'*k') by rw[Nat.mul_mul_mul_comm]]
  exact Nat.mul_le_mul hn hn'
 ·rw[Rat.divInt_mul_divInt];rfl
theorem G.fine(j:Nat)(hj:0<j)(hp:G m k p):G m (k*j) p:=by
 obtain⟨n,hn,rfl⟩:=hp
 refine⟨n*j,?_,?_⟩
 ·rw[Int.natAbs_mul,<- Nat.mul_assoc];exact Nat.mul_le_mul hn (by omega)
 ·rw[show((k*j:Nat):Int)=(k:Int)*j by push_cast;rfl,Rat.divInt_mul_right (by omega)]
theorem G.le(h:m<=m')(hp:G m k p):G m' k p:=by
 obtain⟨n,hn,rfl⟩:=hp
 exact⟨n,Nat.le_trans hn (Nat.mul_le_mul_right _ h),rfl⟩
theorem KZ{q:Rat}(h:fits q=true):mk q=(p7 q,0):=by unfold mk;rw[if_pos h]
def SB(b:B):Prop:=GB b=true/\G 100 1 (bq b)/\G 5 8 (rq b)
def SC(c:List B):Prop:=1<=c.length/\c.length<=4/\∀ b∈c,SB b
theorem SC.all{c:List B}(h:SC c):∀ b∈c,GB b=true:=fun b hb=>(h.2.2 b hb).1
theorem SC.VC{c:List B}(h:SC c):VC c=true:=by
 unfold YthjnhebofpebpaaGreat.VC
 rw[Bool.and_eq_true,decide_eq_true_eq,List.all_eq_true]
 exact⟨⟨h.1,by have:=h.2.1;omega⟩,h.all⟩
def vq(t:Rat)(b:B):Rat:=bq b+rq b*t
def nC(t:Rat)(b:B):Bool:=fits (rq b*t)&&fits (vq t b)
theorem MP{b:B}(hb:GB b=true)(ht:GR t=true):j9 ⟨0⟩ b t=some (if nC (val t) b then(p7 (vq (val t) b),(⟨0⟩:yu)) else(⟨0,0⟩,⟨3⟩)):=by
 unfold j9 qS
 rw[if_neg (by simp)]
 simp only[]
 rw[Jq (rT (Y0 hb)) (rT ht),oB,oB]
 show Option.bind (if _ then _ else _) _=_
 have hr:val b.fR*val t=rq b*val t:=rfl
 rw[hr]
 unfold nC
 cases h:fits (rq b*val t) with
 | true=>
  rw[KZ h]
  rw[if_neg (by simp)]
  rw[Jp (rT (ny hb)) (nw h),cC]
  simp only[oB,Bool.true_and]
  have hv:val b.yi+rq b*val t=vq (val t) b:=rfl
  rw[hv]
  cases h2:fits (vq (val t) b) with
  | true=>rw[KZ h2];rfl
  | false=>unfold mk;rw[h2];rfl
 | false=>
  unfold mk
  rw[h]
  simp
theorem FE{b:B}{e:Int}(he:e≠0):j9 ⟨e⟩ b t=some (⟨0,0⟩,⟨e⟩):=by
 unfold j9 qS
 simp[he]
theorem Jv{α β R:Type}[Inhabited α]{c:List α}{S:Int->α->Option (β×Int)}{ok:α->Bool}{g:α->β}{z:β}{k:List β->Int->Option R}{K3:Option R}{L:Nat->List β->Int->Int->Option R}(hS:∀ b∈c,S 0 b=some (if ok b then(g b,0) else(z,3))/\S 3 b=some (z,3))(hL:∀ n out (i:Int) e v e',0<=i->i<c.length->(out.length:Int)=i->S e (nth c i)=some (v,e')->L (n+1) out i e=L n (out++[v]) (i+1) e')(hE:∀ n out (i:Int) e,¬i<c.length->L (n+1) out i e=k out e)(hK:∀ out,k out 3=K3):
  ∀(n:Nat) (out:List β) (i:Int),0<=i->(out.length:Int)=i->i<=c.length->c.length<n+i->
   L n out i 3=K3/\L n out i 0=if (c.drop i.toNat).all ok then k (out++(c.drop i.toNat).map g) 0 else K3
 | 0,out,i,h0,ho,h1,h2=>by omega
 | n+1,out,i,h0,ho,h1,h2=>by
  by_cases h:i<c.length
  ·have hm:=hS _ (ws h0 h)
   have ih:=fun BJ ho'=>Jv hS hL hE hK n BJ (i+1) (by omega) ho' (by omega) (by omega)
   refine⟨?_,?_⟩
   ·rw[hL n out i 3 _ _ h0 h ho hm.2]
    exact(ih _ (by simp;omega)).1
   ·rw[g6 h0 h,List.all_cons,List.map_cons]
    cases hb:ok (nth c i) with
    | true=>
     have h3:=hm.1
     rw[hb,if_pos rfl] at h3
     rw[hL n out i 0 _ _ h0 h ho h3,(ih _ (by simp;omega)).2]
     simp
    | false=>
     have h3:=hm.1
     rw[hb,if_neg (by simp)] at h3
     rw[hL n out i 0 _ _ h0 h ho h3,(ih _ (by simp;omega)).1]
     simp
  ·rw[hE n out i 3 h,hE n out i 0 h,fo h,hK]
   simp
def nD:List Rat->Rat
 | []=>0
 | [x]=>x
 | x::y::l=>let m:=nD (y::l);if x<=m then x else m
def YB(l:List Rat)(q:Rat):Prop:=q∈l/\∀ x∈l,q<=x
theorem YB.unique{l:List Rat}{q:Rat}(hp:YB l p)(hq:YB l q):p=q:=Rat.le_antisymm (hp.2 _ hq.1) (hq.2 _ hp.1)
theorem Vk:∀(l:List Rat),l≠[]->YB l (nD l)
 | [],h=>absurd rfl h
 | [x],_=>⟨by simp[nD],fun y hy=>by simp at hy;subst hy;exact Rat.le_refl⟩
 | x::y::l,_=>by
  have ih:=Vk (y::l) (by simp)
  unfold nD
  by_cases h:x<=nD (y::l)
  ·rw[if_pos h]
   refine⟨by simp,fun z hz=>?_⟩
   rcases List.mem_cons.1 hz with rfl | hz
   ·exact Rat.le_refl
   ·exact Rat.le_trans h (ih.2 z hz)
  ·rw[if_neg h]
   refine⟨List.mem_cons_of_mem _ ih.1,fun z hz=>?_⟩
   rcases List.mem_cons.1 hz with rfl | hz
   ·exact Rat.le_of_lt (Rat.not_le.1 h)
   ·exact ih.2 z hz
theorem UN{l:List Rat}{q:Rat}(h:YB l q):nD l=q:=(Vk l (List.ne_nil_of_mem h.1)).unique h
theorem tA{α:Type}[Inhabited α]{l:List α}{i:Int}{x:α}(h0:0<=i)(h:i<l.length):x∈l.take (i+1).toNat↔x∈l.take i.toNat\/x=nth l i:=by
 rw[take_succ l (h0:=h0) h,List.mem_append,List.mem_singleton]
theorem Y4{l:List R}{k:Int->Int->Option R}(hl:∀ x∈l,V x=true)(hs:(l.length:Int)<=1000000):
  ∀(n:Nat) (i:Int) (c:R),0<=i->i<=l.length->l.length<n+i->c∈l->(∀ x∈l.take i.toNat,val c<=val x)->
   ∃ d:R,vK l (fun y0 y1=>qa y0 y1) k n i c.fN c.fD=k d.fN d.fD/\d∈l/\∀ x∈l,val d<=val x
 | 0,i,c,h0,h1,h2,hc,hm=>by omega
 | n+1,i,c,h0,h1,h2,hc,hm=>by
  rw[vK]
  by_cases h:i<l.length
  ·rw[if_pos (by simpa using h)]
   simp only[sm]
   rw[xM ⟨h0,h⟩,xM ⟨h0,h⟩,xS (by omega)]
   have hx:=ws h0 h
   show ∃ d:R,Option.bind (qa (nth l i) c) _=_/\_
   rw[iG (hl _ hx) (hl _ hc),oB]
   by_cases n8:val (nth l i)<val c
   ·rw[if_pos (by simpa using pS.2 n8)]
    refine Y4 hl hs n (i+1) (nth l i) (by omega) (by omega) (by omega) hx fun x hx'=>?_
    rcases(tA h0 h).1 hx' with h3 | rfl
    ·exact Rat.le_trans (Rat.le_of_lt n8) (hm x h3)
    ·exact Rat.le_refl
   ·rw[Nx (fun h=>n8 (pS.1 h))]
    refine Y4 hl hs n (i+1) c (by omega) (by omega) (by omega) hc fun x hx'=>?_
    rcases(tA h0 h).1 hx' with h3 | rfl
    ·exact hm x h3
    ·exact Rat.not_lt.1 n8
  ·rw[Nx h]
   refine⟨c,rfl,hc,fun x hx=>hm x ?_⟩
   rwa [List.take_of_length_le (by omega)]
theorem UO{l:List R}(hl:∀ x∈l,V x=true)(h0:l≠[])(hs:(l.length:Int)<=1000000):jp l (fun y0 y1=>qa y0 y1)=some (p7 (nD (l.map val))):=by
 have hp:=List.length_pos_iff.2 h0
 unfold jp
 rw[if_neg (by simp;omega),xM (by omega)]
 refine tg (P:=fun o=>o=_) fun k hk=>?_
 have hm0:=ws (l:=l) (i:=0) (by omega) (by omega)
 obtain⟨d,e,hd,ze⟩:=Y4 (k:=k) hl hs xT 1 (nth l 0) (by omega) (by omega) (by rw[wp];omega) hm0 (by
  intro x hx
  have h1:(1:Int)=0+1:=rfl
  rw[h1] at hx
  rcases(tA (by omega) (by omega)).1 hx with h3 | rfl
  ·simp at h3
  ·exact Rat.le_refl)
 have h1:nD (l.map val)=val d:=UN ⟨List.mem_map_of_mem hd,fun x hx=>by
  obtain⟨y,hy,rfl⟩:=List.mem_map.1 hx
  exact ze y hy⟩
 rw[e,hk,h1,Vj (hl d hd)]
theorem MQ{a b:B}(ha:GB a=true)(hb:GB b=true):gL a b=some (rt (rq a) (rq b)):=by
 unfold gL
 rw[iG (rT (Y0 ha)) (rT (Y0 hb))];rfl
theorem Y5{l:List B}{k:Int->Int->Int->Int->Option B}(hl:∀ x∈l,GB x=true)(hs:(l.length:Int)<=1000000):
  ∀(n:Nat) (i:Int) (c:B),0<=i->i<=l.length->l.length<n+i->c∈l->(∀ x∈l.take i.toNat,rq c<=rq x)->
   ∃ d:B,vb l (fun y0 y1=>gL y0 y1) k n i c.yi.fN c.yi.fD c.fR.fN c.fR.fD=k d.yi.fN d.yi.fD d.fR.fN d.fR.fD/\d∈l/\∀ x∈l,rq d<=rq x
 | 0,i,c,h0,h1,h2,hc,hm=>by omega
 | n+1,i,c,h0,h1,h2,hc,hm=>by
  rw[vb]
  by_cases h:i<l.length
  ·rw[if_pos (by simpa using h)]
   simp only[jp4]
   rw[xM ⟨h0,h⟩,xM ⟨h0,h⟩,xS (by omega)]
   have hx:=ws h0 h
   show ∃ d:B,Option.bind (gL (nth l i) c) _=_/\_
   rw[MQ (hl _ hx) (hl _ hc),oB]
   by_cases n8:rq (nth l i)<rq c
   ·rw[Nw (pS.2 n8)]
    refine Y5 hl hs n (i+1) (nth l i) (by omega) (by omega) (by omega) hx fun x hx'=>?_
    rcases(tA h0 h).1 hx' with h3 | rfl
    ·exact Rat.le_trans (Rat.le_of_lt n8) (hm x h3)
    ·exact Rat.le_refl
   ·rw[if_neg (fun h=>n8 (pS.1 (of_decide_eq_true h)))]
    refine Y5 hl hs n (i+1) c (by omega) (by omega) (by omega) hc fun x hx'=>?_
    rcases(tA h0 h).1 hx' with h3 | rfl
    ·exact hm x h3
    ·exact Rat.not_lt.1 n8
  ·rw[Nx h]
   refine⟨c,rfl,hc,fun x hx=>hm x ?_⟩
   rwa [List.take_of_length_le (by omega)]
theorem FF{R A0 A1 A2 A3:Type}{K:A0->A1->A2->A3->Option R}{F:(A0->A1->A2->A3->Option R)->Option R}{P:Option R->Prop}(h:∀ k:A0->A1->A2->A3->Option R,(∀ x0 x1 x2 x3,k x0 x1 x2 x3=K x0 x1 x2 x3)->P (F k)):P (jp4 K F):=h K fun _ _ _ _=>rfl
theorem UP{l:List B}(hl:∀ x∈l,GB x=true)(h0:l≠[])(hs:(l.length:Int)<=1000000):∃ d,qG l (fun y0 y1=>gL y0 y1)=some d/\d∈l/\∀ x∈l,rq d<=rq x:=by
 have hp:=List.length_pos_iff.2 h0
 unfold qG
 rw[if_neg (by simp;omega),xM (by omega)]
 refine FF (P:=fun o=>∃ d,o=some d/\d∈l/\∀ x∈l,rq d<=rq x) fun k hk=>?_
 have hm0:=ws (l:=l) (i:=0) (by omega) (by omega)
 obtain⟨d,e,hd,ze⟩:=Y5 (k:=k) hl hs xT 1 (nth l 0) (by omega) (by omega) (by rw[wp];omega) hm0 (by
  intro x hx
  have h1:(1:Int)=0+1:=rfl
  rw[h1] at hx
  rcases(tA (by omega) (by omega)).1 hx with h3 | rfl
  ·simp at h3
  ·exact Rat.le_refl)
 rw[e,hk]
 exact⟨d,rfl,hd,ze⟩
def AT(c:List B)(t:Rat):Rat:=nD (c.map (vq t))
theorem AT_is{c:List B}{t:Rat}(h:c≠[]):YB (c.map (vq t)) (AT c t):=Vk _ (by simpa using h)
theorem UQ{c:List B}{k:List R->Int->Option (R×Int)}{K3:Option (R×Int)}(hc:∀ b∈c,GB b=true)(ht:GR t=true)(hs:(c.length:Int)<=1000000)(hK:∀ out,k out 3=K3){n:Nat}(hn:c.length<n):kW c t k n [] 0 0=if c.all (nC (val t)) then k (c.map fun b=>p7 (vq (val t) b)) 0 else K3:=by
 have:=(Jv (c:=c) (S:=fun e b=>(j9 ⟨e⟩ b t).bind fun x=>some (x.1,x.2.fE)) (ok:=nC (val t)) (g:=fun b=>p7 (vq (val t) b)) (z:=⟨0,0⟩) (k:=k) (K3:=K3) (L:=fun n out i e=>kW c t k n out i e)
  (fun b hb=>⟨by rw[MP (hc b hb) ht];cases nC (val t) b <;> rfl,by rw[FE (by decide)];rfl⟩) ?_ ?_ hK n [] 0 (by omega) rfl (by omega) (by omega)).2
 ·simpa using this
 ·intro n out i e v e' h0 h ho hS
  show kW c t k (n+1) out i e=_
  rw[kW,if_pos (by simpa using h),xM ⟨h0,h⟩]
  show Option.bind (j9 ⟨e⟩ (nth c i) t) _=_
  cases hv:j9 ⟨e⟩ (nth c i) t with
  | none=>rw[hv] at hS;cases hS
  | some x=>
   rw[hv] at hS
   have hS:some (x.1,x.2.fE)=some (v,e'):=hS
   obtain⟨rfl,rfl⟩:=Prod.mk.inj (oJ hS)
   rw[oB,xM (by simp only[List.length_append,List.length_cons,List.length_nil];omega),xS (by omega)]
 ·intro n out i e h
  show kW c t k (n+1) out i e=_
  rw[kW,Nx h]
theorem Um{c:List B}(hc:VC c=true)(ht:GR t=true):uc c t=some (if c.all (nC (val t)) then(p7 (AT c (val t)),0) else(⟨0,0⟩,3)):=by
 have hl:=Wv hc
 unfold uc
 rw[rM,YA,hc,ht]
 simp only[oB,Bool.not_true,Bool.false_eq_true,if_false]
 refine tg (P:=fun o=>o=_) fun k hk=>?_
 rw[UQ (K3:=some (⟨0,0⟩,3)) (Y3 hc) ht (by omega) (fun out=>by rw[hk];rfl) (by rw[wp];omega)]
 cases ha:c.all (nC (val t)) with
 | true=>
  rw[if_pos rfl,if_pos rfl,hk,if_neg (by simp)]
  rw[List.all_eq_true] at ha
  rw[UO (l:=c.map fun b=>p7 (vq (val t) b)) ?_ ?_ (by simp;omega),oB]
  ·rw[List.map_map]
   congr 3
   unfold AT
   congr 2
   funext b
   exact cC _
  ·intro x hx
   obtain⟨b,hb,rfl⟩:=List.mem_map.1 hx
   have:=ha b hb
   simp only[nC,Bool.and_eq_true] at this
   exact nw this.2
  ·intro h
   have:=congrArg List.length h
   simp at this;subst this;simp at hl
 | false=>simp
theorem FH{c:List B}(h:¬(VC c=true/\GR t=true)):uc c t=some (⟨0,0⟩,2):=by
 unfold uc
 rw[rM,YA]
 cases h1:VC c <;> cases h2:GR t <;> simp_all
theorem Un{c:List B}(hc:VC c=true):c≠[]:=fun h=>by have:=Wv hc;subst h;simp at this
theorem UR{c:List B}(hc:VC c=true):∃ d,t8 c=some (d.fR,0)/\d∈c/\∀ x∈c,rq d<=rq x:=by
 have hl:=Wv hc
 unfold t8
 rw[rM,hc]
 simp only[oB,Bool.not_true,Bool.false_eq_true,if_false]
 obtain⟨d,e,h1,h2⟩:=UP (Y3 hc) (Un hc) (by omega)
 rw[e]
 exact⟨d,rfl,h1,h2⟩
theorem SB.val{b:B}{t:Rat}(h:SB b)(ht:G m 4 t):G (5*m) 32 (rq b*t)/\G (100+5*m) 32 (vq t b):=by
 have h1:=h.2.2.mul ht
 exact⟨h1,(h.2.1.fine 32 (by omega)).add (by omega) h1⟩
theorem SC.ne{c:List B}(h:SC c):c≠[]:=Un h.VC
theorem SC.at{c:List B}{t:Rat}(h:SC c)(ht:G m 4 t):G (100+5*m) 32 (AT c t):=by
 obtain⟨b,hb,e⟩:=List.mem_map.1 (AT_is (t:=t) h.ne).1
 rw[<- e]
 exact((h.2.2 b hb).val ht).2
end
section
def le2(a b:B):Prop:=bq a<=bq b/\rq a<=rq b
instance (a b:B):Decidable (le2 a b):=inferInstanceAs (Decidable (_/\_))
theorem US{a b:B}:iY a b=true↔a≠b/\le2 a b:=by unfold iY le2;simp[and_assoc]
theorem FI{a b:B}:iY a b=false↔(le2 a b->a=b):=by
 rw[Bool.eq_false_iff,ne_eq,US]
 constructor
 ·intro h h'
  exact Classical.byContradiction fun hn=>h ⟨hn,h'⟩
 ·intro h h'
  exact h'.1 (h h'.2)
theorem UT{c:List B}{v:B}:v∈kh c↔v∈c/\∀ a∈c,le2 a v->a=v:=by
 rw[XH];simp only[FI]
theorem cmpb{a b:B}(ha:GB a=true)(hb:GB b=true):qa a.yi b.yi=some (rt (bq a) (bq b)):=iG (rT (ny ha)) (rT (ny hb))
theorem MR{c:List B}(hc:∀ b∈c,GB b=true):∀ b∈kh c,GB b=true:=fun b hb=>hc b (UT.1 hb).1
end
section
def sI{β Sg:Type}(y:β->Sg->Option (Bool×Sg))(k:Sg->Option Sg):List β->Sg->Option Sg
 | [],s=>k s
 | p::l,s=>(y p s).bind fun x=>if !x.1 then some x.2 else sI y k l x.2
theorem X3{β Sg:Type}{y:β->Sg->Option (Bool×Sg)}{k:Sg->Option Sg}{m:List β}:∀(l:List β) (s:Sg),sI y k (l++m) s=sI y (sI y k m) l s
 | [],s=>rfl
 | p::l,s=>by
  show Option.bind _ _=Option.bind _ _
  congr 1
  funext x
  show(if _ then _ else sI y k (l++m) x.2)=_
  rw[X3 l]
theorem nE{β Sg:Type}{y:β->Sg->Option (Bool×Sg)}{k k':Sg->Option Sg}(h:∀ s,k s=k' s):∀(l:List β) (s:Sg),sI y k l s=sI y k' l s
 | [],s=>h s
 | p::l,s=>by
  show Option.bind _ _=Option.bind _ _
  congr 1
  funext x
  rw[nE h l]
theorem X4{Sg:Type}{c d:List B}{y:B×B->Sg->Option (Bool×Sg)}{v:Int}{k:Sg->Option Sg}(hs:(d.length:Int)<=1000000):
  ∀(n:Nat) (i:Int) (s:Sg),0<=i->i<=d.length->d.length<n+i->gA Sg d y c v k n i s=sI y k ((d.drop i.toNat).map fun z=>(nth c v,z)) s
 | 0,i,s,h0,h1,h2=>by omega
 | n+1,i,s,h0,h1,h2=>by
  rw[gA]
  by_cases h:i<d.length
  ·rw[Nw h,xM ⟨h0,h⟩,g6 h0 h,List.map_cons,sI]
   show Option.bind (y (nth c v,nth d i) s) _=_
   congr 1
   funext x
   rw[xS (by omega),X4 hs n (i+1) x.2 (by omega) (by omega) (by omega)]
  ·rw[Nx h,fo h]
   rfl
def sJ(a b:List B):List (B×B):=a.flatMap fun x=>b.map fun z=>(x,z)
theorem nF{a b:List B}{p:B×B}:p∈sJ a b↔p.1∈a/\p.2∈b:=by
 unfold sJ
 simp only[List.mem_flatMap,List.mem_map]
 constructor
 ·rintro⟨x,hx,z,hz,rfl⟩;exact⟨hx,hz⟩
 ·intro h;exact⟨p.1,h.1,p.2,h.2,rfl⟩
theorem KC(a b:List B):(sJ a b).length=a.length*b.length:=by
 induction a with
 | nil=>simp[sJ]
 | cons x a ih=>
  have:sJ (x::a) b=b.map (fun z=>(x,z))++sJ a b:=rfl
  rw[this,List.length_append,ih,List.length_map,List.length_cons,Nat.succ_mul];omega
theorem X5{Sg:Type}{c d:List B}{y:B×B->Sg->Option (Bool×Sg)}{k:Sg->Option Sg}(hs:(c.length:Int)<=1000000)(hd:(d.length:Int)<=1000000):
  ∀(n:Nat) (i:Int) (s:Sg),0<=i->i<=c.length->c.length<n+i->gB Sg c d y k n i s=sI y k (sJ (c.drop i.toNat) d) s
 | 0,i,s,h0,h1,h2=>by omega
 | n+1,i,s,h0,h1,h2=>by
  rw[gB]
  by_cases h:i<c.length
  ·rw[Nw h]
   refine wx (P:=fun o=>o=_) fun k1 w6=>?_
   rw[xM ⟨h0,h⟩]
   refine wx (P:=fun o=>o=_) fun k2 qI=>?_
   rw[X4 hd xT 0 s (by omega) (by omega) (by rw[wp];omega),g6 h0 h]
   show _=sI y k (((d.map fun z=>(nth c i,z)))++sJ (c.drop (i+1).toNat) d) s
   rw[X3,Int.toNat_zero,List.drop_zero]
   refine nE (fun s'=>?_) _ _
   rw[qI,w6,xS (by omega),X5 hs hd n (i+1) s' (by omega) (by omega) (by omega)]
  ·rw[Nx h,fo h]
   rfl
theorem MS{Sg:Type}{c d:List B}{y:B×B->Sg->Option (Bool×Sg)}{s:Sg}(hs:(c.length:Int)<=1000000)(hd:(d.length:Int)<=1000000):
  um Sg y s c d=sI y some (sJ c d) s:=by
 unfold um
 refine wx (P:=fun o=>o=_) fun k hk=>?_
 rw[X5 hs hd xT 0 s (by omega) (by omega) (by rw[wp];omega),Int.toNat_zero,List.drop_zero]
 exact nE hk _ _
theorem G0{β γ:Type}{y:β->Nat×List γ×Int->Option (Bool×(Nat×List γ×Int))}{ok:β->Bool}{g:β->List γ}{N:Nat}:
  ∀(l:List β) (out:List γ),out.length+l.length<=N->
   (∀ p∈l,(g p).length<=1/\∀ out:List γ,out.length<N->(ok p=true->y p (0,out,0)=some (true,(0,out++g p,0)))/\(ok p=false->∃ o,o.length<=out.length+1/\y p (0,out,0)=some (true,(0,o,3)))/\∃ o,o.length<=out.length+1/\y p (0,out,3)=some (true,(0,o,3)))->
   (∃ BJ,sI y some l (0,out,3)=some (0,BJ,3))/\∃ BJ,sI y some l (0,out,0)=some (0,if l.all ok then(out++l.flatMap g,0) else(BJ,3))
 | [],out,hl,h=>⟨⟨out,rfl⟩,⟨out,by simp[sI]⟩⟩
 | p::l,out,hl,h=>by
  simp only[List.length_cons] at hl
  obtain⟨h1,hp⟩:=h p (by simp)
  obtain⟨h2,h3,h4⟩:=hp out (by omega)
  have ih:=fun o ho=>G0 l o ho fun q hq=>h q (by simp[hq])
  constructor
  ·obtain⟨o1,hl1,e1⟩:=h4
   obtain⟨o,ho⟩:=(ih o1 (by omega)).1
   exact⟨o,by rw[sI,e1,oB];exact ho⟩
  ·cases hb:ok p with
   | true=>
    obtain⟨o,ho⟩:=(ih (out++g p) (by rw[List.length_append];omega)).2
    refine⟨o,?_⟩
    rw[sI,h2 hb,oB]
    refine Eq.trans (show _=sI y some l (0,out++g p,0) from rfl) (ho.trans ?_)
    rw[List.all_cons,hb,Bool.true_and,List.flatMap_cons,List.append_assoc]
   | false=>
    obtain⟨o1,hl1,e1⟩:=h3 hb
    obtain⟨o,ho⟩:=(ih o1 (by omega)).1
    refine⟨o,?_⟩
    rw[sI,e1,oB]
    refine Eq.trans (show _=sI y some l (0,o1,3) from rfl) (ho.trans ?_)
    rw[List.all_cons,hb,Bool.false_and,if_neg Bool.false_ne_true]
def sB(p:B×B):B:=⟨p7 (bq p.1+bq p.2),p7 (rq p.1+rq p.2)⟩
theorem eB{e:Int}{f:R->R->Option (R×Int)}{x y:R}(he:e≠0:=by decide):qS ⟨e⟩ f x y=some (⟨0,0⟩,⟨e⟩):=by
 unfold qS;rw[if_pos (by simpa using he)]
theorem Qs{f:R->R->Option (R×Int)}{x y:R}{q:Rat}(h:f x y=some (mk q)):qS ⟨0⟩ f x y=some (if fits q then(p7 q,⟨0⟩) else(⟨0,0⟩,⟨3⟩)):=by
 unfold qS
 rw[if_neg (by simp),h,oB]
 unfold mk
 cases fits q <;> rfl
end
section
theorem Vl{R:Type}{K:Option R}{F:Option R->Option R}{P:Option R->Prop}(h:∀ k:Option R,k=K->P (F k)):P (uN K F):=h K rfl
def VT(l:List R):Prop:=l.Pairwise fun x y=>val x<val y
theorem KD{a b c:Rat}(h:a<=b)(h':b<c):a<c:=by grind
def lX(s0:List R)(m:Int)(r:List R):Prop:=VT r/\(∀ v,v∈r↔v∈s0.take m.toNat)/\(r.length:Int)<=m
theorem lX.step{s0:List R}(hv:∀ x∈s0,V x=true)(hs:s0.Pairwise fun x y=>val x<=val y){m:Int}(h0:1<=m)(h:m<s0.length){r:List R}(hr:lX s0 m r):
  (nth s0 m=nth s0 (m-1)->lX s0 (m+1) r)/\(nth s0 m≠nth s0 (m-1)->lX s0 (m+1) (r++[nth s0 m])):=by
 have ht:=take_succ s0 (i:=m) h
 have hp:=take_succ s0 (i:=m-1) (by omega)
 have hm1:nth s0 (m-1)∈s0.take m.toNat:=by
  rw[show m=m-1+1 by omega,hp];simp
 constructor
 ·intro e
  refine⟨hr.1,fun v=>?_,by have:=hr.2.2;omega⟩
  rw[ht,hr.2.1,List.mem_append,List.mem_singleton]
  constructor
  ·exact fun h => .inl h
  ·rintro(h | rfl)
   ·exact h
   ·rw[e];exact hm1
 ·intro e
  have n8:val (nth s0 (m-1))<val (nth s0 m):=by
   have h1:=List.pairwise_iff_getElem.1 hs (m-1).toNat m.toNat (by omega) (by omega) (by omega)
   rw[sk (by omega) (by omega),sk (by omega) (by omega)] at h1
   rcases XF h1 with h | h
   ·exact h
   ·exact absurd (KY (hv _ (ws (by omega) (by omega))) (hv _ (ws (by omega) (by omega))) h).symm e
  constructor
  ·unfold VT
   rw[List.pairwise_append]
   refine⟨hr.1,by simp,fun a ha b hb=>?_⟩
   obtain rfl:=List.mem_singleton.1 hb
   have ha:=(hr.2.1 a).1 ha
   obtain⟨i,hi,rfl⟩:=List.mem_iff_getElem.1 ha
   rw[List.length_take] at hi
   rw[List.getElem_take]
   refine KD ?_ n8
   by_cases e2:i=(m-1).toNat
   ·subst e2
    rw[sk (by omega) (by omega)];exact Rat.le_refl
   ·have h1:=List.pairwise_iff_getElem.1 hs i (m-1).toNat (by omega) (by omega) (by omega)
    rw[sk (i:=m-1) (by omega) (by omega)] at h1
    exact h1
  ·refine⟨fun v=>?_,by have:=hr.2.2;rw[List.length_append,List.length_singleton];omega⟩
   rw[ht,List.mem_append,List.mem_append,hr.2.1]
theorem GJ{s:List R}{k j:Int}{v:R}(h0:0<=k)(h1:0<=j)(h:k≠j):nth (s.set k.toNat v) j=nth s j:=by
 unfold nth
 rw[List.getD_eq_getElem?_getD,List.getD_eq_getElem?_getD,List.getElem?_set_ne (by omega)]
theorem MT{s:List R}{k:Int}{v:R}(h0:0<=k)(h:k<s.length):(s.set k.toNat v).take (k+1).toNat=s.take k.toNat++[v]:=by
 rw[show(k+1).toNat=k.toNat+1 by omega,List.take_add_one,List.take_set_of_le (by omega),List.getElem?_set_self (by omega)]
 rfl
theorem XI{s0:List R}{K:Int}{k:List R->Int->Option (List R)}(hv:∀ x∈s0,V x=true)(hs:s0.Pairwise fun x y=>val x<=val y)(hK:1<=K/\K<s0.length)(hl:(s0.length:Int)<=1000000):
  ∀(n:Nat) (s:List R) (j i:Int),1<=i->K+i<=s0.length->s0.length-K<n+i->K<=j->j<=K+i-1->s.length=s0.length->(∀ q:Int,K+i-1<=q->nth s q=nth s0 q)->lX s0 (K+i) (s.take j.toNat)->
   ∃ s' j',vH s0 K k n s j i=k s' j'/\0<=j'/\j'<=s'.length/\lX s0 s0.length (s'.take j'.toNat)
 | 0,s,j,i,h0,h1,h2,h3,h4,h5,h6,h7=>by omega
 | n+1,s,j,i,h0,h1,h2,h3,h4,h5,h6,h7=>by
  rw[vH]
  by_cases h:i<((s0.length-K.toNat:Nat):Int)
  ·rw[Nw h]
   simp only[sm]
   rw[xS (x:=i-1) (by omega),xM (by omega),xM (by omega)]
   have e1:nth s (K+i)=nth s0 (K+i):=h6 _ (by omega)
   have e2:nth s (K+(i-1))=nth s0 (K+i-1):=by rw[show K+(i-1)=K+i-1 by omega];exact h6 _ (by omega)
   show ∃ s' j',(if decide (nth s (K+i)≠nth s (K+(i-1))) then _ else _)=_/\_
   rw[e1,e2]
   have st:=lX.step hv hs (m:=K+i) (by omega) (by omega) h7
   by_cases he:nth s0 (K+i)=nth s0 (K+i-1)
   ·rw[if_neg (by simpa using he),xS (x:=i+1) (by omega)]
    refine XI (k:=k) hv hs hK hl n s j (i+1) (by omega) (by omega) (by omega) h3 (by omega) h5 (fun q hq=>h6 q (by omega)) ?_
    rw[show K+(i+1)=K+i+1 by omega]
    exact st.1 he
   ·rw[Nw he,xM (by omega),xM (by omega),xS (x:=i+1) (by omega),xS (x:=j+1) (by omega)]
    have eta:(⟨(nth s0 (K+i)).fN,(nth s0 (K+i)).fD⟩:R)=nth s0 (K+i):=rfl
    rw[eta]
    refine XI (k:=k) hv hs hK hl n (s.set j.toNat (nth s0 (K+i))) (j+1) (i+1) (by omega) (by omega) (by omega) (by omega) (by omega) (by rw[List.length_set];exact h5) (fun q hq=>?_) ?_
    ·rw[GJ (by omega) (by omega) (by omega)]
     exact h6 q (by omega)
    ·rw[MT (by omega) (by omega),show K+(i+1)=K+i+1 by omega]
     exact st.2 he
  ·rw[Nx h]
   refine⟨s,j,rfl,by omega,by omega,?_⟩
   rw[show(s0.length:Int)=K+i by omega]
   exact h7
theorem Jw{s0:List R}{k:Option (List R)}(hv:∀ x∈s0,V x=true)(hs:s0.Pairwise fun x y=>val x<=val y)(hl:(s0.length:Int)<=1000000)(hk:k=some s0):
  ∀(n:Nat) (i:Int),1<=i->i<=s0.length->s0.length<n+i->lX s0 i (s0.take i.toNat)->
   ∃ r,vJ s0 k n i=some r/\lX s0 s0.length r
 | 0,i,h0,h1,h2,h3=>by omega
 | n+1,i,h0,h1,h2,h3=>by
  rw[vJ]
  by_cases h:i<s0.length
  ·rw[Nw h]
   refine Vl (P:=fun o=>∃ r,o=some r/\lX s0 s0.length r) fun k1 w6=>?_
   rw[xS (x:=i+1) (by omega)] at w6
   rw[xS (x:=i-1) (by omega),xM (by omega),xM (by omega)]
   have st:=lX.step hv hs (m:=i) h0 h h3
   show ∃ r,(if decide (nth s0 i=nth s0 (i-1)) then _ else _)=_/\_
   by_cases he:nth s0 i=nth s0 (i-1)
   ·rw[Nw he,xM (by omega)]
    refine tg (P:=fun o=>∃ r,o=some r/\lX s0 s0.length r) fun k2 qI=>?_
    obtain⟨s',j',e,h4,h5,h6⟩:=XI (k:=k2) hv hs ⟨h0,h⟩ hl xT s0 i 1 (by omega) (by omega) (by rw[wp];omega) (by omega) (by omega) rfl (fun q _=>rfl) (by exact st.1 he)
    rw[e,qI]
    have ht:(s'.take j'.toNat++List.replicate (s'.length-j'.toNat) ((⟨0,0⟩:R):R)).take j'.toNat=s'.take j'.toNat:=by
     rw[List.take_append_of_le_length (by rw[List.length_take];omega),List.take_take,Nat.min_self]
    rw[xM ⟨h4,h5⟩,xM ⟨h4,by rw[List.length_append,List.length_take,List.length_replicate];omega⟩]
    exact⟨_,congrArg some ht,h6⟩
   ·rw[Nx he,w6]
    refine Jw hv hs hl hk n (i+1) (by omega) (by omega) (by omega) ?_
    rw[take_succ s0 h]
    exact st.2 he
  ·rw[Nx h]
   refine⟨s0,hk,?_⟩
   rw[show(s0.length:Int)=i by omega]
   have:=h3
   rwa [List.take_of_length_le (by omega)] at this
theorem GK{s0:List R}(hv:∀ x∈s0,V x=true)(hs:s0.Pairwise fun x y=>val x<=val y)(hl:(s0.length:Int)<=1000000):
  ∃ r,jo s0=some r/\VT r/\(∀ v,v∈r↔v∈s0)/\r.length<=s0.length:=by
 unfold jo
 by_cases h:(s0.length:Int)<2
 ·rw[Nw h]
  refine⟨s0,rfl,?_,fun _=>Iff.rfl,Nat.le_refl _⟩
  unfold VT
  rcases s0 with _ | ⟨x,_ | ⟨y,l⟩⟩
  ·exact .nil
  ·simp
  ·simp only[List.length_cons] at h;omega
 ·rw[Nx h]
  refine Vl (P:=fun o=>∃ r,o=some r/\VT r/\(∀ v,v∈r↔v∈s0)/\r.length<=s0.length) fun k hk=>?_
  have h1:lX s0 1 (s0.take (1:Int).toNat):=by
   refine⟨?_,fun _=>Iff.rfl,by rw[List.length_take];omega⟩
   have:=take_succ s0 (i:=0) (by omega)
   rw[show((0:Int)+1)=1 from rfl,Int.toNat_zero,List.take_zero,List.nil_append] at this
   rw[this]
   simp[VT]
  obtain⟨r,e,hr⟩:=Jw hv hs hl hk xT 1 (by omega) (by omega) (by rw[wp];omega) h1
  refine⟨r,e,hr.1,fun v=>?_,by have:=hr.2.2;omega⟩
  rw[hr.2.1,Int.toNat_natCast,List.take_length]
end
section
def bpA(p:B×B):Rat:=bq p.2-bq p.1
def ae(p:B×B):Rat:=rq p.1-rq p.2
def bp(p:B×B):Rat:=bpA p / ae p
def GL(p:B×B):Bool:=fits (bpA p)&&fits (ae p)&&fits (bp p)
def bl(p:B×B):Bool:=decide (bq p.1<bq p.2)
def Wx(p:B×B):Bool := !bl p||GL p
def bg(p:B×B):List R:=if bl p then[p7 (bp p)] else[]
theorem GM{p:B×B}{out:List R}(h1:GB p.1=true)(h2:GB p.2=true)(hd:bl p=true->rq p.2<rq p.1)(hl:out.length<2000):
  (Wx p=true->qs p out 0=some (true,(0,out++bg p,0)))/\(Wx p=false->∃ o,o.length<=out.length+1/\qs p out 0=some (true,(0,o,3)))/\∃ o,o.length<=out.length+1/\qs p out 3=some (true,(0,o,3)):=by
 unfold qs
 rw[cmpb h1 h2]
 simp only[oB]
 have a1:=Qs (f:=fun y0 y1=>jB y0 y1) (Wt (rT (ny h2)) (rT (ny h1)))
 have a2:=Qs (f:=fun y0 y1=>jB y0 y1) (Wt (rT (Y0 h1)) (rT (Y0 h2)))
 have e1:val p.2.yi-val p.1.yi=bpA p:=rfl
 have e2:val p.1.fR-val p.2.fR=ae p:=rfl
 rw[e1] at a1;rw[e2] at a2
 unfold Wx bg
 by_cases hb:bq p.1<bq p.2
 ·have Bx:bl p=true:=decide_eq_true hb
  rw[Nw (pS.2 hb),Nw (pS.2 hb)]
  rw[Bx,if_pos rfl]
  have zN:0<ae p:=by have:=hd Bx;unfold ae;grind
  have l1:∀ v:R,(((out++[v]).length:Nat):Int)*16<=140737488355328/\(((out++[v]).length:Nat):Int)<=4611686018427387904:=fun v=>by
   simp only[List.length_append,List.length_cons,List.length_nil];omega
  refine⟨fun hk=>?_,fun hk=>?_,?_⟩
  ·simp only[Bool.not_true,Bool.false_or,GL,Bool.and_eq_true] at hk
   obtain⟨⟨f1,f2⟩,f3⟩:=hk
   rw[a1,f1,if_pos rfl,oB]
   simp only[]
   rw[a2,f2,if_pos rfl,oB]
   simp only[]
   have hn:(p7 (ae p)).fN≠0:=by
    intro h0
    have h1:(ae p).num=0:=h0
    rw[Rat.num_eq_zero.1 h1] at zN
    exact absurd zN (by decide)
   have a3:=Qs (f:=fun y0 y1=>gZ y0 y1) (Wu (nw f1) (nw f2) hn)
   rw[cC,cC] at a3
   have e3:bpA p / ae p=bp p:=rfl
   rw[e3,f3,if_pos rfl] at a3
   rw[a3,oB]
   rw[xM (l1 _)]
  ·simp only[Bool.not_true,Bool.false_or,GL] at hk
   cases f1:fits (bpA p) with
   | false=>
    rw[a1,f1,if_neg Bool.false_ne_true,oB]
    simp only[]
    rw[eB,oB]
    simp only[]
    rw[eB,oB,xM (l1 _)]
    exact⟨_,by simp,rfl⟩
   | true=>
    rw[a1,f1,if_pos rfl,oB]
    simp only[]
    cases f2:fits (ae p) with
    | false=>
     rw[a2,f2,if_neg Bool.false_ne_true,oB]
     simp only[]
     rw[eB,oB,xM (l1 _)]
     exact⟨_,by simp,rfl⟩
    | true=>
     rw[a2,f2,if_pos rfl,oB]
     simp only[]
     have hn:(p7 (ae p)).fN≠0:=by
      intro h0
      have h1:(ae p).num=0:=h0
      rw[Rat.num_eq_zero.1 h1] at zN
      exact absurd zN (by decide)
     have a3:=Qs (f:=fun y0 y1=>gZ y0 y1) (Wu (nw f1) (nw f2) hn)
     rw[cC,cC] at a3
     have e3:bpA p / ae p=bp p:=rfl
     rw[f1,f2,Bool.true_and,Bool.true_and] at hk
     rw[e3,hk,if_neg Bool.false_ne_true] at a3
     rw[a3,oB,xM (l1 _)]
     exact⟨_,by simp,rfl⟩
  ·rw[eB,oB]
   simp only[]
   rw[eB,oB]
   simp only[]
   rw[eB,oB,xM (l1 _)]
   exact⟨_,by simp,rfl⟩
 ·have Bx:bl p=false:=decide_eq_false hb
  have hn:¬decide (rt (bq p.1) (bq p.2)<0)=true:=fun h=>hb (pS.1 (of_decide_eq_true h))
  rw[if_neg hn,if_neg hn,Bx,if_neg Bool.false_ne_true]
  refine⟨fun _=>by rw[List.append_nil],fun h=>by simp at h,⟨out,by omega,rfl⟩⟩
theorem VU:∀ {l:List B},(l.Pairwise fun x y=>bq x<bq y/\rq y<rq x)->∀ {x y:B},x∈l->y∈l->bq x<bq y->rq y<rq x
 | [],_,x,y,hx,_,_=>by simp at hx
 | z::l,h,x,y,hx,hy,hxy=>by
  obtain⟨h1,h2⟩:=List.pairwise_cons.1 h
  rcases List.mem_cons.1 hx with e | hx'
  ·subst e
   rcases List.mem_cons.1 hy with e | hy'
   ·subst e;grind
   ·exact(h1 y hy').2
  ·rcases List.mem_cons.1 hy with e | hy'
   ·subst e;have:=(h1 x hx').1;grind
   ·exact VU h2 hx' hy' hxy
theorem UU{p:B×B}(h:Wx p=true)(h2:bl p=true):fits (bp p)=true:=by
 unfold Wx GL at h
 rw[h2] at h
 simp only[Bool.not_true,Bool.false_or,Bool.and_eq_true] at h
 exact h.2
theorem VV{c:List B}(hc:VC c=true):
  if (sJ (kh c) (kh c)).all Wx then ∃ r,jL c=some (r,0)/\VT r/\(∀ v,v∈r↔∃ p,(p.1∈kh c/\p.2∈kh c)/\bl p=true/\v=p7 (bp p))/\(∀ v∈r,V v=true)/\r.length<=1100
  else jL c=some ([],3):=by
 have la:=Wv hc;have na:=MO c
 have ga:=MR (Y3 hc)
 unfold jL
 rw[rM,hc,UM (Y3 hc) (by omega)]
 simp only[oB,Bool.not_true,Bool.false_eq_true,if_false]
 have hp:=KC (kh c) (kh c)
 have hm:(kh c).length*(kh c).length<=32*32:=Nat.mul_le_mul (by omega) (by omega)
 obtain⟨o,ho⟩:=(G0 (y:=fun(x:B×B) (s:Nat×List R×Int)=>chk (s.1=0) (qs x s.2.1 s.2.2)) (ok:=Wx) (g:=bg) (N:=1100) (sJ (kh c) (kh c)) [] (by rw[hp];simp;omega) (by
   intro p hp
   have hm:=nF.1 hp
   refine⟨by unfold bg;split <;> simp,fun out hl=>?_⟩
   have st:=GM (p:=p) (out:=out) (ga _ hm.1) (ga _ hm.2) (fun h=>VU KA hm.1 hm.2 (of_decide_eq_true h)) (by omega)
   refine⟨fun hk=>?_,fun hk=>?_,?_⟩
   ·show chk (0=0) (qs p out 0)=_
    rw[xM rfl];exact st.1 hk
   ·obtain⟨o,h1,h2⟩:=st.2.1 hk
    refine⟨o,h1,?_⟩
    show chk (0=0) (qs p out 0)=_
    rw[xM rfl];exact h2
   ·obtain⟨o,h1,h2⟩:=st.2.2
    refine⟨o,h1,?_⟩
    show chk (0=0) (qs p out 3)=_
    rw[xM rfl];exact h2)).2
 have key:∀ k:Int->List R->Option (List R×Int),(rB (kh c) (kh c)).bind (fun zWQ=>(um (Nat×List R×Int) (fun(x:B×B) (s:Nat×List R×Int)=>chk (s.1=0) (qs x s.2.1 s.2.2)) (0,([]:List R),0) zWQ.1 zWQ.2).bind fun zWR=>k zWR.2.2 zWR.2.1)=if (sJ (kh c) (kh c)).all Wx then k 0 ((sJ (kh c) (kh c)).flatMap bg) else k 3 o:=by
  intro k
  unfold rB
  rw[oB]
  simp only[]
  rw[MS (by omega) (by omega),ho,oB]
  split <;> simp
 cases hf:(sJ (kh c) (kh c)).all Wx with
 | true=>
  rw[if_pos rfl]
  refine tg (P:=fun(o:Option (List R×Int))=>∃ r,o=some (r,0)/\VT r/\(∀ v,v∈r↔∃ p,(p.1∈kh c/\p.2∈kh c)/\bl p=true/\v=p7 (bp p))/\(∀ v∈r,V v=true)/\r.length<=1100) fun k hk=>?_
  rw[key,hf,if_pos rfl,hk,if_neg (by simp)]
  have qm:∀ v,v∈(sJ (kh c) (kh c)).flatMap bg↔∃ p,(p.1∈kh c/\p.2∈kh c)/\bl p=true/\v=p7 (bp p):=by
   intro v
   rw[List.mem_flatMap]
   constructor
   ·rintro⟨p,hp,hv⟩
    unfold bg at hv
    cases hb:bl p with
    | true=>rw[hb,if_pos rfl] at hv;exact⟨p,nF.1 hp,hb,by simpa using hv⟩
    | false=>rw[hb] at hv;simp at hv
   ·rintro⟨p,hp,hb,rfl⟩
    exact⟨p,nF.2 hp,by unfold bg;rw[hb,if_pos rfl];simp⟩
  have hV:∀ v∈(sJ (kh c) (kh c)).flatMap bg,V v=true:=by
   intro v hv
   obtain⟨p,hp,hb,rfl⟩:=(qm v).1 hv
   exact nw (UU (List.all_eq_true.1 hf p (nF.2 hp)) hb)
  have kM:((sJ (kh c) (kh c)).flatMap bg).length<=1100:=by
   have:∀ l:List (B×B),(l.flatMap bg).length<=l.length:=by
    intro l
    induction l with
    | nil=>simp
    | cons x l ih=>
     rw[List.flatMap_cons,List.length_append,List.length_cons]
     have:(bg x).length<=1:=by unfold bg;split <;> simp
     omega
   have:=this (sJ (kh c) (kh c));omega
  rw[MN (key:=val) (fun x hx y hy=>iG (hV x hx) (hV y hy)) (fun x hx y hy h=>KY (hV x hx) (hV y hy) h) (by omega),oB]
  have tS:=cq val ((sJ (kh c) (kh c)).flatMap bg)
  obtain⟨r,e,h1,h2,h3⟩:=GK (s0:=cp val ((sJ (kh c) (kh c)).flatMap bg)) (fun x hx=>hV x (tS.mem_iff.1 hx)) (bf _ _) (by rw[tS.length_eq];omega)
  rw[e,oB]
  refine⟨r,rfl,h1,fun v=>?_,fun v hv=>hV v (tS.mem_iff.1 ((h2 v).1 hv)),by rw[tS.length_eq] at h3;omega⟩
  rw[h2,tS.mem_iff,qm]
 | false=>
  rw[if_neg Bool.false_ne_true]
  refine tg (P:=fun o=>o=_) fun k hk=>?_
  rw[key,hf,if_neg Bool.false_ne_true,hk]
  simp
theorem Wy{c:List B}(h:VC c=false):jL c=some ([],2):=by
 unfold jL
 rw[rM,h];rfl
end
section
variable {x y:R}
abbrev SV:=yv
def Z1:R:=⟨0,1⟩
theorem cD:gY=some Z1:=rfl
theorem Y6{RR A0 A1 A2:Type}{K:A0->A1->A2->Option RR}{F:(A0->A1->A2->Option RR)->Option RR}{P:Option RR->Prop}(h:∀ k:A0->A1->A2->Option RR,(∀ x0 x1 x2,k x0 x1 x2=K x0 x1 x2)->P (F k)):P (Vw K F):=h K fun _ _ _=>rfl
theorem iH(h:¬(V x=true/\V y=true)):(if !(V x) then some true else(some (V y)).bind fun v=>some (!v))=some true:=by
 cases hx:V x with
 | false=>rfl
 | true=>
  cases hy:V y with
  | false=>rfl
  | true=>exact absurd ⟨hx,hy⟩ h
theorem G1(h:¬(V x=true/\V y=true)):vV x y=some (⟨0,0⟩,2):=by
 unfold vV ip
 rw[qE,qE,oB,iH h];rfl
theorem G2(h:¬(V x=true/\V y=true)):jB x y=some (⟨0,0⟩,2):=by
 unfold jB iz
 rw[qE,qE,oB,iH h];rfl
theorem G3(h:¬(V x=true/\V y=true)):gz x y=some (⟨0,0⟩,2):=by
 unfold gz cZ
 rw[qE,qE,oB,iH h];rfl
theorem G4(h:¬(V x=true/\V y=true)):gZ x y=some (⟨0,0⟩,2):=by
 unfold gZ iB
 rw[qE,qE,oB,iH h];rfl
theorem UV(h:¬(V x=true/\V y=true)):qa x y=some 0:=by
 unfold qa
 rw[qE,qE,oB,iH h];rfl
def X6(x y:R):R×Int:=(vV x y).getD (⟨0,0⟩,0)
def Jx(x y:R):R×Int:=(jB x y).getD (⟨0,0⟩,0)
def MUL(x y:R):R×Int:=(gz x y).getD (⟨0,0⟩,0)
def DIV(x y:R):R×Int:=(gZ x y).getD (⟨0,0⟩,0)
def CM(x y:R):Int:=(qa x y).getD 0
theorem nG{x:R}(y:R):vV x y=some (X6 x y)/\True:=by
 unfold X6
 by_cases h:V x=true/\V y=true
 ·rw[Jp h.1 h.2];exact⟨rfl,trivial⟩
 ·rw[G1 h];exact⟨rfl,trivial⟩
theorem GN(x y:R):jB x y=some (Jx x y)/\True:=by
 unfold Jx
 by_cases h:V x=true/\V y=true
 ·rw[Wt h.1 h.2];exact⟨rfl,trivial⟩
 ·rw[G2 h];exact⟨rfl,trivial⟩
theorem Uo(x:R){y:R}:gz x y=some (MUL x y)/\True:=by
 unfold MUL
 by_cases h:V x=true/\V y=true
 ·rw[Jq h.1 h.2];exact⟨rfl,trivial⟩
 ·rw[G3 h];exact⟨rfl,trivial⟩
theorem div_s{x:R}(h0:y.fN≠0):gZ x y=some (DIV x y)/\True:=by
 unfold DIV
 by_cases h:V x=true/\V y=true
 ·rw[Wu h.1 h.2 h0];exact⟨rfl,trivial⟩
 ·rw[G4 h];exact⟨rfl,trivial⟩
theorem Jy{x y:R}:qa x y=some (CM x y)/\True:=by
 unfold CM
 by_cases h:V x=true/\V y=true
 ·rw[iG h.1 h.2];exact⟨rfl,trivial⟩
 ·rw[UV h];exact⟨rfl,trivial⟩
theorem GO{N D:Int}(hD:0<D):∃ f:Int,(f=if Int.tmod N D<0 then Int.tdiv N D-1 else Int.tdiv N D)/\f*D<=N/\N<(f+1)*D:=by
 have h1:=Int.mul_tdiv_add_tmod N D
 have h2:Int.tmod N D<D:=Int.tmod_lt_of_pos N hD
 have h3 : -D<Int.tmod N D:=by
  have h4:=Int.tmod_lt_of_pos (-N) hD
  rw[Int.neg_tmod] at h4
  omega
 by_cases h:Int.tmod N D<0
 ·refine⟨_,rfl,?_⟩
  rw[if_pos h]
  have e1:(Int.tdiv N D-1)*D=D*Int.tdiv N D-D:=by rw[Int.sub_mul,Int.one_mul,Int.mul_comm]
  have e2:(Int.tdiv N D-1+1)*D=D*Int.tdiv N D:=by rw[Int.sub_add_cancel,Int.mul_comm]
  rw[e1,e2]
  omega
 ·refine⟨_,rfl,?_⟩
  rw[if_neg h]
  have e1:Int.tdiv N D*D=D*Int.tdiv N D:=Int.mul_comm _ _
  have e2:(Int.tdiv N D+1)*D=D*Int.tdiv N D+D:=by rw[Int.add_mul,Int.one_mul,Int.mul_comm]
  rw[e1,e2]
  omega
theorem fl_bd{f N D:Int}(hD:1<=D)(hN : -1073741824<=N/\N<=1073741824)(h1:f*D<=N)(h2:N<(f+1)*D) : -1073741824<=f/\f<=1073741824:=by
 constructor
 ·refine Int.not_lt.1 fun h=>?_
  have:=Int.mul_le_mul_of_nonneg_left hD (show 0 <= -(f+1) by omega)
  have e : -(f+1)*D = -((f+1)*D):=Int.neg_mul _ _
  omega
 ·refine Int.not_lt.1 fun h=>?_
  have:=Int.mul_le_mul_of_nonneg_left hD (show 0<=f by omega)
  omega
theorem Jz(hx:V x=true):∃ f:Int,j8 x=some f/\f*x.fD<=x.fN/\x.fN<(f+1)*x.fD /\ -1073741824<=f/\f<=1073741824:=by
 have hv:=hx
 simp only[V,decide_eq_true_eq] at hv
 obtain⟨f,hf,h1,h2⟩:=GO (N:=x.fN) (D:=x.fD) (by omega)
 have hb:=fl_bd hv.1 (by omega) h1 h2
 refine⟨f,?_,h1,h2,hb⟩
 unfold j8
 rw[qE,hx,oB,if_neg (by simp),xM (by omega)]
 simp only[qt]
 rw[xM (by omega)]
 have hq : -1073741824<=Int.tdiv x.fN x.fD/\Int.tdiv x.fN x.fD<=1073741825:=by
  by_cases h:Int.tmod x.fN x.fD<0
  ·rw[if_pos h] at hf;omega
  ·rw[if_neg h] at hf;omega
 by_cases h:Int.tmod x.fN x.fD<0
 ·rw[Nw h,xS (x:=Int.tdiv x.fN x.fD) (by omega),xS (by omega),hf,if_pos h]
 ·rw[Nx h,xS (by omega),hf,if_neg h]
theorem UW(hx:V x=true):∃ e:Int,ge x=some e/\(e-1)*x.fD<x.fN/\x.fN<=e*x.fD /\ -1073741824<=e/\e<=1073741824:=by
 have hv:=hx
 simp only[V,decide_eq_true_eq] at hv
 have hn:V ⟨-x.fN,x.fD⟩=true:=by
  unfold V
  rw[decide_eq_true_eq]
  refine⟨hv.1,hv.2.1,by show -1073741824 <= -x.fN;omega,by show -x.fN<=1073741824;omega,?_⟩
  show Nat.gcd (-x.fN).natAbs x.fD.natAbs=1
  rw[Int.natAbs_neg];exact hv.2.2.2.2
 obtain⟨f,ef,f1,f2,f3,f4⟩:=Jz hn
 have f1:f*x.fD <= -x.fN:=f1
 have f2 : -x.fN<(f+1)*x.fD:=f2
 refine⟨-f,?_,?_,?_,by omega,by omega⟩
 ·unfold ge
  rw[qE,hx,oB,if_neg (by simp),xS (x:=0-x.fN) (by omega),show(0:Int)-x.fN = -x.fN by omega,ef,oB,xS (by omega)]
  congr 1;omega
 ·have e:(-f-1)*x.fD = -((f+1)*x.fD):=by rw[show -f-1 = -(f+1) by omega,Int.neg_mul]
  rw[e];omega
 ·rw[Int.neg_mul];omega
def flr(x:R):Int:=(j8 x).getD 0
def JA(x:R):Int:=(ge x).getD 0
theorem YC{x:R}:j8 x=some (flr x)/\True:=by
 unfold flr
 cases hx:V x with
 | true=>
  obtain⟨f,ef,_⟩:=Jz hx
  rw[ef];exact⟨rfl,trivial⟩
 | false=>
  have h1:j8 x=some 0:=by unfold j8;rw[qE,hx];rfl
  rw[h1];exact⟨rfl,trivial⟩
theorem Qu{x:R}:ge x=some (JA x)/\True:=by
 unfold JA
 cases hx:V x with
 | true=>
  obtain⟨f,ef,_⟩:=UW hx
  rw[ef];exact⟨rfl,trivial⟩
 | false=>
  have h1:ge x=some 0:=by unfold ge;rw[qE,hx];rfl
  rw[h1];exact⟨rfl,trivial⟩
def bi(r:List R):List R:=r.flatMap fun x=>[⟨flr x,1⟩,⟨JA x,1⟩]
theorem MU(r:List R):(bi r).length=2*r.length:=by
 unfold bi
 induction r with
 | nil=>rfl
 | cons x r ih=>rw[List.flatMap_cons,List.length_append,ih];simp;omega
def VS(s:SV):Bool:=(V s.fR&&decide (s.fR.fN>0)&&V s.fL)&&decide (s.fL.fN>=0)
theorem VW(s:SV):t6 s=some (VS s):=by
 unfold t6 VS
 rw[qE,qE,oB,oB]
 cases V s.fR <;> cases decide (s.fR.fN>0) <;> simp
theorem VS_r{s:SV}(h:VS s=true):V s.fR=true/\0<s.fR.fN/\V s.fL=true/\0<=s.fL.fN:=by
 simp only[VS,Bool.and_eq_true,decide_eq_true_eq] at h
 exact⟨h.1.1.1,h.1.1.2,h.1.2,h.2⟩
def CD(e:Int)(r:R×Int):R×Int:=if e≠0 then(Z1,e) else if r.2≠0 then(Z1,r.2) else r
theorem Wz{e:Int}{f:R->R->Option (R×Int)}{r:R×Int}(h:f x y=some r):vC ⟨e⟩ f x y=some ((CD e r).1,⟨(CD e r).2⟩):=by
 unfold vC CD
 rw[h,cD]
 by_cases he:e≠0
 ·rw[if_pos (by simpa using he),if_pos he];rfl
 ·rw[Nx he,if_neg he,oB]
  by_cases hr:r.2≠0
  ·rw[if_pos (by simpa using hr),if_pos hr];rfl
  ·rw[Nx hr,if_neg hr]
end
section
variable {l:List (List B)}{s:SV}{t:R}
theorem UX(c:List B)(t:R):∃ x,uc c t=some x:=by
 by_cases h:VC c=true/\GR t=true
 ·exact⟨_,Um h.1 h.2⟩
 ·exact⟨_,FH h⟩
def X7(c:List B)(t:R):R×Int:=(uc c t).getD (⟨0,0⟩,0)
theorem at_s(c:List B)(t:R):uc c t=some (X7 c t):=by
 obtain⟨x,e⟩:=UX c t
 unfold X7;rw[e];rfl
def Y7(t:R):List (List B)->R×Int->R×Int
 | [],a=>a
 | c::l,a=>Y7 t l (CD (if a.2=0 then(X7 c t).2 else a.2) (X6 a.1 (X7 c t).1))
theorem WA{l:List (List B)}{t:R}{k:Int->Int->Int->Option (R×yu)}(hl:l.length<=1000):∀(n:Nat) (i:Int) (a:R×Int),0<=i->i<=l.length->l.length<n+i->
  jq l t k n i a.2 a.1.fN a.1.fD=k (Y7 t (l.drop i.toNat) a).1.fN (Y7 t (l.drop i.toNat) a).1.fD (Y7 t (l.drop i.toNat) a).2
 | 0,i,a,h0,h1,h2=>by omega
 | n+1,i,a,h0,h1,h2=>by
  rw[jq]
  by_cases h:i<l.length
  ·rw[Nw h,xM ⟨h0,h⟩,at_s,oB,g6 h0 h,Y7]
   refine wx (P:=fun o=>o=_) fun kk wT=>?_
   have e1:(if decide (a.2=0)=true then kk (X7 (nth l i) t).2 else kk a.2)=kk (if a.2=0 then(X7 (nth l i) t).2 else a.2):=by
    by_cases h:a.2=0 <;> simp[h]
   rw[e1,wT]
   show((vC ⟨_⟩ (fun y0 y1=>vV y0 y1) a.1 (X7 (nth l i) t).1).bind _)=_
   rw[Wz (nG (x:=a.1) (X7 (nth l i) t).1).1,oB,xS (by omega)]
   exact WA hl n (i+1) _ (by omega) (by omega) (by omega)
  ·rw[Nx h,fo h]
   rfl
theorem JB{e:Int}(hl:l.length<=1000):gj ⟨e⟩ l t=some ((Y7 t l (Z1,e)).1,⟨(Y7 t l (Z1,e)).2⟩):=by
 unfold gj
 rw[cD,oB]
 refine Y6 (P:=fun o=>o=_) fun k hk=>?_
 have:=WA (t:=t) (k:=k) hl xT 0 (Z1,e) (by omega) (by omega) (by rw[wp];omega)
 rw[this,hk];rfl
def dv(l:List (List B))(s:SV)(e:Int)(t:R):R×Int:=
 let x1:=Y7 t l (Z1,e)
 let x2:=CD x1.2 (DIV x1.1 s.fR)
 let x3:=CD x2.2 (Jx x2.1 t)
 CD x3.2 (X6 x3.1 s.fL)
def bv(l:List (List B))(s:SV)(e:Int)(t:R):R×Int:=
 let x1:=Y7 t l (Z1,e)
 let x2:=CD x1.2 (Jx t s.fL)
 let x3:=CD x2.2 (MUL s.fR x2.1)
 if CM t s.fL<=0 then x1 else CD x3.2 (Jx x1.1 x3.1)
theorem FJ{e:Int}(hl:l.length<=1000)(hs:VS s=true):ug ⟨e⟩ t l s=some ((dv l s e t).1,⟨(dv l s e t).2⟩):=by
 have h0:=(VS_r hs).2.1
 unfold ug
 rw[JB hl,oB,Wz (div_s (y:=s.fR) (by omega)).1,oB,Wz (GN _ t).1,oB,Wz (nG s.fL).1]
 rfl
theorem KE{e:Int}(hl:l.length<=1000):mA ⟨e⟩ t l s=some ((bv l s e t).1,⟨(bv l s e t).2⟩):=by
 unfold mA bv
 rw[JB hl,oB,(Jy (x:=t) (y:=s.fL)).1,oB]
 by_cases h:CM t s.fL<=0
 ·rw[Nw h,if_pos h]
 ·rw[Nx h,if_neg h,Wz (GN t s.fL).1,oB,Wz (Uo s.fR).1,oB,Wz (GN _ _).1]
  rfl
section
variable {f:Int->R->R×Int}
def uF(f:Int->R->R×Int)(s:List R×Int)(p:R):List R×Int:=
 (match s.1 with | []=>[(f s.2 p).1] | b::r=>if CM (f s.2 p).1 b>0 then[(f s.2 p).1] else b::r,(f s.2 p).2)
theorem WB:∀(P:List R) (s:List R×Int),s.1≠[]->(P.foldl (uF f) s).1≠[]
 | [],s,h=>h
 | p::P,s,h=>by
  rw[List.foldl_cons]
  refine WB P _ ?_
  unfold uF
  cases hs:s.1 with
  | nil=>exact absurd hs h
  | cons b r=>simp only;split <;> simp
def VX(f:Int->R->R×Int)(P:List R):R×Int:=
 let r:=P.foldl (uF f) ([],0)
 if r.2≠0 then(⟨0,0⟩,r.2) else(nth r.1 0,0)
end
theorem KF(a:List B):∃ x:List R×Int,jL a=some x/\x.1.length<=1100:=by
 cases h:VC a with
 | true=>
  have:=VV h
  split at this
  ·obtain⟨r,e,_,_,_,hl⟩:=this
   exact⟨_,e,hl⟩
  ·exact⟨_,this,by simp⟩
 | false=>exact⟨_,Wy h,by simp⟩
def eC(c:List B):List R×Int:=(jL c).getD ([],0)
theorem nH(c:List B):jL c=some (eC c)/\(eC c).1.length<=1100:=by
 obtain⟨x,e,h⟩:=KF c
 unfold eC
 rw[e];exact⟨rfl,h⟩
def VY(c:List B):R×Int:=(t8 c).getD (⟨0,0⟩,0)
theorem rt_s{c:List B}(h:VC c=true):t8 c=some (VY c)/\V (VY c).1=true:=by
 obtain⟨d,e,hd,_⟩:=UR h
 unfold VY
 rw[e]
 exact⟨rfl,rT (Y0 (Y3 h d hd))⟩
def iZ(l:List (List B))(tf:List R):List R:=Z1::((l.flatMap fun c=>bi (eC c).1)++bi tf)
theorem pp(l:List (List B)):(l.flatMap fun c=>bi (eC c).1).length<=2200*l.length:=by
 induction l with
 | nil=>simp
 | cons c l ih=>
  have:=(nH c).2
  rw[List.flatMap_cons,List.length_append,MU,List.length_cons];omega
def X8:List (List B)->R×Int->Int ⊕ (R×Int)
 | [],a => .inr a
 | c::l,a=>if (eC c).2≠0 then .inl (eC c).2 else X8 l (CD a.2 (X6 a.1 (VY c).1))
section
variable {Sg:Type} {y:R->(Nat×List R×Int)->Option (Bool×(Nat×List R×Int))} {f:Int->R->R×Int}
theorem p5{x:List R×Int}{k:(Nat×List R×Int)->Option (Nat×List R×Int)}(hy:∀ p s,y p (0,s)=some (true,(0,uF f s p)))(hl:x.1.length<=100000):∀(n:Nat) (v:Int) (s:List R×Int),0<=v->v<=x.1.length->x.1.length<n+v->
  vx _ x y k n v (0,s)=k (0,(bi (x.1.drop v.toNat)).foldl (uF f) s)
 | 0,v,s,h0,h1,h2=>by omega
 | n+1,v,s,h0,h1,h2=>by
  rw[vx]
  by_cases h:v<x.1.length
  ·rw[Nw h,xM ⟨h0,h⟩]
   show Option.bind (j8 (nth x.1 v)) _=_
   rw[(YC).1,oB]
   unfold jm
   rw[oB,hy,oB,if_neg (by simp)]
   have e2:(ge (⟨(nth x.1 v).fN,(nth x.1 v).fD⟩:R))=some (JA (nth x.1 v)):=(Qu).1
   rw[e2,oB,oB,hy,oB,oB,if_neg (by simp),xS (by omega),p5 hy hl n (v+1) _ (by omega) (by omega) (by omega),g6 h0 h]
   rfl
  ·rw[Nx h,fo h];rfl
theorem p6{x:List R}{k:(Nat×List R×Int)->Option (Nat×List R×Int)}(hy:∀ p s,y p (0,s)=some (true,(0,uF f s p)))(hl:x.length<=100000):∀(n:Nat) (v:Int) (s:List R×Int),0<=v->v<=x.length->x.length<n+v->
  vz _ x y k n v (0,s)=k (0,(bi (x.drop v.toNat)).foldl (uF f) s)
 | 0,v,s,h0,h1,h2=>by omega
 | n+1,v,s,h0,h1,h2=>by
  rw[vz]
  by_cases h:v<x.length
  ·rw[Nw h,xM ⟨h0,h⟩]
   show Option.bind (j8 (nth x v)) _=_
   rw[(YC).1,oB]
   unfold jm
   rw[oB,hy,oB,if_neg (by simp)]
   have e2:(ge (⟨(nth x v).fN,(nth x v).fD⟩:R))=some (JA (nth x v)):=(Qu).1
   rw[e2,oB,oB,hy,oB,oB,if_neg (by simp),xS (by omega),p6 hy hl n (v+1) _ (by omega) (by omega) (by omega),g6 h0 h]
   rfl
  ·rw[Nx h,fo h];rfl
theorem p4{l:List (List B)}{k:(Nat×List R×Int)->Option (Nat×List R×Int)}(hy:∀ p s,y p (0,s)=some (true,(0,uF f s p)))(hl:l.length<=100000):∀(n:Nat) (v:Int) (s:List R×Int),0<=v->v<=l.length->l.length<n+v->
  vy _ l y k n v (0,s)=k (0,((l.drop v.toNat).flatMap fun c=>bi (eC c).1).foldl (uF f) s)
 | 0,v,s,h0,h1,h2=>by omega
 | n+1,v,s,h0,h1,h2=>by
  rw[vy]
  by_cases h:v<l.length
  ·rw[Nw h]
   refine wx (P:=fun o=>o=_) fun k1 w6=>?_
   rw[xM ⟨h0,h⟩,(nH _).1,oB]
   refine wx (P:=fun o=>o=_) fun k2 qI=>?_
   have hb:=(nH (nth l v)).2
   rw[p5 (f:=f) hy (by omega) xT 0 s (by omega) (by omega) (by rw[wp];omega),qI,w6,xS (by omega),p4 hy hl n (v+1) _ (by omega) (by omega) (by omega),g6 h0 h,List.flatMap_cons,List.foldl_append]
   rfl
  ·rw[Nx h,fo h];rfl
theorem FK{a b:SV}{c:List (List B)}{tf:List R}(hy:∀ p s,y p (0,s)=some (true,(0,uF f s p)))(hl:l.length<=100000)(hm:tf.length<=100000):
  qu _ y (0,([],0)) l a c b tf=some (0,(iZ l tf).foldl (uF f) ([],0)):=by
 unfold qu
 rw[cD,oB,hy,oB,if_neg (by simp)]
 refine wx (P:=fun o=>o=_) fun k hk=>?_
 rw[p4 (f:=f) hy hl xT 0 _ (by omega) (by omega) (by rw[wp];omega),hk]
 refine wx (P:=fun o=>o=_) fun k2 qI=>?_
 rw[p6 (f:=f) hy hm xT 0 _ (by omega) (by omega) (by rw[wp];omega),qI]
 unfold iZ
 rw[List.foldl_cons,List.foldl_append]
 rfl
end
section
variable {Sg:Type} {y:R->(Nat×List R×Int)->Option (Bool×(Nat×List R×Int))} {f:Int->R->R×Int}
theorem p5b{x:List R×Int}{k:(Nat×List R×Int)->Option (Nat×List R×Int)}(hy:∀ p s,y p (0,s)=some (true,(0,uF f s p)))(hl:x.1.length<=100000):∀(n:Nat) (v:Int) (s:List R×Int),0<=v->v<=x.1.length->x.1.length<n+v->
  vx _ x y k n v (0,s)=k (0,(bi (x.1.drop v.toNat)).foldl (uF f) s)
 | 0,v,s,h0,h1,h2=>by omega
 | n+1,v,s,h0,h1,h2=>by
  rw[vx]
  by_cases h:v<x.1.length
  ·rw[Nw h,xM ⟨h0,h⟩]
   show Option.bind (j8 (nth x.1 v)) _=_
   rw[(YC).1,oB]
   unfold jm
   rw[oB,hy,oB,if_neg (by simp)]
   have e2:(ge (⟨(nth x.1 v).fN,(nth x.1 v).fD⟩:R))=some (JA (nth x.1 v)):=(Qu).1
   rw[e2,oB,oB,hy,oB,oB,if_neg (by simp),xS (by omega),p5b hy hl n (v+1) _ (by omega) (by omega) (by omega),g6 h0 h]
   rfl
  ·rw[Nx h,fo h];rfl
theorem p6b{x:List R}{k:(Nat×List R×Int)->Option (Nat×List R×Int)}(hy:∀ p s,y p (0,s)=some (true,(0,uF f s p)))(hl:x.length<=100000):∀(n:Nat) (v:Int) (s:List R×Int),0<=v->v<=x.length->x.length<n+v->
  vz _ x y k n v (0,s)=k (0,(bi (x.drop v.toNat)).foldl (uF f) s)
 | 0,v,s,h0,h1,h2=>by omega
 | n+1,v,s,h0,h1,h2=>by
  rw[vz]
  by_cases h:v<x.length
  ·rw[Nw h,xM ⟨h0,h⟩]
   show Option.bind (j8 (nth x v)) _=_
   rw[(YC).1,oB]
   unfold jm
   rw[oB,hy,oB,if_neg (by simp)]
   have e2:(ge (⟨(nth x v).fN,(nth x v).fD⟩:R))=some (JA (nth x v)):=(Qu).1
   rw[e2,oB,oB,hy,oB,oB,if_neg (by simp),xS (by omega),p6b hy hl n (v+1) _ (by omega) (by omega) (by omega),g6 h0 h]
   rfl
  ·rw[Nx h,fo h];rfl
theorem p4b{l:List (List B)}{k:(Nat×List R×Int)->Option (Nat×List R×Int)}(hy:∀ p s,y p (0,s)=some (true,(0,uF f s p)))(hl:l.length<=100000):∀(n:Nat) (v:Int) (s:List R×Int),0<=v->v<=l.length->l.length<n+v->
  vy _ l y k n v (0,s)=k (0,((l.drop v.toNat).flatMap fun c=>bi (eC c).1).foldl (uF f) s)
 | 0,v,s,h0,h1,h2=>by omega
 | n+1,v,s,h0,h1,h2=>by
  rw[vy]
  by_cases h:v<l.length
  ·rw[Nw h]
   refine wx (P:=fun o=>o=_) fun k1 w6=>?_
   rw[xM ⟨h0,h⟩,(nH _).1,oB]
   refine wx (P:=fun o=>o=_) fun k2 qI=>?_
   have hb:=(nH (nth l v)).2
   rw[p5b (f:=f) hy (by omega) xT 0 s (by omega) (by omega) (by rw[wp];omega),qI,w6,xS (by omega),p4b hy hl n (v+1) _ (by omega) (by omega) (by omega),g6 h0 h,List.flatMap_cons,List.foldl_append]
   rfl
  ·rw[Nx h,fo h];rfl
theorem GP{a b:SV}{c:List (List B)}{tf:List R}(hy:∀ p s,y p (0,s)=some (true,(0,uF f s p)))(hl:l.length<=100000)(hm:tf.length<=100000):
  qu _ y (0,([],0)) l a c b tf=some (0,(iZ l tf).foldl (uF f) ([],0)):=by
 unfold qu
 rw[cD,oB,hy,oB,if_neg (by simp)]
 refine wx (P:=fun o=>o=_) fun k hk=>?_
 rw[p4b (f:=f) hy hl xT 0 _ (by omega) (by omega) (by rw[wp];omega),hk]
 refine wx (P:=fun o=>o=_) fun k2 qI=>?_
 rw[p6b (f:=f) hy hm xT 0 _ (by omega) (by omega) (by rw[wp];omega),qI]
 unfold iZ
 rw[List.foldl_cons,List.foldl_append]
 rfl
end
def lu(l:List (List B))(s:SV):Int:=
 if l.length>32 || !(l.all VC) || !(VS s) then 2 else
 match X8 l (Z1,0) with
 | .inl e=>e
 | .inr r=>if r.2≠0 then r.2 else if CM r.1 s.fR>0 then 6 else 0
theorem FM(h:lu l s=0):VS s=true:=by
 unfold lu at h
 cases hs:VS s with
 | true=>rfl
 | false=>rw[if_pos (by simp[hs])] at h;cases h
theorem FO{s:List (List B)}{k:Option Int}(hl:s.length<=100000):∀(n:Nat) (v:Int),0<=v->v<=s.length->s.length<n+v->k=some (-1)->
  ∃ x:Int,wV s (fun y0=>j5 y0) k n v=some x/\(x>=0↔(s.drop v.toNat).all VC=false)
 | 0,v,h0,h1,h2,hk=>by omega
 | n+1,v,h0,h1,h2,hk=>by
  rw[wV]
  by_cases h:v<s.length
  ·rw[Nw h,xM ⟨h0,h⟩,g6 h0 h]
   unfold j5
   rw[rM,oB,oB,List.all_cons]
   cases hc:VC (nth s v) with
   | false=>exact⟨v,by simp,by simp;omega⟩
   | true=>
    rw[if_neg (by simp),xS (by omega),Bool.true_and]
    exact FO hl n (v+1) (by omega) (by omega) (by omega) hk
  ·rw[Nx h,fo h,hk]
   exact⟨-1,rfl,by simp⟩
theorem Y8(hl:l.length<=100000):(qh l (fun y0=>j5 y0))=some (!(l.all VC)):=by
 unfold qh jy
 refine Vl (P:=fun o=>(o.bind fun x=>some (decide (x>=0)))=some (!(l.all VC))) fun k hk=>?_
 obtain⟨x,e,h⟩:=FO hl xT 0 (by omega) (by omega) (by rw[wp];omega) hk
 rw[e,oB]
 rw[show(0:Int).toNat=0 from rfl,List.drop_zero] at h
 cases ha:l.all VC with
 | true=>rw[ha] at h;simp at h;simp;omega
 | false=>rw[ha] at h;simp at h;simp;omega
theorem G5{l:List (List B)}{k:Int->Int->Int->Option Int}(hv:∀ c∈l,VC c=true)(hl:l.length<=1000):∀(n:Nat) (v:Int) (a:R×Int),0<=v->v<=l.length->l.length<n+v->
  vX l k n v a.2 a.1.fN a.1.fD=match X8 (l.drop v.toNat) a with | .inl e=>some e | .inr r=>k r.2 r.1.fN r.1.fD
 | 0,v,a,h0,h1,h2=>by omega
 | n+1,v,a,h0,h1,h2=>by
  rw[vX]
  by_cases h:v<l.length
  ·have hc:=hv _ (ws h0 h)
   rw[Nw h,xM ⟨h0,h⟩,(nH _).1,oB,g6 h0 h,X8]
   by_cases hb:(eC (nth l v)).2≠0
   ·rw[if_pos (by simpa using hb),if_pos hb]
   ·rw[Nx hb,if_neg hb,(rt_s hc).1,oB]
    show((vC ⟨a.2⟩ (fun y0 y1=>vV y0 y1) a.1 (VY (nth l v)).1).bind _)=_
    rw[Wz (nG _).1,oB,xS (by omega)]
    exact G5 hv hl n (v+1) _ (by omega) (by omega) (by omega)
  ·rw[Nx h,fo h]
   rfl
theorem MV{c:List (List B)}{t:SV}{m:List R}(hl:l.length<=40):qW l s c t m=some (lu l s):=by
 unfold qW lu
 by_cases h1:(((l.length:Nat):Int)>32)
 ·rw[Nw h1,oB,if_pos rfl,oB,if_pos rfl,if_pos (by simp;omega)]
 ·rw[Nx h1,Y8 (by omega)]
  simp only[oB]
  by_cases h2:l.all VC=true
  ·rw[h2]
   simp only[Bool.not_true,Bool.false_eq_true,if_false]
   rw[VW,oB,oB]
   cases hs:VS s with
   | false=>rw[if_pos (by rfl),if_pos (by simp)]
   | true=>
    rw[if_neg (by simp),if_neg (by simp;omega),cD,oB]
    refine Y6 (P:=fun o=>o=_) fun k hk=>?_
    have:=G5 (k:=k) (List.all_eq_true.1 h2) (by omega) xT 0 (Z1,0) (by omega) (by omega) (by rw[wp];omega)
    rw[this,show(0:Int).toNat=0 from rfl,List.drop_zero]
    cases X8 l (Z1,0) with
    | inl e=>rfl
    | inr r=>
     simp only
     rw[hk]
     by_cases hr:r.2=0
     ·rw[Nw hr,if_neg (by simp[hr])]
      show(((qa r.1 s.fR).bind _).bind _)=_
      rw[(Jy).1,oB,oB]
      by_cases hc:CM r.1 s.fR>0
      ·rw[Nw hc,if_pos hc]
      ·rw[Nx hc,if_neg hc,hr]
     ·rw[Nx hr,oB,if_neg (by simp),if_pos hr]
  ·have DR:l.all VC=false:=by simpa using h2
   rw[DR]
   simp only[Bool.not_false,if_true]
   rw[oB,if_pos rfl,if_pos (by simp)]
theorem JC{l:List (List B)}{k:Int->Int->Int->Option Int}(hv:∀ c∈l,VC c=true)(hl:l.length<=1000):∀(n:Nat) (v:Int) (a:R×Int),0<=v->v<=l.length->l.length<n+v->
  vX l k n v a.2 a.1.fN a.1.fD=match X8 (l.drop v.toNat) a with | .inl e=>some e | .inr r=>k r.2 r.1.fN r.1.fD
 | 0,v,a,h0,h1,h2=>by omega
 | n+1,v,a,h0,h1,h2=>by
  rw[vX]
  by_cases h:v<l.length
  ·have hc:=hv _ (ws h0 h)
   rw[Nw h,xM ⟨h0,h⟩,(nH _).1,oB,g6 h0 h,X8]
   by_cases hb:(eC (nth l v)).2≠0
   ·rw[if_pos (by simpa using hb),if_pos hb]
   ·rw[Nx hb,if_neg hb,(rt_s hc).1,oB]
    show((vC ⟨a.2⟩ (fun y0 y1=>vV y0 y1) a.1 (VY (nth l v)).1).bind _)=_
    rw[Wz (nG _).1,oB,xS (by omega)]
    exact JC hv hl n (v+1) _ (by omega) (by omega) (by omega)
  ·rw[Nx h,fo h]
   rfl
theorem FP{c:List (List B)}{t:SV}{m:List R}(hl:l.length<=40):qW l s c t m=some (lu l s):=by
 unfold qW lu
 by_cases h1:(((l.length:Nat):Int)>32)
 ·rw[Nw h1,oB,if_pos rfl,oB,if_pos rfl,if_pos (by simp;omega)]
 ·rw[Nx h1,Y8 (by omega)]
  simp only[oB]
  by_cases h2:l.all VC=true
  ·rw[h2]
   simp only[Bool.not_true,Bool.false_eq_true,if_false]
   rw[VW,oB,oB]
   cases hs:VS s with
   | false=>rw[if_pos (by rfl),if_pos (by simp)]
   | true=>
    rw[if_neg (by simp),if_neg (by simp;omega),cD,oB]
    refine Y6 (P:=fun o=>o=_) fun k hk=>?_
    have:=JC (k:=k) (List.all_eq_true.1 h2) (by omega) xT 0 (Z1,0) (by omega) (by omega) (by rw[wp];omega)
    rw[this,show(0:Int).toNat=0 from rfl,List.drop_zero]
    cases X8 l (Z1,0) with
    | inl e=>rfl
    | inr r=>
     simp only
     rw[hk]
     by_cases hr:r.2=0
     ·rw[Nw hr,if_neg (by simp[hr])]
      show(((qa r.1 s.fR).bind _).bind _)=_
      rw[(Jy).1,oB,oB]
      by_cases hc:CM r.1 s.fR>0
      ·rw[Nw hc,if_pos hc]
      ·rw[Nx hc,if_neg hc,hr]
     ·rw[Nx hr,oB,if_neg (by simp),if_pos hr]
  ·have DR:l.all VC=false:=by simpa using h2
   rw[DR]
   simp only[Bool.not_false,if_true]
   rw[oB,if_pos rfl,if_pos (by simp)]
end
section
variable {l:List (List B)}{s:SV}
def rk(k:Int->Int->Option (R×Int))(b:R)(r:List R×Int):Option (R×Int):=
 if r.2≠0 then some (⟨0,0⟩,r.2) else match r.1 with | []=>k b.fN b.fD | x::_=>k x.fN x.fD
theorem FQ{f:Int->R->R×Int}{P:List R}(hP:P≠[]){k:Int->Int->Option (R×Int)}(hk:∀ x y,k x y=some (⟨x,y⟩,0)):rk k ⟨0,0⟩ (P.foldl (uF f) ([],0))=some (VX f P):=by
 unfold rk VX
 by_cases h:(P.foldl (uF f) ([],0)).2≠0
 ·rw[if_pos h];simp only;rw[if_pos h]
 ·rw[if_neg h];simp only;rw[if_neg h]
  cases P with
  | nil=>exact absurd rfl hP
  | cons p P=>
   have qA:((p::P).foldl (uF f) ([],0)).1≠[]:=by
    rw[List.foldl_cons];exact WB _ _ (by simp[uF])
   cases hr:((p::P).foldl (uF f) ([],0)).1 with
   | nil=>exact absurd hr qA
   | cons x t=>simp only;rw[hk];rfl
theorem R4_eq(hl:l.length<=1000)(hs:VS s=true)(p:R)(st:List R×Int):chk ((0:Nat)=0) (kF l s p st.1 st.2)=some (true,(0,uF (dv l s) st p)):=by
 rw[xM rfl]
 unfold kF
 rw[FJ hl hs,oB]
 unfold uF
 cases ni:st.1 with
 | nil=>rw[if_pos (by simp),oB,if_pos rfl]
 | cons x r=>
  rw[if_neg (by simp;omega),xM (by simp)]
  have hn:(⟨(nth (x::r) 0).fN,(nth (x::r) 0).fD⟩:R)=x:=rfl
  rw[hn,(Jy).1,oB,oB]
  simp only
  by_cases hc:CM (dv l s st.2 p).1 x>0
  ·rw[Nw hc,if_pos hc]
  ·rw[Nx hc,if_neg hc]
theorem Tr{tf:List R}(hl:l.length<=40)(hm:tf.length<=1000):fY l s l s tf=some (if lu l s=0 then VX (dv l s) (iZ l tf) else(⟨0,0⟩,lu l s)):=by
 unfold fY
 rw[MV hl,oB]
 by_cases h:lu l s=0
 ·have hs:VS s=true:=FM h
  rw[if_pos h,if_neg (by simpa using h)]
  refine tg (P:=fun o=>o=_) fun k hk=>?_
  unfold kE
  rw[oB,FK (f:=dv l s) (fun p st=>R4_eq (by omega) hs p st) (by omega) (by omega),oB,hk]
  have:=FQ (f:=dv l s) (P:=iZ l tf) (k:=fun x y=>some (⟨x,y⟩,0)) (by simp[iZ]) (fun _ _=>rfl)
  rw[<- this]
  unfold rk
  generalize hr:(iZ l tf).foldl (uF (dv l s)) ([],0)=r
  have qA:r.1≠[]:=by
   rw[<- hr];unfold iZ;rw[List.foldl_cons];exact WB _ _ (by simp[uF])
  simp only
  by_cases h2:r.2≠0
  ·rw[if_pos (by simpa using h2),if_pos h2]
  ·rw[Nx h2,if_neg h2]
   cases AP:r.1 with
   | nil=>exact absurd AP qA
   | cons x t=>rw[xM (by simp)];rfl
 ·rw[if_neg h,if_pos (by simpa using h)]
theorem Ts(hl:l.length<=1000)(hs:VS s=true)(p:R)(st:List R×Int):chk ((0:Nat)=0) (km l s p st.1 st.2)=some (true,(0,uF (bv l s) st p)):=by
 rw[xM rfl]
 unfold km
 rw[KE hl,oB]
 unfold uF
 cases ni:st.1 with
 | nil=>rw[if_pos (by simp),oB,if_pos rfl]
 | cons x r=>
  rw[if_neg (by simp;omega),xM (by simp)]
  have hn:(⟨(nth (x::r) 0).fN,(nth (x::r) 0).fD⟩:R)=x:=rfl
  rw[hn,(Jy).1,oB,oB]
  simp only
  by_cases hc:CM (bv l s st.2 p).1 x>0
  ·rw[Nw hc,if_pos hc]
  ·rw[Nx hc,if_neg hc]
theorem UY{tf:List R}(hl:l.length<=40)(hm:tf.length<=1000):fg l s l s tf=some (if lu l s=0 then VX (bv l s) (iZ l tf) else(⟨0,0⟩,lu l s)):=by
 unfold fg
 rw[FP hl,oB]
 by_cases h:lu l s=0
 ·have hs:VS s=true:=FM h
  rw[if_pos h,if_neg (by simpa using h)]
  refine tg (P:=fun o=>o=_) fun k hk=>?_
  unfold kE
  rw[oB,GP (f:=bv l s) (fun p st=>Ts (by omega) hs p st) (by omega) (by omega),oB,hk]
  have:=FQ (f:=bv l s) (P:=iZ l tf) (k:=fun x y=>some (⟨x,y⟩,0)) (by simp[iZ]) (fun _ _=>rfl)
  rw[<- this]
  unfold rk
  generalize hr:(iZ l tf).foldl (uF (bv l s)) ([],0)=r
  have qA:r.1≠[]:=by
   rw[<- hr];unfold iZ;rw[List.foldl_cons];exact WB _ _ (by simp[uF])
  simp only
  by_cases h2:r.2≠0
  ·rw[if_pos (by simpa using h2),if_pos h2]
  ·rw[Nx h2,if_neg h2]
   cases AP:r.1 with
   | nil=>exact absurd AP qA
   | cons x t=>rw[xM (by simp)];rfl
 ·rw[if_neg h,if_pos (by simpa using h)]
end
section
theorem eD{RR A0 A1:Type}{K:A0->A1->Option RR}{F:(A0->A1->Option RR)->Option RR}{P:Option RR->Prop}(h:∀ k:A0->A1->Option RR,(∀ x0 x1,k x0 x1=K x0 x1)->P (F k)):P (sm K F):=h K fun _ _=>rfl
theorem JD{RR A0 A1 A2 A3 A4:Type}{K:A0->A1->A2->A3->A4->Option RR}{F:(A0->A1->A2->A3->A4->Option RR)->Option RR}{P:Option RR->Prop}(h:∀ k:A0->A1->A2->A3->A4->Option RR,(∀ x0 x1 x2 x3 x4,k x0 x1 x2 x3 x4=K x0 x1 x2 x3 x4)->P (F k)):P (jp5 K F):=h K fun _ _ _ _ _=>rfl
theorem Tt{RR A0 A1 A2 A3 A4 A5:Type}{K:A0->A1->A2->A3->A4->A5->Option RR}{F:(A0->A1->A2->A3->A4->A5->Option RR)->Option RR}{P:Option RR->Prop}(h:∀ k:A0->A1->A2->A3->A4->A5->Option RR,(∀ x0 x1 x2 x3 x4 x5,k x0 x1 x2 x3 x4 x5=K x0 x1 x2 x3 x4 x5)->P (F k)):P (jp6 K F):=h K fun _ _ _ _ _ _=>rfl
abbrev Flow:=ym
abbrev PB:=ys
abbrev BM:=List (Flow×R)
abbrev DM:=List (Pl×Int)
def DO(e:Int)(r:R×Int):R×Int:=(if r.2≠0 then⟨0,1⟩ else r.1,if e=0 then r.2 else e)
theorem Qv{c:Cf}{rs:List (List Hop)}{bu:BM}{de:DM}{e:Int}{f:R->R->Option (R×Int)}{x y:R}{r:R×Int}(h:f x y=some r):gX c rs bu de e f x y=some (DO e r):=by
 unfold gX DO jK
 rw[h,oB]
 refine wx (P:=fun o=>o=_) fun k hk=>?_
 have e1:(if decide (e=0)=true then k r.2 else k e)=k (if e=0 then r.2 else e):=by
  by_cases h:e=0 <;> simp[h]
 rw[e1,hk]
 by_cases hr:r.2≠0
 ·rw[if_pos (by simpa using hr),if_pos hr];rfl
 ·rw[Nx hr,if_neg hr]
def mm(c:Cf):Prop:=∀ v∈c.yb,(100<=v.yD/\v.yD<=12800)/\1<=v.yz/\v.yz<=72
def mx(c:Cf)(v:Int):Int:=(nth c.yb v).yz
def RT(c:Cf)(v:Int):R:=(mk (Rat.divInt (mx c v) (nth c.yb v).yD)).1
theorem Vm{c:Cf}{rs:List (List Hop)}{bu:BM}{de:DM}{e v:Int}(hv:mm c)(h:0<=v/\v<c.yb.length):gU c rs bu de e v=some (RT c v):=by
 have h2:=hv _ (ws h.1 h.2)
 unfold gU RT mx
 rw[xM h,ez (by omega)]
 rfl
def ru(p:Pl)(r:List Hop):Bool:=r.any fun h=>decide (pk h=p)
theorem UZ{r:List Hop}{p:Pl}(hl:r.length<1000000000):vG r (fun y0=>fV y0 p)=some (ru p r):=
 Jk (p:=fun h=>decide (pk h=p)) (fun h _=>rfl) hl
structure CS where
 own:List (List B)
 most:Int
 e:Int
 lk:List (Int×List Int)
 bu:BM
def sK(c:Cf)(rs:List (List Hop))(de:DM)(p:Pl)(s:CS)(v:Int):CS:=
 let r:=nth rs v
 if ru p r then
  let g:=gk r p.ya
  if g.2 then
   let a:=DO s.e (MUL (RT c v) ⟨xK de (pk g.1) 0,1⟩)
   let b:=DO a.2 (X6 (xK s.bu ⟨v,pk g.1⟩ ⟨0,0⟩) a.1)
   ⟨s.own,max s.most (mx c v),b.2,w7 s.lk g.1.fQ (xK s.lk g.1.fQ []++[v]),w7 s.bu ⟨v,p⟩ b.1⟩
  else⟨s.own++[[⟨⟨mx c v,1⟩,RT c v⟩]],max s.most (mx c v),s.e,s.lk,w7 s.bu ⟨v,p⟩ ⟨mx c v,1⟩⟩
 else s
def ki(v:Int):Nat->List Int
 | 0=>[]
 | n+1=>v::ki (v+1) n
abbrev CR:=List (List B)×Int×Int×BM
theorem VZ{c:Cf}{rs:List (List Hop)}{de:DM}{p:Pl}{s:CS}{v:Int}{n:Int}(h:(s.own.length:Int)<=n/\∀ k,((xK s.lk k []).length:Int)<=n):((sK c rs de p s v).own.length:Int)<=n+1/\∀ k,((xK (sK c rs de p s v).lk k []).length:Int)<=n+1:=by
 unfold sK
 simp only
 split
 ·split
  ·refine⟨by have:=h.1;show(s.own.length:Int)<=_;omega,fun k=>?_⟩
   show((xK (w7 s.lk _ _) k []).length:Int)<=_
   rw[gG]
   split
   ·have:=h.2 (gk (nth rs v) p.ya).1.fQ;simp;omega
   ·have:=h.2 k;omega
  ·refine⟨by have:=h.1;simp;omega,fun k=>by have:=h.2 k;show((xK s.lk k []).length:Int)<=_;omega⟩
 ·exact⟨by have:=h.1;omega,fun k=>by have:=h.2 k;omega⟩
theorem Q0{c:Cf}{rs:List (List Hop)}{de:DM}{p:Pl}{k:List (List B)->Int->Int->List (Int×List Int)->BM->Option CR}(hv:mm c)(hl:rs.length=c.yb.length)(hr:∀ r∈rs,r.length<1000000000)(hs:rs.length<=1000):
  ∀(n:Nat) (v:Int) (s:CS),0<=v->v<=rs.length->rs.length<n+v->((s.own.length:Int)<=v/\∀ k,((xK s.lk k []).length:Int)<=v)->
   jY rs p c de k n s.own s.most v s.e s.lk s.bu=(fun t:CS=>k t.own t.most t.e t.lk t.bu) ((ki v (rs.length-v.toNat)).foldl (sK c rs de p) s)
 | 0,v,s,h0,h1,h2,h3=>by omega
 | n+1,v,s,h0,h1,h2,h3=>by
  rw[jY]
  by_cases h:v<rs.length
  ·have hb:0<=v/\v<(c.yb.length:Int):=⟨h0,by omega⟩
   rw[Nw h,show rs.length-v.toNat=(rs.length-(v+1).toNat)+1 by omega,ki,List.foldl_cons]
   refine JD (P:=fun o=>o=_) fun k1 w6=>?_
   have Bo:∀ t:CS,t=sK c rs de p s v->k1 t.own t.most t.e t.lk t.bu=(fun t:CS=>k t.own t.most t.e t.lk t.bu) ((ki (v+1) (rs.length-(v+1).toNat)).foldl (sK c rs de p) (sK c rs de p s v)):=fun t ht=>by
    subst ht
    rw[w6,xS (x:=v+1) (by omega)]
    exact Q0 hv hl hr hs n (v+1) _ (by omega) (by omega) (by omega) (VZ h3)
   rw[xM ⟨h0,h⟩,UZ (hr _ (ws h0 h)),oB]
   cases hu:ru p (nth rs v) with
   | false=>
    rw[if_pos (by rfl)]
    refine Bo s ?_
    unfold sK;simp only[hu];rfl
   | true=>
    rw[if_neg (by simp),xM hb,xM hb]
    unfold jK
    rw[oB]
    refine JD (P:=fun o=>o=_) fun k2 qI=>?_
    rw[Vh (hr _ (ws h0 h)),oB]
    cases hg:(gk (nth rs v) p.ya).2 with
    | true=>
     rw[if_pos rfl,of_eq,oB,Vm hv hb,oB,oB,oB]
     rw[Qv (f:=fun y0 y1=>gz y0 y1) (Uo _).1,oB]
     rw[Qv (f:=fun y0 y1=>vV y0 y1) (nG _).1,oB]
     have:=h3.2 (gk (nth rs v) p.ya).1.fQ
     rw[xM (by simp;omega),qI]
     refine Eq.trans ?_ (Bo _ rfl)
     have e:sK c rs de p s v=sK c rs de p s v:=rfl
     conv at e=>rhs;unfold sK
     simp only[hu,hg,if_true,if_false,Bool.false_eq_true] at e
     rw[e]
     rfl
    | false=>
     rw[if_neg (by simp),Vm hv hb,oB]
     have:=h3.1
     rw[xM (by simp;omega),qI]
     refine Eq.trans ?_ (Bo _ rfl)
     have e:sK c rs de p s v=sK c rs de p s v:=rfl
     conv at e=>rhs;unfold sK
     simp only[hu,hg,if_true,if_false,Bool.false_eq_true] at e
     rw[e]
     rfl
  ·rw[Nx h,show rs.length-v.toNat=0 by omega];rfl
structure GS where
 wide:Int
 e:Int
 b:R
 r:R
def gst(c:Cf)(bu:BM)(p:Pl)(s:GS)(v:Int):GS:=
 let x:=DO s.e (X6 s.b (xK bu ⟨v,p⟩ ⟨0,0⟩))
 let y:=DO x.2 (X6 s.r (RT c v))
 ⟨max s.wide (mx c v),y.2,x.1,y.1⟩
theorem WE{c:Cf}{rs:List (List Hop)}{lk:List (Int×List Int)}{q:Int}{bu:BM}{de:DM}{p:Pl}{k:Int->Int->Int->Int->Int->Int->Option CR}(hv:mm c)(hl:∀ v∈xK lk q [],0<=v/\v<c.yb.length)(hs:(xK lk q []).length<=1000):
  ∀(n:Nat) (i:Int) (s:GS),0<=i->i<=(xK lk q []).length->(xK lk q []).length<n+i->
   jZ lk q c rs bu de p k n s.wide i s.e s.b.fN s.b.fD s.r.fN s.r.fD=(fun t:GS=>k t.wide t.e t.b.fN t.b.fD t.r.fN t.r.fD) (((xK lk q []).drop i.toNat).foldl (gst c bu p) s)
 | 0,v,s,h0,h1,h2=>by omega
 | n+1,i,s,h0,h1,h2=>by
  rw[jZ]
  by_cases h:i<(xK lk q []).length
  ·have hb:=hl _ (ws h0 h)
   rw[Nw h,xM ⟨h0,h⟩,kg h0 h,List.foldl_cons]
   rw[Qv (f:=fun y0 y1=>vV y0 y1) (nG _).1,oB,Vm hv hb,oB,Qv (f:=fun y0 y1=>vV y0 y1) (nG _).1,oB,xM hb,xS (x:=i+1) (by omega)]
   have e2:(i+1).toNat=i.toNat+1:=by omega
   have:=WE (rs:=rs) (de:=de) (bu:=bu) (p:=p) (k:=k) hv hl hs n (i+1) (gst c bu p s (nth (xK lk q []) i)) (by omega) (by omega) (by omega)
   rw[e2] at this
   exact this
  ·rw[Nx h,List.drop_eq_nil_of_le (by omega)];rfl
def bj(c:Cf)(lk:List (Int×List Int))(bu:BM)(p:Pl)(s:List (List B)×Int)(q:Int):List (List B)×Int:=
 if xK lk q []=[] then s else
  let g:=(xK lk q []).foldl (gst c bu p) ⟨0,s.2,⟨0,1⟩,⟨0,1⟩⟩
  (s.1++[[⟨g.b,g.r⟩,⟨⟨g.wide,1⟩,⟨1,(nth c.fK q).yp⟩⟩]],g.e)
theorem Q1{c:Cf}{rs:List (List Hop)}{lk:List (Int×List Int)}{bu:BM}{de:DM}{p:Pl}{k:List (List B)->Int->Option CR}(hv:mm c)(hl:∀ q,∀ v∈xK lk q [],0<=v/\v<c.yb.length)(hs:∀ q,(xK lk q []).length<=1000)(hL:c.fK.length<=1000):
  ∀(n:Nat) (q:Int) (s:List (List B)×Int),0<=q->q<=c.fK.length->c.fK.length<n+q->(s.1.length:Int)<=q->
   kd c lk rs bu de p k n s.1 q s.2=(fun t:List (List B)×Int=>k t.1 t.2) ((ki q (c.fK.length-q.toNat)).foldl (bj c lk bu p) s)
 | 0,v,s,h0,h1,h2,h3=>by omega
 | n+1,q,s,h0,h1,h2,h3=>by
  rw[kd]
  by_cases h:q<c.fK.length
  ·rw[Nw h,show c.fK.length-q.toNat=(c.fK.length-(q+1).toNat)+1 by omega,ki,List.foldl_cons]
   refine eD (P:=fun o=>o=_) fun k1 w6=>?_
   have kM:((bj c lk bu p s q).1.length:Int)<=q+1:=by
    unfold bj;split
    ·omega
    ·simp;omega
   have Bo:∀ t:List (List B)×Int,t=bj c lk bu p s q->k1 t.1 t.2=(fun t:List (List B)×Int=>k t.1 t.2) ((ki (q+1) (c.fK.length-(q+1).toNat)).foldl (bj c lk bu p) (bj c lk bu p s q)):=fun t ht=>by
    subst ht
    rw[w6,xS (x:=q+1) (by omega)]
    exact Q1 hv hl hs hL n (q+1) _ (by omega) (by omega) (by omega) kM
   by_cases hz:xK lk q []=[]
   ·rw[if_pos (by simp[hz])]
    refine Bo s ?_
    unfold bj;rw[if_pos hz]
   ·rw[if_neg (by simpa using hz)]
    unfold jK
    rw[oB,oB]
    refine Tt (P:=fun o=>o=_) fun k2 qI=>?_
    have:=WE (rs:=rs) (de:=de) (k:=k2) (bu:=bu) (p:=p) hv (hl q) (hs q) xT 0 ⟨0,s.2,⟨0,1⟩,⟨0,1⟩⟩ (by omega) (by omega) (by rw[wp];have:=hs q;omega)
    simp only[Int.toNat_zero,List.drop_zero] at this
    rw[this,qI,oB,xM ⟨h0,h⟩,xM (by simp;omega)]
    refine Bo (_,_) ?_
    unfold bj;rw[if_neg hz]
  ·rw[Nx h,show c.fK.length-q.toNat=0 by omega];rfl
theorem FR{c:Cf}{rs:List (List Hop)}{de:DM}{p:Pl}:∀(n:Nat) (v:Int) (s:CS),0<=v->((s.own.length:Int)<=v/\∀ k,((xK s.lk k []).length:Int)<=v)->(∀ k,∀ x∈xK s.lk k [],0<=x/\x<v)->
  (((ki v n).foldl (sK c rs de p) s).own.length:Int)<=v+n/\(∀ k,((xK ((ki v n).foldl (sK c rs de p) s).lk k []).length:Int)<=v+n)/\∀ k,∀ x∈xK ((ki v n).foldl (sK c rs de p) s).lk k [],0<=x/\x<v+n
 | 0,v,s,_,h,h2=>⟨by have:=h.1;show(s.own.length:Int)<=_;omega,fun k=>by have:=h.2 k;show((xK s.lk k []).length:Int)<=_;omega,fun k x hx=>by have:=h2 k x hx;omega⟩
 | n+1,v,s,h0,h,h2=>by
  rw[ki,List.foldl_cons]
  obtain⟨a1,a2,a3⟩:=FR (c:=c) (rs:=rs) (de:=de) (p:=p) n (v+1) (sK c rs de p s v) (by omega) (VZ h) (fun k x hx=>by
   unfold sK at hx
   simp only at hx
   split at hx
   ·split at hx
    ·rw[show(CS.lk ⟨_,_,_,_,_⟩)=w7 s.lk _ _ from rfl,gG] at hx
     split at hx
     ·rcases List.mem_append.1 hx with hx | hx
      ·have:=h2 _ x hx;omega
      ·rw[List.mem_singleton] at hx;omega
     ·have:=h2 k x hx;omega
    ·have:=h2 k x hx;omega
   ·have:=h2 k x hx;omega)
  exact⟨by omega,fun k=>by have:=a2 k;omega,fun k x hx=>by have:=a3 k x hx;omega⟩
def CU(c:Cf)(rs:List (List Hop))(bu:BM)(de:DM)(e:Int)(p:Pl):CR:=
 let s:=(ki 0 rs.length).foldl (sK c rs de p) ⟨[],0,e,[],bu⟩
 let g:=(ki 0 c.fK.length).foldl (bj c s.lk s.bu p) ([],s.e)
 (s.own++g.1,s.most,g.2,s.bu)
theorem G6{c:Cf}{lk:List (Int×List Int)}{bu:BM}{p:Pl}:∀(n:Nat) (q:Int) (s:List (List B)×Int),((ki q n).foldl (bj c lk bu p) s).1.length<=s.1.length+n
 | 0,q,s=>by show s.1.length<=_;omega
 | n+1,q,s=>by
  rw[ki,List.foldl_cons]
  have h1:=G6 (c:=c) (lk:=lk) (bu:=bu) (p:=p) n (q+1) (bj c lk bu p s q)
  have h2:(bj c lk bu p s q).1.length<=s.1.length+1:=by
   unfold bj;split
   ·omega
   ·simp
  omega
theorem FS{c:Cf}{rs:List (List Hop)}{bu:BM}{de:DM}{e:Int}{p:Pl}(hv:mm c)(hl:rs.length=c.yb.length)(hr:∀ r∈rs,r.length<1000000000)(hs:rs.length<=16)(hL:c.fK.length<=20):
  mR c rs bu de e p=some (CU c rs bu de e p)/\(CU c rs bu de e p).1.length<=36:=by
 obtain⟨a1,a2,a3⟩:=FR (c:=c) (rs:=rs) (de:=de) (p:=p) rs.length 0 ⟨[],0,e,[],bu⟩ (by omega) ⟨by simp,fun k=>by simp[xK]⟩ (fun k x hx=>by simp[xK] at hx)
 have kM:(CU c rs bu de e p).1.length<=36:=by
  unfold CU
  simp only[List.length_append]
  have:=G6 (c:=c) (lk:=((ki 0 rs.length).foldl (sK c rs de p) ⟨[],0,e,[],bu⟩).lk) (bu:=((ki 0 rs.length).foldl (sK c rs de p) ⟨[],0,e,[],bu⟩).bu) (p:=p) c.fK.length 0 ([],((ki 0 rs.length).foldl (sK c rs de p) ⟨[],0,e,[],bu⟩).e)
  simp only[List.length_nil,Nat.zero_add] at this
  omega
 refine⟨?_,kM⟩
 unfold mR
 refine JD (P:=fun o=>o=_) fun k hk=>?_
 have h1:=Q0 (k:=k) (p:=p) (de:=de) hv hl hr (by omega) xT 0 ⟨[],0,e,[],bu⟩ (by omega) (by omega) (by rw[wp];omega) ⟨by simp,fun k=>by simp[xK]⟩
 simp only[Int.toNat_zero,Nat.sub_zero] at h1
 rw[h1,hk]
 refine eD (P:=fun o=>o=_) fun k2 qI=>?_
 have h2:=Q1 (rs:=rs) (de:=de) (p:=p) (k:=k2) (bu:=((ki 0 rs.length).foldl (sK c rs de p) ⟨[],0,e,[],bu⟩).bu) hv (fun q v hx=>by have:=a3 q v hx;omega) (fun q=>by have:=a2 q;omega) (by omega) xT 0 ([],((ki 0 rs.length).foldl (sK c rs de p) ⟨[],0,e,[],bu⟩).e) (by omega) (by omega) (by rw[wp];omega) (by simp)
 simp only[Int.toNat_zero,Nat.sub_zero] at h2
 rw[h2,qI]
 unfold CU at kM
 simp only at kM
 rw[xM (by omega)]
 rfl
end
section
variable {rs:List (List Hop)}{de:DM}{net v:Int}
def er(x:Int):Int:=if x=6 then 352 else x
def fe(e a b:Int):Int:=if (if e=0 then er a else e)=0 then er b else(if e=0 then er a else e)
theorem FT{x y:R×Int}{k:Int->Option (PB×Int×BM×DM)}(e:Int):qK x y k xT 0 e=k (fe e x.2 y.2):=by
 have hF:xT=(xT-3)+3:=by rw[wp]
 rw[hF]
 generalize xT-3=N
 have vO:∀(n:Nat) (v e a:Int),0<=v->v<2->nth ([x.2,y.2]:List Int) v=a->qK x y k (n+1) v e=qK x y k n (v+1) (if e=0 then er a else e):=by
  intro n v e a h0 h1 ha
  rw[qK,if_pos (by simp;omega)]
  refine wx (P:=fun o=>o=_) fun k1 w6=>?_
  rw[xM (by simp;omega)]
  refine wx (P:=fun o=>o=_) fun k2 qI=>?_
  rw[ha]
  have e1:(if decide (a=6)=true then k2 352 else k2 a)=k2 (er a):=by
   unfold er;by_cases h:a=6 <;> simp[h]
  have e2:(if decide (e=0)=true then k1 (er a) else k1 e)=k1 (if e=0 then er a else e):=by
   by_cases h:e=0 <;> simp[h]
  rw[e1,qI,e2,w6,xS (x:=v+1) (by omega)]
 rw[vO (N+2) 0 e x.2 (by omega) (by omega) rfl,vO (N+1) (0+1) _ y.2 (by omega) (by omega) rfl,qK,if_neg (by simp)]
 rfl
def DL(l:List (List B))(s:SV):R×Int:=if lu l s=0 then VX (dv l s) (iZ l []) else(⟨0,0⟩,lu l s)
def BL(l:List (List B))(s:SV):R×Int:=if lu l s=0 then VX (bv l s) (iZ l [s.fL]) else(⟨0,0⟩,lu l s)
theorem MW{l:List (List B)}{s:SV}(hl:l.length<=40):ta l s=some (DL l s):=by
 unfold ta DL
 rw[Tr hl (by simp),oB]
theorem GQ{l:List (List B)}{s:SV}(hl:l.length<=40):uh l s=some (BL l s):=by
 unfold uh BL
 rw[UY hl (by simp),oB]
def lat(c:Cf)(p:Pl):Int:=if p.ya-nM c>=0 then(nth c.fS (p.ya-nM c)).yl else 0
def srv(c:Cf)(p:Pl):SV:=⟨⟨1,(nth c.fK p.fQ).yp⟩,⟨lat c p,1⟩⟩
def PO(c:Cf)(rs:List (List Hop))(bu:BM)(de:DM)(e:Int)(p:Pl):PB×Int×BM×DM:=
 let u:=CU c rs bu de e p
 let d:=DL u.1 (srv c p)
 let b:=BL u.1 (srv c p)
 (⟨p.ya,p.fQ,flr d.1,i64 (flr b.1+u.2.1)⟩,fe u.2.2.1 d.2 b.2,u.2.2.2,w7 de p (flr d.1))
structure PI (c:Cf) (p:Pl):Prop where
 l0:0<=p.fQ
 l1:p.fQ<c.fK.length
 n0:0<=p.ya
 n1:p.ya<nN c
theorem T0{c:Cf}{bu:BM}{e:Int}{p:Pl}(hv:mm c)(hl:rs.length=c.yb.length)(hr:∀ r∈rs,r.length<1000000000)(hs:rs.length<=16)(hL:c.fK.length<=20)(hS:Small c)(hp:PI c p):
  uE c rs bu de e p=some (PO c rs bu de e p):=by
 unfold uE
 obtain⟨a1,a2⟩:=FS (bu:=bu) (de:=de) (e:=e) (p:=p) hv hl hr hs hL
 have hn1:=hp.n1;have hn0:=hp.n0;have hm:=hS.m;have hsw:=hS.s
 unfold nN at hn1
 rw[a1,oB]
 refine eD (P:=fun o=>o=_) fun k hk=>?_
 have hlat:(if decide ((i64 (p.ya-((c.fM.length:Nat):Int)))>=0) then chk ((0:Int)<=(i64 (p.ya-((c.fM.length:Nat):Int)))/\(i64 (p.ya-((c.fM.length:Nat):Int)))<((c.fS.length:Nat):Int)) (k (CU c rs bu de e p).1 ((nth c.fS (i64 (p.ya-((c.fM.length:Nat):Int)))).yl)) else k (CU c rs bu de e p).1 0)=k (CU c rs bu de e p).1 (lat c p):=by
  rw[xS (x:=p.ya-((c.fM.length:Nat):Int)) (by omega)]
  unfold lat nM
  by_cases h:p.ya-((c.fM.length:Nat):Int)>=0
  ·rw[Nw h,xM ⟨h,by omega⟩,if_pos h]
  ·rw[Nx h,if_neg h]
 rw[hlat,hk,xM ⟨hp.l0,hp.l1⟩]
 unfold jK
 rw[oB,MW (by omega),oB,GQ (by omega),oB]
 refine wx (P:=fun o=>o=_) fun k2 qI=>?_
 rw[FT,qI]
 rw[(YC).1,oB,(YC).1,oB,lU]
 rfl
structure WS where
 out:List PB
 e:Int
 bu:BM
 de:DM
def JE(c:Cf)(rs:List (List Hop))(s:WS)(p:Pl):WS:=let x:=PO c rs s.bu s.de s.e p;⟨s.out++[x.1],x.2.1,x.2.2.1,x.2.2.2⟩
def iU(c:Cf)(rs:List (List Hop)):List Pl->WS->WS ⊕ Int
 | [],s => .inl s
 | p::l,s=>if (JE c rs s p).e≠0 then .inr (JE c rs s p).e else iU c rs l (JE c rs s p)
theorem WF{c:Cf}{rs:List (List Hop)}{l:List Pl×Int}{k:List PB->Option (yM×Int)}(hv:mm c)(hl:rs.length=c.yb.length)(hr:∀ r∈rs,r.length<1000000000)(hs:rs.length<=16)(hL:c.fK.length<=20)(hS:Small c)(hp:∀ p∈l.1,PI c p)(ze:l.1.length<=100000):
  ∀(n:Nat) (v:Int) (s:WS),0<=v->v<=l.1.length->l.1.length<n+v->s.out.length=v->
   jS l c rs k n v s.e s.out s.bu s.de=match iU c rs (l.1.drop v.toNat) s with | .inl t=>k t.out | .inr e=>some (⟨[],[]⟩,e)
 | 0,v,s,h0,h1,h2,h3=>by omega
 | n+1,v,s,h0,h1,h2,h3=>by
  rw[jS]
  by_cases h:v<l.1.length
  ·rw[Nw h,xM ⟨h0,h⟩,kg h0 h]
   have e:(⟨(nth l.1 v).ya,(nth l.1 v).fQ⟩:z6)=nth l.1 v:=rfl
   rw[e,T0 hv hl hr hs hL hS (hp _ (ws h0 h)),oB,xM (by simp;omega),iU]
   by_cases he:(JE c rs s (nth l.1 v)).e≠0
   ·rw[if_pos he,if_pos (by exact decide_eq_true he)];rfl
   ·rw[if_neg he,if_neg (by rw[decide_eq_true_eq];exact he),xS (x:=v+1) (by omega)]
    have:=WF (k:=k) hv hl hr hs hL hS hp ze n (v+1) (JE c rs s (nth l.1 v)) (by omega) (by omega) (by omega) (by simp[JE];omega)
    rw[show(v+1).toNat=v.toNat+1 by omega] at this
    exact this
  ·rw[Nx h,List.drop_eq_nil_of_le (by omega)];rfl
def kn(b:PB):Pl:=⟨b.ya,b.fQ⟩
theorem FV{l:List PB}(hn:(l.map kn).Nodup)(hs:l.length<=1000000):
  ww l (fun y0 y1=>qY y0 y1)=some (wC qY l)/\(wC qY l).Pairwise fun a b=>¬rZ (kn b) (kn a):=by
 have BK:∀ x∈l,∀ y∈l,kn x=kn y->x=y:=by
  intro x hx y hy e
  obtain⟨i,hi,rfl⟩:=List.getElem_of_mem hx
  obtain⟨j,hj,rfl⟩:=List.getElem_of_mem hy
  have h1:(l.map kn)[i]'(by simpa using hi)=(l.map kn)[j]'(by simpa using hj):=by simpa using e
  have:=(List.getElem_inj (h₀:=by simpa using hi) (h₁:=by simpa using hj) hn).1 h1
  subst this;rfl
 obtain⟨ho,BI⟩:=Yw (p:=qY) (lt:=fun a b=>rZ (kn a) (kn b)) (l:=l) (fun x _ y _=>by
  obtain⟨v,e1,e2⟩:=Wo (kn x) (kn y)
  refine⟨v,?_,e2⟩
  unfold qY
  rw[show(⟨x.ya,x.fQ⟩:z6)=kn x from rfl,show(⟨y.ya,y.fQ⟩:z6)=kn y from rfl,e1];rfl) (fun x y=>XC _ _) (fun x y z=>Jg _ _ _) (fun x hx y hy h1 h2=>BK x hx y hy (Wp h1 h2))
 refine⟨?_,BI⟩
 unfold ww fj jH
 rw[Yx,xM (by omega),oB]
 have hb:=ns l.length
 rw[Int.toNat_natCast,xM ⟨⟨rfl,rfl⟩,by omega,by omega,by omega⟩,xM ho,oB]
theorem Q2{r:List Hop}{k:Option Bool}(hl:r.length<1000000000):∀(n:Nat) (v:Int),0<=v->v<=r.length->r.length<n+v->
  ((∃ q:Int,v<=q/\q<r.length/\(gk (r.take q.toNat) (nth r q).ya).2=false/\(nth r q).ya≠(nth r 0).ya)/\f5 r k n v=some false) \/
  ((∀ q:Int,v<=q->q<r.length->(gk (r.take q.toNat) (nth r q).ya).2=true\/(nth r q).ya=(nth r 0).ya)/\f5 r k n v=k)
 | 0,v,h0,h1,h2=>by omega
 | n+1,v,h0,h1,h2=>by
  rw[f5]
  by_cases h:v<r.length
  ·rw[Nw h,xM ⟨h0,h⟩,xM ⟨by omega,h0,by omega⟩,Vh (by rw[List.length_take];omega),oB,xM (fun _=>⟨by omega,by omega⟩)]
   by_cases hc:(!(gk (r.take v.toNat) (nth r v).ya).2&&decide ((nth r v).ya≠(nth r 0).ya))=true
   ·rw[if_pos hc]
    simp only[Bool.and_eq_true,Bool.not_eq_true',decide_eq_true_eq] at hc
    exact .inl ⟨⟨v,by omega,h,hc.1,hc.2⟩,rfl⟩
   ·rw[if_neg hc,xS (x:=v+1) (by omega)]
    have zn:(gk (r.take v.toNat) (nth r v).ya).2=true\/(nth r v).ya=(nth r 0).ya:=by
     simp only[Bool.and_eq_true,Bool.not_eq_true',decide_eq_true_eq] at hc
     by_cases h5:(nth r v).ya=(nth r 0).ya
     ·exact .inr h5
     ·refine .inl ?_
      cases h6:(gk (r.take v.toNat) (nth r v).ya).2 with
      | true=>rfl
      | false=>exact absurd ⟨h6,h5⟩ hc
    rcases Q2 hl n (v+1) (by omega) (by omega) (by omega) (k:=k) with⟨⟨q,q1,q2⟩,h3⟩ | ⟨h3,h4⟩
    ·exact .inl ⟨⟨q,by omega,q2⟩,h3⟩
    ·refine .inr ⟨fun q q1 q2=>?_,h4⟩
     by_cases e:q=v
     ·rw[e];exact zn
     ·exact h3 q (by omega) q2
  ·rw[Nx h]
   exact .inr ⟨fun q q1 q2=>by omega,rfl⟩
theorem VR.tree{c:Cf}{r:List Hop}(h:VR c net r):pD r=some true:=by
 have hl:=h.len
 unfold pD
 have hF:=wp
 generalize xT=N at hF ⊢
 refine mF (P:=fun o=>o=some true) fun k hk=>?_
 rcases Q2 (k:=k) (by omega) N 0 (by omega) (by omega) (by omega) (r:=r) with⟨⟨q,q1,q2,q3,q4⟩,h5⟩ | ⟨h3,h4⟩
 ·exfalso
  have hc:=(h.cond q q1 q2).1
  rcases hc with hc | ⟨j,j0,j1,j2⟩
  ·exact q4 hc
  ·have hm:nth r j∈r.take q.toNat:=by
    rw[j6 ⟨j0,by omega⟩]
    have:(r.take q.toNat)[j.toNat]'(by simp;omega)=r[j.toNat]'(by omega):=List.getElem_take
    rw[<- this];exact List.getElem_mem _
   have:=Jj hm
   rw[j2,q3] at this;cases this
 ·rw[h4,hk]
abbrev SM:=List (Int×Int)
structure ES where
 ends:List zw
 sum:SM
def pG(c:Cf)(r:List Hop)(de:DM)(vl:Int)(s:ES)(h:Hop):ES:=
 if wS s.sum h.fX||decide (h.fX=(nth r 0).ya) then s else
  let m:=w7 s.sum h.fX (i64 (xK s.sum h.ya 0+xK de (pk h) 0))
  ⟨if 0<=h.fX/\h.fX<nM c then s.ends++[⟨vl,h.fX,xK m h.fX 0⟩] else s.ends,m⟩
theorem JF{c:Cf}{rs:List (List Hop)}{v:Int}{de:DM}{k:List zw->Option (List zw)}(h0v:0<=v/\v<rs.length)(hl:(nth rs v).length<=1000):∀(n:Nat) (i:Int) (s:ES),0<=i->i<=(nth rs v).length->(nth rs v).length<n+i->(s.ends.length:Int)<=i->
  mC rs v c de k n s.ends i s.sum=k (((nth rs v).drop i.toNat).foldl (pG c (nth rs v) de v) s).ends
 | 0,i,s,h0,h1,h2,h3=>by omega
 | n+1,i,s,h0,h1,h2,h3=>by
  rw[mC]
  by_cases h:i<(nth rs v).length
  ·rw[Nw h,kg h0 h,List.foldl_cons]
   refine eD (P:=fun o=>o=_) fun k1 w6=>?_
   have kM:((pG c (nth rs v) de v s (nth (nth rs v) i)).ends.length:Int)<=i+1:=by
    unfold pG
    simp only
    split
    ·omega
    ·show(((if _ then _ else _:List zw)).length:Int)<=_
     split
     ·simp;omega
     ·omega
   have Bo:∀ t:ES,t=pG c (nth rs v) de v s (nth (nth rs v) i)->k1 t.ends t.sum=k (((nth rs v).drop (i.toNat+1)).foldl (pG c (nth rs v) de v) (pG c (nth rs v) de v s (nth (nth rs v) i))).ends:=fun t ht=>by
    subst ht
    rw[w6,xS (x:=i+1) (by omega)]
    have:=JF (k:=k) (c:=c) (de:=de) h0v hl n (i+1) (pG c (nth rs v) de v s (nth (nth rs v) i)) (by omega) (by omega) (by omega) kM
    rw[show(i+1).toNat=i.toNat+1 by omega] at this
    exact this
   rw[xM ⟨h0,h⟩,xM (fun _=>⟨by omega,by omega⟩)]
   by_cases hc:(wS s.sum ((nth (nth rs v) i).fX)||decide ((nth (nth rs v) i).fX=(nth (nth rs v) 0).ya))=true
   ·rw[if_pos hc]
    refine Bo s ?_
    unfold pG;rw[if_pos hc]
   ·rw[if_neg hc,of_eq,oB]
    by_cases hn:0<=(nth (nth rs v) i).fX/\(nth (nth rs v) i).fX<nM c
    ·rw[if_pos (by have:=hn.2;unfold nM at this;simp only[Bool.and_eq_true,decide_eq_true_eq];exact⟨hn.1,this⟩),xM (by simp;omega)]
     refine Bo ⟨_,_⟩ ?_
     unfold pG;rw[if_neg hc];simp only;rw[if_pos hn]
    ·rw[if_neg (by unfold nM at hn;simp only[Bool.and_eq_true,decide_eq_true_eq];exact hn)]
     refine Bo ⟨s.ends,w7 s.sum (nth (nth rs v) i).fX (i64 (xK s.sum (nth (nth rs v) i).ya 0+xK de (pk (nth (nth rs v) i)) 0))⟩ ?_
     unfold pG;rw[if_neg hc];simp only;rw[if_neg hn]
  ·rw[Nx h,List.drop_eq_nil_of_le (by omega)];rfl
structure EI (c:Cf) (vl:Int) (s:ES):Prop where
 nd:(s.ends.map (·.ya)).Nodup
 vl:∀ x∈s.ends,x.yt=vl/\0<=x.ya/\x.ya<nM c/\wS s.sum x.ya=true
theorem EI.step{c:Cf}{r:List Hop}{s:ES}{h:Hop}(hi:EI c v s):EI c v (pG c r de v s h):=by
 unfold pG
 split
 ·exact hi
 ·rename_i hc
  simp only[Bool.or_eq_true,not_or,decide_eq_true_eq,Bool.not_eq_true] at hc
  simp only
  have hk:∀ n,wS s.sum n=true->wS (w7 s.sum h.fX (i64 (xK s.sum h.ya 0+xK de (pk h) 0))) n=true:=fun n hn=>by rw[bc,hn];simp
  split
  ·rename_i hn
   refine⟨?_,fun x hx=>?_⟩
   ·rw[List.map_append]
    refine List.nodup_append.2 ⟨hi.nd,by simp,fun a ha b hb=>?_⟩
    simp at hb;subst hb
    rintro rfl
    obtain⟨x,hx,e⟩:=List.mem_map.1 ha
    have:=(hi.vl x hx).2.2.2
    rw[e,hc.1] at this;cases this
   ·rcases List.mem_append.1 hx with hx | hx
    ·obtain⟨a1,a2,a3,a4⟩:=hi.vl x hx
     exact⟨a1,a2,a3,hk _ a4⟩
    ·rw[List.mem_singleton] at hx;subst hx
     exact⟨rfl,hn.1,hn.2,by show wS (w7 _ _ _) h.fX=true;rw[bc];simp⟩
  ·exact⟨hi.nd,fun x hx=>by obtain⟨a1,a2,a3,a4⟩:=hi.vl x hx;exact⟨a1,a2,a3,hk _ a4⟩⟩
theorem EI.fold{c:Cf}{r:List Hop}{de:DM}{v:Int}:∀(hs:List Hop) {s:ES},EI c v s->EI c v (hs.foldl (pG c r de v) s)
 | [],_,hi=>hi
 | h::hs,_,hi=>by rw[List.foldl_cons];exact EI.fold hs hi.step
def VE(c:Cf)(rs:List (List Hop))(de:DM)(v:Int):List zw:=((nth rs v).foldl (pG c (nth rs v) de v) ⟨[],[]⟩).ends
theorem JG(c:Cf)(rs:List (List Hop))(de:DM)(v:Int):EI c v ((nth rs v).foldl (pG c (nth rs v) de v) ⟨[],[]⟩):=EI.fold _ ⟨by simp,by simp⟩
theorem FW{c:Cf}:(VE c rs de v).length<=(nth rs v).length:=by
 unfold VE
 have:∀(hs:List Hop) (s:ES),(hs.foldl (pG c (nth rs v) de v) s).ends.length<=s.ends.length+hs.length:=by
  intro hs
  induction hs with
  | nil=>intro s;simp
  | cons h hs ih=>
   intro s
   rw[List.foldl_cons]
   have h1:=ih (pG c (nth rs v) de v s h)
   have h2:(pG c (nth rs v) de v s h).ends.length<=s.ends.length+1:=by
    unfold pG
    split
    ·omega
    ·simp only;split
     ·simp
     ·omega
   rw[List.length_cons];omega
 have:=this (nth rs v) ⟨[],[]⟩
 simpa using this
def elt(a b:zw):Prop:=a.ya<b.ya
theorem MX{c:Cf}{l:List zw}(hS:Small c)(hn:(l.map (·.ya)).Nodup)(hb:∀ x∈l,x.yt=v/\0<=x.ya/\x.ya<nM c)(hs:l.length<=1000000):
  ja l (fun y0 y1=>kG y0 y1)=some (wC kG l):=by
 have hm:=hS.m
 have BK:∀ x∈l,∀ y∈l,x.ya=y.ya->x=y:=by
  intro x hx y hy e
  obtain⟨i,hi,rfl⟩:=List.getElem_of_mem hx
  obtain⟨j,hj,rfl⟩:=List.getElem_of_mem hy
  have h1:(l.map (·.ya))[i]'(by simpa using hi)=(l.map (·.ya))[j]'(by simpa using hj):=by simpa using e
  have:=(List.getElem_inj (h₀:=by simpa using hi) (h₁:=by simpa using hj) hn).1 h1
  subst this;rfl
 obtain⟨ho,_⟩:=Yw (p:=kG) (lt:=elt) (l:=l) (fun x hx y hy=>by
  have h1:=hb x hx;have h2:=hb y hy
  unfold nM at h1 h2
  refine⟨_,rfl,?_⟩
  rw[xS (by omega)]
  unfold elt
  omega) (fun x y=>by unfold elt;omega) (fun x y z=>by unfold elt;omega) (fun x hx y hy h1 h2=>BK x hx y hy (by unfold elt at h1 h2;omega))
 unfold ja fj mo
 rw[Yx,xM (by omega),oB]
 have hb:=ns l.length
 rw[Int.toNat_natCast,xM ⟨⟨rfl,rfl⟩,by omega,by omega,by omega⟩,xM ho,oB]
theorem G7{c:Cf}{rs:List (List Hop)}{de:DM}{k:List zw->Option (List zw)}(hS:Small c)(hr:∀ r∈rs,r.length<=1000)(hl:rs.length<=100):∀(n:Nat) (v:Int) (o:List zw),0<=v->v<=rs.length->rs.length<n+v->(o.length:Int)<=1000*v->
  mD rs c de k n o v=k (o++(ki v (rs.length-v.toNat)).flatMap fun v=>wC kG (VE c rs de v))
 | 0,v,o,h0,h1,h2,h3=>by omega
 | n+1,v,o,h0,h1,h2,h3=>by
  rw[mD]
  by_cases h:v<rs.length
  ·have Ci:=hr _ (ws h0 h)
   rw[Nw h,show rs.length-v.toNat=(rs.length-(v+1).toNat)+1 by omega,ki,List.flatMap_cons]
   refine wx (P:=fun x=>x=_) fun k1 w6=>?_
   rw[xM ⟨h0,h⟩]
   refine wx (P:=fun x=>x=_) fun k2 qI=>?_
   have h4:=JF (k:=k2) (c:=c) (de:=de) ⟨h0,h⟩ Ci xT 0 ⟨[],[]⟩ (by omega) (by omega) (by rw[wp];omega) (by simp)
   simp only[Int.toNat_zero,List.drop_zero] at h4
   have hi:=JG c rs de v
   have kM:=FW (c:=c) (rs:=rs) (de:=de) (v:=v)
   rw[h4,qI]
   have hi1:((VE c rs de v).map (·.ya)).Nodup:=hi.nd
   have hi2:∀ x∈VE c rs de v,x.yt=v/\0<=x.ya/\x.ya<nM c:=fun x hx=>by obtain⟨a1,a2,a3,_⟩:=hi.vl x hx;exact⟨a1,a2,a3⟩
   rw[show((nth rs v).foldl (pG c (nth rs v) de v) ⟨[],[]⟩).ends=VE c rs de v from rfl]
   rw[MX (v:=v) hS hi1 hi2 (by omega),oB]
   have zh:=tz kG (VE c rs de v)
   rw[xM (by rw[List.length_append];omega),w6,xS (x:=v+1) (by omega),G7 hS hr hl n (v+1) _ (by omega) (by omega) (by omega) (by rw[List.length_append];omega),List.append_assoc]
  ·rw[Nx h,show rs.length-v.toNat=0 by omega];simp[ki]
def dem(l:List PB):DM:=l.foldr (fun b m=>w7 m (kn b) b.yl) []
theorem JH{l:List PB}{k:DM->Option (List zw)}(hl:l.length<=1000000):∀(n:Nat) (i:Int) (m:DM),-1<=i->i<l.length->i+1<n->mB l k n i m=k ((l.take (i+1).toNat).foldr (fun b m=>w7 m (kn b) b.yl) m)
 | 0,i,m,h0,h1,h2=>by omega
 | n+1,i,m,h0,h1,h2=>by
  rw[mB]
  by_cases h:i>=0
  ·rw[Nw h,xM ⟨h,h1⟩,xS (x:=i-1) (by omega),JH hl n (i-1) _ (by omega) (by omega) (by omega)]
   congr 1
   have h3:i.toNat<l.length:=by omega
   rw[show(i+1).toNat=i.toNat+1 by omega,show(i-1+1).toNat=i.toNat by omega,List.take_succ,List.getElem?_eq_getElem h3,List.foldr_append]
   rw[j6 ⟨h,h1⟩]
   rfl
  ·rw[Nx h,show(i+1).toNat=0 by omega];rfl
def EN(c:Cf)(rs:List (List Hop))(ps:List PB):List zw:=(ki 0 rs.length).flatMap fun v=>wC kG (VE c rs (dem ps) v)
theorem FX{c:Cf}(hv:∀ r∈rs,VR c net r)(hl:rs.length<1000000000):wU rs (fun y0=>fZ y0)=some false:=by
 unfold wU qy
 have hF:=wp
 generalize xT=N at hF ⊢
 have hf:∀ y∈rs,fZ y=some false:=fun y hy=>by unfold fZ;rw[(hv y hy).tree];rfl
 refine mF (P:=fun o=>(o.bind fun x=>some (decide (x>=0)))=some false) fun k hk=>?_
 rcases dx (f:=fun y0=>fZ y0) (k:=k) (fun y hy=>⟨false,hf y hy⟩) hl N 0 (by omega) (by omega) (by omega) with⟨i,i1,i2,i3,i4⟩ | ⟨i1,i2⟩
 ·rw[hf _ (ws i1 i2)] at i3;cases i3
 ·rw[i2,hk];rfl
theorem G8{c:Cf}{ps:List PB}(hS:Small c)(hv:∀ r∈rs,VR c net r)(hl:rs.length<=100)(hp:ps.length<=1000000):sC c rs ps=some (EN c rs ps):=by
 unfold sC
 rw[FX hv (by omega),oB,if_neg (by simp)]
 refine wx (P:=fun o=>o=_) fun k hk=>?_
 have h1:=JH (k:=k) hp xT (((ps.length:Nat):Int)-1) [] (by omega) (by omega) (by rw[wp];omega)
 rw[xS (x:=((ps.length:Nat):Int)-1) (by omega),h1,hk,show(((ps.length:Nat):Int)-1+1).toNat=ps.length by omega,List.take_length]
 refine wx (P:=fun o=>o=_) fun k2 qI=>?_
 have h2:=G7 (k:=k2) (de:=dem ps) hS (fun r hr=>by have:=(hv r hr).len;omega) hl xT 0 [] (by omega) (by omega) (by rw[wp];omega) (by simp)
 simp only[Int.toNat_zero,Nat.sub_zero,List.nil_append] at h2
 rw[show(ps.foldr (fun b m=>w7 m (kn b) b.yl) ([]:DM))=dem ps from rfl,h2,qI]
 rfl
end
section
def JI:List Int:=[100,200,400,800,1600,3200,6400,12800]
theorem Tu(b:Int):ob b=some (decide (b∈JI)):=by
 unfold ob
 have hF:xT=(xT-9)+9:=by rw[wp]
 rw[hF]
 generalize xT-9=N
 refine mF (P:=fun o=>o=_) fun k hk=>?_
 have vO:∀(n:Nat) (x:Int),0<=x->x<=12800->g0 b k (n+1) x=if x=b then some true else g0 b k n (2*x):=fun n x h0 h1=>by
  rw[g0,Nw h1,xS (x:=x*2) (by omega),Int.mul_comm]
  by_cases h:x=b
  ·rw[Nw h,if_pos h]
  ·rw[Nx h,if_neg h]
 have DS:g0 b k (N+1) (2*12800)=some false:=by
  rw[g0,if_neg (by decide),hk]
 rw[vO _ 100 (by omega) (by omega),vO _ (2*100) (by omega) (by omega),vO _ (2*(2*100)) (by omega) (by omega),vO _ (2*(2*(2*100))) (by omega) (by omega),vO _ (2*(2*(2*(2*100)))) (by omega) (by omega),vO _ (2*(2*(2*(2*(2*100))))) (by omega) (by omega),vO _ (2*(2*(2*(2*(2*(2*100)))))) (by omega) (by omega),vO _ (2*(2*(2*(2*(2*(2*(2*100))))))) (by omega) (by omega)]
 have:(2*(2*(2*(2*(2*(2*(2*(2*100)))))) ):Int)=2*12800:=by decide
 rw[this,DS]
 unfold JI
 repeat' split
 all_goals
  simp only[Option.some.injEq]
  first
  | (symm;rw[decide_eq_true_iff];simp only[List.mem_cons,List.not_mem_nil,or_false];omega)
  | (symm;rw[decide_eq_false_iff_not];simp only[List.mem_cons,List.not_mem_nil,or_false];omega)
def JJ(v:yy):Prop:=v.yD∈JI/\1<=v.yz/\v.yz<=72
instance (v:yy):Decidable (JJ v):=inferInstanceAs (Decidable (_/\_))
theorem Tv(v:yy):ky v=some (!decide (JJ v)):=by
 unfold ky JJ
 rw[Tu,oB]
 congr 1
 by_cases h1:v.yD∈JI <;> by_cases h2:1<=v.yz <;> by_cases h3:v.yz<=72 <;> simp[h1,h2,h3] <;> omega
theorem Y9{l:List yy}{k:Option Int}(hl:l.length<1000000000):∀(n:Nat) (v:Int),0<=v->v<=l.length->l.length<n+v->
  ((∃ i:Int,v<=i/\i<l.length/\¬JJ (nth l i)/\vd l (fun y0=>ky y0) k n v=some i)\/((∀ i:Int,v<=i->i<l.length->JJ (nth l i))/\vd l (fun y0=>ky y0) k n v=k))
 | 0,v,h0,h1,h2=>by omega
 | n+1,v,h0,h1,h2=>by
  rw[vd]
  by_cases h:v<l.length
  ·rw[Nw h,xM ⟨h0,h⟩]
   have e:(⟨(nth l v).yB,(⟨((nth l v).yq).yA,((nth l v).yq).yF,((nth l v).yq).yI⟩:yG),(nth l v).yD,(nth l v).yz,(nth l v).yN⟩:yy)=nth l v:=rfl
   rw[e,Tv,oB]
   by_cases hv:JJ (nth l v)
   ·rw[if_neg (by simpa using hv),xS (x:=v+1) (by omega)]
    rcases Y9 hl n (v+1) (by omega) (by omega) (by omega) (k:=k) with⟨i,i1,i2,i3,i4⟩ | ⟨i1,i2⟩
    ·exact .inl ⟨i,by omega,i2,i3,i4⟩
    ·refine .inr ⟨fun i j1 j2=>?_,i2⟩
     by_cases e:i=v
     ·rw[e];exact hv
     ·exact i1 i (by omega) j2
   ·rw[if_pos (by simpa using hv)]
    exact .inl ⟨v,Int.le_refl _,h,hv,rfl⟩
  ·rw[Nx h]
   exact .inr ⟨fun i h1 h2=>by omega,rfl⟩
def d6(c:Cf):Prop:=∀ v∈c.yb,JJ v
theorem Tw{c:Cf}(hl:c.yb.length<1000000000):∃ b,qR c.yb (fun y0=>ky y0)=some b/\(b=false↔d6 c):=by
 unfold qR kT
 have hF:=wp
 generalize xT=N at hF ⊢
 refine mF (P:=fun o=>∃ b,(o.bind fun x=>some (decide (x>=0)))=some b/\(b=false↔d6 c)) fun k hk=>?_
 rcases Y9 (k:=k) hl N 0 (by omega) (by omega) (by omega) with⟨i,i1,i2,i3,i4⟩ | ⟨i1,i2⟩
 ·refine⟨true,by rw[i4];simp[i1],?_⟩
  simp only[Bool.true_eq_false,false_iff]
  exact fun h=>i3 (h _ (ws i1 i2))
 ·refine⟨false,by rw[i2,hk];rfl,?_⟩
  simp only[true_iff]
  intro v hv
  obtain⟨i,j0,j1,rfl⟩:=rL hv
  exact i1 i j0 j1
theorem d6.vls{c:Cf}(h:d6 c):mm c:=fun v hv=>by
 obtain⟨h1,h2,h3⟩:=h v hv
 refine⟨?_,h2,h3⟩
 unfold JI at h1
 simp only[List.mem_cons,List.not_mem_nil,or_false] at h1
 omega
theorem VA.pi{c:Cf}{net:Int}{rs:List (List Hop)}(hS:Small c)(hv:VA c net rs){p:Pl}(hp:p∈PS rs):PI c p:=by
 obtain⟨r,hr,h,hh,rfl⟩:=(sH rs (p:=p)).1 hp
 obtain⟨i,i0,i1,rfl⟩:=rL hh
 obtain⟨_,_,_,j0,j1,_,_,_,_,jf1,jf2,jj⟩:=(hv.each r hr).cond i i0 i1
 have hA:=(Qq hS (nth r i).fQ).2
 have hB:=(Qr hS (nth r i).fQ).2
 refine⟨j0,j1,?_,?_⟩
 ·have a1:=jf1.1;have a2:=jf2.1
  show 0<=(nth r i).ya
  rcases jj with⟨e,_⟩ | ⟨_,e⟩ <;> omega
 ·show(nth r i).ya<nN c
  rcases jj with⟨e,_⟩ | ⟨_,e⟩ <;> omega
def w0:WS:=⟨[],0,[],[]⟩
theorem JK{c:Cf}{rs:List (List Hop)}:∀(l:List Pl) (s t:WS),iU c rs l s = .inl t->t.out.map kn=s.out.map kn++l/\t.out.length=s.out.length+l.length/\(s.e=0->t.e=0)
 | [],s,t,h=>by injection h with h;subst h;simp
 | p::l,s,t,h=>by
  rw[iU] at h
  split at h
  ·cases h
  ·rename_i he
   obtain⟨h1,h2,h3⟩:=JK l _ t h
   have e:(JE c rs s p).out=s.out++[(PO c rs s.bu s.de s.e p).1]:=rfl
   rw[e] at h1 h2
   refine⟨?_,?_,fun _=>h3 (by simpa using he)⟩
   ·rw[h1,List.map_append,List.append_assoc];rfl
   ·rw[h2];simp;omega
inductive CP (c:Cf) (net:Int) (rs:List (List Hop)):yM×Int->Prop
 | route:¬VA c net rs->CP c net rs (⟨[],[]⟩,310)
 | vl:VA c net rs->¬d6 c->CP c net rs (⟨[],[]⟩,350)
 | cycle (s:List Pl):VA c net rs->d6 c->bZ rs s->CP c net rs (⟨[],[]⟩,351)
 | err (l:List Pl) (e:Int):VA c net rs->d6 c->l.Perm (PS rs)->qx rs l->iU c rs l w0 = .inr e->e≠0->CP c net rs (⟨[],[]⟩,e)
 | ok (l:List Pl) (t:WS):VA c net rs->d6 c->l.Perm (PS rs)->qx rs l->iU c rs l w0 = .inl t->CP c net rs (⟨wC qY t.out,EN c rs (wC qY t.out)⟩,0)
theorem JL{c:Cf}{rs:List (List Hop)}:∀(l:List Pl) (s:WS) (e:Int),iU c rs l s = .inr e->e≠0
 | [],s,e,h=>by cases h
 | p::l,s,e,h=>by
  rw[iU] at h
  split at h
  ·rename_i he
   injection h with h;subst h;exact he
  ·exact JL l _ e h
theorem GT{c:Cf}{net:Int}{rs:List (List Hop)}(hf:FewP c rs):∃ x,tT c net rs=some x/\CP c net rs x:=by
 have hS:=hf.small
 have AP:∀ r∈rs,r.length<1000000000:=fun r hr=>by have:=hf.e r hr;omega
 have hrs:=hf.r
 obtain⟨b,q1,q2⟩:=nr hS (net:=net) (rs:=rs) AP (by omega)
 unfold tT
 rw[q1,oB]
 cases b with
 | false=>
  rw[if_pos (by rfl)]
  exact⟨_,rfl,.route fun h=>by have:=q2.2 h;cases this⟩
 | true=>
 have hv:=q2.1 rfl
 rw[if_neg (by simp)]
 obtain⟨b,r1,r2⟩:=Tw (c:=c) (by have:=hf.v;omega)
 rw[r1,oB]
 cases b with
 | true=>
  rw[if_pos rfl]
  exact⟨_,rfl,.vl hv fun h=>by have:=r2.2 h;cases this⟩
 | false=>
 have zU:=r2.1 rfl
 rw[if_neg (by simp)]
 have Ez:=aX hf.e
 have h3:rs.length*40<=20*40:=Nat.mul_le_mul_right _ hrs
 rcases Jm (rs:=rs) (fun r h=>by have:=hf.e r h;omega) (by omega) with⟨l,e1,e2,e3⟩ | ⟨s,e1,e2⟩
 ·rw[e3,oB,if_neg (by simp)]
  have kM:=e1.length_eq
  refine wx (P:=fun o=>∃ x,o=some x/\CP c net rs x) fun k hk=>?_
  have hL:=WF (l:=(l,0)) (k:=k) (rs:=rs) zU.vls hv.len AP hv.most hf.l hS (fun p hp=>hv.pi hS (e1.subset hp)) (by show l.length<=_;omega) xT 0 w0 (by omega) (by simp) (by rw[wp];show((l.length:Nat):Int)<_;omega) rfl
  simp only[Int.toNat_zero,List.drop_zero] at hL
  rw[show(0:Int)=w0.e from rfl,show([]:List PB)=w0.out from rfl,show([]:BM)=w0.bu from rfl,show([]:DM)=w0.de from rfl]
  rw[show jS (l,w0.e) c rs k xT w0.e w0.e w0.out w0.bu w0.de=jS (l,0) c rs k xT 0 w0.e w0.out w0.bu w0.de from rfl,hL]
  cases jA:iU c rs l w0 with
  | inr e=>exact⟨_,rfl,.err l e hv zU e1 e2 jA (JL _ _ _ jA)⟩
  | inl t=>
   obtain⟨o1,o2,o3⟩:=JK l w0 t jA
   have EX:t.out.length=l.length:=by rw[o2];simp[w0]
   have BN:t.out.map kn=l:=by rw[o1];simp[w0]
   simp only
   rw[hk,(FV (by rw[BN];exact e1.nodup_iff.2 (lV rs)) (by omega)).1,oB]
   rw[G8 (net:=net) hS hv.each (by omega) (by rw[tz];omega),oB]
   exact⟨_,rfl,.ok l t hv zU e1 e2 jA⟩
 ·rw[e2,oB,if_pos (by simp)]
  exact⟨_,rfl,.cycle s hv zU e1⟩
end
end Go.Proofs.YthjnhebofpebpaaGreat

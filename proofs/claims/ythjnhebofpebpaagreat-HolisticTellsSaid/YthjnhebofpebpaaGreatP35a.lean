/- A part of this claim's proof: models of functions, walks, plain laws. No conditions. -/
import Derived.Test.YthjnhebofpebpaaGreatW36j
import Derived.Test.YthjnhebofpebpaaGreatZMem
set_option linter.all false
namespace Go.Proofs.YthjnhebofpebpaaGreat
open Go Go.RowKit Sep
section
variable {net:Int}
theorem qL{R:Type}{K:Option R}{F:Option R->Option R}{P:Option R->Prop}(h:∀ k:Option R,k=K->P (F k)):P (g8 K F):=h K rfl
theorem w8{R A0:Type}{K:A0->Option R}{F:(A0->Option R)->Option R}{P:Option R->Prop}(h:∀ k:A0->Option R,(∀ x0,k x0=K x0)->P (F k)):P (vk K F):=h K fun _=>rfl
theorem uW{R A0 A1:Type}{K:A0->A1->Option R}{F:(A0->A1->Option R)->Option R}{P:Option R->Prop}(h:∀ k:A0->A1->Option R,(∀ x0 x1,k x0 x1=K x0 x1)->P (F k)):P (tZ K F):=h K fun _ _=>rfl
/-! ### comparisons -/
def Kd(x y:Int):Int:=if x<y then -1 else if x>y then 1 else 0
theorem Qu(x y:Int):f6 x y=some (Kd x y):=by
 unfold f6 uk Kd
 simp only[ne_eq,not_true_eq_false,decide_false,oB,Bool.false_eq_true,if_false,decide_eq_true_eq]
 by_cases h1:x<y
 ·simp[h1]
 ·by_cases h2:x>y
  ·simp[h1,h2]
  ·simp[h1,h2]
def dJ:List Int->Int
 | []=>0
 | x::l=>if x≠0 then x else dJ l
theorem Vy{l:List Int}{k:Option Int}(hl:l.length<9000000000000000000):∀(n:Nat) (v:Int),0<=v->v<=l.length->l.length<n+v->
  gN l k n v=if dJ (l.drop v.toNat)≠0 then some (dJ (l.drop v.toNat)) else k
 | 0,v,h0,h1,h2=>by omega
 | n+1,v,h0,h1,h2=>by
  rw[gN]
  by_cases h:v<l.length
  ·rw[if_pos (decide_eq_true h),xr ⟨h0,h⟩]
   have hd:l.drop v.toNat=nth l v::l.drop (v.toNat+1):=by
    have h3:v.toNat<l.length:=by omega
    rw[<- List.getElem_cons_drop h3]
    rw[uH (l:=l) h0 h]
   rw[hd,dJ]
   by_cases hz:nth l v=0
   ·rw[if_neg (by simp[hz]),xD (by omega),Vy hl n (v+1) (by omega) (by omega) (by omega),show(v+1).toNat=v.toNat+1 by omega]
    simp only[hz,ne_eq,not_true_eq_false,if_false]
   ·rw[if_pos (decide_eq_true hz),if_pos hz,if_pos hz]
  ·rw[if_neg (by simpa using h),List.drop_eq_nil_of_le (by omega)]
   simp[dJ]
theorem or_eq{l:List Int}(hl:l.length<9000000000000000000):su l=some (dJ l):=by
 unfold su
 refine qL (P:=fun o=>o=some (dJ l)) fun k hk=>?_
 rw[Vy hl xC 0 (by omega) (by omega) (by rw[xN];omega),hk]
 simp only[Int.toNat_zero,List.drop_zero]
 by_cases h:dJ l=0 <;> simp[h]
theorem jT{α:Type}[Inhabited α]{l:List α}{i:Int}(h:0<=i/\i<l.length):nth l i=l[i.toNat]'(by omega):=by
 exact(uH (l:=l) h.1 h.2).symm
theorem va{α:Type}[Inhabited α]{l:List α}{v:Int}(h0:0<=v)(h:v<l.length):l.drop v.toNat=nth l v::l.drop (v.toNat+1):=by
 have h3:v.toNat<l.length:=by omega
 rw[<- List.getElem_cons_drop h3,uH (l:=l) h0 h]
abbrev Cf:=zi
abbrev Hop:=za
def nM(c:Cf):Int:=c.fM.length
def nN(c:Cf):Int:=c.fM.length+c.fS.length
structure Small (c:Cf):Prop where
 m:c.fM.length<=1000
 s:c.fS.length<=1000
 l:c.fK.length<=1000
 v:c.yd.length<=1000
def sw(c:Cf)(n:Int):yz:=nth c.fS (n-nM c)
def Qv(c:Cf)(n:Int):ByteArray:=if n<0\/n>=nN c then⟨#[]⟩ else if n<nM c then(nth c.fM n).yq else(sw c n).yq
theorem bc{c:Cf}(h:Small c):mc c=some (nN c):=by
 have:=h.m;have:=h.s
 unfold mc nN
 rw[xD (by omega)]
theorem Gb{c:Cf}(h:Small c)(n:Int)(hn : -1000000<=n/\n<=1000000):fm c n=some (Qv c n):=by
 have:=h.m;have:=h.s
 unfold fm Qv
 rw[bc h]
 by_cases h1:n<0
 ·simp[h1]
 ·rw[if_neg (by simpa using h1)]
  simp only[oB,decide_eq_true_eq]
  by_cases h2:n>=nN c
  ·rw[if_pos h2,if_pos (.inr h2)]
  ·rw[if_neg h2,if_neg (show ¬(n<0\/n>=nN c) by omega)]
   unfold nN nM at *
   by_cases h3:n<c.fM.length
   ·rw[if_pos h3,xr ⟨by omega,h3⟩,if_pos h3]
   ·rw[if_neg h3,xD (by omega),xr ⟨by omega,by omega⟩,if_neg h3]
    rfl
theorem Yy{c:Cf}(h:Small c){nm:ByteArray}{k:Option Int}:∀(f:Nat) (v:Int),0<=v->v<=nN c->nN c<f+v->
  (∃ i:Int,0<=i/\i<nN c/\qb (nN c) c nm k f v=some i)\/qb (nN c) c nm k f v=k
 | 0,v,h0,h1,h2=>by omega
 | f+1,v,h0,h1,h2=>by
  have hb:nN c<=2000:=by have:=h.m;have:=h.s;unfold nN;omega
  rw[qb]
  by_cases h3:v<nN c
  ·rw[if_pos (decide_eq_true h3),Gb h v (by omega)]
   simp only[oB,decide_eq_true_eq]
   by_cases h4:Qv c v=nm
   ·rw[if_pos h4];exact .inl ⟨v,h0,h3,rfl⟩
   ·rw[if_neg h4,xD (by omega)]
    exact Yy h f (v+1) (by omega) (by omega) (by omega)
  ·rw[if_neg (by simpa using h3)];exact .inr rfl
theorem Vz{c:Cf}(h:Small c)(nm:ByteArray):∃ i:Int,-1<=i/\i<nN c/\qT c nm=some i:=by
 unfold qT
 rw[bc h]
 have hF:=xN
 generalize xC=N at hF ⊢
 refine qL (P:=fun o=>∃ i:Int,-1<=i/\i<nN c/\o=some i) fun k hk=>?_
 have hb:0<=nN c/\nN c<=2000:=by have:=h.m;have:=h.s;unfold nN;omega
 simp only[oB]
 rcases Yy h (nm:=nm) (k:=k) N 0 (by omega) hb.1 (by omega) with⟨i,h1,h2,h3⟩ | h3
 ·exact⟨i,by omega,h2,h3⟩
 ·exact⟨-1,by omega,by omega,h3.trans hk⟩
def fA(c:Cf)(l:Int):Int:=(qT c (nth c.fK l).fA).getD (-1)
def fB(c:Cf)(l:Int):Int:=(qT c (nth c.fK l).fB).getD (-1)
theorem Xe{c:Cf}(h:Small c)(l:Int):qT c (nth c.fK l).fA=some (fA c l) /\ -1<=fA c l/\fA c l<nN c:=by
 obtain⟨i,h1,h2,h3⟩:=Vz h (nth c.fK l).fA
 unfold fA;rw[h3];exact⟨rfl,h1,h2⟩
theorem Xf{c:Cf}(h:Small c)(l:Int):qT c (nth c.fK l).fB=some (fB c l) /\ -1<=fB c l/\fB c l<nN c:=by
 obtain⟨i,h1,h2,h3⟩:=Vz h (nth c.fK l).fB
 unfold fB;rw[h3];exact⟨rfl,h1,h2⟩
def sO(c:Cf)(net n:Int):Prop:=0<=n/\(n<nM c\/(sw c n).yB=net/\0<=(sw c n).yf/\(sw c n).yf<=1000/\0<=(sw c n).fT/\(sw c n).fT<=1073741824)
instance (c:Cf) (net n:Int):Decidable (sO c net n):=inferInstanceAs (Decidable (_/\_))
theorem VB{c:Cf}(h:Small c){n:Int}(hn : -1<=n/\n<nN c):mA c net n=some (decide (sO c net n)):=by
 have:=h.m;have:=h.s
 unfold mA
 unfold nN at hn
 by_cases h1:n<c.fM.length
 ·rw[if_pos (decide_eq_true h1)]
  refine congrArg some ?_
  rw[Bool.eq_iff_iff,decide_eq_true_iff,decide_eq_true_iff]
  unfold sO nM
  exact⟨fun h=>⟨h,.inl h1⟩,fun h=>h.1⟩
 ·rw[if_neg (by simpa using h1),xD (by omega),xr ⟨by omega,by omega⟩]
  refine congrArg some ?_
  rw[Bool.eq_iff_iff,decide_eq_true_iff]
  unfold sO sw nM
  simp only[Bool.and_eq_true,decide_eq_true_eq]
  constructor
  ·rintro⟨⟨⟨⟨a,b⟩,e⟩,d⟩,f⟩;exact⟨by omega,.inr ⟨a,b,e,d,f⟩⟩
  ·rintro⟨_,a | ⟨a,b,e,d,f⟩⟩
   ·exact absurd a h1
   ·exact⟨⟨⟨⟨a,b⟩,e⟩,d⟩,f⟩
def JN(c:Cf)(net lq a b:Int):Prop:=0<=lq/\lq<c.fK.length/\(nth c.fK lq).yB=net/\1<=(nth c.fK lq).yj/\(nth c.fK lq).yj<=16/\fA c lq≠fB c lq/\
 sO c net (fA c lq)/\sO c net (fB c lq)/\(fA c lq=a/\fB c lq=b\/fA c lq=b/\fB c lq=a)
instance (c:Cf) (net lq a b:Int):Decidable (JN c net lq a b):=inferInstanceAs (Decidable (_/\_))
theorem Ke{c:Cf}(h:Small c)(net lq a b:Int):uh c net lq a b=some (decide (JN c net lq a b)):=by
 unfold uh
 by_cases h1:lq<0\/lq>=c.fK.length
 ·rw[if_pos (by simpa using h1)]
  congr 1;symm
  rw[decide_eq_false_iff_not]
  rintro⟨a,b,_⟩;omega
 ·rw[if_neg (by simpa using h1),xr ⟨by omega,by omega⟩]
  obtain⟨a1,a2,a3⟩:=Xe h lq
  obtain⟨b1,b2,b3⟩:=Xf h lq
  rw[a1,b1]
  simp only[oB]
  rw[VB h ⟨a2,a3⟩,VB h ⟨b2,b3⟩]
  simp only[oB]
  by_cases h2:(nth c.fK lq).yB=net/\1<=(nth c.fK lq).yj/\(nth c.fK lq).yj<=16/\fA c lq≠fB c lq
  ·rw[if_pos (by simp only[Bool.and_eq_true,decide_eq_true_eq];exact⟨⟨⟨h2.1,h2.2.1⟩,h2.2.2.1⟩,h2.2.2.2⟩)]
   simp only[oB]
   by_cases h3:sO c net (fA c lq)
   ·rw[if_pos (decide_eq_true h3)]
    simp only[oB]
    congr 1
    rw[Bool.eq_iff_iff]
    simp only[Bool.and_eq_true,Bool.or_eq_true,decide_eq_true_eq]
    constructor
    ·rintro⟨x,y⟩;exact⟨by omega,by omega,h2.1,h2.2.1,h2.2.2.1,h2.2.2.2,h3,x,y⟩
    ·rintro⟨_,_,_,_,_,_,_,x,y⟩;exact⟨x,y⟩
   ·rw[if_neg (by simpa using h3)]
    simp only[oB,Bool.false_and]
    congr 1;symm
    rw[decide_eq_false_iff_not]
    rintro⟨_,_,_,_,_,_,x,_⟩;exact h3 x
  ·rw[if_neg (by simp only[Bool.and_eq_true,decide_eq_true_eq];rintro⟨⟨⟨x,y⟩,z⟩,w⟩;exact h2 ⟨x,y,z,w⟩)]
   simp only[oB,Bool.false_eq_true,if_false,Bool.false_and]
   congr 1;symm
   rw[decide_eq_false_iff_not]
   rintro⟨_,_,x,y,z,w,_⟩;exact h2 ⟨x,y,z,w⟩
/-! ### routes -/
def RK(r:List Hop)(v k:Int):Prop:=k=(nth r 0).ya\/∃ q:Int,0<=q/\q<v/\(nth r q).fX=k
def uF(c:Cf)(net:Int)(r:List Hop)(v:Int):Prop:=
 RK r v (nth r v).ya/\¬RK r v (nth r v).fX/\((nth r v).ya=(nth r 0).ya\/nM c<=(nth r v).ya)/\JN c net (nth r v).fQ (nth r v).ya (nth r v).fX
structure VR (c:Cf) (net:Int) (r:List Hop):Prop where
 len:r.length<=32
 cond:∀ v:Int,0<=v->v<r.length->uF c net r v
theorem eC{κ γ:Type}[DecidableEq κ]{k k':κ}{u d:γ}(h:k'≠k):∀(l:List (κ×γ)),xx (xT l k u) k' d=xx l k' d
 | []=>by simp[xT,xx,h]
 | p::l=>by
  by_cases hk:k=p.1
  ·subst hk;simp[xT,xx,h]
  ·simp only[xT,hk,if_false,xx];rw[eC h l]
theorem cn{κ γ:Type}[DecidableEq κ]{k:κ}{u d:γ}:∀(l:List (κ×γ)),xx (xT l k u) k d=u
 | []=>by simp[xT,xx]
 | p::l=>by
  by_cases hk:k=p.1
  ·subst hk;simp[xT,xx]
  ·simp only[xT,hk,if_false,xx];exact cn l
theorem aA{c:Cf}(h:Small c){net:Int}{r:List Hop}{k:Option Bool}(hr:r.length<1000000000):∀(f:Nat) (v:Int) (mp:List (Int×Int)),0<=v->v<=r.length->r.length<f+v->
  (∀ x,0<=xx mp x 0/\xx mp x 0<=2*v/\(0<xx mp x 0↔0<v/\RK r v x))->
  ((∃ q:Int,v<=q/\q<r.length/\¬uF c net r q)/\jx r c net k f v mp=some false)\/((∀ q:Int,v<=q->q<r.length->uF c net r q)/\jx r c net k f v mp=k)
 | 0,v,mp,h0,h1,h2,h3=>by omega
 | f+1,v,mp,h0,h1,h2,h3=>by
  rw[jx]
  by_cases hv:v<r.length
  ·rw[if_pos (decide_eq_true hv),xr ⟨h0,hv⟩]
   refine w8 (P:=fun o=>((∃ q:Int,v<=q/\q<r.length/\¬uF c net r q)/\o=some false)\/((∀ q:Int,v<=q->q<r.length->uF c net r q)/\o=k)) fun kk Bx=>?_
   -- the map in which the start is counted
   have hm:∃ z2,(if decide (v=0)=true then kk (xT mp ((nth r v).ya) (i64 ((xx mp ((nth r v).ya) 0)+1))) else kk mp)=kk z2/\(∀ x,0<=xx z2 x 0/\xx z2 x 0<=2*v+1/\(0<xx z2 x 0↔RK r v x)):=by
    by_cases zZ:v=0
    ·subst zZ
     rw[if_pos (by simp)]
     refine⟨_,rfl,fun x=>?_⟩
     have h4:=h3 (nth r 0).ya
     rw[xD (by omega)]
     by_cases hx:x=(nth r 0).ya
     ·subst hx;rw[cn]
      refine⟨by omega,by omega,fun _ => .inl rfl,fun _=>by omega⟩
     ·rw[eC hx]
      have h5:=h3 x
      refine⟨by omega,by omega,fun h6=>absurd (h5.2.2.1 h6).1 (by omega),fun h6=>?_⟩
      rcases h6 with h6 | ⟨q,q1,q2,_⟩
      ·exact absurd h6 hx
      ·omega
    ·rw[if_neg (by simpa using zZ)]
     refine⟨mp,rfl,fun x=>?_⟩
     have h5:=h3 x
     exact⟨by omega,by omega,fun h6=>(h5.2.2.1 h6).2,fun h6=>h5.2.2.2 ⟨by omega,h6⟩⟩
   obtain⟨z2,e1,h4⟩:=hm
   rw[e1,Bx,xr (fun _ hc=>⟨by omega,by omega⟩),Ke h]
   simp only[oB]
   have hN:=h4 (nth r v).ya
   have hX:=h4 (nth r v).fX
   -- the condition
   have hc:∃ b,(if ((decide ((xx z2 ((nth r v).ya) 0)=0))||(decide ((xx z2 ((nth r v).fX) 0)>0))||((decide (v>0))&&(decide (((nth r v).ya)≠((nth r 0).ya)))&&(decide (((nth r v).ya)<((c.fM.length:Nat):Int)))))=true then some true else some (!decide (JN c net ((nth r v).fQ) ((nth r v).ya) ((nth r v).fX))))=some b/\(b=true↔¬uF c net r v):=by
    by_cases hb:(decide ((xx z2 ((nth r v).ya) 0)=0)||decide ((xx z2 ((nth r v).fX) 0)>0)||(decide (v>0)&&decide (((nth r v).ya)≠((nth r 0).ya))&&decide (((nth r v).ya)<((c.fM.length:Nat):Int))))=true
    ·rw[if_pos hb]
     refine⟨true,rfl,fun _=>?_,fun _=>rfl⟩
     rintro⟨a1,a2,a3,_⟩
     simp only[Bool.or_eq_true,Bool.and_eq_true,decide_eq_true_eq] at hb
     rcases hb with(hb | hb) | ⟨⟨b1,b2⟩,b3⟩
     ·have:=hN.2.2.2 a1;omega
     ·exact a2 (hX.2.2.1 hb)
     ·unfold nM at a3;rcases a3 with a3 | a3
      ·exact b2 a3
      ·omega
    ·rw[if_neg hb]
     refine⟨_,rfl,?_⟩
     simp only[Bool.or_eq_true,Bool.and_eq_true,decide_eq_true_eq,not_or,not_and] at hb
     obtain⟨⟨b1,b2⟩,b3⟩:=hb
     have c1:RK r v (nth r v).ya:=hN.2.2.1 (by omega)
     have c2:¬RK r v (nth r v).fX:=fun hk=>b2 (hX.2.2.2 hk)
     have c3:(nth r v).ya=(nth r 0).ya\/nM c<=(nth r v).ya:=by
      unfold nM
      by_cases e:(nth r v).ya=(nth r 0).ya
      ·exact .inl e
      ·refine .inr ?_
       by_cases e0:v=0
       ·subst e0;exact absurd rfl e
       ·have:=b3 ⟨by omega,e⟩;omega
     simp only[Bool.not_eq_true',decide_eq_false_iff_not]
     exact⟨fun hj hc=>hj hc.2.2.2,fun hc hj=>hc ⟨c1,c2,c3,hj⟩⟩
   obtain⟨b,hb1,De⟩:=hc
   rw[hb1]
   simp only[oB]
   by_cases hb:b=true
   ·rw[if_pos hb];exact .inl ⟨⟨v,Int.le_refl _,hv,De.1 hb⟩,rfl⟩
   ·rw[if_neg hb]
    have hcv:uF c net r v:=Classical.byContradiction fun hn=>hb (De.2 hn)
    rw[xD (x:=v+1) (by omega),xD (by omega)]
    have Cg:∀ x,0<=xx (xT z2 ((nth r v).fX) ((xx z2 ((nth r v).fX) 0)+1)) x 0/\xx (xT z2 ((nth r v).fX) ((xx z2 ((nth r v).fX) 0)+1)) x 0<=2*(v+1)/\(0<xx (xT z2 ((nth r v).fX) ((xx z2 ((nth r v).fX) 0)+1)) x 0↔0<v+1/\RK r (v+1) x):=by
     intro x
     by_cases hx:x=(nth r v).fX
     ·subst hx;rw[cn]
      exact⟨by omega,by omega,fun _=>⟨by omega,.inr ⟨v,h0,by omega,rfl⟩⟩,fun _=>by omega⟩
     ·rw[eC hx]
      have h5:=h4 x
      refine⟨by omega,by omega,fun h6=>⟨by omega,?_⟩,fun h6=>h5.2.2.2 ?_⟩
      ·rcases h5.2.2.1 h6 with h7 | ⟨q,q1,q2,q3⟩
       ·exact .inl h7
       ·exact .inr ⟨q,q1,by omega,q3⟩
      ·rcases h6.2 with h7 | ⟨q,q1,q2,q3⟩
       ·exact .inl h7
       ·by_cases e:q=v
        ·subst e;exact absurd q3.symm hx
        ·exact .inr ⟨q,q1,by omega,q3⟩
    rcases aA h hr f (v+1) (xT z2 ((nth r v).fX) ((xx z2 ((nth r v).fX) 0)+1)) (by omega) (by omega) (by omega) Cg (k:=k) (net:=net) with⟨⟨q,q1,q2,q3⟩,h5⟩ | ⟨h5,h6⟩
    ·exact .inl ⟨⟨q,by omega,q2,q3⟩,h5⟩
    ·refine .inr ⟨fun q q1 q2=>?_,h6⟩
     by_cases e:q=v
     ·rw[e];exact hcv
     ·exact h5 q (by omega) q2
  ·rw[if_neg (by simpa using hv)]
   exact .inr ⟨fun q h1 h2=>by omega,rfl⟩
theorem nE{c:Cf}(h:Small c){r:List Hop}(hr:r.length<1000000000):∃ b,ui c net r=some b/\(b=true↔VR c net r):=by
 unfold ui
 have hF:=xN
 generalize xC=N at hF ⊢
 refine qL (P:=fun o=>∃ b,o=some b/\(b=true↔VR c net r)) fun k hk=>?_
 rcases aA h hr N 0 [] (by omega) (by omega) (by omega) (fun x=>by simp[xx]) (k:=k) (net:=net) with⟨⟨q,q1,q2,q3⟩,h5⟩ | ⟨h5,h6⟩
 ·refine⟨false,h5,?_⟩
  simp only[Bool.false_eq_true,false_iff]
  exact fun hv=>q3 (hv.cond q q1 q2)
 ·refine⟨_,h6.trans hk,?_⟩
  rw[decide_eq_true_eq]
  exact⟨fun hl=>⟨by omega,h5⟩,fun hv=>by have:=hv.len;omega⟩
theorem iE{l:List (List Hop)}{f:List Hop->Option Bool}{k:Option Int}(hf:∀ y∈l,∃ b,f y=some b)(hl:l.length<1000000000):∀(n:Nat) (v:Int),0<=v->v<=l.length->l.length<n+v->
  (∃ i:Int,v<=i/\i<l.length/\f (nth l i)=some true/\wa l f k n v=some i)\/((∀ i:Int,v<=i->i<l.length->f (nth l i)=some false)/\wa l f k n v=k)
 | 0,v,h0,h1,h2=>by omega
 | n+1,v,h0,h1,h2=>by
  rw[wa]
  by_cases h:v<l.length
  ·rw[if_pos (decide_eq_true h),xr ⟨h0,h⟩]
   obtain⟨b,hb⟩:=hf _ (w4 h0 h)
   rw[hb]
   simp only[oB]
   cases b with
   | true=>exact .inl ⟨v,Int.le_refl _,h,hb,by simp⟩
   | false=>
    simp only[Bool.false_eq_true,if_false]
    rw[xD (x:=v+1) (by omega)]
    rcases iE hf hl n (v+1) (by omega) (by omega) (by omega) (k:=k) with⟨i,i1,i2,i3,i4⟩ | ⟨i1,i2⟩
    ·exact .inl ⟨i,by omega,i2,i3,i4⟩
    ·refine .inr ⟨fun i j1 j2=>?_,i2⟩
     by_cases e:i=v
     ·rw[e];exact hb
     ·exact i1 i (by omega) j2
  ·rw[if_neg (by simpa using h)]
   exact .inr ⟨fun i h1 h2=>by omega,rfl⟩
structure VA (c:Cf) (net:Int) (rs:List (List Hop)):Prop where
 nt:net=0\/net=1
 len:rs.length=c.yd.length
 most:rs.length<=16
 each:∀ r∈rs,VR c net r
theorem lr{c:Cf}(h:Small c){rs:List (List Hop)}(hr:∀ r∈rs,r.length<1000000000)(hl:rs.length<1000000000):∃ b,kT c net rs=some b/\(b=true↔VA c net rs):=by
 unfold kT
 by_cases h1:(net=0\/net=1)/\rs.length=c.yd.length/\rs.length<=16
 ·rw[if_pos (by simp only[Bool.and_eq_true,Bool.or_eq_true,decide_eq_true_eq];omega)]
  unfold wy vH
  have hF:=xN
  generalize xC=N at hF ⊢
  have hf:∀ y∈rs,∃ b,(fun(y0:List Hop)=>ve y0 c net) y=some b:=fun y hy=>by
   obtain⟨b,hb,_⟩:=nE h (net:=net) (hr y hy)
   exact⟨!b,by show ve y c net=_;unfold ve;rw[hb];rfl⟩
  have hi:∃ x:Int,(g8 (some (-1)) fun k=>wa rs (fun(y0:List Hop)=>ve y0 c net) k N 0)=some x/\(x<0↔∀ i:Int,0<=i->i<rs.length->ve (nth rs i) c net=some false):=by
   refine qL (P:=fun o=>∃ x:Int,o=some x/\(x<0↔∀ i:Int,0<=i->i<rs.length->ve (nth rs i) c net=some false)) fun k hk=>?_
   rcases iE hf hl N 0 (by omega) (by omega) (by omega) (k:=k) with⟨i,i1,i2,i3,i4⟩ | ⟨i1,i2⟩
   ·refine⟨i,i4,fun hx=>absurd hx (by omega),fun hx=>?_⟩
    have:=hx i i1 i2
    have i3':ve (nth rs i) c net=some true:=i3
    rw[this] at i3';cases i3'
   ·exact⟨-1,i2.trans hk,fun _=>i1,fun _=>by omega⟩
  obtain⟨x,hx1,hx2⟩:=hi
  rw[hx1]
  refine⟨_,rfl,?_⟩
  simp only[Bool.not_eq_true',decide_eq_false_iff_not]
  have zu:(∀ i:Int,0<=i->i<rs.length->ve (nth rs i) c net=some false)↔∀ r∈rs,VR c net r:=by
   constructor
   ·intro hh r BU
    obtain⟨i,hi,rfl⟩:=List.getElem_of_mem BU
    have h3:=hh (i:Int) (by omega) (by omega)
    rw[jT ⟨by omega,by omega⟩] at h3
    simp only[Int.toNat_natCast] at h3
    obtain⟨b,hb,De⟩:=nE h (net:=net) (hr _ (List.getElem_mem hi))
    unfold ve at h3
    rw[hb] at h3
    simp at h3
    exact De.1 h3
   ·intro hh i i1 i2
    have hm:=w4 i1 i2
    obtain⟨b,hb,De⟩:=nE h (net:=net) (hr _ hm)
    unfold ve
    rw[hb,De.2 (hh _ hm)];rfl
  constructor
  ·intro hh;exact⟨h1.1,h1.2.1,h1.2.2,zu.1 (hx2.1 (by omega))⟩
  ·intro hh;have:=hx2.2 (zu.2 hh.each);omega
 ·rw[if_neg (by simp only[Bool.and_eq_true,Bool.or_eq_true,decide_eq_true_eq];omega)]
  refine⟨false,rfl,?_⟩
  simp only[Bool.false_eq_true,false_iff]
  exact fun hv=>h1 ⟨hv.nt,hv.len,hv.most⟩
/-! ### frames -/
structure FewP (c:Cf) (rs:List (List Hop)):Prop where
 m:c.fM.length<=8
 s:c.fS.length<=8
 l:c.fK.length<=20
 v:c.yd.length<=20
 r:rs.length<=20
 e:∀ r∈rs,r.length<=40
theorem FewP.small{c:Cf}{rs:List (List Hop)}(h:FewP c rs):Small c:=⟨by have:=h.m;omega,by have:=h.s;omega,by have:=h.l;omega,by have:=h.v;omega⟩
theorem XU{rs:List (List Hop)}{k:Option Bool}(hl:rs.length<=20):∀(n:Nat) (v:Int),0<=v->v<=rs.length->rs.length<n+v->
  fl rs k n v=if ∀ r∈rs.drop v.toNat,r.length<=40 then k else some false
 | 0,v,h0,h1,h2=>by omega
 | n+1,v,h0,h1,h2=>by
  rw[fl]
  by_cases h:v<rs.length
  ·rw[if_pos (decide_eq_true h),xr ⟨h0,h⟩,va h0 h]
   by_cases hr:(((nth rs v).length:Nat):Int)>40
   ·rw[if_pos (decide_eq_true hr),if_neg]
    intro hc;have:=hc (nth rs v) (by simp);omega
   ·rw[if_neg (by simpa using hr),xD (x:=v+1) (by omega),XU hl n (v+1) (by omega) (by omega) (by omega),show(v+1).toNat=v.toNat+1 by omega]
    by_cases hq:∀ r∈rs.drop (v.toNat+1),r.length<=40
    ·rw[if_pos hq,if_pos]
     intro r hr'
     rcases List.mem_cons.1 hr' with rfl | hr'
     ·omega
     ·exact hq r hr'
    ·rw[if_neg hq,if_neg]
     exact fun hc=>hq fun r hr'=>hc r (List.mem_cons_of_mem _ hr')
  ·rw[if_neg (by simpa using h),if_pos]
   rw[List.drop_eq_nil_of_le (by omega)];simp
theorem GE(c:Cf)(rs:List (List Hop)):∃ b,rg c rs=some b/\(b=true↔FewP c rs):=by
 unfold rg
 by_cases h:c.fM.length<=8/\c.fS.length<=8/\c.fK.length<=20/\c.yd.length<=20/\rs.length<=20
 ·obtain⟨h1,h2,h3,h4,h5⟩:=h
  rw[if_neg (by simp only[Bool.or_eq_true,Bool.and_eq_true,decide_eq_true_eq];omega)]
  refine qL (P:=fun o=>∃ b,o=some b/\(b=true↔FewP c rs)) fun k hk=>?_
  rw[XU h5 xC 0 (by omega) (by omega) (by rw[xN];omega),hk]
  simp only[Int.toNat_zero,List.drop_zero]
  by_cases hq:∀ r∈rs,r.length<=40
  ·rw[if_pos hq];exact⟨true,rfl,by simp;exact⟨h1,h2,h3,h4,h5,hq⟩⟩
  ·rw[if_neg hq];exact⟨false,rfl,by simp;exact fun hc=>hq hc.e⟩
 ·rw[if_pos (by simp only[Bool.or_eq_true,Bool.and_eq_true,decide_eq_true_eq];omega)]
  refine⟨false,rfl,by simp;exact fun hc=>h ⟨hc.m,hc.s,hc.l,hc.v,hc.r⟩⟩
end
section
variable {r:List Hop}{rs:List (List Hop)}
theorem Gc{RR A0 A1 A2:Type}{K:A0->A1->A2->Option RR}{F:(A0->A1->A2->Option RR)->Option RR}{P:Option RR->Prop}(h:∀ k:A0->A1->A2->Option RR,(∀ x0 x1 x2,k x0 x1 x2=K x0 x1 x2)->P (F k)):P (Yp K F):=h K fun _ _ _=>rfl
/-! ### maps -/
theorem bd{κ γ:Type}[DecidableEq κ]{k k':κ}{u:γ}:∀ l:List (κ×γ),ji (xT l k u) k'=(decide (k'=k)||ji l k')
 | []=>by simp[xT,ji]
 | p::l=>by
  by_cases hk:k=p.1
  ·subst hk
   by_cases h2:k'=p.1 <;> simp[xT,ji,h2]
  ·simp only[xT,hk,if_false,ji,bd l]
   by_cases h2:k'=p.1
   ·simp[h2]
   ·simp[h2]
theorem rZ{κ γ:Type}[DecidableEq κ]{k:κ}{u:γ}:∀ l:List (κ×γ),(xT l k u).map (·.1)=if k∈l.map (·.1) then l.map (·.1) else l.map (·.1)++[k]
 | []=>by simp[xT]
 | p::l=>by
  by_cases hk:k=p.1
  ·subst hk;simp[xT]
  ·simp only[xT,hk,if_false,List.map_cons,rZ l,List.mem_cons,false_or]
   by_cases h:k∈l.map (·.1) <;> simp[h]
theorem qP{κ γ:Type}[DecidableEq κ]{k k':κ}{u d:γ}(l:List (κ×γ)):xx (xT l k u) k' d=if k'=k then u else xx l k' d:=by
 by_cases h:k'=k
 ·subst h;rw[cn,if_pos rfl]
 ·rw[eC h,if_neg h]
/-! ### sorting by a strict order -/
theorem dK{α:Type}{p:α->α->Option Int}{lt:α->α->Prop}{l0:List α}(hp:∀ x∈l0,∀ y∈l0,tD p x y<=0↔¬lt y x)(xH:∀ x y,lt x y->¬lt y x)(CV:∀ x y z,¬lt y x->¬lt z y->¬lt z x){x:α}(hx:x∈l0):∀ l:List α,(∀ y∈l,y∈l0)->(l.Pairwise fun a b=>¬lt b a)->(sJ p x l).Pairwise fun a b=>¬lt b a
 | [],_,_=>by simp[sJ]
 | y::l,hl,h=>by
  obtain⟨h1,h2⟩:=List.pairwise_cons.1 h
  unfold sJ
  split
  ·rename_i hxy
   have hxy:=(hp x hx y (hl y (by simp))).1 hxy
   refine List.pairwise_cons.2 ⟨fun z hz=>?_,h⟩
   rcases List.mem_cons.1 hz with rfl | hz
   ·exact hxy
   ·exact CV _ _ _ hxy (h1 z hz)
  ·rename_i hxy
   have hyx:lt y x:=by
    by_cases hc:lt y x
    ·exact hc
    ·exact absurd ((hp x hx y (hl y (by simp))).2 hc) hxy
   refine List.pairwise_cons.2 ⟨fun z hz=>?_,dK hp xH CV hx l (fun z hz=>hl z (List.mem_cons_of_mem _ hz)) h2⟩
   rcases List.mem_cons.1 ((cI _ x l).mem_iff.1 hz) with rfl | hz
   ·exact xH _ _ hyx
   ·exact h1 z hz
theorem bS{α:Type}{p:α->α->Option Int}{lt:α->α->Prop}{l0:List α}(hp:∀ x∈l0,∀ y∈l0,tD p x y<=0↔¬lt y x)(xH:∀ x y,lt x y->¬lt y x)(CV:∀ x y z,¬lt y x->¬lt z y->¬lt z x):∀ l:List α,(∀ y∈l,y∈l0)->(w6 p l).Pairwise fun a b=>¬lt b a
 | [],_=>by simp[w6]
 | x::l,hl=>by
  unfold w6
  exact dK hp xH CV (hl x (by simp)) _ (fun y hy=>hl y (List.mem_cons_of_mem _ ((vX p l).mem_iff.1 hy))) (bS hp xH CV l fun y hy=>hl y (List.mem_cons_of_mem _ hy))
theorem co{α:Type}[DecidableEq α]{p:α->α->Option Int}{lt:α->α->Prop}{l:List α}(hp:∀ x∈l,∀ y∈l,∃ v,p x y=some v/\(v<0↔lt x y)/\(v<=0↔¬lt y x))(xH:∀ x y,lt x y->¬lt y x)(CV:∀ x y z,¬lt y x->¬lt z y->¬lt z x)(Da:∀ x∈l,∀ y∈l,¬lt x y->¬lt y x->x=y):ry p (w6 p l)=true/\(w6 p l).Pairwise fun a b=>¬lt b a:=by
 have hc:∀ x∈l,∀ y∈l,p x y=some (tD p x y)/\(tD p x y<0↔lt x y)/\(tD p x y<=0↔¬lt y x):=fun x hx y hy=>by
  obtain⟨v,h1,h2,h3⟩:=hp x hx y hy
  unfold tD;rw[h1];exact⟨rfl,h2,h3⟩
 have hm:∀ x∈w6 p l,x∈l:=fun x hx=>(vX p l).mem_iff.1 hx
 have hs:=bS (fun x hx y hy=>(hc x hx y hy).2.2) xH CV l (fun y hy=>hy)
 refine⟨?_,hs⟩
 simp only[ry,Bool.and_eq_true,List.all_eq_true,Bool.not_eq_true',decide_eq_false_iff_not,cJ]
 refine⟨fun x hx=>⟨fun y hy=>by rw[(hc x (hm x hx) y (hm y hy)).1];rfl,fun h=>?_⟩,?_⟩
 ·have:=((hc x (hm x hx) x (hm x hx)).2.1).1 h;exact xH _ _ this this
 ·refine List.Pairwise.imp_of_mem ?_ hs
  intro x y hx hy hxy
  rw[(hc x (hm x hx) y (hm y hy)).2.1,(hc y (hm y hy) x (hm x hx)).2.1]
  by_cases h:lt x y
  ·exact .inr ⟨h,hxy⟩
  ·exact .inl (Da x (hm x hx) y (hm y hy) h hxy)
theorem bf(n:Nat)(h:n<4611686018427387904):Go.Lib.bitLen n<=62:=Go.Lib.bitLen_le n 62 (by omega) (by omega)
theorem eD{x:Int}(h:0<=x/\x<=18446744073709551615):u64 x=x:=by
 unfold u64 IntKind.wrap;simp[IntKind.signed,IntKind.bits];omega
/-! ### places -/
abbrev Pl:=z7
def pk(h:Hop):Pl:=⟨h.ya,h.fQ⟩
theorem aB(h:Hop):gM h=some (pk h):=rfl
def fV(a b:Pl):Prop:=a.ya<b.ya\/a.ya=b.ya/\a.fQ<b.fQ
theorem aC(a b:Pl):∃ v,vc a b=some v/\(v<0↔fV a b)/\(v<=0↔¬fV b a):=by
 unfold vc
 simp only[Qu,oB]
 rw[or_eq (by simp)]
 refine⟨_,rfl,?_⟩
 unfold dJ dJ dJ Kd fV
 repeat' split
 all_goals first | omega | (constructor <;> omega)
theorem bh(x y:Pl):fV x y->¬fV y x:=by unfold fV;omega
theorem XV(x y z:Pl):¬fV y x->¬fV z y->¬fV z x:=by unfold fV;omega
theorem aD(x y:Pl)(h1:¬fV x y)(h2:¬fV y x):x=y:=by
 unfold fV at h1 h2
 obtain⟨a,b⟩:=x;obtain⟨c,d⟩:=y
 simp only at h1 h2
 have:a=c:=by omega
 have:b=d:=by omega
 subst_vars;rfl
theorem XW{l:List Pl}(hs:l.length<=1000000):
  vo l (fun y0 y1=>vc y0 y1)=some (w6 vc l)/\(w6 vc l).Pairwise fun a b=>¬fV b a:=by
 obtain⟨ho,zH⟩:=co (p:=vc) (l:=l) (fun x _ y _=>aC x y) bh XV (fun x _ y _=>aD x y)
 refine⟨?_,zH⟩
 unfold vo gb kC
 rw[eD (by omega),xr (by omega),oB]
 have hb:=bf l.length (by omega)
 rw[Int.toNat_natCast,xr ⟨⟨rfl,rfl⟩,by omega,by omega,by omega⟩,xr ho,oB]
theorem n7{l:List Pl}{v:Pl}{k:Option Int}(hl:l.length<1000000000):∀(n:Nat) (i:Int),0<=i->i<=l.length->l.length<n+i->
  (v∈l.drop i.toNat/\∃ j:Int,0<=j/\wm l v k n i=some j)\/(v∉l.drop i.toNat/\wm l v k n i=k)
 | 0,i,h0,h1,h2=>by omega
 | n+1,i,h0,h1,h2=>by
  rw[wm]
  by_cases h:i<l.length
  ·rw[if_pos (decide_eq_true h),xr ⟨h0,h⟩,va h0 h]
   have e:(⟨(nth l i).ya,(nth l i).fQ⟩:z7)=nth l i:=rfl
   rw[e]
   by_cases hv:v=nth l i
   ·rw[if_pos (decide_eq_true hv)]
    exact .inl ⟨by rw[hv];simp,i,h0,rfl⟩
   ·rw[if_neg (by simpa using hv),xD (x:=i+1) (by omega)]
    have e2:(i+1).toNat=i.toNat+1:=by omega
    rcases n7 hl n (i+1) (by omega) (by omega) (by omega) (v:=v) (k:=k) with⟨h3,h4⟩ | ⟨h3,h4⟩
    ·rw[e2] at h3;exact .inl ⟨List.mem_cons_of_mem _ h3,h4⟩
    ·rw[e2] at h3
     refine .inr ⟨fun hc=>?_,h4⟩
     rcases List.mem_cons.1 hc with hc | hc
     ·exact hv hc
     ·exact h3 hc
  ·rw[if_neg (by simpa using h),List.drop_eq_nil_of_le (by omega)]
   exact .inr ⟨by simp,rfl⟩
theorem XX{l:List Pl}{v:Pl}(hl:l.length<1000000000):vm l v=some (decide (v∈l)):=by
 unfold vm qC
 have hF:=xN
 generalize xC=N at hF ⊢
 refine qL (P:=fun o=>(o.bind fun x=>some (decide (x>=0)))=some (decide (v∈l))) fun k hk=>?_
 rcases n7 hl N 0 (by omega) (by omega) (by omega) (v:=v) (k:=k) with⟨h1,j,h2,h3⟩ | ⟨h1,h2⟩
 ·rw[h3];simp only[Int.toNat_zero,List.drop_zero] at h1
  simp[h1,h2]
 ·rw[h2,hk];simp only[Int.toNat_zero,List.drop_zero] at h1
  simp[h1]
def tz(l:List Pl)(h:Hop):List Pl:=if pk h∈l then l else l++[pk h]
theorem bi(hs:List Hop)(l:List Pl):(hs.foldl tz l).length<=l.length+hs.length:=by
 induction hs generalizing l with
 | nil=>simp
 | cons h hs ih=>
  have:=ih (tz l h)
  have h2:(tz l h).length<=l.length+1:=by unfold tz;split <;> simp
  simp only[List.foldl_cons,List.length_cons];omega
theorem Yz(hs:List Hop)(l:List Pl)(hn:l.Nodup):(hs.foldl tz l).Nodup/\∀ p,p∈hs.foldl tz l↔p∈l\/∃ h∈hs,pk h=p:=by
 induction hs generalizing l with
 | nil=>simp[hn]
 | cons h hs ih=>
  have h2:(tz l h).Nodup/\∀ p,p∈tz l h↔p∈l\/pk h=p:=by
   unfold tz
   split
   ·rename_i hc
    refine⟨hn,fun p=>⟨.inl,?_⟩⟩
    rintro(h | rfl)
    ·exact h
    ·exact hc
   ·rename_i hc
    refine⟨List.nodup_append.2 ⟨hn,by simp,fun a ha b hb=>?_⟩,fun p=>by simp[eq_comm]⟩
    simp at hb;subst hb;exact fun e=>hc (e▸ha)
  obtain⟨i1,i2⟩:=ih _ h2.1
  refine⟨i1,fun p=>?_⟩
  rw[List.foldl_cons,i2,h2.2]
  simp only[List.mem_cons,exists_eq_or_imp,or_assoc]
theorem YA{rs:List (List Hop)}{v:Int}{k:List Pl->Option (List Pl)}(hr:(nth rs v).length<=1000)(h0:0<=v)(hv:v<rs.length):∀(n:Nat) (o:List Pl) (i:Int),0<=i->i<=(nth rs v).length->(nth rs v).length<n+i->(o.length:Int)+((nth rs v).length-i)<=1000000->
  kI rs v k n o i=k (((nth rs v).drop i.toNat).foldl tz o)
 | 0,o,i,a0,a1,a2,a3=>by omega
 | n+1,o,i,a0,a1,a2,a3=>by
  rw[kI]
  by_cases h:i<(nth rs v).length
  ·rw[if_pos (decide_eq_true h),va a0 h,List.foldl_cons]
   refine w8 (P:=fun x=>x=_) fun kk Bx=>?_
   rw[xr ⟨a0,h⟩]
   have e:(⟨(nth (nth rs v) i).ya,(nth (nth rs v) i).fX,(nth (nth rs v) i).fQ⟩:za)=nth (nth rs v) i:=rfl
   rw[e,aB,oB,XX (by omega),oB]
   have e2:(i+1).toNat=i.toNat+1:=by omega
   have iS:(tz o (nth (nth rs v) i)).length<=o.length+1:=by unfold tz;split <;> simp
   have AY:kk (tz o (nth (nth rs v) i))=k (((nth rs v).drop (i.toNat+1)).foldl tz (tz o (nth (nth rs v) i))):=by
    rw[Bx,xD (x:=i+1) (by omega),YA hr h0 hv n _ (i+1) (by omega) (by omega) (by omega) (by omega),e2]
   by_cases hc:pk (nth (nth rs v) i)∈o
   ·rw[if_neg (by simpa using hc),<- AY]
    unfold tz;rw[if_pos hc]
   ·rw[if_pos (by simpa using hc),oB,xr (by simp;omega),<- AY]
    unfold tz;rw[if_neg hc]
  ·rw[if_neg (by simpa using h),List.drop_eq_nil_of_le (by omega)];rfl
def bj(rs:List (List Hop)):List Hop:=rs.flatten
theorem aF{rs:List (List Hop)}{k:List Pl->Option (List Pl)}(hr:∀ r∈rs,r.length<=1000)(hl:rs.length<=100):∀(n:Nat) (o:List Pl) (v:Int),0<=v->v<=rs.length->rs.length<n+v->(o.length:Int)+1000*(rs.length-v)<=1000000->
  kJ rs k n o v=k ((bj (rs.drop v.toNat)).foldl tz o)
 | 0,o,i,a0,a1,a2,a3=>by omega
 | n+1,o,v,a0,a1,a2,a3=>by
  rw[kJ]
  by_cases h:v<rs.length
  ·have Ay:=hr _ (w4 a0 h)
   rw[if_pos (decide_eq_true h),va a0 h]
   unfold bj
   rw[List.flatten_cons,List.foldl_append]
   refine w8 (P:=fun x=>x=_) fun kk Bx=>?_
   rw[xr ⟨a0,h⟩]
   refine w8 (P:=fun x=>x=_) fun k2 lN=>?_
   rw[YA Ay a0 h xC o 0 (by omega) (by omega) (by rw[xN];omega) (by omega)]
   simp only[Int.toNat_zero,List.drop_zero]
   have:=bi (nth rs v) o
   rw[lN,Bx,xD (x:=v+1) (by omega),aF hr hl n _ (v+1) (by omega) (by omega) (by omega) (by omega),show(v+1).toNat=v.toNat+1 by omega]
   rfl
  ·rw[if_neg (by simpa using h),List.drop_eq_nil_of_le (by omega)];rfl
def PS(rs:List (List Hop)):List Pl:=w6 vc ((bj rs).foldl tz [])
theorem mo(rs:List (List Hop)):(PS rs).Nodup:=(vX _ _).nodup_iff.2 (Yz _ [] (by simp)).1
theorem rm(rs:List (List Hop))(p:Pl):p∈PS rs↔∃ r∈rs,∃ h∈r,pk h=p:=by
 unfold PS
 rw[(vX _ _).mem_iff,(Yz _ [] (by simp)).2]
 unfold bj
 simp only[List.not_mem_nil,false_or,List.mem_flatten]
 exact⟨fun⟨h,⟨r,hr,hh⟩,e⟩=>⟨r,hr,h,hh,e⟩,fun⟨r,hr,h,hh,e⟩=>⟨h,⟨r,hr,hh⟩,e⟩⟩
theorem nF{m:Nat}(hr:∀ r∈rs,r.length<=m):(bj rs).length<=rs.length*m:=by
 unfold bj
 induction rs with
 | nil=>simp
 | cons r rs ih=>
  have:=ih fun r h=>hr r (List.mem_cons_of_mem _ h)
  have h1:=hr r (by simp)
  rw[List.flatten_cons,List.length_append,List.length_cons,Nat.succ_mul];omega
theorem oh{m:Nat}(hr:∀ r∈rs,r.length<=m):(PS rs).length<=rs.length*m:=by
 unfold PS
 rw[mj]
 have:=bi (bj rs) []
 have:=nF hr
 simp at *;omega
theorem J9(hr:∀ r∈rs,r.length<=1000)(hl:rs.length<=100):uN rs=some (PS rs):=by
 unfold uN
 refine w8 (P:=fun o=>o=some (PS rs)) fun k hk=>?_
 rw[aF hr hl xC [] 0 (by omega) (by omega) (by rw[xN];omega) (by simp;omega),hk]
 simp only[Int.toNat_zero,List.drop_zero]
 have h1:=bi (bj rs) []
 have h2:=nF hr
 have h3:rs.length*1000<=100*1000:=Nat.mul_le_mul_right _ hl
 rw[(XW (by simp at h1;omega)).1]
 rfl
/-! ### the hop by which a node is reached -/
def j6(r:List Hop)(n:Int):Hop×Bool:=match r.find? (fun h=>decide (h.fX=n)) with | some h=>(h,true) | none=>(⟨0,0,0⟩,false)
theorem rG{n:Int}(h:(j6 r n).2=true):(j6 r n).1∈r/\(j6 r n).1.fX=n:=by
 unfold j6 at *
 split at h
 ·rename_i x hx
  simp only[hx]
  exact⟨List.mem_of_find?_eq_some hx,by simpa using List.find?_some hx⟩
 ·cases h
theorem nG{g:Hop}(h:g∈r):(j6 r g.fX).2=true:=by
 unfold j6
 split
 ·rfl
 ·rename_i hx
  have:=List.find?_eq_none.1 hx g h
  simp at this
theorem n8{r:List Hop}{f:Hop->Option Bool}{p:Hop->Bool}{k:Option Int}(hf:∀ h∈r,f h=some (p h))(hl:r.length<1000000000):∀(n:Nat) (i:Int),0<=i->i<=r.length->r.length<n+i->
  (∃ j:Int,0<=j/\j<r.length/\(r.drop i.toNat).find? p=some (nth r j)/\wt r f k n i=some j)\/((r.drop i.toNat).find? p=none/\wt r f k n i=k)
 | 0,i,h0,h1,h2=>by omega
 | n+1,i,h0,h1,h2=>by
  rw[wt]
  by_cases h:i<r.length
  ·rw[if_pos (decide_eq_true h),xr ⟨h0,h⟩,va h0 h]
   have e:(⟨(nth r i).ya,(nth r i).fX,(nth r i).fQ⟩:za)=nth r i:=rfl
   rw[e,hf _ (w4 h0 h),oB]
   by_cases hp:p (nth r i)=true
   ·rw[if_pos hp,List.find?_cons_of_pos hp];exact .inl ⟨i,h0,h,rfl,rfl⟩
   ·rw[if_neg hp,List.find?_cons_of_neg hp,xD (x:=i+1) (by omega)]
    have e2:(i+1).toNat=i.toNat+1:=by omega
    rw[<- e2]
    exact n8 hf hl n (i+1) (by omega) (by omega) (by omega)
  ·rw[if_neg (by simpa using h),List.drop_eq_nil_of_le (by omega)]
   exact .inr ⟨rfl,rfl⟩
theorem ie{f:Hop->Option Bool}{p:Hop->Bool}(hf:∀ h∈r,f h=some (p h))(hl:r.length<1000000000):
  (∃ j:Int,0<=j/\j<r.length/\r.find? p=some (nth r j)/\wr r f=some j)\/(r.find? p=none/\wr r f=some (-1)):=by
 unfold wr
 have hF:=xN
 generalize xC=N at hF ⊢
 refine qL (P:=fun o=>(∃ j:Int,0<=j/\j<r.length/\r.find? p=some (nth r j)/\o=some j)\/(r.find? p=none/\o=some (-1))) fun k hk=>?_
 have:=n8 hf hl N 0 (by omega) (by omega) (by omega) (k:=k)
 simp only[Int.toNat_zero,List.drop_zero] at this
 rw[hk] at this ⊢
 exact this
theorem Yh{n:Int}(hl:r.length<1000000000):mE r n=some (j6 r n):=by
 unfold mE j6
 rcases ie (r:=r) (f:=fun y0=>uO y0 n) (p:=fun h=>decide (h.fX=n)) (fun h _=>rfl) hl with⟨j,j0,j1,j2,j3⟩ | ⟨j2,j3⟩
 ·rw[j3,j2,oB,if_neg (by simpa using j0),xr ⟨j0,j1⟩]
 ·rw[j3,j2,oB];rfl
theorem XY{f:Hop->Option Bool}{p:Hop->Bool}(hf:∀ h∈r,f h=some (p h))(hl:r.length<1000000000):wR r f=some (r.any p):=by
 unfold wR
 rcases ie hf hl with⟨j,j0,j1,j2,j3⟩ | ⟨j2,j3⟩
 ·rw[j3,oB,decide_eq_true j0]
  rw[eq_comm,Option.some.injEq,eq_comm,eq_comm,List.any_eq_true]
  exact⟨_,w4 j0 j1,List.find?_some j2⟩
 ·rw[j3,oB]
  have:r.any p=false:=by
   rw[List.any_eq_false];exact List.find?_eq_none.1 j2
  rw[this];rfl
end
section
variable {p:Pl}{mp:List (Pl×Int)}{rs:List (List Hop)}
/-! ### the order of computation -/
def nH(r:List Hop)(p:Pl)(mp:List (Pl×Int))(h:Hop):Bool:=(decide (pk h=p)&&(j6 r h.ya).2)&&decide (xx mp (pk (j6 r h.ya).1) 0=0)
theorem Qw{r:List Hop}{h:Hop}(hl:r.length<1000000000):mr h r p mp=some (nH r p mp h):=by
 unfold mr nH
 rw[Yh hl,aB,oB,oB]
 by_cases hc:(decide (pk h=p)&&(j6 r h.ya).2)=true
 ·rw[if_pos hc,aB,hc];rfl
 ·rw[if_neg hc];simp only[Bool.not_eq_true] at hc;rw[hc];rfl
theorem VD{s r:List Hop}{p:Pl}{mp:List (Pl×Int)}{k:Option Int}(hr:r.length<1000000000)(hl:s.length<1000000000):∀(n:Nat) (i:Int),0<=i->i<=s.length->s.length<n+i->
  ((s.drop i.toNat).any (nH r p mp)=true/\∃ j:Int,0<=j/\ws s r p mp k n i=some j)\/((s.drop i.toNat).any (nH r p mp)=false/\ws s r p mp k n i=k)
 | 0,i,h0,h1,h2=>by omega
 | n+1,i,h0,h1,h2=>by
  rw[ws]
  by_cases h:i<s.length
  ·rw[if_pos (decide_eq_true h),xr ⟨h0,h⟩,va h0 h]
   have e:(⟨(nth s i).ya,(nth s i).fX,(nth s i).fQ⟩:za)=nth s i:=rfl
   rw[e,Qw hr,oB,List.any_cons]
   cases hb:nH r p mp (nth s i) with
   | true=>rw[if_pos rfl];exact .inl ⟨rfl,i,h0,rfl⟩
   | false=>
    rw[if_neg (by simp),Bool.false_or,xD (x:=i+1) (by omega)]
    have e2:(i+1).toNat=i.toNat+1:=by omega
    rw[<- e2]
    exact VD hr hl n (i+1) (by omega) (by omega) (by omega)
  ·rw[if_neg (by simpa using h),List.drop_eq_nil_of_le (by omega)]
   exact .inr ⟨rfl,rfl⟩
def dL(p:Pl)(mp:List (Pl×Int))(r:List Hop):Bool:=r.any (nH r p mp)
theorem Ja{r:List Hop}(hl:r.length<1000000000):um r p mp=some (dL p mp r):=by
 unfold um qo qM
 have hF:=xN
 generalize xC=N at hF ⊢
 refine qL (P:=fun o=>((o.bind fun x=>some (decide (x>=0))).bind fun x=>some x)=some (dL p mp r)) fun k hk=>?_
 have:=VD (s:=r) (r:=r) (p:=p) (mp:=mp) (k:=k) hl hl N 0 (by omega) (by omega) (by omega)
 simp only[Int.toNat_zero,List.drop_zero] at this
 unfold dL
 rcases this with⟨h1,j,h2,h3⟩ | ⟨h1,h2⟩
 ·rw[h3,h1];simp[h2]
 ·rw[h2,hk,h1];simp
theorem VF{s:List (List Hop)}{p:Pl}{mp:List (Pl×Int)}{k:Option Int}(hr:∀ r∈s,r.length<1000000000)(hl:s.length<1000000000):∀(n:Nat) (i:Int),0<=i->i<=s.length->s.length<n+i->
  ((s.drop i.toNat).any (dL p mp)=true/\∃ j:Int,0<=j/\wh s p mp k n i=some j)\/((s.drop i.toNat).any (dL p mp)=false/\wh s p mp k n i=k)
 | 0,i,h0,h1,h2=>by omega
 | n+1,i,h0,h1,h2=>by
  rw[wh]
  by_cases h:i<s.length
  ·rw[if_pos (decide_eq_true h),xr ⟨h0,h⟩,va h0 h]
   rw[Ja (hr _ (w4 h0 h)),oB,List.any_cons]
   cases hb:dL p mp (nth s i) with
   | true=>rw[if_pos rfl];exact .inl ⟨rfl,i,h0,rfl⟩
   | false=>
    rw[if_neg (by simp),Bool.false_or,xD (x:=i+1) (by omega)]
    have e2:(i+1).toNat=i.toNat+1:=by omega
    rw[<- e2]
    exact VF hr hl n (i+1) (by omega) (by omega) (by omega)
  ·rw[if_neg (by simpa using h),List.drop_eq_nil_of_le (by omega)]
   exact .inr ⟨rfl,rfl⟩
def w5(rs:List (List Hop))(mp:List (Pl×Int))(p:Pl):Bool:=rs.any (dL p mp)
theorem GF(hr:∀ r∈rs,r.length<1000000000)(hl:rs.length<1000000000):vf rs p mp=some (w5 rs mp p):=by
 unfold vf qp
 have hF:=xN
 generalize xC=N at hF ⊢
 refine qL (P:=fun o=>(o.bind fun x=>some (decide (x>=0)))=some (w5 rs mp p)) fun k hk=>?_
 have:=VF (s:=rs) (p:=p) (mp:=mp) (k:=k) hr hl N 0 (by omega) (by omega) (by omega)
 simp only[Int.toNat_zero,List.drop_zero] at this
 unfold w5
 rcases this with⟨h1,j,h2,h3⟩ | ⟨h1,h2⟩
 ·rw[h3,h1];simp[h2]
 ·rw[h2,hk,h1];simp
def sE(rs:List (List Hop))(p q:Pl):Prop:=∃ r∈rs,∃ h∈r,pk h=p/\(j6 r h.ya).2=true/\pk (j6 r h.ya).1=q
theorem Yi:w5 rs mp p=true↔∃ q,sE rs p q/\xx mp q 0=0:=by
 unfold w5 dL nH sE
 simp only[List.any_eq_true,Bool.and_eq_true,decide_eq_true_eq]
 constructor
 ·rintro⟨r,hr,h,hh,⟨e,i⟩,z⟩;exact⟨_,⟨r,hr,h,hh,e,i,rfl⟩,z⟩
 ·rintro⟨q,⟨r,hr,h,hh,e,i,rfl⟩,z⟩;exact⟨r,hr,h,hh,⟨e,i⟩,z⟩
theorem sE.mem{q:Pl}(h:sE rs p q):q∈PS rs:=by
 obtain⟨r,hr,h,hh,e,i,rfl⟩:=h
 exact(rm rs _).2 ⟨r,hr,_,(rG i).1,rfl⟩
abbrev OR:=List z7×Int
theorem XZ{ir out:List Pl}{rs:List (List Hop)}{mp:List (Pl×Int)}{k1:List Pl->List Pl->List (Pl×Int)->Option OR}{k2:Option OR}(hr:∀ r∈rs,r.length<1000000000)(hl:rs.length<1000000000)(hs:ir.length+out.length<=1000000):∀(n:Nat) (v:Int),0<=v->v<=ir.length->ir.length<n+v->
  (∃(l1:List Pl) (p:Pl) (l2:List Pl),ir=l1++p::l2/\w5 rs mp p=false/\kb ir rs mp out k1 k2 n v=k1 (l1++l2) (out++[p]) (xT mp p (i64 (xx mp p 0+1)))) \/
  ((∀ p∈ir.drop v.toNat,w5 rs mp p=true)/\kb ir rs mp out k1 k2 n v=k2)
 | 0,v,h0,h1,h2=>by omega
 | n+1,v,h0,h1,h2=>by
  rw[kb]
  by_cases h:v<ir.length
  ·rw[if_pos (decide_eq_true h),xr ⟨h0,h⟩]
   have e:(⟨(nth ir v).ya,(nth ir v).fQ⟩:z7)=nth ir v:=rfl
   rw[e,GF hr hl,oB]
   cases hb:w5 rs mp (nth ir v) with
   | false=>
    rw[if_pos (by rfl),xr (by simp;omega)]
    refine .inl ⟨ir.take v.toNat,nth ir v,ir.drop (v.toNat+1),?_,hb,?_⟩
    ·rw[<- va h0 h,List.take_append_drop]
    ·unfold rW
     rw[xD (x:=v+1) (by omega),xr (by omega),oB,show(v+1).toNat=v.toNat+1 by omega]
   | true=>
    rw[if_neg (by simp),xD (x:=v+1) (by omega)]
    have e2:(v+1).toNat=v.toNat+1:=by omega
    rcases XZ hr hl hs n (v+1) (by omega) (by omega) (by omega) (k1:=k1) (k2:=k2) (mp:=mp) with h3 | ⟨h3,h4⟩
    ·exact .inl h3
    ·refine .inr ⟨?_,h4⟩
     rw[va h0 h,<- e2]
     intro p hp
     rcases List.mem_cons.1 hp with rfl | hp
     ·exact hb
     ·exact h3 p hp
  ·rw[if_neg (by simpa using h),List.drop_eq_nil_of_le (by omega)]
   exact .inr ⟨by simp,rfl⟩
def wM(rs:List (List Hop))(l:List Pl):Prop:=∀ l1 p l2,l=l1++p::l2->∀ q,sE rs p q->q∈l1
def tA(rs:List (List Hop))(s:List Pl):Prop:=s≠[]/\∀ p∈s,p∈PS rs/\∃ q∈s,sE rs p q
theorem aG{rs:List (List Hop)}{k:List Pl->Option OR}(hr:∀ r∈rs,r.length<1000000000)(hl:rs.length<1000000000)(hp:(PS rs).length<=1000000):∀(n:Nat) (ir out:List Pl) (mp:List (Pl×Int)),ir.length<n->
  (ir++out).Perm (PS rs)->(∀ q,xx mp q 0=if q∈out then 1 else 0)->wM rs out->
  (∃ l,l.Perm (PS rs)/\wM rs l/\kc rs k n ir out mp=k l)\/(∃ s,tA rs s/\kc rs k n ir out mp=some ([],351))
 | 0,ir,out,mp,h0,h1,h2,h3=>by omega
 | n+1,ir,out,mp,h0,h1,h2,h3=>by
  rw[kc]
  have iS:=h1.length_eq
  rw[List.length_append] at iS
  have Ap:(ir++out).Nodup:=h1.nodup_iff.2 (mo rs)
  by_cases h:ir.length>0
  ·rw[if_pos (by simpa using h)]
   refine Gc (P:=fun o=>(∃ l,l.Perm (PS rs)/\wM rs l/\o=k l)\/(∃ s,tA rs s/\o=some ([],351))) fun k1 mV=>?_
   refine qL (P:=fun o=>(∃ l,l.Perm (PS rs)/\wM rs l/\o=k l)\/(∃ s,tA rs s/\o=some ([],351))) fun k2 lN=>?_
   rcases XZ hr hl (show ir.length+out.length<=1000000 by omega) xC 0 (by omega) (by omega) (by rw[xN];omega) (k1:=k1) (k2:=k2) (mp:=mp) with⟨l1,p,l2,e1,e2,e3⟩ | ⟨e1,e2⟩
   ·subst e1
    have hpo:p∉out:=fun hc=>by
     have:=(List.nodup_append.1 Ap).2.2 p (by simp) p hc;exact this rfl
    rw[e3,mV]
    have hm:xx mp p 0=0:=by rw[h2,if_neg hpo]
    rw[hm,xD (by omega)]
    refine aG hr hl hp n _ _ _ (by simp at h0 ⊢;omega) ?_ ?_ ?_
    ·refine List.Perm.trans ?_ h1
     rw[<- List.append_assoc]
     refine(List.perm_append_comm).trans ?_
     simp only[List.singleton_append,List.append_assoc,List.cons_append]
     refine List.Perm.trans ?_ (List.perm_middle (l₁:=l1)).symm
     simp
    ·intro q
     rw[qP,h2]
     by_cases hq:q=p
     ·subst hq;simp
     ·simp[hq]
    ·intro a q b Df q' DQ
     rcases List.append_eq_append_iff.1 Df with⟨w,hw1,Bo⟩ | ⟨w,hw1,Bo⟩
     ·-- the last one
      cases w with
      | nil=>
       simp at Bo hw1
       obtain⟨rfl,rfl⟩:=Bo
       subst hw1
       by_cases hc:xx mp q' 0=0
       ·exact absurd (Yi.2 ⟨q',DQ,hc⟩) (by rw[e2];simp)
       ·rw[h2] at hc
        by_cases xE:q'∈a
        ·exact xE
        ·rw[if_neg xE] at hc;exact absurd rfl hc
      | cons x w=>simp at Bo
     ·cases w with
      | nil=>
       simp at Bo hw1
       obtain⟨rfl,rfl⟩:=Bo
       subst hw1
       by_cases hc:xx mp q' 0=0
       ·exact absurd (Yi.2 ⟨q',DQ,hc⟩) (by rw[e2];simp)
       ·rw[h2] at hc
        by_cases xE:q'∈out
        ·exact xE
        ·rw[if_neg xE] at hc;exact absurd rfl hc
      | cons x w=>
       rw[List.cons_append] at Bo
       injection Bo with hx Bo
       subst hx
       exact h3 a q w hw1 q' DQ
   ·refine .inr ⟨ir,⟨by rintro rfl;simp at h,fun p hp=>⟨h1.subset (by simp[hp]),?_⟩⟩,by rw[e2,lN]⟩
    obtain⟨q,hq,hz⟩:=Yi.1 (e1 p (by simpa using hp))
    refine⟨q,?_,hq⟩
    have hm:=h1.symm.subset hq.mem
    rcases List.mem_append.1 hm with hm | hm
    ·exact hm
    ·rw[h2,if_pos hm] at hz;omega
  ·rw[if_neg (by simpa using h)]
   have:ir=[]:=List.eq_nil_of_length_eq_zero (by omega)
   subst this
   exact .inl ⟨out,h1,h3,rfl⟩
theorem W0(hr:∀ r∈rs,r.length<=1000)(hl:rs.length<=100):
  (∃ l,l.Perm (PS rs)/\wM rs l/\mm rs=some (l,0))\/(∃ s,tA rs s/\mm rs=some ([],351)):=by
 unfold mm
 have C6:=oh hr
 have h3:rs.length*1000<=100*1000:=Nat.mul_le_mul_right _ hl
 rw[J9 hr hl,oB]
 refine w8 (P:=fun o:Option OR=>(∃ l,l.Perm (PS rs)/\wM rs l/\o=some (l,0))\/(∃ s,tA rs s/\o=some ([],351))) fun k hk=>?_
 rcases aG (k:=k) (fun r h=>by have:=hr r h;omega) (by omega) (by omega) xC (PS rs) [] [] (by rw[xN];omega) (by simp) (by simp[xx]) (fun l1 p l2 h=>by simp at h) with⟨l,e1,e2,e3⟩ | ⟨s,e1,e2⟩
 ·exact .inl ⟨l,e1,e2,by rw[e3,hk]⟩
 ·exact .inr ⟨s,e1,e2⟩
end
section
variable {net:Int}{rs:List (List Hop)}
/-! ### what a valid route is -/
theorem uX{α:Type}[Inhabited α]{l:List α}{x:α}(h:x∈l):∃ i:Int,0<=i/\i<l.length/\nth l i=x:=by
 obtain⟨i,hi,rfl⟩:=List.getElem_of_mem h
 refine⟨(i:Int),by omega,by omega,?_⟩
 rw[jT ⟨by omega,by omega⟩];rfl
theorem VR.uniq{c:Cf}{r:List Hop}(h:VR c net r){x y:Hop}(hx:x∈r)(hy:y∈r)(e:x.fX=y.fX):x=y:=by
 obtain⟨i,i0,i1,rfl⟩:=uX hx
 obtain⟨j,j0,j1,rfl⟩:=uX hy
 rcases Int.lt_trichotomy i j with k | k | k
 ·exact absurd (.inr ⟨i,i0,k,e⟩) (h.cond j j0 j1).2.1
 ·rw[k]
 ·exact absurd (.inr ⟨j,j0,k,e.symm⟩) (h.cond i i0 i1).2.1
theorem VR.into{c:Cf}{r:List Hop}(h:VR c net r){g:Hop}(hg:g∈r):j6 r g.fX=(g,true):=by
 have h1:=nG hg
 obtain⟨h2,h3⟩:=rG h1
 exact Prod.ext (h.uniq h2 hg h3) h1
def W1(rs:List (List Hop))(a b:Pl):Prop:=∃ r∈rs,∃ g∈r,∃ h∈r,g.fX=h.ya/\pk g=a/\pk h=b
theorem ig{c:Cf}(hv:VA c net rs){a b:Pl}:W1 rs a b↔sE rs b a:=by
 constructor
 ·rintro⟨r,hr,g,hg,h,hh,e,rfl,rfl⟩
  refine⟨r,hr,h,hh,rfl,?_⟩
  rw[<- e,(hv.each r hr).into hg];exact⟨rfl,rfl⟩
 ·rintro⟨r,hr,h,hh,rfl,e,rfl⟩
  obtain⟨h2,h3⟩:=rG e
  exact⟨r,hr,_,h2,h,hh,h3,rfl,rfl⟩
theorem W1.left{a b:Pl}(h:W1 rs a b):a∈PS rs:=by
 obtain⟨r,hr,g,hg,h,hh,e,rfl,rfl⟩:=h;exact(rm rs _).2 ⟨r,hr,g,hg,rfl⟩
theorem W1.right{a b:Pl}(h:W1 rs a b):b∈PS rs:=by
 obtain⟨r,hr,g,hg,h,hh,e,rfl,rfl⟩:=h;exact(rm rs _).2 ⟨r,hr,h,hh,rfl⟩
theorem tA.no{c:Cf}(hv:VA c net rs){s:List Pl}(h:tA rs s)(f:Pl->Int)(h0:∀ p∈PS rs,0<=f p)(hf:∀ a b,W1 rs a b->f a<f b):False:=by
 obtain⟨ov,hs⟩:=h
 have key:∀ n:Nat,∀ p∈s,(f p).toNat<n->False:=by
  intro n
  induction n with
  | zero=>intro p hp h;omega
  | succ n ih=>
   intro p hp mO
   obtain⟨xv,q,hq,hqp⟩:=hs p hp
   have h1:=hf q p ((ig hv).2 hqp)
   have h2:=h0 q (hs q hq).1
   exact ih q hq (by omega)
 cases s with
 | nil=>exact ov rfl
 | cons p s=>exact key ((f p).toNat+1) p (by simp) (by omega)
theorem wM.idx{c:Cf}(hv:VA c net rs){l:List Pl}(h:wM rs l)(hp:l.Perm (PS rs)){a b:Pl}(he:W1 rs a b):l.idxOf a<l.idxOf b:=by
 have hb:b∈l:=hp.symm.subset he.right
 obtain⟨l1,l2,e⟩:=List.append_of_mem hb
 have hn:l.Nodup:=hp.nodup_iff.2 (mo rs)
 have ha:=h l1 b l2 e a ((ig hv).1 he)
 have hb1:b∉l1:=fun hc=>by
  rw[e] at hn;exact(List.nodup_append.1 hn).2.2 b hc b (by simp) rfl
 rw[e,List.idxOf_append,if_pos ha,List.idxOf_append,if_neg hb1]
 have:=List.idxOf_lt_length_of_mem ha
 omega
end
section
abbrev R:=z1
variable {x:R}
theorem lu{x:Int}(h:0<=x/\x<=18446744073709551615):u64 x=x:=by
 unfold u64 IntKind.wrap;simp[IntKind.signed,IntKind.bits];omega
theorem eE{n:Int}(h : -9223372036854775808<=n/\n<=9223372036854775807):uo n=some (n.natAbs:Int):=by
 unfold uo
 by_cases hn:n<0
 ·rw[if_pos (by simpa using hn)]
  rw[xD (x:=n+1) (by omega),xD (x:=0-(n+1)) (by omega),lu (x:=0-(n+1)) (by omega),lu (by omega)]
  congr 1;omega
 ·rw[if_neg (by simpa using hn),lu (by omega)]
  congr 1;omega
theorem W2(x y:Nat):Int.tmod (x:Int) (y:Int)=((x % y:Nat):Int):=rfl
theorem W3{k:Int->Option Int}:∀(m n x y:Nat),y<2 ^ m->2*m<n->qD k n x y=k (Nat.gcd x y:Nat)
 | 0,n+1,x,y,hy,_=>by
  have:y=0:=by omega
  subst this
  rw[qD];simp
 | m+1,n+2,x,y,hy,hn=>by
  rw[qD]
  by_cases h0:y=0
  ·subst h0;simp
  ·rw[if_pos (by simpa using h0),xr (by simpa using h0),W2]
   rw[qD]
   have hg:Nat.gcd x y=Nat.gcd y (x % y):=by rw[Nat.gcd_comm x y,Nat.gcd_rec,Nat.gcd_comm]
   by_cases h1:x % y=0
   ·rw[h1] at hg ⊢;simp[hg]
   ·have Dg:((x % y:Nat):Int)≠0:=fun h=>h1 (by exact_mod_cast h)
    rw[if_pos (decide_eq_true Dg),xr Dg,W2]
    have hr:x % y<y:=Nat.mod_lt _ (by omega)
    have Dc:Nat.gcd y (x % y)=Nat.gcd (x % y) (y % (x % y)):=by rw[Nat.gcd_comm y (x % y),Nat.gcd_rec,Nat.gcd_comm]
    rw[W3 m n (x % y) (y % (x % y)) ?_ (by omega),hg,Dc]
    have h2:y % (x % y)<x % y:=Nat.mod_lt _ (by omega)
    have h3:2*(y % (x % y))<=y:=by
     have h4:=Nat.div_add_mod y (x % y)
     have h5:1<=y / (x % y):=(Nat.one_le_div_iff (by omega)).2 (by omega)
     have h6:x % y*1<=x % y*(y / (x % y)):=Nat.mul_le_mul_left _ h5
     omega
    have h7:2 ^ (m+1)=2*2 ^ m:=by rw[Nat.pow_succ,Nat.mul_comm]
    omega
theorem Jb{x y:Nat}(hy:y<2 ^ 64):fo x y=some ((Nat.gcd x y:Nat):Int):=by
 unfold fo
 simp only[vk]
 exact W3 64 xC x y hy (by rw[xN];omega)
/-! ### numbers -/
def fits(q:Rat):Bool:=decide (q.num.natAbs<=1073741824/\q.den<=1073741824)
def sT(q:Rat):R:=⟨q.num,(q.den:Int)⟩
def val(x:R):Rat:=Rat.divInt x.fN x.fD
def V(x:R):Bool:=decide (1<=x.fD/\x.fD<=1073741824 /\ -1073741824<=x.fN/\x.fN<=1073741824/\Nat.gcd x.fN.natAbs x.fD.natAbs=1)
theorem oZ(q:Rat):val (sT q)=q:=Rat.num_divInt_den q
theorem bk{q:Rat}(h:fits q=true):V (sT q)=true:=by
 simp only[fits,decide_eq_true_eq] at h
 have hr:=q.reduced
 have hd:=q.den_pos
 unfold V sT
 rw[decide_eq_true_eq]
 refine⟨by show(1:Int)<=(q.den:Int);omega,by show(q.den:Int)<=1073741824;omega,by show _<=q.num;omega,by show q.num<=_;omega,hr⟩
theorem aH(h:V x=true):(val x).num=x.fN/\((val x).den:Int)=x.fD:=by
 simp only[V,decide_eq_true_eq] at h
 obtain⟨h1,h2,h3,h4,h5⟩:=h
 have hg:Int.gcd x.fD x.fN=1:=by rw[Int.gcd,Nat.gcd_comm];exact h5
 constructor
 ·rw[val,Rat.num_divInt,hg,Int.sign_eq_one_of_pos (by omega)];simp
 ·rw[val,Rat.den_divInt,hg,if_neg (by omega)];simp;omega
theorem Yj(h:V x=true):sT (val x)=x:=by
 obtain⟨h1,h2⟩:=aH h
 simp only[sT,h1,h2]
theorem VG{y:R}(hx:V x=true)(hy:V y=true)(h:val x=val y):x=y:=by rw[<- Yj hx,<- Yj hy,h]
def mk(q:Rat):R×Int:=if fits q then(sT q,0) else(⟨0,0⟩,3)
theorem cp{n d:Int}(hd:d≠0)(h:n.natAbs<=4611686018427387904/\d.natAbs<=4611686018427387904):mw n d=some (mk (Rat.divInt n d)):=by
 unfold mw
 rw[if_neg (by simpa using hd),eE (by omega),eE (by omega),oB,oB,Jb (by omega),oB]
 have hg:0<Nat.gcd n.natAbs d.natAbs:=Nat.gcd_pos_of_pos_right _ (by omega)
 rw[xr (by omega)]
 have hn:=Nat.div_le_self n.natAbs (Nat.gcd n.natAbs d.natAbs)
 have hdd:=Nat.div_le_self d.natAbs (Nat.gcd n.natAbs d.natAbs)
 have en:u64 (Int.tdiv (n.natAbs:Int) (Nat.gcd n.natAbs d.natAbs:Nat))=((n.natAbs / Nat.gcd n.natAbs d.natAbs:Nat):Int):=lu ⟨Int.natCast_nonneg _,by
  show((n.natAbs / Nat.gcd n.natAbs d.natAbs:Nat):Int)<=_
  omega⟩
 have ed:u64 (Int.tdiv (d.natAbs:Int) (Nat.gcd n.natAbs d.natAbs:Nat))=((d.natAbs / Nat.gcd n.natAbs d.natAbs:Nat):Int):=lu ⟨Int.natCast_nonneg _,by
  show((d.natAbs / Nat.gcd n.natAbs d.natAbs:Nat):Int)<=_
  omega⟩
 rw[en,ed]
 have hG:Int.gcd d n=Nat.gcd n.natAbs d.natAbs:=by rw[Int.gcd,Nat.gcd_comm]
 have qd:(Rat.divInt n d).den=d.natAbs / Nat.gcd n.natAbs d.natAbs:=by rw[Rat.den_divInt,if_neg hd,hG]
 have qn:(Rat.divInt n d).num=if (decide (n<0)) != (decide (d<0)) then -((n.natAbs / Nat.gcd n.natAbs d.natAbs:Nat):Int) else((n.natAbs / Nat.gcd n.natAbs d.natAbs:Nat):Int):=by
  rw[Rat.num_divInt,hG]
  have hdv:(Nat.gcd n.natAbs d.natAbs:Int) ∣ (n.natAbs:Int):=Int.natCast_dvd_natCast.2 (Nat.gcd_dvd_left _ _)
  rcases Int.lt_or_le n 0 with h1 | h1 <;> rcases Int.lt_or_le d 0 with h2 | h2
  ·rw[Int.sign_eq_neg_one_of_neg h2,show(-1:Int)*n=(n.natAbs:Int) by omega]
   simp[h1,h2]
  ·rw[Int.sign_eq_one_of_pos (by omega),show(1:Int)*n = -(n.natAbs:Int) by omega,Int.neg_ediv_of_dvd hdv]
   have CW:¬d<0:=by omega
   simp[h1,CW]
  ·rw[Int.sign_eq_neg_one_of_neg h2,show(-1:Int)*n = -(n.natAbs:Int) by omega,Int.neg_ediv_of_dvd hdv]
   have Dg:¬n<0:=by omega
   simp[h2,Dg]
  ·rw[Int.sign_eq_one_of_pos (by omega),show(1:Int)*n=(n.natAbs:Int) by omega]
   have Dg:¬n<0:=by omega
   have CW:¬d<0:=by omega
   simp[CW,Dg]
 generalize hA:n.natAbs / Nat.gcd n.natAbs d.natAbs=A at *
 generalize hB:d.natAbs / Nat.gcd n.natAbs d.natAbs=B at *
 have hqn:(Rat.divInt n d).num.natAbs=A:=by rw[qn];split <;> omega
 unfold mk fits
 rw[hqn,qd]
 by_cases hf:A<=1073741824/\B<=1073741824
 ·rw[if_neg (by simp;omega)]
  simp only[vk,hf,and_self,decide_true,if_true]
  rw[xD (x:=(A:Int)) (by omega),xD (x:=(B:Int)) (by omega),xD (by omega)]
  unfold sT
  rw[qd,qn]
  split <;> simp
 ·rw[if_pos (by simp;omega)]
  simp only[hf,decide_false]
  rfl
theorem vM(x:R):vR x=some (V x):=by
 unfold vR V
 by_cases h:(x.fD>=1/\x.fD<=1073741824/\x.fN>=(-1073741824)/\x.fN<=1073741824)
 ·rw[if_pos (by simp;omega),eE (by omega),eE (by omega),oB,oB,Jb (by omega),oB,oB]
  congr 1
  rw[Bool.eq_iff_iff]
  simp only[decide_eq_true_eq]
  omega
 ·rw[if_neg (by simp;omega),oB]
  congr 1
  symm
  rw[decide_eq_false_iff_not]
  omega
end
section
theorem oz{a b:Int}(ha:a.natAbs<=1073741824)(hb:b.natAbs<=1073741824):(a*b).natAbs<=1152921504606846976:=by
 rw[Int.natAbs_mul]
 exact Nat.mul_le_mul ha hb
theorem oA{x:R}(h:V x=true):x.fN.natAbs<=1073741824/\x.fD.natAbs<=1073741824/\1<=x.fD:=by
 simp only[V,decide_eq_true_eq] at h;omega
theorem Kf{x y:R}(hx:V x=true)(hy:V y=true):x.fD*y.fD≠0:=Int.mul_ne_zero (by have:=oA hx;omega) (by have:=oA hy;omega)
theorem W4{x y:R}(hx:V x=true)(hy:V y=true):vb x y=some (mk (val x+val y)):=by
 have bx:=oA hx;have b2:=oA hy
 have h1:=oz bx.1 b2.2.1;have h2:=oz b2.1 bx.2.1;have h3:=oz bx.2.1 b2.2.1
 unfold vb pZ oM
 rw[vM,vM,hx,hy]
 simp only[oB,Bool.not_true,Bool.false_eq_true,if_false]
 rw[xD (x:=x.fN*y.fD) (by omega),xD (x:=y.fN*x.fD) (by omega),xD (by omega),xD (by omega),cp (Kf hx hy) (by omega)]
 rw[val,val,Rat.divInt_add_divInt _ _ (by omega) (by omega)]
 rfl
theorem aI{x y:R}(hx:V x=true)(hy:V y=true):qG x y=some (mk (val x-val y)):=by
 have bx:=oA hx;have b2:=oA hy
 have h1:=oz bx.1 b2.2.1;have h2:=oz b2.1 bx.2.1;have h3:=oz bx.2.1 b2.2.1
 unfold qG o7 oO
 rw[vM,vM,hx,hy]
 simp only[oB,Bool.not_true,Bool.false_eq_true,if_false]
 rw[xD (x:=x.fN*y.fD) (by omega),xD (x:=y.fN*x.fD) (by omega),xD (by omega),xD (by omega),cp (Kf hx hy) (by omega)]
 rw[val,val,Rat.divInt_sub_divInt _ _ (by omega) (by omega)]
 rfl
theorem W5{x y:R}(hx:V x=true)(hy:V y=true):kd x y=some (mk (val x*val y)):=by
 have bx:=oA hx;have b2:=oA hy
 have h1:=oz bx.1 b2.1;have h3:=oz bx.2.1 b2.2.1
 unfold kd ln oL
 rw[vM,vM,hx,hy]
 simp only[oB,Bool.not_true,Bool.false_eq_true,if_false]
 rw[xD (by omega),xD (by omega),cp (Kf hx hy) (by omega)]
 rw[val,val,Rat.divInt_mul_divInt]
 rfl
theorem aJ{x y:R}(hx:V x=true)(hy:V y=true)(h0:y.fN≠0):kW x y=some (mk (val x / val y)):=by
 have bx:=oA hx;have b2:=oA hy
 have h1:=oz bx.1 b2.2.1;have h3:=oz bx.2.1 b2.1
 unfold kW o9 oP
 rw[vM,vM,hx,hy]
 simp only[oB,Bool.not_true,Bool.false_or,decide_eq_true_eq,h0,if_false,Bool.false_eq_true]
 rw[xD (by omega),xD (by omega),cp (Int.mul_ne_zero (by omega) h0) (by omega)]
 rw[val,val,Rat.div_def,Rat.inv_divInt,Rat.divInt_mul_divInt]
 rfl
def tB(p q:Rat):Int:=if p<q then -1 else if q<p then 1 else 0
theorem Jc{x y:R}(hx:V x=true)(hy:V y=true):val x<val y↔x.fN*y.fD<y.fN*x.fD:=by
 rw[Rat.lt_iff,(aH hx).1,(aH hx).2,(aH hy).1,(aH hy).2]
theorem ol{x y:R}(hx:V x=true)(hy:V y=true):vh x y=some (tB (val x) (val y)):=by
 have bx:=oA hx;have b2:=oA hy
 have h1:=oz bx.1 b2.2.1;have h2:=oz b2.1 bx.2.1
 unfold vh tB
 rw[vM,vM,hx,hy]
 simp only[oB,Bool.not_true,Bool.false_eq_true,if_false,decide_eq_true_eq]
 rw[xD (x:=x.fN*y.fD) (by omega),xD (x:=y.fN*x.fD) (by omega)]
 simp only[Jc hx hy,Jc hy hx]
 by_cases h:x.fN*y.fD<y.fN*x.fD
 ·simp[h]
 ·by_cases h':y.fN*x.fD<x.fN*y.fD <;> simp[h,h']
theorem eG{p q:Rat}:tB p q<=0↔p<=q:=by unfold tB;grind
theorem sP{p q:Rat}:tB p q<0↔p<q:=by unfold tB;grind
theorem nI{p q:Rat}(h:p<=q):p<q\/p=q:=by grind
theorem Jd(p:Rat):tB p p=0:=by unfold tB;simp[Rat.lt_irrefl]
/-! ### buckets -/
abbrev B:=z6
def GR(x:R):Bool:=V x&&decide (0<=x.fN)
def GB(b:B):Bool:=GR b.yg&&GR b.fR
def bq(b:B):Rat:=val b.yg
def rq(b:B):Rat:=val b.fR
theorem tW{x:R}(h:GR x=true):V x=true:=by simp[GR] at h;exact h.1
theorem bm{b:B}(h:GB b=true):GR b.yg=true:=by simp[GB] at h;exact h.1
theorem dM{b:B}(h:GB b=true):GR b.fR=true:=by simp[GB] at h;exact h.2
theorem eI(x:R):mF x=some (GR x):=by unfold mF GR;rw[vM,oB]
theorem Je(b:B):md b=some (!GB b):=by
 unfold md GB
 rw[eI,eI]
 cases GR b.yg <;> simp
theorem YB{s:List B}{f:B->Option Bool}{p:B->Bool}(hf:∀ x∈s,f x=some (p x))(hs:(s.length:Int)<=4611686018427387000):vg s f=some (s.any p):=
 bM (nV (L:=fun k=>wK s f k) (fun _ _ _=>rfl) hf hs)
theorem V9{s:List B}{v:B}(hs:(s.length:Int)<=4611686018427387000):qF s v=some (s.any fun x=>decide (v=x)):=
 bM (nV (L:=fun k=>wY s v k) (f:=fun x=>some (decide (v=x))) (fun _ _ _=>rfl) (fun _ _=>rfl) hs)
def VC(c:List B):Bool:=decide (1<=c.length/\c.length<=32)&&c.all GB
theorem tQ(c:List B):f8 c=some (VC c):=by
 unfold f8 VC
 by_cases h:1<=c.length/\c.length<=32
 ·rw[if_pos (by simp;omega),YB (p:=fun b => !GB b) (fun x _=>Je x) (by omega)]
  simp only[oB,h,and_self,decide_true,Bool.true_and]
  congr 1
  rw[List.all_eq_not_any_not]
 ·rw[if_neg (by simp;omega)]
  simp[h]
theorem dN{c:List B}(h:VC c=true):∀ b∈c,GB b=true:=by simp[VC] at h;exact h.2
theorem aK{c:List B}(h:VC c=true):1<=c.length/\c.length<=32:=by simp[VC] at h;omega
def oF(a b:B):Bool:=decide (a≠b)&&decide (bq a<=bq b)&&decide (rq a<=rq b)
theorem W6{a b:B}(ha:GB a=true)(hb:GB b=true):mt a b=some (oF a b):=by
 unfold mt oF
 rw[ol (tW (bm ha)) (tW (bm hb)),ol (tW (dM ha)) (tW (dM hb))]
 have e1:decide (tB (val a.yg) (val b.yg)<=0)=decide (bq a<=bq b):=decide_eq_decide.2 eG
 have e2:decide (tB (val a.fR) (val b.fR)<=0)=decide (rq a<=rq b):=decide_eq_decide.2 eG
 by_cases Df:a≠b
 ·rw[if_pos (by simpa using Df),oB,oB,e1]
  by_cases h1:bq a<=bq b
  ·rw[if_pos (by simpa using h1),oB,e2];simp[Df,h1]
  ·rw[if_neg (by simpa using h1),oB];simp[h1]
 ·rw[if_neg (by simpa using Df)];simp[Df]
/-! ### the normal form -/
def pL(c:List B)(out:List B)(v:B):List B:=if (!(out.any fun x=>decide (v=x)) && !(c.any fun a=>oF a v))=true then out++[v] else out
theorem Jf{c:List B}{k:List B->Option (List B)}(hc:∀ b∈c,GB b=true)(hs:(c.length:Int)<=1000000):
  ∀(n:Nat) (out:List B) (i:Int),0<=i->i<=c.length->c.length-i<n->(out.length:Int)<=i->gO c k n out i=k ((c.drop i.toNat).foldl (pL c) out):=by
 intro n
 induction n with
 | zero=>intro out i h0 h1 h2;omega
 | succ n ih=>
  intro out i h0 h1 h2 h3
  rw[gO]
  by_cases h:i<c.length
  ·rw[if_pos (by simpa using h)]
   simp only[vk]
   rw[xr ⟨h0,h⟩,jU h0 h,List.foldl_cons]
   have hm:=hc _ (w4 h0 h)
   have e1:=V9 (s:=out) (v:=nth c i) (by omega)
   have e2:=YB (s:=c) (f:=fun y0=>mB y0 (nth c i)) (p:=fun a=>oF a (nth c i)) (fun x hx=>by unfold mB;rw[W6 (hc x hx) hm];rfl) (by omega)
   refine(congrArg (fun o=>Option.bind o _) e1).trans ?_
   rw[oB]
   have iS:(out.length:Int)+1<=1000000:=by omega
   cases hA:out.any fun x=>decide (nth c i=x) with
   | true=>
    simp only[Bool.not_true,Bool.false_eq_true,if_false,oB]
    rw[xD (by omega),ih out (i+1) (by omega) (by omega) (by omega) (by omega)]
    congr 2
    unfold pL;simp[hA]
   | false=>
    simp only[Bool.not_false,if_true]
    refine(congrArg (fun o=>Option.bind (Option.bind o _) _) e2).trans ?_
    simp only[oB]
    cases hB:c.any fun a=>oF a (nth c i) with
    | true=>
     simp only[Bool.not_true,Bool.false_eq_true,if_false]
     rw[xD (by omega),ih out (i+1) (by omega) (by omega) (by omega) (by omega)]
     congr 2
     unfold pL;simp[hA,hB]
    | false=>
     simp only[Bool.not_false,if_true]
     rw[xr (by simp only[List.length_append,List.length_cons,List.length_nil];omega),xD (by omega)]
     refine(ih _ (i+1) (by omega) (by omega) (by omega) (by simp;omega)).trans ?_
     congr 2
     unfold pL;simp[hA,hB]
  ·rw[if_neg (by simpa using h),ge h];rfl
/-! sorting by a key -/
def oR{α:Type}(key:α->Rat)(l:List α):List α:=w6 (fun x y=>some (tB (key x) (key y))) l
theorem Va{α:Type}{p q:α->α->Option Int}{x:α}{l:List α}(h:∀ y∈l,tD p x y=tD q x y):sJ p x l=sJ q x l:=by
 induction l with
 | nil=>rfl
 | cons y l ih=>
  unfold sJ
  rw[h y (by simp),ih fun z hz=>h z (by simp[hz])]
theorem W7{α:Type}{p q:α->α->Option Int}{l:List α}(h:∀ x∈l,∀ y∈l,tD p x y=tD q x y):w6 p l=w6 q l:=by
 induction l with
 | nil=>rfl
 | cons x l ih=>
  unfold w6
  rw[ih fun a ha b hb=>h a (by simp[ha]) b (by simp[hb])]
  exact Va fun y hy=>h x (by simp) y (by simp[(vX q l).mem_iff.1 hy])
theorem Vb{α:Type}{key:α->Rat}(x:α)(l:List α)(h:l.Pairwise fun a b=>key a<=key b):(sJ (fun x y=>some (tB (key x) (key y))) x l).Pairwise fun a b=>key a<=key b:=by
 induction l with
 | nil=>simp[sJ]
 | cons y l ih=>
  obtain⟨h1,h2⟩:=List.pairwise_cons.1 h
  unfold sJ
  split
  ·rename_i hxy
   have hxy:key x<=key y:=eG.1 hxy
   refine List.pairwise_cons.2 ⟨fun z hz=>?_,h⟩
   rcases List.mem_cons.1 hz with rfl | hz
   ·exact hxy
   ·exact Rat.le_trans hxy (h1 z hz)
  ·rename_i hxy
   have hxy:key y<=key x:=Rat.le_of_lt (Rat.not_le.1 fun h=>hxy (eG.2 h))
   refine List.pairwise_cons.2 ⟨fun z hz=>?_,ih h2⟩
   rcases List.mem_cons.1 ((cI _ x l).mem_iff.1 hz) with rfl | hz
   ·exact hxy
   ·exact h1 z hz
theorem lw{α:Type}(key:α->Rat)(l:List α):(oR key l).Pairwise fun a b=>key a<=key b:=by
 unfold oR
 induction l with
 | nil=>simp[w6]
 | cons x l ih=>exact Vb x _ ih
theorem oS{α:Type}(key:α->Rat)(l:List α):(oR key l).Perm l:=vX _ l
theorem W8{α:Type}[DecidableEq α]{key:α->Rat}{p:α->α->Option Int}{l:List α}(hp:∀ x∈l,∀ y∈l,p x y=some (tB (key x) (key y)))(hi:∀ x∈l,∀ y∈l,key x=key y->x=y):
  w6 p l=oR key l/\ry p (w6 p l)=true:=by
 have hc:∀ x∈l,∀ y∈l,tD p x y=tB (key x) (key y):=fun x hx y hy=>by unfold tD;rw[hp x hx y hy];rfl
 have e:w6 p l=oR key l:=W7 fun x hx y hy=>by rw[hc x hx y hy];rfl
 refine⟨e,?_⟩
 have hm:∀ x∈w6 p l,x∈l:=fun x hx=>(vX p l).mem_iff.1 hx
 have hs:=lw key l
 rw[<- e] at hs
 simp only[ry,Bool.and_eq_true,List.all_eq_true,Bool.not_eq_true',decide_eq_false_iff_not,cJ]
 refine⟨fun x hx=>⟨fun y hy=>by rw[hp x (hm x hx) y (hm y hy)];rfl,by rw[hc x (hm x hx) x (hm x hx),Jd];omega⟩,?_⟩
 refine List.Pairwise.imp_of_mem ?_ hs
 intro x y hx hy hxy
 rw[hc x (hm x hx) y (hm y hy),hc y (hm y hy) x (hm x hx),sP,sP]
 rcases nI hxy with h | h
 ·exact .inr ⟨h,Rat.not_lt.2 hxy⟩
 ·exact .inl (hi x (hm x hx) y (hm y hy) h)
theorem YC(n:Nat)(h:n<4611686018427387904):Go.Lib.bitLen n<=62:=Go.Lib.bitLen_le n 62 (by omega) (by omega)
theorem Kg{l:List B}{p:B->B->Option Int}{key:B->Rat}(hp:∀ x∈l,∀ y∈l,p x y=some (tB (key x) (key y)))(hi:∀ x∈l,∀ y∈l,key x=key y->x=y)(hs:(l.length:Int)<=1000000):
  wZ l p=some (oR key l):=by
 obtain⟨e,ho⟩:=W8 hp hi
 unfold wZ gb kL
 rw[lu (by omega),xr (by omega),oB]
 have hb:=YC l.length (by omega)
 rw[Int.toNat_natCast,xr ⟨⟨rfl,rfl⟩,by omega,by omega,by omega⟩,xr ho,oB,e]
theorem Kh{l:List R}{p:R->R->Option Int}{key:R->Rat}(hp:∀ x∈l,∀ y∈l,p x y=some (tB (key x) (key y)))(hi:∀ x∈l,∀ y∈l,key x=key y->x=y)(hs:(l.length:Int)<=1000000):
  qi l p=some (oR key l):=by
 obtain⟨e,ho⟩:=W8 hp hi
 unfold qi gb gI
 rw[lu (by omega),xr (by omega),oB]
 have hb:=YC l.length (by omega)
 rw[Int.toNat_natCast,xr ⟨⟨rfl,rfl⟩,by omega,by omega,by omega⟩,xr ho,oB,e]
theorem W9{c:List B}:∀(l out:List B) (v:B),v∈l.foldl (pL c) out↔v∈out\/(v∈l/\(c.any fun a=>oF a v)=false)
 | [],out,v=>by simp
 | x::l,out,v=>by
  rw[List.foldl_cons,W9 l]
  unfold pL
  by_cases h1:(out.any fun y=>decide (x=y))=true
  ·have hx:x∈out:=by simpa using h1
   rw[if_neg (by simp[h1])]
   constructor
   ·rintro(h | h)
    ·exact .inl h
    ·exact .inr ⟨by simp[h.1],h.2⟩
   ·rintro(h | ⟨h,h'⟩)
    ·exact .inl h
    ·rcases List.mem_cons.1 h with rfl | h
     ·exact .inl hx
     ·exact .inr ⟨h,h'⟩
  ·by_cases h2:(c.any fun a=>oF a x)=true
   ·rw[if_neg (by simp[h2])]
    constructor
    ·rintro(h | h)
     ·exact .inl h
     ·exact .inr ⟨by simp[h.1],h.2⟩
    ·rintro(h | ⟨h,h'⟩)
     ·exact .inl h
     ·rcases List.mem_cons.1 h with rfl | h
      ·rw[h2] at h';cases h'
      ·exact .inr ⟨h,h'⟩
   ·rw[if_pos (by simp[h1,h2])]
    simp only[List.mem_append,List.mem_singleton]
    constructor
    ·rintro((h | rfl) | h)
     ·exact .inl h
     ·exact .inr ⟨by simp,by simpa using h2⟩
     ·exact .inr ⟨by simp[h.1],h.2⟩
    ·rintro(h | ⟨h,h'⟩)
     ·exact .inl (.inl h)
     ·rcases List.mem_cons.1 h with rfl | h
      ·exact .inl (.inr rfl)
      ·exact .inr ⟨h,h'⟩
theorem aL{c:List B}:∀(l out:List B),out.Nodup->(l.foldl (pL c) out).Nodup
 | [],out,h=>h
 | x::l,out,h=>by
  rw[List.foldl_cons]
  apply aL l
  unfold pL
  split
  ·rename_i h1
   simp only[Bool.and_eq_true,Bool.not_eq_true'] at h1
   have hx:x∉out:=by have:=h1.1;simp at this;exact fun hm=>this x hm rfl
   rw[List.nodup_append]
   refine⟨h,by simp,fun a ha b hb=>?_⟩
   simp at hb;subst hb
   intro e;subst e;exact hx ha
  ·exact h
theorem nJ{c:List B}:∀(l out:List B),(l.foldl (pL c) out).length<=out.length+l.length
 | [],out=>by simp
 | x::l,out=>by
  rw[List.foldl_cons]
  have:=nJ (c:=c) l (pL c out x)
  have h:(pL c out x).length<=out.length+1:=by unfold pL;split <;> simp
  simp;omega
def bn(c:List B):List B:=c.foldl (pL c) []
def jg(c:List B):List B:=oR bq (bn c)
theorem ly{c:List B}{v:B}:v∈bn c↔v∈c/\∀ a∈c,oF a v=false:=by
 unfold bn;rw[W9];simp
theorem nK{c:List B}{v:B}:v∈jg c↔v∈c/\∀ a∈c,oF a v=false:=by
 unfold jg;rw[(oS _ _).mem_iff,ly]
theorem Ki(c:List B):(jg c).length<=c.length:=by
 unfold jg;rw[(oS _ _).length_eq]
 have:=nJ (c:=c) c []
 simpa [bn] using this
theorem Jg{c:List B}{x y:B}(hx:x∈c/\∀ a∈c,oF a x=false)(hy:y∈c/\∀ a∈c,oF a y=false)(h:bq x=bq y):x=y:=by
 have h1:=hx.2 y hy.1
 have h2:=hy.2 x hx.1
 by_cases e:x=y
 ·exact e
 ·exfalso
  have e':y≠x:=fun h=>e h.symm
  unfold oF at h1 h2
  rw[h] at h1 h2
  simp[e,e',Rat.le_refl] at h1 h2
  grind
theorem Gd{c:List B}(hc:∀ b∈c,GB b=true)(hs:(c.length:Int)<=1000000):sx c=some (jg c):=by
 unfold sx
 simp only[vk]
 rw[Jf hc hs xC [] 0 (by omega) (by omega) (by rw[xN];omega) (by simp)]
 show Option.bind (wZ (bn c) _) _=_
 have hl:(bn c).length<=c.length:=by have:=nJ (c:=c) c [];simpa [bn] using this
 rw[Kg (key:=bq) (fun x hx y hy=>?_) (fun x hx y hy h=>Jg (ly.1 hx) (ly.1 hy) h) (by omega)]
 ·rfl
 ·unfold uQ
  rw[ol (tW (bm (hc x (ly.1 hx).1))) (tW (bm (hc y (ly.1 hy).1)))];rfl
theorem Vc{c:List B}:(jg c).Pairwise fun x y=>bq x<bq y/\rq y<rq x:=by
 have h:=lw bq (bn c)
 have hn:(jg c).Nodup:=(oS bq (bn c)).nodup_iff.2 (aL c [] (by simp))
 have h2:=List.Pairwise.and h hn
 refine List.Pairwise.imp_of_mem ?_ h2
 intro x y hx hy hxy
 have hx:=nK.1 hx;have hy:=nK.1 hy
 have mO:bq x<bq y:=by
  rcases nI hxy.1 with h | h
  ·exact h
  ·exact absurd (Jg hx hy h) hxy.2
 refine⟨mO,?_⟩
 have:=hy.2 x hx.1
 unfold oF at this
 simp[hxy.2,hxy.1] at this
 grind
end
section
variable {m k m':Nat}{p:Rat}{t:R}
/-! ### grids -/
theorem Vd{n d:Int}(hd:0<d)(h:n.natAbs<=1073741824/\d<=1073741824):fits (Rat.divInt n d)=true:=by
 simp only[fits,decide_eq_true_eq]
 rw[Rat.den_divInt,if_neg (by omega),Rat.num_divInt]
 have hs:d.sign=1:=Int.sign_eq_one_of_pos hd
 rw[hs,Int.one_mul]
 constructor
 ·have h1:(n / (Int.gcd d n:Int)).natAbs<=n.natAbs:=by
   have h2:((Int.gcd d n:Nat):Int) ∣ n:=Int.gcd_dvd_right ..
   rw[Int.natAbs_ediv_of_dvd h2]
   exact Nat.div_le_self _ _
  omega
 ·have:=Nat.div_le_self d.natAbs (Int.gcd d n)
  omega
def G(m k:Nat)(q:Rat):Prop:=∃ n:Int,n.natAbs<=m*k/\q=Rat.divInt n k
theorem G.fits{m k:Nat}{q:Rat}(h:G m k q)(hk:0<k)(lN:k<=1073741824)(hm:m*k<=1073741824):fits q=true:=by
 obtain⟨n,hn,rfl⟩:=h
 exact Vd (by omega) ⟨by omega,by omega⟩
theorem G.add{q:Rat}(hk:0<k)(hp:G m k p)(hq:G m' k q):G (m+m') k (p+q):=by
 obtain⟨n,hn,rfl⟩:=hp;obtain⟨n',hn',rfl⟩:=hq
 refine⟨n+n',?_,?_⟩
 ·have:=Nat.add_mul m m' k
  omega
 ·rw[Rat.divInt_add_divInt _ _ (by omega) (by omega),show n*(k:Int)+n'*k=(n+n')*k by rw[Int.add_mul],Rat.divInt_mul_right (by omega)]
theorem G.neg(hp:G m k p):G m k (-p):=by
 obtain⟨n,hn,rfl⟩:=hp
 exact⟨-n,by omega,by rw[Rat.neg_divInt]⟩
theorem G.sub{q:Rat}(hk:0<k)(hp:G m k p)(hq:G m' k q):G (m+m') k (p-q):=by
 rw[Rat.sub_eq_add_neg];exact hp.add hk hq.neg
theorem G.mul{k':Nat}{q:Rat}(hp:G m k p)(hq:G m' k' q):G (m*m') (k*k') (p*q):=by
 obtain⟨n,hn,rfl⟩:=hp;obtain⟨n',hn',rfl⟩:=hq
 refine⟨n*n',?_,?_⟩
 ·rw[Int.natAbs_mul,show m*m'*(k*k')=(m*k)*(m'*k') by rw[Nat.mul_mul_mul_comm]]
  exact Nat.mul_le_mul hn hn'
 ·rw[Rat.divInt_mul_divInt];rfl
theorem G.fine(j:Nat)(hj:0<j)(hp:G m k p):G m (k*j) p:=by
 obtain⟨n,hn,rfl⟩:=hp
 refine⟨n*j,?_,?_⟩
 ·rw[Int.natAbs_mul,<- Nat.mul_assoc];exact Nat.mul_le_mul hn (by omega)
 ·rw[show((k*j:Nat):Int)=(k:Int)*j by push_cast;rfl,Rat.divInt_mul_right (by omega)]
theorem G.le(h:m<=m')(hp:G m k p):G m' k p:=by
 obtain⟨n,hn,rfl⟩:=hp
 exact⟨n,Nat.le_trans hn (Nat.mul_le_mul_right _ h),rfl⟩
theorem VH{q:Rat}(h:fits q=true):mk q=(sT q,0):=by unfold mk;rw[if_pos h]
/-! ### the law's points and curves -/
def SB(b:B):Prop:=GB b=true/\G 100 1 (bq b)/\G 5 8 (rq b)
def SC(c:List B):Prop:=1<=c.length/\c.length<=4/\∀ b∈c,SB b
theorem SC.all{c:List B}(h:SC c):∀ b∈c,GB b=true:=fun b hb=>(h.2.2 b hb).1
theorem SC.VC{c:List B}(h:SC c):VC c=true:=by
 unfold YthjnhebofpebpaaGreat.VC
 rw[Bool.and_eq_true,decide_eq_true_eq,List.all_eq_true]
 exact⟨⟨h.1,by have:=h.2.1;omega⟩,h.all⟩
/-! ### values -/
def vq(t:Rat)(b:B):Rat:=bq b+rq b*t
def br(t:Rat)(b:B):Bool:=fits (rq b*t)&&fits (vq t b)
theorem Kj{b:B}(hb:GB b=true)(ht:GR t=true):qk ⟨0⟩ b t=some (if br (val t) b then(sT (vq (val t) b),(⟨0⟩:yk)) else(⟨0,0⟩,⟨3⟩)):=by
 unfold qk vW
 rw[if_neg (by simp)]
 simp only[]
 rw[W5 (tW (dM hb)) (tW ht),oB,oB]
 show Option.bind (if _ then _ else _) _=_
 have hr:val b.fR*val t=rq b*val t:=rfl
 rw[hr]
 unfold br
 cases h:fits (rq b*val t) with
 | true=>
  rw[VH h]
  rw[if_neg (by simp)]
  rw[W4 (tW (bm hb)) (bk h),oZ]
  simp only[oB,Bool.true_and]
  have hv:val b.yg+rq b*val t=vq (val t) b:=rfl
  rw[hv]
  cases h2:fits (vq (val t) b) with
  | true=>rw[VH h2];rfl
  | false=>unfold mk;rw[h2];rfl
 | false=>
  unfold mk
  rw[h]
  simp
theorem Jh{b:B}{e:Int}(he:e≠0):qk ⟨e⟩ b t=some (⟨0,0⟩,⟨e⟩):=by
 unfold qk vW
 simp[he]
theorem Wa{α β R:Type}[Inhabited α]{c:List α}{S:Int->α->Option (β×Int)}{ok:α->Bool}{g:α->β}{z:β}{k:List β->Int->Option R}{K3:Option R}{L:Nat->List β->Int->Int->Option R}(hS:∀ b∈c,S 0 b=some (if ok b then(g b,0) else(z,3))/\S 3 b=some (z,3))(hL:∀ n out (i:Int) e v e',0<=i->i<c.length->(out.length:Int)=i->S e (nth c i)=some (v,e')->L (n+1) out i e=L n (out++[v]) (i+1) e')(hE:∀ n out (i:Int) e,¬i<c.length->L (n+1) out i e=k out e)(hK:∀ out,k out 3=K3):
  ∀(n:Nat) (out:List β) (i:Int),0<=i->(out.length:Int)=i->i<=c.length->c.length<n+i->
   L n out i 3=K3/\L n out i 0=if (c.drop i.toNat).all ok then k (out++(c.drop i.toNat).map g) 0 else K3
 | 0,out,i,h0,ho,h1,h2=>by omega
 | n+1,out,i,h0,ho,h1,h2=>by
  by_cases h:i<c.length
  ·have hm:=hS _ (w4 h0 h)
   have ih:=fun By ho'=>Wa hS hL hE hK n By (i+1) (by omega) ho' (by omega) (by omega)
   refine⟨?_,?_⟩
   ·rw[hL n out i 3 _ _ h0 h ho hm.2]
    exact(ih _ (by simp;omega)).1
   ·rw[jU h0 h,List.all_cons,List.map_cons]
    cases hb:ok (nth c i) with
    | true=>
     have h3:=hm.1
     rw[hb,if_pos rfl] at h3
     rw[hL n out i 0 _ _ h0 h ho h3,(ih _ (by simp;omega)).2]
     simp
    | false=>
     have h3:=hm.1
     rw[hb,if_neg (by simp)] at h3
     rw[hL n out i 0 _ _ h0 h ho h3,(ih _ (by simp;omega)).1]
     simp
  ·rw[hE n out i 3 h,hE n out i 0 h,ge h,hK]
   simp
/-! ### least -/
def bt:List Rat->Rat
 | []=>0
 | [x]=>x
 | x::y::l=>let m:=bt (y::l);if x<=m then x else m
def eJ(l:List Rat)(q:Rat):Prop:=q∈l/\∀ x∈l,q<=x
theorem eJ.unique{l:List Rat}{q:Rat}(hp:eJ l p)(hq:eJ l q):p=q:=Rat.le_antisymm (hp.2 _ hq.1) (hq.2 _ hp.1)
theorem Yk:∀(l:List Rat),l≠[]->eJ l (bt l)
 | [],h=>absurd rfl h
 | [x],_=>⟨by simp[bt],fun y hy=>by simp at hy;subst hy;exact Rat.le_refl⟩
 | x::y::l,_=>by
  have ih:=Yk (y::l) (by simp)
  unfold bt
  by_cases h:x<=bt (y::l)
  ·rw[if_pos h]
   refine⟨by simp,fun z hz=>?_⟩
   rcases List.mem_cons.1 hz with rfl | hz
   ·exact Rat.le_refl
   ·exact Rat.le_trans h (ih.2 z hz)
  ·rw[if_neg h]
   refine⟨List.mem_cons_of_mem _ ih.1,fun z hz=>?_⟩
   rcases List.mem_cons.1 hz with rfl | hz
   ·exact Rat.le_of_lt (Rat.not_le.1 h)
   ·exact ih.2 z hz
theorem Ge{l:List Rat}{q:Rat}(h:eJ l q):bt l=q:=(Yk l (List.ne_nil_of_mem h.1)).unique h
theorem ue{α:Type}[Inhabited α]{l:List α}{i:Int}{x:α}(h0:0<=i)(h:i<l.length):x∈l.take (i+1).toNat↔x∈l.take i.toNat\/x=nth l i:=by
 rw[take_succ l h0 h,List.mem_append,List.mem_singleton]
theorem dO{l:List R}{k:Int->Int->Option R}(hl:∀ x∈l,V x=true)(hs:(l.length:Int)<=1000000):
  ∀(n:Nat) (i:Int) (c:R),0<=i->i<=l.length->l.length<n+i->c∈l->(∀ x∈l.take i.toNat,val c<=val x)->
   ∃ d:R,wU l (fun y0 y1=>vh y0 y1) k n i c.fN c.fD=k d.fN d.fD/\d∈l/\∀ x∈l,val d<=val x
 | 0,i,c,h0,h1,h2,hc,hm=>by omega
 | n+1,i,c,h0,h1,h2,hc,hm=>by
  rw[wU]
  by_cases h:i<l.length
  ·rw[if_pos (by simpa using h)]
   simp only[tZ]
   rw[xr ⟨h0,h⟩,xr ⟨h0,h⟩,xD (by omega)]
   have hx:=w4 h0 h
   show ∃ d:R,Option.bind (vh (nth l i) c) _=_/\_
   rw[ol (hl _ hx) (hl _ hc),oB]
   by_cases mO:val (nth l i)<val c
   ·rw[if_pos (by simpa using sP.2 mO)]
    refine dO hl hs n (i+1) (nth l i) (by omega) (by omega) (by omega) hx fun x hx'=>?_
    rcases(ue h0 h).1 hx' with h3 | rfl
    ·exact Rat.le_trans (Rat.le_of_lt mO) (hm x h3)
    ·exact Rat.le_refl
   ·rw[if_neg (by simpa using fun h=>mO (sP.1 h))]
    refine dO hl hs n (i+1) c (by omega) (by omega) (by omega) hc fun x hx'=>?_
    rcases(ue h0 h).1 hx' with h3 | rfl
    ·exact hm x h3
    ·exact Rat.not_lt.1 mO
  ·rw[if_neg (by simpa using h)]
   refine⟨c,rfl,hc,fun x hx=>hm x ?_⟩
   rwa [List.take_of_length_le (by omega)]
theorem Gf{l:List R}(hl:∀ x∈l,V x=true)(h0:l≠[])(hs:(l.length:Int)<=1000000):qw l (fun y0 y1=>vh y0 y1)=some (sT (bt (l.map val))):=by
 have hp:=List.length_pos_iff.2 h0
 unfold qw
 rw[if_neg (by simp;omega),xr (by omega)]
 refine uW (P:=fun o=>o=_) fun k hk=>?_
 have hm0:=w4 (l:=l) (i:=0) (by omega) (by omega)
 obtain⟨d,e,hd,zs⟩:=dO (k:=k) hl hs xC 1 (nth l 0) (by omega) (by omega) (by rw[xN];omega) hm0 (by
  intro x hx
  have h1:(1:Int)=0+1:=rfl
  rw[h1] at hx
  rcases(ue (by omega) (by omega)).1 hx with h3 | rfl
  ·simp at h3
  ·exact Rat.le_refl)
 have h1:bt (l.map val)=val d:=Ge ⟨List.mem_map_of_mem hd,fun x hx=>by
  obtain⟨y,hy,rfl⟩:=List.mem_map.1 hx
  exact zs y hy⟩
 rw[e,hk,h1,Yj (hl d hd)]
theorem Kk{a b:B}(ha:GB a=true)(hb:GB b=true):kE a b=some (tB (rq a) (rq b)):=by
 unfold kE
 rw[ol (tW (dM ha)) (tW (dM hb))];rfl
theorem dP{l:List B}{k:Int->Int->Int->Int->Option B}(hl:∀ x∈l,GB x=true)(hs:(l.length:Int)<=1000000):
  ∀(n:Nat) (i:Int) (c:B),0<=i->i<=l.length->l.length<n+i->c∈l->(∀ x∈l.take i.toNat,rq c<=rq x)->
   ∃ d:B,wD l (fun y0 y1=>kE y0 y1) k n i c.yg.fN c.yg.fD c.fR.fN c.fR.fD=k d.yg.fN d.yg.fD d.fR.fN d.fR.fD/\d∈l/\∀ x∈l,rq d<=rq x
 | 0,i,c,h0,h1,h2,hc,hm=>by omega
 | n+1,i,c,h0,h1,h2,hc,hm=>by
  rw[wD]
  by_cases h:i<l.length
  ·rw[if_pos (by simpa using h)]
   simp only[jp4]
   rw[xr ⟨h0,h⟩,xr ⟨h0,h⟩,xD (by omega)]
   have hx:=w4 h0 h
   show ∃ d:B,Option.bind (kE (nth l i) c) _=_/\_
   rw[Kk (hl _ hx) (hl _ hc),oB]
   by_cases mO:rq (nth l i)<rq c
   ·rw[if_pos (decide_eq_true (sP.2 mO))]
    refine dP hl hs n (i+1) (nth l i) (by omega) (by omega) (by omega) hx fun x hx'=>?_
    rcases(ue h0 h).1 hx' with h3 | rfl
    ·exact Rat.le_trans (Rat.le_of_lt mO) (hm x h3)
    ·exact Rat.le_refl
   ·rw[if_neg (fun h=>mO (sP.1 (of_decide_eq_true h)))]
    refine dP hl hs n (i+1) c (by omega) (by omega) (by omega) hc fun x hx'=>?_
    rcases(ue h0 h).1 hx' with h3 | rfl
    ·exact hm x h3
    ·exact Rat.not_lt.1 mO
  ·rw[if_neg (by simpa using h)]
   refine⟨c,rfl,hc,fun x hx=>hm x ?_⟩
   rwa [List.take_of_length_le (by omega)]
theorem GG{R A0 A1 A2 A3:Type}{K:A0->A1->A2->A3->Option R}{F:(A0->A1->A2->A3->Option R)->Option R}{P:Option R->Prop}(h:∀ k:A0->A1->A2->A3->Option R,(∀ x0 x1 x2 x3,k x0 x1 x2 x3=K x0 x1 x2 x3)->P (F k)):P (jp4 K F):=h K fun _ _ _ _=>rfl
theorem Gg{l:List B}(hl:∀ x∈l,GB x=true)(h0:l≠[])(hs:(l.length:Int)<=1000000):∃ d,vP l (fun y0 y1=>kE y0 y1)=some d/\d∈l/\∀ x∈l,rq d<=rq x:=by
 have hp:=List.length_pos_iff.2 h0
 unfold vP
 rw[if_neg (by simp;omega),xr (by omega)]
 refine GG (P:=fun o=>∃ d,o=some d/\d∈l/\∀ x∈l,rq d<=rq x) fun k hk=>?_
 have hm0:=w4 (l:=l) (i:=0) (by omega) (by omega)
 obtain⟨d,e,hd,zs⟩:=dP (k:=k) hl hs xC 1 (nth l 0) (by omega) (by omega) (by rw[xN];omega) hm0 (by
  intro x hx
  have h1:(1:Int)=0+1:=rfl
  rw[h1] at hx
  rcases(ue (by omega) (by omega)).1 hx with h3 | rfl
  ·simp at h3
  ·exact Rat.le_refl)
 rw[e,hk]
 exact⟨d,rfl,hd,zs⟩
/-! ### At and Rate -/
def AT(c:List B)(t:Rat):Rat:=bt (c.map (vq t))
theorem AT_is{c:List B}{t:Rat}(h:c≠[]):eJ (c.map (vq t)) (AT c t):=Yk _ (by simpa using h)
theorem Gh{c:List B}{k:List R->Int->Option (R×Int)}{K3:Option (R×Int)}(hc:∀ b∈c,GB b=true)(ht:GR t=true)(hs:(c.length:Int)<=1000000)(hK:∀ out,k out 3=K3){n:Nat}(hn:c.length<n):jK c t k n [] 0 0=if c.all (br (val t)) then k (c.map fun b=>sT (vq (val t) b)) 0 else K3:=by
 have:=(Wa (c:=c) (S:=fun e b=>(qk ⟨e⟩ b t).bind fun x=>some (x.1,x.2.fE)) (ok:=br (val t)) (g:=fun b=>sT (vq (val t) b)) (z:=⟨0,0⟩) (k:=k) (K3:=K3) (L:=fun n out i e=>jK c t k n out i e)
  (fun b hb=>⟨by rw[Kj (hc b hb) ht];cases br (val t) b <;> rfl,by rw[Jh (by decide)];rfl⟩) ?_ ?_ hK n [] 0 (by omega) rfl (by omega) (by omega)).2
 ·simpa using this
 ·intro n out i e v e' h0 h ho hS
  show jK c t k (n+1) out i e=_
  rw[jK,if_pos (by simpa using h),xr ⟨h0,h⟩]
  show Option.bind (qk ⟨e⟩ (nth c i) t) _=_
  cases hv:qk ⟨e⟩ (nth c i) t with
  | none=>rw[hv] at hS;cases hS
  | some x=>
   rw[hv] at hS
   have hS:some (x.1,x.2.fE)=some (v,e'):=hS
   obtain⟨rfl,rfl⟩:=Prod.mk.inj (oJ hS)
   rw[oB,xr (by simp only[List.length_append,List.length_cons,List.length_nil];omega),xD (by omega)]
 ·intro n out i e h
  show jK c t k (n+1) out i e=_
  rw[jK,if_neg (by simpa using h)]
theorem KN{c:List B}(hc:VC c=true)(ht:GR t=true):fw c t=some (if c.all (br (val t)) then(sT (AT c (val t)),0) else(⟨0,0⟩,3)):=by
 have hl:=aK hc
 unfold fw
 rw[tQ,eI,hc,ht]
 simp only[oB,Bool.not_true,Bool.false_eq_true,if_false]
 refine uW (P:=fun o=>o=_) fun k hk=>?_
 rw[Gh (K3:=some (⟨0,0⟩,3)) (dN hc) ht (by omega) (fun out=>by rw[hk];rfl) (by rw[xN];omega)]
 cases ha:c.all (br (val t)) with
 | true=>
  rw[if_pos rfl,if_pos rfl,hk,if_neg (by simp)]
  rw[List.all_eq_true] at ha
  rw[Gf (l:=c.map fun b=>sT (vq (val t) b)) ?_ ?_ (by simp;omega),oB]
  ·rw[List.map_map]
   congr 3
   unfold AT
   congr 2
   funext b
   exact oZ _
  ·intro x hx
   obtain⟨b,hb,rfl⟩:=List.mem_map.1 hx
   have:=ha b hb
   simp only[br,Bool.and_eq_true] at this
   exact bk this.2
  ·intro h
   have:=congrArg List.length h
   simp at this;subst this;simp at hl
 | false=>simp
theorem Ji{c:List B}(h:¬(VC c=true/\GR t=true)):fw c t=some (⟨0,0⟩,2):=by
 unfold fw
 rw[tQ,eI]
 cases h1:VC c <;> cases h2:GR t <;> simp_all
theorem KO{c:List B}(hc:VC c=true):c≠[]:=fun h=>by have:=aK hc;subst h;simp at this
theorem Gi{c:List B}(hc:VC c=true):∃ d,mI c=some (d.fR,0)/\d∈c/\∀ x∈c,rq d<=rq x:=by
 have hl:=aK hc
 unfold mI
 rw[tQ,hc]
 simp only[oB,Bool.not_true,Bool.false_eq_true,if_false]
 obtain⟨d,e,h1,h2⟩:=Gg (dN hc) (KO hc) (by omega)
 rw[e]
 exact⟨d,rfl,h1,h2⟩
theorem SB.val{b:B}{t:Rat}(h:SB b)(ht:G m 4 t):G (5*m) 32 (rq b*t)/\G (100+5*m) 32 (vq t b):=by
 have h1:=h.2.2.mul ht
 exact⟨h1,(h.2.1.fine 32 (by omega)).add (by omega) h1⟩
theorem SC.ne{c:List B}(h:SC c):c≠[]:=KO h.VC
theorem SC.at{c:List B}{t:Rat}(h:SC c)(ht:G m 4 t):G (100+5*m) 32 (AT c t):=by
 obtain⟨b,hb,e⟩:=List.mem_map.1 (AT_is (t:=t) h.ne).1
 rw[<- e]
 exact((h.2.2 b hb).val ht).2
end
section
/-! ### the order of buckets -/
def le2(a b:B):Prop:=bq a<=bq b/\rq a<=rq b
instance (a b:B):Decidable (le2 a b):=inferInstanceAs (Decidable (_/\_))
theorem Gj{a b:B}:oF a b=true↔a≠b/\le2 a b:=by unfold oF le2;simp[and_assoc]
theorem Jj{a b:B}:oF a b=false↔(le2 a b->a=b):=by
 rw[Bool.eq_false_iff,ne_eq,Gj]
 constructor
 ·intro h h'
  exact Classical.byContradiction fun hn=>h ⟨hn,h'⟩
 ·intro h h'
  exact h'.1 (h h'.2)
theorem Gk{c:List B}{v:B}:v∈jg c↔v∈c/\∀ a∈c,le2 a v->a=v:=by
 rw[nK];simp only[Jj]
theorem cmpb{a b:B}(ha:GB a=true)(hb:GB b=true):vh a.yg b.yg=some (tB (bq a) (bq b)):=ol (tW (bm ha)) (tW (bm hb))
theorem Kl{c:List B}(hc:∀ b∈c,GB b=true):∀ b∈jg c,GB b=true:=fun b hb=>hc b (Gk.1 hb).1
/-! values of lists -/
/-! ### Shift -/
end
section
/-! ### a loop over a function's pairs -/
def uY{β Sg:Type}(y:β->Sg->Option (Bool×Sg))(k:Sg->Option Sg):List β->Sg->Option Sg
 | [],s=>k s
 | p::l,s=>(y p s).bind fun x=>if !x.1 then some x.2 else uY y k l x.2
theorem n9{β Sg:Type}{y:β->Sg->Option (Bool×Sg)}{k:Sg->Option Sg}{m:List β}:∀(l:List β) (s:Sg),uY y k (l++m) s=uY y (uY y k m) l s
 | [],s=>rfl
 | p::l,s=>by
  show Option.bind _ _=Option.bind _ _
  congr 1
  funext x
  show(if _ then _ else uY y k (l++m) x.2)=_
  rw[n9 l]
theorem bw{β Sg:Type}{y:β->Sg->Option (Bool×Sg)}{k k':Sg->Option Sg}(h:∀ s,k s=k' s):∀(l:List β) (s:Sg),uY y k l s=uY y k' l s
 | [],s=>h s
 | p::l,s=>by
  show Option.bind _ _=Option.bind _ _
  congr 1
  funext x
  rw[bw h l]
theorem nb{Sg:Type}{c d:List B}{y:B×B->Sg->Option (Bool×Sg)}{v:Int}{k:Sg->Option Sg}(hs:(d.length:Int)<=1000000):
  ∀(n:Nat) (i:Int) (s:Sg),0<=i->i<=d.length->d.length<n+i->ke Sg d y c v k n i s=uY y k ((d.drop i.toNat).map fun z=>(nth c v,z)) s
 | 0,i,s,h0,h1,h2=>by omega
 | n+1,i,s,h0,h1,h2=>by
  rw[ke]
  by_cases h:i<d.length
  ·rw[if_pos (decide_eq_true h),xr ⟨h0,h⟩,jU h0 h,List.map_cons,uY]
   show Option.bind (y (nth c v,nth d i) s) _=_
   congr 1
   funext x
   rw[xD (by omega),nb hs n (i+1) x.2 (by omega) (by omega) (by omega)]
  ·rw[if_neg (by simpa using h),ge h]
   rfl
def uZ(a b:List B):List (B×B):=a.flatMap fun x=>b.map fun z=>(x,z)
theorem bA{a b:List B}{p:B×B}:p∈uZ a b↔p.1∈a/\p.2∈b:=by
 unfold uZ
 simp only[List.mem_flatMap,List.mem_map]
 constructor
 ·rintro⟨x,hx,z,hz,rfl⟩;exact⟨hx,hz⟩
 ·intro h;exact⟨p.1,h.1,p.2,h.2,rfl⟩
theorem Ve(a b:List B):(uZ a b).length=a.length*b.length:=by
 induction a with
 | nil=>simp[uZ]
 | cons x a ih=>
  have:uZ (x::a) b=b.map (fun z=>(x,z))++uZ a b:=rfl
  rw[this,List.length_append,ih,List.length_map,List.length_cons,Nat.succ_mul];omega
theorem nf{Sg:Type}{c d:List B}{y:B×B->Sg->Option (Bool×Sg)}{k:Sg->Option Sg}(hs:(c.length:Int)<=1000000)(hd:(d.length:Int)<=1000000):
  ∀(n:Nat) (i:Int) (s:Sg),0<=i->i<=c.length->c.length<n+i->kf Sg c d y k n i s=uY y k (uZ (c.drop i.toNat) d) s
 | 0,i,s,h0,h1,h2=>by omega
 | n+1,i,s,h0,h1,h2=>by
  rw[kf]
  by_cases h:i<c.length
  ·rw[if_pos (decide_eq_true h)]
   refine w8 (P:=fun o=>o=_) fun k1 mV=>?_
   rw[xr ⟨h0,h⟩]
   refine w8 (P:=fun o=>o=_) fun k2 lN=>?_
   rw[nb hd xC 0 s (by omega) (by omega) (by rw[xN];omega),jU h0 h]
   show _=uY y k (((d.map fun z=>(nth c i,z)))++uZ (c.drop (i+1).toNat) d) s
   rw[n9,Int.toNat_zero,List.drop_zero]
   refine bw (fun s'=>?_) _ _
   rw[lN,mV,xD (by omega),nf hs hd n (i+1) s' (by omega) (by omega) (by omega)]
  ·rw[if_neg (by simpa using h),ge h]
   rfl
theorem Km{Sg:Type}{c d:List B}{y:B×B->Sg->Option (Bool×Sg)}{s:Sg}(hs:(c.length:Int)<=1000000)(hd:(d.length:Int)<=1000000):
  me Sg y s c d=uY y some (uZ c d) s:=by
 unfold me
 refine w8 (P:=fun o=>o=_) fun k hk=>?_
 rw[nf hs hd xC 0 s (by omega) (by omega) (by rw[xN];omega),Int.toNat_zero,List.drop_zero]
 exact bw hk _ _
theorem VI{β γ:Type}{y:β->Nat×List γ×Int->Option (Bool×(Nat×List γ×Int))}{ok:β->Bool}{g:β->List γ}{N:Nat}:
  ∀(l:List β) (out:List γ),out.length+l.length<=N->
   (∀ p∈l,(g p).length<=1/\∀ out:List γ,out.length<N->(ok p=true->y p (0,out,0)=some (true,(0,out++g p,0)))/\(ok p=false->∃ o,o.length<=out.length+1/\y p (0,out,0)=some (true,(0,o,3)))/\∃ o,o.length<=out.length+1/\y p (0,out,3)=some (true,(0,o,3)))->
   (∃ By,uY y some l (0,out,3)=some (0,By,3))/\∃ By,uY y some l (0,out,0)=some (0,if l.all ok then(out++l.flatMap g,0) else(By,3))
 | [],out,hl,h=>⟨⟨out,rfl⟩,⟨out,by simp[uY]⟩⟩
 | p::l,out,hl,h=>by
  simp only[List.length_cons] at hl
  obtain⟨h1,hp⟩:=h p (by simp)
  obtain⟨h2,h3,h4⟩:=hp out (by omega)
  have ih:=fun o ho=>VI l o ho fun q hq=>h q (by simp[hq])
  constructor
  ·obtain⟨o1,hl1,e1⟩:=h4
   obtain⟨o,ho⟩:=(ih o1 (by omega)).1
   exact⟨o,by rw[uY,e1,oB];exact ho⟩
  ·cases hb:ok p with
   | true=>
    obtain⟨o,ho⟩:=(ih (out++g p) (by rw[List.length_append];omega)).2
    refine⟨o,?_⟩
    rw[uY,h2 hb,oB]
    refine Eq.trans (show _=uY y some l (0,out++g p,0) from rfl) (ho.trans ?_)
    rw[List.all_cons,hb,Bool.true_and,List.flatMap_cons,List.append_assoc]
   | false=>
    obtain⟨o1,hl1,e1⟩:=h3 hb
    obtain⟨o,ho⟩:=(ih o1 (by omega)).1
    refine⟨o,?_⟩
    rw[uY,e1,oB]
    refine Eq.trans (show _=uY y some l (0,o1,3) from rfl) (ho.trans ?_)
    rw[List.all_cons,hb,Bool.false_and,if_neg Bool.false_ne_true]
/-! ### Sum -/
theorem cq{e:Int}(he:e≠0){f:R->R->Option (R×Int)}{x y:R}:vW ⟨e⟩ f x y=some (⟨0,0⟩,⟨e⟩):=by
 unfold vW;rw[if_pos (by simpa using he)]
theorem Xg{f:R->R->Option (R×Int)}{x y:R}{q:Rat}(h:f x y=some (mk q)):vW ⟨0⟩ f x y=some (if fits q then(sT q,⟨0⟩) else(⟨0,0⟩,⟨3⟩)):=by
 unfold vW
 rw[if_neg (by simp),h,oB]
 unfold mk
 cases fits q <;> rfl
/-! ### Min -/
end
section
theorem Yl{R:Type}{K:Option R}{F:Option R->Option R}{P:Option R->Prop}(h:∀ k:Option R,k=K->P (F k)):P (g8 K F):=h K rfl
/-! ### Compact -/
def YD(l:List R):Prop:=l.Pairwise fun x y=>val x<val y
theorem Vf{a b c:Rat}(h:a<=b)(h':b<c):a<c:=by grind
def pM(s0:List R)(m:Int)(r:List R):Prop:=YD r/\(∀ v,v∈r↔v∈s0.take m.toNat)/\(r.length:Int)<=m
theorem pM.step{s0:List R}(hv:∀ x∈s0,V x=true)(hs:s0.Pairwise fun x y=>val x<=val y){m:Int}(h0:1<=m)(h:m<s0.length){r:List R}(hr:pM s0 m r):
  (nth s0 m=nth s0 (m-1)->pM s0 (m+1) r)/\(nth s0 m≠nth s0 (m-1)->pM s0 (m+1) (r++[nth s0 m])):=by
 have ht:=take_succ s0 (i:=m) (by omega) h
 have hp:=take_succ s0 (i:=m-1) (by omega) (by omega)
 have DU:nth s0 (m-1)∈s0.take m.toNat:=by
  rw[show m=m-1+1 by omega,hp];simp
 constructor
 ·intro e
  refine⟨hr.1,fun v=>?_,by have:=hr.2.2;omega⟩
  rw[ht,hr.2.1,List.mem_append,List.mem_singleton]
  constructor
  ·exact fun h => .inl h
  ·rintro(h | rfl)
   ·exact h
   ·rw[e];exact DU
 ·intro e
  have mO:val (nth s0 (m-1))<val (nth s0 m):=by
   have h1:=List.pairwise_iff_getElem.1 hs (m-1).toNat m.toNat (by omega) (by omega) (by omega)
   rw[uH (by omega) (by omega),uH (by omega) (by omega)] at h1
   rcases nI h1 with h | h
   ·exact h
   ·exact absurd (VG (hv _ (w4 (by omega) (by omega))) (hv _ (w4 (by omega) (by omega))) h).symm e
  constructor
  ·unfold YD
   rw[List.pairwise_append]
   refine⟨hr.1,by simp,fun a ha b hb=>?_⟩
   obtain rfl:=List.mem_singleton.1 hb
   have ha:=(hr.2.1 a).1 ha
   obtain⟨i,hi,rfl⟩:=List.mem_iff_getElem.1 ha
   rw[List.length_take] at hi
   rw[List.getElem_take]
   refine Vf ?_ mO
   by_cases e2:i=(m-1).toNat
   ·subst e2
    rw[uH (by omega) (by omega)];exact Rat.le_refl
   ·have h1:=List.pairwise_iff_getElem.1 hs i (m-1).toNat (by omega) (by omega) (by omega)
    rw[uH (i:=m-1) (by omega) (by omega)] at h1
    exact h1
  ·refine⟨fun v=>?_,by have:=hr.2.2;rw[List.length_append,List.length_singleton];omega⟩
   rw[ht,List.mem_append,List.mem_append,hr.2.1]
theorem Qx{s:List R}{k j:Int}{v:R}(h0:0<=k)(h1:0<=j)(h:k≠j):nth (s.set k.toNat v) j=nth s j:=by
 unfold nth
 rw[List.getD_eq_getElem?_getD,List.getD_eq_getElem?_getD,List.getElem?_set_ne (by omega)]
theorem Kn{s:List R}{k:Int}{v:R}(h0:0<=k)(h:k<s.length):(s.set k.toNat v).take (k+1).toNat=s.take k.toNat++[v]:=by
 rw[show(k+1).toNat=k.toNat+1 by omega,List.take_add_one,List.take_set_of_le (by omega),List.getElem?_set_self (by omega)]
 rfl
theorem nL{s0:List R}{K:Int}{k:List R->Int->Option (List R)}(hv:∀ x∈s0,V x=true)(hs:s0.Pairwise fun x y=>val x<=val y)(hK:1<=K/\K<s0.length)(hl:(s0.length:Int)<=1000000):
  ∀(n:Nat) (s:List R) (j i:Int),1<=i->K+i<=s0.length->s0.length-K<n+i->K<=j->j<=K+i-1->s.length=s0.length->(∀ q:Int,K+i-1<=q->nth s q=nth s0 q)->pM s0 (K+i) (s.take j.toNat)->
   ∃ s' j',wS s0 K k n s j i=k s' j'/\0<=j'/\j'<=s'.length/\pM s0 s0.length (s'.take j'.toNat)
 | 0,s,j,i,h0,h1,h2,h3,h4,h5,h6,h7=>by omega
 | n+1,s,j,i,h0,h1,h2,h3,h4,h5,h6,h7=>by
  rw[wS]
  by_cases h:i<((s0.length-K.toNat:Nat):Int)
  ·rw[if_pos (decide_eq_true h)]
   simp only[tZ]
   rw[xD (x:=i-1) (by omega),xr (by omega),xr (by omega)]
   have e1:nth s (K+i)=nth s0 (K+i):=h6 _ (by omega)
   have e2:nth s (K+(i-1))=nth s0 (K+i-1):=by rw[show K+(i-1)=K+i-1 by omega];exact h6 _ (by omega)
   show ∃ s' j',(if decide (nth s (K+i)≠nth s (K+(i-1))) then _ else _)=_/\_
   rw[e1,e2]
   have st:=pM.step hv hs (m:=K+i) (by omega) (by omega) h7
   by_cases he:nth s0 (K+i)=nth s0 (K+i-1)
   ·rw[if_neg (by simpa using he),xD (x:=i+1) (by omega)]
    refine nL (k:=k) hv hs hK hl n s j (i+1) (by omega) (by omega) (by omega) h3 (by omega) h5 (fun q hq=>h6 q (by omega)) ?_
    rw[show K+(i+1)=K+i+1 by omega]
    exact st.1 he
   ·rw[if_pos (decide_eq_true he),xr (by omega),xr (by omega),xD (x:=i+1) (by omega),xD (x:=j+1) (by omega)]
    have eta:(⟨(nth s0 (K+i)).fN,(nth s0 (K+i)).fD⟩:R)=nth s0 (K+i):=rfl
    rw[eta]
    refine nL (k:=k) hv hs hK hl n (s.set j.toNat (nth s0 (K+i))) (j+1) (i+1) (by omega) (by omega) (by omega) (by omega) (by omega) (by rw[List.length_set];exact h5) (fun q hq=>?_) ?_
    ·rw[Qx (by omega) (by omega) (by omega)]
     exact h6 q (by omega)
    ·rw[Kn (by omega) (by omega),show K+(i+1)=K+i+1 by omega]
     exact st.2 he
  ·rw[if_neg (by simpa using h)]
   refine⟨s,j,rfl,by omega,by omega,?_⟩
   rw[show(s0.length:Int)=K+i by omega]
   exact h7
theorem Wb{s0:List R}{k:Option (List R)}(hv:∀ x∈s0,V x=true)(hs:s0.Pairwise fun x y=>val x<=val y)(hl:(s0.length:Int)<=1000000)(hk:k=some s0):
  ∀(n:Nat) (i:Int),1<=i->i<=s0.length->s0.length<n+i->pM s0 i (s0.take i.toNat)->
   ∃ r,wT s0 k n i=some r/\pM s0 s0.length r
 | 0,i,h0,h1,h2,h3=>by omega
 | n+1,i,h0,h1,h2,h3=>by
  rw[wT]
  by_cases h:i<s0.length
  ·rw[if_pos (decide_eq_true h)]
   refine Yl (P:=fun o=>∃ r,o=some r/\pM s0 s0.length r) fun k1 mV=>?_
   rw[xD (x:=i+1) (by omega)] at mV
   rw[xD (x:=i-1) (by omega),xr (by omega),xr (by omega)]
   have st:=pM.step hv hs (m:=i) h0 h h3
   show ∃ r,(if decide (nth s0 i=nth s0 (i-1)) then _ else _)=_/\_
   by_cases he:nth s0 i=nth s0 (i-1)
   ·rw[if_pos (decide_eq_true he),xr (by omega)]
    refine uW (P:=fun o=>∃ r,o=some r/\pM s0 s0.length r) fun k2 lN=>?_
    obtain⟨s',j',e,h4,h5,h6⟩:=nL (k:=k2) hv hs ⟨h0,h⟩ hl xC s0 i 1 (by omega) (by omega) (by rw[xN];omega) (by omega) (by omega) rfl (fun q _=>rfl) (by exact st.1 he)
    rw[e,lN]
    have ht:(s'.take j'.toNat++List.replicate (s'.length-j'.toNat) ((⟨0,0⟩:R):R)).take j'.toNat=s'.take j'.toNat:=by
     rw[List.take_append_of_le_length (by rw[List.length_take];omega),List.take_take,Nat.min_self]
    rw[xr ⟨h4,h5⟩,xr ⟨h4,by rw[List.length_append,List.length_take,List.length_replicate];omega⟩]
    exact⟨_,congrArg some ht,h6⟩
   ·rw[if_neg (by simpa using he),mV]
    refine Wb hv hs hl hk n (i+1) (by omega) (by omega) (by omega) ?_
    rw[take_succ s0 (by omega) h]
    exact st.2 he
  ·rw[if_neg (by simpa using h)]
   refine⟨s0,hk,?_⟩
   rw[show(s0.length:Int)=i by omega]
   have:=h3
   rwa [List.take_of_length_le (by omega)] at this
theorem Qy{s0:List R}(hv:∀ x∈s0,V x=true)(hs:s0.Pairwise fun x y=>val x<=val y)(hl:(s0.length:Int)<=1000000):
  ∃ r,qv s0=some r/\YD r/\(∀ v,v∈r↔v∈s0)/\r.length<=s0.length:=by
 unfold qv
 by_cases h:(s0.length:Int)<2
 ·rw[if_pos (decide_eq_true h)]
  refine⟨s0,rfl,?_,fun _=>Iff.rfl,Nat.le_refl _⟩
  unfold YD
  rcases s0 with _ | ⟨x,_ | ⟨y,l⟩⟩
  ·exact .nil
  ·simp
  ·simp only[List.length_cons] at h;omega
 ·rw[if_neg (by simpa using h)]
  refine Yl (P:=fun o=>∃ r,o=some r/\YD r/\(∀ v,v∈r↔v∈s0)/\r.length<=s0.length) fun k hk=>?_
  have h1:pM s0 1 (s0.take (1:Int).toNat):=by
   refine⟨?_,fun _=>Iff.rfl,by rw[List.length_take];omega⟩
   have:=take_succ s0 (i:=0) (by omega) (by omega)
   rw[show((0:Int)+1)=1 from rfl,Int.toNat_zero,List.take_zero,List.nil_append] at this
   rw[this]
   simp[YD]
  obtain⟨r,e,hr⟩:=Wb hv hs hl hk xC 1 (by omega) (by omega) (by rw[xN];omega) h1
  refine⟨r,e,hr.1,fun v=>?_,by have:=hr.2.2;omega⟩
  rw[hr.2.1,Int.toNat_natCast,List.take_length]
end
section
/-! ### Breaks -/
def bpA(p:B×B):Rat:=bq p.2-bq p.1
def bT(p:B×B):Rat:=rq p.1-rq p.2
def bp(p:B×B):Rat:=bpA p / bT p
def Qz(p:B×B):Bool:=fits (bpA p)&&fits (bT p)&&fits (bp p)
def bl(p:B×B):Bool:=decide (bq p.1<bq p.2)
def aM(p:B×B):Bool := !bl p||Qz p
def bg(p:B×B):List R:=if bl p then[sT (bp p)] else[]
theorem QA{p:B×B}{out:List R}(h1:GB p.1=true)(h2:GB p.2=true)(hd:bl p=true->rq p.2<rq p.1)(hl:out.length<2000):
  (aM p=true->vx p out 0=some (true,(0,out++bg p,0)))/\(aM p=false->∃ o,o.length<=out.length+1/\vx p out 0=some (true,(0,o,3)))/\∃ o,o.length<=out.length+1/\vx p out 3=some (true,(0,o,3)):=by
 unfold vx
 rw[cmpb h1 h2]
 simp only[oB]
 have a1:=Xg (f:=fun y0 y1=>qG y0 y1) (aI (tW (bm h2)) (tW (bm h1)))
 have a2:=Xg (f:=fun y0 y1=>qG y0 y1) (aI (tW (dM h1)) (tW (dM h2)))
 have e1:val p.2.yg-val p.1.yg=bpA p:=rfl
 have e2:val p.1.fR-val p.2.fR=bT p:=rfl
 rw[e1] at a1;rw[e2] at a2
 unfold aM bg
 by_cases hb:bq p.1<bq p.2
 ·have Ba:bl p=true:=decide_eq_true hb
  rw[if_pos (decide_eq_true (sP.2 hb)),if_pos (decide_eq_true (sP.2 hb))]
  rw[Ba,if_pos rfl]
  have Ch:0<bT p:=by have:=hd Ba;unfold bT;grind
  have l1:∀ v:R,(((out++[v]).length:Nat):Int)*16<=140737488355328/\(((out++[v]).length:Nat):Int)<=4611686018427387904:=fun v=>by
   simp only[List.length_append,List.length_cons,List.length_nil];omega
  refine⟨fun hk=>?_,fun hk=>?_,?_⟩
  ·simp only[Bool.not_true,Bool.false_or,Qz,Bool.and_eq_true] at hk
   obtain⟨⟨f1,f2⟩,f3⟩:=hk
   rw[a1,f1,if_pos rfl,oB]
   simp only[]
   rw[a2,f2,if_pos rfl,oB]
   simp only[]
   have hn:(sT (bT p)).fN≠0:=by
    intro h0
    have h1:(bT p).num=0:=h0
    rw[Rat.num_eq_zero.1 h1] at Ch
    exact absurd Ch (by decide)
   have a3:=Xg (f:=fun y0 y1=>kW y0 y1) (aJ (bk f1) (bk f2) hn)
   rw[oZ,oZ] at a3
   have e3:bpA p / bT p=bp p:=rfl
   rw[e3,f3,if_pos rfl] at a3
   rw[a3,oB]
   rw[xr (l1 _)]
  ·simp only[Bool.not_true,Bool.false_or,Qz] at hk
   cases f1:fits (bpA p) with
   | false=>
    rw[a1,f1,if_neg Bool.false_ne_true,oB]
    simp only[]
    rw[cq (by decide),oB]
    simp only[]
    rw[cq (by decide),oB,xr (l1 _)]
    exact⟨_,by simp,rfl⟩
   | true=>
    rw[a1,f1,if_pos rfl,oB]
    simp only[]
    cases f2:fits (bT p) with
    | false=>
     rw[a2,f2,if_neg Bool.false_ne_true,oB]
     simp only[]
     rw[cq (by decide),oB,xr (l1 _)]
     exact⟨_,by simp,rfl⟩
    | true=>
     rw[a2,f2,if_pos rfl,oB]
     simp only[]
     have hn:(sT (bT p)).fN≠0:=by
      intro h0
      have h1:(bT p).num=0:=h0
      rw[Rat.num_eq_zero.1 h1] at Ch
      exact absurd Ch (by decide)
     have a3:=Xg (f:=fun y0 y1=>kW y0 y1) (aJ (bk f1) (bk f2) hn)
     rw[oZ,oZ] at a3
     have e3:bpA p / bT p=bp p:=rfl
     rw[f1,f2,Bool.true_and,Bool.true_and] at hk
     rw[e3,hk,if_neg Bool.false_ne_true] at a3
     rw[a3,oB,xr (l1 _)]
     exact⟨_,by simp,rfl⟩
  ·rw[cq (by decide),oB]
   simp only[]
   rw[cq (by decide),oB]
   simp only[]
   rw[cq (by decide),oB,xr (l1 _)]
   exact⟨_,by simp,rfl⟩
 ·have Ba:bl p=false:=decide_eq_false hb
  have hn:¬decide (tB (bq p.1) (bq p.2)<0)=true:=fun h=>hb (sP.1 (of_decide_eq_true h))
  rw[if_neg hn,if_neg hn,Ba,if_neg Bool.false_ne_true]
  refine⟨fun _=>by rw[List.append_nil],fun h=>by simp at h,⟨out,by omega,rfl⟩⟩
theorem YF:∀ {l:List B},(l.Pairwise fun x y=>bq x<bq y/\rq y<rq x)->∀ {x y:B},x∈l->y∈l->bq x<bq y->rq y<rq x
 | [],_,x,y,hx,_,_=>by simp at hx
 | z::l,h,x,y,hx,hy,hxy=>by
  obtain⟨h1,h2⟩:=List.pairwise_cons.1 h
  rcases List.mem_cons.1 hx with e | hx'
  ·subst e
   rcases List.mem_cons.1 hy with e | hy'
   ·subst e;grind
   ·exact(h1 y hy').2
  ·rcases List.mem_cons.1 hy with e | hy'
   ·subst e;have:=(h1 x hx').1;grind
   ·exact YF h2 hx' hy' hxy
theorem Gl{p:B×B}(h:aM p=true)(h2:bl p=true):fits (bp p)=true:=by
 unfold aM Qz at h
 rw[h2] at h
 simp only[Bool.not_true,Bool.false_or,Bool.and_eq_true] at h
 exact h.2
theorem YG{c:List B}(hc:VC c=true):
  if (uZ (jg c) (jg c)).all aM then ∃ r,qV c=some (r,0)/\YD r/\(∀ v,v∈r↔∃ p,(p.1∈jg c/\p.2∈jg c)/\bl p=true/\v=sT (bp p))/\(∀ v∈r,V v=true)/\r.length<=1100
  else qV c=some ([],3):=by
 have la:=aK hc;have na:=Ki c
 have ga:=Kl (dN hc)
 unfold qV
 rw[tQ,hc,Gd (dN hc) (by omega)]
 simp only[oB,Bool.not_true,Bool.false_eq_true,if_false]
 have hp:=Ve (jg c) (jg c)
 have hm:(jg c).length*(jg c).length<=32*32:=Nat.mul_le_mul (by omega) (by omega)
 obtain⟨o,ho⟩:=(VI (y:=fun(x:B×B) (s:Nat×List R×Int)=>chk (s.1=0) (vx x s.2.1 s.2.2)) (ok:=aM) (g:=bg) (N:=1100) (uZ (jg c) (jg c)) [] (by rw[hp];simp;omega) (by
   intro p hp
   have hm:=bA.1 hp
   refine⟨by unfold bg;split <;> simp,fun out hl=>?_⟩
   have st:=QA (p:=p) (out:=out) (ga _ hm.1) (ga _ hm.2) (fun h=>YF Vc hm.1 hm.2 (of_decide_eq_true h)) (by omega)
   refine⟨fun hk=>?_,fun hk=>?_,?_⟩
   ·show chk (0=0) (vx p out 0)=_
    rw[xr rfl];exact st.1 hk
   ·obtain⟨o,h1,h2⟩:=st.2.1 hk
    refine⟨o,h1,?_⟩
    show chk (0=0) (vx p out 0)=_
    rw[xr rfl];exact h2
   ·obtain⟨o,h1,h2⟩:=st.2.2
    refine⟨o,h1,?_⟩
    show chk (0=0) (vx p out 3)=_
    rw[xr rfl];exact h2)).2
 have key:∀ k:Int->List R->Option (List R×Int),(tI (jg c) (jg c)).bind (fun zW2=>(me (Nat×List R×Int) (fun(x:B×B) (s:Nat×List R×Int)=>chk (s.1=0) (vx x s.2.1 s.2.2)) (0,([]:List R),0) zW2.1 zW2.2).bind fun zW3=>k zW3.2.2 zW3.2.1)=if (uZ (jg c) (jg c)).all aM then k 0 ((uZ (jg c) (jg c)).flatMap bg) else k 3 o:=by
  intro k
  unfold tI
  rw[oB]
  simp only[]
  rw[Km (by omega) (by omega),ho,oB]
  split <;> simp
 cases hf:(uZ (jg c) (jg c)).all aM with
 | true=>
  rw[if_pos rfl]
  refine uW (P:=fun(o:Option (List R×Int))=>∃ r,o=some (r,0)/\YD r/\(∀ v,v∈r↔∃ p,(p.1∈jg c/\p.2∈jg c)/\bl p=true/\v=sT (bp p))/\(∀ v∈r,V v=true)/\r.length<=1100) fun k hk=>?_
  rw[key,hf,if_pos rfl,hk,if_neg (by simp)]
  have vC:∀ v,v∈(uZ (jg c) (jg c)).flatMap bg↔∃ p,(p.1∈jg c/\p.2∈jg c)/\bl p=true/\v=sT (bp p):=by
   intro v
   rw[List.mem_flatMap]
   constructor
   ·rintro⟨p,hp,hv⟩
    unfold bg at hv
    cases hb:bl p with
    | true=>rw[hb,if_pos rfl] at hv;exact⟨p,bA.1 hp,hb,by simpa using hv⟩
    | false=>rw[hb] at hv;simp at hv
   ·rintro⟨p,hp,hb,rfl⟩
    exact⟨p,bA.2 hp,by unfold bg;rw[hb,if_pos rfl];simp⟩
  have hV:∀ v∈(uZ (jg c) (jg c)).flatMap bg,V v=true:=by
   intro v hv
   obtain⟨p,hp,hb,rfl⟩:=(vC v).1 hv
   exact bk (Gl (List.all_eq_true.1 hf p (bA.2 hp)) hb)
  have iS:((uZ (jg c) (jg c)).flatMap bg).length<=1100:=by
   have:∀ l:List (B×B),(l.flatMap bg).length<=l.length:=by
    intro l
    induction l with
    | nil=>simp
    | cons x l ih=>
     rw[List.flatMap_cons,List.length_append,List.length_cons]
     have:(bg x).length<=1:=by unfold bg;split <;> simp
     omega
   have:=this (uZ (jg c) (jg c));omega
  rw[Kh (key:=val) (fun x hx y hy=>ol (hV x hx) (hV y hy)) (fun x hx y hy h=>VG (hV x hx) (hV y hy) h) (by omega),oB]
  have wI:=oS val ((uZ (jg c) (jg c)).flatMap bg)
  obtain⟨r,e,h1,h2,h3⟩:=Qy (s0:=oR val ((uZ (jg c) (jg c)).flatMap bg)) (fun x hx=>hV x (wI.mem_iff.1 hx)) (lw _ _) (by rw[wI.length_eq];omega)
  rw[e,oB]
  refine⟨r,rfl,h1,fun v=>?_,fun v hv=>hV v (wI.mem_iff.1 ((h2 v).1 hv)),by rw[wI.length_eq] at h3;omega⟩
  rw[h2,wI.mem_iff,vC]
 | false=>
  rw[if_neg Bool.false_ne_true]
  refine uW (P:=fun o=>o=_) fun k hk=>?_
  rw[key,hf,if_neg Bool.false_ne_true,hk]
  simp
theorem aN{c:List B}(h:VC c=false):qV c=some ([],2):=by
 unfold qV
 rw[tQ,h];rfl
end
section
variable {x y:R}
abbrev SV:=yl
def Z1:R:=⟨0,1⟩
theorem l4:kV=some Z1:=rfl
theorem dQ{RR A0 A1 A2:Type}{K:A0->A1->A2->Option RR}{F:(A0->A1->A2->Option RR)->Option RR}{P:Option RR->Prop}(h:∀ k:A0->A1->A2->Option RR,(∀ x0 x1 x2,k x0 x1 x2=K x0 x1 x2)->P (F k)):P (Yp K F):=h K fun _ _ _=>rfl
/-! ### operations agree -/
theorem om(h:¬(V x=true/\V y=true)):(if !(V x) then some true else(some (V y)).bind fun v=>some (!v))=some true:=by
 cases hx:V x with
 | false=>rfl
 | true=>
  cases hy:V y with
  | false=>rfl
  | true=>exact absurd ⟨hx,hy⟩ h
theorem VJ(h:¬(V x=true/\V y=true)):vb x y=some (⟨0,0⟩,2):=by
 unfold vb pZ
 rw[vM,vM,oB,om h];rfl
theorem VK(h:¬(V x=true/\V y=true)):qG x y=some (⟨0,0⟩,2):=by
 unfold qG o7
 rw[vM,vM,oB,om h];rfl
theorem VM(h:¬(V x=true/\V y=true)):kd x y=some (⟨0,0⟩,2):=by
 unfold kd ln
 rw[vM,vM,oB,om h];rfl
theorem VN(h:¬(V x=true/\V y=true)):kW x y=some (⟨0,0⟩,2):=by
 unfold kW o9
 rw[vM,vM,oB,om h];rfl
theorem Gm(h:¬(V x=true/\V y=true)):vh x y=some 0:=by
 unfold vh
 rw[vM,vM,oB,om h];rfl
def ng(x y:R):R×Int:=(vb x y).getD (⟨0,0⟩,0)
def Wc(x y:R):R×Int:=(qG x y).getD (⟨0,0⟩,0)
def MUL(x y:R):R×Int:=(kd x y).getD (⟨0,0⟩,0)
def DIV(x y:R):R×Int:=(kW x y).getD (⟨0,0⟩,0)
def CM(x y:R):Int:=(vh x y).getD 0
theorem bB(x y:R):vb x y=some (ng x y)/\True:=by
 unfold ng
 by_cases h:V x=true/\V y=true
 ·rw[W4 h.1 h.2];exact⟨rfl,trivial⟩
 ·rw[VJ h];exact⟨rfl,trivial⟩
theorem QB(x y:R):qG x y=some (Wc x y)/\True:=by
 unfold Wc
 by_cases h:V x=true/\V y=true
 ·rw[aI h.1 h.2];exact⟨rfl,trivial⟩
 ·rw[VK h];exact⟨rfl,trivial⟩
theorem KP(x y:R):kd x y=some (MUL x y)/\True:=by
 unfold MUL
 by_cases h:V x=true/\V y=true
 ·rw[W5 h.1 h.2];exact⟨rfl,trivial⟩
 ·rw[VM h];exact⟨rfl,trivial⟩
theorem div_s(x:R)(h0:y.fN≠0):kW x y=some (DIV x y)/\True:=by
 unfold DIV
 by_cases h:V x=true/\V y=true
 ·rw[aJ h.1 h.2 h0];exact⟨rfl,trivial⟩
 ·rw[VN h];exact⟨rfl,trivial⟩
theorem Wd(x y:R):vh x y=some (CM x y)/\True:=by
 unfold CM
 by_cases h:V x=true/\V y=true
 ·rw[ol h.1 h.2];exact⟨rfl,trivial⟩
 ·rw[Gm h];exact⟨rfl,trivial⟩
/-! ### rounding -/
theorem QC{N D:Int}(hD:0<D):∃ f:Int,(f=if Int.tmod N D<0 then Int.tdiv N D-1 else Int.tdiv N D)/\f*D<=N/\N<(f+1)*D:=by
 have h1:=Int.mul_tdiv_add_tmod N D
 have h2:Int.tmod N D<D:=Int.tmod_lt_of_pos N hD
 have h3 : -D<Int.tmod N D:=by
  have h4:=Int.tmod_lt_of_pos (-N) hD
  rw[Int.neg_tmod] at h4
  omega
 by_cases h:Int.tmod N D<0
 ·refine⟨_,rfl,?_⟩
  rw[if_pos h]
  have e1:(Int.tdiv N D-1)*D=D*Int.tdiv N D-D:=by rw[Int.sub_mul,Int.one_mul,Int.mul_comm]
  have e2:(Int.tdiv N D-1+1)*D=D*Int.tdiv N D:=by rw[Int.sub_add_cancel,Int.mul_comm]
  rw[e1,e2]
  omega
 ·refine⟨_,rfl,?_⟩
  rw[if_neg h]
  have e1:Int.tdiv N D*D=D*Int.tdiv N D:=Int.mul_comm _ _
  have e2:(Int.tdiv N D+1)*D=D*Int.tdiv N D+D:=by rw[Int.add_mul,Int.one_mul,Int.mul_comm]
  rw[e1,e2]
  omega
theorem fl_bd{f N D:Int}(hD:1<=D)(hN : -1073741824<=N/\N<=1073741824)(h1:f*D<=N)(h2:N<(f+1)*D) : -1073741824<=f/\f<=1073741824:=by
 constructor
 ·refine Int.not_lt.1 fun h=>?_
  have:=Int.mul_le_mul_of_nonneg_left hD (show 0 <= -(f+1) by omega)
  have e : -(f+1)*D = -((f+1)*D):=Int.neg_mul _ _
  omega
 ·refine Int.not_lt.1 fun h=>?_
  have:=Int.mul_le_mul_of_nonneg_left hD (show 0<=f by omega)
  omega
theorem We(hx:V x=true):∃ f:Int,qj x=some f/\f*x.fD<=x.fN/\x.fN<(f+1)*x.fD /\ -1073741824<=f/\f<=1073741824:=by
 have hv:=hx
 simp only[V,decide_eq_true_eq] at hv
 obtain⟨f,hf,h1,h2⟩:=QC (N:=x.fN) (D:=x.fD) (by omega)
 have hb:=fl_bd hv.1 (by omega) h1 h2
 refine⟨f,?_,h1,h2,hb⟩
 unfold qj
 rw[vM,hx,oB,if_neg (by simp),xr (by omega)]
 simp only[vk]
 rw[xr (by omega)]
 have hq : -1073741824<=Int.tdiv x.fN x.fD/\Int.tdiv x.fN x.fD<=1073741825:=by
  by_cases h:Int.tmod x.fN x.fD<0
  ·rw[if_pos h] at hf;omega
  ·rw[if_neg h] at hf;omega
 by_cases h:Int.tmod x.fN x.fD<0
 ·rw[if_pos (decide_eq_true h),xD (x:=Int.tdiv x.fN x.fD) (by omega),xD (by omega),hf,if_pos h]
 ·rw[if_neg (by simpa using h),xD (by omega),hf,if_neg h]
theorem Gn(hx:V x=true):∃ e:Int,jP x=some e/\(e-1)*x.fD<x.fN/\x.fN<=e*x.fD /\ -1073741824<=e/\e<=1073741824:=by
 have hv:=hx
 simp only[V,decide_eq_true_eq] at hv
 have hn:V ⟨-x.fN,x.fD⟩=true:=by
  unfold V
  rw[decide_eq_true_eq]
  refine⟨hv.1,hv.2.1,by show -1073741824 <= -x.fN;omega,by show -x.fN<=1073741824;omega,?_⟩
  show Nat.gcd (-x.fN).natAbs x.fD.natAbs=1
  rw[Int.natAbs_neg];exact hv.2.2.2.2
 obtain⟨f,ef,f1,f2,f3,f4⟩:=We hn
 have f1:f*x.fD <= -x.fN:=f1
 have f2 : -x.fN<(f+1)*x.fD:=f2
 refine⟨-f,?_,?_,?_,by omega,by omega⟩
 ·unfold jP
  rw[vM,hx,oB,if_neg (by simp),xD (x:=0-x.fN) (by omega),show(0:Int)-x.fN = -x.fN by omega,ef,oB,xD (by omega)]
  congr 1;omega
 ·have e:(-f-1)*x.fD = -((f+1)*x.fD):=by rw[show -f-1 = -(f+1) by omega,Int.neg_mul]
  rw[e];omega
 ·rw[Int.neg_mul];omega
def flr(x:R):Int:=(qj x).getD 0
def Wf(x:R):Int:=(jP x).getD 0
theorem eK(x:R):qj x=some (flr x)/\True:=by
 unfold flr
 cases hx:V x with
 | true=>
  obtain⟨f,ef,_⟩:=We hx
  rw[ef];exact⟨rfl,trivial⟩
 | false=>
  have h1:qj x=some 0:=by unfold qj;rw[vM,hx];rfl
  rw[h1];exact⟨rfl,trivial⟩
theorem Xh(x:R):jP x=some (Wf x)/\True:=by
 unfold Wf
 cases hx:V x with
 | true=>
  obtain⟨f,ef,_⟩:=Gn hx
  rw[ef];exact⟨rfl,trivial⟩
 | false=>
  have h1:jP x=some 0:=by unfold jP;rw[vM,hx];rfl
  rw[h1];exact⟨rfl,trivial⟩
def lz(r:List R):List R:=r.flatMap fun x=>[⟨flr x,1⟩,⟨Wf x,1⟩]
theorem Ko(r:List R):(lz r).length=2*r.length:=by
 unfold lz
 induction r with
 | nil=>rfl
 | cons x r ih=>rw[List.flatMap_cons,List.length_append,ih];simp;omega
/-! ### servers -/
def VS(s:SV):Bool:=(V s.fR&&decide (s.fR.fN>0)&&V s.fL)&&decide (s.fL.fN>=0)
theorem YH(s:SV):mG s=some (VS s):=by
 unfold mG VS
 rw[vM,vM,oB,oB]
 cases V s.fR <;> cases decide (s.fR.fN>0) <;> simp
theorem VS_r{s:SV}(h:VS s=true):V s.fR=true/\0<s.fR.fN/\V s.fL=true/\0<=s.fL.fN:=by
 simp only[VS,Bool.and_eq_true,decide_eq_true_eq] at h
 exact⟨h.1.1.1,h.1.1.2,h.1.2,h.2⟩
/-! ### the calculator that keeps the first error -/
def CD(e:Int)(r:R×Int):R×Int:=if e≠0 then(Z1,e) else if r.2≠0 then(Z1,r.2) else r
theorem aO{e:Int}{f:R->R->Option (R×Int)}{r:R×Int}(h:f x y=some r):wQ ⟨e⟩ f x y=some ((CD e r).1,⟨(CD e r).2⟩):=by
 unfold wQ CD
 rw[h,l4]
 by_cases he:e≠0
 ·rw[if_pos (by simpa using he),if_pos he];rfl
 ·rw[if_neg (by simpa using he),if_neg he,oB]
  by_cases hr:r.2≠0
  ·rw[if_pos (by simpa using hr),if_pos hr];rfl
  ·rw[if_neg (by simpa using hr),if_neg hr]
end
section
variable {l:List (List B)}{s:SV}{t:R}
theorem Gp(c:List B)(t:R):∃ x,fw c t=some x:=by
 by_cases h:VC c=true/\GR t=true
 ·exact⟨_,KN h.1 h.2⟩
 ·exact⟨_,Ji h⟩
def nh(c:List B)(t:R):R×Int:=(fw c t).getD (⟨0,0⟩,0)
theorem at_s(c:List B)(t:R):fw c t=some (nh c t):=by
 obtain⟨x,e⟩:=Gp c t
 unfold nh;rw[e];rfl
/-! ### the total -/
def dR(t:R):List (List B)->R×Int->R×Int
 | [],a=>a
 | c::l,a=>dR t l (CD (if a.2=0 then(nh c t).2 else a.2) (ng a.1 (nh c t).1))
theorem aP{l:List (List B)}{t:R}{k:Int->Int->Int->Option (R×yk)}(hl:l.length<=1000):∀(n:Nat) (i:Int) (a:R×Int),0<=i->i<=l.length->l.length<n+i->
  qx l t k n i a.2 a.1.fN a.1.fD=k (dR t (l.drop i.toNat) a).1.fN (dR t (l.drop i.toNat) a).1.fD (dR t (l.drop i.toNat) a).2
 | 0,i,a,h0,h1,h2=>by omega
 | n+1,i,a,h0,h1,h2=>by
  rw[qx]
  by_cases h:i<l.length
  ·rw[if_pos (decide_eq_true h),xr ⟨h0,h⟩,at_s,oB,jU h0 h,dR]
   refine w8 (P:=fun o=>o=_) fun kk Bx=>?_
   have e1:(if decide (a.2=0)=true then kk (nh (nth l i) t).2 else kk a.2)=kk (if a.2=0 then(nh (nth l i) t).2 else a.2):=by
    by_cases h:a.2=0 <;> simp[h]
   rw[e1,Bx]
   show((wQ ⟨_⟩ (fun y0 y1=>vb y0 y1) a.1 (nh (nth l i) t).1).bind _)=_
   rw[aO (bB a.1 (nh (nth l i) t).1).1,oB,xD (by omega)]
   exact aP hl n (i+1) _ (by omega) (by omega) (by omega)
  ·rw[if_neg (by simpa using h),ge h]
   rfl
theorem Wg{e:Int}(hl:l.length<=1000):jS ⟨e⟩ l t=some ((dR t l (Z1,e)).1,⟨(dR t l (Z1,e)).2⟩):=by
 unfold jS
 rw[l4,oB]
 refine dQ (P:=fun o=>o=_) fun k hk=>?_
 have:=aP (t:=t) (k:=k) hl xC 0 (Z1,e) (by omega) (by omega) (by rw[xN];omega)
 rw[this,hk];rfl
/-! ### the values at a point -/
def dv(l:List (List B))(s:SV)(e:Int)(t:R):R×Int:=
 let x1:=dR t l (Z1,e)
 let x2:=CD x1.2 (DIV x1.1 s.fR)
 let x3:=CD x2.2 (Wc x2.1 t)
 CD x3.2 (ng x3.1 s.fL)
def bv(l:List (List B))(s:SV)(e:Int)(t:R):R×Int:=
 let x1:=dR t l (Z1,e)
 let x2:=CD x1.2 (Wc t s.fL)
 let x3:=CD x2.2 (MUL s.fR x2.1)
 if CM t s.fL<=0 then x1 else CD x3.2 (Wc x1.1 x3.1)
theorem Jk{e:Int}(hl:l.length<=1000)(hs:VS s=true):fG ⟨e⟩ t l s=some ((dv l s e t).1,⟨(dv l s e t).2⟩):=by
 have h0:=(VS_r hs).2.1
 unfold fG
 rw[Wg hl,oB,aO (div_s _ (y:=s.fR) (by omega)).1,oB,aO (QB _ t).1,oB,aO (bB _ s.fL).1]
 rfl
theorem Vg{e:Int}(hl:l.length<=1000):gP ⟨e⟩ t l s=some ((bv l s e t).1,⟨(bv l s e t).2⟩):=by
 unfold gP bv
 rw[Wg hl,oB,(Wd t s.fL).1,oB]
 by_cases h:CM t s.fL<=0
 ·rw[if_pos (decide_eq_true h),if_pos h]
 ·rw[if_neg (by simpa using h),if_neg h,aO (QB t s.fL).1,oB,aO (KP s.fR _).1,oB,aO (QB _ _).1]
  rfl
/-! ### the greatest value -/
section
variable {f:Int->R->R×Int}
def mv(f:Int->R->R×Int)(s:List R×Int)(p:R):List R×Int:=
 (match s.1 with | []=>[(f s.2 p).1] | b::r=>if CM (f s.2 p).1 b>0 then[(f s.2 p).1] else b::r,(f s.2 p).2)
theorem aQ:∀(P:List R) (s:List R×Int),s.1≠[]->(P.foldl (mv f) s).1≠[]
 | [],s,h=>h
 | p::P,s,h=>by
  rw[List.foldl_cons]
  refine aQ P _ ?_
  unfold mv
  cases hs:s.1 with
  | nil=>exact absurd hs h
  | cons b r=>simp only;split <;> simp
def YI(f:Int->R->R×Int)(P:List R):R×Int:=
 let r:=P.foldl (mv f) ([],0)
 if r.2≠0 then(⟨0,0⟩,r.2) else(nth r.1 0,0)
end
theorem Vh(a:List B):∃ x:List R×Int,qV a=some x/\x.1.length<=1100:=by
 cases h:VC a with
 | true=>
  have:=YG h
  split at this
  ·obtain⟨r,e,_,_,_,hl⟩:=this
   exact⟨_,e,hl⟩
  ·exact⟨_,this,by simp⟩
 | false=>exact⟨_,aN h,by simp⟩
def cr(c:List B):List R×Int:=(qV c).getD ([],0)
theorem bC(c:List B):qV c=some (cr c)/\(cr c).1.length<=1100:=by
 obtain⟨x,e,h⟩:=Vh c
 unfold cr
 rw[e];exact⟨rfl,h⟩
def YJ(c:List B):R×Int:=(mI c).getD (⟨0,0⟩,0)
theorem rt_s{c:List B}(h:VC c=true):mI c=some (YJ c)/\V (YJ c).1=true:=by
 obtain⟨d,e,hd,_⟩:=Gi h
 unfold YJ
 rw[e]
 exact⟨rfl,tW (dM (dN h d hd))⟩
def oG(l:List (List B))(pA:List R):List R:=Z1::((l.flatMap fun c=>lz (cr c).1)++lz pA)
theorem sm(l:List (List B)):(l.flatMap fun c=>lz (cr c).1).length<=2200*l.length:=by
 induction l with
 | nil=>simp
 | cons c l ih=>
  have:=(bC c).2
  rw[List.flatMap_cons,List.length_append,Ko,List.length_cons];omega
/-! ### the check -/
def ni:List (List B)->R×Int->Int ⊕ (R×Int)
 | [],a => .inr a
 | c::l,a=>if (cr c).2≠0 then .inl (cr c).2 else ni l (CD a.2 (ng a.1 (YJ c).1))
section
variable {Sg:Type} {y:R->(Nat×List R×Int)->Option (Bool×(Nat×List R×Int))} {f:Int->R->R×Int}
theorem p5{x:List R×Int}{k:(Nat×List R×Int)->Option (Nat×List R×Int)}(hy:∀ p s,y p (0,s)=some (true,(0,mv f s p)))(hl:x.1.length<=100000):∀(n:Nat) (v:Int) (s:List R×Int),0<=v->v<=x.1.length->x.1.length<n+v->
  wN _ x y k n v (0,s)=k (0,(lz (x.1.drop v.toNat)).foldl (mv f) s)
 | 0,v,s,h0,h1,h2=>by omega
 | n+1,v,s,h0,h1,h2=>by
  rw[wN]
  by_cases h:v<x.1.length
  ·rw[if_pos (decide_eq_true h),xr ⟨h0,h⟩]
   show Option.bind (qj (nth x.1 v)) _=_
   rw[(eK _).1,oB]
   unfold qu
   rw[oB,hy,oB,if_neg (by simp)]
   have e2:(jP (⟨(nth x.1 v).fN,(nth x.1 v).fD⟩:R))=some (Wf (nth x.1 v)):=(Xh _).1
   rw[e2,oB,oB,hy,oB,oB,if_neg (by simp),xD (by omega),p5 hy hl n (v+1) _ (by omega) (by omega) (by omega),jU h0 h]
   rfl
  ·rw[if_neg (by simpa using h),ge h];rfl
theorem p6{x:List R}{k:(Nat×List R×Int)->Option (Nat×List R×Int)}(hy:∀ p s,y p (0,s)=some (true,(0,mv f s p)))(hl:x.length<=100000):∀(n:Nat) (v:Int) (s:List R×Int),0<=v->v<=x.length->x.length<n+v->
  wP _ x y k n v (0,s)=k (0,(lz (x.drop v.toNat)).foldl (mv f) s)
 | 0,v,s,h0,h1,h2=>by omega
 | n+1,v,s,h0,h1,h2=>by
  rw[wP]
  by_cases h:v<x.length
  ·rw[if_pos (decide_eq_true h),xr ⟨h0,h⟩]
   show Option.bind (qj (nth x v)) _=_
   rw[(eK _).1,oB]
   unfold qu
   rw[oB,hy,oB,if_neg (by simp)]
   have e2:(jP (⟨(nth x v).fN,(nth x v).fD⟩:R))=some (Wf (nth x v)):=(Xh _).1
   rw[e2,oB,oB,hy,oB,oB,if_neg (by simp),xD (by omega),p6 hy hl n (v+1) _ (by omega) (by omega) (by omega),jU h0 h]
   rfl
  ·rw[if_neg (by simpa using h),ge h];rfl
theorem p4{l:List (List B)}{k:(Nat×List R×Int)->Option (Nat×List R×Int)}(hy:∀ p s,y p (0,s)=some (true,(0,mv f s p)))(hl:l.length<=100000):∀(n:Nat) (v:Int) (s:List R×Int),0<=v->v<=l.length->l.length<n+v->
  wO _ l y k n v (0,s)=k (0,((l.drop v.toNat).flatMap fun c=>lz (cr c).1).foldl (mv f) s)
 | 0,v,s,h0,h1,h2=>by omega
 | n+1,v,s,h0,h1,h2=>by
  rw[wO]
  by_cases h:v<l.length
  ·rw[if_pos (decide_eq_true h)]
   refine w8 (P:=fun o=>o=_) fun k1 mV=>?_
   rw[xr ⟨h0,h⟩,(bC _).1,oB]
   refine w8 (P:=fun o=>o=_) fun k2 lN=>?_
   have hb:=(bC (nth l v)).2
   rw[p5 (f:=f) hy (by omega) xC 0 s (by omega) (by omega) (by rw[xN];omega),lN,mV,xD (by omega),p4 hy hl n (v+1) _ (by omega) (by omega) (by omega),jU h0 h,List.flatMap_cons,List.foldl_append]
   rfl
  ·rw[if_neg (by simpa using h),ge h];rfl
theorem Jl{a b:SV}{c:List (List B)}{pA:List R}(hy:∀ p s,y p (0,s)=some (true,(0,mv f s p)))(hl:l.length<=100000)(hm:pA.length<=100000):
  vD _ y (0,([],0)) l a c b pA=some (0,(oG l pA).foldl (mv f) ([],0)):=by
 unfold vD
 rw[l4,oB,hy,oB,if_neg (by simp)]
 refine w8 (P:=fun o=>o=_) fun k hk=>?_
 rw[p4 (f:=f) hy hl xC 0 _ (by omega) (by omega) (by rw[xN];omega),hk]
 refine w8 (P:=fun o=>o=_) fun k2 lN=>?_
 rw[p6 (f:=f) hy hm xC 0 _ (by omega) (by omega) (by rw[xN];omega),lN]
 unfold oG
 rw[List.foldl_cons,List.foldl_append]
 rfl
end
section
variable {Sg:Type} {y:R->(Nat×List R×Int)->Option (Bool×(Nat×List R×Int))} {f:Int->R->R×Int}
theorem p5b{x:List R×Int}{k:(Nat×List R×Int)->Option (Nat×List R×Int)}(hy:∀ p s,y p (0,s)=some (true,(0,mv f s p)))(hl:x.1.length<=100000):∀(n:Nat) (v:Int) (s:List R×Int),0<=v->v<=x.1.length->x.1.length<n+v->
  wN _ x y k n v (0,s)=k (0,(lz (x.1.drop v.toNat)).foldl (mv f) s)
 | 0,v,s,h0,h1,h2=>by omega
 | n+1,v,s,h0,h1,h2=>by
  rw[wN]
  by_cases h:v<x.1.length
  ·rw[if_pos (decide_eq_true h),xr ⟨h0,h⟩]
   show Option.bind (qj (nth x.1 v)) _=_
   rw[(eK _).1,oB]
   unfold qu
   rw[oB,hy,oB,if_neg (by simp)]
   have e2:(jP (⟨(nth x.1 v).fN,(nth x.1 v).fD⟩:R))=some (Wf (nth x.1 v)):=(Xh _).1
   rw[e2,oB,oB,hy,oB,oB,if_neg (by simp),xD (by omega),p5b hy hl n (v+1) _ (by omega) (by omega) (by omega),jU h0 h]
   rfl
  ·rw[if_neg (by simpa using h),ge h];rfl
theorem p6b{x:List R}{k:(Nat×List R×Int)->Option (Nat×List R×Int)}(hy:∀ p s,y p (0,s)=some (true,(0,mv f s p)))(hl:x.length<=100000):∀(n:Nat) (v:Int) (s:List R×Int),0<=v->v<=x.length->x.length<n+v->
  wP _ x y k n v (0,s)=k (0,(lz (x.drop v.toNat)).foldl (mv f) s)
 | 0,v,s,h0,h1,h2=>by omega
 | n+1,v,s,h0,h1,h2=>by
  rw[wP]
  by_cases h:v<x.length
  ·rw[if_pos (decide_eq_true h),xr ⟨h0,h⟩]
   show Option.bind (qj (nth x v)) _=_
   rw[(eK _).1,oB]
   unfold qu
   rw[oB,hy,oB,if_neg (by simp)]
   have e2:(jP (⟨(nth x v).fN,(nth x v).fD⟩:R))=some (Wf (nth x v)):=(Xh _).1
   rw[e2,oB,oB,hy,oB,oB,if_neg (by simp),xD (by omega),p6b hy hl n (v+1) _ (by omega) (by omega) (by omega),jU h0 h]
   rfl
  ·rw[if_neg (by simpa using h),ge h];rfl
theorem p4b{l:List (List B)}{k:(Nat×List R×Int)->Option (Nat×List R×Int)}(hy:∀ p s,y p (0,s)=some (true,(0,mv f s p)))(hl:l.length<=100000):∀(n:Nat) (v:Int) (s:List R×Int),0<=v->v<=l.length->l.length<n+v->
  wO _ l y k n v (0,s)=k (0,((l.drop v.toNat).flatMap fun c=>lz (cr c).1).foldl (mv f) s)
 | 0,v,s,h0,h1,h2=>by omega
 | n+1,v,s,h0,h1,h2=>by
  rw[wO]
  by_cases h:v<l.length
  ·rw[if_pos (decide_eq_true h)]
   refine w8 (P:=fun o=>o=_) fun k1 mV=>?_
   rw[xr ⟨h0,h⟩,(bC _).1,oB]
   refine w8 (P:=fun o=>o=_) fun k2 lN=>?_
   have hb:=(bC (nth l v)).2
   rw[p5b (f:=f) hy (by omega) xC 0 s (by omega) (by omega) (by rw[xN];omega),lN,mV,xD (by omega),p4b hy hl n (v+1) _ (by omega) (by omega) (by omega),jU h0 h,List.flatMap_cons,List.foldl_append]
   rfl
  ·rw[if_neg (by simpa using h),ge h];rfl
theorem QE{a b:SV}{c:List (List B)}{pA:List R}(hy:∀ p s,y p (0,s)=some (true,(0,mv f s p)))(hl:l.length<=100000)(hm:pA.length<=100000):
  vD _ y (0,([],0)) l a c b pA=some (0,(oG l pA).foldl (mv f) ([],0)):=by
 unfold vD
 rw[l4,oB,hy,oB,if_neg (by simp)]
 refine w8 (P:=fun o=>o=_) fun k hk=>?_
 rw[p4b (f:=f) hy hl xC 0 _ (by omega) (by omega) (by rw[xN];omega),hk]
 refine w8 (P:=fun o=>o=_) fun k2 lN=>?_
 rw[p6b (f:=f) hy hm xC 0 _ (by omega) (by omega) (by rw[xN];omega),lN]
 unfold oG
 rw[List.foldl_cons,List.foldl_append]
 rfl
end
def pj(l:List (List B))(s:SV):Int:=
 if l.length>32 || !(l.all VC) || !(VS s) then 2 else
 match ni l (Z1,0) with
 | .inl e=>e
 | .inr r=>if r.2≠0 then r.2 else if CM r.1 s.fR>0 then 6 else 0
theorem Jm(h:pj l s=0):VS s=true:=by
 unfold pj at h
 cases hs:VS s with
 | true=>rfl
 | false=>rw[if_pos (by simp[hs])] at h;cases h
theorem Jn{s:List (List B)}{k:Option Int}(hl:s.length<=100000):∀(n:Nat) (v:Int),0<=v->v<=s.length->s.length<n+v->k=some (-1)->
  ∃ x:Int,wz s (fun y0=>qh y0) k n v=some x/\(x>=0↔(s.drop v.toNat).all VC=false)
 | 0,v,h0,h1,h2,hk=>by omega
 | n+1,v,h0,h1,h2,hk=>by
  rw[wz]
  by_cases h:v<s.length
  ·rw[if_pos (decide_eq_true h),xr ⟨h0,h⟩,jU h0 h]
   unfold qh
   rw[tQ,oB,oB,List.all_cons]
   cases hc:VC (nth s v) with
   | false=>exact⟨v,by simp,by simp;omega⟩
   | true=>
    rw[if_neg (by simp),xD (by omega),Bool.true_and]
    exact Jn hl n (v+1) (by omega) (by omega) (by omega) hk
  ·rw[if_neg (by simpa using h),ge h,hk]
   exact⟨-1,rfl,by simp⟩
theorem dS(hl:l.length<=100000):(vr l (fun y0=>qh y0))=some (!(l.all VC)):=by
 unfold vr qE
 refine Yl (P:=fun o=>(o.bind fun x=>some (decide (x>=0)))=some (!(l.all VC))) fun k hk=>?_
 obtain⟨x,e,h⟩:=Jn hl xC 0 (by omega) (by omega) (by rw[xN];omega) hk
 rw[e,oB]
 rw[show(0:Int).toNat=0 from rfl,List.drop_zero] at h
 cases ha:l.all VC with
 | true=>rw[ha] at h;simp at h;simp;omega
 | false=>rw[ha] at h;simp at h;simp;omega
theorem VO{l:List (List B)}{k:Int->Int->Int->Option Int}(hv:∀ c∈l,VC c=true)(hl:l.length<=1000):∀(n:Nat) (v:Int) (a:R×Int),0<=v->v<=l.length->l.length<n+v->
  vd l k n v a.2 a.1.fN a.1.fD=match ni (l.drop v.toNat) a with | .inl e=>some e | .inr r=>k r.2 r.1.fN r.1.fD
 | 0,v,a,h0,h1,h2=>by omega
 | n+1,v,a,h0,h1,h2=>by
  rw[vd]
  by_cases h:v<l.length
  ·have hc:=hv _ (w4 h0 h)
   rw[if_pos (decide_eq_true h),xr ⟨h0,h⟩,(bC _).1,oB,jU h0 h,ni]
   by_cases hb:(cr (nth l v)).2≠0
   ·rw[if_pos (by simpa using hb),if_pos hb]
   ·rw[if_neg (by simpa using hb),if_neg hb,(rt_s hc).1,oB]
    show((wQ ⟨a.2⟩ (fun y0 y1=>vb y0 y1) a.1 (YJ (nth l v)).1).bind _)=_
    rw[aO (bB _ _).1,oB,xD (by omega)]
    exact VO hv hl n (v+1) _ (by omega) (by omega) (by omega)
  ·rw[if_neg (by simpa using h),ge h]
   rfl
theorem Kp{c:List (List B)}{t:SV}{m:List R}(hl:l.length<=40):vZ l s c t m=some (pj l s):=by
 unfold vZ pj
 by_cases h1:(((l.length:Nat):Int)>32)
 ·rw[if_pos (decide_eq_true h1),oB,if_pos rfl,oB,if_pos rfl,if_pos (by simp;omega)]
 ·rw[if_neg (by simpa using h1),dS (by omega)]
  simp only[oB]
  by_cases h2:l.all VC=true
  ·rw[h2]
   simp only[Bool.not_true,Bool.false_eq_true,if_false]
   rw[YH,oB,oB]
   cases hs:VS s with
   | false=>rw[if_pos (by rfl),if_pos (by simp)]
   | true=>
    rw[if_neg (by simp),if_neg (by simp;omega),l4,oB]
    refine dQ (P:=fun o=>o=_) fun k hk=>?_
    have:=VO (k:=k) (List.all_eq_true.1 h2) (by omega) xC 0 (Z1,0) (by omega) (by omega) (by rw[xN];omega)
    rw[this,show(0:Int).toNat=0 from rfl,List.drop_zero]
    cases ni l (Z1,0) with
    | inl e=>rfl
    | inr r=>
     simp only
     rw[hk]
     by_cases hr:r.2=0
     ·rw[if_pos (decide_eq_true hr),if_neg (by simp[hr])]
      show(((vh r.1 s.fR).bind _).bind _)=_
      rw[(Wd _ _).1,oB,oB]
      by_cases hc:CM r.1 s.fR>0
      ·rw[if_pos (decide_eq_true hc),if_pos hc]
      ·rw[if_neg (by simpa using hc),if_neg hc,hr]
     ·rw[if_neg (by simpa using hr),oB,if_neg (by simp),if_pos hr]
  ·have CW:l.all VC=false:=by simpa using h2
   rw[CW]
   simp only[Bool.not_false,if_true]
   rw[oB,if_pos rfl,if_pos (by simp)]
theorem Wh{l:List (List B)}{k:Int->Int->Int->Option Int}(hv:∀ c∈l,VC c=true)(hl:l.length<=1000):∀(n:Nat) (v:Int) (a:R×Int),0<=v->v<=l.length->l.length<n+v->
  vd l k n v a.2 a.1.fN a.1.fD=match ni (l.drop v.toNat) a with | .inl e=>some e | .inr r=>k r.2 r.1.fN r.1.fD
 | 0,v,a,h0,h1,h2=>by omega
 | n+1,v,a,h0,h1,h2=>by
  rw[vd]
  by_cases h:v<l.length
  ·have hc:=hv _ (w4 h0 h)
   rw[if_pos (decide_eq_true h),xr ⟨h0,h⟩,(bC _).1,oB,jU h0 h,ni]
   by_cases hb:(cr (nth l v)).2≠0
   ·rw[if_pos (by simpa using hb),if_pos hb]
   ·rw[if_neg (by simpa using hb),if_neg hb,(rt_s hc).1,oB]
    show((wQ ⟨a.2⟩ (fun y0 y1=>vb y0 y1) a.1 (YJ (nth l v)).1).bind _)=_
    rw[aO (bB _ _).1,oB,xD (by omega)]
    exact Wh hv hl n (v+1) _ (by omega) (by omega) (by omega)
  ·rw[if_neg (by simpa using h),ge h]
   rfl
theorem Jo{c:List (List B)}{t:SV}{m:List R}(hl:l.length<=40):vZ l s c t m=some (pj l s):=by
 unfold vZ pj
 by_cases h1:(((l.length:Nat):Int)>32)
 ·rw[if_pos (decide_eq_true h1),oB,if_pos rfl,oB,if_pos rfl,if_pos (by simp;omega)]
 ·rw[if_neg (by simpa using h1),dS (by omega)]
  simp only[oB]
  by_cases h2:l.all VC=true
  ·rw[h2]
   simp only[Bool.not_true,Bool.false_eq_true,if_false]
   rw[YH,oB,oB]
   cases hs:VS s with
   | false=>rw[if_pos (by rfl),if_pos (by simp)]
   | true=>
    rw[if_neg (by simp),if_neg (by simp;omega),l4,oB]
    refine dQ (P:=fun o=>o=_) fun k hk=>?_
    have:=Wh (k:=k) (List.all_eq_true.1 h2) (by omega) xC 0 (Z1,0) (by omega) (by omega) (by rw[xN];omega)
    rw[this,show(0:Int).toNat=0 from rfl,List.drop_zero]
    cases ni l (Z1,0) with
    | inl e=>rfl
    | inr r=>
     simp only
     rw[hk]
     by_cases hr:r.2=0
     ·rw[if_pos (decide_eq_true hr),if_neg (by simp[hr])]
      show(((vh r.1 s.fR).bind _).bind _)=_
      rw[(Wd _ _).1,oB,oB]
      by_cases hc:CM r.1 s.fR>0
      ·rw[if_pos (decide_eq_true hc),if_pos hc]
      ·rw[if_neg (by simpa using hc),if_neg hc,hr]
     ·rw[if_neg (by simpa using hr),oB,if_neg (by simp),if_pos hr]
  ·have CW:l.all VC=false:=by simpa using h2
   rw[CW]
   simp only[Bool.not_false,if_true]
   rw[oB,if_pos rfl,if_pos (by simp)]
end
section
variable {l:List (List B)}{s:SV}
/-! ### the reference's check -/
/-! ### the greatest value -/
def rk(k:Int->Int->Option (R×Int))(b:R)(r:List R×Int):Option (R×Int):=
 if r.2≠0 then some (⟨0,0⟩,r.2) else match r.1 with | []=>k b.fN b.fD | x::_=>k x.fN x.fD
theorem Jp{f:Int->R->R×Int}{P:List R}(hP:P≠[]){k:Int->Int->Option (R×Int)}(hk:∀ x y,k x y=some (⟨x,y⟩,0)):rk k ⟨0,0⟩ (P.foldl (mv f) ([],0))=some (YI f P):=by
 unfold rk YI
 by_cases h:(P.foldl (mv f) ([],0)).2≠0
 ·rw[if_pos h];simp only;rw[if_pos h]
 ·rw[if_neg h];simp only;rw[if_neg h]
  cases P with
  | nil=>exact absurd rfl hP
  | cons p P=>
   have ov:((p::P).foldl (mv f) ([],0)).1≠[]:=by
    rw[List.foldl_cons];exact aQ _ _ (by simp[mv])
   cases hr:((p::P).foldl (mv f) ([],0)).1 with
   | nil=>exact absurd hr ov
   | cons x t=>simp only;rw[hk];rfl
/-! ### the code's search -/
theorem R4_eq(hl:l.length<=1000)(hs:VS s=true)(p:R)(st:List R×Int):chk ((0:Nat)=0) (jt l s p st.1 st.2)=some (true,(0,mv (dv l s) st p)):=by
 rw[xr rfl]
 unfold jt
 rw[Jk hl hs,oB]
 unfold mv
 cases lJ:st.1 with
 | nil=>rw[if_pos (by simp),oB,if_pos rfl]
 | cons x r=>
  rw[if_neg (by simp;omega),xr (by simp)]
  have hn:(⟨(nth (x::r) 0).fN,(nth (x::r) 0).fD⟩:R)=x:=rfl
  rw[hn,(Wd _ _).1,oB,oB]
  simp only
  by_cases hc:CM (dv l s st.2 p).1 x>0
  ·rw[if_pos (decide_eq_true hc),if_pos hc]
  ·rw[if_neg (by simpa using hc),if_neg hc]
theorem GH{pA:List R}(hl:l.length<=40)(hm:pA.length<=1000):gz l s l s pA=some (if pj l s=0 then YI (dv l s) (oG l pA) else(⟨0,0⟩,pj l s)):=by
 unfold gz
 rw[Kp hl,oB]
 by_cases h:pj l s=0
 ·have hs:VS s=true:=Jm h
  rw[if_pos h,if_neg (by simpa using h)]
  refine uW (P:=fun o=>o=_) fun k hk=>?_
  unfold jr
  rw[oB,Jl (f:=dv l s) (fun p st=>R4_eq (by omega) hs p st) (by omega) (by omega),oB,hk]
  have:=Jp (f:=dv l s) (P:=oG l pA) (k:=fun x y=>some (⟨x,y⟩,0)) (by simp[oG]) (fun _ _=>rfl)
  rw[<- this]
  unfold rk
  generalize hr:(oG l pA).foldl (mv (dv l s)) ([],0)=r
  have ov:r.1≠[]:=by
   rw[<- hr];unfold oG;rw[List.foldl_cons];exact aQ _ _ (by simp[mv])
  simp only
  by_cases h2:r.2≠0
  ·rw[if_pos (by simpa using h2),if_pos h2]
  ·rw[if_neg (by simpa using h2),if_neg h2]
   cases AX:r.1 with
   | nil=>exact absurd AX ov
   | cons x t=>rw[xr (by simp)];rfl
 ·rw[if_neg h,if_pos (by simpa using h)]
theorem GI(hl:l.length<=1000)(hs:VS s=true)(p:R)(st:List R×Int):chk ((0:Nat)=0) (jh l s p st.1 st.2)=some (true,(0,mv (bv l s) st p)):=by
 rw[xr rfl]
 unfold jh
 rw[Vg hl,oB]
 unfold mv
 cases lJ:st.1 with
 | nil=>rw[if_pos (by simp),oB,if_pos rfl]
 | cons x r=>
  rw[if_neg (by simp;omega),xr (by simp)]
  have hn:(⟨(nth (x::r) 0).fN,(nth (x::r) 0).fD⟩:R)=x:=rfl
  rw[hn,(Wd _ _).1,oB,oB]
  simp only
  by_cases hc:CM (bv l s st.2 p).1 x>0
  ·rw[if_pos (decide_eq_true hc),if_pos hc]
  ·rw[if_neg (by simpa using hc),if_neg hc]
theorem Gq{pA:List R}(hl:l.length<=40)(hm:pA.length<=1000):g9 l s l s pA=some (if pj l s=0 then YI (bv l s) (oG l pA) else(⟨0,0⟩,pj l s)):=by
 unfold g9
 rw[Jo hl,oB]
 by_cases h:pj l s=0
 ·have hs:VS s=true:=Jm h
  rw[if_pos h,if_neg (by simpa using h)]
  refine uW (P:=fun o=>o=_) fun k hk=>?_
  unfold jr
  rw[oB,QE (f:=bv l s) (fun p st=>GI (by omega) hs p st) (by omega) (by omega),oB,hk]
  have:=Jp (f:=bv l s) (P:=oG l pA) (k:=fun x y=>some (⟨x,y⟩,0)) (by simp[oG]) (fun _ _=>rfl)
  rw[<- this]
  unfold rk
  generalize hr:(oG l pA).foldl (mv (bv l s)) ([],0)=r
  have ov:r.1≠[]:=by
   rw[<- hr];unfold oG;rw[List.foldl_cons];exact aQ _ _ (by simp[mv])
  simp only
  by_cases h2:r.2≠0
  ·rw[if_pos (by simpa using h2),if_pos h2]
  ·rw[if_neg (by simpa using h2),if_neg h2]
   cases AX:r.1 with
   | nil=>exact absurd AX ov
   | cons x t=>rw[xr (by simp)];rfl
 ·rw[if_neg h,if_pos (by simpa using h)]
end
section
theorem ct{RR A0 A1:Type}{K:A0->A1->Option RR}{F:(A0->A1->Option RR)->Option RR}{P:Option RR->Prop}(h:∀ k:A0->A1->Option RR,(∀ x0 x1,k x0 x1=K x0 x1)->P (F k)):P (tZ K F):=h K fun _ _=>rfl
theorem Wi{RR A0 A1 A2 A3 A4:Type}{K:A0->A1->A2->A3->A4->Option RR}{F:(A0->A1->A2->A3->A4->Option RR)->Option RR}{P:Option RR->Prop}(h:∀ k:A0->A1->A2->A3->A4->Option RR,(∀ x0 x1 x2 x3 x4,k x0 x1 x2 x3 x4=K x0 x1 x2 x3 x4)->P (F k)):P (jp5 K F):=h K fun _ _ _ _ _=>rfl
theorem GJ{RR A0 A1 A2 A3 A4 A5:Type}{K:A0->A1->A2->A3->A4->A5->Option RR}{F:(A0->A1->A2->A3->A4->A5->Option RR)->Option RR}{P:Option RR->Prop}(h:∀ k:A0->A1->A2->A3->A4->A5->Option RR,(∀ x0 x1 x2 x3 x4 x5,k x0 x1 x2 x3 x4 x5=K x0 x1 x2 x3 x4 x5)->P (F k)):P (jp6 K F):=h K fun _ _ _ _ _ _=>rfl
abbrev Flow:=yh
abbrev PB:=ye
abbrev BM:=List (Flow×R)
abbrev DM:=List (Pl×Int)
/-! ### the computation keeps its first error -/
def DO(e:Int)(r:R×Int):R×Int:=(if r.2≠0 then⟨0,1⟩ else r.1,if e=0 then r.2 else e)
theorem Xi{c:Cf}{rs:List (List Hop)}{bu:BM}{de:DM}{e:Int}{f:R->R->Option (R×Int)}{x y:R}{r:R×Int}(h:f x y=some r):kU c rs bu de e f x y=some (DO e r):=by
 unfold kU DO qU
 rw[h,oB]
 refine w8 (P:=fun o=>o=_) fun k hk=>?_
 have e1:(if decide (e=0)=true then k r.2 else k e)=k (if e=0 then r.2 else e):=by
  by_cases h:e=0 <;> simp[h]
 rw[e1,hk]
 by_cases hr:r.2≠0
 ·rw[if_pos (by simpa using hr),if_pos hr];rfl
 ·rw[if_neg (by simpa using hr),if_neg hr]
def fr(c:Cf):Prop:=∀ v∈c.yd,(100<=v.yo/\v.yo<=12800)/\1<=v.yn/\v.yn<=72
def mx(c:Cf)(v:Int):Int:=(nth c.yd v).yn
def RT(c:Cf)(v:Int):R:=(mk (Rat.divInt (mx c v) (nth c.yd v).yo)).1
theorem Ym{c:Cf}{rs:List (List Hop)}{bu:BM}{de:DM}{e v:Int}(hv:fr c)(h:0<=v/\v<c.yd.length):kK c rs bu de e v=some (RT c v):=by
 have h2:=hv _ (w4 h.1 h.2)
 unfold kK RT mx
 rw[xr h,cp (by omega) (by omega)]
 rfl
/-! ### the curves at a port -/
def mK(p:Pl)(r:List Hop):Bool:=r.any fun h=>decide (pk h=p)
theorem Gr{r:List Hop}{p:Pl}(hl:r.length<1000000000):wR r (fun y0=>gv y0 p)=some (mK p r):=
 XY (p:=fun h=>decide (pk h=p)) (fun h _=>rfl) hl
structure CS where
 own:List (List B)
 most:Int
 e:Int
 lk:List (Int×List Int)
 bu:BM
def t6(c:Cf)(rs:List (List Hop))(de:DM)(p:Pl)(s:CS)(v:Int):CS:=
 let r:=nth rs v
 if mK p r then
  let g:=j6 r p.ya
  if g.2 then
   let a:=DO s.e (MUL (RT c v) ⟨xx de (pk g.1) 0,1⟩)
   let b:=DO a.2 (ng (xx s.bu ⟨v,pk g.1⟩ ⟨0,0⟩) a.1)
   ⟨s.own,max s.most (mx c v),b.2,xT s.lk g.1.fQ (xx s.lk g.1.fQ []++[v]),xT s.bu ⟨v,p⟩ b.1⟩
  else⟨s.own++[[⟨⟨mx c v,1⟩,RT c v⟩]],max s.most (mx c v),s.e,s.lk,xT s.bu ⟨v,p⟩ ⟨mx c v,1⟩⟩
 else s
def vJ(v:Int):Nat->List Int
 | 0=>[]
 | n+1=>v::vJ (v+1) n
abbrev CR:=List (List B)×Int×Int×BM
theorem YK{c:Cf}{rs:List (List Hop)}{de:DM}{p:Pl}{s:CS}{v:Int}{n:Int}(h:(s.own.length:Int)<=n/\∀ k,((xx s.lk k []).length:Int)<=n):((t6 c rs de p s v).own.length:Int)<=n+1/\∀ k,((xx (t6 c rs de p s v).lk k []).length:Int)<=n+1:=by
 unfold t6
 simp only
 split
 ·split
  ·refine⟨by have:=h.1;show(s.own.length:Int)<=_;omega,fun k=>?_⟩
   show((xx (xT s.lk _ _) k []).length:Int)<=_
   rw[qP]
   split
   ·have:=h.2 (j6 (nth rs v) p.ya).1.fQ;simp;omega
   ·have:=h.2 k;omega
  ·refine⟨by have:=h.1;simp;omega,fun k=>by have:=h.2 k;show((xx s.lk k []).length:Int)<=_;omega⟩
 ·exact⟨by have:=h.1;omega,fun k=>by have:=h.2 k;omega⟩
theorem YL{c:Cf}{rs:List (List Hop)}{de:DM}{p:Pl}{k:List (List B)->Int->Int->List (Int×List Int)->BM->Option CR}(hv:fr c)(hl:rs.length=c.yd.length)(hr:∀ r∈rs,r.length<1000000000)(hs:rs.length<=1000):
  ∀(n:Nat) (v:Int) (s:CS),0<=v->v<=rs.length->rs.length<n+v->((s.own.length:Int)<=v/\∀ k,((xx s.lk k []).length:Int)<=v)->
   jb rs p c de k n s.own s.most v s.e s.lk s.bu=(fun t:CS=>k t.own t.most t.e t.lk t.bu) ((vJ v (rs.length-v.toNat)).foldl (t6 c rs de p) s)
 | 0,v,s,h0,h1,h2,h3=>by omega
 | n+1,v,s,h0,h1,h2,h3=>by
  rw[jb]
  by_cases h:v<rs.length
  ·have hb:0<=v/\v<(c.yd.length:Int):=⟨h0,by omega⟩
   rw[if_pos (decide_eq_true h),show rs.length-v.toNat=(rs.length-(v+1).toNat)+1 by omega,vJ,List.foldl_cons]
   refine Wi (P:=fun o=>o=_) fun k1 mV=>?_
   have AY:∀ t:CS,t=t6 c rs de p s v->k1 t.own t.most t.e t.lk t.bu=(fun t:CS=>k t.own t.most t.e t.lk t.bu) ((vJ (v+1) (rs.length-(v+1).toNat)).foldl (t6 c rs de p) (t6 c rs de p s v)):=fun t ht=>by
    subst ht
    rw[mV,xD (x:=v+1) (by omega)]
    exact YL hv hl hr hs n (v+1) _ (by omega) (by omega) (by omega) (YK h3)
   rw[xr ⟨h0,h⟩,Gr (hr _ (w4 h0 h)),oB]
   cases hu:mK p (nth rs v) with
   | false=>
    rw[if_pos (by rfl)]
    refine AY s ?_
    unfold t6;simp only[hu];rfl
   | true=>
    rw[if_neg (by simp),xr hb,xr hb]
    unfold qU
    rw[oB]
    refine Wi (P:=fun o=>o=_) fun k2 lN=>?_
    rw[Yh (hr _ (w4 h0 h)),oB]
    cases hg:(j6 (nth rs v) p.ya).2 with
    | true=>
     rw[if_pos rfl,aB,oB,Ym hv hb,oB,oB,oB]
     rw[Xi (f:=fun y0 y1=>kd y0 y1) (KP _ _).1,oB]
     rw[Xi (f:=fun y0 y1=>vb y0 y1) (bB _ _).1,oB]
     have:=h3.2 (j6 (nth rs v) p.ya).1.fQ
     rw[xr (by simp;omega),lN]
     refine Eq.trans ?_ (AY _ rfl)
     have e:t6 c rs de p s v=t6 c rs de p s v:=rfl
     conv at e=>rhs;unfold t6
     simp only[hu,hg,if_true,if_false,Bool.false_eq_true] at e
     rw[e]
     rfl
    | false=>
     rw[if_neg (by simp),Ym hv hb,oB]
     have:=h3.1
     rw[xr (by simp;omega),lN]
     refine Eq.trans ?_ (AY _ rfl)
     have e:t6 c rs de p s v=t6 c rs de p s v:=rfl
     conv at e=>rhs;unfold t6
     simp only[hu,hg,if_true,if_false,Bool.false_eq_true] at e
     rw[e]
     rfl
  ·rw[if_neg (by simpa using h),show rs.length-v.toNat=0 by omega];rfl
structure GS where
 wide:Int
 e:Int
 b:R
 r:R
def gst(c:Cf)(bu:BM)(p:Pl)(s:GS)(v:Int):GS:=
 let x:=DO s.e (ng s.b (xx bu ⟨v,p⟩ ⟨0,0⟩))
 let y:=DO x.2 (ng s.r (RT c v))
 ⟨max s.wide (mx c v),y.2,x.1,y.1⟩
theorem aR{c:Cf}{rs:List (List Hop)}{lk:List (Int×List Int)}{q:Int}{bu:BM}{de:DM}{p:Pl}{k:Int->Int->Int->Int->Int->Int->Option CR}(hv:fr c)(hl:∀ v∈xx lk q [],0<=v/\v<c.yd.length)(hs:(xx lk q []).length<=1000):
  ∀(n:Nat) (i:Int) (s:GS),0<=i->i<=(xx lk q []).length->(xx lk q []).length<n+i->
   jc lk q c rs bu de p k n s.wide i s.e s.b.fN s.b.fD s.r.fN s.r.fD=(fun t:GS=>k t.wide t.e t.b.fN t.b.fD t.r.fN t.r.fD) (((xx lk q []).drop i.toNat).foldl (gst c bu p) s)
 | 0,v,s,h0,h1,h2=>by omega
 | n+1,i,s,h0,h1,h2=>by
  rw[jc]
  by_cases h:i<(xx lk q []).length
  ·have hb:=hl _ (w4 h0 h)
   rw[if_pos (decide_eq_true h),xr ⟨h0,h⟩,va h0 h,List.foldl_cons]
   rw[Xi (f:=fun y0 y1=>vb y0 y1) (bB _ _).1,oB,Ym hv hb,oB,Xi (f:=fun y0 y1=>vb y0 y1) (bB _ _).1,oB,xr hb,xD (x:=i+1) (by omega)]
   have e2:(i+1).toNat=i.toNat+1:=by omega
   have:=aR (rs:=rs) (de:=de) (bu:=bu) (p:=p) (k:=k) hv hl hs n (i+1) (gst c bu p s (nth (xx lk q []) i)) (by omega) (by omega) (by omega)
   rw[e2] at this
   exact this
  ·rw[if_neg (by simpa using h),List.drop_eq_nil_of_le (by omega)];rfl
def lA(c:Cf)(lk:List (Int×List Int))(bu:BM)(p:Pl)(s:List (List B)×Int)(q:Int):List (List B)×Int:=
 if xx lk q []=[] then s else
  let g:=(xx lk q []).foldl (gst c bu p) ⟨0,s.2,⟨0,1⟩,⟨0,1⟩⟩
  (s.1++[[⟨g.b,g.r⟩,⟨⟨g.wide,1⟩,⟨1,(nth c.fK q).yj⟩⟩]],g.e)
theorem YM{c:Cf}{rs:List (List Hop)}{lk:List (Int×List Int)}{bu:BM}{de:DM}{p:Pl}{k:List (List B)->Int->Option CR}(hv:fr c)(hl:∀ q,∀ v∈xx lk q [],0<=v/\v<c.yd.length)(hs:∀ q,(xx lk q []).length<=1000)(hL:c.fK.length<=1000):
  ∀(n:Nat) (q:Int) (s:List (List B)×Int),0<=q->q<=c.fK.length->c.fK.length<n+q->(s.1.length:Int)<=q->
   jd c lk rs bu de p k n s.1 q s.2=(fun t:List (List B)×Int=>k t.1 t.2) ((vJ q (c.fK.length-q.toNat)).foldl (lA c lk bu p) s)
 | 0,v,s,h0,h1,h2,h3=>by omega
 | n+1,q,s,h0,h1,h2,h3=>by
  rw[jd]
  by_cases h:q<c.fK.length
  ·rw[if_pos (decide_eq_true h),show c.fK.length-q.toNat=(c.fK.length-(q+1).toNat)+1 by omega,vJ,List.foldl_cons]
   refine ct (P:=fun o=>o=_) fun k1 mV=>?_
   have iS:((lA c lk bu p s q).1.length:Int)<=q+1:=by
    unfold lA;split
    ·omega
    ·simp;omega
   have AY:∀ t:List (List B)×Int,t=lA c lk bu p s q->k1 t.1 t.2=(fun t:List (List B)×Int=>k t.1 t.2) ((vJ (q+1) (c.fK.length-(q+1).toNat)).foldl (lA c lk bu p) (lA c lk bu p s q)):=fun t ht=>by
    subst ht
    rw[mV,xD (x:=q+1) (by omega)]
    exact YM hv hl hs hL n (q+1) _ (by omega) (by omega) (by omega) iS
   by_cases hz:xx lk q []=[]
   ·rw[if_pos (by simp[hz])]
    refine AY s ?_
    unfold lA;rw[if_pos hz]
   ·rw[if_neg (by simpa using hz)]
    unfold qU
    rw[oB,oB]
    refine GJ (P:=fun o=>o=_) fun k2 lN=>?_
    have:=aR (rs:=rs) (de:=de) (k:=k2) (bu:=bu) (p:=p) hv (hl q) (hs q) xC 0 ⟨0,s.2,⟨0,1⟩,⟨0,1⟩⟩ (by omega) (by omega) (by rw[xN];have:=hs q;omega)
    simp only[Int.toNat_zero,List.drop_zero] at this
    rw[this,lN,oB,xr ⟨h0,h⟩,xr (by simp;omega)]
    refine AY (_,_) ?_
    unfold lA;rw[if_neg hz]
  ·rw[if_neg (by simpa using h),show c.fK.length-q.toNat=0 by omega];rfl
theorem Jq{c:Cf}{rs:List (List Hop)}{de:DM}{p:Pl}:∀(n:Nat) (v:Int) (s:CS),0<=v->((s.own.length:Int)<=v/\∀ k,((xx s.lk k []).length:Int)<=v)->(∀ k,∀ x∈xx s.lk k [],0<=x/\x<v)->
  (((vJ v n).foldl (t6 c rs de p) s).own.length:Int)<=v+n/\(∀ k,((xx ((vJ v n).foldl (t6 c rs de p) s).lk k []).length:Int)<=v+n)/\∀ k,∀ x∈xx ((vJ v n).foldl (t6 c rs de p) s).lk k [],0<=x/\x<v+n
 | 0,v,s,_,h,h2=>⟨by have:=h.1;show(s.own.length:Int)<=_;omega,fun k=>by have:=h.2 k;show((xx s.lk k []).length:Int)<=_;omega,fun k x hx=>by have:=h2 k x hx;omega⟩
 | n+1,v,s,h0,h,h2=>by
  rw[vJ,List.foldl_cons]
  obtain⟨a1,a2,a3⟩:=Jq (c:=c) (rs:=rs) (de:=de) (p:=p) n (v+1) (t6 c rs de p s v) (by omega) (YK h) (fun k x hx=>by
   unfold t6 at hx
   simp only at hx
   split at hx
   ·split at hx
    ·rw[show(CS.lk ⟨_,_,_,_,_⟩)=xT s.lk _ _ from rfl,qP] at hx
     split at hx
     ·rcases List.mem_append.1 hx with hx | hx
      ·have:=h2 _ x hx;omega
      ·rw[List.mem_singleton] at hx;omega
     ·have:=h2 k x hx;omega
    ·have:=h2 k x hx;omega
   ·have:=h2 k x hx;omega)
  exact⟨by omega,fun k=>by have:=a2 k;omega,fun k x hx=>by have:=a3 k x hx;omega⟩
def CU(c:Cf)(rs:List (List Hop))(bu:BM)(de:DM)(e:Int)(p:Pl):CR:=
 let s:=(vJ 0 rs.length).foldl (t6 c rs de p) ⟨[],0,e,[],bu⟩
 let g:=(vJ 0 c.fK.length).foldl (lA c s.lk s.bu p) ([],s.e)
 (s.own++g.1,s.most,g.2,s.bu)
theorem VP{c:Cf}{lk:List (Int×List Int)}{bu:BM}{p:Pl}:∀(n:Nat) (q:Int) (s:List (List B)×Int),((vJ q n).foldl (lA c lk bu p) s).1.length<=s.1.length+n
 | 0,q,s=>by show s.1.length<=_;omega
 | n+1,q,s=>by
  rw[vJ,List.foldl_cons]
  have h1:=VP (c:=c) (lk:=lk) (bu:=bu) (p:=p) n (q+1) (lA c lk bu p s q)
  have h2:(lA c lk bu p s q).1.length<=s.1.length+1:=by
   unfold lA;split
   ·omega
   ·simp
  omega
theorem Jr{c:Cf}{rs:List (List Hop)}{bu:BM}{de:DM}{e:Int}{p:Pl}(hv:fr c)(hl:rs.length=c.yd.length)(hr:∀ r∈rs,r.length<1000000000)(hs:rs.length<=16)(hL:c.fK.length<=20):
  ff c rs bu de e p=some (CU c rs bu de e p)/\(CU c rs bu de e p).1.length<=36:=by
 obtain⟨a1,a2,a3⟩:=Jq (c:=c) (rs:=rs) (de:=de) (p:=p) rs.length 0 ⟨[],0,e,[],bu⟩ (by omega) ⟨by simp,fun k=>by simp[xx]⟩ (fun k x hx=>by simp[xx] at hx)
 have iS:(CU c rs bu de e p).1.length<=36:=by
  unfold CU
  simp only[List.length_append]
  have:=VP (c:=c) (lk:=((vJ 0 rs.length).foldl (t6 c rs de p) ⟨[],0,e,[],bu⟩).lk) (bu:=((vJ 0 rs.length).foldl (t6 c rs de p) ⟨[],0,e,[],bu⟩).bu) (p:=p) c.fK.length 0 ([],((vJ 0 rs.length).foldl (t6 c rs de p) ⟨[],0,e,[],bu⟩).e)
  simp only[List.length_nil,Nat.zero_add] at this
  omega
 refine⟨?_,iS⟩
 unfold ff
 refine Wi (P:=fun o=>o=_) fun k hk=>?_
 have h1:=YL (k:=k) (p:=p) (de:=de) hv hl hr (by omega) xC 0 ⟨[],0,e,[],bu⟩ (by omega) (by omega) (by rw[xN];omega) ⟨by simp,fun k=>by simp[xx]⟩
 simp only[Int.toNat_zero,Nat.sub_zero] at h1
 rw[h1,hk]
 refine ct (P:=fun o=>o=_) fun k2 lN=>?_
 have h2:=YM (rs:=rs) (de:=de) (p:=p) (k:=k2) (bu:=((vJ 0 rs.length).foldl (t6 c rs de p) ⟨[],0,e,[],bu⟩).bu) hv (fun q v hx=>by have:=a3 q v hx;omega) (fun q=>by have:=a2 q;omega) (by omega) xC 0 ([],((vJ 0 rs.length).foldl (t6 c rs de p) ⟨[],0,e,[],bu⟩).e) (by omega) (by omega) (by rw[xN];omega) (by simp)
 simp only[Int.toNat_zero,Nat.sub_zero] at h2
 rw[h2,lN]
 unfold CU at iS
 simp only at iS
 rw[xr (by omega)]
 rfl
end
section
variable {rs:List (List Hop)}{de:DM}{net v:Int}
/-! ### a port -/
def er(x:Int):Int:=if x=6 then 352 else x
def fe(e a b:Int):Int:=if (if e=0 then er a else e)=0 then er b else(if e=0 then er a else e)
theorem Js{x y:R×Int}{k:Int->Option (PB×Int×BM×DM)}(e:Int):vS x y k xC 0 e=k (fe e x.2 y.2):=by
 have hF:xC=(xC-3)+3:=by rw[xN]
 rw[hF]
 generalize xC-3=N
 have tu:∀(n:Nat) (v e a:Int),0<=v->v<2->nth ([x.2,y.2]:List Int) v=a->vS x y k (n+1) v e=vS x y k n (v+1) (if e=0 then er a else e):=by
  intro n v e a h0 h1 ha
  rw[vS,if_pos (by simp;omega)]
  refine w8 (P:=fun o=>o=_) fun k1 mV=>?_
  rw[xr (by simp;omega)]
  refine w8 (P:=fun o=>o=_) fun k2 lN=>?_
  rw[ha]
  have e1:(if decide (a=6)=true then k2 352 else k2 a)=k2 (er a):=by
   unfold er;by_cases h:a=6 <;> simp[h]
  have e2:(if decide (e=0)=true then k1 (er a) else k1 e)=k1 (if e=0 then er a else e):=by
   by_cases h:e=0 <;> simp[h]
  rw[e1,lN,e2,mV,xD (x:=v+1) (by omega)]
 rw[tu (N+2) 0 e x.2 (by omega) (by omega) rfl,tu (N+1) (0+1) _ y.2 (by omega) (by omega) rfl,vS,if_neg (by simp)]
 rfl
def DL(l:List (List B))(s:SV):R×Int:=if pj l s=0 then YI (dv l s) (oG l []) else(⟨0,0⟩,pj l s)
def BL(l:List (List B))(s:SV):R×Int:=if pj l s=0 then YI (bv l s) (oG l [s.fL]) else(⟨0,0⟩,pj l s)
theorem Kq{l:List (List B)}{s:SV}(hl:l.length<=40):mJ l s=some (DL l s):=by
 unfold mJ DL
 rw[GH hl (by simp),oB]
theorem QF{l:List (List B)}{s:SV}(hl:l.length<=40):fI l s=some (BL l s):=by
 unfold fI BL
 rw[Gq hl (by simp),oB]
def lat(c:Cf)(p:Pl):Int:=if p.ya-nM c>=0 then(nth c.fS (p.ya-nM c)).yf else 0
def srv(c:Cf)(p:Pl):SV:=⟨⟨1,(nth c.fK p.fQ).yj⟩,⟨lat c p,1⟩⟩
def PO(c:Cf)(rs:List (List Hop))(bu:BM)(de:DM)(e:Int)(p:Pl):PB×Int×BM×DM:=
 let u:=CU c rs bu de e p
 let d:=DL u.1 (srv c p)
 let b:=BL u.1 (srv c p)
 (⟨p.ya,p.fQ,flr d.1,i64 (flr b.1+u.2.1)⟩,fe u.2.2.1 d.2 b.2,u.2.2.2,xT de p (flr d.1))
structure PI (c:Cf) (p:Pl):Prop where
 l0:0<=p.fQ
 l1:p.fQ<c.fK.length
 n0:0<=p.ya
 n1:p.ya<nN c
theorem Gs{c:Cf}{bu:BM}{e:Int}{p:Pl}(hv:fr c)(hl:rs.length=c.yd.length)(hr:∀ r∈rs,r.length<1000000000)(hs:rs.length<=16)(hL:c.fK.length<=20)(hS:Small c)(hp:PI c p):
  mu c rs bu de e p=some (PO c rs bu de e p):=by
 unfold mu
 obtain⟨a1,a2⟩:=Jr (bu:=bu) (de:=de) (e:=e) (p:=p) hv hl hr hs hL
 have DV:=hp.n1;have hn0:=hp.n0;have hm:=hS.m;have hsw:=hS.s
 unfold nN at DV
 rw[a1,oB]
 refine ct (P:=fun o=>o=_) fun k hk=>?_
 have hlat:(if decide ((i64 (p.ya-((c.fM.length:Nat):Int)))>=0) then chk ((0:Int)<=(i64 (p.ya-((c.fM.length:Nat):Int)))/\(i64 (p.ya-((c.fM.length:Nat):Int)))<((c.fS.length:Nat):Int)) (k (CU c rs bu de e p).1 ((nth c.fS (i64 (p.ya-((c.fM.length:Nat):Int)))).yf)) else k (CU c rs bu de e p).1 0)=k (CU c rs bu de e p).1 (lat c p):=by
  rw[xD (x:=p.ya-((c.fM.length:Nat):Int)) (by omega)]
  unfold lat nM
  by_cases h:p.ya-((c.fM.length:Nat):Int)>=0
  ·rw[if_pos (decide_eq_true h),xr ⟨h,by omega⟩,if_pos h]
  ·rw[if_neg (by simpa using h),if_neg h]
 rw[hlat,hk,xr ⟨hp.l0,hp.l1⟩]
 unfold qU
 rw[oB,Kq (by omega),oB,QF (by omega),oB]
 refine w8 (P:=fun o=>o=_) fun k2 lN=>?_
 rw[Js,lN]
 rw[(eK _).1,oB,(eK _).1,oB,cn]
 rfl
/-! ### all ports -/
structure WS where
 out:List PB
 e:Int
 bu:BM
 de:DM
def Wj(c:Cf)(rs:List (List Hop))(s:WS)(p:Pl):WS:=let x:=PO c rs s.bu s.de s.e p;⟨s.out++[x.1],x.2.1,x.2.2.1,x.2.2.2⟩
def oC(c:Cf)(rs:List (List Hop)):List Pl->WS->WS ⊕ Int
 | [],s => .inl s
 | p::l,s=>if (Wj c rs s p).e≠0 then .inr (Wj c rs s p).e else oC c rs l (Wj c rs s p)
theorem aS{c:Cf}{rs:List (List Hop)}{l:List Pl×Int}{k:List PB->Option (yw×Int)}(hv:fr c)(hl:rs.length=c.yd.length)(hr:∀ r∈rs,r.length<1000000000)(hs:rs.length<=16)(hL:c.fK.length<=20)(hS:Small c)(hp:∀ p∈l.1,PI c p)(zs:l.1.length<=100000):
  ∀(n:Nat) (v:Int) (s:WS),0<=v->v<=l.1.length->l.1.length<n+v->s.out.length=v->
   j4 l c rs k n v s.e s.out s.bu s.de=match oC c rs (l.1.drop v.toNat) s with | .inl t=>k t.out | .inr e=>some (⟨[],[]⟩,e)
 | 0,v,s,h0,h1,h2,h3=>by omega
 | n+1,v,s,h0,h1,h2,h3=>by
  rw[j4]
  by_cases h:v<l.1.length
  ·rw[if_pos (decide_eq_true h),xr ⟨h0,h⟩,va h0 h]
   have e:(⟨(nth l.1 v).ya,(nth l.1 v).fQ⟩:z7)=nth l.1 v:=rfl
   rw[e,Gs hv hl hr hs hL hS (hp _ (w4 h0 h)),oB,xr (by simp;omega),oC]
   by_cases he:(Wj c rs s (nth l.1 v)).e≠0
   ·rw[if_pos he,if_pos (by exact decide_eq_true he)];rfl
   ·rw[if_neg he,if_neg (by rw[decide_eq_true_eq];exact he),xD (x:=v+1) (by omega)]
    have:=aS (k:=k) hv hl hr hs hL hS hp zs n (v+1) (Wj c rs s (nth l.1 v)) (by omega) (by omega) (by omega) (by simp[Wj];omega)
    rw[show(v+1).toNat=v.toNat+1 by omega] at this
    exact this
  ·rw[if_neg (by simpa using h),List.drop_eq_nil_of_le (by omega)];rfl
/-! ### sorting -/
def we(b:PB):Pl:=⟨b.ya,b.fQ⟩
theorem Jt{l:List PB}(hn:(l.map we).Nodup)(hs:l.length<=1000000):
  wc l (fun y0 y1=>qc y0 y1)=some (w6 qc l)/\(w6 qc l).Pairwise fun a b=>¬fV (we b) (we a):=by
 have Aq:∀ x∈l,∀ y∈l,we x=we y->x=y:=by
  intro x hx y hy e
  obtain⟨i,hi,rfl⟩:=List.getElem_of_mem hx
  obtain⟨j,hj,rfl⟩:=List.getElem_of_mem hy
  have h1:(l.map we)[i]'(by simpa using hi)=(l.map we)[j]'(by simpa using hj):=by simpa using e
  have:=(List.getElem_inj (h₀:=by simpa using hi) (h₁:=by simpa using hj) hn).1 h1
  subst this;rfl
 obtain⟨ho,zH⟩:=co (p:=qc) (lt:=fun a b=>fV (we a) (we b)) (l:=l) (fun x _ y _=>by
  obtain⟨v,e1,e2⟩:=aC (we x) (we y)
  refine⟨v,?_,e2⟩
  unfold qc
  rw[show(⟨x.ya,x.fQ⟩:z7)=we x from rfl,show(⟨y.ya,y.fQ⟩:z7)=we y from rfl,e1];rfl) (fun x y=>bh _ _) (fun x y z=>XV _ _ _) (fun x hx y hy h1 h2=>Aq x hx y hy (aD _ _ h1 h2))
 refine⟨?_,zH⟩
 unfold wc gb qN
 rw[eD (by omega),xr (by omega),oB]
 have hb:=bf l.length (by omega)
 rw[Int.toNat_natCast,xr ⟨⟨rfl,rfl⟩,by omega,by omega,by omega⟩,xr ho,oB]
/-! ### the ends -/
theorem YN{r:List Hop}{k:Option Bool}(hl:r.length<1000000000):∀(n:Nat) (v:Int),0<=v->v<=r.length->r.length<n+v->
  ((∃ q:Int,v<=q/\q<r.length/\(j6 (r.take q.toNat) (nth r q).ya).2=false/\(nth r q).ya≠(nth r 0).ya)/\kY r k n v=some false) \/
  ((∀ q:Int,v<=q->q<r.length->(j6 (r.take q.toNat) (nth r q).ya).2=true\/(nth r q).ya=(nth r 0).ya)/\kY r k n v=k)
 | 0,v,h0,h1,h2=>by omega
 | n+1,v,h0,h1,h2=>by
  rw[kY]
  by_cases h:v<r.length
  ·rw[if_pos (decide_eq_true h),xr ⟨h0,h⟩,xr ⟨by omega,h0,by omega⟩,Yh (by rw[List.length_take];omega),oB,xr (fun _=>⟨by omega,by omega⟩)]
   by_cases hc:(!(j6 (r.take v.toNat) (nth r v).ya).2&&decide ((nth r v).ya≠(nth r 0).ya))=true
   ·rw[if_pos hc]
    simp only[Bool.and_eq_true,Bool.not_eq_true',decide_eq_true_eq] at hc
    exact .inl ⟨⟨v,by omega,h,hc.1,hc.2⟩,rfl⟩
   ·rw[if_neg hc,xD (x:=v+1) (by omega)]
    have xE:(j6 (r.take v.toNat) (nth r v).ya).2=true\/(nth r v).ya=(nth r 0).ya:=by
     simp only[Bool.and_eq_true,Bool.not_eq_true',decide_eq_true_eq] at hc
     by_cases h5:(nth r v).ya=(nth r 0).ya
     ·exact .inr h5
     ·refine .inl ?_
      cases h6:(j6 (r.take v.toNat) (nth r v).ya).2 with
      | true=>rfl
      | false=>exact absurd ⟨h6,h5⟩ hc
    rcases YN hl n (v+1) (by omega) (by omega) (by omega) (k:=k) with⟨⟨q,q1,q2⟩,h3⟩ | ⟨h3,h4⟩
    ·exact .inl ⟨⟨q,by omega,q2⟩,h3⟩
    ·refine .inr ⟨fun q q1 q2=>?_,h4⟩
     by_cases e:q=v
     ·rw[e];exact xE
     ·exact h3 q (by omega) q2
  ·rw[if_neg (by simpa using h)]
   exact .inr ⟨fun q q1 q2=>by omega,rfl⟩
theorem VR.tree{c:Cf}{r:List Hop}(h:VR c net r):sB r=some true:=by
 have hl:=h.len
 unfold sB
 have hF:=xN
 generalize xC=N at hF ⊢
 refine qL (P:=fun o=>o=some true) fun k hk=>?_
 rcases YN (k:=k) (by omega) N 0 (by omega) (by omega) (by omega) (r:=r) with⟨⟨q,q1,q2,q3,q4⟩,h5⟩ | ⟨h3,h4⟩
 ·exfalso
  have hc:=(h.cond q q1 q2).1
  rcases hc with hc | ⟨j,j0,j1,j2⟩
  ·exact q4 hc
  ·have hm:nth r j∈r.take q.toNat:=by
    rw[jT ⟨j0,by omega⟩]
    have:(r.take q.toNat)[j.toNat]'(by simp;omega)=r[j.toNat]'(by omega):=List.getElem_take
    rw[<- this];exact List.getElem_mem _
   have:=nG hm
   rw[j2,q3] at this;cases this
 ·rw[h4,hk]
abbrev SM:=List (Int×Int)
structure ES where
 ends:List zf
 sum:SM
def sU(c:Cf)(r:List Hop)(de:DM)(vl:Int)(s:ES)(h:Hop):ES:=
 if ji s.sum h.fX||decide (h.fX=(nth r 0).ya) then s else
  let m:=xT s.sum h.fX (i64 (xx s.sum h.ya 0+xx de (pk h) 0))
  ⟨if 0<=h.fX/\h.fX<nM c then s.ends++[⟨vl,h.fX,xx m h.fX 0⟩] else s.ends,m⟩
theorem Wl{c:Cf}{rs:List (List Hop)}{v:Int}{de:DM}{k:List zf->Option (List zf)}(h0v:0<=v/\v<rs.length)(hl:(nth rs v).length<=1000):∀(n:Nat) (i:Int) (s:ES),0<=i->i<=(nth rs v).length->(nth rs v).length<n+i->(s.ends.length:Int)<=i->
  gR rs v c de k n s.ends i s.sum=k (((nth rs v).drop i.toNat).foldl (sU c (nth rs v) de v) s).ends
 | 0,i,s,h0,h1,h2,h3=>by omega
 | n+1,i,s,h0,h1,h2,h3=>by
  rw[gR]
  by_cases h:i<(nth rs v).length
  ·rw[if_pos (decide_eq_true h),va h0 h,List.foldl_cons]
   refine ct (P:=fun o=>o=_) fun k1 mV=>?_
   have iS:((sU c (nth rs v) de v s (nth (nth rs v) i)).ends.length:Int)<=i+1:=by
    unfold sU
    simp only
    split
    ·omega
    ·show(((if _ then _ else _:List zf)).length:Int)<=_
     split
     ·simp;omega
     ·omega
   have AY:∀ t:ES,t=sU c (nth rs v) de v s (nth (nth rs v) i)->k1 t.ends t.sum=k (((nth rs v).drop (i.toNat+1)).foldl (sU c (nth rs v) de v) (sU c (nth rs v) de v s (nth (nth rs v) i))).ends:=fun t ht=>by
    subst ht
    rw[mV,xD (x:=i+1) (by omega)]
    have:=Wl (k:=k) (c:=c) (de:=de) h0v hl n (i+1) (sU c (nth rs v) de v s (nth (nth rs v) i)) (by omega) (by omega) (by omega) iS
    rw[show(i+1).toNat=i.toNat+1 by omega] at this
    exact this
   rw[xr ⟨h0,h⟩,xr (fun _=>⟨by omega,by omega⟩)]
   by_cases hc:(ji s.sum ((nth (nth rs v) i).fX)||decide ((nth (nth rs v) i).fX=(nth (nth rs v) 0).ya))=true
   ·rw[if_pos hc]
    refine AY s ?_
    unfold sU;rw[if_pos hc]
   ·rw[if_neg hc,aB,oB]
    by_cases hn:0<=(nth (nth rs v) i).fX/\(nth (nth rs v) i).fX<nM c
    ·rw[if_pos (by have:=hn.2;unfold nM at this;simp only[Bool.and_eq_true,decide_eq_true_eq];exact⟨hn.1,this⟩),xr (by simp;omega)]
     refine AY ⟨_,_⟩ ?_
     unfold sU;rw[if_neg hc];simp only;rw[if_pos hn]
    ·rw[if_neg (by unfold nM at hn;simp only[Bool.and_eq_true,decide_eq_true_eq];exact hn)]
     refine AY ⟨s.ends,xT s.sum (nth (nth rs v) i).fX (i64 (xx s.sum (nth (nth rs v) i).ya 0+xx de (pk (nth (nth rs v) i)) 0))⟩ ?_
     unfold sU;rw[if_neg hc];simp only;rw[if_neg hn]
  ·rw[if_neg (by simpa using h),List.drop_eq_nil_of_le (by omega)];rfl
structure EI (c:Cf) (vl:Int) (s:ES):Prop where
 nd:(s.ends.map (·.ya)).Nodup
 vl:∀ x∈s.ends,x.yL=vl/\0<=x.ya/\x.ya<nM c/\ji s.sum x.ya=true
theorem EI.step{c:Cf}{r:List Hop}{s:ES}{h:Hop}(hi:EI c v s):EI c v (sU c r de v s h):=by
 unfold sU
 split
 ·exact hi
 ·rename_i hc
  simp only[Bool.or_eq_true,not_or,decide_eq_true_eq,Bool.not_eq_true] at hc
  simp only
  have hk:∀ n,ji s.sum n=true->ji (xT s.sum h.fX (i64 (xx s.sum h.ya 0+xx de (pk h) 0))) n=true:=fun n hn=>by rw[bd,hn];simp
  split
  ·rename_i hn
   refine⟨?_,fun x hx=>?_⟩
   ·rw[List.map_append]
    refine List.nodup_append.2 ⟨hi.nd,by simp,fun a ha b hb=>?_⟩
    simp at hb;subst hb
    rintro rfl
    obtain⟨x,hx,e⟩:=List.mem_map.1 ha
    have:=(hi.vl x hx).2.2.2
    rw[e,hc.1] at this;cases this
   ·rcases List.mem_append.1 hx with hx | hx
    ·obtain⟨a1,a2,a3,a4⟩:=hi.vl x hx
     exact⟨a1,a2,a3,hk _ a4⟩
    ·rw[List.mem_singleton] at hx;subst hx
     exact⟨rfl,hn.1,hn.2,by show ji (xT _ _ _) h.fX=true;rw[bd];simp⟩
  ·exact⟨hi.nd,fun x hx=>by obtain⟨a1,a2,a3,a4⟩:=hi.vl x hx;exact⟨a1,a2,a3,hk _ a4⟩⟩
theorem EI.fold{c:Cf}{r:List Hop}{de:DM}{v:Int}:∀(hs:List Hop) {s:ES},EI c v s->EI c v (hs.foldl (sU c r de v) s)
 | [],_,hi=>hi
 | h::hs,_,hi=>by rw[List.foldl_cons];exact EI.fold hs hi.step
def VE(c:Cf)(rs:List (List Hop))(de:DM)(v:Int):List zf:=((nth rs v).foldl (sU c (nth rs v) de v) ⟨[],[]⟩).ends
theorem Ju(c:Cf)(rs:List (List Hop))(de:DM)(v:Int):EI c v ((nth rs v).foldl (sU c (nth rs v) de v) ⟨[],[]⟩):=EI.fold _ ⟨by simp,by simp⟩
theorem Jv{c:Cf}:(VE c rs de v).length<=(nth rs v).length:=by
 unfold VE
 have:∀(hs:List Hop) (s:ES),(hs.foldl (sU c (nth rs v) de v) s).ends.length<=s.ends.length+hs.length:=by
  intro hs
  induction hs with
  | nil=>intro s;simp
  | cons h hs ih=>
   intro s
   rw[List.foldl_cons]
   have h1:=ih (sU c (nth rs v) de v s h)
   have h2:(sU c (nth rs v) de v s h).ends.length<=s.ends.length+1:=by
    unfold sU
    split
    ·omega
    ·simp only;split
     ·simp
     ·omega
   rw[List.length_cons];omega
 have:=this (nth rs v) ⟨[],[]⟩
 simpa using this
def dT(a b:zf):Prop:=a.ya<b.ya
theorem Kr{c:Cf}{l:List zf}(hS:Small c)(hn:(l.map (·.ya)).Nodup)(hb:∀ x∈l,x.yL=v/\0<=x.ya/\x.ya<nM c)(hs:l.length<=1000000):
  ql l (fun y0 y1=>vj y0 y1)=some (w6 vj l):=by
 have hm:=hS.m
 have Aq:∀ x∈l,∀ y∈l,x.ya=y.ya->x=y:=by
  intro x hx y hy e
  obtain⟨i,hi,rfl⟩:=List.getElem_of_mem hx
  obtain⟨j,hj,rfl⟩:=List.getElem_of_mem hy
  have h1:(l.map (·.ya))[i]'(by simpa using hi)=(l.map (·.ya))[j]'(by simpa using hj):=by simpa using e
  have:=(List.getElem_inj (h₀:=by simpa using hi) (h₁:=by simpa using hj) hn).1 h1
  subst this;rfl
 obtain⟨ho,_⟩:=co (p:=vj) (lt:=dT) (l:=l) (fun x hx y hy=>by
  have h1:=hb x hx;have h2:=hb y hy
  unfold nM at h1 h2
  refine⟨_,rfl,?_⟩
  rw[xD (by omega)]
  unfold dT
  omega) (fun x y=>by unfold dT;omega) (fun x y z=>by unfold dT;omega) (fun x hx y hy h1 h2=>Aq x hx y hy (by unfold dT at h1 h2;omega))
 unfold ql gb gJ
 rw[eD (by omega),xr (by omega),oB]
 have hb:=bf l.length (by omega)
 rw[Int.toNat_natCast,xr ⟨⟨rfl,rfl⟩,by omega,by omega,by omega⟩,xr ho,oB]
theorem VQ{c:Cf}{rs:List (List Hop)}{de:DM}{k:List zf->Option (List zf)}(hS:Small c)(hr:∀ r∈rs,r.length<=1000)(hl:rs.length<=100):∀(n:Nat) (v:Int) (o:List zf),0<=v->v<=rs.length->rs.length<n+v->(o.length:Int)<=1000*v->
  gS rs c de k n o v=k (o++(vJ v (rs.length-v.toNat)).flatMap fun v=>w6 vj (VE c rs de v))
 | 0,v,o,h0,h1,h2,h3=>by omega
 | n+1,v,o,h0,h1,h2,h3=>by
  rw[gS]
  by_cases h:v<rs.length
  ·have Ay:=hr _ (w4 h0 h)
   rw[if_pos (decide_eq_true h),show rs.length-v.toNat=(rs.length-(v+1).toNat)+1 by omega,vJ,List.flatMap_cons]
   refine w8 (P:=fun x=>x=_) fun k1 mV=>?_
   rw[xr ⟨h0,h⟩]
   refine w8 (P:=fun x=>x=_) fun k2 lN=>?_
   have h4:=Wl (k:=k2) (c:=c) (de:=de) ⟨h0,h⟩ Ay xC 0 ⟨[],[]⟩ (by omega) (by omega) (by rw[xN];omega) (by simp)
   simp only[Int.toNat_zero,List.drop_zero] at h4
   have hi:=Ju c rs de v
   have iS:=Jv (c:=c) (rs:=rs) (de:=de) (v:=v)
   rw[h4,lN]
   have hi1:((VE c rs de v).map (·.ya)).Nodup:=hi.nd
   have hi2:∀ x∈VE c rs de v,x.yL=v/\0<=x.ya/\x.ya<nM c:=fun x hx=>by obtain⟨a1,a2,a3,_⟩:=hi.vl x hx;exact⟨a1,a2,a3⟩
   rw[show((nth rs v).foldl (sU c (nth rs v) de v) ⟨[],[]⟩).ends=VE c rs de v from rfl]
   rw[Kr (v:=v) hS hi1 hi2 (by omega),oB]
   have Dz:=mj vj (VE c rs de v)
   rw[xr (by rw[List.length_append];omega),mV,xD (x:=v+1) (by omega),VQ hS hr hl n (v+1) _ (by omega) (by omega) (by omega) (by rw[List.length_append];omega),List.append_assoc]
  ·rw[if_neg (by simpa using h),show rs.length-v.toNat=0 by omega];simp[vJ]
def wx(l:List PB):DM:=l.foldr (fun b m=>xT m (we b) b.yf) []
theorem Wm{l:List PB}{k:DM->Option (List zf)}(hl:l.length<=1000000):∀(n:Nat) (i:Int) (m:DM),-1<=i->i<l.length->i+1<n->gQ l k n i m=k ((l.take (i+1).toNat).foldr (fun b m=>xT m (we b) b.yf) m)
 | 0,i,m,h0,h1,h2=>by omega
 | n+1,i,m,h0,h1,h2=>by
  rw[gQ]
  by_cases h:i>=0
  ·rw[if_pos (decide_eq_true h),xr ⟨h,h1⟩,xD (x:=i-1) (by omega),Wm hl n (i-1) _ (by omega) (by omega) (by omega)]
   congr 1
   have h3:i.toNat<l.length:=by omega
   rw[show(i+1).toNat=i.toNat+1 by omega,show(i-1+1).toNat=i.toNat by omega,List.take_succ,List.getElem?_eq_getElem h3,List.foldr_append]
   rw[jT ⟨h,h1⟩]
   rfl
  ·rw[if_neg (by simpa using h),show(i+1).toNat=0 by omega];rfl
def EN(c:Cf)(rs:List (List Hop))(ps:List PB):List zf:=(vJ 0 rs.length).flatMap fun v=>w6 vj (VE c rs (wx ps) v)
theorem Jw{c:Cf}(hv:∀ r∈rs,VR c net r)(hl:rs.length<1000000000):wy rs (fun y0=>gA y0)=some false:=by
 unfold wy vH
 have hF:=xN
 generalize xC=N at hF ⊢
 have hf:∀ y∈rs,gA y=some false:=fun y hy=>by unfold gA;rw[(hv y hy).tree];rfl
 refine qL (P:=fun o=>(o.bind fun x=>some (decide (x>=0)))=some false) fun k hk=>?_
 rcases iE (f:=fun y0=>gA y0) (k:=k) (fun y hy=>⟨false,hf y hy⟩) hl N 0 (by omega) (by omega) (by omega) with⟨i,i1,i2,i3,i4⟩ | ⟨i1,i2⟩
 ·rw[hf _ (w4 i1 i2)] at i3;cases i3
 ·rw[i2,hk];rfl
theorem VT{c:Cf}{ps:List PB}(hS:Small c)(hv:∀ r∈rs,VR c net r)(hl:rs.length<=100)(hp:ps.length<=1000000):uR c rs ps=some (EN c rs ps):=by
 unfold uR
 rw[Jw hv (by omega),oB,if_neg (by simp)]
 refine w8 (P:=fun o=>o=_) fun k hk=>?_
 have h1:=Wm (k:=k) hp xC (((ps.length:Nat):Int)-1) [] (by omega) (by omega) (by rw[xN];omega)
 rw[xD (x:=((ps.length:Nat):Int)-1) (by omega),h1,hk,show(((ps.length:Nat):Int)-1+1).toNat=ps.length by omega,List.take_length]
 refine w8 (P:=fun o=>o=_) fun k2 lN=>?_
 have h2:=VQ (k:=k2) (de:=wx ps) hS (fun r hr=>by have:=(hv r hr).len;omega) hl xC 0 [] (by omega) (by omega) (by rw[xN];omega) (by simp)
 simp only[Int.toNat_zero,Nat.sub_zero,List.nil_append] at h2
 rw[show(ps.foldr (fun b m=>xT m (we b) b.yf) ([]:DM))=wx ps from rfl,h2,lN]
 rfl
end
end Go.Proofs.YthjnhebofpebpaaGreat

/- A part of this claim's proof: models of functions, walks, plain laws. No conditions. -/
import Derived.Test.YthjnhebofpebpaaGreatP35a
set_option linter.all false
namespace Go.Proofs.YthjnhebofpebpaaGreat
open Go Go.RowKit Sep
variable {rs:List (List Hop)}{de:DM}{net v:Int}
/-! ### a port -/
def er(x:Int):Int:=if x=6 then 352 else x
def fe(e a b:Int):Int:=if (if e=0 then er a else e)=0 then er b else(if e=0 then er a else e)
theorem ykA{x y:R×Int}{k:Int->Option (PB×Int×BM×DM)}(e:Int):y1Z x y k yy 0 e=k (fe e x.2 y.2):=by
 have hF:yy=(yy-3)+3:=by rw[yV]
 rw[hF]
 generalize yy-3=N
 have hstep:∀(n:Nat) (v e a:Int),0<=v->v<2->nth ([x.2,y.2]:List Int) v=a->y1Z x y k (n+1) v e=y1Z x y k n (v+1) (if e=0 then er a else e):=by
  intro n v e a h0 h1 ha
  rw[y1Z,if_pos (by simp;omega)]
  refine y28 (P:=fun o=>o=_) fun k1 hk1=>?_
  rw[yt (by simp;omega)]
  refine y28 (P:=fun o=>o=_) fun k2 hk2=>?_
  rw[ha]
  have e1:(if decide (a=6)=true then k2 352 else k2 a)=k2 (er a):=by
   unfold er;by_cases h:a=6 <;> simp[h]
  have e2:(if decide (e=0)=true then k1 (er a) else k1 e)=k1 (if e=0 then er a else e):=by
   by_cases h:e=0 <;> simp[h]
  rw[e1,hk2,e2,hk1,yz (x:=v+1) (by omega)]
 rw[hstep (N+2) 0 e x.2 (by omega) (by omega) rfl,hstep (N+1) (0+1) _ y.2 (by omega) (by omega) rfl,y1Z,if_neg (by simp)]
 rfl
def DL(l:List (List B))(s:SV):R×Int:=if CKF l s=0 then mxv (dv l s) (PTS l []) else(⟨0,0⟩,CKF l s)
def BL(l:List (List B))(s:SV):R×Int:=if CKF l s=0 then mxv (bv l s) (PTS l [s.fL]) else(⟨0,0⟩,CKF l s)
theorem Delay_eq{l:List (List B)}{s:SV}(hl:l.length<=40):y5O l s=some (DL l s):=by
 unfold y5O DL
 rw[max_eq hl (by simp),oB]
theorem yjX{l:List (List B)}{s:SV}(hl:l.length<=40):y5f l s=some (BL l s):=by
 unfold y5f BL
 rw[maxb_eq hl (by simp),oB]
def lat(c:Cf)(p:Pl):Int:=if p.fNode-nM c>=0 then(nth c.fS (p.fNode-nM c)).fDelay else 0
def srv(c:Cf)(p:Pl):SV:=⟨⟨1,(nth c.fK p.fQ).fSlow⟩,⟨lat c p,1⟩⟩
def PO(c:Cf)(rs:List (List Hop))(bu:BM)(de:DM)(e:Int)(p:Pl):PB×Int×BM×DM:=
 let u:=CU c rs bu de e p
 let d:=DL u.1 (srv c p)
 let b:=BL u.1 (srv c p)
 (⟨p.fNode,p.fQ,flr d.1,i64 (flr b.1+u.2.1)⟩,fe u.2.2.1 d.2 b.2,u.2.2.2,yC de p (flr d.1))
structure PI (c:Cf) (p:Pl):Prop where
 l0:0<=p.fQ
 l1:p.fQ<c.fK.length
 n0:0<=p.fNode
 n1:p.fNode<nN c
theorem port_eq{c:Cf}{bu:BM}{e:Int}{p:Pl}(hv:VLs c)(hl:rs.length=c.fVLs.length)(hr:∀ r∈rs,r.length<1000000000)(hs:rs.length<=16)(hL:c.fK.length<=20)(hS:Small c)(hp:PI c p):
  y5C c rs bu de e p=some (PO c rs bu de e p):=by
 unfold y5C
 obtain⟨a1,a2⟩:=ykz (bu:=bu) (de:=de) (e:=e) (p:=p) hv hl hr hs hL
 have hn1:=hp.n1;have hn0:=hp.n0;have hm:=hS.m;have hsw:=hS.s
 unfold nN at hn1
 rw[a1,oB]
 refine yc7 (P:=fun o=>o=_) fun k hk=>?_
 have hlat:(if decide ((i64 (p.fNode-((c.fM.length:Nat):Int)))>=0) then chk ((0:Int)<=(i64 (p.fNode-((c.fM.length:Nat):Int)))/\(i64 (p.fNode-((c.fM.length:Nat):Int)))<((c.fS.length:Nat):Int)) (k (CU c rs bu de e p).1 ((nth c.fS (i64 (p.fNode-((c.fM.length:Nat):Int)))).fDelay)) else k (CU c rs bu de e p).1 0)=k (CU c rs bu de e p).1 (lat c p):=by
  rw[yz (x:=p.fNode-((c.fM.length:Nat):Int)) (by omega)]
  unfold lat nM
  by_cases h:p.fNode-((c.fM.length:Nat):Int)>=0
  ·rw[if_pos (decide_eq_true h),yt ⟨h,by omega⟩,if_pos h]
  ·rw[if_neg (by simpa using h),if_neg h]
 rw[hlat,hk,yt ⟨hp.l0,hp.l1⟩]
 unfold y2L
 rw[oB,Delay_eq (by omega),oB,yjX (by omega),oB]
 refine y28 (P:=fun o=>o=_) fun k2 hk2=>?_
 rw[ykA,hk2]
 rw[(yeg _).1,oB,(yeg _).1,oB,yc1]
 rfl
/-! ### all ports -/
structure WS where
 out:List PB
 e:Int
 bu:BM
 de:DM
def wst(c:Cf)(rs:List (List Hop))(s:WS)(p:Pl):WS:=let x:=PO c rs s.bu s.de s.e p;⟨s.out++[x.1],x.2.1,x.2.2.1,x.2.2.2⟩
def y4H(c:Cf)(rs:List (List Hop)):List Pl->WS->WS ⊕ Int
 | [],s => .inl s
 | p::l,s=>if (wst c rs s p).e≠0 then .inr (wst c rs s p).e else y4H c rs l (wst c rs s p)
theorem yfS{c:Cf}{rs:List (List Hop)}{l:List Pl×Int}{k:List PB->Option (S39×Int)}(hv:VLs c)(hl:rs.length=c.fVLs.length)(hr:∀ r∈rs,r.length<1000000000)(hs:rs.length<=16)(hL:c.fK.length<=20)(hS:Small c)(hp:∀ p∈l.1,PI c p)(hle:l.1.length<=100000):
  ∀(n:Nat) (v:Int) (s:WS),0<=v->v<=l.1.length->l.1.length<n+v->s.out.length=v->
   y2T l c rs k n v s.e s.out s.bu s.de=match y4H c rs (l.1.drop v.toNat) s with | .inl t=>k t.out | .inr e=>some (⟨[],[]⟩,e)
 | 0,v,s,h0,h1,h2,h3=>by omega
 | n+1,v,s,h0,h1,h2,h3=>by
  rw[y2T]
  by_cases h:v<l.1.length
  ·rw[if_pos (decide_eq_true h),yt ⟨h0,h⟩,y42 h0 h]
   have e:(⟨((nth l.1 v).fNode),((nth l.1 v).fQ)⟩:z8)=nth l.1 v:=rfl
   rw[e,port_eq hv hl hr hs hL hS (hp _ (yO h0 h)),oB,yt (by simp;omega),y4H]
   by_cases he:(wst c rs s (nth l.1 v)).e≠0
   ·rw[if_pos he,if_pos (by exact decide_eq_true he)];rfl
   ·rw[if_neg he,if_neg (by rw[decide_eq_true_eq];exact he),yz (x:=v+1) (by omega)]
    have:=yfS (k:=k) hv hl hr hs hL hS hp hle n (v+1) (wst c rs s (nth l.1 v)) (by omega) (by omega) (by omega) (by simp[wst];omega)
    rw[show(v+1).toNat=v.toNat+1 by omega] at this
    exact this
  ·rw[if_neg (by simpa using h),List.drop_eq_nil_of_le (by omega)];rfl
/-! ### sorting -/
def pbk(b:PB):Pl:=⟨b.fNode,b.fQ⟩
theorem yh2{l:List PB}(hn:(l.map pbk).Nodup)(hs:l.length<=1000000):
  yS l (fun y0 y1=>yH y0 y1)=some (yK yH l)/\(yK yH l).Pairwise fun a b=>¬plt (pbk b) (pbk a):=by
 have hinj:∀ x∈l,∀ y∈l,pbk x=pbk y->x=y:=by
  intro x hx y hy e
  obtain⟨i,hi,rfl⟩:=List.getElem_of_mem hx
  obtain⟨j,hj,rfl⟩:=List.getElem_of_mem hy
  have h1:(l.map pbk)[i]'(by simpa using hi)=(l.map pbk)[j]'(by simpa using hj):=by simpa using e
  have:=(List.getElem_inj (h₀:=by simpa using hi) (h₁:=by simpa using hj) hn).1 h1
  subst this;rfl
 obtain⟨ho,hsrt⟩:=ye6 (p:=yH) (lt:=fun a b=>plt (pbk a) (pbk b)) (l:=l) (fun x _ y _=>by
  obtain⟨v,e1,e2⟩:=yfH (pbk x) (pbk y)
  refine⟨v,?_,e2⟩
  unfold yH
  rw[show(⟨x.fNode,x.fQ⟩:z8)=pbk x from rfl,show(⟨y.fNode,y.fQ⟩:z8)=pbk y from rfl,e1];rfl) (fun x y=>yf5 _ _) (fun x y z=>yhN _ _ _) (fun x hx y hy h1 h2=>hinj x hx y hy (yfI _ _ h1 h2))
 refine⟨?_,hsrt⟩
 unfold yS y4i y2E
 rw[ye7 (by omega),yt (by omega),oB]
 have hb:=ycE l.length (by omega)
 rw[Int.toNat_natCast,yt ⟨⟨rfl,rfl⟩,by omega,by omega,by omega⟩,yt ho,oB]
/-! ### the ends -/
theorem yh3{r:List Hop}{k:Option Bool}(hl:r.length<1000000000):∀(n:Nat) (v:Int),0<=v->v<=r.length->r.length<n+v->
  ((∃ q:Int,v<=q/\q<r.length/\(y39 (r.take q.toNat) (nth r q).fNode).2=false/\(nth r q).fNode≠(nth r 0).fNode)/\y48 r k n v=some false) \/
  ((∀ q:Int,v<=q->q<r.length->(y39 (r.take q.toNat) (nth r q).fNode).2=true\/(nth r q).fNode=(nth r 0).fNode)/\y48 r k n v=k)
 | 0,v,h0,h1,h2=>by omega
 | n+1,v,h0,h1,h2=>by
  rw[y48]
  by_cases h:v<r.length
  ·rw[if_pos (decide_eq_true h),yt ⟨h0,h⟩,yt ⟨by omega,h0,by omega⟩,ygp (by rw[List.length_take];omega),oB,yt (fun _=>⟨by omega,by omega⟩)]
   by_cases hc:(!(y39 (r.take v.toNat) (nth r v).fNode).2&&decide ((nth r v).fNode≠(nth r 0).fNode))=true
   ·rw[if_pos hc]
    simp only[Bool.and_eq_true,Bool.not_eq_true',decide_eq_true_eq] at hc
    exact .inl ⟨⟨v,by omega,h,hc.1,hc.2⟩,rfl⟩
   ·rw[if_neg hc,yz (x:=v+1) (by omega)]
    have hc2:(y39 (r.take v.toNat) (nth r v).fNode).2=true\/(nth r v).fNode=(nth r 0).fNode:=by
     simp only[Bool.and_eq_true,Bool.not_eq_true',decide_eq_true_eq] at hc
     by_cases h5:(nth r v).fNode=(nth r 0).fNode
     ·exact .inr h5
     ·refine .inl ?_
      cases h6:(y39 (r.take v.toNat) (nth r v).fNode).2 with
      | true=>rfl
      | false=>exact absurd ⟨h6,h5⟩ hc
    rcases yh3 hl n (v+1) (by omega) (by omega) (by omega) (k:=k) with⟨⟨q,q1,q2⟩,h3⟩ | ⟨h3,h4⟩
    ·exact .inl ⟨⟨q,by omega,q2⟩,h3⟩
    ·refine .inr ⟨fun q q1 q2=>?_,h4⟩
     by_cases e:q=v
     ·rw[e];exact hc2
     ·exact h3 q (by omega) q2
  ·rw[if_neg (by simpa using h)]
   exact .inr ⟨fun q q1 q2=>by omega,rfl⟩
theorem VR.tree{c:Cf}{r:List Hop}(h:VR c net r):y7K r=some true:=by
 have hl:=h.len
 unfold y7K
 have hF:=yV
 generalize yy=N at hF ⊢
 refine y5D (P:=fun o=>o=some true) fun k hk=>?_
 rcases yh3 (k:=k) (by omega) N 0 (by omega) (by omega) (by omega) (r:=r) with⟨⟨q,q1,q2,q3,q4⟩,h5⟩ | ⟨h3,h4⟩
 ·exfalso
  have hc:=(h.cond q q1 q2).1
  rcases hc with hc | ⟨j,j0,j1,j2⟩
  ·exact q4 hc
  ·have hm:nth r j∈r.take q.toNat:=by
    rw[y87 ⟨j0,by omega⟩]
    have:(r.take q.toNat)[j.toNat]'(by simp;omega)=r[j.toNat]'(by omega):=List.getElem_take
    rw[<- this];exact List.getElem_mem _
   have:=yf7 hm
   rw[j2,q3] at this;cases this
 ·rw[h4,hk]
abbrev SM:=List (Int×Int)
structure ES where
 ends:List zj
 sum:SM
def est(c:Cf)(r:List Hop)(de:DM)(vl:Int)(s:ES)(h:Hop):ES:=
 if y2A s.sum h.fNext||decide (h.fNext=(nth r 0).fNode) then s else
  let m:=yC s.sum h.fNext (i64 (yd s.sum h.fNode 0+yd de (pk h) 0))
  ⟨if 0<=h.fNext/\h.fNext<nM c then s.ends++[⟨vl,h.fNext,yd m h.fNext 0⟩] else s.ends,m⟩
theorem yi8{c:Cf}{rs:List (List Hop)}{v:Int}{de:DM}{k:List zj->Option (List zj)}(h0v:0<=v/\v<rs.length)(hl:(nth rs v).length<=1000):∀(n:Nat) (i:Int) (s:ES),0<=i->i<=(nth rs v).length->(nth rs v).length<n+i->(s.ends.length:Int)<=i->
  y4T rs v c de k n s.ends i s.sum=k (((nth rs v).drop i.toNat).foldl (est c (nth rs v) de v) s).ends
 | 0,i,s,h0,h1,h2,h3=>by omega
 | n+1,i,s,h0,h1,h2,h3=>by
  rw[y4T]
  by_cases h:i<(nth rs v).length
  ·rw[if_pos (decide_eq_true h),y42 h0 h,List.foldl_cons]
   refine yc7 (P:=fun o=>o=_) fun k1 hk1=>?_
   have hlen:((est c (nth rs v) de v s (nth (nth rs v) i)).ends.length:Int)<=i+1:=by
    unfold est
    simp only
    split
    ·omega
    ·show(((if _ then _ else _:List zj)).length:Int)<=_
     split
     ·simp;omega
     ·omega
   have hgo:∀ t:ES,t=est c (nth rs v) de v s (nth (nth rs v) i)->k1 t.ends t.sum=k (((nth rs v).drop (i.toNat+1)).foldl (est c (nth rs v) de v) (est c (nth rs v) de v s (nth (nth rs v) i))).ends:=fun t ht=>by
    subst ht
    rw[hk1,yz (x:=i+1) (by omega)]
    have:=yi8 (k:=k) (c:=c) (de:=de) h0v hl n (i+1) (est c (nth rs v) de v s (nth (nth rs v) i)) (by omega) (by omega) (by omega) hlen
    rw[show(i+1).toNat=i.toNat+1 by omega] at this
    exact this
   rw[yt ⟨h0,h⟩,yt (fun _=>⟨by omega,by omega⟩)]
   by_cases hc:(y2A s.sum ((nth (nth rs v) i).fNext)||decide ((nth (nth rs v) i).fNext=(nth (nth rs v) 0).fNode))=true
   ·rw[if_pos hc]
    refine hgo s ?_
    unfold est;rw[if_pos hc]
   ·rw[if_neg hc,yfG,oB]
    by_cases hn:0<=(nth (nth rs v) i).fNext/\(nth (nth rs v) i).fNext<nM c
    ·rw[if_pos (by have:=hn.2;unfold nM at this;simp only[Bool.and_eq_true,decide_eq_true_eq];exact⟨hn.1,this⟩),yt (by simp;omega)]
     refine hgo ⟨_,_⟩ ?_
     unfold est;rw[if_neg hc];simp only;rw[if_pos hn]
    ·rw[if_neg (by unfold nM at hn;simp only[Bool.and_eq_true,decide_eq_true_eq];exact hn)]
     refine hgo ⟨s.ends,yC s.sum (nth (nth rs v) i).fNext (i64 (yd s.sum (nth (nth rs v) i).fNode 0+yd de (pk (nth (nth rs v) i)) 0))⟩ ?_
     unfold est;rw[if_neg hc];simp only;rw[if_neg hn]
  ·rw[if_neg (by simpa using h),List.drop_eq_nil_of_le (by omega)];rfl
structure EI (c:Cf) (vl:Int) (s:ES):Prop where
 nd:(s.ends.map (·.fNode)).Nodup
 vl:∀ x∈s.ends,x.fVL=vl/\0<=x.fNode/\x.fNode<nM c/\y2A s.sum x.fNode=true
theorem EI.step{c:Cf}{r:List Hop}{s:ES}{h:Hop}(hi:EI c v s):EI c v (est c r de v s h):=by
 unfold est
 split
 ·exact hi
 ·rename_i hc
  simp only[Bool.or_eq_true,not_or,decide_eq_true_eq,Bool.not_eq_true] at hc
  simp only
  have hk:∀ n,y2A s.sum n=true->y2A (yC s.sum h.fNext (i64 (yd s.sum h.fNode 0+yd de (pk h) 0))) n=true:=fun n hn=>by rw[y8x,hn];simp
  split
  ·rename_i hn
   refine⟨?_,fun x hx=>?_⟩
   ·rw[List.map_append]
    refine List.nodup_append.2 ⟨hi.nd,by simp,fun a ha b hb=>?_⟩
    simp at hb;subst hb
    rintro rfl
    obtain⟨x,hx,e⟩:=List.mem_map.1 ha
    have:=(hi.vl x hx).2.2.2
    rw[e,hc.1] at this;cases this
   ·rcases List.mem_append.1 hx with hx | hx
    ·obtain⟨a1,a2,a3,a4⟩:=hi.vl x hx
     exact⟨a1,a2,a3,hk _ a4⟩
    ·rw[List.mem_singleton] at hx;subst hx
     exact⟨rfl,hn.1,hn.2,by show y2A (yC _ _ _) h.fNext=true;rw[y8x];simp⟩
  ·exact⟨hi.nd,fun x hx=>by obtain⟨a1,a2,a3,a4⟩:=hi.vl x hx;exact⟨a1,a2,a3,hk _ a4⟩⟩
theorem EI.fold{c:Cf}{r:List Hop}{de:DM}{v:Int}:∀(hs:List Hop) {s:ES},EI c v s->EI c v (hs.foldl (est c r de v) s)
 | [],_,hi=>hi
 | h::hs,_,hi=>by rw[List.foldl_cons];exact EI.fold hs hi.step
def VE(c:Cf)(rs:List (List Hop))(de:DM)(v:Int):List zj:=((nth rs v).foldl (est c (nth rs v) de v) ⟨[],[]⟩).ends
theorem yfT(c:Cf)(rs:List (List Hop))(de:DM)(v:Int):EI c v ((nth rs v).foldl (est c (nth rs v) de v) ⟨[],[]⟩):=EI.fold _ ⟨by simp,by simp⟩
theorem VE_len{c:Cf}:(VE c rs de v).length<=(nth rs v).length:=by
 unfold VE
 have:∀(hs:List Hop) (s:ES),(hs.foldl (est c (nth rs v) de v) s).ends.length<=s.ends.length+hs.length:=by
  intro hs
  induction hs with
  | nil=>intro s;simp
  | cons h hs ih=>
   intro s
   rw[List.foldl_cons]
   have h1:=ih (est c (nth rs v) de v s h)
   have h2:(est c (nth rs v) de v s h).ends.length<=s.ends.length+1:=by
    unfold est
    split
    ·omega
    ·simp only;split
     ·simp
     ·omega
   rw[List.length_cons];omega
 have:=this (nth rs v) ⟨[],[]⟩
 simpa using this
def elt(a b:zj):Prop:=a.fNode<b.fNode
theorem sortE_eq{c:Cf}{l:List zj}(hS:Small c)(hn:(l.map (·.fNode)).Nodup)(hb:∀ x∈l,x.fVL=v/\0<=x.fNode/\x.fNode<nM c)(hs:l.length<=1000000):
  y2i l (fun y0 y1=>y1g y0 y1)=some (yK y1g l):=by
 have hm:=hS.m
 have hinj:∀ x∈l,∀ y∈l,x.fNode=y.fNode->x=y:=by
  intro x hx y hy e
  obtain⟨i,hi,rfl⟩:=List.getElem_of_mem hx
  obtain⟨j,hj,rfl⟩:=List.getElem_of_mem hy
  have h1:(l.map (·.fNode))[i]'(by simpa using hi)=(l.map (·.fNode))[j]'(by simpa using hj):=by simpa using e
  have:=(List.getElem_inj (h₀:=by simpa using hi) (h₁:=by simpa using hj) hn).1 h1
  subst this;rfl
 obtain⟨ho,_⟩:=ye6 (p:=y1g) (lt:=elt) (l:=l) (fun x hx y hy=>by
  have h1:=hb x hx;have h2:=hb y hy
  unfold nM at h1 h2
  refine⟨_,rfl,?_⟩
  rw[yz (by omega)]
  unfold elt
  omega) (fun x y=>by unfold elt;omega) (fun x y z=>by unfold elt;omega) (fun x hx y hy h1 h2=>hinj x hx y hy (by unfold elt at h1 h2;omega))
 unfold y2i y4i y4G
 rw[ye7 (by omega),yt (by omega),oB]
 have hb:=ycE l.length (by omega)
 rw[Int.toNat_natCast,yt ⟨⟨rfl,rfl⟩,by omega,by omega,by omega⟩,yt ho,oB]
theorem yjf{c:Cf}{rs:List (List Hop)}{de:DM}{k:List zj->Option (List zj)}(hS:Small c)(hr:∀ r∈rs,r.length<=1000)(hl:rs.length<=100):∀(n:Nat) (v:Int) (o:List zj),0<=v->v<=rs.length->rs.length<n+v->(o.length:Int)<=1000*v->
  y4U rs c de k n o v=k (o++(y1r v (rs.length-v.toNat)).flatMap fun v=>yK y1g (VE c rs de v))
 | 0,v,o,h0,h1,h2,h3=>by omega
 | n+1,v,o,h0,h1,h2,h3=>by
  rw[y4U]
  by_cases h:v<rs.length
  ·have hrl:=hr _ (yO h0 h)
   rw[if_pos (decide_eq_true h),show rs.length-v.toNat=(rs.length-(v+1).toNat)+1 by omega,y1r,List.flatMap_cons]
   refine y28 (P:=fun x=>x=_) fun k1 hk1=>?_
   rw[yt ⟨h0,h⟩]
   refine y28 (P:=fun x=>x=_) fun k2 hk2=>?_
   have h4:=yi8 (k:=k2) (c:=c) (de:=de) ⟨h0,h⟩ hrl yy 0 ⟨[],[]⟩ (by omega) (by omega) (by rw[yV];omega) (by simp)
   simp only[Int.toNat_zero,List.drop_zero] at h4
   have hi:=yfT c rs de v
   have hlen:=VE_len (c:=c) (rs:=rs) (de:=de) (v:=v)
   rw[h4,hk2]
   have hi1:((VE c rs de v).map (·.fNode)).Nodup:=hi.nd
   have hi2:∀ x∈VE c rs de v,x.fVL=v/\0<=x.fNode/\x.fNode<nM c:=fun x hx=>by obtain⟨a1,a2,a3,_⟩:=hi.vl x hx;exact⟨a1,a2,a3⟩
   rw[show((nth rs v).foldl (est c (nth rs v) de v) ⟨[],[]⟩).ends=VE c rs de v from rfl]
   rw[sortE_eq (v:=v) hS hi1 hi2 (by omega),oB]
   have hsl:=y63 y1g (VE c rs de v)
   rw[yt (by rw[List.length_append];omega),hk1,yz (x:=v+1) (by omega),yjf hS hr hl n (v+1) _ (by omega) (by omega) (by omega) (by rw[List.length_append];omega),List.append_assoc]
  ·rw[if_neg (by simpa using h),show rs.length-v.toNat=0 by omega];simp[y1r]
def dem(l:List PB):DM:=l.foldr (fun b m=>yC m (pbk b) b.fDelay) []
theorem yi9{l:List PB}{k:DM->Option (List zj)}(hl:l.length<=1000000):∀(n:Nat) (i:Int) (m:DM),-1<=i->i<l.length->i+1<n->y4S l k n i m=k ((l.take (i+1).toNat).foldr (fun b m=>yC m (pbk b) b.fDelay) m)
 | 0,i,m,h0,h1,h2=>by omega
 | n+1,i,m,h0,h1,h2=>by
  rw[y4S]
  by_cases h:i>=0
  ·rw[if_pos (decide_eq_true h),yt ⟨h,h1⟩,yz (x:=i-1) (by omega),yi9 hl n (i-1) _ (by omega) (by omega) (by omega)]
   congr 1
   have h3:i.toNat<l.length:=by omega
   rw[show(i+1).toNat=i.toNat+1 by omega,show(i-1+1).toNat=i.toNat by omega,List.take_succ,List.getElem?_eq_getElem h3,List.foldr_append]
   rw[y87 ⟨h,h1⟩]
   rfl
  ·rw[if_neg (by simpa using h),show(i+1).toNat=0 by omega];rfl
def EN(c:Cf)(rs:List (List Hop))(ps:List PB):List zj:=(y1r 0 rs.length).flatMap fun v=>yK y1g (VE c rs (dem ps) v)
theorem ykB{c:Cf}(hv:∀ r∈rs,VR c net r)(hl:rs.length<1000000000):y16 rs (fun y0=>y4u y0)=some false:=by
 unfold y16 y1U
 have hF:=yV
 generalize yy=N at hF ⊢
 have hf:∀ y∈rs,y4u y=some false:=fun y hy=>by unfold y4u;rw[(hv y hy).tree];rfl
 refine y5D (P:=fun o=>(o.bind fun x=>some (decide (x>=0)))=some false) fun k hk=>?_
 rcases ybC (f:=fun y0=>y4u y0) (k:=k) (fun y hy=>⟨false,hf y hy⟩) hl N 0 (by omega) (by omega) (by omega) with⟨i,i1,i2,i3,i4⟩ | ⟨i1,i2⟩
 ·rw[hf _ (yO i1 i2)] at i3;cases i3
 ·rw[i2,hk];rfl
theorem yjg{c:Cf}{ps:List PB}(hS:Small c)(hv:∀ r∈rs,VR c net r)(hl:rs.length<=100)(hp:ps.length<=1000000):y6K c rs ps=some (EN c rs ps):=by
 unfold y6K
 rw[ykB hv (by omega),oB,if_neg (by simp)]
 refine y28 (P:=fun o=>o=_) fun k hk=>?_
 have h1:=yi9 (k:=k) hp yy (((ps.length:Nat):Int)-1) [] (by omega) (by omega) (by rw[yV];omega)
 rw[yz (x:=((ps.length:Nat):Int)-1) (by omega),h1,hk,show(((ps.length:Nat):Int)-1+1).toNat=ps.length by omega,List.take_length]
 refine y28 (P:=fun o=>o=_) fun k2 hk2=>?_
 have h2:=yjf (k:=k2) (de:=dem ps) hS (fun r hr=>by have:=(hv r hr).len;omega) hl yy 0 [] (by omega) (by omega) (by rw[yV];omega) (by simp)
 simp only[Int.toNat_zero,Nat.sub_zero,List.nil_append] at h2
 rw[show(ps.foldr (fun b m=>yC m (pbk b) b.fDelay) ([]:DM))=dem ps from rfl,h2,hk2]
 rfl
end Go.Proofs.YthjnhebofpebpaaGreat
namespace Go.Proofs.YthjnhebofpebpaaGreat
open Go Go.RowKit Sep
/-! ### virtual links -/
def gapL:List Int:=[100,200,400,800,1600,3200,6400,12800]
theorem gap_eq(b:Int):y8k b=some (decide (b∈gapL)):=by
 unfold y8k
 have hF:yy=(yy-9)+9:=by rw[yV]
 rw[hF]
 generalize yy-9=N
 refine y5D (P:=fun o=>o=_) fun k hk=>?_
 have hstep:∀(n:Nat) (x:Int),0<=x->x<=12800->y3m b k (n+1) x=if x=b then some true else y3m b k n (2*x):=fun n x h0 h1=>by
  rw[y3m,if_pos (decide_eq_true h1),yz (x:=x*2) (by omega),Int.mul_comm]
  by_cases h:x=b
  ·rw[if_pos (decide_eq_true h),if_pos h]
  ·rw[if_neg (by simpa using h),if_neg h]
 have hend:y3m b k (N+1) (2*12800)=some false:=by
  rw[y3m,if_neg (by decide),hk]
 rw[hstep _ 100 (by omega) (by omega),hstep _ (2*100) (by omega) (by omega),hstep _ (2*(2*100)) (by omega) (by omega),hstep _ (2*(2*(2*100))) (by omega) (by omega),hstep _ (2*(2*(2*(2*100)))) (by omega) (by omega),hstep _ (2*(2*(2*(2*(2*100))))) (by omega) (by omega),hstep _ (2*(2*(2*(2*(2*(2*100)))))) (by omega) (by omega),hstep _ (2*(2*(2*(2*(2*(2*(2*100))))))) (by omega) (by omega)]
 have:(2*(2*(2*(2*(2*(2*(2*(2*100)))))) ):Int)=2*12800:=by decide
 rw[this,hend]
 unfold gapL
 repeat' split
 all_goals
  simp only[Option.some.injEq]
  first
  | (symm;rw[decide_eq_true_iff];simp only[List.mem_cons,List.not_mem_nil,or_false];omega)
  | (symm;rw[decide_eq_false_iff_not];simp only[List.mem_cons,List.not_mem_nil,or_false];omega)
def vok(v:z16):Prop:=v.fBag∈gapL/\1<=v.fMax/\v.fMax<=72
instance (v:z16):Decidable (vok v):=inferInstanceAs (Decidable (_/\_))
theorem vl1_eq(v:z16):y33 v=some (!decide (vok v)):=by
 unfold y33 vok
 rw[gap_eq,oB]
 congr 1
 by_cases h1:v.fBag∈gapL <;> by_cases h2:1<=v.fMax <;> by_cases h3:v.fMax<=72 <;> simp[h1,h2,h3] <;> omega
theorem ydG{l:List z16}{k:Option Int}(hl:l.length<1000000000):∀(n:Nat) (v:Int),0<=v->v<=l.length->l.length<n+v->
  ((∃ i:Int,v<=i/\i<l.length/\¬vok (nth l i)/\y1a l (fun y0=>y33 y0) k n v=some i)\/((∀ i:Int,v<=i->i<l.length->vok (nth l i))/\y1a l (fun y0=>y33 y0) k n v=k))
 | 0,v,h0,h1,h2=>by omega
 | n+1,v,h0,h1,h2=>by
  rw[y1a]
  by_cases h:v<l.length
  ·rw[if_pos (decide_eq_true h),yt ⟨h0,h⟩]
   have e:(⟨((nth l v).fName),(⟨(((nth l v).fFrom).fModule),(((nth l v).fFrom).fPart),(((nth l v).fFrom).fPort)⟩:Sapi_Ref),((nth l v).fBag),((nth l v).fMax),((nth l v).fTo)⟩:z16)=nth l v:=rfl
   rw[e,vl1_eq,oB]
   by_cases hv:vok (nth l v)
   ·rw[if_neg (by simpa using hv),yz (x:=v+1) (by omega)]
    rcases ydG hl n (v+1) (by omega) (by omega) (by omega) (k:=k) with⟨i,i1,i2,i3,i4⟩ | ⟨i1,i2⟩
    ·exact .inl ⟨i,by omega,i2,i3,i4⟩
    ·refine .inr ⟨fun i j1 j2=>?_,i2⟩
     by_cases e:i=v
     ·rw[e];exact hv
     ·exact i1 i (by omega) j2
   ·rw[if_pos (by simpa using hv)]
    exact .inl ⟨v,Int.le_refl _,h,hv,rfl⟩
  ·rw[if_neg (by simpa using h)]
   exact .inr ⟨fun i h1 h2=>by omega,rfl⟩
def VOK(c:Cf):Prop:=∀ v∈c.fVLs,vok v
theorem vls_eq{c:Cf}(hl:c.fVLs.length<1000000000):∃ b,y25 c.fVLs (fun y0=>y33 y0)=some b/\(b=false↔VOK c):=by
 unfold y25 y3e
 have hF:=yV
 generalize yy=N at hF ⊢
 refine y5D (P:=fun o=>∃ b,(o.bind fun x=>some (decide (x>=0)))=some b/\(b=false↔VOK c)) fun k hk=>?_
 rcases ydG (k:=k) hl N 0 (by omega) (by omega) (by omega) with⟨i,i1,i2,i3,i4⟩ | ⟨i1,i2⟩
 ·refine⟨true,by rw[i4];simp[i1],?_⟩
  simp only[Bool.true_eq_false,false_iff]
  exact fun h=>i3 (h _ (yO i1 i2))
 ·refine⟨false,by rw[i2,hk];rfl,?_⟩
  simp only[true_iff]
  intro v hv
  obtain⟨i,j0,j1,rfl⟩:=y65 hv
  exact i1 i j0 j1
theorem VOK.vls{c:Cf}(h:VOK c):VLs c:=fun v hv=>by
 obtain⟨h1,h2,h3⟩:=h v hv
 refine⟨?_,h2,h3⟩
 unfold gapL at h1
 simp only[List.mem_cons,List.not_mem_nil,or_false] at h1
 omega
/-! ### the whole computation -/
theorem VA.pi{c:Cf}{net:Int}{rs:List (List Hop)}(hS:Small c)(hv:VA c net rs){p:Pl}(hp:p∈PS rs):PI c p:=by
 obtain⟨r,hr,h,hh,rfl⟩:=(y7N rs p).1 hp
 obtain⟨i,i0,i1,rfl⟩:=y65 hh
 obtain⟨_,_,_,j0,j1,_,_,_,_,jf1,jf2,jj⟩:=(hv.each r hr).cond i i0 i1
 have hA:=(fA_eq hS (nth r i).fQ).2
 have hB:=(fB_eq hS (nth r i).fQ).2
 refine⟨j0,j1,?_,?_⟩
 ·have a1:=jf1.1;have a2:=jf2.1
  show 0<=(nth r i).fNode
  rcases jj with⟨e,_⟩ | ⟨_,e⟩ <;> omega
 ·show(nth r i).fNode<nN c
  rcases jj with⟨e,_⟩ | ⟨_,e⟩ <;> omega
def w0:WS:=⟨[],0,[],[]⟩
theorem yfc{c:Cf}{rs:List (List Hop)}:∀(l:List Pl) (s t:WS),y4H c rs l s = .inl t->t.out.map pbk=s.out.map pbk++l/\t.out.length=s.out.length+l.length/\(s.e=0->t.e=0)
 | [],s,t,h=>by injection h with h;subst h;simp
 | p::l,s,t,h=>by
  rw[y4H] at h
  split at h
  ·cases h
  ·rename_i he
   obtain⟨h1,h2,h3⟩:=yfc l _ t h
   have e:(wst c rs s p).out=s.out++[(PO c rs s.bu s.de s.e p).1]:=rfl
   rw[e] at h1 h2
   refine⟨?_,?_,fun _=>h3 (by simpa using he)⟩
   ·rw[h1,List.map_append,List.append_assoc];rfl
   ·rw[h2];simp;omega
inductive CP (c:Cf) (net:Int) (rs:List (List Hop)):S39×Int->Prop
 | route:¬VA c net rs->CP c net rs (⟨[],[]⟩,310)
 | vl:VA c net rs->¬VOK c->CP c net rs (⟨[],[]⟩,350)
 | cycle (s:List Pl):VA c net rs->VOK c->y9L rs s->CP c net rs (⟨[],[]⟩,351)
 | err (l:List Pl) (e:Int):VA c net rs->VOK c->l.Perm (PS rs)->y21 rs l->y4H c rs l w0 = .inr e->e≠0->CP c net rs (⟨[],[]⟩,e)
 | ok (l:List Pl) (t:WS):VA c net rs->VOK c->l.Perm (PS rs)->y21 rs l->y4H c rs l w0 = .inl t->CP c net rs (⟨yK yH t.out,EN c rs (yK yH t.out)⟩,0)
theorem yia{c:Cf}{rs:List (List Hop)}:∀(l:List Pl) (s:WS) (e:Int),y4H c rs l s = .inr e->e≠0
 | [],s,e,h=>by cases h
 | p::l,s,e,h=>by
  rw[y4H] at h
  split at h
  ·rename_i he
   injection h with h;subst h;exact he
  ·exact yia l _ e h
theorem yfU{c:Cf}{net:Int}{rs:List (List Hop)}(hf:FewP c rs):∃ x,y5n c net rs=some x/\CP c net rs x:=by
 have hS:=hf.small
 have hr1:∀ r∈rs,r.length<1000000000:=fun r hr=>by have:=hf.e r hr;omega
 have hrs:=hf.r
 obtain⟨b,q1,q2⟩:=yf4 hS (net:=net) (rs:=rs) hr1 (by omega)
 unfold y5n
 rw[q1,oB]
 cases b with
 | false=>
  rw[if_pos (by rfl)]
  exact⟨_,rfl,.route fun h=>by have:=q2.2 h;cases this⟩
 | true=>
 have hv:=q2.1 rfl
 rw[if_neg (by simp)]
 obtain⟨b,r1,r2⟩:=vls_eq (c:=c) (by have:=hf.v;omega)
 rw[r1,oB]
 cases b with
 | true=>
  rw[if_pos rfl]
  exact⟨_,rfl,.vl hv fun h=>by have:=r2.2 h;cases this⟩
 | false=>
 have hvo:=r2.1 rfl
 rw[if_neg (by simp)]
 have hps:=yc2 hf.e
 have h3:rs.length*40<=20*40:=Nat.mul_le_mul_right _ hrs
 rcases yhS (rs:=rs) (fun r h=>by have:=hf.e r h;omega) (by omega) with⟨l,e1,e2,e3⟩ | ⟨s,e1,e2⟩
 ·rw[e3,oB,if_neg (by simp)]
  have hlen:=e1.length_eq
  refine y28 (P:=fun o=>∃ x,o=some x/\CP c net rs x) fun k hk=>?_
  have hL:=yfS (l:=(l,0)) (k:=k) (rs:=rs) hvo.vls hv.len hr1 hv.most hf.l hS (fun p hp=>hv.pi hS (e1.subset hp)) (by show l.length<=_;omega) yy 0 w0 (by omega) (by simp) (by rw[yV];show((l.length:Nat):Int)<_;omega) rfl
  simp only[Int.toNat_zero,List.drop_zero] at hL
  rw[show(0:Int)=w0.e from rfl,show([]:List PB)=w0.out from rfl,show([]:BM)=w0.bu from rfl,show([]:DM)=w0.de from rfl]
  rw[show y2T (l,w0.e) c rs k yy w0.e w0.e w0.out w0.bu w0.de=y2T (l,0) c rs k yy 0 w0.e w0.out w0.bu w0.de from rfl,hL]
  cases hrun:y4H c rs l w0 with
  | inr e=>exact⟨_,rfl,.err l e hv hvo e1 e2 hrun (yia _ _ _ hrun)⟩
  | inl t=>
   obtain⟨o1,o2,o3⟩:=yfc l w0 t hrun
   have hol:t.out.length=l.length:=by rw[o2];simp[w0]
   have hmap:t.out.map pbk=l:=by rw[o1];simp[w0]
   simp only
   rw[hk,(yh2 (by rw[hmap];exact e1.nodup_iff.2 (y5x rs)) (by omega)).1,oB]
   rw[yjg (net:=net) hS hv.each (by omega) (by rw[y63];omega),oB]
   exact⟨_,rfl,.ok l t hv hvo e1 e2 hrun⟩
 ·rw[e2,oB,if_pos (by simp)]
  exact⟨_,rfl,.cycle s hv hvo e1⟩
end Go.Proofs.YthjnhebofpebpaaGreat
namespace Go.Proofs.YthjnhebofpebpaaGreat
open Go Go.RowKit Sep
variable {x y:R}{l:List (List B)}{s:SV}
/-! ### results without an error -/
theorem mk_0{q:Rat}(h:(mk q).2=0):fits q=true/\(mk q).1=ofQ q:=by
 unfold mk at *
 split at h
 ·rename_i hf;rw[if_pos hf];exact⟨hf,rfl⟩
 ·cases h
theorem y8q(h:(ADD x y).2=0):(V x=true/\V y=true)/\V (ADD x y).1=true/\val (ADD x y).1=val x+val y:=by
 by_cases hv:V x=true/\V y=true
 ·unfold ADD at *
  rw[ydy hv.1 hv.2] at *
  obtain⟨h1,h2⟩:=mk_0 (show(mk (val x+val y)).2=0 from h)
  refine⟨hv,?_⟩
  show V (mk (val x+val y)).1=true/\val (mk (val x+val y)).1=_
  rw[h2];exact⟨y7u h1,y5p _⟩
 ·unfold ADD at h;rw[ygw hv] at h;cases h
theorem yeh(h:(SUB x y).2=0):(V x=true/\V y=true)/\V (SUB x y).1=true/\val (SUB x y).1=val x-val y:=by
 by_cases hv:V x=true/\V y=true
 ·unfold SUB at *
  rw[yc4 hv.1 hv.2] at *
  obtain⟨h1,h2⟩:=mk_0 (show(mk (val x-val y)).2=0 from h)
  refine⟨hv,?_⟩
  show V (mk (val x-val y)).1=true/\val (mk (val x-val y)).1=_
  rw[h2];exact⟨y7u h1,y5p _⟩
 ·unfold SUB at h;rw[ygx hv] at h;cases h
theorem yei(h:(MUL x y).2=0):(V x=true/\V y=true)/\V (MUL x y).1=true/\val (MUL x y).1=val x*val y:=by
 by_cases hv:V x=true/\V y=true
 ·unfold MUL at *
  rw[ydz hv.1 hv.2] at *
  obtain⟨h1,h2⟩:=mk_0 (show(mk (val x*val y)).2=0 from h)
  refine⟨hv,?_⟩
  show V (mk (val x*val y)).1=true/\val (mk (val x*val y)).1=_
  rw[h2];exact⟨y7u h1,y5p _⟩
 ·unfold MUL at h;rw[ygy hv] at h;cases h
theorem DIV_0(h0:y.fN≠0)(h:(DIV x y).2=0):(V x=true/\V y=true)/\V (DIV x y).1=true/\val (DIV x y).1=val x / val y:=by
 by_cases hv:V x=true/\V y=true
 ·unfold DIV at *
  rw[yc5 hv.1 hv.2 h0] at *
  obtain⟨h1,h2⟩:=mk_0 (show(mk (val x / val y)).2=0 from h)
  refine⟨hv,?_⟩
  show V (mk (val x / val y)).1=true/\val (mk (val x / val y)).1=_
  rw[h2];exact⟨y7u h1,y5p _⟩
 ·unfold DIV at h;rw[ygz hv] at h;cases h
theorem CD_0{e:Int}{r:R×Int}(h:(CD e r).2=0):e=0/\r.2=0/\CD e r=r:=by
 by_cases he:e=0
 ·subst he
  by_cases hr:r.2=0
  ·exact⟨rfl,hr,ygB hr⟩
  ·rw[yi3 hr] at h;exact absurd h hr
 ·rw[y97 he] at h;exact absurd h he
theorem y8z{e:Int}{r:R×Int}(h:(DO e r).2=0):e=0/\r.2=0/\(DO e r).1=r.1:=by
 unfold DO at *
 simp only at h
 by_cases he:e=0
 ·rw[if_pos he] at h
  refine⟨he,h,?_⟩
  simp[h]
 ·rw[if_neg he] at h;exact absurd h he
theorem CM_V(hx:V x=true)(hy:V y=true):CM x y=y5P (val x) (val y):=by
 unfold CM;rw[y95 hx hy];rfl
/-! ### values of curves -/
theorem ykC{t:Rat}{b:B}(h:yak t b=true):fits (vq t b)=true:=by
 unfold yak at h;simp only[Bool.and_eq_true] at h;exact h.2
theorem yej{c:List B}(h:c≠[])(t:Rat):∃ b∈c,AT c t=vq t b:=by
 obtain⟨b,hb,e⟩:=List.mem_map.1 (yfN (t:=t) h).1
 exact⟨b,hb,e.symm⟩
theorem AT_low{c:List B}{t:Rat}{b:B}(hb:b∈c):AT c t<=vq t b:=(yfN (t:=t) (List.ne_nil_of_mem hb)).2 _ (List.mem_map_of_mem hb)
theorem yfV{c:List B}{t:R}(h:(ATF c t).2=0):VC c=true/\GR t=true/\V (ATF c t).1=true/\val (ATF c t).1=AT c (val t):=by
 unfold ATF at *
 by_cases hc:VC c=true/\GR t=true
 ·rw[at_eq hc.1 hc.2] at *
  by_cases hf:c.all (yak (val t))=true
  ·refine⟨hc.1,hc.2,?_⟩
   rw[if_pos hf]
   obtain⟨b,hb,e⟩:=yej (yef hc.1) (val t)
   have h1:=ykC (List.all_eq_true.1 hf b hb)
   rw[<- e] at h1
   exact⟨y7u h1,y5p _⟩
  ·rw[if_neg hf] at h;cases h
 ·rw[yi0 hc] at h;cases h
def TQ:List (List B)->Rat->Rat
 | [],_=>0
 | c::l,t=>AT c t+TQ l t
theorem tot_0{t:R}:∀(l:List (List B)) (a:R×Int),(tot t l a).2=0->(a.2=0/\(∀ c∈l,(ATF c t).2=0))/\(V a.1=true->V (tot t l a).1=true/\val (tot t l a).1=val a.1+TQ l (val t))
 | [],a,h=>⟨⟨h,by simp⟩,fun hv=>⟨hv,by show val a.1=_;simp[TQ,Rat.add_zero]⟩⟩
 | c::l,a,h=>by
  rw[tot] at h ⊢
  obtain⟨⟨h1,h2⟩,h3⟩:=tot_0 l _ h
  obtain⟨e1,e2,e3⟩:=CD_0 h1
  have ha:a.2=0:=by
   by_cases hz:a.2=0
   ·exact hz
   ·rw[if_neg hz] at e1;exact absurd e1 hz
  rw[if_pos ha] at e1
  refine⟨⟨ha,fun d hd=>?_⟩,fun hv=>?_⟩
  ·rcases List.mem_cons.1 hd with rfl | hd
   ·exact e1
   ·exact h2 d hd
  ·obtain⟨q1,q2,q3⟩:=y8q e2
   obtain⟨c1,c2,c3,c4⟩:=yfV e1
   rw[e3] at h3
   obtain⟨r1,r2⟩:=h3 q2
   rw[e3]
   refine⟨r1,?_⟩
   rw[r2,q3,c4,TQ,Rat.add_assoc]
def RS(s:SV):Rat:=val s.fRate
def LS(s:SV):Rat:=val s.fL
def phi(l:List (List B))(s:SV)(t:Rat):Rat:=TQ l t / RS s-t+LS s
theorem dv_0{t:R}(hs:VS s=true)(h:(dv l s 0 t).2=0):(∀ c∈l,VC c=true/\GR t=true)/\V t=true/\V (dv l s 0 t).1=true/\val (dv l s 0 t).1=phi l s (val t):=by
 have h0:=(yal hs).2.1
 unfold dv at h ⊢
 simp only at h ⊢
 obtain⟨a1,a2,a3⟩:=CD_0 h
 rw[a3]
 obtain⟨b1,b2,b3⟩:=CD_0 a1
 rw[b3] at a2 ⊢
 obtain⟨c1,c2,c3⟩:=CD_0 b1
 rw[c3] at b2 a2 ⊢
 obtain⟨⟨_,d1⟩,d2⟩:=tot_0 l _ c1
 obtain⟨d3,d4⟩:=d2 V_Z1
 obtain⟨e1,e2,e3⟩:=DIV_0 (by omega) c2
 obtain⟨f1,f2,f3⟩:=yeh b2
 obtain⟨g1,g2,g3⟩:=y8q a2
 refine⟨fun c hc=>?_,f1.2,g2,?_⟩
 ·have:=yfV (d1 c hc);exact⟨this.1,this.2.1⟩
 ·rw[g3,f3,e3,d4]
  have:val Z1=0:=by decide +kernel
  unfold phi RS LS
  rw[this,Rat.zero_add]
/-! ### the greatest value over points -/
section
variable {f:Int->R->R×Int}
theorem yjh(hf:∀ e t,e≠0->f e t=(Z1,e))(hV:∀ p,(f 0 p).2=0->V (f 0 p).1=true):∀(P:List R) (s:List R×Int),(P.foldl (stp f) s).2=0->(∀ b,s.1=[b]->V b=true)->(s.1=[]\/∃ b,s.1=[b])->
  s.2=0/\(∀ p∈P,(f 0 p).2=0)/\(∃ d,(P.foldl (stp f) s).1=[d]/\V d=true/\(s.1=[d]\/∃ p∈P,d=(f 0 p).1)/\(∀ b,s.1=[b]->val b<=val d)/\∀ p∈P,val (f 0 p).1<=val d)\/(P=[]/\s.2=0)
 | [],s,h,_,_ => .inr ⟨rfl,h⟩
 | p::P,s,h,hs,hb=>by
  refine .inl ?_
  have hz:s.2=0:=by
   by_cases hz:s.2=0
   ·exact hz
   ·rw[ygD hf (p::P) s hz] at h;exact h
  rw[List.foldl_cons] at h
  have hz1:(stp f s p).2=0:=by
   by_cases hz1:(stp f s p).2=0
   ·exact hz1
   ·rw[ygD hf P _ hz1] at h;exact absurd h hz1
  have hp:(f 0 p).2=0:=by
   have:(stp f s p).2=(f s.2 p).2:=rfl
   rw[this,hz] at hz1;exact hz1
  have hVp:=hV p hp
  -- one step
  have hstep:∃ b,(stp f s p).1=[b]/\V b=true/\(s.1=[b]\/b=(f 0 p).1)/\(∀ b0,s.1=[b0]->val b0<=val b)/\val (f 0 p).1<=val b:=by
   unfold stp
   rw[hz]
   rcases hb with hb | ⟨b,hb⟩
   ·rw[hb];exact⟨_,rfl,hVp,.inr rfl,by simp,Rat.le_refl⟩
   ·rw[hb]
    simp only
    have hvb:=hs b hb
    by_cases hc:CM (f 0 p).1 b>0
    ·rw[if_pos hc]
     rw[CM_V hVp hvb] at hc
     refine⟨_,rfl,hVp,.inr rfl,fun b0 h0=>?_,Rat.le_refl⟩
     have h0:b=b0:=by injection h0
     subst h0
     exact Rat.le_of_lt (yea.1 hc)
    ·rw[if_neg hc]
     rw[CM_V hVp hvb] at hc
     refine⟨b,rfl,hvb,.inl rfl,fun b0 h0=>?_,?_⟩
     ·have h0:b=b0:=by injection h0
      subst h0;exact Rat.le_refl
     ·exact Rat.not_lt.1 fun h=>hc (yea.2 h)
  obtain⟨b,e1,e2,e3,e4,e5⟩:=hstep
  rw[List.foldl_cons]
  rcases yjh hf hV P (stp f s p) h (fun b' hb'=>(List.cons.inj (e1.symm.trans hb')).1▸e2) (.inr ⟨b,e1⟩) with⟨_,q1,d,d1,d2,d3,d4,d5⟩ | ⟨q1,_⟩
  ·refine⟨hz,fun x hx=>?_,d,d1,d2,?_,fun b0 h0=>?_,fun x hx=>?_⟩
   ·rcases List.mem_cons.1 hx with rfl | hx
    ·exact hp
    ·exact q1 x hx
   ·rcases d3 with d3 | ⟨x,hx,d3⟩
    ·rw[e1] at d3
     have:b=d:=by injection d3
     subst this
     rcases e3 with e3 | e3
     ·exact .inl e3
     ·exact .inr ⟨p,by simp,e3⟩
    ·exact .inr ⟨x,List.mem_cons_of_mem _ hx,d3⟩
   ·exact Rat.le_trans (e4 b0 h0) (d4 b e1)
   ·rcases List.mem_cons.1 hx with rfl | hx
    ·exact Rat.le_trans e5 (d4 b e1)
    ·exact d5 x hx
  ·subst q1
   refine⟨hz,fun x hx=>?_,b,e1,e2,?_,e4,fun x hx=>?_⟩
   ·rw[List.mem_singleton.1 hx];exact hp
   ·rcases e3 with e3 | e3
    ·exact .inl e3
    ·exact .inr ⟨p,by simp,e3⟩
   ·rw[List.mem_singleton.1 hx];exact e5
theorem mxv_0(hf:∀ e t,e≠0->f e t=(Z1,e))(hV:∀ p,(f 0 p).2=0->V (f 0 p).1=true){P:List R}(hP:P≠[])(h:(mxv f P).2=0):
  (∀ p∈P,(f 0 p).2=0/\val (f 0 p).1<=val (mxv f P).1)/\V (mxv f P).1=true/\∃ p∈P,(mxv f P).1=(f 0 p).1:=by
 unfold mxv at h ⊢
 simp only at h ⊢
 by_cases hz:(P.foldl (stp f) ([],0)).2≠0
 ·rw[if_pos hz] at h;exact absurd h hz
 ·rw[if_neg hz]
  rcases yjh hf hV P ([],0) (by simpa using hz) (by simp) (.inl rfl) with⟨_,q1,d,d1,d2,d3,d4,d5⟩ | ⟨q1,_⟩
  ·rw[d1]
   refine⟨fun p hp=>⟨q1 p hp,d5 p hp⟩,d2,?_⟩
   rcases d3 with d3 | d3
   ·cases d3
   ·exact d3
  ·exact absurd q1 hP
end
/-! ### the check -/
def rr(c:List B):Rat:=val (RTF c).1
theorem rr_ex{c:List B}(h:VC c=true):(∃ d∈c,rr c=rq d)/\∀ x∈c,rr c<=rq x:=by
 obtain⟨d,e,hd,hm⟩:=yja h
 have:rr c=rq d:=by unfold rr RTF;rw[e];rfl
 rw[this]
 exact⟨⟨d,hd,rfl⟩,hm⟩
def RQ:List (List B)->Rat
 | []=>0
 | c::l=>rr c+RQ l
theorem ckl_0:∀(l:List (List B)) (a r:R×Int),ckl l a = .inr r->r.2=0->V a.1=true->a.2=0/\V r.1=true/\val r.1=val a.1+RQ l/\∀ c∈l,(BRK c).2=0
 | [],a,r,h,h0,hv=>by
  injection h with h;subst h
  exact⟨h0,hv,by simp[RQ,Rat.add_zero],by simp⟩
 | c::l,a,r,h,h0,hv=>by
  rw[ckl] at h
  split at h
  ·cases h
  ·rename_i hb
   by_cases ha:(CD a.2 (ADD a.1 (RTF c).1)).2=0
   ·obtain⟨e1,e2,e3⟩:=CD_0 ha
    obtain⟨q1,q2,q3⟩:=y8q e2
    rw[e3] at h
    obtain⟨i1,i2,i3,i4⟩:=ckl_0 l _ r h h0 q2
    refine⟨e1,i2,?_,fun d hd=>?_⟩
    ·rw[i3,q3,RQ,Rat.add_assoc];rfl
    ·rcases List.mem_cons.1 hd with rfl | hd
     ·simpa using hb
     ·exact i4 d hd
   ·have:V (CD a.2 (ADD a.1 (RTF c).1)).1=true:=by
     unfold CD at ha ⊢
     split
     ·exact V_Z1
     ·split
      ·exact V_Z1
      ·rename_i h1 h2;rw[if_neg h1,if_neg h2] at ha;exact absurd (by simpa using h2) ha
    exact absurd (ckl_0 l _ r h h0 this).1 ha
structure FIT (l:List (List B)) (s:SV):Prop where
 vc:∀ c∈l,VC c=true
 vs:VS s=true
 br:∀ c∈l,(BRK c).2=0
 rate:RQ l<=RS s
theorem CKF_0(h:CKF l s=0):FIT l s:=by
 have hs:=yi5 h
 unfold CKF at h
 split at h
 ·cases h
 ·rename_i hc
  simp only[Bool.or_eq_true,not_or,Bool.not_eq_true',Bool.not_eq_true] at hc
  obtain⟨⟨c1,c2⟩,_⟩:=hc
  have hall:∀ c∈l,VC c=true:=List.all_eq_true.1 (by simpa using c2)
  split at h
  ·rename_i e heq
   exfalso
   -- an error of Breaks is not zero
   have:∀(l:List (List B)) (a:R×Int),ckl l a = .inl e->e≠0:=by
    intro l
    induction l with
    | nil=>intro a h;cases h
    | cons c l ih=>
     intro a h
     rw[ckl] at h
     split at h
     ·rename_i hb;injection h with h;subst h;exact hb
     ·exact ih _ h
   exact this l _ heq h
  ·rename_i r heq
   split at h
   ·rename_i hr;exact absurd h hr
   ·rename_i hr
    split at h
    ·cases h
    ·rename_i hcm
     have hr0:r.2=0:=by simpa using hr
     obtain⟨_,i2,i3,i4⟩:=ckl_0 l _ r heq hr0 V_Z1
     refine⟨hall,hs,i4,?_⟩
     rw[CM_V i2 (yal hs).1] at hcm
     have:val Z1=0:=by decide +kernel
     rw[this,Rat.zero_add] at i3
     have h5:val r.1<=val s.fRate:=Rat.not_lt.1 fun h=>hcm (yea.2 h)
     rw[i3] at h5;exact h5
theorem DL_0(h:(DL l s).2=0):FIT l s/\V (DL l s).1=true/\(∀ p∈PTS l [],(∀ c∈l,GR p=true)/\V p=true/\phi l s (val p)<=val (DL l s).1)/\∃ p∈PTS l [],val (DL l s).1=phi l s (val p):=by
 unfold DL at h ⊢
 by_cases hc:CKF l s=0
 ·rw[if_pos hc] at h ⊢
  have hf:=CKF_0 hc
  obtain⟨h1,h2,p,h3,h4⟩:=mxv_0 (f:=dv l s) (P:=PTS l []) (fun e t he=>dv_err he) (fun p hp=>(dv_0 hf.vs hp).2.2.1) (by simp[PTS]) h
  refine⟨hf,h2,fun q hq=>?_,p,h3,?_⟩
  ·obtain⟨a1,a2⟩:=h1 q hq
   obtain⟨b1,b2,b3,b4⟩:=dv_0 hf.vs a1
   refine⟨fun c hc=>(b1 c hc).2,b2,?_⟩
   rw[<- b4];exact a2
  ·rw[h4];exact(dv_0 hf.vs (h1 p h3).1).2.2.2
 ·rw[if_neg hc] at h;exact absurd h hc
end Go.Proofs.YthjnhebofpebpaaGreat
namespace Go.Proofs.YthjnhebofpebpaaGreat
open Go Go.RowKit Sep
variable {n:Int}
def WZ(n:Int):Rat:=Rat.divInt n 1
theorem y6N(n:Int):WZ n=(n:Rat):=by
 unfold WZ
 first | exact Rat.divInt_one n | exact Rat.mkRat_one n | (show mkRat n 1=_;exact Rat.mkRat_one n) | simp[Rat.divInt] | (ext <;> simp[Rat.divInt])
theorem y5R{m:Int}(h:m<=n):WZ m<=WZ n:=by rw[y6N,y6N];exact Rat.intCast_le_intCast.2 h
theorem y8J(h:0<=n):0<=WZ n:=by have:=y5R h;rwa [show WZ 0=0 by decide +kernel] at this
theorem y98(m n:Int):WZ (m+n)=WZ m+WZ n:=by rw[y6N,y6N,y6N,Rat.intCast_add]
theorem ydH(m n:Int):WZ (m*n)=WZ m*WZ n:=by rw[y6N,y6N,y6N,Rat.intCast_mul]
theorem val_w(n:Int):val ⟨n,1⟩=WZ n:=rfl
theorem V_whole{x:R}(hv:V x=true)(h:val x=WZ n):x=⟨n,1⟩:=by
 obtain⟨h1,h2⟩:=ybu hv
 rw[h,y6N] at h1 h2
 have a1:n=x.fN:=h1
 have a2:(1:Int)=x.fD:=h2
 obtain⟨p,q⟩:=x
 simp only at a1 a2
 rw[a1,a2]
theorem flr_w{x:R}(hv:V x=true)(h:val x=WZ n):flr x=n:=by
 have e:=V_whole hv h
 obtain⟨f,h1,h2,h3,_⟩:=y6s hv
 unfold flr
 rw[h1]
 rw[e] at h2 h3
 simp only at h2 h3
 show f=n
 omega
/-! ### a single curve on a link -/
theorem ycL{w:Int}(h:1<=w/\w<=16):V ⟨1,w⟩=true/\0<val ⟨1,w⟩/\val ⟨1,w⟩*WZ w=1:=by
 have:w=1\/w=2\/w=3\/w=4\/w=5\/w=6\/w=7\/w=8\/w=9\/w=10\/w=11\/w=12\/w=13\/w=14\/w=15\/w=16:=by omega
 rcases this with rfl | rfl | rfl | rfl | rfl | rfl | rfl | rfl | rfl | rfl | rfl | rfl | rfl | rfl | rfl | rfl <;> decide +kernel
theorem yfW{a b q:Rat}(h:a<=b)(hq:0<q):a / q<=b / q:=by
 rw[Rat.div_def,Rat.div_def]
 exact Rat.mul_le_mul_of_nonneg_right h (Rat.le_of_lt (Rat.inv_pos.2 hq))
theorem div_slow{σ w a:Rat}(h:σ*w=1):a / σ=a*w:=by
 have h0:σ≠0:=by rintro rfl;rw[Rat.zero_mul] at h;exact absurd h (by decide +kernel)
 have:σ⁻¹=w:=by
  have h1:σ⁻¹*(σ*w)=σ⁻¹:=by rw[h,Rat.mul_one]
  rw[<- Rat.mul_assoc,Rat.inv_mul_cancel _ h0,Rat.one_mul] at h1
  exact h1.symm
 rw[Rat.div_def,this]
end Go.Proofs.YthjnhebofpebpaaGreat
namespace Go.Proofs.YthjnhebofpebpaaGreat
open Go Go.RowKit Sep
variable {P:List Int}{l:List (List B)}{p:B×B}{t:Rat}{s:SV}{x n:Int}
theorem yfX(h:0<bpD p):bp p*bpD p=bpA p:=by
 unfold bp
 exact Rat.div_mul_cancel (by grind)
theorem bp_gt(h:0<bpD p)(ht:vq t p.1<vq t p.2):t<bp p:=by
 have e:=yfX h
 refine Rat.not_le.1 fun hle=>?_
 have:=Rat.mul_le_mul_of_nonneg_right hle (Rat.le_of_lt h)
 unfold vq at ht;unfold bpA bpD at *
 grind
theorem bp_le(h:0<bpD p)(ht:vq t p.2<=vq t p.1):bp p<=t:=by
 have e:=yfX h
 refine Rat.not_lt.1 fun hlt=>?_
 have:=Rat.mul_lt_mul_of_pos_right hlt h
 unfold vq at ht;unfold bpA bpD at *
 grind
theorem bp_lt(h:0<bpD p)(ht:vq t p.2<vq t p.1):bp p<t:=by
 have e:=yfX h
 refine Rat.not_le.1 fun hle=>?_
 have:=Rat.mul_le_mul_of_nonneg_right hle (Rat.le_of_lt h)
 unfold vq at ht;unfold bpA bpD at *
 grind
theorem bp_ge(h:0<bpD p)(ht:vq t p.1<=vq t p.2):t<=bp p:=by
 have e:=yfX h
 refine Rat.not_lt.1 fun hlt=>?_
 have:=Rat.mul_lt_mul_of_pos_right hlt h
 unfold vq at ht;unfold bpA bpD at *
 grind
theorem ybw:∀ {l:List B},(l.Pairwise fun x y=>bq x<bq y/\rq y<rq x)->∀ {x y:B},x∈l->y∈l->rq y<rq x->bq x<bq y
 | [],_,x,y,hx,_,_=>by simp at hx
 | z::l,h,x,y,hx,hy,hxy=>by
  obtain⟨h1,h2⟩:=List.pairwise_cons.1 h
  rcases List.mem_cons.1 hx with e | hx'
  ·subst e
   rcases List.mem_cons.1 hy with e | hy'
   ·subst e;grind
   ·exact(h1 y hy').1
  ·rcases List.mem_cons.1 hy with e | hy'
   ·subst e;have:=(h1 x hx').2;grind
   ·exact ybw h2 hx' hy' hxy
def isBp(c:List B)(q:Rat):Prop:=∃ p:B×B,p.1∈y24 c/\p.2∈y24 c/\bq p.1<bq p.2/\q=bp p
theorem stays{c:List B}(hc:∀ b∈c,GB b=true)(hne:c≠[]){x:Rat}(hx:0<=x):∃ b∈y24 c,AT c x=vq x b/\
  (∀ lo:Rat,0<=lo->lo<x->(∀ q,isBp c q->¬(lo<q/\q<=x))->AT c lo=vq lo b)/\
  (∀ hi:Rat,x<hi->(∀ q,isBp c q->¬(x<=q/\q<hi))->AT c hi=vq hi b)/\
  ((∀ q,isBp c q->¬x<=q)->∀ b'∈y24 c,rq b<=rq b'):=by
 have hN:=yjb hc hne
 obtain⟨b,hb,eb⟩:=yej hN x
 have hmin:∀ b'∈y24 c,vq x b<=vq x b':=fun b' h=>by rw[<- eb];exact AT_low h
 refine⟨b,hb,by rw[<- ygu hc hne hx];exact eb,fun lo h0 hlo hno=>?_,fun hi hhi hno=>?_,fun hno b' hb'=>?_⟩
 ·rw[<- ygu hc hne h0]
  refine ygs ⟨List.mem_map_of_mem hb,fun q hq=>?_⟩
  obtain⟨b',hb',rfl⟩:=List.mem_map.1 hq
  refine Rat.not_lt.1 fun hlt=>?_
  have h1:=hmin b' hb'
  have hr:rq b<rq b':=by
   refine Rat.not_le.1 fun hle=>?_
   have h2:=Rat.mul_le_mul_of_nonneg_right hle (show 0<=x-lo by grind)
   unfold vq at hlt h1;grind
  have hbq:=ybw y8n hb' hb hr
  have hD:0<bpD (b',b):=by unfold bpD;grind
  exact hno _ ⟨(b',b),hb',hb,hbq,rfl⟩ ⟨bp_gt (p:=(b',b)) hD hlt,bp_le (p:=(b',b)) hD h1⟩
 ·have h0:0<=hi:=by grind
  rw[<- ygu hc hne h0]
  refine ygs ⟨List.mem_map_of_mem hb,fun q hq=>?_⟩
  obtain⟨b',hb',rfl⟩:=List.mem_map.1 hq
  refine Rat.not_lt.1 fun hlt=>?_
  have h1:=hmin b' hb'
  have hr:rq b'<rq b:=by
   refine Rat.not_le.1 fun hle=>?_
   have h2:=Rat.mul_le_mul_of_nonneg_right hle (show 0<=hi-x by grind)
   unfold vq at hlt h1;grind
  have hbq:=ybw y8n hb hb' hr
  have hD:0<bpD (b,b'):=by unfold bpD;grind
  exact hno _ ⟨(b,b'),hb,hb',hbq,rfl⟩ ⟨bp_ge (p:=(b,b')) hD h1,bp_lt (p:=(b,b')) hD hlt⟩
 ·refine Rat.not_lt.1 fun hlt=>?_
  have hbq:=ybw y8n hb hb' hlt
  have hD:0<bpD (b,b'):=by unfold bpD;grind
  exact hno _ ⟨(b,b'),hb,hb',hbq,rfl⟩ (bp_ge (p:=(b,b')) hD (hmin b' hb'))
theorem ex_lo(h:∃ p∈P,p<=x):∃ lo∈P,lo<=x/\∀ p∈P,p<=x->p<=lo:=by
 obtain⟨p0,h0,h1⟩:=h
 have hne:(P.filter fun p=>decide (p<=x))≠[]:=List.ne_nil_of_mem (List.mem_filter.2 ⟨h0,decide_eq_true h1⟩)
 obtain⟨lo,hlo,hm⟩:=ydC (fun p:Int => -(Rat.divInt p 1)) _ hne
 obtain⟨hlo,h2⟩:=List.mem_filter.1 hlo
 refine⟨lo,hlo,of_decide_eq_true h2,fun p hp hpx=>?_⟩
 have:=hm p (List.mem_filter.2 ⟨hp,decide_eq_true hpx⟩)
 rcases Int.lt_or_le lo p with h3 | h3
 ·exfalso
  have h4:(0:Rat)<=Rat.divInt (p-lo-1) 1:=Rat.divInt_nonneg (by omega) (by decide)
  have h5:Rat.divInt p 1=Rat.divInt (p-lo-1) 1+Rat.divInt lo 1+1:=by
   have e1:(1:Rat)=Rat.divInt 1 1:=by decide +kernel
   rw[e1,Rat.divInt_add_divInt _ _ (by decide) (by decide),Rat.divInt_add_divInt _ _ (by decide) (by decide)]
   congr 1
   omega
  grind
 ·exact h3
theorem ex_hi(h:∃ p∈P,x<=p):∃ hi∈P,x<=hi/\∀ p∈P,x<=p->hi<=p:=by
 obtain⟨p0,h0,h1⟩:=h
 obtain⟨lo,h2,h3,h4⟩:=ex_lo (P:=P.map fun p => -p) (x := -x) ⟨-p0,List.mem_map.2 ⟨p0,h0,rfl⟩,by omega⟩
 obtain⟨p,hp,e⟩:=List.mem_map.1 h2
 refine⟨p,hp,by omega,fun q hq hqx=>?_⟩
 have:=h4 (-q) (List.mem_map.2 ⟨q,hq,rfl⟩) (by omega)
 omega
theorem yfY(m n:Int):WZ m-WZ n=WZ (m-n):=by
 unfold WZ
 rw[Rat.divInt_sub_divInt _ _ (by decide) (by decide)]
 congr 1
 omega
theorem WZ_one:WZ 1=1:=by decide +kernel
theorem yfZ{m:Int}(h:m<n):WZ m<WZ n:=by
 have h1:=y5R (m:=m+1) (n:=n) (by omega)
 have h2:=yfY (m+1) m
 rw[show m+1-m=1 by omega,WZ_one] at h2
 grind
theorem yba{m:Int}(h:WZ m<WZ n):m<n:=by
 rcases Int.lt_or_le m n with h1 | h1
 ·exact h1
 ·have:=y5R h1;grind
def y7c(P:List Int)(q:Rat):Prop:=(∃ f∈P,WZ f<=q/\q<WZ (f+1))/\∃ e∈P,WZ (e-1)<q/\q<=WZ e
def ydI(P:List Int)(U:Rat->Rat)(R:Rat):Prop:=∀ lo x:Int,0<=lo->lo<x->(∀ p∈P,p<=x->p<=lo)->∃ u0 u1:Rat,U (WZ lo)=u0+u1*WZ lo/\U (WZ x)=u0+u1*WZ x/\
 (∀ hi:Int,x<hi->(∀ p∈P,x<=p->hi<=p)->U (WZ hi)=u0+u1*WZ hi)/\((∀ p∈P,¬x<=p)->u1=R)
theorem yhh(R:Rat):ydI P (fun t=>R*t) R:=by
 intro lo x _ _ _
 exact⟨0,R,by grind,by grind,fun hi _ _=>by grind,fun _=>rfl⟩
def ya8(R:Rat)(L:Int)(t:Rat):Rat:=if t<=WZ L then 0 else R*(t-WZ L)
theorem yfd(R:Rat){L:Int}(hL:L∈P):ydI P (ya8 R L) R:=by
 intro lo x h0 hlt hlo
 by_cases h:x<=L
 ·by_cases hx:x=L
  ·exfalso;have:=hlo L hL (by omega);omega
  ·have hxL:x<L:=by omega
   refine⟨0,0,?_,?_,fun hi h1 h2=>?_,fun hn=>absurd h (hn L hL)⟩
   ·unfold ya8;rw[if_pos (y5R (by omega))];grind
   ·unfold ya8;rw[if_pos (y5R h)];grind
   ·have:=h2 L hL h
    unfold ya8;rw[if_pos (y5R this)];grind
 ·have hLl:=hlo L hL (by omega)
  have key:∀ t:Int,L<=t->ya8 R L (WZ t) = -(R*WZ L)+R*WZ t:=by
   intro t ht
   unfold ya8
   by_cases e:t=L
   ·rw[e,if_pos Rat.le_refl];grind
   ·rw[if_neg (Rat.not_le.2 (yfZ (by omega)))];grind
  exact⟨-(R*WZ L),R,key lo hLl,key x (by omega),fun hi h1 _=>key hi (by omega),fun _=>rfl⟩
/-! ### between the points the total is affine -/
theorem TQ_pw{P:List Int}:∀ {l:List (List B)},(∀ c∈l,VC c=true)->(∀ c∈l,∀ q,isBp c q->y7c P q)->∀ lo x:Int,0<=lo->lo<x->(∀ p∈P,p<=x->p<=lo)->
  ∃ u0 u1:Rat,TQ l (WZ lo)=u0+u1*WZ lo/\TQ l (WZ x)=u0+u1*WZ x/\(∀ hi:Int,x<hi->(∀ p∈P,x<=p->hi<=p)->TQ l (WZ hi)=u0+u1*WZ hi)/\((∀ p∈P,¬x<=p)->u1<=RQ l)
 | [],_,_,lo,x,_,_,_=>⟨0,0,by unfold TQ;grind,by unfold TQ;grind,fun hi _ _=>by unfold TQ;grind,fun _=>Rat.le_refl⟩
 | c::l,hv,hb,lo,x,h0,hlt,hlo=>by
  obtain⟨u0,u1,a1,a2,a3,a4⟩:=TQ_pw (fun d hd=>hv d (List.mem_cons_of_mem _ hd)) (fun d hd=>hb d (List.mem_cons_of_mem _ hd)) lo x h0 hlt hlo
  have hc:=hv c (by simp)
  have hbc:=hb c (by simp)
  obtain⟨b,m,x1,l1,h1,r1⟩:=stays (y96 hc) (yef hc) (y8J (show 0<=x by omega))
  have noLo:∀ q,y7c P q->¬(WZ lo<q/\q<=WZ x):=by
   rintro q ⟨_,e,he,e1,e2⟩ ⟨q1,q2⟩
   have:e-1<x:=yba (by grind)
   have h3:=hlo e he (by omega)
   have:=y5R h3
   grind
  have L1:=l1 (WZ lo) (y8J h0) (yfZ hlt) fun q hq=>noLo q (hbc q hq)
  refine⟨u0+bq b,u1+rq b,?_,?_,fun hi hxh g2=>?_,fun hno=>?_⟩
  ·rw[TQ,a1,L1];unfold vq;grind
  ·rw[TQ,a2,x1];unfold vq;grind
  ·have noHi:∀ q,y7c P q->¬(WZ x<=q/\q<WZ hi):=by
    rintro q ⟨⟨f,hf,f1,f2⟩,_⟩ ⟨q1,q2⟩
    have:x<f+1:=yba (by grind)
    have h3:=g2 f hf (by omega)
    have:=y5R h3
    grind
   have H1:=h1 (WZ hi) (yfZ hxh) fun q hq=>noHi q (hbc q hq)
   rw[TQ,a3 hi hxh g2,H1];unfold vq;grind
  ·have noB:∀ q,y7c P q->¬WZ x<=q:=by
    rintro q ⟨⟨f,hf,f1,f2⟩,_⟩ q1
    have:x<f+1:=yba (by grind)
    exact hno f hf (by omega)
   have R1:=r1 fun q hq=>noB q (hbc q hq)
   have h5:=a4 hno
   -- the least rate of the curve is that of a bucket of the normal form, or dominated by one
   obtain⟨⟨d,hd,e⟩,_⟩:=rr_ex hc
   obtain⟨a,ha,hle⟩:=ycG (y96 hc) hd
   have:=R1 a ha
   have:=hle.2
   rw[RQ,e];grind
theorem yji{U:Rat->Rat}{R:Rat}(hv:∀ c∈l,VC c=true)(hP0:0∈P)(hPpos:∀ p∈P,0<=p)(hb:∀ c∈l,∀ q,isBp c q->y7c P q)(hU:ydI P U R)(hR:RQ l<=R)(hx:0<=x):
  ∃ p∈P,TQ l (WZ x)-U (WZ x)<=TQ l (WZ p)-U (WZ p):=by
 obtain⟨lo,hlo,hlox,hlo2⟩:=ex_lo (P:=P) (x:=x) ⟨0,hP0,hx⟩
 by_cases e:lo=x
 ·exact⟨lo,hlo,by rw[e];exact Rat.le_refl⟩
 have hlt:lo<x:=by omega
 have hlo0:=hPpos lo hlo
 obtain⟨u0,u1,ul,ux,uh,ur⟩:=hU lo x hlo0 hlt hlo2
 obtain⟨v0,v1,vl,vx,vh,vr⟩:=TQ_pw hv hb lo x hlo0 hlt hlo2
 have wl:=yfZ hlt
 have key:∀ {ρ t t':Rat},0<=ρ->t<=t'->ρ*t<=ρ*t':=fun h h'=>Rat.mul_le_mul_of_nonneg_left h' h
 by_cases hhi:∃ p∈P,x<=p
 ·obtain⟨hi,g0,g1,g2⟩:=ex_hi hhi
  by_cases e2:hi=x
  ·exact⟨hi,g0,by rw[e2];exact Rat.le_refl⟩
  have hxh:x<hi:=by omega
  have uH:=uh hi hxh g2
  have vH:=vh hi hxh g2
  have wh:=yfZ hxh
  rcases(Rat.le_total:u1<=v1\/v1<=u1) with hs | hs
  ·refine⟨hi,g0,?_⟩
   rw[vx,vH,ux,uH]
   have:=key (ρ:=v1-u1) (by grind) (Rat.le_of_lt wh)
   grind
  ·refine⟨lo,hlo,?_⟩
   rw[vx,vl,ux,ul]
   have:=key (ρ:=u1-v1) (by grind) (Rat.le_of_lt wl)
   grind
 ·have hno:∀ p∈P,¬x<=p:=fun p hp h=>hhi ⟨p,hp,h⟩
  have h1:=vr hno
  have hu:=ur hno
  refine⟨lo,hlo,?_⟩
  rw[vx,vl,ux,ul]
  have:=key (ρ:=u1-v1) (by grind) (Rat.le_of_lt wl)
  grind
/-! ### the points of the code -/
theorem ybE{d:Int}(hn:0<n)(hd:0<d):(0:Rat)<Rat.divInt n d:=by
 have h0:(0:Rat)<=Rat.divInt n d:=Rat.divInt_nonneg (by omega) (by omega)
 refine Rat.not_le.1 fun h=>?_
 have e:Rat.divInt n d=Rat.divInt 0 d:=by rw[Rat.zero_divInt];exact Rat.le_antisymm h h0
 have:=(Rat.divInt_eq_divInt_iff (by omega) (by omega)).1 e
 rw[Int.zero_mul] at this
 have:=Int.mul_pos hn hd
 omega
theorem yh4{f N D:Int}(hD:0<D)(h:f*D<=N):WZ f<=Rat.divInt N D:=by
 have h1:(0:Rat)<=Rat.divInt (N-f*D) D:=Rat.divInt_nonneg (by omega) (by omega)
 have h2:Rat.divInt N D-WZ f=Rat.divInt (N-f*D) D:=by
  unfold WZ
  rw[Rat.divInt_sub_divInt _ _ (by omega) (by decide)]
  congr 1 <;> omega
 grind
theorem ydJ{f N D:Int}(hD:0<D)(h:N<f*D):Rat.divInt N D<WZ f:=by
 have h1:(0:Rat)<Rat.divInt (f*D-N) D:=ybE (by omega) hD
 have h2:WZ f-Rat.divInt N D=Rat.divInt (f*D-N) D:=by
  unfold WZ
  rw[Rat.divInt_sub_divInt _ _ (by decide) (by omega)]
  congr 1 <;> omega
 grind
theorem ykD{x:R}(hx:V x=true):∃ f e:Int,y1S x=some f/\y2S x=some e/\y7c [f,e] (val x)/\f<=e/\(0<=x.fN->0<=f)/\∀ M:Int,x.fN<=M*x.fD->e<=M:=by
 have hv:=hx
 simp only[V,decide_eq_true_eq] at hv
 have hD:0<x.fD:=by omega
 obtain⟨f,ef,f1,f2,_⟩:=y6s hx
 obtain⟨e,ee,e1,e2,_⟩:=ygA hx
 refine⟨f,e,ef,ee,⟨⟨f,by simp,yh4 hD f1,ydJ hD f2⟩,⟨e,by simp,?_,?_⟩⟩,?_,fun h=>?_,fun M h=>?_⟩
 ·have h1:(0:Rat)<Rat.divInt (x.fN-(e-1)*x.fD) x.fD:=ybE (by omega) hD
  have h2:val x-WZ (e-1)=Rat.divInt (x.fN-(e-1)*x.fD) x.fD:=by
   unfold WZ val
   rw[Rat.divInt_sub_divInt _ _ (by omega) (by decide)]
   congr 1 <;> omega
  grind
 ·have h1:(0:Rat)<=Rat.divInt (e*x.fD-x.fN) x.fD:=Rat.divInt_nonneg (by omega) (by omega)
  have h2:WZ e-val x=Rat.divInt (e*x.fD-x.fN) x.fD:=by
   unfold WZ val
   rw[Rat.divInt_sub_divInt _ _ (by decide) (by omega)]
   congr 1 <;> omega
  grind
 ·refine Int.not_lt.1 fun h=>?_
  have:=Int.mul_le_mul_of_nonneg_right (show e+1<=f by omega) (show 0<=x.fD by omega)
  have e3:(e+1)*x.fD=e*x.fD+x.fD:=by rw[Int.add_mul,Int.one_mul]
  omega
 ·refine Int.not_lt.1 fun h'=>?_
  have:=Int.mul_le_mul_of_nonneg_right (show f+1<=0 by omega) (show 0<=x.fD by omega)
  rw[Int.zero_mul] at this
  omega
 ·refine Int.not_lt.1 fun h'=>?_
  have:=Int.mul_le_mul_of_nonneg_right (show M<=e-1 by omega) (show 0<=x.fD by omega)
  omega
theorem yiM{Q:List Int}{q:Rat}(h:∀ p∈P,p∈Q)(hb:y7c P q):y7c Q q:=by
 obtain⟨⟨f,hf,f1⟩,⟨e,he,e1⟩⟩:=hb
 exact⟨⟨f,h f hf,f1⟩,⟨e,h e he,e1⟩⟩
def fc(l:List R):List Int:=l.flatMap fun x=>[flr x,cel x]
def PTI(l:List (List B))(more:List R):List Int:=0::((l.flatMap fun c=>fc (BRK c).1)++fc more)
theorem yjj(l:List R):y8y l=(fc l).map fun n=>(⟨n,1⟩:R):=by
 unfold y8y fc
 rw[List.map_flatMap]
 rfl
theorem yek(l:List (List B))(more:List R):PTS l more=(PTI l more).map fun n=>(⟨n,1⟩:R):=by
 unfold PTS PTI
 rw[List.map_cons,List.map_append,List.map_flatMap,<- yjj]
 simp only[yjj]
 rfl
theorem BRK_0{c:List B}(hc:VC c=true)(h:(BRK c).2=0):(∀ v∈(BRK c).1,V v=true)/\∀ q,isBp c q->∃ v∈(BRK c).1,val v=q:=by
 have hb:=ybv hc
 unfold BRK at *
 split at hb
 ·obtain⟨r,e,_,h2,h3,_⟩:=hb
  rw[e]
  refine⟨h3,fun q hq=>?_⟩
  obtain⟨p,p1,p2,p3,rfl⟩:=hq
  refine⟨ofQ (bp p),(h2 _).2 ⟨p,⟨p1,p2⟩,by unfold bl;exact decide_eq_true p3,rfl⟩,y5p _⟩
 ·rw[hb] at h;cases h
theorem fc_pts{v:R}(hv:V v=true):y7c [flr v,cel v] (val v):=by
 obtain⟨f,e,h1,h2,h3,_⟩:=ykD hv
 unfold flr cel
 rw[h1,h2];exact h3
theorem yg0{more:List R}(hf:∀ c∈l,VC c=true/\(BRK c).2=0):∀ c∈l,∀ q,isBp c q->y7c (PTI l more) q:=by
 intro c hc q hq
 obtain⟨h1,h2⟩:=BRK_0 (hf c hc).1 (hf c hc).2
 obtain⟨v,hv,rfl⟩:=h2 q hq
 refine yiM (fun p hp=>?_) (fc_pts (h1 v hv))
 unfold PTI fc
 refine List.mem_cons_of_mem _ (List.mem_append_left _ ?_)
 exact List.mem_flatMap.2 ⟨c,hc,List.mem_flatMap.2 ⟨v,hv,hp⟩⟩
theorem yib(h:VS s=true):0<RS s:=by
 obtain⟨h1,h2,_⟩:=yal h
 have hv:=h1
 simp only[V,decide_eq_true_eq] at hv
 exact ybE h2 (by omega)
theorem ydK(h:0<RS s):phi l s t=(TQ l t-RS s*t) / RS s+LS s:=by
 unfold phi
 have h0:RS s≠0:=by grind
 have:(TQ l t-RS s*t) / RS s=TQ l t / RS s-t:=by
  rw[Rat.div_def,Rat.div_def,Rat.sub_eq_add_neg,Rat.add_mul,Rat.neg_mul,Rat.mul_comm (RS s) t,Rat.mul_assoc,Rat.mul_inv_cancel _ h0,Rat.mul_one,<- Rat.sub_eq_add_neg]
 rw[this]
theorem DL_sup(h:(DL l s).2=0)(hx:0<=x):phi l s (WZ x)<=val (DL l s).1:=by
 obtain⟨f,_,f3,_⟩:=DL_0 h
 have hR:=yib f.vs
 have hmem:∀ p∈PTI l [],(⟨p,1⟩:R)∈PTS l []:=fun p hp=>by rw[yek];exact List.mem_map_of_mem hp
 have hpos:∀ p∈PTI l [],0<=p:=fun p hp=>by
  by_cases hl:l=[]
  ·subst hl;unfold PTI fc at hp;simp at hp;omega
  ·obtain⟨c,hc⟩:=List.exists_mem_of_ne_nil _ hl
   have:=(f3 _ (hmem p hp)).1 c hc
   unfold GR at this
   simp only[Bool.and_eq_true,decide_eq_true_eq] at this
   exact this.2
 obtain⟨p,hp,hle⟩:=yji (U:=fun t=>RS s*t) (R:=RS s) f.vc (P:=PTI l []) (by unfold PTI;simp) hpos (yg0 fun c hc=>⟨f.vc c hc,f.br c hc⟩) (yhh _) f.rate hx
 have h2:=(f3 _ (hmem p hp)).2.2
 refine Rat.le_trans ?_ h2
 rw[ydK hR,ydK hR]
 have h3:=yfW hle hR
 show _<=(TQ l (WZ p)-RS s*WZ p) / RS s+LS s
 grind
/-! ### the backlog -/
def psi(l:List (List B))(s:SV)(t:Rat):Rat:=TQ l t-if t<=LS s then 0 else RS s*(t-LS s)
theorem bv_0{t:R}(hs:VS s=true)(ht:V t=true)(h:(bv l s 0 t).2=0):(∀ c∈l,VC c=true/\GR t=true)/\V (bv l s 0 t).1=true/\val (bv l s 0 t).1=psi l s (val t):=by
 have hL:=(yal hs).2.2.1
 have z1:val Z1=0:=by decide +kernel
 unfold bv at h ⊢
 simp only at h ⊢
 rw[CM_V ht hL] at h ⊢
 by_cases hc:y5P (val t) (val s.fL)<=0
 ·rw[if_pos hc] at h ⊢
  obtain⟨⟨_,d1⟩,d2⟩:=tot_0 l _ h
  obtain⟨d3,d4⟩:=d2 V_Z1
  refine⟨fun c hc=>by have:=yfV (d1 c hc);exact⟨this.1,this.2.1⟩,d3,?_⟩
  rw[d4];unfold psi LS
  rw[if_pos (yaJ.1 hc),z1];grind
 ·rw[if_neg hc] at h ⊢
  obtain⟨a1,a2,a3⟩:=CD_0 h
  rw[a3]
  obtain⟨b1,b2,b3⟩:=CD_0 a1
  rw[b3] at a2 ⊢
  obtain⟨c1,c2,c3⟩:=CD_0 b1
  rw[c3] at b2 a2 ⊢
  obtain⟨⟨_,d1⟩,d2⟩:=tot_0 l _ c1
  obtain⟨d3,d4⟩:=d2 V_Z1
  obtain⟨e1,e2,e3⟩:=yeh c2
  obtain⟨f1,f2,f3⟩:=yei b2
  obtain⟨g1,g2,g3⟩:=yeh a2
  refine⟨fun c hc=>by have:=yfV (d1 c hc);exact⟨this.1,this.2.1⟩,g2,?_⟩
  rw[g3,f3,e3,d4];unfold psi LS RS
  rw[if_neg (fun h=>hc (yaJ.2 h)),z1];grind
theorem BL_0(hp:∀ p∈PTS l [s.fL],V p=true)(h:(BL l s).2=0):FIT l s/\V (BL l s).1=true/\(∀ p∈PTS l [s.fL],(∀ c∈l,GR p=true)/\psi l s (val p)<=val (BL l s).1)/\∃ p∈PTS l [s.fL],val (BL l s).1=psi l s (val p):=by
 unfold BL at h ⊢
 by_cases hc:CKF l s=0
 ·rw[if_pos hc] at h ⊢
  have hf:=CKF_0 hc
  -- a value without an error at a point that is no number does not count
  have key:∀ e t,e≠0->(fun e t=>if V t=true then bv l s e t else if e≠0 then(Z1,e) else(Z1,1)) e t=(Z1,e):=fun e t he=>by
   simp only
   split
   ·exact bv_err he
   ·first | exact if_pos he | rfl
  have hfold:∀(P:List R) (st:List R×Int),(∀ p∈P,V p=true)->P.foldl (stp (bv l s)) st=P.foldl (stp (fun e t=>if V t=true then bv l s e t else if e≠0 then(Z1,e) else(Z1,1))) st:=by
   intro P
   induction P with
   | nil=>intro st _;rfl
   | cons p P ih=>
    intro st hP
    rw[List.foldl_cons,List.foldl_cons,ih _ fun q hq=>hP q (List.mem_cons_of_mem _ hq)]
    congr 1
    unfold stp
    simp only[hP p (by simp),if_true]
  have hmx:mxv (bv l s) (PTS l [s.fL])=mxv (fun e t=>if V t=true then bv l s e t else if e≠0 then(Z1,e) else(Z1,1)) (PTS l [s.fL]):=by
   unfold mxv;rw[hfold _ _ hp]
  rw[hmx] at h ⊢
  obtain⟨h1,h2,p,h3,h4⟩:=mxv_0 (P:=PTS l [s.fL]) key (fun p hq=>by
   by_cases hv:V p=true
   ·rw[if_pos hv] at hq ⊢;exact(bv_0 hf.vs hv hq).2.1
   ·rw[if_neg hv] at hq;simp at hq) (by simp[PTS]) h
  refine⟨hf,h2,fun q hq=>?_,p,h3,?_⟩
  ·obtain⟨a1,a2⟩:=h1 q hq
   rw[if_pos (hp q hq)] at a1 a2
   obtain⟨b1,b2,b3⟩:=bv_0 hf.vs (hp q hq) a1
   refine⟨fun c hc=>(b1 c hc).2,?_⟩
   rw[<- b3];exact a2
  ·have a1:=(h1 p h3).1
   rw[if_pos (hp p h3)] at a1 h4
   rw[h4]
   exact(bv_0 hf.vs (hp p h3) a1).2.2
 ·rw[if_neg hc] at h;exact absurd h hc
end Go.Proofs.YthjnhebofpebpaaGreat
namespace Go.Proofs.YthjnhebofpebpaaGreat
open Go Go.RowKit Sep
variable {l m:List (List B)}{s:SV}{x y:R}{t:Rat}{r:R×Int}
/-! ### no less: the backlog -/
theorem BL_sup{L:Int}(hL:s.fL=⟨L,1⟩)(hp:∀ p∈PTS l [s.fL],V p=true/\0<=p.fN)(h:(BL l s).2=0){x:Int}(hx:0<=x):psi l s (WZ x)<=val (BL l s).1:=by
 obtain⟨f,_,f3,_⟩:=BL_0 (fun p hq=>(hp p hq).1) h
 have hR:=yib f.vs
 have hVL:=(yal f.vs).2.2.1
 have hLS:LS s=WZ L:=by unfold LS;rw[hL];rfl
 have hmem:∀ p∈PTI l [s.fL],(⟨p,1⟩:R)∈PTS l [s.fL]:=fun p hq=>by rw[yek];exact List.mem_map_of_mem hq
 have hfl:L∈PTI l [s.fL]:=by
  have:flr s.fL=L:=flr_w hVL (by rw[hL];rfl)
  unfold PTI fc
  refine List.mem_cons_of_mem _ (List.mem_append_right _ ?_)
  simp[this]
 obtain⟨p,hq,hle⟩:=yji (U:=ya8 (RS s) L) (R:=RS s) f.vc (P:=PTI l [s.fL]) (by unfold PTI;simp) (fun p hq=>(hp _ (hmem p hq)).2) (yg0 fun c hc=>⟨f.vc c hc,f.br c hc⟩) (yfd _ hfl) f.rate hx
 have h2:=(f3 _ (hmem p hq)).2
 refine Rat.le_trans ?_ h2
 unfold psi
 rw[hLS]
 exact hle
/-! ### errors of valid numbers -/
def y6O(e:Int):Prop:=e=0\/e=3
theorem mk_3(q:Rat):y6O (mk q).2/\((mk q).2=0->V (mk q).1=true):=by
 unfold mk y6O
 split
 ·rename_i h;exact⟨.inl rfl,fun _=>y7u h⟩
 ·exact⟨.inr rfl,fun h=>by cases h⟩
theorem ADD_3(hx:V x=true)(hy:V y=true):y6O (ADD x y).2:=by unfold ADD;rw[ydy hx hy];exact(mk_3 _).1
theorem SUB_3(hx:V x=true)(hy:V y=true):y6O (SUB x y).2:=by unfold SUB;rw[yc4 hx hy];exact(mk_3 _).1
theorem MUL_3(hx:V x=true)(hy:V y=true):y6O (MUL x y).2:=by unfold MUL;rw[ydz hx hy];exact(mk_3 _).1
theorem DIV_3(h0:y.fN≠0)(hx:V x=true)(hy:V y=true):y6O (DIV x y).2:=by unfold DIV;rw[yc5 hx hy h0];exact(mk_3 _).1
def OK3(r:R×Int):Prop:=(r.2=0/\V r.1=true)\/r.2=3
theorem OK3.e(h:OK3 r):y6O r.2:=h.elim (fun h => .inl h.1) .inr
theorem ATF_3{c:List B}{t:R}(hc:VC c=true)(ht:GR t=true):y6O (ATF c t).2/\((ATF c t).2=0->V (ATF c t).1=true):=by
 refine⟨?_,fun h=>(yfV h).2.2.1⟩
 unfold ATF
 rw[at_eq hc ht]
 show y6O (if _ then _ else _:R×Int).2
 split
 ·exact .inl rfl
 ·exact .inr rfl
theorem tot_3{t:R}(ht:GR t=true):∀(l:List (List B)) (a:R×Int),(∀ c∈l,VC c=true)->OK3 a->OK3 (tot t l a)
 | [],a,_,ha=>ha
 | c::l,a,hl,ha=>by
  rw[tot]
  refine tot_3 ht l _ (fun d hd=>hl d (List.mem_cons_of_mem _ hd)) ?_
  rcases ha with⟨a1,a2⟩ | a1
  ·rw[if_pos a1]
   obtain⟨h1,h2⟩:=ATF_3 (hl c (by simp)) ht
   rcases h1 with h1 | h1
   ·rw[h1]
    rcases ADD_3 a2 (h2 h1) with h3 | h3
    ·rw[ygB h3];exact .inl ⟨h3,(y8q h3).2.1⟩
    ·rw[yi3 (by omega)];exact .inr h3
   ·rw[y97 (by omega)];exact .inr h1
  ·rw[if_neg (by omega),a1,y97 (by omega)];exact .inr rfl
theorem ybb{e:Int}(he:y6O e)(hr:e=0->OK3 r):OK3 (CD e r):=by
 rcases he with rfl | rfl
 ·rcases hr rfl with h | h
  ·rw[ygB h.1];exact .inl h
  ·rw[yi3 (by omega)];exact .inr h
 ·rw[y97 (by omega)];exact .inr rfl
theorem OK3.val(h:OK3 r)(h0:r.2=0):V r.1=true:=by
 rcases h with h | h
 ·exact h.2
 ·omega
theorem dv_3{t:R}(hl:∀ c∈l,VC c=true)(hs:VS s=true)(ht:GR t=true):OK3 (dv l s 0 t):=by
 obtain⟨s1,s2,s3,s4⟩:=yal hs
 have h1:=tot_3 ht l (Z1,0) hl (.inl ⟨rfl,V_Z1⟩)
 unfold dv
 simp only
 have h2:OK3 (CD (tot t l (Z1,0)).2 (DIV (tot t l (Z1,0)).1 s.fRate)):=ybb h1.e fun e=>by
  rcases DIV_3 (show s.fRate.fN≠0 by omega) (h1.val e) s1 with h | h
  ·exact .inl ⟨h,(DIV_0 (by omega) h).2.1⟩
  ·exact .inr h
 have h3:=ybb (r:=SUB (CD (tot t l (Z1,0)).2 (DIV (tot t l (Z1,0)).1 s.fRate)).1 t) h2.e fun e=>by
  rcases SUB_3 (h2.val e) (y57 ht) with h | h
  ·exact .inl ⟨h,(yeh h).2.1⟩
  ·exact .inr h
 exact ybb h3.e fun e=>by
  rcases ADD_3 (h3.val e) s3 with h | h
  ·exact .inl ⟨h,(y8q h).2.1⟩
  ·exact .inr h
theorem bv_3{t:R}(hl:∀ c∈l,VC c=true)(hs:VS s=true)(ht:GR t=true):OK3 (bv l s 0 t):=by
 obtain⟨s1,s2,s3,s4⟩:=yal hs
 have h1:=tot_3 ht l (Z1,0) hl (.inl ⟨rfl,V_Z1⟩)
 unfold bv
 simp only
 split
 ·exact h1
 ·have h2:OK3 (CD (tot t l (Z1,0)).2 (SUB t s.fL)):=ybb h1.e fun e=>by
   rcases SUB_3 (y57 ht) s3 with h | h
   ·exact .inl ⟨h,(yeh h).2.1⟩
   ·exact .inr h
  have h3:=ybb (r:=MUL s.fRate (CD (tot t l (Z1,0)).2 (SUB t s.fL)).1) h2.e fun e=>by
   rcases MUL_3 s1 (h2.val e) with h | h
   ·exact .inl ⟨h,(yei h).2.1⟩
   ·exact .inr h
  exact ybb h3.e fun e=>by
   have e1:(tot t l (Z1,0)).2=0:=by
    by_cases hz:(tot t l (Z1,0)).2=0
    ·exact hz
    ·rw[y97 hz] at e;rw[y97 hz] at e;exact absurd e hz
   rcases SUB_3 (h1.val e1) (h3.val e) with h | h
   ·exact .inl ⟨h,(yeh h).2.1⟩
   ·exact .inr h
theorem mxv_3{f:Int->R->R×Int}(hf:∀ e t,e≠0->f e t=(Z1,e)){P:List R}(hp:∀ p∈P,y6O (f 0 p).2):y6O (mxv f P).2:=by
 have key:∀(P:List R) (s:List R×Int),(∀ p∈P,y6O (f 0 p).2)->y6O s.2->y6O (P.foldl (stp f) s).2:=by
  intro P
  induction P with
  | nil=>intro s _ h;exact h
  | cons p P ih=>
   intro s hP hs
   rw[List.foldl_cons]
   refine ih _ (fun q hq=>hP q (List.mem_cons_of_mem _ hq)) ?_
   show y6O (f s.2 p).2
   rcases hs with h | h
   ·rw[h];exact hP p (by simp)
   ·rw[h,hf _ _ (by omega)];exact .inr rfl
 have h:=key P ([],0) hp (.inl rfl)
 unfold mxv
 simp only
 split
 ·exact h
 ·exact .inl rfl
theorem yjk{c:List B}(hc:VC c=true):y6O (BRK c).2/\∀ v∈(BRK c).1,V v=true/\0<=v.fN:=by
 have hb:=ybv hc
 unfold BRK
 split at hb
 ·obtain⟨r,e,_,h2,h3,_⟩:=hb
  rw[e]
  refine⟨.inl rfl,fun v hv=>⟨h3 v hv,?_⟩⟩
  obtain⟨p,⟨p1,p2⟩,p3,rfl⟩:=(h2 v).1 hv
  have h4:bq p.1<bq p.2:=of_decide_eq_true p3
  have h5:=ydD y8n p1 p2 h4
  have hD:0<bpD p:=by unfold bpD;grind
  have hA:0<=bpA p:=by unfold bpA;grind
  have:0<=bp p:=by
   unfold bp
   have:=yfW hA hD
   rwa [Rat.div_def,Rat.zero_mul] at this
  show 0<=(ofQ (bp p)).fN
  unfold ofQ
  exact Rat.num_nonneg.2 this
 ·rw[hb];exact⟨.inr rfl,by simp⟩
theorem fc_GR{v:R}(h:V v=true/\0<=v.fN):GR ⟨flr v,1⟩=true/\GR ⟨cel v,1⟩=true:=by
 have hv:=h.1
 simp only[V,decide_eq_true_eq] at hv
 obtain⟨f,h1,h2,h3,h4,h5⟩:=y6s h.1
 obtain⟨e,g1,g2,g3,g4,g5⟩:=ygA h.1
 have hw:∀ n:Int,0<=n->n<=1073741824->GR ⟨n,1⟩=true:=fun n h0 hn=>by
  unfold GR V
  rw[Bool.and_eq_true,decide_eq_true_eq,decide_eq_true_eq]
  exact⟨⟨by show(1:Int)<=1;omega,by show(1:Int)<=1073741824;omega,by show -1073741824<=n;omega,by show n<=1073741824;omega,Nat.gcd_one_right _⟩,h0⟩
 unfold flr cel
 rw[h1,g1]
 refine⟨hw f ?_ h5,hw e ?_ g5⟩
 ·refine Int.not_lt.1 fun hc=>?_
  have:=Int.mul_le_mul_of_nonneg_right (show f+1<=0 by omega) (show 0<=v.fD by omega)
  rw[Int.zero_mul] at this
  omega
 ·refine Int.not_lt.1 fun hc=>?_
  have:=Int.mul_le_mul_of_nonneg_right (show e <= -1 by omega) (show 0<=v.fD by omega)
  omega
theorem ydL{more:List R}(hl:∀ c∈l,VC c=true)(hm:∀ x∈more,V x=true/\0<=x.fN):∀ p∈PTS l more,GR p=true:=by
 intro p hp
 unfold PTS at hp
 have key:∀ r:List R,(∀ v∈r,V v=true/\0<=v.fN)->∀ p∈y8y r,GR p=true:=by
  intro r hr p hp
  unfold y8y at hp
  obtain⟨v,hv,hp⟩:=List.mem_flatMap.1 hp
  have:=fc_GR (hr v hv)
  simp only[List.mem_cons,List.not_mem_nil,or_false] at hp
  rcases hp with rfl | rfl
  ·exact this.1
  ·exact this.2
 rcases List.mem_cons.1 hp with rfl | hp
 ·decide +kernel
 ·rcases List.mem_append.1 hp with hp | hp
  ·obtain⟨c,hc,hp⟩:=List.mem_flatMap.1 hp
   exact key _ (yjk (hl c hc)).2 p hp
  ·exact key _ hm p hp
theorem ckl_3:∀(l:List (List B)) (a:R×Int),(∀ c∈l,VC c=true)->OK3 a->(∃ e,ckl l a = .inl e/\e=3)\/∃ r,ckl l a = .inr r/\OK3 r
 | [],a,_,ha => .inr ⟨a,rfl,ha⟩
 | c::l,a,hl,ha=>by
  rw[ckl]
  have hc:=hl c (by simp)
  rcases(yjk hc).1 with h | h
  ·rw[if_neg (by omega)]
   refine ckl_3 l _ (fun d hd=>hl d (List.mem_cons_of_mem _ hd)) (ybb ha.e fun e=>?_)
   rcases ADD_3 (ha.val e) (rt_s hc).2 with h | h
   ·exact .inl ⟨h,(y8q h).2.1⟩
   ·exact .inr h
  ·rw[if_pos (by omega)];exact .inl ⟨_,rfl,h⟩
theorem CKF_3(h32:l.length<=32)(hl:∀ c∈l,VC c=true)(hs:VS s=true)(hr:RQ l<=RS s):y6O (CKF l s):=by
 unfold CKF
 have hall:l.all VC=true:=List.all_eq_true.2 hl
 rw[if_neg (by simp[hall,hs];omega)]
 rcases ckl_3 l (Z1,0) hl (.inl ⟨rfl,V_Z1⟩) with⟨e,h1,h2⟩ | ⟨r,h1,h2⟩
 ·rw[h1];exact .inr h2
 ·rw[h1]
  simp only
  rcases h2 with h2 | h2
  ·rw[if_neg (by simp[h2.1])]
   obtain⟨_,i2,i3,_⟩:=ckl_0 l _ r h1 h2.1 V_Z1
   have z1:val Z1=0:=by decide +kernel
   rw[z1,Rat.zero_add] at i3
   rw[if_neg]
   ·exact .inl rfl
   ·rw[CM_V i2 (yal hs).1,i3]
    exact fun h=>absurd (yea.1 h) (Rat.not_lt.2 hr)
  ·rw[if_pos (by omega),h2];exact .inr rfl
theorem DL_3(h32:l.length<=32)(hl:∀ c∈l,VC c=true)(hs:VS s=true)(hr:RQ l<=RS s):y6O (DL l s).2:=by
 unfold DL
 split
 ·exact mxv_3 (fun e t he=>dv_err he) fun p hp=>(dv_3 hl hs (ydL hl (by simp) p hp)).e
 ·exact CKF_3 h32 hl hs hr
theorem BL_3(h32:l.length<=32)(hl:∀ c∈l,VC c=true)(hs:VS s=true)(hr:RQ l<=RS s):y6O (BL l s).2:=by
 obtain⟨_,_,s3,s4⟩:=yal hs
 unfold BL
 split
 ·exact mxv_3 (fun e t he=>bv_err he) fun p hp=>(bv_3 hl hs (ydL hl (by simp[s3,s4]) p hp)).e
 ·exact CKF_3 h32 hl hs hr
/-! ### curves that lie below others -/
def CLE(a b:List B):Prop:=VC a=true/\VC b=true/\∀ y∈b,∃ x∈a,le2 x y
theorem CLE.at{a b:List B}(h:CLE a b)(ht:0<=t):AT a t<=AT b t:=by
 obtain⟨y,hy,e⟩:=yej (yef h.2.1) t
 obtain⟨x,hx,hle⟩:=h.2.2 y hy
 rw[e]
 exact Rat.le_trans (AT_low hx) (vq_le hle ht)
theorem CLE.rr{a b:List B}(h:CLE a b):rr a<=rr b:=by
 obtain⟨⟨y,hy,e⟩,_⟩:=rr_ex h.2.1
 obtain⟨x,hx,hle⟩:=h.2.2 y hy
 rw[e]
 exact Rat.le_trans ((rr_ex h.1).2 x hx) hle.2
theorem AT_pos{c:List B}(hc:VC c=true)(ht:0<=t):0<=AT c t:=by
 obtain⟨y,hy,e⟩:=yej (yef hc) t
 rw[e];exact vq_pos (y96 hc y hy) ht
theorem rr_pos{c:List B}(hc:VC c=true):0<=rr c:=by
 obtain⟨⟨y,hy,e⟩,_⟩:=rr_ex hc
 rw[e];exact yb7 (y9B (y96 hc y hy))
inductive LEC:List (List B)->List (List B)->Prop
 | nil:LEC [] []
 | both {a b:List B} {l m:List (List B)} (h:CLE a b) (t:LEC l m):LEC (a::l) (b::m)
 | skip {b:List B} {l m:List (List B)} (h:VC b=true) (t:LEC l m):LEC l (b::m)
theorem LEC.len(h:LEC l m):l.length<=m.length:=by
 induction h with
 | nil=>simp
 | both _ _ ih=>simpa using ih
 | skip _ _ ih=>simp;omega
theorem LEC.vc(h:LEC l m):∀ c∈l,VC c=true:=by
 induction h with
 | nil=>simp
 | both h _ ih=>
  intro c hc
  rcases List.mem_cons.1 hc with rfl | hc
  ·exact h.1
  ·exact ih c hc
 | skip _ _ ih=>exact ih
theorem LEC.tq(h:LEC l m)(ht:0<=t):TQ l t<=TQ m t:=by
 induction h with
 | nil=>exact Rat.le_refl
 | both h _ ih=>unfold TQ;have:=h.at ht;grind
 | skip h _ ih=>rw[show ∀(b:List B) m,TQ (b::m) t=AT b t+TQ m t from fun _ _=>rfl];have:=AT_pos h ht;grind
theorem LEC.rq(h:LEC l m):RQ l<=RQ m:=by
 induction h with
 | nil=>exact Rat.le_refl
 | both h _ ih=>unfold RQ;have:=h.rr;grind
 | skip h _ ih=>rw[show ∀(b:List B) m,RQ (b::m)=rr b+RQ m from fun _ _=>rfl];have:=rr_pos h;grind
theorem LEC.app{l' m':List (List B)}(h:LEC l m)(k:LEC l' m'):LEC (l++l') (m++m'):=by
 induction h with
 | nil=>exact k
 | both h _ ih=>exact .both h ih
 | skip h _ ih=>exact .skip h ih
theorem TQ_pos(h:∀ c∈l,VC c=true)(ht:0<=t):0<=TQ l t:=by
 induction l with
 | nil=>exact Rat.le_refl
 | cons c l ih=>
  have h1:=AT_pos (h c (by simp)) ht
  have h2:=ih fun d hd=>h d (List.mem_cons_of_mem _ hd)
  unfold TQ;grind
/-! ### lower curves have lower bounds -/
theorem CKF_len(h:CKF l s=0):l.length<=32:=by
 unfold CKF at h
 split at h
 ·cases h
 ·rename_i hc
  simp only[Bool.or_eq_true,not_or,decide_eq_true_eq] at hc
  omega
theorem DL_len(h:(DL l s).2=0):l.length<=32:=by
 unfold DL at h
 split at h
 ·rename_i hc;exact CKF_len hc
 ·rename_i hc;exact absurd h hc
theorem yjl(h:LEC l m)(hm:(DL m s).2=0):(DL l s).2=3\/((DL l s).2=0/\V (DL l s).1=true/\0<=val (DL l s).1/\V (DL m s).1=true/\val (DL l s).1<=val (DL m s).1):=by
 obtain⟨f,f1,_,_⟩:=DL_0 hm
 have h32:=DL_len hm
 have hl:=h.len
 rcases DL_3 (s:=s) (by omega) h.vc f.vs (Rat.le_trans h.rq f.rate) with h0 | h3
 ·refine .inr ⟨h0,?_⟩
  obtain⟨g,g1,g2,p,g3,g4⟩:=DL_0 h0
  have hR:=yib f.vs
  have hLS:0<=LS s:=by
   obtain⟨_,_,a3,a4⟩:=yal f.vs
   exact yb7 (by unfold GR;rw[a3];simpa using a4)
  refine⟨g1,?_,f1,?_⟩
  ·have hz:=(g2 Z1 (by simp[PTS])).2.2
   have z1:val Z1=0:=by decide +kernel
   rw[z1] at hz
   refine Rat.le_trans ?_ hz
   rw[ydK hR]
   have h5:=TQ_pos h.vc (Rat.le_refl (a:=0))
   have h6:=yfW (show(0:Rat)<=TQ l 0-RS s*0 by grind) hR
   rw[Rat.div_def,Rat.zero_mul] at h6
   grind
  ·rw[g4]
   have hp:=ydL h.vc (by simp) p g3
   rw[yek] at g3
   obtain⟨n,hn,rfl⟩:=List.mem_map.1 g3
   have hn0:0<=n:=by
    unfold GR at hp
    simp only[Bool.and_eq_true,decide_eq_true_eq] at hp
    exact hp.2
   refine Rat.le_trans ?_ (DL_sup hm hn0)
   rw[val_w,ydK hR,ydK hR]
   have h5:=h.tq (y8J hn0)
   have h6:=yfW (show TQ l (WZ n)-RS s*WZ n<=TQ m (WZ n)-RS s*WZ n by grind) hR
   grind
 ·exact .inl h3
theorem BL_mono{L:Int}(hL:s.fL=⟨L,1⟩)(h:LEC l m)(hmv:∀ c∈m,VC c=true)(hd:(DL m s).2=0)(hm:(BL m s).2=0):(BL l s).2=3\/((BL l s).2=0/\V (BL l s).1=true/\V (BL m s).1=true/\val (BL l s).1<=val (BL m s).1):=by
 obtain⟨f,_,_,_⟩:=DL_0 hd
 obtain⟨_,_,a3,a4⟩:=yal f.vs
 have h32:=DL_len hd
 have hl:=h.len
 have hpt:∀ {l:List (List B)},(∀ c∈l,VC c=true)->∀ p∈PTS l [s.fL],V p=true/\0<=p.fN:=fun hl p hp=>by
  have:=ydL hl (by simp[a3,a4]) p hp
  exact⟨y57 this,by unfold GR at this;simp only[Bool.and_eq_true,decide_eq_true_eq] at this;exact this.2⟩
 rcases BL_3 (s:=s) (by omega) h.vc f.vs (Rat.le_trans h.rq f.rate) with h0 | h3
 ·refine .inr ⟨h0,?_⟩
  obtain⟨g,g1,g2,p,g3,g4⟩:=BL_0 (fun p hp=>(hpt h.vc p hp).1) h0
  obtain⟨_,k1,_⟩:=BL_0 (fun p hp=>(hpt hmv p hp).1) hm
  refine⟨g1,k1,?_⟩
  rw[g4]
  have hp:=hpt h.vc p g3
  rw[yek] at g3
  obtain⟨n,hn,rfl⟩:=List.mem_map.1 g3
  refine Rat.le_trans ?_ (BL_sup hL (hpt hmv) hm hp.2)
  rw[val_w]
  unfold psi
  have h5:=h.tq (y8J hp.2)
  have h6:∀ q:Rat,TQ l (WZ n)-q<=TQ m (WZ n)-q:=fun q=>by grind
  exact h6 _
 ·exact .inl h3
theorem yfe(hx:V x=true)(hy:V y=true)(h:val x<=val y):flr x<=flr y:=by
 obtain⟨f,h1,h2,h3,_⟩:=y6s hx
 obtain⟨g,g1,g2,g3,_⟩:=y6s hy
 have hvx:=hx;have hvy:=hy
 simp only[V,decide_eq_true_eq] at hvx hvy
 unfold flr
 rw[h1,g1]
 show f<=g
 have a1:WZ f<=val x:=yh4 (by omega) h2
 have a2:val y<WZ (g+1):=ydJ (by omega) g3
 have:f<g+1:=yba (by grind)
 omega
theorem yjm(hx:V x=true)(h:0<=val x):0<=flr x:=by
 have h0:flr (⟨0,1⟩:R)=0:=flr_w (by decide +kernel) (by decide +kernel)
 have:=yfe (x:=⟨0,1⟩) (by decide +kernel) hx (by rw[show val (⟨0,1⟩:R)=0 by decide +kernel];exact h)
 omega
theorem yic(hx:V x=true) : -1073741824<=flr x/\flr x<=1073741824:=by
 obtain⟨f,h1,_,_,h4,h5⟩:=y6s hx
 unfold flr;rw[h1];exact⟨h4,h5⟩
end Go.Proofs.YthjnhebofpebpaaGreat
namespace Go.Proofs.YthjnhebofpebpaaGreat
open Go Go.RowKit Sep
variable {x y1 y2:R}{p:Pl}{bu:BM}
/-! ### numbers of the two computations -/
def GV(x:R):Prop:=V x=true/\0<=val x
def RL(x y:R):Prop:=GV x/\GV y/\val x<=val y
theorem GV.gr(h:GV x):GR x=true:=by
 unfold GR
 rw[h.1,Bool.true_and,decide_eq_true_eq]
 obtain⟨h1,h2⟩:=ybu h.1
 rw[<- h1];exact Rat.num_nonneg.2 h.2
theorem GR.gv(h:GR x=true):GV x:=⟨y57 h,yb7 h⟩
theorem GV_w{n:Int}(h:0<=n/\n<=1073741824):GV ⟨n,1⟩:=GR.gv (by
 unfold GR V
 rw[Bool.and_eq_true,decide_eq_true_eq,decide_eq_true_eq]
 exact⟨⟨by show(1:Int)<=1;omega,by show(1:Int)<=1073741824;omega,by show -1073741824<=n;omega,by show n<=1073741824;omega,Nat.gcd_one_right _⟩,h.1⟩)
theorem RL_w{m n:Int}(h:0<=m/\m<=n/\n<=1073741824):RL ⟨m,1⟩ ⟨n,1⟩:=⟨GV_w (by omega),GV_w (by omega),y5R h.2.1⟩
theorem GV.refl(h:GV x):RL x x:=⟨h,h,Rat.le_refl⟩
theorem DO_e(r:R×Int):(DO 3 r).2=3:=by unfold DO;simp
theorem DO_z(r:R×Int):(DO 0 r).2=r.2:=by unfold DO;simp
theorem yid{x1 x2:R}(h1:RL x1 y1)(h2:RL x2 y2)(hy:(DO 0 (ADD y1 y2)).2=0):(DO 0 (ADD x1 x2)).2=3\/((DO 0 (ADD x1 x2)).2=0/\RL (DO 0 (ADD x1 x2)).1 (DO 0 (ADD y1 y2)).1):=by
 obtain⟨_,e2,e3⟩:=y8z hy
 obtain⟨_,a2,a3⟩:=y8q e2
 rw[DO_z]
 rcases ADD_3 h1.1.1 h2.1.1 with h | h
 ·refine .inr ⟨h,?_⟩
  obtain⟨_,_,f3⟩:=y8z (e:=0) (r:=ADD x1 x2) (by rw[DO_z];exact h)
  obtain⟨_,b2,b3⟩:=y8q h
  rw[e3,f3]
  have p1:=h1.1.2;have p2:=h2.1.2;have p3:=h1.2.1.2;have p4:=h2.2.1.2;have p5:=h1.2.2;have p6:=h2.2.2
  exact⟨⟨b2,by rw[b3];grind⟩,⟨a2,by rw[a3];grind⟩,by rw[b3,a3];grind⟩
 ·exact .inl h
theorem DO_mul{x1 x2:R}(h1:RL x1 y1)(h2:RL x2 y2)(hy:(DO 0 (MUL y1 y2)).2=0):(DO 0 (MUL x1 x2)).2=3\/((DO 0 (MUL x1 x2)).2=0/\RL (DO 0 (MUL x1 x2)).1 (DO 0 (MUL y1 y2)).1):=by
 obtain⟨_,e2,e3⟩:=y8z hy
 obtain⟨_,a2,a3⟩:=yei e2
 rw[DO_z]
 rcases MUL_3 h1.1.1 h2.1.1 with h | h
 ·refine .inr ⟨h,?_⟩
  obtain⟨_,_,f3⟩:=y8z (e:=0) (r:=MUL x1 x2) (by rw[DO_z];exact h)
  obtain⟨_,b2,b3⟩:=yei h
  rw[e3,f3]
  refine⟨⟨b2,by rw[b3];exact Rat.mul_nonneg h1.1.2 h2.1.2⟩,⟨a2,by rw[a3];exact Rat.mul_nonneg h1.2.1.2 h2.2.1.2⟩,?_⟩
  rw[b3,a3]
  exact Rat.le_trans (Rat.mul_le_mul_of_nonneg_right h1.2.2 h2.1.2) (Rat.mul_le_mul_of_nonneg_left h2.2.2 h1.2.1.2)
 ·exact .inl h
theorem ygF(h1:GV y1)(h2:GV y2)(hy:(DO 0 (ADD y1 y2)).2=0):GV (DO 0 (ADD y1 y2)).1/\val y1<=val (DO 0 (ADD y1 y2)).1:=by
 obtain⟨_,e2,e3⟩:=y8z hy
 obtain⟨_,a2,a3⟩:=y8q e2
 rw[e3]
 have p1:=h1.2;have p2:=h2.2
 exact⟨⟨a2,by rw[a3];grind⟩,by rw[a3];grind⟩
theorem DO_mul0(h1:GV y1)(h2:GV y2)(hy:(DO 0 (MUL y1 y2)).2=0):GV (DO 0 (MUL y1 y2)).1:=by
 obtain⟨_,e2,e3⟩:=y8z hy
 obtain⟨_,a2,a3⟩:=yei e2
 rw[e3]
 exact⟨a2,by rw[a3];exact Rat.mul_nonneg h1.2 h2.2⟩
theorem yel{c:Cf}{v:Int}(hv:VLs c)(h:0<=v/\v<c.fVLs.length):GV (RT c v):=by
 obtain⟨⟨h1,h2⟩,h3,h4⟩:=hv _ (yO h.1 h.2)
 have hf:fits (Rat.divInt (mx c v) (nth c.fVLs v).fBag)=true:=ybD (by omega) ⟨by unfold mx;omega,by omega⟩
 unfold RT
 rw[yec hf]
 exact⟨y7u hf,by rw[y5p];exact divInt_nonneg (by unfold mx;omega) (by omega)⟩
structure LESS (c d:Cf) (rs rs':List (List Hop)):Prop where
 m:d.fM=c.fM
 s:d.fS=c.fS
 l:d.fK=c.fK
 vc:VLs c
 vd:VLs d
 lc:rs.length=c.fVLs.length
 ld:rs'.length=d.fVLs.length
 len:rs'.length=rs.length
 rt:∀ v:Int,0<=v->v<rs.length->nth rs' v=nth rs v\/nth rs' v=[]
 mx:∀ v:Int,0<=v->v<rs.length->mx d v<=mx c v
 rate:∀ v:Int,0<=v->v<rs.length->val (RT d v)<=val (RT c v)
/-! ### the virtual links of one link -/
structure GSR (s2 s1:GS):Prop where
 e2:s2.e=0
 e1:s1.e=0
 w:0<=s2.wide/\s2.wide<=s1.wide/\s1.wide<=72
 b:RL s2.b s1.b
 r:RL s2.r s1.r
theorem yff{c:Cf}{s:GS}{v:Int}(h:(gst c bu p s v).e=0):s.e=0/\(DO s.e (ADD s.b (yd bu ⟨v,p⟩ ⟨0,0⟩))).2=0:=by
 have h1:=(y8z (show(DO (DO s.e (ADD s.b (yd bu ⟨v,p⟩ ⟨0,0⟩))).2 (ADD s.r (RT c v))).2=0 from h)).1
 exact⟨(y8z h1).1,h1⟩
theorem y99{c:Cf}{bu:BM}{p:Pl}:∀(l:List Int) (s:GS),(l.foldl (gst c bu p) s).e=0->s.e=0
 | [],s,h=>h
 | v::l,s,h=>(yff (y99 l _ h)).1
theorem yem{c:Cf}{bu:BM}{p:Pl}:∀(l:List Int) (s:GS),s.e=3->(l.foldl (gst c bu p) s).e=3
 | [],s,h=>h
 | v::l,s,h=>by
  refine yem l _ ?_
  show(DO (DO s.e _).2 _).2=3
  rw[h,DO_e,DO_e]
theorem yh5{c d:Cf}{rs rs':List (List Hop)}(hL:LESS c d rs rs'){bu2 bu1:BM}{l2 l1:List Int}(hsub:l2.Sublist l1):∀ {s2 s1:GS},GSR s2 s1->(∀ x∈l1,(0<=x/\x<rs.length)/\GV (yd bu1 ⟨x,p⟩ ⟨0,0⟩))->(∀ x∈l2,RL (yd bu2 ⟨x,p⟩ ⟨0,0⟩) (yd bu1 ⟨x,p⟩ ⟨0,0⟩))->
  (l1.foldl (gst c bu1 p) s1).e=0->(l2.foldl (gst d bu2 p) s2).e=3\/GSR (l2.foldl (gst d bu2 p) s2) (l1.foldl (gst c bu1 p) s1):=by
 induction hsub with
 | slnil=>intro s2 s1 h _ _ _;exact .inr h
 | cons x hs ih=>
  intro s2 s1 h h1 h2 he
  rw[List.foldl_cons] at he ⊢
  have hb:=y99 _ _ he
  obtain⟨x1,x2⟩:=h1 x (by simp)
  have hbk:=(yff hb).2
  rw[h.e1] at hbk
  have hr:(DO (DO s1.e (ADD s1.b (yd bu1 ⟨x,p⟩ ⟨0,0⟩))).2 (ADD s1.r (RT c x))).2=0:=hb
  rw[h.e1,hbk] at hr
  have g1:=ygF h.b.2.1 x2 hbk
  have g2:=ygF h.r.2.1 (yel hL.vc ⟨x1.1,by have:=hL.lc;omega⟩) hr
  have hmx:=hL.vc _ (yO x1.1 (show x<(c.fVLs.length:Int) by have:=hL.lc;omega))
  refine ih ⟨h.e2,hb,?_,?_,?_⟩ (fun y hy=>h1 y (List.mem_cons_of_mem _ hy)) h2 he
  ·have:=h.w
   refine⟨this.1,?_,?_⟩
   ·show s2.wide<=max s1.wide (mx c x);omega
   ·show max s1.wide (mx c x)<=72;unfold mx;omega
  ·show RL s2.b (DO s1.e (ADD s1.b (yd bu1 ⟨x,p⟩ ⟨0,0⟩))).1
   rw[h.e1]
   exact⟨h.b.1,g1.1,Rat.le_trans h.b.2.2 g1.2⟩
  ·show RL s2.r (DO (DO s1.e (ADD s1.b (yd bu1 ⟨x,p⟩ ⟨0,0⟩))).2 (ADD s1.r (RT c x))).1
   rw[h.e1,hbk]
   exact⟨h.r.1,g2.1,Rat.le_trans h.r.2.2 g2.2⟩
 | cons_cons x hs ih=>
  intro s2 s1 h h1 h2 he
  rw[List.foldl_cons,List.foldl_cons] at *
  have hb:=y99 _ _ he
  obtain⟨x1,x2⟩:=h1 x (by simp)
  have hbk:=(yff hb).2
  rw[h.e1] at hbk
  have hr:(DO (DO s1.e (ADD s1.b (yd bu1 ⟨x,p⟩ ⟨0,0⟩))).2 (ADD s1.r (RT c x))).2=0:=hb
  rw[h.e1,hbk] at hr
  have hxd:0<=x/\x<(d.fVLs.length:Int):=⟨x1.1,by have:=hL.ld;have:=hL.len;omega⟩
  have hxc:0<=x/\x<(c.fVLs.length:Int):=⟨x1.1,by have:=hL.lc;omega⟩
  have hrt:RL (RT d x) (RT c x):=⟨yel hL.vd hxd,yel hL.vc hxc,hL.rate x x1.1 x1.2⟩
  have hmc:=hL.vc _ (yO hxc.1 hxc.2)
  have hmd:=hL.vd _ (yO hxd.1 hxd.2)
  have hmm:=hL.mx x x1.1 x1.2
  rcases yid h.b (h2 x (by simp)) hbk with k | ⟨k1,k2⟩
  ·refine .inl (yem _ _ ?_)
   show(DO (DO s2.e (ADD s2.b (yd bu2 ⟨x,p⟩ ⟨0,0⟩))).2 (ADD s2.r (RT d x))).2=3
   rw[h.e2,k,DO_e]
  ·rcases yid h.r hrt hr with k | ⟨k3,k4⟩
   ·refine .inl (yem _ _ ?_)
    show(DO (DO s2.e (ADD s2.b (yd bu2 ⟨x,p⟩ ⟨0,0⟩))).2 (ADD s2.r (RT d x))).2=3
    rw[h.e2,k1];exact k
   ·refine ih ⟨?_,hb,?_,?_,?_⟩ (fun y hy=>h1 y (List.mem_cons_of_mem _ hy)) (fun y hy=>h2 y (List.mem_cons_of_mem _ hy)) he
    ·show(DO (DO s2.e (ADD s2.b (yd bu2 ⟨x,p⟩ ⟨0,0⟩))).2 (ADD s2.r (RT d x))).2=0
     rw[h.e2,k1];exact k3
    ·have:=h.w
     refine⟨?_,?_,?_⟩
     ·show 0<=max s2.wide (mx d x);omega
     ·show max s2.wide (mx d x)<=max s1.wide (mx c x);omega
     ·show max s1.wide (mx c x)<=72;unfold mx;omega
    ·show RL (DO s2.e (ADD s2.b (yd bu2 ⟨x,p⟩ ⟨0,0⟩))).1 (DO s1.e (ADD s1.b (yd bu1 ⟨x,p⟩ ⟨0,0⟩))).1
     rw[h.e1,h.e2];exact k2
    ·show RL (DO (DO s2.e (ADD s2.b (yd bu2 ⟨x,p⟩ ⟨0,0⟩))).2 (ADD s2.r (RT d x))).1 (DO (DO s1.e (ADD s1.b (yd bu1 ⟨x,p⟩ ⟨0,0⟩))).2 (ADD s1.r (RT c x))).1
     rw[h.e1,h.e2,hbk,k1];exact k4
/-! ### the links -/
structure LSR (s2 s1:List (List B)×Int):Prop where
 e2:s2.2=0
 e1:s1.2=0
 l:LEC s2.1 s1.1
theorem yie{c:Cf}{lk:List (Int×List Int)}{s:List (List B)×Int}{q:Int}(h:(lst c lk bu p s q).2=0):s.2=0:=by
 unfold lst at h
 split at h
 ·exact h
 ·exact y99 _ _ h
theorem yaD{c:Cf}{lk:List (Int×List Int)}{bu:BM}{p:Pl}:∀(l:List Int) (s:List (List B)×Int),(l.foldl (lst c lk bu p) s).2=0->s.2=0
 | [],s,h=>h
 | v::l,s,h=>yie (yaD l _ h)
theorem lst_3{c:Cf}{lk:List (Int×List Int)}{s:List (List B)×Int}{q:Int}(h:s.2=3):(lst c lk bu p s q).2=3:=by
 unfold lst
 split
 ·exact h
 ·exact yem _ _ h
theorem ygG{c:Cf}{lk:List (Int×List Int)}{bu:BM}{p:Pl}:∀(l:List Int) (s:List (List B)×Int),s.2=3->(l.foldl (lst c lk bu p) s).2=3
 | [],s,h=>h
 | v::l,s,h=>ygG l _ (lst_3 h)
theorem GB_mk{y:R}(hx:GV x)(hy:GV y):GB ⟨x,y⟩=true:=by unfold GB;rw[hx.gr,hy.gr];rfl
theorem VC2{y z w:R}(hx:GV x)(hy:GV y)(hz:GV z)(hw:GV w):VC [(⟨x,y⟩:B),⟨z,w⟩]=true:=
 VC_of (fun b hb=>by
  simp only[List.mem_cons,List.not_mem_nil,or_false] at hb
  rcases hb with rfl | rfl
  ·exact GB_mk hx hy
  ·exact GB_mk hz hw) (by simp) (by simp)
theorem yen{c d:Cf}{rs rs':List (List Hop)}(hL:LESS c d rs rs'){p:Pl}{bu2 bu1:BM}{lk2 lk1:List (Int×List Int)}(hslow:∀ q:Int,∀ x∈yd lk1 q [],1<=(nth c.fK q).fSlow/\(nth c.fK q).fSlow<=16)(hsub:∀ q,(yd lk2 q []).Sublist (yd lk1 q []))(h1:∀ q,∀ x∈yd lk1 q [],(0<=x/\x<rs.length)/\GV (yd bu1 ⟨x,p⟩ ⟨0,0⟩))(h2:∀ q,∀ x∈yd lk2 q [],RL (yd bu2 ⟨x,p⟩ ⟨0,0⟩) (yd bu1 ⟨x,p⟩ ⟨0,0⟩)):∀(l:List Int) (s2 s1:List (List B)×Int),LSR s2 s1->(l.foldl (lst c lk1 bu1 p) s1).2=0->
  (l.foldl (lst d lk2 bu2 p) s2).2=3\/LSR (l.foldl (lst d lk2 bu2 p) s2) (l.foldl (lst c lk1 bu1 p) s1)
 | [],s2,s1,h,_ => .inr h
 | q::l,s2,s1,h,he=>by
  rw[List.foldl_cons] at he
  rw[List.foldl_cons,List.foldl_cons]
  have hb:=yaD _ _ he
  have z0:GV (⟨0,1⟩:R):=GV_w (by omega)
  by_cases hq1:yd lk1 q []=[]
  ·have hq2:yd lk2 q []=[]:=by have:=hsub q;rw[hq1] at this;exact List.sublist_nil.1 this
   have e1:lst c lk1 bu1 p s1 q=s1:=by unfold lst;rw[if_pos hq1]
   have e2:lst d lk2 bu2 p s2 q=s2:=by unfold lst;rw[if_pos hq2]
   rw[e1] at he ⊢;rw[e2]
   exact yen hL hslow hsub h1 h2 l s2 s1 h he
  ·obtain⟨x0,hx0⟩:=List.exists_mem_of_ne_nil _ hq1
   obtain⟨w1,w2⟩:=hslow q x0 hx0
   obtain⟨sv1,sv2,_⟩:=ycL ⟨w1,w2⟩
   have gsl:GV (⟨1,(nth c.fK q).fSlow⟩:R):=⟨sv1,Rat.le_of_lt sv2⟩
   have hg1:((yd lk1 q []).foldl (gst c bu1 p) ⟨0,s1.2,⟨0,1⟩,⟨0,1⟩⟩).e=0:=by
    unfold lst at hb;rw[if_neg hq1] at hb;exact hb
   have hstart:∀ s2e,s2e=0->GSR ⟨0,s2e,⟨0,1⟩,⟨0,1⟩⟩ ⟨0,s1.2,⟨0,1⟩,⟨0,1⟩⟩:=fun s2e e=>⟨e,h.e1,by simp,z0.refl,z0.refl⟩
   by_cases hq2:yd lk2 q []=[]
   ·have e2:lst d lk2 bu2 p s2 q=s2:=by unfold lst;rw[if_pos hq2]
    rw[e2]
    refine yen hL hslow hsub h1 h2 l s2 _ ⟨h.e2,hb,?_⟩ he
    rcases yh5 hL (l2:=[]) (bu2:=bu2) (List.nil_sublist _) (hstart 0 rfl) (h1 q) (by simp) hg1 with k | k
    ·cases k
    ·unfold lst;rw[if_neg hq1]
     have:=h.l.app (l':=[]) (.skip (VC2 k.b.2.1 k.r.2.1 (GV_w (n:=((yd lk1 q []).foldl (gst c bu1 p) ⟨0,s1.2,⟨0,1⟩,⟨0,1⟩⟩).wide) (by have hw:=k.w;simp only[List.foldl_nil] at hw;omega)) gsl) .nil)
     rw[List.append_nil] at this
     exact this
   ·rcases yh5 hL (hsub q) (hstart s2.2 h.e2) (h1 q) (h2 q) hg1 with k | k
    ·refine .inl (ygG _ _ ?_)
     unfold lst;rw[if_neg hq2];exact k
    ·refine yen hL hslow hsub h1 h2 l _ _ ⟨?_,hb,?_⟩ he
     ·unfold lst;rw[if_neg hq2];exact k.e2
     ·unfold lst;rw[if_neg hq1,if_neg hq2]
      refine h.l.app (.both ⟨?_,?_,?_⟩ .nil)
      ·rw[hL.l];exact VC2 k.b.1 k.r.1 (GV_w (by have:=k.w;omega)) gsl
      ·exact VC2 k.b.2.1 k.r.2.1 (GV_w (by have:=k.w;omega)) gsl
      ·intro y hy
       simp only[List.mem_cons,List.not_mem_nil,or_false] at hy
       rcases hy with rfl | rfl
       ·refine⟨_,List.mem_cons_self ..,?_⟩
        exact⟨k.b.2.2,k.r.2.2⟩
       ·refine⟨_,List.mem_cons_of_mem _ (List.mem_singleton.2 rfl),y5R k.w.2.1,?_⟩
        rw[hL.l];exact Rat.le_refl
end Go.Proofs.YthjnhebofpebpaaGreat
namespace Go.Proofs.YthjnhebofpebpaaGreat
open Go Go.RowKit Sep
variable {p:Pl}{v:Int}{rs:List (List Hop)}{de:DM}{s:CS}
/-! ### a virtual link at a port, in both computations -/
def gi(rs:List (List Hop))(p:Pl)(v:Int):Hop×Bool:=y39 (nth rs v) p.fNode
def y7o(c:Cf)(rs:List (List Hop))(de:DM)(p:Pl)(e v:Int):R×Int:=DO e (MUL (RT c v) ⟨yd de (pk (gi rs p v).1) 0,1⟩)
def y8i(c:Cf)(rs:List (List Hop))(de:DM)(p:Pl)(e v:Int)(bu:BM):R×Int:=DO (y7o c rs de p e v).2 (ADD (yd bu ⟨v,pk (gi rs p v).1⟩ ⟨0,0⟩) (y7o c rs de p e v).1)
theorem ya9{c:Cf}(h:uses p (nth rs v)=false):cst c rs de p s v=s:=by unfold cst;simp only[h,Bool.false_eq_true,if_false]
theorem yaL{c:Cf}(h:uses p (nth rs v)=true)(hg:(gi rs p v).2=false):cst c rs de p s v=⟨s.own++[[⟨⟨mx c v,1⟩,RT c v⟩]],max s.most (mx c v),s.e,s.lk,yC s.bu ⟨v,p⟩ ⟨mx c v,1⟩⟩:=by
 unfold gi at hg;unfold cst;simp only[h,hg,Bool.false_eq_true,if_false,if_true]
theorem yc8{c:Cf}(h:uses p (nth rs v)=true)(hg:(gi rs p v).2=true):cst c rs de p s v =
  ⟨s.own,max s.most (mx c v),(y8i c rs de p s.e v s.bu).2,yC s.lk (gi rs p v).1.fQ (yd s.lk (gi rs p v).1.fQ []++[v]),yC s.bu ⟨v,p⟩ (y8i c rs de p s.e v s.bu).1⟩:=by
 unfold y8i y7o;unfold gi at hg ⊢;unfold cst;simp only[h,hg,if_true]
theorem yif{c:Cf}(h:(cst c rs de p s v).e=0):s.e=0:=by
 cases hu:uses p (nth rs v) with
 | false=>rw[ya9 hu] at h;exact h
 | true=>
  cases hg:(gi rs p v).2 with
  | false=>rw[yaL hu hg] at h;exact h
  | true=>
   rw[yc8 hu hg] at h
   have h1:(y8i c rs de p s.e v s.bu).2=0:=h
   unfold y8i at h1
   have h2:=(y8z h1).1
   unfold y7o at h2
   exact(y8z h2).1
theorem yg1{c:Cf}{rs:List (List Hop)}{de:DM}{p:Pl}:∀(l:List Int) (s:CS),(l.foldl (cst c rs de p) s).e=0->s.e=0
 | [],s,h=>h
 | v::l,s,h=>yif (yg1 l _ h)
theorem cst_3{c:Cf}(h:s.e=3):(cst c rs de p s v).e=3:=by
 cases hu:uses p (nth rs v) with
 | false=>rw[ya9 hu];exact h
 | true=>
  cases hg:(gi rs p v).2 with
  | false=>rw[yaL hu hg];exact h
  | true=>
   rw[yc8 hu hg]
   show(y8i c rs de p s.e v s.bu).2=3
   unfold y8i y7o
   rw[h,DO_e,DO_e]
theorem yjn{c:Cf}{rs:List (List Hop)}{de:DM}{p:Pl}:∀(l:List Int) (s:CS),s.e=3->(l.foldl (cst c rs de p) s).e=3
 | [],s,h=>h
 | v::l,s,h=>yjn l _ (cst_3 h)
structure PRE (c d:Cf) (rs rs':List (List Hop)) (p:Pl) (bu2 bu1:BM) (de2 de1:DM):Prop where
 g1:∀ v:Int,0<=v->v<rs.length->uses p (nth rs v)=true->(gi rs p v).2=true->pk (gi rs p v).1≠p/\GV (yd bu1 ⟨v,pk (gi rs p v).1⟩ ⟨0,0⟩)/\0<=yd de1 (pk (gi rs p v).1) 0/\yd de1 (pk (gi rs p v).1) 0<=1073741824
 g2:∀ v:Int,0<=v->v<rs.length->uses p (nth rs' v)=true->(gi rs' p v).2=true->RL (yd bu2 ⟨v,pk (gi rs' p v).1⟩ ⟨0,0⟩) (yd bu1 ⟨v,pk (gi rs' p v).1⟩ ⟨0,0⟩)/\0<=yd de2 (pk (gi rs' p v).1) 0/\yd de2 (pk (gi rs' p v).1) 0<=yd de1 (pk (gi rs' p v).1) 0
structure SR (rs rs':List (List Hop)) (p:Pl) (bu2 bu1:BM) (v:Int) (s2 s1:CS):Prop where
 e2:s2.e=0
 e1:s1.e=0
 own:LEC s2.own s1.own
 most:0<=s2.most/\s2.most<=s1.most/\s1.most<=72
 lk:∀ q,(yd s2.lk q []).Sublist (yd s1.lk q [])
 lk1:∀ q,∀ x∈yd s1.lk q [],(0<=x/\x<v)/\uses p (nth rs x)=true/\(gi rs p x).2=true/\(gi rs p x).1.fQ=q
 lk2:∀ q,∀ x∈yd s2.lk q [],uses p (nth rs' x)=true
 b1:∀ x:Int,0<=x->x<v->uses p (nth rs x)=true->GV (yd s1.bu ⟨x,p⟩ ⟨0,0⟩)
 b2:∀ x:Int,0<=x->x<v->uses p (nth rs' x)=true->RL (yd s2.bu ⟨x,p⟩ ⟨0,0⟩) (yd s1.bu ⟨x,p⟩ ⟨0,0⟩)
 k1:∀(x:Int) (q:Pl),q≠p->yd s1.bu ⟨x,q⟩ ⟨0,0⟩=yd bu1 ⟨x,q⟩ ⟨0,0⟩
 k2:∀(x:Int) (q:Pl),q≠p->yd s2.bu ⟨x,q⟩ ⟨0,0⟩=yd bu2 ⟨x,q⟩ ⟨0,0⟩
theorem VC1{x y:R}(hx:GV x)(hy:GV y):VC [(⟨x,y⟩:B)]=true:=VC_of (fun b hb=>by rw[List.mem_singleton.1 hb];exact GB_mk hx hy) (by simp) (by simp)
theorem y9a{bu:BM}{x:Int}{q:Pl}{b:R}(h:q≠p):yd (yC bu ⟨v,p⟩ b) (⟨x,q⟩:yam) ⟨0,0⟩=yd bu ⟨x,q⟩ ⟨0,0⟩:=by
 rw[y1u,if_neg (fun e=>h (by injection e))]
theorem y7O{bu:BM}{x:Int}{b:R}:yd (yC bu ⟨v,p⟩ b) (⟨x,p⟩:yam) ⟨0,0⟩=if x=v then b else yd bu ⟨x,p⟩ ⟨0,0⟩:=by
 rw[y1u]
 by_cases h:x=v
 ·subst h;rw[if_pos rfl,if_pos rfl]
 ·rw[if_neg h,if_neg (fun e=>h (by injection e))]
theorem cst_sim{c d:Cf}{rs':List (List Hop)}(hL:LESS c d rs rs'){bu2 bu1:BM}{de2 de1:DM}(hP:PRE c d rs rs' p bu2 bu1 de2 de1)(h0:0<=v)(h1:v<rs.length){s2 s1:CS}(h:SR rs rs' p bu2 bu1 v s2 s1)(he:(cst c rs de1 p s1 v).e=0):
  (cst d rs' de2 p s2 v).e=3\/SR rs rs' p bu2 bu1 (v+1) (cst d rs' de2 p s2 v) (cst c rs de1 p s1 v):=by
 have hvc:0<=v/\v<(c.fVLs.length:Int):=⟨h0,by have:=hL.lc;omega⟩
 have hvd:0<=v/\v<(d.fVLs.length:Int):=⟨h0,by have:=hL.ld;have:=hL.len;omega⟩
 have hmc:=hL.vc _ (yO hvc.1 hvc.2)
 have hmd:=hL.vd _ (yO hvd.1 hvd.2)
 have hmm:=hL.mx v h0 h1
 have hrt:RL (RT d v) (RT c v):=⟨yel hL.vd hvd,yel hL.vc hvc,hL.rate v h0 h1⟩
 have hmxb:RL ⟨mx d v,1⟩ ⟨mx c v,1⟩:=RL_w (by unfold mx at *;omega)
 cases hu:uses p (nth rs v) with
 | false=>
  have hu':uses p (nth rs' v)=false:=by
   rcases hL.rt v h0 h1 with e | e
   ·rw[e];exact hu
   ·rw[e];rfl
  rw[ya9 hu,ya9 hu']
  exact .inr ⟨h.e2,h.e1,h.own,h.most,h.lk,fun q x hx=>by have:=h.lk1 q x hx;exact⟨by omega,this.2⟩,h.lk2,
   fun x x0 x1 hx=>by
    by_cases e:x=v
    ·rw[e,hu] at hx;cases hx
    ·exact h.b1 x x0 (by omega) hx,
   fun x x0 x1 hx=>by
    by_cases e:x=v
    ·rw[e,hu'] at hx;cases hx
    ·exact h.b2 x x0 (by omega) hx,h.k1,h.k2⟩
 | true=>
  cases hg:(gi rs p v).2 with
  | false=>
   rw[yaL hu hg]
   cases hu':uses p (nth rs' v) with
   | false=>
    rw[ya9 hu']
    refine .inr ⟨h.e2,h.e1,?_,?_,h.lk,fun q x hx=>by have:=h.lk1 q x hx;exact⟨by omega,this.2⟩,h.lk2,?_,?_,?_,h.k2⟩
    ·have:=h.own.app (l':=[]) (.skip (VC1 hmxb.2.1 hrt.2.1) .nil)
     rw[List.append_nil] at this;exact this
    ·have:=h.most;show 0<=s2.most/\s2.most<=max s1.most (mx c v)/\max s1.most (mx c v)<=72;unfold mx;omega
    ·intro x x0 x1 hx
     show GV (yd (yC s1.bu ⟨v,p⟩ ⟨mx c v,1⟩) ⟨x,p⟩ ⟨0,0⟩)
     rw[y7O]
     split
     ·exact hmxb.2.1
     ·exact h.b1 x x0 (by omega) hx
    ·intro x x0 x1 hx
     show RL (yd s2.bu ⟨x,p⟩ ⟨0,0⟩) (yd (yC s1.bu ⟨v,p⟩ ⟨mx c v,1⟩) ⟨x,p⟩ ⟨0,0⟩)
     rw[y7O]
     split
     ·rename_i e;rw[e,hu'] at hx;cases hx
     ·exact h.b2 x x0 (by omega) hx
    ·intro x q hq
     show yd (yC s1.bu ⟨v,p⟩ ⟨mx c v,1⟩) ⟨x,q⟩ ⟨0,0⟩=_
     rw[y9a hq];exact h.k1 x q hq
   | true=>
    have ers:nth rs' v=nth rs v:=by
     rcases hL.rt v h0 h1 with e | e
     ·exact e
     ·rw[e] at hu';cases hu'
    have hg':(gi rs' p v).2=false:=by unfold gi at *;rw[ers];exact hg
    rw[yaL hu' hg']
    refine .inr ⟨h.e2,h.e1,h.own.app (.both ⟨VC1 hmxb.1 hrt.1,VC1 hmxb.2.1 hrt.2.1,fun y hy=>?_⟩ .nil),?_,h.lk,fun q x hx=>by have:=h.lk1 q x hx;exact⟨by omega,this.2⟩,h.lk2,?_,?_,?_,?_⟩
    ·rw[List.mem_singleton.1 hy];exact⟨_,List.mem_cons_self ..,hmxb.2.2,hrt.2.2⟩
    ·have:=h.most;show 0<=max s2.most (mx d v)/\max s2.most (mx d v)<=max s1.most (mx c v)/\max s1.most (mx c v)<=72;unfold mx at *;omega
    ·intro x x0 x1 hx
     show GV (yd (yC s1.bu ⟨v,p⟩ ⟨mx c v,1⟩) ⟨x,p⟩ ⟨0,0⟩)
     rw[y7O]
     split
     ·exact hmxb.2.1
     ·exact h.b1 x x0 (by omega) hx
    ·intro x x0 x1 hx
     show RL (yd (yC s2.bu ⟨v,p⟩ ⟨mx d v,1⟩) ⟨x,p⟩ ⟨0,0⟩) (yd (yC s1.bu ⟨v,p⟩ ⟨mx c v,1⟩) ⟨x,p⟩ ⟨0,0⟩)
     rw[y7O,y7O]
     split
     ·exact hmxb
     ·exact h.b2 x x0 (by omega) hx
    ·intro x q hq
     show yd (yC s1.bu ⟨v,p⟩ ⟨mx c v,1⟩) ⟨x,q⟩ ⟨0,0⟩=_
     rw[y9a hq];exact h.k1 x q hq
    ·intro x q hq
     show yd (yC s2.bu ⟨v,p⟩ ⟨mx d v,1⟩) ⟨x,q⟩ ⟨0,0⟩=_
     rw[y9a hq];exact h.k2 x q hq
  | true=>
   obtain⟨p1,p2,p3,p4⟩:=hP.g1 v h0 h1 hu hg
   rw[yc8 hu hg] at he ⊢
   have he:(y8i c rs de1 p s1.e v s1.bu).2=0:=he
   have hmul:(y7o c rs de1 p 0 v).2=0:=by
    have h2:=(y8z he).1
    rw[h.e1] at h2;exact h2
   have hadd:(DO 0 (ADD (yd s1.bu ⟨v,pk (gi rs p v).1⟩ ⟨0,0⟩) (y7o c rs de1 p 0 v).1)).2=0:=by
    have h3:=he
    unfold y8i at h3
    rw[h.e1,hmul] at h3;exact h3
   have ea1:y8i c rs de1 p s1.e v s1.bu=DO 0 (ADD (yd s1.bu ⟨v,pk (gi rs p v).1⟩ ⟨0,0⟩) (y7o c rs de1 p 0 v).1):=by unfold y8i;rw[h.e1,hmul]
   have gd1:GV (⟨yd de1 (pk (gi rs p v).1) 0,1⟩:R):=GV_w ⟨p3,p4⟩
   have gm1:GV (y7o c rs de1 p 0 v).1:=DO_mul0 hrt.2.1 gd1 hmul
   have gb1:GV (yd s1.bu ⟨v,pk (gi rs p v).1⟩ ⟨0,0⟩):=by rw[h.k1 v _ p1];exact p2
   have ga1:=(ygF gb1 gm1 hadd).1
   rw[ea1]
   have hlk1:∀ q x,x∈yd (yC s1.lk (gi rs p v).1.fQ (yd s1.lk (gi rs p v).1.fQ []++[v])) q []->(0<=x/\x<v+1)/\uses p (nth rs x)=true/\(gi rs p x).2=true/\(gi rs p x).1.fQ=q:=by
    intro q x hx
    rw[y1u] at hx
    split at hx
    ·rename_i e
     rcases List.mem_append.1 hx with hx | hx
     ·have:=h.lk1 _ x hx;exact⟨by omega,this.2.1,this.2.2.1,by rw[this.2.2.2,e]⟩
     ·rw[List.mem_singleton.1 hx];exact⟨by omega,hu,hg,e.symm⟩
    ·have:=h.lk1 q x hx;exact⟨by omega,this.2⟩
   have hb1:∀ x:Int,0<=x->x<v+1->uses p (nth rs x)=true->GV (yd (yC s1.bu ⟨v,p⟩ (DO 0 (ADD (yd s1.bu ⟨v,pk (gi rs p v).1⟩ ⟨0,0⟩) (y7o c rs de1 p 0 v).1)).1) ⟨x,p⟩ ⟨0,0⟩):=by
    intro x x0 x1 hx
    rw[y7O]
    split
    ·exact ga1
    ·exact h.b1 x x0 (by omega) hx
   cases hu':uses p (nth rs' v) with
   | false=>
    rw[ya9 hu']
    refine .inr ⟨h.e2,hadd,h.own,?_,fun q=>?_,hlk1,h.lk2,hb1,?_,?_,h.k2⟩
    ·have:=h.most;show 0<=s2.most/\s2.most<=max s1.most (mx c v)/\max s1.most (mx c v)<=72;unfold mx;omega
    ·show(yd s2.lk q []).Sublist (yd (yC s1.lk _ _) q [])
     rw[y1u]
     split
     ·rename_i e;rw[<- e];exact(h.lk q).trans (List.sublist_append_left _ _)
     ·exact h.lk q
    ·intro x x0 x1 hx
     show RL (yd s2.bu ⟨x,p⟩ ⟨0,0⟩) (yd (yC s1.bu ⟨v,p⟩ _) ⟨x,p⟩ ⟨0,0⟩)
     rw[y7O]
     split
     ·rename_i e;rw[e,hu'] at hx;cases hx
     ·exact h.b2 x x0 (by omega) hx
    ·intro x q hq
     show yd (yC s1.bu ⟨v,p⟩ _) ⟨x,q⟩ ⟨0,0⟩=_
     rw[y9a hq];exact h.k1 x q hq
   | true=>
    have ers:nth rs' v=nth rs v:=by
     rcases hL.rt v h0 h1 with e | e
     ·exact e
     ·rw[e] at hu';cases hu'
    have egi:gi rs' p v=gi rs p v:=by unfold gi;rw[ers]
    have hg':(gi rs' p v).2=true:=by rw[egi];exact hg
    obtain⟨q1,q2,q3⟩:=hP.g2 v h0 h1 hu' hg'
    rw[yc8 hu' hg']
    rw[egi] at q1 q2 q3 ⊢
    have hde:RL (⟨yd de2 (pk (gi rs p v).1) 0,1⟩:R) ⟨yd de1 (pk (gi rs p v).1) 0,1⟩:=RL_w ⟨q2,q3,p4⟩
    have em:y7o d rs' de2 p 0 v=DO 0 (MUL (RT d v) ⟨yd de2 (pk (gi rs p v).1) 0,1⟩):=by unfold y7o;rw[egi]
    have hb:RL (yd s2.bu ⟨v,pk (gi rs p v).1⟩ ⟨0,0⟩) (yd s1.bu ⟨v,pk (gi rs p v).1⟩ ⟨0,0⟩):=by rw[h.k1 v _ p1,h.k2 v _ p1];exact q1
    have ea2:y8i d rs' de2 p s2.e v s2.bu=DO (y7o d rs' de2 p 0 v).2 (ADD (yd s2.bu ⟨v,pk (gi rs p v).1⟩ ⟨0,0⟩) (y7o d rs' de2 p 0 v).1):=by unfold y8i;rw[h.e2,egi]
    rw[ea2]
    rcases DO_mul hrt hde hmul with k | ⟨k1,k2⟩
    ·refine .inl ?_
     show(DO (y7o d rs' de2 p 0 v).2 _).2=3
     rw[em,k,DO_e]
    ·rw[em,k1]
     rcases yid hb k2 hadd with k | ⟨k3,k4⟩
     ·exact .inl k
     ·refine .inr ⟨k3,hadd,h.own,?_,fun q=>?_,hlk1,fun q x hx=>?_,hb1,?_,?_,?_⟩
      ·have:=h.most;show 0<=max s2.most (mx d v)/\max s2.most (mx d v)<=max s1.most (mx c v)/\max s1.most (mx c v)<=72;unfold mx at *;omega
      ·show(yd (yC s2.lk _ _) q []).Sublist (yd (yC s1.lk _ _) q [])
       rw[y1u,y1u]
       split
       ·rename_i e;rw[<- e];exact(h.lk q).append (List.Sublist.refl _)
       ·exact h.lk q
      ·have hx:x∈yd (yC s2.lk (gi rs p v).1.fQ (yd s2.lk (gi rs p v).1.fQ []++[v])) q []:=hx
       rw[y1u] at hx
       split at hx
       ·rcases List.mem_append.1 hx with hx | hx
        ·exact h.lk2 _ x hx
        ·rw[List.mem_singleton.1 hx];exact hu'
       ·exact h.lk2 q x hx
      ·intro x x0 x1 hx
       show RL (yd (yC s2.bu ⟨v,p⟩ _) ⟨x,p⟩ ⟨0,0⟩) (yd (yC s1.bu ⟨v,p⟩ _) ⟨x,p⟩ ⟨0,0⟩)
       rw[y7O,y7O]
       split
       ·exact k4
       ·exact h.b2 x x0 (by omega) hx
      ·intro x q hq
       show yd (yC s1.bu ⟨v,p⟩ _) ⟨x,q⟩ ⟨0,0⟩=_
       rw[y9a hq];exact h.k1 x q hq
      ·intro x q hq
       show yd (yC s2.bu ⟨v,p⟩ _) ⟨x,q⟩ ⟨0,0⟩=_
       rw[y9a hq];exact h.k2 x q hq
theorem yh6{c d:Cf}{rs rs':List (List Hop)}(hL:LESS c d rs rs'){p:Pl}{bu2 bu1:BM}{de2 de1:DM}(hP:PRE c d rs rs' p bu2 bu1 de2 de1):∀(n:Nat) (v:Int) (s2 s1:CS),0<=v->v+n=rs.length->SR rs rs' p bu2 bu1 v s2 s1->((y1r v n).foldl (cst c rs de1 p) s1).e=0->
  ((y1r v n).foldl (cst d rs' de2 p) s2).e=3\/SR rs rs' p bu2 bu1 rs.length ((y1r v n).foldl (cst d rs' de2 p) s2) ((y1r v n).foldl (cst c rs de1 p) s1)
 | 0,v,s2,s1,h0,h1,h,he=>by
  have:v=rs.length:=by omega
  subst this;exact .inr h
 | n+1,v,s2,s1,h0,h1,h,he=>by
  rw[y1r,List.foldl_cons] at he
  rw[y1r,List.foldl_cons,List.foldl_cons]
  rcases cst_sim hL hP h0 (by omega) h (yg1 _ _ he) with k | k
  ·exact .inl (yjn _ _ k)
  ·exact yh6 hL hP n (v+1) _ _ (by omega) (by omega) k he
theorem CU_sim{c d:Cf}{rs':List (List Hop)}(hL:LESS c d rs rs'){bu2 bu1:BM}{de2 de1:DM}(hP:PRE c d rs rs' p bu2 bu1 de2 de1)(hslow:∀ x:Int,0<=x->x<rs.length->(gi rs p x).2=true->1<=(nth c.fK (gi rs p x).1.fQ).fSlow/\(nth c.fK (gi rs p x).1.fQ).fSlow<=16)(he:(CU c rs bu1 de1 0 p).2.2.1=0):
  (CU d rs' bu2 de2 0 p).2.2.1=3\/((CU d rs' bu2 de2 0 p).2.2.1=0/\LEC (CU d rs' bu2 de2 0 p).1 (CU c rs bu1 de1 0 p).1/\(0<=(CU d rs' bu2 de2 0 p).2.1/\(CU d rs' bu2 de2 0 p).2.1<=(CU c rs bu1 de1 0 p).2.1/\(CU c rs bu1 de1 0 p).2.1<=72)/\
   (∀ x:Int,0<=x->x<rs.length->uses p (nth rs' x)=true->RL (yd (CU d rs' bu2 de2 0 p).2.2.2 ⟨x,p⟩ ⟨0,0⟩) (yd (CU c rs bu1 de1 0 p).2.2.2 ⟨x,p⟩ ⟨0,0⟩))/\
   ∀(x:Int) (q:Pl),q≠p->yd (CU d rs' bu2 de2 0 p).2.2.2 ⟨x,q⟩ ⟨0,0⟩=yd bu2 ⟨x,q⟩ ⟨0,0⟩):=by
 unfold CU at he ⊢
 simp only at he ⊢
 rw[hL.len,hL.l]
 have hst:SR rs rs' p bu2 bu1 0 ⟨[],0,0,[],bu2⟩ ⟨[],0,0,[],bu1⟩:=⟨rfl,rfl,.nil,by simp,fun q=>by simp[yd],fun q x hx=>by simp[yd] at hx,fun q x hx=>by simp[yd] at hx,fun x x0 x1=>by omega,fun x x0 x1=>by omega,fun _ _ _=>rfl,fun _ _ _=>rfl⟩
 have hc:=yaD _ _ he
 have hc:((y1r 0 rs.length).foldl (cst c rs de1 p) ⟨[],0,0,[],bu1⟩).e=0:=hc
 rcases yh6 hL hP rs.length 0 _ _ (by omega) (by omega) hst hc with k | k
 ·exact .inl (ygG _ _ k)
 ·generalize (y1r 0 rs.length).foldl (cst d rs' de2 p) ⟨[],0,0,[],bu2⟩=t2 at k ⊢
  generalize (y1r 0 rs.length).foldl (cst c rs de1 p) ⟨[],0,0,[],bu1⟩=t1 at k he ⊢
  rcases yen hL (lk2:=t2.lk) (lk1:=t1.lk) (bu2:=t2.bu) (bu1:=t1.bu) (p:=p) (fun q x hx=>by
    obtain⟨a1,a2,a3,a4⟩:=k.lk1 q x hx
    rw[<- a4];exact hslow x a1.1 a1.2 a3) k.lk (fun q x hx=>by
    obtain⟨a1,a2,a3,a4⟩:=k.lk1 q x hx
    exact⟨a1,k.b1 x a1.1 a1.2 a2⟩) (fun q x hx=>by
    obtain⟨a1,_⟩:=k.lk1 q x ((k.lk q).subset hx)
    exact k.b2 x a1.1 a1.2 (k.lk2 q x hx)) (y1r 0 c.fK.length) ([],t2.e) ([],t1.e) ⟨k.e2,k.e1,.nil⟩ he with m | m
  ·exact .inl m
  ·exact .inr ⟨m.e2,k.own.app m.l,k.most,k.b2,k.k2⟩
end Go.Proofs.YthjnhebofpebpaaGreat
namespace Go.Proofs.YthjnhebofpebpaaGreat
open Go Go.RowKit Sep
variable {rs:List (List Hop)}{p:Pl}{s:WS}{net:Int}
/-! ### what a run keeps -/
theorem yig{c:Cf}{rs:List (List Hop)}{de:DM}{p:Pl}{x:Int}{q:Pl}(hq:q≠p):∀(l:List Int) (s:CS),yd (l.foldl (cst c rs de p) s).bu (⟨x,q⟩:yam) ⟨0,0⟩=yd s.bu ⟨x,q⟩ ⟨0,0⟩
 | [],s=>rfl
 | v::l,s=>by
  rw[List.foldl_cons,yig hq l]
  cases hu:uses p (nth rs v) with
  | false=>rw[ya9 hu]
  | true=>
   cases hg:(gi rs p v).2 with
   | false=>
    rw[yaL hu hg]
    exact y9a hq
   | true=>
    rw[yc8 hu hg]
    exact y9a hq
theorem y7P{c:Cf}{q:Pl}(hq:q≠p):(∀ x:Int,yd (wst c rs s p).bu (⟨x,q⟩:yam) ⟨0,0⟩=yd s.bu ⟨x,q⟩ ⟨0,0⟩)/\yd (wst c rs s p).de q 0=yd s.de q 0:=by
 refine⟨fun x=>?_,?_⟩
 ·show yd (CU c rs s.bu s.de s.e p).2.2.2 ⟨x,q⟩ ⟨0,0⟩=_
  unfold CU
  exact yig hq _ _
 ·show yd (yC s.de p _) q 0=_
  rw[y1u,if_neg hq]
theorem yfg{c:Cf}{rs:List (List Hop)}:∀(l:List Pl) (s t:WS),y4H c rs l s = .inl t->(∀ q,q∉l->(∀ x:Int,yd t.bu (⟨x,q⟩:yam) ⟨0,0⟩=yd s.bu ⟨x,q⟩ ⟨0,0⟩)/\yd t.de q 0=yd s.de q 0)/\(∀ b∈s.out,b∈t.out)/\(s.e=0->t.e=0)
 | [],s,t,h=>by injection h with h;subst h;exact⟨fun _ _=>⟨fun _=>rfl,rfl⟩,fun _ h=>h,id⟩
 | p::l,s,t,h=>by
  rw[y4H] at h
  split at h
  ·cases h
  ·rename_i he
   obtain⟨h1,h2,h3⟩:=yfg l _ t h
   refine⟨fun q hq=>?_,fun b hb=>h2 b (List.mem_append_left _ hb),fun _=>h3 (by simpa using he)⟩
   obtain⟨a1,a2⟩:=h1 q (fun hc=>hq (List.mem_cons_of_mem _ hc))
   obtain⟨b1,b2⟩:=y7P (c:=c) (rs:=rs) (s:=s) (p:=p) (q:=q) (fun e=>hq (e▸List.mem_cons_self ..))
   exact⟨fun x=>(a1 x).trans (b1 x),a2.trans b2⟩
theorem yh7{c:Cf}{rs:List (List Hop)}:∀(l1:List Pl) (p:Pl) (l2:List Pl) (s0 t:WS),y4H c rs (l1++p::l2) s0 = .inl t->∃ s,y4H c rs l1 s0 = .inl s/\(wst c rs s p).e=0/\y4H c rs l2 (wst c rs s p) = .inl t
 | [],p,l2,s0,t,h=>by
  rw[List.nil_append,y4H] at h
  split at h
  ·cases h
  ·rename_i he;exact⟨s0,rfl,by simpa using he,h⟩
 | q::l1,p,l2,s0,t,h=>by
  rw[List.cons_append,y4H] at h
  split at h
  ·cases h
  ·rename_i he
   obtain⟨s,h1,h2,h3⟩:=yh7 l1 p l2 _ t h
   refine⟨s,?_,h2,h3⟩
   rw[y4H,if_neg he];exact h1
structure SNAP (c:Cf) (rs:List (List Hop)) (t:WS) (l1:List Pl) (p:Pl) (s:WS):Prop where
 e:s.e=0
 we:(wst c rs s p).e=0
 bu:∀ q∈l1,∀ x:Int,yd s.bu (⟨x,q⟩:yam) ⟨0,0⟩=yd t.bu ⟨x,q⟩ ⟨0,0⟩
 de:∀ q∈l1,yd s.de q 0=yd t.de q 0
 bp:∀ x:Int,yd (wst c rs s p).bu (⟨x,p⟩:yam) ⟨0,0⟩=yd t.bu ⟨x,p⟩ ⟨0,0⟩
 dp:yd (wst c rs s p).de p 0=yd t.de p 0
 out:(PO c rs s.bu s.de s.e p).1∈t.out
theorem yeo{c:Cf}{l:List Pl}{t:WS}(hn:l.Nodup)(h:y4H c rs l w0 = .inl t){l1 l2:List Pl}(e:l=l1++p::l2):∃ s,SNAP c rs t l1 p s:=by
 subst e
 obtain⟨s,h1,h2,h3⟩:=yh7 l1 p l2 w0 t h
 have hn2:=List.nodup_append.1 hn
 obtain⟨hp2,hnl2⟩:=List.nodup_cons.1 hn2.2.1
 obtain⟨k1,k2,_⟩:=yfg l2 _ t h3
 have key:∀ q∈l1,q≠p/\q∉l2:=fun q hq=>⟨fun e=>hn2.2.2 q hq p (by simp) e,fun hc=>hn2.2.2 q hq q (by simp[hc]) rfl⟩
 refine⟨s,(yfg l1 w0 s h1).2.2 rfl,h2,fun q hq x=>?_,fun q hq=>?_,fun x=>((k1 p hp2).1 x).symm,((k1 p hp2).2).symm,k2 _ (by show _∈s.out++[_];simp)⟩
 ·rw[(k1 q (key q hq).2).1 x,(y7P (key q hq).1).1 x]
 ·rw[(k1 q (key q hq).2).2,(y7P (key q hq).1).2]
theorem VA.hop{c:Cf}(hS:Small c)(hv:VA c net rs){r:List Hop}(hr:r∈rs){h:Hop}(hh:h∈r):
  (0<=h.fQ/\h.fQ<c.fK.length)/\(1<=(nth c.fK h.fQ).fSlow/\(nth c.fK h.fQ).fSlow<=16)/\0<=lat c (pk h)/\lat c (pk h)<=1000:=by
 obtain⟨i,i0,i1,rfl⟩:=y65 hh
 obtain⟨_,_,_,j0,j1,_,js1,js2,_,jf1,jf2,jj⟩:=(hv.each r hr).cond i i0 i1
 have hfin:y9K c net (nth r i).fNode:=by
  rcases jj with⟨e,_⟩ | ⟨_,e⟩
  ·rw[<- e];exact jf1
  ·rw[<- e];exact jf2
 refine⟨⟨j0,j1⟩,⟨js1,js2⟩,?_⟩
 unfold lat pk
 simp only
 by_cases hn:(nth r i).fNode-nM c>=0
 ·rw[if_pos hn]
  rcases hfin.2 with h1 | ⟨_,h2,h3,_⟩
  ·omega
  ·exact⟨h2,h3⟩
 ·rw[if_neg hn];omega
theorem y8K{v:Int}(h0:0<=v)(h1:v<rs.length)(hu:uses p (nth rs v)=true)(hg:(gi rs p v).2=true):yb5 rs p (pk (gi rs p v).1)/\(gi rs p v).1∈nth rs v:=by
 unfold uses at hu
 obtain⟨h,hh,e⟩:=List.any_eq_true.1 hu
 have e:=of_decide_eq_true e
 have en:h.fNode=p.fNode:=congrArg z8.fNode e
 unfold gi at hg ⊢
 exact⟨⟨nth rs v,yO h0 h1,h,hh,e,by rw[en];exact hg,by rw[en]⟩,(y88 hg).1⟩
theorem er_0{x:Int}(h:er x=0):x=0:=by unfold er at h;split at h <;> omega
theorem fe_0{e a b:Int}(h:fe e a b=0):e=0/\a=0/\b=0:=by
 unfold fe at h
 by_cases he:e=0
 ·rw[if_pos he] at h
  by_cases ha:er a=0
  ·rw[if_pos ha] at h;exact⟨he,er_0 ha,er_0 h⟩
  ·rw[if_neg ha] at h;exact absurd h ha
 ·rw[if_neg he,if_neg he] at h;exact absurd h he
theorem LESS.refl{c:Cf}(hv:VLs c)(hl:rs.length=c.fVLs.length):LESS c c rs rs:=⟨rfl,rfl,rfl,hv,hv,hl,hl,rfl,fun _ _ _ => .inl rfl,fun _ _ _=>Int.le_refl _,fun _ _ _=>Rat.le_refl⟩
/-! ### the first computation -/
structure I1 (rs:List (List Hop)) (ps:List Pl) (s:WS):Prop where
 bu:∀ q∈ps,∀ x:Int,0<=x->x<rs.length->uses q (nth rs x)=true->GV (yd s.bu ⟨x,q⟩ ⟨0,0⟩)
 de:∀ q∈ps,0<=yd s.de q 0/\yd s.de q 0<=1073741824
theorem yep{v:Int}(hm:(gi rs p v).1∈nth rs v):uses (pk (gi rs p v).1) (nth rs v)=true:=by
 unfold uses
 rw[List.any_eq_true]
 exact⟨_,hm,by simp⟩
theorem ydM{c:Cf}(hse:s.e=0)(he:(wst c rs s p).e=0):(CU c rs s.bu s.de 0 p).2.2.1=0/\(DL (CU c rs s.bu s.de 0 p).1 (srv c p)).2=0/\(BL (CU c rs s.bu s.de 0 p).1 (srv c p)).2=0:=by
 have he2:fe (CU c rs s.bu s.de s.e p).2.2.1 (DL (CU c rs s.bu s.de s.e p).1 (srv c p)).2 (BL (CU c rs s.bu s.de s.e p).1 (srv c p)).2=0:=he
 rw[hse] at he2
 exact fe_0 he2
theorem I1.step{c:Cf}(hS:Small c)(hv:VA c net rs)(hvo:VLs c){ps:List Pl}(hi:I1 rs ps s)(hp:p∉ps)(hpre:∀ q,yb5 rs p q->q∈ps)(hse:s.e=0)(he:(wst c rs s p).e=0):I1 rs (ps++[p]) (wst c rs s p):=by
 obtain⟨e1,e2,e3⟩:=ydM hse he
 have hL:=LESS.refl hvo hv.len
 have hP:PRE c c rs rs p s.bu s.bu s.de s.de:=by
  refine⟨fun v h0 h1 hu hg=>?_,fun v h0 h1 hu hg=>?_⟩
  all_goals
   obtain⟨a1,a2⟩:=y8K h0 h1 hu hg
   have a3:=hpre _ a1
   have a4:=hi.bu _ a3 v h0 h1 (yep a2)
   have a5:=hi.de _ a3
  ·exact⟨fun e=>hp (e▸a3),a4,a5.1,a5.2⟩
  ·exact⟨a4.refl,a5.1,Int.le_refl _⟩
 rcases CU_sim hL hP (fun x h0 h1 hg=>by
   by_cases hu:uses p (nth rs x)=true
   ·exact(VA.hop hS hv (yO h0 h1) (y8K h0 h1 hu hg).2).2.1
   ·-- the hop lies on a valid route in any case
    exact(VA.hop hS hv (yO h0 h1) (y88 hg).1).2.1) e1 with k | ⟨_,k1,k2,k3,k4⟩
 ·rw[e1] at k;cases k
 ·have hdl:=yjl k1 e2
  rcases hdl with h3 | ⟨_,d1,d2,_,_⟩
  ·rw[e2] at h3;cases h3
  have hde:yd (wst c rs s p).de p 0=flr (DL (CU c rs s.bu s.de 0 p).1 (srv c p)).1:=by
   show yd (yC s.de p (flr (DL (CU c rs s.bu s.de s.e p).1 (srv c p)).1)) p 0=_
   rw[y1u,if_pos rfl,hse]
  refine⟨fun q hq x h0 h1 hu=>?_,fun q hq=>?_⟩
  ·by_cases e:q=p
   ·subst e
    show GV (yd (CU c rs s.bu s.de s.e q).2.2.2 ⟨x,q⟩ ⟨0,0⟩)
    rw[hse];exact(k3 x h0 h1 hu).1
   ·rw[(y7P e).1]
    rcases List.mem_append.1 hq with hq | hq
    ·exact hi.bu q hq x h0 h1 hu
    ·exact absurd (List.mem_singleton.1 hq) e
  ·by_cases e:q=p
   ·subst e
    rw[hde]
    exact⟨yjm d1 d2,(yic d1).2⟩
   ·rw[(y7P e).2]
    rcases List.mem_append.1 hq with hq | hq
    ·exact hi.de q hq
    ·exact absurd (List.mem_singleton.1 hq) e
theorem I1.run{c:Cf}{net:Int}{rs:List (List Hop)}(hS:Small c)(hv:VA c net rs)(hvo:VLs c):∀(l ps:List Pl) (s t:WS),I1 rs ps s->s.e=0->(ps++l).Nodup->y21 rs (ps++l)->y4H c rs l s = .inl t->I1 rs (ps++l) t
 | [],ps,s,t,hi,_,_,_,h=>by injection h with h;subst h;simpa using hi
 | p::l,ps,s,t,hi,hse,hn,ho,h=>by
  rw[y4H] at h
  split at h
  ·cases h
  ·rename_i he
   have he:(wst c rs s p).e=0:=by simpa using he
   have hp:p∉ps:=fun hc=>(List.nodup_append.1 hn).2.2 p hc p (by simp) rfl
   have h1:=hi.step (p:=p) hS hv hvo hp (fun q hq=>ho ps p l rfl q hq) hse he
   have:=I1.run hS hv hvo l (ps++[p]) _ t h1 he (by rw[List.append_assoc];exact hn) (by rw[List.append_assoc];exact ho) h
   rw[List.append_assoc] at this;exact this
/-! ### the second computation -/
structure I2 (rs':List (List Hop)) (t:WS) (ps:List Pl) (s:WS):Prop where
 e:s.e=0
 bu:∀ q∈ps,∀ x:Int,0<=x->x<rs'.length->uses q (nth rs' x)=true->RL (yd s.bu ⟨x,q⟩ ⟨0,0⟩) (yd t.bu ⟨x,q⟩ ⟨0,0⟩)
 de:∀ q∈ps,0<=yd s.de q 0/\yd s.de q 0<=yd t.de q 0
 out:∀ b∈s.out,pbk b∈ps/\b.fDelay=yd s.de (pbk b) 0/\∃ a∈t.out,pbk a=pbk b/\a.fDelay=yd t.de (pbk b) 0/\b.fT<=a.fT
theorem I2.step{c d:Cf}{rs':List (List Hop)}(hS:Small c)(hv:VA c net rs)(hL:LESS c d rs rs'){l:List Pl}{t:WS}(hlp:l.Perm (PS rs))(hlo:y21 rs l)(hrun:y4H c rs l w0 = .inl t){ps:List Pl}(hi:I2 rs' t ps s)(hp:p∉ps)(hpp:p∈PS rs)(hpre:∀ q,yb5 rs' p q->q∈ps):
  (wst d rs' s p).e=3\/I2 rs' t (ps++[p]) (wst d rs' s p):=by
 have hn:l.Nodup:=hlp.nodup_iff.2 (y5x rs)
 obtain⟨l1,l2,el⟩:=List.append_of_mem (hlp.symm.subset hpp)
 obtain⟨sp,hs⟩:=yeo hn hrun el
 have hI:I1 rs l t:=by
  have:=I1.run hS hv hL.vc l [] w0 t ⟨by simp,by simp⟩ rfl (by simpa using hn) (by simpa using hlo) hrun
  simpa using this
 have hpl1:p∉l1:=fun hc=>by rw[el] at hn;exact(List.nodup_append.1 hn).2.2 p hc p (by simp) rfl
 obtain⟨e1,e2,e3⟩:=ydM hs.e hs.we
 have hP:PRE c d rs rs' p s.bu sp.bu s.de sp.de:=by
  refine⟨fun v h0 h1 hu hg=>?_,fun v h0 h1 hu hg=>?_⟩
  ·obtain⟨a1,a2⟩:=y8K h0 h1 hu hg
   have a3:=hlo l1 p l2 el _ a1
   have a6:pk (gi rs p v).1∈l:=by rw[el];exact List.mem_append_left _ a3
   rw[hs.bu _ a3,hs.de _ a3]
   exact⟨fun e=>hpl1 (e▸a3),hI.bu _ a6 v h0 h1 (yep a2),(hI.de _ a6).1,(hI.de _ a6).2⟩
  ·have h1':v<rs'.length:=by rw[hL.len];exact h1
   obtain⟨a1,a2⟩:=y8K h0 h1' hu hg
   have a3:=hpre _ a1
   have ers:nth rs' v=nth rs v:=by
    rcases hL.rt v h0 h1 with e | e
    ·exact e
    ·rw[e] at hu;cases hu
   have egi:gi rs' p v=gi rs p v:=by unfold gi;rw[ers]
   have b1:=(y8K h0 h1 (by rw[<- ers];exact hu) (by rw[<- egi];exact hg)).1
   rw[<- egi] at b1
   have b3:=hlo l1 p l2 el _ b1
   rw[hs.bu _ b3,hs.de _ b3]
   exact⟨hi.bu _ a3 v h0 h1' (yep a2),hi.de _ a3⟩
 have esrv:srv d p=srv c p:=by unfold srv lat nM;rw[hL.l,hL.m,hL.s]
 rcases CU_sim hL hP (fun x h0 h1 hg=>(VA.hop hS hv (yO h0 h1) (y88 hg).1).2.1) e1 with k | ⟨k0,k1,k2,k3,k4⟩
 ·refine .inl ?_
  show fe (CU d rs' s.bu s.de s.e p).2.2.1 _ _=3
  rw[hi.e,k];unfold fe;simp
 ·have hmv:∀ c'∈(CU c rs sp.bu sp.de 0 p).1,VC c'=true:=(DL_0 e2).1.vc
  rcases yjl k1 e2 with h3 | ⟨d0,d1,d2,d3,d4⟩
  ·refine .inl ?_
   show fe (CU d rs' s.bu s.de s.e p).2.2.1 (DL (CU d rs' s.bu s.de s.e p).1 (srv d p)).2 _=3
   rw[hi.e,k0,esrv,h3];unfold fe er;simp
  ·rcases BL_mono (L:=lat c p) rfl k1 hmv e2 e3 with h3 | ⟨b0,b1,b2,b3⟩
   ·refine .inl ?_
    show fe (CU d rs' s.bu s.de s.e p).2.2.1 (DL (CU d rs' s.bu s.de s.e p).1 (srv d p)).2 (BL (CU d rs' s.bu s.de s.e p).1 (srv d p)).2=3
    rw[hi.e,k0,esrv,d0,h3];unfold fe er;simp
   ·have hwe:(wst d rs' s p).e=0:=by
     show fe (CU d rs' s.bu s.de s.e p).2.2.1 (DL (CU d rs' s.bu s.de s.e p).1 (srv d p)).2 (BL (CU d rs' s.bu s.de s.e p).1 (srv d p)).2=0
     rw[hi.e,k0,esrv,d0,b0];unfold fe er;simp
    have hde2:yd (wst d rs' s p).de p 0=flr (DL (CU d rs' s.bu s.de 0 p).1 (srv c p)).1:=by
     show yd (yC s.de p (flr (DL (CU d rs' s.bu s.de s.e p).1 (srv d p)).1)) p 0=_
     rw[y1u,if_pos rfl,hi.e,esrv]
    have hde1:yd t.de p 0=flr (DL (CU c rs sp.bu sp.de 0 p).1 (srv c p)).1:=by
     rw[<- hs.dp]
     show yd (yC sp.de p (flr (DL (CU c rs sp.bu sp.de sp.e p).1 (srv c p)).1)) p 0=_
     rw[y1u,if_pos rfl,hs.e]
    refine .inr ⟨hwe,fun q hq x h0 h1 hu=>?_,fun q hq=>?_,fun b hb=>?_⟩
    ·by_cases e:q=p
     ·subst e
      rw[<- hs.bp]
      show RL (yd (CU d rs' s.bu s.de s.e q).2.2.2 ⟨x,q⟩ ⟨0,0⟩) (yd (CU c rs sp.bu sp.de sp.e q).2.2.2 ⟨x,q⟩ ⟨0,0⟩)
      rw[hi.e,hs.e]
      exact k3 x h0 (by rw[<- hL.len];exact h1) hu
     ·rw[(y7P e).1]
      rcases List.mem_append.1 hq with hq | hq
      ·exact hi.bu q hq x h0 h1 hu
      ·exact absurd (List.mem_singleton.1 hq) e
    ·by_cases e:q=p
     ·subst e
      rw[hde2,hde1]
      exact⟨yjm d1 d2,yfe d1 d3 d4⟩
     ·rw[(y7P e).2]
      rcases List.mem_append.1 hq with hq | hq
      ·exact hi.de q hq
      ·exact absurd (List.mem_singleton.1 hq) e
    ·have hb:b∈s.out++[(PO d rs' s.bu s.de s.e p).1]:=hb
     rcases List.mem_append.1 hb with hb | hb
     ·obtain⟨o1,o2,o3⟩:=hi.out b hb
      have e:pbk b≠p:=fun e=>hp (e▸o1)
      refine⟨List.mem_append_left _ o1,?_,o3⟩
      rw[(y7P e).2];exact o2
     ·rw[List.mem_singleton.1 hb]
      have q1:pbk (PO d rs' s.bu s.de s.e p).1=p:=rfl
      rw[q1]
      refine⟨by simp,?_,(PO c rs sp.bu sp.de sp.e p).1,hs.out,rfl,?_,?_⟩
      ·rw[hde2]
       show flr (DL (CU d rs' s.bu s.de s.e p).1 (srv d p)).1=_
       rw[hi.e,esrv]
      ·rw[hde1]
       show flr (DL (CU c rs sp.bu sp.de sp.e p).1 (srv c p)).1=_
       rw[hs.e]
      ·show i64 (flr (BL (CU d rs' s.bu s.de s.e p).1 (srv d p)).1+(CU d rs' s.bu s.de s.e p).2.1)<=i64 (flr (BL (CU c rs sp.bu sp.de sp.e p).1 (srv c p)).1+(CU c rs sp.bu sp.de sp.e p).2.1)
       rw[hi.e,hs.e,esrv]
       have f1:=yic b1;have f2:=yic b2;have f3:=yfe b1 b2 b3
       rw[yz (by omega),yz (by omega)]
       omega
theorem I2.run{c d:Cf}{net:Int}{rs rs':List (List Hop)}(hS:Small c)(hv:VA c net rs)(hL:LESS c d rs rs'){l:List Pl}{t:WS}(hlp:l.Perm (PS rs))(hlo:y21 rs l)(hrun:y4H c rs l w0 = .inl t):∀(m ps:List Pl) (s:WS),I2 rs' t ps s->(ps++m).Nodup->(∀ q∈ps++m,q∈PS rs)->y21 rs' (ps++m)->
  y4H d rs' m s = .inr 3\/∃ u,y4H d rs' m s = .inl u/\I2 rs' t (ps++m) u
 | [],ps,s,hi,_,_,_ => .inr ⟨s,rfl,by simpa using hi⟩
 | p::m,ps,s,hi,hn,hm,ho=>by
  have hp:p∉ps:=fun hc=>(List.nodup_append.1 hn).2.2 p hc p (by simp) rfl
  rw[y4H]
  rcases hi.step (p:=p) hS hv hL hlp hlo hrun hp (hm p (by simp)) (fun q hq=>ho ps p m rfl q hq) with k | k
  ·rw[if_pos (by omega),k];exact .inl rfl
  ·rw[if_neg (by simp[k.e])]
   have:=I2.run hS hv hL hlp hlo hrun m (ps++[p]) _ k (by rw[List.append_assoc];exact hn) (by rw[List.append_assoc];exact hm) (by rw[List.append_assoc];exact ho)
   rw[List.append_assoc] at this;exact this
end Go.Proofs.YthjnhebofpebpaaGreat
namespace Go.Proofs.YthjnhebofpebpaaGreat
open Go Go.RowKit Sep
variable {r:List Hop}{net n v:Int}{D:Pl->Int}
/-! ### jitters -/
def y20(c:Cf)(n:Int):Int:=if n-nM c>=0 then(nth c.fS (n-nM c)).fDelay else 0
def slw(c:Cf)(k:Int):Int:=(nth c.fK k).fSlow
theorem yg2{c:Cf}(hS:Small c)(h0:0<=n)(h1:n<nN c):y4x c n=some (y20 c n):=by
 have:=hS.m;have:=hS.s
 unfold y4x y20 nM
 unfold nN at h1
 rw[yz (by omega)]
 by_cases h:n-(c.fM.length:Int)>=0
 ·rw[if_pos (by simpa using h),if_pos h,yt ⟨by omega,by omega⟩]
 ·rw[if_neg (by simpa using h),if_neg h]
structure HV (c:Cf) (h:Hop):Prop where
 l0:0<=h.fQ
 l1:h.fQ<c.fK.length
 n0:0<=h.fNode
 n1:h.fNode<nN c
 x0:0<=h.fNext
 x1:h.fNext<nN c
 s0:1<=slw c h.fQ
 s1:slw c h.fQ<=16
 d0:0<=y20 c h.fNode
 d1:y20 c h.fNode<=1000
theorem y9K.lat{c:Cf}(h:y9K c net n):0<=n/\0<=y20 c n/\y20 c n<=1000:=by
 obtain⟨h0,h⟩:=h
 refine⟨h0,?_⟩
 unfold y20
 rcases h with h | ⟨_,h1,h2,_⟩
 ·rw[if_neg (by omega)];omega
 ·split
  ·exact⟨h1,h2⟩
  ·omega
theorem VR.hop{c:Cf}(hS:Small c)(h:VR c net r){x:Hop}(hx:x∈r):HV c x:=by
 obtain⟨i,i0,i1,rfl⟩:=y65 hx
 obtain⟨_,_,_,l0,l1,_,s0,s1,_,fa,fb,ho⟩:=h.cond i i0 i1
 obtain⟨_,_,a2⟩:=fA_eq hS (nth r i).fQ
 obtain⟨_,_,b2⟩:=fB_eq hS (nth r i).fQ
 have ha:=fa.lat;have hb:=fb.lat
 rcases ho with⟨e1,e2⟩ | ⟨e1,e2⟩
 ·rw[e1] at ha a2;rw[e2] at hb b2
  exact⟨l0,l1,ha.1,a2,hb.1,b2,s0,s1,ha.2.1,ha.2.2⟩
 ·rw[e1] at ha a2;rw[e2] at hb b2
  exact⟨l0,l1,hb.1,b2,ha.1,a2,s0,s1,hb.2.1,hb.2.2⟩
def jst(c:Cf)(D:Pl->Int)(mp:List (Int×Int))(h:Hop):List (Int×Int):=yC mp h.fNext (yd mp h.fNode 0+D (pk h)-y20 c h.fNode-slw c h.fQ)
def jn(c:Cf)(D:Pl->Int)(r:List Hop)(n:Int):Int:=yd (r.foldl (jst c D) []) n 0
theorem ycM{c:Cf}{D:Pl->Int}{n:Int}:∀(l:List Hop) (mp:List (Int×Int)),(∀ g∈l,g.fNext≠n)->yd (l.foldl (jst c D) mp) n 0=yd mp n 0
 | [],mp,_=>rfl
 | g::l,mp,h=>by
  rw[List.foldl_cons,ycM l _ fun x hx=>h x (List.mem_cons_of_mem _ hx)]
  unfold jst;rw[y1u,if_neg fun e=>h g (by simp) e.symm]
theorem VR.rk{c:Cf}(h:VR c net r)(v0:0<=v)(v1:v<r.length){q:Int}(q0:v<=q)(q1:q<r.length):(nth r q).fNext≠(nth r v).fNode:=by
 intro e
 obtain⟨h1,_⟩:=h.cond v v0 v1
 obtain⟨_,h2,_⟩:=h.cond q (by omega) q1
 rcases h1 with h1 | ⟨k,k0,k1,h1⟩
 ·exact h2 (.inl (e.trans h1))
 ·exact h2 (.inr ⟨k,k0,by omega,h1.trans e.symm⟩)
theorem ydN{g:Hop}(v0:0<=v)(hg:g∈r.drop v.toNat):∃ q:Int,v<=q/\q<r.length/\nth r q=g:=by
 obtain⟨i,hi,rfl⟩:=List.getElem_of_mem hg
 rw[List.length_drop] at hi
 refine⟨v.toNat+i,by omega,by omega,?_⟩
 rw[y87 ⟨by omega,by omega⟩,List.getElem_drop]
 simp only[show((v.toNat:Int)+i).toNat=v.toNat+i by omega]
theorem yih{c:Cf}(v:Nat):jn c D r n=yd ((r.drop v).foldl (jst c D) ((r.take v).foldl (jst c D) [])) n 0:=by
 unfold jn;rw[<- List.foldl_append,List.take_append_drop]
theorem VR.jn_take{c:Cf}(h:VR c net r)(D:Pl->Int)(v0:0<=v)(v1:v<r.length):yd ((r.take v.toNat).foldl (jst c D) []) (nth r v).fNode 0=jn c D r (nth r v).fNode:=by
 rw[yih v.toNat]
 symm
 refine ycM _ _ fun g hg=>?_
 obtain⟨q,q0,q1,rfl⟩:=ydN v0 hg
 exact h.rk v0 v1 q0 q1
theorem VR.jn_next{c:Cf}(h:VR c net r)(D:Pl->Int){g:Hop}(hg:g∈r):jn c D r g.fNext=jn c D r g.fNode+D (pk g)-y20 c g.fNode-slw c g.fQ:=by
 obtain⟨v,v0,v1,rfl⟩:=y65 hg
 rw[<- h.jn_take D v0 v1]
 rw[yih v.toNat,y42 v0 v1,List.foldl_cons,ycM]
 ·unfold jst;rw[y1u,if_pos rfl]
 ·intro x hx e
  obtain⟨q,q0,q1,rfl⟩:=ydN (v:=v+1) (by omega) (by rw[show(v+1).toNat=v.toNat+1 by omega];exact hx)
  obtain⟨_,h2,_⟩:=h.cond q (by omega) q1
  exact h2 (.inr ⟨v,v0,by omega,e.symm⟩)
theorem yjo{c:Cf}(h:∀ g∈r,g.fNext≠n):jn c D r n=0:=by
 unfold jn;rw[ycM _ _ h];rfl
theorem VR.start{c:Cf}(h:VR c net r):∀ g∈r,g.fNext≠(nth r 0).fNode:=by
 intro g hg e
 obtain⟨v,v0,v1,rfl⟩:=y65 hg
 exact(h.cond v v0 v1).2.1 (.inl e)
theorem VR.jn_start{c:Cf}(h:VR c net r)(D:Pl->Int):jn c D r (nth r 0).fNode=0:=yjo h.start
theorem VR.ind{c:Cf}(h:VR c net r){P:Hop->Prop}(hb:∀ x∈r,x.fNode=(nth r 0).fNode->P x)(hs:∀ g∈r,∀ x∈r,g.fNext=x.fNode->P g->P x):∀ x∈r,P x:=by
 have key:∀ n:Nat,∀ v:Int,0<=v->v<r.length->v.toNat<n->P (nth r v):=by
  intro n
  induction n with
  | zero=>intro v _ _ h;omega
  | succ n ih=>
   intro v v0 v1 hv
   rcases(h.cond v v0 v1).1 with e | ⟨q,q0,q1,e⟩
   ·exact hb _ (yO v0 v1) e
   ·exact hs _ (yO q0 (by omega)) _ (yO v0 v1) e (ih q q0 (by omega) (by omega))
 intro x hx
 obtain⟨v,v0,v1,rfl⟩:=y65 hx
 exact key (v.toNat+1) v v0 v1 (by omega)
theorem VR.from{c:Cf}(h:VR c net r){x:Hop}(hx:x∈r):x.fNode=(nth r 0).fNode\/∃ g∈r,g.fNext=x.fNode:=by
 obtain⟨v,v0,v1,rfl⟩:=y65 hx
 rcases(h.cond v v0 v1).1 with e | ⟨q,q0,q1,e⟩
 ·exact .inl e
 ·exact .inr ⟨_,yO q0 (by omega),e⟩
theorem yh8{c:Cf}{D:Pl->Int}(hS:Small c){M:Int}(hM:0<=M):∀(l:List Hop) (mp:List (Int×Int)) (B:Int),(∀ h∈l,HV c h /\ -M<=D (pk h)/\D (pk h)<=M)->(∀ n,-B<=yd mp n 0/\yd mp n 0<=B)->∀ n,-(B+l.length*(M+1016))<=yd (l.foldl (jst c D) mp) n 0/\yd (l.foldl (jst c D) mp) n 0<=B+l.length*(M+1016)
 | [],mp,B,_,h,n=>by have:=h n;simpa using this
 | g::l,mp,B,hh,h,n=>by
  have hg:=hh g (by simp)
  have:=yh8 hS hM l (jst c D mp g) (B+(M+1016)) (fun x hx=>hh x (List.mem_cons_of_mem _ hx)) (fun n=>by
   unfold jst;rw[y1u]
   have h1:=h n;have h2:=h g.fNode
   have a:=hg.1.s0;have b:=hg.1.s1;have d:=hg.1.d0;have e:=hg.1.d1
   split <;> omega) n
  rw[List.foldl_cons,List.length_cons]
  have e:((l.length+1:Nat):Int)*(M+1016)=l.length*(M+1016)+(M+1016):=by push_cast;rw[Int.add_mul];omega
  omega
theorem yii{c:Cf}(hS:Small c)(hv:VR c net r){M:Int}(hM:0<=M)(hD:∀ h∈r,-M<=D (pk h)/\D (pk h)<=M)(v:Nat)(n:Int) : -(32*(M+1016))<=yd ((r.take v).foldl (jst c D) []) n 0/\yd ((r.take v).foldl (jst c D) []) n 0<=32*(M+1016):=by
 have h:=yh8 (c:=c) (D:=D) hS hM (r.take v) [] 0 (fun h hh=>⟨hv.hop hS (List.mem_of_mem_take hh),hD h (List.mem_of_mem_take hh)⟩) (fun n=>by simp[yd]) n
 have hl:(r.take v).length<=32:=by have:=hv.len;rw[List.length_take];omega
 have:((r.take v).length:Int)*(M+1016)<=32*(M+1016):=Int.mul_le_mul_of_nonneg_right (by omega) (by omega)
 omega
theorem i3{a b d s M:Int}(h1 : -(32*(M+1016))<=a/\a<=32*(M+1016))(h2 : -M<=b/\b<=M)(h3:0<=d/\d<=1000)(h4:1<=s/\s<=16)(h5:M<=1099511627776):i64 (i64 (i64 (a+b)-d)-s)=a+b-d-s:=by
 rw[yz (x:=a+b) (by omega),yz (x:=a+b-d) (by omega),yz (by omega)]
theorem ydO{c:Cf}{net:Int}{r:List Hop}{de:DM}{k:List Int->Option (List Int)}(hS:Small c)(hv:VR c net r){M:Int}(hM:0<=M)(hM1:M<=1099511627776)(hD:∀ h∈r,-M<=yd de (pk h) 0/\yd de (pk h) 0<=M):∀(n:Nat) (v:Int),0<=v->v<=r.length->r.length<n+v->
  y36 r c de k n ((r.take v.toNat).map fun h=>jn c (fun q=>yd de q 0) r h.fNode) v ((r.take v.toNat).foldl (jst c fun q=>yd de q 0) [])=k (r.map fun h=>jn c (fun q=>yd de q 0) r h.fNode)
 | 0,v,h0,h1,h2=>by omega
 | n+1,v,h0,h1,h2=>by
  have hr:=hv.len
  rw[y36]
  by_cases h:v<r.length
  ·have hx:=hv.hop hS (yO h0 h)
   have hb:=yii (D:=fun q=>yd de q 0) hS hv hM hD v.toNat (nth r v).fNode
   have hd:=hD _ (yO h0 h)
   have s0:=hx.s0;have s1:=hx.s1;have d0:=hx.d0;have d1:=hx.d1
   rw[if_pos (decide_eq_true h),yt ⟨h0,h⟩,yt,yg2 hS hx.n0 hx.n1]
   ·simp only[oB]
    rw[yt ⟨hx.l0,hx.l1⟩,yz (x:=v+1) (by omega)]
    have e1:r.take (v+1).toNat=r.take v.toNat++[nth r v]:=by
     rw[show(v+1).toNat=v.toNat+1 by omega,List.take_succ_eq_append_getElem (by omega),y87 ⟨h0,h⟩]
    have:=ydO (k:=k) (de:=de) hS hv hM hM1 hD n (v+1) (by omega) (by omega) (by omega)
    rw[e1,List.map_append,List.foldl_append] at this
    rw[<- this]
    congr 1
    ·rw[hv.jn_take _ h0 h];rfl
    ·show yC _ _ _=yC _ _ _
     congr 1
     have e:(⟨(nth r v).fNode,(nth r v).fQ⟩:z8)=pk (nth r v):=rfl
     unfold slw at s0 s1 ⊢
     rw[e]
     exact i3 hb hd ⟨d0,d1⟩ ⟨s0,s1⟩ hM1
   ·rw[List.length_append,List.length_map,List.length_take]
    simp only[List.length_cons,List.length_nil]
    omega
  ·rw[if_neg (by simpa using h),List.take_of_length_le (by omega)]
theorem yjY{c:Cf}{de:DM}(hS:Small c)(hv:VR c net r)(hD:∀ h∈r,-1099511627776<=yd de (pk h) 0/\yd de (pk h) 0<=1099511627776):
  y4y c r de=some (r.map fun h=>jn c (fun q=>yd de q 0) r h.fNode):=by
 unfold y4y
 have hF:=yV
 generalize yy=N at hF ⊢
 refine y28 (P:=fun o=>o=some (r.map fun h=>jn c (fun q=>yd de q 0) r h.fNode)) fun k hk=>?_
 have hr:=hv.len
 have:=ydO (k:=k) (M:=1099511627776) hS hv (by omega) (by omega) hD N 0 (by omega) (by omega) (by omega)
 simp only[Int.toNat_zero,List.take_zero,List.map_nil,List.foldl_nil] at this
 rw[this,hk]
theorem VR.jn_le{c c':Cf}(h:VR c net r)(h':VR c' net r)(hl:∀ g∈r,y20 c g.fNode=y20 c' g.fNode/\slw c g.fQ=slw c' g.fQ){D':Pl->Int}{S:Pl->Prop}(hS:∀ x∈r,S (pk x)->∀ g∈r,g.fNext=x.fNode->S (pk g)/\D (pk g)<=D' (pk g)):∀ x∈r,S (pk x)->jn c D r x.fNode<=jn c' D' r x.fNode:=by
 refine h.ind (P:=fun x=>S (pk x)->jn c D r x.fNode<=jn c' D' r x.fNode) (fun x hx e _=>?_) (fun g hg x hx e ih hs=>?_)
 ·rw[e,h.jn_start,h'.jn_start];omega
 ·obtain⟨h1,h2⟩:=hS x hx hs g hg e
  have:=ih h1
  rw[<- e,h.jn_next D hg,h'.jn_next D' hg,(hl g hg).1,(hl g hg).2]
  omega
theorem VR.jn_eq{c:Cf}(h:VR c net r){D':Pl->Int}{S:Pl->Prop}(hS:∀ x∈r,S (pk x)->∀ g∈r,g.fNext=x.fNode->S (pk g)/\D (pk g)=D' (pk g)):∀ x∈r,S (pk x)->jn c D r x.fNode=jn c D' r x.fNode:=by
 intro x hx hs
 have h1:=h.jn_le h (fun g _=>⟨rfl,rfl⟩) (D:=D) (D':=D') (S:=S) (fun x hx hs g hg e=>⟨(hS x hx hs g hg e).1,by rw[(hS x hx hs g hg e).2];omega⟩) x hx hs
 have h2:=h.jn_le h (fun g _=>⟨rfl,rfl⟩) (D:=D') (D':=D) (S:=S) (fun x hx hs g hg e=>⟨(hS x hx hs g hg e).1,by rw[(hS x hx hs g hg e).2];omega⟩) x hx hs
 omega
end Go.Proofs.YthjnhebofpebpaaGreat
namespace Go.Proofs.YthjnhebofpebpaaGreat
open Go Go.RowKit Sep
/-! ### sums -/
def y2H:List Int->Int
 | []=>0
 | x::l=>x+y2H l
theorem ykE{l l':List Int}(h:l.Perm l'):y2H l=y2H l':=by
 induction h with
 | nil=>rfl
 | cons x _ ih=>simp only[y2H,ih]
 | swap x y l=>simp only[y2H];omega
 | trans _ _ a b=>exact a.trans b
theorem yeM(a b:List Int):y2H (a++b)=y2H a+y2H b:=by
 induction a with
 | nil=>simp[y2H]
 | cons x a ih=>simp only[List.cons_append,y2H,ih];omega
theorem yeq{α:Type}{f g:α->Int}:∀ {l:List α},(∀ x∈l,f x<=g x)->y2H (l.map f)<=y2H (l.map g)
 | [],_=>by simp[y2H]
 | x::l,h=>by
  have:=yeq (l:=l) fun y hy=>h y (List.mem_cons_of_mem _ hy)
  have:=h x (by simp)
  simp only[List.map_cons,y2H];omega
theorem yeN{α:Type}{f:α->Int}{p:α->Bool}:∀ {l:List α},(∀ x∈l,p x=false->f x=0)->y2H ((l.filter p).map f)=y2H (l.map f)
 | [],_=>rfl
 | x::l,h=>by
  have ih:=yeN (f:=f) (p:=p) (l:=l) fun y hy=>h y (List.mem_cons_of_mem _ hy)
  rw[List.filter_cons]
  split
  ·simp only[List.map_cons,y2H,ih]
  ·rename_i hp
   simp only[List.map_cons,y2H,ih,h x (by simp) (by simpa using hp)];omega
theorem ybF{α:Type}{f:α->Int}{l:List α}(h:∀ x∈l,0<=f x):0<=y2H (l.map f):=by
 have:=yeq (f:=fun _=>0) (g:=f) h
 have e:∀ l:List α,y2H (l.map fun _=>0)=0:=by
  intro l;induction l with
  | nil=>rfl
  | cons x l ih=>simp only[List.map_cons,y2H,ih];rfl
 rw[e] at this;exact this
theorem ycN{α:Type}{f:α->Int}{M:Int}:∀ {l:List α},(∀ x∈l,f x<=M)->y2H (l.map f)<=l.length*M
 | [],_=>by simp[y2H]
 | x::l,h=>by
  have:=ycN (f:=f) (l:=l) fun y hy=>h y (List.mem_cons_of_mem _ hy)
  have:=h x (by simp)
  simp only[List.map_cons,y2H,List.length_cons]
  have e:((l.length+1:Nat):Int)*M=l.length*M+M:=by push_cast;rw[Int.add_mul];omega
  omega
theorem yij{α:Type}{f:α->Int}{l:List α}(h:∀ x∈l,0<=f x){x:α}(hx:x∈l):f x<=y2H (l.map f):=by
 induction l with
 | nil=>simp at hx
 | cons y l ih=>
  have h1:=ybF (f:=f) (l:=l) fun z hz=>h z (List.mem_cons_of_mem _ hz)
  have h2:=h y (by simp)
  simp only[List.map_cons,y2H]
  rcases List.mem_cons.1 hx with rfl | hx
  ·omega
  ·have:=ih (fun z hz=>h z (List.mem_cons_of_mem _ hz)) hx;omega
def y6t:List Int->Int
 | []=>0
 | x::l=>max x (y6t l)
theorem ydP(l:List Int)(x:Int)(hx:0<=x):y6t (l++[x])=max (y6t l) x:=by
 induction l with
 | nil=>simp only[List.nil_append,y6t];omega
 | cons y l ih=>simp only[List.cons_append,y6t,ih];omega
theorem y8o:∀ l:List Int,0<=y6t l
 | []=>by simp[y6t]
 | x::l=>by have:=y8o l;simp only[y6t];omega
theorem maxI_mem{l:List Int}{x:Int}(h:x∈l):x<=y6t l:=by
 induction l with
 | nil=>simp at h
 | cons y l ih=>
  simp only[y6t]
  rcases List.mem_cons.1 h with rfl | h
  ·omega
  ·have:=ih h;omega
theorem ygH{l:List Int}{M:Int}(h0:0<=M)(h:∀ x∈l,x<=M):y6t l<=M:=by
 induction l with
 | nil=>simpa [y6t] using h0
 | cons y l ih=>
  have:=ih fun x hx=>h x (List.mem_cons_of_mem _ hx)
  have:=h y (by simp)
  simp only[y6t];omega
theorem y6u{x:Int}:∀ {n:Nat} {v:Int},x∈y1r v n↔v<=x/\x<v+n
 | 0,v=>by simp only[y1r,List.not_mem_nil,false_iff];omega
 | n+1,v=>by
  simp only[y1r,List.mem_cons,y6u (n:=n)]
  constructor
  ·rintro(rfl | h) <;> omega
  ·intro h
   by_cases e:x=v
   ·exact .inl e
   ·exact .inr (by omega)
theorem yg3:∀(n:Nat) (v:Int),(y1r v n).Nodup
 | 0,_=>by simp[y1r]
 | n+1,v=>by
  simp only[y1r,List.nodup_cons]
  exact⟨fun h=>by have:=y6u.1 h;omega,yg3 n _⟩
theorem ycO:∀(n:Nat) (v:Int),(y1r v n).length=n
 | 0,_=>rfl
 | n+1,v=>by simp only[y1r,List.length_cons,ycO n]
theorem y8L:∀(n:Nat) (v:Int),y1r v (n+1)=y1r v n++[v+n]
 | 0,v=>by simp[y1r]
 | n+1,v=>by
  rw[y1r,y8L n (v+1)]
  simp only[y1r,List.cons_append]
  rw[show v+1+(n:Int)=v+((n+1:Nat):Int) by push_cast;omega]
/-! ### what comes to an output port -/
structure Fw where
 k:Int
 v:Int
 j:Int
def bgV(c:Cf)(v:Int):Int:=(nth c.fVLs v).fBag
def byt(c:Cf)(x:Fw)(t:Int):Int:=mx c x.v*((t+x.j) / bgV c x.v+1)
def fwL(r:List Hop)(p:Pl):Int:=if (y39 r p.fNode).2 then(y39 r p.fNode).1.fQ else -1
def y61(c:Cf)(rs:List (List Hop))(D:Pl->Int)(p:Pl)(v:Int):Fw:=⟨fwL (nth rs v) p,v,jn c D (nth rs v) p.fNode⟩
def vls(rs:List (List Hop))(p:Pl)(n:Nat):List Int:=(y1r 0 n).filter fun v=>uses p (nth rs v)
def fws(c:Cf)(rs:List (List Hop))(D:Pl->Int)(p:Pl):List Fw:=(vls rs p rs.length).map (y61 c rs D p)
def y8A(c:Cf)(l:List Fw)(t L:Int):Int:=y2H ((l.filter fun x=>decide (x.k=L)).map fun x=>byt c x t)
def y8B(c:Cf)(l:List Fw)(L:Int):Int:=y6t ((l.filter fun x=>decide (x.k=L)).map fun x=>mx c x.v)
def y5H(c:Cf)(l:List Fw)(t L:Int):Int:=if L<0 then y8A c l t L else min (y8A c l t L) (y8B c l L+t / max 1 (slw c L))
def lks(c:Cf):List Int:=y1r (-1) (c.fK.length+1)
def Arr(c:Cf)(l:List Fw)(t:Int):Int:=y2H ((lks c).map (y5H c l t))
def y77(c:Cf)(l:List Fw):Int:=y6t (l.map fun x=>mx c x.v)
structure FwOK (c:Cf) (l:List Fw):Prop where
 len:l.length<=16
 v0:∀ x∈l,0<=x.v/\x.v<c.fVLs.length
 k0:∀ x∈l,-1<=x.k/\x.k<c.fK.length
 j0:∀ x∈l,0<=x.j/\x.j<=4294967296
theorem VLs.mx{c:Cf}(h:VLs c){v:Int}(h0:0<=v)(h1:v<c.fVLs.length):1<=mx c v/\mx c v<=72/\100<=bgV c v/\bgV c v<=12800:=by
 obtain⟨⟨a,b⟩,d,e⟩:=h _ (yO h0 h1)
 exact⟨d,e,a,b⟩
theorem y8M{c:Cf}(hv:VLs c){l:List Fw}(hl:FwOK c l){x:Fw}(hx:x∈l){t:Int}(h0:0<=t)(h1:t<=4294967296):1<=byt c x t/\byt c x t<=1099511627776:=by
 obtain⟨a,b,d,e⟩:=hv.mx (hl.v0 x hx).1 (hl.v0 x hx).2
 have hj:=hl.j0 x hx
 unfold byt
 have h2:0<=(t+x.j) / bgV c x.v:=Int.ediv_nonneg (by omega) (by omega)
 have h3:(t+x.j) / bgV c x.v<=t+x.j:=Int.ediv_le_self _ (by omega)
 constructor
 ·have:=Int.mul_le_mul_of_nonneg_right a (show 0<=(t+x.j) / bgV c x.v+1 by omega);omega
 ·have:=Int.mul_le_mul_of_nonneg_right b (show 0<=(t+x.j) / bgV c x.v+1 by omega);omega
theorem ydQ{a b:Int}(h:0<=a):a.tdiv b=a / b:=Int.tdiv_eq_ediv_of_nonneg h
def clo(c:Cf)(x:Fw):Int->Option Int:=fun t=>y1h t (nth c.fVLs x.v) x.j
theorem clo_eq{c:Cf}(hv:VLs c){l:List Fw}(hl:FwOK c l){x:Fw}(hx:x∈l){t:Int}(h0:0<=t)(h1:t<=4294967296):clo c x t=some (byt c x t):=by
 have hb:=y8M hv hl hx h0 h1
 obtain⟨a,b,d,e⟩:=hv.mx (hl.v0 x hx).1 (hl.v0 x hx).2
 have hj:=hl.j0 x hx
 unfold clo y1h y75
 unfold byt mx bgV at *
 have h2:0<=(t+x.j) / (nth c.fVLs x.v).fBag:=Int.ediv_nonneg (by omega) (by omega)
 have h3:(t+x.j) / (nth c.fVLs x.v).fBag<=t+x.j:=Int.ediv_le_self _ (by omega)
 rw[yt (by omega),yz (x:=t+x.j) (by omega),ydQ (by omega),yz (x:=(t+x.j) / (nth c.fVLs x.v).fBag) (by omega),yz (x:=(t+x.j) / (nth c.fVLs x.v).fBag+1) (by omega),yz (by omega)]
 rfl
theorem yjp{α:Type}{t M:Int}{F:α->Int->Option Int}{g:α->Int}:∀ {l:List α} {s:Int},(∀ x∈l,F x t=some (g x)/\0<=g x/\g x<=M)->0<=s->s+l.length*M<=4611686018427387904->y7L (l.map F) t s=some (s+y2H (l.map g))
 | [],s,_,_,_=>by simp[y7L,y2H]
 | x::l,s,h,h0,h1=>by
  obtain⟨e,e0,e1⟩:=h x (by simp)
  have hM:0<=(l.length:Int)*M:=Int.mul_nonneg (by omega) (by omega)
  have e2:(((x::l).length:Nat):Int)*M=l.length*M+M:=by rw[List.length_cons];push_cast;rw[Int.add_mul];omega
  rw[List.map_cons,y7L,e,oB,yz (by omega),yjp (l:=l) (fun y hy=>h y (List.mem_cons_of_mem _ hy)) (by omega) (by omega)]
  simp only[List.map_cons,y2H]
  congr 1;omega
theorem yjq{α:Type}{t M:Int}{F:α->Int->Option Int}{g:α->Int}{l:List α}(h:∀ x∈l,F x t=some (g x)/\0<=g x/\g x<=M)(h1:l.length*M<=4611686018427387904)(h2:l.length<=1000000):y2b (l.map F) t=some (y2H (l.map g)):=by
 unfold y2b
 rw[yt (by rw[List.length_map];omega),yjp h (by omega) (by omega)]
 simp
theorem yg4{c:Cf}(hv:VLs c){l:List Fw}(hl:FwOK c l){t:Int}(h0:0<=t)(h1:t<=4294967296)(L:Int):0<=y8A c l t L/\y8A c l t L<=17592186044416:=by
 unfold y8A
 constructor
 ·exact ybF fun x hx=>by have:=(y8M hv hl (List.mem_filter.1 hx).1 h0 h1).1;omega
 ·have h:=ycN (f:=fun x=>byt c x t) (M:=1099511627776) (l:=l.filter fun x=>decide (x.k=L)) fun x hx=>(y8M hv hl (List.mem_filter.1 hx).1 h0 h1).2
  have h2:(l.filter fun x=>decide (x.k=L)).length<=l.length:=List.length_filter_le _ _
  have:=hl.len
  omega
theorem yg5{c:Cf}(hv:VLs c){l:List Fw}(hl:FwOK c l)(L:Int):0<=y8B c l L/\y8B c l L<=72:=by
 unfold y8B
 refine⟨y8o _,ygH (by omega) fun x hx=>?_⟩
 obtain⟨y,hy,rfl⟩:=List.mem_map.1 hx
 have hy:=(List.mem_filter.1 hy).1
 exact(hv.mx (hl.v0 y hy).1 (hl.v0 y hy).2).2.1
theorem grp_eq{c:Cf}(hv:VLs c){l:List Fw}(hl:FwOK c l){wide:List (Int×Int)}{L:Int}(hw:yd wide L 0=y8B c l L)(hL:L<c.fK.length)(hs:0<=L->1<=slw c L){t:Int}(h0:0<=t)(h1:t<=4294967296):
  y6x c wide (L,(l.filter fun x=>decide (x.k=L)).map (clo c)) t=some (y5H c l t L):=by
 show y4v t L ((l.filter fun x=>decide (x.k=L)).map (clo c)) wide c=_
 have hlen:(l.filter fun x=>decide (x.k=L)).length<=l.length:=List.length_filter_le _ _
 have hl16:=hl.len
 have e:=yjq (t:=t) (M:=1099511627776) (F:=clo c) (g:=fun x=>byt c x t) (l:=l.filter fun x=>decide (x.k=L)) (fun x hx=>by
  have hx:=(List.mem_filter.1 hx).1
  have:=y8M hv hl hx h0 h1
  exact⟨clo_eq hv hl hx h0 h1,by omega,this.2⟩) (by omega) (by omega)
 unfold y4v y5H
 by_cases h:L<0
 ·rw[if_pos (decide_eq_true h),if_pos h,e];rfl
 ·have hs:=hs (by omega)
  have hg:=yg4 hv hl h0 h1 L
  have hwb:=yg5 hv hl L
  rw[if_neg (by simpa using h),if_neg h,e,oB,yt ⟨by omega,hL⟩]
  rw[show max 1 (slw c L)=slw c L by omega]
  unfold slw at *
  have hd:0<=t / (nth c.fK L).fSlow:=Int.ediv_nonneg h0 (by omega)
  have hd2:t / (nth c.fK L).fSlow<=t:=Int.ediv_le_self _ h0
  rw[yt (by omega),ydQ h0,yz (x:=t / (nth c.fK L).fSlow) (by omega),hw,yz (by omega)]
  rfl
theorem y9M{c:Cf}(hv:VLs c){l:List Fw}(hl:FwOK c l){L:Int}{t:Int}(h0:0<=t)(h1:t<=4294967296):0<=y5H c l t L/\y5H c l t L<=17592186044416:=by
 have hg:=yg4 hv hl h0 h1 L
 have hwb:=yg5 hv hl L
 unfold y5H
 split
 ·exact hg
 ·have hd:0<=t / max 1 (slw c L):=Int.ediv_nonneg h0 (by omega)
  omega
theorem ykF{c:Cf}{l:List Fw}{t L:Int}(h:∀ x∈l,x.k≠L)(h0:0<=t):y5H c l t L=0:=by
 have e:(l.filter fun x=>decide (x.k=L))=[]:=by
  rw[List.filter_eq_nil_iff];intro x hx;simpa using h x hx
 unfold y5H y8A y8B
 rw[e]
 split
 ·rfl
 ·have hd:0<=t / max 1 (slw c L):=Int.ediv_nonneg h0 (by omega)
  show min 0 (0+_)=0
  omega
theorem ydR{c:Cf}(hS:Small c)(hv:VLs c){l:List Fw}(hl:FwOK c l){t:Int}(h0:0<=t)(h1:t<=4294967296):0<=Arr c l t/\Arr c l t<=18014398509481984:=by
 unfold Arr
 refine⟨ybF fun L _=>(y9M hv hl h0 h1).1,?_⟩
 have h:=ycN (f:=y5H c l t) (M:=17592186044416) (l:=lks c) fun L _=>(y9M hv hl h0 h1).2
 have e:(lks c).length=c.fK.length+1:=ycO _ _
 have:=hS.l
 rw[e] at h
 omega
theorem byt_mono{c:Cf}(hv:VLs c){l:List Fw}(hl:FwOK c l){x:Fw}(hx:x∈l){t t':Int}(h:t<=t'):byt c x t<=byt c x t':=by
 obtain⟨a,b,d,e⟩:=hv.mx (hl.v0 x hx).1 (hl.v0 x hx).2
 unfold byt
 refine Int.mul_le_mul_of_nonneg_left ?_ (by omega)
 have:=Int.ediv_le_ediv (a:=t+x.j) (b:=t'+x.j) (c:=bgV c x.v) (by omega) (by omega)
 omega
theorem Arr_mono{c:Cf}(hv:VLs c){l:List Fw}(hl:FwOK c l){t t':Int}(h:t<=t'):Arr c l t<=Arr c l t':=by
 unfold Arr
 refine yeq fun L _=>?_
 have hg:y8A c l t L<=y8A c l t' L:=by
  unfold y8A
  exact yeq fun x hx=>byt_mono hv hl (List.mem_filter.1 hx).1 h
 have hd:=Int.ediv_le_ediv (a:=t) (b:=t') (c:=max 1 (slw c L)) (by omega) h
 unfold y5H
 split
 ·exact hg
 ·omega
end Go.Proofs.YthjnhebofpebpaaGreat
namespace Go.Proofs.YthjnhebofpebpaaGreat
open Go Go.RowKit Sep
variable {rs:List (List Hop)}{p:Pl}{D:Pl->Int}{net:Int}
def FL(c:Cf)(rs:List (List Hop))(D:Pl->Int)(p:Pl)(n:Nat):List Fw:=(vls rs p n).map (y61 c rs D p)
theorem FL_succ{c:Cf}(n:Nat):FL c rs D p (n+1)=FL c rs D p n++(if uses p (nth rs n) then[y61 c rs D p n] else[]):=by
 unfold FL vls
 rw[y8L,List.filter_append,List.map_append,show(0:Int)+n=n by omega]
 by_cases h:uses p (nth rs n)=true <;> simp[h]
theorem FL_len{c:Cf}(n:Nat):(FL c rs D p n).length<=n:=by
 unfold FL vls
 rw[List.length_map]
 have h:((y1r 0 n).filter fun v=>uses p (nth rs v)).length<=(y1r 0 n).length:=List.length_filter_le _ _
 rwa [ycO] at h
theorem yc9{c:Cf}{n:Nat}{x:Fw}:x∈FL c rs D p n↔∃ v:Int,0<=v/\v<n/\uses p (nth rs v)=true/\x=y61 c rs D p v:=by
 unfold FL vls
 simp only[List.mem_map,List.mem_filter,y6u]
 constructor
 ·rintro⟨v,⟨⟨a,b⟩,d⟩,rfl⟩;exact⟨v,a,by omega,d,rfl⟩
 ·rintro⟨v,a,b,d,rfl⟩;exact⟨v,⟨⟨a,by omega⟩,d⟩,rfl⟩
theorem y8C{r:List Hop}:uses p r=true↔∃ h∈r,pk h=p:=by
 unfold uses;simp
theorem ydS{c:Cf}(hS:Small c)(hv:VA c net rs)(p:Pl){v:Int}(v0:0<=v)(v1:v<rs.length) : -1<=fwL (nth rs v) p/\fwL (nth rs v) p<c.fK.length/\(0<=fwL (nth rs v) p->1<=slw c (fwL (nth rs v) p)/\slw c (fwL (nth rs v) p)<=16):=by
 unfold fwL
 split
 ·rename_i h
  have:=(hv.each _ (yO v0 v1)).hop hS (y88 h).1
  have a:=this.l0;have b:=this.l1;have d:=this.s0;have e:=this.s1
  exact⟨by omega,b,fun _=>⟨d,e⟩⟩
 ·exact⟨by omega,by omega,fun h=>absurd h (by omega)⟩
structure AI (c:Cf) (l:List Fw) (most:Int) (mp:List (Int×List (Int->Option Int))) (wide:List (Int×Int)):Prop where
 nd:(mp.map (·.1)).Nodup
 get:∀ L,yd mp L []=(l.filter fun x=>decide (x.k=L)).map (clo c)
 key:∀ k∈mp.map (·.1),∃ x∈l,x.k=k
 key2:∀ x∈l,x.k∈mp.map (·.1)
 len:mp.length<=l.length
 wide:∀ L,yd wide L 0=y8B c l L
 most:most=y77 c l
theorem AI.nil(c:Cf):AI c [] 0 [] []:=⟨by simp,fun L=>rfl,by simp,by simp,by simp,fun L=>rfl,rfl⟩
theorem AI.put{c:Cf}{l:List Fw}{most:Int}{mp:List (Int×List (Int->Option Int))}{wide:List (Int×Int)}(h:AI c l most mp wide){x:Fw}(hx:0<=mx c x.v):AI c (l++[x]) (max most (mx c x.v)) (yC mp x.k (yd mp x.k []++[clo c x])) (yC wide x.k (max (yd wide x.k 0) (mx c x.v))):=by
 refine⟨?_,fun L=>?_,fun k hk=>?_,fun y hy=>?_,?_,fun L=>?_,?_⟩
 ·rw[y94]
  split
  ·exact h.nd
  ·rename_i hn
   rw[List.nodup_append]
   refine⟨h.nd,by simp,fun a ha b hb=>?_⟩
   rw[List.mem_singleton] at hb;subst hb
   intro e;subst e;exact hn ha
 ·rw[y1u,List.filter_append,List.map_append,<- h.get L]
  by_cases e:L=x.k
  ·subst e;simp
  ·rw[if_neg e];simp[show x.k≠L from fun a=>e a.symm]
 ·rw[y94] at hk
  split at hk
  ·obtain⟨y,hy,e⟩:=h.key k hk;exact⟨y,List.mem_append_left _ hy,e⟩
  ·rcases List.mem_append.1 hk with hk | hk
   ·obtain⟨y,hy,e⟩:=h.key k hk;exact⟨y,List.mem_append_left _ hy,e⟩
   ·rw[List.mem_singleton] at hk;exact⟨x,by simp,hk.symm⟩
 ·rw[y94]
  rcases List.mem_append.1 hy with hy | hy
  ·have:=h.key2 y hy
   split
   ·exact this
   ·exact List.mem_append_left _ this
  ·rw[List.mem_singleton] at hy;subst hy
   split
   ·assumption
   ·simp
 ·have e:(yC mp x.k (yd mp x.k []++[clo c x])).length=((yC mp x.k (yd mp x.k []++[clo c x])).map (·.1)).length:=by simp
  rw[e,y94]
  have:=h.len
  split
  ·simp;omega
  ·simp;omega
 ·rw[y1u]
  have hw:=h.wide
  unfold y8B at hw ⊢
  rw[List.filter_append,List.map_append]
  by_cases e:L=x.k
  ·subst e
   rw[if_pos rfl,hw]
   simp only[List.filter_cons,List.filter_nil,decide_true,if_true,List.map_cons,List.map_nil]
   rw[ydP _ _ hx]
  ·rw[if_neg e,hw];simp[show x.k≠L from fun a=>e a.symm]
 ·have:=h.most
  unfold y77 at *
  rw[List.map_append,List.map_cons,List.map_nil,ydP _ _ hx,this]
abbrev AR:=List (Int->Option Int)×Int
theorem ycZ{c:Cf}{net:Int}{rs:List (List Hop)}{de:DM}{p:Pl}{k:Int->List (Int×List (Int->Option Int))->List (Int×Int)->Option AR}(hS:Small c)(hv:VA c net rs)(hV:VLs c)(hD:∀ r∈rs,∀ h∈r,-1099511627776<=yd de (pk h) 0/\yd de (pk h) 0<=1099511627776):
  ∀(n:Nat) (v:Int) (most:Int) (mp:List (Int×List (Int->Option Int))) (wide:List (Int×Int)),0<=v->v<=rs.length->rs.length<n+v->AI c (FL c rs (fun q=>yd de q 0) p v.toNat) most mp wide->
   ∃ most' mp' wide',AI c (FL c rs (fun q=>yd de q 0) p rs.length) most' mp' wide'/\y30 rs p c de k n most v mp wide=k most' mp' wide'
 | 0,v,most,mp,wide,h0,h1,h2,h3=>by omega
 | n+1,v,most,mp,wide,h0,h1,h2,h3=>by
  have hl16:=hv.most
  have hvl:=hv.len
  rw[y30]
  by_cases h:v<rs.length
  ·rw[if_pos (decide_eq_true h)]
   refine ydE (P:=fun o=>∃ most' mp' wide',AI c (FL c rs (fun q=>yd de q 0) p rs.length) most' mp' wide'/\o=k most' mp' wide') fun kk hkk=>?_
   have hr:=hv.each _ (yO h0 h)
   have hrl:=hr.len
   have hnx:∀ most mp wide,AI c (FL c rs (fun q=>yd de q 0) p (v+1).toNat) most mp wide->∃ most' mp' wide',AI c (FL c rs (fun q=>yd de q 0) p rs.length) most' mp' wide'/\kk most mp wide=k most' mp' wide':=by
    intro most mp wide hai
    rw[hkk,yz (x:=v+1) (by omega)]
    exact ycZ hS hv hV hD n (v+1) most mp wide (by omega) (by omega) (by omega) hai
   have es:FL c rs (fun q=>yd de q 0) p (v+1).toNat=FL c rs (fun q=>yd de q 0) p v.toNat++(if uses p (nth rs v) then[y61 c rs (fun q=>yd de q 0) p v] else[]):=by
    rw[show(v+1).toNat=v.toNat+1 by omega,FL_succ,show((v.toNat:Nat):Int)=v by omega]
   rw[yt ⟨h0,h⟩]
   rcases ybt (r:=nth rs v) (f:=fun y0=>y4w y0 p) (p:=fun h=>decide (pk h=p)) (fun h _=>rfl) (by omega) with⟨j,j0,j1,j2,j3⟩ | ⟨j2,j3⟩
   ·rw[j3]
    simp only[oB]
    have hj:=List.find?_some j2
    simp only[decide_eq_true_eq] at hj
    rw[if_neg (by simp only[decide_eq_true_eq];omega),yt ⟨h0,by omega⟩,yjY hS hr (hD _ (yO h0 h))]
    simp only[oB]
    rw[yt ⟨j0,by rw[List.length_map];exact j1⟩]
    have hu:uses p (nth rs v)=true:=y8C.2 ⟨_,yO j0 j1,hj⟩
    have ejn:nth ((nth rs v).map fun h=>jn c (fun q=>yd de q 0) (nth rs v) h.fNode) j=jn c (fun q=>yd de q 0) (nth rs v) p.fNode:=by
     rw[y87 ⟨j0,by rw[List.length_map];exact j1⟩,List.getElem_map,<- y87 ⟨j0,j1⟩,<- hj];rfl
    rw[es,if_pos hu] at hnx
    have hm:=hV.mx h0 (by omega)
    have hglen:∀ L,((yd mp L []).length:Int)<=16:=fun L=>by
     rw[h3.get,List.length_map]
     have h4:((FL c rs (fun q=>yd de q 0) p v.toNat).filter fun x=>decide (x.k=L)).length<=(FL c rs (fun q=>yd de q 0) p v.toNat).length:=List.length_filter_le _ _
     have h5:=FL_len (c:=c) (rs:=rs) (D:=fun q=>yd de q 0) (p:=p) v.toNat
     omega
    refine y28 (P:=fun o=>∃ most' mp' wide',AI c (FL c rs (fun q=>yd de q 0) p rs.length) most' mp' wide'/\o=k most' mp' wide') fun k2 hk2=>?_
    have hk3:∀ L,L=fwL (nth rs v) p->∃ most' mp' wide',AI c (FL c rs (fun q=>yd de q 0) p rs.length) most' mp' wide'/\k2 L=k most' mp' wide':=by
     rintro L rfl
     have hgl:=hglen (fwL (nth rs v) p)
     rw[hk2,yt (by rw[List.length_append];simp only[List.length_cons,List.length_nil];omega)]
     rw[ejn]
     exact hnx _ _ _ (h3.put (x:=y61 c rs (fun q=>yd de q 0) p v) (by show 0<=mx c v;omega))
    rcases ybt (r:=nth rs v) (f:=fun y0=>y4z y0 p) (p:=fun h=>decide (h.fNext=p.fNode)) (fun h _=>rfl) (by omega) with⟨i,i0,i1,i2,i3⟩ | ⟨i2,i3⟩
    ·rw[i3]
     simp only[oB]
     rw[if_pos (by simp only[decide_eq_true_eq];omega),yt ⟨i0,i1⟩]
     refine hk3 _ ?_
     unfold fwL y39;rw[i2];rfl
    ·rw[i3]
     simp only[oB]
     rw[if_neg (by simp)]
     refine hk3 _ ?_
     unfold fwL y39;rw[i2];rfl
   ·rw[j3]
    simp only[oB]
    have hu:¬uses p (nth rs v)=true:=by
     rw[y8C];rintro⟨x,hx,e⟩
     have:=List.find?_eq_none.1 j2 x hx
     simp[e] at this
    rw[if_pos (by simp)]
    rw[es,if_neg hu,List.append_nil] at hnx
    exact hnx _ _ _ h3
  ·rw[if_neg (by simpa using h)]
   have e:v.toNat=rs.length:=by omega
   rw[e] at h3
   exact⟨most,mp,wide,h3,rfl⟩
theorem FL_ok{c:Cf}(hS:Small c)(hv:VA c net rs)(hj:∀ x∈fws c rs D p,0<=x.j/\x.j<=4294967296):FwOK c (fws c rs D p):=by
 have hl:=hv.most;have hvl:=hv.len
 refine⟨?_,fun x hx=>?_,fun x hx=>?_,hj⟩
 ·have:=FL_len (c:=c) (rs:=rs) (D:=D) (p:=p) rs.length
  exact Nat.le_trans this (by omega)
 ·obtain⟨v,v0,v1,_,rfl⟩:=yc9.1 hx
  exact⟨v0,by show v<_;omega⟩
 ·obtain⟨v,v0,v1,_,rfl⟩:=yc9.1 hx
  have:=ydS hS hv p v0 v1
  exact⟨this.1,this.2.1⟩
theorem yiN{c:Cf}{de:DM}(hS:Small c)(hv:VA c net rs)(hV:VLs c)(hD:∀ r∈rs,∀ h∈r,-1099511627776<=yd de (pk h) 0/\yd de (pk h) 0<=1099511627776)(hj:∀ x∈fws c rs (fun q=>yd de q 0) p,0<=x.j/\x.j<=4294967296):
  ∃ fs,y4d c rs p de=some (fs,y77 c (fws c rs (fun q=>yd de q 0) p))/\∀ t,0<=t->t<=4294967296->y2b fs t=some (Arr c (fws c rs (fun q=>yd de q 0) p) t):=by
 have hok:=FL_ok hS hv hj
 unfold y4d
 have hF:=yV
 generalize yy=N at hF ⊢
 refine ydE (P:=fun o=>∃ fs,o=some (fs,y77 c (fws c rs (fun q=>yd de q 0) p))/\∀ t,0<=t->t<=4294967296->y2b fs t=some (Arr c (fws c rs (fun q=>yd de q 0) p) t)) fun k hk=>?_
 have hl16:=hv.most
 obtain⟨most,mp,wide,hai,e⟩:=ycZ (k:=k) (p:=p) hS hv hV hD N 0 0 [] [] (by omega) (by omega) (by omega) (AI.nil c)
 rw[e,hk]
 have hml:=hai.len
 have hfl:=hok.len
 have hfl2:FL c rs (fun q=>yd de q 0) p rs.length=fws c rs (fun q=>yd de q 0) p:=rfl
 rw[hfl2] at hai hml
 rw[yt (by omega)]
 refine⟨mp.map (y6x c wide),by rw[hai.most],fun t h0 h1=>?_⟩
 have hpair:∀ q∈mp,q=(q.1,((fws c rs (fun q=>yd de q 0) p).filter fun x=>decide (x.k=q.1)).map (clo c)):=by
  intro q hq
  rw[<- hai.get]
  have:∀(l:List (Int×List (Int->Option Int))),(l.map (·.1)).Nodup->∀ q∈l,yd l q.1 []=q.2:=by
   intro l
   induction l with
   | nil=>intro _ q hq;simp at hq
   | cons x l ih=>
    intro hn q hq
    rw[List.map_cons,List.nodup_cons] at hn
    rw[yd]
    rcases List.mem_cons.1 hq with rfl | hq
    ·rw[if_pos rfl]
    ·rw[if_neg,ih hn.2 q hq]
     intro e;exact hn.1 (e▸List.mem_map.2 ⟨q,hq,rfl⟩)
  rw[this mp hai.nd q hq]
 have hkr:∀ k:Int,k∈mp.map (·.1) -> -1<=k/\k<c.fK.length/\(0<=k->1<=slw c k):=by
  intro k hk
  obtain⟨x,hx,rfl⟩:=hai.key k hk
  obtain⟨v,v0,v1,_,rfl⟩:=yc9.1 hx
  have:=ydS hS hv p v0 v1
  exact⟨this.1,this.2.1,fun h=>(this.2.2 h).1⟩
 rw[yjq (M:=17592186044416) (F:=y6x c wide) (g:=fun q=>y5H c (fws c rs (fun q=>yd de q 0) p) t q.1) (l:=mp) (fun q hq=>by
   have hq1:=hkr q.1 (List.mem_map.2 ⟨q,hq,rfl⟩)
   have:=y9M hV hok (L:=q.1) h0 h1
   refine⟨?_,this.1,this.2⟩
   rw[hpair q hq]
   exact grp_eq hV hok (hai.wide q.1) hq1.2.1 hq1.2.2 h0 h1) (by omega) (by omega)]
 refine congrArg some ?_
 unfold Arr
 have h5:(mp.map (·.1)).Perm ((lks c).filter fun L=>decide (L∈mp.map (·.1))):=by
  refine(List.perm_ext_iff_of_nodup hai.nd ((yg3 _ _).filter _)).2 fun k=>?_
  rw[List.mem_filter]
  skip
  rw[y6u]
  simp only[decide_eq_true_eq]
  constructor
  ·intro hk;have:=hkr k hk;exact⟨by push_cast;omega,hk⟩
  ·exact fun h=>h.2
 have h6:mp.map (fun q=>y5H c (fws c rs (fun q=>yd de q 0) p) t q.1)=(mp.map (·.1)).map (y5H c (fws c rs (fun q=>yd de q 0) p) t):=by rw[List.map_map];rfl
 rw[h6,ykE (h5.map _),yeN]
 intro L _ hL
 refine ykF (fun x hx e=>?_) h0
 simp only[decide_eq_false_iff_not] at hL
 exact hL (e▸hai.key2 x hx)
end Go.Proofs.YthjnhebofpebpaaGreat
namespace Go.Proofs.YthjnhebofpebpaaGreat
open Go Go.RowKit Sep
variable {A:Int->Int}
/-! ### a port -/
def mxf(f:Int->Int):Nat->Int
 | 0=>0
 | n+1=>max (mxf f n) (f n)
theorem yg6(f:Int->Int):∀ n,0<=mxf f n
 | 0=>Int.le_refl _
 | n+1=>by have:=yg6 f n;simp only[mxf];omega
theorem mxf_ge{f:Int->Int}:∀ {n:Nat} {t:Int},0<=t->t<n->f t<=mxf f n
 | 0,t,h0,h1=>by omega
 | n+1,t,h0,h1=>by
  simp only[mxf]
  by_cases e:t=n
  ·subst e;omega
  ·have:=mxf_ge (f:=f) (n:=n) h0 (by omega);omega
theorem ydT{f:Int->Int}{M:Int}(hM:0<=M):∀ {n:Nat},(∀ t:Int,0<=t->t<n->f t<=M)->mxf f n<=M
 | 0,_=>hM
 | n+1,h=>by
  simp only[mxf]
  have:=ydT hM (n:=n) fun t h0 h1=>h t h0 (by omega)
  have:=h n (by omega) (by omega)
  omega
def bsy(A:Int->Int)(s:Int):Nat->Int->Int
 | 0,b=>b
 | n+1,b=>if s*A (b-1)>b then bsy A s n (b+1) else b
theorem yfh{A:Int->Int}{s:Int}:∀(n:Nat) (b:Int),b<=bsy A s n b/\bsy A s n b<=b+n/\(bsy A s n b<b+n->s*A (bsy A s n b-1)<=bsy A s n b)/\∀ x,b<=x->x<bsy A s n b->s*A (x-1)>x
 | 0,b=>by refine⟨by simp[bsy],by simp[bsy],fun h=>?_,fun x h1 h2=>?_⟩ <;> simp only[bsy] at * <;> omega
 | n+1,b=>by
  rw[bsy]
  by_cases h:s*A (b-1)>b
  ·rw[if_pos h]
   obtain⟨h1,h2,h3,h4⟩:=yfh n (b+1) (A:=A) (s:=s)
   refine⟨by omega,by push_cast;omega,fun h5=>h3 (by push_cast at h5;omega),fun x h5 h6=>?_⟩
   by_cases e:x=b
   ·rw[e];exact h
   ·exact h4 x (by omega) h6
  ·rw[if_neg h]
   exact⟨by omega,by omega,fun _=>by omega,fun x h1 h2=>by omega⟩
def BZ(A:Int->Int)(s:Int):Int:=bsy A s 32768 1
theorem BZ_ge(A:Int->Int)(s:Int):1<=BZ A s/\BZ A s<=32769:=by
 obtain⟨h1,h2,_⟩:=yfh (A:=A) (s:=s) 32768 1
 unfold BZ;omega
theorem BZ_ok{s:Int}(h:BZ A s<=32768):s*A (BZ A s-1)<=BZ A s:=by
 obtain⟨h1,h2,h3,_⟩:=yfh (A:=A) (s:=s) 32768 1
 unfold BZ at *;exact h3 (by omega)
def y9E(A:Int->Int)(s la:Int)(t:Int):Int:=s*A t-t+la
def y9F(A:Int->Int)(s la:Int)(t:Int):Int:=A t-(max (t-la) 0+s-1) / s
def HB(c:Cf)(A:Int->Int)(most:Int)(p:Pl):PB:=⟨p.fNode,p.fQ,mxf (y9E A (slw c p.fQ) (y20 c p.fNode)) (BZ A (slw c p.fQ)).toNat,mxf (y9F A (slw c p.fQ) (y20 c p.fNode)) (BZ A (slw c p.fQ)+y20 c p.fNode).toNat+most⟩
structure AOK (A:Int->Int):Prop where
 b:∀ t,0<=t->t<=4294967296->0<=A t/\A t<=18014398509481984
theorem yik{c:Cf}{p:Pl}{fs:List (Int->Option Int)}{most:Int}{A:Int->Int}{k:Int->Option (PB×Int)}(hA:AOK A)(ht:∀ t,0<=t->t<=4294967296->y2b fs t=some (A t))(hs:1<=slw c p.fQ/\slw c p.fQ<=16):
  ∀(n:Nat) (N:Nat) (b:Int),1<=b->b+n=32769->n<N->1<=n->y3N (fs,most) c p k N b=if bsy A (slw c p.fQ) n b<=32768 then k (bsy A (slw c p.fQ) n b) else some (⟨0,0,0,0⟩,360)
 | n,0,b,h0,h1,h2,h3=>by omega
 | 0,N+1,b,h0,h1,h2,h3=>by omega
 | n+1,N+1,b,h0,h1,h2,h3=>by
  push_cast at h1
  rw[y3N,yz (x:=b-1) (by omega),ht (b-1) (by omega) (by omega),oB]
  have hb:=hA.b (b-1) (by omega) (by omega)
  have hm1:0<=slw c p.fQ*A (b-1):=Int.mul_nonneg (by omega) hb.1
  have hm2:slw c p.fQ*A (b-1)<=16*A (b-1):=Int.mul_le_mul_of_nonneg_right hs.2 hb.1
  have e:((nth c.fK p.fQ).fSlow)*A (b-1)=slw c p.fQ*A (b-1):=rfl
  rw[e,yz (x:=slw c p.fQ*A (b-1)) (by omega),yz (x:=b+1) (by omega),bsy]
  by_cases h:slw c p.fQ*A (b-1)>b
  ·rw[if_pos (decide_eq_true h),if_pos h]
   by_cases h4:b+1>32768
   ·rw[if_pos (decide_eq_true h4)]
    have hn:n=0:=by omega
    subst hn
    rw[bsy,if_neg (by omega)]
   ·rw[if_neg (by simpa using h4)]
    exact yik hA ht hs n N (b+1) (by omega) (by omega) (by omega) (by omega)
  ·rw[if_neg (by simpa using h),if_neg h,if_pos (by omega)]
theorem yil{c:Cf}{p:Pl}{fs:List (Int->Option Int)}{most:Int}{A:Int->Int}{k:Int->Int->Option (PB×Int)}{b la:Int}(hA:AOK A)(ht:∀ t,0<=t->t<=4294967296->y2b fs t=some (A t))(hs:1<=slw c p.fQ/\slw c p.fQ<=16)(hb:1<=b/\b<=32768)(hla:0<=la/\la<=1000):
  ∀(n:Nat) (v:Nat),(v:Int)<=b+la->b+la<n+v->y3O b la (fs,most) c p k n v (mxf (y9E A (slw c p.fQ) la) (min v b.toNat)) (mxf (y9F A (slw c p.fQ) la) v)=k (mxf (y9E A (slw c p.fQ) la) b.toNat) (mxf (y9F A (slw c p.fQ) la) (b+la).toNat)
 | 0,v,h0,h1=>by omega
 | n+1,v,h0,h1=>by
  rw[y3O,yz (x:=b+la) (by omega)]
  by_cases h:(v:Int)<b+la
  ·rw[if_pos (decide_eq_true h),ht v (by omega) (by omega),oB]
   refine y28 (P:=fun o=>o=k (mxf (y9E A (slw c p.fQ) la) b.toNat) (mxf (y9F A (slw c p.fQ) la) (b+la).toNat)) fun kk hkk=>?_
   have hbb:=hA.b v (by omega) (by omega)
   have hm1:0<=slw c p.fQ*A v:=Int.mul_nonneg (by omega) hbb.1
   have hm2:slw c p.fQ*A v<=16*A v:=Int.mul_le_mul_of_nonneg_right hs.2 hbb.1
   have hkk2:∀ x,x=mxf (y9E A (slw c p.fQ) la) (min (v+1) b.toNat)->kk x=k (mxf (y9E A (slw c p.fQ) la) b.toNat) (mxf (y9F A (slw c p.fQ) la) (b+la).toNat):=by
    rintro x rfl
    rw[hkk]
    have e:(nth c.fK p.fQ).fSlow=slw c p.fQ:=rfl
    have h2:0<=(max ((v:Int)-la) 0+slw c p.fQ-1) / slw c p.fQ:=Int.ediv_nonneg (by omega) (by omega)
    have h3:(max ((v:Int)-la) 0+slw c p.fQ-1) / slw c p.fQ<=max ((v:Int)-la) 0+slw c p.fQ-1:=Int.ediv_le_self _ (by omega)
    rw[e,yt (by omega),yz (x:=(v:Int)-la) (by omega),yz (x:=max ((v:Int)-la) 0+slw c p.fQ) (by omega),yz (x:=max ((v:Int)-la) 0+slw c p.fQ-1) (by omega),ydQ (by omega),yz (x:=(max ((v:Int)-la) 0+slw c p.fQ-1) / slw c p.fQ) (by omega),yz (x:=A v-(max ((v:Int)-la) 0+slw c p.fQ-1) / slw c p.fQ) (by omega),yz (x:=(v:Int)+1) (by omega)]
    have:=yil (k:=k) (most:=most) hA ht hs hb hla n (v+1) (by push_cast;omega) (by push_cast;omega)
    rw[<- this]
    rfl
   by_cases h5:(v:Int)<b
   ·rw[if_pos (decide_eq_true h5)]
    refine hkk2 _ ?_
    have e:(nth c.fK p.fQ).fSlow=slw c p.fQ:=rfl
    rw[e,yz (x:=slw c p.fQ*A v) (by omega),yz (x:=slw c p.fQ*A v-v) (by omega),yz (by omega),show min (v+1) b.toNat=v+1 by omega,show min v b.toNat=v by omega]
    rfl
   ·rw[if_neg (by simpa using h5)]
    refine hkk2 _ ?_
    rw[show min (v+1) b.toNat=b.toNat by omega,show min v b.toNat=b.toNat by omega]
  ·rw[if_neg (by simpa using h),show min v b.toNat=b.toNat by omega,show v=(b+la).toNat by omega]
theorem hport_eq{c:Cf}{rs:List (List Hop)}{de:DM}{p:Pl}{fs:List (Int->Option Int)}{most:Int}(hS:Small c)(hp:PI c p)(hA:AOK A)(ha:y4d c rs p de=some (fs,most))(hmost:0<=most/\most<=72)(ht:∀ t,0<=t->t<=4294967296->y2b fs t=some (A t))(hs:1<=slw c p.fQ/\slw c p.fQ<=16)(hla:0<=y20 c p.fNode/\y20 c p.fNode<=1000):
  y5o c rs p de=some (if BZ A (slw c p.fQ)<=32768 then(HB c A most p,0) else(⟨0,0,0,0⟩,360)):=by
 unfold y5o
 rw[ha,oB,yt ⟨hp.l0,hp.l1⟩,yg2 hS hp.n0 hp.n1,oB]
 have hF:=yV
 generalize yy=N at hF ⊢
 refine y28 (P:=fun o=>o=some (if BZ A (slw c p.fQ)<=32768 then(HB c A most p,0) else(⟨0,0,0,0⟩,360))) fun k hk=>?_
 rw[yik (A:=A) hA ht hs 32768 N 1 (by omega) (by omega) (by omega) (by omega)]
 have e:bsy A (slw c p.fQ) 32768 1=BZ A (slw c p.fQ):=rfl
 rw[e]
 by_cases h:BZ A (slw c p.fQ)<=32768
 ·rw[if_pos h,if_pos h,hk]
  refine yc7 (P:=fun o=>o=some (HB c A most p,0)) fun k2 hk2=>?_
  have hb:=BZ_ge A (slw c p.fQ)
  have:=yil (k:=k2) (most:=most) (la:=y20 c p.fNode) hA ht hs ⟨hb.1,h⟩ hla N 0 (by omega) (by omega)
  simp only[Nat.zero_min,mxf] at this
  rw[show((0:Nat):Int)=0 from rfl] at this
  rw[this,hk2]
  refine congrArg some ?_
  unfold HB
  have hst:=yg6 (y9F A (slw c p.fQ) (y20 c p.fNode)) (BZ A (slw c p.fQ)+y20 c p.fNode).toNat
  have hst2:mxf (y9F A (slw c p.fQ) (y20 c p.fNode)) (BZ A (slw c p.fQ)+y20 c p.fNode).toNat<=18014398509481984:=ydT (by omega) fun t h0 h1=>by
   have h2:0<=(max (t-y20 c p.fNode) 0+slw c p.fQ-1) / slw c p.fQ:=Int.ediv_nonneg (by omega) (by omega)
   have:=(hA.b t h0 (by omega)).2
   unfold y9F;omega
  rw[yz (by omega)]
 ·rw[if_neg h,if_neg h]
theorem HB_delay{c:Cf}{most:Int}{p:Pl}(hm:∀ t t',0<=t->t<=t'->A t<=A t')(h0:1<=A 0)(hs:1<=slw c p.fQ/\slw c p.fQ<=16)(hla:0<=y20 c p.fNode/\y20 c p.fNode<=1000)(h:BZ A (slw c p.fQ)<=32768):y20 c p.fNode+slw c p.fQ<=(HB c A most p).fDelay/\(HB c A most p).fDelay<=33768:=by
 have hb:=BZ_ge A (slw c p.fQ)
 constructor
 ·have:=mxf_ge (f:=y9E A (slw c p.fQ) (y20 c p.fNode)) (n:=(BZ A (slw c p.fQ)).toNat) (t:=0) (by omega) (by omega)
  have h2:slw c p.fQ*1<=slw c p.fQ*A 0:=Int.mul_le_mul_of_nonneg_left h0 (by omega)
  show _<=mxf _ _
  unfold y9E at this ⊢
  omega
 ·refine ydT (by omega) fun t t0 t1=>?_
  have h2:=BZ_ok h
  have h3:slw c p.fQ*A t<=slw c p.fQ*A (BZ A (slw c p.fQ)-1):=Int.mul_le_mul_of_nonneg_left (hm _ _ t0 (by omega)) (by omega)
  unfold y9E;omega
end Go.Proofs.YthjnhebofpebpaaGreat

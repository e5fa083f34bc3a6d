/- A part of this claim's proof: models of functions, walks, plain laws. No conditions. -/
import Derived.Test.YthjnhebofpebpaaGreatP35a
set_option linter.all false
namespace Go.Proofs.YthjnhebofpebpaaGreat
open Go Go.RowKit Sep
/-! ### a port -/
def er(x:Int):Int:=if x=6 then 352 else x
def fe(e a b:Int):Int:=if (if e=0 then er a else e)=0 then er b else(if e=0 then er a else e)
theorem yiW{x y:R×Int}{k:Int→Option (PB×Int×BM×DM)}(e:Int):y20 x y k yx 0 e=k (fe e x.2 y.2):=by
 have hF:yx=(yx-3)+3:=by rw[yR]
 rw[hF]
 generalize yx-3=N
 have hstep:∀(n:Nat) (v e a:Int),0≤v→v<2→nth ([x.2,y.2]:List Int) v=a→y20 x y k (n+1) v e=y20 x y k n (v+1) (if e=0 then er a else e):=by
  intro n v e a h0 h1 ha
  rw[y20,if_pos (by simp;omega)]
  refine y25 (P:=fun o=>o=_) fun k1 hk1=>?_
  rw[yt (by simp;omega)]
  refine y25 (P:=fun o=>o=_) fun k2 hk2=>?_
  rw[ha]
  have e1:(if decide (a=6)=true then k2 352 else k2 a)=k2 (er a):=by
   unfold er;by_cases h:a=6 <;> simp[h]
  have e2:(if decide (e=0)=true then k1 (er a) else k1 e)=k1 (if e=0 then er a else e):=by
   by_cases h:e=0 <;> simp[h]
  rw[e1,hk2,e2,hk1,yz (x:=v+1) (by omega)]
 rw[hstep (N+2) 0 e x.2 (by omega) (by omega) rfl,hstep (N+1) (0+1) _ y.2 (by omega) (by omega) rfl,y20,if_neg (by simp)]
 rfl
def DL(l:List (List B))(s:SV):R×Int:=if CKF l s=0 then mxv (dv l s) (PTS l []) else(⟨0,0⟩,CKF l s)
def BL(l:List (List B))(s:SV):R×Int:=if CKF l s=0 then mxv (bv l s) (PTS l [s.fL]) else(⟨0,0⟩,CKF l s)
theorem Delay_eq{l:List (List B)}{s:SV}(hl:l.length≤40):y5P l s=some (DL l s):=by
 unfold y5P DL
 rw[max_eq hl (by simp),oB]
theorem yij{l:List (List B)}{s:SV}(hl:l.length≤40):y5m l s=some (BL l s):=by
 unfold y5m BL
 rw[maxb_eq hl (by simp),oB]
def lat(c:Cf)(p:Pl):Int:=if p.fNode-nM c≥0 then(nth c.fS (p.fNode-nM c)).fDelay else 0
def srv(c:Cf)(p:Pl):SV:=⟨⟨1,(nth c.fK p.fQ).fSlow⟩,⟨lat c p,1⟩⟩
def PO(c:Cf)(rs:List (List Hop))(bu:BM)(de:DM)(e:Int)(p:Pl):PB×Int×BM×DM:=
 let u:=CU c rs bu de e p
 let d:=DL u.1 (srv c p)
 let b:=BL u.1 (srv c p)
 (⟨p.fNode,p.fQ,flr d.1,i64 (flr b.1+u.2.1)⟩,fe u.2.2.1 d.2 b.2,u.2.2.2,yF de p (flr d.1))
structure PI (c:Cf) (p:Pl):Prop where
 l0:0≤p.fQ
 l1:p.fQ<c.fK.length
 n0:0≤p.fNode
 n1:p.fNode<nN c
theorem port_eq{c:Cf}{rs:List (List Hop)}{bu:BM}{de:DM}{e:Int}{p:Pl}(hv:VLs c)(hl:rs.length=c.fVLs.length)(hr:∀ r∈rs,r.length<1000000000)(hs:rs.length≤16)(hL:c.fK.length≤20)(hS:Small c)(hp:PI c p):
  y5D c rs bu de e p=some (PO c rs bu de e p):=by
 unfold y5D
 obtain⟨a1,a2⟩:=yiV (bu:=bu) (de:=de) (e:=e) (p:=p) hv hl hr hs hL
 have hn1:=hp.n1;have hn0:=hp.n0;have hm:=hS.m;have hsw:=hS.s
 unfold nN at hn1
 rw[a1,oB]
 refine ybw (P:=fun o=>o=_) fun k hk=>?_
 have hlat:(if decide ((i64 (p.fNode-((c.fM.length:Nat):Int)))≥0) then chk ((0:Int)≤(i64 (p.fNode-((c.fM.length:Nat):Int)))∧(i64 (p.fNode-((c.fM.length:Nat):Int)))<((c.fS.length:Nat):Int)) (k (CU c rs bu de e p).1 ((nth c.fS (i64 (p.fNode-((c.fM.length:Nat):Int)))).fDelay)) else k (CU c rs bu de e p).1 0)=k (CU c rs bu de e p).1 (lat c p):=by
  rw[yz (x:=p.fNode-((c.fM.length:Nat):Int)) (by omega)]
  unfold lat nM
  by_cases h:p.fNode-((c.fM.length:Nat):Int)≥0
  ·rw[if_pos (decide_eq_true h),yt ⟨h,by omega⟩,if_pos h]
  ·rw[if_neg (by simpa using h),if_neg h]
 rw[hlat,hk,yt ⟨hp.l0,hp.l1⟩]
 unfold y2I
 rw[oB,Delay_eq (by omega),oB,yij (by omega),oB]
 refine y25 (P:=fun o=>o=_) fun k2 hk2=>?_
 rw[yiW,hk2]
 rw[(ydr _).1,oB,(ydr _).1,oB,ybt]
 rfl
/-! ### all ports -/
structure WS where
 out:List PB
 e:Int
 bu:BM
 de:DM
def wst(c:Cf)(rs:List (List Hop))(s:WS)(p:Pl):WS:=let x:=PO c rs s.bu s.de s.e p;⟨s.out++[x.1],x.2.1,x.2.2.1,x.2.2.2⟩
def ya0(c:Cf)(rs:List (List Hop)):List Pl→WS→WS ⊕ Int
 | [],s => .inl s
 | p::l,s=>if (wst c rs s p).e≠0 then .inr (wst c rs s p).e else ya0 c rs l (wst c rs s p)
theorem yeN{c:Cf}{rs:List (List Hop)}{l:List Pl×Int}{k:List PB→Option (S39×Int)}(hv:VLs c)(hl:rs.length=c.fVLs.length)(hr:∀ r∈rs,r.length<1000000000)(hs:rs.length≤16)(hL:c.fK.length≤20)(hS:Small c)(hp:∀ p∈l.1,PI c p)(hle:l.1.length≤100000):
  ∀(n:Nat) (v:Int) (s:WS),0≤v→v≤l.1.length→l.1.length<n+v→s.out.length=v→
   y2Q l c rs k n v s.e s.out s.bu s.de=match ya0 c rs (l.1.drop v.toNat) s with | .inl t=>k t.out | .inr e=>some (⟨[],[]⟩,e)
 | 0,v,s,h0,h1,h2,h3=>by omega
 | n+1,v,s,h0,h1,h2,h3=>by
  rw[y2Q]
  by_cases h:v<l.1.length
  ·rw[if_pos (decide_eq_true h),yt ⟨h0,h⟩,y48 h0 h]
   have e:(⟨((nth l.1 v).fNode),((nth l.1 v).fQ)⟩:z8)=nth l.1 v:=rfl
   rw[e,port_eq hv hl hr hs hL hS (hp _ (yX h0 h)),oB,yt (by simp;omega),ya0]
   by_cases he:(wst c rs s (nth l.1 v)).e≠0
   ·rw[if_pos he,if_pos (by exact decide_eq_true he)];rfl
   ·rw[if_neg he,if_neg (by rw[decide_eq_true_eq];exact he),yz (x:=v+1) (by omega)]
    have:=yeN (k:=k) hv hl hr hs hL hS hp hle n (v+1) (wst c rs s (nth l.1 v)) (by omega) (by omega) (by omega) (by simp[wst];omega)
    rw[show(v+1).toNat=v.toNat+1 by omega] at this
    exact this
  ·rw[if_neg (by simpa using h),List.drop_eq_nil_of_le (by omega)];rfl
/-! ### sorting -/
def pbk(b:PB):Pl:=⟨b.fNode,b.fQ⟩
theorem yiX{l:List PB}(hn:(l.map pbk).Nodup)(hs:l.length≤1000000):
  yQ l (fun y0 y1=>y2b y0 y1)=some (yV y2b l)∧(yV y2b l).Pairwise fun a b=>¬plt (pbk b) (pbk a):=by
 have hinj:∀ x∈l,∀ y∈l,pbk x=pbk y→x=y:=by
  intro x hx y hy e
  obtain⟨i,hi,rfl⟩:=List.getElem_of_mem hx
  obtain⟨j,hj,rfl⟩:=List.getElem_of_mem hy
  have h1:(l.map pbk)[i]'(by simpa using hi)=(l.map pbk)[j]'(by simpa using hj):=by simpa using e
  have:=(List.getElem_inj (h₀:=by simpa using hi) (h₁:=by simpa using hj) hn).1 h1
  subst this;rfl
 obtain⟨ho,hsrt⟩:=ydj (p:=y2b) (lt:=fun a b=>plt (pbk a) (pbk b)) (l:=l) (fun x _ y _=>by
  obtain⟨v,e1,e2⟩:=yeB (pbk x) (pbk y)
  refine⟨v,?_,e2⟩
  unfold y2b
  rw[show(⟨x.fNode,x.fQ⟩:z8)=pbk x from rfl,show(⟨y.fNode,y.fQ⟩:z8)=pbk y from rfl,e1];rfl) (fun x y=>ye3 _ _) (fun x y z=>ygk _ _ _) (fun x hx y hy h1 h2=>hinj x hx y hy (yeC _ _ h1 h2))
 refine⟨?_,hsrt⟩
 unfold yQ y4p y2B
 rw[ydk (by omega),yt (by omega),oB]
 have hb:=yc0 l.length (by omega)
 rw[Int.toNat_natCast,yt ⟨⟨rfl,rfl⟩,by omega,by omega,by omega⟩,yt ho,oB]
/-! ### the ends -/
theorem yfD{r:List Hop}{k:Option Bool}(hl:r.length<1000000000):∀(n:Nat) (v:Int),0≤v→v≤r.length→r.length<n+v→
  ((∃ q:Int,v≤q∧q<r.length∧(y3Y (r.take q.toNat) (nth r q).fNode).2=false∧(nth r q).fNode≠(nth r 0).fNode)∧y4f r k n v=some false) ∨
  ((∀ q:Int,v≤q→q<r.length→(y3Y (r.take q.toNat) (nth r q).fNode).2=true∨(nth r q).fNode=(nth r 0).fNode)∧y4f r k n v=k)
 | 0,v,h0,h1,h2=>by omega
 | n+1,v,h0,h1,h2=>by
  rw[y4f]
  by_cases h:v<r.length
  ·rw[if_pos (decide_eq_true h),yt ⟨h0,h⟩,yt ⟨by omega,h0,by omega⟩,yfc (by rw[List.length_take];omega),oB,yt (fun _=>⟨by omega,by omega⟩)]
   by_cases hc:(!(y3Y (r.take v.toNat) (nth r v).fNode).2&&decide ((nth r v).fNode≠(nth r 0).fNode))=true
   ·rw[if_pos hc]
    simp only[Bool.and_eq_true,Bool.not_eq_true',decide_eq_true_eq] at hc
    exact .inl ⟨⟨v,by omega,h,hc.1,hc.2⟩,rfl⟩
   ·rw[if_neg hc,yz (x:=v+1) (by omega)]
    have hc2:(y3Y (r.take v.toNat) (nth r v).fNode).2=true∨(nth r v).fNode=(nth r 0).fNode:=by
     simp only[Bool.and_eq_true,Bool.not_eq_true',decide_eq_true_eq] at hc
     by_cases h5:(nth r v).fNode=(nth r 0).fNode
     ·exact .inr h5
     ·refine .inl ?_
      cases h6:(y3Y (r.take v.toNat) (nth r v).fNode).2 with
      | true=>rfl
      | false=>exact absurd ⟨h6,h5⟩ hc
    rcases yfD hl n (v+1) (by omega) (by omega) (by omega) (k:=k) with⟨⟨q,q1,q2⟩,h3⟩ | ⟨h3,h4⟩
    ·exact .inl ⟨⟨q,by omega,q2⟩,h3⟩
    ·refine .inr ⟨fun q q1 q2=>?_,h4⟩
     by_cases e:q=v
     ·rw[e];exact hc2
     ·exact h3 q (by omega) q2
  ·rw[if_neg (by simpa using h)]
   exact .inr ⟨fun q q1 q2=>by omega,rfl⟩
theorem VR.tree{c:Cf}{net:Int}{r:List Hop}(h:VR c net r):y7H r=some true:=by
 have hl:=h.len
 unfold y7H
 have hF:=yR
 generalize yx=N at hF ⊢
 refine y42 (P:=fun o=>o=some true) fun k hk=>?_
 rcases yfD (k:=k) (by omega) N 0 (by omega) (by omega) (by omega) (r:=r) with⟨⟨q,q1,q2,q3,q4⟩,h5⟩ | ⟨h3,h4⟩
 ·exfalso
  have hc:=(h.cond q q1 q2).1
  rcases hc with hc | ⟨j,j0,j1,j2⟩
  ·exact q4 hc
  ·have hm:nth r j∈r.take q.toNat:=by
    rw[y83 ⟨j0,by omega⟩]
    have:(r.take q.toNat)[j.toNat]'(by simp;omega)=r[j.toNat]'(by omega):=List.getElem_take
    rw[← this];exact List.getElem_mem _
   have:=ygn hm
   rw[j2,q3] at this;cases this
 ·rw[h4,hk]
abbrev SM:=List (Int×Int)
structure ES where
 ends:List zn
 sum:SM
def est(c:Cf)(r:List Hop)(de:DM)(vl:Int)(s:ES)(h:Hop):ES:=
 if y31 s.sum h.fNext||decide (h.fNext=(nth r 0).fNode) then s else
  let m:=yF s.sum h.fNext (i64 (yg s.sum h.fNode 0+yg de (pk h) 0))
  ⟨if 0≤h.fNext∧h.fNext<nM c then s.ends++[⟨vl,h.fNext,yg m h.fNext 0⟩] else s.ends,m⟩
theorem ygF{c:Cf}{rs:List (List Hop)}{v:Int}{de:DM}{k:List zn→Option (List zn)}(h0v:0≤v∧v<rs.length)(hl:(nth rs v).length≤1000):∀(n:Nat) (i:Int) (s:ES),0≤i→i≤(nth rs v).length→(nth rs v).length<n+i→(s.ends.length:Int)≤i→
  y4X rs v c de k n s.ends i s.sum=k (((nth rs v).drop i.toNat).foldl (est c (nth rs v) de v) s).ends
 | 0,i,s,h0,h1,h2,h3=>by omega
 | n+1,i,s,h0,h1,h2,h3=>by
  rw[y4X]
  by_cases h:i<(nth rs v).length
  ·rw[if_pos (decide_eq_true h),y48 h0 h,List.foldl_cons]
   refine ybw (P:=fun o=>o=_) fun k1 hk1=>?_
   have hlen:((est c (nth rs v) de v s (nth (nth rs v) i)).ends.length:Int)≤i+1:=by
    unfold est
    simp only
    split
    ·omega
    ·show(((if _ then _ else _:List zn)).length:Int)≤_
     split
     ·simp;omega
     ·omega
   have hgo:∀ t:ES,t=est c (nth rs v) de v s (nth (nth rs v) i)→k1 t.ends t.sum=k (((nth rs v).drop (i.toNat+1)).foldl (est c (nth rs v) de v) (est c (nth rs v) de v s (nth (nth rs v) i))).ends:=fun t ht=>by
    subst ht
    rw[hk1,yz (x:=i+1) (by omega)]
    have:=ygF (k:=k) (c:=c) (de:=de) h0v hl n (i+1) (est c (nth rs v) de v s (nth (nth rs v) i)) (by omega) (by omega) (by omega) hlen
    rw[show(i+1).toNat=i.toNat+1 by omega] at this
    exact this
   rw[yt ⟨h0,h⟩,yt (fun _=>⟨by omega,by omega⟩)]
   by_cases hc:(y31 s.sum ((nth (nth rs v) i).fNext)||decide ((nth (nth rs v) i).fNext=(nth (nth rs v) 0).fNode))=true
   ·rw[if_pos hc]
    refine hgo s ?_
    unfold est;rw[if_pos hc]
   ·rw[if_neg hc,yeA,oB]
    by_cases hn:0≤(nth (nth rs v) i).fNext∧(nth (nth rs v) i).fNext<nM c
    ·rw[if_pos (by have:=hn.2;unfold nM at this;simp only[Bool.and_eq_true,decide_eq_true_eq];exact⟨hn.1,this⟩),yt (by simp;omega)]
     refine hgo ⟨_,_⟩ ?_
     unfold est;rw[if_neg hc];simp only;rw[if_pos hn]
    ·rw[if_neg (by unfold nM at hn;simp only[Bool.and_eq_true,decide_eq_true_eq];exact hn)]
     refine hgo ⟨s.ends,yF s.sum (nth (nth rs v) i).fNext (i64 (yg s.sum (nth (nth rs v) i).fNode 0+yg de (pk (nth (nth rs v) i)) 0))⟩ ?_
     unfold est;rw[if_neg hc];simp only;rw[if_neg hn]
  ·rw[if_neg (by simpa using h),List.drop_eq_nil_of_le (by omega)];rfl
structure EI (c:Cf) (vl:Int) (s:ES):Prop where
 nd:(s.ends.map (·.fNode)).Nodup
 vl:∀ x∈s.ends,x.fVL=vl∧0≤x.fNode∧x.fNode<nM c∧y31 s.sum x.fNode=true
theorem EI.step{c:Cf}{r:List Hop}{de:DM}{v:Int}{s:ES}{h:Hop}(hi:EI c v s):EI c v (est c r de v s h):=by
 unfold est
 split
 ·exact hi
 ·rename_i hc
  simp only[Bool.or_eq_true,not_or,decide_eq_true_eq,Bool.not_eq_true] at hc
  simp only
  have hk:∀ n,y31 s.sum n=true→y31 (yF s.sum h.fNext (i64 (yg s.sum h.fNode 0+yg de (pk h) 0))) n=true:=fun n hn=>by rw[yaF,hn];simp
  split
  ·rename_i hn
   refine⟨?_,fun x hx=>?_⟩
   ·rw[List.map_append]
    refine List.nodup_append.2 ⟨hi.nd,by simp,fun a ha b hb=>?_⟩
    simp at hb;subst hb
    rintro rfl
    obtain⟨x,hx,e⟩:=List.mem_map.1 ha
    have:=(hi.vl x hx).2.2.2
    rw[e,hc.1] at this;cases this
   ·rcases List.mem_append.1 hx with hx | hx
    ·obtain⟨a1,a2,a3,a4⟩:=hi.vl x hx
     exact⟨a1,a2,a3,hk _ a4⟩
    ·rw[List.mem_singleton] at hx;subst hx
     exact⟨rfl,hn.1,hn.2,by show y31 (yF _ _ _) h.fNext=true;rw[yaF];simp⟩
  ·exact⟨hi.nd,fun x hx=>by obtain⟨a1,a2,a3,a4⟩:=hi.vl x hx;exact⟨a1,a2,a3,hk _ a4⟩⟩
theorem EI.fold{c:Cf}{r:List Hop}{de:DM}{v:Int}:∀(hs:List Hop) {s:ES},EI c v s→EI c v (hs.foldl (est c r de v) s)
 | [],_,hi=>hi
 | h::hs,_,hi=>by rw[List.foldl_cons];exact EI.fold hs hi.step
def VE(c:Cf)(rs:List (List Hop))(de:DM)(v:Int):List zn:=((nth rs v).foldl (est c (nth rs v) de v) ⟨[],[]⟩).ends
theorem ygG(c:Cf)(rs:List (List Hop))(de:DM)(v:Int):EI c v ((nth rs v).foldl (est c (nth rs v) de v) ⟨[],[]⟩):=EI.fold _ ⟨by simp,by simp⟩
theorem VE_len{c:Cf}{rs:List (List Hop)}{de:DM}{v:Int}:(VE c rs de v).length≤(nth rs v).length:=by
 unfold VE
 have:∀(hs:List Hop) (s:ES),(hs.foldl (est c (nth rs v) de v) s).ends.length≤s.ends.length+hs.length:=by
  intro hs
  induction hs with
  | nil=>intro s;simp
  | cons h hs ih=>
   intro s
   rw[List.foldl_cons]
   have h1:=ih (est c (nth rs v) de v s h)
   have h2:(est c (nth rs v) de v s h).ends.length≤s.ends.length+1:=by
    unfold est
    split
    ·omega
    ·simp only;split
     ·simp
     ·omega
   rw[List.length_cons];omega
 have:=this (nth rs v) ⟨[],[]⟩
 simpa using this
def elt(a b:zn):Prop:=a.fNode<b.fNode
theorem sortE_eq{c:Cf}{v:Int}{l:List zn}(hS:Small c)(hn:(l.map (·.fNode)).Nodup)(hb:∀ x∈l,x.fVL=v∧0≤x.fNode∧x.fNode<nM c)(hs:l.length≤1000000):
  y2g l (fun y0 y1=>y39 y0 y1)=some (yV y39 l):=by
 have hm:=hS.m
 have hinj:∀ x∈l,∀ y∈l,x.fNode=y.fNode→x=y:=by
  intro x hx y hy e
  obtain⟨i,hi,rfl⟩:=List.getElem_of_mem hx
  obtain⟨j,hj,rfl⟩:=List.getElem_of_mem hy
  have h1:(l.map (·.fNode))[i]'(by simpa using hi)=(l.map (·.fNode))[j]'(by simpa using hj):=by simpa using e
  have:=(List.getElem_inj (h₀:=by simpa using hi) (h₁:=by simpa using hj) hn).1 h1
  subst this;rfl
 obtain⟨ho,_⟩:=ydj (p:=y39) (lt:=elt) (l:=l) (fun x hx y hy=>by
  have h1:=hb x hx;have h2:=hb y hy
  unfold nM at h1 h2
  refine⟨_,rfl,?_⟩
  rw[yz (by omega)]
  unfold elt
  omega) (fun x y=>by unfold elt;omega) (fun x y z=>by unfold elt;omega) (fun x hx y hy h1 h2=>hinj x hx y hy (by unfold elt at h1 h2;omega))
 unfold y2g y4p y4M
 rw[ydk (by omega),yt (by omega),oB]
 have hb:=yc0 l.length (by omega)
 rw[Int.toNat_natCast,yt ⟨⟨rfl,rfl⟩,by omega,by omega,by omega⟩,yt ho,oB]
theorem yhP{c:Cf}{rs:List (List Hop)}{de:DM}{k:List zn→Option (List zn)}(hS:Small c)(hr:∀ r∈rs,r.length≤1000)(hl:rs.length≤100):∀(n:Nat) (v:Int) (o:List zn),0≤v→v≤rs.length→rs.length<n+v→(o.length:Int)≤1000*v→
  y4Y rs c de k n o v=k (o++(y2Z v (rs.length-v.toNat)).flatMap fun v=>yV y39 (VE c rs de v))
 | 0,v,o,h0,h1,h2,h3=>by omega
 | n+1,v,o,h0,h1,h2,h3=>by
  rw[y4Y]
  by_cases h:v<rs.length
  ·have hrl:=hr _ (yX h0 h)
   rw[if_pos (decide_eq_true h),show rs.length-v.toNat=(rs.length-(v+1).toNat)+1 by omega,y2Z,List.flatMap_cons]
   refine y25 (P:=fun x=>x=_) fun k1 hk1=>?_
   rw[yt ⟨h0,h⟩]
   refine y25 (P:=fun x=>x=_) fun k2 hk2=>?_
   have h4:=ygF (k:=k2) (c:=c) (de:=de) ⟨h0,h⟩ hrl yx 0 ⟨[],[]⟩ (by omega) (by omega) (by rw[yR];omega) (by simp)
   simp only[Int.toNat_zero,List.drop_zero] at h4
   have hi:=ygG c rs de v
   have hlen:=VE_len (c:=c) (rs:=rs) (de:=de) (v:=v)
   rw[h4,hk2]
   have hi1:((VE c rs de v).map (·.fNode)).Nodup:=hi.nd
   have hi2:∀ x∈VE c rs de v,x.fVL=v∧0≤x.fNode∧x.fNode<nM c:=fun x hx=>by obtain⟨a1,a2,a3,_⟩:=hi.vl x hx;exact⟨a1,a2,a3⟩
   rw[show((nth rs v).foldl (est c (nth rs v) de v) ⟨[],[]⟩).ends=VE c rs de v from rfl]
   rw[sortE_eq (v:=v) hS hi1 hi2 (by omega),oB]
   have hsl:=y60 y39 (VE c rs de v)
   rw[yt (by rw[List.length_append];omega),hk1,yz (x:=v+1) (by omega),yhP hS hr hl n (v+1) _ (by omega) (by omega) (by omega) (by rw[List.length_append];omega),List.append_assoc]
  ·rw[if_neg (by simpa using h),show rs.length-v.toNat=0 by omega];simp[y2Z]
def dem(l:List PB):DM:=l.foldr (fun b m=>yF m (pbk b) b.fDelay) []
theorem ygH{l:List PB}{k:DM→Option (List zn)}(hl:l.length≤1000000):∀(n:Nat) (i:Int) (m:DM),-1≤i→i<l.length→i+1<n→y4W l k n i m=k ((l.take (i+1).toNat).foldr (fun b m=>yF m (pbk b) b.fDelay) m)
 | 0,i,m,h0,h1,h2=>by omega
 | n+1,i,m,h0,h1,h2=>by
  rw[y4W]
  by_cases h:i≥0
  ·rw[if_pos (decide_eq_true h),yt ⟨h,h1⟩,yz (x:=i-1) (by omega),ygH hl n (i-1) _ (by omega) (by omega) (by omega)]
   congr 1
   have h3:i.toNat<l.length:=by omega
   rw[show(i+1).toNat=i.toNat+1 by omega,show(i-1+1).toNat=i.toNat by omega,List.take_succ,List.getElem?_eq_getElem h3,List.foldr_append]
   rw[y83 ⟨h,h1⟩]
   rfl
  ·rw[if_neg (by simpa using h),show(i+1).toNat=0 by omega];rfl
def EN(c:Cf)(rs:List (List Hop))(ps:List PB):List zn:=(y2Z 0 rs.length).flatMap fun v=>yV y39 (VE c rs (dem ps) v)
theorem yiY{rs:List (List Hop)}{c:Cf}{net:Int}(hv:∀ r∈rs,VR c net r)(hl:rs.length<1000000000):y16 rs (fun y0=>y4D y0)=some false:=by
 unfold y16 y1S
 have hF:=yR
 generalize yx=N at hF ⊢
 have hf:∀ y∈rs,y4D y=some false:=fun y hy=>by unfold y4D;rw[(hv y hy).tree];rfl
 refine y42 (P:=fun o=>(o.bind fun x=>some (decide (x≥0)))=some false) fun k hk=>?_
 rcases yb8 (f:=fun y0=>y4D y0) (k:=k) (fun y hy=>⟨false,hf y hy⟩) hl N 0 (by omega) (by omega) (by omega) with⟨i,i1,i2,i3,i4⟩ | ⟨i1,i2⟩
 ·rw[hf _ (yX i1 i2)] at i3;cases i3
 ·rw[i2,hk];rfl
theorem yhQ{c:Cf}{net:Int}{rs:List (List Hop)}{ps:List PB}(hS:Small c)(hv:∀ r∈rs,VR c net r)(hl:rs.length≤100)(hp:ps.length≤1000000):y6E c rs ps=some (EN c rs ps):=by
 unfold y6E
 rw[yiY hv (by omega),oB,if_neg (by simp)]
 refine y25 (P:=fun o=>o=_) fun k hk=>?_
 have h1:=ygH (k:=k) hp yx (((ps.length:Nat):Int)-1) [] (by omega) (by omega) (by rw[yR];omega)
 rw[yz (x:=((ps.length:Nat):Int)-1) (by omega),h1,hk,show(((ps.length:Nat):Int)-1+1).toNat=ps.length by omega,List.take_length]
 refine y25 (P:=fun o=>o=_) fun k2 hk2=>?_
 have h2:=yhP (k:=k2) (de:=dem ps) hS (fun r hr=>by have:=(hv r hr).len;omega) hl yx 0 [] (by omega) (by omega) (by rw[yR];omega) (by simp)
 simp only[Int.toNat_zero,Nat.sub_zero,List.nil_append] at h2
 rw[show(ps.foldr (fun b m=>yF m (pbk b) b.fDelay) ([]:DM))=dem ps from rfl,h2,hk2]
 rfl
end Go.Proofs.YthjnhebofpebpaaGreat
namespace Go.Proofs.YthjnhebofpebpaaGreat
open Go Go.RowKit Sep
/-! ### virtual links -/
def gapL:List Int:=[100,200,400,800,1600,3200,6400,12800]
theorem gap_eq(b:Int):y8g b=some (decide (b∈gapL)):=by
 unfold y8g
 have hF:yx=(yx-9)+9:=by rw[yR]
 rw[hF]
 generalize yx-9=N
 refine y42 (P:=fun o=>o=_) fun k hk=>?_
 have hstep:∀(n:Nat) (x:Int),0≤x→x≤12800→y3q b k (n+1) x=if x=b then some true else y3q b k n (2*x):=fun n x h0 h1=>by
  rw[y3q,if_pos (decide_eq_true h1),yz (x:=x*2) (by omega),Int.mul_comm]
  by_cases h:x=b
  ·rw[if_pos (decide_eq_true h),if_pos h]
  ·rw[if_neg (by simpa using h),if_neg h]
 have hend:y3q b k (N+1) (2*12800)=some false:=by
  rw[y3q,if_neg (by decide),hk]
 rw[hstep _ 100 (by omega) (by omega),hstep _ (2*100) (by omega) (by omega),hstep _ (2*(2*100)) (by omega) (by omega),hstep _ (2*(2*(2*100))) (by omega) (by omega),hstep _ (2*(2*(2*(2*100)))) (by omega) (by omega),hstep _ (2*(2*(2*(2*(2*100))))) (by omega) (by omega),hstep _ (2*(2*(2*(2*(2*(2*100)))))) (by omega) (by omega),hstep _ (2*(2*(2*(2*(2*(2*(2*100))))))) (by omega) (by omega)]
 have:(2*(2*(2*(2*(2*(2*(2*(2*100)))))) ):Int)=2*12800:=by decide
 rw[this,hend]
 unfold gapL
 repeat' split
 all_goals
  simp only[Option.some.injEq]
  first
  | (symm;rw[decide_eq_true_iff];simp only[List.mem_cons,List.not_mem_nil,or_false];omega)
  | (symm;rw[decide_eq_false_iff_not];simp only[List.mem_cons,List.not_mem_nil,or_false];omega)
def vok(v:zh):Prop:=v.fBag∈gapL∧1≤v.fMax∧v.fMax≤72
instance (v:zh):Decidable (vok v):=inferInstanceAs (Decidable (_∧_))
theorem vl1_eq(v:zh):y34 v=some (!decide (vok v)):=by
 unfold y34 vok
 rw[gap_eq,oB]
 congr 1
 by_cases h1:v.fBag∈gapL <;> by_cases h2:1≤v.fMax <;> by_cases h3:v.fMax≤72 <;> simp[h1,h2,h3] <;> omega
theorem yd2{l:List zh}{k:Option Int}(hl:l.length<1000000000):∀(n:Nat) (v:Int),0≤v→v≤l.length→l.length<n+v→
  ((∃ i:Int,v≤i∧i<l.length∧¬vok (nth l i)∧y1b l (fun y0=>y34 y0) k n v=some i)∨((∀ i:Int,v≤i→i<l.length→vok (nth l i))∧y1b l (fun y0=>y34 y0) k n v=k))
 | 0,v,h0,h1,h2=>by omega
 | n+1,v,h0,h1,h2=>by
  rw[y1b]
  by_cases h:v<l.length
  ·rw[if_pos (decide_eq_true h),yt ⟨h0,h⟩]
   have e:(⟨((nth l v).fName),(⟨(((nth l v).fFrom).fModule),(((nth l v).fFrom).fPart),(((nth l v).fFrom).fPort)⟩:Sapi_Ref),((nth l v).fBag),((nth l v).fMax),((nth l v).fTo)⟩:zh)=nth l v:=rfl
   rw[e,vl1_eq,oB]
   by_cases hv:vok (nth l v)
   ·rw[if_neg (by simpa using hv),yz (x:=v+1) (by omega)]
    rcases yd2 hl n (v+1) (by omega) (by omega) (by omega) (k:=k) with⟨i,i1,i2,i3,i4⟩ | ⟨i1,i2⟩
    ·exact .inl ⟨i,by omega,i2,i3,i4⟩
    ·refine .inr ⟨fun i j1 j2=>?_,i2⟩
     by_cases e:i=v
     ·rw[e];exact hv
     ·exact i1 i (by omega) j2
   ·rw[if_pos (by simpa using hv)]
    exact .inl ⟨v,Int.le_refl _,h,hv,rfl⟩
  ·rw[if_neg (by simpa using h)]
   exact .inr ⟨fun i h1 h2=>by omega,rfl⟩
def VOK(c:Cf):Prop:=∀ v∈c.fVLs,vok v
theorem vls_eq{c:Cf}(hl:c.fVLs.length<1000000000):∃ b,y22 c.fVLs (fun y0=>y34 y0)=some b∧(b=false↔VOK c):=by
 unfold y22 y3j
 have hF:=yR
 generalize yx=N at hF ⊢
 refine y42 (P:=fun o=>∃ b,(o.bind fun x=>some (decide (x≥0)))=some b∧(b=false↔VOK c)) fun k hk=>?_
 rcases yd2 (k:=k) hl N 0 (by omega) (by omega) (by omega) with⟨i,i1,i2,i3,i4⟩ | ⟨i1,i2⟩
 ·refine⟨true,by rw[i4];simp[i1],?_⟩
  simp only[Bool.true_eq_false,false_iff]
  exact fun h=>i3 (h _ (yX i1 i2))
 ·refine⟨false,by rw[i2,hk];rfl,?_⟩
  simp only[true_iff]
  intro v hv
  obtain⟨i,j0,j1,rfl⟩:=y5L hv
  exact i1 i j0 j1
theorem VOK.vls{c:Cf}(h:VOK c):VLs c:=fun v hv=>by
 obtain⟨h1,h2,h3⟩:=h v hv
 refine⟨?_,h2,h3⟩
 unfold gapL at h1
 simp only[List.mem_cons,List.not_mem_nil,or_false] at h1
 omega
/-! ### the whole computation -/
theorem VA.pi{c:Cf}{net:Int}{rs:List (List Hop)}(hS:Small c)(hv:VA c net rs){p:Pl}(hp:p∈PS rs):PI c p:=by
 obtain⟨r,hr,h,hh,rfl⟩:=(y77 rs p).1 hp
 obtain⟨i,i0,i1,rfl⟩:=y5L hh
 obtain⟨_,_,_,j0,j1,_,_,_,_,jf1,jf2,jj⟩:=(hv.each r hr).cond i i0 i1
 have hA:=(fA_eq hS (nth r i).fQ).2
 have hB:=(fB_eq hS (nth r i).fQ).2
 refine⟨j0,j1,?_,?_⟩
 ·have a1:=jf1.1;have a2:=jf2.1
  show 0≤(nth r i).fNode
  rcases jj with⟨e,_⟩ | ⟨_,e⟩ <;> omega
 ·show(nth r i).fNode<nN c
  rcases jj with⟨e,_⟩ | ⟨_,e⟩ <;> omega
def w0:WS:=⟨[],0,[],[]⟩
theorem ygI{c:Cf}{rs:List (List Hop)}:∀(l:List Pl) (s t:WS),ya0 c rs l s = .inl t→t.out.map pbk=s.out.map pbk++l∧t.out.length=s.out.length+l.length∧(s.e=0→t.e=0)
 | [],s,t,h=>by injection h with h;subst h;simp
 | p::l,s,t,h=>by
  rw[ya0] at h
  split at h
  ·cases h
  ·rename_i he
   obtain⟨h1,h2,h3⟩:=ygI l _ t h
   have e:(wst c rs s p).out=s.out++[(PO c rs s.bu s.de s.e p).1]:=rfl
   rw[e] at h1 h2
   refine⟨?_,?_,fun _=>h3 (by simpa using he)⟩
   ·rw[h1,List.map_append,List.append_assoc];rfl
   ·rw[h2];simp;omega
inductive CP (c:Cf) (net:Int) (rs:List (List Hop)):S39×Int→Prop
 | route:¬VA c net rs→CP c net rs (⟨[],[]⟩,310)
 | vl:VA c net rs→¬VOK c→CP c net rs (⟨[],[]⟩,350)
 | cycle (s:List Pl):VA c net rs→VOK c→y9v rs s→CP c net rs (⟨[],[]⟩,351)
 | err (l:List Pl) (e:Int):VA c net rs→VOK c→l.Perm (PS rs)→y2j rs l→ya0 c rs l w0 = .inr e→e≠0→CP c net rs (⟨[],[]⟩,e)
 | ok (l:List Pl) (t:WS):VA c net rs→VOK c→l.Perm (PS rs)→y2j rs l→ya0 c rs l w0 = .inl t→CP c net rs (⟨yV y2b t.out,EN c rs (yV y2b t.out)⟩,0)
theorem ygJ{c:Cf}{rs:List (List Hop)}:∀(l:List Pl) (s:WS) (e:Int),ya0 c rs l s = .inr e→e≠0
 | [],s,e,h=>by cases h
 | p::l,s,e,h=>by
  rw[ya0] at h
  split at h
  ·rename_i he
   injection h with h;subst h;exact he
  ·exact ygJ l _ e h
theorem yik{c:Cf}{net:Int}{rs:List (List Hop)}(hf:FewP c rs):∃ x,y6g c net rs=some x∧CP c net rs x:=by
 have hS:=hf.small
 have hr1:∀ r∈rs,r.length<1000000000:=fun r hr=>by have:=hf.e r hr;omega
 have hrs:=hf.r
 obtain⟨b,q1,q2⟩:=ye2 hS (net:=net) (rs:=rs) hr1 (by omega)
 unfold y6g
 rw[q1,oB]
 cases b with
 | false=>
  rw[if_pos (by rfl)]
  exact⟨_,rfl,.route fun h=>by have:=q2.2 h;cases this⟩
 | true=>
 have hv:=q2.1 rfl
 rw[if_neg (by simp)]
 obtain⟨b,r1,r2⟩:=vls_eq (c:=c) (by have:=hf.v;omega)
 rw[r1,oB]
 cases b with
 | true=>
  rw[if_pos rfl]
  exact⟨_,rfl,.vl hv fun h=>by have:=r2.2 h;cases this⟩
 | false=>
 have hvo:=r2.1 rfl
 rw[if_neg (by simp)]
 have hps:=ycV hf.e
 have h3:rs.length*40≤20*40:=Nat.mul_le_mul_right _ hrs
 rcases ygq (rs:=rs) (fun r h=>by have:=hf.e r h;omega) (by omega) with⟨l,e1,e2,e3⟩ | ⟨s,e1,e2⟩
 ·rw[e3,oB,if_neg (by simp)]
  have hlen:=e1.length_eq
  refine y25 (P:=fun o=>∃ x,o=some x∧CP c net rs x) fun k hk=>?_
  have hL:=yeN (l:=(l,0)) (k:=k) (rs:=rs) hvo.vls hv.len hr1 hv.most hf.l hS (fun p hp=>hv.pi hS (e1.subset hp)) (by show l.length≤_;omega) yx 0 w0 (by omega) (by simp) (by rw[yR];show((l.length:Nat):Int)<_;omega) rfl
  simp only[Int.toNat_zero,List.drop_zero] at hL
  rw[show(0:Int)=w0.e from rfl,show([]:List PB)=w0.out from rfl,show([]:BM)=w0.bu from rfl,show([]:DM)=w0.de from rfl]
  rw[show y2Q (l,w0.e) c rs k yx w0.e w0.e w0.out w0.bu w0.de=y2Q (l,0) c rs k yx 0 w0.e w0.out w0.bu w0.de from rfl,hL]
  cases hrun:ya0 c rs l w0 with
  | inr e=>exact⟨_,rfl,.err l e hv hvo e1 e2 hrun (ygJ _ _ _ hrun)⟩
  | inl t=>
   obtain⟨o1,o2,o3⟩:=ygI l w0 t hrun
   have hol:t.out.length=l.length:=by rw[o2];simp[w0]
   have hmap:t.out.map pbk=l:=by rw[o1];simp[w0]
   simp only
   rw[hk,(yiX (by rw[hmap];exact e1.nodup_iff.2 (y8u rs)) (by omega)).1,oB]
   rw[yhQ (net:=net) hS hv.each (by omega) (by rw[y60];omega),oB]
   exact⟨_,rfl,.ok l t hv hvo e1 e2 hrun⟩
 ·rw[e2,oB,if_pos (by simp)]
  exact⟨_,rfl,.cycle s hv hvo e1⟩
end Go.Proofs.YthjnhebofpebpaaGreat
namespace Go.Proofs.YthjnhebofpebpaaGreat
open Go Go.RowKit Sep
/-! ### jitters -/
def y32(c:Cf)(n:Int):Int:=if n-nM c≥0 then(nth c.fS (n-nM c)).fDelay else 0
def slw(c:Cf)(k:Int):Int:=(nth c.fK k).fSlow
theorem yeO{c:Cf}(hS:Small c){n:Int}(h0:0≤n)(h1:n<nN c):y4G c n=some (y32 c n):=by
 have:=hS.m;have:=hS.s
 unfold y4G y32 nM
 unfold nN at h1
 rw[yz (by omega)]
 by_cases h:n-(c.fM.length:Int)≥0
 ·rw[if_pos (by simpa using h),if_pos h,yt ⟨by omega,by omega⟩]
 ·rw[if_neg (by simpa using h),if_neg h]
structure HV (c:Cf) (h:Hop):Prop where
 l0:0≤h.fQ
 l1:h.fQ<c.fK.length
 n0:0≤h.fNode
 n1:h.fNode<nN c
 x0:0≤h.fNext
 x1:h.fNext<nN c
 s0:1≤slw c h.fQ
 s1:slw c h.fQ≤16
 d0:0≤y32 c h.fNode
 d1:y32 c h.fNode≤1000
theorem y9u.lat{c:Cf}{net n:Int}(h:y9u c net n):0≤n∧0≤y32 c n∧y32 c n≤1000:=by
 obtain⟨h0,h⟩:=h
 refine⟨h0,?_⟩
 unfold y32
 rcases h with h | ⟨_,h1,h2,_⟩
 ·rw[if_neg (by omega)];omega
 ·split
  ·exact⟨h1,h2⟩
  ·omega
theorem VR.hop{c:Cf}{net:Int}{r:List Hop}(hS:Small c)(h:VR c net r){x:Hop}(hx:x∈r):HV c x:=by
 obtain⟨i,i0,i1,rfl⟩:=y5L hx
 obtain⟨_,_,_,l0,l1,_,s0,s1,_,fa,fb,ho⟩:=h.cond i i0 i1
 obtain⟨_,_,a2⟩:=fA_eq hS (nth r i).fQ
 obtain⟨_,_,b2⟩:=fB_eq hS (nth r i).fQ
 have ha:=fa.lat;have hb:=fb.lat
 rcases ho with⟨e1,e2⟩ | ⟨e1,e2⟩
 ·rw[e1] at ha a2;rw[e2] at hb b2
  exact⟨l0,l1,ha.1,a2,hb.1,b2,s0,s1,ha.2.1,ha.2.2⟩
 ·rw[e1] at ha a2;rw[e2] at hb b2
  exact⟨l0,l1,hb.1,b2,ha.1,a2,s0,s1,hb.2.1,hb.2.2⟩
def jst(c:Cf)(D:Pl→Int)(mp:List (Int×Int))(h:Hop):List (Int×Int):=yF mp h.fNext (yg mp h.fNode 0+D (pk h)-y32 c h.fNode-slw c h.fQ)
def jn(c:Cf)(D:Pl→Int)(r:List Hop)(n:Int):Int:=yg (r.foldl (jst c D) []) n 0
theorem yc7{c:Cf}{D:Pl→Int}{n:Int}:∀(l:List Hop) (mp:List (Int×Int)),(∀ g∈l,g.fNext≠n)→yg (l.foldl (jst c D) mp) n 0=yg mp n 0
 | [],mp,_=>rfl
 | g::l,mp,h=>by
  rw[List.foldl_cons,yc7 l _ fun x hx=>h x (List.mem_cons_of_mem _ hx)]
  unfold jst;rw[y3l,if_neg fun e=>h g (by simp) e.symm]
theorem VR.rk{c:Cf}{net:Int}{r:List Hop}(h:VR c net r){v:Int}(v0:0≤v)(v1:v<r.length){q:Int}(q0:v≤q)(q1:q<r.length):(nth r q).fNext≠(nth r v).fNode:=by
 intro e
 obtain⟨h1,_⟩:=h.cond v v0 v1
 obtain⟨_,h2,_⟩:=h.cond q (by omega) q1
 rcases h1 with h1 | ⟨k,k0,k1,h1⟩
 ·exact h2 (.inl (e.trans h1))
 ·exact h2 (.inr ⟨k,k0,by omega,h1.trans e.symm⟩)
theorem yd3{r:List Hop}{v:Int}{g:Hop}(v0:0≤v)(hg:g∈r.drop v.toNat):∃ q:Int,v≤q∧q<r.length∧nth r q=g:=by
 obtain⟨i,hi,rfl⟩:=List.getElem_of_mem hg
 rw[List.length_drop] at hi
 refine⟨v.toNat+i,by omega,by omega,?_⟩
 rw[y83 ⟨by omega,by omega⟩,List.getElem_drop]
 simp only[show((v.toNat:Int)+i).toNat=v.toNat+i by omega]
theorem ygK{c:Cf}{D:Pl→Int}{r:List Hop}{n:Int}(v:Nat):jn c D r n=yg ((r.drop v).foldl (jst c D) ((r.take v).foldl (jst c D) [])) n 0:=by
 unfold jn;rw[← List.foldl_append,List.take_append_drop]
theorem VR.jn_take{c:Cf}{net:Int}{r:List Hop}(h:VR c net r)(D:Pl→Int){v:Int}(v0:0≤v)(v1:v<r.length):yg ((r.take v.toNat).foldl (jst c D) []) (nth r v).fNode 0=jn c D r (nth r v).fNode:=by
 rw[ygK v.toNat]
 symm
 refine yc7 _ _ fun g hg=>?_
 obtain⟨q,q0,q1,rfl⟩:=yd3 v0 hg
 exact h.rk v0 v1 q0 q1
theorem VR.jn_next{c:Cf}{net:Int}{r:List Hop}(h:VR c net r)(D:Pl→Int){g:Hop}(hg:g∈r):jn c D r g.fNext=jn c D r g.fNode+D (pk g)-y32 c g.fNode-slw c g.fQ:=by
 obtain⟨v,v0,v1,rfl⟩:=y5L hg
 rw[← h.jn_take D v0 v1]
 rw[ygK v.toNat,y48 v0 v1,List.foldl_cons,yc7]
 ·unfold jst;rw[y3l,if_pos rfl]
 ·intro x hx e
  obtain⟨q,q0,q1,rfl⟩:=yd3 (v:=v+1) (by omega) (by rw[show(v+1).toNat=v.toNat+1 by omega];exact hx)
  obtain⟨_,h2,_⟩:=h.cond q (by omega) q1
  exact h2 (.inr ⟨v,v0,by omega,e.symm⟩)
theorem jn_zero{c:Cf}{D:Pl→Int}{r:List Hop}{n:Int}(h:∀ g∈r,g.fNext≠n):jn c D r n=0:=by
 unfold jn;rw[yc7 _ _ h];rfl
theorem VR.start{c:Cf}{net:Int}{r:List Hop}(h:VR c net r):∀ g∈r,g.fNext≠(nth r 0).fNode:=by
 intro g hg e
 obtain⟨v,v0,v1,rfl⟩:=y5L hg
 exact(h.cond v v0 v1).2.1 (.inl e)
theorem VR.jn_start{c:Cf}{net:Int}{r:List Hop}(h:VR c net r)(D:Pl→Int):jn c D r (nth r 0).fNode=0:=jn_zero h.start
theorem VR.ind{c:Cf}{net:Int}{r:List Hop}(h:VR c net r){P:Hop→Prop}(hb:∀ x∈r,x.fNode=(nth r 0).fNode→P x)(hs:∀ g∈r,∀ x∈r,g.fNext=x.fNode→P g→P x):∀ x∈r,P x:=by
 have key:∀ n:Nat,∀ v:Int,0≤v→v<r.length→v.toNat<n→P (nth r v):=by
  intro n
  induction n with
  | zero=>intro v _ _ h;omega
  | succ n ih=>
   intro v v0 v1 hv
   rcases(h.cond v v0 v1).1 with e | ⟨q,q0,q1,e⟩
   ·exact hb _ (yX v0 v1) e
   ·exact hs _ (yX q0 (by omega)) _ (yX v0 v1) e (ih q q0 (by omega) (by omega))
 intro x hx
 obtain⟨v,v0,v1,rfl⟩:=y5L hx
 exact key (v.toNat+1) v v0 v1 (by omega)
theorem VR.from{c:Cf}{net:Int}{r:List Hop}(h:VR c net r){x:Hop}(hx:x∈r):x.fNode=(nth r 0).fNode∨∃ g∈r,g.fNext=x.fNode:=by
 obtain⟨v,v0,v1,rfl⟩:=y5L hx
 rcases(h.cond v v0 v1).1 with e | ⟨q,q0,q1,e⟩
 ·exact .inl e
 ·exact .inr ⟨_,yX q0 (by omega),e⟩
theorem yfE{c:Cf}{D:Pl→Int}(hS:Small c){M:Int}(hM:0≤M):∀(l:List Hop) (mp:List (Int×Int)) (B:Int),(∀ h∈l,HV c h ∧ -M≤D (pk h)∧D (pk h)≤M)→(∀ n,-B≤yg mp n 0∧yg mp n 0≤B)→∀ n,-(B+l.length*(M+1016))≤yg (l.foldl (jst c D) mp) n 0∧yg (l.foldl (jst c D) mp) n 0≤B+l.length*(M+1016)
 | [],mp,B,_,h,n=>by have:=h n;simpa using this
 | g::l,mp,B,hh,h,n=>by
  have hg:=hh g (by simp)
  have:=yfE hS hM l (jst c D mp g) (B+(M+1016)) (fun x hx=>hh x (List.mem_cons_of_mem _ hx)) (fun n=>by
   unfold jst;rw[y3l]
   have h1:=h n;have h2:=h g.fNode
   have a:=hg.1.s0;have b:=hg.1.s1;have d:=hg.1.d0;have e:=hg.1.d1
   split <;> omega) n
  rw[List.foldl_cons,List.length_cons]
  have e:((l.length+1:Nat):Int)*(M+1016)=l.length*(M+1016)+(M+1016):=by push_cast;rw[Int.add_mul];omega
  omega
theorem ygL{c:Cf}{net:Int}{D:Pl→Int}{r:List Hop}(hS:Small c)(hv:VR c net r){M:Int}(hM:0≤M)(hD:∀ h∈r,-M≤D (pk h)∧D (pk h)≤M)(v:Nat)(n:Int) : -(32*(M+1016))≤yg ((r.take v).foldl (jst c D) []) n 0∧yg ((r.take v).foldl (jst c D) []) n 0≤32*(M+1016):=by
 have h:=yfE (c:=c) (D:=D) hS hM (r.take v) [] 0 (fun h hh=>⟨hv.hop hS (List.mem_of_mem_take hh),hD h (List.mem_of_mem_take hh)⟩) (fun n=>by simp[yg]) n
 have hl:(r.take v).length≤32:=by have:=hv.len;rw[List.length_take];omega
 have:((r.take v).length:Int)*(M+1016)≤32*(M+1016):=Int.mul_le_mul_of_nonneg_right (by omega) (by omega)
 omega
theorem i3{a b d s M:Int}(h1 : -(32*(M+1016))≤a∧a≤32*(M+1016))(h2 : -M≤b∧b≤M)(h3:0≤d∧d≤1000)(h4:1≤s∧s≤16)(h5:M≤1099511627776):i64 (i64 (i64 (a+b)-d)-s)=a+b-d-s:=by
 rw[yz (x:=a+b) (by omega),yz (x:=a+b-d) (by omega),yz (by omega)]
theorem yd4{c:Cf}{net:Int}{r:List Hop}{de:DM}{k:List Int→Option (List Int)}(hS:Small c)(hv:VR c net r){M:Int}(hM:0≤M)(hM1:M≤1099511627776)(hD:∀ h∈r,-M≤yg de (pk h) 0∧yg de (pk h) 0≤M):∀(n:Nat) (v:Int),0≤v→v≤r.length→r.length<n+v→
  y3a r c de k n ((r.take v.toNat).map fun h=>jn c (fun q=>yg de q 0) r h.fNode) v ((r.take v.toNat).foldl (jst c fun q=>yg de q 0) [])=k (r.map fun h=>jn c (fun q=>yg de q 0) r h.fNode)
 | 0,v,h0,h1,h2=>by omega
 | n+1,v,h0,h1,h2=>by
  have hr:=hv.len
  rw[y3a]
  by_cases h:v<r.length
  ·have hx:=hv.hop hS (yX h0 h)
   have hb:=ygL (D:=fun q=>yg de q 0) hS hv hM hD v.toNat (nth r v).fNode
   have hd:=hD _ (yX h0 h)
   have s0:=hx.s0;have s1:=hx.s1;have d0:=hx.d0;have d1:=hx.d1
   rw[if_pos (decide_eq_true h),yt ⟨h0,h⟩,yt,yeO hS hx.n0 hx.n1]
   ·simp only[oB]
    rw[yt ⟨hx.l0,hx.l1⟩,yz (x:=v+1) (by omega)]
    have e1:r.take (v+1).toNat=r.take v.toNat++[nth r v]:=by
     rw[show(v+1).toNat=v.toNat+1 by omega,List.take_succ_eq_append_getElem (by omega),y83 ⟨h0,h⟩]
    have:=yd4 (k:=k) (de:=de) hS hv hM hM1 hD n (v+1) (by omega) (by omega) (by omega)
    rw[e1,List.map_append,List.foldl_append] at this
    rw[← this]
    congr 1
    ·rw[hv.jn_take _ h0 h];rfl
    ·show yF _ _ _=yF _ _ _
     congr 1
     have e:(⟨(nth r v).fNode,(nth r v).fQ⟩:z8)=pk (nth r v):=rfl
     unfold slw at s0 s1 ⊢
     rw[e]
     exact i3 hb hd ⟨d0,d1⟩ ⟨s0,s1⟩ hM1
   ·rw[List.length_append,List.length_map,List.length_take]
    simp only[List.length_cons,List.length_nil]
    omega
  ·rw[if_neg (by simpa using h),List.take_of_length_le (by omega)]
theorem yil{c:Cf}{net:Int}{r:List Hop}{de:DM}(hS:Small c)(hv:VR c net r)(hD:∀ h∈r,-1099511627776≤yg de (pk h) 0∧yg de (pk h) 0≤1099511627776):
  y4H c r de=some (r.map fun h=>jn c (fun q=>yg de q 0) r h.fNode):=by
 unfold y4H
 have hF:=yR
 generalize yx=N at hF ⊢
 refine y25 (P:=fun o=>o=some (r.map fun h=>jn c (fun q=>yg de q 0) r h.fNode)) fun k hk=>?_
 have hr:=hv.len
 have:=yd4 (k:=k) (M:=1099511627776) hS hv (by omega) (by omega) hD N 0 (by omega) (by omega) (by omega)
 simp only[Int.toNat_zero,List.take_zero,List.map_nil,List.foldl_nil] at this
 rw[this,hk]
theorem VR.jn_le{c c':Cf}{net:Int}{r:List Hop}(h:VR c net r)(h':VR c' net r)(hl:∀ g∈r,y32 c g.fNode=y32 c' g.fNode∧slw c g.fQ=slw c' g.fQ){D D':Pl→Int}{S:Pl→Prop}(hS:∀ x∈r,S (pk x)→∀ g∈r,g.fNext=x.fNode→S (pk g)∧D (pk g)≤D' (pk g)):∀ x∈r,S (pk x)→jn c D r x.fNode≤jn c' D' r x.fNode:=by
 refine h.ind (P:=fun x=>S (pk x)→jn c D r x.fNode≤jn c' D' r x.fNode) (fun x hx e _=>?_) (fun g hg x hx e ih hs=>?_)
 ·rw[e,h.jn_start,h'.jn_start];omega
 ·obtain⟨h1,h2⟩:=hS x hx hs g hg e
  have:=ih h1
  rw[← e,h.jn_next D hg,h'.jn_next D' hg,(hl g hg).1,(hl g hg).2]
  omega
theorem VR.jn_eq{c:Cf}{net:Int}{r:List Hop}(h:VR c net r){D D':Pl→Int}{S:Pl→Prop}(hS:∀ x∈r,S (pk x)→∀ g∈r,g.fNext=x.fNode→S (pk g)∧D (pk g)=D' (pk g)):∀ x∈r,S (pk x)→jn c D r x.fNode=jn c D' r x.fNode:=by
 intro x hx hs
 have h1:=h.jn_le h (fun g _=>⟨rfl,rfl⟩) (D:=D) (D':=D') (S:=S) (fun x hx hs g hg e=>⟨(hS x hx hs g hg e).1,by rw[(hS x hx hs g hg e).2];omega⟩) x hx hs
 have h2:=h.jn_le h (fun g _=>⟨rfl,rfl⟩) (D:=D') (D':=D) (S:=S) (fun x hx hs g hg e=>⟨(hS x hx hs g hg e).1,by rw[(hS x hx hs g hg e).2];omega⟩) x hx hs
 omega
end Go.Proofs.YthjnhebofpebpaaGreat
namespace Go.Proofs.YthjnhebofpebpaaGreat
open Go Go.RowKit Sep
/-! ### sums -/
def y4n:List Int→Int
 | []=>0
 | x::l=>x+y4n l
theorem yiZ{l l':List Int}(h:l.Perm l'):y4n l=y4n l':=by
 induction h with
 | nil=>rfl
 | cons x _ ih=>simp only[y4n,ih]
 | swap x y l=>simp only[y4n];omega
 | trans _ _ a b=>exact a.trans b
theorem yal{α:Type}{f g:α→Int}:∀ {l:List α},(∀ x∈l,f x≤g x)→y4n (l.map f)≤y4n (l.map g)
 | [],_=>by simp[y4n]
 | x::l,h=>by
  have:=yal (l:=l) fun y hy=>h y (List.mem_cons_of_mem _ hy)
  have:=h x (by simp)
  simp only[List.map_cons,y4n];omega
theorem ydM{α:Type}{f:α→Int}{p:α→Bool}:∀ {l:List α},(∀ x∈l,p x=false→f x=0)→y4n ((l.filter p).map f)=y4n (l.map f)
 | [],_=>rfl
 | x::l,h=>by
  have ih:=ydM (f:=f) (p:=p) (l:=l) fun y hy=>h y (List.mem_cons_of_mem _ hy)
  rw[List.filter_cons]
  split
  ·simp only[List.map_cons,y4n,ih]
  ·rename_i hp
   simp only[List.map_cons,y4n,ih,h x (by simp) (by simpa using hp)];omega
theorem yb9{α:Type}{f:α→Int}{l:List α}(h:∀ x∈l,0≤f x):0≤y4n (l.map f):=by
 have:=yal (f:=fun _=>0) (g:=f) h
 have e:∀ l:List α,y4n (l.map fun _=>0)=0:=by
  intro l;induction l with
  | nil=>rfl
  | cons x l ih=>simp only[List.map_cons,y4n,ih];rfl
 rw[e] at this;exact this
theorem yc8{α:Type}{f:α→Int}{M:Int}:∀ {l:List α},(∀ x∈l,f x≤M)→y4n (l.map f)≤l.length*M
 | [],_=>by simp[y4n]
 | x::l,h=>by
  have:=yc8 (f:=f) (l:=l) fun y hy=>h y (List.mem_cons_of_mem _ hy)
  have:=h x (by simp)
  simp only[List.map_cons,y4n,List.length_cons]
  have e:((l.length+1:Nat):Int)*M=l.length*M+M:=by push_cast;rw[Int.add_mul];omega
  omega
theorem ygM{α:Type}{f:α→Int}{l:List α}(h:∀ x∈l,0≤f x){x:α}(hx:x∈l):f x≤y4n (l.map f):=by
 induction l with
 | nil=>simp at hx
 | cons y l ih=>
  have h1:=yb9 (f:=f) (l:=l) fun z hz=>h z (List.mem_cons_of_mem _ hz)
  have h2:=h y (by simp)
  simp only[List.map_cons,y4n]
  rcases List.mem_cons.1 hx with rfl | hx
  ·omega
  ·have:=ih (fun z hz=>h z (List.mem_cons_of_mem _ hz)) hx;omega
def y8v:List Int→Int
 | []=>0
 | x::l=>max x (y8v l)
theorem yfF(l:List Int)(x:Int)(hx:0≤x):y8v (l++[x])=max (y8v l) x:=by
 induction l with
 | nil=>simp only[List.nil_append,y8v];omega
 | cons y l ih=>simp only[List.cons_append,y8v,ih];omega
theorem y8j:∀ l:List Int,0≤y8v l
 | []=>by simp[y8v]
 | x::l=>by have:=y8j l;simp only[y8v];omega
theorem ye9{l:List Int}{x:Int}(h:x∈l):x≤y8v l:=by
 induction l with
 | nil=>simp at h
 | cons y l ih=>
  simp only[y8v]
  rcases List.mem_cons.1 h with rfl | h
  ·omega
  ·have:=ih h;omega
theorem yds{l:List Int}{M:Int}(h0:0≤M)(h:∀ x∈l,x≤M):y8v l≤M:=by
 induction l with
 | nil=>simpa [y8v] using h0
 | cons y l ih=>
  have:=ih fun x hx=>h x (List.mem_cons_of_mem _ hx)
  have:=h y (by simp)
  simp only[y8v];omega
theorem y6p{x:Int}:∀ {n:Nat} {v:Int},x∈y2Z v n↔v≤x∧x<v+n
 | 0,v=>by simp only[y2Z,List.not_mem_nil,false_iff];omega
 | n+1,v=>by
  simp only[y2Z,List.mem_cons,y6p (n:=n)]
  constructor
  ·rintro(rfl | h) <;> omega
  ·intro h
   by_cases e:x=v
   ·exact .inl e
   ·exact .inr (by omega)
theorem yeP:∀(n:Nat) (v:Int),(y2Z v n).Nodup
 | 0,_=>by simp[y2Z]
 | n+1,v=>by
  simp only[y2Z,List.nodup_cons]
  exact⟨fun h=>by have:=y6p.1 h;omega,yeP n _⟩
theorem yc9:∀(n:Nat) (v:Int),(y2Z v n).length=n
 | 0,_=>rfl
 | n+1,v=>by simp only[y2Z,List.length_cons,yc9 n]
theorem yfG:∀(n:Nat) (v:Int),y2Z v (n+1)=y2Z v n++[v+n]
 | 0,v=>by simp[y2Z]
 | n+1,v=>by
  rw[y2Z,yfG n (v+1)]
  simp only[y2Z,List.cons_append]
  rw[show v+1+(n:Int)=v+((n+1:Nat):Int) by push_cast;omega]
/-! ### what comes to an output port -/
structure Fw where
 k:Int
 v:Int
 j:Int
def bgV(c:Cf)(v:Int):Int:=(nth c.fVLs v).fBag
def byt(c:Cf)(x:Fw)(t:Int):Int:=mx c x.v*((t+x.j) / bgV c x.v+1)
def fwL(r:List Hop)(p:Pl):Int:=if (y3Y r p.fNode).2 then(y3Y r p.fNode).1.fQ else -1
def y8d(c:Cf)(rs:List (List Hop))(D:Pl→Int)(p:Pl)(v:Int):Fw:=⟨fwL (nth rs v) p,v,jn c D (nth rs v) p.fNode⟩
def vls(rs:List (List Hop))(p:Pl)(n:Nat):List Int:=(y2Z 0 n).filter fun v=>uses p (nth rs v)
def fws(c:Cf)(rs:List (List Hop))(D:Pl→Int)(p:Pl):List Fw:=(vls rs p rs.length).map (y8d c rs D p)
def y8w(c:Cf)(l:List Fw)(t L:Int):Int:=y4n ((l.filter fun x=>decide (x.k=L)).map fun x=>byt c x t)
def y9n(c:Cf)(l:List Fw)(L:Int):Int:=y8v ((l.filter fun x=>decide (x.k=L)).map fun x=>mx c x.v)
def y7L(c:Cf)(l:List Fw)(t L:Int):Int:=if L<0 then y8w c l t L else min (y8w c l t L) (y9n c l L+t / max 1 (slw c L))
def lks(c:Cf):List Int:=y2Z (-1) (c.fK.length+1)
def Arr(c:Cf)(l:List Fw)(t:Int):Int:=y4n ((lks c).map (y7L c l t))
def y8l(c:Cf)(l:List Fw):Int:=y8v (l.map fun x=>mx c x.v)
structure FwOK (c:Cf) (l:List Fw):Prop where
 len:l.length≤16
 v0:∀ x∈l,0≤x.v∧x.v<c.fVLs.length
 k0:∀ x∈l,-1≤x.k∧x.k<c.fK.length
 j0:∀ x∈l,0≤x.j∧x.j≤4294967296
theorem VLs.mx{c:Cf}(h:VLs c){v:Int}(h0:0≤v)(h1:v<c.fVLs.length):1≤mx c v∧mx c v≤72∧100≤bgV c v∧bgV c v≤12800:=by
 obtain⟨⟨a,b⟩,d,e⟩:=h _ (yX h0 h1)
 exact⟨d,e,a,b⟩
theorem y7M{c:Cf}(hv:VLs c){l:List Fw}(hl:FwOK c l){x:Fw}(hx:x∈l){t:Int}(h0:0≤t)(h1:t≤4294967296):1≤byt c x t∧byt c x t≤1099511627776:=by
 obtain⟨a,b,d,e⟩:=hv.mx (hl.v0 x hx).1 (hl.v0 x hx).2
 have hj:=hl.j0 x hx
 unfold byt
 have h2:0≤(t+x.j) / bgV c x.v:=Int.ediv_nonneg (by omega) (by omega)
 have h3:(t+x.j) / bgV c x.v≤t+x.j:=Int.ediv_le_self _ (by omega)
 constructor
 ·have:=Int.mul_le_mul_of_nonneg_right a (show 0≤(t+x.j) / bgV c x.v+1 by omega);omega
 ·have:=Int.mul_le_mul_of_nonneg_right b (show 0≤(t+x.j) / bgV c x.v+1 by omega);omega
theorem yd5{a b:Int}(h:0≤a):a.tdiv b=a / b:=Int.tdiv_eq_ediv_of_nonneg h
def clo(c:Cf)(x:Fw):Int→Option Int:=fun t=>y1h t (nth c.fVLs x.v) x.j
theorem clo_eq{c:Cf}(hv:VLs c){l:List Fw}(hl:FwOK c l){x:Fw}(hx:x∈l){t:Int}(h0:0≤t)(h1:t≤4294967296):clo c x t=some (byt c x t):=by
 have hb:=y7M hv hl hx h0 h1
 obtain⟨a,b,d,e⟩:=hv.mx (hl.v0 x hx).1 (hl.v0 x hx).2
 have hj:=hl.j0 x hx
 unfold clo y1h y6X
 unfold byt mx bgV at *
 have h2:0≤(t+x.j) / (nth c.fVLs x.v).fBag:=Int.ediv_nonneg (by omega) (by omega)
 have h3:(t+x.j) / (nth c.fVLs x.v).fBag≤t+x.j:=Int.ediv_le_self _ (by omega)
 rw[yt (by omega),yz (x:=t+x.j) (by omega),yd5 (by omega),yz (x:=(t+x.j) / (nth c.fVLs x.v).fBag) (by omega),yz (x:=(t+x.j) / (nth c.fVLs x.v).fBag+1) (by omega),yz (by omega)]
 rfl
theorem yhR{α:Type}{t M:Int}{F:α→Int→Option Int}{g:α→Int}:∀ {l:List α} {s:Int},(∀ x∈l,F x t=some (g x)∧0≤g x∧g x≤M)→0≤s→s+l.length*M≤4611686018427387904→y7I (l.map F) t s=some (s+y4n (l.map g))
 | [],s,_,_,_=>by simp[y7I,y4n]
 | x::l,s,h,h0,h1=>by
  obtain⟨e,e0,e1⟩:=h x (by simp)
  have hM:0≤(l.length:Int)*M:=Int.mul_nonneg (by omega) (by omega)
  have e2:(((x::l).length:Nat):Int)*M=l.length*M+M:=by rw[List.length_cons];push_cast;rw[Int.add_mul];omega
  rw[List.map_cons,y7I,e,oB,yz (by omega),yhR (l:=l) (fun y hy=>h y (List.mem_cons_of_mem _ hy)) (by omega) (by omega)]
  simp only[List.map_cons,y4n]
  congr 1;omega
theorem yhS{α:Type}{t M:Int}{F:α→Int→Option Int}{g:α→Int}{l:List α}(h:∀ x∈l,F x t=some (g x)∧0≤g x∧g x≤M)(h1:l.length*M≤4611686018427387904)(h2:l.length≤1000000):y29 (l.map F) t=some (y4n (l.map g)):=by
 unfold y29
 rw[yt (by rw[List.length_map];omega),yhR h (by omega) (by omega)]
 simp
theorem yeQ{c:Cf}(hv:VLs c){l:List Fw}(hl:FwOK c l){t:Int}(h0:0≤t)(h1:t≤4294967296)(L:Int):0≤y8w c l t L∧y8w c l t L≤17592186044416:=by
 unfold y8w
 constructor
 ·exact yb9 fun x hx=>by have:=(y7M hv hl (List.mem_filter.1 hx).1 h0 h1).1;omega
 ·have h:=yc8 (f:=fun x=>byt c x t) (M:=1099511627776) (l:=l.filter fun x=>decide (x.k=L)) fun x hx=>(y7M hv hl (List.mem_filter.1 hx).1 h0 h1).2
  have h2:(l.filter fun x=>decide (x.k=L)).length≤l.length:=List.length_filter_le _ _
  have:=hl.len
  omega
theorem yeR{c:Cf}(hv:VLs c){l:List Fw}(hl:FwOK c l)(L:Int):0≤y9n c l L∧y9n c l L≤72:=by
 unfold y9n
 refine⟨y8j _,yds (by omega) fun x hx=>?_⟩
 obtain⟨y,hy,rfl⟩:=List.mem_map.1 hx
 have hy:=(List.mem_filter.1 hy).1
 exact(hv.mx (hl.v0 y hy).1 (hl.v0 y hy).2).2.1
theorem grp_eq{c:Cf}(hv:VLs c){l:List Fw}(hl:FwOK c l){wide:List (Int×Int)}{L:Int}(hw:yg wide L 0=y9n c l L)(hL:L<c.fK.length)(hs:0≤L→1≤slw c L){t:Int}(h0:0≤t)(h1:t≤4294967296):
  y6s c wide (L,(l.filter fun x=>decide (x.k=L)).map (clo c)) t=some (y7L c l t L):=by
 show y4E t L ((l.filter fun x=>decide (x.k=L)).map (clo c)) wide c=_
 have hlen:(l.filter fun x=>decide (x.k=L)).length≤l.length:=List.length_filter_le _ _
 have hl16:=hl.len
 have e:=yhS (t:=t) (M:=1099511627776) (F:=clo c) (g:=fun x=>byt c x t) (l:=l.filter fun x=>decide (x.k=L)) (fun x hx=>by
  have hx:=(List.mem_filter.1 hx).1
  have:=y7M hv hl hx h0 h1
  exact⟨clo_eq hv hl hx h0 h1,by omega,this.2⟩) (by omega) (by omega)
 unfold y4E y7L
 by_cases h:L<0
 ·rw[if_pos (decide_eq_true h),if_pos h,e];rfl
 ·have hs:=hs (by omega)
  have hg:=yeQ hv hl h0 h1 L
  have hwb:=yeR hv hl L
  rw[if_neg (by simpa using h),if_neg h,e,oB,yt ⟨by omega,hL⟩]
  rw[show max 1 (slw c L)=slw c L by omega]
  unfold slw at *
  have hd:0≤t / (nth c.fK L).fSlow:=Int.ediv_nonneg h0 (by omega)
  have hd2:t / (nth c.fK L).fSlow≤t:=Int.ediv_le_self _ h0
  rw[yt (by omega),yd5 h0,yz (x:=t / (nth c.fK L).fSlow) (by omega),hw,yz (by omega)]
  rfl
theorem y9w{c:Cf}(hv:VLs c){l:List Fw}(hl:FwOK c l){L:Int}{t:Int}(h0:0≤t)(h1:t≤4294967296):0≤y7L c l t L∧y7L c l t L≤17592186044416:=by
 have hg:=yeQ hv hl h0 h1 L
 have hwb:=yeR hv hl L
 unfold y7L
 split
 ·exact hg
 ·have hd:0≤t / max 1 (slw c L):=Int.ediv_nonneg h0 (by omega)
  omega
theorem yj0{c:Cf}{l:List Fw}{t L:Int}(h:∀ x∈l,x.k≠L)(h0:0≤t):y7L c l t L=0:=by
 have e:(l.filter fun x=>decide (x.k=L))=[]:=by
  rw[List.filter_eq_nil_iff];intro x hx;simpa using h x hx
 unfold y7L y8w y9n
 rw[e]
 split
 ·rfl
 ·have hd:0≤t / max 1 (slw c L):=Int.ediv_nonneg h0 (by omega)
  show min 0 (0+_)=0
  omega
theorem yj1{c:Cf}(hS:Small c)(hv:VLs c){l:List Fw}(hl:FwOK c l){t:Int}(h0:0≤t)(h1:t≤4294967296):0≤Arr c l t∧Arr c l t≤18014398509481984:=by
 unfold Arr
 refine⟨yb9 fun L _=>(y9w hv hl h0 h1).1,?_⟩
 have h:=yc8 (f:=y7L c l t) (M:=17592186044416) (l:=lks c) fun L _=>(y9w hv hl h0 h1).2
 have e:(lks c).length=c.fK.length+1:=yc9 _ _
 have:=hS.l
 rw[e] at h
 omega
theorem byt_mono{c:Cf}(hv:VLs c){l:List Fw}(hl:FwOK c l){x:Fw}(hx:x∈l){t t':Int}(h:t≤t'):byt c x t≤byt c x t':=by
 obtain⟨a,b,d,e⟩:=hv.mx (hl.v0 x hx).1 (hl.v0 x hx).2
 unfold byt
 refine Int.mul_le_mul_of_nonneg_left ?_ (by omega)
 have:=Int.ediv_le_ediv (a:=t+x.j) (b:=t'+x.j) (c:=bgV c x.v) (by omega) (by omega)
 omega
theorem Arr_mono{c:Cf}(hv:VLs c){l:List Fw}(hl:FwOK c l){t t':Int}(h:t≤t'):Arr c l t≤Arr c l t':=by
 unfold Arr
 refine yal fun L _=>?_
 have hg:y8w c l t L≤y8w c l t' L:=by
  unfold y8w
  exact yal fun x hx=>byt_mono hv hl (List.mem_filter.1 hx).1 h
 have hd:=Int.ediv_le_ediv (a:=t) (b:=t') (c:=max 1 (slw c L)) (by omega) h
 unfold y7L
 split
 ·exact hg
 ·omega
end Go.Proofs.YthjnhebofpebpaaGreat
namespace Go.Proofs.YthjnhebofpebpaaGreat
open Go Go.RowKit Sep
def FL(c:Cf)(rs:List (List Hop))(D:Pl→Int)(p:Pl)(n:Nat):List Fw:=(vls rs p n).map (y8d c rs D p)
theorem FL_succ{c:Cf}{rs:List (List Hop)}{D:Pl→Int}{p:Pl}(n:Nat):FL c rs D p (n+1)=FL c rs D p n++(if uses p (nth rs n) then[y8d c rs D p n] else[]):=by
 unfold FL vls
 rw[yfG,List.filter_append,List.map_append,show(0:Int)+n=n by omega]
 by_cases h:uses p (nth rs n)=true <;> simp[h]
theorem FL_len{c:Cf}{rs:List (List Hop)}{D:Pl→Int}{p:Pl}(n:Nat):(FL c rs D p n).length≤n:=by
 unfold FL vls
 rw[List.length_map]
 have h:((y2Z 0 n).filter fun v=>uses p (nth rs v)).length≤(y2Z 0 n).length:=List.length_filter_le _ _
 rwa [yc9] at h
theorem y7N{c:Cf}{rs:List (List Hop)}{D:Pl→Int}{p:Pl}{n:Nat}{x:Fw}:x∈FL c rs D p n↔∃ v:Int,0≤v∧v<n∧uses p (nth rs v)=true∧x=y8d c rs D p v:=by
 unfold FL vls
 simp only[List.mem_map,List.mem_filter,y6p]
 constructor
 ·rintro⟨v,⟨⟨a,b⟩,d⟩,rfl⟩;exact⟨v,a,by omega,d,rfl⟩
 ·rintro⟨v,a,b,d,rfl⟩;exact⟨v,⟨⟨a,by omega⟩,d⟩,rfl⟩
theorem y8x{p:Pl}{r:List Hop}:uses p r=true↔∃ h∈r,pk h=p:=by
 unfold uses;simp
theorem yfH{c:Cf}{net:Int}{rs:List (List Hop)}(hS:Small c)(hv:VA c net rs)(p:Pl){v:Int}(v0:0≤v)(v1:v<rs.length) : -1≤fwL (nth rs v) p∧fwL (nth rs v) p<c.fK.length∧(0≤fwL (nth rs v) p→1≤slw c (fwL (nth rs v) p)∧slw c (fwL (nth rs v) p)≤16):=by
 unfold fwL
 split
 ·rename_i h
  have:=(hv.each _ (yX v0 v1)).hop hS (ydl h).1
  have a:=this.l0;have b:=this.l1;have d:=this.s0;have e:=this.s1
  exact⟨by omega,b,fun _=>⟨d,e⟩⟩
 ·exact⟨by omega,by omega,fun h=>absurd h (by omega)⟩
structure AI (c:Cf) (l:List Fw) (most:Int) (mp:List (Int×List (Int→Option Int))) (wide:List (Int×Int)):Prop where
 nd:(mp.map (·.1)).Nodup
 get:∀ L,yg mp L []=(l.filter fun x=>decide (x.k=L)).map (clo c)
 key:∀ k∈mp.map (·.1),∃ x∈l,x.k=k
 key2:∀ x∈l,x.k∈mp.map (·.1)
 len:mp.length≤l.length
 wide:∀ L,yg wide L 0=y9n c l L
 most:most=y8l c l
theorem AI.nil(c:Cf):AI c [] 0 [] []:=⟨by simp,fun L=>rfl,by simp,by simp,by simp,fun L=>rfl,rfl⟩
theorem AI.put{c:Cf}{l:List Fw}{most:Int}{mp:List (Int×List (Int→Option Int))}{wide:List (Int×Int)}(h:AI c l most mp wide){x:Fw}(hx:0≤mx c x.v):AI c (l++[x]) (max most (mx c x.v)) (yF mp x.k (yg mp x.k []++[clo c x])) (yF wide x.k (max (yg wide x.k 0) (mx c x.v))):=by
 refine⟨?_,fun L=>?_,fun k hk=>?_,fun y hy=>?_,?_,fun L=>?_,?_⟩
 ·rw[y8S]
  split
  ·exact h.nd
  ·rename_i hn
   rw[List.nodup_append]
   refine⟨h.nd,by simp,fun a ha b hb=>?_⟩
   rw[List.mem_singleton] at hb;subst hb
   intro e;subst e;exact hn ha
 ·rw[y3l,List.filter_append,List.map_append,← h.get L]
  by_cases e:L=x.k
  ·subst e;simp
  ·rw[if_neg e];simp[show x.k≠L from fun a=>e a.symm]
 ·rw[y8S] at hk
  split at hk
  ·obtain⟨y,hy,e⟩:=h.key k hk;exact⟨y,List.mem_append_left _ hy,e⟩
  ·rcases List.mem_append.1 hk with hk | hk
   ·obtain⟨y,hy,e⟩:=h.key k hk;exact⟨y,List.mem_append_left _ hy,e⟩
   ·rw[List.mem_singleton] at hk;exact⟨x,by simp,hk.symm⟩
 ·rw[y8S]
  rcases List.mem_append.1 hy with hy | hy
  ·have:=h.key2 y hy
   split
   ·exact this
   ·exact List.mem_append_left _ this
  ·rw[List.mem_singleton] at hy;subst hy
   split
   ·assumption
   ·simp
 ·have e:(yF mp x.k (yg mp x.k []++[clo c x])).length=((yF mp x.k (yg mp x.k []++[clo c x])).map (·.1)).length:=by simp
  rw[e,y8S]
  have:=h.len
  split
  ·simp;omega
  ·simp;omega
 ·rw[y3l]
  have hw:=h.wide
  unfold y9n at hw ⊢
  rw[List.filter_append,List.map_append]
  by_cases e:L=x.k
  ·subst e
   rw[if_pos rfl,hw]
   simp only[List.filter_cons,List.filter_nil,decide_true,if_true,List.map_cons,List.map_nil]
   rw[yfF _ _ hx]
  ·rw[if_neg e,hw];simp[show x.k≠L from fun a=>e a.symm]
 ·have:=h.most
  unfold y8l at *
  rw[List.map_append,List.map_cons,List.map_nil,yfF _ _ hx,this]
abbrev AR:=List (Int→Option Int)×Int
theorem ycm{c:Cf}{net:Int}{rs:List (List Hop)}{de:DM}{p:Pl}{k:Int→List (Int×List (Int→Option Int))→List (Int×Int)→Option AR}(hS:Small c)(hv:VA c net rs)(hV:VLs c)(hD:∀ r∈rs,∀ h∈r,-1099511627776≤yg de (pk h) 0∧yg de (pk h) 0≤1099511627776):
  ∀(n:Nat) (v:Int) (most:Int) (mp:List (Int×List (Int→Option Int))) (wide:List (Int×Int)),0≤v→v≤rs.length→rs.length<n+v→AI c (FL c rs (fun q=>yg de q 0) p v.toNat) most mp wide→
   ∃ most' mp' wide',AI c (FL c rs (fun q=>yg de q 0) p rs.length) most' mp' wide'∧y2X rs p c de k n most v mp wide=k most' mp' wide'
 | 0,v,most,mp,wide,h0,h1,h2,h3=>by omega
 | n+1,v,most,mp,wide,h0,h1,h2,h3=>by
  have hl16:=hv.most
  have hvl:=hv.len
  rw[y2X]
  by_cases h:v<rs.length
  ·rw[if_pos (decide_eq_true h)]
   refine yd0 (P:=fun o=>∃ most' mp' wide',AI c (FL c rs (fun q=>yg de q 0) p rs.length) most' mp' wide'∧o=k most' mp' wide') fun kk hkk=>?_
   have hr:=hv.each _ (yX h0 h)
   have hrl:=hr.len
   have hnx:∀ most mp wide,AI c (FL c rs (fun q=>yg de q 0) p (v+1).toNat) most mp wide→∃ most' mp' wide',AI c (FL c rs (fun q=>yg de q 0) p rs.length) most' mp' wide'∧kk most mp wide=k most' mp' wide':=by
    intro most mp wide hai
    rw[hkk,yz (x:=v+1) (by omega)]
    exact ycm hS hv hV hD n (v+1) most mp wide (by omega) (by omega) (by omega) hai
   have es:FL c rs (fun q=>yg de q 0) p (v+1).toNat=FL c rs (fun q=>yg de q 0) p v.toNat++(if uses p (nth rs v) then[y8d c rs (fun q=>yg de q 0) p v] else[]):=by
    rw[show(v+1).toNat=v.toNat+1 by omega,FL_succ,show((v.toNat:Nat):Int)=v by omega]
   rw[yt ⟨h0,h⟩]
   rcases yb2 (r:=nth rs v) (f:=fun y0=>y4F y0 p) (p:=fun h=>decide (pk h=p)) (fun h _=>rfl) (by omega) with⟨j,j0,j1,j2,j3⟩ | ⟨j2,j3⟩
   ·rw[j3]
    simp only[oB]
    have hj:=List.find?_some j2
    simp only[decide_eq_true_eq] at hj
    rw[if_neg (by simp only[decide_eq_true_eq];omega),yt ⟨h0,by omega⟩,yil hS hr (hD _ (yX h0 h))]
    simp only[oB]
    rw[yt ⟨j0,by rw[List.length_map];exact j1⟩]
    have hu:uses p (nth rs v)=true:=y8x.2 ⟨_,yX j0 j1,hj⟩
    have ejn:nth ((nth rs v).map fun h=>jn c (fun q=>yg de q 0) (nth rs v) h.fNode) j=jn c (fun q=>yg de q 0) (nth rs v) p.fNode:=by
     rw[y83 ⟨j0,by rw[List.length_map];exact j1⟩,List.getElem_map,← y83 ⟨j0,j1⟩,← hj];rfl
    rw[es,if_pos hu] at hnx
    have hm:=hV.mx h0 (by omega)
    have hglen:∀ L,((yg mp L []).length:Int)≤16:=fun L=>by
     rw[h3.get,List.length_map]
     have h4:((FL c rs (fun q=>yg de q 0) p v.toNat).filter fun x=>decide (x.k=L)).length≤(FL c rs (fun q=>yg de q 0) p v.toNat).length:=List.length_filter_le _ _
     have h5:=FL_len (c:=c) (rs:=rs) (D:=fun q=>yg de q 0) (p:=p) v.toNat
     omega
    refine y25 (P:=fun o=>∃ most' mp' wide',AI c (FL c rs (fun q=>yg de q 0) p rs.length) most' mp' wide'∧o=k most' mp' wide') fun k2 hk2=>?_
    have hk3:∀ L,L=fwL (nth rs v) p→∃ most' mp' wide',AI c (FL c rs (fun q=>yg de q 0) p rs.length) most' mp' wide'∧k2 L=k most' mp' wide':=by
     rintro L rfl
     have hgl:=hglen (fwL (nth rs v) p)
     rw[hk2,yt (by rw[List.length_append];simp only[List.length_cons,List.length_nil];omega)]
     rw[ejn]
     exact hnx _ _ _ (h3.put (x:=y8d c rs (fun q=>yg de q 0) p v) (by show 0≤mx c v;omega))
    rcases yb2 (r:=nth rs v) (f:=fun y0=>y4I y0 p) (p:=fun h=>decide (h.fNext=p.fNode)) (fun h _=>rfl) (by omega) with⟨i,i0,i1,i2,i3⟩ | ⟨i2,i3⟩
    ·rw[i3]
     simp only[oB]
     rw[if_pos (by simp only[decide_eq_true_eq];omega),yt ⟨i0,i1⟩]
     refine hk3 _ ?_
     unfold fwL y3Y;rw[i2];rfl
    ·rw[i3]
     simp only[oB]
     rw[if_neg (by simp)]
     refine hk3 _ ?_
     unfold fwL y3Y;rw[i2];rfl
   ·rw[j3]
    simp only[oB]
    have hu:¬uses p (nth rs v)=true:=by
     rw[y8x];rintro⟨x,hx,e⟩
     have:=List.find?_eq_none.1 j2 x hx
     simp[e] at this
    rw[if_pos (by simp)]
    rw[es,if_neg hu,List.append_nil] at hnx
    exact hnx _ _ _ h3
  ·rw[if_neg (by simpa using h)]
   have e:v.toNat=rs.length:=by omega
   rw[e] at h3
   exact⟨most,mp,wide,h3,rfl⟩
theorem FL_ok{c:Cf}{net:Int}{rs:List (List Hop)}{D:Pl→Int}{p:Pl}(hS:Small c)(hv:VA c net rs)(hj:∀ x∈fws c rs D p,0≤x.j∧x.j≤4294967296):FwOK c (fws c rs D p):=by
 have hl:=hv.most;have hvl:=hv.len
 refine⟨?_,fun x hx=>?_,fun x hx=>?_,hj⟩
 ·have:=FL_len (c:=c) (rs:=rs) (D:=D) (p:=p) rs.length
  exact Nat.le_trans this (by omega)
 ·obtain⟨v,v0,v1,_,rfl⟩:=y7N.1 hx
  exact⟨v0,by show v<_;omega⟩
 ·obtain⟨v,v0,v1,_,rfl⟩:=y7N.1 hx
  have:=yfH hS hv p v0 v1
  exact⟨this.1,this.2.1⟩
theorem yhi{c:Cf}{net:Int}{rs:List (List Hop)}{de:DM}{p:Pl}(hS:Small c)(hv:VA c net rs)(hV:VLs c)(hD:∀ r∈rs,∀ h∈r,-1099511627776≤yg de (pk h) 0∧yg de (pk h) 0≤1099511627776)(hj:∀ x∈fws c rs (fun q=>yg de q 0) p,0≤x.j∧x.j≤4294967296):
  ∃ fs,y4i c rs p de=some (fs,y8l c (fws c rs (fun q=>yg de q 0) p))∧∀ t,0≤t→t≤4294967296→y29 fs t=some (Arr c (fws c rs (fun q=>yg de q 0) p) t):=by
 have hok:=FL_ok hS hv hj
 unfold y4i
 have hF:=yR
 generalize yx=N at hF ⊢
 refine yd0 (P:=fun o=>∃ fs,o=some (fs,y8l c (fws c rs (fun q=>yg de q 0) p))∧∀ t,0≤t→t≤4294967296→y29 fs t=some (Arr c (fws c rs (fun q=>yg de q 0) p) t)) fun k hk=>?_
 have hl16:=hv.most
 obtain⟨most,mp,wide,hai,e⟩:=ycm (k:=k) (p:=p) hS hv hV hD N 0 0 [] [] (by omega) (by omega) (by omega) (AI.nil c)
 rw[e,hk]
 have hml:=hai.len
 have hfl:=hok.len
 have hfl2:FL c rs (fun q=>yg de q 0) p rs.length=fws c rs (fun q=>yg de q 0) p:=rfl
 rw[hfl2] at hai hml
 rw[yt (by omega)]
 refine⟨mp.map (y6s c wide),by rw[hai.most],fun t h0 h1=>?_⟩
 have hpair:∀ q∈mp,q=(q.1,((fws c rs (fun q=>yg de q 0) p).filter fun x=>decide (x.k=q.1)).map (clo c)):=by
  intro q hq
  rw[← hai.get]
  have:∀(l:List (Int×List (Int→Option Int))),(l.map (·.1)).Nodup→∀ q∈l,yg l q.1 []=q.2:=by
   intro l
   induction l with
   | nil=>intro _ q hq;simp at hq
   | cons x l ih=>
    intro hn q hq
    rw[List.map_cons,List.nodup_cons] at hn
    rw[yg]
    rcases List.mem_cons.1 hq with rfl | hq
    ·rw[if_pos rfl]
    ·rw[if_neg,ih hn.2 q hq]
     intro e;exact hn.1 (e▸List.mem_map.2 ⟨q,hq,rfl⟩)
  rw[this mp hai.nd q hq]
 have hkr:∀ k:Int,k∈mp.map (·.1) → -1≤k∧k<c.fK.length∧(0≤k→1≤slw c k):=by
  intro k hk
  obtain⟨x,hx,rfl⟩:=hai.key k hk
  obtain⟨v,v0,v1,_,rfl⟩:=y7N.1 hx
  have:=yfH hS hv p v0 v1
  exact⟨this.1,this.2.1,fun h=>(this.2.2 h).1⟩
 rw[yhS (M:=17592186044416) (F:=y6s c wide) (g:=fun q=>y7L c (fws c rs (fun q=>yg de q 0) p) t q.1) (l:=mp) (fun q hq=>by
   have hq1:=hkr q.1 (List.mem_map.2 ⟨q,hq,rfl⟩)
   have:=y9w hV hok (L:=q.1) h0 h1
   refine⟨?_,this.1,this.2⟩
   rw[hpair q hq]
   exact grp_eq hV hok (hai.wide q.1) hq1.2.1 hq1.2.2 h0 h1) (by omega) (by omega)]
 refine congrArg some ?_
 unfold Arr
 have h5:(mp.map (·.1)).Perm ((lks c).filter fun L=>decide (L∈mp.map (·.1))):=by
  refine(List.perm_ext_iff_of_nodup hai.nd ((yeP _ _).filter _)).2 fun k=>?_
  rw[List.mem_filter]
  skip
  rw[y6p]
  simp only[decide_eq_true_eq]
  constructor
  ·intro hk;have:=hkr k hk;exact⟨by push_cast;omega,hk⟩
  ·exact fun h=>h.2
 have h6:mp.map (fun q=>y7L c (fws c rs (fun q=>yg de q 0) p) t q.1)=(mp.map (·.1)).map (y7L c (fws c rs (fun q=>yg de q 0) p) t):=by rw[List.map_map];rfl
 rw[h6,yiZ (h5.map _),ydM]
 intro L _ hL
 refine yj0 (fun x hx e=>?_) h0
 simp only[decide_eq_false_iff_not] at hL
 exact hL (e▸hai.key2 x hx)
end Go.Proofs.YthjnhebofpebpaaGreat
namespace Go.Proofs.YthjnhebofpebpaaGreat
open Go Go.RowKit Sep
/-! ### a port -/
def mxf(f:Int→Int):Nat→Int
 | 0=>0
 | n+1=>max (mxf f n) (f n)
theorem yca(f:Int→Int):∀ n,0≤mxf f n
 | 0=>Int.le_refl _
 | n+1=>by have:=yca f n;simp only[mxf];omega
theorem ygN{f:Int→Int}:∀ {n:Nat} {t:Int},0≤t→t<n→f t≤mxf f n
 | 0,t,h0,h1=>by omega
 | n+1,t,h0,h1=>by
  simp only[mxf]
  by_cases e:t=n
  ·subst e;omega
  ·have:=ygN (f:=f) (n:=n) h0 (by omega);omega
theorem yeS{f:Int→Int}{M:Int}(hM:0≤M):∀ {n:Nat},(∀ t:Int,0≤t→t<n→f t≤M)→mxf f n≤M
 | 0,_=>hM
 | n+1,h=>by
  simp only[mxf]
  have:=yeS hM (n:=n) fun t h0 h1=>h t h0 (by omega)
  have:=h n (by omega) (by omega)
  omega
def bsy(A:Int→Int)(s:Int):Nat→Int→Int
 | 0,b=>b
 | n+1,b=>if s*A (b-1)>b then bsy A s n (b+1) else b
theorem ycb{A:Int→Int}{s:Int}:∀(n:Nat) (b:Int),b≤bsy A s n b∧bsy A s n b≤b+n∧(bsy A s n b<b+n→s*A (bsy A s n b-1)≤bsy A s n b)∧∀ x,b≤x→x<bsy A s n b→s*A (x-1)>x
 | 0,b=>by refine⟨by simp[bsy],by simp[bsy],fun h=>?_,fun x h1 h2=>?_⟩ <;> simp only[bsy] at * <;> omega
 | n+1,b=>by
  rw[bsy]
  by_cases h:s*A (b-1)>b
  ·rw[if_pos h]
   obtain⟨h1,h2,h3,h4⟩:=ycb n (b+1) (A:=A) (s:=s)
   refine⟨by omega,by push_cast;omega,fun h5=>h3 (by push_cast at h5;omega),fun x h5 h6=>?_⟩
   by_cases e:x=b
   ·rw[e];exact h
   ·exact h4 x (by omega) h6
  ·rw[if_neg h]
   exact⟨by omega,by omega,fun _=>by omega,fun x h1 h2=>by omega⟩
def BZ(A:Int→Int)(s:Int):Int:=bsy A s 32768 1
theorem yeT(A:Int→Int)(s:Int):1≤BZ A s∧BZ A s≤32769:=by
 obtain⟨h1,h2,_⟩:=ycb (A:=A) (s:=s) 32768 1
 unfold BZ;omega
theorem BZ_ok{A:Int→Int}{s:Int}(h:BZ A s≤32768):s*A (BZ A s-1)≤BZ A s:=by
 obtain⟨h1,h2,h3,_⟩:=ycb (A:=A) (s:=s) 32768 1
 unfold BZ at *;exact h3 (by omega)
theorem BZ_lt{A:Int→Int}{s b:Int}(h0:1≤b)(h:b<BZ A s):b<s*A (b-1):=by
 obtain⟨_,_,_,h4⟩:=ycb (A:=A) (s:=s) 32768 1
 exact h4 b h0 h
theorem BZ_le{A:Int→Int}{s b:Int}(h0:1≤b)(h:s*A (b-1)≤b):BZ A s≤b:=by
 by_cases e:BZ A s≤b
 ·exact e
 ·have:=BZ_lt h0 (by omega) (A:=A) (s:=s);omega
def dfun(A:Int→Int)(s la:Int)(t:Int):Int:=s*A t-t+la
def yaK(A:Int→Int)(s la:Int)(t:Int):Int:=A t-(max (t-la) 0+s-1) / s
def HB(c:Cf)(A:Int→Int)(most:Int)(p:Pl):PB:=⟨p.fNode,p.fQ,mxf (dfun A (slw c p.fQ) (y32 c p.fNode)) (BZ A (slw c p.fQ)).toNat,mxf (yaK A (slw c p.fQ) (y32 c p.fNode)) (BZ A (slw c p.fQ)+y32 c p.fNode).toNat+most⟩
structure AOK (A:Int→Int):Prop where
 b:∀ t,0≤t→t≤4294967296→0≤A t∧A t≤18014398509481984
theorem ygO{c:Cf}{p:Pl}{fs:List (Int→Option Int)}{most:Int}{A:Int→Int}{k:Int→Option (PB×Int)}(hA:AOK A)(ht:∀ t,0≤t→t≤4294967296→y29 fs t=some (A t))(hs:1≤slw c p.fQ∧slw c p.fQ≤16):
  ∀(n:Nat) (N:Nat) (b:Int),1≤b→b+n=32769→n<N→1≤n→y3S (fs,most) c p k N b=if bsy A (slw c p.fQ) n b≤32768 then k (bsy A (slw c p.fQ) n b) else some (⟨0,0,0,0⟩,360)
 | n,0,b,h0,h1,h2,h3=>by omega
 | 0,N+1,b,h0,h1,h2,h3=>by omega
 | n+1,N+1,b,h0,h1,h2,h3=>by
  push_cast at h1
  rw[y3S,yz (x:=b-1) (by omega),ht (b-1) (by omega) (by omega),oB]
  have hb:=hA.b (b-1) (by omega) (by omega)
  have hm1:0≤slw c p.fQ*A (b-1):=Int.mul_nonneg (by omega) hb.1
  have hm2:slw c p.fQ*A (b-1)≤16*A (b-1):=Int.mul_le_mul_of_nonneg_right hs.2 hb.1
  have e:((nth c.fK p.fQ).fSlow)*A (b-1)=slw c p.fQ*A (b-1):=rfl
  rw[e,yz (x:=slw c p.fQ*A (b-1)) (by omega),yz (x:=b+1) (by omega),bsy]
  by_cases h:slw c p.fQ*A (b-1)>b
  ·rw[if_pos (decide_eq_true h),if_pos h]
   by_cases h4:b+1>32768
   ·rw[if_pos (decide_eq_true h4)]
    have hn:n=0:=by omega
    subst hn
    rw[bsy,if_neg (by omega)]
   ·rw[if_neg (by simpa using h4)]
    exact ygO hA ht hs n N (b+1) (by omega) (by omega) (by omega) (by omega)
  ·rw[if_neg (by simpa using h),if_neg h,if_pos (by omega)]
theorem ygP{c:Cf}{p:Pl}{fs:List (Int→Option Int)}{most:Int}{A:Int→Int}{k:Int→Int→Option (PB×Int)}{b la:Int}(hA:AOK A)(ht:∀ t,0≤t→t≤4294967296→y29 fs t=some (A t))(hs:1≤slw c p.fQ∧slw c p.fQ≤16)(hb:1≤b∧b≤32768)(hla:0≤la∧la≤1000):
  ∀(n:Nat) (v:Nat),(v:Int)≤b+la→b+la<n+v→y3T b la (fs,most) c p k n v (mxf (dfun A (slw c p.fQ) la) (min v b.toNat)) (mxf (yaK A (slw c p.fQ) la) v)=k (mxf (dfun A (slw c p.fQ) la) b.toNat) (mxf (yaK A (slw c p.fQ) la) (b+la).toNat)
 | 0,v,h0,h1=>by omega
 | n+1,v,h0,h1=>by
  rw[y3T,yz (x:=b+la) (by omega)]
  by_cases h:(v:Int)<b+la
  ·rw[if_pos (decide_eq_true h),ht v (by omega) (by omega),oB]
   refine y25 (P:=fun o=>o=k (mxf (dfun A (slw c p.fQ) la) b.toNat) (mxf (yaK A (slw c p.fQ) la) (b+la).toNat)) fun kk hkk=>?_
   have hbb:=hA.b v (by omega) (by omega)
   have hm1:0≤slw c p.fQ*A v:=Int.mul_nonneg (by omega) hbb.1
   have hm2:slw c p.fQ*A v≤16*A v:=Int.mul_le_mul_of_nonneg_right hs.2 hbb.1
   have hkk2:∀ x,x=mxf (dfun A (slw c p.fQ) la) (min (v+1) b.toNat)→kk x=k (mxf (dfun A (slw c p.fQ) la) b.toNat) (mxf (yaK A (slw c p.fQ) la) (b+la).toNat):=by
    rintro x rfl
    rw[hkk]
    have e:(nth c.fK p.fQ).fSlow=slw c p.fQ:=rfl
    have h2:0≤(max ((v:Int)-la) 0+slw c p.fQ-1) / slw c p.fQ:=Int.ediv_nonneg (by omega) (by omega)
    have h3:(max ((v:Int)-la) 0+slw c p.fQ-1) / slw c p.fQ≤max ((v:Int)-la) 0+slw c p.fQ-1:=Int.ediv_le_self _ (by omega)
    rw[e,yt (by omega),yz (x:=(v:Int)-la) (by omega),yz (x:=max ((v:Int)-la) 0+slw c p.fQ) (by omega),yz (x:=max ((v:Int)-la) 0+slw c p.fQ-1) (by omega),yd5 (by omega),yz (x:=(max ((v:Int)-la) 0+slw c p.fQ-1) / slw c p.fQ) (by omega),yz (x:=A v-(max ((v:Int)-la) 0+slw c p.fQ-1) / slw c p.fQ) (by omega),yz (x:=(v:Int)+1) (by omega)]
    have:=ygP (k:=k) (most:=most) hA ht hs hb hla n (v+1) (by push_cast;omega) (by push_cast;omega)
    rw[← this]
    rfl
   by_cases h5:(v:Int)<b
   ·rw[if_pos (decide_eq_true h5)]
    refine hkk2 _ ?_
    have e:(nth c.fK p.fQ).fSlow=slw c p.fQ:=rfl
    rw[e,yz (x:=slw c p.fQ*A v) (by omega),yz (x:=slw c p.fQ*A v-v) (by omega),yz (by omega),show min (v+1) b.toNat=v+1 by omega,show min v b.toNat=v by omega]
    rfl
   ·rw[if_neg (by simpa using h5)]
    refine hkk2 _ ?_
    rw[show min (v+1) b.toNat=b.toNat by omega,show min v b.toNat=b.toNat by omega]
  ·rw[if_neg (by simpa using h),show min v b.toNat=b.toNat by omega,show v=(b+la).toNat by omega]
theorem hport_eq{c:Cf}{rs:List (List Hop)}{de:DM}{p:Pl}{fs:List (Int→Option Int)}{most:Int}{A:Int→Int}(hS:Small c)(hp:PI c p)(hA:AOK A)(ha:y4i c rs p de=some (fs,most))(hmost:0≤most∧most≤72)(ht:∀ t,0≤t→t≤4294967296→y29 fs t=some (A t))(hs:1≤slw c p.fQ∧slw c p.fQ≤16)(hla:0≤y32 c p.fNode∧y32 c p.fNode≤1000):
  y5t c rs p de=some (if BZ A (slw c p.fQ)≤32768 then(HB c A most p,0) else(⟨0,0,0,0⟩,360)):=by
 unfold y5t
 rw[ha,oB,yt ⟨hp.l0,hp.l1⟩,yeO hS hp.n0 hp.n1,oB]
 have hF:=yR
 generalize yx=N at hF ⊢
 refine y25 (P:=fun o=>o=some (if BZ A (slw c p.fQ)≤32768 then(HB c A most p,0) else(⟨0,0,0,0⟩,360))) fun k hk=>?_
 rw[ygO (A:=A) hA ht hs 32768 N 1 (by omega) (by omega) (by omega) (by omega)]
 have e:bsy A (slw c p.fQ) 32768 1=BZ A (slw c p.fQ):=rfl
 rw[e]
 by_cases h:BZ A (slw c p.fQ)≤32768
 ·rw[if_pos h,if_pos h,hk]
  refine ybw (P:=fun o=>o=some (HB c A most p,0)) fun k2 hk2=>?_
  have hb:=yeT A (slw c p.fQ)
  have:=ygP (k:=k2) (most:=most) (la:=y32 c p.fNode) hA ht hs ⟨hb.1,h⟩ hla N 0 (by omega) (by omega)
  simp only[Nat.zero_min,mxf] at this
  rw[show((0:Nat):Int)=0 from rfl] at this
  rw[this,hk2]
  refine congrArg some ?_
  unfold HB
  have hst:=yca (yaK A (slw c p.fQ) (y32 c p.fNode)) (BZ A (slw c p.fQ)+y32 c p.fNode).toNat
  have hst2:mxf (yaK A (slw c p.fQ) (y32 c p.fNode)) (BZ A (slw c p.fQ)+y32 c p.fNode).toNat≤18014398509481984:=yeS (by omega) fun t h0 h1=>by
   have h2:0≤(max (t-y32 c p.fNode) 0+slw c p.fQ-1) / slw c p.fQ:=Int.ediv_nonneg (by omega) (by omega)
   have:=(hA.b t h0 (by omega)).2
   unfold yaK;omega
  rw[yz (by omega)]
 ·rw[if_neg h,if_neg h]
theorem HB_delay{c:Cf}{A:Int→Int}{most:Int}{p:Pl}(hm:∀ t t',0≤t→t≤t'→A t≤A t')(h0:1≤A 0)(hs:1≤slw c p.fQ∧slw c p.fQ≤16)(hla:0≤y32 c p.fNode∧y32 c p.fNode≤1000)(h:BZ A (slw c p.fQ)≤32768):y32 c p.fNode+slw c p.fQ≤(HB c A most p).fDelay∧(HB c A most p).fDelay≤33768:=by
 have hb:=yeT A (slw c p.fQ)
 constructor
 ·have:=ygN (f:=dfun A (slw c p.fQ) (y32 c p.fNode)) (n:=(BZ A (slw c p.fQ)).toNat) (t:=0) (by omega) (by omega)
  have h2:slw c p.fQ*1≤slw c p.fQ*A 0:=Int.mul_le_mul_of_nonneg_left h0 (by omega)
  show _≤mxf _ _
  unfold dfun at this ⊢
  omega
 ·refine yeS (by omega) fun t t0 t1=>?_
  have h2:=BZ_ok h
  have h3:slw c p.fQ*A t≤slw c p.fQ*A (BZ A (slw c p.fQ)-1):=Int.mul_le_mul_of_nonneg_left (hm _ _ t0 (by omega)) (by omega)
  unfold dfun;omega
end Go.Proofs.YthjnhebofpebpaaGreat
namespace Go.Proofs.YthjnhebofpebpaaGreat
open Go Go.RowKit Sep
/-! ### the order -/
theorem ycc{l:List Pl×Int}{k:List S36→Option (List S36×Int)}(hl:l.1.length≤1000000):∀(n:Nat) (o:List S36) (v:Int),0≤v→v≤l.1.length→l.1.length<n+v→o.length=v→
  y4v l k n o v=k (o++(l.1.drop v.toNat).map fun p=>⟨p.fNode,p.fQ,0,0⟩)
 | 0,o,v,h0,h1,h2,h3=>by omega
 | n+1,o,v,h0,h1,h2,h3=>by
  rw[y4v]
  by_cases h:v<l.1.length
  ·rw[if_pos (decide_eq_true h),yt ⟨h0,h⟩,yt (by simp;omega),y48 h0 h,yz (x:=v+1) (by omega)]
   rw[ycc hl n _ (v+1) (by omega) (by omega) (by omega) (by simp;omega),show(v+1).toNat=v.toNat+1 by omega]
   simp
  ·rw[if_neg (by simpa using h),List.drop_eq_nil_of_le (by omega)];simp
theorem ygQ{c:Cf}{net:Int}{rs:List (List Hop)}(hf:FewP c rs)(hv:VA c net rs):
  (∃ l,l.Perm (PS rs)∧y2j rs l∧y53 c net rs=some (l.map fun p=>⟨p.fNode,p.fQ,0,0⟩,0))∨(∃ s,y9v rs s∧y53 c net rs=some ([],351)):=by
 unfold y53
 obtain⟨b,q1,q2⟩:=ye2 hf.small (net:=net) (rs:=rs) (fun r hr=>by have:=hf.e r hr;omega) (by have:=hf.r;omega)
 rw[q1,q2.2 hv,oB,if_neg (by simp)]
 have hps:=ycV hf.e
 have hr:=hf.r
 have h3:rs.length*40≤20*40:=Nat.mul_le_mul_right _ hr
 rcases ygq (rs:=rs) (fun r h=>by have:=hf.e r h;omega) (by omega) with⟨l,e1,e2,e3⟩ | ⟨s,e1,e2⟩
 ·rw[e3,oB]
  have hlen:=e1.length_eq
  refine .inl ⟨l,e1,e2,?_⟩
  refine y25 (P:=fun o=>o=_) fun k hk=>?_
  rw[ycc (l:=(l,0)) (by show l.length≤_;omega) yx [] 0 (by omega) (by omega) (by rw[yR];show((l.length:Nat):Int)<_;omega) rfl,hk]
  simp
 ·rw[e2,oB]
  refine .inr ⟨s,e1,?_⟩
  refine y25 (P:=fun o=>o=_) fun k hk=>?_
  rw[ycc (l:=([],351)) (by simp) yx [] 0 (by omega) (by simp) (by rw[yR];simp) rfl,hk]
  simp
/-! ### the errors of the calculus are small numbers -/
def Er(e:Int):Prop:=0≤e∧e≤9
theorem ErN{e:Int}(h:e=0∨e=2∨e=3∨e=6):Er e:=by unfold Er;omega
theorem mk_er(q:Rat):Er (mk q).2:=by unfold mk Er;split <;> simp
theorem yaL(x y:R):Er (ADD x y).2:=by
 unfold ADD
 by_cases h:V x=true∧V y=true
 ·rw[ygt h.1 h.2];exact mk_er _
 ·rw[yhJ h];exact ErN (by first | exact .inl rfl | exact .inr (.inl rfl) | exact .inr (.inr (.inl rfl)) | exact .inr (.inr (.inr rfl)))
theorem ygR(x y:R):Er (SUB x y).2:=by
 unfold SUB
 by_cases h:V x=true∧V y=true
 ·rw[yeF h.1 h.2];exact mk_er _
 ·rw[yhK h];exact ErN (by first | exact .inl rfl | exact .inr (.inl rfl) | exact .inr (.inr (.inl rfl)) | exact .inr (.inr (.inr rfl)))
theorem MUL_er(x y:R):Er (MUL x y).2:=by
 unfold MUL
 by_cases h:V x=true∧V y=true
 ·rw[ygu h.1 h.2];exact mk_er _
 ·rw[yhL h];exact ErN (by first | exact .inl rfl | exact .inr (.inl rfl) | exact .inr (.inr (.inl rfl)) | exact .inr (.inr (.inr rfl)))
theorem DIV_er(x y:R)(h0:y.fN≠0):Er (DIV x y).2:=by
 unfold DIV
 by_cases h:V x=true∧V y=true
 ·rw[yeG h.1 h.2 h0];exact mk_er _
 ·rw[yhM h];exact ErN (by first | exact .inl rfl | exact .inr (.inl rfl) | exact .inr (.inr (.inl rfl)) | exact .inr (.inr (.inr rfl)))
theorem yae{e:Int}{r:R×Int}(h1:Er e)(h2:Er r.2):Er (CD e r).2:=by
 unfold CD;split
 ·exact h1
 ·split <;> exact h2
theorem ATF_er(c:List B)(t:R):Er (ATF c t).2:=by
 unfold ATF
 by_cases h:VC c=true∧GR t=true
 ·rw[at_eq h.1 h.2]
  show Er (if c.all (vfit (val t)) then(ofQ (AT c (val t)),0) else(⟨0,0⟩,3):R×Int).2
  split <;> exact ErN (by first | exact .inl rfl | exact .inr (.inl rfl) | exact .inr (.inr (.inl rfl)) | exact .inr (.inr (.inr rfl)))
 ·rw[at_bad h];exact ErN (by first | exact .inl rfl | exact .inr (.inl rfl) | exact .inr (.inr (.inl rfl)) | exact .inr (.inr (.inr rfl)))
theorem BRK_er(c:List B):Er (BRK c).2:=by
 unfold BRK
 cases h:VC c with
 | true=>
  have:=yfy h
  split at this
  ·obtain⟨r,e,_⟩:=this
   rw[e];exact ErN (by first | exact .inl rfl | exact .inr (.inl rfl) | exact .inr (.inr (.inl rfl)) | exact .inr (.inr (.inr rfl)))
  ·rw[this];exact ErN (by first | exact .inl rfl | exact .inr (.inl rfl) | exact .inr (.inr (.inl rfl)) | exact .inr (.inr (.inr rfl)))
 | false=>rw[yeJ h];exact ErN (by first | exact .inl rfl | exact .inr (.inl rfl) | exact .inr (.inr (.inl rfl)) | exact .inr (.inr (.inr rfl)))
theorem ygS(t:R):∀(l:List (List B)) (a:R×Int),Er a.2→Er (tot t l a).2
 | [],a,h=>h
 | c::l,a,h=>by
  rw[tot]
  refine ygS t l _ (yae ?_ (yaL _ _))
  split
  ·exact ATF_er c t
  ·exact h
theorem dv_er{l:List (List B)}{s:SV}(h0:s.fRate.fN≠0){e:Int}(he:Er e)(t:R):Er (dv l s e t).2:=by
 unfold dv
 exact yae (yae (yae (ygS _ _ _ he) (DIV_er _ _ h0)) (ygR _ _)) (yaL _ _)
theorem bv_er{l:List (List B)}{s:SV}{e:Int}(he:Er e)(t:R):Er (bv l s e t).2:=by
 unfold bv
 have h:=ygS t l (Z1,e) he
 simp only
 split
 ·exact h
 ·exact yae (yae (yae h (ygR _ _)) (MUL_er _ _)) (ygR _ _)
theorem mxv_er{f:Int→R→R×Int}(hf:∀ e t,Er e→Er (f e t).2)(P:List R):Er (mxv f P).2:=by
 have h:∀(P:List R) (s:List R×Int),Er s.2→Er (P.foldl (stp f) s).2:=by
  intro P
  induction P with
  | nil=>intro s h;exact h
  | cons p P ih=>intro s h;rw[List.foldl_cons];exact ih _ (hf _ _ h)
 have:=h P ([],0) (ErN (.inl rfl))
 unfold mxv
 simp only
 split
 ·exact this
 ·exact ErN (by first | exact .inl rfl | exact .inr (.inl rfl) | exact .inr (.inr (.inl rfl)) | exact .inr (.inr (.inr rfl)))
theorem ygT:∀(l:List (List B)) (a:R×Int),Er a.2→match ckl l a with | .inl e=>Er e | .inr r=>Er r.2
 | [],a,h=>h
 | c::l,a,h=>by
  rw[ckl]
  split
  ·rename_i e he
   split at he
   ·injection he with he;subst he;exact BRK_er c
   ·have:=ygT l _ (yae h (yaL a.1 (RTF c).1));rw[he] at this;exact this
  ·rename_i e he
   split at he
   ·cases he
   ·have:=ygT l _ (yae h (yaL a.1 (RTF c).1));rw[he] at this;exact this
theorem CKF_er(l:List (List B))(s:SV):Er (CKF l s):=by
 unfold CKF
 split
 ·exact ErN (by first | exact .inl rfl | exact .inr (.inl rfl) | exact .inr (.inr (.inl rfl)) | exact .inr (.inr (.inr rfl)))
 ·have h:=ygT l (Z1,0) (ErN (.inl rfl))
  split
  ·rename_i e he;rw[he] at h;exact h
  ·rename_i r he;rw[he] at h
   split
   ·exact h
   ·split <;> exact ErN (by first | exact .inl rfl | exact .inr (.inl rfl) | exact .inr (.inr (.inl rfl)) | exact .inr (.inr (.inr rfl)))
theorem DL_er(l:List (List B))(s:SV)(h0:s.fRate.fN≠0):Er (DL l s).2:=by
 unfold DL
 split
 ·exact mxv_er (fun e t he=>dv_er h0 he t) _
 ·exact CKF_er l s
theorem BL_er(l:List (List B))(s:SV):Er (BL l s).2:=by
 unfold BL
 split
 ·exact mxv_er (fun e t he=>bv_er he t) _
 ·exact CKF_er l s
theorem DO_er{e:Int}{r:R×Int}(h1:Er e)(h2:Er r.2):Er (DO e r).2:=by
 unfold DO;simp only;split
 ·exact h2
 ·exact h1
theorem CU_er{c:Cf}{rs:List (List Hop)}{bu:BM}{de:DM}{e:Int}{p:Pl}(he:Er e):Er (CU c rs bu de e p).2.2.1:=by
 have h1:∀(l:List Int) (s:CS),Er s.e→Er (l.foldl (cst c rs de p) s).e:=by
  intro l
  induction l with
  | nil=>intro s h;exact h
  | cons v l ih=>
   intro s h;rw[List.foldl_cons];refine ih _ ?_
   unfold cst;simp only
   split
   ·split
    ·exact DO_er (DO_er h (MUL_er _ _)) (yaL _ _)
    ·exact h
   ·exact h
 have h2:∀(bu:BM) (l:List Int) (s:GS),Er s.e→Er (l.foldl (gst c bu p) s).e:=by
  intro bu l
  induction l with
  | nil=>intro s h;exact h
  | cons v l ih=>intro s h;rw[List.foldl_cons];exact ih _ (DO_er (DO_er h (yaL _ _)) (yaL _ _))
 have h3:∀(lk:List (Int×List Int)) (bu:BM) (l:List Int) (s:List (List B)×Int),Er s.2→Er (l.foldl (lst c lk bu p) s).2:=by
  intro lk bu l
  induction l with
  | nil=>intro s h;exact h
  | cons q l ih=>
   intro s h;rw[List.foldl_cons];refine ih _ ?_
   unfold lst;split
   ·exact h
   ·exact h2 _ _ _ h
 unfold CU
 exact h3 _ _ _ _ (h1 _ _ he)
theorem z12w{e a b:Int}(h1:Er e)(h2:Er a)(h3:Er b):fe e a b=352∨Er (fe e a b):=by
 unfold fe er Er at *
 repeat' split
 all_goals omega
theorem zMr{c:Cf}{rs:List (List Hop)}:∀(l:List Pl) (s:WS) (e:Int),s.e=0→ya0 c rs l s = .inr e→e≠350
 | [],s,e,_,h=>by cases h
 | p::l,s,e,h0,h=>by
  rw[ya0] at h
  split at h
  ·injection h with h;subst h
   show fe _ _ _≠350
   rcases z12w (CU_er (c:=c) (rs:=rs) (bu:=s.bu) (de:=s.de) (p:=p) (e:=s.e) (by rw[h0];exact ErN (by first | exact .inl rfl | exact .inr (.inl rfl) | exact .inr (.inr (.inl rfl)) | exact .inr (.inr (.inr rfl))))) (DL_er (CU c rs s.bu s.de s.e p).1 (srv c p) (by show(1:Int)≠0;decide)) (BL_er (CU c rs s.bu s.de s.e p).1 (srv c p)) with h | h
   ·rw[h];decide
   ·unfold Er at h;omega
  ·rename_i hn
   exact zMr l _ e (by simpa using hn) h
end Go.Proofs.YthjnhebofpebpaaGreat
namespace Go.Proofs.YthjnhebofpebpaaGreat
open Go Go.RowKit Sep
/-! ### all ports -/
def bzH(c:Cf)(rs:List (List Hop))(D:Pl→Int)(p:Pl):Int:=BZ (Arr c (fws c rs D p)) (slw c p.fQ)
def pbH(c:Cf)(rs:List (List Hop))(D:Pl→Int)(p:Pl):PB:=HB c (Arr c (fws c rs D p)) (y8l c (fws c rs D p)) p
def dD(de:DM):Pl→Int:=fun q=>yg de q 0
def y8T(c:Cf)(rs:List (List Hop)):List Pl→DM→List PB→Option (DM×List PB)
 | [],de,out=>some (de,out)
 | p::l,de,out=>if bzH c rs (dD de) p≤32768 then y8T c rs l (yF de p (pbH c rs (dD de) p).fDelay) (out++[pbH c rs (dD de) p]) else none
structure HI (c:Cf) (ps:List Pl) (D:Pl→Int):Prop where
 i:∀ q∈ps,y32 c q.fNode+slw c q.fQ≤D q∧D q≤33768
 o:∀ q,q∉ps→D q=0
theorem y2j.clo{c:Cf}{net:Int}{rs:List (List Hop)}(hv:VA c net rs){l1 l2:List Pl}{p:Pl}(h:y2j rs (l1++p::l2)){r:List Hop}(hr:r∈rs){x:Hop}(hx:x∈r)(hp:pk x∈l1∨pk x=p){g:Hop}(hg:g∈r)(e:g.fNext=x.fNode):pk g∈l1:=by
 have hpr:Pred rs (pk x) (pk g):=(ycW hv).1 ⟨r,hr,g,hg,x,hx,e,rfl,rfl⟩
 rcases hp with hp | hp
 ·obtain⟨a,b,e2⟩:=List.append_of_mem hp
  rw[e2]
  have:=h a (pk x) (b++p::l2) (by rw[e2];simp) _ hpr
  exact List.mem_append_left _ this
 ·exact h l1 p l2 rfl _ (hp▸hpr)
theorem HI.rng{c:Cf}{net:Int}{rs:List (List Hop)}(hS:Small c)(hv:VA c net rs){ps:List Pl}{D:Pl→Int}(h:HI c ps D){r:List Hop}(hr:r∈rs){x:Hop}(hx:x∈r):0≤D (pk x)∧D (pk x)≤33768:=by
 have hh:=(hv.each r hr).hop hS hx
 by_cases hq:pk x∈ps
 ·have:=h.i _ hq
  have e1:(pk x).fNode=x.fNode:=rfl
  have e2:(pk x).fQ=x.fQ:=rfl
  rw[e1,e2] at this
  have:=hh.s0;have:=hh.d0
  omega
 ·rw[h.o _ hq];omega
theorem HI.jn0{c:Cf}{net:Int}{rs:List (List Hop)}(hS:Small c)(hv:VA c net rs){l1 l2:List Pl}{p:Pl}(ho:y2j rs (l1++p::l2)){D:Pl→Int}(h:HI c l1 D){r:List Hop}(hr:r∈rs):∀ x∈r,(pk x∈l1∨pk x=p)→0≤jn c D r x.fNode:=by
 have hv1:=hv.each r hr
 refine hv1.ind (P:=fun x=>(pk x∈l1∨pk x=p)→0≤jn c D r x.fNode) (fun x hx e _=>?_) (fun g hg x hx e ih hp=>?_)
 ·rw[e,hv1.jn_start];exact Int.le_refl _
 ·have hgm:=ho.clo hv hr hx hp hg e
  have h1:=h.i _ hgm
  have h2:=ih (.inl hgm)
  rw[← e,hv1.jn_next D hg]
  have e1:(pk g).fNode=g.fNode:=rfl
  have e2:(pk g).fQ=g.fQ:=rfl
  rw[e1,e2] at h1
  omega
theorem jn_up{c:Cf}{net:Int}{rs:List (List Hop)}(hS:Small c)(hv:VA c net rs){D:Pl→Int}{M:Int}(hM:0≤M){r:List Hop}(hr:r∈rs)(hD:∀ h∈r,-M≤D (pk h)∧D (pk h)≤M)(n:Int) : -(32*(M+1016))≤jn c D r n∧jn c D r n≤32*(M+1016):=by
 have h:=ygL (c:=c) (D:=D) hS (hv.each r hr) hM hD r.length n
 rw[List.take_of_length_le (Nat.le_refl _)] at h
 exact h
theorem fw_use{c:Cf}{rs:List (List Hop)}{D:Pl→Int}{p:Pl}{x:Fw}(hx:x∈fws c rs D p):∃ h∈nth rs x.v,nth rs x.v∈rs∧0≤x.v∧x.v<rs.length∧pk h=p∧x.j=jn c D (nth rs x.v) h.fNode∧x.k=fwL (nth rs x.v) p:=by
 obtain⟨v,v0,v1,hu,rfl⟩:=y7N.1 hx
 obtain⟨h,hh,e⟩:=y8x.1 hu
 refine⟨h,hh,yX v0 v1,v0,v1,e,?_,rfl⟩
 rw[← e];rfl
theorem HI.ok{c:Cf}{net:Int}{rs:List (List Hop)}(hS:Small c)(hv:VA c net rs){l1 l2:List Pl}{p:Pl}(ho:y2j rs (l1++p::l2)){D:Pl→Int}(h:HI c l1 D):FwOK c (fws c rs D p):=by
 refine FL_ok hS hv fun x hx=>?_
 obtain⟨y,hy,hr,_,_,e,ej,_⟩:=fw_use hx
 have h1:=h.jn0 hS hv ho hr y hy (.inr e)
 have h2:=jn_up (c:=c) (D:=D) hS hv (M:=33768) (by omega) hr (fun z hz=>by have:=h.rng hS hv hr hz;omega) y.fNode
 rw[ej];omega
theorem Arr_pos{c:Cf}(hv:VLs c){l:List Fw}(hl:FwOK c l){x:Fw}(hx:x∈l){t:Int}(h0:0≤t)(h1:t≤4294967296):1≤Arr c l t:=by
 have hb:=(y7M hv hl hx h0 h1).1
 have hk:=hl.k0 x hx
 have hm:=hv.mx (hl.v0 x hx).1 (hl.v0 x hx).2
 have hmem:x∈l.filter fun y=>decide (y.k=x.k):=List.mem_filter.2 ⟨hx,by simp⟩
 have hg:1≤y8w c l t x.k:=by
  have:=ygM (f:=fun x=>byt c x t) (l:=l.filter fun y=>decide (y.k=x.k)) (fun y hy=>by have:=(y7M hv hl (List.mem_filter.1 hy).1 h0 h1).1;omega) hmem
  unfold y8w;omega
 have hw:1≤y9n c l x.k:=by
  have:=ye9 (x:=mx c x.v) (l:=(l.filter fun y=>decide (y.k=x.k)).map fun x=>mx c x.v) (List.mem_map.2 ⟨x,hmem,rfl⟩)
  unfold y9n;omega
 have hgv:1≤y7L c l t x.k:=by
  have hd:0≤t / max 1 (slw c x.k):=Int.ediv_nonneg h0 (by omega)
  unfold y7L;split <;> omega
 have:=ygM (f:=y7L c l t) (l:=lks c) (fun L _=>(y9w hv hl h0 h1).1) (x:=x.k) (by unfold lks;exact y6p.2 ⟨by omega,by push_cast;omega⟩)
 unfold Arr;omega
theorem yhj{c:Cf}(hv:VLs c){l:List Fw}(hl:FwOK c l):0≤y8l c l∧y8l c l≤72:=by
 unfold y8l
 refine⟨y8j _,yds (by omega) fun x hx=>?_⟩
 obtain⟨y,hy,rfl⟩:=List.mem_map.1 hx
 exact(hv.mx (hl.v0 y hy).1 (hl.v0 y hy).2).2.1
theorem PS_hop{c:Cf}{net:Int}{rs:List (List Hop)}(hS:Small c)(hv:VA c net rs){p:Pl}(hp:p∈PS rs):∃ r∈rs,∃ h∈r,pk h=p∧HV c h:=by
 obtain⟨r,hr,h,hh,e⟩:=(y77 rs p).1 hp
 exact⟨r,hr,h,hh,e,(hv.each r hr).hop hS hh⟩
theorem yd6{c:Cf}{net:Int}{rs:List (List Hop)}(hS:Small c)(hv:VA c net rs){p:Pl}(hp:p∈PS rs):(1≤slw c p.fQ∧slw c p.fQ≤16)∧(0≤y32 c p.fNode∧y32 c p.fNode≤1000):=by
 obtain⟨r,hr,h,hh,rfl,hx⟩:=PS_hop hS hv hp
 exact⟨⟨hx.s0,hx.s1⟩,⟨hx.d0,hx.d1⟩⟩
theorem fw_ex{c:Cf}{net:Int}{rs:List (List Hop)}{D:Pl→Int}{p:Pl}(hp:p∈PS rs):∃ x,x∈fws c rs D p:=by
 obtain⟨r,hr,h,hh,e⟩:=(y77 rs p).1 hp
 obtain⟨i,i0,i1,rfl⟩:=y5L hr
 exact⟨_,y7N.2 ⟨i,i0,i1,y8x.2 ⟨h,hh,e⟩,rfl⟩⟩
theorem hport_at{c:Cf}{net:Int}{rs:List (List Hop)}(hS:Small c)(hv:VA c net rs)(hV:VLs c){l1 l2:List Pl}{p:Pl}(ho:y2j rs (l1++p::l2))(hp:p∈PS rs){de:DM}(h:HI c l1 (dD de)):
  y5t c rs p de=some (if bzH c rs (dD de) p≤32768 then(pbH c rs (dD de) p,0) else(⟨0,0,0,0⟩,360)):=by
 have hok:=h.ok hS hv ho
 obtain⟨fs,e,ht⟩:=yhi (p:=p) (de:=de) hS hv hV (fun r hr x hx=>by have:0≤yg de (pk x) 0∧yg de (pk x) 0≤33768:=h.rng hS hv hr hx;omega) hok.j0
 obtain⟨h1,h2⟩:=yd6 hS hv hp
 exact hport_eq hS (hv.pi hS hp) ⟨fun t t0 t1=>yj1 hS hV hok t0 t1⟩ e (yhj hV hok) ht h1 h2
theorem HI.put{c:Cf}{net:Int}{rs:List (List Hop)}(hS:Small c)(hv:VA c net rs)(hV:VLs c){l1 l2:List Pl}{p:Pl}(ho:y2j rs (l1++p::l2))(hp:p∈PS rs){de:DM}(h:HI c l1 (dD de))(hb:bzH c rs (dD de) p≤32768):HI c (l1++[p]) (dD (yF de p (pbH c rs (dD de) p).fDelay)):=by
 have hok:=h.ok hS hv ho
 obtain⟨h1,h2⟩:=yd6 hS hv hp
 obtain⟨x,hx⟩:=fw_ex (c:=c) (net:=net) (D:=dD de) hp
 have hd:=HB_delay (A:=Arr c (fws c rs (dD de) p)) (most:=y8l c (fws c rs (dD de) p)) (fun t t' _ ht=>Arr_mono hV hok ht) (Arr_pos hV hok hx (t:=0) (by omega) (by omega)) h1 h2 hb
 refine⟨fun q hq=>?_,fun q hq=>?_⟩
 ·unfold dD;rw[y3l]
  by_cases e:q=p
  ·rw[if_pos e,e];exact hd
  ·rw[if_neg e]
   rcases List.mem_append.1 hq with hq | hq
   ·exact h.i q hq
   ·exact absurd (List.mem_singleton.1 hq) e
 ·unfold dD;rw[y3l,if_neg (fun e=>hq (by rw[e];simp))]
  exact h.o q fun hm=>hq (List.mem_append_left _ hm)
theorem ydN{c:Cf}{net:Int}{rs:List (List Hop)}{l:List Pl}{e0:Int}{k:List PB→Option (S39×Int)}(hS:Small c)(hv:VA c net rs)(hV:VLs c)(hlp:∀ p∈l,p∈PS rs)(ho:y2j rs l)(hle:l.length≤100000):
  ∀(n:Nat) (v:Int) (de:DM) (out:List PB),0≤v→v≤l.length→l.length<n+v→out.length=v→HI c (l.take v.toNat) (dD de)→
   y3b (l.map fun p=>(⟨p.fNode,p.fQ,0,0⟩:S36),e0) c rs k n v de out=match y8T c rs (l.drop v.toNat) de out with | some t=>k t.2 | none=>some (⟨[],[]⟩,360)
 | 0,v,de,out,h0,h1,h2,h3,h4=>by omega
 | n+1,v,de,out,h0,h1,h2,h3,h4=>by
  rw[y3b]
  have hml:(((l.map fun p=>(⟨p.fNode,p.fQ,0,0⟩:S36)).length:Nat):Int)=l.length:=by rw[List.length_map]
  simp only[hml]
  by_cases h:v<l.length
  ·have hsp:l=l.take v.toNat++nth l v::l.drop (v.toNat+1):=by rw[← y48 h0 h,List.take_append_drop]
   have hpm:=hlp _ (yX h0 h)
   rw[if_pos (decide_eq_true h),yt ⟨h0,h⟩,y48 h0 h,y8T]
   have en:nth (l.map fun p=>(⟨p.fNode,p.fQ,0,0⟩:S36)) v=⟨(nth l v).fNode,(nth l v).fQ,0,0⟩:=by
    rw[y83 ⟨h0,by rw[List.length_map];exact h⟩,List.getElem_map,← y83 ⟨h0,h⟩]
   have ho2:y2j rs (l.take v.toNat++nth l v::l.drop (v.toNat+1)):=hsp▸ho
   rw[en]
   have ep:(⟨(nth l v).fNode,(nth l v).fQ⟩:z8)=nth l v:=rfl
   simp only[ep]
   rw[hport_at hS hv hV ho2 hpm h4,oB]
   by_cases hb:bzH c rs (dD de) (nth l v)≤32768
   ·rw[if_pos hb,if_pos hb,if_neg (by simp)]
    have hol:(out++[pbH c rs (dD de) (nth l v)]).length=v+1:=by rw[List.length_append,List.length_singleton];push_cast;omega
    rw[yt (by rw[hol];omega),yz (x:=v+1) (by omega)]
    have h5:=h4.put hS hv hV ho2 hpm hb
    have et:l.take (v+1).toNat=l.take v.toNat++[nth l v]:=by
     rw[show(v+1).toNat=v.toNat+1 by omega,List.take_succ_eq_append_getElem (by omega),y83 ⟨h0,h⟩]
    rw[← et] at h5
    rw[ydN hS hv hV hlp ho hle n (v+1) _ _ (by omega) (by omega) (by omega) hol h5,show(v+1).toNat=v.toNat+1 by omega]
   ·rw[if_neg hb,if_neg hb,if_pos (by simp)]
  ·rw[if_neg (by simpa using h),List.drop_eq_nil_of_le (by omega),y8T]
theorem ygU{c:Cf}{rs:List (List Hop)}:∀(l:List Pl) (de:DM) (out:List PB) (t:DM×List PB),y8T c rs l de out=some t→t.2.map pbk=out.map pbk++l∧t.2.length=out.length+l.length
 | [],de,out,t,h=>by injection h with h;subst h;simp
 | p::l,de,out,t,h=>by
  rw[y8T] at h
  split at h
  ·obtain⟨h1,h2⟩:=ygU l _ _ t h
   rw[h1,h2]
   refine⟨?_,by simp;omega⟩
   rw[List.map_append]
   simp only[List.map_cons,List.map_nil,List.append_assoc,List.cons_append,List.nil_append]
   rfl
  ·cases h
theorem hsort_eq{l:List PB}(hn:(l.map pbk).Nodup)(hs:l.length≤1000000)(hb:∀ b∈l,-1000000000≤b.fNode∧b.fNode≤1000000000 ∧ -1000000000≤b.fQ∧b.fQ≤1000000000):
  yQ l (fun y0 y1=>y13 y0 y1)=some (yV y13 l)∧(yV y13 l).Pairwise fun a b=>¬plt (pbk b) (pbk a):=by
 have hp:∀ x∈l,∀ y∈l,∃ v,y13 x y=some v∧(v<0↔plt (pbk x) (pbk y))∧(v≤0↔¬plt (pbk y) (pbk x)):=by
  intro x hx y hy
  have:=hb x hx;have:=hb y hy
  unfold y13 plt pbk
  simp only[ne_eq,decide_eq_true_eq]
  by_cases e:x.fNode=y.fNode
  ·rw[if_neg (by simpa using e),yz (by omega)]
   exact⟨_,rfl,by omega,by omega⟩
  ·rw[if_pos (by simpa using e),yz (by omega)]
   exact⟨_,rfl,by omega,by omega⟩
 have hinj:∀ x∈l,∀ y∈l,pbk x=pbk y→x=y:=by
  intro x hx y hy e
  obtain⟨i,hi,rfl⟩:=List.getElem_of_mem hx
  obtain⟨j,hj,rfl⟩:=List.getElem_of_mem hy
  have h1:(l.map pbk)[i]'(by simpa using hi)=(l.map pbk)[j]'(by simpa using hj):=by simpa using e
  have:=(List.getElem_inj (h₀:=by simpa using hi) (h₁:=by simpa using hj) hn).1 h1
  subst this;rfl
 obtain⟨ho,hsrt⟩:=ydj (p:=y13) (lt:=fun a b=>plt (pbk a) (pbk b)) (l:=l) hp (fun x y=>ye3 _ _) (fun x y z=>ygk _ _ _) (fun x hx y hy h1 h2=>hinj x hx y hy (yeC _ _ h1 h2))
 refine⟨?_,hsrt⟩
 unfold yQ y4p y2B
 rw[ydk (by omega),yt (by omega),oB]
 have hb:=yc0 l.length (by omega)
 rw[Int.toNat_natCast,yt ⟨⟨rfl,rfl⟩,by omega,by omega,by omega⟩,yt ho,oB]
theorem yfI:∀ {a b:List Pl},a.Perm b→a.Nodup→a.Pairwise (fun x y=>¬plt y x)→b.Pairwise (fun x y=>¬plt y x)→a=b
 | [],b,hp,_,_,_=>by have:=hp.length_eq;cases b with | nil=>rfl | cons y b=>simp at this
 | x::a,[],hp,_,_,_=>by have:=hp.length_eq;simp at this
 | x::a,y::b,hp,hn,ha,hb=>by
  have hxy:x=y:=by
   have h1:x∈y::b:=hp.subset (by simp)
   have h2:y∈x::a:=hp.symm.subset (by simp)
   rcases List.mem_cons.1 h1 with h1 | h1
   ·exact h1
   rcases List.mem_cons.1 h2 with h2 | h2
   ·exact h2.symm
   exact yeC _ _ ((List.pairwise_cons.1 hb).1 x h1) ((List.pairwise_cons.1 ha).1 y h2)
  subst hxy
  rw[yfI hp.cons_inv (List.nodup_cons.1 hn).2 (List.pairwise_cons.1 ha).2 (List.pairwise_cons.1 hb).2]
theorem yj2{rs:List (List Hop)}(hr:∀ r∈rs,r.length≤1000)(hl:rs.length≤100):(PS rs).Pairwise fun a b=>¬plt b a:=by
 refine(ygl ?_).2
 have h1:=yc1 (allH rs) []
 have h2:=ye4 hr
 have h3:rs.length*1000≤100*1000:=Nat.mul_le_mul_right _ hl
 simp only[List.length_nil] at h1
 omega
inductive HC (c:Cf) (net:Int) (rs:List (List Hop)):S39×Int→Prop
 | route:¬VA c net rs→HC c net rs (⟨[],[]⟩,310)
 | vl:VA c net rs→¬VOK c→HC c net rs (⟨[],[]⟩,350)
 | cycle (s:List Pl):VA c net rs→VOK c→y9v rs s→HC c net rs (⟨[],[]⟩,351)
 | busy (l:List Pl):VA c net rs→VOK c→l.Perm (PS rs)→y2j rs l→y8T c rs l [] []=none→HC c net rs (⟨[],[]⟩,360)
 | ok (l:List Pl) (t:DM×List PB):VA c net rs→VOK c→l.Perm (PS rs)→y2j rs l→y8T c rs l [] []=some t→(yV y13 t.2).map pbk=PS rs→HC c net rs (⟨yV y13 t.2,EN c rs (yV y13 t.2)⟩,0)
theorem HC_eq{c:Cf}{net:Int}{rs:List (List Hop)}(hf:FewP c rs):∃ x,y2h c net rs=some x∧HC c net rs x:=by
 have hS:=hf.small
 have hr1:∀ r∈rs,r.length<1000000000:=fun r hr=>by have:=hf.e r hr;omega
 have hrs:=hf.r
 obtain⟨y,cy,hcp⟩:=yik (net:=net) hf
 unfold y2h
 by_cases hv:VA c net rs
 ·have hps:=ycV hf.e
  have h3:rs.length*40≤20*40:=Nat.mul_le_mul_right _ hrs
  rw[cy]
  by_cases hvo:VOK c
  ·have hy:y.2≠350:=by
    cases hcp with
    | route h=>exact absurd hv h
    | vl _ h=>exact absurd hvo h
    | cycle=>decide
    | err l e _ _ _ _ h _=>exact zMr l w0 e rfl h
    | ok=>exact(show(0:Int)≠350 by decide)
   rcases ygQ (net:=net) hf hv with⟨l,e1,e2,e3⟩ | ⟨s,e1,e2⟩
   ·have hlen:=e1.length_eq
    rw[e3,oB,if_neg (by simp),oB,if_neg (by simpa using hy),if_neg (by simp)]
    refine y25 (P:=fun o=>∃ x,o=some x∧HC c net rs x) fun k hk=>?_
    have hL:=ydN (l:=l) (e0:=0) (k:=k) hS hv hvo.vls (fun p hp=>e1.subset hp) e2 (by omega) yx 0 [] [] (by omega) (by omega) (by rw[yR];omega) rfl ⟨by simp,fun q _=>rfl⟩
    simp only[Int.toNat_zero,List.drop_zero] at hL
    rw[hL]
    cases hrun:y8T c rs l [] [] with
    | none=>exact⟨_,rfl,.busy l hv hvo e1 e2 hrun⟩
    | some t=>
     obtain⟨o1,o2⟩:=ygU l [] [] t hrun
     have hol:t.2.length=l.length:=by rw[o2];simp
     have hmap:t.2.map pbk=l:=by rw[o1];simp
     have hnd:(t.2.map pbk).Nodup:=by rw[hmap];exact e1.nodup_iff.2 (y8u rs)
     simp only
     have hso:=hsort_eq (l:=t.2) hnd (by omega) (fun b hb=>by
      have hm:pbk b∈PS rs:=e1.subset (by rw[← hmap];exact List.mem_map.2 ⟨b,hb,rfl⟩)
      have:=hv.pi hS hm
      have a:=this.l0;have b1:=this.l1;have d:=this.n0;have f:=this.n1
      have:=hS.l;have:=hS.m;have:=hS.s
      unfold nN at f
      have e4:(pbk b).fNode=b.fNode:=rfl
      have e5:(pbk b).fQ=b.fQ:=rfl
      omega)
     rw[hk,hso.1,oB,yhQ (net:=net) hS hv.each (by omega) (by rw[y60];omega),oB]
     have hpp:((yV y13 t.2).map pbk).Perm (PS rs):=by
      refine((y3c _ _).map pbk).trans ?_
      rw[hmap];exact e1
     refine⟨_,rfl,.ok l t hv hvo e1 e2 hrun (yfI hpp (hpp.nodup_iff.2 (y8u rs)) ?_ (yj2 (fun r hr=>by have:=hf.e r hr;omega) (by omega)))⟩
     rw[List.pairwise_map]
     exact hso.2
   ·rw[e2,oB,if_neg (by simp),oB,if_neg (by simpa using hy),if_pos (by simp)]
    exact⟨_,rfl,.cycle s hv hvo e1⟩
  ·have hy:y=(⟨[],[]⟩,350):=by
    cases hcp with
    | route h=>exact absurd hv h
    | vl _ h=>rfl
    | cycle _ _ h=>exact absurd h hvo
    | err _ _ _ h=>exact absurd h hvo
    | ok _ _ _ h=>exact absurd h hvo
   subst hy
   rcases ygQ (net:=net) hf hv with⟨l,e1,e2,e3⟩ | ⟨s,e1,e2⟩
   ·rw[e3,oB,if_neg (by simp),oB,if_pos (by simp)]
    exact⟨_,rfl,.vl hv hvo⟩
   ·rw[e2,oB,if_neg (by simp),oB,if_pos (by simp)]
    exact⟨_,rfl,.vl hv hvo⟩
 ·have ho:y53 c net rs=some ([],310):=by
   unfold y53
   obtain⟨b,q1,q2⟩:=ye2 hS (net:=net) (rs:=rs) hr1 (by omega)
   have hb:b=false:=by
    cases b with
    | false=>rfl
    | true=>exact absurd (q2.1 rfl) hv
   rw[q1,hb];rfl
  rw[ho,oB,if_pos (by simp)]
  exact⟨_,rfl,.route hv⟩
end Go.Proofs.YthjnhebofpebpaaGreat
namespace Go.Proofs.YthjnhebofpebpaaGreat
open Go Go.RowKit Sep
/-! ### the delays that are computed: they satisfy their own equations -/
structure HF (c:Cf) (rs:List (List Hop)) (D:Pl→Int):Prop where
 b:∀ p∈PS rs,bzH c rs D p≤32768
 d:∀ p∈PS rs,D p=(pbH c rs D p).fDelay
 r:∀ p∈PS rs,y32 c p.fNode+slw c p.fQ≤D p∧D p≤33768
 z:∀ p,p∉PS rs→D p=0
theorem yj3{c:Cf}{net:Int}{rs:List (List Hop)}(hv:VA c net rs){l1 l2:List Pl}{p:Pl}(ho:y2j rs (l1++p::l2)){D D':Pl→Int}(h:∀ q∈l1,D q=D' q):fws c rs D p=fws c rs D' p:=by
 unfold fws
 refine List.map_congr_left fun v hvm=>?_
 obtain⟨hv0,hu⟩:=List.mem_filter.1 hvm
 have hv1:=y6p.1 hv0
 have hr:=yX (l:=rs) (i:=v) (by omega) (by omega)
 obtain⟨x,hx,e⟩:=y8x.1 hu
 have hn:p.fNode=x.fNode:=by rw[← e];rfl
 unfold y8d
 rw[hn,(hv.each _ hr).jn_eq (D:=D) (D':=D') (S:=fun q=>q∈l1∨q=p) (fun y hy hs g hg eg=>?_) x hx (.inr e)]
 have:=ho.clo hv hr hy hs hg eg
 exact⟨.inl this,h _ this⟩
theorem ygV{c:Cf}{net:Int}{rs:List (List Hop)}(hS:Small c)(hv:VA c net rs)(hV:VLs c):∀(l2 l1:List Pl) (de:DM) (out:List PB) (t:DM×List PB),(l1++l2).Nodup→(∀ p∈l1++l2,p∈PS rs)→y2j rs (l1++l2)→HI c l1 (dD de)→y8T c rs l2 de out=some t→
  (∀ q,q∉l2→dD t.1 q=dD de q)∧HI c (l1++l2) (dD t.1)∧(∀ p∈l2,bzH c rs (dD t.1) p≤32768∧dD t.1 p=(pbH c rs (dD t.1) p).fDelay)∧t.2=out++l2.map (pbH c rs (dD t.1))
 | [],l1,de,out,t,hn,hp,ho,hi,h=>by
  injection h with h;subst h
  simpa using hi
 | p::l2,l1,de,out,t,hn,hp,ho,hi,h=>by
  rw[y8T] at h
  split at h
  ·rename_i hb
   have hpm:=hp p (by simp)
   have e1:(l1++[p])++l2=l1++p::l2:=by simp
   have hp2:p∉l2:=by
    have:=(List.nodup_append.1 hn).2.1
    exact(List.nodup_cons.1 this).1
   have hp1:∀ q∈l1,q≠p:=by
    intro q hq e
    exact(List.nodup_append.1 hn).2.2 q hq p (by simp) e
   have hl12:∀ q∈l1,q∉l2:=by
    intro q hq h2
    exact(List.nodup_append.1 hn).2.2 q hq q (List.mem_cons_of_mem _ h2) rfl
   obtain⟨k1,k2,k3,k4⟩:=ygV hS hv hV l2 (l1++[p]) _ _ t (by rw[e1];exact hn) (by rw[e1];exact hp) (by rw[e1];exact ho) (hi.put hS hv hV ho hpm hb) h
   have hag:∀ q∈l1,dD de q=dD t.1 q:=by
    intro q hq
    rw[k1 q (hl12 q hq)]
    unfold dD;rw[y3l,if_neg (hp1 q hq)]
   have hfw:=yj3 hv ho hag
   have hpb:pbH c rs (dD de) p=pbH c rs (dD t.1) p:=by unfold pbH;rw[hfw]
   have hbz:bzH c rs (dD de) p=bzH c rs (dD t.1) p:=by unfold bzH;rw[hfw]
   refine⟨fun q hq=>?_,by rw[← e1];exact k2,fun q hq=>?_,?_⟩
   ·rw[k1 q fun hm=>hq (List.mem_cons_of_mem _ hm)]
    unfold dD;rw[y3l,if_neg (fun e=>hq (by rw[e];simp))]
   ·rcases List.mem_cons.1 hq with rfl | hq
    ·refine⟨hbz▸hb,?_⟩
     rw[k1 q hp2,← hpb]
     show yg (yF de q _) q 0=_
     rw[y3l,if_pos rfl]
    ·exact k3 q hq
   ·rw[k4,hpb];simp
  ·cases h
theorem HC_fix{c:Cf}{net:Int}{rs:List (List Hop)}(hS:Small c)(hv:VA c net rs)(hV:VLs c){l:List Pl}{t:DM×List PB}(hp:l.Perm (PS rs))(ho:y2j rs l)(h:y8T c rs l [] []=some t):HF c rs (dD t.1)∧t.2=l.map (pbH c rs (dD t.1)):=by
 obtain⟨k1,k2,k3,k4⟩:=ygV hS hv hV l [] [] [] t (by simpa using hp.nodup_iff.2 (y8u rs)) (fun p hm=>hp.subset (by simpa using hm)) (by simpa using ho) ⟨by simp,fun q _=>rfl⟩ h
 simp only[List.nil_append] at *
 refine⟨⟨fun p hm=>(k3 p (hp.symm.subset hm)).1,fun p hm=>(k3 p (hp.symm.subset hm)).2,fun p hm=>k2.i p (hp.symm.subset hm),fun p hm=>k2.o p fun hq=>hm (hp.subset hq)⟩,k4⟩
theorem jn_pos{c:Cf}{net:Int}{rs:List (List Hop)}(hv:VA c net rs){D:Pl→Int}(hD:∀ p∈PS rs,y32 c p.fNode+slw c p.fQ≤D p){r:List Hop}(hr:r∈rs):∀ x∈r,0≤jn c D r x.fNode:=by
 have hv1:=hv.each r hr
 refine hv1.ind (P:=fun x=>0≤jn c D r x.fNode) (fun x hx e=>?_) (fun g hg x hx e ih=>?_)
 ·rw[e,hv1.jn_start];exact Int.le_refl _
 ·have h1:=hD (pk g) ((y77 rs _).2 ⟨r,hr,g,hg,rfl⟩)
  rw[← e,hv1.jn_next D hg]
  have e1:(pk g).fNode=g.fNode:=rfl
  have e2:(pk g).fQ=g.fQ:=rfl
  rw[e1,e2] at h1
  omega
theorem HF.rng{c:Cf}{rs:List (List Hop)}{D:Pl→Int}(h:HF c rs D){net:Int}(hS:Small c)(hv:VA c net rs){r:List Hop}(hr:r∈rs){x:Hop}(hx:x∈r):0≤D (pk x)∧D (pk x)≤33768:=by
 have hm:pk x∈PS rs:=(y77 rs _).2 ⟨r,hr,x,hx,rfl⟩
 have h1:=h.r _ hm
 have h2:=yd6 hS hv hm
 omega
theorem HF.ok{c:Cf}{rs:List (List Hop)}{D:Pl→Int}(h:HF c rs D){net:Int}(hS:Small c)(hv:VA c net rs)(p:Pl):FwOK c (fws c rs D p):=by
 refine FL_ok hS hv fun x hx=>?_
 obtain⟨y,hy,hr,_,_,e,ej,_⟩:=fw_use hx
 have h1:=jn_pos hv (fun p hm=>(h.r p hm).1) hr y hy
 have h2:=jn_up (c:=c) (D:=D) hS hv (M:=33768) (by omega) hr (fun z hz=>by have:=h.rng hS hv hr hz;omega) y.fNode
 rw[ej];omega
/-! ### less comes, less is delayed -/
theorem yfi{α:Type}{f:α→Int}{p:α→Bool}:∀ {l:List α},y4n ((l.filter p).map f)=y4n (l.map fun x=>if p x then f x else 0)
 | []=>rfl
 | x::l=>by
  rw[List.filter_cons]
  simp only[List.map_cons,y4n]
  split
  ·simp only[List.map_cons,y4n,yfi]
  ·rw[yfi];omega
theorem yfJ{c:Cf}{rs:List (List Hop)}{D:Pl→Int}{p:Pl}{t L:Int}:y8w c (fws c rs D p) t L=y4n ((y2Z 0 rs.length).map fun v=>if uses p (nth rs v)=true∧fwL (nth rs v) p=L then byt c (y8d c rs D p v) t else 0):=by
 unfold y8w fws vls
 rw[List.filter_map,List.map_map,List.filter_filter,yfi]
 congr 1
 refine List.map_congr_left fun v _=>?_
 have e:(decide ((y8d c rs D p v).k=L)&&uses p (nth rs v))=true↔uses p (nth rs v)=true∧fwL (nth rs v) p=L:=by
  rw[Bool.and_eq_true,decide_eq_true_eq];exact⟨fun h=>⟨h.2,h.1⟩,fun h=>⟨h.2,h.1⟩⟩
 by_cases h:uses p (nth rs v)=true∧fwL (nth rs v) p=L
 ·rw[if_pos h];exact if_pos (e.2 h)
 ·rw[if_neg h];exact if_neg fun h'=>h (e.1 h')
structure LH (c d:Cf) (rs rs':List (List Hop)):Prop where
 m:d.fM=c.fM
 s:d.fS=c.fS
 l:d.fK=c.fK
 vc:VLs c
 vd:VLs d
 len:rs'.length=rs.length
 r:∀ v:Int,0≤v→v<rs.length→nth rs' v=nth rs v∨nth rs' v=[]
 mx:∀ v:Int,0≤v→v<rs.length→mx d v≤mx c v
 bg:∀ v:Int,0≤v→v<rs.length→bgV d v=bgV c v
theorem LH.lat{c d:Cf}{rs rs':List (List Hop)}(h:LH c d rs rs')(n:Int):y32 d n=y32 c n:=by unfold y32 nM;rw[h.m,h.s]
theorem LH.slw{c d:Cf}{rs rs':List (List Hop)}(h:LH c d rs rs')(n:Int):slw d n=slw c n:=by unfold Go.Proofs.YthjnhebofpebpaaGreat.slw;rw[h.l]
theorem LH.uses{c d:Cf}{rs rs':List (List Hop)}(h:LH c d rs rs'){v:Int}(v0:0≤v)(v1:v<rs.length){p:Pl}(hu:uses p (nth rs' v)=true):nth rs' v=nth rs v:=by
 rcases h.r v v0 v1 with e | e
 ·exact e
 ·rw[e] at hu;simp[Go.Proofs.YthjnhebofpebpaaGreat.uses] at hu
theorem LH.ps{c d:Cf}{rs rs':List (List Hop)}(h:LH c d rs rs'){p:Pl}(hp:p∈PS rs'):p∈PS rs:=by
 obtain⟨r,hr,x,hx,e⟩:=(y77 rs' p).1 hp
 obtain⟨v,v0,v1,rfl⟩:=y5L hr
 rw[h.len] at v1
 rw[h.uses v0 v1 (p:=p) (y8x.2 ⟨x,hx,e⟩)] at hx
 exact(y77 rs p).2 ⟨_,yX v0 v1,x,hx,e⟩
theorem byt_le{c d:Cf}{x y:Fw}{t:Int}(h1:1≤mx d y.v)(hm:mx d y.v≤mx c x.v)(hb:bgV d y.v=bgV c x.v)(hb1:1≤bgV c x.v)(hj:y.j≤x.j)(hj0:0≤y.j)(h0:0≤t):byt d y t≤byt c x t:=by
 unfold byt
 rw[hb]
 have a:=Int.ediv_le_ediv (a:=t+y.j) (b:=t+x.j) (c:=bgV c x.v) (by omega) (by omega)
 have b:0≤(t+y.j) / bgV c x.v:=Int.ediv_nonneg (by omega) (by omega)
 have e1:mx d y.v*((t+y.j) / bgV c x.v+1)≤mx d y.v*((t+x.j) / bgV c x.v+1):=Int.mul_le_mul_of_nonneg_left (by omega) (by omega)
 have e2:=Int.mul_le_mul_of_nonneg_right hm (show 0≤(t+x.j) / bgV c x.v+1 by omega)
 omega
structure LW (c d:Cf) (rs rs':List (List Hop)) (D D':Pl→Int) (p:Pl):Prop where
 j:∀ v:Int,0≤v→v<rs.length→uses p (nth rs' v)=true→jn d D' (nth rs' v) p.fNode≤jn c D (nth rs v) p.fNode
theorem Arr_le{c d:Cf}{rs rs':List (List Hop)}(hL:LH c d rs rs'){D D':Pl→Int}{p:Pl}(h1:FwOK c (fws c rs D p))(h2:FwOK d (fws d rs' D' p))(hj:LW c d rs rs' D D' p)(hlc:rs.length=c.fVLs.length)(hld:rs'.length=d.fVLs.length){t:Int}(t0:0≤t)(t1:t≤4294967296):
  Arr d (fws d rs' D' p) t≤Arr c (fws c rs D p) t:=by
 have hmem:∀ v:Int,0≤v→v<rs.length→uses p (nth rs' v)=true→y8d d rs' D' p v∈fws d rs' D' p∧y8d c rs D p v∈fws c rs D p:=by
  intro v v0 v1 hu
  refine⟨y7N.2 ⟨v,v0,by rw[hL.len];exact v1,hu,rfl⟩,y7N.2 ⟨v,v0,v1,?_,rfl⟩⟩
  rw[← hL.uses v0 v1 hu];exact hu
 have hm:=hL.len
 unfold Arr
 have hlk:lks d=lks c:=by unfold lks;rw[hL.l]
 rw[hlk]
 refine yal fun L _=>?_
 have hg:y8w d (fws d rs' D' p) t L≤y8w c (fws c rs D p) t L:=by
  rw[yfJ,yfJ,hL.len]
  refine yal fun v hv=>?_
  obtain⟨v0,v1⟩:=y6p.1 hv
  have v1':v<rs.length:=by omega
  by_cases hu:uses p (nth rs' v)=true∧fwL (nth rs' v) p=L
  ·have hm:=hmem v v0 v1' hu.1
   have er:=hL.uses v0 v1' hu.1
   rw[if_pos hu,if_pos (by rw[← er];exact hu)]
   have hmd:=hL.vd.mx (v:=v) v0 (by omega)
   have hmc:=hL.vc.mx (v:=v) v0 (by omega)
   exact byt_le (x:=y8d c rs D p v) (y:=y8d d rs' D' p v) hmd.1 (hL.mx v v0 v1') (hL.bg v v0 v1') (by show 1≤bgV c v;omega) (hj.j v v0 v1' hu.1) (h2.j0 _ hm.1).1 t0
  ·rw[if_neg hu]
   split
   ·rename_i hu2
    have:=(y7M hL.vc h1 (y7N.2 ⟨v,v0,v1',hu2.1,rfl⟩:y8d c rs D p v∈fws c rs D p) t0 t1).1
    omega
   ·exact Int.le_refl _
 have hw:y9n d (fws d rs' D' p) L≤y9n c (fws c rs D p) L:=by
  refine yds (y8j _) fun m hmm=>?_
  obtain⟨y,hy,rfl⟩:=List.mem_map.1 hmm
  obtain⟨hy1,hy2⟩:=List.mem_filter.1 hy
  obtain⟨v,v0,v1,hu,rfl⟩:=y7N.1 hy1
  have v1':v<rs.length:=by rw[← hL.len];exact v1
  have er:=hL.uses v0 v1' hu
  have hm:=hmem v v0 v1' hu
  have:mx c v≤y9n c (fws c rs D p) L:=by
   refine ye9 (List.mem_map.2 ⟨y8d c rs D p v,List.mem_filter.2 ⟨hm.2,?_⟩,rfl⟩)
   rw[decide_eq_true_eq] at hy2 ⊢
   rw[← hy2];show fwL (nth rs v) p=fwL (nth rs' v) p;rw[er]
  have:=hL.mx v v0 v1'
  show mx d v≤_
  omega
 unfold y7L
 rw[hL.slw]
 split
 ·exact hg
 ·omega
theorem most_le{c d:Cf}{rs rs':List (List Hop)}(hL:LH c d rs rs'){D D':Pl→Int}{p:Pl}:y8l d (fws d rs' D' p)≤y8l c (fws c rs D p):=by
 refine yds (y8j _) fun m hmm=>?_
 obtain⟨y,hy,rfl⟩:=List.mem_map.1 hmm
 obtain⟨v,v0,v1,hu,rfl⟩:=y7N.1 hy
 have v1':v<rs.length:=by rw[← hL.len];exact v1
 have er:=hL.uses v0 v1' hu
 have:mx c v≤y8l c (fws c rs D p):=ye9 (List.mem_map.2 ⟨y8d c rs D p v,y7N.2 ⟨v,v0,v1',by rw[← er];exact hu,rfl⟩,rfl⟩)
 have:=hL.mx v v0 v1'
 show mx d v≤_
 omega
theorem ygW{f g:Int→Int}{m n:Nat}(h:m≤n)(hf:∀ t:Int,0≤t→t<m→f t≤g t):mxf f m≤mxf g n:=
 yeS (yca g n) fun t t0 t1=>Int.le_trans (hf t t0 t1) (ygN t0 (by omega))
theorem yhT{A A':Int→Int}{s:Int}(hs:1≤s)(hA:∀ t,0≤t→t≤4294967296→A' t≤A t)(h:BZ A s≤32768):BZ A' s≤BZ A s:=by
 have hb:=yeT A s
 refine BZ_le hb.1 ?_
 have h1:=BZ_ok h
 have h2:s*A' (BZ A s-1)≤s*A (BZ A s-1):=Int.mul_le_mul_of_nonneg_left (hA _ (by omega) (by omega)) (by omega)
 omega
theorem HB_le{c d:Cf}{p:Pl}(e1:slw d p.fQ=slw c p.fQ)(e2:y32 d p.fNode=y32 c p.fNode)(hs:1≤slw c p.fQ)(hl:0≤y32 c p.fNode∧y32 c p.fNode≤1000){A A':Int→Int}{m m':Int}(hm:m'≤m)(hA:∀ t,0≤t→t≤4294967296→A' t≤A t)(h:BZ A (slw c p.fQ)≤32768):
  (HB d A' m' p).fDelay≤(HB c A m p).fDelay∧(HB d A' m' p).fT≤(HB c A m p).fT:=by
 have hb:=yeT A (slw c p.fQ)
 have hb':=yeT A' (slw c p.fQ)
 have hbm:=yhT hs hA h
 unfold HB
 rw[e1,e2]
 constructor
 ·refine ygW (by omega) fun t t0 t1=>?_
  have:slw c p.fQ*A' t≤slw c p.fQ*A t:=Int.mul_le_mul_of_nonneg_left (hA _ t0 (by omega)) (by omega)
  unfold dfun;omega
 ·show mxf _ _+m'≤mxf _ _+m
  have:mxf (yaK A' (slw c p.fQ) (y32 c p.fNode)) (BZ A' (slw c p.fQ)+y32 c p.fNode).toNat≤mxf (yaK A (slw c p.fQ) (y32 c p.fNode)) (BZ A (slw c p.fQ)+y32 c p.fNode).toNat:=by
   refine ygW (by omega) fun t t0 t1=>?_
   have:=hA t t0 (by omega)
   unfold yaK;omega
  omega
end Go.Proofs.YthjnhebofpebpaaGreat
namespace Go.Proofs.YthjnhebofpebpaaGreat
open Go Go.RowKit Sep
/-! ### the ends -/
theorem ygX{b:PB}:∀ {l:List PB},(l.map pbk).Nodup→b∈l→yg (dem l) (pbk b) 0=b.fDelay
 | [],_,h=>by cases h
 | a::l,hn,h=>by
  show yg (yF (dem l) (pbk a) a.fDelay) (pbk b) 0=_
  rw[List.map_cons,List.nodup_cons] at hn
  rw[y3l]
  by_cases e:pbk b=pbk a
  ·rw[if_pos e]
   rcases List.mem_cons.1 h with h | h
   ·rw[h]
   ·exact absurd (List.mem_map.2 ⟨b,h,e⟩) hn.1
  ·rw[if_neg e]
   rcases List.mem_cons.1 h with h | h
   ·exact absurd (by rw[h]) e
   ·exact ygX hn.2 h
structure ERH (s2 s1:ES) (n:Int):Prop where
 h:∀ k,y31 s2.sum k=y31 s1.sum k
 s:∀ k,0≤yg s2.sum k 0∧yg s2.sum k 0≤yg s1.sum k 0∧yg s1.sum k 0≤n*1073741824
 e:∀ x∈s2.ends,∃ y∈s1.ends,x.fVL=y.fVL∧x.fNode=y.fNode∧x.fDelay≤y.fDelay
theorem ERH.step{c d:Cf}(hm:nM d=nM c){r:List Hop}{v:Int}{de2 de1:DM}{h:Hop}(hd:0≤yg de2 (pk h) 0∧yg de2 (pk h) 0≤yg de1 (pk h) 0∧yg de1 (pk h) 0≤1073741824){s2 s1:ES}{n:Int}(hn:0≤n∧n≤1000)(hi:ERH s2 s1 n):ERH (est d r de2 v s2 h) (est c r de1 v s1 h) (n+1):=by
 unfold est
 rw[hi.h h.fNext]
 split
 ·exact⟨hi.h,fun k=>by have:=hi.s k;omega,hi.e⟩
 ·have hs:=hi.s h.fNode
  have hsum:0≤i64 (yg s2.sum h.fNode 0+yg de2 (pk h) 0)∧i64 (yg s2.sum h.fNode 0+yg de2 (pk h) 0)≤i64 (yg s1.sum h.fNode 0+yg de1 (pk h) 0)∧i64 (yg s1.sum h.fNode 0+yg de1 (pk h) 0)≤(n+1)*1073741824:=by
   rw[yz (by omega),yz (by omega)]
   omega
  simp only
  refine⟨fun k=>?_,fun k=>?_,?_⟩
  ·show y31 (yF _ _ _) k=y31 (yF _ _ _) k
   rw[yaF,yaF,hi.h k]
  ·show 0≤yg (yF _ _ _) k 0∧yg (yF _ _ _) k 0≤yg (yF _ _ _) k 0∧yg (yF _ _ _) k 0≤_
   rw[y3l,y3l]
   by_cases e:k=h.fNext
   ·rw[if_pos e,if_pos e];exact hsum
   ·rw[if_neg e,if_neg e];have:=hi.s k;omega
  ·rw[hm]
   split
   ·intro x hx
    have hx:x∈s2.ends++[_]:=hx
    rcases List.mem_append.1 hx with hx | hx
    ·obtain⟨y,hy,e⟩:=hi.e x hx
     exact⟨y,List.mem_append_left _ hy,e⟩
    ·rw[List.mem_singleton.1 hx]
     refine⟨_,List.mem_append_right _ (List.mem_singleton.2 rfl),rfl,rfl,?_⟩
     show yg (yF _ _ _) h.fNext 0≤yg (yF _ _ _) h.fNext 0
     rw[y3l,y3l,if_pos rfl,if_pos rfl]
     exact hsum.2.1
   ·exact hi.e
theorem ERH.fold{c d:Cf}(hm:nM d=nM c){r:List Hop}{v:Int}{de2 de1:DM}:∀(hs:List Hop) {s2 s1:ES} {n:Int},(∀ h∈hs,0≤yg de2 (pk h) 0∧yg de2 (pk h) 0≤yg de1 (pk h) 0∧yg de1 (pk h) 0≤1073741824)→0≤n→n+hs.length≤1000→ERH s2 s1 n→
  ERH (hs.foldl (est d r de2 v) s2) (hs.foldl (est c r de1 v) s1) (n+hs.length)
 | [],s2,s1,n,_,_,_,h=>by simpa using h
 | h::hs,s2,s1,n,hd,h0,h1,hi=>by
  rw[List.foldl_cons,List.foldl_cons]
  rw[List.length_cons] at h1
  have:=ERH.fold (c:=c) (d:=d) hm (r:=r) (v:=v) hs (fun x hx=>hd x (List.mem_cons_of_mem _ hx)) (n:=n+1) (by omega) (by omega) (hi.step hm (r:=r) (v:=v) (hd h (List.mem_cons_self ..)) (by omega))
  rw[List.length_cons,show n+((hs.length+1:Nat):Int)=n+1+(hs.length:Int) by omega]
  exact this
theorem VE_lessH{c d:Cf}{rs rs':List (List Hop)}(hm:nM d=nM c){v:Int}(h0:0≤v)(h1:v<rs.length)(hrt:nth rs' v=nth rs v∨nth rs' v=[])(hlen:(nth rs v).length≤1000){de2 de1:DM}(hd:∀ h∈nth rs' v,0≤yg de2 (pk h) 0∧yg de2 (pk h) 0≤yg de1 (pk h) 0∧yg de1 (pk h) 0≤1073741824):
  ∀ x∈VE d rs' de2 v,∃ y∈VE c rs de1 v,x.fVL=y.fVL∧x.fNode=y.fNode∧x.fDelay≤y.fDelay:=by
 intro x hx
 unfold VE at hx ⊢
 rcases hrt with e | e
 ·rw[e] at hx hd
  have:=ERH.fold (c:=c) (d:=d) hm (r:=nth rs v) (v:=v) (de2:=de2) (de1:=de1) (nth rs v) (s2:=⟨[],[]⟩) (s1:=⟨[],[]⟩) (n:=0) hd (by omega) (by omega) ⟨fun _=>rfl,fun k=>⟨by show(0:Int)≤0;omega,by show(0:Int)≤0;omega,by show(0:Int)≤_;omega⟩,by simp⟩
  exact this.e x hx
 ·rw[e] at hx;cases hx
def y8U(c:Cf)(rs:List (List Hop))(D:Pl→Int)(ps:List PB):Prop:=ps.map pbk=PS rs∧∀ b∈ps,b=pbH c rs D (pbk b)
theorem pbk_pbH{c:Cf}{rs:List (List Hop)}{D:Pl→Int}(p:Pl):pbk (pbH c rs D p)=p:=rfl
theorem y8U.of{c:Cf}{rs:List (List Hop)}{l:List Pl}{t:DM×List PB}(h1:(yV y13 t.2).map pbk=PS rs)(h2:t.2=l.map (pbH c rs (dD t.1))):y8U c rs (dD t.1) (yV y13 t.2):=by
 refine⟨h1,fun b hb=>?_⟩
 have hb:=(y3c _ _).subset hb
 rw[h2] at hb
 obtain⟨p,hp,rfl⟩:=List.mem_map.1 hb
 rw[pbk_pbH]
theorem y8U.nd{c:Cf}{rs:List (List Hop)}{D:Pl→Int}{ps:List PB}(h:y8U c rs D ps):(ps.map pbk).Nodup:=by rw[h.1];exact y8u rs
theorem y8U.dem{c:Cf}{rs:List (List Hop)}{D:Pl→Int}{ps:List PB}(h:y8U c rs D ps)(hF:HF c rs D){p:Pl}(hp:p∈PS rs):yg (dem ps) p 0=D p:=by
 rw[← h.1] at hp
 obtain⟨b,hb,rfl⟩:=List.mem_map.1 hp
 rw[ygX h.nd hb,hF.d (pbk b) (by rw[← h.1];exact hp),← h.2 b hb]
theorem y8U.get{c:Cf}{rs:List (List Hop)}{D:Pl→Int}{ps:List PB}(h:y8U c rs D ps){p:Pl}(hp:p∈PS rs):∃ b∈ps,pbk b=p∧b=pbH c rs D p:=by
 rw[← h.1] at hp
 obtain⟨b,hb,rfl⟩:=List.mem_map.1 hp
 exact⟨b,hb,rfl,h.2 b hb⟩
theorem HC_ok{c:Cf}{net:Int}{rs:List (List Hop)}(hS:Small c){x:S39×Int}(h:HC c net rs x)(h0:x.2=0):VA c net rs∧VOK c∧∃ D ps l,l.Perm (PS rs)∧y2j rs l∧HF c rs D∧y8U c rs D ps∧x=(⟨ps,EN c rs ps⟩,0):=by
 cases h with
 | route _=>cases h0
 | vl _ _=>cases h0
 | cycle _ _ _ _=>cases h0
 | busy _ _ _ _ _ _=>cases h0
 | ok l t hv hvo hp ho hr hs=>
  obtain⟨hF,ht⟩:=HC_fix hS hv hvo.vls hp ho hr
  exact⟨hv,hvo,dD t.1,_,l,hp,ho,hF,y8U.of hs ht,rfl⟩
theorem flatMH{α β:Type}{f:α→List β}{m:Nat}:∀ l:List α,(∀ x∈l,(f x).length≤m)→(l.flatMap f).length≤l.length*m
 | [],_=>by simp
 | x::l,h=>by
  rw[List.flatMap_cons,List.length_append,List.length_cons,Nat.succ_mul]
  have h1:=h x (by simp)
  have h2:=flatMH l fun y hy=>h y (List.mem_cons_of_mem _ hy)
  omega
theorem EN_len{c:Cf}{rs:List (List Hop)}{ps:List PB}(hl:rs.length≤20)(he:∀ r∈rs,r.length≤40):(EN c rs ps).length≤1000000:=by
 unfold EN
 have:=flatMH (f:=fun v=>yV y39 (VE c rs (dem ps) v)) (m:=40) (y2Z 0 rs.length) (fun v hv=>by
  have h4:=y6p.1 hv
  rw[y60]
  exact Nat.le_trans VE_len (he _ (yX (by omega) (by omega))))
 rw[yc9] at this
 have h3:rs.length*40≤20*40:=Nat.mul_le_mul_right _ hl
 omega
theorem y8U.len{c:Cf}{rs:List (List Hop)}{D:Pl→Int}{ps:List PB}(h:y8U c rs D ps)(hl:rs.length≤20)(he:∀ r∈rs,r.length≤40):ps.length≤1000000:=by
 have h1:=ycV he
 have h2:ps.length=(PS rs).length:=by rw[← h.1,List.length_map]
 have h3:rs.length*40≤20*40:=Nat.mul_le_mul_right _ hl
 omega
theorem yeU{c:Cf}{rs:List (List Hop)}{ps:List PB}{x:zn}:x∈EN c rs ps↔∃ v:Int,0≤v∧v<rs.length∧x∈VE c rs (dem ps) v:=by
 unfold EN
 rw[List.mem_flatMap]
 constructor
 ·rintro⟨v,hv,hx⟩
  have:=y6p.1 hv
  exact⟨v,by omega,by omega,(y3c _ _).subset hx⟩
 ·rintro⟨v,v0,v1,hx⟩
  exact⟨v,y6p.2 ⟨v0,by omega⟩,(y3c _ _).symm.subset hx⟩
theorem EN_uniq{c:Cf}{rs:List (List Hop)}{ps:List PB}{x y:zn}(hx:x∈EN c rs ps)(hy:y∈EN c rs ps)(h1:x.fVL=y.fVL)(h2:x.fNode=y.fNode):x=y:=by
 obtain⟨v,_,_,hx⟩:=yeU.1 hx
 obtain⟨w,_,_,hy⟩:=yeU.1 hy
 have iv:=ygG c rs (dem ps) v
 have iw:=ygG c rs (dem ps) w
 have e:v=w:=by have a:=(iv.vl x hx).1;have b:=(iw.vl y hy).1;omega
 subst e
 have hn:((VE c rs (dem ps) v).map (·.fNode)).Nodup:=iv.nd
 obtain⟨i,hi,rfl⟩:=List.getElem_of_mem hx
 obtain⟨j,hj,rfl⟩:=List.getElem_of_mem hy
 have h3:((VE c rs (dem ps) v).map (·.fNode))[i]'(by simpa using hi)=((VE c rs (dem ps) v).map (·.fNode))[j]'(by simpa using hj):=by simpa using h2
 have:=(List.getElem_inj (h₀:=by simpa using hi) (h₁:=by simpa using hj) hn).1 h3
 subst this;rfl
/-! ### less is sent -/
theorem LH.jn{c d:Cf}{net:Int}{rs rs':List (List Hop)}(hL:LH c d rs rs')(hv:VA c net rs)(hv':VA d net rs'){D D':Pl→Int}{S:Pl→Prop}{p:Pl}(hp:S p)(hS:∀ r∈rs',∀ x∈r,S (pk x)→∀ g∈r,g.fNext=x.fNode→S (pk g)∧D' (pk g)≤D (pk g)):LW c d rs rs' D D' p:=by
 refine⟨fun v v0 v1 hu=>?_⟩
 have er:=hL.uses v0 v1 hu
 have hm':=yX (l:=rs') (i:=v) v0 (by rw[hL.len];exact v1)
 have h1:=hv'.each _ hm'
 have h2:=hv.each _ (yX v0 v1)
 rw[← er] at h2 ⊢
 obtain⟨x,hx,e⟩:=y8x.1 hu
 have:=h1.jn_le h2 (fun g _=>⟨hL.lat _,hL.slw _⟩) (D:=D') (D':=D) (S:=S) (hS _ hm') x hx (by rw[e];exact hp)
 have en:p.fNode=x.fNode:=by rw[← e];rfl
 rw[en];exact this
theorem yhU{c d:Cf}{net:Int}{rs rs':List (List Hop)}(hS:Small c)(hL:LH c d rs rs')(hv:VA c net rs)(hv':VA d net rs'){D D':Pl→Int}(hF:HF c rs D){p:Pl}(hp:p∈PS rs')(h2:FwOK d (fws d rs' D' p))(hj:LW c d rs rs' D D' p):
  bzH d rs' D' p≤32768∧(pbH d rs' D' p).fDelay≤D p∧(pbH d rs' D' p).fT≤(pbH c rs D p).fT:=by
 have hpc:=hL.ps hp
 have hA:=fun t t0 t1=>Arr_le hL (hF.ok hS hv p) h2 hj hv.len hv'.len (t:=t) t0 t1
 obtain⟨s1,s2⟩:=yd6 hS hv hpc
 have hb:=hF.b p hpc
 have hle:=HB_le (c:=c) (d:=d) (p:=p) (hL.slw _) (hL.lat _) s1.1 s2 (most_le hL (D:=D) (D':=D') (p:=p)) hA hb
 have hz:=yhT s1.1 hA hb
 refine⟨?_,?_,hle.2⟩
 ·unfold bzH;rw[hL.slw];have:BZ (Arr c (fws c rs D p)) (slw c p.fQ)≤32768:=hb;omega
 ·rw[hF.d p hpc];exact hle.1
theorem yea{c d:Cf}{net:Int}{rs rs':List (List Hop)}(hS:Small c)(hSd:Small d)(hL:LH c d rs rs')(hv:VA c net rs)(hv':VA d net rs'){D:Pl→Int}(hF:HF c rs D):∀(l2 l1:List Pl) (de:DM) (out:List PB),(∀ p∈l1++l2,p∈PS rs')→y2j rs' (l1++l2)→HI d l1 (dD de)→(∀ q∈l1,dD de q≤D q)→
  ∃ t,y8T d rs' l2 de out=some t∧∀ q∈l1++l2,dD t.1 q≤D q
 | [],l1,de,out,hp,ho,hi,hle=>⟨_,rfl,by simpa using hle⟩
 | p::l2,l1,de,out,hp,ho,hi,hle=>by
  have hpm:=hp p (by simp)
  have hj:=hL.jn (D:=D) (D':=dD de) hv hv' (S:=fun q=>q∈l1∨q=p) (p:=p) (.inr rfl) (fun r hr x hx hs g hg e=>by
   have:=ho.clo hv' hr hx hs hg e
   exact⟨.inl this,hle _ this⟩)
  obtain⟨h1,h2,_⟩:=yhU hS hL hv hv' hF hpm (hi.ok hSd hv' ho) hj
  rw[y8T,if_pos h1]
  have e1:(l1++[p])++l2=l1++p::l2:=by simp
  have:=yea hS hSd hL hv hv' hF l2 (l1++[p]) (yF de p (pbH d rs' (dD de) p).fDelay) (out++[pbH d rs' (dD de) p]) (by rw[e1];exact hp) (by rw[e1];exact ho) (hi.put hSd hv' hL.vd ho hpm h1) (fun q hq=>by
   unfold dD;rw[y3l]
   by_cases e:q=p
   ·rw[if_pos e,e];exact h2
   ·rw[if_neg e]
    rcases List.mem_append.1 hq with hq | hq
    ·exact hle q hq
    ·exact absurd (List.mem_singleton.1 hq) e)
  rw[e1] at this
  exact this
theorem less_H{c d:Cf}{net:Int}{rs rs':List (List Hop)}(hS:Small c)(hf:FewP d rs')(hL:LH c d rs rs')(hv:VA c net rs)(hv':VA d net rs')(hvo:VOK d){D:Pl→Int}(hF:HF c rs D){l:List Pl}(hlp:l.Perm (PS rs))(hlo:y2j rs l):
  ∃ D' ps',HF d rs' D'∧y8U d rs' D' ps'∧y2h d net rs'=some (⟨ps',EN d rs' ps'⟩,0)∧∀ p∈PS rs',D' p≤D p∧(pbH d rs' D' p).fT≤(pbH c rs D p).fT:=by
 have hSd:=hf.small
 obtain⟨x,x1,x2⟩:=HC_eq (net:=net) hf
 cases x2 with
 | route h=>exact absurd hv' h
 | vl _ h=>exact absurd hvo h
 | cycle s _ _ h=>
  refine(h.no hv' (fun p=>(l.idxOf p:Int)) (fun p hp=>by omega) fun a b hab=>?_).elim
  have hab2:Edg rs a b:=by
   obtain⟨r,hr,g,hg,k,hk,e⟩:=hab
   obtain⟨i,i0,i1,rfl⟩:=y5L hr
   have i1':i<rs.length:=by rw[← hL.len];exact i1
   rcases hL.r i i0 i1' with e2 | e2
   ·rw[e2] at hg hk;exact⟨_,yX i0 i1',g,hg,k,hk,e⟩
   ·rw[e2] at hg;cases hg
  have:=hlo.idx hv hlp hab2
  show(l.idxOf a:Int)<(l.idxOf b:Int)
  omega
 | busy m _ _ hm ho hr=>
  obtain⟨t,ht,_⟩:=yea hS hSd hL hv hv' hF m [] [] [] (by simpa using fun p hp=>hm.subset hp) (by simpa using ho) ⟨by simp,fun q _=>rfl⟩ (by simp)
  rw[hr] at ht;cases ht
 | ok m t _ _ hm ho hr hs=>
  obtain⟨t',ht,hle⟩:=yea hS hSd hL hv hv' hF m [] [] [] (by simpa using fun p hp=>hm.subset hp) (by simpa using ho) ⟨by simp,fun q _=>rfl⟩ (by simp)
  rw[hr] at ht;injection ht with ht;subst ht
  obtain⟨hF',ht⟩:=HC_fix hSd hv' hvo.vls hm ho hr
  refine⟨dD t.1,_,hF',y8U.of hs ht,x1,fun p hp=>?_⟩
  have hj:=hL.jn (D:=D) (D':=dD t.1) hv hv' (S:=fun q=>q∈PS rs') (p:=p) hp (fun r hrr x hx hsx g hg e=>by
   have hgm:pk g∈PS rs':=(y77 rs' _).2 ⟨r,hrr,g,hg,rfl⟩
   exact⟨hgm,hle _ (by simpa using hm.symm.subset hgm)⟩)
  have:=yhU hS hL hv hv' hF hp (hF'.ok hSd hv' p) hj
  exact⟨hle p (by simpa using hm.symm.subset hp),this.2.2⟩
end Go.Proofs.YthjnhebofpebpaaGreat

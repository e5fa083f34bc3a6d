/- A part of this claim's proof: models of functions, walks, plain laws. No conditions. -/
import Derived.Test.YthjnhebofpebpaaGreatP35a
set_option linter.all false
namespace Go.Proofs.YthjnhebofpebpaaGreat
open Go Go.RowKit Sep
/-! ### a port -/
def er(x:Int):Int:=if x=6 then 352 else x
def fe(e a b:Int):Int:=if (if e=0 then er a else e)=0 then er b else(if e=0 then er a else e)
theorem yiI{x y:R×Int}{k:Int→Option (PB×Int×BM×DM)}(e:Int):y20 x y k yx 0 e=k (fe e x.2 y.2):=by
 have hF:yx=(yx-3)+3:=by rw[yP]
 rw[hF]
 generalize yx-3=N
 have hstep:∀(n:Nat) (v e a:Int),0≤v→v<2→nth ([x.2,y.2]:List Int) v=a→y20 x y k (n+1) v e=y20 x y k n (v+1) (if e=0 then er a else e):=by
  intro n v e a h0 h1 ha
  rw[y20,if_pos (by simp;omega)]
  refine y1E (P:=fun o=>o=_) fun k1 hk1=>?_
  rw[yt (by simp;omega)]
  refine y1E (P:=fun o=>o=_) fun k2 hk2=>?_
  rw[ha]
  have e1:(if decide (a=6)=true then k2 352 else k2 a)=k2 (er a):=by
   unfold er;by_cases h:a=6 <;> simp[h]
  have e2:(if decide (e=0)=true then k1 (er a) else k1 e)=k1 (if e=0 then er a else e):=by
   by_cases h:e=0 <;> simp[h]
  rw[e1,hk2,e2,hk1,yy (x:=v+1) (by omega)]
 rw[hstep (N+2) 0 e x.2 (by omega) (by omega) rfl,hstep (N+1) (0+1) _ y.2 (by omega) (by omega) rfl,y20,if_neg (by simp)]
 rfl
def DL(l:List (List B))(s:SV):R×Int:=if CKF l s=0 then mxv (dv l s) (PTS l []) else(⟨0,0⟩,CKF l s)
def BL(l:List (List B))(s:SV):R×Int:=if CKF l s=0 then mxv (bv l s) (PTS l [s.fL]) else(⟨0,0⟩,CKF l s)
theorem Delay_eq{l:List (List B)}{s:SV}(hl:l.length≤40):y5R l s=some (DL l s):=by
 unfold y5R DL
 rw[max_eq hl (by simp),oB]
theorem yi5{l:List (List B)}{s:SV}(hl:l.length≤40):y5l l s=some (BL l s):=by
 unfold y5l BL
 rw[maxb_eq hl (by simp),oB]
def lat(c:Cf)(p:Pl):Int:=if p.fNode-nM c≥0 then(nth c.fS (p.fNode-nM c)).fDelay else 0
def srv(c:Cf)(p:Pl):SV:=⟨⟨1,(nth c.fK p.fQ).fSlow⟩,⟨lat c p,1⟩⟩
def PO(c:Cf)(rs:List (List Hop))(bu:BM)(de:DM)(e:Int)(p:Pl):PB×Int×BM×DM:=
 let u:=CU c rs bu de e p
 let d:=DL u.1 (srv c p)
 let b:=BL u.1 (srv c p)
 (⟨p.fNode,p.fQ,flr d.1,i64 (flr b.1+u.2.1)⟩,fe u.2.2.1 d.2 b.2,u.2.2.2,yF de p (flr d.1))
structure PI (c:Cf) (p:Pl):Prop where
 l0:0≤p.fQ
 l1:p.fQ<c.fK.length
 n0:0≤p.fNode
 n1:p.fNode<nN c
theorem port_eq{c:Cf}{rs:List (List Hop)}{bu:BM}{de:DM}{e:Int}{p:Pl}(hv:VLs c)(hl:rs.length=c.fVLs.length)(hr:∀ r∈rs,r.length<1000000000)(hs:rs.length≤16)(hL:c.fK.length≤20)(hS:Small c)(hp:PI c p):
  y5G c rs bu de e p=some (PO c rs bu de e p):=by
 unfold y5G
 obtain⟨a1,a2⟩:=yiH (bu:=bu) (de:=de) (e:=e) (p:=p) hv hl hr hs hL
 have hn1:=hp.n1;have hn0:=hp.n0;have hm:=hS.m;have hsw:=hS.s
 unfold nN at hn1
 rw[a1,oB]
 refine ybu (P:=fun o=>o=_) fun k hk=>?_
 have hlat:(if decide ((i64 (p.fNode-((c.fM.length:Nat):Int)))≥0) then chk ((0:Int)≤(i64 (p.fNode-((c.fM.length:Nat):Int)))∧(i64 (p.fNode-((c.fM.length:Nat):Int)))<((c.fS.length:Nat):Int)) (k (CU c rs bu de e p).1 ((nth c.fS (i64 (p.fNode-((c.fM.length:Nat):Int)))).fDelay)) else k (CU c rs bu de e p).1 0)=k (CU c rs bu de e p).1 (lat c p):=by
  rw[yy (x:=p.fNode-((c.fM.length:Nat):Int)) (by omega)]
  unfold lat nM
  by_cases h:p.fNode-((c.fM.length:Nat):Int)≥0
  ·rw[if_pos (decide_eq_true h),yt ⟨h,by omega⟩,if_pos h]
  ·rw[if_neg (by simpa using h),if_neg h]
 rw[hlat,hk,yt ⟨hp.l0,hp.l1⟩]
 unfold y2F
 rw[oB,Delay_eq (by omega),oB,yi5 (by omega),oB]
 refine y1E (P:=fun o=>o=_) fun k2 hk2=>?_
 rw[yiI,hk2]
 rw[(ydi _).1,oB,(ydi _).1,oB,ybr]
 rfl
/-! ### all ports -/
structure WS where
 out:List PB
 e:Int
 bu:BM
 de:DM
def wst(c:Cf)(rs:List (List Hop))(s:WS)(p:Pl):WS:=let x:=PO c rs s.bu s.de s.e p;⟨s.out++[x.1],x.2.1,x.2.2.1,x.2.2.2⟩
def y9Q(c:Cf)(rs:List (List Hop)):List Pl→WS→WS ⊕ Int
 | [],s => .inl s
 | p::l,s=>if (wst c rs s p).e≠0 then .inr (wst c rs s p).e else y9Q c rs l (wst c rs s p)
theorem yeF{c:Cf}{rs:List (List Hop)}{l:List Pl×Int}{k:List PB→Option (S39×Int)}(hv:VLs c)(hl:rs.length=c.fVLs.length)(hr:∀ r∈rs,r.length<1000000000)(hs:rs.length≤16)(hL:c.fK.length≤20)(hS:Small c)(hp:∀ p∈l.1,PI c p)(hle:l.1.length≤100000):
  ∀(n:Nat) (v:Int) (s:WS),0≤v→v≤l.1.length→l.1.length<n+v→s.out.length=v→
   y2M l c rs k n v s.e s.out s.bu s.de=match y9Q c rs (l.1.drop v.toNat) s with | .inl t=>k t.out | .inr e=>some (⟨[],[]⟩,e)
 | 0,v,s,h0,h1,h2,h3=>by omega
 | n+1,v,s,h0,h1,h2,h3=>by
  rw[y2M]
  by_cases h:v<l.1.length
  ·rw[if_pos (decide_eq_true h),yt ⟨h0,h⟩,y4a h0 h]
   have e:(⟨((nth l.1 v).fNode),((nth l.1 v).fQ)⟩:z8)=nth l.1 v:=rfl
   rw[e,port_eq hv hl hr hs hL hS (hp _ (yU h0 h)),oB,yt (by simp;omega),y9Q]
   by_cases he:(wst c rs s (nth l.1 v)).e≠0
   ·rw[if_pos he,if_pos (by exact decide_eq_true he)];rfl
   ·rw[if_neg he,if_neg (by rw[decide_eq_true_eq];exact he),yy (x:=v+1) (by omega)]
    have:=yeF (k:=k) hv hl hr hs hL hS hp hle n (v+1) (wst c rs s (nth l.1 v)) (by omega) (by omega) (by omega) (by simp[wst];omega)
    rw[show(v+1).toNat=v.toNat+1 by omega] at this
    exact this
  ·rw[if_neg (by simpa using h),List.drop_eq_nil_of_le (by omega)];rfl
/-! ### sorting -/
def pbk(b:PB):Pl:=⟨b.fNode,b.fQ⟩
theorem yiJ{l:List PB}(hn:(l.map pbk).Nodup)(hs:l.length≤1000000):
  yQ l (fun y0 y1=>y2f y0 y1)=some (yX y2f l)∧(yX y2f l).Pairwise fun a b=>¬plt (pbk b) (pbk a):=by
 have hinj:∀ x∈l,∀ y∈l,pbk x=pbk y→x=y:=by
  intro x hx y hy e
  obtain⟨i,hi,rfl⟩:=List.getElem_of_mem hx
  obtain⟨j,hj,rfl⟩:=List.getElem_of_mem hy
  have h1:(l.map pbk)[i]'(by simpa using hi)=(l.map pbk)[j]'(by simpa using hj):=by simpa using e
  have:=(List.getElem_inj (h₀:=by simpa using hi) (h₁:=by simpa using hj) hn).1 h1
  subst this;rfl
 obtain⟨ho,hsrt⟩:=yda (p:=y2f) (lt:=fun a b=>plt (pbk a) (pbk b)) (l:=l) (fun x _ y _=>by
  obtain⟨v,e1,e2⟩:=yes (pbk x) (pbk y)
  refine⟨v,?_,e2⟩
  unfold y2f
  rw[show(⟨x.fNode,x.fQ⟩:z8)=pbk x from rfl,show(⟨y.fNode,y.fQ⟩:z8)=pbk y from rfl,e1];rfl) (fun x y=>ydU _ _) (fun x y z=>yg9 _ _ _) (fun x hx y hy h1 h2=>hinj x hx y hy (yeu _ _ h1 h2))
 refine⟨?_,hsrt⟩
 unfold yQ y4k y2A
 rw[ydb (by omega),yt (by omega),oB]
 have hb:=ybY l.length (by omega)
 rw[Int.toNat_natCast,yt ⟨⟨rfl,rfl⟩,by omega,by omega,by omega⟩,yt ho,oB]
/-! ### the ends -/
theorem yfv{r:List Hop}{k:Option Bool}(hl:r.length<1000000000):∀(n:Nat) (v:Int),0≤v→v≤r.length→r.length<n+v→
  ((∃ q:Int,v≤q∧q<r.length∧(y41 (r.take q.toNat) (nth r q).fNode).2=false∧(nth r q).fNode≠(nth r 0).fNode)∧y4g r k n v=some false) ∨
  ((∀ q:Int,v≤q→q<r.length→(y41 (r.take q.toNat) (nth r q).fNode).2=true∨(nth r q).fNode=(nth r 0).fNode)∧y4g r k n v=k)
 | 0,v,h0,h1,h2=>by omega
 | n+1,v,h0,h1,h2=>by
  rw[y4g]
  by_cases h:v<r.length
  ·rw[if_pos (decide_eq_true h),yt ⟨h0,h⟩,yt ⟨by omega,h0,by omega⟩,yf3 (by rw[List.length_take];omega),oB,yt (fun _=>⟨by omega,by omega⟩)]
   by_cases hc:(!(y41 (r.take v.toNat) (nth r v).fNode).2&&decide ((nth r v).fNode≠(nth r 0).fNode))=true
   ·rw[if_pos hc]
    simp only[Bool.and_eq_true,Bool.not_eq_true',decide_eq_true_eq] at hc
    exact .inl ⟨⟨v,by omega,h,hc.1,hc.2⟩,rfl⟩
   ·rw[if_neg hc,yy (x:=v+1) (by omega)]
    have hc2:(y41 (r.take v.toNat) (nth r v).fNode).2=true∨(nth r v).fNode=(nth r 0).fNode:=by
     simp only[Bool.and_eq_true,Bool.not_eq_true',decide_eq_true_eq] at hc
     by_cases h5:(nth r v).fNode=(nth r 0).fNode
     ·exact .inr h5
     ·refine .inl ?_
      cases h6:(y41 (r.take v.toNat) (nth r v).fNode).2 with
      | true=>rfl
      | false=>exact absurd ⟨h6,h5⟩ hc
    rcases yfv hl n (v+1) (by omega) (by omega) (by omega) (k:=k) with⟨⟨q,q1,q2⟩,h3⟩ | ⟨h3,h4⟩
    ·exact .inl ⟨⟨q,by omega,q2⟩,h3⟩
    ·refine .inr ⟨fun q q1 q2=>?_,h4⟩
     by_cases e:q=v
     ·rw[e];exact hc2
     ·exact h3 q (by omega) q2
  ·rw[if_neg (by simpa using h)]
   exact .inr ⟨fun q q1 q2=>by omega,rfl⟩
theorem VR.tree{c:Cf}{net:Int}{r:List Hop}(h:VR c net r):y7z r=some true:=by
 have hl:=h.len
 unfold y7z
 have hF:=yP
 generalize yx=N at hF ⊢
 refine y55 (P:=fun o=>o=some true) fun k hk=>?_
 rcases yfv (k:=k) (by omega) N 0 (by omega) (by omega) (by omega) (r:=r) with⟨⟨q,q1,q2,q3,q4⟩,h5⟩ | ⟨h3,h4⟩
 ·exfalso
  have hc:=(h.cond q q1 q2).1
  rcases hc with hc | ⟨j,j0,j1,j2⟩
  ·exact q4 hc
  ·have hm:nth r j∈r.take q.toNat:=by
    rw[y5w ⟨j0,by omega⟩]
    have:(r.take q.toNat)[j.toNat]'(by simp;omega)=r[j.toNat]'(by omega):=List.getElem_take
    rw[← this];exact List.getElem_mem _
   have:=ygc hm
   rw[j2,q3] at this;cases this
 ·rw[h4,hk]
abbrev SM:=List (Int×Int)
structure ES where
 ends:List zn
 sum:SM
def est(c:Cf)(r:List Hop)(de:DM)(vl:Int)(s:ES)(h:Hop):ES:=
 if y2V s.sum h.fNext||decide (h.fNext=(nth r 0).fNode) then s else
  let m:=yF s.sum h.fNext (i64 (yf s.sum h.fNode 0+yf de (pk h) 0))
  ⟨if 0≤h.fNext∧h.fNext<nM c then s.ends++[⟨vl,h.fNext,yf m h.fNext 0⟩] else s.ends,m⟩
theorem ygu{c:Cf}{rs:List (List Hop)}{v:Int}{de:DM}{k:List zn→Option (List zn)}(h0v:0≤v∧v<rs.length)(hl:(nth rs v).length≤1000):∀(n:Nat) (i:Int) (s:ES),0≤i→i≤(nth rs v).length→(nth rs v).length<n+i→(s.ends.length:Int)≤i→
  y4Q rs v c de k n s.ends i s.sum=k (((nth rs v).drop i.toNat).foldl (est c (nth rs v) de v) s).ends
 | 0,i,s,h0,h1,h2,h3=>by omega
 | n+1,i,s,h0,h1,h2,h3=>by
  rw[y4Q]
  by_cases h:i<(nth rs v).length
  ·rw[if_pos (decide_eq_true h),y4a h0 h,List.foldl_cons]
   refine ybu (P:=fun o=>o=_) fun k1 hk1=>?_
   have hlen:((est c (nth rs v) de v s (nth (nth rs v) i)).ends.length:Int)≤i+1:=by
    unfold est
    simp only
    split
    ·omega
    ·show(((if _ then _ else _:List zn)).length:Int)≤_
     split
     ·simp;omega
     ·omega
   have hgo:∀ t:ES,t=est c (nth rs v) de v s (nth (nth rs v) i)→k1 t.ends t.sum=k (((nth rs v).drop (i.toNat+1)).foldl (est c (nth rs v) de v) (est c (nth rs v) de v s (nth (nth rs v) i))).ends:=fun t ht=>by
    subst ht
    rw[hk1,yy (x:=i+1) (by omega)]
    have:=ygu (k:=k) (c:=c) (de:=de) h0v hl n (i+1) (est c (nth rs v) de v s (nth (nth rs v) i)) (by omega) (by omega) (by omega) hlen
    rw[show(i+1).toNat=i.toNat+1 by omega] at this
    exact this
   rw[yt ⟨h0,h⟩,yt (fun _=>⟨by omega,by omega⟩)]
   by_cases hc:(y2V s.sum ((nth (nth rs v) i).fNext)||decide ((nth (nth rs v) i).fNext=(nth (nth rs v) 0).fNode))=true
   ·rw[if_pos hc]
    refine hgo s ?_
    unfold est;rw[if_pos hc]
   ·rw[if_neg hc,yer,oB]
    by_cases hn:0≤(nth (nth rs v) i).fNext∧(nth (nth rs v) i).fNext<nM c
    ·rw[if_pos (by have:=hn.2;unfold nM at this;simp only[Bool.and_eq_true,decide_eq_true_eq];exact⟨hn.1,this⟩),yt (by simp;omega)]
     refine hgo ⟨_,_⟩ ?_
     unfold est;rw[if_neg hc];simp only;rw[if_pos hn]
    ·rw[if_neg (by unfold nM at hn;simp only[Bool.and_eq_true,decide_eq_true_eq];exact hn)]
     refine hgo ⟨s.ends,yF s.sum (nth (nth rs v) i).fNext (i64 (yf s.sum (nth (nth rs v) i).fNode 0+yf de (pk (nth (nth rs v) i)) 0))⟩ ?_
     unfold est;rw[if_neg hc];simp only;rw[if_neg hn]
  ·rw[if_neg (by simpa using h),List.drop_eq_nil_of_le (by omega)];rfl
structure EI (c:Cf) (vl:Int) (s:ES):Prop where
 nd:(s.ends.map (·.fNode)).Nodup
 vl:∀ x∈s.ends,x.fVL=vl∧0≤x.fNode∧x.fNode<nM c∧y2V s.sum x.fNode=true
theorem EI.step{c:Cf}{r:List Hop}{de:DM}{v:Int}{s:ES}{h:Hop}(hi:EI c v s):EI c v (est c r de v s h):=by
 unfold est
 split
 ·exact hi
 ·rename_i hc
  simp only[Bool.or_eq_true,not_or,decide_eq_true_eq,Bool.not_eq_true] at hc
  simp only
  have hk:∀ n,y2V s.sum n=true→y2V (yF s.sum h.fNext (i64 (yf s.sum h.fNode 0+yf de (pk h) 0))) n=true:=fun n hn=>by rw[yax,hn];simp
  split
  ·rename_i hn
   refine⟨?_,fun x hx=>?_⟩
   ·rw[List.map_append]
    refine List.nodup_append.2 ⟨hi.nd,by simp,fun a ha b hb=>?_⟩
    simp at hb;subst hb
    rintro rfl
    obtain⟨x,hx,e⟩:=List.mem_map.1 ha
    have:=(hi.vl x hx).2.2.2
    rw[e,hc.1] at this;cases this
   ·rcases List.mem_append.1 hx with hx | hx
    ·obtain⟨a1,a2,a3,a4⟩:=hi.vl x hx
     exact⟨a1,a2,a3,hk _ a4⟩
    ·rw[List.mem_singleton] at hx;subst hx
     exact⟨rfl,hn.1,hn.2,by show y2V (yF _ _ _) h.fNext=true;rw[yax];simp⟩
  ·exact⟨hi.nd,fun x hx=>by obtain⟨a1,a2,a3,a4⟩:=hi.vl x hx;exact⟨a1,a2,a3,hk _ a4⟩⟩
theorem EI.fold{c:Cf}{r:List Hop}{de:DM}{v:Int}:∀(hs:List Hop) {s:ES},EI c v s→EI c v (hs.foldl (est c r de v) s)
 | [],_,hi=>hi
 | h::hs,_,hi=>by rw[List.foldl_cons];exact EI.fold hs hi.step
def VE(c:Cf)(rs:List (List Hop))(de:DM)(v:Int):List zn:=((nth rs v).foldl (est c (nth rs v) de v) ⟨[],[]⟩).ends
theorem VE_inv(c:Cf)(rs:List (List Hop))(de:DM)(v:Int):EI c v ((nth rs v).foldl (est c (nth rs v) de v) ⟨[],[]⟩):=EI.fold _ ⟨by simp,by simp⟩
theorem VE_len{c:Cf}{rs:List (List Hop)}{de:DM}{v:Int}:(VE c rs de v).length≤(nth rs v).length:=by
 unfold VE
 have:∀(hs:List Hop) (s:ES),(hs.foldl (est c (nth rs v) de v) s).ends.length≤s.ends.length+hs.length:=by
  intro hs
  induction hs with
  | nil=>intro s;simp
  | cons h hs ih=>
   intro s
   rw[List.foldl_cons]
   have h1:=ih (est c (nth rs v) de v s h)
   have h2:(est c (nth rs v) de v s h).ends.length≤s.ends.length+1:=by
    unfold est
    split
    ·omega
    ·simp only;split
     ·simp
     ·omega
   rw[List.length_cons];omega
 have:=this (nth rs v) ⟨[],[]⟩
 simpa using this
def elt(a b:zn):Prop:=a.fNode<b.fNode
theorem sortE_eq{c:Cf}{v:Int}{l:List zn}(hS:Small c)(hn:(l.map (·.fNode)).Nodup)(hb:∀ x∈l,x.fVL=v∧0≤x.fNode∧x.fNode<nM c)(hs:l.length≤1000000):
  y2i l (fun y0 y1=>y3r y0 y1)=some (yX y3r l):=by
 have hm:=hS.m
 have hinj:∀ x∈l,∀ y∈l,x.fNode=y.fNode→x=y:=by
  intro x hx y hy e
  obtain⟨i,hi,rfl⟩:=List.getElem_of_mem hx
  obtain⟨j,hj,rfl⟩:=List.getElem_of_mem hy
  have h1:(l.map (·.fNode))[i]'(by simpa using hi)=(l.map (·.fNode))[j]'(by simpa using hj):=by simpa using e
  have:=(List.getElem_inj (h₀:=by simpa using hi) (h₁:=by simpa using hj) hn).1 h1
  subst this;rfl
 obtain⟨ho,_⟩:=yda (p:=y3r) (lt:=elt) (l:=l) (fun x hx y hy=>by
  have h1:=hb x hx;have h2:=hb y hy
  unfold nM at h1 h2
  refine⟨_,rfl,?_⟩
  rw[yy (by omega)]
  unfold elt
  omega) (fun x y=>by unfold elt;omega) (fun x y z=>by unfold elt;omega) (fun x hx y hy h1 h2=>hinj x hx y hy (by unfold elt at h1 h2;omega))
 unfold y2i y4k y4F
 rw[ydb (by omega),yt (by omega),oB]
 have hb:=ybY l.length (by omega)
 rw[Int.toNat_natCast,yt ⟨⟨rfl,rfl⟩,by omega,by omega,by omega⟩,yt ho,oB]
theorem yhB{c:Cf}{rs:List (List Hop)}{de:DM}{k:List zn→Option (List zn)}(hS:Small c)(hr:∀ r∈rs,r.length≤1000)(hl:rs.length≤100):∀(n:Nat) (v:Int) (o:List zn),0≤v→v≤rs.length→rs.length<n+v→(o.length:Int)≤1000*v→
  y4R rs c de k n o v=k (o++(y38 v (rs.length-v.toNat)).flatMap fun v=>yX y3r (VE c rs de v))
 | 0,v,o,h0,h1,h2,h3=>by omega
 | n+1,v,o,h0,h1,h2,h3=>by
  rw[y4R]
  by_cases h:v<rs.length
  ·have hrl:=hr _ (yU h0 h)
   rw[if_pos (decide_eq_true h),show rs.length-v.toNat=(rs.length-(v+1).toNat)+1 by omega,y38,List.flatMap_cons]
   refine y1E (P:=fun x=>x=_) fun k1 hk1=>?_
   rw[yt ⟨h0,h⟩]
   refine y1E (P:=fun x=>x=_) fun k2 hk2=>?_
   have h4:=ygu (k:=k2) (c:=c) (de:=de) ⟨h0,h⟩ hrl yx 0 ⟨[],[]⟩ (by omega) (by omega) (by rw[yP];omega) (by simp)
   simp only[Int.toNat_zero,List.drop_zero] at h4
   have hi:=VE_inv c rs de v
   have hlen:=VE_len (c:=c) (rs:=rs) (de:=de) (v:=v)
   rw[h4,hk2]
   have hi1:((VE c rs de v).map (·.fNode)).Nodup:=hi.nd
   have hi2:∀ x∈VE c rs de v,x.fVL=v∧0≤x.fNode∧x.fNode<nM c:=fun x hx=>by obtain⟨a1,a2,a3,_⟩:=hi.vl x hx;exact⟨a1,a2,a3⟩
   rw[show((nth rs v).foldl (est c (nth rs v) de v) ⟨[],[]⟩).ends=VE c rs de v from rfl]
   rw[sortE_eq (v:=v) hS hi1 hi2 (by omega),oB]
   have hsl:=y6Y y3r (VE c rs de v)
   rw[yt (by rw[List.length_append];omega),hk1,yy (x:=v+1) (by omega),yhB hS hr hl n (v+1) _ (by omega) (by omega) (by omega) (by rw[List.length_append];omega),List.append_assoc]
  ·rw[if_neg (by simpa using h),show rs.length-v.toNat=0 by omega];simp[y38]
def dem(l:List PB):DM:=l.foldr (fun b m=>yF m (pbk b) b.fDelay) []
theorem ygv{l:List PB}{k:DM→Option (List zn)}(hl:l.length≤1000000):∀(n:Nat) (i:Int) (m:DM),-1≤i→i<l.length→i+1<n→y4P l k n i m=k ((l.take (i+1).toNat).foldr (fun b m=>yF m (pbk b) b.fDelay) m)
 | 0,i,m,h0,h1,h2=>by omega
 | n+1,i,m,h0,h1,h2=>by
  rw[y4P]
  by_cases h:i≥0
  ·rw[if_pos (decide_eq_true h),yt ⟨h,h1⟩,yy (x:=i-1) (by omega),ygv hl n (i-1) _ (by omega) (by omega) (by omega)]
   congr 1
   have h3:i.toNat<l.length:=by omega
   rw[show(i+1).toNat=i.toNat+1 by omega,show(i-1+1).toNat=i.toNat by omega,List.take_succ,List.getElem?_eq_getElem h3,List.foldr_append]
   rw[y5w ⟨h,h1⟩]
   rfl
  ·rw[if_neg (by simpa using h),show(i+1).toNat=0 by omega];rfl
def EN(c:Cf)(rs:List (List Hop))(ps:List PB):List zn:=(y38 0 rs.length).flatMap fun v=>yX y3r (VE c rs (dem ps) v)
theorem yiK{rs:List (List Hop)}{c:Cf}{net:Int}(hv:∀ r∈rs,VR c net r)(hl:rs.length<1000000000):y18 rs (fun y0=>y4u y0)=some false:=by
 unfold y18 y1S
 have hF:=yP
 generalize yx=N at hF ⊢
 have hf:∀ y∈rs,y4u y=some false:=fun y hy=>by unfold y4u;rw[(hv y hy).tree];rfl
 refine y55 (P:=fun o=>(o.bind fun x=>some (decide (x≥0)))=some false) fun k hk=>?_
 rcases yaZ (f:=fun y0=>y4u y0) (k:=k) (fun y hy=>⟨false,hf y hy⟩) hl N 0 (by omega) (by omega) (by omega) with⟨i,i1,i2,i3,i4⟩ | ⟨i1,i2⟩
 ·rw[hf _ (yU i1 i2)] at i3;cases i3
 ·rw[i2,hk];rfl
theorem yhC{c:Cf}{net:Int}{rs:List (List Hop)}{ps:List PB}(hS:Small c)(hv:∀ r∈rs,VR c net r)(hl:rs.length≤100)(hp:ps.length≤1000000):y6C c rs ps=some (EN c rs ps):=by
 unfold y6C
 rw[yiK hv (by omega),oB,if_neg (by simp)]
 refine y1E (P:=fun o=>o=_) fun k hk=>?_
 have h1:=ygv (k:=k) hp yx (((ps.length:Nat):Int)-1) [] (by omega) (by omega) (by rw[yP];omega)
 rw[yy (x:=((ps.length:Nat):Int)-1) (by omega),h1,hk,show(((ps.length:Nat):Int)-1+1).toNat=ps.length by omega,List.take_length]
 refine y1E (P:=fun o=>o=_) fun k2 hk2=>?_
 have h2:=yhB (k:=k2) (de:=dem ps) hS (fun r hr=>by have:=(hv r hr).len;omega) hl yx 0 [] (by omega) (by omega) (by rw[yP];omega) (by simp)
 simp only[Int.toNat_zero,Nat.sub_zero,List.nil_append] at h2
 rw[show(ps.foldr (fun b m=>yF m (pbk b) b.fDelay) ([]:DM))=dem ps from rfl,h2,hk2]
 rfl
end Go.Proofs.YthjnhebofpebpaaGreat
namespace Go.Proofs.YthjnhebofpebpaaGreat
open Go Go.RowKit Sep
/-! ### virtual links -/
def gapL:List Int:=[100,200,400,800,1600,3200,6400,12800]
theorem gap_eq(b:Int):y83 b=some (decide (b∈gapL)):=by
 unfold y83
 have hF:yx=(yx-9)+9:=by rw[yP]
 rw[hF]
 generalize yx-9=N
 refine y55 (P:=fun o=>o=_) fun k hk=>?_
 have hstep:∀(n:Nat) (x:Int),0≤x→x≤12800→y3q b k (n+1) x=if x=b then some true else y3q b k n (2*x):=fun n x h0 h1=>by
  rw[y3q,if_pos (decide_eq_true h1),yy (x:=x*2) (by omega),Int.mul_comm]
  by_cases h:x=b
  ·rw[if_pos (decide_eq_true h),if_pos h]
  ·rw[if_neg (by simpa using h),if_neg h]
 have hend:y3q b k (N+1) (2*12800)=some false:=by
  rw[y3q,if_neg (by decide),hk]
 rw[hstep _ 100 (by omega) (by omega),hstep _ (2*100) (by omega) (by omega),hstep _ (2*(2*100)) (by omega) (by omega),hstep _ (2*(2*(2*100))) (by omega) (by omega),hstep _ (2*(2*(2*(2*100)))) (by omega) (by omega),hstep _ (2*(2*(2*(2*(2*100))))) (by omega) (by omega),hstep _ (2*(2*(2*(2*(2*(2*100)))))) (by omega) (by omega),hstep _ (2*(2*(2*(2*(2*(2*(2*100))))))) (by omega) (by omega)]
 have:(2*(2*(2*(2*(2*(2*(2*(2*100)))))) ):Int)=2*12800:=by decide
 rw[this,hend]
 unfold gapL
 repeat' split
 all_goals
  simp only[Option.some.injEq]
  first
  | (symm;rw[decide_eq_true_iff];simp only[List.mem_cons,List.not_mem_nil,or_false];omega)
  | (symm;rw[decide_eq_false_iff_not];simp only[List.mem_cons,List.not_mem_nil,or_false];omega)
def vok(v:z14):Prop:=v.fBag∈gapL∧1≤v.fMax∧v.fMax≤72
instance (v:z14):Decidable (vok v):=inferInstanceAs (Decidable (_∧_))
theorem vl1_eq(v:z14):y2Y v=some (!decide (vok v)):=by
 unfold y2Y vok
 rw[gap_eq,oB]
 congr 1
 by_cases h1:v.fBag∈gapL <;> by_cases h2:1≤v.fMax <;> by_cases h3:v.fMax≤72 <;> simp[h1,h2,h3] <;> omega
theorem ycU{l:List z14}{k:Option Int}(hl:l.length<1000000000):∀(n:Nat) (v:Int),0≤v→v≤l.length→l.length<n+v→
  ((∃ i:Int,v≤i∧i<l.length∧¬vok (nth l i)∧y1b l (fun y0=>y2Y y0) k n v=some i)∨((∀ i:Int,v≤i→i<l.length→vok (nth l i))∧y1b l (fun y0=>y2Y y0) k n v=k))
 | 0,v,h0,h1,h2=>by omega
 | n+1,v,h0,h1,h2=>by
  rw[y1b]
  by_cases h:v<l.length
  ·rw[if_pos (decide_eq_true h),yt ⟨h0,h⟩]
   have e:(⟨((nth l v).fName),(⟨(((nth l v).fFrom).fModule),(((nth l v).fFrom).fPart),(((nth l v).fFrom).fPort)⟩:Sapi_Ref),((nth l v).fBag),((nth l v).fMax),((nth l v).fTo)⟩:z14)=nth l v:=rfl
   rw[e,vl1_eq,oB]
   by_cases hv:vok (nth l v)
   ·rw[if_neg (by simpa using hv),yy (x:=v+1) (by omega)]
    rcases ycU hl n (v+1) (by omega) (by omega) (by omega) (k:=k) with⟨i,i1,i2,i3,i4⟩ | ⟨i1,i2⟩
    ·exact .inl ⟨i,by omega,i2,i3,i4⟩
    ·refine .inr ⟨fun i j1 j2=>?_,i2⟩
     by_cases e:i=v
     ·rw[e];exact hv
     ·exact i1 i (by omega) j2
   ·rw[if_pos (by simpa using hv)]
    exact .inl ⟨v,Int.le_refl _,h,hv,rfl⟩
  ·rw[if_neg (by simpa using h)]
   exact .inr ⟨fun i h1 h2=>by omega,rfl⟩
def VOK(c:Cf):Prop:=∀ v∈c.fVLs,vok v
theorem vls_eq{c:Cf}(hl:c.fVLs.length<1000000000):∃ b,y22 c.fVLs (fun y0=>y2Y y0)=some b∧(b=false↔VOK c):=by
 unfold y22 y3h
 have hF:=yP
 generalize yx=N at hF ⊢
 refine y55 (P:=fun o=>∃ b,(o.bind fun x=>some (decide (x≥0)))=some b∧(b=false↔VOK c)) fun k hk=>?_
 rcases ycU (k:=k) hl N 0 (by omega) (by omega) (by omega) with⟨i,i1,i2,i3,i4⟩ | ⟨i1,i2⟩
 ·refine⟨true,by rw[i4];simp[i1],?_⟩
  simp only[Bool.true_eq_false,false_iff]
  exact fun h=>i3 (h _ (yU i1 i2))
 ·refine⟨false,by rw[i2,hk];rfl,?_⟩
  simp only[true_iff]
  intro v hv
  obtain⟨i,j0,j1,rfl⟩:=y6D hv
  exact i1 i j0 j1
theorem VOK.vls{c:Cf}(h:VOK c):VLs c:=fun v hv=>by
 obtain⟨h1,h2,h3⟩:=h v hv
 refine⟨?_,h2,h3⟩
 unfold gapL at h1
 simp only[List.mem_cons,List.not_mem_nil,or_false] at h1
 omega
/-! ### the whole computation -/
theorem VA.pi{c:Cf}{net:Int}{rs:List (List Hop)}(hS:Small c)(hv:VA c net rs){p:Pl}(hp:p∈PS rs):PI c p:=by
 obtain⟨r,hr,h,hh,rfl⟩:=(y7B rs p).1 hp
 obtain⟨i,i0,i1,rfl⟩:=y6D hh
 obtain⟨_,_,_,j0,j1,_,_,_,_,jf1,jf2,jj⟩:=(hv.each r hr).cond i i0 i1
 have hA:=(fA_eq hS (nth r i).fQ).2
 have hB:=(fB_eq hS (nth r i).fQ).2
 refine⟨j0,j1,?_,?_⟩
 ·have a1:=jf1.1;have a2:=jf2.1
  show 0≤(nth r i).fNode
  rcases jj with⟨e,_⟩ | ⟨_,e⟩ <;> omega
 ·show(nth r i).fNode<nN c
  rcases jj with⟨e,_⟩ | ⟨_,e⟩ <;> omega
def w0:WS:=⟨[],0,[],[]⟩
theorem ygw{c:Cf}{rs:List (List Hop)}:∀(l:List Pl) (s t:WS),y9Q c rs l s = .inl t→t.out.map pbk=s.out.map pbk++l∧t.out.length=s.out.length+l.length∧(s.e=0→t.e=0)
 | [],s,t,h=>by injection h with h;subst h;simp
 | p::l,s,t,h=>by
  rw[y9Q] at h
  split at h
  ·cases h
  ·rename_i he
   obtain⟨h1,h2,h3⟩:=ygw l _ t h
   have e:(wst c rs s p).out=s.out++[(PO c rs s.bu s.de s.e p).1]:=rfl
   rw[e] at h1 h2
   refine⟨?_,?_,fun _=>h3 (by simpa using he)⟩
   ·rw[h1,List.map_append,List.append_assoc];rfl
   ·rw[h2];simp;omega
inductive CP (c:Cf) (net:Int) (rs:List (List Hop)):S39×Int→Prop
 | route:¬VA c net rs→CP c net rs (⟨[],[]⟩,310)
 | vl:VA c net rs→¬VOK c→CP c net rs (⟨[],[]⟩,350)
 | cycle (s:List Pl):VA c net rs→VOK c→y9g rs s→CP c net rs (⟨[],[]⟩,351)
 | err (l:List Pl) (e:Int):VA c net rs→VOK c→l.Perm (PS rs)→y37 rs l→y9Q c rs l w0 = .inr e→e≠0→CP c net rs (⟨[],[]⟩,e)
 | ok (l:List Pl) (t:WS):VA c net rs→VOK c→l.Perm (PS rs)→y37 rs l→y9Q c rs l w0 = .inl t→CP c net rs (⟨yX y2f t.out,EN c rs (yX y2f t.out)⟩,0)
theorem ygx{c:Cf}{rs:List (List Hop)}:∀(l:List Pl) (s:WS) (e:Int),y9Q c rs l s = .inr e→e≠0
 | [],s,e,h=>by cases h
 | p::l,s,e,h=>by
  rw[y9Q] at h
  split at h
  ·rename_i he
   injection h with h;subst h;exact he
  ·exact ygx l _ e h
theorem yi6{c:Cf}{net:Int}{rs:List (List Hop)}(hf:FewP c rs):∃ x,y6e c net rs=some x∧CP c net rs x:=by
 have hS:=hf.small
 have hr1:∀ r∈rs,r.length<1000000000:=fun r hr=>by have:=hf.e r hr;omega
 have hrs:=hf.r
 obtain⟨b,q1,q2⟩:=yaw hS (net:=net) (rs:=rs) hr1 (by omega)
 unfold y6e
 rw[q1,oB]
 cases b with
 | false=>
  rw[if_pos (by rfl)]
  exact⟨_,rfl,.route fun h=>by have:=q2.2 h;cases this⟩
 | true=>
 have hv:=q2.1 rfl
 rw[if_neg (by simp)]
 obtain⟨b,r1,r2⟩:=vls_eq (c:=c) (by have:=hf.v;omega)
 rw[r1,oB]
 cases b with
 | true=>
  rw[if_pos rfl]
  exact⟨_,rfl,.vl hv fun h=>by have:=r2.2 h;cases this⟩
 | false=>
 have hvo:=r2.1 rfl
 rw[if_neg (by simp)]
 have hps:=ycO hf.e
 have h3:rs.length*40≤20*40:=Nat.mul_le_mul_right _ hrs
 rcases ygf (rs:=rs) (fun r h=>by have:=hf.e r h;omega) (by omega) with⟨l,e1,e2,e3⟩ | ⟨s,e1,e2⟩
 ·rw[e3,oB,if_neg (by simp)]
  have hlen:=e1.length_eq
  refine y1E (P:=fun o=>∃ x,o=some x∧CP c net rs x) fun k hk=>?_
  have hL:=yeF (l:=(l,0)) (k:=k) (rs:=rs) hvo.vls hv.len hr1 hv.most hf.l hS (fun p hp=>hv.pi hS (e1.subset hp)) (by show l.length≤_;omega) yx 0 w0 (by omega) (by simp) (by rw[yP];show((l.length:Nat):Int)<_;omega) rfl
  simp only[Int.toNat_zero,List.drop_zero] at hL
  rw[show(0:Int)=w0.e from rfl,show([]:List PB)=w0.out from rfl,show([]:BM)=w0.bu from rfl,show([]:DM)=w0.de from rfl]
  rw[show y2M (l,w0.e) c rs k yx w0.e w0.e w0.out w0.bu w0.de=y2M (l,0) c rs k yx 0 w0.e w0.out w0.bu w0.de from rfl,hL]
  cases hrun:y9Q c rs l w0 with
  | inr e=>exact⟨_,rfl,.err l e hv hvo e1 e2 hrun (ygx _ _ _ hrun)⟩
  | inl t=>
   obtain⟨o1,o2,o3⟩:=ygw l w0 t hrun
   have hol:t.out.length=l.length:=by rw[o2];simp[w0]
   have hmap:t.out.map pbk=l:=by rw[o1];simp[w0]
   simp only
   rw[hk,(yiJ (by rw[hmap];exact e1.nodup_iff.2 (y9b rs)) (by omega)).1,oB]
   rw[yhC (net:=net) hS hv.each (by omega) (by rw[y6Y];omega),oB]
   exact⟨_,rfl,.ok l t hv hvo e1 e2 hrun⟩
 ·rw[e2,oB,if_pos (by simp)]
  exact⟨_,rfl,.cycle s hv hvo e1⟩
end Go.Proofs.YthjnhebofpebpaaGreat
namespace Go.Proofs.YthjnhebofpebpaaGreat
open Go Go.RowKit Sep
/-! ### jitters -/
def y3v(c:Cf)(n:Int):Int:=if n-nM c≥0 then(nth c.fS (n-nM c)).fDelay else 0
def slw(c:Cf)(k:Int):Int:=(nth c.fK k).fSlow
theorem yeG{c:Cf}(hS:Small c){n:Int}(h0:0≤n)(h1:n<nN c):y4x c n=some (y3v c n):=by
 have:=hS.m;have:=hS.s
 unfold y4x y3v nM
 unfold nN at h1
 rw[yy (by omega)]
 by_cases h:n-(c.fM.length:Int)≥0
 ·rw[if_pos (by simpa using h),if_pos h,yt ⟨by omega,by omega⟩]
 ·rw[if_neg (by simpa using h),if_neg h]
structure HV (c:Cf) (h:Hop):Prop where
 l0:0≤h.fQ
 l1:h.fQ<c.fK.length
 n0:0≤h.fNode
 n1:h.fNode<nN c
 x0:0≤h.fNext
 x1:h.fNext<nN c
 s0:1≤slw c h.fQ
 s1:slw c h.fQ≤16
 d0:0≤y3v c h.fNode
 d1:y3v c h.fNode≤1000
theorem ya5.lat{c:Cf}{net n:Int}(h:ya5 c net n):0≤n∧0≤y3v c n∧y3v c n≤1000:=by
 obtain⟨h0,h⟩:=h
 refine⟨h0,?_⟩
 unfold y3v
 rcases h with h | ⟨_,h1,h2,_⟩
 ·rw[if_neg (by omega)];omega
 ·split
  ·exact⟨h1,h2⟩
  ·omega
theorem VR.hop{c:Cf}{net:Int}{r:List Hop}(hS:Small c)(h:VR c net r){x:Hop}(hx:x∈r):HV c x:=by
 obtain⟨i,i0,i1,rfl⟩:=y6D hx
 obtain⟨_,_,_,l0,l1,_,s0,s1,_,fa,fb,ho⟩:=h.cond i i0 i1
 obtain⟨_,_,a2⟩:=fA_eq hS (nth r i).fQ
 obtain⟨_,_,b2⟩:=fB_eq hS (nth r i).fQ
 have ha:=fa.lat;have hb:=fb.lat
 rcases ho with⟨e1,e2⟩ | ⟨e1,e2⟩
 ·rw[e1] at ha a2;rw[e2] at hb b2
  exact⟨l0,l1,ha.1,a2,hb.1,b2,s0,s1,ha.2.1,ha.2.2⟩
 ·rw[e1] at ha a2;rw[e2] at hb b2
  exact⟨l0,l1,hb.1,b2,ha.1,a2,s0,s1,hb.2.1,hb.2.2⟩
def jst(c:Cf)(D:Pl→Int)(mp:List (Int×Int))(h:Hop):List (Int×Int):=yF mp h.fNext (yf mp h.fNode 0+D (pk h)-y3v c h.fNode-slw c h.fQ)
def jn(c:Cf)(D:Pl→Int)(r:List Hop)(n:Int):Int:=yf (r.foldl (jst c D) []) n 0
theorem yc5{c:Cf}{D:Pl→Int}{n:Int}:∀(l:List Hop) (mp:List (Int×Int)),(∀ g∈l,g.fNext≠n)→yf (l.foldl (jst c D) mp) n 0=yf mp n 0
 | [],mp,_=>rfl
 | g::l,mp,h=>by
  rw[List.foldl_cons,yc5 l _ fun x hx=>h x (List.mem_cons_of_mem _ hx)]
  unfold jst;rw[y3j,if_neg fun e=>h g (by simp) e.symm]
theorem VR.rk{c:Cf}{net:Int}{r:List Hop}(h:VR c net r){v:Int}(v0:0≤v)(v1:v<r.length){q:Int}(q0:v≤q)(q1:q<r.length):(nth r q).fNext≠(nth r v).fNode:=by
 intro e
 obtain⟨h1,_⟩:=h.cond v v0 v1
 obtain⟨_,h2,_⟩:=h.cond q (by omega) q1
 rcases h1 with h1 | ⟨k,k0,k1,h1⟩
 ·exact h2 (.inl (e.trans h1))
 ·exact h2 (.inr ⟨k,k0,by omega,h1.trans e.symm⟩)
theorem ycV{r:List Hop}{v:Int}{g:Hop}(v0:0≤v)(hg:g∈r.drop v.toNat):∃ q:Int,v≤q∧q<r.length∧nth r q=g:=by
 obtain⟨i,hi,rfl⟩:=List.getElem_of_mem hg
 rw[List.length_drop] at hi
 refine⟨v.toNat+i,by omega,by omega,?_⟩
 rw[y5w ⟨by omega,by omega⟩,List.getElem_drop]
 simp only[show((v.toNat:Int)+i).toNat=v.toNat+i by omega]
theorem ygy{c:Cf}{D:Pl→Int}{r:List Hop}{n:Int}(v:Nat):jn c D r n=yf ((r.drop v).foldl (jst c D) ((r.take v).foldl (jst c D) [])) n 0:=by
 unfold jn;rw[← List.foldl_append,List.take_append_drop]
theorem VR.jn_take{c:Cf}{net:Int}{r:List Hop}(h:VR c net r)(D:Pl→Int){v:Int}(v0:0≤v)(v1:v<r.length):yf ((r.take v.toNat).foldl (jst c D) []) (nth r v).fNode 0=jn c D r (nth r v).fNode:=by
 rw[ygy v.toNat]
 symm
 refine yc5 _ _ fun g hg=>?_
 obtain⟨q,q0,q1,rfl⟩:=ycV v0 hg
 exact h.rk v0 v1 q0 q1
theorem VR.jn_next{c:Cf}{net:Int}{r:List Hop}(h:VR c net r)(D:Pl→Int){g:Hop}(hg:g∈r):jn c D r g.fNext=jn c D r g.fNode+D (pk g)-y3v c g.fNode-slw c g.fQ:=by
 obtain⟨v,v0,v1,rfl⟩:=y6D hg
 rw[← h.jn_take D v0 v1]
 rw[ygy v.toNat,y4a v0 v1,List.foldl_cons,yc5]
 ·unfold jst;rw[y3j,if_pos rfl]
 ·intro x hx e
  obtain⟨q,q0,q1,rfl⟩:=ycV (v:=v+1) (by omega) (by rw[show(v+1).toNat=v.toNat+1 by omega];exact hx)
  obtain⟨_,h2,_⟩:=h.cond q (by omega) q1
  exact h2 (.inr ⟨v,v0,by omega,e.symm⟩)
theorem jn_zero{c:Cf}{D:Pl→Int}{r:List Hop}{n:Int}(h:∀ g∈r,g.fNext≠n):jn c D r n=0:=by
 unfold jn;rw[yc5 _ _ h];rfl
theorem VR.start{c:Cf}{net:Int}{r:List Hop}(h:VR c net r):∀ g∈r,g.fNext≠(nth r 0).fNode:=by
 intro g hg e
 obtain⟨v,v0,v1,rfl⟩:=y6D hg
 exact(h.cond v v0 v1).2.1 (.inl e)
theorem VR.jn_start{c:Cf}{net:Int}{r:List Hop}(h:VR c net r)(D:Pl→Int):jn c D r (nth r 0).fNode=0:=jn_zero h.start
theorem VR.ind{c:Cf}{net:Int}{r:List Hop}(h:VR c net r){P:Hop→Prop}(hb:∀ x∈r,x.fNode=(nth r 0).fNode→P x)(hs:∀ g∈r,∀ x∈r,g.fNext=x.fNode→P g→P x):∀ x∈r,P x:=by
 have key:∀ n:Nat,∀ v:Int,0≤v→v<r.length→v.toNat<n→P (nth r v):=by
  intro n
  induction n with
  | zero=>intro v _ _ h;omega
  | succ n ih=>
   intro v v0 v1 hv
   rcases(h.cond v v0 v1).1 with e | ⟨q,q0,q1,e⟩
   ·exact hb _ (yU v0 v1) e
   ·exact hs _ (yU q0 (by omega)) _ (yU v0 v1) e (ih q q0 (by omega) (by omega))
 intro x hx
 obtain⟨v,v0,v1,rfl⟩:=y6D hx
 exact key (v.toNat+1) v v0 v1 (by omega)
theorem VR.from{c:Cf}{net:Int}{r:List Hop}(h:VR c net r){x:Hop}(hx:x∈r):x.fNode=(nth r 0).fNode∨∃ g∈r,g.fNext=x.fNode:=by
 obtain⟨v,v0,v1,rfl⟩:=y6D hx
 rcases(h.cond v v0 v1).1 with e | ⟨q,q0,q1,e⟩
 ·exact .inl e
 ·exact .inr ⟨_,yU q0 (by omega),e⟩
theorem yfw{c:Cf}{D:Pl→Int}(hS:Small c){M:Int}(hM:0≤M):∀(l:List Hop) (mp:List (Int×Int)) (B:Int),(∀ h∈l,HV c h ∧ -M≤D (pk h)∧D (pk h)≤M)→(∀ n,-B≤yf mp n 0∧yf mp n 0≤B)→∀ n,-(B+l.length*(M+1016))≤yf (l.foldl (jst c D) mp) n 0∧yf (l.foldl (jst c D) mp) n 0≤B+l.length*(M+1016)
 | [],mp,B,_,h,n=>by have:=h n;simpa using this
 | g::l,mp,B,hh,h,n=>by
  have hg:=hh g (by simp)
  have:=yfw hS hM l (jst c D mp g) (B+(M+1016)) (fun x hx=>hh x (List.mem_cons_of_mem _ hx)) (fun n=>by
   unfold jst;rw[y3j]
   have h1:=h n;have h2:=h g.fNode
   have a:=hg.1.s0;have b:=hg.1.s1;have d:=hg.1.d0;have e:=hg.1.d1
   split <;> omega) n
  rw[List.foldl_cons,List.length_cons]
  have e:((l.length+1:Nat):Int)*(M+1016)=l.length*(M+1016)+(M+1016):=by push_cast;rw[Int.add_mul];omega
  omega
theorem ygz{c:Cf}{net:Int}{D:Pl→Int}{r:List Hop}(hS:Small c)(hv:VR c net r){M:Int}(hM:0≤M)(hD:∀ h∈r,-M≤D (pk h)∧D (pk h)≤M)(v:Nat)(n:Int) : -(32*(M+1016))≤yf ((r.take v).foldl (jst c D) []) n 0∧yf ((r.take v).foldl (jst c D) []) n 0≤32*(M+1016):=by
 have h:=yfw (c:=c) (D:=D) hS hM (r.take v) [] 0 (fun h hh=>⟨hv.hop hS (List.mem_of_mem_take hh),hD h (List.mem_of_mem_take hh)⟩) (fun n=>by simp[yf]) n
 have hl:(r.take v).length≤32:=by have:=hv.len;rw[List.length_take];omega
 have:((r.take v).length:Int)*(M+1016)≤32*(M+1016):=Int.mul_le_mul_of_nonneg_right (by omega) (by omega)
 omega
theorem i3{a b d s M:Int}(h1 : -(32*(M+1016))≤a∧a≤32*(M+1016))(h2 : -M≤b∧b≤M)(h3:0≤d∧d≤1000)(h4:1≤s∧s≤16)(h5:M≤1099511627776):i64 (i64 (i64 (a+b)-d)-s)=a+b-d-s:=by
 rw[yy (x:=a+b) (by omega),yy (x:=a+b-d) (by omega),yy (by omega)]
theorem ycW{c:Cf}{net:Int}{r:List Hop}{de:DM}{k:List Int→Option (List Int)}(hS:Small c)(hv:VR c net r){M:Int}(hM:0≤M)(hM1:M≤1099511627776)(hD:∀ h∈r,-M≤yf de (pk h) 0∧yf de (pk h) 0≤M):∀(n:Nat) (v:Int),0≤v→v≤r.length→r.length<n+v→
  y35 r c de k n ((r.take v.toNat).map fun h=>jn c (fun q=>yf de q 0) r h.fNode) v ((r.take v.toNat).foldl (jst c fun q=>yf de q 0) [])=k (r.map fun h=>jn c (fun q=>yf de q 0) r h.fNode)
 | 0,v,h0,h1,h2=>by omega
 | n+1,v,h0,h1,h2=>by
  have hr:=hv.len
  rw[y35]
  by_cases h:v<r.length
  ·have hx:=hv.hop hS (yU h0 h)
   have hb:=ygz (D:=fun q=>yf de q 0) hS hv hM hD v.toNat (nth r v).fNode
   have hd:=hD _ (yU h0 h)
   have s0:=hx.s0;have s1:=hx.s1;have d0:=hx.d0;have d1:=hx.d1
   rw[if_pos (decide_eq_true h),yt ⟨h0,h⟩,yt,yeG hS hx.n0 hx.n1]
   ·simp only[oB]
    rw[yt ⟨hx.l0,hx.l1⟩,yy (x:=v+1) (by omega)]
    have e1:r.take (v+1).toNat=r.take v.toNat++[nth r v]:=by
     rw[show(v+1).toNat=v.toNat+1 by omega,List.take_succ_eq_append_getElem (by omega),y5w ⟨h0,h⟩]
    have:=ycW (k:=k) (de:=de) hS hv hM hM1 hD n (v+1) (by omega) (by omega) (by omega)
    rw[e1,List.map_append,List.foldl_append] at this
    rw[← this]
    congr 1
    ·rw[hv.jn_take _ h0 h];rfl
    ·show yF _ _ _=yF _ _ _
     congr 1
     have e:(⟨(nth r v).fNode,(nth r v).fQ⟩:z8)=pk (nth r v):=rfl
     unfold slw at s0 s1 ⊢
     rw[e]
     exact i3 hb hd ⟨d0,d1⟩ ⟨s0,s1⟩ hM1
   ·rw[List.length_append,List.length_map,List.length_take]
    simp only[List.length_cons,List.length_nil]
    omega
  ·rw[if_neg (by simpa using h),List.take_of_length_le (by omega)]
theorem yeH{c:Cf}{net:Int}{r:List Hop}{de:DM}(hS:Small c)(hv:VR c net r)(hD:∀ h∈r,-1099511627776≤yf de (pk h) 0∧yf de (pk h) 0≤1099511627776):
  y4y c r de=some (r.map fun h=>jn c (fun q=>yf de q 0) r h.fNode):=by
 unfold y4y
 have hF:=yP
 generalize yx=N at hF ⊢
 refine y1E (P:=fun o=>o=some (r.map fun h=>jn c (fun q=>yf de q 0) r h.fNode)) fun k hk=>?_
 have hr:=hv.len
 have:=ycW (k:=k) (M:=1099511627776) hS hv (by omega) (by omega) hD N 0 (by omega) (by omega) (by omega)
 simp only[Int.toNat_zero,List.take_zero,List.map_nil,List.foldl_nil] at this
 rw[this,hk]
theorem VR.jn_le{c c':Cf}{net:Int}{r:List Hop}(h:VR c net r)(h':VR c' net r)(hl:∀ g∈r,y3v c g.fNode=y3v c' g.fNode∧slw c g.fQ=slw c' g.fQ){D D':Pl→Int}{S:Pl→Prop}(hS:∀ x∈r,S (pk x)→∀ g∈r,g.fNext=x.fNode→S (pk g)∧D (pk g)≤D' (pk g)):∀ x∈r,S (pk x)→jn c D r x.fNode≤jn c' D' r x.fNode:=by
 refine h.ind (P:=fun x=>S (pk x)→jn c D r x.fNode≤jn c' D' r x.fNode) (fun x hx e _=>?_) (fun g hg x hx e ih hs=>?_)
 ·rw[e,h.jn_start,h'.jn_start];omega
 ·obtain⟨h1,h2⟩:=hS x hx hs g hg e
  have:=ih h1
  rw[← e,h.jn_next D hg,h'.jn_next D' hg,(hl g hg).1,(hl g hg).2]
  omega
theorem VR.jn_eq{c:Cf}{net:Int}{r:List Hop}(h:VR c net r){D D':Pl→Int}{S:Pl→Prop}(hS:∀ x∈r,S (pk x)→∀ g∈r,g.fNext=x.fNode→S (pk g)∧D (pk g)=D' (pk g)):∀ x∈r,S (pk x)→jn c D r x.fNode=jn c D' r x.fNode:=by
 intro x hx hs
 have h1:=h.jn_le h (fun g _=>⟨rfl,rfl⟩) (D:=D) (D':=D') (S:=S) (fun x hx hs g hg e=>⟨(hS x hx hs g hg e).1,by rw[(hS x hx hs g hg e).2];omega⟩) x hx hs
 have h2:=h.jn_le h (fun g _=>⟨rfl,rfl⟩) (D:=D') (D':=D) (S:=S) (fun x hx hs g hg e=>⟨(hS x hx hs g hg e).1,by rw[(hS x hx hs g hg e).2];omega⟩) x hx hs
 omega
end Go.Proofs.YthjnhebofpebpaaGreat
namespace Go.Proofs.YthjnhebofpebpaaGreat
open Go Go.RowKit Sep
/-! ### sums -/
def y5c:List Int→Int
 | []=>0
 | x::l=>x+y5c l
theorem yiL{l l':List Int}(h:l.Perm l'):y5c l=y5c l':=by
 induction h with
 | nil=>rfl
 | cons x _ ih=>simp only[y5c,ih]
 | swap x y l=>simp only[y5c];omega
 | trans _ _ a b=>exact a.trans b
theorem ydj{α:Type}{f g:α→Int}:∀ {l:List α},(∀ x∈l,f x≤g x)→y5c (l.map f)≤y5c (l.map g)
 | [],_=>by simp[y5c]
 | x::l,h=>by
  have:=ydj (l:=l) fun y hy=>h y (List.mem_cons_of_mem _ hy)
  have:=h x (by simp)
  simp only[List.map_cons,y5c];omega
theorem ydD{α:Type}{f:α→Int}{p:α→Bool}:∀ {l:List α},(∀ x∈l,p x=false→f x=0)→y5c ((l.filter p).map f)=y5c (l.map f)
 | [],_=>rfl
 | x::l,h=>by
  have ih:=ydD (f:=f) (p:=p) (l:=l) fun y hy=>h y (List.mem_cons_of_mem _ hy)
  rw[List.filter_cons]
  split
  ·simp only[List.map_cons,y5c,ih]
  ·rename_i hp
   simp only[List.map_cons,y5c,ih,h x (by simp) (by simpa using hp)];omega
theorem yb0{α:Type}{f:α→Int}{l:List α}(h:∀ x∈l,0≤f x):0≤y5c (l.map f):=by
 have:=ydj (f:=fun _=>0) (g:=f) h
 have e:∀ l:List α,y5c (l.map fun _=>0)=0:=by
  intro l;induction l with
  | nil=>rfl
  | cons x l ih=>simp only[List.map_cons,y5c,ih];rfl
 rw[e] at this;exact this
theorem yc6{α:Type}{f:α→Int}{M:Int}:∀ {l:List α},(∀ x∈l,f x≤M)→y5c (l.map f)≤l.length*M
 | [],_=>by simp[y5c]
 | x::l,h=>by
  have:=yc6 (f:=f) (l:=l) fun y hy=>h y (List.mem_cons_of_mem _ hy)
  have:=h x (by simp)
  simp only[List.map_cons,y5c,List.length_cons]
  have e:((l.length+1:Nat):Int)*M=l.length*M+M:=by push_cast;rw[Int.add_mul];omega
  omega
theorem ygA{α:Type}{f:α→Int}{l:List α}(h:∀ x∈l,0≤f x){x:α}(hx:x∈l):f x≤y5c (l.map f):=by
 induction l with
 | nil=>simp at hx
 | cons y l ih=>
  have h1:=yb0 (f:=f) (l:=l) fun z hz=>h z (List.mem_cons_of_mem _ hz)
  have h2:=h y (by simp)
  simp only[List.map_cons,y5c]
  rcases List.mem_cons.1 hx with rfl | hx
  ·omega
  ·have:=ih (fun z hz=>h z (List.mem_cons_of_mem _ hz)) hx;omega
def y8d:List Int→Int
 | []=>0
 | x::l=>max x (y8d l)
theorem yfx(l:List Int)(x:Int)(hx:0≤x):y8d (l++[x])=max (y8d l) x:=by
 induction l with
 | nil=>simp only[List.nil_append,y8d];omega
 | cons y l ih=>simp only[List.cons_append,y8d,ih];omega
theorem yb1:∀ l:List Int,0≤y8d l
 | []=>by simp[y8d]
 | x::l=>by have:=yb1 l;simp only[y8d];omega
theorem maxI_mem{l:List Int}{x:Int}(h:x∈l):x≤y8d l:=by
 induction l with
 | nil=>simp at h
 | cons y l ih=>
  simp only[y8d]
  rcases List.mem_cons.1 h with rfl | h
  ·omega
  ·have:=ih h;omega
theorem yhD{l:List Int}{M:Int}(h0:0≤M)(h:∀ x∈l,x≤M):y8d l≤M:=by
 induction l with
 | nil=>simpa [y8d] using h0
 | cons y l ih=>
  have:=ih fun x hx=>h x (List.mem_cons_of_mem _ hx)
  have:=h y (by simp)
  simp only[y8d];omega
theorem y9e{x:Int}:∀ {n:Nat} {v:Int},x∈y38 v n↔v≤x∧x<v+n
 | 0,v=>by simp only[y38,List.not_mem_nil,false_iff];omega
 | n+1,v=>by
  simp only[y38,List.mem_cons,y9e (n:=n)]
  constructor
  ·rintro(rfl | h) <;> omega
  ·intro h
   by_cases e:x=v
   ·exact .inl e
   ·exact .inr (by omega)
theorem yeI:∀(n:Nat) (v:Int),(y38 v n).Nodup
 | 0,_=>by simp[y38]
 | n+1,v=>by
  simp only[y38,List.nodup_cons]
  exact⟨fun h=>by have:=y9e.1 h;omega,yeI n _⟩
theorem ye0:∀(n:Nat) (v:Int),(y38 v n).length=n
 | 0,_=>rfl
 | n+1,v=>by simp only[y38,List.length_cons,ye0 n]
theorem yfy:∀(n:Nat) (v:Int),y38 v (n+1)=y38 v n++[v+n]
 | 0,v=>by simp[y38]
 | n+1,v=>by
  rw[y38,yfy n (v+1)]
  simp only[y38,List.cons_append]
  rw[show v+1+(n:Int)=v+((n+1:Nat):Int) by push_cast;omega]
/-! ### what comes to an output port -/
structure Fw where
 k:Int
 v:Int
 j:Int
def bgV(c:Cf)(v:Int):Int:=(nth c.fVLs v).fBag
def byt(c:Cf)(x:Fw)(t:Int):Int:=mx c x.v*((t+x.j) / bgV c x.v+1)
def fwL(r:List Hop)(p:Pl):Int:=if (y41 r p.fNode).2 then(y41 r p.fNode).1.fQ else -1
def fwOf(c:Cf)(rs:List (List Hop))(D:Pl→Int)(p:Pl)(v:Int):Fw:=⟨fwL (nth rs v) p,v,jn c D (nth rs v) p.fNode⟩
def vls(rs:List (List Hop))(p:Pl)(n:Nat):List Int:=(y38 0 n).filter fun v=>uses p (nth rs v)
def fws(c:Cf)(rs:List (List Hop))(D:Pl→Int)(p:Pl):List Fw:=(vls rs p rs.length).map (fwOf c rs D p)
def yaC(c:Cf)(l:List Fw)(t L:Int):Int:=y5c ((l.filter fun x=>decide (x.k=L)).map fun x=>byt c x t)
def gwid(c:Cf)(l:List Fw)(L:Int):Int:=y8d ((l.filter fun x=>decide (x.k=L)).map fun x=>mx c x.v)
def y80(c:Cf)(l:List Fw)(t L:Int):Int:=if L<0 then yaC c l t L else min (yaC c l t L) (gwid c l L+t / max 1 (slw c L))
def lks(c:Cf):List Int:=y38 (-1) (c.fK.length+1)
def Arr(c:Cf)(l:List Fw)(t:Int):Int:=y5c ((lks c).map (y80 c l t))
def ya8(c:Cf)(l:List Fw):Int:=y8d (l.map fun x=>mx c x.v)
structure FwOK (c:Cf) (l:List Fw):Prop where
 len:l.length≤16
 v0:∀ x∈l,0≤x.v∧x.v<c.fVLs.length
 k0:∀ x∈l,-1≤x.k∧x.k<c.fK.length
 j0:∀ x∈l,0≤x.j∧x.j≤4294967296
theorem VLs.mx{c:Cf}(h:VLs c){v:Int}(h0:0≤v)(h1:v<c.fVLs.length):1≤mx c v∧mx c v≤72∧100≤bgV c v∧bgV c v≤12800:=by
 obtain⟨⟨a,b⟩,d,e⟩:=h _ (yU h0 h1)
 exact⟨d,e,a,b⟩
theorem y8n{c:Cf}(hv:VLs c){l:List Fw}(hl:FwOK c l){x:Fw}(hx:x∈l){t:Int}(h0:0≤t)(h1:t≤4294967296):1≤byt c x t∧byt c x t≤1099511627776:=by
 obtain⟨a,b,d,e⟩:=hv.mx (hl.v0 x hx).1 (hl.v0 x hx).2
 have hj:=hl.j0 x hx
 unfold byt
 have h2:0≤(t+x.j) / bgV c x.v:=Int.ediv_nonneg (by omega) (by omega)
 have h3:(t+x.j) / bgV c x.v≤t+x.j:=Int.ediv_le_self _ (by omega)
 constructor
 ·have:=Int.mul_le_mul_of_nonneg_right a (show 0≤(t+x.j) / bgV c x.v+1 by omega);omega
 ·have:=Int.mul_le_mul_of_nonneg_right b (show 0≤(t+x.j) / bgV c x.v+1 by omega);omega
theorem ycX{a b:Int}(h:0≤a):a.tdiv b=a / b:=Int.tdiv_eq_ediv_of_nonneg h
def clo(c:Cf)(x:Fw):Int→Option Int:=fun t=>y1h t (nth c.fVLs x.v) x.j
theorem clo_eq{c:Cf}(hv:VLs c){l:List Fw}(hl:FwOK c l){x:Fw}(hx:x∈l){t:Int}(h0:0≤t)(h1:t≤4294967296):clo c x t=some (byt c x t):=by
 have hb:=y8n hv hl hx h0 h1
 obtain⟨a,b,d,e⟩:=hv.mx (hl.v0 x hx).1 (hl.v0 x hx).2
 have hj:=hl.j0 x hx
 unfold clo y1h y6U
 unfold byt mx bgV at *
 have h2:0≤(t+x.j) / (nth c.fVLs x.v).fBag:=Int.ediv_nonneg (by omega) (by omega)
 have h3:(t+x.j) / (nth c.fVLs x.v).fBag≤t+x.j:=Int.ediv_le_self _ (by omega)
 rw[yt (by omega),yy (x:=t+x.j) (by omega),ycX (by omega),yy (x:=(t+x.j) / (nth c.fVLs x.v).fBag) (by omega),yy (x:=(t+x.j) / (nth c.fVLs x.v).fBag+1) (by omega),yy (by omega)]
 rfl
theorem yhE{α:Type}{t M:Int}{F:α→Int→Option Int}{g:α→Int}:∀ {l:List α} {s:Int},(∀ x∈l,F x t=some (g x)∧0≤g x∧g x≤M)→0≤s→s+l.length*M≤4611686018427387904→y7A (l.map F) t s=some (s+y5c (l.map g))
 | [],s,_,_,_=>by simp[y7A,y5c]
 | x::l,s,h,h0,h1=>by
  obtain⟨e,e0,e1⟩:=h x (by simp)
  have hM:0≤(l.length:Int)*M:=Int.mul_nonneg (by omega) (by omega)
  have e2:(((x::l).length:Nat):Int)*M=l.length*M+M:=by rw[List.length_cons];push_cast;rw[Int.add_mul];omega
  rw[List.map_cons,y7A,e,oB,yy (by omega),yhE (l:=l) (fun y hy=>h y (List.mem_cons_of_mem _ hy)) (by omega) (by omega)]
  simp only[List.map_cons,y5c]
  congr 1;omega
theorem yhF{α:Type}{t M:Int}{F:α→Int→Option Int}{g:α→Int}{l:List α}(h:∀ x∈l,F x t=some (g x)∧0≤g x∧g x≤M)(h1:l.length*M≤4611686018427387904)(h2:l.length≤1000000):y28 (l.map F) t=some (y5c (l.map g)):=by
 unfold y28
 rw[yt (by rw[List.length_map];omega),yhE h (by omega) (by omega)]
 simp
theorem yeJ{c:Cf}(hv:VLs c){l:List Fw}(hl:FwOK c l){t:Int}(h0:0≤t)(h1:t≤4294967296)(L:Int):0≤yaC c l t L∧yaC c l t L≤17592186044416:=by
 unfold yaC
 constructor
 ·exact yb0 fun x hx=>by have:=(y8n hv hl (List.mem_filter.1 hx).1 h0 h1).1;omega
 ·have h:=yc6 (f:=fun x=>byt c x t) (M:=1099511627776) (l:=l.filter fun x=>decide (x.k=L)) fun x hx=>(y8n hv hl (List.mem_filter.1 hx).1 h0 h1).2
  have h2:(l.filter fun x=>decide (x.k=L)).length≤l.length:=List.length_filter_le _ _
  have:=hl.len
  omega
theorem yeK{c:Cf}(hv:VLs c){l:List Fw}(hl:FwOK c l)(L:Int):0≤gwid c l L∧gwid c l L≤72:=by
 unfold gwid
 refine⟨yb1 _,yhD (by omega) fun x hx=>?_⟩
 obtain⟨y,hy,rfl⟩:=List.mem_map.1 hx
 have hy:=(List.mem_filter.1 hy).1
 exact(hv.mx (hl.v0 y hy).1 (hl.v0 y hy).2).2.1
theorem grp_eq{c:Cf}(hv:VLs c){l:List Fw}(hl:FwOK c l){wide:List (Int×Int)}{L:Int}(hw:yf wide L 0=gwid c l L)(hL:L<c.fK.length)(hs:0≤L→1≤slw c L){t:Int}(h0:0≤t)(h1:t≤4294967296):
  y6p c wide (L,(l.filter fun x=>decide (x.k=L)).map (clo c)) t=some (y80 c l t L):=by
 show y4v t L ((l.filter fun x=>decide (x.k=L)).map (clo c)) wide c=_
 have hlen:(l.filter fun x=>decide (x.k=L)).length≤l.length:=List.length_filter_le _ _
 have hl16:=hl.len
 have e:=yhF (t:=t) (M:=1099511627776) (F:=clo c) (g:=fun x=>byt c x t) (l:=l.filter fun x=>decide (x.k=L)) (fun x hx=>by
  have hx:=(List.mem_filter.1 hx).1
  have:=y8n hv hl hx h0 h1
  exact⟨clo_eq hv hl hx h0 h1,by omega,this.2⟩) (by omega) (by omega)
 unfold y4v y80
 by_cases h:L<0
 ·rw[if_pos (decide_eq_true h),if_pos h,e];rfl
 ·have hs:=hs (by omega)
  have hg:=yeJ hv hl h0 h1 L
  have hwb:=yeK hv hl L
  rw[if_neg (by simpa using h),if_neg h,e,oB,yt ⟨by omega,hL⟩]
  rw[show max 1 (slw c L)=slw c L by omega]
  unfold slw at *
  have hd:0≤t / (nth c.fK L).fSlow:=Int.ediv_nonneg h0 (by omega)
  have hd2:t / (nth c.fK L).fSlow≤t:=Int.ediv_le_self _ h0
  rw[yt (by omega),ycX h0,yy (x:=t / (nth c.fK L).fSlow) (by omega),hw,yy (by omega)]
  rfl
theorem y9h{c:Cf}(hv:VLs c){l:List Fw}(hl:FwOK c l){L:Int}{t:Int}(h0:0≤t)(h1:t≤4294967296):0≤y80 c l t L∧y80 c l t L≤17592186044416:=by
 have hg:=yeJ hv hl h0 h1 L
 have hwb:=yeK hv hl L
 unfold y80
 split
 ·exact hg
 ·have hd:0≤t / max 1 (slw c L):=Int.ediv_nonneg h0 (by omega)
  omega
theorem yiM{c:Cf}{l:List Fw}{t L:Int}(h:∀ x∈l,x.k≠L)(h0:0≤t):y80 c l t L=0:=by
 have e:(l.filter fun x=>decide (x.k=L))=[]:=by
  rw[List.filter_eq_nil_iff];intro x hx;simpa using h x hx
 unfold y80 yaC gwid
 rw[e]
 split
 ·rfl
 ·have hd:0≤t / max 1 (slw c L):=Int.ediv_nonneg h0 (by omega)
  show min 0 (0+_)=0
  omega
theorem yiN{c:Cf}(hS:Small c)(hv:VLs c){l:List Fw}(hl:FwOK c l){t:Int}(h0:0≤t)(h1:t≤4294967296):0≤Arr c l t∧Arr c l t≤18014398509481984:=by
 unfold Arr
 refine⟨yb0 fun L _=>(y9h hv hl h0 h1).1,?_⟩
 have h:=yc6 (f:=y80 c l t) (M:=17592186044416) (l:=lks c) fun L _=>(y9h hv hl h0 h1).2
 have e:(lks c).length=c.fK.length+1:=ye0 _ _
 have:=hS.l
 rw[e] at h
 omega
theorem byt_mono{c:Cf}(hv:VLs c){l:List Fw}(hl:FwOK c l){x:Fw}(hx:x∈l){t t':Int}(h:t≤t'):byt c x t≤byt c x t':=by
 obtain⟨a,b,d,e⟩:=hv.mx (hl.v0 x hx).1 (hl.v0 x hx).2
 unfold byt
 refine Int.mul_le_mul_of_nonneg_left ?_ (by omega)
 have:=Int.ediv_le_ediv (a:=t+x.j) (b:=t'+x.j) (c:=bgV c x.v) (by omega) (by omega)
 omega
theorem Arr_mono{c:Cf}(hv:VLs c){l:List Fw}(hl:FwOK c l){t t':Int}(h:t≤t'):Arr c l t≤Arr c l t':=by
 unfold Arr
 refine ydj fun L _=>?_
 have hg:yaC c l t L≤yaC c l t' L:=by
  unfold yaC
  exact ydj fun x hx=>byt_mono hv hl (List.mem_filter.1 hx).1 h
 have hd:=Int.ediv_le_ediv (a:=t) (b:=t') (c:=max 1 (slw c L)) (by omega) h
 unfold y80
 split
 ·exact hg
 ·omega
end Go.Proofs.YthjnhebofpebpaaGreat
namespace Go.Proofs.YthjnhebofpebpaaGreat
open Go Go.RowKit Sep
def FL(c:Cf)(rs:List (List Hop))(D:Pl→Int)(p:Pl)(n:Nat):List Fw:=(vls rs p n).map (fwOf c rs D p)
theorem FL_succ{c:Cf}{rs:List (List Hop)}{D:Pl→Int}{p:Pl}(n:Nat):FL c rs D p (n+1)=FL c rs D p n++(if uses p (nth rs n) then[fwOf c rs D p n] else[]):=by
 unfold FL vls
 rw[yfy,List.filter_append,List.map_append,show(0:Int)+n=n by omega]
 by_cases h:uses p (nth rs n)=true <;> simp[h]
theorem FL_len{c:Cf}{rs:List (List Hop)}{D:Pl→Int}{p:Pl}(n:Nat):(FL c rs D p n).length≤n:=by
 unfold FL vls
 rw[List.length_map]
 have h:((y38 0 n).filter fun v=>uses p (nth rs v)).length≤(y38 0 n).length:=List.length_filter_le _ _
 rwa [ye0] at h
theorem ycY{c:Cf}{rs:List (List Hop)}{D:Pl→Int}{p:Pl}{n:Nat}{x:Fw}:x∈FL c rs D p n↔∃ v:Int,0≤v∧v<n∧uses p (nth rs v)=true∧x=fwOf c rs D p v:=by
 unfold FL vls
 simp only[List.mem_map,List.mem_filter,y9e]
 constructor
 ·rintro⟨v,⟨⟨a,b⟩,d⟩,rfl⟩;exact⟨v,a,by omega,d,rfl⟩
 ·rintro⟨v,a,b,d,rfl⟩;exact⟨v,⟨⟨a,by omega⟩,d⟩,rfl⟩
theorem y8e{p:Pl}{r:List Hop}:uses p r=true↔∃ h∈r,pk h=p:=by
 unfold uses;simp
theorem yfz{c:Cf}{net:Int}{rs:List (List Hop)}(hS:Small c)(hv:VA c net rs)(p:Pl){v:Int}(v0:0≤v)(v1:v<rs.length) : -1≤fwL (nth rs v) p∧fwL (nth rs v) p<c.fK.length∧(0≤fwL (nth rs v) p→1≤slw c (fwL (nth rs v) p)∧slw c (fwL (nth rs v) p)≤16):=by
 unfold fwL
 split
 ·rename_i h
  have:=(hv.each _ (yU v0 v1)).hop hS (ydc h).1
  have a:=this.l0;have b:=this.l1;have d:=this.s0;have e:=this.s1
  exact⟨by omega,b,fun _=>⟨d,e⟩⟩
 ·exact⟨by omega,by omega,fun h=>absurd h (by omega)⟩
structure AI (c:Cf) (l:List Fw) (most:Int) (mp:List (Int×List (Int→Option Int))) (wide:List (Int×Int)):Prop where
 nd:(mp.map (·.1)).Nodup
 get:∀ L,yf mp L []=(l.filter fun x=>decide (x.k=L)).map (clo c)
 key:∀ k∈mp.map (·.1),∃ x∈l,x.k=k
 key2:∀ x∈l,x.k∈mp.map (·.1)
 len:mp.length≤l.length
 wide:∀ L,yf wide L 0=gwid c l L
 most:most=ya8 c l
theorem AI.nil(c:Cf):AI c [] 0 [] []:=⟨by simp,fun L=>rfl,by simp,by simp,by simp,fun L=>rfl,rfl⟩
theorem AI.put{c:Cf}{l:List Fw}{most:Int}{mp:List (Int×List (Int→Option Int))}{wide:List (Int×Int)}(h:AI c l most mp wide){x:Fw}(hx:0≤mx c x.v):AI c (l++[x]) (max most (mx c x.v)) (yF mp x.k (yf mp x.k []++[clo c x])) (yF wide x.k (max (yf wide x.k 0) (mx c x.v))):=by
 refine⟨?_,fun L=>?_,fun k hk=>?_,fun y hy=>?_,?_,fun L=>?_,?_⟩
 ·rw[y8K]
  split
  ·exact h.nd
  ·rename_i hn
   rw[List.nodup_append]
   refine⟨h.nd,by simp,fun a ha b hb=>?_⟩
   rw[List.mem_singleton] at hb;subst hb
   intro e;subst e;exact hn ha
 ·rw[y3j,List.filter_append,List.map_append,← h.get L]
  by_cases e:L=x.k
  ·subst e;simp
  ·rw[if_neg e];simp[show x.k≠L from fun a=>e a.symm]
 ·rw[y8K] at hk
  split at hk
  ·obtain⟨y,hy,e⟩:=h.key k hk;exact⟨y,List.mem_append_left _ hy,e⟩
  ·rcases List.mem_append.1 hk with hk | hk
   ·obtain⟨y,hy,e⟩:=h.key k hk;exact⟨y,List.mem_append_left _ hy,e⟩
   ·rw[List.mem_singleton] at hk;exact⟨x,by simp,hk.symm⟩
 ·rw[y8K]
  rcases List.mem_append.1 hy with hy | hy
  ·have:=h.key2 y hy
   split
   ·exact this
   ·exact List.mem_append_left _ this
  ·rw[List.mem_singleton] at hy;subst hy
   split
   ·assumption
   ·simp
 ·have e:(yF mp x.k (yf mp x.k []++[clo c x])).length=((yF mp x.k (yf mp x.k []++[clo c x])).map (·.1)).length:=by simp
  rw[e,y8K]
  have:=h.len
  split
  ·simp;omega
  ·simp;omega
 ·rw[y3j]
  have hw:=h.wide
  unfold gwid at hw ⊢
  rw[List.filter_append,List.map_append]
  by_cases e:L=x.k
  ·subst e
   rw[if_pos rfl,hw]
   simp only[List.filter_cons,List.filter_nil,decide_true,if_true,List.map_cons,List.map_nil]
   rw[yfx _ _ hx]
  ·rw[if_neg e,hw];simp[show x.k≠L from fun a=>e a.symm]
 ·have:=h.most
  unfold ya8 at *
  rw[List.map_append,List.map_cons,List.map_nil,yfx _ _ hx,this]
abbrev AR:=List (Int→Option Int)×Int
theorem ych{c:Cf}{net:Int}{rs:List (List Hop)}{de:DM}{p:Pl}{k:Int→List (Int×List (Int→Option Int))→List (Int×Int)→Option AR}(hS:Small c)(hv:VA c net rs)(hV:VLs c)(hD:∀ r∈rs,∀ h∈r,-1099511627776≤yf de (pk h) 0∧yf de (pk h) 0≤1099511627776):
  ∀(n:Nat) (v:Int) (most:Int) (mp:List (Int×List (Int→Option Int))) (wide:List (Int×Int)),0≤v→v≤rs.length→rs.length<n+v→AI c (FL c rs (fun q=>yf de q 0) p v.toNat) most mp wide→
   ∃ most' mp' wide',AI c (FL c rs (fun q=>yf de q 0) p rs.length) most' mp' wide'∧y2R rs p c de k n most v mp wide=k most' mp' wide'
 | 0,v,most,mp,wide,h0,h1,h2,h3=>by omega
 | n+1,v,most,mp,wide,h0,h1,h2,h3=>by
  have hl16:=hv.most
  have hvl:=hv.len
  rw[y2R]
  by_cases h:v<rs.length
  ·rw[if_pos (decide_eq_true h)]
   refine ycS (P:=fun o=>∃ most' mp' wide',AI c (FL c rs (fun q=>yf de q 0) p rs.length) most' mp' wide'∧o=k most' mp' wide') fun kk hkk=>?_
   have hr:=hv.each _ (yU h0 h)
   have hrl:=hr.len
   have hnx:∀ most mp wide,AI c (FL c rs (fun q=>yf de q 0) p (v+1).toNat) most mp wide→∃ most' mp' wide',AI c (FL c rs (fun q=>yf de q 0) p rs.length) most' mp' wide'∧kk most mp wide=k most' mp' wide':=by
    intro most mp wide hai
    rw[hkk,yy (x:=v+1) (by omega)]
    exact ych hS hv hV hD n (v+1) most mp wide (by omega) (by omega) (by omega) hai
   have es:FL c rs (fun q=>yf de q 0) p (v+1).toNat=FL c rs (fun q=>yf de q 0) p v.toNat++(if uses p (nth rs v) then[fwOf c rs (fun q=>yf de q 0) p v] else[]):=by
    rw[show(v+1).toNat=v.toNat+1 by omega,FL_succ,show((v.toNat:Nat):Int)=v by omega]
   rw[yt ⟨h0,h⟩]
   rcases yaT (r:=nth rs v) (f:=fun y0=>y4w y0 p) (p:=fun h=>decide (pk h=p)) (fun h _=>rfl) (by omega) with⟨j,j0,j1,j2,j3⟩ | ⟨j2,j3⟩
   ·rw[j3]
    simp only[oB]
    have hj:=List.find?_some j2
    simp only[decide_eq_true_eq] at hj
    rw[if_neg (by simp only[decide_eq_true_eq];omega),yt ⟨h0,by omega⟩,yeH hS hr (hD _ (yU h0 h))]
    simp only[oB]
    rw[yt ⟨j0,by rw[List.length_map];exact j1⟩]
    have hu:uses p (nth rs v)=true:=y8e.2 ⟨_,yU j0 j1,hj⟩
    have ejn:nth ((nth rs v).map fun h=>jn c (fun q=>yf de q 0) (nth rs v) h.fNode) j=jn c (fun q=>yf de q 0) (nth rs v) p.fNode:=by
     rw[y5w ⟨j0,by rw[List.length_map];exact j1⟩,List.getElem_map,← y5w ⟨j0,j1⟩,← hj];rfl
    rw[es,if_pos hu] at hnx
    have hm:=hV.mx h0 (by omega)
    have hglen:∀ L,((yf mp L []).length:Int)≤16:=fun L=>by
     rw[h3.get,List.length_map]
     have h4:((FL c rs (fun q=>yf de q 0) p v.toNat).filter fun x=>decide (x.k=L)).length≤(FL c rs (fun q=>yf de q 0) p v.toNat).length:=List.length_filter_le _ _
     have h5:=FL_len (c:=c) (rs:=rs) (D:=fun q=>yf de q 0) (p:=p) v.toNat
     omega
    refine y1E (P:=fun o=>∃ most' mp' wide',AI c (FL c rs (fun q=>yf de q 0) p rs.length) most' mp' wide'∧o=k most' mp' wide') fun k2 hk2=>?_
    have hk3:∀ L,L=fwL (nth rs v) p→∃ most' mp' wide',AI c (FL c rs (fun q=>yf de q 0) p rs.length) most' mp' wide'∧k2 L=k most' mp' wide':=by
     rintro L rfl
     have hgl:=hglen (fwL (nth rs v) p)
     rw[hk2,yt (by rw[List.length_append];simp only[List.length_cons,List.length_nil];omega)]
     rw[ejn]
     exact hnx _ _ _ (h3.put (x:=fwOf c rs (fun q=>yf de q 0) p v) (by show 0≤mx c v;omega))
    rcases yaT (r:=nth rs v) (f:=fun y0=>y4z y0 p) (p:=fun h=>decide (h.fNext=p.fNode)) (fun h _=>rfl) (by omega) with⟨i,i0,i1,i2,i3⟩ | ⟨i2,i3⟩
    ·rw[i3]
     simp only[oB]
     rw[if_pos (by simp only[decide_eq_true_eq];omega),yt ⟨i0,i1⟩]
     refine hk3 _ ?_
     unfold fwL y41;rw[i2];rfl
    ·rw[i3]
     simp only[oB]
     rw[if_neg (by simp)]
     refine hk3 _ ?_
     unfold fwL y41;rw[i2];rfl
   ·rw[j3]
    simp only[oB]
    have hu:¬uses p (nth rs v)=true:=by
     rw[y8e];rintro⟨x,hx,e⟩
     have:=List.find?_eq_none.1 j2 x hx
     simp[e] at this
    rw[if_pos (by simp)]
    rw[es,if_neg hu,List.append_nil] at hnx
    exact hnx _ _ _ h3
  ·rw[if_neg (by simpa using h)]
   have e:v.toNat=rs.length:=by omega
   rw[e] at h3
   exact⟨most,mp,wide,h3,rfl⟩
theorem FL_ok{c:Cf}{net:Int}{rs:List (List Hop)}{D:Pl→Int}{p:Pl}(hS:Small c)(hv:VA c net rs)(hj:∀ x∈fws c rs D p,0≤x.j∧x.j≤4294967296):FwOK c (fws c rs D p):=by
 have hl:=hv.most;have hvl:=hv.len
 refine⟨?_,fun x hx=>?_,fun x hx=>?_,hj⟩
 ·have:=FL_len (c:=c) (rs:=rs) (D:=D) (p:=p) rs.length
  exact Nat.le_trans this (by omega)
 ·obtain⟨v,v0,v1,_,rfl⟩:=ycY.1 hx
  exact⟨v0,by show v<_;omega⟩
 ·obtain⟨v,v0,v1,_,rfl⟩:=ycY.1 hx
  have:=yfz hS hv p v0 v1
  exact⟨this.1,this.2.1⟩
theorem yh4{c:Cf}{net:Int}{rs:List (List Hop)}{de:DM}{p:Pl}(hS:Small c)(hv:VA c net rs)(hV:VLs c)(hD:∀ r∈rs,∀ h∈r,-1099511627776≤yf de (pk h) 0∧yf de (pk h) 0≤1099511627776)(hj:∀ x∈fws c rs (fun q=>yf de q 0) p,0≤x.j∧x.j≤4294967296):
  ∃ fs,y4h c rs p de=some (fs,ya8 c (fws c rs (fun q=>yf de q 0) p))∧∀ t,0≤t→t≤4294967296→y28 fs t=some (Arr c (fws c rs (fun q=>yf de q 0) p) t):=by
 have hok:=FL_ok hS hv hj
 unfold y4h
 have hF:=yP
 generalize yx=N at hF ⊢
 refine ycS (P:=fun o=>∃ fs,o=some (fs,ya8 c (fws c rs (fun q=>yf de q 0) p))∧∀ t,0≤t→t≤4294967296→y28 fs t=some (Arr c (fws c rs (fun q=>yf de q 0) p) t)) fun k hk=>?_
 have hl16:=hv.most
 obtain⟨most,mp,wide,hai,e⟩:=ych (k:=k) (p:=p) hS hv hV hD N 0 0 [] [] (by omega) (by omega) (by omega) (AI.nil c)
 rw[e,hk]
 have hml:=hai.len
 have hfl:=hok.len
 have hfl2:FL c rs (fun q=>yf de q 0) p rs.length=fws c rs (fun q=>yf de q 0) p:=rfl
 rw[hfl2] at hai hml
 rw[yt (by omega)]
 refine⟨mp.map (y6p c wide),by rw[hai.most],fun t h0 h1=>?_⟩
 have hpair:∀ q∈mp,q=(q.1,((fws c rs (fun q=>yf de q 0) p).filter fun x=>decide (x.k=q.1)).map (clo c)):=by
  intro q hq
  rw[← hai.get]
  have:∀(l:List (Int×List (Int→Option Int))),(l.map (·.1)).Nodup→∀ q∈l,yf l q.1 []=q.2:=by
   intro l
   induction l with
   | nil=>intro _ q hq;simp at hq
   | cons x l ih=>
    intro hn q hq
    rw[List.map_cons,List.nodup_cons] at hn
    rw[yf]
    rcases List.mem_cons.1 hq with rfl | hq
    ·rw[if_pos rfl]
    ·rw[if_neg,ih hn.2 q hq]
     intro e;exact hn.1 (e▸List.mem_map.2 ⟨q,hq,rfl⟩)
  rw[this mp hai.nd q hq]
 have hkr:∀ k:Int,k∈mp.map (·.1) → -1≤k∧k<c.fK.length∧(0≤k→1≤slw c k):=by
  intro k hk
  obtain⟨x,hx,rfl⟩:=hai.key k hk
  obtain⟨v,v0,v1,_,rfl⟩:=ycY.1 hx
  have:=yfz hS hv p v0 v1
  exact⟨this.1,this.2.1,fun h=>(this.2.2 h).1⟩
 rw[yhF (M:=17592186044416) (F:=y6p c wide) (g:=fun q=>y80 c (fws c rs (fun q=>yf de q 0) p) t q.1) (l:=mp) (fun q hq=>by
   have hq1:=hkr q.1 (List.mem_map.2 ⟨q,hq,rfl⟩)
   have:=y9h hV hok (L:=q.1) h0 h1
   refine⟨?_,this.1,this.2⟩
   rw[hpair q hq]
   exact grp_eq hV hok (hai.wide q.1) hq1.2.1 hq1.2.2 h0 h1) (by omega) (by omega)]
 refine congrArg some ?_
 unfold Arr
 have h5:(mp.map (·.1)).Perm ((lks c).filter fun L=>decide (L∈mp.map (·.1))):=by
  refine(List.perm_ext_iff_of_nodup hai.nd ((yeI _ _).filter _)).2 fun k=>?_
  rw[List.mem_filter]
  skip
  rw[y9e]
  simp only[decide_eq_true_eq]
  constructor
  ·intro hk;have:=hkr k hk;exact⟨by push_cast;omega,hk⟩
  ·exact fun h=>h.2
 have h6:mp.map (fun q=>y80 c (fws c rs (fun q=>yf de q 0) p) t q.1)=(mp.map (·.1)).map (y80 c (fws c rs (fun q=>yf de q 0) p) t):=by rw[List.map_map];rfl
 rw[h6,yiL (h5.map _),ydD]
 intro L _ hL
 refine yiM (fun x hx e=>?_) h0
 simp only[decide_eq_false_iff_not] at hL
 exact hL (e▸hai.key2 x hx)
end Go.Proofs.YthjnhebofpebpaaGreat
namespace Go.Proofs.YthjnhebofpebpaaGreat
open Go Go.RowKit Sep
/-! ### a port -/
def mxf(f:Int→Int):Nat→Int
 | 0=>0
 | n+1=>max (mxf f n) (f n)
theorem yeL(f:Int→Int):∀ n,0≤mxf f n
 | 0=>Int.le_refl _
 | n+1=>by have:=yeL f n;simp only[mxf];omega
theorem mxf_ge{f:Int→Int}:∀ {n:Nat} {t:Int},0≤t→t<n→f t≤mxf f n
 | 0,t,h0,h1=>by omega
 | n+1,t,h0,h1=>by
  simp only[mxf]
  by_cases e:t=n
  ·subst e;omega
  ·have:=mxf_ge (f:=f) (n:=n) h0 (by omega);omega
theorem ygB{f:Int→Int}{M:Int}(hM:0≤M):∀ {n:Nat},(∀ t:Int,0≤t→t<n→f t≤M)→mxf f n≤M
 | 0,_=>hM
 | n+1,h=>by
  simp only[mxf]
  have:=ygB hM (n:=n) fun t h0 h1=>h t h0 (by omega)
  have:=h n (by omega) (by omega)
  omega
def bsy(A:Int→Int)(s:Int):Nat→Int→Int
 | 0,b=>b
 | n+1,b=>if s*A (b-1)>b then bsy A s n (b+1) else b
theorem ye1{A:Int→Int}{s:Int}:∀(n:Nat) (b:Int),b≤bsy A s n b∧bsy A s n b≤b+n∧(bsy A s n b<b+n→s*A (bsy A s n b-1)≤bsy A s n b)∧∀ x,b≤x→x<bsy A s n b→s*A (x-1)>x
 | 0,b=>by refine⟨by simp[bsy],by simp[bsy],fun h=>?_,fun x h1 h2=>?_⟩ <;> simp only[bsy] at * <;> omega
 | n+1,b=>by
  rw[bsy]
  by_cases h:s*A (b-1)>b
  ·rw[if_pos h]
   obtain⟨h1,h2,h3,h4⟩:=ye1 n (b+1) (A:=A) (s:=s)
   refine⟨by omega,by push_cast;omega,fun h5=>h3 (by push_cast at h5;omega),fun x h5 h6=>?_⟩
   by_cases e:x=b
   ·rw[e];exact h
   ·exact h4 x (by omega) h6
  ·rw[if_neg h]
   exact⟨by omega,by omega,fun _=>by omega,fun x h1 h2=>by omega⟩
def BZ(A:Int→Int)(s:Int):Int:=bsy A s 32768 1
theorem BZ_ge(A:Int→Int)(s:Int):1≤BZ A s∧BZ A s≤32769:=by
 obtain⟨h1,h2,_⟩:=ye1 (A:=A) (s:=s) 32768 1
 unfold BZ;omega
theorem BZ_ok{A:Int→Int}{s:Int}(h:BZ A s≤32768):s*A (BZ A s-1)≤BZ A s:=by
 obtain⟨h1,h2,h3,_⟩:=ye1 (A:=A) (s:=s) 32768 1
 unfold BZ at *;exact h3 (by omega)
def dfun(A:Int→Int)(s la:Int)(t:Int):Int:=s*A t-t+la
def sfun(A:Int→Int)(s la:Int)(t:Int):Int:=A t-(max (t-la) 0+s-1) / s
def HB(c:Cf)(A:Int→Int)(most:Int)(p:Pl):PB:=⟨p.fNode,p.fQ,mxf (dfun A (slw c p.fQ) (y3v c p.fNode)) (BZ A (slw c p.fQ)).toNat,mxf (sfun A (slw c p.fQ) (y3v c p.fNode)) (BZ A (slw c p.fQ)+y3v c p.fNode).toNat+most⟩
structure AOK (A:Int→Int):Prop where
 b:∀ t,0≤t→t≤4294967296→0≤A t∧A t≤18014398509481984
theorem ygC{c:Cf}{p:Pl}{fs:List (Int→Option Int)}{most:Int}{A:Int→Int}{k:Int→Option (PB×Int)}(hA:AOK A)(ht:∀ t,0≤t→t≤4294967296→y28 fs t=some (A t))(hs:1≤slw c p.fQ∧slw c p.fQ≤16):
  ∀(n:Nat) (N:Nat) (b:Int),1≤b→b+n=32769→n<N→1≤n→y3T (fs,most) c p k N b=if bsy A (slw c p.fQ) n b≤32768 then k (bsy A (slw c p.fQ) n b) else some (⟨0,0,0,0⟩,360)
 | n,0,b,h0,h1,h2,h3=>by omega
 | 0,N+1,b,h0,h1,h2,h3=>by omega
 | n+1,N+1,b,h0,h1,h2,h3=>by
  push_cast at h1
  rw[y3T,yy (x:=b-1) (by omega),ht (b-1) (by omega) (by omega),oB]
  have hb:=hA.b (b-1) (by omega) (by omega)
  have hm1:0≤slw c p.fQ*A (b-1):=Int.mul_nonneg (by omega) hb.1
  have hm2:slw c p.fQ*A (b-1)≤16*A (b-1):=Int.mul_le_mul_of_nonneg_right hs.2 hb.1
  have e:((nth c.fK p.fQ).fSlow)*A (b-1)=slw c p.fQ*A (b-1):=rfl
  rw[e,yy (x:=slw c p.fQ*A (b-1)) (by omega),yy (x:=b+1) (by omega),bsy]
  by_cases h:slw c p.fQ*A (b-1)>b
  ·rw[if_pos (decide_eq_true h),if_pos h]
   by_cases h4:b+1>32768
   ·rw[if_pos (decide_eq_true h4)]
    have hn:n=0:=by omega
    subst hn
    rw[bsy,if_neg (by omega)]
   ·rw[if_neg (by simpa using h4)]
    exact ygC hA ht hs n N (b+1) (by omega) (by omega) (by omega) (by omega)
  ·rw[if_neg (by simpa using h),if_neg h,if_pos (by omega)]
theorem ygD{c:Cf}{p:Pl}{fs:List (Int→Option Int)}{most:Int}{A:Int→Int}{k:Int→Int→Option (PB×Int)}{b la:Int}(hA:AOK A)(ht:∀ t,0≤t→t≤4294967296→y28 fs t=some (A t))(hs:1≤slw c p.fQ∧slw c p.fQ≤16)(hb:1≤b∧b≤32768)(hla:0≤la∧la≤1000):
  ∀(n:Nat) (v:Nat),(v:Int)≤b+la→b+la<n+v→y3U b la (fs,most) c p k n v (mxf (dfun A (slw c p.fQ) la) (min v b.toNat)) (mxf (sfun A (slw c p.fQ) la) v)=k (mxf (dfun A (slw c p.fQ) la) b.toNat) (mxf (sfun A (slw c p.fQ) la) (b+la).toNat)
 | 0,v,h0,h1=>by omega
 | n+1,v,h0,h1=>by
  rw[y3U,yy (x:=b+la) (by omega)]
  by_cases h:(v:Int)<b+la
  ·rw[if_pos (decide_eq_true h),ht v (by omega) (by omega),oB]
   refine y1E (P:=fun o=>o=k (mxf (dfun A (slw c p.fQ) la) b.toNat) (mxf (sfun A (slw c p.fQ) la) (b+la).toNat)) fun kk hkk=>?_
   have hbb:=hA.b v (by omega) (by omega)
   have hm1:0≤slw c p.fQ*A v:=Int.mul_nonneg (by omega) hbb.1
   have hm2:slw c p.fQ*A v≤16*A v:=Int.mul_le_mul_of_nonneg_right hs.2 hbb.1
   have hkk2:∀ x,x=mxf (dfun A (slw c p.fQ) la) (min (v+1) b.toNat)→kk x=k (mxf (dfun A (slw c p.fQ) la) b.toNat) (mxf (sfun A (slw c p.fQ) la) (b+la).toNat):=by
    rintro x rfl
    rw[hkk]
    have e:(nth c.fK p.fQ).fSlow=slw c p.fQ:=rfl
    have h2:0≤(max ((v:Int)-la) 0+slw c p.fQ-1) / slw c p.fQ:=Int.ediv_nonneg (by omega) (by omega)
    have h3:(max ((v:Int)-la) 0+slw c p.fQ-1) / slw c p.fQ≤max ((v:Int)-la) 0+slw c p.fQ-1:=Int.ediv_le_self _ (by omega)
    rw[e,yt (by omega),yy (x:=(v:Int)-la) (by omega),yy (x:=max ((v:Int)-la) 0+slw c p.fQ) (by omega),yy (x:=max ((v:Int)-la) 0+slw c p.fQ-1) (by omega),ycX (by omega),yy (x:=(max ((v:Int)-la) 0+slw c p.fQ-1) / slw c p.fQ) (by omega),yy (x:=A v-(max ((v:Int)-la) 0+slw c p.fQ-1) / slw c p.fQ) (by omega),yy (x:=(v:Int)+1) (by omega)]
    have:=ygD (k:=k) (most:=most) hA ht hs hb hla n (v+1) (by push_cast;omega) (by push_cast;omega)
    rw[← this]
    rfl
   by_cases h5:(v:Int)<b
   ·rw[if_pos (decide_eq_true h5)]
    refine hkk2 _ ?_
    have e:(nth c.fK p.fQ).fSlow=slw c p.fQ:=rfl
    rw[e,yy (x:=slw c p.fQ*A v) (by omega),yy (x:=slw c p.fQ*A v-v) (by omega),yy (by omega),show min (v+1) b.toNat=v+1 by omega,show min v b.toNat=v by omega]
    rfl
   ·rw[if_neg (by simpa using h5)]
    refine hkk2 _ ?_
    rw[show min (v+1) b.toNat=b.toNat by omega,show min v b.toNat=b.toNat by omega]
  ·rw[if_neg (by simpa using h),show min v b.toNat=b.toNat by omega,show v=(b+la).toNat by omega]
theorem hport_eq{c:Cf}{rs:List (List Hop)}{de:DM}{p:Pl}{fs:List (Int→Option Int)}{most:Int}{A:Int→Int}(hS:Small c)(hp:PI c p)(hA:AOK A)(ha:y4h c rs p de=some (fs,most))(hmost:0≤most∧most≤72)(ht:∀ t,0≤t→t≤4294967296→y28 fs t=some (A t))(hs:1≤slw c p.fQ∧slw c p.fQ≤16)(hla:0≤y3v c p.fNode∧y3v c p.fNode≤1000):
  y5v c rs p de=some (if BZ A (slw c p.fQ)≤32768 then(HB c A most p,0) else(⟨0,0,0,0⟩,360)):=by
 unfold y5v
 rw[ha,oB,yt ⟨hp.l0,hp.l1⟩,yeG hS hp.n0 hp.n1,oB]
 have hF:=yP
 generalize yx=N at hF ⊢
 refine y1E (P:=fun o=>o=some (if BZ A (slw c p.fQ)≤32768 then(HB c A most p,0) else(⟨0,0,0,0⟩,360))) fun k hk=>?_
 rw[ygC (A:=A) hA ht hs 32768 N 1 (by omega) (by omega) (by omega) (by omega)]
 have e:bsy A (slw c p.fQ) 32768 1=BZ A (slw c p.fQ):=rfl
 rw[e]
 by_cases h:BZ A (slw c p.fQ)≤32768
 ·rw[if_pos h,if_pos h,hk]
  refine ybu (P:=fun o=>o=some (HB c A most p,0)) fun k2 hk2=>?_
  have hb:=BZ_ge A (slw c p.fQ)
  have:=ygD (k:=k2) (most:=most) (la:=y3v c p.fNode) hA ht hs ⟨hb.1,h⟩ hla N 0 (by omega) (by omega)
  simp only[Nat.zero_min,mxf] at this
  rw[show((0:Nat):Int)=0 from rfl] at this
  rw[this,hk2]
  refine congrArg some ?_
  unfold HB
  have hst:=yeL (sfun A (slw c p.fQ) (y3v c p.fNode)) (BZ A (slw c p.fQ)+y3v c p.fNode).toNat
  have hst2:mxf (sfun A (slw c p.fQ) (y3v c p.fNode)) (BZ A (slw c p.fQ)+y3v c p.fNode).toNat≤18014398509481984:=ygB (by omega) fun t h0 h1=>by
   have h2:0≤(max (t-y3v c p.fNode) 0+slw c p.fQ-1) / slw c p.fQ:=Int.ediv_nonneg (by omega) (by omega)
   have:=(hA.b t h0 (by omega)).2
   unfold sfun;omega
  rw[yy (by omega)]
 ·rw[if_neg h,if_neg h]
theorem HB_delay{c:Cf}{A:Int→Int}{most:Int}{p:Pl}(hm:∀ t t',0≤t→t≤t'→A t≤A t')(h0:1≤A 0)(hs:1≤slw c p.fQ∧slw c p.fQ≤16)(hla:0≤y3v c p.fNode∧y3v c p.fNode≤1000)(h:BZ A (slw c p.fQ)≤32768):y3v c p.fNode+slw c p.fQ≤(HB c A most p).fDelay∧(HB c A most p).fDelay≤33768:=by
 have hb:=BZ_ge A (slw c p.fQ)
 constructor
 ·have:=mxf_ge (f:=dfun A (slw c p.fQ) (y3v c p.fNode)) (n:=(BZ A (slw c p.fQ)).toNat) (t:=0) (by omega) (by omega)
  have h2:slw c p.fQ*1≤slw c p.fQ*A 0:=Int.mul_le_mul_of_nonneg_left h0 (by omega)
  show _≤mxf _ _
  unfold dfun at this ⊢
  omega
 ·refine ygB (by omega) fun t t0 t1=>?_
  have h2:=BZ_ok h
  have h3:slw c p.fQ*A t≤slw c p.fQ*A (BZ A (slw c p.fQ)-1):=Int.mul_le_mul_of_nonneg_left (hm _ _ t0 (by omega)) (by omega)
  unfold dfun;omega
end Go.Proofs.YthjnhebofpebpaaGreat
namespace Go.Proofs.YthjnhebofpebpaaGreat
open Go Go.RowKit Sep
/-! ### the order -/
theorem yc7{l:List Pl×Int}{k:List S36→Option (List S36×Int)}(hl:l.1.length≤1000000):∀(n:Nat) (o:List S36) (v:Int),0≤v→v≤l.1.length→l.1.length<n+v→o.length=v→
  y4p l k n o v=k (o++(l.1.drop v.toNat).map fun p=>⟨p.fNode,p.fQ,0,0⟩)
 | 0,o,v,h0,h1,h2,h3=>by omega
 | n+1,o,v,h0,h1,h2,h3=>by
  rw[y4p]
  by_cases h:v<l.1.length
  ·rw[if_pos (decide_eq_true h),yt ⟨h0,h⟩,yt (by simp;omega),y4a h0 h,yy (x:=v+1) (by omega)]
   rw[yc7 hl n _ (v+1) (by omega) (by omega) (by omega) (by simp;omega),show(v+1).toNat=v.toNat+1 by omega]
   simp
  ·rw[if_neg (by simpa using h),List.drop_eq_nil_of_le (by omega)];simp
theorem ygE{c:Cf}{net:Int}{rs:List (List Hop)}(hf:FewP c rs)(hv:VA c net rs):
  (∃ l,l.Perm (PS rs)∧y37 rs l∧y4X c net rs=some (l.map fun p=>⟨p.fNode,p.fQ,0,0⟩,0))∨(∃ s,y9g rs s∧y4X c net rs=some ([],351)):=by
 unfold y4X
 obtain⟨b,q1,q2⟩:=yaw hf.small (net:=net) (rs:=rs) (fun r hr=>by have:=hf.e r hr;omega) (by have:=hf.r;omega)
 rw[q1,q2.2 hv,oB,if_neg (by simp)]
 have hps:=ycO hf.e
 have hr:=hf.r
 have h3:rs.length*40≤20*40:=Nat.mul_le_mul_right _ hr
 rcases ygf (rs:=rs) (fun r h=>by have:=hf.e r h;omega) (by omega) with⟨l,e1,e2,e3⟩ | ⟨s,e1,e2⟩
 ·rw[e3,oB]
  have hlen:=e1.length_eq
  refine .inl ⟨l,e1,e2,?_⟩
  refine y1E (P:=fun o=>o=_) fun k hk=>?_
  rw[yc7 (l:=(l,0)) (by show l.length≤_;omega) yx [] 0 (by omega) (by omega) (by rw[yP];show((l.length:Nat):Int)<_;omega) rfl,hk]
  simp
 ·rw[e2,oB]
  refine .inr ⟨s,e1,?_⟩
  refine y1E (P:=fun o=>o=_) fun k hk=>?_
  rw[yc7 (l:=([],351)) (by simp) yx [] 0 (by omega) (by simp) (by rw[yP];simp) rfl,hk]
  simp
/-! ### the errors of the calculus are small numbers -/
def Er(e:Int):Prop:=0≤e∧e≤9
theorem ErN{e:Int}(h:e=0∨e=2∨e=3∨e=6):Er e:=by unfold Er;omega
theorem mk_er(q:Rat):Er (mk q).2:=by unfold mk Er;split <;> simp
theorem yaD(x y:R):Er (ADD x y).2:=by
 unfold ADD
 by_cases h:V x=true∧V y=true
 ·rw[ygi h.1 h.2];exact mk_er _
 ·rw[yhv h];exact ErN (by first | exact .inl rfl | exact .inr (.inl rfl) | exact .inr (.inr (.inl rfl)) | exact .inr (.inr (.inr rfl)))
theorem ygF(x y:R):Er (SUB x y).2:=by
 unfold SUB
 by_cases h:V x=true∧V y=true
 ·rw[yex h.1 h.2];exact mk_er _
 ·rw[yhw h];exact ErN (by first | exact .inl rfl | exact .inr (.inl rfl) | exact .inr (.inr (.inl rfl)) | exact .inr (.inr (.inr rfl)))
theorem MUL_er(x y:R):Er (MUL x y).2:=by
 unfold MUL
 by_cases h:V x=true∧V y=true
 ·rw[ygj h.1 h.2];exact mk_er _
 ·rw[yhx h];exact ErN (by first | exact .inl rfl | exact .inr (.inl rfl) | exact .inr (.inr (.inl rfl)) | exact .inr (.inr (.inr rfl)))
theorem DIV_er(x y:R)(h0:y.fN≠0):Er (DIV x y).2:=by
 unfold DIV
 by_cases h:V x=true∧V y=true
 ·rw[yey h.1 h.2 h0];exact mk_er _
 ·rw[yhy h];exact ErN (by first | exact .inl rfl | exact .inr (.inl rfl) | exact .inr (.inr (.inl rfl)) | exact .inr (.inr (.inr rfl)))
theorem ya9{e:Int}{r:R×Int}(h1:Er e)(h2:Er r.2):Er (CD e r).2:=by
 unfold CD;split
 ·exact h1
 ·split <;> exact h2
theorem ATF_er(c:List B)(t:R):Er (ATF c t).2:=by
 unfold ATF
 by_cases h:VC c=true∧GR t=true
 ·rw[at_eq h.1 h.2]
  show Er (if c.all (vfit (val t)) then(ofQ (AT c (val t)),0) else(⟨0,0⟩,3):R×Int).2
  split <;> exact ErN (by first | exact .inl rfl | exact .inr (.inl rfl) | exact .inr (.inr (.inl rfl)) | exact .inr (.inr (.inr rfl)))
 ·rw[at_bad h];exact ErN (by first | exact .inl rfl | exact .inr (.inl rfl) | exact .inr (.inr (.inl rfl)) | exact .inr (.inr (.inr rfl)))
theorem BRK_er(c:List B):Er (BRK c).2:=by
 unfold BRK
 cases h:VC c with
 | true=>
  have:=yfq h
  split at this
  ·obtain⟨r,e,_⟩:=this
   rw[e];exact ErN (by first | exact .inl rfl | exact .inr (.inl rfl) | exact .inr (.inr (.inl rfl)) | exact .inr (.inr (.inr rfl)))
  ·rw[this];exact ErN (by first | exact .inl rfl | exact .inr (.inl rfl) | exact .inr (.inr (.inl rfl)) | exact .inr (.inr (.inr rfl)))
 | false=>rw[yeB h];exact ErN (by first | exact .inl rfl | exact .inr (.inl rfl) | exact .inr (.inr (.inl rfl)) | exact .inr (.inr (.inr rfl)))
theorem ygG(t:R):∀(l:List (List B)) (a:R×Int),Er a.2→Er (tot t l a).2
 | [],a,h=>h
 | c::l,a,h=>by
  rw[tot]
  refine ygG t l _ (ya9 ?_ (yaD _ _))
  split
  ·exact ATF_er c t
  ·exact h
theorem dv_er{l:List (List B)}{s:SV}(h0:s.fRate.fN≠0){e:Int}(he:Er e)(t:R):Er (dv l s e t).2:=by
 unfold dv
 exact ya9 (ya9 (ya9 (ygG _ _ _ he) (DIV_er _ _ h0)) (ygF _ _)) (yaD _ _)
theorem bv_er{l:List (List B)}{s:SV}{e:Int}(he:Er e)(t:R):Er (bv l s e t).2:=by
 unfold bv
 have h:=ygG t l (Z1,e) he
 simp only
 split
 ·exact h
 ·exact ya9 (ya9 (ya9 h (ygF _ _)) (MUL_er _ _)) (ygF _ _)
theorem mxv_er{f:Int→R→R×Int}(hf:∀ e t,Er e→Er (f e t).2)(P:List R):Er (mxv f P).2:=by
 have h:∀(P:List R) (s:List R×Int),Er s.2→Er (P.foldl (stp f) s).2:=by
  intro P
  induction P with
  | nil=>intro s h;exact h
  | cons p P ih=>intro s h;rw[List.foldl_cons];exact ih _ (hf _ _ h)
 have:=h P ([],0) (ErN (.inl rfl))
 unfold mxv
 simp only
 split
 ·exact this
 ·exact ErN (by first | exact .inl rfl | exact .inr (.inl rfl) | exact .inr (.inr (.inl rfl)) | exact .inr (.inr (.inr rfl)))
theorem ygH:∀(l:List (List B)) (a:R×Int),Er a.2→match ckl l a with | .inl e=>Er e | .inr r=>Er r.2
 | [],a,h=>h
 | c::l,a,h=>by
  rw[ckl]
  split
  ·rename_i e he
   split at he
   ·injection he with he;subst he;exact BRK_er c
   ·have:=ygH l _ (ya9 h (yaD a.1 (RTF c).1));rw[he] at this;exact this
  ·rename_i e he
   split at he
   ·cases he
   ·have:=ygH l _ (ya9 h (yaD a.1 (RTF c).1));rw[he] at this;exact this
theorem CKF_er(l:List (List B))(s:SV):Er (CKF l s):=by
 unfold CKF
 split
 ·exact ErN (by first | exact .inl rfl | exact .inr (.inl rfl) | exact .inr (.inr (.inl rfl)) | exact .inr (.inr (.inr rfl)))
 ·have h:=ygH l (Z1,0) (ErN (.inl rfl))
  split
  ·rename_i e he;rw[he] at h;exact h
  ·rename_i r he;rw[he] at h
   split
   ·exact h
   ·split <;> exact ErN (by first | exact .inl rfl | exact .inr (.inl rfl) | exact .inr (.inr (.inl rfl)) | exact .inr (.inr (.inr rfl)))
theorem DL_er(l:List (List B))(s:SV)(h0:s.fRate.fN≠0):Er (DL l s).2:=by
 unfold DL
 split
 ·exact mxv_er (fun e t he=>dv_er h0 he t) _
 ·exact CKF_er l s
theorem BL_er(l:List (List B))(s:SV):Er (BL l s).2:=by
 unfold BL
 split
 ·exact mxv_er (fun e t he=>bv_er he t) _
 ·exact CKF_er l s
theorem DO_er{e:Int}{r:R×Int}(h1:Er e)(h2:Er r.2):Er (DO e r).2:=by
 unfold DO;simp only;split
 ·exact h2
 ·exact h1
theorem CU_er{c:Cf}{rs:List (List Hop)}{bu:BM}{de:DM}{e:Int}{p:Pl}(he:Er e):Er (CU c rs bu de e p).2.2.1:=by
 have h1:∀(l:List Int) (s:CS),Er s.e→Er (l.foldl (cst c rs de p) s).e:=by
  intro l
  induction l with
  | nil=>intro s h;exact h
  | cons v l ih=>
   intro s h;rw[List.foldl_cons];refine ih _ ?_
   unfold cst;simp only
   split
   ·split
    ·exact DO_er (DO_er h (MUL_er _ _)) (yaD _ _)
    ·exact h
   ·exact h
 have h2:∀(bu:BM) (l:List Int) (s:GS),Er s.e→Er (l.foldl (gst c bu p) s).e:=by
  intro bu l
  induction l with
  | nil=>intro s h;exact h
  | cons v l ih=>intro s h;rw[List.foldl_cons];exact ih _ (DO_er (DO_er h (yaD _ _)) (yaD _ _))
 have h3:∀(lk:List (Int×List Int)) (bu:BM) (l:List Int) (s:List (List B)×Int),Er s.2→Er (l.foldl (lst c lk bu p) s).2:=by
  intro lk bu l
  induction l with
  | nil=>intro s h;exact h
  | cons q l ih=>
   intro s h;rw[List.foldl_cons];refine ih _ ?_
   unfold lst;split
   ·exact h
   ·exact h2 _ _ _ h
 unfold CU
 exact h3 _ _ _ _ (h1 _ _ he)
theorem z11H{e a b:Int}(h1:Er e)(h2:Er a)(h3:Er b):fe e a b=352∨Er (fe e a b):=by
 unfold fe er Er at *
 repeat' split
 all_goals omega
theorem zLR{c:Cf}{rs:List (List Hop)}:∀(l:List Pl) (s:WS) (e:Int),s.e=0→y9Q c rs l s = .inr e→e≠350
 | [],s,e,_,h=>by cases h
 | p::l,s,e,h0,h=>by
  rw[y9Q] at h
  split at h
  ·injection h with h;subst h
   show fe _ _ _≠350
   rcases z11H (CU_er (c:=c) (rs:=rs) (bu:=s.bu) (de:=s.de) (p:=p) (e:=s.e) (by rw[h0];exact ErN (by first | exact .inl rfl | exact .inr (.inl rfl) | exact .inr (.inr (.inl rfl)) | exact .inr (.inr (.inr rfl))))) (DL_er (CU c rs s.bu s.de s.e p).1 (srv c p) (by show(1:Int)≠0;decide)) (BL_er (CU c rs s.bu s.de s.e p).1 (srv c p)) with h | h
   ·rw[h];decide
   ·unfold Er at h;omega
  ·rename_i hn
   exact zLR l _ e (by simpa using hn) h
end Go.Proofs.YthjnhebofpebpaaGreat
namespace Go.Proofs.YthjnhebofpebpaaGreat
open Go Go.RowKit Sep
/-! ### all ports -/
def bzH(c:Cf)(rs:List (List Hop))(D:Pl→Int)(p:Pl):Int:=BZ (Arr c (fws c rs D p)) (slw c p.fQ)
def pbH(c:Cf)(rs:List (List Hop))(D:Pl→Int)(p:Pl):PB:=HB c (Arr c (fws c rs D p)) (ya8 c (fws c rs D p)) p
def dD(de:DM):Pl→Int:=fun q=>yf de q 0
def y9R(c:Cf)(rs:List (List Hop)):List Pl→DM→List PB→Option (DM×List PB)
 | [],de,out=>some (de,out)
 | p::l,de,out=>if bzH c rs (dD de) p≤32768 then y9R c rs l (yF de p (pbH c rs (dD de) p).fDelay) (out++[pbH c rs (dD de) p]) else none
structure HI (c:Cf) (ps:List Pl) (D:Pl→Int):Prop where
 i:∀ q∈ps,y3v c q.fNode+slw c q.fQ≤D q∧D q≤33768
 o:∀ q,q∉ps→D q=0
theorem y37.clo{c:Cf}{net:Int}{rs:List (List Hop)}(hv:VA c net rs){l1 l2:List Pl}{p:Pl}(h:y37 rs (l1++p::l2)){r:List Hop}(hr:r∈rs){x:Hop}(hx:x∈r)(hp:pk x∈l1∨pk x=p){g:Hop}(hg:g∈r)(e:g.fNext=x.fNode):pk g∈l1:=by
 have hpr:Pred rs (pk x) (pk g):=(yfm hv).1 ⟨r,hr,g,hg,x,hx,e,rfl,rfl⟩
 rcases hp with hp | hp
 ·obtain⟨a,b,e2⟩:=List.append_of_mem hp
  rw[e2]
  have:=h a (pk x) (b++p::l2) (by rw[e2];simp) _ hpr
  exact List.mem_append_left _ this
 ·exact h l1 p l2 rfl _ (hp▸hpr)
theorem HI.rng{c:Cf}{net:Int}{rs:List (List Hop)}(hS:Small c)(hv:VA c net rs){ps:List Pl}{D:Pl→Int}(h:HI c ps D){r:List Hop}(hr:r∈rs){x:Hop}(hx:x∈r):0≤D (pk x)∧D (pk x)≤33768:=by
 have hh:=(hv.each r hr).hop hS hx
 by_cases hq:pk x∈ps
 ·have:=h.i _ hq
  have e1:(pk x).fNode=x.fNode:=rfl
  have e2:(pk x).fQ=x.fQ:=rfl
  rw[e1,e2] at this
  have:=hh.s0;have:=hh.d0
  omega
 ·rw[h.o _ hq];omega
theorem HI.jn0{c:Cf}{net:Int}{rs:List (List Hop)}(hS:Small c)(hv:VA c net rs){l1 l2:List Pl}{p:Pl}(ho:y37 rs (l1++p::l2)){D:Pl→Int}(h:HI c l1 D){r:List Hop}(hr:r∈rs):∀ x∈r,(pk x∈l1∨pk x=p)→0≤jn c D r x.fNode:=by
 have hv1:=hv.each r hr
 refine hv1.ind (P:=fun x=>(pk x∈l1∨pk x=p)→0≤jn c D r x.fNode) (fun x hx e _=>?_) (fun g hg x hx e ih hp=>?_)
 ·rw[e,hv1.jn_start];exact Int.le_refl _
 ·have hgm:=ho.clo hv hr hx hp hg e
  have h1:=h.i _ hgm
  have h2:=ih (.inl hgm)
  rw[← e,hv1.jn_next D hg]
  have e1:(pk g).fNode=g.fNode:=rfl
  have e2:(pk g).fQ=g.fQ:=rfl
  rw[e1,e2] at h1
  omega
theorem jn_up{c:Cf}{net:Int}{rs:List (List Hop)}(hS:Small c)(hv:VA c net rs){D:Pl→Int}{M:Int}(hM:0≤M){r:List Hop}(hr:r∈rs)(hD:∀ h∈r,-M≤D (pk h)∧D (pk h)≤M)(n:Int) : -(32*(M+1016))≤jn c D r n∧jn c D r n≤32*(M+1016):=by
 have h:=ygz (c:=c) (D:=D) hS (hv.each r hr) hM hD r.length n
 rw[List.take_of_length_le (Nat.le_refl _)] at h
 exact h
theorem fw_use{c:Cf}{rs:List (List Hop)}{D:Pl→Int}{p:Pl}{x:Fw}(hx:x∈fws c rs D p):∃ h∈nth rs x.v,nth rs x.v∈rs∧0≤x.v∧x.v<rs.length∧pk h=p∧x.j=jn c D (nth rs x.v) h.fNode∧x.k=fwL (nth rs x.v) p:=by
 obtain⟨v,v0,v1,hu,rfl⟩:=ycY.1 hx
 obtain⟨h,hh,e⟩:=y8e.1 hu
 refine⟨h,hh,yU v0 v1,v0,v1,e,?_,rfl⟩
 rw[← e];rfl
theorem HI.ok{c:Cf}{net:Int}{rs:List (List Hop)}(hS:Small c)(hv:VA c net rs){l1 l2:List Pl}{p:Pl}(ho:y37 rs (l1++p::l2)){D:Pl→Int}(h:HI c l1 D):FwOK c (fws c rs D p):=by
 refine FL_ok hS hv fun x hx=>?_
 obtain⟨y,hy,hr,_,_,e,ej,_⟩:=fw_use hx
 have h1:=h.jn0 hS hv ho hr y hy (.inr e)
 have h2:=jn_up (c:=c) (D:=D) hS hv (M:=33768) (by omega) hr (fun z hz=>by have:=h.rng hS hv hr hz;omega) y.fNode
 rw[ej];omega
theorem Arr_pos{c:Cf}(hv:VLs c){l:List Fw}(hl:FwOK c l){x:Fw}(hx:x∈l){t:Int}(h0:0≤t)(h1:t≤4294967296):1≤Arr c l t:=by
 have hb:=(y8n hv hl hx h0 h1).1
 have hk:=hl.k0 x hx
 have hm:=hv.mx (hl.v0 x hx).1 (hl.v0 x hx).2
 have hmem:x∈l.filter fun y=>decide (y.k=x.k):=List.mem_filter.2 ⟨hx,by simp⟩
 have hg:1≤yaC c l t x.k:=by
  have:=ygA (f:=fun x=>byt c x t) (l:=l.filter fun y=>decide (y.k=x.k)) (fun y hy=>by have:=(y8n hv hl (List.mem_filter.1 hy).1 h0 h1).1;omega) hmem
  unfold yaC;omega
 have hw:1≤gwid c l x.k:=by
  have:=maxI_mem (x:=mx c x.v) (l:=(l.filter fun y=>decide (y.k=x.k)).map fun x=>mx c x.v) (List.mem_map.2 ⟨x,hmem,rfl⟩)
  unfold gwid;omega
 have hgv:1≤y80 c l t x.k:=by
  have hd:0≤t / max 1 (slw c x.k):=Int.ediv_nonneg h0 (by omega)
  unfold y80;split <;> omega
 have:=ygA (f:=y80 c l t) (l:=lks c) (fun L _=>(y9h hv hl h0 h1).1) (x:=x.k) (by unfold lks;exact y9e.2 ⟨by omega,by push_cast;omega⟩)
 unfold Arr;omega
theorem yh5{c:Cf}(hv:VLs c){l:List Fw}(hl:FwOK c l):0≤ya8 c l∧ya8 c l≤72:=by
 unfold ya8
 refine⟨yb1 _,yhD (by omega) fun x hx=>?_⟩
 obtain⟨y,hy,rfl⟩:=List.mem_map.1 hx
 exact(hv.mx (hl.v0 y hy).1 (hl.v0 y hy).2).2.1
theorem PS_hop{c:Cf}{net:Int}{rs:List (List Hop)}(hS:Small c)(hv:VA c net rs){p:Pl}(hp:p∈PS rs):∃ r∈rs,∃ h∈r,pk h=p∧HV c h:=by
 obtain⟨r,hr,h,hh,e⟩:=(y7B rs p).1 hp
 exact⟨r,hr,h,hh,e,(hv.each r hr).hop hS hh⟩
theorem ygI{c:Cf}{net:Int}{rs:List (List Hop)}(hS:Small c)(hv:VA c net rs){p:Pl}(hp:p∈PS rs):(1≤slw c p.fQ∧slw c p.fQ≤16)∧(0≤y3v c p.fNode∧y3v c p.fNode≤1000):=by
 obtain⟨r,hr,h,hh,rfl,hx⟩:=PS_hop hS hv hp
 exact⟨⟨hx.s0,hx.s1⟩,⟨hx.d0,hx.d1⟩⟩
theorem fw_ex{c:Cf}{net:Int}{rs:List (List Hop)}{D:Pl→Int}{p:Pl}(hp:p∈PS rs):∃ x,x∈fws c rs D p:=by
 obtain⟨r,hr,h,hh,e⟩:=(y7B rs p).1 hp
 obtain⟨i,i0,i1,rfl⟩:=y6D hr
 exact⟨_,ycY.2 ⟨i,i0,i1,y8e.2 ⟨h,hh,e⟩,rfl⟩⟩
theorem hport_at{c:Cf}{net:Int}{rs:List (List Hop)}(hS:Small c)(hv:VA c net rs)(hV:VLs c){l1 l2:List Pl}{p:Pl}(ho:y37 rs (l1++p::l2))(hp:p∈PS rs){de:DM}(h:HI c l1 (dD de)):
  y5v c rs p de=some (if bzH c rs (dD de) p≤32768 then(pbH c rs (dD de) p,0) else(⟨0,0,0,0⟩,360)):=by
 have hok:=h.ok hS hv ho
 obtain⟨fs,e,ht⟩:=yh4 (p:=p) (de:=de) hS hv hV (fun r hr x hx=>by have:0≤yf de (pk x) 0∧yf de (pk x) 0≤33768:=h.rng hS hv hr hx;omega) hok.j0
 obtain⟨h1,h2⟩:=ygI hS hv hp
 exact hport_eq hS (hv.pi hS hp) ⟨fun t t0 t1=>yiN hS hV hok t0 t1⟩ e (yh5 hV hok) ht h1 h2
theorem HI.put{c:Cf}{net:Int}{rs:List (List Hop)}(hS:Small c)(hv:VA c net rs)(hV:VLs c){l1 l2:List Pl}{p:Pl}(ho:y37 rs (l1++p::l2))(hp:p∈PS rs){de:DM}(h:HI c l1 (dD de))(hb:bzH c rs (dD de) p≤32768):HI c (l1++[p]) (dD (yF de p (pbH c rs (dD de) p).fDelay)):=by
 have hok:=h.ok hS hv ho
 obtain⟨h1,h2⟩:=ygI hS hv hp
 obtain⟨x,hx⟩:=fw_ex (c:=c) (net:=net) (D:=dD de) hp
 have hd:=HB_delay (A:=Arr c (fws c rs (dD de) p)) (most:=ya8 c (fws c rs (dD de) p)) (fun t t' _ ht=>Arr_mono hV hok ht) (Arr_pos hV hok hx (t:=0) (by omega) (by omega)) h1 h2 hb
 refine⟨fun q hq=>?_,fun q hq=>?_⟩
 ·unfold dD;rw[y3j]
  by_cases e:q=p
  ·rw[if_pos e,e];exact hd
  ·rw[if_neg e]
   rcases List.mem_append.1 hq with hq | hq
   ·exact h.i q hq
   ·exact absurd (List.mem_singleton.1 hq) e
 ·unfold dD;rw[y3j,if_neg (fun e=>hq (by rw[e];simp))]
  exact h.o q fun hm=>hq (List.mem_append_left _ hm)
theorem ydE{c:Cf}{net:Int}{rs:List (List Hop)}{l:List Pl}{e0:Int}{k:List PB→Option (S39×Int)}(hS:Small c)(hv:VA c net rs)(hV:VLs c)(hlp:∀ p∈l,p∈PS rs)(ho:y37 rs l)(hle:l.length≤100000):
  ∀(n:Nat) (v:Int) (de:DM) (out:List PB),0≤v→v≤l.length→l.length<n+v→out.length=v→HI c (l.take v.toNat) (dD de)→
   y36 (l.map fun p=>(⟨p.fNode,p.fQ,0,0⟩:S36),e0) c rs k n v de out=match y9R c rs (l.drop v.toNat) de out with | some t=>k t.2 | none=>some (⟨[],[]⟩,360)
 | 0,v,de,out,h0,h1,h2,h3,h4=>by omega
 | n+1,v,de,out,h0,h1,h2,h3,h4=>by
  rw[y36]
  have hml:(((l.map fun p=>(⟨p.fNode,p.fQ,0,0⟩:S36)).length:Nat):Int)=l.length:=by rw[List.length_map]
  simp only[hml]
  by_cases h:v<l.length
  ·have hsp:l=l.take v.toNat++nth l v::l.drop (v.toNat+1):=by rw[← y4a h0 h,List.take_append_drop]
   have hpm:=hlp _ (yU h0 h)
   rw[if_pos (decide_eq_true h),yt ⟨h0,h⟩,y4a h0 h,y9R]
   have en:nth (l.map fun p=>(⟨p.fNode,p.fQ,0,0⟩:S36)) v=⟨(nth l v).fNode,(nth l v).fQ,0,0⟩:=by
    rw[y5w ⟨h0,by rw[List.length_map];exact h⟩,List.getElem_map,← y5w ⟨h0,h⟩]
   have ho2:y37 rs (l.take v.toNat++nth l v::l.drop (v.toNat+1)):=hsp▸ho
   rw[en]
   have ep:(⟨(nth l v).fNode,(nth l v).fQ⟩:z8)=nth l v:=rfl
   simp only[ep]
   rw[hport_at hS hv hV ho2 hpm h4,oB]
   by_cases hb:bzH c rs (dD de) (nth l v)≤32768
   ·rw[if_pos hb,if_pos hb,if_neg (by simp)]
    have hol:(out++[pbH c rs (dD de) (nth l v)]).length=v+1:=by rw[List.length_append,List.length_singleton];push_cast;omega
    rw[yt (by rw[hol];omega),yy (x:=v+1) (by omega)]
    have h5:=h4.put hS hv hV ho2 hpm hb
    have et:l.take (v+1).toNat=l.take v.toNat++[nth l v]:=by
     rw[show(v+1).toNat=v.toNat+1 by omega,List.take_succ_eq_append_getElem (by omega),y5w ⟨h0,h⟩]
    rw[← et] at h5
    rw[ydE hS hv hV hlp ho hle n (v+1) _ _ (by omega) (by omega) (by omega) hol h5,show(v+1).toNat=v.toNat+1 by omega]
   ·rw[if_neg hb,if_neg hb,if_pos (by simp)]
  ·rw[if_neg (by simpa using h),List.drop_eq_nil_of_le (by omega),y9R]
theorem ygJ{c:Cf}{rs:List (List Hop)}:∀(l:List Pl) (de:DM) (out:List PB) (t:DM×List PB),y9R c rs l de out=some t→t.2.map pbk=out.map pbk++l∧t.2.length=out.length+l.length
 | [],de,out,t,h=>by injection h with h;subst h;simp
 | p::l,de,out,t,h=>by
  rw[y9R] at h
  split at h
  ·obtain⟨h1,h2⟩:=ygJ l _ _ t h
   rw[h1,h2]
   refine⟨?_,by simp;omega⟩
   rw[List.map_append]
   simp only[List.map_cons,List.map_nil,List.append_assoc,List.cons_append,List.nil_append]
   rfl
  ·cases h
theorem hsort_eq{l:List PB}(hn:(l.map pbk).Nodup)(hs:l.length≤1000000)(hb:∀ b∈l,-1000000000≤b.fNode∧b.fNode≤1000000000 ∧ -1000000000≤b.fQ∧b.fQ≤1000000000):
  yQ l (fun y0 y1=>y15 y0 y1)=some (yX y15 l)∧(yX y15 l).Pairwise fun a b=>¬plt (pbk b) (pbk a):=by
 have hp:∀ x∈l,∀ y∈l,∃ v,y15 x y=some v∧(v<0↔plt (pbk x) (pbk y))∧(v≤0↔¬plt (pbk y) (pbk x)):=by
  intro x hx y hy
  have:=hb x hx;have:=hb y hy
  unfold y15 plt pbk
  simp only[ne_eq,decide_eq_true_eq]
  by_cases e:x.fNode=y.fNode
  ·rw[if_neg (by simpa using e),yy (by omega)]
   exact⟨_,rfl,by omega,by omega⟩
  ·rw[if_pos (by simpa using e),yy (by omega)]
   exact⟨_,rfl,by omega,by omega⟩
 have hinj:∀ x∈l,∀ y∈l,pbk x=pbk y→x=y:=by
  intro x hx y hy e
  obtain⟨i,hi,rfl⟩:=List.getElem_of_mem hx
  obtain⟨j,hj,rfl⟩:=List.getElem_of_mem hy
  have h1:(l.map pbk)[i]'(by simpa using hi)=(l.map pbk)[j]'(by simpa using hj):=by simpa using e
  have:=(List.getElem_inj (h₀:=by simpa using hi) (h₁:=by simpa using hj) hn).1 h1
  subst this;rfl
 obtain⟨ho,hsrt⟩:=yda (p:=y15) (lt:=fun a b=>plt (pbk a) (pbk b)) (l:=l) hp (fun x y=>ydU _ _) (fun x y z=>yg9 _ _ _) (fun x hx y hy h1 h2=>hinj x hx y hy (yeu _ _ h1 h2))
 refine⟨?_,hsrt⟩
 unfold yQ y4k y2A
 rw[ydb (by omega),yt (by omega),oB]
 have hb:=ybY l.length (by omega)
 rw[Int.toNat_natCast,yt ⟨⟨rfl,rfl⟩,by omega,by omega,by omega⟩,yt ho,oB]
theorem yfA:∀ {a b:List Pl},a.Perm b→a.Nodup→a.Pairwise (fun x y=>¬plt y x)→b.Pairwise (fun x y=>¬plt y x)→a=b
 | [],b,hp,_,_,_=>by have:=hp.length_eq;cases b with | nil=>rfl | cons y b=>simp at this
 | x::a,[],hp,_,_,_=>by have:=hp.length_eq;simp at this
 | x::a,y::b,hp,hn,ha,hb=>by
  have hxy:x=y:=by
   have h1:x∈y::b:=hp.subset (by simp)
   have h2:y∈x::a:=hp.symm.subset (by simp)
   rcases List.mem_cons.1 h1 with h1 | h1
   ·exact h1
   rcases List.mem_cons.1 h2 with h2 | h2
   ·exact h2.symm
   exact yeu _ _ ((List.pairwise_cons.1 hb).1 x h1) ((List.pairwise_cons.1 ha).1 y h2)
  subst hxy
  rw[yfA hp.cons_inv (List.nodup_cons.1 hn).2 (List.pairwise_cons.1 ha).2 (List.pairwise_cons.1 hb).2]
theorem yiO{rs:List (List Hop)}(hr:∀ r∈rs,r.length≤1000)(hl:rs.length≤100):(PS rs).Pairwise fun a b=>¬plt b a:=by
 refine(yga ?_).2
 have h1:=ybZ (allH rs) []
 have h2:=ydV hr
 have h3:rs.length*1000≤100*1000:=Nat.mul_le_mul_right _ hl
 simp only[List.length_nil] at h1
 omega
inductive HC (c:Cf) (net:Int) (rs:List (List Hop)):S39×Int→Prop
 | route:¬VA c net rs→HC c net rs (⟨[],[]⟩,310)
 | vl:VA c net rs→¬VOK c→HC c net rs (⟨[],[]⟩,350)
 | cycle (s:List Pl):VA c net rs→VOK c→y9g rs s→HC c net rs (⟨[],[]⟩,351)
 | busy (l:List Pl):VA c net rs→VOK c→l.Perm (PS rs)→y37 rs l→y9R c rs l [] []=none→HC c net rs (⟨[],[]⟩,360)
 | ok (l:List Pl) (t:DM×List PB):VA c net rs→VOK c→l.Perm (PS rs)→y37 rs l→y9R c rs l [] []=some t→(yX y15 t.2).map pbk=PS rs→HC c net rs (⟨yX y15 t.2,EN c rs (yX y15 t.2)⟩,0)
theorem HC_eq{c:Cf}{net:Int}{rs:List (List Hop)}(hf:FewP c rs):∃ x,y4A c net rs=some x∧HC c net rs x:=by
 have hS:=hf.small
 have hr1:∀ r∈rs,r.length<1000000000:=fun r hr=>by have:=hf.e r hr;omega
 have hrs:=hf.r
 obtain⟨y,cy,hcp⟩:=yi6 (net:=net) hf
 unfold y4A
 by_cases hv:VA c net rs
 ·have hps:=ycO hf.e
  have h3:rs.length*40≤20*40:=Nat.mul_le_mul_right _ hrs
  rw[cy]
  by_cases hvo:VOK c
  ·have hy:y.2≠350:=by
    cases hcp with
    | route h=>exact absurd hv h
    | vl _ h=>exact absurd hvo h
    | cycle=>decide
    | err l e _ _ _ _ h _=>exact zLR l w0 e rfl h
    | ok=>exact(show(0:Int)≠350 by decide)
   rcases ygE (net:=net) hf hv with⟨l,e1,e2,e3⟩ | ⟨s,e1,e2⟩
   ·have hlen:=e1.length_eq
    rw[e3,oB,if_neg (by simp),oB,if_neg (by simpa using hy),if_neg (by simp)]
    refine y1E (P:=fun o=>∃ x,o=some x∧HC c net rs x) fun k hk=>?_
    have hL:=ydE (l:=l) (e0:=0) (k:=k) hS hv hvo.vls (fun p hp=>e1.subset hp) e2 (by omega) yx 0 [] [] (by omega) (by omega) (by rw[yP];omega) rfl ⟨by simp,fun q _=>rfl⟩
    simp only[Int.toNat_zero,List.drop_zero] at hL
    rw[hL]
    cases hrun:y9R c rs l [] [] with
    | none=>exact⟨_,rfl,.busy l hv hvo e1 e2 hrun⟩
    | some t=>
     obtain⟨o1,o2⟩:=ygJ l [] [] t hrun
     have hol:t.2.length=l.length:=by rw[o2];simp
     have hmap:t.2.map pbk=l:=by rw[o1];simp
     have hnd:(t.2.map pbk).Nodup:=by rw[hmap];exact e1.nodup_iff.2 (y9b rs)
     simp only
     have hso:=hsort_eq (l:=t.2) hnd (by omega) (fun b hb=>by
      have hm:pbk b∈PS rs:=e1.subset (by rw[← hmap];exact List.mem_map.2 ⟨b,hb,rfl⟩)
      have:=hv.pi hS hm
      have a:=this.l0;have b1:=this.l1;have d:=this.n0;have f:=this.n1
      have:=hS.l;have:=hS.m;have:=hS.s
      unfold nN at f
      have e4:(pbk b).fNode=b.fNode:=rfl
      have e5:(pbk b).fQ=b.fQ:=rfl
      omega)
     rw[hk,hso.1,oB,yhC (net:=net) hS hv.each (by omega) (by rw[y6Y];omega),oB]
     have hpp:((yX y15 t.2).map pbk).Perm (PS rs):=by
      refine((y3V _ _).map pbk).trans ?_
      rw[hmap];exact e1
     refine⟨_,rfl,.ok l t hv hvo e1 e2 hrun (yfA hpp (hpp.nodup_iff.2 (y9b rs)) ?_ (yiO (fun r hr=>by have:=hf.e r hr;omega) (by omega)))⟩
     rw[List.pairwise_map]
     exact hso.2
   ·rw[e2,oB,if_neg (by simp),oB,if_neg (by simpa using hy),if_pos (by simp)]
    exact⟨_,rfl,.cycle s hv hvo e1⟩
  ·have hy:y=(⟨[],[]⟩,350):=by
    cases hcp with
    | route h=>exact absurd hv h
    | vl _ h=>rfl
    | cycle _ _ h=>exact absurd h hvo
    | err _ _ _ h=>exact absurd h hvo
    | ok _ _ _ h=>exact absurd h hvo
   subst hy
   rcases ygE (net:=net) hf hv with⟨l,e1,e2,e3⟩ | ⟨s,e1,e2⟩
   ·rw[e3,oB,if_neg (by simp),oB,if_pos (by simp)]
    exact⟨_,rfl,.vl hv hvo⟩
   ·rw[e2,oB,if_neg (by simp),oB,if_pos (by simp)]
    exact⟨_,rfl,.vl hv hvo⟩
 ·have ho:y4X c net rs=some ([],310):=by
   unfold y4X
   obtain⟨b,q1,q2⟩:=yaw hS (net:=net) (rs:=rs) hr1 (by omega)
   have hb:b=false:=by
    cases b with
    | false=>rfl
    | true=>exact absurd (q2.1 rfl) hv
   rw[q1,hb];rfl
  rw[ho,oB,if_pos (by simp)]
  exact⟨_,rfl,.route hv⟩
end Go.Proofs.YthjnhebofpebpaaGreat
namespace Go.Proofs.YthjnhebofpebpaaGreat
open Go Go.RowKit Sep
/-! ### the delays that are computed: they satisfy their own equations -/
structure HF (c:Cf) (rs:List (List Hop)) (D:Pl→Int):Prop where
 b:∀ p∈PS rs,bzH c rs D p≤32768
 d:∀ p∈PS rs,D p=(pbH c rs D p).fDelay
 r:∀ p∈PS rs,y3v c p.fNode+slw c p.fQ≤D p∧D p≤33768
 z:∀ p,p∉PS rs→D p=0
theorem yiP{c:Cf}{net:Int}{rs:List (List Hop)}(hv:VA c net rs){l1 l2:List Pl}{p:Pl}(ho:y37 rs (l1++p::l2)){D D':Pl→Int}(h:∀ q∈l1,D q=D' q):fws c rs D p=fws c rs D' p:=by
 unfold fws
 refine List.map_congr_left fun v hvm=>?_
 obtain⟨hv0,hu⟩:=List.mem_filter.1 hvm
 have hv1:=y9e.1 hv0
 have hr:=yU (l:=rs) (i:=v) (by omega) (by omega)
 obtain⟨x,hx,e⟩:=y8e.1 hu
 have hn:p.fNode=x.fNode:=by rw[← e];rfl
 unfold fwOf
 rw[hn,(hv.each _ hr).jn_eq (D:=D) (D':=D') (S:=fun q=>q∈l1∨q=p) (fun y hy hs g hg eg=>?_) x hx (.inr e)]
 have:=ho.clo hv hr hy hs hg eg
 exact⟨.inl this,h _ this⟩
theorem ygK{c:Cf}{net:Int}{rs:List (List Hop)}(hS:Small c)(hv:VA c net rs)(hV:VLs c):∀(l2 l1:List Pl) (de:DM) (out:List PB) (t:DM×List PB),(l1++l2).Nodup→(∀ p∈l1++l2,p∈PS rs)→y37 rs (l1++l2)→HI c l1 (dD de)→y9R c rs l2 de out=some t→
  (∀ q,q∉l2→dD t.1 q=dD de q)∧HI c (l1++l2) (dD t.1)∧(∀ p∈l2,bzH c rs (dD t.1) p≤32768∧dD t.1 p=(pbH c rs (dD t.1) p).fDelay)∧t.2=out++l2.map (pbH c rs (dD t.1))
 | [],l1,de,out,t,hn,hp,ho,hi,h=>by
  injection h with h;subst h
  simpa using hi
 | p::l2,l1,de,out,t,hn,hp,ho,hi,h=>by
  rw[y9R] at h
  split at h
  ·rename_i hb
   have hpm:=hp p (by simp)
   have e1:(l1++[p])++l2=l1++p::l2:=by simp
   have hp2:p∉l2:=by
    have:=(List.nodup_append.1 hn).2.1
    exact(List.nodup_cons.1 this).1
   have hp1:∀ q∈l1,q≠p:=by
    intro q hq e
    exact(List.nodup_append.1 hn).2.2 q hq p (by simp) e
   have hl12:∀ q∈l1,q∉l2:=by
    intro q hq h2
    exact(List.nodup_append.1 hn).2.2 q hq q (List.mem_cons_of_mem _ h2) rfl
   obtain⟨k1,k2,k3,k4⟩:=ygK hS hv hV l2 (l1++[p]) _ _ t (by rw[e1];exact hn) (by rw[e1];exact hp) (by rw[e1];exact ho) (hi.put hS hv hV ho hpm hb) h
   have hag:∀ q∈l1,dD de q=dD t.1 q:=by
    intro q hq
    rw[k1 q (hl12 q hq)]
    unfold dD;rw[y3j,if_neg (hp1 q hq)]
   have hfw:=yiP hv ho hag
   have hpb:pbH c rs (dD de) p=pbH c rs (dD t.1) p:=by unfold pbH;rw[hfw]
   have hbz:bzH c rs (dD de) p=bzH c rs (dD t.1) p:=by unfold bzH;rw[hfw]
   refine⟨fun q hq=>?_,by rw[← e1];exact k2,fun q hq=>?_,?_⟩
   ·rw[k1 q fun hm=>hq (List.mem_cons_of_mem _ hm)]
    unfold dD;rw[y3j,if_neg (fun e=>hq (by rw[e];simp))]
   ·rcases List.mem_cons.1 hq with rfl | hq
    ·refine⟨hbz▸hb,?_⟩
     rw[k1 q hp2,← hpb]
     show yf (yF de q _) q 0=_
     rw[y3j,if_pos rfl]
    ·exact k3 q hq
   ·rw[k4,hpb];simp
  ·cases h
theorem HC_fix{c:Cf}{net:Int}{rs:List (List Hop)}(hS:Small c)(hv:VA c net rs)(hV:VLs c){l:List Pl}{t:DM×List PB}(hp:l.Perm (PS rs))(ho:y37 rs l)(h:y9R c rs l [] []=some t):HF c rs (dD t.1)∧t.2=l.map (pbH c rs (dD t.1)):=by
 obtain⟨k1,k2,k3,k4⟩:=ygK hS hv hV l [] [] [] t (by simpa using hp.nodup_iff.2 (y9b rs)) (fun p hm=>hp.subset (by simpa using hm)) (by simpa using ho) ⟨by simp,fun q _=>rfl⟩ h
 simp only[List.nil_append] at *
 refine⟨⟨fun p hm=>(k3 p (hp.symm.subset hm)).1,fun p hm=>(k3 p (hp.symm.subset hm)).2,fun p hm=>k2.i p (hp.symm.subset hm),fun p hm=>k2.o p fun hq=>hm (hp.subset hq)⟩,k4⟩
theorem jn_pos{c:Cf}{net:Int}{rs:List (List Hop)}(hv:VA c net rs){D:Pl→Int}(hD:∀ p∈PS rs,y3v c p.fNode+slw c p.fQ≤D p){r:List Hop}(hr:r∈rs):∀ x∈r,0≤jn c D r x.fNode:=by
 have hv1:=hv.each r hr
 refine hv1.ind (P:=fun x=>0≤jn c D r x.fNode) (fun x hx e=>?_) (fun g hg x hx e ih=>?_)
 ·rw[e,hv1.jn_start];exact Int.le_refl _
 ·have h1:=hD (pk g) ((y7B rs _).2 ⟨r,hr,g,hg,rfl⟩)
  rw[← e,hv1.jn_next D hg]
  have e1:(pk g).fNode=g.fNode:=rfl
  have e2:(pk g).fQ=g.fQ:=rfl
  rw[e1,e2] at h1
  omega
theorem HF.rng{c:Cf}{rs:List (List Hop)}{D:Pl→Int}(h:HF c rs D){net:Int}(hS:Small c)(hv:VA c net rs){r:List Hop}(hr:r∈rs){x:Hop}(hx:x∈r):0≤D (pk x)∧D (pk x)≤33768:=by
 have hm:pk x∈PS rs:=(y7B rs _).2 ⟨r,hr,x,hx,rfl⟩
 have h1:=h.r _ hm
 have h2:=ygI hS hv hm
 omega
theorem HF.ok{c:Cf}{rs:List (List Hop)}{D:Pl→Int}(h:HF c rs D){net:Int}(hS:Small c)(hv:VA c net rs)(p:Pl):FwOK c (fws c rs D p):=by
 refine FL_ok hS hv fun x hx=>?_
 obtain⟨y,hy,hr,_,_,e,ej,_⟩:=fw_use hx
 have h1:=jn_pos hv (fun p hm=>(h.r p hm).1) hr y hy
 have h2:=jn_up (c:=c) (D:=D) hS hv (M:=33768) (by omega) hr (fun z hz=>by have:=h.rng hS hv hr hz;omega) y.fNode
 rw[ej];omega
/-! ### less comes, less is delayed -/
structure LH (c d:Cf) (rs rs':List (List Hop)):Prop where
 m:d.fM=c.fM
 s:d.fS=c.fS
 l:d.fK=c.fK
 vc:VLs c
 vd:VLs d
 len:rs'.length=rs.length
 r:∀ v:Int,0≤v→v<rs.length→nth rs' v=nth rs v∨nth rs' v=[]
 mx:∀ v:Int,0≤v→v<rs.length→mx d v≤mx c v
 bg:∀ v:Int,0≤v→v<rs.length→bgV d v=bgV c v
theorem LH.lat{c d:Cf}{rs rs':List (List Hop)}(h:LH c d rs rs')(n:Int):y3v d n=y3v c n:=by unfold y3v nM;rw[h.m,h.s]
theorem LH.slw{c d:Cf}{rs rs':List (List Hop)}(h:LH c d rs rs')(n:Int):slw d n=slw c n:=by unfold Go.Proofs.YthjnhebofpebpaaGreat.slw;rw[h.l]
theorem LH.uses{c d:Cf}{rs rs':List (List Hop)}(h:LH c d rs rs'){v:Int}(v0:0≤v)(v1:v<rs.length){p:Pl}(hu:uses p (nth rs' v)=true):nth rs' v=nth rs v:=by
 rcases h.r v v0 v1 with e | e
 ·exact e
 ·rw[e] at hu;simp[Go.Proofs.YthjnhebofpebpaaGreat.uses] at hu
theorem LH.ps{c d:Cf}{rs rs':List (List Hop)}(h:LH c d rs rs'){p:Pl}(hp:p∈PS rs'):p∈PS rs:=by
 obtain⟨r,hr,x,hx,e⟩:=(y7B rs' p).1 hp
 obtain⟨v,v0,v1,rfl⟩:=y6D hr
 rw[h.len] at v1
 rw[h.uses v0 v1 (p:=p) (y8e.2 ⟨x,hx,e⟩)] at hx
 exact(y7B rs p).2 ⟨_,yU v0 v1,x,hx,e⟩
structure LW (c d:Cf) (rs rs':List (List Hop)) (D D':Pl→Int) (p:Pl):Prop where
 j:∀ v:Int,0≤v→v<rs.length→uses p (nth rs' v)=true→jn d D' (nth rs' v) p.fNode≤jn c D (nth rs v) p.fNode
end Go.Proofs.YthjnhebofpebpaaGreat
namespace Go.Proofs.YthjnhebofpebpaaGreat
open Go Go.RowKit Sep
/-! ### the ends -/
theorem yc8{b:PB}:∀ {l:List PB},(l.map pbk).Nodup→b∈l→yf (dem l) (pbk b) 0=b.fDelay
 | [],_,h=>by cases h
 | a::l,hn,h=>by
  show yf (yF (dem l) (pbk a) a.fDelay) (pbk b) 0=_
  rw[List.map_cons,List.nodup_cons] at hn
  rw[y3j]
  by_cases e:pbk b=pbk a
  ·rw[if_pos e]
   rcases List.mem_cons.1 h with h | h
   ·rw[h]
   ·exact absurd (List.mem_map.2 ⟨b,h,e⟩) hn.1
  ·rw[if_neg e]
   rcases List.mem_cons.1 h with h | h
   ·exact absurd (by rw[h]) e
   ·exact yc8 hn.2 h
structure ERH (s2 s1:ES) (n:Int):Prop where
 h:∀ k,y2V s2.sum k=y2V s1.sum k
 s:∀ k,0≤yf s2.sum k 0∧yf s2.sum k 0≤yf s1.sum k 0∧yf s1.sum k 0≤n*1073741824
 e:∀ x∈s2.ends,∃ y∈s1.ends,x.fVL=y.fVL∧x.fNode=y.fNode∧x.fDelay≤y.fDelay
theorem ERH.step{c d:Cf}(hm:nM d=nM c){r:List Hop}{v:Int}{de2 de1:DM}{h:Hop}(hd:0≤yf de2 (pk h) 0∧yf de2 (pk h) 0≤yf de1 (pk h) 0∧yf de1 (pk h) 0≤1073741824){s2 s1:ES}{n:Int}(hn:0≤n∧n≤1000)(hi:ERH s2 s1 n):ERH (est d r de2 v s2 h) (est c r de1 v s1 h) (n+1):=by
 unfold est
 rw[hi.h h.fNext]
 split
 ·exact⟨hi.h,fun k=>by have:=hi.s k;omega,hi.e⟩
 ·have hs:=hi.s h.fNode
  have hsum:0≤i64 (yf s2.sum h.fNode 0+yf de2 (pk h) 0)∧i64 (yf s2.sum h.fNode 0+yf de2 (pk h) 0)≤i64 (yf s1.sum h.fNode 0+yf de1 (pk h) 0)∧i64 (yf s1.sum h.fNode 0+yf de1 (pk h) 0)≤(n+1)*1073741824:=by
   rw[yy (by omega),yy (by omega)]
   omega
  simp only
  refine⟨fun k=>?_,fun k=>?_,?_⟩
  ·show y2V (yF _ _ _) k=y2V (yF _ _ _) k
   rw[yax,yax,hi.h k]
  ·show 0≤yf (yF _ _ _) k 0∧yf (yF _ _ _) k 0≤yf (yF _ _ _) k 0∧yf (yF _ _ _) k 0≤_
   rw[y3j,y3j]
   by_cases e:k=h.fNext
   ·rw[if_pos e,if_pos e];exact hsum
   ·rw[if_neg e,if_neg e];have:=hi.s k;omega
  ·rw[hm]
   split
   ·intro x hx
    have hx:x∈s2.ends++[_]:=hx
    rcases List.mem_append.1 hx with hx | hx
    ·obtain⟨y,hy,e⟩:=hi.e x hx
     exact⟨y,List.mem_append_left _ hy,e⟩
    ·rw[List.mem_singleton.1 hx]
     refine⟨_,List.mem_append_right _ (List.mem_singleton.2 rfl),rfl,rfl,?_⟩
     show yf (yF _ _ _) h.fNext 0≤yf (yF _ _ _) h.fNext 0
     rw[y3j,y3j,if_pos rfl,if_pos rfl]
     exact hsum.2.1
   ·exact hi.e
theorem ERH.fold{c d:Cf}(hm:nM d=nM c){r:List Hop}{v:Int}{de2 de1:DM}:∀(hs:List Hop) {s2 s1:ES} {n:Int},(∀ h∈hs,0≤yf de2 (pk h) 0∧yf de2 (pk h) 0≤yf de1 (pk h) 0∧yf de1 (pk h) 0≤1073741824)→0≤n→n+hs.length≤1000→ERH s2 s1 n→
  ERH (hs.foldl (est d r de2 v) s2) (hs.foldl (est c r de1 v) s1) (n+hs.length)
 | [],s2,s1,n,_,_,_,h=>by simpa using h
 | h::hs,s2,s1,n,hd,h0,h1,hi=>by
  rw[List.foldl_cons,List.foldl_cons]
  rw[List.length_cons] at h1
  have:=ERH.fold (c:=c) (d:=d) hm (r:=r) (v:=v) hs (fun x hx=>hd x (List.mem_cons_of_mem _ hx)) (n:=n+1) (by omega) (by omega) (hi.step hm (r:=r) (v:=v) (hd h (List.mem_cons_self ..)) (by omega))
  rw[List.length_cons,show n+((hs.length+1:Nat):Int)=n+1+(hs.length:Int) by omega]
  exact this
def y9S(c:Cf)(rs:List (List Hop))(D:Pl→Int)(ps:List PB):Prop:=ps.map pbk=PS rs∧∀ b∈ps,b=pbH c rs D (pbk b)
theorem pbk_pbH{c:Cf}{rs:List (List Hop)}{D:Pl→Int}(p:Pl):pbk (pbH c rs D p)=p:=rfl
theorem y9S.of{c:Cf}{rs:List (List Hop)}{l:List Pl}{t:DM×List PB}(h1:(yX y15 t.2).map pbk=PS rs)(h2:t.2=l.map (pbH c rs (dD t.1))):y9S c rs (dD t.1) (yX y15 t.2):=by
 refine⟨h1,fun b hb=>?_⟩
 have hb:=(y3V _ _).subset hb
 rw[h2] at hb
 obtain⟨p,hp,rfl⟩:=List.mem_map.1 hb
 rw[pbk_pbH]
theorem y9S.nd{c:Cf}{rs:List (List Hop)}{D:Pl→Int}{ps:List PB}(h:y9S c rs D ps):(ps.map pbk).Nodup:=by rw[h.1];exact y9b rs
theorem y9S.dem{c:Cf}{rs:List (List Hop)}{D:Pl→Int}{ps:List PB}(h:y9S c rs D ps)(hF:HF c rs D){p:Pl}(hp:p∈PS rs):yf (dem ps) p 0=D p:=by
 rw[← h.1] at hp
 obtain⟨b,hb,rfl⟩:=List.mem_map.1 hp
 rw[yc8 h.nd hb,hF.d (pbk b) (by rw[← h.1];exact hp),← h.2 b hb]
theorem y9S.get{c:Cf}{rs:List (List Hop)}{D:Pl→Int}{ps:List PB}(h:y9S c rs D ps){p:Pl}(hp:p∈PS rs):∃ b∈ps,pbk b=p∧b=pbH c rs D p:=by
 rw[← h.1] at hp
 obtain⟨b,hb,rfl⟩:=List.mem_map.1 hp
 exact⟨b,hb,rfl,h.2 b hb⟩
theorem HC_ok{c:Cf}{net:Int}{rs:List (List Hop)}(hS:Small c){x:S39×Int}(h:HC c net rs x)(h0:x.2=0):VA c net rs∧VOK c∧∃ D ps l,l.Perm (PS rs)∧y37 rs l∧HF c rs D∧y9S c rs D ps∧x=(⟨ps,EN c rs ps⟩,0):=by
 cases h with
 | route _=>cases h0
 | vl _ _=>cases h0
 | cycle _ _ _ _=>cases h0
 | busy _ _ _ _ _ _=>cases h0
 | ok l t hv hvo hp ho hr hs=>
  obtain⟨hF,ht⟩:=HC_fix hS hv hvo.vls hp ho hr
  exact⟨hv,hvo,dD t.1,_,l,hp,ho,hF,y9S.of hs ht,rfl⟩
theorem y9S.len{c:Cf}{rs:List (List Hop)}{D:Pl→Int}{ps:List PB}(h:y9S c rs D ps)(hl:rs.length≤20)(he:∀ r∈rs,r.length≤40):ps.length≤1000000:=by
 have h1:=ycO he
 have h2:ps.length=(PS rs).length:=by rw[← h.1,List.length_map]
 have h3:rs.length*40≤20*40:=Nat.mul_le_mul_right _ hl
 omega
/-! ### less is sent -/
theorem LH.jn{c d:Cf}{net:Int}{rs rs':List (List Hop)}(hL:LH c d rs rs')(hv:VA c net rs)(hv':VA d net rs'){D D':Pl→Int}{S:Pl→Prop}{p:Pl}(hp:S p)(hS:∀ r∈rs',∀ x∈r,S (pk x)→∀ g∈r,g.fNext=x.fNode→S (pk g)∧D' (pk g)≤D (pk g)):LW c d rs rs' D D' p:=by
 refine⟨fun v v0 v1 hu=>?_⟩
 have er:=hL.uses v0 v1 hu
 have hm':=yU (l:=rs') (i:=v) v0 (by rw[hL.len];exact v1)
 have h1:=hv'.each _ hm'
 have h2:=hv.each _ (yU v0 v1)
 rw[← er] at h2 ⊢
 obtain⟨x,hx,e⟩:=y8e.1 hu
 have:=h1.jn_le h2 (fun g _=>⟨hL.lat _,hL.slw _⟩) (D:=D') (D':=D) (S:=S) (hS _ hm') x hx (by rw[e];exact hp)
 have en:p.fNode=x.fNode:=by rw[← e];rfl
 rw[en];exact this
end Go.Proofs.YthjnhebofpebpaaGreat
namespace Go.Proofs.YthjnhebofpebpaaGreat
open Go Go.RowKit Sep
/-! ### holistic.Jitters -/
theorem yfB{ps:List PB}{k:(Nat×DM)→Option (Nat×DM)}(hl:ps.length≤1000000):∀(n:Nat) (i:Int) (m:DM),-1≤i→i<ps.length→i+1<n→
  yR (Nat×DM) ps (fun(x:Int×S36) (s:Nat×DM)=>chk (s.1=0) (y54 x s.2)) k n i (0,m)=k (0,(ps.take (i+1).toNat).foldr (fun b m=>yF m (pbk b) b.fDelay) m)
 | 0,i,m,h0,h1,h2=>by omega
 | n+1,i,m,h0,h1,h2=>by
  rw[yR]
  by_cases h:i≥0
  ·rw[if_pos (decide_eq_true h),yt ⟨h,h1⟩]
   have e1:ps.take (i+1).toNat=ps.take i.toNat++[nth ps i]:=by
    rw[show(i+1).toNat=i.toNat+1 by omega,List.take_succ_eq_append_getElem (by omega),y5w ⟨h,h1⟩]
   have ih:=yfB (k:=k) hl n (i-1) (yF m (pbk (nth ps i)) (nth ps i).fDelay) (by omega) (by omega) (by omega)
   rw[show i-1+1=i by omega] at ih
   rw[e1,List.foldr_append]
   simp only[List.foldr_cons,List.foldr_nil]
   rw[← ih,yy (x:=i-1) (by omega)]
   rfl
  ·rw[if_neg (by simpa using h),show(i+1).toNat=0 by omega]
   simp
theorem table_eq{ps:List PB}(hl:ps.length≤1000000):y5b ps=some (dem ps):=by
 unfold y5b y1T y1L
 have hF:=yP
 generalize yx=N at hF ⊢
 refine y1E (P:=fun o=>o=some (dem ps)) fun k hk=>?_
 rw[oB]
 refine y1E (P:=fun o=>(o.bind fun(y:Nat×DM)=>k y.2)=some (dem ps)) fun k2 hk2=>?_
 rw[yy (by omega),yfB hl N _ [] (by omega) (by omega) (by omega),hk2,oB,hk]
 rw[show((ps.length:Int)-1+1).toNat=ps.length by omega,List.take_of_length_le (Nat.le_refl _)]
 rfl
def JT(c:Cf)(rs:List (List Hop))(D:Pl→Int):List (List Int):=rs.map fun r=>r.map fun h=>jn c D r h.fNode
theorem ycZ{c:Cf}{net:Int}{rs:List (List Hop)}{de:DM}{k:List (List Int)→Option (List (List Int))}(hS:Small c)(hv:VA c net rs)(hD:∀ r∈rs,∀ h∈r,-1099511627776≤yf de (pk h) 0∧yf de (pk h) 0≤1099511627776):∀(n:Nat) (v:Int),0≤v→v≤rs.length→rs.length<n+v→
  y2x rs c de k n (JT c (rs.take v.toNat) (dD de)) v=k (JT c rs (dD de))
 | 0,v,h0,h1,h2=>by omega
 | n+1,v,h0,h1,h2=>by
  have hm:=hv.most
  rw[y2x]
  by_cases h:v<rs.length
  ·rw[if_pos (decide_eq_true h),yt ⟨h0,h⟩,yeH hS (hv.each _ (yU h0 h)) (hD _ (yU h0 h)),oB]
   have e:JT c (rs.take v.toNat) (dD de)++[(nth rs v).map fun h=>jn c (fun q=>yf de q 0) (nth rs v) h.fNode]=JT c (rs.take (v+1).toNat) (dD de):=by
    rw[show(v+1).toNat=v.toNat+1 by omega,List.take_succ_eq_append_getElem (by omega),← y5w ⟨h0,h⟩]
    unfold JT;rw[List.map_append];rfl
   have hlen:(JT c (rs.take (v+1).toNat) (dD de)).length≤16:=by
    unfold JT;rw[List.length_map,List.length_take];omega
   rw[e,yt (by omega),yy (x:=v+1) (by omega)]
   exact ycZ hS hv hD n (v+1) (by omega) (by omega) (by omega)
  ·rw[if_neg (by simpa using h),List.take_of_length_le (by omega)]
theorem yi7{c:Cf}{rs:List (List Hop)}{ps:List PB}(hf:FewP c rs)(hl:ps.length≤1000000)(hD:∀ r∈rs,∀ h∈r,-1099511627776≤yf (dem ps) (pk h) 0∧yf (dem ps) (pk h) 0≤1099511627776):
  (VA c 0 rs∨VA c 1 rs)∧y3e c rs ps=some (JT c rs (dD (dem ps)))∨(¬VA c 0 rs∧¬VA c 1 rs)∧y3e c rs ps=some []:=by
 have hS:=hf.small
 have hr1:∀ r∈rs,r.length<1000000000:=fun r hr=>by have:=hf.e r hr;omega
 have hrs:=hf.r
 obtain⟨b0,p1,p2⟩:=yaw hS (net:=0) (rs:=rs) hr1 (by omega)
 obtain⟨b1,q1,q2⟩:=yaw hS (net:=1) (rs:=rs) hr1 (by omega)
 have fin:∀ net,VA c net rs→((y5b ps).bind fun x=>jp1 (fun(out:List (List Int))=>some out) fun k=>y2x rs c x k yx ([]:List (List Int)) 0)=some (JT c rs (dD (dem ps))):=by
  intro net hv
  rw[table_eq hl,oB]
  have hF:=yP
  generalize yx=N at hF ⊢
  refine y1E (P:=fun o=>o=some (JT c rs (dD (dem ps)))) fun k hk=>?_
  have:=ycZ (k:=k) hS hv hD N 0 (by omega) (by omega) (by omega)
  simp only[Int.toNat_zero,List.take_zero] at this
  rw[show([]:List (List Int))=JT c [] (dD (dem ps)) from rfl,this,hk]
 unfold y3e
 rw[p1,q1,oB]
 cases b0 with
 | true=>
  have hv:=p2.1 rfl
  simp only[Bool.not_true,Bool.false_eq_true,if_false,oB]
  exact .inl ⟨.inl hv,fin 0 hv⟩
 | false=>
  have hn:¬VA c 0 rs:=fun h=>by have:=p2.2 h;cases this
  cases b1 with
  | true=>
   have hv:=q2.1 rfl
   simp only[Bool.not_false,if_true,oB,Bool.not_true,Bool.false_eq_true,if_false]
   exact .inl ⟨.inr hv,fin 1 hv⟩
  | false=>
   have hn1:¬VA c 1 rs:=fun h=>by have:=q2.2 h;cases this
   simp only[Bool.not_false,if_true,oB]
   exact .inr ⟨⟨hn,hn1⟩,trivial⟩
end Go.Proofs.YthjnhebofpebpaaGreat

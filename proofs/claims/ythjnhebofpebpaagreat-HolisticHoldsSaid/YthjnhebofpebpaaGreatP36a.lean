/- A part of this claim's proof. No conditions. -/
import Derived.Test.YthjnhebofpebpaaGreatP35a
set_option linter.all false
namespace Go.Proofs.YthjnhebofpebpaaGreat
open Go Go.RowKit Sep
section
variable {r:List Hop}{net n v:Int}{D:Pl->Int}
def qN(c:Cf)(n:Int):Int:=if n-nM c>=0 then(nth c.fS (n-nM c)).yl else 0
def wy(c:Cf)(k:Int):Int:=(nth c.fK k).yp
theorem WG{c:Cf}(hS:Small c)(h0:0<=n)(h1:n<nN c):mc c n=some (qN c n):=by
 have:=hS.m;have:=hS.s
 unfold mc qN nM
 unfold nN at h1
 rw[xS (by omega)]
 by_cases h:n-(c.fM.length:Int)>=0
 ·rw[if_pos (by simpa using h),if_pos h,xM ⟨by omega,by omega⟩]
 ·rw[Nx h,if_neg h]
structure HV (c:Cf) (h:Hop):Prop where
 l0:0<=h.fQ
 l1:h.fQ<c.fK.length
 n0:0<=h.ya
 n1:h.ya<nN c
 x0:0<=h.fX
 x1:h.fX<nN c
 s0:1<=wy c h.fQ
 s1:wy c h.fQ<=16
 d0:0<=qN c h.ya
 d1:qN c h.ya<=1000
theorem rn.lat{c:Cf}(h:rn c net n):0<=n/\0<=qN c n/\qN c n<=1000:=by
 obtain⟨h0,h⟩:=h
 refine⟨h0,?_⟩
 unfold qN
 rcases h with h | ⟨_,h1,h2,_⟩
 ·rw[if_neg (by omega)];omega
 ·split
  ·exact⟨h1,h2⟩
  ·omega
theorem VR.hop{c:Cf}(hS:Small c)(h:VR c net r){x:Hop}(hx:x∈r):HV c x:=by
 obtain⟨i,i0,i1,rfl⟩:=rL hx
 obtain⟨_,_,_,l0,l1,_,s0,s1,_,fa,fb,ho⟩:=h.cond i i0 i1
 obtain⟨_,_,a2⟩:=Qq hS (nth r i).fQ
 obtain⟨_,_,b2⟩:=Qr hS (nth r i).fQ
 have ha:=fa.lat;have hb:=fb.lat
 rcases ho with⟨e1,e2⟩ | ⟨e1,e2⟩
 ·rw[e1] at ha a2;rw[e2] at hb b2
  exact⟨l0,l1,ha.1,a2,hb.1,b2,s0,s1,ha.2.1,ha.2.2⟩
 ·rw[e1] at ha a2;rw[e2] at hb b2
  exact⟨l0,l1,hb.1,b2,ha.1,a2,s0,s1,hb.2.1,hb.2.2⟩
def iI(c:Cf)(D:Pl->Int)(mp:List (Int×Int))(h:Hop):List (Int×Int):=w7 mp h.fX (xK mp h.ya 0+D (pk h)-qN c h.ya-wy c h.fQ)
def jn(c:Cf)(D:Pl->Int)(r:List Hop)(n:Int):Int:=xK (r.foldl (iI c D) []) n 0
theorem nI{c:Cf}{D:Pl->Int}{n:Int}:∀(l:List Hop) (mp:List (Int×Int)),(∀ g∈l,g.fX≠n)->xK (l.foldl (iI c D) mp) n 0=xK mp n 0
 | [],mp,_=>rfl
 | g::l,mp,h=>by
  rw[List.foldl_cons,nI l _ fun x hx=>h x (List.mem_cons_of_mem _ hx)]
  unfold iI;rw[gG,if_neg fun e=>h g (by simp) e.symm]
theorem VR.rk{c:Cf}(h:VR c net r)(v0:0<=v)(v1:v<r.length){q:Int}(q0:v<=q)(q1:q<r.length):(nth r q).fX≠(nth r v).ya:=by
 intro e
 obtain⟨h1,_⟩:=h.cond v v0 v1
 obtain⟨_,h2,_⟩:=h.cond q (by omega) q1
 rcases h1 with h1 | ⟨k,k0,k1,h1⟩
 ·exact h2 (.inl (e.trans h1))
 ·exact h2 (.inr ⟨k,k0,by omega,h1.trans e.symm⟩)
theorem Ya{g:Hop}(v0:0<=v)(hg:g∈r.drop v.toNat):∃ q:Int,v<=q/\q<r.length/\nth r q=g:=by
 obtain⟨i,hi,rfl⟩:=List.getElem_of_mem hg
 rw[List.length_drop] at hi
 refine⟨v.toNat+i,by omega,by omega,?_⟩
 rw[j6 ⟨by omega,by omega⟩,List.getElem_drop]
 simp only[show((v.toNat:Int)+i).toNat=v.toNat+i by omega]
theorem JM{c:Cf}(v:Nat):jn c D r n=xK ((r.drop v).foldl (iI c D) ((r.take v).foldl (iI c D) [])) n 0:=by
 unfold jn;rw[<- List.foldl_append,List.take_append_drop]
theorem VR.jn_take{c:Cf}(h:VR c net r)(D:Pl->Int)(v0:0<=v)(v1:v<r.length):xK ((r.take v.toNat).foldl (iI c D) []) (nth r v).ya 0=jn c D r (nth r v).ya:=by
 rw[JM v.toNat]
 symm
 refine nI _ _ fun g hg=>?_
 obtain⟨q,q0,q1,rfl⟩:=Ya v0 hg
 exact h.rk v0 v1 q0 q1
theorem VR.jn_next{c:Cf}(h:VR c net r)(D:Pl->Int){g:Hop}(hg:g∈r):jn c D r g.fX=jn c D r g.ya+D (pk g)-qN c g.ya-wy c g.fQ:=by
 obtain⟨v,v0,v1,rfl⟩:=rL hg
 rw[<- h.jn_take D v0 v1]
 rw[JM v.toNat,kg v0 v1,List.foldl_cons,nI]
 ·unfold iI;rw[gG,if_pos rfl]
 ·intro x hx e
  obtain⟨q,q0,q1,rfl⟩:=Ya (v:=v+1) (by omega) (by rw[show(v+1).toNat=v.toNat+1 by omega];exact hx)
  obtain⟨_,h2,_⟩:=h.cond q (by omega) q1
  exact h2 (.inr ⟨v,v0,by omega,e.symm⟩)
theorem T1{c:Cf}(h:∀ g∈r,g.fX≠n):jn c D r n=0:=by
 unfold jn;rw[nI _ _ h];rfl
theorem VR.start{c:Cf}(h:VR c net r):∀ g∈r,g.fX≠(nth r 0).ya:=by
 intro g hg e
 obtain⟨v,v0,v1,rfl⟩:=rL hg
 exact(h.cond v v0 v1).2.1 (.inl e)
theorem VR.jn_start{c:Cf}(h:VR c net r)(D:Pl->Int):jn c D r (nth r 0).ya=0:=T1 h.start
theorem VR.ind{c:Cf}(h:VR c net r){P:Hop->Prop}(hb:∀ x∈r,x.ya=(nth r 0).ya->P x)(hs:∀ g∈r,∀ x∈r,g.fX=x.ya->P g->P x):∀ x∈r,P x:=by
 have key:∀ n:Nat,∀ v:Int,0<=v->v<r.length->v.toNat<n->P (nth r v):=by
  intro n
  induction n with
  | zero=>intro v _ _ h;omega
  | succ n ih=>
   intro v v0 v1 hv
   rcases(h.cond v v0 v1).1 with e | ⟨q,q0,q1,e⟩
   ·exact hb _ (ws v0 v1) e
   ·exact hs _ (ws q0 (by omega)) _ (ws v0 v1) e (ih q q0 (by omega) (by omega))
 intro x hx
 obtain⟨v,v0,v1,rfl⟩:=rL hx
 exact key (v.toNat+1) v v0 v1 (by omega)
theorem Q3{c:Cf}{D:Pl->Int}(hS:Small c){M:Int}(hM:0<=M):∀(l:List Hop) (mp:List (Int×Int)) (B:Int),(∀ h∈l,HV c h /\ -M<=D (pk h)/\D (pk h)<=M)->(∀ n,-B<=xK mp n 0/\xK mp n 0<=B)->∀ n,-(B+l.length*(M+1016))<=xK (l.foldl (iI c D) mp) n 0/\xK (l.foldl (iI c D) mp) n 0<=B+l.length*(M+1016)
 | [],mp,B,_,h,n=>by have:=h n;simpa using this
 | g::l,mp,B,hh,h,n=>by
  have hg:=hh g (by simp)
  have:=Q3 hS hM l (iI c D mp g) (B+(M+1016)) (fun x hx=>hh x (List.mem_cons_of_mem _ hx)) (fun n=>by
   unfold iI;rw[gG]
   have h1:=h n;have h2:=h g.ya
   have a:=hg.1.s0;have b:=hg.1.s1;have d:=hg.1.d0;have e:=hg.1.d1
   split <;> omega) n
  rw[List.foldl_cons,List.length_cons]
  have e:((l.length+1:Nat):Int)*(M+1016)=l.length*(M+1016)+(M+1016):=by push_cast;rw[Int.add_mul];omega
  omega
theorem JO{c:Cf}(hS:Small c)(hv:VR c net r){M:Int}(hM:0<=M)(hD:∀ h∈r,-M<=D (pk h)/\D (pk h)<=M)(v:Nat)(n:Int) : -(32*(M+1016))<=xK ((r.take v).foldl (iI c D) []) n 0/\xK ((r.take v).foldl (iI c D) []) n 0<=32*(M+1016):=by
 have h:=Q3 (c:=c) (D:=D) hS hM (r.take v) [] 0 (fun h hh=>⟨hv.hop hS (List.mem_of_mem_take hh),hD h (List.mem_of_mem_take hh)⟩) (fun n=>by simp[xK]) n
 have hl:(r.take v).length<=32:=by have:=hv.len;rw[List.length_take];omega
 have:((r.take v).length:Int)*(M+1016)<=32*(M+1016):=Int.mul_le_mul_of_nonneg_right (by omega) (by omega)
 omega
theorem i3{a b d s M:Int}(h1 : -(32*(M+1016))<=a/\a<=32*(M+1016))(h2 : -M<=b/\b<=M)(h3:0<=d/\d<=1000)(h4:1<=s/\s<=16)(h5:M<=1099511627776):i64 (i64 (i64 (a+b)-d)-s)=a+b-d-s:=by
 rw[xS (x:=a+b) (by omega),xS (x:=a+b-d) (by omega),xS (by omega)]
theorem Yb{c:Cf}{net:Int}{r:List Hop}{de:DM}{k:List Int->Option (List Int)}(hS:Small c)(hv:VR c net r){M:Int}(hM:0<=M)(hM1:M<=1099511627776)(hD:∀ h∈r,-M<=xK de (pk h) 0/\xK de (pk h) 0<=M):∀(n:Nat) (v:Int),0<=v->v<=r.length->r.length<n+v->
  kH r c de k n ((r.take v.toNat).map fun h=>jn c (fun q=>xK de q 0) r h.ya) v ((r.take v.toNat).foldl (iI c fun q=>xK de q 0) [])=k (r.map fun h=>jn c (fun q=>xK de q 0) r h.ya)
 | 0,v,h0,h1,h2=>by omega
 | n+1,v,h0,h1,h2=>by
  have hr:=hv.len
  rw[kH]
  by_cases h:v<r.length
  ·have hx:=hv.hop hS (ws h0 h)
   have hb:=JO (D:=fun q=>xK de q 0) hS hv hM hD v.toNat (nth r v).ya
   have hd:=hD _ (ws h0 h)
   have s0:=hx.s0;have s1:=hx.s1;have d0:=hx.d0;have d1:=hx.d1
   rw[Nw h,xM ⟨h0,h⟩,xM,WG hS hx.n0 hx.n1]
   ·simp only[oB]
    rw[xM ⟨hx.l0,hx.l1⟩,xS (x:=v+1) (by omega)]
    have e1:r.take (v+1).toNat=r.take v.toNat++[nth r v]:=by
     rw[show(v+1).toNat=v.toNat+1 by omega,List.take_succ_eq_append_getElem (by omega),j6 ⟨h0,h⟩]
    have:=Yb (k:=k) (de:=de) hS hv hM hM1 hD n (v+1) (by omega) (by omega) (by omega)
    rw[e1,List.map_append,List.foldl_append] at this
    rw[<- this]
    congr 1
    ·rw[hv.jn_take _ h0 h];rfl
    ·show w7 _ _ _=w7 _ _ _
     congr 1
     have e:(⟨(nth r v).ya,(nth r v).fQ⟩:z6)=pk (nth r v):=rfl
     unfold wy at s0 s1 ⊢
     rw[e]
     exact i3 hb hd ⟨d0,d1⟩ ⟨s0,s1⟩ hM1
   ·rw[List.length_append,List.length_map,List.length_take]
    simp only[List.length_cons,List.length_nil]
    omega
  ·rw[Nx h,List.take_of_length_le (by omega)]
theorem GU{c:Cf}{de:DM}(hS:Small c)(hv:VR c net r)(hD:∀ h∈r,-1099511627776<=xK de (pk h) 0/\xK de (pk h) 0<=1099511627776):
  md c r de=some (r.map fun h=>jn c (fun q=>xK de q 0) r h.ya):=by
 unfold md
 have hF:=wp
 generalize xT=N at hF ⊢
 refine wx (P:=fun o=>o=some (r.map fun h=>jn c (fun q=>xK de q 0) r h.ya)) fun k hk=>?_
 have hr:=hv.len
 have:=Yb (k:=k) (M:=1099511627776) hS hv (by omega) (by omega) hD N 0 (by omega) (by omega) (by omega)
 simp only[Int.toNat_zero,List.take_zero,List.map_nil,List.foldl_nil] at this
 rw[this,hk]
theorem VR.jn_le{c c':Cf}(h:VR c net r)(h':VR c' net r)(hl:∀ g∈r,qN c g.ya=qN c' g.ya/\wy c g.fQ=wy c' g.fQ){D':Pl->Int}{S:Pl->Prop}(hS:∀ x∈r,S (pk x)->∀ g∈r,g.fX=x.ya->S (pk g)/\D (pk g)<=D' (pk g)):∀ x∈r,S (pk x)->jn c D r x.ya<=jn c' D' r x.ya:=by
 refine h.ind (P:=fun x=>S (pk x)->jn c D r x.ya<=jn c' D' r x.ya) (fun x hx e _=>?_) (fun g hg x hx e ih hs=>?_)
 ·rw[e,h.jn_start,h'.jn_start];omega
 ·obtain⟨h1,h2⟩:=hS x hx hs g hg e
  have:=ih h1
  rw[<- e,h.jn_next D hg,h'.jn_next D' hg,(hl g hg).1,(hl g hg).2]
  omega
theorem VR.jn_eq{c:Cf}(h:VR c net r){D':Pl->Int}{S:Pl->Prop}(hS:∀ x∈r,S (pk x)->∀ g∈r,g.fX=x.ya->S (pk g)/\D (pk g)=D' (pk g)):∀ x∈r,S (pk x)->jn c D r x.ya=jn c D' r x.ya:=by
 intro x hx hs
 have h1:=h.jn_le h (fun g _=>⟨rfl,rfl⟩) (D:=D) (D':=D') (S:=S) (fun x hx hs g hg e=>⟨(hS x hx hs g hg e).1,by rw[(hS x hx hs g hg e).2];omega⟩) x hx hs
 have h2:=h.jn_le h (fun g _=>⟨rfl,rfl⟩) (D:=D') (D':=D) (S:=S) (fun x hx hs g hg e=>⟨(hS x hx hs g hg e).1,by rw[(hS x hx hs g hg e).2];omega⟩) x hx hs
 omega
end
section
def mq:List Int->Int
 | []=>0
 | x::l=>x+mq l
theorem FY{l l':List Int}(h:l.Perm l'):mq l=mq l':=by
 induction h with
 | nil=>rfl
 | cons x _ ih=>simp only[mq,ih]
 | swap x y l=>simp only[mq];omega
 | trans _ _ a b=>exact a.trans b
theorem cE{α:Type}{f g:α->Int}:∀ {l:List α},(∀ x∈l,f x<=g x)->mq (l.map f)<=mq (l.map g)
 | [],_=>by simp[mq]
 | x::l,h=>by
  have:=cE (l:=l) fun y hy=>h y (List.mem_cons_of_mem _ hy)
  have:=h x (by simp)
  simp only[List.map_cons,mq];omega
theorem X9{α:Type}{f:α->Int}{p:α->Bool}:∀ {l:List α},(∀ x∈l,p x=false->f x=0)->mq ((l.filter p).map f)=mq (l.map f)
 | [],_=>rfl
 | x::l,h=>by
  have ih:=X9 (f:=f) (p:=p) (l:=l) fun y hy=>h y (List.mem_cons_of_mem _ hy)
  rw[List.filter_cons]
  split
  ·simp only[List.map_cons,mq,ih]
  ·rename_i hp
   simp only[List.map_cons,mq,ih,h x (by simp) (by simpa using hp)];omega
theorem dy{α:Type}{f:α->Int}{l:List α}(h:∀ x∈l,0<=f x):0<=mq (l.map f):=by
 have:=cE (f:=fun _=>0) (g:=f) h
 have e:∀ l:List α,mq (l.map fun _=>0)=0:=by
  intro l;induction l with
  | nil=>rfl
  | cons x l ih=>simp only[List.map_cons,mq,ih];rfl
 rw[e] at this;exact this
theorem l8{α:Type}{f:α->Int}{M:Int}:∀ {l:List α},(∀ x∈l,f x<=M)->mq (l.map f)<=l.length*M
 | [],_=>by simp[mq]
 | x::l,h=>by
  have:=l8 (f:=f) (l:=l) fun y hy=>h y (List.mem_cons_of_mem _ hy)
  have:=h x (by simp)
  simp only[List.map_cons,mq,List.length_cons]
  have e:((l.length+1:Nat):Int)*M=l.length*M+M:=by push_cast;rw[Int.add_mul];omega
  omega
theorem JP{α:Type}{f:α->Int}{l:List α}(h:∀ x∈l,0<=f x){x:α}(hx:x∈l):f x<=mq (l.map f):=by
 induction l with
 | nil=>simp at hx
 | cons y l ih=>
  have h1:=dy (f:=f) (l:=l) fun z hz=>h z (List.mem_cons_of_mem _ hz)
  have h2:=h y (by simp)
  simp only[List.map_cons,mq]
  rcases List.mem_cons.1 hx with rfl | hx
  ·omega
  ·have:=ih (fun z hz=>h z (List.mem_cons_of_mem _ hz)) hx;omega
def o7:List Int->Int
 | []=>0
 | x::l=>max x (o7 l)
theorem Q4{l:List Int}{x:Int}(hx:0<=x):o7 (l++[x])=max (o7 l) x:=by
 induction l with
 | nil=>simp only[List.nil_append,o7];omega
 | cons y l ih=>simp only[List.cons_append,o7,ih];omega
theorem ib:∀ l:List Int,0<=o7 l
 | []=>by simp[o7]
 | x::l=>by have:=ib l;simp only[o7];omega
theorem XJ{l:List Int}{x:Int}(h:x∈l):x<=o7 l:=by
 induction l with
 | nil=>simp at h
 | cons y l ih=>
  simp only[o7]
  rcases List.mem_cons.1 h with rfl | h
  ·omega
  ·have:=ih h;omega
theorem G9{l:List Int}{M:Int}(h0:0<=M)(h:∀ x∈l,x<=M):o7 l<=M:=by
 induction l with
 | nil=>simpa [o7] using h0
 | cons y l ih=>
  have:=ih fun x hx=>h x (List.mem_cons_of_mem _ hx)
  have:=h y (by simp)
  simp only[o7];omega
theorem ub{x:Int}:∀ {n:Nat} {v:Int},x∈ki v n↔v<=x/\x<v+n
 | 0,v=>by simp only[ki,List.not_mem_nil,false_iff];omega
 | n+1,v=>by
  simp only[ki,List.mem_cons,ub (n:=n)]
  constructor
  ·rintro(rfl | h) <;> omega
  ·intro h
   by_cases e:x=v
   ·exact .inl e
   ·exact .inr (by omega)
theorem cr:∀(n:Nat) (v:Int),(ki v n).Nodup
 | 0,_=>by simp[ki]
 | n+1,v=>by
  simp only[ki,List.nodup_cons]
  exact⟨fun h=>by have:=ub.1 h;omega,cr n _⟩
theorem bm:∀(n:Nat) (v:Int),(ki v n).length=n
 | 0,_=>rfl
 | n+1,v=>by simp only[ki,List.length_cons,bm n]
theorem Q5:∀(n:Nat) (v:Int),ki v (n+1)=ki v n++[v+n]
 | 0,v=>by simp[ki]
 | n+1,v=>by
  rw[ki,Q5 n (v+1)]
  simp only[ki,List.cons_append]
  rw[show v+1+(n:Int)=v+((n+1:Nat):Int) by push_cast;omega]
structure Fw where
 k:Int
 v:Int
 j:Int
def pH(c:Cf)(v:Int):Int:=(nth c.yb v).yD
def ly(c:Cf)(x:Fw)(t:Int):Int:=mx c x.v*((t+x.j) / pH c x.v+1)
def lz(r:List Hop)(p:Pl):Int:=if (gk r p.ya).2 then(gk r p.ya).1.fQ else -1
def lY(c:Cf)(rs:List (List Hop))(D:Pl->Int)(p:Pl)(v:Int):Fw:=⟨lz (nth rs v) p,v,jn c D (nth rs v) p.ya⟩
def vls(rs:List (List Hop))(p:Pl)(n:Nat):List Int:=(ki 0 n).filter fun v=>ru p (nth rs v)
def fws(c:Cf)(rs:List (List Hop))(D:Pl->Int)(p:Pl):List Fw:=(vls rs p rs.length).map (lY c rs D p)
def o8(c:Cf)(l:List Fw)(t L:Int):Int:=mq ((l.filter fun x=>decide (x.k=L)).map fun x=>ly c x t)
def o9(c:Cf)(l:List Fw)(L:Int):Int:=o7 ((l.filter fun x=>decide (x.k=L)).map fun x=>mx c x.v)
def rv(c:Cf)(l:List Fw)(t L:Int):Int:=if L<0 then o8 c l t L else min (o8 c l t L) (o9 c l L+t / max 1 (wy c L))
def Xa(c:Cf):List Int:=ki (-1) (c.fK.length+1)
def mT(c:Cf)(l:List Fw)(t:Int):Int:=mq ((Xa c).map (rv c l t))
def pT(c:Cf)(l:List Fw):Int:=o7 (l.map fun x=>mx c x.v)
structure FwOK (c:Cf) (l:List Fw):Prop where
 len:l.length<=16
 v0:∀ x∈l,0<=x.v/\x.v<c.yb.length
 k0:∀ x∈l,-1<=x.k/\x.k<c.fK.length
 j0:∀ x∈l,0<=x.j/\x.j<=4294967296
theorem mm.mx{c:Cf}(h:mm c){v:Int}(h0:0<=v)(h1:v<c.yb.length):1<=mx c v/\mx c v<=72/\100<=pH c v/\pH c v<=12800:=by
 obtain⟨⟨a,b⟩,d,e⟩:=h _ (ws h0 h1)
 exact⟨d,e,a,b⟩
theorem oH{c:Cf}(hv:mm c){l:List Fw}(hl:FwOK c l){x:Fw}(hx:x∈l){t:Int}(h0:0<=t)(h1:t<=4294967296):1<=ly c x t/\ly c x t<=1099511627776:=by
 obtain⟨a,b,d,e⟩:=hv.mx (hl.v0 x hx).1 (hl.v0 x hx).2
 have hj:=hl.j0 x hx
 unfold ly
 have h2:0<=(t+x.j) / pH c x.v:=Int.ediv_nonneg (by omega) (by omega)
 have h3:(t+x.j) / pH c x.v<=t+x.j:=Int.ediv_le_self _ (by omega)
 constructor
 ·have:=Int.mul_le_mul_of_nonneg_right a (show 0<=(t+x.j) / pH c x.v+1 by omega);omega
 ·have:=Int.mul_le_mul_of_nonneg_right b (show 0<=(t+x.j) / pH c x.v+1 by omega);omega
theorem Yc{a b:Int}(h:0<=a):a.tdiv b=a / b:=Int.tdiv_eq_ediv_of_nonneg h
def clo(c:Cf)(x:Fw):Int->Option Int:=fun t=>vu t (nth c.yb x.v) x.j
theorem Tx{c:Cf}(hv:mm c){l:List Fw}(hl:FwOK c l){x:Fw}(hx:x∈l){t:Int}(h0:0<=t)(h1:t<=4294967296):clo c x t=some (ly c x t):=by
 have hb:=oH hv hl hx h0 h1
 obtain⟨a,b,d,e⟩:=hv.mx (hl.v0 x hx).1 (hl.v0 x hx).2
 have hj:=hl.j0 x hx
 unfold clo vu rj
 unfold ly mx pH at *
 have h2:0<=(t+x.j) / (nth c.yb x.v).yD:=Int.ediv_nonneg (by omega) (by omega)
 have h3:(t+x.j) / (nth c.yb x.v).yD<=t+x.j:=Int.ediv_le_self _ (by omega)
 rw[xM (by omega),xS (x:=t+x.j) (by omega),Yc (by omega),xS (x:=(t+x.j) / (nth c.yb x.v).yD) (by omega),xS (x:=(t+x.j) / (nth c.yb x.v).yD+1) (by omega),xS (by omega)]
 rfl
theorem Ga{α:Type}{t M:Int}{F:α->Int->Option Int}{g:α->Int}:∀ {l:List α} {s:Int},(∀ x∈l,F x t=some (g x)/\0<=g x/\g x<=M)->0<=s->s+l.length*M<=4611686018427387904->pE (l.map F) t s=some (s+mq (l.map g))
 | [],s,_,_,_=>by simp[pE,mq]
 | x::l,s,h,h0,h1=>by
  obtain⟨e,e0,e1⟩:=h x (by simp)
  have hM:0<=(l.length:Int)*M:=Int.mul_nonneg (by omega) (by omega)
  have e2:(((x::l).length:Nat):Int)*M=l.length*M+M:=by rw[List.length_cons];push_cast;rw[Int.add_mul];omega
  rw[List.map_cons,pE,e,oB,xS (by omega),Ga (l:=l) (fun y hy=>h y (List.mem_cons_of_mem _ hy)) (by omega) (by omega)]
  simp only[List.map_cons,mq]
  congr 1;omega
theorem Gb{α:Type}{t M:Int}{F:α->Int->Option Int}{g:α->Int}{l:List α}(h:∀ x∈l,F x t=some (g x)/\0<=g x/\g x<=M)(h1:l.length*M<=4611686018427387904)(h2:l.length<=1000000):qU (l.map F) t=some (mq (l.map g)):=by
 unfold qU
 rw[xM (by rw[List.length_map];omega),Ga h (by omega) (by omega)]
 simp
theorem WH{c:Cf}(hv:mm c){l:List Fw}(hl:FwOK c l){t:Int}(h0:0<=t)(h1:t<=4294967296)(L:Int):0<=o8 c l t L/\o8 c l t L<=17592186044416:=by
 unfold o8
 constructor
 ·exact dy fun x hx=>by have:=(oH hv hl (List.mem_filter.1 hx).1 h0 h1).1;omega
 ·have h:=l8 (f:=fun x=>ly c x t) (M:=1099511627776) (l:=l.filter fun x=>decide (x.k=L)) fun x hx=>(oH hv hl (List.mem_filter.1 hx).1 h0 h1).2
  have h2:(l.filter fun x=>decide (x.k=L)).length<=l.length:=List.length_filter_le _ _
  have:=hl.len
  omega
theorem nJ{c:Cf}(hv:mm c){l:List Fw}(hl:FwOK c l)(L:Int):0<=o9 c l L/\o9 c l L<=72:=by
 unfold o9
 refine⟨ib _,G9 (by omega) fun x hx=>?_⟩
 obtain⟨y,hy,rfl⟩:=List.mem_map.1 hx
 have hy:=(List.mem_filter.1 hy).1
 exact(hv.mx (hl.v0 y hy).1 (hl.v0 y hy).2).2.1
theorem Ty{c:Cf}(hv:mm c){l:List Fw}(hl:FwOK c l){wide:List (Int×Int)}{L:Int}(hw:xK wide L 0=o9 c l L)(hL:L<c.fK.length)(hs:0<=L->1<=wy c L){t:Int}(h0:0<=t)(h1:t<=4294967296):
  si c wide (L,(l.filter fun x=>decide (x.k=L)).map (clo c)) t=some (rv c l t L):=by
 show ma t L ((l.filter fun x=>decide (x.k=L)).map (clo c)) wide c=_
 have kM:(l.filter fun x=>decide (x.k=L)).length<=l.length:=List.length_filter_le _ _
 have EY:=hl.len
 have e:=Gb (t:=t) (M:=1099511627776) (F:=clo c) (g:=fun x=>ly c x t) (l:=l.filter fun x=>decide (x.k=L)) (fun x hx=>by
  have hx:=(List.mem_filter.1 hx).1
  have:=oH hv hl hx h0 h1
  exact⟨Tx hv hl hx h0 h1,by omega,this.2⟩) (by omega) (by omega)
 unfold ma rv
 by_cases h:L<0
 ·rw[Nw h,if_pos h,e];rfl
 ·have hs:=hs (by omega)
  have hg:=WH hv hl h0 h1 L
  have hwb:=nJ hv hl L
  rw[Nx h,if_neg h,e,oB,xM ⟨by omega,hL⟩]
  rw[show max 1 (wy c L)=wy c L by omega]
  unfold wy at *
  have hd:0<=t / (nth c.fK L).yp:=Int.ediv_nonneg h0 (by omega)
  have hd2:t / (nth c.fK L).yp<=t:=Int.ediv_le_self _ h0
  rw[xM (by omega),Yc h0,xS (x:=t / (nth c.fK L).yp) (by omega),hw,xS (by omega)]
  rfl
theorem ic{c:Cf}(hv:mm c){l:List Fw}(hl:FwOK c l){L:Int}{t:Int}(h0:0<=t)(h1:t<=4294967296):0<=rv c l t L/\rv c l t L<=17592186044416:=by
 have hg:=WH hv hl h0 h1 L
 have hwb:=nJ hv hl L
 unfold rv
 split
 ·exact hg
 ·have hd:0<=t / max 1 (wy c L):=Int.ediv_nonneg h0 (by omega)
  omega
theorem FZ{c:Cf}{l:List Fw}{t L:Int}(h:∀ x∈l,x.k≠L)(h0:0<=t):rv c l t L=0:=by
 have e:(l.filter fun x=>decide (x.k=L))=[]:=by
  rw[List.filter_eq_nil_iff];intro x hx;simpa using h x hx
 unfold rv o8 o9
 rw[e]
 split
 ·rfl
 ·have hd:0<=t / max 1 (wy c L):=Int.ediv_nonneg h0 (by omega)
  show min 0 (0+_)=0
  omega
theorem M0{c:Cf}(hS:Small c)(hv:mm c){l:List Fw}(hl:FwOK c l){t:Int}(h0:0<=t)(h1:t<=4294967296):0<=mT c l t/\mT c l t<=18014398509481984:=by
 unfold mT
 refine⟨dy fun L _=>(ic hv hl h0 h1).1,?_⟩
 have h:=l8 (f:=rv c l t) (M:=17592186044416) (l:=Xa c) fun L _=>(ic hv hl h0 h1).2
 have e:(Xa c).length=c.fK.length+1:=bm _ _
 have:=hS.l
 rw[e] at h
 omega
theorem MY{c:Cf}(hv:mm c){l:List Fw}(hl:FwOK c l){x:Fw}(hx:x∈l){t t':Int}(h:t<=t'):ly c x t<=ly c x t':=by
 obtain⟨a,b,d,e⟩:=hv.mx (hl.v0 x hx).1 (hl.v0 x hx).2
 unfold ly
 refine Int.mul_le_mul_of_nonneg_left ?_ (by omega)
 have:=Int.ediv_le_ediv (a:=t+x.j) (b:=t'+x.j) (c:=pH c x.v) (by omega) (by omega)
 omega
theorem MZ{c:Cf}(hv:mm c){l:List Fw}(hl:FwOK c l){t t':Int}(h:t<=t'):mT c l t<=mT c l t':=by
 unfold mT
 refine cE fun L _=>?_
 have hg:o8 c l t L<=o8 c l t' L:=by
  unfold o8
  exact cE fun x hx=>MY hv hl (List.mem_filter.1 hx).1 h
 have hd:=Int.ediv_le_ediv (a:=t) (b:=t') (c:=max 1 (wy c L)) (by omega) h
 unfold rv
 split
 ·exact hg
 ·omega
end
section
variable {rs:List (List Hop)}{p:Pl}{D:Pl->Int}{net:Int}
def FL(c:Cf)(rs:List (List Hop))(D:Pl->Int)(p:Pl)(n:Nat):List Fw:=(vls rs p n).map (lY c rs D p)
theorem T2{c:Cf}(n:Nat):FL c rs D p (n+1)=FL c rs D p n++(if ru p (nth rs n) then[lY c rs D p n] else[]):=by
 unfold FL vls
 rw[Q5,List.filter_append,List.map_append,show(0:Int)+n=n by omega]
 by_cases h:ru p (nth rs n)=true <;> simp[h]
theorem M3{c:Cf}(n:Nat):(FL c rs D p n).length<=n:=by
 unfold FL vls
 rw[List.length_map]
 have h:((ki 0 n).filter fun v=>ru p (nth rs v)).length<=(ki 0 n).length:=List.length_filter_le _ _
 rwa [bm] at h
theorem Yd{c:Cf}{n:Nat}{x:Fw}:x∈FL c rs D p n↔∃ v:Int,0<=v/\v<n/\ru p (nth rs v)=true/\x=lY c rs D p v:=by
 unfold FL vls
 simp only[List.mem_map,List.mem_filter,ub]
 constructor
 ·rintro⟨v,⟨⟨a,b⟩,d⟩,rfl⟩;exact⟨v,a,by omega,d,rfl⟩
 ·rintro⟨v,a,b,d,rfl⟩;exact⟨v,⟨⟨a,by omega⟩,d⟩,rfl⟩
theorem pI{r:List Hop}:ru p r=true↔∃ h∈r,pk h=p:=by
 unfold ru;simp
theorem Ye{c:Cf}(hS:Small c)(hv:VA c net rs)(p:Pl){v:Int}(v0:0<=v)(v1:v<rs.length) : -1<=lz (nth rs v) p/\lz (nth rs v) p<c.fK.length/\(0<=lz (nth rs v) p->1<=wy c (lz (nth rs v) p)/\wy c (lz (nth rs v) p)<=16):=by
 unfold lz
 split
 ·rename_i h
  have:=(hv.each _ (ws v0 v1)).hop hS (ew h).1
  have a:=this.l0;have b:=this.l1;have d:=this.s0;have e:=this.s1
  exact⟨by omega,b,fun _=>⟨d,e⟩⟩
 ·exact⟨by omega,by omega,fun h=>absurd h (by omega)⟩
structure AI (c:Cf) (l:List Fw) (most:Int) (mp:List (Int×List (Int->Option Int))) (wide:List (Int×Int)):Prop where
 nd:(mp.map (·.1)).Nodup
 get:∀ L,xK mp L []=(l.filter fun x=>decide (x.k=L)).map (clo c)
 key:∀ k∈mp.map (·.1),∃ x∈l,x.k=k
 key2:∀ x∈l,x.k∈mp.map (·.1)
 len:mp.length<=l.length
 wide:∀ L,xK wide L 0=o9 c l L
 most:most=pT c l
theorem AI.nil(c:Cf):AI c [] 0 [] []:=⟨by simp,fun L=>rfl,by simp,by simp,by simp,fun L=>rfl,rfl⟩
theorem AI.put{c:Cf}{l:List Fw}{most:Int}{mp:List (Int×List (Int->Option Int))}{wide:List (Int×Int)}(h:AI c l most mp wide){x:Fw}(hx:0<=mx c x.v):AI c (l++[x]) (max most (mx c x.v)) (w7 mp x.k (xK mp x.k []++[clo c x])) (w7 wide x.k (max (xK wide x.k 0) (mx c x.v))):=by
 refine⟨?_,fun L=>?_,fun k hk=>?_,fun y hy=>?_,?_,fun L=>?_,?_⟩
 ·rw[l7]
  split
  ·exact h.nd
  ·rename_i hn
   rw[List.nodup_append]
   refine⟨h.nd,by simp,fun a ha b hb=>?_⟩
   rw[List.mem_singleton] at hb;subst hb
   intro e;subst e;exact hn ha
 ·rw[gG,List.filter_append,List.map_append,<- h.get L]
  by_cases e:L=x.k
  ·subst e;simp
  ·rw[if_neg e];simp[show x.k≠L from fun a=>e a.symm]
 ·rw[l7] at hk
  split at hk
  ·obtain⟨y,hy,e⟩:=h.key k hk;exact⟨y,List.mem_append_left _ hy,e⟩
  ·rcases List.mem_append.1 hk with hk | hk
   ·obtain⟨y,hy,e⟩:=h.key k hk;exact⟨y,List.mem_append_left _ hy,e⟩
   ·rw[List.mem_singleton] at hk;exact⟨x,by simp,hk.symm⟩
 ·rw[l7]
  rcases List.mem_append.1 hy with hy | hy
  ·have:=h.key2 y hy
   split
   ·exact this
   ·exact List.mem_append_left _ this
  ·rw[List.mem_singleton] at hy;subst hy
   split
   ·assumption
   ·simp
 ·have e:(w7 mp x.k (xK mp x.k []++[clo c x])).length=((w7 mp x.k (xK mp x.k []++[clo c x])).map (·.1)).length:=by simp
  rw[e,l7]
  have:=h.len
  split
  ·simp;omega
  ·simp;omega
 ·rw[gG]
  have hw:=h.wide
  unfold o9 at hw ⊢
  rw[List.filter_append,List.map_append]
  by_cases e:L=x.k
  ·subst e
   rw[if_pos rfl,hw]
   simp only[List.filter_cons,List.filter_nil,decide_true,if_true,List.map_cons,List.map_nil]
   rw[Q4 hx]
  ·rw[if_neg e,hw];simp[show x.k≠L from fun a=>e a.symm]
 ·have:=h.most
  unfold pT at *
  rw[List.map_append,List.map_cons,List.map_nil,Q4 hx,this]
abbrev AR:=List (Int->Option Int)×Int
theorem af{c:Cf}{net:Int}{rs:List (List Hop)}{de:DM}{p:Pl}{k:Int->List (Int×List (Int->Option Int))->List (Int×Int)->Option AR}(hS:Small c)(hv:VA c net rs)(hV:mm c)(hD:∀ r∈rs,∀ h∈r,-1099511627776<=xK de (pk h) 0/\xK de (pk h) 0<=1099511627776):
  ∀(n:Nat) (v:Int) (most:Int) (mp:List (Int×List (Int->Option Int))) (wide:List (Int×Int)),0<=v->v<=rs.length->rs.length<n+v->AI c (FL c rs (fun q=>xK de q 0) p v.toNat) most mp wide->
   ∃ sf zj sh,AI c (FL c rs (fun q=>xK de q 0) p rs.length) sf zj sh/\ke rs p c de k n most v mp wide=k sf zj sh
 | 0,v,most,mp,wide,h0,h1,h2,h3=>by omega
 | n+1,v,most,mp,wide,h0,h1,h2,h3=>by
  have EY:=hv.most
  have zQ:=hv.len
  rw[ke]
  by_cases h:v<rs.length
  ·rw[Nw h]
   refine Y6 (P:=fun o=>∃ sf zj sh,AI c (FL c rs (fun q=>xK de q 0) p rs.length) sf zj sh/\o=k sf zj sh) fun kk wT=>?_
   have hr:=hv.each _ (ws h0 h)
   have Ci:=hr.len
   have Ei:∀ most mp wide,AI c (FL c rs (fun q=>xK de q 0) p (v+1).toNat) most mp wide->∃ sf zj sh,AI c (FL c rs (fun q=>xK de q 0) p rs.length) sf zj sh/\kk most mp wide=k sf zj sh:=by
    intro most mp wide BO
    rw[wT,xS (x:=v+1) (by omega)]
    exact af hS hv hV hD n (v+1) most mp wide (by omega) (by omega) (by omega) BO
   have es:FL c rs (fun q=>xK de q 0) p (v+1).toNat=FL c rs (fun q=>xK de q 0) p v.toNat++(if ru p (nth rs v) then[lY c rs (fun q=>xK de q 0) p v] else[]):=by
    rw[show(v+1).toNat=v.toNat+1 by omega,T2,show((v.toNat:Nat):Int)=v by omega]
   rw[xM ⟨h0,h⟩]
   rcases bY (r:=nth rs v) (f:=fun y0=>mb y0 p) (p:=fun h=>decide (pk h=p)) (fun h _=>rfl) (by omega) with⟨j,j0,j1,j2,j3⟩ | ⟨j2,j3⟩
   ·rw[j3]
    simp only[oB]
    have hj:=List.find?_some j2
    simp only[decide_eq_true_eq] at hj
    rw[if_neg (by simp only[decide_eq_true_eq];omega),xM ⟨h0,by omega⟩,GU hS hr (hD _ (ws h0 h))]
    simp only[oB]
    rw[xM ⟨j0,by rw[List.length_map];exact j1⟩]
    have hu:ru p (nth rs v)=true:=pI.2 ⟨_,ws j0 j1,hj⟩
    have ejn:nth ((nth rs v).map fun h=>jn c (fun q=>xK de q 0) (nth rs v) h.ya) j=jn c (fun q=>xK de q 0) (nth rs v) p.ya:=by
     rw[j6 ⟨j0,by rw[List.length_map];exact j1⟩,List.getElem_map,<- j6 ⟨j0,j1⟩,<- hj];rfl
    rw[es,if_pos hu] at Ei
    have hm:=hV.mx h0 (by omega)
    have EZ:∀ L,((xK mp L []).length:Int)<=16:=fun L=>by
     rw[h3.get,List.length_map]
     have h4:((FL c rs (fun q=>xK de q 0) p v.toNat).filter fun x=>decide (x.k=L)).length<=(FL c rs (fun q=>xK de q 0) p v.toNat).length:=List.length_filter_le _ _
     have h5:=M3 (c:=c) (rs:=rs) (D:=fun q=>xK de q 0) (p:=p) v.toNat
     omega
    refine wx (P:=fun o=>∃ sf zj sh,AI c (FL c rs (fun q=>xK de q 0) p rs.length) sf zj sh/\o=k sf zj sh) fun k2 qI=>?_
    have C8:∀ L,L=lz (nth rs v) p->∃ sf zj sh,AI c (FL c rs (fun q=>xK de q 0) p rs.length) sf zj sh/\k2 L=k sf zj sh:=by
     rintro L rfl
     have hgl:=EZ (lz (nth rs v) p)
     rw[qI,xM (by rw[List.length_append];simp only[List.length_cons,List.length_nil];omega)]
     rw[ejn]
     exact Ei _ _ _ (h3.put (x:=lY c rs (fun q=>xK de q 0) p v) (by show 0<=mx c v;omega))
    rcases bY (r:=nth rs v) (f:=fun y0=>me y0 p) (p:=fun h=>decide (h.fX=p.ya)) (fun h _=>rfl) (by omega) with⟨i,i0,i1,i2,i3⟩ | ⟨i2,i3⟩
    ·rw[i3]
     simp only[oB]
     rw[if_pos (by simp only[decide_eq_true_eq];omega),xM ⟨i0,i1⟩]
     refine C8 _ ?_
     unfold lz gk;rw[i2];rfl
    ·rw[i3]
     simp only[oB]
     rw[if_neg (by simp)]
     refine C8 _ ?_
     unfold lz gk;rw[i2];rfl
   ·rw[j3]
    simp only[oB]
    have hu:¬ru p (nth rs v)=true:=by
     rw[pI];rintro⟨x,hx,e⟩
     have:=List.find?_eq_none.1 j2 x hx
     simp[e] at this
    rw[if_pos (by simp)]
    rw[es,if_neg hu,List.append_nil] at Ei
    exact Ei _ _ _ h3
  ·rw[Nx h]
   have e:v.toNat=rs.length:=by omega
   rw[e] at h3
   exact⟨most,mp,wide,h3,rfl⟩
theorem GV{c:Cf}(hS:Small c)(hv:VA c net rs)(hj:∀ x∈fws c rs D p,0<=x.j/\x.j<=4294967296):FwOK c (fws c rs D p):=by
 have hl:=hv.most;have zQ:=hv.len
 refine⟨?_,fun x hx=>?_,fun x hx=>?_,hj⟩
 ·have:=M3 (c:=c) (rs:=rs) (D:=D) (p:=p) rs.length
  exact Nat.le_trans this (by omega)
 ·obtain⟨v,v0,v1,_,rfl⟩:=Yd.1 hx
  exact⟨v0,by show v<_;omega⟩
 ·obtain⟨v,v0,v1,_,rfl⟩:=Yd.1 hx
  have:=Ye hS hv p v0 v1
  exact⟨this.1,this.2.1⟩
theorem KG{c:Cf}{de:DM}(hS:Small c)(hv:VA c net rs)(hV:mm c)(hD:∀ r∈rs,∀ h∈r,-1099511627776<=xK de (pk h) 0/\xK de (pk h) 0<=1099511627776)(hj:∀ x∈fws c rs (fun q=>xK de q 0) p,0<=x.j/\x.j<=4294967296):
  ∃ fs,f7 c rs p de=some (fs,pT c (fws c rs (fun q=>xK de q 0) p))/\∀ t,0<=t->t<=4294967296->qU fs t=some (mT c (fws c rs (fun q=>xK de q 0) p) t):=by
 have vU:=GV hS hv hj
 unfold f7
 have hF:=wp
 generalize xT=N at hF ⊢
 refine Y6 (P:=fun o=>∃ fs,o=some (fs,pT c (fws c rs (fun q=>xK de q 0) p))/\∀ t,0<=t->t<=4294967296->qU fs t=some (mT c (fws c rs (fun q=>xK de q 0) p) t)) fun k hk=>?_
 have EY:=hv.most
 obtain⟨most,mp,wide,BO,e⟩:=af (k:=k) (p:=p) hS hv hV hD N 0 0 [] [] (by omega) (by omega) (by omega) (AI.nil c)
 rw[e,hk]
 have hml:=BO.len
 have D7:=vU.len
 have hfl2:FL c rs (fun q=>xK de q 0) p rs.length=fws c rs (fun q=>xK de q 0) p:=rfl
 rw[hfl2] at BO hml
 rw[xM (by omega)]
 refine⟨mp.map (si c wide),by rw[BO.most],fun t h0 h1=>?_⟩
 have E0:∀ q∈mp,q=(q.1,((fws c rs (fun q=>xK de q 0) p).filter fun x=>decide (x.k=q.1)).map (clo c)):=by
  intro q hq
  rw[<- BO.get]
  have:∀(l:List (Int×List (Int->Option Int))),(l.map (·.1)).Nodup->∀ q∈l,xK l q.1 []=q.2:=by
   intro l
   induction l with
   | nil=>intro _ q hq;simp at hq
   | cons x l ih=>
    intro hn q hq
    rw[List.map_cons,List.nodup_cons] at hn
    rw[xK]
    rcases List.mem_cons.1 hq with rfl | hq
    ·rw[if_pos rfl]
    ·rw[if_neg,ih hn.2 q hq]
     intro e;exact hn.1 (e▸List.mem_map.2 ⟨q,hq,rfl⟩)
  rw[this mp BO.nd q hq]
 have hkr:∀ k:Int,k∈mp.map (·.1) -> -1<=k/\k<c.fK.length/\(0<=k->1<=wy c k):=by
  intro k hk
  obtain⟨x,hx,rfl⟩:=BO.key k hk
  obtain⟨v,v0,v1,_,rfl⟩:=Yd.1 hx
  have:=Ye hS hv p v0 v1
  exact⟨this.1,this.2.1,fun h=>(this.2.2 h).1⟩
 rw[Gb (M:=17592186044416) (F:=si c wide) (g:=fun q=>rv c (fws c rs (fun q=>xK de q 0) p) t q.1) (l:=mp) (fun q hq=>by
   have E1:=hkr q.1 (List.mem_map.2 ⟨q,hq,rfl⟩)
   have:=ic hV vU (L:=q.1) h0 h1
   refine⟨?_,this.1,this.2⟩
   rw[E0 q hq]
   exact Ty hV vU (BO.wide q.1) E1.2.1 E1.2.2 h0 h1) (by omega) (by omega)]
 refine congrArg some ?_
 unfold mT
 have h5:(mp.map (·.1)).Perm ((Xa c).filter fun L=>decide (L∈mp.map (·.1))):=by
  refine(List.perm_ext_iff_of_nodup BO.nd ((cr _ _).filter _)).2 fun k=>?_
  rw[List.mem_filter]
  skip
  rw[ub]
  simp only[decide_eq_true_eq]
  constructor
  ·intro hk;have:=hkr k hk;exact⟨by push_cast;omega,hk⟩
  ·exact fun h=>h.2
 have h6:mp.map (fun q=>rv c (fws c rs (fun q=>xK de q 0) p) t q.1)=(mp.map (·.1)).map (rv c (fws c rs (fun q=>xK de q 0) p) t):=by rw[List.map_map];rfl
 rw[h6,FY (h5.map _),X9]
 intro L _ hL
 refine FZ (fun x hx e=>?_) h0
 simp only[decide_eq_false_iff_not] at hL
 exact hL (e▸BO.key2 x hx)
end
section
variable {A:Int->Int}
def p8(f:Int->Int):Nat->Int
 | 0=>0
 | n+1=>max (p8 f n) (f n)
theorem nK(f:Int->Int):∀ n,0<=p8 f n
 | 0=>Int.le_refl _
 | n+1=>by have:=nK f n;simp only[p8];omega
theorem WI{f:Int->Int}:∀ {n:Nat} {t:Int},0<=t->t<n->f t<=p8 f n
 | 0,t,h0,h1=>by omega
 | n+1,t,h0,h1=>by
  simp only[p8]
  by_cases e:t=n
  ·subst e;omega
  ·have:=WI (f:=f) (n:=n) h0 (by omega);omega
theorem WK{f:Int->Int}{M:Int}(hM:0<=M):∀ {n:Nat},(∀ t:Int,0<=t->t<n->f t<=M)->p8 f n<=M
 | 0,_=>hM
 | n+1,h=>by
  simp only[p8]
  have:=WK (hM:=hM) (n:=n) fun t h0 h1=>h t h0 (by omega)
  have:=h n (by omega) (by omega)
  omega
def iJ(A:Int->Int)(s:Int):Nat->Int->Int
 | 0,b=>b
 | n+1,b=>if s*A (b-1)>b then iJ A s n (b+1) else b
theorem XK{A:Int->Int}{s:Int}:∀(n:Nat) (b:Int),b<=iJ A s n b/\iJ A s n b<=b+n/\(iJ A s n b<b+n->s*A (iJ A s n b-1)<=iJ A s n b)/\∀ x,b<=x->x<iJ A s n b->s*A (x-1)>x
 | 0,b=>by refine⟨by simp[iJ],by simp[iJ],fun h=>?_,fun x h1 h2=>?_⟩ <;> simp only[iJ] at * <;> omega
 | n+1,b=>by
  rw[iJ]
  by_cases h:s*A (b-1)>b
  ·rw[if_pos h]
   obtain⟨h1,h2,h3,h4⟩:=XK n (b+1) (A:=A) (s:=s)
   refine⟨by omega,by push_cast;omega,fun h5=>h3 (by push_cast at h5;omega),fun x h5 h6=>?_⟩
   by_cases e:x=b
   ·rw[e];exact h
   ·exact h4 x (by omega) h6
  ·rw[if_neg h]
   exact⟨by omega,by omega,fun _=>by omega,fun x h1 h2=>by omega⟩
def BZ(A:Int->Int)(s:Int):Int:=iJ A s 32768 1
theorem Qw(A:Int->Int)(s:Int):1<=BZ A s/\BZ A s<=32769:=by
 obtain⟨h1,h2,_⟩:=XK (A:=A) (s:=s) 32768 1
 unfold BZ;omega
theorem Up{s:Int}(h:BZ A s<=32768):s*A (BZ A s-1)<=BZ A s:=by
 obtain⟨h1,h2,h3,_⟩:=XK (A:=A) (s:=s) 32768 1
 unfold BZ at *;exact h3 (by omega)
def iV(A:Int->Int)(s la:Int)(t:Int):Int:=s*A t-t+la
def oA(A:Int->Int)(s la:Int)(t:Int):Int:=A t-(max (t-la) 0+s-1) / s
def HB(c:Cf)(A:Int->Int)(most:Int)(p:Pl):PB:=⟨p.ya,p.fQ,p8 (iV A (wy c p.fQ) (qN c p.ya)) (BZ A (wy c p.fQ)).toNat,p8 (oA A (wy c p.fQ) (qN c p.ya)) (BZ A (wy c p.fQ)+qN c p.ya).toNat+most⟩
structure AOK (A:Int->Int):Prop where
 b:∀ t,0<=t->t<=4294967296->0<=A t/\A t<=18014398509481984
theorem JQ{c:Cf}{p:Pl}{fs:List (Int->Option Int)}{most:Int}{A:Int->Int}{k:Int->Option (PB×Int)}(hA:AOK A)(ht:∀ t,0<=t->t<=4294967296->qU fs t=some (A t))(hs:1<=wy c p.fQ/\wy c p.fQ<=16):
  ∀(n:Nat) (N:Nat) (b:Int),1<=b->b+n=32769->n<N->1<=n->gC (fs,most) c p k N b=if iJ A (wy c p.fQ) n b<=32768 then k (iJ A (wy c p.fQ) n b) else some (⟨0,0,0,0⟩,360)
 | n,0,b,h0,h1,h2,h3=>by omega
 | 0,N+1,b,h0,h1,h2,h3=>by omega
 | n+1,N+1,b,h0,h1,h2,h3=>by
  push_cast at h1
  rw[gC,xS (x:=b-1) (by omega),ht (b-1) (by omega) (by omega),oB]
  have hb:=hA.b (b-1) (by omega) (by omega)
  have hm1:0<=wy c p.fQ*A (b-1):=Int.mul_nonneg (by omega) hb.1
  have hm2:wy c p.fQ*A (b-1)<=16*A (b-1):=Int.mul_le_mul_of_nonneg_right hs.2 hb.1
  have e:((nth c.fK p.fQ).yp)*A (b-1)=wy c p.fQ*A (b-1):=rfl
  rw[e,xS (x:=wy c p.fQ*A (b-1)) (by omega),xS (x:=b+1) (by omega),iJ]
  by_cases h:wy c p.fQ*A (b-1)>b
  ·rw[Nw h,if_pos h]
   by_cases h4:b+1>32768
   ·rw[Nw h4]
    have hn:n=0:=by omega
    subst hn
    rw[iJ,if_neg (by omega)]
   ·rw[Nx h4]
    exact JQ hA ht hs n N (b+1) (by omega) (by omega) (by omega) (by omega)
  ·rw[Nx h,if_neg h,if_pos (by omega)]
theorem JR{c:Cf}{p:Pl}{fs:List (Int->Option Int)}{most:Int}{A:Int->Int}{k:Int->Int->Option (PB×Int)}{b la:Int}(hA:AOK A)(ht:∀ t,0<=t->t<=4294967296->qU fs t=some (A t))(hs:1<=wy c p.fQ/\wy c p.fQ<=16)(hb:1<=b/\b<=32768)(zV:0<=la/\la<=1000):
  ∀(n:Nat) (v:Nat),(v:Int)<=b+la->b+la<n+v->gD b la (fs,most) c p k n v (p8 (iV A (wy c p.fQ) la) (min v b.toNat)) (p8 (oA A (wy c p.fQ) la) v)=k (p8 (iV A (wy c p.fQ) la) b.toNat) (p8 (oA A (wy c p.fQ) la) (b+la).toNat)
 | 0,v,h0,h1=>by omega
 | n+1,v,h0,h1=>by
  rw[gD,xS (x:=b+la) (by omega)]
  by_cases h:(v:Int)<b+la
  ·rw[Nw h,ht v (by omega) (by omega),oB]
   refine wx (P:=fun o=>o=k (p8 (iV A (wy c p.fQ) la) b.toNat) (p8 (oA A (wy c p.fQ) la) (b+la).toNat)) fun kk wT=>?_
   have ED:=hA.b v (by omega) (by omega)
   have hm1:0<=wy c p.fQ*A v:=Int.mul_nonneg (by omega) ED.1
   have hm2:wy c p.fQ*A v<=16*A v:=Int.mul_le_mul_of_nonneg_right hs.2 ED.1
   have E2:∀ x,x=p8 (iV A (wy c p.fQ) la) (min (v+1) b.toNat)->kk x=k (p8 (iV A (wy c p.fQ) la) b.toNat) (p8 (oA A (wy c p.fQ) la) (b+la).toNat):=by
    rintro x rfl
    rw[wT]
    have e:(nth c.fK p.fQ).yp=wy c p.fQ:=rfl
    have h2:0<=(max ((v:Int)-la) 0+wy c p.fQ-1) / wy c p.fQ:=Int.ediv_nonneg (by omega) (by omega)
    have h3:(max ((v:Int)-la) 0+wy c p.fQ-1) / wy c p.fQ<=max ((v:Int)-la) 0+wy c p.fQ-1:=Int.ediv_le_self _ (by omega)
    rw[e,xM (by omega),xS (x:=(v:Int)-la) (by omega),xS (x:=max ((v:Int)-la) 0+wy c p.fQ) (by omega),xS (x:=max ((v:Int)-la) 0+wy c p.fQ-1) (by omega),Yc (by omega),xS (x:=(max ((v:Int)-la) 0+wy c p.fQ-1) / wy c p.fQ) (by omega),xS (x:=A v-(max ((v:Int)-la) 0+wy c p.fQ-1) / wy c p.fQ) (by omega),xS (x:=(v:Int)+1) (by omega)]
    have:=JR (k:=k) (most:=most) hA ht hs hb zV n (v+1) (by push_cast;omega) (by push_cast;omega)
    rw[<- this]
    rfl
   by_cases h5:(v:Int)<b
   ·rw[Nw h5]
    refine E2 _ ?_
    have e:(nth c.fK p.fQ).yp=wy c p.fQ:=rfl
    rw[e,xS (x:=wy c p.fQ*A v) (by omega),xS (x:=wy c p.fQ*A v-v) (by omega),xS (by omega),show min (v+1) b.toNat=v+1 by omega,show min v b.toNat=v by omega]
    rfl
   ·rw[Nx h5]
    refine E2 _ ?_
    rw[show min (v+1) b.toNat=b.toNat by omega,show min v b.toNat=b.toNat by omega]
  ·rw[Nx h,show min v b.toNat=b.toNat by omega,show v=(b+la).toNat by omega]
theorem U0{c:Cf}{rs:List (List Hop)}{de:DM}{p:Pl}{fs:List (Int->Option Int)}{most:Int}(hS:Small c)(hp:PI c p)(hA:AOK A)(ha:f7 c rs p de=some (fs,most))(C9:0<=most/\most<=72)(ht:∀ t,0<=t->t<=4294967296->qU fs t=some (A t))(hs:1<=wy c p.fQ/\wy c p.fQ<=16)(zV:0<=qN c p.ya/\qN c p.ya<=1000):
  uo c rs p de=some (if BZ A (wy c p.fQ)<=32768 then(HB c A most p,0) else(⟨0,0,0,0⟩,360)):=by
 unfold uo
 rw[ha,oB,xM ⟨hp.l0,hp.l1⟩,WG hS hp.n0 hp.n1,oB]
 have hF:=wp
 generalize xT=N at hF ⊢
 refine wx (P:=fun o=>o=some (if BZ A (wy c p.fQ)<=32768 then(HB c A most p,0) else(⟨0,0,0,0⟩,360))) fun k hk=>?_
 rw[JQ (A:=A) hA ht hs 32768 N 1 (by omega) (by omega) (by omega) (by omega)]
 have e:iJ A (wy c p.fQ) 32768 1=BZ A (wy c p.fQ):=rfl
 rw[e]
 by_cases h:BZ A (wy c p.fQ)<=32768
 ·rw[if_pos h,if_pos h,hk]
  refine eD (P:=fun o=>o=some (HB c A most p,0)) fun k2 qI=>?_
  have hb:=Qw A (wy c p.fQ)
  have:=JR (k:=k2) (most:=most) (la:=qN c p.ya) hA ht hs ⟨hb.1,h⟩ zV N 0 (by omega) (by omega)
  simp only[Nat.zero_min,p8] at this
  rw[show((0:Nat):Int)=0 from rfl] at this
  rw[this,qI]
  refine congrArg some ?_
  unfold HB
  have ni:=nK (oA A (wy c p.fQ) (qN c p.ya)) (BZ A (wy c p.fQ)+qN c p.ya).toNat
  have hst2:p8 (oA A (wy c p.fQ) (qN c p.ya)) (BZ A (wy c p.fQ)+qN c p.ya).toNat<=18014398509481984:=WK (by omega) fun t h0 h1=>by
   have h2:0<=(max (t-qN c p.ya) 0+wy c p.fQ-1) / wy c p.fQ:=Int.ediv_nonneg (by omega) (by omega)
   have:=(hA.b t h0 (by omega)).2
   unfold oA;omega
  rw[xS (by omega)]
 ·rw[if_neg h,if_neg h]
theorem U3{c:Cf}{most:Int}{p:Pl}(hm:∀ t t',0<=t->t<=t'->A t<=A t')(h0:1<=A 0)(hs:1<=wy c p.fQ/\wy c p.fQ<=16)(zV:0<=qN c p.ya/\qN c p.ya<=1000)(h:BZ A (wy c p.fQ)<=32768):qN c p.ya+wy c p.fQ<=(HB c A most p).yl/\(HB c A most p).yl<=33768:=by
 have hb:=Qw A (wy c p.fQ)
 constructor
 ·have:=WI (f:=iV A (wy c p.fQ) (qN c p.ya)) (n:=(BZ A (wy c p.fQ)).toNat) (t:=0) (by omega) (by omega)
  have h2:wy c p.fQ*1<=wy c p.fQ*A 0:=Int.mul_le_mul_of_nonneg_left h0 (by omega)
  show _<=p8 _ _
  unfold iV at this ⊢
  omega
 ·refine WK (by omega) fun t t0 t1=>?_
  have h2:=Up h
  have h3:wy c p.fQ*A t<=wy c p.fQ*A (BZ A (wy c p.fQ)-1):=Int.mul_le_mul_of_nonneg_left (hm _ _ t0 (by omega)) (by omega)
  unfold iV;omega
end
section
theorem nL{l:List Pl×Int}{k:List ys->Option (List ys×Int)}(hl:l.1.length<=1000000):∀(n:Nat) (o:List ys) (v:Int),0<=v->v<=l.1.length->l.1.length<n+v->o.length=v->
  fu l k n o v=k (o++(l.1.drop v.toNat).map fun p=>⟨p.ya,p.fQ,0,0⟩)
 | 0,o,v,h0,h1,h2,h3=>by omega
 | n+1,o,v,h0,h1,h2,h3=>by
  rw[fu]
  by_cases h:v<l.1.length
  ·rw[Nw h,xM ⟨h0,h⟩,xM (by simp;omega),kg h0 h,xS (x:=v+1) (by omega)]
   rw[nL hl n _ (v+1) (by omega) (by omega) (by omega) (by simp;omega),show(v+1).toNat=v.toNat+1 by omega]
   simp
  ·rw[Nx h,List.drop_eq_nil_of_le (by omega)];simp
theorem JS{c:Cf}{net:Int}{rs:List (List Hop)}(hf:FewP c rs)(hv:VA c net rs):
  (∃ l,l.Perm (PS rs)/\qx rs l/\mL c net rs=some (l.map fun p=>⟨p.ya,p.fQ,0,0⟩,0))\/(∃ s,bZ rs s/\mL c net rs=some ([],351)):=by
 unfold mL
 obtain⟨b,q1,q2⟩:=nr hf.small (net:=net) (rs:=rs) (fun r hr=>by have:=hf.e r hr;omega) (by have:=hf.r;omega)
 rw[q1,q2.2 hv,oB,if_neg (by simp)]
 have Ez:=aX hf.e
 have hr:=hf.r
 have h3:rs.length*40<=20*40:=Nat.mul_le_mul_right _ hr
 rcases Jm (rs:=rs) (fun r h=>by have:=hf.e r h;omega) (by omega) with⟨l,e1,e2,e3⟩ | ⟨s,e1,e2⟩
 ·rw[e3,oB]
  have kM:=e1.length_eq
  refine .inl ⟨l,e1,e2,?_⟩
  refine wx (P:=fun o=>o=_) fun k hk=>?_
  rw[nL (l:=(l,0)) (by show l.length<=_;omega) xT [] 0 (by omega) (by omega) (by rw[wp];show((l.length:Nat):Int)<_;omega) rfl,hk]
  simp
 ·rw[e2,oB]
  refine .inr ⟨s,e1,?_⟩
  refine wx (P:=fun o=>o=_) fun k hk=>?_
  rw[nL (l:=([],351)) (by simp) xT [] 0 (by omega) (by simp) (by rw[wp];simp) rfl,hk]
  simp
def Er(e:Int):Prop:=0<=e/\e<=9
theorem bn{e:Int}(h:e=0\/e=2\/e=3\/e=6:=by first | exact .inl rfl | exact .inr (.inl rfl) | exact .inr (.inr (.inl rfl)) | exact .inr (.inr (.inr rfl))):Er e:=by unfold Er;omega
theorem Qx{q:Rat}:Er (mk q).2:=by unfold mk Er;split <;> simp
theorem br(x y:R):Er (X6 x y).2:=by
 unfold X6
 by_cases h:V x=true/\V y=true
 ·rw[Jp h.1 h.2];exact Qx
 ·rw[G1 h];exact bn
theorem JT{x y:R}:Er (Jx x y).2:=by
 unfold Jx
 by_cases h:V x=true/\V y=true
 ·rw[Wt h.1 h.2];exact Qx
 ·rw[G2 h];exact bn
theorem M4{x y:R}:Er (MUL x y).2:=by
 unfold MUL
 by_cases h:V x=true/\V y=true
 ·rw[Jq h.1 h.2];exact Qx
 ·rw[G3 h];exact bn
theorem Tz{x y:R}(h0:y.fN≠0):Er (DIV x y).2:=by
 unfold DIV
 by_cases h:V x=true/\V y=true
 ·rw[Wu h.1 h.2 h0];exact Qx
 ·rw[G4 h];exact bn
theorem ct{e:Int}{r:R×Int}(h1:Er e)(h2:Er r.2):Er (CD e r).2:=by
 unfold CD;split
 ·exact h1
 ·split <;> exact h2
theorem TA(c:List B)(t:R):Er (X7 c t).2:=by
 unfold X7
 by_cases h:VC c=true/\GR t=true
 ·rw[Um h.1 h.2]
  show Er (if c.all (nC (val t)) then(p7 (AT c (val t)),0) else(⟨0,0⟩,3):R×Int).2
  split <;> exact bn
 ·rw[FH h];exact bn
theorem TB(c:List B):Er (eC c).2:=by
 unfold eC
 cases h:VC c with
 | true=>
  have:=VV h
  split at this
  ·obtain⟨r,e,_⟩:=this
   rw[e];exact bn
  ·rw[this];exact bn
 | false=>rw[Wy h];exact bn
theorem JU(t:R):∀(l:List (List B)) (a:R×Int),Er a.2->Er (Y7 t l a).2
 | [],a,h=>h
 | c::l,a,h=>by
  rw[Y7]
  refine JU t l _ (ct ?_ (br _ _))
  split
  ·exact TA c t
  ·exact h
theorem dv_er{l:List (List B)}{s:SV}(h0:s.fR.fN≠0){e:Int}(he:Er e)(t:R):Er (dv l s e t).2:=by
 unfold dv
 exact ct (ct (ct (JU _ _ _ he) (Tz h0)) (JT)) (br _ _)
theorem bv_er{l:List (List B)}{s:SV}{e:Int}(he:Er e)(t:R):Er (bv l s e t).2:=by
 unfold bv
 have h:=JU t l (Z1,e) he
 simp only
 split
 ·exact h
 ·exact ct (ct (ct h (JT)) (M4)) (JT)
theorem M5{f:Int->R->R×Int}(hf:∀ e t,Er e->Er (f e t).2){P:List R}:Er (VX f P).2:=by
 have h:∀(P:List R) (s:List R×Int),Er s.2->Er (P.foldl (uF f) s).2:=by
  intro P
  induction P with
  | nil=>intro s h;exact h
  | cons p P ih=>intro s h;rw[List.foldl_cons];exact ih _ (hf _ _ h)
 have:=h P ([],0) (bn (h:=(.inl rfl)))
 unfold VX
 simp only
 split
 ·exact this
 ·exact bn
theorem JW:∀(l:List (List B)) (a:R×Int),Er a.2->match X8 l a with | .inl e=>Er e | .inr r=>Er r.2
 | [],a,h=>h
 | c::l,a,h=>by
  rw[X8]
  split
  ·rename_i e he
   split at he
   ·injection he with he;subst he;exact TB c
   ·have:=JW l _ (ct h (br a.1 (VY c).1));rw[he] at this;exact this
  ·rename_i e he
   split at he
   ·cases he
   ·have:=JW l _ (ct h (br a.1 (VY c).1));rw[he] at this;exact this
theorem M6(l:List (List B))(s:SV):Er (lu l s):=by
 unfold lu
 split
 ·exact bn
 ·have h:=JW l (Z1,0) (bn (h:=(.inl rfl)))
  split
  ·rename_i e he;rw[he] at h;exact h
  ·rename_i r he;rw[he] at h
   split
   ·exact h
   ·split <;> exact bn
theorem DL_er(l:List (List B))(s:SV)(h0:s.fR.fN≠0):Er (DL l s).2:=by
 unfold DL
 split
 ·exact M5 (fun e t he=>dv_er h0 he t)
 ·exact M6 l s
theorem BL_er(l:List (List B))(s:SV):Er (BL l s).2:=by
 unfold BL
 split
 ·exact M5 (fun e t he=>bv_er he t)
 ·exact M6 l s
theorem Qy{e:Int}{r:R×Int}(h1:Er e)(h2:Er r.2):Er (DO e r).2:=by
 unfold DO;simp only;split
 ·exact h2
 ·exact h1
theorem CU_er{c:Cf}{rs:List (List Hop)}{bu:BM}{de:DM}{e:Int}{p:Pl}(he:Er e):Er (CU c rs bu de e p).2.2.1:=by
 have h1:∀(l:List Int) (s:CS),Er s.e->Er (l.foldl (sK c rs de p) s).e:=by
  intro l
  induction l with
  | nil=>intro s h;exact h
  | cons v l ih=>
   intro s h;rw[List.foldl_cons];refine ih _ ?_
   unfold sK;simp only
   split
   ·split
    ·exact Qy (Qy h (M4)) (br _ _)
    ·exact h
   ·exact h
 have h2:∀(bu:BM) (l:List Int) (s:GS),Er s.e->Er (l.foldl (gst c bu p) s).e:=by
  intro bu l
  induction l with
  | nil=>intro s h;exact h
  | cons v l ih=>intro s h;rw[List.foldl_cons];exact ih _ (Qy (Qy h (br _ _)) (br _ _))
 have h3:∀(lk:List (Int×List Int)) (bu:BM) (l:List Int) (s:List (List B)×Int),Er s.2->Er (l.foldl (bj c lk bu p) s).2:=by
  intro lk bu l
  induction l with
  | nil=>intro s h;exact h
  | cons q l ih=>
   intro s h;rw[List.foldl_cons];refine ih _ ?_
   unfold bj;split
   ·exact h
   ·exact h2 _ _ _ h
 unfold CU
 exact h3 _ _ _ _ (h1 _ _ he)
theorem z1jN{e a b:Int}(h1:Er e)(h2:Er a)(h3:Er b):fe e a b=352\/Er (fe e a b):=by
 unfold fe er Er at *
 repeat' split
 all_goals omega
theorem zWS{c:Cf}{rs:List (List Hop)}:∀(l:List Pl) (s:WS) (e:Int),s.e=0->iU c rs l s = .inr e->e≠350
 | [],s,e,_,h=>by cases h
 | p::l,s,e,h0,h=>by
  rw[iU] at h
  split at h
  ·injection h with h;subst h
   show fe _ _ _≠350
   rcases z1jN (CU_er (c:=c) (rs:=rs) (bu:=s.bu) (de:=s.de) (p:=p) (e:=s.e) (by rw[h0];exact bn)) (DL_er (CU c rs s.bu s.de s.e p).1 (srv c p) (by show(1:Int)≠0;decide)) (BL_er (CU c rs s.bu s.de s.e p).1 (srv c p)) with h | h
   ·rw[h];decide
   ·unfold Er at h;omega
  ·rename_i hn
   exact zWS l _ e (by simpa using hn) h
end
section
variable {rs:List (List Hop)}{net:Int}{p:Pl}{D:Pl->Int}{l1 l2:List Pl}{r:List Hop}
def Yf(c:Cf)(rs:List (List Hop))(D:Pl->Int)(p:Pl):Int:=BZ (mT c (fws c rs D p)) (wy c p.fQ)
def ol(c:Cf)(rs:List (List Hop))(D:Pl->Int)(p:Pl):PB:=HB c (mT c (fws c rs D p)) (pT c (fws c rs D p)) p
def dD(de:DM):Pl->Int:=fun q=>xK de q 0
def iW(c:Cf)(rs:List (List Hop)):List Pl->DM->List PB->Option (DM×List PB)
 | [],de,out=>some (de,out)
 | p::l,de,out=>if Yf c rs (dD de) p<=32768 then iW c rs l (w7 de p (ol c rs (dD de) p).yl) (out++[ol c rs (dD de) p]) else none
structure HI (c:Cf) (ps:List Pl) (D:Pl->Int):Prop where
 i:∀ q∈ps,qN c q.ya+wy c q.fQ<=D q/\D q<=33768
 o:∀ q,q∉ps->D q=0
theorem qx.clo{c:Cf}(hv:VA c net rs)(h:qx rs (l1++p::l2))(hr:r∈rs){x:Hop}(hx:x∈r)(hp:pk x∈l1\/pk x=p){g:Hop}(hg:g∈r)(e:g.fX=x.ya):pk g∈l1:=by
 have hpr:aZ rs (pk x) (pk g):=(Fx hv).1 ⟨r,hr,g,hg,x,hx,e,rfl,rfl⟩
 rcases hp with hp | hp
 ·obtain⟨a,b,e2⟩:=List.append_of_mem hp
  rw[e2]
  have:=h a (pk x) (b++p::l2) (by rw[e2];simp) _ hpr
  exact List.mem_append_left _ this
 ·exact h l1 p l2 rfl _ (hp▸hpr)
theorem HI.rng{c:Cf}(hS:Small c)(hv:VA c net rs){ps:List Pl}(h:HI c ps D)(hr:r∈rs){x:Hop}(hx:x∈r):0<=D (pk x)/\D (pk x)<=33768:=by
 have hh:=(hv.each r hr).hop hS hx
 by_cases hq:pk x∈ps
 ·have:=h.i _ hq
  have e1:(pk x).ya=x.ya:=rfl
  have e2:(pk x).fQ=x.fQ:=rfl
  rw[e1,e2] at this
  have:=hh.s0;have:=hh.d0
  omega
 ·rw[h.o _ hq];omega
theorem HI.jn0{c:Cf}(hS:Small c)(hv:VA c net rs)(ho:qx rs (l1++p::l2))(h:HI c l1 D)(hr:r∈rs):∀ x∈r,(pk x∈l1\/pk x=p)->0<=jn c D r x.ya:=by
 have Da:=hv.each r hr
 refine Da.ind (P:=fun x=>(pk x∈l1\/pk x=p)->0<=jn c D r x.ya) (fun x hx e _=>?_) (fun g hg x hx e ih hp=>?_)
 ·rw[e,Da.jn_start];exact Int.le_refl _
 ·have hgm:=ho.clo hv hr hx hp hg e
  have h1:=h.i _ hgm
  have h2:=ih (.inl hgm)
  rw[<- e,Da.jn_next D hg]
  have e1:(pk g).ya=g.ya:=rfl
  have e2:(pk g).fQ=g.fQ:=rfl
  rw[e1,e2] at h1
  omega
theorem nO{c:Cf}(hS:Small c)(hv:VA c net rs){M:Int}(hr:r∈rs)(hD:∀ h∈r,-M<=D (pk h)/\D (pk h)<=M)(n:Int)(hM:0<=M:=by omega) : -(32*(M+1016))<=jn c D r n/\jn c D r n<=32*(M+1016):=by
 have h:=JO (c:=c) (D:=D) hS (hv.each r hr) hM hD r.length n
 rw[List.take_of_length_le (Nat.le_refl _)] at h
 exact h
theorem JX{c:Cf}{x:Fw}(hx:x∈fws c rs D p):∃ h∈nth rs x.v,nth rs x.v∈rs/\0<=x.v/\x.v<rs.length/\pk h=p/\x.j=jn c D (nth rs x.v) h.ya/\x.k=lz (nth rs x.v) p:=by
 obtain⟨v,v0,v1,hu,rfl⟩:=Yd.1 hx
 obtain⟨h,hh,e⟩:=pI.1 hu
 refine⟨h,hh,ws v0 v1,v0,v1,e,?_,rfl⟩
 rw[<- e];rfl
theorem HI.ok{c:Cf}(hS:Small c)(hv:VA c net rs)(ho:qx rs (l1++p::l2))(h:HI c l1 D):FwOK c (fws c rs D p):=by
 refine GV hS hv fun x hx=>?_
 obtain⟨y,hy,hr,_,_,e,ej,_⟩:=JX hx
 have h1:=h.jn0 hS hv ho hr y hy (.inr e)
 have h2:=nO (c:=c) (D:=D) hS hv (M:=33768) hr (fun z hz=>by have:=h.rng hS hv hr hz;omega) y.ya
 rw[ej];omega
theorem T3{c:Cf}(hv:mm c){l:List Fw}(hl:FwOK c l){x:Fw}(hx:x∈l){t:Int}(h0:0<=t)(h1:t<=4294967296):1<=mT c l t:=by
 have hb:=(oH hv hl hx h0 h1).1
 have hk:=hl.k0 x hx
 have hm:=hv.mx (hl.v0 x hx).1 (hl.v0 x hx).2
 have qm:x∈l.filter fun y=>decide (y.k=x.k):=List.mem_filter.2 ⟨hx,by simp⟩
 have hg:1<=o8 c l t x.k:=by
  have:=JP (f:=fun x=>ly c x t) (l:=l.filter fun y=>decide (y.k=x.k)) (fun y hy=>by have:=(oH hv hl (List.mem_filter.1 hy).1 h0 h1).1;omega) qm
  unfold o8;omega
 have hw:1<=o9 c l x.k:=by
  have:=XJ (x:=mx c x.v) (l:=(l.filter fun y=>decide (y.k=x.k)).map fun x=>mx c x.v) (List.mem_map.2 ⟨x,qm,rfl⟩)
  unfold o9;omega
 have hgv:1<=rv c l t x.k:=by
  have hd:0<=t / max 1 (wy c x.k):=Int.ediv_nonneg h0 (by omega)
  unfold rv;split <;> omega
 have:=JP (f:=rv c l t) (l:=Xa c) (fun L _=>(ic hv hl h0 h1).1) (x:=x.k) (by unfold Xa;exact ub.2 ⟨by omega,by push_cast;omega⟩)
 unfold mT;omega
theorem Xb{c:Cf}(hv:mm c){l:List Fw}(hl:FwOK c l):0<=pT c l/\pT c l<=72:=by
 unfold pT
 refine⟨ib _,G9 (by omega) fun x hx=>?_⟩
 obtain⟨y,hy,rfl⟩:=List.mem_map.1 hx
 exact(hv.mx (hl.v0 y hy).1 (hl.v0 y hy).2).2.1
theorem M7{c:Cf}(hS:Small c)(hv:VA c net rs)(hp:p∈PS rs):∃ r∈rs,∃ h∈r,pk h=p/\HV c h:=by
 obtain⟨r,hr,h,hh,e⟩:=(sH rs (p:=p)).1 hp
 exact⟨r,hr,h,hh,e,(hv.each r hr).hop hS hh⟩
theorem Yg{c:Cf}(hS:Small c)(hv:VA c net rs)(hp:p∈PS rs):(1<=wy c p.fQ/\wy c p.fQ<=16)/\(0<=qN c p.ya/\qN c p.ya<=1000):=by
 obtain⟨r,hr,h,hh,rfl,hx⟩:=M7 hS hv hp
 exact⟨⟨hx.s0,hx.s1⟩,⟨hx.d0,hx.d1⟩⟩
theorem fw_ex{c:Cf}{net:Int}(hp:p∈PS rs):∃ x,x∈fws c rs D p:=by
 obtain⟨r,hr,h,hh,e⟩:=(sH rs (p:=p)).1 hp
 obtain⟨i,i0,i1,rfl⟩:=rL hr
 exact⟨_,Yd.2 ⟨i,i0,i1,pI.2 ⟨h,hh,e⟩,rfl⟩⟩
theorem U4{c:Cf}(hS:Small c)(hv:VA c net rs)(hV:mm c)(ho:qx rs (l1++p::l2))(hp:p∈PS rs){de:DM}(h:HI c l1 (dD de)):
  uo c rs p de=some (if Yf c rs (dD de) p<=32768 then(ol c rs (dD de) p,0) else(⟨0,0,0,0⟩,360)):=by
 have vU:=h.ok hS hv ho
 obtain⟨fs,e,ht⟩:=KG (p:=p) (de:=de) hS hv hV (fun r hr x hx=>by have:0<=xK de (pk x) 0/\xK de (pk x) 0<=33768:=h.rng hS hv hr hx;omega) vU.j0
 obtain⟨h1,h2⟩:=Yg hS hv hp
 exact U0 hS (hv.pi hS hp) ⟨fun t t0 t1=>M0 hS hV vU t0 t1⟩ e (Xb hV vU) ht h1 h2
theorem HI.put{c:Cf}(hS:Small c)(hv:VA c net rs)(hV:mm c)(ho:qx rs (l1++p::l2))(hp:p∈PS rs){de:DM}(h:HI c l1 (dD de))(hb:Yf c rs (dD de) p<=32768):HI c (l1++[p]) (dD (w7 de p (ol c rs (dD de) p).yl)):=by
 have vU:=h.ok hS hv ho
 obtain⟨h1,h2⟩:=Yg hS hv hp
 obtain⟨x,hx⟩:=fw_ex (c:=c) (net:=net) (D:=dD de) hp
 have hd:=U3 (A:=mT c (fws c rs (dD de) p)) (most:=pT c (fws c rs (dD de) p)) (fun t t' _ ht=>MZ hV vU ht) (T3 hV vU hx (t:=0) (by omega) (by omega)) h1 h2 hb
 refine⟨fun q hq=>?_,fun q hq=>?_⟩
 ·unfold dD;rw[gG]
  by_cases e:q=p
  ·rw[if_pos e,e];exact hd
  ·rw[if_neg e]
   rcases List.mem_append.1 hq with hq | hq
   ·exact h.i q hq
   ·exact absurd (List.mem_singleton.1 hq) e
 ·unfold dD;rw[gG,if_neg (fun e=>hq (by rw[e];simp))]
  exact h.o q fun hm=>hq (List.mem_append_left _ hm)
theorem Xc{c:Cf}{net:Int}{rs:List (List Hop)}{l:List Pl}{e0:Int}{k:List PB->Option (yM×Int)}(hS:Small c)(hv:VA c net rs)(hV:mm c)(E3:∀ p∈l,p∈PS rs)(ho:qx rs l)(ze:l.length<=100000):
  ∀(n:Nat) (v:Int) (de:DM) (out:List PB),0<=v->v<=l.length->l.length<n+v->out.length=v->HI c (l.take v.toNat) (dD de)->
   kI (l.map fun p=>(⟨p.ya,p.fQ,0,0⟩:ys),e0) c rs k n v de out=match iW c rs (l.drop v.toNat) de out with | some t=>k t.2 | none=>some (⟨[],[]⟩,360)
 | 0,v,de,out,h0,h1,h2,h3,h4=>by omega
 | n+1,v,de,out,h0,h1,h2,h3,h4=>by
  rw[kI]
  have hml:(((l.map fun p=>(⟨p.ya,p.fQ,0,0⟩:ys)).length:Nat):Int)=l.length:=by rw[List.length_map]
  simp only[hml]
  by_cases h:v<l.length
  ·have hsp:l=l.take v.toNat++nth l v::l.drop (v.toNat+1):=by rw[<- kg h0 h,List.take_append_drop]
   have DT:=E3 _ (ws h0 h)
   rw[Nw h,xM ⟨h0,h⟩,kg h0 h,iW]
   have en:nth (l.map fun p=>(⟨p.ya,p.fQ,0,0⟩:ys)) v=⟨(nth l v).ya,(nth l v).fQ,0,0⟩:=by
    rw[j6 ⟨h0,by rw[List.length_map];exact h⟩,List.getElem_map,<- j6 ⟨h0,h⟩]
   have ho2:qx rs (l.take v.toNat++nth l v::l.drop (v.toNat+1)):=hsp▸ho
   rw[en]
   have ep:(⟨(nth l v).ya,(nth l v).fQ⟩:z6)=nth l v:=rfl
   simp only[ep]
   rw[U4 hS hv hV ho2 DT h4,oB]
   by_cases hb:Yf c rs (dD de) (nth l v)<=32768
   ·rw[if_pos hb,if_pos hb,if_neg (by simp)]
    have EX:(out++[ol c rs (dD de) (nth l v)]).length=v+1:=by rw[List.length_append,List.length_singleton];push_cast;omega
    rw[xM (by rw[EX];omega),xS (x:=v+1) (by omega)]
    have h5:=h4.put hS hv hV ho2 DT hb
    have et:l.take (v+1).toNat=l.take v.toNat++[nth l v]:=by
     rw[show(v+1).toNat=v.toNat+1 by omega,List.take_succ_eq_append_getElem (by omega),j6 ⟨h0,h⟩]
    rw[<- et] at h5
    rw[Xc hS hv hV E3 ho ze n (v+1) _ _ (by omega) (by omega) (by omega) EX h5,show(v+1).toNat=v.toNat+1 by omega]
   ·rw[if_neg hb,if_neg hb,if_pos (by simp)]
  ·rw[Nx h,List.drop_eq_nil_of_le (by omega),iW]
theorem JY{c:Cf}{rs:List (List Hop)}:∀(l:List Pl) (de:DM) (out:List PB) (t:DM×List PB),iW c rs l de out=some t->t.2.map kn=out.map kn++l/\t.2.length=out.length+l.length
 | [],de,out,t,h=>by injection h with h;subst h;simp
 | p::l,de,out,t,h=>by
  rw[iW] at h
  split at h
  ·obtain⟨h1,h2⟩:=JY l _ _ t h
   rw[h1,h2]
   refine⟨?_,by simp;omega⟩
   rw[List.map_append]
   simp only[List.map_cons,List.map_nil,List.append_assoc,List.cons_append,List.nil_append]
   rfl
  ·cases h
theorem U5{l:List PB}(hn:(l.map kn).Nodup)(hs:l.length<=1000000)(hb:∀ b∈l,-1000000000<=b.ya/\b.ya<=1000000000 /\ -1000000000<=b.fQ/\b.fQ<=1000000000):
  ww l (fun y0 y1=>wP y0 y1)=some (wC wP l)/\(wC wP l).Pairwise fun a b=>¬rZ (kn b) (kn a):=by
 have hp:∀ x∈l,∀ y∈l,∃ v,wP x y=some v/\(v<0↔rZ (kn x) (kn y))/\(v<=0↔¬rZ (kn y) (kn x)):=by
  intro x hx y hy
  have:=hb x hx;have:=hb y hy
  unfold wP rZ kn
  simp only[ne_eq,decide_eq_true_eq]
  by_cases e:x.ya=y.ya
  ·rw[if_neg (by simpa using e),xS (by omega)]
   exact⟨_,rfl,by omega,by omega⟩
  ·rw[if_pos (by simpa using e),xS (by omega)]
   exact⟨_,rfl,by omega,by omega⟩
 have BK:∀ x∈l,∀ y∈l,kn x=kn y->x=y:=by
  intro x hx y hy e
  obtain⟨i,hi,rfl⟩:=List.getElem_of_mem hx
  obtain⟨j,hj,rfl⟩:=List.getElem_of_mem hy
  have h1:(l.map kn)[i]'(by simpa using hi)=(l.map kn)[j]'(by simpa using hj):=by simpa using e
  have:=(List.getElem_inj (h₀:=by simpa using hi) (h₁:=by simpa using hj) hn).1 h1
  subst this;rfl
 obtain⟨ho,BI⟩:=Yw (p:=wP) (lt:=fun a b=>rZ (kn a) (kn b)) (l:=l) hp (fun x y=>XC _ _) (fun x y z=>Jg _ _ _) (fun x hx y hy h1 h2=>BK x hx y hy (Wp h1 h2))
 refine⟨?_,BI⟩
 unfold ww fj jH
 rw[Yx,xM (by omega),oB]
 have hb:=ns l.length
 rw[Int.toNat_natCast,xM ⟨⟨rfl,rfl⟩,by omega,by omega,by omega⟩,xM ho,oB]
theorem Q6:∀ {a b:List Pl},a.Perm b->a.Nodup->a.Pairwise (fun x y=>¬rZ y x)->b.Pairwise (fun x y=>¬rZ y x)->a=b
 | [],b,hp,_,_,_=>by have:=hp.length_eq;cases b with | nil=>rfl | cons y b=>simp at this
 | x::a,[],hp,_,_,_=>by have:=hp.length_eq;simp at this
 | x::a,y::b,hp,hn,ha,hb=>by
  have hxy:x=y:=by
   have h1:x∈y::b:=hp.subset (by simp)
   have h2:y∈x::a:=hp.symm.subset (by simp)
   rcases List.mem_cons.1 h1 with h1 | h1
   ·exact h1
   rcases List.mem_cons.1 h2 with h2 | h2
   ·exact h2.symm
   exact Wp ((List.pairwise_cons.1 hb).1 x h1) ((List.pairwise_cons.1 ha).1 y h2)
  subst hxy
  rw[Q6 hp.cons_inv (List.nodup_cons.1 hn).2 (List.pairwise_cons.1 ha).2 (List.pairwise_cons.1 hb).2]
theorem M8(hr:∀ r∈rs,r.length<=1000)(hl:rs.length<=100):(PS rs).Pairwise fun a b=>¬rZ b a:=by
 refine(Jh ?_).2
 have h1:=nu (nv rs) []
 have h2:=XD hr
 have h3:rs.length*1000<=100*1000:=Nat.mul_le_mul_right _ hl
 simp only[List.length_nil] at h1
 omega
inductive HC (c:Cf) (net:Int) (rs:List (List Hop)):yM×Int->Prop
 | route:¬VA c net rs->HC c net rs (⟨[],[]⟩,310)
 | vl:VA c net rs->¬d6 c->HC c net rs (⟨[],[]⟩,350)
 | cycle (s:List Pl):VA c net rs->d6 c->bZ rs s->HC c net rs (⟨[],[]⟩,351)
 | busy (l:List Pl):VA c net rs->d6 c->l.Perm (PS rs)->qx rs l->iW c rs l [] []=none->HC c net rs (⟨[],[]⟩,360)
 | ok (l:List Pl) (t:DM×List PB):VA c net rs->d6 c->l.Perm (PS rs)->qx rs l->iW c rs l [] []=some t->(wC wP t.2).map kn=PS rs->HC c net rs (⟨wC wP t.2,EN c rs (wC wP t.2)⟩,0)
theorem HC_eq{c:Cf}(hf:FewP c rs):∃ x,mf c net rs=some x/\HC c net rs x:=by
 have hS:=hf.small
 have AP:∀ r∈rs,r.length<1000000000:=fun r hr=>by have:=hf.e r hr;omega
 have hrs:=hf.r
 obtain⟨y,cy,hcp⟩:=GT (net:=net) hf
 unfold mf
 by_cases hv:VA c net rs
 ·have Ez:=aX hf.e
  have h3:rs.length*40<=20*40:=Nat.mul_le_mul_right _ hrs
  rw[cy]
  by_cases zU:d6 c
  ·have hy:y.2≠350:=by
    cases hcp with
    | route h=>exact absurd hv h
    | vl _ h=>exact absurd zU h
    | cycle=>decide
    | err l e _ _ _ _ h _=>exact zWS l w0 e rfl h
    | ok=>exact(show(0:Int)≠350 by decide)
   rcases JS (net:=net) hf hv with⟨l,e1,e2,e3⟩ | ⟨s,e1,e2⟩
   ·have kM:=e1.length_eq
    rw[e3,oB,if_neg (by simp),oB,Nx hy,if_neg (by simp)]
    refine wx (P:=fun o=>∃ x,o=some x/\HC c net rs x) fun k hk=>?_
    have hL:=Xc (l:=l) (e0:=0) (k:=k) hS hv zU.vls (fun p hp=>e1.subset hp) e2 (by omega) xT 0 [] [] (by omega) (by omega) (by rw[wp];omega) rfl ⟨by simp,fun q _=>rfl⟩
    simp only[Int.toNat_zero,List.drop_zero] at hL
    rw[hL]
    cases jA:iW c rs l [] [] with
    | none=>exact⟨_,rfl,.busy l hv zU e1 e2 jA⟩
    | some t=>
     obtain⟨o1,o2⟩:=JY l [] [] t jA
     have EX:t.2.length=l.length:=by rw[o2];simp
     have BN:t.2.map kn=l:=by rw[o1];simp
     have BB:(t.2.map kn).Nodup:=by rw[BN];exact e1.nodup_iff.2 (lV rs)
     simp only
     have DU:=U5 (l:=t.2) BB (by omega) (fun b hb=>by
      have hm:kn b∈PS rs:=e1.subset (by rw[<- BN];exact List.mem_map.2 ⟨b,hb,rfl⟩)
      have:=hv.pi hS hm
      have a:=this.l0;have b1:=this.l1;have d:=this.n0;have f:=this.n1
      have:=hS.l;have:=hS.m;have:=hS.s
      unfold nN at f
      have e4:(kn b).ya=b.ya:=rfl
      have e5:(kn b).fQ=b.fQ:=rfl
      omega)
     rw[hk,DU.1,oB,G8 (net:=net) hS hv.each (by omega) (by rw[tz];omega),oB]
     have hpp:((wC wP t.2).map kn).Perm (PS rs):=by
      refine((kK _ _).map kn).trans ?_
      rw[BN];exact e1
     refine⟨_,rfl,.ok l t hv zU e1 e2 jA (Q6 hpp (hpp.nodup_iff.2 (lV rs)) ?_ (M8 (fun r hr=>by have:=hf.e r hr;omega) (by omega)))⟩
     rw[List.pairwise_map]
     exact DU.2
   ·rw[e2,oB,if_neg (by simp),oB,Nx hy,if_pos (by simp)]
    exact⟨_,rfl,.cycle s hv zU e1⟩
  ·have hy:y=(⟨[],[]⟩,350):=by
    cases hcp with
    | route h=>exact absurd hv h
    | vl _ h=>rfl
    | cycle _ _ h=>exact absurd h zU
    | err _ _ _ h=>exact absurd h zU
    | ok _ _ _ h=>exact absurd h zU
   subst hy
   rcases JS (net:=net) hf hv with⟨l,e1,e2,e3⟩ | ⟨s,e1,e2⟩
   ·rw[e3,oB,if_neg (by simp),oB,if_pos (by simp)]
    exact⟨_,rfl,.vl hv zU⟩
   ·rw[e2,oB,if_neg (by simp),oB,if_pos (by simp)]
    exact⟨_,rfl,.vl hv zU⟩
 ·have ho:mL c net rs=some ([],310):=by
   unfold mL
   obtain⟨b,q1,q2⟩:=nr hS (net:=net) (rs:=rs) AP (by omega)
   have hb:b=false:=by
    cases b with
    | false=>rfl
    | true=>exact absurd (q2.1 rfl) hv
   rw[q1,hb];rfl
  rw[ho,oB,if_pos (by simp)]
  exact⟨_,rfl,.route hv⟩
end
section
variable {net:Int}{rs:List (List Hop)}{D:Pl->Int}
structure HF (c:Cf) (rs:List (List Hop)) (D:Pl->Int):Prop where
 b:∀ p∈PS rs,Yf c rs D p<=32768
 d:∀ p∈PS rs,D p=(ol c rs D p).yl
 r:∀ p∈PS rs,qN c p.ya+wy c p.fQ<=D p/\D p<=33768
 z:∀ p,p∉PS rs->D p=0
theorem M9{c:Cf}(hv:VA c net rs){l1 l2:List Pl}{p:Pl}(ho:qx rs (l1++p::l2)){D':Pl->Int}(h:∀ q∈l1,D q=D' q):fws c rs D p=fws c rs D' p:=by
 unfold fws
 refine List.map_congr_left fun v hvm=>?_
 obtain⟨Cy,hu⟩:=List.mem_filter.1 hvm
 have Da:=ub.1 Cy
 have hr:=ws (l:=rs) (i:=v) (by omega) (by omega)
 obtain⟨x,hx,e⟩:=pI.1 hu
 have hn:p.ya=x.ya:=by rw[<- e];rfl
 unfold lY
 rw[hn,(hv.each _ hr).jn_eq (D:=D) (D':=D') (S:=fun q=>q∈l1\/q=p) (fun y hy hs g hg eg=>?_) x hx (.inr e)]
 have:=ho.clo hv hr hy hs hg eg
 exact⟨.inl this,h _ this⟩
theorem JZ{c:Cf}{net:Int}{rs:List (List Hop)}(hS:Small c)(hv:VA c net rs)(hV:mm c):∀(l2 l1:List Pl) (de:DM) (out:List PB) (t:DM×List PB),(l1++l2).Nodup->(∀ p∈l1++l2,p∈PS rs)->qx rs (l1++l2)->HI c l1 (dD de)->iW c rs l2 de out=some t->
  (∀ q,q∉l2->dD t.1 q=dD de q)/\HI c (l1++l2) (dD t.1)/\(∀ p∈l2,Yf c rs (dD t.1) p<=32768/\dD t.1 p=(ol c rs (dD t.1) p).yl)/\t.2=out++l2.map (ol c rs (dD t.1))
 | [],l1,de,out,t,hn,hp,ho,hi,h=>by
  injection h with h;subst h
  simpa using hi
 | p::l2,l1,de,out,t,hn,hp,ho,hi,h=>by
  rw[iW] at h
  split at h
  ·rename_i hb
   have DT:=hp p (by simp)
   have e1:(l1++[p])++l2=l1++p::l2:=by simp
   have AO:p∉l2:=by
    have:=(List.nodup_append.1 hn).2.1
    exact(List.nodup_cons.1 this).1
   have zz:∀ q∈l1,q≠p:=by
    intro q hq e
    exact(List.nodup_append.1 hn).2.2 q hq p (by simp) e
   have hl12:∀ q∈l1,q∉l2:=by
    intro q hq h2
    exact(List.nodup_append.1 hn).2.2 q hq q (List.mem_cons_of_mem _ h2) rfl
   obtain⟨k1,k2,k3,k4⟩:=JZ hS hv hV l2 (l1++[p]) _ _ t (by rw[e1];exact hn) (by rw[e1];exact hp) (by rw[e1];exact ho) (hi.put hS hv hV ho DT hb) h
   have E4:∀ q∈l1,dD de q=dD t.1 q:=by
    intro q hq
    rw[k1 q (hl12 q hq)]
    unfold dD;rw[gG,if_neg (zz q hq)]
   have hfw:=M9 hv ho E4
   have hpb:ol c rs (dD de) p=ol c rs (dD t.1) p:=by unfold ol;rw[hfw]
   have hbz:Yf c rs (dD de) p=Yf c rs (dD t.1) p:=by unfold Yf;rw[hfw]
   refine⟨fun q hq=>?_,by rw[<- e1];exact k2,fun q hq=>?_,?_⟩
   ·rw[k1 q fun hm=>hq (List.mem_cons_of_mem _ hm)]
    unfold dD;rw[gG,if_neg (fun e=>hq (by rw[e];simp))]
   ·rcases List.mem_cons.1 hq with rfl | hq
    ·refine⟨hbz▸hb,?_⟩
     rw[k1 q AO,<- hpb]
     show xK (w7 de q _) q 0=_
     rw[gG,if_pos rfl]
    ·exact k3 q hq
   ·rw[k4,hpb];simp
  ·cases h
theorem TC{c:Cf}(hS:Small c)(hv:VA c net rs)(hV:mm c){l:List Pl}{t:DM×List PB}(hp:l.Perm (PS rs))(ho:qx rs l)(h:iW c rs l [] []=some t):HF c rs (dD t.1)/\t.2=l.map (ol c rs (dD t.1)):=by
 obtain⟨k1,k2,k3,k4⟩:=JZ hS hv hV l [] [] [] t (by simpa using hp.nodup_iff.2 (lV rs)) (fun p hm=>hp.subset (by simpa using hm)) (by simpa using ho) ⟨by simp,fun q _=>rfl⟩ h
 simp only[List.nil_append] at *
 refine⟨⟨fun p hm=>(k3 p (hp.symm.subset hm)).1,fun p hm=>(k3 p (hp.symm.subset hm)).2,fun p hm=>k2.i p (hp.symm.subset hm),fun p hm=>k2.o p fun hq=>hm (hp.subset hq)⟩,k4⟩
theorem TE{c:Cf}(hv:VA c net rs)(hD:∀ p∈PS rs,qN c p.ya+wy c p.fQ<=D p){r:List Hop}(hr:r∈rs):∀ x∈r,0<=jn c D r x.ya:=by
 have Da:=hv.each r hr
 refine Da.ind (P:=fun x=>0<=jn c D r x.ya) (fun x hx e=>?_) (fun g hg x hx e ih=>?_)
 ·rw[e,Da.jn_start];exact Int.le_refl _
 ·have h1:=hD (pk g) ((sH rs).2 ⟨r,hr,g,hg,rfl⟩)
  rw[<- e,Da.jn_next D hg]
  have e1:(pk g).ya=g.ya:=rfl
  have e2:(pk g).fQ=g.fQ:=rfl
  rw[e1,e2] at h1
  omega
theorem HF.rng{c:Cf}(h:HF c rs D)(hS:Small c)(hv:VA c net rs){r:List Hop}(hr:r∈rs){x:Hop}(hx:x∈r):0<=D (pk x)/\D (pk x)<=33768:=by
 have hm:pk x∈PS rs:=(sH rs).2 ⟨r,hr,x,hx,rfl⟩
 have h1:=h.r _ hm
 have h2:=Yg hS hv hm
 omega
theorem HF.ok{c:Cf}(h:HF c rs D)(hS:Small c)(hv:VA c net rs)(p:Pl):FwOK c (fws c rs D p):=by
 refine GV hS hv fun x hx=>?_
 obtain⟨y,hy,hr,_,_,e,ej,_⟩:=JX hx
 have h1:=TE hv (fun p hm=>(h.r p hm).1) hr y hy
 have h2:=nO (c:=c) (D:=D) hS hv (M:=33768) hr (fun z hz=>by have:=h.rng hS hv hr hz;omega) y.ya
 rw[ej];omega
end
section
variable {rs:List (List Hop)}{ps:List PB}{D:Pl->Int}
theorem K0{b:PB}:∀ {l:List PB},(l.map kn).Nodup->b∈l->xK (dem l) (kn b) 0=b.yl
 | [],_,h=>by cases h
 | a::l,hn,h=>by
  show xK (w7 (dem l) (kn a) a.yl) (kn b) 0=_
  rw[List.map_cons,List.nodup_cons] at hn
  rw[gG]
  by_cases e:kn b=kn a
  ·rw[if_pos e]
   rcases List.mem_cons.1 h with h | h
   ·rw[h]
   ·exact absurd (List.mem_map.2 ⟨b,h,e⟩) hn.1
  ·rw[if_neg e]
   rcases List.mem_cons.1 h with h | h
   ·exact absurd (by rw[h]) e
   ·exact K0 hn.2 h
def iX(c:Cf)(rs:List (List Hop))(D:Pl->Int)(ps:List PB):Prop:=ps.map kn=PS rs/\∀ b∈ps,b=ol c rs D (kn b)
theorem T4{c:Cf}(p:Pl):kn (ol c rs D p)=p:=rfl
theorem iX.of{c:Cf}{l:List Pl}{t:DM×List PB}(h1:(wC wP t.2).map kn=PS rs)(h2:t.2=l.map (ol c rs (dD t.1))):iX c rs (dD t.1) (wC wP t.2):=by
 refine⟨h1,fun b hb=>?_⟩
 have hb:=(kK _ _).subset hb
 rw[h2] at hb
 obtain⟨p,hp,rfl⟩:=List.mem_map.1 hb
 rw[T4]
theorem iX.nd{c:Cf}(h:iX c rs D ps):(ps.map kn).Nodup:=by rw[h.1];exact lV rs
theorem iX.dem{c:Cf}{rs:List (List Hop)}{D:Pl->Int}{ps:List PB}(h:iX c rs D ps)(hF:HF c rs D){p:Pl}(hp:p∈PS rs):xK (dem ps) p 0=D p:=by
 rw[<- h.1] at hp
 obtain⟨b,hb,rfl⟩:=List.mem_map.1 hp
 rw[K0 h.nd hb,hF.d (kn b) (by rw[<- h.1];exact hp),<- h.2 b hb]
theorem iX.get{c:Cf}(h:iX c rs D ps){p:Pl}(hp:p∈PS rs):∃ b∈ps,kn b=p/\b=ol c rs D p:=by
 rw[<- h.1] at hp
 obtain⟨b,hb,rfl⟩:=List.mem_map.1 hp
 exact⟨b,hb,rfl,h.2 b hb⟩
theorem HC_ok{c:Cf}{net:Int}(hS:Small c){x:yM×Int}(h:HC c net rs x)(h0:x.2=0):VA c net rs/\d6 c/\∃ D ps l,l.Perm (PS rs)/\qx rs l/\HF c rs D/\iX c rs D ps/\x=(⟨ps,EN c rs ps⟩,0):=by
 cases h with
 | route _=>cases h0
 | vl _ _=>cases h0
 | cycle _ _ _ _=>cases h0
 | busy _ _ _ _ _ _=>cases h0
 | ok l t hv zU hp ho hr hs=>
  obtain⟨hF,ht⟩:=TC hS hv zU.vls hp ho hr
  exact⟨hv,zU,dD t.1,_,l,hp,ho,hF,iX.of hs ht,rfl⟩
theorem Ma{α β:Type}{f:α->List β}{m:Nat}:∀ l:List α,(∀ x∈l,(f x).length<=m)->(l.flatMap f).length<=l.length*m
 | [],_=>by simp
 | x::l,h=>by
  rw[List.flatMap_cons,List.length_append,List.length_cons,Nat.succ_mul]
  have h1:=h x (by simp)
  have h2:=Ma l fun y hy=>h y (List.mem_cons_of_mem _ hy)
  omega
theorem TF{c:Cf}(hl:rs.length<=20)(he:∀ r∈rs,r.length<=40):(EN c rs ps).length<=1000000:=by
 unfold EN
 have:=Ma (f:=fun v=>wC kG (VE c rs (dem ps) v)) (m:=40) (ki 0 rs.length) (fun v hv=>by
  have h4:=ub.1 hv
  rw[tz]
  exact Nat.le_trans FW (he _ (ws (by omega) (by omega))))
 rw[bm] at this
 have h3:rs.length*40<=20*40:=Nat.mul_le_mul_right _ hl
 omega
theorem iX.len{c:Cf}(h:iX c rs D ps)(hl:rs.length<=20)(he:∀ r∈rs,r.length<=40):ps.length<=1000000:=by
 have h1:=aX he
 have h2:ps.length=(PS rs).length:=by rw[<- h.1,List.length_map]
 have h3:rs.length*40<=20*40:=Nat.mul_le_mul_right _ hl
 omega
theorem K1{c:Cf}{x:zw}:x∈EN c rs ps↔∃ v:Int,0<=v/\v<rs.length/\x∈VE c rs (dem ps) v:=by
 unfold EN
 rw[List.mem_flatMap]
 constructor
 ·rintro⟨v,hv,hx⟩
  have:=ub.1 hv
  exact⟨v,by omega,by omega,(kK _ _).subset hx⟩
 ·rintro⟨v,v0,v1,hx⟩
  exact⟨v,ub.2 ⟨v0,by omega⟩,(kK _ _).symm.subset hx⟩
theorem T5{c:Cf}{x y:zw}(hx:x∈EN c rs ps)(hy:y∈EN c rs ps)(h1:x.yt=y.yt)(h2:x.ya=y.ya):x=y:=by
 obtain⟨v,_,_,hx⟩:=K1.1 hx
 obtain⟨w,_,_,hy⟩:=K1.1 hy
 have iv:=JG c rs (dem ps) v
 have iw:=JG c rs (dem ps) w
 have e:v=w:=by have a:=(iv.vl x hx).1;have b:=(iw.vl y hy).1;omega
 subst e
 have hn:((VE c rs (dem ps) v).map (·.ya)).Nodup:=iv.nd
 obtain⟨i,hi,rfl⟩:=List.getElem_of_mem hx
 obtain⟨j,hj,rfl⟩:=List.getElem_of_mem hy
 have h3:((VE c rs (dem ps) v).map (·.ya))[i]'(by simpa using hi)=((VE c rs (dem ps) v).map (·.ya))[j]'(by simpa using hj):=by simpa using h2
 have:=(List.getElem_inj (h₀:=by simpa using hi) (h₁:=by simpa using hj) hn).1 h3
 subst this;rfl
end
section
abbrev Ev:=yr
variable {l:List Ev}{i j:Int}
def d7(a b:Ev):Prop:=a.yc<b.yc\/a.yc=b.yc/\(a.yJ<b.yJ\/a.yJ=b.yJ/\(a.yP<b.yP\/a.yP=b.yP/\a.yd<b.yd))
instance (a b:Ev):Decidable (d7 a b):=inferInstanceAs (Decidable (_\/_))
def tZ(a b:Ev):Prop:=¬d7 b a
theorem nP{a:Ev}:tZ a a:=by unfold tZ d7;omega
theorem d8{a b c:Ev}(h:tZ a b)(k:tZ b c):tZ a c:=by unfold tZ d7 at *;omega
theorem cu{a b:Ev}(h:d7 a b):tZ a b:=by unfold tZ d7 at *;omega
theorem Mb(a b:Ev):∃ v,g4 a b=some v/\(v<0↔d7 a b):=by
 unfold g4
 simp only[np,oB]
 rw[GG]
 refine⟨_,rfl,?_⟩
 unfold oG oG oG oG oG Jd d7
 repeat' split
 all_goals omega
theorem Vn(hi:0<=i/\i<l.length)(hj:0<=j/\j<l.length):jC l i j=some (decide (d7 (nth l i) (nth l j))):=by
 unfold jC
 rw[xM hi,xM hj]
 obtain⟨v,h1,h2⟩:=Mb (nth l i) (nth l j)
 show(g4 (nth l i) (nth l j)).bind _=_
 rw[h1]
 simp only[oB,h2]
def bt(l:List Ev)(i j:Int):List Ev:=(l.set i.toNat (nth l j)).set j.toNat (nth l i)
theorem Vo(hi:0<=i/\i<l.length)(hj:0<=j/\j<l.length):jD l i j=some (bt l i j):=by
 unfold jD
 rw[xM hj,xM hi,xM (by rw[List.length_set];exact hj)]
 rfl
theorem uW(l:List Ev)(i j:Int):(bt l i j).length=l.length:=by simp[bt]
theorem tB{x:Int}(hi:0<=i/\i<l.length)(hj:0<=j/\j<l.length)(hx:0<=x/\x<l.length):
  nth (bt l i j) x=if x=j then nth l i else if x=i then nth l j else nth l x:=by
 rw[j6 (l:=bt l i j) (by rw[uW];exact hx),j6 hx]
 unfold bt
 rw[List.getElem_set,List.getElem_set]
 by_cases h1:x=j
 ·subst h1;simp
 ·rw[if_neg (by omega),if_neg h1]
  by_cases h2:x=i
  ·subst h2;simp
  ·rw[if_neg (by omega),if_neg h2]
theorem XL(hi:0<=i/\i<l.length)(hj:0<=j/\j<l.length):(bt l i j).Perm l:=by
 unfold bt
 rw[j6 hi,j6 hj]
 exact List.set_set_perm (by omega) (by omega)
def vP(x:Int):Int:=(x-1) / 2
def HP(l:List Ev)(n:Int):Prop:=∀ x:Int,0<x->x<n->tZ (nth l (vP x)) (nth l x)
def HU(l:List Ev)(n j:Int):Prop:=(∀ x:Int,0<x->x<n->x≠j->tZ (nth l (vP x)) (nth l x))/\(0<j->∀ x:Int,0<x->x<n->vP x=j->tZ (nth l (vP j)) (nth l x))
theorem Gc{k:List Ev->Option (List Ev)}:∀(f:Nat) (j:Int) (l:List Ev),0<=j->j<l.length->l.length<9000000000000000000->j<f->HU l l.length j->
  ∃ l',jJ k f j l=k l'/\l'.Perm l/\HP l' l'.length
 | 0,j,l,h0,h1,h2,h3,h4=>by omega
 | f+1,j,l,h0,h1,h2,h3,h4=>by
  rw[jJ]
  have ei:i64 (Int.tdiv (i64 (j-1)) 2)=if j=0 then 0 else vP j:=by
   rw[xS (x:=j-1) (by omega)]
   by_cases hj:j=0
   ·subst hj;rw[if_pos rfl];rfl
   ·rw[if_neg hj,Int.tdiv_eq_ediv_of_nonneg (by omega),xS (by omega)];rfl
  rw[ei]
  by_cases hj:j=0
  ·subst hj
   simp only[if_true,decide_true,oB]
   refine⟨l,rfl,.refl _,fun x hx hn=>h4.1 x hx hn (by omega)⟩
  ·simp only[hj,if_false]
   have hp:vP j<j/\0<=vP j:=by unfold vP;omega
   rw[if_neg (by simp;omega),Vn ⟨h0,h1⟩ ⟨hp.2,by omega⟩]
   simp only[oB]
   by_cases hl:d7 (nth l j) (nth l (vP j))
   ·simp only[hl,decide_true,Bool.not_true,Bool.false_eq_true,if_false]
    rw[Vo ⟨hp.2,by omega⟩ ⟨h0,h1⟩]
    simp only[oB]
    have Dz:(0<=vP j/\vP j<l.length):=⟨hp.2,by omega⟩
    have hu:HU (bt l (vP j) j) (bt l (vP j) j).length (vP j):=by
     rw[uW]
     refine⟨fun x hx hn qA=>?_,fun h0' x hx hn Cc=>?_⟩
     ·have Cc:0<=vP x/\vP x<x:=by unfold vP;omega
      rw[tB Dz ⟨h0,h1⟩ ⟨Cc.1,by omega⟩,tB Dz ⟨h0,h1⟩ ⟨by omega,hn⟩]
      by_cases e1:x=j
      ·subst e1
       rw[if_neg (by omega),if_pos rfl,if_pos rfl]
       exact cu hl
      ·rw[if_neg e1,if_neg qA]
       by_cases e2:vP x=j
       ·rw[if_pos e2]
        exact h4.2 (by omega) x hx hn e2
       ·rw[if_neg e2]
        by_cases e3:vP x=vP j
        ·rw[if_pos e3]
         have:=h4.1 x hx hn e1
         rw[e3] at this
         exact d8 (cu hl) this
        ·rw[if_neg e3];exact h4.1 x hx hn e1
     ·have hpp:0<=vP (vP j)/\vP (vP j)<vP j:=by unfold vP at *;omega
      rw[tB Dz ⟨h0,h1⟩ ⟨hpp.1,by omega⟩,tB Dz ⟨h0,h1⟩ ⟨by omega,hn⟩]
      rw[if_neg (by omega),if_neg (by omega)]
      by_cases e1:x=j
      ·rw[if_pos e1];exact h4.1 (vP j) h0' (by omega) (by omega)
      ·have hxx:x≠vP j:=by
        have:vP x<x:=by unfold vP;omega
        omega
       rw[if_neg e1,if_neg hxx]
       have a1:=h4.1 x hx hn e1
       rw[Cc] at a1
       exact d8 (h4.1 (vP j) h0' (by omega) (by omega)) a1
    obtain⟨l',e1,e2,e3⟩:=Gc (k:=k) f (vP j) (bt l (vP j) j) hp.2 (by rw[uW];omega) (by rw[uW];omega) (by omega) hu
    exact⟨l',e1,e2.trans (XL Dz ⟨h0,h1⟩),e3⟩
   ·simp only[hl,decide_false,Bool.not_false,if_true]
    refine⟨l,rfl,.refl _,fun x hx hn=>?_⟩
    by_cases e:x=j
    ·subst e;exact hl
    ·exact h4.1 x hx hn e
theorem T6{x:Ev}(hl:(l.length:Int)<1000000000)(h:HP l l.length):∃ l',g5 l x=some l'/\l'.Perm (x::l)/\HP l' l'.length:=by
 unfold g5 ue gM
 rw[xM (by simp;omega)]
 simp only[oB]
 unfold uK
 have kM:((l++[x]).length:Int)=l.length+1:=by simp
 rw[kM,xS (by omega)]
 have DV:∀ y:Int,0<=y->y<l.length->nth (l++[x]) y=nth l y:=fun y h0 h1=>by
  rw[j6 (l:=l++[x]) ⟨h0,by omega⟩,j6 (l:=l) ⟨h0,h1⟩,List.getElem_append_left]
 have hu:HU (l++[x]) (l++[x]).length (l.length+1-1):=by
  rw[kM]
  refine⟨fun y hy hn qA=>?_,fun h0 y hy hn hp=>?_⟩
  ·have:0<=vP y/\vP y<y:=by unfold vP;omega
   rw[DV _ this.1 (by omega),DV y (by omega) (by omega)]
   exact h y hy (by omega)
  ·exfalso
   have:vP y<y:=by unfold vP;omega
   omega
 refine wx (P:=fun o=>∃ l',(o.bind fun z=>some z)=some l'/\l'.Perm (x::l)/\HP l' l'.length) fun k hk=>?_
 obtain⟨l',e1,e2,e3⟩:=Gc (k:=k) xT (l.length+1-1) (l++[x]) (by omega) (by omega) (by omega) (by rw[wp];omega) hu
 rw[e1,hk]
 exact⟨l',rfl,e2.trans (List.perm_append_comm (l₁:=l) (l₂:=[x])),e3⟩
def HD(l:List Ev)(n i:Int):Prop:=(∀ x:Int,0<x->x<n->vP x≠i->tZ (nth l (vP x)) (nth l x))/\(0<i->∀ x:Int,0<x->x<n->vP x=i->tZ (nth l (vP i)) (nth l x))
theorem Q7{n:Int}{k:Int->List Ev->Option (Bool×List Ev)}:∀(f:Nat) (i:Int) (l:List Ev),0<=i->n<=l.length->l.length<1000000000->i<=l.length->l.length<f+i->HD l n i->
  ∃ i' l',qC n k f i l=k i' l'/\l'.Perm l/\HP l' n/\(∀ x:Int,n<=x->x<l.length->nth l' x=nth l x)
 | 0,i,l,h0,h1,h2,h3,h4,h5=>by omega
 | f+1,i,l,h0,h1,h2,h3,h4,h5=>by
  rw[qC]
  rw[xS (x:=2*i) (by omega),xS (x:=2*i+1) (by omega),xS (x:=2*i+1+1) (by omega)]
  by_cases hs:2*i+1>=n
  ·rw[if_pos (by simp[hs])]
   refine⟨i,l,rfl,.refl _,fun x hx hn=>h5.1 x hx hn ?_,fun _ _ _=>rfl⟩
   unfold vP;omega
  ·rw[if_neg (by simp only[Bool.or_eq_true,decide_eq_true_eq];omega)]
   have key:∀ j:Int,(j=2*i+1\/j=2*i+2)->j<n->(∀ x:Int,0<x->x<n->vP x=i->tZ (nth l j) (nth l x))->
     ∃ i' l',((jC l j i).bind fun x=>if (!x)=true then k i l else(jD l i j).bind fun x=>qC n k f j x)=k i' l'/\l'.Perm l/\HP l' n/\(∀ x:Int,n<=x->x<l.length->nth l' x=nth l x):=by
    intro j hj hjn xJ
    have tt:vP j=i:=by unfold vP;omega
    have CJ:0<=j/\j<l.length:=by omega
    have CK:0<=i/\i<l.length:=by omega
    rw[Vn CJ CK]
    simp only[oB]
    by_cases hl:d7 (nth l j) (nth l i)
    ·simp only[hl,decide_true,Bool.not_true,Bool.false_eq_true,if_false]
     rw[Vo CK CJ]
     simp only[oB]
     have hd:HD (bt l i j) n j:=by
      refine⟨fun x hx hn hp=>?_,fun _ x hx hn hp=>?_⟩
      ·have Cc:0<=vP x/\vP x<x:=by unfold vP;omega
       rw[tB CK CJ ⟨Cc.1,by omega⟩,tB CK CJ ⟨by omega,by omega⟩,if_neg hp]
       by_cases e1:vP x=i
       ·rw[if_pos e1]
        by_cases e2:x=j
        ·rw[if_pos e2];exact cu hl
        ·rw[if_neg e2,if_neg (by omega)];exact xJ x hx hn e1
       ·rw[if_neg e1]
        by_cases e2:x=j
        ·subst e2;exact absurd tt e1
        ·rw[if_neg e2]
         by_cases e3:x=i
         ·rw[if_pos e3]
          have:=h5.2 (by omega) j (by omega) hjn tt
          rw[e3];exact this
         ·rw[if_neg e3];exact h5.1 x hx hn e1
      ·have Cc:vP x<x:=by unfold vP;omega
       rw[tt,tB CK CJ CK,tB CK CJ ⟨by omega,by omega⟩,if_neg (by omega),if_pos rfl,if_neg (by omega),if_neg (by omega)]
       have:=h5.1 x hx hn (by omega)
       rw[hp] at this;exact this
     obtain⟨i',l',e1,e2,e3,e4⟩:=Q7 (n:=n) (k:=k) f j (bt l i j) CJ.1 (by rw[uW];exact h1) (by rw[uW];exact h2) (by rw[uW];omega) (by rw[uW];omega) hd
     refine⟨i',l',e1,e2.trans (XL CK CJ),e3,fun x hx hn=>?_⟩
     rw[e4 x hx (by rw[uW];exact hn),tB CK CJ ⟨by omega,hn⟩,if_neg (by omega),if_neg (by omega)]
    ·simp only[hl,decide_false,Bool.not_false,if_true]
     refine⟨i,l,rfl,.refl _,fun x hx hn=>?_,fun _ _ _=>rfl⟩
     by_cases e:vP x=i
     ·rw[e];exact d8 hl (xJ x hx hn e)
     ·exact h5.1 x hx hn e
   refine wx (P:=fun o=>∃ i' l',o=k i' l'/\l'.Perm l/\HP l' n/\(∀ x:Int,n<=x->x<l.length->nth l' x=nth l x)) fun kk wT=>?_
   have hch:∀ x:Int,0<x->vP x=i->x=2*i+1\/x=2*i+2:=fun x hx hp=>by unfold vP at hp;omega
   by_cases h6:2*i+1+1<n
   ·rw[Nw h6,Vn ⟨by omega,by omega⟩ ⟨by omega,by omega⟩]
    simp only[oB,decide_eq_true_eq]
    by_cases h7:d7 (nth l (2*i+1+1)) (nth l (2*i+1))
    ·rw[if_pos h7,wT]
     refine key _ (by omega) h6 fun x hx hn hp=>?_
     rcases hch x hx hp with rfl | rfl
     ·exact cu h7
     ·rw[show 2*i+2=2*i+1+1 by omega];exact nP
    ·rw[if_neg h7,wT]
     refine key _ (by omega) (by omega) fun x hx hn hp=>?_
     rcases hch x hx hp with rfl | rfl
     ·exact nP
     ·rw[show 2*i+2=2*i+1+1 by omega];exact h7
   ·rw[Nx h6]
    simp only[oB,Bool.false_eq_true,if_false]
    rw[wT]
    refine key _ (by omega) (by omega) fun x hx hn hp=>?_
    rcases hch x hx hp with rfl | rfl
    ·exact nP
    ·omega
theorem T7{n:Int}(h:HP l n):∀(m:Nat) (x:Int),x=m->x<n->tZ (nth l 0) (nth l x):=by
 intro m
 induction m using Nat.strongRecOn with
 | _ m ih=>
  intro x hx hn
  by_cases h0:x=0
  ·rw[h0];exact nP
  ·have hp:0<=vP x/\vP x<x:=by unfold vP;omega
   exact d8 (ih (vP x).toNat (by omega) (vP x) (by omega) (by omega)) (h x (by omega) hn)
theorem T8{n:Int}(h1:n<=l.length)(h2:l.length<1000000000)(h5:HD l n 0):
  ∃ b l',fh l 0 n=some (b,l')/\l'.Perm l/\HP l' n/\(∀ x:Int,n<=x->x<l.length->nth l' x=nth l x):=by
 unfold fh
 refine tg (P:=fun o=>∃ b l',o=some (b,l')/\l'.Perm l/\HP l' n/\(∀ x:Int,n<=x->x<l.length->nth l' x=nth l x)) fun k hk=>?_
 have hF:=wp
 generalize xT=N at hF ⊢
 obtain⟨i',l',e1,e2,e3,e4⟩:=Q7 (n:=n) (k:=k) N 0 l (by omega) h1 h2 (by omega) (by omega) h5
 rw[e1,hk]
 exact⟨_,l',rfl,e2,e3,e4⟩
theorem TG(h0:l≠[])(hl:(l.length:Int)<1000000000)(h:HP l l.length):∃ e l',mh l=some (e,l')/\(e::l').Perm l/\HP l' l'.length/\∀ x∈l,tZ e x:=by
 have zN:0<(l.length:Int):=by cases l with | nil=>exact absurd rfl h0 | cons=>simp
 unfold mh gM
 simp only[oB]
 rw[xS (x:=(l.length:Int)-1) (by omega),Vo ⟨by omega,zN⟩ ⟨by omega,by omega⟩]
 simp only[oB]
 have Bi:(0:Int)<=0/\(0:Int)<l.length:=⟨by omega,zN⟩
 have BP:(0:Int)<=(l.length:Int)-1/\(l.length:Int)-1<l.length:=⟨by omega,by omega⟩
 have hd:HD (bt l 0 ((l.length:Int)-1)) ((l.length:Int)-1) 0:=by
  refine⟨fun x hx hn hp=>?_,fun h=>absurd h (by omega)⟩
  have Cc:0<=vP x/\vP x<x:=by unfold vP;omega
  rw[tB Bi BP ⟨Cc.1,by omega⟩,tB Bi BP ⟨by omega,by omega⟩,if_neg (by omega),if_neg hp,if_neg (by omega),if_neg (by omega)]
  exact h x hx (by omega)
 obtain⟨b',l',e1,e2,e3,e4⟩:=T8 (n:=(l.length:Int)-1) (l:=bt l 0 ((l.length:Int)-1)) (by rw[uW];omega) (by rw[uW];omega) hd
 rw[e1]
 have kM:(l'.length:Int)=l.length:=by have:=e2.length_eq;rw[uW] at this;omega
 simp only[oB]
 unfold uq
 rw[kM,xS (by omega),xM ⟨by omega,by omega⟩,xM ⟨by omega,by omega⟩]
 simp only[oB]
 have E5:nth l' ((l.length:Int)-1)=nth l 0:=by
  rw[e4 _ (Int.le_refl _) (by rw[uW];omega),tB Bi BP BP,if_pos rfl]
 have happ:l'=l'.take ((l.length:Int)-1).toNat++[nth l' ((l.length:Int)-1)]:=by
  have h1:((l.length:Int)-1).toNat<l'.length:=by omega
  rw[j6 ⟨by omega,by omega⟩,List.take_append_getElem h1,List.take_of_length_le (by omega)]
 refine⟨nth l' ((l.length:Int)-1),l'.take ((l.length:Int)-1).toNat,rfl,?_,?_,?_⟩
 ·refine List.Perm.trans ?_ (e2.trans (XL Bi BP))
  refine List.Perm.trans ?_ (List.Perm.of_eq happ.symm)
  exact(List.perm_append_comm (l₁:=[_]))
 ·intro x hx hn
  rw[List.length_take] at hn
  have Cc:0<=vP x/\vP x<x:=by unfold vP;omega
  have DV:∀ y:Int,0<=y->y<(l.length:Int)-1->nth (l'.take ((l.length:Int)-1).toNat) y=nth l' y:=fun y a b=>by
   rw[j6 (l:=l'.take _) ⟨a,by rw[List.length_take];omega⟩,j6 (l:=l') ⟨a,by omega⟩,List.getElem_take]
  rw[DV _ Cc.1 (by omega),DV x (by omega) (by omega)]
  exact e3 x hx (by omega)
 ·intro x hx
  rw[E5]
  obtain⟨i,hi,rfl⟩:=List.getElem_of_mem hx
  have:=T7 h i (i:Int) rfl (by omega)
  rw[j6 (l:=l) (i:=(i:Int)) ⟨by omega,by omega⟩] at this
  simpa using this
end
section
abbrev Fr:=yj
abbrev Pt:=yC
variable {l:List Fr}{t:Int}{f:Fr->Option Bool}{p:Pt}
theorem c7{l:List Fr}{f:Fr->Option Bool}{p:Fr->Bool}{k:Option Int}(hf:∀ y,f y=some (p y))(hl:l.length<9000000000000000000):∀(n:Nat) (v:Int),0<=v->v<=l.length->l.length<n+v->
  (∃ i:Int,v<=i/\i<l.length/\p (nth l i)=true/\(∀ x∈(l.drop v.toNat).take (i-v).toNat,p x=false)/\wB l f k n v=some i)\/((∀ x∈l.drop v.toNat,p x=false)/\wB l f k n v=k)
 | 0,v,h0,h1,h2=>by omega
 | n+1,v,h0,h1,h2=>by
  rw[wB]
  by_cases h:v<l.length
  ·rw[Nw h,xM ⟨h0,h⟩]
   show _\/(_/\((f (nth l v)).bind _)=k)
   rw[show(f (⟨(nth l v).yo,(nth l v).yO⟩:Fr))=f (nth l v) from rfl,hf]
   simp only[oB]
   cases hp:p (nth l v) with
   | true=>exact .inl ⟨v,Int.le_refl _,h,hp,by simp,by simp⟩
   | false=>
    simp only[Bool.false_eq_true,if_false]
    rw[xS (x:=v+1) (by omega)]
    have hd:=kg h0 h
    have e1:(v+1).toNat=v.toNat+1:=by omega
    rcases c7 hf hl n (v+1) (by omega) (by omega) (by omega) (k:=k) with⟨i,i1,i2,i3,i4,i5⟩ | ⟨i1,i2⟩
    ·refine .inl ⟨i,by omega,i2,i3,?_,i5⟩
     rw[hd,show(i-v).toNat=(i-(v+1)).toNat+1 by omega,List.take_succ_cons]
     intro x hx
     rcases List.mem_cons.1 hx with rfl | hx
     ·exact hp
     ·rw[e1] at i4;exact i4 x hx
    ·refine .inr ⟨?_,i2⟩
     rw[hd]
     intro x hx
     rcases List.mem_cons.1 hx with rfl | hx
     ·exact hp
     ·rw[e1] at i1;exact i1 x hx
  ·rw[Nx h,List.drop_eq_nil_of_le (by omega)]
   exact .inr ⟨by simp,rfl⟩
theorem U6{p:Fr->Bool}(hf:∀ y,f y=some (p y))(hl:l.length<9000000000000000000):
  (∃ i:Int,0<=i/\i<l.length/\p (nth l i)=true/\(∀ x∈l.take i.toNat,p x=false)/\vL l f=some i)\/((∀ x∈l,p x=false)/\vL l f=some (-1)):=by
 unfold vL
 have hF:=wp
 generalize xT=N at hF ⊢
 refine mF (P:=fun o=>(∃ i:Int,0<=i/\i<l.length/\p (nth l i)=true/\(∀ x∈l.take i.toNat,p x=false)/\o=some i)\/((∀ x∈l,p x=false)/\o=some (-1))) fun k hk=>?_
 rcases c7 hf hl N 0 (by omega) (by omega) (by omega) (k:=k) with⟨i,i1,i2,i3,i4,i5⟩ | ⟨i1,i2⟩
 ·exact .inl ⟨i,i1,i2,i3,by simpa using i4,i5⟩
 ·exact .inr ⟨by simpa using i1,i2.trans hk⟩
theorem XM{f:Fr->Option Bool}{p:Fr->Bool}{k:List Fr->Int->Option (List Fr)}(hf:∀ y,f y=some (p y)):∀(n:Nat) (s:List Fr) (i j:Int),s.length<9000000000000000000->0<=i->i<=j->j<=s.length->s.length<n+j->
  ∃ s' i',wK f k n s i j=k s' i'/\s'.length=s.length/\0<=i'/\i'<=s.length/\s'.take i'.toNat=s.take i.toNat++(s.drop j.toNat).filter (fun x => !p x)
 | 0,s,i,j,hl,h0,h1,h2,h3=>by omega
 | n+1,s,i,j,hl,h0,h1,h2,h3=>by
  rw[wK]
  by_cases h:j<s.length
  ·rw[Nw h]
   refine tg (P:=fun o=>∃ s' i',o=k s' i'/\s'.length=s.length/\0<=i'/\i'<=s.length/\s'.take i'.toNat=s.take i.toNat++(s.drop j.toNat).filter (fun x => !p x)) fun kk wT=>?_
   rw[xM ⟨by omega,h⟩,show(f (⟨(nth s j).yo,(nth s j).yO⟩:Fr))=f (nth s j) from rfl,hf]
   simp only[oB]
   have hd:=kg (l:=s) (v:=j) (by omega) h
   have e1:(j+1).toNat=j.toNat+1:=by omega
   cases hp:p (nth s j) with
   | true=>
    simp only[Bool.not_true,Bool.false_eq_true,if_false]
    rw[wT,xS (x:=j+1) (by omega)]
    obtain⟨s',i',a1,a2,a3,a4,a5⟩:=XM hf (k:=k) n s i (j+1) hl h0 (by omega) (by omega) (by omega)
    refine⟨s',i',a1,a2,a3,a4,?_⟩
    rw[a5,e1,hd,List.filter_cons,hp];rfl
   | false=>
    simp only[Bool.not_false,if_true]
    rw[xM ⟨h0,by omega⟩,wT,xS (x:=j+1) (by omega),xS (x:=i+1) (by omega)]
    obtain⟨s',i',a1,a2,a3,a4,a5⟩:=XM hf (k:=k) n (s.set i.toNat (nth s j)) (i+1) (j+1) (by rw[List.length_set];exact hl) (by omega) (by omega) (by rw[List.length_set];omega) (by rw[List.length_set];omega)
    rw[List.length_set] at a2 a4
    refine⟨s',i',a1,a2,a3,a4,?_⟩
    rw[a5,hd,List.filter_cons,hp]
    have hi:i.toNat<s.length:=by omega
    have b1:(s.set i.toNat (nth s j)).take (i+1).toNat=s.take i.toNat++[nth s j]:=by
     rw[show(i+1).toNat=i.toNat+1 by omega,List.set_eq_take_append_cons_drop,if_pos hi,List.take_append]
     rw[List.length_take,Nat.min_eq_left (by omega),List.take_of_length_le (by rw[List.length_take];omega)]
     simp
    have b2:(s.set i.toNat (nth s j)).drop (j+1).toNat=s.drop (j.toNat+1):=by
     rw[e1,List.drop_set_of_lt (by omega)]
    rw[b1,b2];simp
  ·rw[Nx h]
   refine⟨s,i,rfl,rfl,h0,by omega,?_⟩
   rw[List.drop_eq_nil_of_le (by omega)];simp
theorem TH{p:Fr->Bool}(hf:∀ y,f y=some (p y))(hl:l.length<9000000000000000000):vF l f=some (l.filter fun x => !p x):=by
 unfold vF
 have hF:=wp
 generalize xT=N at hF ⊢
 rcases U6 hf hl with⟨i,i1,i2,i3,i4,i5⟩ | ⟨i1,i2⟩
 ·rw[i5]
  simp only[oB]
  rw[if_neg (by simp;omega)]
  refine tg (P:=fun o=>o=some (l.filter fun x => !p x)) fun kk wT=>?_
  rw[xS (by omega)]
  obtain⟨s',i',a1,a2,a3,a4,a5⟩:=XM hf (k:=kk) N l i (i+1) hl (by omega) (by omega) (by omega) (by omega)
  rw[a1,wT,xM ⟨a3,by rw[a2];exact a4⟩,xM ⟨a3,by rw[List.length_append,List.length_take,List.length_replicate];omega⟩]
  congr 1
  rw[List.take_append_of_le_length (by rw[List.length_take];omega),List.take_take,Nat.min_self,a5]
  have hd:=kg (l:=l) (v:=i) (by omega) i2
  conv=>rhs;rw[<- List.take_append_drop i.toNat l,List.filter_append,hd,List.filter_cons,i3]
  rw[show(i+1).toNat=i.toNat+1 by omega]
  simp only[Bool.not_true,Bool.false_eq_true,if_false]
  congr 1
  refine(List.filter_eq_self.2 fun x hx=>?_).symm
  rw[i4 x hx];rfl
 ·rw[i2]
  simp only[oB,decide_true,if_true]
  congr 1
  refine(List.filter_eq_self.2 fun x hx=>?_).symm
  rw[i1 x hx];rfl
def fk:List Fr->Int
 | []=>0
 | x::l=>x.yo+fk l
theorem U7(h:∀ x∈l,1<=x.yo/\x.yo<=72):0<=fk l/\fk l<=72*l.length:=by
 induction l with
 | nil=>simp[fk]
 | cons x l ih=>
  have h1:=h x (by simp)
  have h2:=ih (fun y hy=>h y (List.mem_cons_of_mem _ hy))
  simp only[fk,List.length_cons]
  omega
theorem XN{p:Pt}{f:Fr->Option Bool}{q:Fr->Bool}{k:Int->Option Int}(hf:∀ y,f y=some (q y))(hs:∀ x∈p.yn,1<=x.yo/\x.yo<=72)(hl:p.yn.length<1000000000):
  ∀(n:Nat) (a v:Int),0<=v->v<=p.yn.length->p.yn.length<n+v->0<=a->a<=72*v->gE p f k n a v=k (a+fk ((p.yn.drop v.toNat).filter q))
 | 0,a,v,h0,h1,h2,h3,h4=>by omega
 | n+1,a,v,h0,h1,h2,h3,h4=>by
  rw[gE]
  by_cases h:v<p.yn.length
  ·rw[Nw h]
   refine wx (P:=fun o=>o=k (a+fk ((p.yn.drop v.toNat).filter q))) fun kk wT=>?_
   rw[xM ⟨h0,h⟩,show(f (⟨(nth p.yn v).yo,(nth p.yn v).yO⟩:Fr))=f (nth p.yn v) from rfl,hf]
   simp only[oB]
   have hx:=hs _ (ws h0 h)
   have hd:=kg (l:=p.yn) (v:=v) h0 h
   have e1:(v+1).toNat=v.toNat+1:=by omega
   rw[hd,List.filter_cons]
   cases hq:q (nth p.yn v) with
   | true=>
    simp only[if_true]
    rw[xS (x:=a+_) (by omega),wT,xS (x:=v+1) (by omega),XN hf hs hl n _ (v+1) (by omega) (by omega) (by omega) (by omega) (by omega),e1]
    simp only[fk];congr 1;omega
   | false=>
    simp only[Bool.false_eq_true,if_false]
    rw[wT,xS (x:=v+1) (by omega),XN hf hs hl n _ (v+1) (by omega) (by omega) (by omega) (by omega) (by omega),e1]
  ·rw[Nx h,List.drop_eq_nil_of_le (by omega)]
   simp[fk]
theorem TI{q:Fr->Bool}(hf:∀ y,f y=some (q y))(hs:∀ x∈p.yn,1<=x.yo/\x.yo<=72)(hl:p.yn.length<1000000000):ur p f=some (fk (p.yn.filter q)):=by
 unfold ur
 have hF:=wp
 generalize xT=N at hF ⊢
 refine wx (P:=fun o=>o=some (fk (p.yn.filter q))) fun k hk=>?_
 rw[XN hf hs hl N 0 0 (by omega) (by omega) (by omega) (by omega) (by omega),hk]
 simp
structure PIR (p:Pt):Prop where
 slow:1<=p.yk.yp/\p.yk.yp<=16
 delay:0<=p.yk.yl/\p.yk.yl<=1000
 store:0<=p.yk.fT/\p.yk.fT<=1073741824
 now:0<=p.yQ
 last:0<=p.yE/\p.yE<=1000000000000
 sz:∀ x∈p.yn,1<=x.yo/\x.yo<=72
 len:p.yn.length<=100000
def fl(t:Int)(l:List Fr):List Fr:=l.filter fun x=>decide (x.yO>t)
def fy(p:Pt)(t size:Int):Int:=max (t+p.yk.yl) p.yE+size*p.yk.yp
def kj(p:Pt)(t size:Int):Int×Int×Pt:=
 if size<1\/size>72\/t<p.yQ\/t>1073741824 then(0,2,p)
 else if fk (fl t p.yn)+size>p.yk.fT then(0,4,⟨p.yk,t,p.yE,fl t p.yn⟩)
 else(fy p t size,0,⟨p.yk,t,fy p t size,fl t p.yn++[⟨size,fy p t size⟩]⟩)
theorem XO:∀ x∈fl t l,x∈l:=fun x hx=>(List.mem_filter.1 hx).1
theorem bw:(fl t l).length<=l.length:=List.length_filter_le _ _
theorem Yh{a b:Int}(ha:1<=a/\a<=72)(hb:1<=b/\b<=16):1<=a*b/\a*b<=1152:=by
 constructor
 ·exact Int.le_trans (by omega) (Int.mul_le_mul ha.1 hb.1 (by omega) (by omega))
 ·exact Int.le_trans (Int.mul_le_mul ha.2 hb.2 (by omega) (by omega)) (by omega)
theorem TJ{size:Int}(h:PIR p):mE p t size=some (kj p t size):=by
 unfold mE ua
 obtain⟨⟨h1,h2⟩,⟨h3,h4⟩,⟨h5,h6⟩,h7,⟨h8,h9⟩,zO,zP⟩:=h
 simp only[oB]
 rw[if_neg (by simp;omega)]
 unfold kj
 by_cases hc:size<1\/size>72\/t<p.yQ\/t>1073741824
 ·rw[if_pos hc,if_pos (by simp only[Bool.or_eq_true,decide_eq_true_eq];omega)]
 ·rw[if_neg hc,if_neg (by simp only[Bool.or_eq_true,decide_eq_true_eq];omega)]
  have hdel:vF p.yn (fun(y0:Fr)=>mI y0 t)=some (fl t p.yn):=by
   rw[TH (f:=fun(y0:Fr)=>mI y0 t) (p:=fun y=>decide (y.yO<=t)) (fun _=>rfl) (by omega)]
   congr 1
   unfold fl
   congr 1;funext x
   by_cases hx:x.yO<=t
   ·simp[hx]
   ·simp[hx];omega
  rw[hdel]
  simp only[oB]
  unfold rm ua
  simp only[oB]
  rw[if_neg (by simp;omega)]
  have hw:∀ x∈fl t p.yn,1<=x.yo/\x.yo<=72:=fun x hx=>zO x (XO x hx)
  have hwl:(fl t p.yn).length<=100000:=Nat.le_trans bw zP
  have DW:ur (⟨p.yk,t,p.yE,fl t p.yn⟩:Pt) (fun(y0:Fr)=>mi y0 (max t t))=some (fk (fl t p.yn)):=by
   rw[TI (f:=fun(y0:Fr)=>mi y0 (max t t)) (q:=fun y=>decide (y.yO>max t t)) (fun _=>rfl) hw (by simp only;omega)]
   congr 2
   refine List.filter_eq_self.2 fun x hx=>?_
   have:=(List.mem_filter.1 hx).2
   simpa using this
  rw[DW]
  simp only[oB]
  have hb:=U7 hw
  have hm:=Yh (a:=size) (b:=p.yk.yp) (by omega) ⟨h1,h2⟩
  rw[xS (x:=fk _+size) (by omega)]
  by_cases hf:fk (fl t p.yn)+size>p.yk.fT
  ·rw[Nw hf,if_pos hf]
  ·rw[Nx hf,if_neg hf,xS (x:=t+_) (by omega),xS (x:=size*_) (by omega),xS (x:=max _ _+_) (by omega)]
   rw[xM (by simp;omega)]
   rfl
theorem T9{size:Int}(h:PIR p)(ht:0<=t)(hl:p.yn.length<=99999)(hb:p.yE<=900000000000):PIR (kj p t size).2.2:=by
 unfold kj
 split
 ·exact h
 ·rename_i hc
  split
  ·exact⟨h.slow,h.delay,h.store,ht,h.last,fun x hx=>h.sz x (XO x hx),Nat.le_trans bw h.len⟩
  ·have hm:=Yh (a:=size) (b:=p.yk.yp) (by omega) h.slow
   have hd:=h.delay
   have zV:=h.last
   refine⟨h.slow,h.delay,h.store,ht,by simp only[fy];omega,fun x hx=>?_,?_⟩
   ·rcases List.mem_append.1 hx with hx | hx
    ·exact h.sz x (XO x hx)
    ·simp at hx;subst hx;simp only;omega
   ·have:=bw (t:=t) (l:=p.yn)
    simp only[List.length_append,List.length_singleton];omega
end
section
abbrev qZ:=yK
abbrev Cm:=yh
instance (c:Cf) (net n:Int):Decidable (rn c net n):=inferInstanceAs (Decidable (_/\_))
instance (c:Cf) (net link a b:Int):Decidable (JN c net link a b):=inferInstanceAs (Decidable (_/\_))
def FG(c:Cf)(l:List qZ)(q:Int):Prop:=0<=(nth l q).yc/\(nth l q).yc<=536870912/\0<=(nth l q).yt/\(nth l q).yt<c.yb.length/\1<=(nth l q).yo/\(nth l q).yo<=72/\(0<q->(nth l (q-1)).yc<=(nth l q).yc)
instance (c:Cf) (l:List qZ) (q:Int):Decidable (FG c l q):=inferInstanceAs (Decidable (_/\_))
theorem Mc{c:Cf}{l:List qZ}{v:Int}(h0:0<=v)(hv:v<=9223372036854775807):(((((((decide (((nth l v).yc)<0))||(decide (((nth l v).yc)>536870912)))||(decide (((nth l v).yt)<0)))||(decide (((nth l v).yt)>=((c.yb.length:Nat):Int))))||(decide (((nth l v).yo)<1)))||(decide (((nth l v).yo)>72)))||((decide (v>0))&&(decide (((nth l (i64 (v-1))).yc)>((nth l v).yc)))))=true↔¬FG c l v:=by
 rw[xS (by omega)]
 unfold FG
 simp only[Bool.or_eq_true,Bool.and_eq_true,decide_eq_true_eq]
 constructor
 ·rintro h ⟨a,b,d,e,f,g,i⟩
  rcases h with(((((h | h) | h) | h) | h) | h) | ⟨h,h'⟩
  ·omega
  ·omega
  ·omega
  ·omega
  ·omega
  ·omega
  ·have:=i h;omega
 ·intro h
  refine Classical.byContradiction fun hn=>h ?_
  simp only[not_or,not_and] at hn
  obtain⟨⟨⟨⟨⟨⟨a1,a2⟩,a3⟩,a4⟩,a5⟩,a6⟩,a7⟩:=hn
  exact⟨by omega,by omega,by omega,by omega,by omega,by omega,fun h=>by have:=a7 h;omega⟩
theorem Xd{c:Cf}{l:List qZ}{k:Option Bool}(hs:(l.length:Int)<=9223372036854775807):∀(n:Nat) (v:Int),0<=v->v<=l.length->l.length<n+v->
  (∃ q:Int,v<=q/\q<l.length/\¬FG c l q)/\kw l c k n v=some false\/(∀ q:Int,v<=q->q<l.length->FG c l q)/\kw l c k n v=k
 | 0,v,h0,h1,h2=>by omega
 | n+1,v,h0,h1,h2=>by
  rw[kw]
  by_cases h:v<l.length
  ·rw[Nw h,xM ⟨h0,h⟩,xM (fun _ h'=>by have h':=of_decide_eq_true h';rw[xS (by omega)];omega)]
   rw[xS (x:=v+1) (by omega)]
   by_cases hg:FG c l v
   ·rw[if_neg (fun hc=>(Mc h0 (by omega)).1 hc hg)]
    rcases Xd hs n (v+1) (by omega) (by omega) (by omega) (k:=k) with⟨⟨q,q1,q2,q3⟩,h3⟩ | ⟨h3,h4⟩
    ·exact .inl ⟨⟨q,by omega,q2,q3⟩,h3⟩
    ·refine .inr ⟨fun q q1 q2=>?_,h4⟩
     by_cases e:q=v
     ·rw[e];exact hg
     ·exact h3 q (by omega) q2
   ·rw[if_pos ((Mc h0 (by omega)).2 hg)]
    exact .inl ⟨⟨v,Int.le_refl _,h,hg⟩,rfl⟩
  ·rw[Nx h]
   exact .inr ⟨fun q h1 h2=>by omega,rfl⟩
structure FRm (c:Cf) (m:Nat) (l:List qZ):Prop where
 each:∀ q:Int,0<=q->q<l.length->FG c l q
 len:l.length<=m
theorem Md{c:Cf}{l:List qZ}(hs:(l.length:Int)<=9223372036854775807):∃ r,tc c l=some r/\(r=true↔FRm c 4000 l):=by
 unfold tc
 have hF:=wp
 generalize xT=N at hF ⊢
 refine mF (P:=fun o=>∃ r,o=some r/\(r=true↔FRm c 4000 l)) fun k hk=>?_
 rcases Xd (c:=c) (l:=l) (k:=k) hs N 0 (by omega) (by omega) (by omega) with⟨⟨q,q1,q2,q3⟩,h3⟩ | ⟨h3,h4⟩
 ·refine⟨false,h3,?_⟩
  simp only[Bool.false_eq_true,false_iff]
  exact fun h=>q3 (h.each q q1 q2)
 ·refine⟨_,h4.trans hk,?_⟩
  rw[decide_eq_true_eq]
  exact⟨fun h=>⟨h3,by omega⟩,fun h=>by have:=h.len;omega⟩
end
section
abbrev Ex:=z6
variable {net:Int}{h:Hop}{rs:List (List Hop)}{sent:List qZ}{mp:List (Ex×Pt)}{ag:List Ev}{come lost:List Cm}
def wi(h:Hop):Ex:=⟨h.ya,h.fQ⟩
def qH(c:Cf)(k:Ex):Pt:=⟨⟨(nth c.fK k.fQ).yp,if nM c<=k.ya then(sw c k.ya).yl else 0,if nM c<=k.ya then(sw c k.ya).fT else 1073741824⟩,0,0,[]⟩
def uL(c:Cf)(mp:List (Ex×Pt)):Ex->Pt:=fun k=>xK mp k (qH c k)
def Q8(c:Cf)(net:Int)(h:Hop):Prop:=JN c net h.fQ h.ya h.fX
theorem Q8.node{c:Cf}(hs:Small c)(hv:Q8 c net h):rn c net h.ya/\h.ya<nN c/\rn c net h.fX/\h.fX<nN c:=by
 obtain⟨_,_,_,_,_,_,h7,h8,h9⟩:=hv
 have ha:=Qq hs h.fQ
 have hb:=Qr hs h.fQ
 rcases h9 with⟨e1,e2⟩ | ⟨e1,e2⟩
 ·rw[e1] at h7 ha;rw[e2] at h8 hb;exact⟨h7,ha.2.2,h8,hb.2.2⟩
 ·rw[e1] at h7 ha;rw[e2] at h8 hb;exact⟨h8,hb.2.2,h7,ha.2.2⟩
theorem U8{c:Cf}(hs:Small c)(hv:Q8 c net h):PIR (qH c (wi h)):=by
 obtain⟨⟨n1,n2⟩,n3,_⟩:=hv.node hs
 have zh:1<=(nth c.fK h.fQ).yp/\(nth c.fK h.fQ).yp<=16:=⟨hv.2.2.2.1,hv.2.2.2.2.1⟩
 refine⟨zh,?_,?_,Int.le_refl _,⟨Int.le_refl _,by show(0:Int)<=_;omega⟩,fun x hx=>by simp[qH] at hx,by simp[qH]⟩
 ·show 0<=(if nM c<=h.ya then(sw c h.ya).yl else 0)/\(if nM c<=h.ya then(sw c h.ya).yl else 0)<=1000
  split
  ·rcases n2 with n2 | ⟨_,a,b,_⟩
   ·omega
   ·exact⟨a,b⟩
  ·omega
 ·show 0<=(if nM c<=h.ya then(sw c h.ya).fT else 1073741824)/\(if nM c<=h.ya then(sw c h.ya).fT else 1073741824)<=1073741824
  split
  ·rcases n2 with n2 | ⟨_,_,_,a,b⟩
   ·omega
   ·exact⟨a,b⟩
  ·omega
def d9(c:Cf)(mp:List (Ex×Pt))(k:Ex):List (Ex×Pt):=if wS mp k=true then mp else w7 mp k (qH c k)
theorem Q9{κ γ:Type}[DecidableEq κ]{k:κ}{u:γ}:∀(l:List (κ×γ)),wS (w7 l k u) k=true
 | []=>by simp[w7,wS]
 | p::l=>by
  by_cases hk:k=p.1
  ·subst hk;simp[w7,wS]
  ·simp only[w7,hk,if_false,wS];exact Q9 l
theorem K2{κ γ:Type}[DecidableEq κ]{k:κ}{d d':γ}:∀ {l:List (κ×γ)},wS l k=true->xK l k d=xK l k d'
 | [],h=>by simp[wS] at h
 | p::l,h=>by
  unfold wS at h
  unfold xK
  by_cases hk:k=p.1
  ·simp[hk]
  ·simp only[hk,if_false] at h ⊢;exact K2 h
theorem Qa{κ γ:Type}[DecidableEq κ]{k:κ}{d:γ}:∀ {l:List (κ×γ)},wS l k=false->xK l k d=d
 | [],h=>rfl
 | p::l,h=>by
  unfold wS at h
  unfold xK
  by_cases hk:k=p.1
  ·simp[hk] at h
  ·simp only[hk,if_false] at h ⊢;exact Qa h
theorem Gd(c:Cf)(mp:List (Ex×Pt))(k:Ex):wS (d9 c mp k) k=true:=by
 unfold d9
 split
 ·assumption
 ·exact Q9 _
theorem K4(c:Cf)(mp:List (Ex×Pt))(k:Ex):uL c (d9 c mp k)=uL c mp:=by
 unfold d9
 split
 ·rfl
 ·rename_i h
  funext k'
  unfold uL
  by_cases e:k'=k
  ·subst e;rw[lU,Qa (by simpa using h)]
  ·rw[cB e]
theorem Ta(c:Cf)(mp:List (Ex×Pt))(k:Ex):xK (d9 c mp k) k default=uL c mp k:=by
 rw[<- K4 c mp k];exact K2 (Gd c mp k)
def upd(pf:Ex->Pt)(k:Ex)(p:Pt):Ex->Pt:=fun k'=>if k'=k then p else pf k'
theorem Ge(c:Cf)(mp:List (Ex×Pt))(k:Ex)(p:Pt):uL c (w7 mp k p)=upd (uL c mp) k p:=by
 funext k'
 unfold uL upd
 by_cases e:k'=k
 ·subst e;rw[lU,if_pos rfl]
 ·rw[cB e,if_neg e]
theorem TK{c:Cf}(hs:Small c)(hv:Q8 c net h):
  te c rs sent mp ag come lost h=some (d9 c mp (wi h)):=by
 unfold te
 have hl:=hv.1
 have CY:=hv.2.1
 obtain⟨⟨n1,n2⟩,n3,_⟩:=hv.node hs
 have hm:=hs.m
 have hsw:=hs.s
 have hN:nN c=nM c+c.fS.length:=rfl
 have hMM:nM c=c.fM.length:=rfl
 refine wx (P:=fun o=>o=some (d9 c mp (wi h))) fun k hk=>?_
 show(if (!wS mp (wi h))=true then _ else _)=_
 unfold d9
 cases hh:wS mp (wi h) with
 | true=>simp only[Bool.not_true,Bool.false_eq_true,if_false,if_true];rw[hk]
 | false=>
  simp only[Bool.not_false,if_true,Bool.false_eq_true,if_false]
  refine tg (P:=fun o=>o=some (w7 mp (wi h) (qH c (wi h)))) fun kk wT=>?_
  have xE:∀ d st,0<=d->d<=1000->0<=st->st<=1073741824->kk d st=k (w7 mp (wi h) (⟨⟨(nth c.fK h.fQ).yp,d,st⟩,0,0,[]⟩:Pt)):=by
   intro d st d1 d2 s1 s2
   rw[wT,xM ⟨hl,CY⟩]
   unfold co
   have:=hv.2.2.2.1
   have:=hv.2.2.2.2.1
   rw[if_neg (by simp only[Bool.or_eq_true,decide_eq_true_eq];omega)]
   rfl
  rw[xS (by omega)]
  by_cases hg:nM c<=h.ya
  ·rw[if_pos (by rw[decide_eq_true_eq];omega),xM ⟨by omega,by omega⟩]
   have hf:rn c net h.ya:=⟨n1,n2⟩
   rcases n2 with n2 | ⟨_,a,b,d,e⟩
   ·omega
   ·have:=xE _ _ a b d e
    unfold sw nM at this
    rw[this,hk]
    have Db:qH c (wi h)=⟨⟨(nth c.fK h.fQ).yp,(sw c h.ya).yl,(sw c h.ya).fT⟩,0,0,[]⟩:=by
     unfold qH wi;simp only[if_pos hg]
    rw[Db];rfl
  ·rw[if_neg (by rw[decide_eq_true_eq];omega),xE 0 1073741824 (by omega) (by omega) (by omega) (by omega),hk]
   have Db:qH c (wi h)=⟨⟨(nth c.fK h.fQ).yp,0,1073741824⟩,0,0,[]⟩:=by
    unfold qH wi;simp only[if_neg hg]
   rw[Db]
def vo(rs:List (List Hop))(sent:List qZ)(node t i s:Int):List Ev:=((nth rs (nth sent s).yt).filter fun h=>decide (h.ya=node)).map fun h=>⟨t,i,(nth sent s).yt,s,h⟩
theorem nQ{rs:List (List Hop)}{sent:List qZ}{s node t i:Int}{k:List Ev->Option (List Ev)}(hr:(nth rs (nth sent s).yt).length<=1000):
  ∀(n:Nat) (v:Int) (ag:List Ev),0<=v->v<=(nth rs (nth sent s).yt).length->(nth rs (nth sent s).yt).length<n+v->HP ag ag.length->(ag.length:Int)+1000<100000000+v->
  ∃ ti,kf rs sent s node t i k n v ag=k ti/\ti.Perm ((((nth rs (nth sent s).yt).drop v.toNat).filter fun h=>decide (h.ya=node)).map (fun h=>(⟨t,i,(nth sent s).yt,s,h⟩:Ev))++ag)/\HP ti ti.length
 | 0,v,ag,h0,h1,h2,h3,h4=>by omega
 | n+1,v,ag,h0,h1,h2,h3,h4=>by
  rw[kf]
  by_cases h:v<(nth rs (nth sent s).yt).length
  ·rw[Nw h]
   have hd:=kg (l:=nth rs (nth sent s).yt) (v:=v) h0 h
   have e1:(v+1).toNat=v.toNat+1:=by omega
   rw[hd,List.filter_cons]
   refine wx (P:=fun o=>∃ ti,o=k ti/\ti.Perm _/\HP ti ti.length) fun kk wT=>?_
   rw[xM ⟨h0,h⟩]
   by_cases hn:(nth (nth rs (nth sent s).yt) v).ya=node
   ·rw[Nw hn]
    obtain⟨a1,p1,p2,p3⟩:=T6 (l:=ag) (x:=(⟨t,i,(nth sent s).yt,s,nth (nth rs (nth sent s).yt) v⟩:Ev)) (by omega) h3
    show ∃ ti,((g5 ag (⟨t,i,(nth sent s).yt,s,nth (nth rs (nth sent s).yt) v⟩:Ev)).bind fun x=>kk x)=k ti/\_
    rw[p1]
    simp only[oB]
    rw[wT,xS (x:=v+1) (by omega)]
    have kM:=p2.length_eq
    obtain⟨a2,q1,q2,q3⟩:=nQ (t:=t) (i:=i) (node:=node) (k:=k) hr n (v+1) a1 (by omega) (by omega) (by omega) p3 (by rw[kM,List.length_cons];omega)
    refine⟨a2,q1,q2.trans ?_,q3⟩
    rw[e1,Nw hn,List.map_cons,List.cons_append]
    exact(List.Perm.append_left _ p2).trans List.perm_middle
   ·rw[Nx hn,wT,xS (x:=v+1) (by omega)]
    obtain⟨a2,q1,q2,q3⟩:=nQ (t:=t) (i:=i) (node:=node) (k:=k) hr n (v+1) ag (by omega) (by omega) (by omega) h3 (by omega)
    refine⟨a2,q1,?_,q3⟩
    rw[Nx hn,<- e1];exact q2
  ·rw[Nx h,List.drop_eq_nil_of_le (by omega)]
   exact⟨ag,rfl,.refl _,h3⟩
theorem K5{c:Cf}{node t i s:Int}(hs:0<=s/\s<sent.length)(hv:0<=(nth sent s).yt/\(nth sent s).yt<rs.length)(hr:(nth rs (nth sent s).yt).length<=1000)(h3:HP ag ag.length)(h4:(ag.length:Int)<90000000):
  ∃ ti,f9 c rs sent mp ag come lost node t i s=some ti/\ti.Perm (vo rs sent node t i s++ag)/\HP ti ti.length:=by
 unfold f9
 rw[xM hs,xM hv]
 have hF:=wp
 generalize xT=N at hF ⊢
 refine wx (P:=fun o=>∃ ti,o=some ti/\ti.Perm (vo rs sent node t i s++ag)/\HP ti ti.length) fun k hk=>?_
 obtain⟨a2,q1,q2,q3⟩:=nQ (s:=s) (t:=t) (i:=i) (node:=node) (k:=k) hr N 0 ag (by omega) (by omega) (by omega) h3 (by omega)
 exact⟨a2,q1.trans (hk _),by simpa [vo] using q2,q3⟩
structure St where
 ag:List Ev
 come:List Cm
 lost:List Cm
 pf:Ex->Pt
def mO(c:Cf)(rs:List (List Hop))(sent:List qZ)(e:Ev)(ir:List Ev)(S:St):St:=
 if (kj (S.pf (wi e.yg)) e.yc (nth sent e.yd).yo).2.1≠0 then
  ⟨ir,S.come,S.lost++[⟨e.yd,e.yg.ya,e.yc⟩],upd S.pf (wi e.yg) (kj (S.pf (wi e.yg)) e.yc (nth sent e.yd).yo).2.2⟩
 else⟨vo rs sent e.yg.fX (kj (S.pf (wi e.yg)) e.yc (nth sent e.yd).yo).1 e.yg.fQ e.yd++ir,
  if e.yg.fX<nM c then S.come++[⟨e.yd,e.yg.fX,(kj (S.pf (wi e.yg)) e.yc (nth sent e.yd).yo).1⟩] else S.come,S.lost,upd S.pf (wi e.yg) (kj (S.pf (wi e.yg)) e.yc (nth sent e.yd).yo).2.2⟩
structure EC (c:Cf) (net:Int) (rs:List (List Hop)) (sent:List qZ) (e:Ev):Prop where
 hop:Q8 c net e.yg
 s:0<=e.yd/\e.yd<sent.length
 v:0<=(nth sent e.yd).yt/\(nth sent e.yd).yt<rs.length
theorem Tb{c:Cf}(hs:Small c)(h0:ag≠[])(hp:HP ag ag.length)(ha:(ag.length:Int)<80000000)(hc:come.length<80000000)(hl:lost.length<80000000)(he:∀ e∈ag,EC c net rs sent e)(hP:∀ e∈ag,PIR (uL c mp (wi e.yg)))(hr:∀ r∈rs,r.length<=1000):
  ∃ e ir ti zj,(e::ir).Perm ag/\(∀ x∈ag,tZ e x)/\uj c rs sent mp ag come lost=some (ti,(mO c rs sent e ir ⟨ag,come,lost,uL c mp⟩).come,(mO c rs sent e ir ⟨ag,come,lost,uL c mp⟩).lost,zj)/\
   ti.Perm (mO c rs sent e ir ⟨ag,come,lost,uL c mp⟩).ag/\HP ti ti.length/\uL c zj=(mO c rs sent e ir ⟨ag,come,lost,uL c mp⟩).pf:=by
 obtain⟨e,ir,p1,p2,p3,p4⟩:=TG h0 (by omega) hp
 have zG:e∈ag:=p2.mem_iff.1 (by simp)
 have hE:=he e zG
 have kM:=p2.length_eq
 rw[List.length_cons] at kM
 refine⟨e,ir,?_⟩
 unfold uj
 rw[p1]
 simp only[oB]
 rw[TK hs hE.hop]
 simp only[oB]
 rw[xM hE.s,xM (show wS (d9 c mp (wi e.yg)) (⟨e.yg.ya,e.yg.fQ⟩:Ex)=true from Gd _ _ _)]
 have hput:mE (xK (d9 c mp (wi e.yg)) (wi e.yg) default) e.yc (nth sent e.yd).yo=some (kj (uL c mp (wi e.yg)) e.yc (nth sent e.yd).yo):=by
  rw[Ta];exact TJ (hP e zG)
 show ∃ ti zj,_/\_/\((mE (xK (d9 c mp (wi e.yg)) (wi e.yg) default) e.yc (nth sent e.yd).yo).bind _)=_/\_
 rw[hput]
 simp only[oB]
 unfold mO
 simp only
 generalize kj (uL c mp (wi e.yg)) e.yc (nth sent e.yd).yo=R
 by_cases hR:R.2.1≠0
 ·rw[Nw hR,if_pos hR,xM (by simp;omega)]
  refine⟨ir,_,p2,p4,rfl,.refl _,p3,?_⟩
  show uL c (w7 (d9 c mp (wi e.yg)) (wi e.yg) R.2.2)=_
  rw[Ge,K4]
 ·rw[Nx hR,if_neg hR]
  have hrr:(nth rs (nth sent e.yd).yt).length<=1000:=hr _ (ws hE.v.1 hE.v.2)
  obtain⟨a1,q1,q2,q3⟩:=K5 (c:=c) (mp:=w7 (d9 c mp (wi e.yg)) (wi e.yg) R.2.2) (ag:=ir) (come:=if e.yg.fX<nM c then come++[⟨e.yd,e.yg.fX,R.1⟩] else come) (lost:=lost) (node:=e.yg.fX) (t:=R.1) (i:=e.yg.fQ) hE.s hE.v hrr p3 (by omega)
  refine⟨a1,w7 (d9 c mp (wi e.yg)) (wi e.yg) R.2.2,p2,p4,?_,q2,q3,?_⟩
  ·refine wx (P:=fun o=>o=_) fun k hk=>?_
   unfold nM at q1 ⊢
   by_cases hn:e.yg.fX<c.fM.length
   ·rw[Nw hn,xM (by simp;omega),hk]
    rw[if_pos hn] at q1 ⊢
    rw[show(⟨e.yg.ya,e.yg.fQ⟩:Ex)=wi e.yg from rfl,q1];rfl
   ·rw[Nx hn,hk]
    rw[if_neg hn] at q1 ⊢
    rw[show(⟨e.yg.ya,e.yg.fQ⟩:Ex)=wi e.yg from rfl,q1];rfl
  ·rw[Ge,K4]
end
end Go.Proofs.YthjnhebofpebpaaGreat
namespace Go.Proofs.YthjnhebofpebpaaGreat
open Go Go.RowKit Sep
theorem RK.mono{r:List Hop}{v w k:Int}(h:RK r v k)(hv:v<=w):RK r w k:=by
 rcases h with h | ⟨q,a,b,e⟩
 ·exact .inl h
 ·exact .inr ⟨q,a,by omega,e⟩
theorem VR.hv{c:Cf}{net:Int}{r:List Hop}(h:VR c net r):∀ x∈r,Q8 c net x:=by
 intro x hx
 obtain⟨i,hi,rfl⟩:=List.getElem_of_mem hx
 have:=(h.cond (i:Int) (by omega) (by omega)).2.2.2
 rw[j6 ⟨by omega,by omega⟩] at this
 unfold Q8
 simpa using this
theorem VR.next_ne{c:Cf}{net:Int}{r:List Hop}(h:VR c net r):∀ x∈r,x.fX≠(nth r 0).ya:=by
 intro x hx
 obtain⟨i,hi,rfl⟩:=List.getElem_of_mem hx
 have:=(h.cond (i:Int) (by omega) (by omega)).2.1
 rw[j6 (i:=(i:Int)) ⟨by omega,by omega⟩] at this
 simp only[Int.toNat_natCast] at this
 exact fun e=>this (.inl e)
theorem VR.idx{c:Cf}{net:Int}{r:List Hop}(h:VR c net r){i j:Nat}(hi:i<r.length)(hj:j<r.length)(hij:i<j):r[i].fX≠r[j].fX/\¬(r[i].fQ=r[j].fQ):=by
 have cj:=h.cond (j:Int) (by omega) (by omega)
 have ci:=h.cond (i:Int) (by omega) (by omega)
 have ei:nth r (i:Int)=r[i]:=by rw[j6 ⟨by omega,by omega⟩];simp
 have ej:nth r (j:Int)=r[j]:=by rw[j6 ⟨by omega,by omega⟩];simp
 have hn:r[i].fX≠r[j].fX:=by
  intro e
  have:=cj.2.1
  rw[ej] at this
  exact this (.inr ⟨i,by omega,by omega,by rw[ei];exact e⟩)
 refine⟨hn,fun e=>?_⟩
 have ji:=ci.2.2.2
 have jj:=cj.2.2.2
 rw[ei] at ji;rw[ej] at jj
 obtain⟨_,_,_,_,_,_,_,_,a⟩:=ji
 obtain⟨_,_,_,_,_,_,_,_,b⟩:=jj
 rw[<- e] at b
 have hx:r[j].fX=r[i].ya:=by
  rcases a with⟨a1,a2⟩ | ⟨a1,a2⟩ <;> rcases b with⟨b1,b2⟩ | ⟨b1,b2⟩
  ·exact absurd (a2.symm.trans b2) hn
  ·exact b1.symm.trans a1
  ·exact b2.symm.trans a2
  ·exact absurd (a1.symm.trans b1) hn
 have:=cj.2.1
 rw[ej,hx] at this
 have hk:=ci.1
 rw[ei] at hk
 exact this (hk.mono (by omega))
theorem VR.next_inj{c:Cf}{net:Int}{r:List Hop}(h:VR c net r){x y:Hop}(hx:x∈r)(hy:y∈r)(e:x.fX=y.fX):x=y:=by
 obtain⟨i,hi,rfl⟩:=List.getElem_of_mem hx
 obtain⟨j,hj,rfl⟩:=List.getElem_of_mem hy
 rcases Nat.lt_trichotomy i j with hij | hij | hij
 ·exact absurd e (h.idx hi hj hij).1
 ·subst hij;rfl
 ·exact absurd e.symm (h.idx hj hi hij).1
theorem VR.link_inj{c:Cf}{net:Int}{r:List Hop}(h:VR c net r){x y:Hop}(hx:x∈r)(hy:y∈r)(e:x.fQ=y.fQ):x=y:=by
 obtain⟨i,hi,rfl⟩:=List.getElem_of_mem hx
 obtain⟨j,hj,rfl⟩:=List.getElem_of_mem hy
 rcases Nat.lt_trichotomy i j with hij | hij | hij
 ·exact absurd e (h.idx hi hj hij).2
 ·subst hij;rfl
 ·exact absurd e.symm (h.idx hj hi hij).2
theorem VR.nodup{c:Cf}{net:Int}{r:List Hop}(h:VR c net r):r.Nodup:=by
 rw[List.nodup_iff_pairwise_ne,List.pairwise_iff_getElem]
 intro i j hi hj hij e
 exact(h.idx hi hj hij).1 (by rw[e])
structure Sg (c:Cf) (net:Int) (rs:List (List Hop)) (sent:List qZ):Prop where
 small:Small c
 va:VA c net rs
 fr:FRm c 40 sent
abbrev Id:=Int×Hop
def qL(e:Ev):Id:=(e.yd,e.yg)
def route(rs:List (List Hop))(sent:List qZ)(s:Int):List Hop:=nth rs (nth sent s).yt
section
variable {c:Cf} {net:Int} {rs:List (List Hop)} {sent:List qZ}
theorem Sg.vl(g:Sg c net rs sent){s:Int}(h:0<=s/\s<sent.length):0<=(nth sent s).yt/\(nth sent s).yt<rs.length:=by
 have:=g.fr.each s h.1 h.2
 have hl:=g.va.len
 exact⟨this.2.2.1,by have:=this.2.2.2.1;omega⟩
theorem Sg.route(g:Sg c net rs sent){s:Int}(h:0<=s/\s<sent.length):VR c net (route rs sent s):=g.va.each _ (ws (g.vl h).1 (g.vl h).2)
def bA(rs:List (List Hop))(sent:List qZ):List Id:=(List.range sent.length).flatMap fun i:Nat=>(route rs sent (i:Int)).map fun h=>((i:Int),h)
theorem WM{x:Id}:x∈bA rs sent↔(0<=x.1/\x.1<sent.length)/\x.2∈route rs sent x.1:=by
 unfold bA
 simp only[List.mem_flatMap,List.mem_range,List.mem_map]
 constructor
 ·rintro⟨i,hi,h,hh,rfl⟩;exact⟨⟨by simp,by simp;omega⟩,hh⟩
 ·rintro⟨⟨h1,h2⟩,h3⟩
  exact⟨x.1.toNat,by omega,x.2,by rw[Int.toNat_of_nonneg h1];exact h3,by rw[Int.toNat_of_nonneg h1]⟩
theorem dz{α β:Type}{f:α->List β}{m:Nat}:∀(l:List α),(∀ x∈l,(f x).length<=m)->(l.flatMap f).length<=l.length*m
 | [],_=>by simp
 | x::l,h=>by
  rw[List.flatMap_cons,List.length_append,List.length_cons,Nat.succ_mul]
  have h1:=h x (by simp)
  have h2:=dz l (fun y hy=>h y (List.mem_cons_of_mem _ hy))
  omega
theorem Sg.ids_len(g:Sg c net rs sent):(bA rs sent).length<=1280:=by
 have h1:=dz (f:=fun i:Nat=>(Go.Proofs.YthjnhebofpebpaaGreat.route rs sent (i:Int)).map fun h=>((i:Int),h)) (m:=32) (List.range sent.length) (fun i hi=>by
  rw[List.length_map]
  exact(g.route ⟨by omega,by have:=List.mem_range.1 hi;omega⟩).len)
 rw[List.length_range] at h1
 have:=g.fr.len
 unfold bA;omega
theorem Yi{α:Type}[DecidableEq α]:∀(l m:List α),l.Nodup->(∀ x∈l,x∈m)->l.length<=m.length
 | [],m,_,_=>by simp
 | x::l,m,h,hm=>by
  have hx:=hm x (by simp)
  rw[List.nodup_cons] at h
  have:=Yi l (m.erase x) h.2 (fun y hy=>(List.mem_erase_of_ne (fun e=>h.1 (by rw[<- e];exact hy))).2 (hm y (List.mem_cons_of_mem _ hy)))
  rw[List.length_erase_of_mem hx] at this
  have hp:0<m.length:=List.length_pos_of_mem hx
  rw[List.length_cons];omega
def UK(rs:List (List Hop))(sent:List qZ)(k:Ex):Prop:=∃ s h,(0<=s/\s<(sent.length:Int))/\h∈route rs sent s/\wi h=k
structure EOK (rs:List (List Hop)) (sent:List qZ) (e:Ev):Prop where
 s:0<=e.yd/\e.yd<sent.length
 v:e.yP=(nth sent e.yd).yt
 h:e.yg∈route rs sent e.yd
 t:0<=e.yc
structure IV (c:Cf) (net:Int) (rs:List (List Hop)) (sent:List qZ) (S:St) (D:List Id):Prop where
 ev:∀ e∈S.ag,EOK rs sent e
 tm:∀ e∈S.ag,e.yc<=536870912+2200*D.length
 nd:(D++S.ag.map qL).Nodup
 mem:∀ d∈D,d∈bA rs sent
 par:∀ x∈D++S.ag.map qL,x.2.ya=(nth (route rs sent x.1) 0).ya\/∃ y∈route rs sent x.1,y.fX=x.2.ya/\(x.1,y)∈D
 pi:∀ k,UK rs sent k->PIR (S.pf k)/\(S.pf k).yE<=536870912+2200*D.length/\(S.pf k).yn.length<=D.length
 now:∀ k,UK rs sent k->∀ e∈S.ag,(S.pf k).yQ<=e.yc
 num:∀ k,(S.pf k).yk=(qH c k).yk
 cl:S.come.length+S.lost.length<=D.length
structure EQ (S T:St):Prop where
 ag:S.ag.Perm T.ag
 come:S.come.Perm T.come
 lost:S.lost.Perm T.lost
 pf:S.pf=T.pf
theorem EQ.refl(S:St):EQ S S:=⟨.refl _,.refl _,.refl _,rfl⟩
theorem EQ.symm{S T:St}(h:EQ S T):EQ T S:=⟨h.ag.symm,h.come.symm,h.lost.symm,h.pf.symm⟩
theorem EQ.trans{S T U:St}(h:EQ S T)(k:EQ T U):EQ S U:=⟨h.ag.trans k.ag,h.come.trans k.come,h.lost.trans k.lost,h.pf.trans k.pf⟩
theorem IV.eq{S T:St}{D:List Id}(h:IV c net rs sent S D)(k:EQ S T):IV c net rs sent T D:=by
 have hm:∀ e,e∈T.ag->e∈S.ag:=fun e he=>k.ag.mem_iff.2 he
 have hp:(D++S.ag.map qL).Perm (D++T.ag.map qL):=(k.ag.map qL).append_left D
 refine⟨fun e he=>h.ev e (hm e he),fun e he=>h.tm e (hm e he),(hp.nodup_iff).1 h.nd,h.mem,fun x hx=>h.par x (hp.mem_iff.2 hx),?_,?_,?_,?_⟩
 ·intro q hq;rw[<- k.pf];exact h.pi q hq
 ·intro q hq e he;rw[<- k.pf];exact h.now q hq e (hm e he)
 ·intro q;rw[<- k.pf];exact h.num q
 ·rw[<- k.come.length_eq,<- k.lost.length_eq];exact h.cl
theorem IV.len(g:Sg c net rs sent){S:St}{D:List Id}(h:IV c net rs sent S D):D.length+S.ag.length<=1280:=by
 have:=Yi _ (bA rs sent) h.nd (fun x hx=>by
  rcases List.mem_append.1 hx with hx | hx
  ·exact h.mem x hx
  ·obtain⟨e,he,rfl⟩:=List.mem_map.1 hx
   have:=h.ev e he
   exact WM.2 ⟨this.s,this.h⟩)
 rw[List.length_append,List.length_map] at this
 exact Nat.le_trans this g.ids_len
theorem Qb{p:Pt}{t size:Int}(h:PIR p)(h1:1<=size/\size<=72)(ht:p.yQ<=t/\t<=1073741824):
  (kj p t size).2.2.yQ=t/\(kj p t size).2.2.yk=p.yk/\(kj p t size).2.2.yn.length<=p.yn.length+1/\
  ((kj p t size).2.1=4/\(kj p t size).2.2.yE=p.yE\/(kj p t size).2.1=0/\(kj p t size).1=fy p t size/\(kj p t size).2.2.yE=fy p t size)/\t+1<=fy p t size/\fy p t size<=max t p.yE+2152:=by
 have hm:=Yh (a:=size) (b:=p.yk.yp) h1 h.slow
 have hd:=h.delay
 have hw:=bw (t:=t) (l:=p.yn)
 have he:t+1<=fy p t size/\fy p t size<=max t p.yE+2152:=by unfold fy;omega
 unfold kj
 rw[if_neg (by omega)]
 split
 ·exact⟨rfl,rfl,by simp only;omega,.inl ⟨rfl,rfl⟩,he⟩
 ·exact⟨rfl,rfl,by simp only[List.length_append,List.length_singleton];omega,.inr ⟨rfl,rfl,rfl⟩,he⟩
theorem bB{e:Ev}{node t i s:Int}:e∈vo rs sent node t i s↔∃ h∈route rs sent s,h.ya=node/\e=⟨t,i,(nth sent s).yt,s,h⟩:=by
 unfold vo route
 simp only[List.mem_map,List.mem_filter,decide_eq_true_eq]
 constructor
 ·rintro⟨h,⟨h1,h2⟩,rfl⟩;exact⟨h,h1,h2,rfl⟩
 ·rintro⟨h,h1,h2,rfl⟩;exact⟨h,⟨h1,h2⟩,rfl⟩
theorem nR{a b:Ev}(h:tZ a b):a.yc<=b.yc:=by unfold tZ d7 at h;omega
theorem Vp(g:Sg c net rs sent){S:St}{D:List Id}(h:IV c net rs sent S D){e:Ev}{ir:List Ev}(hp:(e::ir).Perm S.ag)(xJ:∀ x∈S.ag,tZ e x):IV c net rs sent (mO c rs sent e ir S) (qL e::D):=by
 have kM:=h.len g
 have zG:e∈S.ag:=hp.mem_iff.1 (by simp)
 have CE:=hp.length_eq
 rw[List.length_cons] at CE
 have he:=h.ev e zG
 have ht:=h.tm e zG
 have zt:∀ x∈ir,x∈S.ag:=fun x hx=>hp.mem_iff.1 (List.mem_cons_of_mem _ hx)
 have hk:UK rs sent (wi e.yg):=⟨e.yd,e.yg,he.s,he.h,rfl⟩
 obtain⟨p1,p2,p3⟩:=h.pi _ hk
 have lp:=(g.fr.each e.yd he.s.1 he.s.2).2.2.2.2
 have hc:=Qb p1 (size:=(nth sent e.yd).yo) ⟨lp.1,lp.2.1⟩ (t:=e.yc) ⟨h.now _ hk e zG,by omega⟩
 have hPI:=T9 (size:=(nth sent e.yd).yo) p1 he.t (by omega) (by omega)
 have hnd':(D++(qL e::ir.map qL)).Nodup:=by
  have:(D++S.ag.map qL).Perm (D++(qL e::ir.map qL)):=(by simpa using hp.symm.map qL:(S.ag.map qL).Perm (qL e::ir.map qL)).append_left D
  exact this.nodup_iff.1 h.nd
 have E6:((qL e::D)++ir.map qL).Nodup:=(List.perm_middle (l₁:=D) (a:=qL e) (l₂:=ir.map qL)).nodup_iff.1 hnd'
 have Dc:∀ d∈qL e::D,d∈bA rs sent:=fun d hd=>by
  rcases List.mem_cons.1 hd with rfl | hd
  ·exact WM.2 ⟨he.s,he.h⟩
  ·exact h.mem d hd
 have BQ:∀ x∈(qL e::D)++ir.map qL,x.2.ya=(nth (route rs sent x.1) 0).ya\/∃ y∈route rs sent x.1,y.fX=x.2.ya/\(x.1,y)∈qL e::D:=by
  intro x hx
  have hx':x∈D++S.ag.map qL:=by
   rcases List.mem_append.1 hx with hx | hx
   ·rcases List.mem_cons.1 hx with rfl | hx
    ·exact List.mem_append_right _ (List.mem_map.2 ⟨e,zG,rfl⟩)
    ·exact List.mem_append_left _ hx
   ·obtain⟨y,hy,rfl⟩:=List.mem_map.1 hx
    exact List.mem_append_right _ (List.mem_map.2 ⟨y,zt y hy,rfl⟩)
  rcases h.par x hx' with a | ⟨y,a,b,d⟩
  ·exact .inl a
  ·exact .inr ⟨y,a,b,List.mem_cons_of_mem _ d⟩
 have E7:∀ k,UK rs sent k->PIR (upd S.pf (wi e.yg) (kj (S.pf (wi e.yg)) e.yc (nth sent e.yd).yo).2.2 k)/\(upd S.pf (wi e.yg) (kj (S.pf (wi e.yg)) e.yc (nth sent e.yd).yo).2.2 k).yE<=536870912+2200*(qL e::D).length/\(upd S.pf (wi e.yg) (kj (S.pf (wi e.yg)) e.yc (nth sent e.yd).yo).2.2 k).yn.length<=(qL e::D).length:=by
  intro k wj
  unfold upd
  rw[List.length_cons]
  split
  ·refine⟨hPI,?_,?_⟩
   ·rcases hc.2.2.2.1 with⟨_,a⟩ | ⟨_,_,a⟩ <;> rw[a] <;> omega
   ·omega
  ·obtain⟨a,b,d⟩:=h.pi k wj
   exact⟨a,by omega,by omega⟩
 have BR:∀ k,UK rs sent k->∀ x:Ev,e.yc<=x.yc->(x∈ir\/e.yc<x.yc)->(upd S.pf (wi e.yg) (kj (S.pf (wi e.yg)) e.yc (nth sent e.yd).yo).2.2 k).yQ<=x.yc:=by
  intro k wj x hx _
  unfold upd
  split
  ·rw[hc.1];exact hx
  ·exact Int.le_trans (h.now k wj e zG) hx
 have Dd:∀ k,(upd S.pf (wi e.yg) (kj (S.pf (wi e.yg)) e.yc (nth sent e.yd).yo).2.2 k).yk=(qH c k).yk:=by
  intro k
  unfold upd
  split
  ·rename_i wj;rw[hc.2.1,wj];exact h.num _
  ·exact h.num k
 have xQ:=h.cl
 unfold mO
 by_cases hR:(kj (S.pf (wi e.yg)) e.yc (nth sent e.yd).yo).2.1≠0
 ·rw[if_pos hR]
  refine⟨fun x hx=>h.ev x (zt x hx),fun x hx=>?_,E6,Dc,BQ,E7,fun k wj x hx=>BR k wj x (nR (xJ x (zt x hx))) (.inl hx),Dd,?_⟩
  ·have:=h.tm x (zt x hx);rw[List.length_cons];omega
  ·simp only[List.length_append,List.length_cons,List.length_nil];omega
 ·rw[if_neg hR]
  have DS:(kj (S.pf (wi e.yg)) e.yc (nth sent e.yd).yo).1=fy (S.pf (wi e.yg)) e.yc (nth sent e.yd).yo:=by
   rcases hc.2.2.2.1 with⟨a,_⟩ | ⟨_,a,_⟩
   ·exact absurd (by rw[a];decide) hR
   ·exact a
  have Ax:=g.route he.s
  have E8:∀ x,x∈vo rs sent e.yg.fX (kj (S.pf (wi e.yg)) e.yc (nth sent e.yd).yo).1 e.yg.fQ e.yd->∃ y∈route rs sent e.yd,y.ya=e.yg.fX/\x=⟨fy (S.pf (wi e.yg)) e.yc (nth sent e.yd).yo,e.yg.fQ,(nth sent e.yd).yt,e.yd,y⟩:=by
   intro x hx
   rw[DS] at hx
   exact bB.1 hx
  refine⟨fun x hx=>?_,fun x hx=>?_,?_,Dc,fun x hx=>?_,E7,fun k wj x hx=>?_,Dd,?_⟩
  ·rcases List.mem_append.1 hx with hx | hx
   ·obtain⟨y,y1,y2,rfl⟩:=E8 x hx
    exact⟨he.s,rfl,y1,by have:=he.t;show 0<=fy _ _ _;omega⟩
   ·exact h.ev x (zt x hx)
  ·rw[List.length_cons]
   rcases List.mem_append.1 hx with hx | hx
   ·obtain⟨y,y1,y2,rfl⟩:=E8 x hx
    show fy _ _ _<=_;omega
   ·have:=h.tm x (zt x hx);omega
  ·-- no frame comes to a hop twice
   rw[List.map_append]
   have hnn:((vo rs sent e.yg.fX (kj (S.pf (wi e.yg)) e.yc (nth sent e.yd).yo).1 e.yg.fQ e.yd).map qL).Nodup:=by
    unfold vo
    rw[List.map_map]
    refine List.Pairwise.map _ (R:=fun a b=>a≠b) (fun a b zT Cb=>zT (by simpa [qL] using Cb)) ?_
    exact(Ax.nodup).filter _
   have hdis:∀ x∈(vo rs sent e.yg.fX (kj (S.pf (wi e.yg)) e.yc (nth sent e.yd).yo).1 e.yg.fQ e.yd).map qL,x∉(qL e::D)++ir.map qL:=by
    intro x hx hx2
    obtain⟨z,hz,rfl⟩:=List.mem_map.1 hx
    obtain⟨y,y1,y2,rfl⟩:=E8 z hz
    have hx3:((e.yd,y):Id)∈D++S.ag.map qL:=by
     rcases List.mem_append.1 hx2 with hq | hq
     ·rcases List.mem_cons.1 hq with hq | hq
      ·exact List.mem_append_right _ (List.mem_map.2 ⟨e,zG,hq.symm⟩)
      ·exact List.mem_append_left _ hq
     ·obtain⟨w,hw,AF⟩:=List.mem_map.1 hq
      exact List.mem_append_right _ (List.mem_map.2 ⟨w,zt w hw,AF⟩)
    rcases h.par _ hx3 with a | ⟨q,q1,q2,q3⟩
    ·exact Ax.next_ne _ he.h (y2▸a)
    ·have:q=e.yg:=Ax.next_inj q1 he.h (q2.trans y2)
     subst this
     have:=(List.nodup_append.1 h.nd).2.2 _ q3 _ (List.mem_map.2 ⟨e,zG,rfl⟩)
     exact this rfl
   have tS:((qL e::D)++((vo rs sent e.yg.fX (kj (S.pf (wi e.yg)) e.yc (nth sent e.yd).yo).1 e.yg.fQ e.yd).map qL++ir.map qL)).Perm ((vo rs sent e.yg.fX (kj (S.pf (wi e.yg)) e.yc (nth sent e.yd).yo).1 e.yg.fQ e.yd).map qL++((qL e::D)++ir.map qL)):=by
    rw[<- List.append_assoc,<- List.append_assoc]
    exact List.perm_append_comm.append_right _
   exact tS.nodup_iff.2 (List.nodup_append.2 ⟨hnn,E6,fun a ha b hb zT=>hdis a ha (zT▸hb)⟩)
  ·rcases List.mem_append.1 hx with hx | hx
   ·exact BQ x (List.mem_append_left _ hx)
   ·rw[List.map_append] at hx
    rcases List.mem_append.1 hx with hx | hx
    ·obtain⟨z,hz,rfl⟩:=List.mem_map.1 hx
     obtain⟨y,y1,y2,rfl⟩:=E8 z hz
     exact .inr ⟨e.yg,he.h,y2.symm,List.mem_cons_self ..⟩
    ·exact BQ x (List.mem_append_right _ hx)
  ·rcases List.mem_append.1 hx with hx | hx
   ·obtain⟨y,y1,y2,rfl⟩:=E8 x hx
    exact BR k wj _ (by show _<=fy _ _ _;omega) (.inr (by show _<fy _ _ _;omega))
   ·exact BR k wj x (nR (xJ x (zt x hx))) (.inl hx)
  ·simp only[List.length_cons]
   split
   ·simp only[List.length_append,List.length_cons,List.length_nil];omega
   ·omega
end
end Go.Proofs.YthjnhebofpebpaaGreat
namespace Go.Proofs.YthjnhebofpebpaaGreat
open Go Go.RowKit Sep
section
variable {c:Cf} {net:Int} {rs:List (List Hop)} {sent:List qZ}
inductive Runs (c:Cf) (rs:List (List Hop)) (sent:List qZ):Nat->St->St->Prop
 | done {S T:St} (h:S.ag=[]) (k:EQ S T):Runs c rs sent 0 S T
 | step {S S' T:St} {n:Nat} (e:Ev) (ir:List Ev) (hp:(e::ir).Perm S.ag) (xJ:∀ x∈S.ag,tZ e x) (zS:EQ (mO c rs sent e ir S) S') (hr:Runs c rs sent n S' T):Runs c rs sent (n+1) S T
theorem K6{S T:St}(h:EQ S T){e:Ev}{r1 r2:List Ev}(hr:r1.Perm r2):EQ (mO c rs sent e r1 S) (mO c rs sent e r2 T):=by
 unfold mO
 rw[h.pf]
 split
 ·exact⟨hr,h.come,h.lost.append_right _,rfl⟩
 ·refine⟨hr.append_left _,?_,h.lost,rfl⟩
  show(if _ then _ else _:List Cm).Perm (if _ then _ else _)
  split
  ·exact h.come.append_right _
  ·exact h.come
theorem Runs.trans_eq:∀ {n:Nat} {S T F:St},Runs c rs sent n S F->EQ S T->∃ F',Runs c rs sent n T F'/\EQ F F'
 | _,S,T,F,.done h k,q=>⟨T,.done (by have:=q.ag;rw[h] at this;exact List.perm_nil.1 this.symm) (EQ.refl _),k.symm.trans q⟩
 | _,S,T,F,.step e ir hp xJ zS hr,q=>by
  refine⟨F,.step e ir (hp.trans q.ag) (fun x hx=>xJ x (q.ag.mem_iff.2 hx)) ((K6 q (.refl ir)).symm.trans zS) hr,EQ.refl _⟩
theorem Runs.fin{n:Nat}{S F:St}(h:Runs c rs sent n S F):F.ag=[]:=by
 induction h with
 | done h k=>have:=k.ag;rw[h] at this;exact List.perm_nil.1 this.symm
 | step _ _ _ _ _ _ ih=>exact ih
theorem KH{a b:Ev}(h:a.yc<b.yc):tZ a b:=by unfold tZ d7;omega
end
end Go.Proofs.YthjnhebofpebpaaGreat
namespace Go.Proofs.YthjnhebofpebpaaGreat
open Go Go.RowKit Sep
section
variable {c:Cf} {net:Int} {rs:List (List Hop)} {sent:List qZ}
def oq(rs:List (List Hop))(sent:List qZ)(i:Nat):List Ev:=vo rs sent (nth (route rs sent (i:Int)) 0).ya (nth sent (i:Int)).yc (-1) (i:Int)
def K7(rs:List (List Hop))(sent:List qZ):List Ev:=(List.range sent.length).flatMap (oq rs sent)
def init(c:Cf)(rs:List (List Hop))(sent:List qZ):St:=⟨K7 rs sent,[],[],qH c⟩
theorem da{i:Nat}{e:Ev}:e∈oq rs sent i↔∃ h∈route rs sent (i:Int),h.ya=(nth (route rs sent (i:Int)) 0).ya/\e=⟨(nth sent (i:Int)).yc,-1,(nth sent (i:Int)).yt,(i:Int),h⟩:=bB
theorem Vq{e:Ev}:e∈K7 rs sent↔∃ i:Nat,i<sent.length/\∃ h∈route rs sent (i:Int),h.ya=(nth (route rs sent (i:Int)) 0).ya/\e=⟨(nth sent (i:Int)).yc,-1,(nth sent (i:Int)).yt,(i:Int),h⟩:=by
 unfold K7
 rw[List.mem_flatMap]
 constructor
 ·rintro⟨i,hi,he⟩;exact⟨i,List.mem_range.1 hi,da.1 he⟩
 ·rintro⟨i,hi,he⟩;exact⟨i,List.mem_range.2 hi,da.2 he⟩
theorem bC(g:Sg c net rs sent){k:Ex}(h:UK rs sent k):PIR (qH c k):=by
 obtain⟨s,x,hs,hx,rfl⟩:=h
 exact U8 g.small ((g.route hs).hv x hx)
theorem Vr(g:Sg c net rs sent):IV c net rs sent (init c rs sent) []:=by
 have hm:∀ e∈(init c rs sent).ag,∃ i:Nat,i<sent.length/\∃ h∈route rs sent (i:Int),h.ya=(nth (route rs sent (i:Int)) 0).ya/\e=⟨(nth sent (i:Int)).yc,-1,(nth sent (i:Int)).yt,(i:Int),h⟩:=fun e he=>Vq.1 he
 have Ey:∀ e∈(init c rs sent).ag,EOK rs sent e/\e.yc<=536870912:=by
  intro e he
  obtain⟨i,hi,h,h1,h2,rfl⟩:=hm e he
  have hf:=g.fr.each (i:Int) (by omega) (by omega)
  exact⟨⟨⟨by simp,by simp;omega⟩,rfl,h1,hf.1⟩,hf.2.1⟩
 refine⟨fun e he=>(Ey e he).1,fun e he=>by simpa using (Ey e he).2,?_,by simp,?_,?_,?_,fun k=>rfl,by simp[init]⟩
 ·rw[List.nil_append]
  show((K7 rs sent).map qL).Nodup
  unfold K7
  rw[List.map_flatMap,List.nodup_iff_pairwise_ne,List.pairwise_flatMap]
  constructor
  ·intro i hi
   unfold oq vo
   rw[List.map_map]
   refine List.Pairwise.map _ (R:=fun a b=>a≠b) (fun a b zT Cb=>zT (by simpa [qL] using Cb)) ?_
   exact((g.route ⟨by omega,by have:=List.mem_range.1 hi;omega⟩).nodup).filter _
  ·refine(List.nodup_iff_pairwise_ne.1 List.nodup_range).imp_of_mem ?_
   intro i j hi hj hij x hx y hy hxy
   obtain⟨a,ha,rfl⟩:=List.mem_map.1 hx
   obtain⟨b,hb,rfl⟩:=List.mem_map.1 hy
   obtain⟨h,_,_,rfl⟩:=da.1 ha
   obtain⟨h',_,_,rfl⟩:=da.1 hb
   have:=congrArg Prod.fst hxy
   simp[qL] at this
   omega
 ·intro x hx
  rw[List.nil_append] at hx
  obtain⟨e,he,rfl⟩:=List.mem_map.1 hx
  obtain⟨i,hi,h,h1,h2,rfl⟩:=hm e he
  exact .inl h2
 ·intro k hk
  have:=bC g hk
  exact⟨this,by simp[init,qH],by simp[init,qH]⟩
 ·intro k hk e he
  exact(Ey e he).1.t
theorem K8(v:Nat)(h:v<sent.length):((List.range (v+1)).flatMap (oq rs sent))=(List.range v).flatMap (oq rs sent)++oq rs sent v:=by
 rw[List.range_succ,List.flatMap_append];simp
theorem Vs(g:Sg c net rs sent){k:List Ev->Option (List Cm×List Cm×Int)}:∀(n:Nat) (v:Int) (ag:List Ev),0<=v->v<=sent.length->sent.length<n+v->HP ag ag.length->ag.Perm ((List.range v.toNat).flatMap (oq rs sent))->
  ∃ ti,fw sent rs c k n v ag=k ti/\ti.Perm (K7 rs sent)/\HP ti ti.length
 | 0,v,ag,h0,h1,h2,h3,h4=>by omega
 | n+1,v,ag,h0,h1,h2,h3,h4=>by
  rw[fw]
  by_cases h:v<sent.length
  ·rw[Nw h]
   have hl40:=g.fr.len
   refine wx (P:=fun o=>∃ ti,o=k ti/\ti.Perm (K7 rs sent)/\HP ti ti.length) fun kk wT=>?_
   have zQ:=g.vl ⟨h0,h⟩
   have Ax:=g.route ⟨h0,h⟩
   have e1:(v+1).toNat=v.toNat+1:=by omega
   have e2:((v.toNat:Nat):Int)=v:=Int.toNat_of_nonneg h0
   rw[xM ⟨h0,h⟩,xM zQ]
   have kM:ag.length<=1280:=by
    rw[h4.length_eq]
    have h5:=dz (f:=oq rs sent) (m:=32) (List.range v.toNat) (fun i hi=>by
     have BA:=List.mem_range.1 hi
     unfold oq vo
     rw[List.length_map]
     exact Nat.le_trans (List.length_filter_le _ _) (g.route ⟨by omega,by omega⟩).len)
    rw[List.length_range] at h5
    have:=g.fr.len
    omega
   by_cases hr:(((nth rs ((nth sent v).yt)).length:Nat):Int)>0
   ·rw[Nw hr,xM ⟨by omega,hr⟩]
    obtain⟨a1,q1,q2,q3⟩:=K5 (c:=c) (mp:=([]:List (Ex×Pt))) (come:=[]) (lost:=[]) (node:=(nth (nth rs ((nth sent v).yt)) 0).ya) (t:=(nth sent v).yc) (i := -1) ⟨h0,h⟩ zQ (Nat.le_trans Ax.len (by omega)) h3 (by omega)
    rw[q1]
    simp only[oB]
    rw[wT,xS (x:=v+1) (by omega)]
    refine Vs g n (v+1) a1 (by omega) (by omega) (by omega) q3 ?_
    rw[e1,K8 v.toNat (by omega)]
    refine q2.trans (List.perm_append_comm.trans (h4.append_right _).symm.symm |>.trans ?_)
    unfold oq route
    rw[e2]
   ·rw[Nx hr,wT,xS (x:=v+1) (by omega)]
    refine Vs g n (v+1) ag (by omega) (by omega) (by omega) h3 ?_
    rw[e1,K8 v.toNat (by omega)]
    have hz:oq rs sent v.toNat=[]:=by
     unfold oq vo
     rw[e2,List.eq_nil_of_length_eq_zero (l:=nth rs (nth sent v).yt) (by omega)];rfl
    rw[hz,List.append_nil];exact h4
  ·rw[Nx h]
   refine⟨ag,rfl,?_,h3⟩
   have:v.toNat=sent.length:=by omega
   rw[this] at h4;exact h4
theorem EOK.ec(g:Sg c net rs sent){e:Ev}(h:EOK rs sent e):EC c net rs sent e:=⟨(g.route h.s).hv _ h.h,h.s,g.vl h.s⟩
theorem Gf(g:Sg c net rs sent){k:List Ev->List Cm->List Cm->List (Ex×Pt)->Option (List Cm×List Cm×Int)}:∀(N:Nat) (D:List Id) (ag:List Ev) (come lost:List Cm) (mp:List (Ex×Pt)),
  IV c net rs sent ⟨ag,come,lost,uL c mp⟩ D->HP ag ag.length->1281<=N+D.length->
  ∃ n F zj,Runs c rs sent n ⟨ag,come,lost,uL c mp⟩ F/\fx c rs sent k N ag come lost mp=k [] F.come F.lost zj
 | 0,D,ag,come,lost,mp,h,hp,hN=>by have:=h.len g;omega
 | N+1,D,ag,come,lost,mp,h,hp,hN=>by
  have kM:=h.len g
  have xQ:=h.cl
  rw[fx]
  by_cases h0:ag=[]
  ·subst h0
   rw[if_neg (by simp)]
   exact⟨0,⟨[],come,lost,uL c mp⟩,mp,.done rfl (EQ.refl _),rfl⟩
  ·have zN:(((ag.length:Nat):Int)>0):=by cases ag with | nil=>exact absurd rfl h0 | cons=>simp
   rw[Nw zN]
   simp only at kM xQ
   obtain⟨e,ir,ti,zj,p1,p2,p3,p4,p5,p6⟩:=Tb (c:=c) (net:=net) (rs:=rs) (sent:=sent) (mp:=mp) (come:=come) (lost:=lost) g.small h0 hp (by omega) (by omega) (by omega) (fun e he=>(h.ev e he).ec g)
    (fun e he=>(h.pi _ ⟨e.yd,e.yg,(h.ev e he).s,(h.ev e he).h,rfl⟩).1) (fun r hr=>Nat.le_trans (g.va.each r hr).len (by omega))
   rw[p3]
   simp only[oB]
   have zS:EQ (mO c rs sent e ir ⟨ag,come,lost,uL c mp⟩) ⟨ti,(mO c rs sent e ir ⟨ag,come,lost,uL c mp⟩).come,(mO c rs sent e ir ⟨ag,come,lost,uL c mp⟩).lost,uL c zj⟩:=⟨p4.symm,.refl _,.refl _,p6.symm⟩
   have De:=(Vp g h p1 p2).eq zS
   obtain⟨n,F,mp'',r1,r2⟩:=Gf g (k:=k) N (qL e::D) ti _ _ zj De p5 (by rw[List.length_cons];omega)
   exact⟨n+1,F,mp'',.step e ir p1 p2 zS r1,r2⟩
theorem Tc(g:Sg c net rs sent):∃ n F,Runs c rs sent n (init c rs sent) F/\mN c net rs sent=(qV F.come).bind fun a=>(qV F.lost).bind fun b=>some (a,b,0):=by
 unfold mN
 obtain⟨b,hb1,CI⟩:=nr g.small (net:=net) (rs:=rs) (fun r hr=>by have:=(g.va.each r hr).len;omega) (by have:=g.va.most;omega)
 rw[hb1,CI.2 g.va]
 simp only[oB,Bool.not_true,Bool.false_eq_true,if_false]
 obtain⟨r,AP,BF⟩:=Md (c:=c) (l:=sent) (by have:=g.fr.len;omega)
 rw[AP,BF.2 ⟨g.fr.each,by have:=g.fr.len;omega⟩]
 simp only[oB,Bool.not_true,Bool.false_eq_true,if_false]
 have hF:=wp
 generalize xT=N at hF ⊢
 have zh:=g.fr.len
 refine wx (P:=fun o=>∃ n F,Runs c rs sent n (init c rs sent) F/\o=(qV F.come).bind fun a=>(qV F.lost).bind fun b=>some (a,b,0)) fun k hk=>?_
 obtain⟨ag,q1,q2,q3⟩:=Vs g (k:=k) N 0 [] (by omega) (by omega) (by omega) (fun x hx hn=>by simp at hn;omega) (by simp)
 rw[q1,hk]
 refine FF (P:=fun o=>∃ n F,Runs c rs sent n (init c rs sent) F/\o=(qV F.come).bind fun a=>(qV F.lost).bind fun b=>some (a,b,0)) fun k4 E9=>?_
 have zS:EQ (init c rs sent) ⟨ag,[],[],uL c []⟩:=⟨q2.symm,.refl _,.refl _,rfl⟩
 obtain⟨n,F,zj,r1,r2⟩:=Gf g (k:=k4) N [] ag [] [] [] ((Vr g).eq zS) q3 (by simp;omega)
 obtain⟨F',r3,r4⟩:=r1.trans_eq zS.symm
 rw[r2,E9]
 exact⟨n,F,by
  cases r1 with
  | done h0 k0=>exact .done (by have:=zS.ag;rw[h0] at this;exact List.perm_nil.1 this) (zS.trans k0)
  | step e ir hp xJ he hr=>exact .step e ir (hp.trans zS.ag.symm) (fun x hx=>xJ x (zS.ag.mem_iff.1 hx)) ((K6 zS (.refl ir)).trans he) hr,rfl⟩
end
end Go.Proofs.YthjnhebofpebpaaGreat

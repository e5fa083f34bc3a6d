/- A part of this claim's proof. No conditions. -/
import Derived.Test.YthjnhebofpebpaaGreatP35a
set_option linter.all false
namespace Go.Proofs.YthjnhebofpebpaaGreat
open Go Go.RowKit Sep
section
variable {r:List Hop}{net n v:Int}{D:Pl->Int}
def qu(c:Cf)(n:Int):Int:=if n-nM c>=0 then(nth c.fS (n-nM c)).yl else 0
def wl(c:Cf)(k:Int):Int:=(nth c.fK k).yp
theorem Wh{c:Cf}(hS:Small c)(h0:0<=n)(h1:n<nN c):mb c n=some (qu c n):=by
 have:=hS.m;have:=hS.s
 unfold mb qu nM
 unfold nN at h1
 rw[xQ (by omega)]
 by_cases h:n-(c.fM.length:Int)>=0
 ·rw[if_pos (by simpa using h),if_pos h,xL ⟨by omega,by omega⟩]
 ·rw[Nw h,if_neg h]
structure HV (c:Cf) (h:Hop):Prop where
 l0:0<=h.fQ
 l1:h.fQ<c.fK.length
 n0:0<=h.ya
 n1:h.ya<nN c
 x0:0<=h.fX
 x1:h.fX<nN c
 s0:1<=wl c h.fQ
 s1:wl c h.fQ<=16
 d0:0<=qu c h.ya
 d1:qu c h.ya<=1000
theorem rt.lat{c:Cf}(h:rt c net n):0<=n/\0<=qu c n/\qu c n<=1000:=by
 obtain⟨h0,h⟩:=h
 refine⟨h0,?_⟩
 unfold qu
 rcases h with h | ⟨_,h1,h2,_⟩
 ·rw[if_neg (by omega)];omega
 ·split
  ·exact⟨h1,h2⟩
  ·omega
theorem VR.hop{c:Cf}(hS:Small c)(h:VR c net r){x:Hop}(hx:x∈r):HV c x:=by
 obtain⟨i,i0,i1,rfl⟩:=tB hx
 obtain⟨_,_,_,l0,l1,_,s0,s1,_,fa,fb,ho⟩:=h.cond i i0 i1
 obtain⟨_,_,a2⟩:=Q7 hS (nth r i).fQ
 obtain⟨_,_,b2⟩:=Q8 hS (nth r i).fQ
 have ha:=fa.lat;have hb:=fb.lat
 rcases ho with⟨e1,e2⟩ | ⟨e1,e2⟩
 ·rw[e1] at ha a2;rw[e2] at hb b2
  exact⟨l0,l1,ha.1,a2,hb.1,b2,s0,s1,ha.2.1,ha.2.2⟩
 ·rw[e1] at ha a2;rw[e2] at hb b2
  exact⟨l0,l1,hb.1,b2,ha.1,a2,s0,s1,hb.2.1,hb.2.2⟩
def iE(c:Cf)(D:Pl->Int)(mp:List (Int×Int))(h:Hop):List (Int×Int):=w6 mp h.fX (xI mp h.ya 0+D (pk h)-qu c h.ya-wl c h.fQ)
def jn(c:Cf)(D:Pl->Int)(r:List Hop)(n:Int):Int:=xI (r.foldl (iE c D) []) n 0
theorem np{c:Cf}{D:Pl->Int}{n:Int}:∀(l:List Hop) (mp:List (Int×Int)),(∀ g∈l,g.fX≠n)->xI (l.foldl (iE c D) mp) n 0=xI mp n 0
 | [],mp,_=>rfl
 | g::l,mp,h=>by
  rw[List.foldl_cons,np l _ fun x hx=>h x (List.mem_cons_of_mem _ hx)]
  unfold iE;rw[gW,if_neg fun e=>h g (by simp) e.symm]
theorem VR.rk{c:Cf}(h:VR c net r)(v0:0<=v)(v1:v<r.length){q:Int}(q0:v<=q)(q1:q<r.length):(nth r q).fX≠(nth r v).ya:=by
 intro e
 obtain⟨h1,_⟩:=h.cond v v0 v1
 obtain⟨_,h2,_⟩:=h.cond q (by omega) q1
 rcases h1 with h1 | ⟨k,k0,k1,h1⟩
 ·exact h2 (.inl (e.trans h1))
 ·exact h2 (.inr ⟨k,k0,by omega,h1.trans e.symm⟩)
theorem aV{g:Hop}(v0:0<=v)(hg:g∈r.drop v.toNat):∃ q:Int,v<=q/\q<r.length/\nth r q=g:=by
 obtain⟨i,hi,rfl⟩:=List.getElem_of_mem hg
 rw[List.length_drop] at hi
 refine⟨v.toNat+i,by omega,by omega,?_⟩
 rw[kh ⟨by omega,by omega⟩,List.getElem_drop]
 simp only[show((v.toNat:Int)+i).toNat=v.toNat+i by omega]
theorem Js{c:Cf}(v:Nat):jn c D r n=xI ((r.drop v).foldl (iE c D) ((r.take v).foldl (iE c D) [])) n 0:=by
 unfold jn;rw[<- List.foldl_append,List.take_append_drop]
theorem VR.jn_take{c:Cf}(h:VR c net r)(D:Pl->Int)(v0:0<=v)(v1:v<r.length):xI ((r.take v.toNat).foldl (iE c D) []) (nth r v).ya 0=jn c D r (nth r v).ya:=by
 rw[Js v.toNat]
 symm
 refine np _ _ fun g hg=>?_
 obtain⟨q,q0,q1,rfl⟩:=aV v0 hg
 exact h.rk v0 v1 q0 q1
theorem VR.jn_next{c:Cf}(h:VR c net r)(D:Pl->Int){g:Hop}(hg:g∈r):jn c D r g.fX=jn c D r g.ya+D (pk g)-qu c g.ya-wl c g.fQ:=by
 obtain⟨v,v0,v1,rfl⟩:=tB hg
 rw[<- h.jn_take D v0 v1]
 rw[Js v.toNat,kd v0 v1,List.foldl_cons,np]
 ·unfold iE;rw[gW,if_pos rfl]
 ·intro x hx e
  obtain⟨q,q0,q1,rfl⟩:=aV (v:=v+1) (by omega) (by rw[show(v+1).toNat=v.toNat+1 by omega];exact hx)
  obtain⟨_,h2,_⟩:=h.cond q (by omega) q1
  exact h2 (.inr ⟨v,v0,by omega,e.symm⟩)
theorem UF{c:Cf}(h:∀ g∈r,g.fX≠n):jn c D r n=0:=by
 unfold jn;rw[np _ _ h];rfl
theorem VR.start{c:Cf}(h:VR c net r):∀ g∈r,g.fX≠(nth r 0).ya:=by
 intro g hg e
 obtain⟨v,v0,v1,rfl⟩:=tB hg
 exact(h.cond v v0 v1).2.1 (.inl e)
theorem VR.jn_start{c:Cf}(h:VR c net r)(D:Pl->Int):jn c D r (nth r 0).ya=0:=UF h.start
theorem VR.ind{c:Cf}(h:VR c net r){P:Hop->Prop}(hb:∀ x∈r,x.ya=(nth r 0).ya->P x)(hs:∀ g∈r,∀ x∈r,g.fX=x.ya->P g->P x):∀ x∈r,P x:=by
 have key:∀ n:Nat,∀ v:Int,0<=v->v<r.length->v.toNat<n->P (nth r v):=by
  intro n
  induction n with
  | zero=>intro v _ _ h;omega
  | succ n ih=>
   intro v v0 v1 hv
   rcases(h.cond v v0 v1).1 with e | ⟨q,q0,q1,e⟩
   ·exact hb _ (wp v0 v1) e
   ·exact hs _ (wp q0 (by omega)) _ (wp v0 v1) e (ih q q0 (by omega) (by omega))
 intro x hx
 obtain⟨v,v0,v1,rfl⟩:=tB hx
 exact key (v.toNat+1) v v0 v1 (by omega)
theorem VR.from{c:Cf}(h:VR c net r){x:Hop}(hx:x∈r):x.ya=(nth r 0).ya\/∃ g∈r,g.fX=x.ya:=by
 obtain⟨v,v0,v1,rfl⟩:=tB hx
 rcases(h.cond v v0 v1).1 with e | ⟨q,q0,q1,e⟩
 ·exact .inl e
 ·exact .inr ⟨_,wp q0 (by omega),e⟩
theorem VD{c:Cf}{D:Pl->Int}(hS:Small c){M:Int}(hM:0<=M):∀(l:List Hop) (mp:List (Int×Int)) (B:Int),(∀ h∈l,HV c h /\ -M<=D (pk h)/\D (pk h)<=M)->(∀ n,-B<=xI mp n 0/\xI mp n 0<=B)->∀ n,-(B+l.length*(M+1016))<=xI (l.foldl (iE c D) mp) n 0/\xI (l.foldl (iE c D) mp) n 0<=B+l.length*(M+1016)
 | [],mp,B,_,h,n=>by have:=h n;simpa using this
 | g::l,mp,B,hh,h,n=>by
  have hg:=hh g (by simp)
  have:=VD hS hM l (iE c D mp g) (B+(M+1016)) (fun x hx=>hh x (List.mem_cons_of_mem _ hx)) (fun n=>by
   unfold iE;rw[gW]
   have h1:=h n;have h2:=h g.ya
   have a:=hg.1.s0;have b:=hg.1.s1;have d:=hg.1.d0;have e:=hg.1.d1
   split <;> omega) n
  rw[List.foldl_cons,List.length_cons]
  have e:((l.length+1:Nat):Int)*(M+1016)=l.length*(M+1016)+(M+1016):=by push_cast;rw[Int.add_mul];omega
  omega
theorem Jt{c:Cf}(hS:Small c)(hv:VR c net r){M:Int}(hM:0<=M)(hD:∀ h∈r,-M<=D (pk h)/\D (pk h)<=M)(v:Nat)(n:Int) : -(32*(M+1016))<=xI ((r.take v).foldl (iE c D) []) n 0/\xI ((r.take v).foldl (iE c D) []) n 0<=32*(M+1016):=by
 have h:=VD (c:=c) (D:=D) hS hM (r.take v) [] 0 (fun h hh=>⟨hv.hop hS (List.mem_of_mem_take hh),hD h (List.mem_of_mem_take hh)⟩) (fun n=>by simp[xI]) n
 have hl:(r.take v).length<=32:=by have:=hv.len;rw[List.length_take];omega
 have:((r.take v).length:Int)*(M+1016)<=32*(M+1016):=Int.mul_le_mul_of_nonneg_right (by omega) (by omega)
 omega
theorem i3{a b d s M:Int}(h1 : -(32*(M+1016))<=a/\a<=32*(M+1016))(h2 : -M<=b/\b<=M)(h3:0<=d/\d<=1000)(h4:1<=s/\s<=16)(h5:M<=1099511627776):i64 (i64 (i64 (a+b)-d)-s)=a+b-d-s:=by
 rw[xQ (x:=a+b) (by omega),xQ (x:=a+b-d) (by omega),xQ (by omega)]
theorem aW{c:Cf}{net:Int}{r:List Hop}{de:DM}{k:List Int->Option (List Int)}(hS:Small c)(hv:VR c net r){M:Int}(hM:0<=M)(hM1:M<=1099511627776)(hD:∀ h∈r,-M<=xI de (pk h) 0/\xI de (pk h) 0<=M):∀(n:Nat) (v:Int),0<=v->v<=r.length->r.length<n+v->
  kz r c de k n ((r.take v.toNat).map fun h=>jn c (fun q=>xI de q 0) r h.ya) v ((r.take v.toNat).foldl (iE c fun q=>xI de q 0) [])=k (r.map fun h=>jn c (fun q=>xI de q 0) r h.ya)
 | 0,v,h0,h1,h2=>by omega
 | n+1,v,h0,h1,h2=>by
  have hr:=hv.len
  rw[kz]
  by_cases h:v<r.length
  ·have hx:=hv.hop hS (wp h0 h)
   have hb:=Jt (D:=fun q=>xI de q 0) hS hv hM hD v.toNat (nth r v).ya
   have hd:=hD _ (wp h0 h)
   have s0:=hx.s0;have s1:=hx.s1;have d0:=hx.d0;have d1:=hx.d1
   rw[Nv h,xL ⟨h0,h⟩,xL,Wh hS hx.n0 hx.n1]
   ·simp only[oB]
    rw[xL ⟨hx.l0,hx.l1⟩,xQ (x:=v+1) (by omega)]
    have e1:r.take (v+1).toNat=r.take v.toNat++[nth r v]:=by
     rw[show(v+1).toNat=v.toNat+1 by omega,List.take_succ_eq_append_getElem (by omega),kh ⟨h0,h⟩]
    have:=aW (k:=k) (de:=de) hS hv hM hM1 hD n (v+1) (by omega) (by omega) (by omega)
    rw[e1,List.map_append,List.foldl_append] at this
    rw[<- this]
    congr 1
    ·rw[hv.jn_take _ h0 h];rfl
    ·show w6 _ _ _=w6 _ _ _
     congr 1
     have e:(⟨(nth r v).ya,(nth r v).fQ⟩:z6)=pk (nth r v):=rfl
     unfold wl at s0 s1 ⊢
     rw[e]
     exact i3 hb hd ⟨d0,d1⟩ ⟨s0,s1⟩ hM1
   ·rw[List.length_append,List.length_map,List.length_take]
    simp only[List.length_cons,List.length_nil]
    omega
  ·rw[Nw h,List.take_of_length_le (by omega)]
theorem GC{c:Cf}{de:DM}(hS:Small c)(hv:VR c net r)(hD:∀ h∈r,-1099511627776<=xI de (pk h) 0/\xI de (pk h) 0<=1099511627776):
  mc c r de=some (r.map fun h=>jn c (fun q=>xI de q 0) r h.ya):=by
 unfold mc
 have hF:=wi
 generalize xR=N at hF ⊢
 refine wA (P:=fun o=>o=some (r.map fun h=>jn c (fun q=>xI de q 0) r h.ya)) fun k hk=>?_
 have hr:=hv.len
 have:=aW (k:=k) (M:=1099511627776) hS hv (by omega) (by omega) hD N 0 (by omega) (by omega) (by omega)
 simp only[Int.toNat_zero,List.take_zero,List.map_nil,List.foldl_nil] at this
 rw[this,hk]
theorem VR.jn_le{c c':Cf}(h:VR c net r)(h':VR c' net r)(hl:∀ g∈r,qu c g.ya=qu c' g.ya/\wl c g.fQ=wl c' g.fQ){D':Pl->Int}{S:Pl->Prop}(hS:∀ x∈r,S (pk x)->∀ g∈r,g.fX=x.ya->S (pk g)/\D (pk g)<=D' (pk g)):∀ x∈r,S (pk x)->jn c D r x.ya<=jn c' D' r x.ya:=by
 refine h.ind (P:=fun x=>S (pk x)->jn c D r x.ya<=jn c' D' r x.ya) (fun x hx e _=>?_) (fun g hg x hx e ih hs=>?_)
 ·rw[e,h.jn_start,h'.jn_start];omega
 ·obtain⟨h1,h2⟩:=hS x hx hs g hg e
  have:=ih h1
  rw[<- e,h.jn_next D hg,h'.jn_next D' hg,(hl g hg).1,(hl g hg).2]
  omega
theorem VR.jn_eq{c:Cf}(h:VR c net r){D':Pl->Int}{S:Pl->Prop}(hS:∀ x∈r,S (pk x)->∀ g∈r,g.fX=x.ya->S (pk g)/\D (pk g)=D' (pk g)):∀ x∈r,S (pk x)->jn c D r x.ya=jn c D' r x.ya:=by
 intro x hx hs
 have h1:=h.jn_le h (fun g _=>⟨rfl,rfl⟩) (D:=D) (D':=D') (S:=S) (fun x hx hs g hg e=>⟨(hS x hx hs g hg e).1,by rw[(hS x hx hs g hg e).2];omega⟩) x hx hs
 have h2:=h.jn_le h (fun g _=>⟨rfl,rfl⟩) (D:=D') (D':=D) (S:=S) (fun x hx hs g hg e=>⟨(hS x hx hs g hg e).1,by rw[(hS x hx hs g hg e).2];omega⟩) x hx hs
 omega
end
section
def gf:List Int->Int
 | []=>0
 | x::l=>x+gf l
theorem FF{l l':List Int}(h:l.Perm l'):gf l=gf l':=by
 induction h with
 | nil=>rfl
 | cons x _ ih=>simp only[gf,ih]
 | swap x y l=>simp only[gf];omega
 | trans _ _ a b=>exact a.trans b
theorem lU{α:Type}{f g:α->Int}:∀ {l:List α},(∀ x∈l,f x<=g x)->gf (l.map f)<=gf (l.map g)
 | [],_=>by simp[gf]
 | x::l,h=>by
  have:=lU (l:=l) fun y hy=>h y (List.mem_cons_of_mem _ hy)
  have:=h x (by simp)
  simp only[List.map_cons,gf];omega
theorem YM{α:Type}{f:α->Int}{p:α->Bool}:∀ {l:List α},(∀ x∈l,p x=false->f x=0)->gf ((l.filter p).map f)=gf (l.map f)
 | [],_=>rfl
 | x::l,h=>by
  have ih:=YM (f:=f) (p:=p) (l:=l) fun y hy=>h y (List.mem_cons_of_mem _ hy)
  rw[List.filter_cons]
  split
  ·simp only[List.map_cons,gf,ih]
  ·rename_i hp
   simp only[List.map_cons,gf,ih,h x (by simp) (by simpa using hp)];omega
theorem dh{α:Type}{f:α->Int}{l:List α}(h:∀ x∈l,0<=f x):0<=gf (l.map f):=by
 have:=lU (f:=fun _=>0) (g:=f) h
 have e:∀ l:List α,gf (l.map fun _=>0)=0:=by
  intro l;induction l with
  | nil=>rfl
  | cons x l ih=>simp only[List.map_cons,gf,ih];rfl
 rw[e] at this;exact this
theorem l8{α:Type}{f:α->Int}{M:Int}:∀ {l:List α},(∀ x∈l,f x<=M)->gf (l.map f)<=l.length*M
 | [],_=>by simp[gf]
 | x::l,h=>by
  have:=l8 (f:=f) (l:=l) fun y hy=>h y (List.mem_cons_of_mem _ hy)
  have:=h x (by simp)
  simp only[List.map_cons,gf,List.length_cons]
  have e:((l.length+1:Nat):Int)*M=l.length*M+M:=by push_cast;rw[Int.add_mul];omega
  omega
theorem Xm{α:Type}{f:α->Int}{l:List α}(h:∀ x∈l,0<=f x){x:α}(hx:x∈l):f x<=gf (l.map f):=by
 induction l with
 | nil=>simp at hx
 | cons y l ih=>
  have h1:=dh (f:=f) (l:=l) fun z hz=>h z (List.mem_cons_of_mem _ hz)
  have h2:=h y (by simp)
  simp only[List.map_cons,gf]
  rcases List.mem_cons.1 hx with rfl | hx
  ·omega
  ·have:=ih (fun z hz=>h z (List.mem_cons_of_mem _ hz)) hx;omega
def pG:List Int->Int
 | []=>0
 | x::l=>max x (pG l)
theorem VF{l:List Int}{x:Int}(hx:0<=x):pG (l++[x])=max (pG l) x:=by
 induction l with
 | nil=>simp only[List.nil_append,pG];omega
 | cons y l ih=>simp only[List.cons_append,pG,ih];omega
theorem lX:∀ l:List Int,0<=pG l
 | []=>by simp[pG]
 | x::l=>by have:=lX l;simp only[pG];omega
theorem Xn{l:List Int}{x:Int}(h:x∈l):x<=pG l:=by
 induction l with
 | nil=>simp at h
 | cons y l ih=>
  simp only[pG]
  rcases List.mem_cons.1 h with rfl | h
  ·omega
  ·have:=ih h;omega
theorem KR{l:List Int}{M:Int}(h0:0<=M)(h:∀ x∈l,x<=M):pG l<=M:=by
 induction l with
 | nil=>simpa [pG] using h0
 | cons y l ih=>
  have:=ih fun x hx=>h x (List.mem_cons_of_mem _ hx)
  have:=h y (by simp)
  simp only[pG];omega
theorem gX{x:Int}:∀ {n:Nat} {v:Int},x∈jE v n↔v<=x/\x<v+n
 | 0,v=>by simp only[jE,List.not_mem_nil,false_iff];omega
 | n+1,v=>by
  simp only[jE,List.mem_cons,gX (n:=n)]
  constructor
  ·rintro(rfl | h) <;> omega
  ·intro h
   by_cases e:x=v
   ·exact .inl e
   ·exact .inr (by omega)
theorem pT:∀(n:Nat) (v:Int),(jE v n).Nodup
 | 0,_=>by simp[jE]
 | n+1,v=>by
  simp only[jE,List.nodup_cons]
  exact⟨fun h=>by have:=gX.1 h;omega,pT n _⟩
theorem b9:∀(n:Nat) (v:Int),(jE v n).length=n
 | 0,_=>rfl
 | n+1,v=>by simp only[jE,List.length_cons,b9 n]
theorem VG:∀(n:Nat) (v:Int),jE v (n+1)=jE v n++[v+n]
 | 0,v=>by simp[jE]
 | n+1,v=>by
  rw[jE,VG n (v+1)]
  simp only[jE,List.cons_append]
  rw[show v+1+(n:Int)=v+((n+1:Nat):Int) by push_cast;omega]
structure Fw where
 k:Int
 v:Int
 j:Int
def tY(c:Cf)(v:Int):Int:=(nth c.yc v).yE
def pX(c:Cf)(x:Fw)(t:Int):Int:=mx c x.v*((t+x.j) / tY c x.v+1)
def sW(r:List Hop)(p:Pl):Int:=if (gj r p.ya).2 then(gj r p.ya).1.fQ else -1
def uH(c:Cf)(rs:List (List Hop))(D:Pl->Int)(p:Pl)(v:Int):Fw:=⟨sW (nth rs v) p,v,jn c D (nth rs v) p.ya⟩
def vls(rs:List (List Hop))(p:Pl)(n:Nat):List Int:=(jE 0 n).filter fun v=>sJ p (nth rs v)
def fws(c:Cf)(rs:List (List Hop))(D:Pl->Int)(p:Pl):List Fw:=(vls rs p rs.length).map (uH c rs D p)
def sL(c:Cf)(l:List Fw)(t L:Int):Int:=gf ((l.filter fun x=>decide (x.k=L)).map fun x=>pX c x t)
def rV(c:Cf)(l:List Fw)(L:Int):Int:=pG ((l.filter fun x=>decide (x.k=L)).map fun x=>mx c x.v)
def uv(c:Cf)(l:List Fw)(t L:Int):Int:=if L<0 then sL c l t L else min (sL c l t L) (rV c l L+t / max 1 (wl c L))
def nP(c:Cf):List Int:=jE (-1) (c.fK.length+1)
def g0(c:Cf)(l:List Fw)(t:Int):Int:=gf ((nP c).map (uv c l t))
def pU(c:Cf)(l:List Fw):Int:=pG (l.map fun x=>mx c x.v)
structure FwOK (c:Cf) (l:List Fw):Prop where
 len:l.length<=16
 v0:∀ x∈l,0<=x.v/\x.v<c.yc.length
 k0:∀ x∈l,-1<=x.k/\x.k<c.fK.length
 j0:∀ x∈l,0<=x.j/\x.j<=4294967296
theorem mI.mx{c:Cf}(h:mI c){v:Int}(h0:0<=v)(h1:v<c.yc.length):1<=mx c v/\mx c v<=72/\100<=tY c v/\tY c v<=12800:=by
 obtain⟨⟨a,b⟩,d,e⟩:=h _ (wp h0 h1)
 exact⟨d,e,a,b⟩
theorem oD{c:Cf}(hv:mI c){l:List Fw}(hl:FwOK c l){x:Fw}(hx:x∈l){t:Int}(h0:0<=t)(h1:t<=4294967296):1<=pX c x t/\pX c x t<=1099511627776:=by
 obtain⟨a,b,d,e⟩:=hv.mx (hl.v0 x hx).1 (hl.v0 x hx).2
 have hj:=hl.j0 x hx
 unfold pX
 have h2:0<=(t+x.j) / tY c x.v:=Int.ediv_nonneg (by omega) (by omega)
 have h3:(t+x.j) / tY c x.v<=t+x.j:=Int.ediv_le_self _ (by omega)
 constructor
 ·have:=Int.mul_le_mul_of_nonneg_right a (show 0<=(t+x.j) / tY c x.v+1 by omega);omega
 ·have:=Int.mul_le_mul_of_nonneg_right b (show 0<=(t+x.j) / tY c x.v+1 by omega);omega
theorem aX{a b:Int}(h:0<=a):a.tdiv b=a / b:=Int.tdiv_eq_ediv_of_nonneg h
def clo(c:Cf)(x:Fw):Int->Option Int:=fun t=>vh t (nth c.yc x.v) x.j
theorem Td{c:Cf}(hv:mI c){l:List Fw}(hl:FwOK c l){x:Fw}(hx:x∈l){t:Int}(h0:0<=t)(h1:t<=4294967296):clo c x t=some (pX c x t):=by
 have hb:=oD hv hl hx h0 h1
 obtain⟨a,b,d,e⟩:=hv.mx (hl.v0 x hx).1 (hl.v0 x hx).2
 have hj:=hl.j0 x hx
 unfold clo vh rm
 unfold pX mx tY at *
 have h2:0<=(t+x.j) / (nth c.yc x.v).yE:=Int.ediv_nonneg (by omega) (by omega)
 have h3:(t+x.j) / (nth c.yc x.v).yE<=t+x.j:=Int.ediv_le_self _ (by omega)
 rw[xL (by omega),xQ (x:=t+x.j) (by omega),aX (by omega),xQ (x:=(t+x.j) / (nth c.yc x.v).yE) (by omega),xQ (x:=(t+x.j) / (nth c.yc x.v).yE+1) (by omega),xQ (by omega)]
 rfl
theorem KS{α:Type}{t M:Int}{F:α->Int->Option Int}{g:α->Int}:∀ {l:List α} {s:Int},(∀ x∈l,F x t=some (g x)/\0<=g x/\g x<=M)->0<=s->s+l.length*M<=4611686018427387904->pD (l.map F) t s=some (s+gf (l.map g))
 | [],s,_,_,_=>by simp[pD,gf]
 | x::l,s,h,h0,h1=>by
  obtain⟨e,e0,e1⟩:=h x (by simp)
  have hM:0<=(l.length:Int)*M:=Int.mul_nonneg (by omega) (by omega)
  have e2:(((x::l).length:Nat):Int)*M=l.length*M+M:=by rw[List.length_cons];push_cast;rw[Int.add_mul];omega
  rw[List.map_cons,pD,e,oB,xQ (by omega),KS (l:=l) (fun y hy=>h y (List.mem_cons_of_mem _ hy)) (by omega) (by omega)]
  simp only[List.map_cons,gf]
  congr 1;omega
theorem KT{α:Type}{t M:Int}{F:α->Int->Option Int}{g:α->Int}{l:List α}(h:∀ x∈l,F x t=some (g x)/\0<=g x/\g x<=M)(h1:l.length*M<=4611686018427387904)(h2:l.length<=1000000):qO (l.map F) t=some (gf (l.map g)):=by
 unfold qO
 rw[xL (by rw[List.length_map];omega),KS h (by omega) (by omega)]
 simp
theorem Wi{c:Cf}(hv:mI c){l:List Fw}(hl:FwOK c l){t:Int}(h0:0<=t)(h1:t<=4294967296)(L:Int):0<=sL c l t L/\sL c l t L<=17592186044416:=by
 unfold sL
 constructor
 ·exact dh fun x hx=>by have:=(oD hv hl (List.mem_filter.1 hx).1 h0 h1).1;omega
 ·have h:=l8 (f:=fun x=>pX c x t) (M:=1099511627776) (l:=l.filter fun x=>decide (x.k=L)) fun x hx=>(oD hv hl (List.mem_filter.1 hx).1 h0 h1).2
  have h2:(l.filter fun x=>decide (x.k=L)).length<=l.length:=List.length_filter_le _ _
  have:=hl.len
  omega
theorem nq{c:Cf}(hv:mI c){l:List Fw}(hl:FwOK c l)(L:Int):0<=rV c l L/\rV c l L<=72:=by
 unfold rV
 refine⟨lX _,KR (by omega) fun x hx=>?_⟩
 obtain⟨y,hy,rfl⟩:=List.mem_map.1 hx
 have hy:=(List.mem_filter.1 hy).1
 exact(hv.mx (hl.v0 y hy).1 (hl.v0 y hy).2).2.1
theorem Te{c:Cf}(hv:mI c){l:List Fw}(hl:FwOK c l){wide:List (Int×Int)}{L:Int}(hw:xI wide L 0=rV c l L)(hL:L<c.fK.length)(hs:0<=L->1<=wl c L){t:Int}(h0:0<=t)(h1:t<=4294967296):
  si c wide (L,(l.filter fun x=>decide (x.k=L)).map (clo c)) t=some (uv c l t L):=by
 show fZ t L ((l.filter fun x=>decide (x.k=L)).map (clo c)) wide c=_
 have eW:(l.filter fun x=>decide (x.k=L)).length<=l.length:=List.length_filter_le _ _
 have EL:=hl.len
 have e:=KT (t:=t) (M:=1099511627776) (F:=clo c) (g:=fun x=>pX c x t) (l:=l.filter fun x=>decide (x.k=L)) (fun x hx=>by
  have hx:=(List.mem_filter.1 hx).1
  have:=oD hv hl hx h0 h1
  exact⟨Td hv hl hx h0 h1,by omega,this.2⟩) (by omega) (by omega)
 unfold fZ uv
 by_cases h:L<0
 ·rw[Nv h,if_pos h,e];rfl
 ·have hs:=hs (by omega)
  have hg:=Wi hv hl h0 h1 L
  have hwb:=nq hv hl L
  rw[Nw h,if_neg h,e,oB,xL ⟨by omega,hL⟩]
  rw[show max 1 (wl c L)=wl c L by omega]
  unfold wl at *
  have hd:0<=t / (nth c.fK L).yp:=Int.ediv_nonneg h0 (by omega)
  have hd2:t / (nth c.fK L).yp<=t:=Int.ediv_le_self _ h0
  rw[xL (by omega),aX h0,xQ (x:=t / (nth c.fK L).yp) (by omega),hw,xQ (by omega)]
  rfl
theorem rN{c:Cf}(hv:mI c){l:List Fw}(hl:FwOK c l){L:Int}{t:Int}(h0:0<=t)(h1:t<=4294967296):0<=uv c l t L/\uv c l t L<=17592186044416:=by
 have hg:=Wi hv hl h0 h1 L
 have hwb:=nq hv hl L
 unfold uv
 split
 ·exact hg
 ·have hd:0<=t / max 1 (wl c L):=Int.ediv_nonneg h0 (by omega)
  omega
theorem FH{c:Cf}{l:List Fw}{t L:Int}(h:∀ x∈l,x.k≠L)(h0:0<=t):uv c l t L=0:=by
 have e:(l.filter fun x=>decide (x.k=L))=[]:=by
  rw[List.filter_eq_nil_iff];intro x hx;simpa using h x hx
 unfold uv sL rV
 rw[e]
 split
 ·rfl
 ·have hd:0<=t / max 1 (wl c L):=Int.ediv_nonneg h0 (by omega)
  show min 0 (0+_)=0
  omega
theorem FI{c:Cf}(hS:Small c)(hv:mI c){l:List Fw}(hl:FwOK c l){t:Int}(h0:0<=t)(h1:t<=4294967296):0<=g0 c l t/\g0 c l t<=18014398509481984:=by
 unfold g0
 refine⟨dh fun L _=>(rN hv hl h0 h1).1,?_⟩
 have h:=l8 (f:=uv c l t) (M:=17592186044416) (l:=nP c) fun L _=>(rN hv hl h0 h1).2
 have e:(nP c).length=c.fK.length+1:=b9 _ _
 have:=hS.l
 rw[e] at h
 omega
theorem MI{c:Cf}(hv:mI c){l:List Fw}(hl:FwOK c l){x:Fw}(hx:x∈l){t t':Int}(h:t<=t'):pX c x t<=pX c x t':=by
 obtain⟨a,b,d,e⟩:=hv.mx (hl.v0 x hx).1 (hl.v0 x hx).2
 unfold pX
 refine Int.mul_le_mul_of_nonneg_left ?_ (by omega)
 have:=Int.ediv_le_ediv (a:=t+x.j) (b:=t'+x.j) (c:=tY c x.v) (by omega) (by omega)
 omega
theorem MJ{c:Cf}(hv:mI c){l:List Fw}(hl:FwOK c l){t t':Int}(h:t<=t'):g0 c l t<=g0 c l t':=by
 unfold g0
 refine lU fun L _=>?_
 have hg:sL c l t L<=sL c l t' L:=by
  unfold sL
  exact lU fun x hx=>MI hv hl (List.mem_filter.1 hx).1 h
 have hd:=Int.ediv_le_ediv (a:=t) (b:=t') (c:=max 1 (wl c L)) (by omega) h
 unfold uv
 split
 ·exact hg
 ·omega
end
section
variable {rs:List (List Hop)}{p:Pl}{D:Pl->Int}{net:Int}
def FL(c:Cf)(rs:List (List Hop))(D:Pl->Int)(p:Pl)(n:Nat):List Fw:=(vls rs p n).map (uH c rs D p)
theorem UG{c:Cf}(n:Nat):FL c rs D p (n+1)=FL c rs D p n++(if sJ p (nth rs n) then[uH c rs D p n] else[]):=by
 unfold FL vls
 rw[VG,List.filter_append,List.map_append,show(0:Int)+n=n by omega]
 by_cases h:sJ p (nth rs n)=true <;> simp[h]
theorem FJ{c:Cf}(n:Nat):(FL c rs D p n).length<=n:=by
 unfold FL vls
 rw[List.length_map]
 have h:((jE 0 n).filter fun v=>sJ p (nth rs v)).length<=(jE 0 n).length:=List.length_filter_le _ _
 rwa [b9] at h
theorem aY{c:Cf}{n:Nat}{x:Fw}:x∈FL c rs D p n↔∃ v:Int,0<=v/\v<n/\sJ p (nth rs v)=true/\x=uH c rs D p v:=by
 unfold FL vls
 simp only[List.mem_map,List.mem_filter,gX]
 constructor
 ·rintro⟨v,⟨⟨a,b⟩,d⟩,rfl⟩;exact⟨v,a,by omega,d,rfl⟩
 ·rintro⟨v,a,b,d,rfl⟩;exact⟨v,⟨⟨a,by omega⟩,d⟩,rfl⟩
theorem rx{r:List Hop}:sJ p r=true↔∃ h∈r,pk h=p:=by
 unfold sJ;simp
theorem oE{c:Cf}(hS:Small c)(hv:VA c net rs)(p:Pl){v:Int}(v0:0<=v)(v1:v<rs.length) : -1<=sW (nth rs v) p/\sW (nth rs v) p<c.fK.length/\(0<=sW (nth rs v) p->1<=wl c (sW (nth rs v) p)/\wl c (sW (nth rs v) p)<=16):=by
 unfold sW
 split
 ·rename_i h
  have:=(hv.each _ (wp v0 v1)).hop hS (dT h).1
  have a:=this.l0;have b:=this.l1;have d:=this.s0;have e:=this.s1
  exact⟨by omega,b,fun _=>⟨d,e⟩⟩
 ·exact⟨by omega,by omega,fun h=>absurd h (by omega)⟩
structure AI (c:Cf) (l:List Fw) (most:Int) (mp:List (Int×List (Int->Option Int))) (wide:List (Int×Int)):Prop where
 nd:(mp.map (·.1)).Nodup
 get:∀ L,xI mp L []=(l.filter fun x=>decide (x.k=L)).map (clo c)
 key:∀ k∈mp.map (·.1),∃ x∈l,x.k=k
 key2:∀ x∈l,x.k∈mp.map (·.1)
 len:mp.length<=l.length
 wide:∀ L,xI wide L 0=rV c l L
 most:most=pU c l
theorem AI.nil(c:Cf):AI c [] 0 [] []:=⟨by simp,fun L=>rfl,by simp,by simp,by simp,fun L=>rfl,rfl⟩
theorem AI.put{c:Cf}{l:List Fw}{most:Int}{mp:List (Int×List (Int->Option Int))}{wide:List (Int×Int)}(h:AI c l most mp wide){x:Fw}(hx:0<=mx c x.v):AI c (l++[x]) (max most (mx c x.v)) (w6 mp x.k (xI mp x.k []++[clo c x])) (w6 wide x.k (max (xI wide x.k 0) (mx c x.v))):=by
 refine⟨?_,fun L=>?_,fun k hk=>?_,fun y hy=>?_,?_,fun L=>?_,?_⟩
 ·rw[l7]
  split
  ·exact h.nd
  ·rename_i hn
   rw[List.nodup_append]
   refine⟨h.nd,by simp,fun a ha b hb=>?_⟩
   rw[List.mem_singleton] at hb;subst hb
   intro e;subst e;exact hn ha
 ·rw[gW,List.filter_append,List.map_append,<- h.get L]
  by_cases e:L=x.k
  ·subst e;simp
  ·rw[if_neg e];simp[show x.k≠L from fun a=>e a.symm]
 ·rw[l7] at hk
  split at hk
  ·obtain⟨y,hy,e⟩:=h.key k hk;exact⟨y,List.mem_append_left _ hy,e⟩
  ·rcases List.mem_append.1 hk with hk | hk
   ·obtain⟨y,hy,e⟩:=h.key k hk;exact⟨y,List.mem_append_left _ hy,e⟩
   ·rw[List.mem_singleton] at hk;exact⟨x,by simp,hk.symm⟩
 ·rw[l7]
  rcases List.mem_append.1 hy with hy | hy
  ·have:=h.key2 y hy
   split
   ·exact this
   ·exact List.mem_append_left _ this
  ·rw[List.mem_singleton] at hy;subst hy
   split
   ·assumption
   ·simp
 ·have e:(w6 mp x.k (xI mp x.k []++[clo c x])).length=((w6 mp x.k (xI mp x.k []++[clo c x])).map (·.1)).length:=by simp
  rw[e,l7]
  have:=h.len
  split
  ·simp;omega
  ·simp;omega
 ·rw[gW]
  have hw:=h.wide
  unfold rV at hw ⊢
  rw[List.filter_append,List.map_append]
  by_cases e:L=x.k
  ·subst e
   rw[if_pos rfl,hw]
   simp only[List.filter_cons,List.filter_nil,decide_true,if_true,List.map_cons,List.map_nil]
   rw[VF hx]
  ·rw[if_neg e,hw];simp[show x.k≠L from fun a=>e a.symm]
 ·have:=h.most
  unfold pU at *
  rw[List.map_append,List.map_cons,List.map_nil,VF hx,this]
abbrev AR:=List (Int->Option Int)×Int
theorem nQ{c:Cf}{net:Int}{rs:List (List Hop)}{de:DM}{p:Pl}{k:Int->List (Int×List (Int->Option Int))->List (Int×Int)->Option AR}(hS:Small c)(hv:VA c net rs)(hV:mI c)(hD:∀ r∈rs,∀ h∈r,-1099511627776<=xI de (pk h) 0/\xI de (pk h) 0<=1099511627776):
  ∀(n:Nat) (v:Int) (most:Int) (mp:List (Int×List (Int->Option Int))) (wide:List (Int×Int)),0<=v->v<=rs.length->rs.length<n+v->AI c (FL c rs (fun q=>xI de q 0) p v.toNat) most mp wide->
   ∃ qK zx rf,AI c (FL c rs (fun q=>xI de q 0) p rs.length) qK zx rf/\jY rs p c de k n most v mp wide=k qK zx rf
 | 0,v,most,mp,wide,h0,h1,h2,h3=>by omega
 | n+1,v,most,mp,wide,h0,h1,h2,h3=>by
  have EL:=hv.most
  have EM:=hv.len
  rw[jY]
  by_cases h:v<rs.length
  ·rw[Nv h]
   refine aR (P:=fun o=>∃ qK zx rf,AI c (FL c rs (fun q=>xI de q 0) p rs.length) qK zx rf/\o=k qK zx rf) fun kk xH=>?_
   have hr:=hv.each _ (wp h0 h)
   have Cl:=hr.len
   have D9:∀ most mp wide,AI c (FL c rs (fun q=>xI de q 0) p (v+1).toNat) most mp wide->∃ qK zx rf,AI c (FL c rs (fun q=>xI de q 0) p rs.length) qK zx rf/\kk most mp wide=k qK zx rf:=by
    intro most mp wide BR
    rw[xH,xQ (x:=v+1) (by omega)]
    exact nQ hS hv hV hD n (v+1) most mp wide (by omega) (by omega) (by omega) BR
   have es:FL c rs (fun q=>xI de q 0) p (v+1).toNat=FL c rs (fun q=>xI de q 0) p v.toNat++(if sJ p (nth rs v) then[uH c rs (fun q=>xI de q 0) p v] else[]):=by
    rw[show(v+1).toNat=v.toNat+1 by omega,UG,show((v.toNat:Nat):Int)=v by omega]
   rw[xL ⟨h0,h⟩]
   rcases bQ (r:=nth rs v) (f:=fun y0=>ma y0 p) (p:=fun h=>decide (pk h=p)) (fun h _=>rfl) (by omega) with⟨j,j0,j1,j2,j3⟩ | ⟨j2,j3⟩
   ·rw[j3]
    simp only[oB]
    have hj:=List.find?_some j2
    simp only[decide_eq_true_eq] at hj
    rw[if_neg (by simp only[decide_eq_true_eq];omega),xL ⟨h0,by omega⟩,GC hS hr (hD _ (wp h0 h))]
    simp only[oB]
    rw[xL ⟨j0,by rw[List.length_map];exact j1⟩]
    have hu:sJ p (nth rs v)=true:=rx.2 ⟨_,wp j0 j1,hj⟩
    have ejn:nth ((nth rs v).map fun h=>jn c (fun q=>xI de q 0) (nth rs v) h.ya) j=jn c (fun q=>xI de q 0) (nth rs v) p.ya:=by
     rw[kh ⟨j0,by rw[List.length_map];exact j1⟩,List.getElem_map,<- kh ⟨j0,j1⟩,<- hj];rfl
    rw[es,if_pos hu] at D9
    have hm:=hV.mx h0 (by omega)
    have EO:∀ L,((xI mp L []).length:Int)<=16:=fun L=>by
     rw[h3.get,List.length_map]
     have h4:((FL c rs (fun q=>xI de q 0) p v.toNat).filter fun x=>decide (x.k=L)).length<=(FL c rs (fun q=>xI de q 0) p v.toNat).length:=List.length_filter_le _ _
     have h5:=FJ (c:=c) (rs:=rs) (D:=fun q=>xI de q 0) (p:=p) v.toNat
     omega
    refine wA (P:=fun o=>∃ qK zx rf,AI c (FL c rs (fun q=>xI de q 0) p rs.length) qK zx rf/\o=k qK zx rf) fun k2 qh=>?_
    have Ea:∀ L,L=sW (nth rs v) p->∃ qK zx rf,AI c (FL c rs (fun q=>xI de q 0) p rs.length) qK zx rf/\k2 L=k qK zx rf:=by
     rintro L rfl
     have hgl:=EO (sW (nth rs v) p)
     rw[qh,xL (by rw[List.length_append];simp only[List.length_cons,List.length_nil];omega)]
     rw[ejn]
     exact D9 _ _ _ (h3.put (x:=uH c rs (fun q=>xI de q 0) p v) (by show 0<=mx c v;omega))
    rcases bQ (r:=nth rs v) (f:=fun y0=>md y0 p) (p:=fun h=>decide (h.fX=p.ya)) (fun h _=>rfl) (by omega) with⟨i,i0,i1,i2,i3⟩ | ⟨i2,i3⟩
    ·rw[i3]
     simp only[oB]
     rw[if_pos (by simp only[decide_eq_true_eq];omega),xL ⟨i0,i1⟩]
     refine Ea _ ?_
     unfold sW gj;rw[i2];rfl
    ·rw[i3]
     simp only[oB]
     rw[if_neg (by simp)]
     refine Ea _ ?_
     unfold sW gj;rw[i2];rfl
   ·rw[j3]
    simp only[oB]
    have hu:¬sJ p (nth rs v)=true:=by
     rw[rx];rintro⟨x,hx,e⟩
     have:=List.find?_eq_none.1 j2 x hx
     simp[e] at this
    rw[if_pos (by simp)]
    rw[es,if_neg hu,List.append_nil] at D9
    exact D9 _ _ _ h3
  ·rw[Nw h]
   have e:v.toNat=rs.length:=by omega
   rw[e] at h3
   exact⟨most,mp,wide,h3,rfl⟩
theorem GD{c:Cf}(hS:Small c)(hv:VA c net rs)(hj:∀ x∈fws c rs D p,0<=x.j/\x.j<=4294967296):FwOK c (fws c rs D p):=by
 have hl:=hv.most;have EM:=hv.len
 refine⟨?_,fun x hx=>?_,fun x hx=>?_,hj⟩
 ·have:=FJ (c:=c) (rs:=rs) (D:=D) (p:=p) rs.length
  exact Nat.le_trans this (by omega)
 ·obtain⟨v,v0,v1,_,rfl⟩:=aY.1 hx
  exact⟨v0,by show v<_;omega⟩
 ·obtain⟨v,v0,v1,_,rfl⟩:=aY.1 hx
  have:=oE hS hv p v0 v1
  exact⟨this.1,this.2.1⟩
theorem Kk{c:Cf}{de:DM}(hS:Small c)(hv:VA c net rs)(hV:mI c)(hD:∀ r∈rs,∀ h∈r,-1099511627776<=xI de (pk h) 0/\xI de (pk h) 0<=1099511627776)(hj:∀ x∈fws c rs (fun q=>xI de q 0) p,0<=x.j/\x.j<=4294967296):
  ∃ fs,fc c rs p de=some (fs,pU c (fws c rs (fun q=>xI de q 0) p))/\∀ t,0<=t->t<=4294967296->qO fs t=some (g0 c (fws c rs (fun q=>xI de q 0) p) t):=by
 have tg:=GD hS hv hj
 unfold fc
 have hF:=wi
 generalize xR=N at hF ⊢
 refine aR (P:=fun o=>∃ fs,o=some (fs,pU c (fws c rs (fun q=>xI de q 0) p))/\∀ t,0<=t->t<=4294967296->qO fs t=some (g0 c (fws c rs (fun q=>xI de q 0) p) t)) fun k hk=>?_
 have EL:=hv.most
 obtain⟨most,mp,wide,BR,e⟩:=nQ (k:=k) (p:=p) hS hv hV hD N 0 0 [] [] (by omega) (by omega) (by omega) (AI.nil c)
 rw[e,hk]
 have hml:=BR.len
 have D0:=tg.len
 have hfl2:FL c rs (fun q=>xI de q 0) p rs.length=fws c rs (fun q=>xI de q 0) p:=rfl
 rw[hfl2] at BR hml
 rw[xL (by omega)]
 refine⟨mp.map (si c wide),by rw[BR.most],fun t h0 h1=>?_⟩
 have EP:∀ q∈mp,q=(q.1,((fws c rs (fun q=>xI de q 0) p).filter fun x=>decide (x.k=q.1)).map (clo c)):=by
  intro q hq
  rw[<- BR.get]
  have:∀(l:List (Int×List (Int->Option Int))),(l.map (·.1)).Nodup->∀ q∈l,xI l q.1 []=q.2:=by
   intro l
   induction l with
   | nil=>intro _ q hq;simp at hq
   | cons x l ih=>
    intro hn q hq
    rw[List.map_cons,List.nodup_cons] at hn
    rw[xI]
    rcases List.mem_cons.1 hq with rfl | hq
    ·rw[if_pos rfl]
    ·rw[if_neg,ih hn.2 q hq]
     intro e;exact hn.1 (e▸List.mem_map.2 ⟨q,hq,rfl⟩)
  rw[this mp BR.nd q hq]
 have hkr:∀ k:Int,k∈mp.map (·.1) -> -1<=k/\k<c.fK.length/\(0<=k->1<=wl c k):=by
  intro k hk
  obtain⟨x,hx,rfl⟩:=BR.key k hk
  obtain⟨v,v0,v1,_,rfl⟩:=aY.1 hx
  have:=oE hS hv p v0 v1
  exact⟨this.1,this.2.1,fun h=>(this.2.2 h).1⟩
 rw[KT (M:=17592186044416) (F:=si c wide) (g:=fun q=>uv c (fws c rs (fun q=>xI de q 0) p) t q.1) (l:=mp) (fun q hq=>by
   have ER:=hkr q.1 (List.mem_map.2 ⟨q,hq,rfl⟩)
   have:=rN hV tg (L:=q.1) h0 h1
   refine⟨?_,this.1,this.2⟩
   rw[EP q hq]
   exact Te hV tg (BR.wide q.1) ER.2.1 ER.2.2 h0 h1) (by omega) (by omega)]
 refine congrArg some ?_
 unfold g0
 have h5:(mp.map (·.1)).Perm ((nP c).filter fun L=>decide (L∈mp.map (·.1))):=by
  refine(List.perm_ext_iff_of_nodup BR.nd ((pT _ _).filter _)).2 fun k=>?_
  rw[List.mem_filter]
  skip
  rw[gX]
  simp only[decide_eq_true_eq]
  constructor
  ·intro hk;have:=hkr k hk;exact⟨by push_cast;omega,hk⟩
  ·exact fun h=>h.2
 have h6:mp.map (fun q=>uv c (fws c rs (fun q=>xI de q 0) p) t q.1)=(mp.map (·.1)).map (uv c (fws c rs (fun q=>xI de q 0) p) t):=by rw[List.map_map];rfl
 rw[h6,FF (h5.map _),YM]
 intro L _ hL
 refine FH (fun x hx e=>?_) h0
 simp only[decide_eq_false_iff_not] at hL
 exact hL (e▸BR.key2 x hx)
end
section
variable {A:Int->Int}
def p9(f:Int->Int):Nat->Int
 | 0=>0
 | n+1=>max (p9 f n) (f n)
theorem nr(f:Int->Int):∀ n,0<=p9 f n
 | 0=>Int.le_refl _
 | n+1=>by have:=nr f n;simp only[p9];omega
theorem Wj{f:Int->Int}:∀ {n:Nat} {t:Int},0<=t->t<n->f t<=p9 f n
 | 0,t,h0,h1=>by omega
 | n+1,t,h0,h1=>by
  simp only[p9]
  by_cases e:t=n
  ·subst e;omega
  ·have:=Wj (f:=f) (n:=n) h0 (by omega);omega
theorem aZ{f:Int->Int}{M:Int}(hM:0<=M):∀ {n:Nat},(∀ t:Int,0<=t->t<n->f t<=M)->p9 f n<=M
 | 0,_=>hM
 | n+1,h=>by
  simp only[p9]
  have:=aZ hM (n:=n) fun t h0 h1=>h t h0 (by omega)
  have:=h n (by omega) (by omega)
  omega
def iF(A:Int->Int)(s:Int):Nat->Int->Int
 | 0,b=>b
 | n+1,b=>if s*A (b-1)>b then iF A s n (b+1) else b
theorem ns{A:Int->Int}{s:Int}:∀(n:Nat) (b:Int),b<=iF A s n b/\iF A s n b<=b+n/\(iF A s n b<b+n->s*A (iF A s n b-1)<=iF A s n b)/\∀ x,b<=x->x<iF A s n b->s*A (x-1)>x
 | 0,b=>by refine⟨by simp[iF],by simp[iF],fun h=>?_,fun x h1 h2=>?_⟩ <;> simp only[iF] at * <;> omega
 | n+1,b=>by
  rw[iF]
  by_cases h:s*A (b-1)>b
  ·rw[if_pos h]
   obtain⟨h1,h2,h3,h4⟩:=ns n (b+1) (A:=A) (s:=s)
   refine⟨by omega,by push_cast;omega,fun h5=>h3 (by push_cast at h5;omega),fun x h5 h6=>?_⟩
   by_cases e:x=b
   ·rw[e];exact h
   ·exact h4 x (by omega) h6
  ·rw[if_neg h]
   exact⟨by omega,by omega,fun _=>by omega,fun x h1 h2=>by omega⟩
def BZ(A:Int->Int)(s:Int):Int:=iF A s 32768 1
theorem Wl(A:Int->Int)(s:Int):1<=BZ A s/\BZ A s<=32769:=by
 obtain⟨h1,h2,_⟩:=ns (A:=A) (s:=s) 32768 1
 unfold BZ;omega
theorem GE{s:Int}(h:BZ A s<=32768):s*A (BZ A s-1)<=BZ A s:=by
 obtain⟨h1,h2,h3,_⟩:=ns (A:=A) (s:=s) 32768 1
 unfold BZ at *;exact h3 (by omega)
theorem BZ_lt{s b:Int}(h0:1<=b)(h:b<BZ A s):b<s*A (b-1):=by
 obtain⟨_,_,_,h4⟩:=ns (A:=A) (s:=s) 32768 1
 exact h4 b h0 h
def lV(A:Int->Int)(s la:Int)(t:Int):Int:=s*A t-t+la
def oy(A:Int->Int)(s la:Int)(t:Int):Int:=A t-(max (t-la) 0+s-1) / s
def HB(c:Cf)(A:Int->Int)(most:Int)(p:Pl):PB:=⟨p.ya,p.fQ,p9 (lV A (wl c p.fQ) (qu c p.ya)) (BZ A (wl c p.fQ)).toNat,p9 (oy A (wl c p.fQ) (qu c p.ya)) (BZ A (wl c p.fQ)+qu c p.ya).toNat+most⟩
structure AOK (A:Int->Int):Prop where
 b:∀ t,0<=t->t<=4294967296->0<=A t/\A t<=18014398509481984
theorem Ju{c:Cf}{p:Pl}{fs:List (Int->Option Int)}{most:Int}{A:Int->Int}{k:Int->Option (PB×Int)}(hA:AOK A)(ht:∀ t,0<=t->t<=4294967296->qO fs t=some (A t))(hs:1<=wl c p.fQ/\wl c p.fQ<=16):
  ∀(n:Nat) (N:Nat) (b:Int),1<=b->b+n=32769->n<N->1<=n->gB (fs,most) c p k N b=if iF A (wl c p.fQ) n b<=32768 then k (iF A (wl c p.fQ) n b) else some (⟨0,0,0,0⟩,360)
 | n,0,b,h0,h1,h2,h3=>by omega
 | 0,N+1,b,h0,h1,h2,h3=>by omega
 | n+1,N+1,b,h0,h1,h2,h3=>by
  push_cast at h1
  rw[gB,xQ (x:=b-1) (by omega),ht (b-1) (by omega) (by omega),oB]
  have hb:=hA.b (b-1) (by omega) (by omega)
  have hm1:0<=wl c p.fQ*A (b-1):=Int.mul_nonneg (by omega) hb.1
  have hm2:wl c p.fQ*A (b-1)<=16*A (b-1):=Int.mul_le_mul_of_nonneg_right hs.2 hb.1
  have e:((nth c.fK p.fQ).yp)*A (b-1)=wl c p.fQ*A (b-1):=rfl
  rw[e,xQ (x:=wl c p.fQ*A (b-1)) (by omega),xQ (x:=b+1) (by omega),iF]
  by_cases h:wl c p.fQ*A (b-1)>b
  ·rw[Nv h,if_pos h]
   by_cases h4:b+1>32768
   ·rw[Nv h4]
    have hn:n=0:=by omega
    subst hn
    rw[iF,if_neg (by omega)]
   ·rw[Nw h4]
    exact Ju hA ht hs n N (b+1) (by omega) (by omega) (by omega) (by omega)
  ·rw[Nw h,if_neg h,if_pos (by omega)]
theorem Jv{c:Cf}{p:Pl}{fs:List (Int->Option Int)}{most:Int}{A:Int->Int}{k:Int->Int->Option (PB×Int)}{b la:Int}(hA:AOK A)(ht:∀ t,0<=t->t<=4294967296->qO fs t=some (A t))(hs:1<=wl c p.fQ/\wl c p.fQ<=16)(hb:1<=b/\b<=32768)(zX:0<=la/\la<=1000):
  ∀(n:Nat) (v:Nat),(v:Int)<=b+la->b+la<n+v->gC b la (fs,most) c p k n v (p9 (lV A (wl c p.fQ) la) (min v b.toNat)) (p9 (oy A (wl c p.fQ) la) v)=k (p9 (lV A (wl c p.fQ) la) b.toNat) (p9 (oy A (wl c p.fQ) la) (b+la).toNat)
 | 0,v,h0,h1=>by omega
 | n+1,v,h0,h1=>by
  rw[gC,xQ (x:=b+la) (by omega)]
  by_cases h:(v:Int)<b+la
  ·rw[Nv h,ht v (by omega) (by omega),oB]
   refine wA (P:=fun o=>o=k (p9 (lV A (wl c p.fQ) la) b.toNat) (p9 (oy A (wl c p.fQ) la) (b+la).toNat)) fun kk xH=>?_
   have Et:=hA.b v (by omega) (by omega)
   have hm1:0<=wl c p.fQ*A v:=Int.mul_nonneg (by omega) Et.1
   have hm2:wl c p.fQ*A v<=16*A v:=Int.mul_le_mul_of_nonneg_right hs.2 Et.1
   have ET:∀ x,x=p9 (lV A (wl c p.fQ) la) (min (v+1) b.toNat)->kk x=k (p9 (lV A (wl c p.fQ) la) b.toNat) (p9 (oy A (wl c p.fQ) la) (b+la).toNat):=by
    rintro x rfl
    rw[xH]
    have e:(nth c.fK p.fQ).yp=wl c p.fQ:=rfl
    have h2:0<=(max ((v:Int)-la) 0+wl c p.fQ-1) / wl c p.fQ:=Int.ediv_nonneg (by omega) (by omega)
    have h3:(max ((v:Int)-la) 0+wl c p.fQ-1) / wl c p.fQ<=max ((v:Int)-la) 0+wl c p.fQ-1:=Int.ediv_le_self _ (by omega)
    rw[e,xL (by omega),xQ (x:=(v:Int)-la) (by omega),xQ (x:=max ((v:Int)-la) 0+wl c p.fQ) (by omega),xQ (x:=max ((v:Int)-la) 0+wl c p.fQ-1) (by omega),aX (by omega),xQ (x:=(max ((v:Int)-la) 0+wl c p.fQ-1) / wl c p.fQ) (by omega),xQ (x:=A v-(max ((v:Int)-la) 0+wl c p.fQ-1) / wl c p.fQ) (by omega),xQ (x:=(v:Int)+1) (by omega)]
    have:=Jv (k:=k) (most:=most) hA ht hs hb zX n (v+1) (by push_cast;omega) (by push_cast;omega)
    rw[<- this]
    rfl
   by_cases h5:(v:Int)<b
   ·rw[Nv h5]
    refine ET _ ?_
    have e:(nth c.fK p.fQ).yp=wl c p.fQ:=rfl
    rw[e,xQ (x:=wl c p.fQ*A v) (by omega),xQ (x:=wl c p.fQ*A v-v) (by omega),xQ (by omega),show min (v+1) b.toNat=v+1 by omega,show min v b.toNat=v by omega]
    rfl
   ·rw[Nw h5]
    refine ET _ ?_
    rw[show min (v+1) b.toNat=b.toNat by omega,show min v b.toNat=b.toNat by omega]
  ·rw[Nw h,show min v b.toNat=b.toNat by omega,show v=(b+la).toNat by omega]
theorem MK{c:Cf}{rs:List (List Hop)}{de:DM}{p:Pl}{fs:List (Int->Option Int)}{most:Int}(hS:Small c)(hp:PI c p)(hA:AOK A)(ha:fc c rs p de=some (fs,most))(Da:0<=most/\most<=72)(ht:∀ t,0<=t->t<=4294967296->qO fs t=some (A t))(hs:1<=wl c p.fQ/\wl c p.fQ<=16)(zX:0<=qu c p.ya/\qu c p.ya<=1000):
  uk c rs p de=some (if BZ A (wl c p.fQ)<=32768 then(HB c A most p,0) else(⟨0,0,0,0⟩,360)):=by
 unfold uk
 rw[ha,oB,xL ⟨hp.l0,hp.l1⟩,Wh hS hp.n0 hp.n1,oB]
 have hF:=wi
 generalize xR=N at hF ⊢
 refine wA (P:=fun o=>o=some (if BZ A (wl c p.fQ)<=32768 then(HB c A most p,0) else(⟨0,0,0,0⟩,360))) fun k hk=>?_
 rw[Ju (A:=A) hA ht hs 32768 N 1 (by omega) (by omega) (by omega) (by omega)]
 have e:iF A (wl c p.fQ) 32768 1=BZ A (wl c p.fQ):=rfl
 rw[e]
 by_cases h:BZ A (wl c p.fQ)<=32768
 ·rw[if_pos h,if_pos h,hk]
  refine dX (P:=fun o=>o=some (HB c A most p,0)) fun k2 qh=>?_
  have hb:=Wl A (wl c p.fQ)
  have:=Jv (k:=k2) (most:=most) (la:=qu c p.ya) hA ht hs ⟨hb.1,h⟩ zX N 0 (by omega) (by omega)
  simp only[Nat.zero_min,p9] at this
  rw[show((0:Nat):Int)=0 from rfl] at this
  rw[this,qh]
  refine congrArg some ?_
  unfold HB
  have jf:=nr (oy A (wl c p.fQ) (qu c p.ya)) (BZ A (wl c p.fQ)+qu c p.ya).toNat
  have hst2:p9 (oy A (wl c p.fQ) (qu c p.ya)) (BZ A (wl c p.fQ)+qu c p.ya).toNat<=18014398509481984:=aZ (by omega) fun t h0 h1=>by
   have h2:0<=(max (t-qu c p.ya) 0+wl c p.fQ-1) / wl c p.fQ:=Int.ediv_nonneg (by omega) (by omega)
   have:=(hA.b t h0 (by omega)).2
   unfold oy;omega
  rw[xQ (by omega)]
 ·rw[if_neg h,if_neg h]
theorem ML{c:Cf}{most:Int}{p:Pl}(hm:∀ t t',0<=t->t<=t'->A t<=A t')(h0:1<=A 0)(hs:1<=wl c p.fQ/\wl c p.fQ<=16)(zX:0<=qu c p.ya/\qu c p.ya<=1000)(h:BZ A (wl c p.fQ)<=32768):qu c p.ya+wl c p.fQ<=(HB c A most p).yl/\(HB c A most p).yl<=33768:=by
 have hb:=Wl A (wl c p.fQ)
 constructor
 ·have:=Wj (f:=lV A (wl c p.fQ) (qu c p.ya)) (n:=(BZ A (wl c p.fQ)).toNat) (t:=0) (by omega) (by omega)
  have h2:wl c p.fQ*1<=wl c p.fQ*A 0:=Int.mul_le_mul_of_nonneg_left h0 (by omega)
  show _<=p9 _ _
  unfold lV at this ⊢
  omega
 ·refine aZ (by omega) fun t t0 t1=>?_
  have h2:=GE h
  have h3:wl c p.fQ*A t<=wl c p.fQ*A (BZ A (wl c p.fQ)-1):=Int.mul_le_mul_of_nonneg_left (hm _ _ t0 (by omega)) (by omega)
  unfold lV;omega
end
section
theorem nu{l:List Pl×Int}{k:List ys->Option (List ys×Int)}(hl:l.1.length<=1000000):∀(n:Nat) (o:List ys) (v:Int),0<=v->v<=l.1.length->l.1.length<n+v->o.length=v->
  fu l k n o v=k (o++(l.1.drop v.toNat).map fun p=>⟨p.ya,p.fQ,0,0⟩)
 | 0,o,v,h0,h1,h2,h3=>by omega
 | n+1,o,v,h0,h1,h2,h3=>by
  rw[fu]
  by_cases h:v<l.1.length
  ·rw[Nv h,xL ⟨h0,h⟩,xL (by simp;omega),kd h0 h,xQ (x:=v+1) (by omega)]
   rw[nu hl n _ (v+1) (by omega) (by omega) (by omega) (by simp;omega),show(v+1).toNat=v.toNat+1 by omega]
   simp
  ·rw[Nw h,List.drop_eq_nil_of_le (by omega)];simp
theorem Jw{c:Cf}{net:Int}{rs:List (List Hop)}(hf:FewP c rs)(hv:VA c net rs):
  (∃ l,l.Perm (PS rs)/\qC rs l/\mG c net rs=some (l.map fun p=>⟨p.ya,p.fQ,0,0⟩,0))\/(∃ s,bR rs s/\mG c net rs=some ([],351)):=by
 unfold mG
 obtain⟨b,q1,q2⟩:=cY hf.small (net:=net) (rs:=rs) (fun r hr=>by have:=hf.e r hr;omega) (by have:=hf.r;omega)
 rw[q1,q2.2 hv,oB,if_neg (by simp)]
 have Eo:=aK hf.e
 have hr:=hf.r
 have h3:rs.length*40<=20*40:=Nat.mul_le_mul_right _ hr
 rcases J3 (rs:=rs) (fun r h=>by have:=hf.e r h;omega) (by omega) with⟨l,e1,e2,e3⟩ | ⟨s,e1,e2⟩
 ·rw[e3,oB]
  have eW:=e1.length_eq
  refine .inl ⟨l,e1,e2,?_⟩
  refine wA (P:=fun o=>o=_) fun k hk=>?_
  rw[nu (l:=(l,0)) (by show l.length<=_;omega) xR [] 0 (by omega) (by omega) (by rw[wi];show((l.length:Nat):Int)<_;omega) rfl,hk]
  simp
 ·rw[e2,oB]
  refine .inr ⟨s,e1,?_⟩
  refine wA (P:=fun o=>o=_) fun k hk=>?_
  rw[nu (l:=([],351)) (by simp) xR [] 0 (by omega) (by simp) (by rw[wi];simp) rfl,hk]
  simp
def Er(e:Int):Prop:=0<=e/\e<=9
theorem ba{e:Int}(h:e=0\/e=2\/e=3\/e=6:=by first | exact .inl rfl | exact .inr (.inl rfl) | exact .inr (.inr (.inl rfl)) | exact .inr (.inr (.inr rfl))):Er e:=by unfold Er;omega
theorem Qc{q:Rat}:Er (mk q).2:=by unfold mk Er;split <;> simp
theorem bc(x y:R):Er (YJ x y).2:=by
 unfold YJ
 by_cases h:V x=true/\V y=true
 ·rw[J6 h.1 h.2];exact Qc
 ·rw[KJ h];exact ba
theorem Jx{x y:R}:Er (Je x y).2:=by
 unfold Je
 by_cases h:V x=true/\V y=true
 ·rw[W5 h.1 h.2];exact Qc
 ·rw[KK h];exact ba
theorem FK{x y:R}:Er (MUL x y).2:=by
 unfold MUL
 by_cases h:V x=true/\V y=true
 ·rw[J7 h.1 h.2];exact Qc
 ·rw[KL h];exact ba
theorem Tf{x y:R}(h0:y.fN≠0):Er (DIV x y).2:=by
 unfold DIV
 by_cases h:V x=true/\V y=true
 ·rw[W6 h.1 h.2 h0];exact Qc
 ·rw[KM h];exact ba
theorem cg{e:Int}{r:R×Int}(h1:Er e)(h2:Er r.2):Er (CD e r).2:=by
 unfold CD;split
 ·exact h1
 ·split <;> exact h2
theorem Tg(c:List B)(t:R):Er (YK c t).2:=by
 unfold YK
 by_cases h:VC c=true/\GR t=true
 ·rw[U4 h.1 h.2]
  show Er (if c.all (nh (val t)) then(p8 (AT c (val t)),0) else(⟨0,0⟩,3):R×Int).2
  split <;> exact ba
 ·rw[Fq h];exact ba
theorem Th(c:List B):Er (dW c).2:=by
 unfold dW
 cases h:VC c with
 | true=>
  have:=Vt h
  split at this
  ·obtain⟨r,e,_⟩:=this
   rw[e];exact ba
  ·rw[this];exact ba
 | false=>rw[Wa h];exact ba
theorem Jy(t:R):∀(l:List (List B)) (a:R×Int),Er a.2->Er (aS t l a).2
 | [],a,h=>h
 | c::l,a,h=>by
  rw[aS]
  refine Jy t l _ (cg ?_ (bc _ _))
  split
  ·exact Tg c t
  ·exact h
theorem dv_er{l:List (List B)}{s:SV}(h0:s.fR.fN≠0){e:Int}(he:Er e)(t:R):Er (dv l s e t).2:=by
 unfold dv
 exact cg (cg (cg (Jy _ _ _ he) (Tf h0)) (Jx)) (bc _ _)
theorem bv_er{l:List (List B)}{s:SV}{e:Int}(he:Er e)(t:R):Er (bv l s e t).2:=by
 unfold bv
 have h:=Jy t l (Z1,e) he
 simp only
 split
 ·exact h
 ·exact cg (cg (cg h (Jx)) (FK)) (Jx)
theorem FM{f:Int->R->R×Int}(hf:∀ e t,Er e->Er (f e t).2){P:List R}:Er (Vv f P).2:=by
 have h:∀(P:List R) (s:List R×Int),Er s.2->Er (P.foldl (uB f) s).2:=by
  intro P
  induction P with
  | nil=>intro s h;exact h
  | cons p P ih=>intro s h;rw[List.foldl_cons];exact ih _ (hf _ _ h)
 have:=h P ([],0) (ba (h:=(.inl rfl)))
 unfold Vv
 simp only
 split
 ·exact this
 ·exact ba
theorem Jz:∀(l:List (List B)) (a:R×Int),Er a.2->match YL l a with | .inl e=>Er e | .inr r=>Er r.2
 | [],a,h=>h
 | c::l,a,h=>by
  rw[YL]
  split
  ·rename_i e he
   split at he
   ·injection he with he;subst he;exact Th c
   ·have:=Jz l _ (cg h (bc a.1 (Vw c).1));rw[he] at this;exact this
  ·rename_i e he
   split at he
   ·cases he
   ·have:=Jz l _ (cg h (bc a.1 (Vw c).1));rw[he] at this;exact this
theorem FO(l:List (List B))(s:SV):Er (lp l s):=by
 unfold lp
 split
 ·exact ba
 ·have h:=Jz l (Z1,0) (ba (h:=(.inl rfl)))
  split
  ·rename_i e he;rw[he] at h;exact h
  ·rename_i r he;rw[he] at h
   split
   ·exact h
   ·split <;> exact ba
theorem DL_er(l:List (List B))(s:SV)(h0:s.fR.fN≠0):Er (DL l s).2:=by
 unfold DL
 split
 ·exact FM (fun e t he=>dv_er h0 he t)
 ·exact FO l s
theorem BL_er(l:List (List B))(s:SV):Er (BL l s).2:=by
 unfold BL
 split
 ·exact FM (fun e t he=>bv_er he t)
 ·exact FO l s
theorem Qd{e:Int}{r:R×Int}(h1:Er e)(h2:Er r.2):Er (DO e r).2:=by
 unfold DO;simp only;split
 ·exact h2
 ·exact h1
theorem CU_er{c:Cf}{rs:List (List Hop)}{bu:BM}{de:DM}{e:Int}{p:Pl}(he:Er e):Er (CU c rs bu de e p).2.2.1:=by
 have h1:∀(l:List Int) (s:CS),Er s.e->Er (l.foldl (sK c rs de p) s).e:=by
  intro l
  induction l with
  | nil=>intro s h;exact h
  | cons v l ih=>
   intro s h;rw[List.foldl_cons];refine ih _ ?_
   unfold sK;simp only
   split
   ·split
    ·exact Qd (Qd h (FK)) (bc _ _)
    ·exact h
   ·exact h
 have h2:∀(bu:BM) (l:List Int) (s:GS),Er s.e->Er (l.foldl (gst c bu p) s).e:=by
  intro bu l
  induction l with
  | nil=>intro s h;exact h
  | cons v l ih=>intro s h;rw[List.foldl_cons];exact ih _ (Qd (Qd h (bc _ _)) (bc _ _))
 have h3:∀(lk:List (Int×List Int)) (bu:BM) (l:List Int) (s:List (List B)×Int),Er s.2->Er (l.foldl (b7 c lk bu p) s).2:=by
  intro lk bu l
  induction l with
  | nil=>intro s h;exact h
  | cons q l ih=>
   intro s h;rw[List.foldl_cons];refine ih _ ?_
   unfold b7;split
   ·exact h
   ·exact h2 _ _ _ h
 unfold CU
 exact h3 _ _ _ _ (h1 _ _ he)
theorem z1iQ{e a b:Int}(h1:Er e)(h2:Er a)(h3:Er b):fe e a b=352\/Er (fe e a b):=by
 unfold fe er Er at *
 repeat' split
 all_goals omega
theorem zWk{c:Cf}{rs:List (List Hop)}:∀(l:List Pl) (s:WS) (e:Int),s.e=0->iR c rs l s = .inr e->e≠350
 | [],s,e,_,h=>by cases h
 | p::l,s,e,h0,h=>by
  rw[iR] at h
  split at h
  ·injection h with h;subst h
   show fe _ _ _≠350
   rcases z1iQ (CU_er (c:=c) (rs:=rs) (bu:=s.bu) (de:=s.de) (p:=p) (e:=s.e) (by rw[h0];exact ba)) (DL_er (CU c rs s.bu s.de s.e p).1 (srv c p) (by show(1:Int)≠0;decide)) (BL_er (CU c rs s.bu s.de s.e p).1 (srv c p)) with h | h
   ·rw[h];decide
   ·unfold Er at h;omega
  ·rename_i hn
   exact zWk l _ e (by simpa using hn) h
end
section
variable {rs:List (List Hop)}{net:Int}{p:Pl}{D:Pl->Int}{l1 l2:List Pl}{r:List Hop}
def nR(c:Cf)(rs:List (List Hop))(D:Pl->Int)(p:Pl):Int:=BZ (g0 c (fws c rs D p)) (wl c p.fQ)
def l9(c:Cf)(rs:List (List Hop))(D:Pl->Int)(p:Pl):PB:=HB c (g0 c (fws c rs D p)) (pU c (fws c rs D p)) p
def dD(de:DM):Pl->Int:=fun q=>xI de q 0
def iS(c:Cf)(rs:List (List Hop)):List Pl->DM->List PB->Option (DM×List PB)
 | [],de,out=>some (de,out)
 | p::l,de,out=>if nR c rs (dD de) p<=32768 then iS c rs l (w6 de p (l9 c rs (dD de) p).yl) (out++[l9 c rs (dD de) p]) else none
structure HI (c:Cf) (ps:List Pl) (D:Pl->Int):Prop where
 i:∀ q∈ps,qu c q.ya+wl c q.fQ<=D q/\D q<=33768
 o:∀ q,q∉ps->D q=0
theorem qC.clo{c:Cf}(hv:VA c net rs)(h:qC rs (l1++p::l2))(hr:r∈rs){x:Hop}(hx:x∈r)(hp:pk x∈l1\/pk x=p){g:Hop}(hg:g∈r)(e:g.fX=x.ya):pk g∈l1:=by
 have hpr:aM rs (pk x) (pk g):=(Fg hv).1 ⟨r,hr,g,hg,x,hx,e,rfl,rfl⟩
 rcases hp with hp | hp
 ·obtain⟨a,b,e2⟩:=List.append_of_mem hp
  rw[e2]
  have:=h a (pk x) (b++p::l2) (by rw[e2];simp) _ hpr
  exact List.mem_append_left _ this
 ·exact h l1 p l2 rfl _ (hp▸hpr)
theorem HI.rng{c:Cf}(hS:Small c)(hv:VA c net rs){ps:List Pl}(h:HI c ps D)(hr:r∈rs){x:Hop}(hx:x∈r):0<=D (pk x)/\D (pk x)<=33768:=by
 have hh:=(hv.each r hr).hop hS hx
 by_cases hq:pk x∈ps
 ·have:=h.i _ hq
  have e1:(pk x).ya=x.ya:=rfl
  have e2:(pk x).fQ=x.fQ:=rfl
  rw[e1,e2] at this
  have:=hh.s0;have:=hh.d0
  omega
 ·rw[h.o _ hq];omega
theorem HI.jn0{c:Cf}(hS:Small c)(hv:VA c net rs)(ho:qC rs (l1++p::l2))(h:HI c l1 D)(hr:r∈rs):∀ x∈r,(pk x∈l1\/pk x=p)->0<=jn c D r x.ya:=by
 have Bw:=hv.each r hr
 refine Bw.ind (P:=fun x=>(pk x∈l1\/pk x=p)->0<=jn c D r x.ya) (fun x hx e _=>?_) (fun g hg x hx e ih hp=>?_)
 ·rw[e,Bw.jn_start];exact Int.le_refl _
 ·have hgm:=ho.clo hv hr hx hp hg e
  have h1:=h.i _ hgm
  have h2:=ih (.inl hgm)
  rw[<- e,Bw.jn_next D hg]
  have e1:(pk g).ya=g.ya:=rfl
  have e2:(pk g).fQ=g.fQ:=rfl
  rw[e1,e2] at h1
  omega
theorem Wm{c:Cf}(hS:Small c)(hv:VA c net rs){M:Int}(hr:r∈rs)(hD:∀ h∈r,-M<=D (pk h)/\D (pk h)<=M)(n:Int)(hM:0<=M:=by omega) : -(32*(M+1016))<=jn c D r n/\jn c D r n<=32*(M+1016):=by
 have h:=Jt (c:=c) (D:=D) hS (hv.each r hr) hM hD r.length n
 rw[List.take_of_length_le (Nat.le_refl _)] at h
 exact h
theorem JA{c:Cf}{x:Fw}(hx:x∈fws c rs D p):∃ h∈nth rs x.v,nth rs x.v∈rs/\0<=x.v/\x.v<rs.length/\pk h=p/\x.j=jn c D (nth rs x.v) h.ya/\x.k=sW (nth rs x.v) p:=by
 obtain⟨v,v0,v1,hu,rfl⟩:=aY.1 hx
 obtain⟨h,hh,e⟩:=rx.1 hu
 refine⟨h,hh,wp v0 v1,v0,v1,e,?_,rfl⟩
 rw[<- e];rfl
theorem HI.ok{c:Cf}(hS:Small c)(hv:VA c net rs)(ho:qC rs (l1++p::l2))(h:HI c l1 D):FwOK c (fws c rs D p):=by
 refine GD hS hv fun x hx=>?_
 obtain⟨y,hy,hr,_,_,e,ej,_⟩:=JA hx
 have h1:=h.jn0 hS hv ho hr y hy (.inr e)
 have h2:=Wm (c:=c) (D:=D) hS hv (M:=33768) hr (fun z hz=>by have:=h.rng hS hv hr hz;omega) y.ya
 rw[ej];omega
theorem UH{c:Cf}(hv:mI c){l:List Fw}(hl:FwOK c l){x:Fw}(hx:x∈l){t:Int}(h0:0<=t)(h1:t<=4294967296):1<=g0 c l t:=by
 have hb:=(oD hv hl hx h0 h1).1
 have hk:=hl.k0 x hx
 have hm:=hv.mx (hl.v0 x hx).1 (hl.v0 x hx).2
 have oH:x∈l.filter fun y=>decide (y.k=x.k):=List.mem_filter.2 ⟨hx,by simp⟩
 have hg:1<=sL c l t x.k:=by
  have:=Xm (f:=fun x=>pX c x t) (l:=l.filter fun y=>decide (y.k=x.k)) (fun y hy=>by have:=(oD hv hl (List.mem_filter.1 hy).1 h0 h1).1;omega) oH
  unfold sL;omega
 have hw:1<=rV c l x.k:=by
  have:=Xn (x:=mx c x.v) (l:=(l.filter fun y=>decide (y.k=x.k)).map fun x=>mx c x.v) (List.mem_map.2 ⟨x,oH,rfl⟩)
  unfold rV;omega
 have hgv:1<=uv c l t x.k:=by
  have hd:0<=t / max 1 (wl c x.k):=Int.ediv_nonneg h0 (by omega)
  unfold uv;split <;> omega
 have:=Xm (f:=uv c l t) (l:=nP c) (fun L _=>(rN hv hl h0 h1).1) (x:=x.k) (by unfold nP;exact gX.2 ⟨by omega,by push_cast;omega⟩)
 unfold g0;omega
theorem YN{c:Cf}(hv:mI c){l:List Fw}(hl:FwOK c l):0<=pU c l/\pU c l<=72:=by
 unfold pU
 refine⟨lX _,KR (by omega) fun x hx=>?_⟩
 obtain⟨y,hy,rfl⟩:=List.mem_map.1 hx
 exact(hv.mx (hl.v0 y hy).1 (hl.v0 y hy).2).2.1
theorem Ti{c:Cf}(hS:Small c)(hv:VA c net rs)(hp:p∈PS rs):∃ r∈rs,∃ h∈r,pk h=p/\HV c h:=by
 obtain⟨r,hr,h,hh,e⟩:=(sG rs (p:=p)).1 hp
 exact⟨r,hr,h,hh,e,(hv.each r hr).hop hS hh⟩
theorem Y0{c:Cf}(hS:Small c)(hv:VA c net rs)(hp:p∈PS rs):(1<=wl c p.fQ/\wl c p.fQ<=16)/\(0<=qu c p.ya/\qu c p.ya<=1000):=by
 obtain⟨r,hr,h,hh,rfl,hx⟩:=Ti hS hv hp
 exact⟨⟨hx.s0,hx.s1⟩,⟨hx.d0,hx.d1⟩⟩
theorem fw_ex{c:Cf}{net:Int}(hp:p∈PS rs):∃ x,x∈fws c rs D p:=by
 obtain⟨r,hr,h,hh,e⟩:=(sG rs (p:=p)).1 hp
 obtain⟨i,i0,i1,rfl⟩:=tB hr
 exact⟨_,aY.2 ⟨i,i0,i1,rx.2 ⟨h,hh,e⟩,rfl⟩⟩
theorem MM{c:Cf}(hS:Small c)(hv:VA c net rs)(hV:mI c)(ho:qC rs (l1++p::l2))(hp:p∈PS rs){de:DM}(h:HI c l1 (dD de)):
  uk c rs p de=some (if nR c rs (dD de) p<=32768 then(l9 c rs (dD de) p,0) else(⟨0,0,0,0⟩,360)):=by
 have tg:=h.ok hS hv ho
 obtain⟨fs,e,ht⟩:=Kk (p:=p) (de:=de) hS hv hV (fun r hr x hx=>by have:0<=xI de (pk x) 0/\xI de (pk x) 0<=33768:=h.rng hS hv hr hx;omega) tg.j0
 obtain⟨h1,h2⟩:=Y0 hS hv hp
 exact MK hS (hv.pi hS hp) ⟨fun t t0 t1=>FI hS hV tg t0 t1⟩ e (YN hV tg) ht h1 h2
theorem HI.put{c:Cf}(hS:Small c)(hv:VA c net rs)(hV:mI c)(ho:qC rs (l1++p::l2))(hp:p∈PS rs){de:DM}(h:HI c l1 (dD de))(hb:nR c rs (dD de) p<=32768):HI c (l1++[p]) (dD (w6 de p (l9 c rs (dD de) p).yl)):=by
 have tg:=h.ok hS hv ho
 obtain⟨h1,h2⟩:=Y0 hS hv hp
 obtain⟨x,hx⟩:=fw_ex (c:=c) (net:=net) (D:=dD de) hp
 have hd:=ML (A:=g0 c (fws c rs (dD de) p)) (most:=pU c (fws c rs (dD de) p)) (fun t t' _ ht=>MJ hV tg ht) (UH hV tg hx (t:=0) (by omega) (by omega)) h1 h2 hb
 refine⟨fun q hq=>?_,fun q hq=>?_⟩
 ·unfold dD;rw[gW]
  by_cases e:q=p
  ·rw[if_pos e,e];exact hd
  ·rw[if_neg e]
   rcases List.mem_append.1 hq with hq | hq
   ·exact h.i q hq
   ·exact absurd (List.mem_singleton.1 hq) e
 ·unfold dD;rw[gW,if_neg (fun e=>hq (by rw[e];simp))]
  exact h.o q fun hm=>hq (List.mem_append_left _ hm)
theorem YO{c:Cf}{net:Int}{rs:List (List Hop)}{l:List Pl}{e0:Int}{k:List PB->Option (yL×Int)}(hS:Small c)(hv:VA c net rs)(hV:mI c)(Eb:∀ p∈l,p∈PS rs)(ho:qC rs l)(xS:l.length<=100000):
  ∀(n:Nat) (v:Int) (de:DM) (out:List PB),0<=v->v<=l.length->l.length<n+v->out.length=v->HI c (l.take v.toNat) (dD de)->
   kB (l.map fun p=>(⟨p.ya,p.fQ,0,0⟩:ys),e0) c rs k n v de out=match iS c rs (l.drop v.toNat) de out with | some t=>k t.2 | none=>some (⟨[],[]⟩,360)
 | 0,v,de,out,h0,h1,h2,h3,h4=>by omega
 | n+1,v,de,out,h0,h1,h2,h3,h4=>by
  rw[kB]
  have hml:(((l.map fun p=>(⟨p.ya,p.fQ,0,0⟩:ys)).length:Nat):Int)=l.length:=by rw[List.length_map]
  simp only[hml]
  by_cases h:v<l.length
  ·have hsp:l=l.take v.toNat++nth l v::l.drop (v.toNat+1):=by rw[<- kd h0 h,List.take_append_drop]
   have CH:=Eb _ (wp h0 h)
   rw[Nv h,xL ⟨h0,h⟩,kd h0 h,iS]
   have en:nth (l.map fun p=>(⟨p.ya,p.fQ,0,0⟩:ys)) v=⟨(nth l v).ya,(nth l v).fQ,0,0⟩:=by
    rw[kh ⟨h0,by rw[List.length_map];exact h⟩,List.getElem_map,<- kh ⟨h0,h⟩]
   have ho2:qC rs (l.take v.toNat++nth l v::l.drop (v.toNat+1)):=hsp▸ho
   rw[en]
   have ep:(⟨(nth l v).ya,(nth l v).fQ⟩:z6)=nth l v:=rfl
   simp only[ep]
   rw[MM hS hv hV ho2 CH h4,oB]
   by_cases hb:nR c rs (dD de) (nth l v)<=32768
   ·rw[if_pos hb,if_pos hb,if_neg (by simp)]
    have hol:(out++[l9 c rs (dD de) (nth l v)]).length=v+1:=by rw[List.length_append,List.length_singleton];push_cast;omega
    rw[xL (by rw[hol];omega),xQ (x:=v+1) (by omega)]
    have h5:=h4.put hS hv hV ho2 CH hb
    have et:l.take (v+1).toNat=l.take v.toNat++[nth l v]:=by
     rw[show(v+1).toNat=v.toNat+1 by omega,List.take_succ_eq_append_getElem (by omega),kh ⟨h0,h⟩]
    rw[<- et] at h5
    rw[YO hS hv hV Eb ho xS n (v+1) _ _ (by omega) (by omega) (by omega) hol h5,show(v+1).toNat=v.toNat+1 by omega]
   ·rw[if_neg hb,if_neg hb,if_pos (by simp)]
  ·rw[Nw h,List.drop_eq_nil_of_le (by omega),iS]
theorem JB{c:Cf}{rs:List (List Hop)}:∀(l:List Pl) (de:DM) (out:List PB) (t:DM×List PB),iS c rs l de out=some t->t.2.map kC=out.map kC++l/\t.2.length=out.length+l.length
 | [],de,out,t,h=>by injection h with h;subst h;simp
 | p::l,de,out,t,h=>by
  rw[iS] at h
  split at h
  ·obtain⟨h1,h2⟩:=JB l _ _ t h
   rw[h1,h2]
   refine⟨?_,by simp;omega⟩
   rw[List.map_append]
   simp only[List.map_cons,List.map_nil,List.append_assoc,List.cons_append,List.nil_append]
   rfl
  ·cases h
theorem MN{l:List PB}(hn:(l.map kC).Nodup)(hs:l.length<=1000000)(hb:∀ b∈l,-1000000000<=b.ya/\b.ya<=1000000000 /\ -1000000000<=b.fQ/\b.fQ<=1000000000):
  wt l (fun y0 y1=>wK y0 y1)=some (wx wK l)/\(wx wK l).Pairwise fun a b=>¬p7 (kC b) (kC a):=by
 have hp:∀ x∈l,∀ y∈l,∃ v,wK x y=some v/\(v<0↔p7 (kC x) (kC y))/\(v<=0↔¬p7 (kC y) (kC x)):=by
  intro x hx y hy
  have:=hb x hx;have:=hb y hy
  unfold wK p7 kC
  simp only[ne_eq,decide_eq_true_eq]
  by_cases e:x.ya=y.ya
  ·rw[if_neg (by simpa using e),xQ (by omega)]
   exact⟨_,rfl,by omega,by omega⟩
  ·rw[if_pos (by simpa using e),xQ (by omega)]
   exact⟨_,rfl,by omega,by omega⟩
 have BP:∀ x∈l,∀ y∈l,kC x=kC y->x=y:=by
  intro x hx y hy e
  obtain⟨i,hi,rfl⟩:=List.getElem_of_mem hx
  obtain⟨j,hj,rfl⟩:=List.getElem_of_mem hy
  have h1:(l.map kC)[i]'(by simpa using hi)=(l.map kC)[j]'(by simpa using hj):=by simpa using e
  have:=(List.getElem_inj (h₀:=by simpa using hi) (h₁:=by simpa using hj) hn).1 h1
  subst this;rfl
 obtain⟨ho,BN⟩:=Yd (p:=wK) (lt:=fun a b=>p7 (kC a) (kC b)) (l:=l) hp (fun x y=>Xf _ _) (fun x y z=>QX _ _ _) (fun x hx y hy h1 h2=>BP x hx y hy (W1 h1 h2))
 refine⟨?_,BN⟩
 unfold wt fj jA
 rw[Ye,xL (by omega),oB]
 have hb:=n7 l.length
 rw[Int.toNat_natCast,xL ⟨⟨rfl,rfl⟩,by omega,by omega,by omega⟩,xL ho,oB]
theorem VH:∀ {a b:List Pl},a.Perm b->a.Nodup->a.Pairwise (fun x y=>¬p7 y x)->b.Pairwise (fun x y=>¬p7 y x)->a=b
 | [],b,hp,_,_,_=>by have:=hp.length_eq;cases b with | nil=>rfl | cons y b=>simp at this
 | x::a,[],hp,_,_,_=>by have:=hp.length_eq;simp at this
 | x::a,y::b,hp,hn,ha,hb=>by
  have hxy:x=y:=by
   have h1:x∈y::b:=hp.subset (by simp)
   have h2:y∈x::a:=hp.symm.subset (by simp)
   rcases List.mem_cons.1 h1 with h1 | h1
   ·exact h1
   rcases List.mem_cons.1 h2 with h2 | h2
   ·exact h2.symm
   exact W1 ((List.pairwise_cons.1 hb).1 x h1) ((List.pairwise_cons.1 ha).1 y h2)
  subst hxy
  rw[VH hp.cons_inv (List.nodup_cons.1 hn).2 (List.pairwise_cons.1 ha).2 (List.pairwise_cons.1 hb).2]
theorem FP(hr:∀ r∈rs,r.length<=1000)(hl:rs.length<=100):(PS rs).Pairwise fun a b=>¬p7 b a:=by
 refine(QY ?_).2
 have h1:=n8 (n9 rs) []
 have h2:=Xg hr
 have h3:rs.length*1000<=100*1000:=Nat.mul_le_mul_right _ hl
 simp only[List.length_nil] at h1
 omega
inductive HC (c:Cf) (net:Int) (rs:List (List Hop)):yL×Int->Prop
 | route:¬VA c net rs->HC c net rs (⟨[],[]⟩,310)
 | vl:VA c net rs->¬bS c->HC c net rs (⟨[],[]⟩,350)
 | cycle (s:List Pl):VA c net rs->bS c->bR rs s->HC c net rs (⟨[],[]⟩,351)
 | busy (l:List Pl):VA c net rs->bS c->l.Perm (PS rs)->qC rs l->iS c rs l [] []=none->HC c net rs (⟨[],[]⟩,360)
 | ok (l:List Pl) (t:DM×List PB):VA c net rs->bS c->l.Perm (PS rs)->qC rs l->iS c rs l [] []=some t->(wx wK t.2).map kC=PS rs->HC c net rs (⟨wx wK t.2,EN c rs (wx wK t.2)⟩,0)
theorem HC_eq{c:Cf}(hf:FewP c rs):∃ x,me c net rs=some x/\HC c net rs x:=by
 have hS:=hf.small
 have Bv:∀ r∈rs,r.length<1000000000:=fun r hr=>by have:=hf.e r hr;omega
 have hrs:=hf.r
 obtain⟨y,cy,hcp⟩:=GA (net:=net) hf
 unfold me
 by_cases hv:VA c net rs
 ·have Eo:=aK hf.e
  have h3:rs.length*40<=20*40:=Nat.mul_le_mul_right _ hrs
  rw[cy]
  by_cases zW:bS c
  ·have hy:y.2≠350:=by
    cases hcp with
    | route h=>exact absurd hv h
    | vl _ h=>exact absurd zW h
    | cycle=>decide
    | err l e _ _ _ _ h _=>exact zWk l w0 e rfl h
    | ok=>exact(show(0:Int)≠350 by decide)
   rcases Jw (net:=net) hf hv with⟨l,e1,e2,e3⟩ | ⟨s,e1,e2⟩
   ·have eW:=e1.length_eq
    rw[e3,oB,if_neg (by simp),oB,Nw hy,if_neg (by simp)]
    refine wA (P:=fun o=>∃ x,o=some x/\HC c net rs x) fun k hk=>?_
    have hL:=YO (l:=l) (e0:=0) (k:=k) hS hv zW.vls (fun p hp=>e1.subset hp) e2 (by omega) xR 0 [] [] (by omega) (by omega) (by rw[wi];omega) rfl ⟨by simp,fun q _=>rfl⟩
    simp only[Int.toNat_zero,List.drop_zero] at hL
    rw[hL]
    cases eT:iS c rs l [] [] with
    | none=>exact⟨_,rfl,.busy l hv zW e1 e2 eT⟩
    | some t=>
     obtain⟨o1,o2⟩:=JB l [] [] t eT
     have hol:t.2.length=l.length:=by rw[o2];simp
     have BQ:t.2.map kC=l:=by rw[o1];simp
     have Aq:(t.2.map kC).Nodup:=by rw[BQ];exact e1.nodup_iff.2 (lR rs)
     simp only
     have DN:=MN (l:=t.2) Aq (by omega) (fun b hb=>by
      have hm:kC b∈PS rs:=e1.subset (by rw[<- BQ];exact List.mem_map.2 ⟨b,hb,rfl⟩)
      have:=hv.pi hS hm
      have a:=this.l0;have b1:=this.l1;have d:=this.n0;have f:=this.n1
      have:=hS.l;have:=hS.m;have:=hS.s
      unfold nN at f
      have e4:(kC b).ya=b.ya:=rfl
      have e5:(kC b).fQ=b.fQ:=rfl
      omega)
     rw[hk,DN.1,oB,KQ (net:=net) hS hv.each (by omega) (by rw[tv];omega),oB]
     have hpp:((wx wK t.2).map kC).Perm (PS rs):=by
      refine((jS _ _).map kC).trans ?_
      rw[BQ];exact e1
     refine⟨_,rfl,.ok l t hv zW e1 e2 eT (VH hpp (hpp.nodup_iff.2 (lR rs)) ?_ (FP (fun r hr=>by have:=hf.e r hr;omega) (by omega)))⟩
     rw[List.pairwise_map]
     exact DN.2
   ·rw[e2,oB,if_neg (by simp),oB,Nw hy,if_pos (by simp)]
    exact⟨_,rfl,.cycle s hv zW e1⟩
  ·have hy:y=(⟨[],[]⟩,350):=by
    cases hcp with
    | route h=>exact absurd hv h
    | vl _ h=>rfl
    | cycle _ _ h=>exact absurd h zW
    | err _ _ _ h=>exact absurd h zW
    | ok _ _ _ h=>exact absurd h zW
   subst hy
   rcases Jw (net:=net) hf hv with⟨l,e1,e2,e3⟩ | ⟨s,e1,e2⟩
   ·rw[e3,oB,if_neg (by simp),oB,if_pos (by simp)]
    exact⟨_,rfl,.vl hv zW⟩
   ·rw[e2,oB,if_neg (by simp),oB,if_pos (by simp)]
    exact⟨_,rfl,.vl hv zW⟩
 ·have ho:mG c net rs=some ([],310):=by
   unfold mG
   obtain⟨b,q1,q2⟩:=cY hS (net:=net) (rs:=rs) Bv (by omega)
   have hb:b=false:=by
    cases b with
    | false=>rfl
    | true=>exact absurd (q2.1 rfl) hv
   rw[q1,hb];rfl
  rw[ho,oB,if_pos (by simp)]
  exact⟨_,rfl,.route hv⟩
end
section
variable {net:Int}{rs:List (List Hop)}{D:Pl->Int}
structure HF (c:Cf) (rs:List (List Hop)) (D:Pl->Int):Prop where
 b:∀ p∈PS rs,nR c rs D p<=32768
 d:∀ p∈PS rs,D p=(l9 c rs D p).yl
 r:∀ p∈PS rs,qu c p.ya+wl c p.fQ<=D p/\D p<=33768
 z:∀ p,p∉PS rs->D p=0
theorem FQ{c:Cf}(hv:VA c net rs){l1 l2:List Pl}{p:Pl}(ho:qC rs (l1++p::l2)){D':Pl->Int}(h:∀ q∈l1,D q=D' q):fws c rs D p=fws c rs D' p:=by
 unfold fws
 refine List.map_congr_left fun v hvm=>?_
 obtain⟨CB,hu⟩:=List.mem_filter.1 hvm
 have Bw:=gX.1 CB
 have hr:=wp (l:=rs) (i:=v) (by omega) (by omega)
 obtain⟨x,hx,e⟩:=rx.1 hu
 have hn:p.ya=x.ya:=by rw[<- e];rfl
 unfold uH
 rw[hn,(hv.each _ hr).jn_eq (D:=D) (D':=D') (S:=fun q=>q∈l1\/q=p) (fun y hy hs g hg eg=>?_) x hx (.inr e)]
 have:=ho.clo hv hr hy hs hg eg
 exact⟨.inl this,h _ this⟩
theorem JC{c:Cf}{net:Int}{rs:List (List Hop)}(hS:Small c)(hv:VA c net rs)(hV:mI c):∀(l2 l1:List Pl) (de:DM) (out:List PB) (t:DM×List PB),(l1++l2).Nodup->(∀ p∈l1++l2,p∈PS rs)->qC rs (l1++l2)->HI c l1 (dD de)->iS c rs l2 de out=some t->
  (∀ q,q∉l2->dD t.1 q=dD de q)/\HI c (l1++l2) (dD t.1)/\(∀ p∈l2,nR c rs (dD t.1) p<=32768/\dD t.1 p=(l9 c rs (dD t.1) p).yl)/\t.2=out++l2.map (l9 c rs (dD t.1))
 | [],l1,de,out,t,hn,hp,ho,hi,h=>by
  injection h with h;subst h
  simpa using hi
 | p::l2,l1,de,out,t,hn,hp,ho,hi,h=>by
  rw[iS] at h
  split at h
  ·rename_i hb
   have CH:=hp p (by simp)
   have e1:(l1++[p])++l2=l1++p::l2:=by simp
   have AO:p∉l2:=by
    have:=(List.nodup_append.1 hn).2.1
    exact(List.nodup_cons.1 this).1
   have zw:∀ q∈l1,q≠p:=by
    intro q hq e
    exact(List.nodup_append.1 hn).2.2 q hq p (by simp) e
   have hl12:∀ q∈l1,q∉l2:=by
    intro q hq h2
    exact(List.nodup_append.1 hn).2.2 q hq q (List.mem_cons_of_mem _ h2) rfl
   obtain⟨k1,k2,k3,k4⟩:=JC hS hv hV l2 (l1++[p]) _ _ t (by rw[e1];exact hn) (by rw[e1];exact hp) (by rw[e1];exact ho) (hi.put hS hv hV ho CH hb) h
   have EU:∀ q∈l1,dD de q=dD t.1 q:=by
    intro q hq
    rw[k1 q (hl12 q hq)]
    unfold dD;rw[gW,if_neg (zw q hq)]
   have hfw:=FQ hv ho EU
   have hpb:l9 c rs (dD de) p=l9 c rs (dD t.1) p:=by unfold l9;rw[hfw]
   have EW:nR c rs (dD de) p=nR c rs (dD t.1) p:=by unfold nR;rw[hfw]
   refine⟨fun q hq=>?_,by rw[<- e1];exact k2,fun q hq=>?_,?_⟩
   ·rw[k1 q fun hm=>hq (List.mem_cons_of_mem _ hm)]
    unfold dD;rw[gW,if_neg (fun e=>hq (by rw[e];simp))]
   ·rcases List.mem_cons.1 hq with rfl | hq
    ·refine⟨EW▸hb,?_⟩
     rw[k1 q AO,<- hpb]
     show xI (w6 de q _) q 0=_
     rw[gW,if_pos rfl]
    ·exact k3 q hq
   ·rw[k4,hpb];simp
  ·cases h
theorem Tj{c:Cf}(hS:Small c)(hv:VA c net rs)(hV:mI c){l:List Pl}{t:DM×List PB}(hp:l.Perm (PS rs))(ho:qC rs l)(h:iS c rs l [] []=some t):HF c rs (dD t.1)/\t.2=l.map (l9 c rs (dD t.1)):=by
 obtain⟨k1,k2,k3,k4⟩:=JC hS hv hV l [] [] [] t (by simpa using hp.nodup_iff.2 (lR rs)) (fun p hm=>hp.subset (by simpa using hm)) (by simpa using ho) ⟨by simp,fun q _=>rfl⟩ h
 simp only[List.nil_append] at *
 refine⟨⟨fun p hm=>(k3 p (hp.symm.subset hm)).1,fun p hm=>(k3 p (hp.symm.subset hm)).2,fun p hm=>k2.i p (hp.symm.subset hm),fun p hm=>k2.o p fun hq=>hm (hp.subset hq)⟩,k4⟩
theorem Tk{c:Cf}(hv:VA c net rs)(hD:∀ p∈PS rs,qu c p.ya+wl c p.fQ<=D p){r:List Hop}(hr:r∈rs):∀ x∈r,0<=jn c D r x.ya:=by
 have Bw:=hv.each r hr
 refine Bw.ind (P:=fun x=>0<=jn c D r x.ya) (fun x hx e=>?_) (fun g hg x hx e ih=>?_)
 ·rw[e,Bw.jn_start];exact Int.le_refl _
 ·have h1:=hD (pk g) ((sG rs).2 ⟨r,hr,g,hg,rfl⟩)
  rw[<- e,Bw.jn_next D hg]
  have e1:(pk g).ya=g.ya:=rfl
  have e2:(pk g).fQ=g.fQ:=rfl
  rw[e1,e2] at h1
  omega
theorem HF.rng{c:Cf}(h:HF c rs D)(hS:Small c)(hv:VA c net rs){r:List Hop}(hr:r∈rs){x:Hop}(hx:x∈r):0<=D (pk x)/\D (pk x)<=33768:=by
 have hm:pk x∈PS rs:=(sG rs).2 ⟨r,hr,x,hx,rfl⟩
 have h1:=h.r _ hm
 have h2:=Y0 hS hv hm
 omega
theorem HF.ok{c:Cf}(h:HF c rs D)(hS:Small c)(hv:VA c net rs)(p:Pl):FwOK c (fws c rs D p):=by
 refine GD hS hv fun x hx=>?_
 obtain⟨y,hy,hr,_,_,e,ej,_⟩:=JA hx
 have h1:=Tk hv (fun p hm=>(h.r p hm).1) hr y hy
 have h2:=Wm (c:=c) (D:=D) hS hv (M:=33768) hr (fun z hz=>by have:=h.rng hS hv hr hz;omega) y.ya
 rw[ej];omega
end
section
variable {rs:List (List Hop)}{ps:List PB}{D:Pl->Int}
theorem JD{b:PB}:∀ {l:List PB},(l.map kC).Nodup->b∈l->xI (dem l) (kC b) 0=b.yl
 | [],_,h=>by cases h
 | a::l,hn,h=>by
  show xI (w6 (dem l) (kC a) a.yl) (kC b) 0=_
  rw[List.map_cons,List.nodup_cons] at hn
  rw[gW]
  by_cases e:kC b=kC a
  ·rw[if_pos e]
   rcases List.mem_cons.1 h with h | h
   ·rw[h]
   ·exact absurd (List.mem_map.2 ⟨b,h,e⟩) hn.1
  ·rw[if_neg e]
   rcases List.mem_cons.1 h with h | h
   ·exact absurd (by rw[h]) e
   ·exact JD hn.2 h
def di(c:Cf)(rs:List (List Hop))(D:Pl->Int)(ps:List PB):Prop:=ps.map kC=PS rs/\∀ b∈ps,b=l9 c rs D (kC b)
theorem UI{c:Cf}(p:Pl):kC (l9 c rs D p)=p:=rfl
theorem di.of{c:Cf}{l:List Pl}{t:DM×List PB}(h1:(wx wK t.2).map kC=PS rs)(h2:t.2=l.map (l9 c rs (dD t.1))):di c rs (dD t.1) (wx wK t.2):=by
 refine⟨h1,fun b hb=>?_⟩
 have hb:=(jS _ _).subset hb
 rw[h2] at hb
 obtain⟨p,hp,rfl⟩:=List.mem_map.1 hb
 rw[UI]
theorem di.nd{c:Cf}(h:di c rs D ps):(ps.map kC).Nodup:=by rw[h.1];exact lR rs
theorem di.dem{c:Cf}{rs:List (List Hop)}{D:Pl->Int}{ps:List PB}(h:di c rs D ps)(hF:HF c rs D){p:Pl}(hp:p∈PS rs):xI (dem ps) p 0=D p:=by
 rw[<- h.1] at hp
 obtain⟨b,hb,rfl⟩:=List.mem_map.1 hp
 rw[JD h.nd hb,hF.d (kC b) (by rw[<- h.1];exact hp),<- h.2 b hb]
theorem HC_ok{c:Cf}{net:Int}(hS:Small c){x:yL×Int}(h:HC c net rs x)(h0:x.2=0):VA c net rs/\bS c/\∃ D ps l,l.Perm (PS rs)/\qC rs l/\HF c rs D/\di c rs D ps/\x=(⟨ps,EN c rs ps⟩,0):=by
 cases h with
 | route _=>cases h0
 | vl _ _=>cases h0
 | cycle _ _ _ _=>cases h0
 | busy _ _ _ _ _ _=>cases h0
 | ok l t hv zW hp ho hr hs=>
  obtain⟨hF,ht⟩:=Tj hS hv zW.vls hp ho hr
  exact⟨hv,zW,dD t.1,_,l,hp,ho,hF,di.of hs ht,rfl⟩
theorem FR{α β:Type}{f:α->List β}{m:Nat}:∀ l:List α,(∀ x∈l,(f x).length<=m)->(l.flatMap f).length<=l.length*m
 | [],_=>by simp
 | x::l,h=>by
  rw[List.flatMap_cons,List.length_append,List.length_cons,Nat.succ_mul]
  have h1:=h x (by simp)
  have h2:=FR l fun y hy=>h y (List.mem_cons_of_mem _ hy)
  omega
theorem Tl{c:Cf}(hl:rs.length<=20)(he:∀ r∈rs,r.length<=40):(EN c rs ps).length<=1000000:=by
 unfold EN
 have:=FR (f:=fun v=>wx jI (VE c rs (dem ps) v)) (m:=40) (jE 0 rs.length) (fun v hv=>by
  have h4:=gX.1 hv
  rw[tv]
  exact Nat.le_trans Wg (he _ (wp (by omega) (by omega))))
 rw[b9] at this
 have h3:rs.length*40<=20*40:=Nat.mul_le_mul_right _ hl
 omega
theorem di.len{c:Cf}(h:di c rs D ps)(hl:rs.length<=20)(he:∀ r∈rs,r.length<=40):ps.length<=1000000:=by
 have h1:=aK he
 have h2:ps.length=(PS rs).length:=by rw[<- h.1,List.length_map]
 have h3:rs.length*40<=20*40:=Nat.mul_le_mul_right _ hl
 omega
theorem JE{c:Cf}{x:zt}:x∈EN c rs ps↔∃ v:Int,0<=v/\v<rs.length/\x∈VE c rs (dem ps) v:=by
 unfold EN
 rw[List.mem_flatMap]
 constructor
 ·rintro⟨v,hv,hx⟩
  have:=gX.1 hv
  exact⟨v,by omega,by omega,(jS _ _).subset hx⟩
 ·rintro⟨v,v0,v1,hx⟩
  exact⟨v,gX.2 ⟨v0,by omega⟩,(jS _ _).symm.subset hx⟩
theorem UJ{c:Cf}{x y:zt}(hx:x∈EN c rs ps)(hy:y∈EN c rs ps)(h1:x.yx=y.yx)(h2:x.ya=y.ya):x=y:=by
 obtain⟨v,_,_,hx⟩:=JE.1 hx
 obtain⟨w,_,_,hy⟩:=JE.1 hy
 have iv:=b8 c rs (dem ps) v
 have iw:=b8 c rs (dem ps) w
 have e:v=w:=by have a:=(iv.vl x hx).1;have b:=(iw.vl y hy).1;omega
 subst e
 have hn:((VE c rs (dem ps) v).map (·.ya)).Nodup:=iv.nd
 obtain⟨i,hi,rfl⟩:=List.getElem_of_mem hx
 obtain⟨j,hj,rfl⟩:=List.getElem_of_mem hy
 have h3:((VE c rs (dem ps) v).map (·.ya))[i]'(by simpa using hi)=((VE c rs (dem ps) v).map (·.ya))[j]'(by simpa using hj):=by simpa using h2
 have:=(List.getElem_inj (h₀:=by simpa using hi) (h₁:=by simpa using hj) hn).1 h3
 subst this;rfl
end
section
abbrev Ev:=yr
variable {l:List Ev}{i j:Int}
def bT(a b:Ev):Prop:=a.yb<b.yb\/a.yb=b.yb/\(a.yJ<b.yJ\/a.yJ=b.yJ/\(a.yO<b.yO\/a.yO=b.yO/\a.yf<b.yf))
instance (a b:Ev):Decidable (bT a b):=inferInstanceAs (Decidable (_\/_))
def tZ(a b:Ev):Prop:=¬bT b a
theorem nv{a:Ev}:tZ a a:=by unfold tZ bT;omega
theorem bU{a b c:Ev}(h:tZ a b)(k:tZ b c):tZ a c:=by unfold tZ bT at *;omega
theorem cn{a b:Ev}(h:bT a b):tZ a b:=by unfold tZ bT at *;omega
theorem FS(a b:Ev):∃ v,kX a b=some v/\(v<0↔bT a b):=by
 unfold kX
 simp only[n4,oB]
 rw[Gp]
 refine⟨_,rfl,?_⟩
 unfold oC oC oC oC oC QU bT
 repeat' split
 all_goals omega
theorem WZ(hi:0<=i/\i<l.length)(hj:0<=j/\j<l.length):jv l i j=some (decide (bT (nth l i) (nth l j))):=by
 unfold jv
 rw[xL hi,xL hj]
 obtain⟨v,h1,h2⟩:=FS (nth l i) (nth l j)
 show(kX (nth l i) (nth l j)).bind _=_
 rw[h1]
 simp only[oB,h2]
def bd(l:List Ev)(i j:Int):List Ev:=(l.set i.toNat (nth l j)).set j.toNat (nth l i)
theorem V0(hi:0<=i/\i<l.length)(hj:0<=j/\j<l.length):jw l i j=some (bd l i j):=by
 unfold jw
 rw[xL hj,xL hi,xL (by rw[List.length_set];exact hj)]
 rfl
theorem uS(l:List Ev)(i j:Int):(bd l i j).length=l.length:=by simp[bd]
theorem tD{x:Int}(hi:0<=i/\i<l.length)(hj:0<=j/\j<l.length)(hx:0<=x/\x<l.length):
  nth (bd l i j) x=if x=j then nth l i else if x=i then nth l j else nth l x:=by
 rw[kh (l:=bd l i j) (by rw[uS];exact hx),kh hx]
 unfold bd
 rw[List.getElem_set,List.getElem_set]
 by_cases h1:x=j
 ·subst h1;simp
 ·rw[if_neg (by omega),if_neg h1]
  by_cases h2:x=i
  ·subst h2;simp
  ·rw[if_neg (by omega),if_neg h2]
theorem Xo(hi:0<=i/\i<l.length)(hj:0<=j/\j<l.length):(bd l i j).Perm l:=by
 unfold bd
 rw[kh hi,kh hj]
 exact List.set_set_perm (by omega) (by omega)
def vM(x:Int):Int:=(x-1) / 2
def HP(l:List Ev)(n:Int):Prop:=∀ x:Int,0<x->x<n->tZ (nth l (vM x)) (nth l x)
def HU(l:List Ev)(n j:Int):Prop:=(∀ x:Int,0<x->x<n->x≠j->tZ (nth l (vM x)) (nth l x))/\(0<j->∀ x:Int,0<x->x<n->vM x=j->tZ (nth l (vM j)) (nth l x))
theorem KU{k:List Ev->Option (List Ev)}:∀(f:Nat) (j:Int) (l:List Ev),0<=j->j<l.length->l.length<9000000000000000000->j<f->HU l l.length j->
  ∃ l',jD k f j l=k l'/\l'.Perm l/\HP l' l'.length
 | 0,j,l,h0,h1,h2,h3,h4=>by omega
 | f+1,j,l,h0,h1,h2,h3,h4=>by
  rw[jD]
  have ei:i64 (Int.tdiv (i64 (j-1)) 2)=if j=0 then 0 else vM j:=by
   rw[xQ (x:=j-1) (by omega)]
   by_cases hj:j=0
   ·subst hj;rw[if_pos rfl];rfl
   ·rw[if_neg hj,Int.tdiv_eq_ediv_of_nonneg (by omega),xQ (by omega)];rfl
  rw[ei]
  by_cases hj:j=0
  ·subst hj
   simp only[if_true,decide_true,oB]
   refine⟨l,rfl,.refl _,fun x hx hn=>h4.1 x hx hn (by omega)⟩
  ·simp only[hj,if_false]
   have hp:vM j<j/\0<=vM j:=by unfold vM;omega
   rw[if_neg (by simp;omega),WZ ⟨h0,h1⟩ ⟨hp.2,by omega⟩]
   simp only[oB]
   by_cases hl:bT (nth l j) (nth l (vM j))
   ·simp only[hl,decide_true,Bool.not_true,Bool.false_eq_true,if_false]
    rw[V0 ⟨hp.2,by omega⟩ ⟨h0,h1⟩]
    simp only[oB]
    have Dt:(0<=vM j/\vM j<l.length):=⟨hp.2,by omega⟩
    have hu:HU (bd l (vM j) j) (bd l (vM j) j).length (vM j):=by
     rw[uS]
     refine⟨fun x hx hn oM=>?_,fun h0' x hx hn Ch=>?_⟩
     ·have Ch:0<=vM x/\vM x<x:=by unfold vM;omega
      rw[tD Dt ⟨h0,h1⟩ ⟨Ch.1,by omega⟩,tD Dt ⟨h0,h1⟩ ⟨by omega,hn⟩]
      by_cases e1:x=j
      ·subst e1
       rw[if_neg (by omega),if_pos rfl,if_pos rfl]
       exact cn hl
      ·rw[if_neg e1,if_neg oM]
       by_cases e2:vM x=j
       ·rw[if_pos e2]
        exact h4.2 (by omega) x hx hn e2
       ·rw[if_neg e2]
        by_cases e3:vM x=vM j
        ·rw[if_pos e3]
         have:=h4.1 x hx hn e1
         rw[e3] at this
         exact bU (cn hl) this
        ·rw[if_neg e3];exact h4.1 x hx hn e1
     ·have hpp:0<=vM (vM j)/\vM (vM j)<vM j:=by unfold vM at *;omega
      rw[tD Dt ⟨h0,h1⟩ ⟨hpp.1,by omega⟩,tD Dt ⟨h0,h1⟩ ⟨by omega,hn⟩]
      rw[if_neg (by omega),if_neg (by omega)]
      by_cases e1:x=j
      ·rw[if_pos e1];exact h4.1 (vM j) h0' (by omega) (by omega)
      ·have hxx:x≠vM j:=by
        have:vM x<x:=by unfold vM;omega
        omega
       rw[if_neg e1,if_neg hxx]
       have a1:=h4.1 x hx hn e1
       rw[Ch] at a1
       exact bU (h4.1 (vM j) h0' (by omega) (by omega)) a1
    obtain⟨l',e1,e2,e3⟩:=KU (k:=k) f (vM j) (bd l (vM j) j) hp.2 (by rw[uS];omega) (by rw[uS];omega) (by omega) hu
    exact⟨l',e1,e2.trans (Xo Dt ⟨h0,h1⟩),e3⟩
   ·simp only[hl,decide_false,Bool.not_false,if_true]
    refine⟨l,rfl,.refl _,fun x hx hn=>?_⟩
    by_cases e:x=j
    ·subst e;exact hl
    ·exact h4.1 x hx hn e
theorem UL{x:Ev}(hl:(l.length:Int)<1000000000)(h:HP l l.length):∃ l',kY l x=some l'/\l'.Perm (x::l)/\HP l' l'.length:=by
 unfold kY mY gJ
 rw[xL (by simp;omega)]
 simp only[oB]
 unfold uG
 have eW:((l++[x]).length:Int)=l.length+1:=by simp
 rw[eW,xQ (by omega)]
 have CI:∀ y:Int,0<=y->y<l.length->nth (l++[x]) y=nth l y:=fun y h0 h1=>by
  rw[kh (l:=l++[x]) ⟨h0,by omega⟩,kh (l:=l) ⟨h0,h1⟩,List.getElem_append_left]
 have hu:HU (l++[x]) (l++[x]).length (l.length+1-1):=by
  rw[eW]
  refine⟨fun y hy hn oM=>?_,fun h0 y hy hn hp=>?_⟩
  ·have:0<=vM y/\vM y<y:=by unfold vM;omega
   rw[CI _ this.1 (by omega),CI y (by omega) (by omega)]
   exact h y hy (by omega)
  ·exfalso
   have:vM y<y:=by unfold vM;omega
   omega
 refine wA (P:=fun o=>∃ l',(o.bind fun z=>some z)=some l'/\l'.Perm (x::l)/\HP l' l'.length) fun k hk=>?_
 obtain⟨l',e1,e2,e3⟩:=KU (k:=k) xR (l.length+1-1) (l++[x]) (by omega) (by omega) (by omega) (by rw[wi];omega) hu
 rw[e1,hk]
 exact⟨l',rfl,e2.trans (List.perm_append_comm (l₁:=l) (l₂:=[x])),e3⟩
def HD(l:List Ev)(n i:Int):Prop:=(∀ x:Int,0<x->x<n->vM x≠i->tZ (nth l (vM x)) (nth l x))/\(0<i->∀ x:Int,0<x->x<n->vM x=i->tZ (nth l (vM i)) (nth l x))
theorem VI{n:Int}{k:Int->List Ev->Option (Bool×List Ev)}:∀(f:Nat) (i:Int) (l:List Ev),0<=i->n<=l.length->l.length<1000000000->i<=l.length->l.length<f+i->HD l n i->
  ∃ i' l',qz n k f i l=k i' l'/\l'.Perm l/\HP l' n/\(∀ x:Int,n<=x->x<l.length->nth l' x=nth l x)
 | 0,i,l,h0,h1,h2,h3,h4,h5=>by omega
 | f+1,i,l,h0,h1,h2,h3,h4,h5=>by
  rw[qz]
  rw[xQ (x:=2*i) (by omega),xQ (x:=2*i+1) (by omega),xQ (x:=2*i+1+1) (by omega)]
  by_cases hs:2*i+1>=n
  ·rw[if_pos (by simp[hs])]
   refine⟨i,l,rfl,.refl _,fun x hx hn=>h5.1 x hx hn ?_,fun _ _ _=>rfl⟩
   unfold vM;omega
  ·rw[if_neg (by simp only[Bool.or_eq_true,decide_eq_true_eq];omega)]
   have key:∀ j:Int,(j=2*i+1\/j=2*i+2)->j<n->(∀ x:Int,0<x->x<n->vM x=i->tZ (nth l j) (nth l x))->
     ∃ i' l',((jv l j i).bind fun x=>if (!x)=true then k i l else(jw l i j).bind fun x=>qz n k f j x)=k i' l'/\l'.Perm l/\HP l' n/\(∀ x:Int,n<=x->x<l.length->nth l' x=nth l x):=by
    intro j hj hjn xO
    have tf:vM j=i:=by unfold vM;omega
    have CJ:0<=j/\j<l.length:=by omega
    have CK:0<=i/\i<l.length:=by omega
    rw[WZ CJ CK]
    simp only[oB]
    by_cases hl:bT (nth l j) (nth l i)
    ·simp only[hl,decide_true,Bool.not_true,Bool.false_eq_true,if_false]
     rw[V0 CK CJ]
     simp only[oB]
     have hd:HD (bd l i j) n j:=by
      refine⟨fun x hx hn hp=>?_,fun _ x hx hn hp=>?_⟩
      ·have Ch:0<=vM x/\vM x<x:=by unfold vM;omega
       rw[tD CK CJ ⟨Ch.1,by omega⟩,tD CK CJ ⟨by omega,by omega⟩,if_neg hp]
       by_cases e1:vM x=i
       ·rw[if_pos e1]
        by_cases e2:x=j
        ·rw[if_pos e2];exact cn hl
        ·rw[if_neg e2,if_neg (by omega)];exact xO x hx hn e1
       ·rw[if_neg e1]
        by_cases e2:x=j
        ·subst e2;exact absurd tf e1
        ·rw[if_neg e2]
         by_cases e3:x=i
         ·rw[if_pos e3]
          have:=h5.2 (by omega) j (by omega) hjn tf
          rw[e3];exact this
         ·rw[if_neg e3];exact h5.1 x hx hn e1
      ·have Ch:vM x<x:=by unfold vM;omega
       rw[tf,tD CK CJ CK,tD CK CJ ⟨by omega,by omega⟩,if_neg (by omega),if_pos rfl,if_neg (by omega),if_neg (by omega)]
       have:=h5.1 x hx hn (by omega)
       rw[hp] at this;exact this
     obtain⟨i',l',e1,e2,e3,e4⟩:=VI (n:=n) (k:=k) f j (bd l i j) CJ.1 (by rw[uS];exact h1) (by rw[uS];exact h2) (by rw[uS];omega) (by rw[uS];omega) hd
     refine⟨i',l',e1,e2.trans (Xo CK CJ),e3,fun x hx hn=>?_⟩
     rw[e4 x hx (by rw[uS];exact hn),tD CK CJ ⟨by omega,hn⟩,if_neg (by omega),if_neg (by omega)]
    ·simp only[hl,decide_false,Bool.not_false,if_true]
     refine⟨i,l,rfl,.refl _,fun x hx hn=>?_,fun _ _ _=>rfl⟩
     by_cases e:vM x=i
     ·rw[e];exact bU hl (xO x hx hn e)
     ·exact h5.1 x hx hn e
   refine wA (P:=fun o=>∃ i' l',o=k i' l'/\l'.Perm l/\HP l' n/\(∀ x:Int,n<=x->x<l.length->nth l' x=nth l x)) fun kk xH=>?_
   have hch:∀ x:Int,0<x->vM x=i->x=2*i+1\/x=2*i+2:=fun x hx hp=>by unfold vM at hp;omega
   by_cases h6:2*i+1+1<n
   ·rw[Nv h6,WZ ⟨by omega,by omega⟩ ⟨by omega,by omega⟩]
    simp only[oB,decide_eq_true_eq]
    by_cases h7:bT (nth l (2*i+1+1)) (nth l (2*i+1))
    ·rw[if_pos h7,xH]
     refine key _ (by omega) h6 fun x hx hn hp=>?_
     rcases hch x hx hp with rfl | rfl
     ·exact cn h7
     ·rw[show 2*i+2=2*i+1+1 by omega];exact nv
    ·rw[if_neg h7,xH]
     refine key _ (by omega) (by omega) fun x hx hn hp=>?_
     rcases hch x hx hp with rfl | rfl
     ·exact nv
     ·rw[show 2*i+2=2*i+1+1 by omega];exact h7
   ·rw[Nw h6]
    simp only[oB,Bool.false_eq_true,if_false]
    rw[xH]
    refine key _ (by omega) (by omega) fun x hx hn hp=>?_
    rcases hch x hx hp with rfl | rfl
    ·exact nv
    ·omega
theorem UM{n:Int}(h:HP l n):∀(m:Nat) (x:Int),x=m->x<n->tZ (nth l 0) (nth l x):=by
 intro m
 induction m using Nat.strongRecOn with
 | _ m ih=>
  intro x hx hn
  by_cases h0:x=0
  ·rw[h0];exact nv
  ·have hp:0<=vM x/\vM x<x:=by unfold vM;omega
   exact bU (ih (vM x).toNat (by omega) (vM x) (by omega) (by omega)) (h x (by omega) hn)
theorem UN{n:Int}(h1:n<=l.length)(h2:l.length<1000000000)(h5:HD l n 0):
  ∃ b l',fi l 0 n=some (b,l')/\l'.Perm l/\HP l' n/\(∀ x:Int,n<=x->x<l.length->nth l' x=nth l x):=by
 unfold fi
 refine tc (P:=fun o=>∃ b l',o=some (b,l')/\l'.Perm l/\HP l' n/\(∀ x:Int,n<=x->x<l.length->nth l' x=nth l x)) fun k hk=>?_
 have hF:=wi
 generalize xR=N at hF ⊢
 obtain⟨i',l',e1,e2,e3,e4⟩:=VI (n:=n) (k:=k) N 0 l (by omega) h1 h2 (by omega) (by omega) h5
 rw[e1,hk]
 exact⟨_,l',rfl,e2,e3,e4⟩
theorem Tm(h0:l≠[])(hl:(l.length:Int)<1000000000)(h:HP l l.length):∃ e l',mg l=some (e,l')/\(e::l').Perm l/\HP l' l'.length/\∀ x∈l,tZ e x:=by
 have zN:0<(l.length:Int):=by cases l with | nil=>exact absurd rfl h0 | cons=>simp
 unfold mg gJ
 simp only[oB]
 rw[xQ (x:=(l.length:Int)-1) (by omega),V0 ⟨by omega,zN⟩ ⟨by omega,by omega⟩]
 simp only[oB]
 have Bh:(0:Int)<=0/\(0:Int)<l.length:=⟨by omega,zN⟩
 have EX:(0:Int)<=(l.length:Int)-1/\(l.length:Int)-1<l.length:=⟨by omega,by omega⟩
 have hd:HD (bd l 0 ((l.length:Int)-1)) ((l.length:Int)-1) 0:=by
  refine⟨fun x hx hn hp=>?_,fun h=>absurd h (by omega)⟩
  have Ch:0<=vM x/\vM x<x:=by unfold vM;omega
  rw[tD Bh EX ⟨Ch.1,by omega⟩,tD Bh EX ⟨by omega,by omega⟩,if_neg (by omega),if_neg hp,if_neg (by omega),if_neg (by omega)]
  exact h x hx (by omega)
 obtain⟨b',l',e1,e2,e3,e4⟩:=UN (n:=(l.length:Int)-1) (l:=bd l 0 ((l.length:Int)-1)) (by rw[uS];omega) (by rw[uS];omega) hd
 rw[e1]
 have eW:(l'.length:Int)=l.length:=by have:=e2.length_eq;rw[uS] at this;omega
 simp only[oB]
 unfold ul
 rw[eW,xQ (by omega),xL ⟨by omega,by omega⟩,xL ⟨by omega,by omega⟩]
 simp only[oB]
 have EY:nth l' ((l.length:Int)-1)=nth l 0:=by
  rw[e4 _ (Int.le_refl _) (by rw[uS];omega),tD Bh EX EX,if_pos rfl]
 have happ:l'=l'.take ((l.length:Int)-1).toNat++[nth l' ((l.length:Int)-1)]:=by
  have h1:((l.length:Int)-1).toNat<l'.length:=by omega
  rw[kh ⟨by omega,by omega⟩,List.take_append_getElem h1,List.take_of_length_le (by omega)]
 refine⟨nth l' ((l.length:Int)-1),l'.take ((l.length:Int)-1).toNat,rfl,?_,?_,?_⟩
 ·refine List.Perm.trans ?_ (e2.trans (Xo Bh EX))
  refine List.Perm.trans ?_ (List.Perm.of_eq happ.symm)
  exact(List.perm_append_comm (l₁:=[_]))
 ·intro x hx hn
  rw[List.length_take] at hn
  have Ch:0<=vM x/\vM x<x:=by unfold vM;omega
  have CI:∀ y:Int,0<=y->y<(l.length:Int)-1->nth (l'.take ((l.length:Int)-1).toNat) y=nth l' y:=fun y a b=>by
   rw[kh (l:=l'.take _) ⟨a,by rw[List.length_take];omega⟩,kh (l:=l') ⟨a,by omega⟩,List.getElem_take]
  rw[CI _ Ch.1 (by omega),CI x (by omega) (by omega)]
  exact e3 x hx (by omega)
 ·intro x hx
  rw[EY]
  obtain⟨i,hi,rfl⟩:=List.getElem_of_mem hx
  have:=UM h i (i:Int) rfl (by omega)
  rw[kh (l:=l) (i:=(i:Int)) ⟨by omega,by omega⟩] at this
  simpa using this
end
section
abbrev Fr:=yj
abbrev Pt:=yC
variable {l:List Fr}{t:Int}{f:Fr->Option Bool}{p:Pt}
theorem iZ{l:List Fr}{f:Fr->Option Bool}{p:Fr->Bool}{k:Option Int}(hf:∀ y,f y=some (p y))(hl:l.length<9000000000000000000):∀(n:Nat) (v:Int),0<=v->v<=l.length->l.length<n+v->
  (∃ i:Int,v<=i/\i<l.length/\p (nth l i)=true/\(∀ x∈(l.drop v.toNat).take (i-v).toNat,p x=false)/\ww l f k n v=some i)\/((∀ x∈l.drop v.toNat,p x=false)/\ww l f k n v=k)
 | 0,v,h0,h1,h2=>by omega
 | n+1,v,h0,h1,h2=>by
  rw[ww]
  by_cases h:v<l.length
  ·rw[Nv h,xL ⟨h0,h⟩]
   show _\/(_/\((f (nth l v)).bind _)=k)
   rw[show(f (⟨(nth l v).yo,(nth l v).yN⟩:Fr))=f (nth l v) from rfl,hf]
   simp only[oB]
   cases hp:p (nth l v) with
   | true=>exact .inl ⟨v,Int.le_refl _,h,hp,by simp,by simp⟩
   | false=>
    simp only[Bool.false_eq_true,if_false]
    rw[xQ (x:=v+1) (by omega)]
    have hd:=kd h0 h
    have e1:(v+1).toNat=v.toNat+1:=by omega
    rcases iZ hf hl n (v+1) (by omega) (by omega) (by omega) (k:=k) with⟨i,i1,i2,i3,i4,i5⟩ | ⟨i1,i2⟩
    ·refine .inl ⟨i,by omega,i2,i3,?_,i5⟩
     rw[hd,show(i-v).toNat=(i-(v+1)).toNat+1 by omega,List.take_succ_cons]
     intro x hx
     rcases List.mem_cons.1 hx with rfl | hx
     ·exact hp
     ·rw[e1] at i4;exact i4 x hx
    ·refine .inr ⟨?_,i2⟩
     rw[hd]
     intro x hx
     rcases List.mem_cons.1 hx with rfl | hx
     ·exact hp
     ·rw[e1] at i1;exact i1 x hx
  ·rw[Nw h,List.drop_eq_nil_of_le (by omega)]
   exact .inr ⟨by simp,rfl⟩
theorem MO{p:Fr->Bool}(hf:∀ y,f y=some (p y))(hl:l.length<9000000000000000000):
  (∃ i:Int,0<=i/\i<l.length/\p (nth l i)=true/\(∀ x∈l.take i.toNat,p x=false)/\vG l f=some i)\/((∀ x∈l,p x=false)/\vG l f=some (-1)):=by
 unfold vG
 have hF:=wi
 generalize xR=N at hF ⊢
 refine gN (P:=fun o=>(∃ i:Int,0<=i/\i<l.length/\p (nth l i)=true/\(∀ x∈l.take i.toNat,p x=false)/\o=some i)\/((∀ x∈l,p x=false)/\o=some (-1))) fun k hk=>?_
 rcases iZ hf hl N 0 (by omega) (by omega) (by omega) (k:=k) with⟨i,i1,i2,i3,i4,i5⟩ | ⟨i1,i2⟩
 ·exact .inl ⟨i,i1,i2,i3,by simpa using i4,i5⟩
 ·exact .inr ⟨by simpa using i1,i2.trans hk⟩
theorem Xp{f:Fr->Option Bool}{p:Fr->Bool}{k:List Fr->Int->Option (List Fr)}(hf:∀ y,f y=some (p y)):∀(n:Nat) (s:List Fr) (i j:Int),s.length<9000000000000000000->0<=i->i<=j->j<=s.length->s.length<n+j->
  ∃ s' i',wF f k n s i j=k s' i'/\s'.length=s.length/\0<=i'/\i'<=s.length/\s'.take i'.toNat=s.take i.toNat++(s.drop j.toNat).filter (fun x => !p x)
 | 0,s,i,j,hl,h0,h1,h2,h3=>by omega
 | n+1,s,i,j,hl,h0,h1,h2,h3=>by
  rw[wF]
  by_cases h:j<s.length
  ·rw[Nv h]
   refine tc (P:=fun o=>∃ s' i',o=k s' i'/\s'.length=s.length/\0<=i'/\i'<=s.length/\s'.take i'.toNat=s.take i.toNat++(s.drop j.toNat).filter (fun x => !p x)) fun kk xH=>?_
   rw[xL ⟨by omega,h⟩,show(f (⟨(nth s j).yo,(nth s j).yN⟩:Fr))=f (nth s j) from rfl,hf]
   simp only[oB]
   have hd:=kd (l:=s) (v:=j) (by omega) h
   have e1:(j+1).toNat=j.toNat+1:=by omega
   cases hp:p (nth s j) with
   | true=>
    simp only[Bool.not_true,Bool.false_eq_true,if_false]
    rw[xH,xQ (x:=j+1) (by omega)]
    obtain⟨s',i',a1,a2,a3,a4,a5⟩:=Xp hf (k:=k) n s i (j+1) hl h0 (by omega) (by omega) (by omega)
    refine⟨s',i',a1,a2,a3,a4,?_⟩
    rw[a5,e1,hd,List.filter_cons,hp];rfl
   | false=>
    simp only[Bool.not_false,if_true]
    rw[xL ⟨h0,by omega⟩,xH,xQ (x:=j+1) (by omega),xQ (x:=i+1) (by omega)]
    obtain⟨s',i',a1,a2,a3,a4,a5⟩:=Xp hf (k:=k) n (s.set i.toNat (nth s j)) (i+1) (j+1) (by rw[List.length_set];exact hl) (by omega) (by omega) (by rw[List.length_set];omega) (by rw[List.length_set];omega)
    rw[List.length_set] at a2 a4
    refine⟨s',i',a1,a2,a3,a4,?_⟩
    rw[a5,hd,List.filter_cons,hp]
    have hi:i.toNat<s.length:=by omega
    have b1:(s.set i.toNat (nth s j)).take (i+1).toNat=s.take i.toNat++[nth s j]:=by
     rw[show(i+1).toNat=i.toNat+1 by omega,List.set_eq_take_append_cons_drop,if_pos hi,List.take_append]
     rw[List.length_take,Nat.min_eq_left (by omega),List.take_of_length_le (by rw[List.length_take];omega)]
     simp
    have b2:(s.set i.toNat (nth s j)).drop (j+1).toNat=s.drop (j.toNat+1):=by
     rw[e1,List.drop_set_of_lt (by omega)]
    rw[b1,b2];simp
  ·rw[Nw h]
   refine⟨s,i,rfl,rfl,h0,by omega,?_⟩
   rw[List.drop_eq_nil_of_le (by omega)];simp
theorem Tn{p:Fr->Bool}(hf:∀ y,f y=some (p y))(hl:l.length<9000000000000000000):vz l f=some (l.filter fun x => !p x):=by
 unfold vz
 have hF:=wi
 generalize xR=N at hF ⊢
 rcases MO hf hl with⟨i,i1,i2,i3,i4,i5⟩ | ⟨i1,i2⟩
 ·rw[i5]
  simp only[oB]
  rw[if_neg (by simp;omega)]
  refine tc (P:=fun o=>o=some (l.filter fun x => !p x)) fun kk xH=>?_
  rw[xQ (by omega)]
  obtain⟨s',i',a1,a2,a3,a4,a5⟩:=Xp hf (k:=kk) N l i (i+1) hl (by omega) (by omega) (by omega) (by omega)
  rw[a1,xH,xL ⟨a3,by rw[a2];exact a4⟩,xL ⟨a3,by rw[List.length_append,List.length_take,List.length_replicate];omega⟩]
  congr 1
  rw[List.take_append_of_le_length (by rw[List.length_take];omega),List.take_take,Nat.min_self,a5]
  have hd:=kd (l:=l) (v:=i) (by omega) i2
  conv=>rhs;rw[<- List.take_append_drop i.toNat l,List.filter_append,hd,List.filter_cons,i3]
  rw[show(i+1).toNat=i.toNat+1 by omega]
  simp only[Bool.not_true,Bool.false_eq_true,if_false]
  congr 1
  refine(List.filter_eq_self.2 fun x hx=>?_).symm
  rw[i4 x hx];rfl
 ·rw[i2]
  simp only[oB,decide_true,if_true]
  congr 1
  refine(List.filter_eq_self.2 fun x hx=>?_).symm
  rw[i1 x hx];rfl
def fk:List Fr->Int
 | []=>0
 | x::l=>x.yo+fk l
theorem MP(h:∀ x∈l,1<=x.yo/\x.yo<=72):0<=fk l/\fk l<=72*l.length:=by
 induction l with
 | nil=>simp[fk]
 | cons x l ih=>
  have h1:=h x (by simp)
  have h2:=ih (fun y hy=>h y (List.mem_cons_of_mem _ hy))
  simp only[fk,List.length_cons]
  omega
theorem Xq{p:Pt}{f:Fr->Option Bool}{q:Fr->Bool}{k:Int->Option Int}(hf:∀ y,f y=some (q y))(hs:∀ x∈p.yn,1<=x.yo/\x.yo<=72)(hl:p.yn.length<1000000000):
  ∀(n:Nat) (a v:Int),0<=v->v<=p.yn.length->p.yn.length<n+v->0<=a->a<=72*v->gD p f k n a v=k (a+fk ((p.yn.drop v.toNat).filter q))
 | 0,a,v,h0,h1,h2,h3,h4=>by omega
 | n+1,a,v,h0,h1,h2,h3,h4=>by
  rw[gD]
  by_cases h:v<p.yn.length
  ·rw[Nv h]
   refine wA (P:=fun o=>o=k (a+fk ((p.yn.drop v.toNat).filter q))) fun kk xH=>?_
   rw[xL ⟨h0,h⟩,show(f (⟨(nth p.yn v).yo,(nth p.yn v).yN⟩:Fr))=f (nth p.yn v) from rfl,hf]
   simp only[oB]
   have hx:=hs _ (wp h0 h)
   have hd:=kd (l:=p.yn) (v:=v) h0 h
   have e1:(v+1).toNat=v.toNat+1:=by omega
   rw[hd,List.filter_cons]
   cases hq:q (nth p.yn v) with
   | true=>
    simp only[if_true]
    rw[xQ (x:=a+_) (by omega),xH,xQ (x:=v+1) (by omega),Xq hf hs hl n _ (v+1) (by omega) (by omega) (by omega) (by omega) (by omega),e1]
    simp only[fk];congr 1;omega
   | false=>
    simp only[Bool.false_eq_true,if_false]
    rw[xH,xQ (x:=v+1) (by omega),Xq hf hs hl n _ (v+1) (by omega) (by omega) (by omega) (by omega) (by omega),e1]
  ·rw[Nw h,List.drop_eq_nil_of_le (by omega)]
   simp[fk]
theorem To{q:Fr->Bool}(hf:∀ y,f y=some (q y))(hs:∀ x∈p.yn,1<=x.yo/\x.yo<=72)(hl:p.yn.length<1000000000):um p f=some (fk (p.yn.filter q)):=by
 unfold um
 have hF:=wi
 generalize xR=N at hF ⊢
 refine wA (P:=fun o=>o=some (fk (p.yn.filter q))) fun k hk=>?_
 rw[Xq hf hs hl N 0 0 (by omega) (by omega) (by omega) (by omega) (by omega),hk]
 simp
structure PIR (p:Pt):Prop where
 slow:1<=p.yk.yp/\p.yk.yp<=16
 delay:0<=p.yk.yl/\p.yk.yl<=1000
 store:0<=p.yk.fT/\p.yk.fT<=1073741824
 now:0<=p.yP
 last:0<=p.yD/\p.yD<=1000000000000
 sz:∀ x∈p.yn,1<=x.yo/\x.yo<=72
 len:p.yn.length<=100000
def fl(t:Int)(l:List Fr):List Fr:=l.filter fun x=>decide (x.yN>t)
def fy(p:Pt)(t size:Int):Int:=max (t+p.yk.yl) p.yD+size*p.yk.yp
def kf(p:Pt)(t size:Int):Int×Int×Pt:=
 if size<1\/size>72\/t<p.yP\/t>1073741824 then(0,2,p)
 else if fk (fl t p.yn)+size>p.yk.fT then(0,4,⟨p.yk,t,p.yD,fl t p.yn⟩)
 else(fy p t size,0,⟨p.yk,t,fy p t size,fl t p.yn++[⟨size,fy p t size⟩]⟩)
theorem Xr:∀ x∈fl t l,x∈l:=fun x hx=>(List.mem_filter.1 hx).1
theorem bf:(fl t l).length<=l.length:=List.length_filter_le _ _
theorem Wn{a b:Int}(ha:1<=a/\a<=72)(hb:1<=b/\b<=16):1<=a*b/\a*b<=1152:=by
 constructor
 ·exact Int.le_trans (by omega) (Int.mul_le_mul ha.1 hb.1 (by omega) (by omega))
 ·exact Int.le_trans (Int.mul_le_mul ha.2 hb.2 (by omega) (by omega)) (by omega)
theorem Tp{size:Int}(h:PIR p):mB p t size=some (kf p t size):=by
 unfold mB mV
 obtain⟨⟨h1,h2⟩,⟨h3,h4⟩,⟨h5,h6⟩,h7,⟨h8,h9⟩,zO,zP⟩:=h
 simp only[oB]
 rw[if_neg (by simp;omega)]
 unfold kf
 by_cases hc:size<1\/size>72\/t<p.yP\/t>1073741824
 ·rw[if_pos hc,if_pos (by simp only[Bool.or_eq_true,decide_eq_true_eq];omega)]
 ·rw[if_neg hc,if_neg (by simp only[Bool.or_eq_true,decide_eq_true_eq];omega)]
  have hdel:vz p.yn (fun(y0:Fr)=>mE y0 t)=some (fl t p.yn):=by
   rw[Tn (f:=fun(y0:Fr)=>mE y0 t) (p:=fun y=>decide (y.yN<=t)) (fun _=>rfl) (by omega)]
   congr 1
   unfold fl
   congr 1;funext x
   by_cases hx:x.yN<=t
   ·simp[hx]
   ·simp[hx];omega
  rw[hdel]
  simp only[oB]
  unfold rp mV
  simp only[oB]
  rw[if_neg (by simp;omega)]
  have hw:∀ x∈fl t p.yn,1<=x.yo/\x.yo<=72:=fun x hx=>zO x (Xr x hx)
  have hwl:(fl t p.yn).length<=100000:=Nat.le_trans bf zP
  have DP:um (⟨p.yk,t,p.yD,fl t p.yn⟩:Pt) (fun(y0:Fr)=>mh y0 (max t t))=some (fk (fl t p.yn)):=by
   rw[To (f:=fun(y0:Fr)=>mh y0 (max t t)) (q:=fun y=>decide (y.yN>max t t)) (fun _=>rfl) hw (by simp only;omega)]
   congr 2
   refine List.filter_eq_self.2 fun x hx=>?_
   have:=(List.mem_filter.1 hx).2
   simpa using this
  rw[DP]
  simp only[oB]
  have hb:=MP hw
  have hm:=Wn (a:=size) (b:=p.yk.yp) (by omega) ⟨h1,h2⟩
  rw[xQ (x:=fk _+size) (by omega)]
  by_cases hf:fk (fl t p.yn)+size>p.yk.fT
  ·rw[Nv hf,if_pos hf]
  ·rw[Nw hf,if_neg hf,xQ (x:=t+_) (by omega),xQ (x:=size*_) (by omega),xQ (x:=max _ _+_) (by omega)]
   rw[xL (by simp;omega)]
   rfl
theorem UO{size:Int}(h:PIR p)(ht:0<=t)(hl:p.yn.length<=99999)(hb:p.yD<=900000000000):PIR (kf p t size).2.2:=by
 unfold kf
 split
 ·exact h
 ·rename_i hc
  split
  ·exact⟨h.slow,h.delay,h.store,ht,h.last,fun x hx=>h.sz x (Xr x hx),Nat.le_trans bf h.len⟩
  ·have hm:=Wn (a:=size) (b:=p.yk.yp) (by omega) h.slow
   have hd:=h.delay
   have zX:=h.last
   refine⟨h.slow,h.delay,h.store,ht,by simp only[fy];omega,fun x hx=>?_,?_⟩
   ·rcases List.mem_append.1 hx with hx | hx
    ·exact h.sz x (Xr x hx)
    ·simp at hx;subst hx;simp only;omega
   ·have:=bf (t:=t) (l:=p.yn)
    simp only[List.length_append,List.length_singleton];omega
end
section
abbrev jQ:=yW
abbrev Cm:=yh
instance (c:Cf) (net n:Int):Decidable (rt c net n):=inferInstanceAs (Decidable (_/\_))
instance (c:Cf) (net link a b:Int):Decidable (JN c net link a b):=inferInstanceAs (Decidable (_/\_))
def FG(c:Cf)(l:List jQ)(q:Int):Prop:=0<=(nth l q).yb/\(nth l q).yb<=536870912/\0<=(nth l q).yx/\(nth l q).yx<c.yc.length/\1<=(nth l q).yo/\(nth l q).yo<=72/\(0<q->(nth l (q-1)).yb<=(nth l q).yb)
instance (c:Cf) (l:List jQ) (q:Int):Decidable (FG c l q):=inferInstanceAs (Decidable (_/\_))
theorem FT{c:Cf}{l:List jQ}{v:Int}(h0:0<=v)(hv:v<=9223372036854775807):(((((((decide (((nth l v).yb)<0))||(decide (((nth l v).yb)>536870912)))||(decide (((nth l v).yx)<0)))||(decide (((nth l v).yx)>=((c.yc.length:Nat):Int))))||(decide (((nth l v).yo)<1)))||(decide (((nth l v).yo)>72)))||((decide (v>0))&&(decide (((nth l (i64 (v-1))).yb)>((nth l v).yb)))))=true↔¬FG c l v:=by
 rw[xQ (by omega)]
 unfold FG
 simp only[Bool.or_eq_true,Bool.and_eq_true,decide_eq_true_eq]
 constructor
 ·rintro h ⟨a,b,d,e,f,g,i⟩
  rcases h with(((((h | h) | h) | h) | h) | h) | ⟨h,h'⟩
  ·omega
  ·omega
  ·omega
  ·omega
  ·omega
  ·omega
  ·have:=i h;omega
 ·intro h
  refine Classical.byContradiction fun hn=>h ?_
  simp only[not_or,not_and] at hn
  obtain⟨⟨⟨⟨⟨⟨a1,a2⟩,a3⟩,a4⟩,a5⟩,a6⟩,a7⟩:=hn
  exact⟨by omega,by omega,by omega,by omega,by omega,by omega,fun h=>by have:=a7 h;omega⟩
theorem YP{c:Cf}{l:List jQ}{k:Option Bool}(hs:(l.length:Int)<=9223372036854775807):∀(n:Nat) (v:Int),0<=v->v<=l.length->l.length<n+v->
  (∃ q:Int,v<=q/\q<l.length/\¬FG c l q)/\ko l c k n v=some false\/(∀ q:Int,v<=q->q<l.length->FG c l q)/\ko l c k n v=k
 | 0,v,h0,h1,h2=>by omega
 | n+1,v,h0,h1,h2=>by
  rw[ko]
  by_cases h:v<l.length
  ·rw[Nv h,xL ⟨h0,h⟩,xL (fun _ h'=>by have h':=of_decide_eq_true h';rw[xQ (by omega)];omega)]
   rw[xQ (x:=v+1) (by omega)]
   by_cases hg:FG c l v
   ·rw[if_neg (fun hc=>(FT h0 (by omega)).1 hc hg)]
    rcases YP hs n (v+1) (by omega) (by omega) (by omega) (k:=k) with⟨⟨q,q1,q2,q3⟩,h3⟩ | ⟨h3,h4⟩
    ·exact .inl ⟨⟨q,by omega,q2,q3⟩,h3⟩
    ·refine .inr ⟨fun q q1 q2=>?_,h4⟩
     by_cases e:q=v
     ·rw[e];exact hg
     ·exact h3 q (by omega) q2
   ·rw[if_pos ((FT h0 (by omega)).2 hg)]
    exact .inl ⟨⟨v,Int.le_refl _,h,hg⟩,rfl⟩
  ·rw[Nw h]
   exact .inr ⟨fun q h1 h2=>by omega,rfl⟩
structure FRm (c:Cf) (m:Nat) (l:List jQ):Prop where
 each:∀ q:Int,0<=q->q<l.length->FG c l q
 len:l.length<=m
theorem FV{c:Cf}{l:List jQ}(hs:(l.length:Int)<=9223372036854775807):∃ r,t6 c l=some r/\(r=true↔FRm c 4000 l):=by
 unfold t6
 have hF:=wi
 generalize xR=N at hF ⊢
 refine gN (P:=fun o=>∃ r,o=some r/\(r=true↔FRm c 4000 l)) fun k hk=>?_
 rcases YP (c:=c) (l:=l) (k:=k) hs N 0 (by omega) (by omega) (by omega) with⟨⟨q,q1,q2,q3⟩,h3⟩ | ⟨h3,h4⟩
 ·refine⟨false,h3,?_⟩
  simp only[Bool.false_eq_true,false_iff]
  exact fun h=>q3 (h.each q q1 q2)
 ·refine⟨_,h4.trans hk,?_⟩
  rw[decide_eq_true_eq]
  exact⟨fun h=>⟨h3,by omega⟩,fun h=>by have:=h.len;omega⟩
end
section
abbrev Ex:=z6
variable {net:Int}{h:Hop}{rs:List (List Hop)}{sent:List jQ}{mp:List (Ex×Pt)}{ag:List Ev}{come lost:List Cm}
def wd(h:Hop):Ex:=⟨h.ya,h.fQ⟩
def qJ(c:Cf)(k:Ex):Pt:=⟨⟨(nth c.fK k.fQ).yp,if nM c<=k.ya then(sw c k.ya).yl else 0,if nM c<=k.ya then(sw c k.ya).fT else 1073741824⟩,0,0,[]⟩
def uI(c:Cf)(mp:List (Ex×Pt)):Ex->Pt:=fun k=>xI mp k (qJ c k)
def VJ(c:Cf)(net:Int)(h:Hop):Prop:=JN c net h.fQ h.ya h.fX
theorem VJ.node{c:Cf}(hs:Small c)(hv:VJ c net h):rt c net h.ya/\h.ya<nN c/\rt c net h.fX/\h.fX<nN c:=by
 obtain⟨_,_,_,_,_,_,h7,h8,h9⟩:=hv
 have ha:=Q7 hs h.fQ
 have hb:=Q8 hs h.fQ
 rcases h9 with⟨e1,e2⟩ | ⟨e1,e2⟩
 ·rw[e1] at h7 ha;rw[e2] at h8 hb;exact⟨h7,ha.2.2,h8,hb.2.2⟩
 ·rw[e1] at h7 ha;rw[e2] at h8 hb;exact⟨h8,hb.2.2,h7,ha.2.2⟩
theorem MQ{c:Cf}(hs:Small c)(hv:VJ c net h):PIR (qJ c (wd h)):=by
 obtain⟨⟨n1,n2⟩,n3,_⟩:=hv.node hs
 have vB:1<=(nth c.fK h.fQ).yp/\(nth c.fK h.fQ).yp<=16:=⟨hv.2.2.2.1,hv.2.2.2.2.1⟩
 refine⟨vB,?_,?_,Int.le_refl _,⟨Int.le_refl _,by show(0:Int)<=_;omega⟩,fun x hx=>by simp[qJ] at hx,by simp[qJ]⟩
 ·show 0<=(if nM c<=h.ya then(sw c h.ya).yl else 0)/\(if nM c<=h.ya then(sw c h.ya).yl else 0)<=1000
  split
  ·rcases n2 with n2 | ⟨_,a,b,_⟩
   ·omega
   ·exact⟨a,b⟩
  ·omega
 ·show 0<=(if nM c<=h.ya then(sw c h.ya).fT else 1073741824)/\(if nM c<=h.ya then(sw c h.ya).fT else 1073741824)<=1073741824
  split
  ·rcases n2 with n2 | ⟨_,_,_,a,b⟩
   ·omega
   ·exact⟨a,b⟩
  ·omega
def bV(c:Cf)(mp:List (Ex×Pt))(k:Ex):List (Ex×Pt):=if vH mp k=true then mp else w6 mp k (qJ c k)
theorem VK{κ γ:Type}[DecidableEq κ]{k:κ}{u:γ}:∀(l:List (κ×γ)),vH (w6 l k u) k=true
 | []=>by simp[w6,vH]
 | p::l=>by
  by_cases hk:k=p.1
  ·subst hk;simp[w6,vH]
  ·simp only[w6,hk,if_false,vH];exact VK l
theorem JF{κ γ:Type}[DecidableEq κ]{k:κ}{d d':γ}:∀ {l:List (κ×γ)},vH l k=true->xI l k d=xI l k d'
 | [],h=>by simp[vH] at h
 | p::l,h=>by
  unfold vH at h
  unfold xI
  by_cases hk:k=p.1
  ·simp[hk]
  ·simp only[hk,if_false] at h ⊢;exact JF h
theorem VM{κ γ:Type}[DecidableEq κ]{k:κ}{d:γ}:∀ {l:List (κ×γ)},vH l k=false->xI l k d=d
 | [],h=>rfl
 | p::l,h=>by
  unfold vH at h
  unfold xI
  by_cases hk:k=p.1
  ·simp[hk] at h
  ·simp only[hk,if_false] at h ⊢;exact VM h
theorem KW(c:Cf)(mp:List (Ex×Pt))(k:Ex):vH (bV c mp k) k=true:=by
 unfold bV
 split
 ·assumption
 ·exact VK _
theorem JG(c:Cf)(mp:List (Ex×Pt))(k:Ex):uI c (bV c mp k)=uI c mp:=by
 unfold bV
 split
 ·rfl
 ·rename_i h
  funext k'
  unfold uI
  by_cases e:k'=k
  ·subst e;rw[lQ,VM (by simpa using h)]
  ·rw[ct e]
theorem UP(c:Cf)(mp:List (Ex×Pt))(k:Ex):xI (bV c mp k) k default=uI c mp k:=by
 rw[<- JG c mp k];exact JF (KW c mp k)
def upd(pf:Ex->Pt)(k:Ex)(p:Pt):Ex->Pt:=fun k'=>if k'=k then p else pf k'
theorem KX(c:Cf)(mp:List (Ex×Pt))(k:Ex)(p:Pt):uI c (w6 mp k p)=upd (uI c mp) k p:=by
 funext k'
 unfold uI upd
 by_cases e:k'=k
 ·subst e;rw[lQ,if_pos rfl]
 ·rw[ct e,if_neg e]
theorem Tq{c:Cf}(hs:Small c)(hv:VJ c net h):
  t7 c rs sent mp ag come lost h=some (bV c mp (wd h)):=by
 unfold t7
 have hl:=hv.1
 have CZ:=hv.2.1
 obtain⟨⟨n1,n2⟩,n3,_⟩:=hv.node hs
 have hm:=hs.m
 have hsw:=hs.s
 have hN:nN c=nM c+c.fS.length:=rfl
 have hMM:nM c=c.fM.length:=rfl
 refine wA (P:=fun o=>o=some (bV c mp (wd h))) fun k hk=>?_
 show(if (!vH mp (wd h))=true then _ else _)=_
 unfold bV
 cases hh:vH mp (wd h) with
 | true=>simp only[Bool.not_true,Bool.false_eq_true,if_false,if_true];rw[hk]
 | false=>
  simp only[Bool.not_false,if_true,Bool.false_eq_true,if_false]
  refine tc (P:=fun o=>o=some (w6 mp (wd h) (qJ c (wd h)))) fun kk xH=>?_
  have xC:∀ d st,0<=d->d<=1000->0<=st->st<=1073741824->kk d st=k (w6 mp (wd h) (⟨⟨(nth c.fK h.fQ).yp,d,st⟩,0,0,[]⟩:Pt)):=by
   intro d st d1 d2 s1 s2
   rw[xH,xL ⟨hl,CZ⟩]
   unfold ca
   have:=hv.2.2.2.1
   have:=hv.2.2.2.2.1
   rw[if_neg (by simp only[Bool.or_eq_true,decide_eq_true_eq];omega)]
   rfl
  rw[xQ (by omega)]
  by_cases hg:nM c<=h.ya
  ·rw[if_pos (by rw[decide_eq_true_eq];omega),xL ⟨by omega,by omega⟩]
   have hf:rt c net h.ya:=⟨n1,n2⟩
   rcases n2 with n2 | ⟨_,a,b,d,e⟩
   ·omega
   ·have:=xC _ _ a b d e
    unfold sw nM at this
    rw[this,hk]
    have Ec:qJ c (wd h)=⟨⟨(nth c.fK h.fQ).yp,(sw c h.ya).yl,(sw c h.ya).fT⟩,0,0,[]⟩:=by
     unfold qJ wd;simp only[if_pos hg]
    rw[Ec];rfl
  ·rw[if_neg (by rw[decide_eq_true_eq];omega),xC 0 1073741824 (by omega) (by omega) (by omega) (by omega),hk]
   have Ec:qJ c (wd h)=⟨⟨(nth c.fK h.fQ).yp,0,1073741824⟩,0,0,[]⟩:=by
    unfold qJ wd;simp only[if_neg hg]
   rw[Ec]
def ve(rs:List (List Hop))(sent:List jQ)(node t i s:Int):List Ev:=((nth rs (nth sent s).yx).filter fun h=>decide (h.ya=node)).map fun h=>⟨t,i,(nth sent s).yx,s,h⟩
theorem nw{rs:List (List Hop)}{sent:List jQ}{s node t i:Int}{k:List Ev->Option (List Ev)}(hr:(nth rs (nth sent s).yx).length<=1000):
  ∀(n:Nat) (v:Int) (ag:List Ev),0<=v->v<=(nth rs (nth sent s).yx).length->(nth rs (nth sent s).yx).length<n+v->HP ag ag.length->(ag.length:Int)+1000<100000000+v->
  ∃ sh,jZ rs sent s node t i k n v ag=k sh/\sh.Perm ((((nth rs (nth sent s).yx).drop v.toNat).filter fun h=>decide (h.ya=node)).map (fun h=>(⟨t,i,(nth sent s).yx,s,h⟩:Ev))++ag)/\HP sh sh.length
 | 0,v,ag,h0,h1,h2,h3,h4=>by omega
 | n+1,v,ag,h0,h1,h2,h3,h4=>by
  rw[jZ]
  by_cases h:v<(nth rs (nth sent s).yx).length
  ·rw[Nv h]
   have hd:=kd (l:=nth rs (nth sent s).yx) (v:=v) h0 h
   have e1:(v+1).toNat=v.toNat+1:=by omega
   rw[hd,List.filter_cons]
   refine wA (P:=fun o=>∃ sh,o=k sh/\sh.Perm _/\HP sh sh.length) fun kk xH=>?_
   rw[xL ⟨h0,h⟩]
   by_cases hn:(nth (nth rs (nth sent s).yx) v).ya=node
   ·rw[Nv hn]
    obtain⟨a1,p1,p2,p3⟩:=UL (l:=ag) (x:=(⟨t,i,(nth sent s).yx,s,nth (nth rs (nth sent s).yx) v⟩:Ev)) (by omega) h3
    show ∃ sh,((kY ag (⟨t,i,(nth sent s).yx,s,nth (nth rs (nth sent s).yx) v⟩:Ev)).bind fun x=>kk x)=k sh/\_
    rw[p1]
    simp only[oB]
    rw[xH,xQ (x:=v+1) (by omega)]
    have eW:=p2.length_eq
    obtain⟨a2,q1,q2,q3⟩:=nw (t:=t) (i:=i) (node:=node) (k:=k) hr n (v+1) a1 (by omega) (by omega) (by omega) p3 (by rw[eW,List.length_cons];omega)
    refine⟨a2,q1,q2.trans ?_,q3⟩
    rw[e1,Nv hn,List.map_cons,List.cons_append]
    exact(List.Perm.append_left _ p2).trans List.perm_middle
   ·rw[Nw hn,xH,xQ (x:=v+1) (by omega)]
    obtain⟨a2,q1,q2,q3⟩:=nw (t:=t) (i:=i) (node:=node) (k:=k) hr n (v+1) ag (by omega) (by omega) (by omega) h3 (by omega)
    refine⟨a2,q1,?_,q3⟩
    rw[Nw hn,<- e1];exact q2
  ·rw[Nw h,List.drop_eq_nil_of_le (by omega)]
   exact⟨ag,rfl,.refl _,h3⟩
theorem JH{c:Cf}{node t i s:Int}(hs:0<=s/\s<sent.length)(hv:0<=(nth sent s).yx/\(nth sent s).yx<rs.length)(hr:(nth rs (nth sent s).yx).length<=1000)(h3:HP ag ag.length)(h4:(ag.length:Int)<90000000):
  ∃ sh,ff c rs sent mp ag come lost node t i s=some sh/\sh.Perm (ve rs sent node t i s++ag)/\HP sh sh.length:=by
 unfold ff
 rw[xL hs,xL hv]
 have hF:=wi
 generalize xR=N at hF ⊢
 refine wA (P:=fun o=>∃ sh,o=some sh/\sh.Perm (ve rs sent node t i s++ag)/\HP sh sh.length) fun k hk=>?_
 obtain⟨a2,q1,q2,q3⟩:=nw (s:=s) (t:=t) (i:=i) (node:=node) (k:=k) hr N 0 ag (by omega) (by omega) (by omega) h3 (by omega)
 exact⟨a2,q1.trans (hk _),by simpa [ve] using q2,q3⟩
structure St where
 ag:List Ev
 come:List Cm
 lost:List Cm
 pf:Ex->Pt
def mJ(c:Cf)(rs:List (List Hop))(sent:List jQ)(e:Ev)(eN:List Ev)(S:St):St:=
 if (kf (S.pf (wd e.yg)) e.yb (nth sent e.yf).yo).2.1≠0 then
  ⟨eN,S.come,S.lost++[⟨e.yf,e.yg.ya,e.yb⟩],upd S.pf (wd e.yg) (kf (S.pf (wd e.yg)) e.yb (nth sent e.yf).yo).2.2⟩
 else⟨ve rs sent e.yg.fX (kf (S.pf (wd e.yg)) e.yb (nth sent e.yf).yo).1 e.yg.fQ e.yf++eN,
  if e.yg.fX<nM c then S.come++[⟨e.yf,e.yg.fX,(kf (S.pf (wd e.yg)) e.yb (nth sent e.yf).yo).1⟩] else S.come,S.lost,upd S.pf (wd e.yg) (kf (S.pf (wd e.yg)) e.yb (nth sent e.yf).yo).2.2⟩
structure EC (c:Cf) (net:Int) (rs:List (List Hop)) (sent:List jQ) (e:Ev):Prop where
 hop:VJ c net e.yg
 s:0<=e.yf/\e.yf<sent.length
 v:0<=(nth sent e.yf).yx/\(nth sent e.yf).yx<rs.length
theorem UQ{c:Cf}(hs:Small c)(h0:ag≠[])(hp:HP ag ag.length)(ha:(ag.length:Int)<80000000)(hc:come.length<80000000)(hl:lost.length<80000000)(he:∀ e∈ag,EC c net rs sent e)(hP:∀ e∈ag,PIR (uI c mp (wd e.yg)))(hr:∀ r∈rs,r.length<=1000):
  ∃ e eN sh zx,(e::eN).Perm ag/\(∀ x∈ag,tZ e x)/\ue c rs sent mp ag come lost=some (sh,(mJ c rs sent e eN ⟨ag,come,lost,uI c mp⟩).come,(mJ c rs sent e eN ⟨ag,come,lost,uI c mp⟩).lost,zx)/\
   sh.Perm (mJ c rs sent e eN ⟨ag,come,lost,uI c mp⟩).ag/\HP sh sh.length/\uI c zx=(mJ c rs sent e eN ⟨ag,come,lost,uI c mp⟩).pf:=by
 obtain⟨e,eN,p1,p2,p3,p4⟩:=Tm h0 (by omega) hp
 have zQ:e∈ag:=p2.mem_iff.1 (by simp)
 have hE:=he e zQ
 have eW:=p2.length_eq
 rw[List.length_cons] at eW
 refine⟨e,eN,?_⟩
 unfold ue
 rw[p1]
 simp only[oB]
 rw[Tq hs hE.hop]
 simp only[oB]
 rw[xL hE.s,xL (show vH (bV c mp (wd e.yg)) (⟨e.yg.ya,e.yg.fQ⟩:Ex)=true from KW _ _ _)]
 have hput:mB (xI (bV c mp (wd e.yg)) (wd e.yg) default) e.yb (nth sent e.yf).yo=some (kf (uI c mp (wd e.yg)) e.yb (nth sent e.yf).yo):=by
  rw[UP];exact Tp (hP e zQ)
 show ∃ sh zx,_/\_/\((mB (xI (bV c mp (wd e.yg)) (wd e.yg) default) e.yb (nth sent e.yf).yo).bind _)=_/\_
 rw[hput]
 simp only[oB]
 unfold mJ
 simp only
 generalize kf (uI c mp (wd e.yg)) e.yb (nth sent e.yf).yo=R
 by_cases hR:R.2.1≠0
 ·rw[Nv hR,if_pos hR,xL (by simp;omega)]
  refine⟨eN,_,p2,p4,rfl,.refl _,p3,?_⟩
  show uI c (w6 (bV c mp (wd e.yg)) (wd e.yg) R.2.2)=_
  rw[KX,JG]
 ·rw[Nw hR,if_neg hR]
  have hrr:(nth rs (nth sent e.yf).yx).length<=1000:=hr _ (wp hE.v.1 hE.v.2)
  obtain⟨a1,q1,q2,q3⟩:=JH (c:=c) (mp:=w6 (bV c mp (wd e.yg)) (wd e.yg) R.2.2) (ag:=eN) (come:=if e.yg.fX<nM c then come++[⟨e.yf,e.yg.fX,R.1⟩] else come) (lost:=lost) (node:=e.yg.fX) (t:=R.1) (i:=e.yg.fQ) hE.s hE.v hrr p3 (by omega)
  refine⟨a1,w6 (bV c mp (wd e.yg)) (wd e.yg) R.2.2,p2,p4,?_,q2,q3,?_⟩
  ·refine wA (P:=fun o=>o=_) fun k hk=>?_
   unfold nM at q1 ⊢
   by_cases hn:e.yg.fX<c.fM.length
   ·rw[Nv hn,xL (by simp;omega),hk]
    rw[if_pos hn] at q1 ⊢
    rw[show(⟨e.yg.ya,e.yg.fQ⟩:Ex)=wd e.yg from rfl,q1];rfl
   ·rw[Nw hn,hk]
    rw[if_neg hn] at q1 ⊢
    rw[show(⟨e.yg.ya,e.yg.fQ⟩:Ex)=wd e.yg from rfl,q1];rfl
  ·rw[KX,JG]
end
end Go.Proofs.YthjnhebofpebpaaGreat
namespace Go.Proofs.YthjnhebofpebpaaGreat
open Go Go.RowKit Sep
theorem RK.mono{r:List Hop}{v w k:Int}(h:RK r v k)(hv:v<=w):RK r w k:=by
 rcases h with h | ⟨q,a,b,e⟩
 ·exact .inl h
 ·exact .inr ⟨q,a,by omega,e⟩
theorem VR.hv{c:Cf}{net:Int}{r:List Hop}(h:VR c net r):∀ x∈r,VJ c net x:=by
 intro x hx
 obtain⟨i,hi,rfl⟩:=List.getElem_of_mem hx
 have:=(h.cond (i:Int) (by omega) (by omega)).2.2.2
 rw[kh ⟨by omega,by omega⟩] at this
 unfold VJ
 simpa using this
theorem VR.next_ne{c:Cf}{net:Int}{r:List Hop}(h:VR c net r):∀ x∈r,x.fX≠(nth r 0).ya:=by
 intro x hx
 obtain⟨i,hi,rfl⟩:=List.getElem_of_mem hx
 have:=(h.cond (i:Int) (by omega) (by omega)).2.1
 rw[kh (i:=(i:Int)) ⟨by omega,by omega⟩] at this
 simp only[Int.toNat_natCast] at this
 exact fun e=>this (.inl e)
theorem VR.idx{c:Cf}{net:Int}{r:List Hop}(h:VR c net r){i j:Nat}(hi:i<r.length)(hj:j<r.length)(hij:i<j):r[i].fX≠r[j].fX/\¬(r[i].fQ=r[j].fQ):=by
 have cj:=h.cond (j:Int) (by omega) (by omega)
 have ci:=h.cond (i:Int) (by omega) (by omega)
 have ei:nth r (i:Int)=r[i]:=by rw[kh ⟨by omega,by omega⟩];simp
 have ej:nth r (j:Int)=r[j]:=by rw[kh ⟨by omega,by omega⟩];simp
 have hn:r[i].fX≠r[j].fX:=by
  intro e
  have:=cj.2.1
  rw[ej] at this
  exact this (.inr ⟨i,by omega,by omega,by rw[ei];exact e⟩)
 refine⟨hn,fun e=>?_⟩
 have ji:=ci.2.2.2
 have jj:=cj.2.2.2
 rw[ei] at ji;rw[ej] at jj
 obtain⟨_,_,_,_,_,_,_,_,a⟩:=ji
 obtain⟨_,_,_,_,_,_,_,_,b⟩:=jj
 rw[<- e] at b
 have hx:r[j].fX=r[i].ya:=by
  rcases a with⟨a1,a2⟩ | ⟨a1,a2⟩ <;> rcases b with⟨b1,b2⟩ | ⟨b1,b2⟩
  ·exact absurd (a2.symm.trans b2) hn
  ·exact b1.symm.trans a1
  ·exact b2.symm.trans a2
  ·exact absurd (a1.symm.trans b1) hn
 have:=cj.2.1
 rw[ej,hx] at this
 have hk:=ci.1
 rw[ei] at hk
 exact this (hk.mono (by omega))
theorem VR.next_inj{c:Cf}{net:Int}{r:List Hop}(h:VR c net r){x y:Hop}(hx:x∈r)(hy:y∈r)(e:x.fX=y.fX):x=y:=by
 obtain⟨i,hi,rfl⟩:=List.getElem_of_mem hx
 obtain⟨j,hj,rfl⟩:=List.getElem_of_mem hy
 rcases Nat.lt_trichotomy i j with hij | hij | hij
 ·exact absurd e (h.idx hi hj hij).1
 ·subst hij;rfl
 ·exact absurd e.symm (h.idx hj hi hij).1
theorem VR.link_inj{c:Cf}{net:Int}{r:List Hop}(h:VR c net r){x y:Hop}(hx:x∈r)(hy:y∈r)(e:x.fQ=y.fQ):x=y:=by
 obtain⟨i,hi,rfl⟩:=List.getElem_of_mem hx
 obtain⟨j,hj,rfl⟩:=List.getElem_of_mem hy
 rcases Nat.lt_trichotomy i j with hij | hij | hij
 ·exact absurd e (h.idx hi hj hij).2
 ·subst hij;rfl
 ·exact absurd e.symm (h.idx hj hi hij).2
theorem VR.nodup{c:Cf}{net:Int}{r:List Hop}(h:VR c net r):r.Nodup:=by
 rw[List.nodup_iff_pairwise_ne,List.pairwise_iff_getElem]
 intro i j hi hj hij e
 exact(h.idx hi hj hij).1 (by rw[e])
structure Sg (c:Cf) (net:Int) (rs:List (List Hop)) (sent:List jQ):Prop where
 small:Small c
 va:VA c net rs
 fr:FRm c 40 sent
abbrev Id:=Int×Hop
def qv(e:Ev):Id:=(e.yf,e.yg)
def route(rs:List (List Hop))(sent:List jQ)(s:Int):List Hop:=nth rs (nth sent s).yx
section
variable {c:Cf} {net:Int} {rs:List (List Hop)} {sent:List jQ}
theorem Sg.vl(g:Sg c net rs sent){s:Int}(h:0<=s/\s<sent.length):0<=(nth sent s).yx/\(nth sent s).yx<rs.length:=by
 have:=g.fr.each s h.1 h.2
 have hl:=g.va.len
 exact⟨this.2.2.1,by have:=this.2.2.2.1;omega⟩
theorem Sg.route(g:Sg c net rs sent){s:Int}(h:0<=s/\s<sent.length):VR c net (route rs sent s):=g.va.each _ (wp (g.vl h).1 (g.vl h).2)
def bh(rs:List (List Hop))(sent:List jQ):List Id:=(List.range sent.length).flatMap fun i:Nat=>(route rs sent (i:Int)).map fun h=>((i:Int),h)
theorem Wo{x:Id}:x∈bh rs sent↔(0<=x.1/\x.1<sent.length)/\x.2∈route rs sent x.1:=by
 unfold bh
 simp only[List.mem_flatMap,List.mem_range,List.mem_map]
 constructor
 ·rintro⟨i,hi,h,hh,rfl⟩;exact⟨⟨by simp,by simp;omega⟩,hh⟩
 ·rintro⟨⟨h1,h2⟩,h3⟩
  exact⟨x.1.toNat,by omega,x.2,by rw[Int.toNat_of_nonneg h1];exact h3,by rw[Int.toNat_of_nonneg h1]⟩
theorem dj{α β:Type}{f:α->List β}{m:Nat}:∀(l:List α),(∀ x∈l,(f x).length<=m)->(l.flatMap f).length<=l.length*m
 | [],_=>by simp
 | x::l,h=>by
  rw[List.flatMap_cons,List.length_append,List.length_cons,Nat.succ_mul]
  have h1:=h x (by simp)
  have h2:=dj l (fun y hy=>h y (List.mem_cons_of_mem _ hy))
  omega
theorem Sg.ids_len(g:Sg c net rs sent):(bh rs sent).length<=1280:=by
 have h1:=dj (f:=fun i:Nat=>(Go.Proofs.YthjnhebofpebpaaGreat.route rs sent (i:Int)).map fun h=>((i:Int),h)) (m:=32) (List.range sent.length) (fun i hi=>by
  rw[List.length_map]
  exact(g.route ⟨by omega,by have:=List.mem_range.1 hi;omega⟩).len)
 rw[List.length_range] at h1
 have:=g.fr.len
 unfold bh;omega
theorem oF{α:Type}[DecidableEq α]:∀(l m:List α),l.Nodup->(∀ x∈l,x∈m)->l.length<=m.length
 | [],m,_,_=>by simp
 | x::l,m,h,hm=>by
  have hx:=hm x (by simp)
  rw[List.nodup_cons] at h
  have:=oF l (m.erase x) h.2 (fun y hy=>(List.mem_erase_of_ne (fun e=>h.1 (by rw[<- e];exact hy))).2 (hm y (List.mem_cons_of_mem _ hy)))
  rw[List.length_erase_of_mem hx] at this
  have hp:0<m.length:=List.length_pos_of_mem hx
  rw[List.length_cons];omega
def UK(rs:List (List Hop))(sent:List jQ)(k:Ex):Prop:=∃ s h,(0<=s/\s<(sent.length:Int))/\h∈route rs sent s/\wd h=k
structure EOK (rs:List (List Hop)) (sent:List jQ) (e:Ev):Prop where
 s:0<=e.yf/\e.yf<sent.length
 v:e.yO=(nth sent e.yf).yx
 h:e.yg∈route rs sent e.yf
 t:0<=e.yb
structure IV (c:Cf) (net:Int) (rs:List (List Hop)) (sent:List jQ) (S:St) (D:List Id):Prop where
 ev:∀ e∈S.ag,EOK rs sent e
 tm:∀ e∈S.ag,e.yb<=536870912+2200*D.length
 nd:(D++S.ag.map qv).Nodup
 mem:∀ d∈D,d∈bh rs sent
 par:∀ x∈D++S.ag.map qv,x.2.ya=(nth (route rs sent x.1) 0).ya\/∃ y∈route rs sent x.1,y.fX=x.2.ya/\(x.1,y)∈D
 pi:∀ k,UK rs sent k->PIR (S.pf k)/\(S.pf k).yD<=536870912+2200*D.length/\(S.pf k).yn.length<=D.length
 now:∀ k,UK rs sent k->∀ e∈S.ag,(S.pf k).yP<=e.yb
 num:∀ k,(S.pf k).yk=(qJ c k).yk
 cl:S.come.length+S.lost.length<=D.length
structure EQ (S T:St):Prop where
 ag:S.ag.Perm T.ag
 come:S.come.Perm T.come
 lost:S.lost.Perm T.lost
 pf:S.pf=T.pf
theorem EQ.refl(S:St):EQ S S:=⟨.refl _,.refl _,.refl _,rfl⟩
theorem EQ.symm{S T:St}(h:EQ S T):EQ T S:=⟨h.ag.symm,h.come.symm,h.lost.symm,h.pf.symm⟩
theorem EQ.trans{S T U:St}(h:EQ S T)(k:EQ T U):EQ S U:=⟨h.ag.trans k.ag,h.come.trans k.come,h.lost.trans k.lost,h.pf.trans k.pf⟩
theorem IV.eq{S T:St}{D:List Id}(h:IV c net rs sent S D)(k:EQ S T):IV c net rs sent T D:=by
 have hm:∀ e,e∈T.ag->e∈S.ag:=fun e he=>k.ag.mem_iff.2 he
 have hp:(D++S.ag.map qv).Perm (D++T.ag.map qv):=(k.ag.map qv).append_left D
 refine⟨fun e he=>h.ev e (hm e he),fun e he=>h.tm e (hm e he),(hp.nodup_iff).1 h.nd,h.mem,fun x hx=>h.par x (hp.mem_iff.2 hx),?_,?_,?_,?_⟩
 ·intro q hq;rw[<- k.pf];exact h.pi q hq
 ·intro q hq e he;rw[<- k.pf];exact h.now q hq e (hm e he)
 ·intro q;rw[<- k.pf];exact h.num q
 ·rw[<- k.come.length_eq,<- k.lost.length_eq];exact h.cl
theorem IV.len(g:Sg c net rs sent){S:St}{D:List Id}(h:IV c net rs sent S D):D.length+S.ag.length<=1280:=by
 have:=oF _ (bh rs sent) h.nd (fun x hx=>by
  rcases List.mem_append.1 hx with hx | hx
  ·exact h.mem x hx
  ·obtain⟨e,he,rfl⟩:=List.mem_map.1 hx
   have:=h.ev e he
   exact Wo.2 ⟨this.s,this.h⟩)
 rw[List.length_append,List.length_map] at this
 exact Nat.le_trans this g.ids_len
theorem VN{p:Pt}{t size:Int}(h:PIR p)(h1:1<=size/\size<=72)(ht:p.yP<=t/\t<=1073741824):
  (kf p t size).2.2.yP=t/\(kf p t size).2.2.yk=p.yk/\(kf p t size).2.2.yn.length<=p.yn.length+1/\
  ((kf p t size).2.1=4/\(kf p t size).2.2.yD=p.yD\/(kf p t size).2.1=0/\(kf p t size).1=fy p t size/\(kf p t size).2.2.yD=fy p t size)/\t+1<=fy p t size/\fy p t size<=max t p.yD+2152:=by
 have hm:=Wn (a:=size) (b:=p.yk.yp) h1 h.slow
 have hd:=h.delay
 have hw:=bf (t:=t) (l:=p.yn)
 have he:t+1<=fy p t size/\fy p t size<=max t p.yD+2152:=by unfold fy;omega
 unfold kf
 rw[if_neg (by omega)]
 split
 ·exact⟨rfl,rfl,by simp only;omega,.inl ⟨rfl,rfl⟩,he⟩
 ·exact⟨rfl,rfl,by simp only[List.length_append,List.length_singleton];omega,.inr ⟨rfl,rfl,rfl⟩,he⟩
theorem bi{e:Ev}{node t i s:Int}:e∈ve rs sent node t i s↔∃ h∈route rs sent s,h.ya=node/\e=⟨t,i,(nth sent s).yx,s,h⟩:=by
 unfold ve route
 simp only[List.mem_map,List.mem_filter,decide_eq_true_eq]
 constructor
 ·rintro⟨h,⟨h1,h2⟩,rfl⟩;exact⟨h,h1,h2,rfl⟩
 ·rintro⟨h,h1,h2,rfl⟩;exact⟨h,⟨h1,h2⟩,rfl⟩
theorem nx{a b:Ev}(h:tZ a b):a.yb<=b.yb:=by unfold tZ bT at h;omega
theorem V3(g:Sg c net rs sent){S:St}{D:List Id}(h:IV c net rs sent S D){e:Ev}{eN:List Ev}(hp:(e::eN).Perm S.ag)(xO:∀ x∈S.ag,tZ e x):IV c net rs sent (mJ c rs sent e eN S) (qv e::D):=by
 have eW:=h.len g
 have zQ:e∈S.ag:=hp.mem_iff.1 (by simp)
 have DG:=hp.length_eq
 rw[List.length_cons] at DG
 have he:=h.ev e zQ
 have ht:=h.tm e zQ
 have zq:∀ x∈eN,x∈S.ag:=fun x hx=>hp.mem_iff.1 (List.mem_cons_of_mem _ hx)
 have hk:UK rs sent (wd e.yg):=⟨e.yf,e.yg,he.s,he.h,rfl⟩
 obtain⟨p1,p2,p3⟩:=h.pi _ hk
 have iL:=(g.fr.each e.yf he.s.1 he.s.2).2.2.2.2
 have hc:=VN p1 (size:=(nth sent e.yf).yo) ⟨iL.1,iL.2.1⟩ (t:=e.yb) ⟨h.now _ hk e zQ,by omega⟩
 have hPI:=UO (size:=(nth sent e.yf).yo) p1 he.t (by omega) (by omega)
 have hnd':(D++(qv e::eN.map qv)).Nodup:=by
  have:(D++S.ag.map qv).Perm (D++(qv e::eN.map qv)):=(by simpa using hp.symm.map qv:(S.ag.map qv).Perm (qv e::eN.map qv)).append_left D
  exact this.nodup_iff.1 h.nd
 have EZ:((qv e::D)++eN.map qv).Nodup:=(List.perm_middle (l₁:=D) (a:=qv e) (l₂:=eN.map qv)).nodup_iff.1 hnd'
 have Db:∀ d∈qv e::D,d∈bh rs sent:=fun d hd=>by
  rcases List.mem_cons.1 hd with rfl | hd
  ·exact Wo.2 ⟨he.s,he.h⟩
  ·exact h.mem d hd
 have BS:∀ x∈(qv e::D)++eN.map qv,x.2.ya=(nth (route rs sent x.1) 0).ya\/∃ y∈route rs sent x.1,y.fX=x.2.ya/\(x.1,y)∈qv e::D:=by
  intro x hx
  have hx':x∈D++S.ag.map qv:=by
   rcases List.mem_append.1 hx with hx | hx
   ·rcases List.mem_cons.1 hx with rfl | hx
    ·exact List.mem_append_right _ (List.mem_map.2 ⟨e,zQ,rfl⟩)
    ·exact List.mem_append_left _ hx
   ·obtain⟨y,hy,rfl⟩:=List.mem_map.1 hx
    exact List.mem_append_right _ (List.mem_map.2 ⟨y,zq y hy,rfl⟩)
  rcases h.par x hx' with a | ⟨y,a,b,d⟩
  ·exact .inl a
  ·exact .inr ⟨y,a,b,List.mem_cons_of_mem _ d⟩
 have E0:∀ k,UK rs sent k->PIR (upd S.pf (wd e.yg) (kf (S.pf (wd e.yg)) e.yb (nth sent e.yf).yo).2.2 k)/\(upd S.pf (wd e.yg) (kf (S.pf (wd e.yg)) e.yb (nth sent e.yf).yo).2.2 k).yD<=536870912+2200*(qv e::D).length/\(upd S.pf (wd e.yg) (kf (S.pf (wd e.yg)) e.yb (nth sent e.yf).yo).2.2 k).yn.length<=(qv e::D).length:=by
  intro k vQ
  unfold upd
  rw[List.length_cons]
  split
  ·refine⟨hPI,?_,?_⟩
   ·rcases hc.2.2.2.1 with⟨_,a⟩ | ⟨_,_,a⟩ <;> rw[a] <;> omega
   ·omega
  ·obtain⟨a,b,d⟩:=h.pi k vQ
   exact⟨a,by omega,by omega⟩
 have BT:∀ k,UK rs sent k->∀ x:Ev,e.yb<=x.yb->(x∈eN\/e.yb<x.yb)->(upd S.pf (wd e.yg) (kf (S.pf (wd e.yg)) e.yb (nth sent e.yf).yo).2.2 k).yP<=x.yb:=by
  intro k vQ x hx _
  unfold upd
  split
  ·rw[hc.1];exact hx
  ·exact Int.le_trans (h.now k vQ e zQ) hx
 have Dc:∀ k,(upd S.pf (wd e.yg) (kf (S.pf (wd e.yg)) e.yb (nth sent e.yf).yo).2.2 k).yk=(qJ c k).yk:=by
  intro k
  unfold upd
  split
  ·rename_i vQ;rw[hc.2.1,vQ];exact h.num _
  ·exact h.num k
 have vL:=h.cl
 unfold mJ
 by_cases hR:(kf (S.pf (wd e.yg)) e.yb (nth sent e.yf).yo).2.1≠0
 ·rw[if_pos hR]
  refine⟨fun x hx=>h.ev x (zq x hx),fun x hx=>?_,EZ,Db,BS,E0,fun k vQ x hx=>BT k vQ x (nx (xO x (zq x hx))) (.inl hx),Dc,?_⟩
  ·have:=h.tm x (zq x hx);rw[List.length_cons];omega
  ·simp only[List.length_append,List.length_cons,List.length_nil];omega
 ·rw[if_neg hR]
  have Bo:(kf (S.pf (wd e.yg)) e.yb (nth sent e.yf).yo).1=fy (S.pf (wd e.yg)) e.yb (nth sent e.yf).yo:=by
   rcases hc.2.2.2.1 with⟨a,_⟩ | ⟨_,a,_⟩
   ·exact absurd (by rw[a];decide) hR
   ·exact a
  have zF:=g.route he.s
  have E1:∀ x,x∈ve rs sent e.yg.fX (kf (S.pf (wd e.yg)) e.yb (nth sent e.yf).yo).1 e.yg.fQ e.yf->∃ y∈route rs sent e.yf,y.ya=e.yg.fX/\x=⟨fy (S.pf (wd e.yg)) e.yb (nth sent e.yf).yo,e.yg.fQ,(nth sent e.yf).yx,e.yf,y⟩:=by
   intro x hx
   rw[Bo] at hx
   exact bi.1 hx
  refine⟨fun x hx=>?_,fun x hx=>?_,?_,Db,fun x hx=>?_,E0,fun k vQ x hx=>?_,Dc,?_⟩
  ·rcases List.mem_append.1 hx with hx | hx
   ·obtain⟨y,y1,y2,rfl⟩:=E1 x hx
    exact⟨he.s,rfl,y1,by have:=he.t;show 0<=fy _ _ _;omega⟩
   ·exact h.ev x (zq x hx)
  ·rw[List.length_cons]
   rcases List.mem_append.1 hx with hx | hx
   ·obtain⟨y,y1,y2,rfl⟩:=E1 x hx
    show fy _ _ _<=_;omega
   ·have:=h.tm x (zq x hx);omega
  ·-- no frame comes to a hop twice
   rw[List.map_append]
   have hnn:((ve rs sent e.yg.fX (kf (S.pf (wd e.yg)) e.yb (nth sent e.yf).yo).1 e.yg.fQ e.yf).map qv).Nodup:=by
    unfold ve
    rw[List.map_map]
    refine List.Pairwise.map _ (R:=fun a b=>a≠b) (fun a b zJ Cg=>zJ (by simpa [qv] using Cg)) ?_
    exact(zF.nodup).filter _
   have hdis:∀ x∈(ve rs sent e.yg.fX (kf (S.pf (wd e.yg)) e.yb (nth sent e.yf).yo).1 e.yg.fQ e.yf).map qv,x∉(qv e::D)++eN.map qv:=by
    intro x hx hx2
    obtain⟨z,hz,rfl⟩:=List.mem_map.1 hx
    obtain⟨y,y1,y2,rfl⟩:=E1 z hz
    have hx3:((e.yf,y):Id)∈D++S.ag.map qv:=by
     rcases List.mem_append.1 hx2 with hq | hq
     ·rcases List.mem_cons.1 hq with hq | hq
      ·exact List.mem_append_right _ (List.mem_map.2 ⟨e,zQ,hq.symm⟩)
      ·exact List.mem_append_left _ hq
     ·obtain⟨w,hw,AD⟩:=List.mem_map.1 hq
      exact List.mem_append_right _ (List.mem_map.2 ⟨w,zq w hw,AD⟩)
    rcases h.par _ hx3 with a | ⟨q,q1,q2,q3⟩
    ·exact zF.next_ne _ he.h (y2▸a)
    ·have:q=e.yg:=zF.next_inj q1 he.h (q2.trans y2)
     subst this
     have:=(List.nodup_append.1 h.nd).2.2 _ q3 _ (List.mem_map.2 ⟨e,zQ,rfl⟩)
     exact this rfl
   have tN:((qv e::D)++((ve rs sent e.yg.fX (kf (S.pf (wd e.yg)) e.yb (nth sent e.yf).yo).1 e.yg.fQ e.yf).map qv++eN.map qv)).Perm ((ve rs sent e.yg.fX (kf (S.pf (wd e.yg)) e.yb (nth sent e.yf).yo).1 e.yg.fQ e.yf).map qv++((qv e::D)++eN.map qv)):=by
    rw[<- List.append_assoc,<- List.append_assoc]
    exact List.perm_append_comm.append_right _
   exact tN.nodup_iff.2 (List.nodup_append.2 ⟨hnn,EZ,fun a ha b hb zJ=>hdis a ha (zJ▸hb)⟩)
  ·rcases List.mem_append.1 hx with hx | hx
   ·exact BS x (List.mem_append_left _ hx)
   ·rw[List.map_append] at hx
    rcases List.mem_append.1 hx with hx | hx
    ·obtain⟨z,hz,rfl⟩:=List.mem_map.1 hx
     obtain⟨y,y1,y2,rfl⟩:=E1 z hz
     exact .inr ⟨e.yg,he.h,y2.symm,List.mem_cons_self ..⟩
    ·exact BS x (List.mem_append_right _ hx)
  ·rcases List.mem_append.1 hx with hx | hx
   ·obtain⟨y,y1,y2,rfl⟩:=E1 x hx
    exact BT k vQ _ (by show _<=fy _ _ _;omega) (.inr (by show _<fy _ _ _;omega))
   ·exact BT k vQ x (nx (xO x (zq x hx))) (.inl hx)
  ·simp only[List.length_cons]
   split
   ·simp only[List.length_append,List.length_cons,List.length_nil];omega
   ·omega
end
end Go.Proofs.YthjnhebofpebpaaGreat
namespace Go.Proofs.YthjnhebofpebpaaGreat
open Go Go.RowKit Sep
section
variable {c:Cf} {net:Int} {rs:List (List Hop)} {sent:List jQ}
inductive Runs (c:Cf) (rs:List (List Hop)) (sent:List jQ):Nat->St->St->Prop
 | done {S T:St} (h:S.ag=[]) (k:EQ S T):Runs c rs sent 0 S T
 | step {S S' T:St} {n:Nat} (e:Ev) (eN:List Ev) (hp:(e::eN).Perm S.ag) (xO:∀ x∈S.ag,tZ e x) (zV:EQ (mJ c rs sent e eN S) S') (hr:Runs c rs sent n S' T):Runs c rs sent (n+1) S T
theorem JI{S T:St}(h:EQ S T){e:Ev}{r1 r2:List Ev}(hr:r1.Perm r2):EQ (mJ c rs sent e r1 S) (mJ c rs sent e r2 T):=by
 unfold mJ
 rw[h.pf]
 split
 ·exact⟨hr,h.come,h.lost.append_right _,rfl⟩
 ·refine⟨hr.append_left _,?_,h.lost,rfl⟩
  show(if _ then _ else _:List Cm).Perm (if _ then _ else _)
  split
  ·exact h.come.append_right _
  ·exact h.come
theorem Runs.trans_eq:∀ {n:Nat} {S T F:St},Runs c rs sent n S F->EQ S T->∃ F',Runs c rs sent n T F'/\EQ F F'
 | _,S,T,F,.done h k,q=>⟨T,.done (by have:=q.ag;rw[h] at this;exact List.perm_nil.1 this.symm) (EQ.refl _),k.symm.trans q⟩
 | _,S,T,F,.step e eN hp xO zV hr,q=>by
  refine⟨F,.step e eN (hp.trans q.ag) (fun x hx=>xO x (q.ag.mem_iff.2 hx)) ((JI q (.refl eN)).symm.trans zV) hr,EQ.refl _⟩
theorem Runs.fin{n:Nat}{S F:St}(h:Runs c rs sent n S F):F.ag=[]:=by
 induction h with
 | done h k=>have:=k.ag;rw[h] at this;exact List.perm_nil.1 this.symm
 | step _ _ _ _ _ _ ih=>exact ih
theorem Kl{a b:Ev}(h:a.yb<b.yb):tZ a b:=by unfold tZ bT;omega
end
end Go.Proofs.YthjnhebofpebpaaGreat
namespace Go.Proofs.YthjnhebofpebpaaGreat
open Go Go.RowKit Sep
section
variable {c:Cf} {net:Int} {rs:List (List Hop)} {sent:List jQ}
def oo(rs:List (List Hop))(sent:List jQ)(i:Nat):List Ev:=ve rs sent (nth (route rs sent (i:Int)) 0).ya (nth sent (i:Int)).yb (-1) (i:Int)
def JJ(rs:List (List Hop))(sent:List jQ):List Ev:=(List.range sent.length).flatMap (oo rs sent)
def init(c:Cf)(rs:List (List Hop))(sent:List jQ):St:=⟨JJ rs sent,[],[],qJ c⟩
theorem bW{i:Nat}{e:Ev}:e∈oo rs sent i↔∃ h∈route rs sent (i:Int),h.ya=(nth (route rs sent (i:Int)) 0).ya/\e=⟨(nth sent (i:Int)).yb,-1,(nth sent (i:Int)).yx,(i:Int),h⟩:=bi
theorem V4{e:Ev}:e∈JJ rs sent↔∃ i:Nat,i<sent.length/\∃ h∈route rs sent (i:Int),h.ya=(nth (route rs sent (i:Int)) 0).ya/\e=⟨(nth sent (i:Int)).yb,-1,(nth sent (i:Int)).yx,(i:Int),h⟩:=by
 unfold JJ
 rw[List.mem_flatMap]
 constructor
 ·rintro⟨i,hi,he⟩;exact⟨i,List.mem_range.1 hi,bW.1 he⟩
 ·rintro⟨i,hi,he⟩;exact⟨i,List.mem_range.2 hi,bW.2 he⟩
theorem ny(g:Sg c net rs sent){k:Ex}(h:UK rs sent k):PIR (qJ c k):=by
 obtain⟨s,x,hs,hx,rfl⟩:=h
 exact MQ g.small ((g.route hs).hv x hx)
theorem V5(g:Sg c net rs sent):IV c net rs sent (init c rs sent) []:=by
 have hm:∀ e∈(init c rs sent).ag,∃ i:Nat,i<sent.length/\∃ h∈route rs sent (i:Int),h.ya=(nth (route rs sent (i:Int)) 0).ya/\e=⟨(nth sent (i:Int)).yb,-1,(nth sent (i:Int)).yx,(i:Int),h⟩:=fun e he=>V4.1 he
 have CX:∀ e∈(init c rs sent).ag,EOK rs sent e/\e.yb<=536870912:=by
  intro e he
  obtain⟨i,hi,h,h1,h2,rfl⟩:=hm e he
  have hf:=g.fr.each (i:Int) (by omega) (by omega)
  exact⟨⟨⟨by simp,by simp;omega⟩,rfl,h1,hf.1⟩,hf.2.1⟩
 refine⟨fun e he=>(CX e he).1,fun e he=>by simpa using (CX e he).2,?_,by simp,?_,?_,?_,fun k=>rfl,by simp[init]⟩
 ·rw[List.nil_append]
  show((JJ rs sent).map qv).Nodup
  unfold JJ
  rw[List.map_flatMap,List.nodup_iff_pairwise_ne,List.pairwise_flatMap]
  constructor
  ·intro i hi
   unfold oo ve
   rw[List.map_map]
   refine List.Pairwise.map _ (R:=fun a b=>a≠b) (fun a b zJ Cg=>zJ (by simpa [qv] using Cg)) ?_
   exact((g.route ⟨by omega,by have:=List.mem_range.1 hi;omega⟩).nodup).filter _
  ·refine(List.nodup_iff_pairwise_ne.1 List.nodup_range).imp_of_mem ?_
   intro i j hi hj hij x hx y hy hxy
   obtain⟨a,ha,rfl⟩:=List.mem_map.1 hx
   obtain⟨b,hb,rfl⟩:=List.mem_map.1 hy
   obtain⟨h,_,_,rfl⟩:=bW.1 ha
   obtain⟨h',_,_,rfl⟩:=bW.1 hb
   have:=congrArg Prod.fst hxy
   simp[qv] at this
   omega
 ·intro x hx
  rw[List.nil_append] at hx
  obtain⟨e,he,rfl⟩:=List.mem_map.1 hx
  obtain⟨i,hi,h,h1,h2,rfl⟩:=hm e he
  exact .inl h2
 ·intro k hk
  have:=ny g hk
  exact⟨this,by simp[init,qJ],by simp[init,qJ]⟩
 ·intro k hk e he
  exact(CX e he).1.t
theorem JK(v:Nat)(h:v<sent.length):((List.range (v+1)).flatMap (oo rs sent))=(List.range v).flatMap (oo rs sent)++oo rs sent v:=by
 rw[List.range_succ,List.flatMap_append];simp
theorem V6(g:Sg c net rs sent){k:List Ev->Option (List Cm×List Cm×Int)}:∀(n:Nat) (v:Int) (ag:List Ev),0<=v->v<=sent.length->sent.length<n+v->HP ag ag.length->ag.Perm ((List.range v.toNat).flatMap (oo rs sent))->
  ∃ sh,fw sent rs c k n v ag=k sh/\sh.Perm (JJ rs sent)/\HP sh sh.length
 | 0,v,ag,h0,h1,h2,h3,h4=>by omega
 | n+1,v,ag,h0,h1,h2,h3,h4=>by
  rw[fw]
  by_cases h:v<sent.length
  ·rw[Nv h]
   have hl40:=g.fr.len
   refine wA (P:=fun o=>∃ sh,o=k sh/\sh.Perm (JJ rs sent)/\HP sh sh.length) fun kk xH=>?_
   have EM:=g.vl ⟨h0,h⟩
   have zF:=g.route ⟨h0,h⟩
   have e1:(v+1).toNat=v.toNat+1:=by omega
   have e2:((v.toNat:Nat):Int)=v:=Int.toNat_of_nonneg h0
   rw[xL ⟨h0,h⟩,xL EM]
   have eW:ag.length<=1280:=by
    rw[h4.length_eq]
    have h5:=dj (f:=oo rs sent) (m:=32) (List.range v.toNat) (fun i hi=>by
     have BF:=List.mem_range.1 hi
     unfold oo ve
     rw[List.length_map]
     exact Nat.le_trans (List.length_filter_le _ _) (g.route ⟨by omega,by omega⟩).len)
    rw[List.length_range] at h5
    have:=g.fr.len
    omega
   by_cases hr:(((nth rs ((nth sent v).yx)).length:Nat):Int)>0
   ·rw[Nv hr,xL ⟨by omega,hr⟩]
    obtain⟨a1,q1,q2,q3⟩:=JH (c:=c) (mp:=([]:List (Ex×Pt))) (come:=[]) (lost:=[]) (node:=(nth (nth rs ((nth sent v).yx)) 0).ya) (t:=(nth sent v).yb) (i := -1) ⟨h0,h⟩ EM (Nat.le_trans zF.len (by omega)) h3 (by omega)
    rw[q1]
    simp only[oB]
    rw[xH,xQ (x:=v+1) (by omega)]
    refine V6 g n (v+1) a1 (by omega) (by omega) (by omega) q3 ?_
    rw[e1,JK v.toNat (by omega)]
    refine q2.trans (List.perm_append_comm.trans (h4.append_right _).symm.symm |>.trans ?_)
    unfold oo route
    rw[e2]
   ·rw[Nw hr,xH,xQ (x:=v+1) (by omega)]
    refine V6 g n (v+1) ag (by omega) (by omega) (by omega) h3 ?_
    rw[e1,JK v.toNat (by omega)]
    have hz:oo rs sent v.toNat=[]:=by
     unfold oo ve
     rw[e2,List.eq_nil_of_length_eq_zero (l:=nth rs (nth sent v).yx) (by omega)];rfl
    rw[hz,List.append_nil];exact h4
  ·rw[Nw h]
   refine⟨ag,rfl,?_,h3⟩
   have:v.toNat=sent.length:=by omega
   rw[this] at h4;exact h4
theorem EOK.ec(g:Sg c net rs sent){e:Ev}(h:EOK rs sent e):EC c net rs sent e:=⟨(g.route h.s).hv _ h.h,h.s,g.vl h.s⟩
theorem KY(g:Sg c net rs sent){k:List Ev->List Cm->List Cm->List (Ex×Pt)->Option (List Cm×List Cm×Int)}:∀(N:Nat) (D:List Id) (ag:List Ev) (come lost:List Cm) (mp:List (Ex×Pt)),
  IV c net rs sent ⟨ag,come,lost,uI c mp⟩ D->HP ag ag.length->1281<=N+D.length->
  ∃ n F zx,Runs c rs sent n ⟨ag,come,lost,uI c mp⟩ F/\fx c rs sent k N ag come lost mp=k [] F.come F.lost zx
 | 0,D,ag,come,lost,mp,h,hp,hN=>by have:=h.len g;omega
 | N+1,D,ag,come,lost,mp,h,hp,hN=>by
  have eW:=h.len g
  have vL:=h.cl
  rw[fx]
  by_cases h0:ag=[]
  ·subst h0
   rw[if_neg (by simp)]
   exact⟨0,⟨[],come,lost,uI c mp⟩,mp,.done rfl (EQ.refl _),rfl⟩
  ·have zN:(((ag.length:Nat):Int)>0):=by cases ag with | nil=>exact absurd rfl h0 | cons=>simp
   rw[Nv zN]
   simp only at eW vL
   obtain⟨e,eN,sh,zx,p1,p2,p3,p4,p5,p6⟩:=UQ (c:=c) (net:=net) (rs:=rs) (sent:=sent) (mp:=mp) (come:=come) (lost:=lost) g.small h0 hp (by omega) (by omega) (by omega) (fun e he=>(h.ev e he).ec g)
    (fun e he=>(h.pi _ ⟨e.yf,e.yg,(h.ev e he).s,(h.ev e he).h,rfl⟩).1) (fun r hr=>Nat.le_trans (g.va.each r hr).len (by omega))
   rw[p3]
   simp only[oB]
   have zV:EQ (mJ c rs sent e eN ⟨ag,come,lost,uI c mp⟩) ⟨sh,(mJ c rs sent e eN ⟨ag,come,lost,uI c mp⟩).come,(mJ c rs sent e eN ⟨ag,come,lost,uI c mp⟩).lost,uI c zx⟩:=⟨p4.symm,.refl _,.refl _,p6.symm⟩
   have Dd:=(V3 g h p1 p2).eq zV
   obtain⟨n,F,mp'',r1,r2⟩:=KY g (k:=k) N (qv e::D) sh _ _ zx Dd p5 (by rw[List.length_cons];omega)
   exact⟨n+1,F,mp'',.step e eN p1 p2 zV r1,r2⟩
theorem UR(g:Sg c net rs sent):∃ n F,Runs c rs sent n (init c rs sent) F/\tA c net rs sent=(qP F.come).bind fun a=>(qP F.lost).bind fun b=>some (a,b,0):=by
 unfold tA
 obtain⟨b,hb1,BK⟩:=cY g.small (net:=net) (rs:=rs) (fun r hr=>by have:=(g.va.each r hr).len;omega) (by have:=g.va.most;omega)
 rw[hb1,BK.2 g.va]
 simp only[oB,Bool.not_true,Bool.false_eq_true,if_false]
 obtain⟨r,Bv,Bt⟩:=FV (c:=c) (l:=sent) (by have:=g.fr.len;omega)
 rw[Bv,Bt.2 ⟨g.fr.each,by have:=g.fr.len;omega⟩]
 simp only[oB,Bool.not_true,Bool.false_eq_true,if_false]
 have hF:=wi
 generalize xR=N at hF ⊢
 have vB:=g.fr.len
 refine wA (P:=fun o=>∃ n F,Runs c rs sent n (init c rs sent) F/\o=(qP F.come).bind fun a=>(qP F.lost).bind fun b=>some (a,b,0)) fun k hk=>?_
 obtain⟨ag,q1,q2,q3⟩:=V6 g (k:=k) N 0 [] (by omega) (by omega) (by omega) (fun x hx hn=>by simp at hn;omega) (by simp)
 rw[q1,hk]
 refine Fp (P:=fun o=>∃ n F,Runs c rs sent n (init c rs sent) F/\o=(qP F.come).bind fun a=>(qP F.lost).bind fun b=>some (a,b,0)) fun k4 E2=>?_
 have zV:EQ (init c rs sent) ⟨ag,[],[],uI c []⟩:=⟨q2.symm,.refl _,.refl _,rfl⟩
 obtain⟨n,F,zx,r1,r2⟩:=KY g (k:=k4) N [] ag [] [] [] ((V5 g).eq zV) q3 (by simp;omega)
 obtain⟨F',r3,r4⟩:=r1.trans_eq zV.symm
 rw[r2,E2]
 exact⟨n,F,by
  cases r1 with
  | done h0 k0=>exact .done (by have:=zV.ag;rw[h0] at this;exact List.perm_nil.1 this) (zV.trans k0)
  | step e eN hp xO he hr=>exact .step e eN (hp.trans zV.ag.symm) (fun x hx=>xO x (zV.ag.mem_iff.1 hx)) ((JI zV (.refl eN)).trans he) hr,rfl⟩
end
end Go.Proofs.YthjnhebofpebpaaGreat

/- A part of this claim's proof: models of functions, walks, plain laws. No conditions. -/
import Derived.Test.YthjnhebofpebpaaGreatP35a
set_option linter.all false
namespace Go.Proofs.YthjnhebofpebpaaGreat
open Go Go.RowKit Sep
section
/-! ### virtual links -/
def cn:List Int:=[100,200,400,800,1600,3200,6400,12800]
theorem Qi(b:Int):tq b=some (decide (b∈cn)):=by
 unfold tq
 have hF:xI=(xI-9)+9:=by rw[w5]
 rw[hF]
 generalize xI-9=N
 refine mb (P:=fun o=>o=_) fun k hk=>?_
 have wX:∀(n:Nat) (x:Int),0<=x->x<=12800->jc b k (n+1) x=if x=b then some true else jc b k n (2*x):=fun n x h0 h1=>by
  rw[jc,if_pos (decide_eq_true h1),xD (x:=x*2) (by omega),Int.mul_comm]
  by_cases h:x=b
  ·rw[if_pos (decide_eq_true h),if_pos h]
  ·rw[if_neg (by simpa using h),if_neg h]
 have hend:jc b k (N+1) (2*12800)=some false:=by
  rw[jc,if_neg (by decide),hk]
 rw[wX _ 100 (by omega) (by omega),wX _ (2*100) (by omega) (by omega),wX _ (2*(2*100)) (by omega) (by omega),wX _ (2*(2*(2*100))) (by omega) (by omega),wX _ (2*(2*(2*(2*100)))) (by omega) (by omega),wX _ (2*(2*(2*(2*(2*100))))) (by omega) (by omega),wX _ (2*(2*(2*(2*(2*(2*100)))))) (by omega) (by omega),wX _ (2*(2*(2*(2*(2*(2*(2*100))))))) (by omega) (by omega)]
 have:(2*(2*(2*(2*(2*(2*(2*(2*100)))))) ):Int)=2*12800:=by decide
 rw[this,hend]
 unfold cn
 repeat' split
 all_goals
  simp only[Option.some.injEq]
  first
  | (symm;rw[decide_eq_true_iff];simp only[List.mem_cons,List.not_mem_nil,or_false];omega)
  | (symm;rw[decide_eq_false_iff_not];simp only[List.mem_cons,List.not_mem_nil,or_false];omega)
def ie(v:z6):Prop:=v.yr∈cn/\1<=v.yo/\v.yo<=72
instance (v:z6):Decidable (ie v):=inferInstanceAs (Decidable (_/\_))
theorem Qj(v:z6):qO v=some (!decide (ie v)):=by
 unfold qO ie
 rw[Qi,oB]
 congr 1
 by_cases h1:v.yr∈cn <;> by_cases h2:1<=v.yo <;> by_cases h3:v.yo<=72 <;> simp[h1,h2,h3] <;> omega
theorem co{l:List z6}{k:Option Int}(hl:l.length<1000000000):∀(n:Nat) (v:Int),0<=v->v<=l.length->l.length<n+v->
  ((∃ i:Int,v<=i/\i<l.length/\¬ie (nth l i)/\wu l (fun y0=>qO y0) k n v=some i)\/((∀ i:Int,v<=i->i<l.length->ie (nth l i))/\wu l (fun y0=>qO y0) k n v=k))
 | 0,v,h0,h1,h2=>by omega
 | n+1,v,h0,h1,h2=>by
  rw[wu]
  by_cases h:v<l.length
  ·rw[if_pos (decide_eq_true h),xA ⟨h0,h⟩]
   have e:(⟨(nth l v).ys,(⟨((nth l v).yk).yq,((nth l v).yk).yu,((nth l v).yk).yv⟩:yf),(nth l v).yr,(nth l v).yo,(nth l v).yy⟩:z6)=nth l v:=rfl
   rw[e,Qj,oB]
   by_cases hv:ie (nth l v)
   ·rw[if_neg (by simpa using hv),xD (x:=v+1) (by omega)]
    rcases co hl n (v+1) (by omega) (by omega) (by omega) (k:=k) with⟨i,i1,i2,i3,i4⟩ | ⟨i1,i2⟩
    ·exact .inl ⟨i,by omega,i2,i3,i4⟩
    ·refine .inr ⟨fun i j1 j2=>?_,i2⟩
     by_cases e:i=v
     ·rw[e];exact hv
     ·exact i1 i (by omega) j2
   ·rw[if_pos (by simpa using hv)]
    exact .inl ⟨v,Int.le_refl _,h,hv,rfl⟩
  ·rw[if_neg (by simpa using h)]
   exact .inr ⟨fun i h1 h2=>by omega,rfl⟩
def rH(c:Cf):Prop:=∀ v∈c.yb,ie v
theorem Qk{c:Cf}(hl:c.yb.length<1000000000):∃ b,vz c.yb (fun y0=>qO y0)=some b/\(b=false↔rH c):=by
 unfold vz j6
 have hF:=w5
 generalize xI=N at hF ⊢
 refine mb (P:=fun o=>∃ b,(o.bind fun x=>some (decide (x>=0)))=some b/\(b=false↔rH c)) fun k hk=>?_
 rcases co (k:=k) hl N 0 (by omega) (by omega) (by omega) with⟨i,i1,i2,i3,i4⟩ | ⟨i1,i2⟩
 ·refine⟨true,by rw[i4];simp[i1],?_⟩
  simp only[Bool.true_eq_false,false_iff]
  exact fun h=>i3 (h _ (wt i1 i2))
 ·refine⟨false,by rw[i2,hk];rfl,?_⟩
  simp only[true_iff]
  intro v hv
  obtain⟨i,j0,j1,rfl⟩:=mv hv
  exact i1 i j0 j1
theorem rH.vls{c:Cf}(h:rH c):fc c:=fun v hv=>by
 obtain⟨h1,h2,h3⟩:=h v hv
 refine⟨?_,h2,h3⟩
 unfold cn at h1
 simp only[List.mem_cons,List.not_mem_nil,or_false] at h1
 omega
/-! ### the whole computation -/
theorem VA.pi{c:Cf}{net:Int}{rs:List (List Hop)}(hS:Small c)(hv:VA c net rs){p:Pl}(hp:p∈PS rs):PI c p:=by
 obtain⟨r,hr,h,hh,rfl⟩:=(uO rs p).1 hp
 obtain⟨i,i0,i1,rfl⟩:=mv hh
 obtain⟨_,_,_,j0,j1,_,_,_,_,jf1,jf2,jj⟩:=(hv.each r hr).cond i i0 i1
 have hA:=(Xl hS (nth r i).fQ).2
 have hB:=(Xm hS (nth r i).fQ).2
 refine⟨j0,j1,?_,?_⟩
 ·have a1:=jf1.1;have a2:=jf2.1
  show 0<=(nth r i).ya
  rcases jj with⟨e,_⟩ | ⟨_,e⟩ <;> omega
 ·show(nth r i).ya<nN c
  rcases jj with⟨e,_⟩ | ⟨_,e⟩ <;> omega
def w0:WS:=⟨[],0,[],[]⟩
theorem aV{c:Cf}{rs:List (List Hop)}:∀(l:List Pl) (s t:WS),rB c rs l s = .inl t->t.out.map qx=s.out.map qx++l/\t.out.length=s.out.length+l.length/\(s.e=0->t.e=0)
 | [],s,t,h=>by injection h with h;subst h;simp
 | p::l,s,t,h=>by
  rw[rB] at h
  split at h
  ·cases h
  ·rename_i he
   obtain⟨h1,h2,h3⟩:=aV l _ t h
   have e:(aS c rs s p).out=s.out++[(PO c rs s.bu s.de s.e p).1]:=rfl
   rw[e] at h1 h2
   refine⟨?_,?_,fun _=>h3 (by simpa using he)⟩
   ·rw[h1,List.map_append,List.append_assoc];rfl
   ·rw[h2];simp;omega
inductive CP (c:Cf) (net:Int) (rs:List (List Hop)):yz×Int->Prop
 | route:¬VA c net rs->CP c net rs (⟨[],[]⟩,310)
 | vl:VA c net rs->¬rH c->CP c net rs (⟨[],[]⟩,350)
 | cycle (s:List Pl):VA c net rs->rH c->sP rs s->CP c net rs (⟨[],[]⟩,351)
 | err (l:List Pl) (e:Int):VA c net rs->rH c->l.Perm (PS rs)->qo rs l->rB c rs l w0 = .inr e->e≠0->CP c net rs (⟨[],[]⟩,e)
 | ok (l:List Pl) (t:WS):VA c net rs->rH c->l.Perm (PS rs)->qo rs l->rB c rs l w0 = .inl t->CP c net rs (⟨w8 vG t.out,EN c rs (w8 vG t.out)⟩,0)
theorem aW{c:Cf}{rs:List (List Hop)}:∀(l:List Pl) (s:WS) (e:Int),rB c rs l s = .inr e->e≠0
 | [],s,e,h=>by cases h
 | p::l,s,e,h=>by
  rw[rB] at h
  split at h
  ·rename_i he
   injection h with h;subst h;exact he
  ·exact aW l _ e h
theorem Xw{c:Cf}{net:Int}{rs:List (List Hop)}(hf:FewP c rs):∃ x,fO c net rs=some x/\CP c net rs x:=by
 have hS:=hf.small
 have Bf:∀ r∈rs,r.length<1000000000:=fun r hr=>by have:=hf.e r hr;omega
 have hrs:=hf.r
 obtain⟨b,q1,q2⟩:=px hS (net:=net) (rs:=rs) Bf (by omega)
 unfold fO
 rw[q1,oB]
 cases b with
 | false=>
  rw[if_pos (by rfl)]
  exact⟨_,rfl,.route fun h=>by have:=q2.2 h;cases this⟩
 | true=>
 have hv:=q2.1 rfl
 rw[if_neg (by simp)]
 obtain⟨b,r1,r2⟩:=Qk (c:=c) (by have:=hf.v;omega)
 rw[r1,oB]
 cases b with
 | true=>
  rw[if_pos rfl]
  exact⟨_,rfl,.vl hv fun h=>by have:=r2.2 h;cases this⟩
 | false=>
 have Ap:=r2.1 rfl
 rw[if_neg (by simp)]
 have DC:=iX hf.e
 have h3:rs.length*40<=20*40:=Nat.mul_le_mul_right _ hrs
 rcases ay (rs:=rs) (fun r h=>by have:=hf.e r h;omega) (by omega) with⟨l,e1,e2,e3⟩ | ⟨s,e1,e2⟩
 ·rw[e3,oB,if_neg (by simp)]
  have jo:=e1.length_eq
  refine vj (P:=fun o=>∃ x,o=some x/\CP c net rs x) fun k hk=>?_
  have hL:=dR (l:=(l,0)) (k:=k) (rs:=rs) Ap.vls hv.len Bf hv.most hf.l hS (fun p hp=>hv.pi hS (e1.subset hp)) (by show l.length<=_;omega) xI 0 w0 (by omega) (by simp) (by rw[w5];show((l.length:Nat):Int)<_;omega) rfl
  simp only[Int.toNat_zero,List.drop_zero] at hL
  rw[show(0:Int)=w0.e from rfl,show([]:List PB)=w0.out from rfl,show([]:BM)=w0.bu from rfl,show([]:DM)=w0.de from rfl]
  rw[show qw (l,w0.e) c rs k xI w0.e w0.e w0.out w0.bu w0.de=qw (l,0) c rs k xI 0 w0.e w0.out w0.bu w0.de from rfl,hL]
  cases f5:rB c rs l w0 with
  | inr e=>exact⟨_,rfl,.err l e hv Ap e1 e2 f5 (aW _ _ _ f5)⟩
  | inl t=>
   obtain⟨o1,o2,o3⟩:=aV l w0 t f5
   have hol:t.out.length=l.length:=by rw[o2];simp[w0]
   have BI:t.out.map qx=l:=by rw[o1];simp[w0]
   simp only
   rw[hk,(Wn (by rw[BI];exact e1.nodup_iff.2 (tF rs)) (by omega)).1,oB]
   rw[YW (net:=net) hS hv.each (by omega) (by rw[mT];omega),oB]
   exact⟨_,rfl,.ok l t hv Ap e1 e2 f5⟩
 ·rw[e2,oB,if_pos (by simp)]
  exact⟨_,rfl,.cycle s hv Ap e1⟩
end
section
variable {r:List Hop}{net n v:Int}{D:Pl->Int}
/-! ### jitters -/
def jP(c:Cf)(n:Int):Int:=if n-nM c>=0 then(nth c.fS (n-nM c)).yj else 0
def slw(c:Cf)(k:Int):Int:=(nth c.fK k).yp
theorem dS{c:Cf}(hS:Small c)(h0:0<=n)(h1:n<nN c):kH c n=some (jP c n):=by
 have:=hS.m;have:=hS.s
 unfold kH jP nM
 unfold nN at h1
 rw[xD (by omega)]
 by_cases h:n-(c.fM.length:Int)>=0
 ·rw[if_pos (by simpa using h),if_pos h,xA ⟨by omega,by omega⟩]
 ·rw[if_neg (by simpa using h),if_neg h]
structure HV (c:Cf) (h:Hop):Prop where
 l0:0<=h.fQ
 l1:h.fQ<c.fK.length
 n0:0<=h.ya
 n1:h.ya<nN c
 x0:0<=h.yh
 x1:h.yh<nN c
 s0:1<=slw c h.fQ
 s1:slw c h.fQ<=16
 d0:0<=jP c h.ya
 d1:jP c h.ya<=1000
theorem sO.lat{c:Cf}(h:sO c net n):0<=n/\0<=jP c n/\jP c n<=1000:=by
 obtain⟨h0,h⟩:=h
 refine⟨h0,?_⟩
 unfold jP
 rcases h with h | ⟨_,h1,h2,_⟩
 ·rw[if_neg (by omega)];omega
 ·split
  ·exact⟨h1,h2⟩
  ·omega
theorem VR.hop{c:Cf}(hS:Small c)(h:VR c net r){x:Hop}(hx:x∈r):HV c x:=by
 obtain⟨i,i0,i1,rfl⟩:=mv hx
 obtain⟨_,_,_,l0,l1,_,s0,s1,_,fa,fb,ho⟩:=h.cond i i0 i1
 obtain⟨_,_,a2⟩:=Xl hS (nth r i).fQ
 obtain⟨_,_,b2⟩:=Xm hS (nth r i).fQ
 have ha:=fa.lat;have hb:=fb.lat
 rcases ho with⟨e1,e2⟩ | ⟨e1,e2⟩
 ·rw[e1] at ha a2;rw[e2] at hb b2
  exact⟨l0,l1,ha.1,a2,hb.1,b2,s0,s1,ha.2.1,ha.2.2⟩
 ·rw[e1] at ha a2;rw[e2] at hb b2
  exact⟨l0,l1,hb.1,b2,ha.1,a2,s0,s1,hb.2.1,hb.2.2⟩
def o5(c:Cf)(D:Pl->Int)(mp:List (Int×Int))(h:Hop):List (Int×Int):=xM mp h.yh (xp mp h.ya 0+D (pk h)-jP c h.ya-slw c h.fQ)
def jn(c:Cf)(D:Pl->Int)(r:List Hop)(n:Int):Int:=xp (r.foldl (o5 c D) []) n 0
theorem lP{c:Cf}{D:Pl->Int}{n:Int}:∀(l:List Hop) (mp:List (Int×Int)),(∀ g∈l,g.yh≠n)->xp (l.foldl (o5 c D) mp) n 0=xp mp n 0
 | [],mp,_=>rfl
 | g::l,mp,h=>by
  rw[List.foldl_cons,lP l _ fun x hx=>h x (List.mem_cons_of_mem _ hx)]
  unfold o5;rw[jg,if_neg fun e=>h g (by simp) e.symm]
theorem VR.rk{c:Cf}(h:VR c net r)(v0:0<=v)(v1:v<r.length){q:Int}(q0:v<=q)(q1:q<r.length):(nth r q).yh≠(nth r v).ya:=by
 intro e
 obtain⟨h1,_⟩:=h.cond v v0 v1
 obtain⟨_,h2,_⟩:=h.cond q (by omega) q1
 rcases h1 with h1 | ⟨k,k0,k1,h1⟩
 ·exact h2 (.inl (e.trans h1))
 ·exact h2 (.inr ⟨k,k0,by omega,h1.trans e.symm⟩)
theorem cp{g:Hop}(v0:0<=v)(hg:g∈r.drop v.toNat):∃ q:Int,v<=q/\q<r.length/\nth r q=g:=by
 obtain⟨i,hi,rfl⟩:=List.getElem_of_mem hg
 rw[List.length_drop] at hi
 refine⟨v.toNat+i,by omega,by omega,?_⟩
 rw[uY ⟨by omega,by omega⟩,List.getElem_drop]
 simp only[show((v.toNat:Int)+i).toNat=v.toNat+i by omega]
theorem aX{c:Cf}(v:Nat):jn c D r n=xp ((r.drop v).foldl (o5 c D) ((r.take v).foldl (o5 c D) [])) n 0:=by
 unfold jn;rw[<- List.foldl_append,List.take_append_drop]
theorem VR.jn_take{c:Cf}(h:VR c net r)(D:Pl->Int)(v0:0<=v)(v1:v<r.length):xp ((r.take v.toNat).foldl (o5 c D) []) (nth r v).ya 0=jn c D r (nth r v).ya:=by
 rw[aX v.toNat]
 symm
 refine lP _ _ fun g hg=>?_
 obtain⟨q,q0,q1,rfl⟩:=cp v0 hg
 exact h.rk v0 v1 q0 q1
theorem VR.jn_next{c:Cf}(h:VR c net r)(D:Pl->Int){g:Hop}(hg:g∈r):jn c D r g.yh=jn c D r g.ya+D (pk g)-jP c g.ya-slw c g.fQ:=by
 obtain⟨v,v0,v1,rfl⟩:=mv hg
 rw[<- h.jn_take D v0 v1]
 rw[aX v.toNat,jZ v0 v1,List.foldl_cons,lP]
 ·unfold o5;rw[jg,if_pos rfl]
 ·intro x hx e
  obtain⟨q,q0,q1,rfl⟩:=cp (v:=v+1) (by omega) (by rw[show(v+1).toNat=v.toNat+1 by omega];exact hx)
  obtain⟨_,h2,_⟩:=h.cond q (by omega) q1
  exact h2 (.inr ⟨v,v0,by omega,e.symm⟩)
theorem Q2{c:Cf}(h:∀ g∈r,g.yh≠n):jn c D r n=0:=by
 unfold jn;rw[lP _ _ h];rfl
theorem VR.start{c:Cf}(h:VR c net r):∀ g∈r,g.yh≠(nth r 0).ya:=by
 intro g hg e
 obtain⟨v,v0,v1,rfl⟩:=mv hg
 exact(h.cond v v0 v1).2.1 (.inl e)
theorem VR.jn_start{c:Cf}(h:VR c net r)(D:Pl->Int):jn c D r (nth r 0).ya=0:=Q2 h.start
theorem VR.ind{c:Cf}(h:VR c net r){P:Hop->Prop}(hb:∀ x∈r,x.ya=(nth r 0).ya->P x)(hs:∀ g∈r,∀ x∈r,g.yh=x.ya->P g->P x):∀ x∈r,P x:=by
 have key:∀ n:Nat,∀ v:Int,0<=v->v<r.length->v.toNat<n->P (nth r v):=by
  intro n
  induction n with
  | zero=>intro v _ _ h;omega
  | succ n ih=>
   intro v v0 v1 hv
   rcases(h.cond v v0 v1).1 with e | ⟨q,q0,q1,e⟩
   ·exact hb _ (wt v0 v1) e
   ·exact hs _ (wt q0 (by omega)) _ (wt v0 v1) e (ih q q0 (by omega) (by omega))
 intro x hx
 obtain⟨v,v0,v1,rfl⟩:=mv hx
 exact key (v.toNat+1) v v0 v1 (by omega)
theorem VR.from{c:Cf}(h:VR c net r){x:Hop}(hx:x∈r):x.ya=(nth r 0).ya\/∃ g∈r,g.yh=x.ya:=by
 obtain⟨v,v0,v1,rfl⟩:=mv hx
 rcases(h.cond v v0 v1).1 with e | ⟨q,q0,q1,e⟩
 ·exact .inl e
 ·exact .inr ⟨_,wt q0 (by omega),e⟩
theorem n8{c:Cf}{D:Pl->Int}(hS:Small c){M:Int}(hM:0<=M):∀(l:List Hop) (mp:List (Int×Int)) (B:Int),(∀ h∈l,HV c h /\ -M<=D (pk h)/\D (pk h)<=M)->(∀ n,-B<=xp mp n 0/\xp mp n 0<=B)->∀ n,-(B+l.length*(M+1016))<=xp (l.foldl (o5 c D) mp) n 0/\xp (l.foldl (o5 c D) mp) n 0<=B+l.length*(M+1016)
 | [],mp,B,_,h,n=>by have:=h n;simpa using this
 | g::l,mp,B,hh,h,n=>by
  have hg:=hh g (by simp)
  have:=n8 hS hM l (o5 c D mp g) (B+(M+1016)) (fun x hx=>hh x (List.mem_cons_of_mem _ hx)) (fun n=>by
   unfold o5;rw[jg]
   have h1:=h n;have h2:=h g.ya
   have a:=hg.1.s0;have b:=hg.1.s1;have d:=hg.1.d0;have e:=hg.1.d1
   split <;> omega) n
  rw[List.foldl_cons,List.length_cons]
  have e:((l.length+1:Nat):Int)*(M+1016)=l.length*(M+1016)+(M+1016):=by push_cast;rw[Int.add_mul];omega
  omega
theorem aY{c:Cf}(hS:Small c)(hv:VR c net r){M:Int}(hM:0<=M)(hD:∀ h∈r,-M<=D (pk h)/\D (pk h)<=M)(v:Nat)(n:Int) : -(32*(M+1016))<=xp ((r.take v).foldl (o5 c D) []) n 0/\xp ((r.take v).foldl (o5 c D) []) n 0<=32*(M+1016):=by
 have h:=n8 (c:=c) (D:=D) hS hM (r.take v) [] 0 (fun h hh=>⟨hv.hop hS (List.mem_of_mem_take hh),hD h (List.mem_of_mem_take hh)⟩) (fun n=>by simp[xp]) n
 have hl:(r.take v).length<=32:=by have:=hv.len;rw[List.length_take];omega
 have:((r.take v).length:Int)*(M+1016)<=32*(M+1016):=Int.mul_le_mul_of_nonneg_right (by omega) (by omega)
 omega
theorem i3{a b d s M:Int}(h1 : -(32*(M+1016))<=a/\a<=32*(M+1016))(h2 : -M<=b/\b<=M)(h3:0<=d/\d<=1000)(h4:1<=s/\s<=16)(h5:M<=1099511627776):i64 (i64 (i64 (a+b)-d)-s)=a+b-d-s:=by
 rw[xD (x:=a+b) (by omega),xD (x:=a+b-d) (by omega),xD (by omega)]
theorem cq{c:Cf}{net:Int}{r:List Hop}{de:DM}{k:List Int->Option (List Int)}(hS:Small c)(hv:VR c net r){M:Int}(hM:0<=M)(hM1:M<=1099511627776)(hD:∀ h∈r,-M<=xp de (pk h) 0/\xp de (pk h) 0<=M):∀(n:Nat) (v:Int),0<=v->v<=r.length->r.length<n+v->
  qU r c de k n ((r.take v.toNat).map fun h=>jn c (fun q=>xp de q 0) r h.ya) v ((r.take v.toNat).foldl (o5 c fun q=>xp de q 0) [])=k (r.map fun h=>jn c (fun q=>xp de q 0) r h.ya)
 | 0,v,h0,h1,h2=>by omega
 | n+1,v,h0,h1,h2=>by
  have hr:=hv.len
  rw[qU]
  by_cases h:v<r.length
  ·have hx:=hv.hop hS (wt h0 h)
   have hb:=aY (D:=fun q=>xp de q 0) hS hv hM hD v.toNat (nth r v).ya
   have hd:=hD _ (wt h0 h)
   have s0:=hx.s0;have s1:=hx.s1;have d0:=hx.d0;have d1:=hx.d1
   rw[if_pos (decide_eq_true h),xA ⟨h0,h⟩,xA,dS hS hx.n0 hx.n1]
   ·simp only[oB]
    rw[xA ⟨hx.l0,hx.l1⟩,xD (x:=v+1) (by omega)]
    have e1:r.take (v+1).toNat=r.take v.toNat++[nth r v]:=by
     rw[show(v+1).toNat=v.toNat+1 by omega,List.take_succ_eq_append_getElem (by omega),uY ⟨h0,h⟩]
    have:=cq (k:=k) (de:=de) hS hv hM hM1 hD n (v+1) (by omega) (by omega) (by omega)
    rw[e1,List.map_append,List.foldl_append] at this
    rw[<- this]
    congr 1
    ·rw[hv.jn_take _ h0 h];rfl
    ·show xM _ _ _=xM _ _ _
     congr 1
     have e:(⟨(nth r v).ya,(nth r v).fQ⟩:za)=pk (nth r v):=rfl
     unfold slw at s0 s1 ⊢
     rw[e]
     exact i3 hb hd ⟨d0,d1⟩ ⟨s0,s1⟩ hM1
   ·rw[List.length_append,List.length_map,List.length_take]
    simp only[List.length_cons,List.length_nil]
    omega
  ·rw[if_neg (by simpa using h),List.take_of_length_le (by omega)]
theorem dT{c:Cf}{de:DM}(hS:Small c)(hv:VR c net r)(hD:∀ h∈r,-1099511627776<=xp de (pk h) 0/\xp de (pk h) 0<=1099511627776):
  kI c r de=some (r.map fun h=>jn c (fun q=>xp de q 0) r h.ya):=by
 unfold kI
 have hF:=w5
 generalize xI=N at hF ⊢
 refine vj (P:=fun o=>o=some (r.map fun h=>jn c (fun q=>xp de q 0) r h.ya)) fun k hk=>?_
 have hr:=hv.len
 have:=cq (k:=k) (M:=1099511627776) hS hv (by omega) (by omega) hD N 0 (by omega) (by omega) (by omega)
 simp only[Int.toNat_zero,List.take_zero,List.map_nil,List.foldl_nil] at this
 rw[this,hk]
theorem VR.jn_le{c c':Cf}(h:VR c net r)(h':VR c' net r)(hl:∀ g∈r,jP c g.ya=jP c' g.ya/\slw c g.fQ=slw c' g.fQ){D':Pl->Int}{S:Pl->Prop}(hS:∀ x∈r,S (pk x)->∀ g∈r,g.yh=x.ya->S (pk g)/\D (pk g)<=D' (pk g)):∀ x∈r,S (pk x)->jn c D r x.ya<=jn c' D' r x.ya:=by
 refine h.ind (P:=fun x=>S (pk x)->jn c D r x.ya<=jn c' D' r x.ya) (fun x hx e _=>?_) (fun g hg x hx e ih hs=>?_)
 ·rw[e,h.jn_start,h'.jn_start];omega
 ·obtain⟨h1,h2⟩:=hS x hx hs g hg e
  have:=ih h1
  rw[<- e,h.jn_next D hg,h'.jn_next D' hg,(hl g hg).1,(hl g hg).2]
  omega
theorem VR.jn_eq{c:Cf}(h:VR c net r){D':Pl->Int}{S:Pl->Prop}(hS:∀ x∈r,S (pk x)->∀ g∈r,g.yh=x.ya->S (pk g)/\D (pk g)=D' (pk g)):∀ x∈r,S (pk x)->jn c D r x.ya=jn c D' r x.ya:=by
 intro x hx hs
 have h1:=h.jn_le h (fun g _=>⟨rfl,rfl⟩) (D:=D) (D':=D') (S:=S) (fun x hx hs g hg e=>⟨(hS x hx hs g hg e).1,by rw[(hS x hx hs g hg e).2];omega⟩) x hx hs
 have h2:=h.jn_le h (fun g _=>⟨rfl,rfl⟩) (D:=D') (D':=D) (S:=S) (fun x hx hs g hg e=>⟨(hS x hx hs g hg e).1,by rw[(hS x hx hs g hg e).2];omega⟩) x hx hs
 omega
end
section
/-! ### sums -/
def gf:List Int->Int
 | []=>0
 | x::l=>x+gf l
theorem Wp{l l':List Int}(h:l.Perm l'):gf l=gf l':=by
 induction h with
 | nil=>rfl
 | cons x _ ih=>simp only[gf,ih]
 | swap x y l=>simp only[gf];omega
 | trans _ _ a b=>exact a.trans b
theorem cT{α:Type}{f g:α->Int}:∀ {l:List α},(∀ x∈l,f x<=g x)->gf (l.map f)<=gf (l.map g)
 | [],_=>by simp[gf]
 | x::l,h=>by
  have:=cT (l:=l) fun y hy=>h y (List.mem_cons_of_mem _ hy)
  have:=h x (by simp)
  simp only[List.map_cons,gf];omega
theorem bt{α:Type}{f:α->Int}{p:α->Bool}:∀ {l:List α},(∀ x∈l,p x=false->f x=0)->gf ((l.filter p).map f)=gf (l.map f)
 | [],_=>rfl
 | x::l,h=>by
  have ih:=bt (f:=f) (p:=p) (l:=l) fun y hy=>h y (List.mem_cons_of_mem _ hy)
  rw[List.filter_cons]
  split
  ·simp only[List.map_cons,gf,ih]
  ·rename_i hp
   simp only[List.map_cons,gf,ih,h x (by simp) (by simpa using hp)];omega
theorem oh{α:Type}{f:α->Int}{l:List α}(h:∀ x∈l,0<=f x):0<=gf (l.map f):=by
 have:=cT (f:=fun _=>0) (g:=f) h
 have e:∀ l:List α,gf (l.map fun _=>0)=0:=by
  intro l;induction l with
  | nil=>rfl
  | cons x l ih=>simp only[List.map_cons,gf,ih];rfl
 rw[e] at this;exact this
theorem lQ{α:Type}{f:α->Int}{M:Int}:∀ {l:List α},(∀ x∈l,f x<=M)->gf (l.map f)<=l.length*M
 | [],_=>by simp[gf]
 | x::l,h=>by
  have:=lQ (f:=f) (l:=l) fun y hy=>h y (List.mem_cons_of_mem _ hy)
  have:=h x (by simp)
  simp only[List.map_cons,gf,List.length_cons]
  have e:((l.length+1:Nat):Int)*M=l.length*M+M:=by push_cast;rw[Int.add_mul];omega
  omega
theorem aZ{α:Type}{f:α->Int}{l:List α}(h:∀ x∈l,0<=f x){x:α}(hx:x∈l):f x<=gf (l.map f):=by
 induction l with
 | nil=>simp at hx
 | cons y l ih=>
  have h1:=oh (f:=f) (l:=l) fun z hz=>h z (List.mem_cons_of_mem _ hz)
  have h2:=h y (by simp)
  simp only[List.map_cons,gf]
  rcases List.mem_cons.1 hx with rfl | hx
  ·omega
  ·have:=ih (fun z hz=>h z (List.mem_cons_of_mem _ hz)) hx;omega
def tG:List Int->Int
 | []=>0
 | x::l=>max x (tG l)
theorem n9(l:List Int)(x:Int)(hx:0<=x):tG (l++[x])=max (tG l) x:=by
 induction l with
 | nil=>simp only[List.nil_append,tG];omega
 | cons y l ih=>simp only[List.cons_append,tG,ih];omega
theorem ol:∀ l:List Int,0<=tG l
 | []=>by simp[tG]
 | x::l=>by have:=ol l;simp only[tG];omega
theorem Vb{l:List Int}{x:Int}(h:x∈l):x<=tG l:=by
 induction l with
 | nil=>simp at h
 | cons y l ih=>
  simp only[tG]
  rcases List.mem_cons.1 h with rfl | h
  ·omega
  ·have:=ih h;omega
theorem YX{l:List Int}{M:Int}(h0:0<=M)(h:∀ x∈l,x<=M):tG l<=M:=by
 induction l with
 | nil=>simpa [tG] using h0
 | cons y l ih=>
  have:=ih fun x hx=>h x (List.mem_cons_of_mem _ hx)
  have:=h y (by simp)
  simp only[tG];omega
theorem sL{x:Int}:∀ {n:Nat} {v:Int},x∈qW v n↔v<=x/\x<v+n
 | 0,v=>by simp only[qW,List.not_mem_nil,false_iff];omega
 | n+1,v=>by
  simp only[qW,List.mem_cons,sL (n:=n)]
  constructor
  ·rintro(rfl | h) <;> omega
  ·intro h
   by_cases e:x=v
   ·exact .inl e
   ·exact .inr (by omega)
theorem dU:∀(n:Nat) (v:Int),(qW v n).Nodup
 | 0,_=>by simp[qW]
 | n+1,v=>by
  simp only[qW,List.nodup_cons]
  exact⟨fun h=>by have:=sL.1 h;omega,dU n _⟩
theorem bX:∀(n:Nat) (v:Int),(qW v n).length=n
 | 0,_=>rfl
 | n+1,v=>by simp only[qW,List.length_cons,bX n]
theorem nb:∀(n:Nat) (v:Int),qW v (n+1)=qW v n++[v+n]
 | 0,v=>by simp[qW]
 | n+1,v=>by
  rw[qW,nb n (v+1)]
  simp only[qW,List.cons_append]
  rw[show v+1+(n:Int)=v+((n+1:Nat):Int) by push_cast;omega]
/-! ### what comes to an output port -/
structure Fw where
 k:Int
 v:Int
 j:Int
def cr(c:Cf)(v:Int):Int:=(nth c.yb v).yr
def ig(c:Cf)(x:Fw)(t:Int):Int:=mx c x.v*((t+x.j) / cr c x.v+1)
def ii(r:List Hop)(p:Pl):Int:=if (jO r p.ya).2 then(jO r p.ya).1.fQ else -1
def om(c:Cf)(rs:List (List Hop))(D:Pl->Int)(p:Pl)(v:Int):Fw:=⟨ii (nth rs v) p,v,jn c D (nth rs v) p.ya⟩
def vls(rs:List (List Hop))(p:Pl)(n:Nat):List Int:=(qW 0 n).filter fun v=>uses p (nth rs v)
def mc(c:Cf)(rs:List (List Hop))(D:Pl->Int)(p:Pl):List Fw:=(vls rs p rs.length).map (om c rs D p)
def pG(c:Cf)(l:List Fw)(t L:Int):Int:=gf ((l.filter fun x=>decide (x.k=L)).map fun x=>ig c x t)
def oo(c:Cf)(l:List Fw)(L:Int):Int:=tG ((l.filter fun x=>decide (x.k=L)).map fun x=>mx c x.v)
def tj(c:Cf)(l:List Fw)(t L:Int):Int:=if L<0 then pG c l t L else min (pG c l t L) (oo c l L+t / max 1 (slw c L))
def lks(c:Cf):List Int:=qW (-1) (c.fK.length+1)
def sm(c:Cf)(l:List Fw)(t:Int):Int:=gf ((lks c).map (tj c l t))
def rW(c:Cf)(l:List Fw):Int:=tG (l.map fun x=>mx c x.v)
structure FwOK (c:Cf) (l:List Fw):Prop where
 len:l.length<=16
 v0:∀ x∈l,0<=x.v/\x.v<c.yb.length
 k0:∀ x∈l,-1<=x.k/\x.k<c.fK.length
 j0:∀ x∈l,0<=x.j/\x.j<=4294967296
theorem fc.mx{c:Cf}(h:fc c){v:Int}(h0:0<=v)(h1:v<c.yb.length):1<=mx c v/\mx c v<=72/\100<=cr c v/\cr c v<=12800:=by
 obtain⟨⟨a,b⟩,d,e⟩:=h _ (wt h0 h1)
 exact⟨d,e,a,b⟩
theorem tM{c:Cf}(hv:fc c){l:List Fw}(hl:FwOK c l){x:Fw}(hx:x∈l){t:Int}(h0:0<=t)(h1:t<=4294967296):1<=ig c x t/\ig c x t<=1099511627776:=by
 obtain⟨a,b,d,e⟩:=hv.mx (hl.v0 x hx).1 (hl.v0 x hx).2
 have hj:=hl.j0 x hx
 unfold ig
 have h2:0<=(t+x.j) / cr c x.v:=Int.ediv_nonneg (by omega) (by omega)
 have h3:(t+x.j) / cr c x.v<=t+x.j:=Int.ediv_le_self _ (by omega)
 constructor
 ·have:=Int.mul_le_mul_of_nonneg_right a (show 0<=(t+x.j) / cr c x.v+1 by omega);omega
 ·have:=Int.mul_le_mul_of_nonneg_right b (show 0<=(t+x.j) / cr c x.v+1 by omega);omega
theorem ct{a b:Int}(h:0<=a):a.tdiv b=a / b:=Int.tdiv_eq_ediv_of_nonneg h
def clo(c:Cf)(x:Fw):Int->Option Int:=fun t=>wA t (nth c.yb x.v) x.j
theorem Ql{c:Cf}(hv:fc c){l:List Fw}(hl:FwOK c l){x:Fw}(hx:x∈l){t:Int}(h0:0<=t)(h1:t<=4294967296):clo c x t=some (ig c x t):=by
 have hb:=tM hv hl hx h0 h1
 obtain⟨a,b,d,e⟩:=hv.mx (hl.v0 x hx).1 (hl.v0 x hx).2
 have hj:=hl.j0 x hx
 unfold clo wA mO
 unfold ig mx cr at *
 have h2:0<=(t+x.j) / (nth c.yb x.v).yr:=Int.ediv_nonneg (by omega) (by omega)
 have h3:(t+x.j) / (nth c.yb x.v).yr<=t+x.j:=Int.ediv_le_self _ (by omega)
 rw[xA (by omega),xD (x:=t+x.j) (by omega),ct (by omega),xD (x:=(t+x.j) / (nth c.yb x.v).yr) (by omega),xD (x:=(t+x.j) / (nth c.yb x.v).yr+1) (by omega),xD (by omega)]
 rfl
theorem YY{α:Type}{t M:Int}{F:α->Int->Option Int}{g:α->Int}:∀ {l:List α} {s:Int},(∀ x∈l,F x t=some (g x)/\0<=g x/\g x<=M)->0<=s->s+l.length*M<=4611686018427387904->uN (l.map F) t s=some (s+gf (l.map g))
 | [],s,_,_,_=>by simp[uN,gf]
 | x::l,s,h,h0,h1=>by
  obtain⟨e,e0,e1⟩:=h x (by simp)
  have hM:0<=(l.length:Int)*M:=Int.mul_nonneg (by omega) (by omega)
  have e2:(((x::l).length:Nat):Int)*M=l.length*M+M:=by rw[List.length_cons];push_cast;rw[Int.add_mul];omega
  rw[List.map_cons,uN,e,oB,xD (by omega),YY (l:=l) (fun y hy=>h y (List.mem_cons_of_mem _ hy)) (by omega) (by omega)]
  simp only[List.map_cons,gf]
  congr 1;omega
theorem YZ{α:Type}{t M:Int}{F:α->Int->Option Int}{g:α->Int}{l:List α}(h:∀ x∈l,F x t=some (g x)/\0<=g x/\g x<=M)(h1:l.length*M<=4611686018427387904)(h2:l.length<=1000000):vB (l.map F) t=some (gf (l.map g)):=by
 unfold vB
 rw[xA (by rw[List.length_map];omega),YY h (by omega) (by omega)]
 simp
theorem dV{c:Cf}(hv:fc c){l:List Fw}(hl:FwOK c l){t:Int}(h0:0<=t)(h1:t<=4294967296)(L:Int):0<=pG c l t L/\pG c l t L<=17592186044416:=by
 unfold pG
 constructor
 ·exact oh fun x hx=>by have:=(tM hv hl (List.mem_filter.1 hx).1 h0 h1).1;omega
 ·have h:=lQ (f:=fun x=>ig c x t) (M:=1099511627776) (l:=l.filter fun x=>decide (x.k=L)) fun x hx=>(tM hv hl (List.mem_filter.1 hx).1 h0 h1).2
  have h2:(l.filter fun x=>decide (x.k=L)).length<=l.length:=List.length_filter_le _ _
  have:=hl.len
  omega
theorem dW{c:Cf}(hv:fc c){l:List Fw}(hl:FwOK c l)(L:Int):0<=oo c l L/\oo c l L<=72:=by
 unfold oo
 refine⟨ol _,YX (by omega) fun x hx=>?_⟩
 obtain⟨y,hy,rfl⟩:=List.mem_map.1 hx
 have hy:=(List.mem_filter.1 hy).1
 exact(hv.mx (hl.v0 y hy).1 (hl.v0 y hy).2).2.1
theorem Qm{c:Cf}(hv:fc c){l:List Fw}(hl:FwOK c l){wide:List (Int×Int)}{L:Int}(hw:xp wide L 0=oo c l L)(hL:L<c.fK.length)(hs:0<=L->1<=slw c L){t:Int}(h0:0<=t)(h1:t<=4294967296):
  ml c wide (L,(l.filter fun x=>decide (x.k=L)).map (clo c)) t=some (tj c l t L):=by
 show kF t L ((l.filter fun x=>decide (x.k=L)).map (clo c)) wide c=_
 have jo:(l.filter fun x=>decide (x.k=L)).length<=l.length:=List.length_filter_le _ _
 have D1:=hl.len
 have e:=YZ (t:=t) (M:=1099511627776) (F:=clo c) (g:=fun x=>ig c x t) (l:=l.filter fun x=>decide (x.k=L)) (fun x hx=>by
  have hx:=(List.mem_filter.1 hx).1
  have:=tM hv hl hx h0 h1
  exact⟨Ql hv hl hx h0 h1,by omega,this.2⟩) (by omega) (by omega)
 unfold kF tj
 by_cases h:L<0
 ·rw[if_pos (decide_eq_true h),if_pos h,e];rfl
 ·have hs:=hs (by omega)
  have hg:=dV hv hl h0 h1 L
  have hwb:=dW hv hl L
  rw[if_neg (by simpa using h),if_neg h,e,oB,xA ⟨by omega,hL⟩]
  rw[show max 1 (slw c L)=slw c L by omega]
  unfold slw at *
  have hd:0<=t / (nth c.fK L).yp:=Int.ediv_nonneg h0 (by omega)
  have hd2:t / (nth c.fK L).yp<=t:=Int.ediv_le_self _ h0
  rw[xA (by omega),ct h0,xD (x:=t / (nth c.fK L).yp) (by omega),hw,xD (by omega)]
  rfl
theorem sQ{c:Cf}(hv:fc c){l:List Fw}(hl:FwOK c l){L:Int}{t:Int}(h0:0<=t)(h1:t<=4294967296):0<=tj c l t L/\tj c l t L<=17592186044416:=by
 have hg:=dV hv hl h0 h1 L
 have hwb:=dW hv hl L
 unfold tj
 split
 ·exact hg
 ·have hd:0<=t / max 1 (slw c L):=Int.ediv_nonneg h0 (by omega)
  omega
theorem Wq{c:Cf}{l:List Fw}{t L:Int}(h:∀ x∈l,x.k≠L)(h0:0<=t):tj c l t L=0:=by
 have e:(l.filter fun x=>decide (x.k=L))=[]:=by
  rw[List.filter_eq_nil_iff];intro x hx;simpa using h x hx
 unfold tj pG oo
 rw[e]
 split
 ·rfl
 ·have hd:0<=t / max 1 (slw c L):=Int.ediv_nonneg h0 (by omega)
  show min 0 (0+_)=0
  omega
theorem Wr{c:Cf}(hS:Small c)(hv:fc c){l:List Fw}(hl:FwOK c l){t:Int}(h0:0<=t)(h1:t<=4294967296):0<=sm c l t/\sm c l t<=18014398509481984:=by
 unfold sm
 refine⟨oh fun L _=>(sQ hv hl h0 h1).1,?_⟩
 have h:=lQ (f:=tj c l t) (M:=17592186044416) (l:=lks c) fun L _=>(sQ hv hl h0 h1).2
 have e:(lks c).length=c.fK.length+1:=bX _ _
 have:=hS.l
 rw[e] at h
 omega
theorem Vc{c:Cf}(hv:fc c){l:List Fw}(hl:FwOK c l){x:Fw}(hx:x∈l){t t':Int}(h:t<=t'):ig c x t<=ig c x t':=by
 obtain⟨a,b,d,e⟩:=hv.mx (hl.v0 x hx).1 (hl.v0 x hx).2
 unfold ig
 refine Int.mul_le_mul_of_nonneg_left ?_ (by omega)
 have:=Int.ediv_le_ediv (a:=t+x.j) (b:=t'+x.j) (c:=cr c x.v) (by omega) (by omega)
 omega
theorem Vd{c:Cf}(hv:fc c){l:List Fw}(hl:FwOK c l){t t':Int}(h:t<=t'):sm c l t<=sm c l t':=by
 unfold sm
 refine cT fun L _=>?_
 have hg:pG c l t L<=pG c l t' L:=by
  unfold pG
  exact cT fun x hx=>Vc hv hl (List.mem_filter.1 hx).1 h
 have hd:=Int.ediv_le_ediv (a:=t) (b:=t') (c:=max 1 (slw c L)) (by omega) h
 unfold tj
 split
 ·exact hg
 ·omega
end
section
variable {rs:List (List Hop)}{p:Pl}{D:Pl->Int}{net:Int}
def FL(c:Cf)(rs:List (List Hop))(D:Pl->Int)(p:Pl)(n:Nat):List Fw:=(vls rs p n).map (om c rs D p)
theorem Q3{c:Cf}(n:Nat):FL c rs D p (n+1)=FL c rs D p n++(if uses p (nth rs n) then[om c rs D p n] else[]):=by
 unfold FL vls
 rw[nb,List.filter_append,List.map_append,show(0:Int)+n=n by omega]
 by_cases h:uses p (nth rs n)=true <;> simp[h]
theorem Ws{c:Cf}(n:Nat):(FL c rs D p n).length<=n:=by
 unfold FL vls
 rw[List.length_map]
 have h:((qW 0 n).filter fun v=>uses p (nth rs v)).length<=(qW 0 n).length:=List.length_filter_le _ _
 rwa [bX] at h
theorem cu{c:Cf}{n:Nat}{x:Fw}:x∈FL c rs D p n↔∃ v:Int,0<=v/\v<n/\uses p (nth rs v)=true/\x=om c rs D p v:=by
 unfold FL vls
 simp only[List.mem_map,List.mem_filter,sL]
 constructor
 ·rintro⟨v,⟨⟨a,b⟩,d⟩,rfl⟩;exact⟨v,a,by omega,d,rfl⟩
 ·rintro⟨v,a,b,d,rfl⟩;exact⟨v,⟨⟨a,by omega⟩,d⟩,rfl⟩
theorem tH{r:List Hop}:uses p r=true↔∃ h∈r,pk h=p:=by
 unfold uses;simp
theorem nf{c:Cf}(hS:Small c)(hv:VA c net rs)(p:Pl){v:Int}(v0:0<=v)(v1:v<rs.length) : -1<=ii (nth rs v) p/\ii (nth rs v) p<c.fK.length/\(0<=ii (nth rs v) p->1<=slw c (ii (nth rs v) p)/\slw c (ii (nth rs v) p)<=16):=by
 unfold ii
 split
 ·rename_i h
  have:=(hv.each _ (wt v0 v1)).hop hS (cM h).1
  have a:=this.l0;have b:=this.l1;have d:=this.s0;have e:=this.s1
  exact⟨by omega,b,fun _=>⟨d,e⟩⟩
 ·exact⟨by omega,by omega,fun h=>absurd h (by omega)⟩
structure AI (c:Cf) (l:List Fw) (most:Int) (mp:List (Int×List (Int->Option Int))) (wide:List (Int×Int)):Prop where
 nd:(mp.map (·.1)).Nodup
 get:∀ L,xp mp L []=(l.filter fun x=>decide (x.k=L)).map (clo c)
 key:∀ k∈mp.map (·.1),∃ x∈l,x.k=k
 key2:∀ x∈l,x.k∈mp.map (·.1)
 len:mp.length<=l.length
 wide:∀ L,xp wide L 0=oo c l L
 most:most=rW c l
theorem AI.nil(c:Cf):AI c [] 0 [] []:=⟨by simp,fun L=>rfl,by simp,by simp,by simp,fun L=>rfl,rfl⟩
theorem AI.put{c:Cf}{l:List Fw}{most:Int}{mp:List (Int×List (Int->Option Int))}{wide:List (Int×Int)}(h:AI c l most mp wide){x:Fw}(hx:0<=mx c x.v):AI c (l++[x]) (max most (mx c x.v)) (xM mp x.k (xp mp x.k []++[clo c x])) (xM wide x.k (max (xp wide x.k 0) (mx c x.v))):=by
 refine⟨?_,fun L=>?_,fun k hk=>?_,fun y hy=>?_,?_,fun L=>?_,?_⟩
 ·rw[sc]
  split
  ·exact h.nd
  ·rename_i hn
   rw[List.nodup_append]
   refine⟨h.nd,by simp,fun a ha b hb=>?_⟩
   rw[List.mem_singleton] at hb;subst hb
   intro e;subst e;exact hn ha
 ·rw[jg,List.filter_append,List.map_append,<- h.get L]
  by_cases e:L=x.k
  ·subst e;simp
  ·rw[if_neg e];simp[show x.k≠L from fun a=>e a.symm]
 ·rw[sc] at hk
  split at hk
  ·obtain⟨y,hy,e⟩:=h.key k hk;exact⟨y,List.mem_append_left _ hy,e⟩
  ·rcases List.mem_append.1 hk with hk | hk
   ·obtain⟨y,hy,e⟩:=h.key k hk;exact⟨y,List.mem_append_left _ hy,e⟩
   ·rw[List.mem_singleton] at hk;exact⟨x,by simp,hk.symm⟩
 ·rw[sc]
  rcases List.mem_append.1 hy with hy | hy
  ·have:=h.key2 y hy
   split
   ·exact this
   ·exact List.mem_append_left _ this
  ·rw[List.mem_singleton] at hy;subst hy
   split
   ·assumption
   ·simp
 ·have e:(xM mp x.k (xp mp x.k []++[clo c x])).length=((xM mp x.k (xp mp x.k []++[clo c x])).map (·.1)).length:=by simp
  rw[e,sc]
  have:=h.len
  split
  ·simp;omega
  ·simp;omega
 ·rw[jg]
  have hw:=h.wide
  unfold oo at hw ⊢
  rw[List.filter_append,List.map_append]
  by_cases e:L=x.k
  ·subst e
   rw[if_pos rfl,hw]
   simp only[List.filter_cons,List.filter_nil,decide_true,if_true,List.map_cons,List.map_nil]
   rw[n9 _ _ hx]
  ·rw[if_neg e,hw];simp[show x.k≠L from fun a=>e a.symm]
 ·have:=h.most
  unfold rW at *
  rw[List.map_append,List.map_cons,List.map_nil,n9 _ _ hx,this]
abbrev AR:=List (Int->Option Int)×Int
theorem ij{c:Cf}{net:Int}{rs:List (List Hop)}{de:DM}{p:Pl}{k:Int->List (Int×List (Int->Option Int))->List (Int×Int)->Option AR}(hS:Small c)(hv:VA c net rs)(hV:fc c)(hD:∀ r∈rs,∀ h∈r,-1099511627776<=xp de (pk h) 0/\xp de (pk h) 0<=1099511627776):
  ∀(n:Nat) (v:Int) (most:Int) (mp:List (Int×List (Int->Option Int))) (wide:List (Int×Int)),0<=v->v<=rs.length->rs.length<n+v->AI c (FL c rs (fun q=>xp de q 0) p v.toNat) most mp wide->
   ∃ pA AY pJ,AI c (FL c rs (fun q=>xp de q 0) p rs.length) pA AY pJ/\qG rs p c de k n most v mp wide=k pA AY pJ
 | 0,v,most,mp,wide,h0,h1,h2,h3=>by omega
 | n+1,v,most,mp,wide,h0,h1,h2,h3=>by
  have D1:=hv.most
  have hvl:=hv.len
  rw[qG]
  by_cases h:v<rs.length
  ·rw[if_pos (decide_eq_true h)]
   refine cj (P:=fun o=>∃ pA AY pJ,AI c (FL c rs (fun q=>xp de q 0) p rs.length) pA AY pJ/\o=k pA AY pJ) fun kk AX=>?_
   have hr:=hv.each _ (wt h0 h)
   have B1:=hr.len
   have Dm:∀ most mp wide,AI c (FL c rs (fun q=>xp de q 0) p (v+1).toNat) most mp wide->∃ pA AY pJ,AI c (FL c rs (fun q=>xp de q 0) p rs.length) pA AY pJ/\kk most mp wide=k pA AY pJ:=by
    intro most mp wide BJ
    rw[AX,xD (x:=v+1) (by omega)]
    exact ij hS hv hV hD n (v+1) most mp wide (by omega) (by omega) (by omega) BJ
   have es:FL c rs (fun q=>xp de q 0) p (v+1).toNat=FL c rs (fun q=>xp de q 0) p v.toNat++(if uses p (nth rs v) then[om c rs (fun q=>xp de q 0) p v] else[]):=by
    rw[show(v+1).toNat=v.toNat+1 by omega,Q3,show((v.toNat:Nat):Int)=v by omega]
   rw[xA ⟨h0,h⟩]
   rcases o0 (r:=nth rs v) (f:=fun y0=>kG y0 p) (p:=fun h=>decide (pk h=p)) (fun h _=>rfl) (by omega) with⟨j,j0,j1,j2,j3⟩ | ⟨j2,j3⟩
   ·rw[j3]
    simp only[oB]
    have hj:=List.find?_some j2
    simp only[decide_eq_true_eq] at hj
    rw[if_neg (by simp only[decide_eq_true_eq];omega),xA ⟨h0,by omega⟩,dT hS hr (hD _ (wt h0 h))]
    simp only[oB]
    rw[xA ⟨j0,by rw[List.length_map];exact j1⟩]
    have hu:uses p (nth rs v)=true:=tH.2 ⟨_,wt j0 j1,hj⟩
    have ejn:nth ((nth rs v).map fun h=>jn c (fun q=>xp de q 0) (nth rs v) h.ya) j=jn c (fun q=>xp de q 0) (nth rs v) p.ya:=by
     rw[uY ⟨j0,by rw[List.length_map];exact j1⟩,List.getElem_map,<- uY ⟨j0,j1⟩,<- hj];rfl
    rw[es,if_pos hu] at Dm
    have hm:=hV.mx h0 (by omega)
    have D2:∀ L,((xp mp L []).length:Int)<=16:=fun L=>by
     rw[h3.get,List.length_map]
     have h4:((FL c rs (fun q=>xp de q 0) p v.toNat).filter fun x=>decide (x.k=L)).length<=(FL c rs (fun q=>xp de q 0) p v.toNat).length:=List.length_filter_le _ _
     have h5:=Ws (c:=c) (rs:=rs) (D:=fun q=>xp de q 0) (p:=p) v.toNat
     omega
    refine vj (P:=fun o=>∃ pA AY pJ,AI c (FL c rs (fun q=>xp de q 0) p rs.length) pA AY pJ/\o=k pA AY pJ) fun k2 rv=>?_
    have hk3:∀ L,L=ii (nth rs v) p->∃ pA AY pJ,AI c (FL c rs (fun q=>xp de q 0) p rs.length) pA AY pJ/\k2 L=k pA AY pJ:=by
     rintro L rfl
     have hgl:=D2 (ii (nth rs v) p)
     rw[rv,xA (by rw[List.length_append];simp only[List.length_cons,List.length_nil];omega)]
     rw[ejn]
     exact Dm _ _ _ (h3.put (x:=om c rs (fun q=>xp de q 0) p v) (by show 0<=mx c v;omega))
    rcases o0 (r:=nth rs v) (f:=fun y0=>kJ y0 p) (p:=fun h=>decide (h.yh=p.ya)) (fun h _=>rfl) (by omega) with⟨i,i0,i1,i2,i3⟩ | ⟨i2,i3⟩
    ·rw[i3]
     simp only[oB]
     rw[if_pos (by simp only[decide_eq_true_eq];omega),xA ⟨i0,i1⟩]
     refine hk3 _ ?_
     unfold ii jO;rw[i2];rfl
    ·rw[i3]
     simp only[oB]
     rw[if_neg (by simp)]
     refine hk3 _ ?_
     unfold ii jO;rw[i2];rfl
   ·rw[j3]
    simp only[oB]
    have hu:¬uses p (nth rs v)=true:=by
     rw[tH];rintro⟨x,hx,e⟩
     have:=List.find?_eq_none.1 j2 x hx
     simp[e] at this
    rw[if_pos (by simp)]
    rw[es,if_neg hu,List.append_nil] at Dm
    exact Dm _ _ _ h3
  ·rw[if_neg (by simpa using h)]
   have e:v.toNat=rs.length:=by omega
   rw[e] at h3
   exact⟨most,mp,wide,h3,rfl⟩
theorem Xx{c:Cf}(hS:Small c)(hv:VA c net rs)(hj:∀ x∈mc c rs D p,0<=x.j/\x.j<=4294967296):FwOK c (mc c rs D p):=by
 have hl:=hv.most;have hvl:=hv.len
 refine⟨?_,fun x hx=>?_,fun x hx=>?_,hj⟩
 ·have:=Ws (c:=c) (rs:=rs) (D:=D) (p:=p) rs.length
  exact Nat.le_trans this (by omega)
 ·obtain⟨v,v0,v1,_,rfl⟩:=cu.1 hx
  exact⟨v0,by show v<_;omega⟩
 ·obtain⟨v,v0,v1,_,rfl⟩:=cu.1 hx
  have:=nf hS hv p v0 v1
  exact⟨this.1,this.2.1⟩
theorem Yu{c:Cf}{de:DM}(hS:Small c)(hv:VA c net rs)(hV:fc c)(hD:∀ r∈rs,∀ h∈r,-1099511627776<=xp de (pk h) 0/\xp de (pk h) 0<=1099511627776)(hj:∀ x∈mc c rs (fun q=>xp de q 0) p,0<=x.j/\x.j<=4294967296):
  ∃ fs,kn c rs p de=some (fs,rW c (mc c rs (fun q=>xp de q 0) p))/\∀ t,0<=t->t<=4294967296->vB fs t=some (sm c (mc c rs (fun q=>xp de q 0) p) t):=by
 have zP:=Xx hS hv hj
 unfold kn
 have hF:=w5
 generalize xI=N at hF ⊢
 refine cj (P:=fun o=>∃ fs,o=some (fs,rW c (mc c rs (fun q=>xp de q 0) p))/\∀ t,0<=t->t<=4294967296->vB fs t=some (sm c (mc c rs (fun q=>xp de q 0) p) t)) fun k hk=>?_
 have D1:=hv.most
 obtain⟨most,mp,wide,BJ,e⟩:=ij (k:=k) (p:=p) hS hv hV hD N 0 0 [] [] (by omega) (by omega) (by omega) (AI.nil c)
 rw[e,hk]
 have hml:=BJ.len
 have Db:=zP.len
 have hfl2:FL c rs (fun q=>xp de q 0) p rs.length=mc c rs (fun q=>xp de q 0) p:=rfl
 rw[hfl2] at BJ hml
 rw[xA (by omega)]
 refine⟨mp.map (ml c wide),by rw[BJ.most],fun t h0 h1=>?_⟩
 have D3:∀ q∈mp,q=(q.1,((mc c rs (fun q=>xp de q 0) p).filter fun x=>decide (x.k=q.1)).map (clo c)):=by
  intro q hq
  rw[<- BJ.get]
  have:∀(l:List (Int×List (Int->Option Int))),(l.map (·.1)).Nodup->∀ q∈l,xp l q.1 []=q.2:=by
   intro l
   induction l with
   | nil=>intro _ q hq;simp at hq
   | cons x l ih=>
    intro hn q hq
    rw[List.map_cons,List.nodup_cons] at hn
    rw[xp]
    rcases List.mem_cons.1 hq with rfl | hq
    ·rw[if_pos rfl]
    ·rw[if_neg,ih hn.2 q hq]
     intro e;exact hn.1 (e▸List.mem_map.2 ⟨q,hq,rfl⟩)
  rw[this mp BJ.nd q hq]
 have hkr:∀ k:Int,k∈mp.map (·.1) -> -1<=k/\k<c.fK.length/\(0<=k->1<=slw c k):=by
  intro k hk
  obtain⟨x,hx,rfl⟩:=BJ.key k hk
  obtain⟨v,v0,v1,_,rfl⟩:=cu.1 hx
  have:=nf hS hv p v0 v1
  exact⟨this.1,this.2.1,fun h=>(this.2.2 h).1⟩
 rw[YZ (M:=17592186044416) (F:=ml c wide) (g:=fun q=>tj c (mc c rs (fun q=>xp de q 0) p) t q.1) (l:=mp) (fun q hq=>by
   have hq1:=hkr q.1 (List.mem_map.2 ⟨q,hq,rfl⟩)
   have:=sQ hV zP (L:=q.1) h0 h1
   refine⟨?_,this.1,this.2⟩
   rw[D3 q hq]
   exact Qm hV zP (BJ.wide q.1) hq1.2.1 hq1.2.2 h0 h1) (by omega) (by omega)]
 refine congrArg some ?_
 unfold sm
 have h5:(mp.map (·.1)).Perm ((lks c).filter fun L=>decide (L∈mp.map (·.1))):=by
  refine(List.perm_ext_iff_of_nodup BJ.nd ((dU _ _).filter _)).2 fun k=>?_
  rw[List.mem_filter]
  skip
  rw[sL]
  simp only[decide_eq_true_eq]
  constructor
  ·intro hk;have:=hkr k hk;exact⟨by push_cast;omega,hk⟩
  ·exact fun h=>h.2
 have h6:mp.map (fun q=>tj c (mc c rs (fun q=>xp de q 0) p) t q.1)=(mp.map (·.1)).map (tj c (mc c rs (fun q=>xp de q 0) p) t):=by rw[List.map_map];rfl
 rw[h6,Wp (h5.map _),bt]
 intro L _ hL
 refine Wq (fun x hx e=>?_) h0
 simp only[decide_eq_false_iff_not] at hL
 exact hL (e▸BJ.key2 x hx)
end
section
variable {A:Int->Int}
/-! ### a port -/
def tv(f:Int->Int):Nat->Int
 | 0=>0
 | n+1=>max (tv f n) (f n)
theorem dX(f:Int->Int):∀ n,0<=tv f n
 | 0=>Int.le_refl _
 | n+1=>by have:=dX f n;simp only[tv];omega
theorem Wt{f:Int->Int}:∀ {n:Nat} {t:Int},0<=t->t<n->f t<=tv f n
 | 0,t,h0,h1=>by omega
 | n+1,t,h0,h1=>by
  simp only[tv]
  by_cases e:t=n
  ·subst e;omega
  ·have:=Wt (f:=f) (n:=n) h0 (by omega);omega
theorem Y0{f:Int->Int}{M:Int}(hM:0<=M):∀ {n:Nat},(∀ t:Int,0<=t->t<n->f t<=M)->tv f n<=M
 | 0,_=>hM
 | n+1,h=>by
  simp only[tv]
  have:=Y0 hM (n:=n) fun t h0 h1=>h t h0 (by omega)
  have:=h n (by omega) (by omega)
  omega
def rn(A:Int->Int)(s:Int):Nat->Int->Int
 | 0,b=>b
 | n+1,b=>if s*A (b-1)>b then rn A s n (b+1) else b
theorem bY{A:Int->Int}{s:Int}:∀(n:Nat) (b:Int),b<=rn A s n b/\rn A s n b<=b+n/\(rn A s n b<b+n->s*A (rn A s n b-1)<=rn A s n b)/\∀ x,b<=x->x<rn A s n b->s*A (x-1)>x
 | 0,b=>by refine⟨by simp[rn],by simp[rn],fun h=>?_,fun x h1 h2=>?_⟩ <;> simp only[rn] at * <;> omega
 | n+1,b=>by
  rw[rn]
  by_cases h:s*A (b-1)>b
  ·rw[if_pos h]
   obtain⟨h1,h2,h3,h4⟩:=bY n (b+1) (A:=A) (s:=s)
   refine⟨by omega,by push_cast;omega,fun h5=>h3 (by push_cast at h5;omega),fun x h5 h6=>?_⟩
   by_cases e:x=b
   ·rw[e];exact h
   ·exact h4 x (by omega) h6
  ·rw[if_neg h]
   exact⟨by omega,by omega,fun _=>by omega,fun x h1 h2=>by omega⟩
def BZ(A:Int->Int)(s:Int):Int:=rn A s 32768 1
theorem Xy(A:Int->Int)(s:Int):1<=BZ A s/\BZ A s<=32769:=by
 obtain⟨h1,h2,_⟩:=bY (A:=A) (s:=s) 32768 1
 unfold BZ;omega
theorem Vp{s:Int}(h:BZ A s<=32768):s*A (BZ A s-1)<=BZ A s:=by
 obtain⟨h1,h2,h3,_⟩:=bY (A:=A) (s:=s) 32768 1
 unfold BZ at *;exact h3 (by omega)
def lR(A:Int->Int)(s la:Int)(t:Int):Int:=s*A t-t+la
def cv(A:Int->Int)(s la:Int)(t:Int):Int:=A t-(max (t-la) 0+s-1) / s
def HB(c:Cf)(A:Int->Int)(most:Int)(p:Pl):PB:=⟨p.ya,p.fQ,tv (lR A (slw c p.fQ) (jP c p.ya)) (BZ A (slw c p.fQ)).toNat,tv (cv A (slw c p.fQ) (jP c p.ya)) (BZ A (slw c p.fQ)+jP c p.ya).toNat+most⟩
structure AOK (A:Int->Int):Prop where
 b:∀ t,0<=t->t<=4294967296->0<=A t/\A t<=18014398509481984
theorem Y1{c:Cf}{p:Pl}{fs:List (Int->Option Int)}{most:Int}{A:Int->Int}{k:Int->Option (PB×Int)}(hA:AOK A)(ht:∀ t,0<=t->t<=4294967296->vB fs t=some (A t))(hs:1<=slw c p.fQ/\slw c p.fQ<=16):
  ∀(n:Nat) (N:Nat) (b:Int),1<=b->b+n=32769->n<N->1<=n->jB (fs,most) c p k N b=if rn A (slw c p.fQ) n b<=32768 then k (rn A (slw c p.fQ) n b) else some (⟨0,0,0,0⟩,360)
 | n,0,b,h0,h1,h2,h3=>by omega
 | 0,N+1,b,h0,h1,h2,h3=>by omega
 | n+1,N+1,b,h0,h1,h2,h3=>by
  push_cast at h1
  rw[jB,xD (x:=b-1) (by omega),ht (b-1) (by omega) (by omega),oB]
  have hb:=hA.b (b-1) (by omega) (by omega)
  have hm1:0<=slw c p.fQ*A (b-1):=Int.mul_nonneg (by omega) hb.1
  have hm2:slw c p.fQ*A (b-1)<=16*A (b-1):=Int.mul_le_mul_of_nonneg_right hs.2 hb.1
  have e:((nth c.fK p.fQ).yp)*A (b-1)=slw c p.fQ*A (b-1):=rfl
  rw[e,xD (x:=slw c p.fQ*A (b-1)) (by omega),xD (x:=b+1) (by omega),rn]
  by_cases h:slw c p.fQ*A (b-1)>b
  ·rw[if_pos (decide_eq_true h),if_pos h]
   by_cases h4:b+1>32768
   ·rw[if_pos (decide_eq_true h4)]
    have hn:n=0:=by omega
    subst hn
    rw[rn,if_neg (by omega)]
   ·rw[if_neg (by simpa using h4)]
    exact Y1 hA ht hs n N (b+1) (by omega) (by omega) (by omega) (by omega)
  ·rw[if_neg (by simpa using h),if_neg h,if_pos (by omega)]
theorem Y2{c:Cf}{p:Pl}{fs:List (Int->Option Int)}{most:Int}{A:Int->Int}{k:Int->Int->Option (PB×Int)}{b la:Int}(hA:AOK A)(ht:∀ t,0<=t->t<=4294967296->vB fs t=some (A t))(hs:1<=slw c p.fQ/\slw c p.fQ<=16)(hb:1<=b/\b<=32768)(hla:0<=la/\la<=1000):
  ∀(n:Nat) (v:Nat),(v:Int)<=b+la->b+la<n+v->jC b la (fs,most) c p k n v (tv (lR A (slw c p.fQ) la) (min v b.toNat)) (tv (cv A (slw c p.fQ) la) v)=k (tv (lR A (slw c p.fQ) la) b.toNat) (tv (cv A (slw c p.fQ) la) (b+la).toNat)
 | 0,v,h0,h1=>by omega
 | n+1,v,h0,h1=>by
  rw[jC,xD (x:=b+la) (by omega)]
  by_cases h:(v:Int)<b+la
  ·rw[if_pos (decide_eq_true h),ht v (by omega) (by omega),oB]
   refine vj (P:=fun o=>o=k (tv (lR A (slw c p.fQ) la) b.toNat) (tv (cv A (slw c p.fQ) la) (b+la).toNat)) fun kk AX=>?_
   have DF:=hA.b v (by omega) (by omega)
   have hm1:0<=slw c p.fQ*A v:=Int.mul_nonneg (by omega) DF.1
   have hm2:slw c p.fQ*A v<=16*A v:=Int.mul_le_mul_of_nonneg_right hs.2 DF.1
   have D4:∀ x,x=tv (lR A (slw c p.fQ) la) (min (v+1) b.toNat)->kk x=k (tv (lR A (slw c p.fQ) la) b.toNat) (tv (cv A (slw c p.fQ) la) (b+la).toNat):=by
    rintro x rfl
    rw[AX]
    have e:(nth c.fK p.fQ).yp=slw c p.fQ:=rfl
    have h2:0<=(max ((v:Int)-la) 0+slw c p.fQ-1) / slw c p.fQ:=Int.ediv_nonneg (by omega) (by omega)
    have h3:(max ((v:Int)-la) 0+slw c p.fQ-1) / slw c p.fQ<=max ((v:Int)-la) 0+slw c p.fQ-1:=Int.ediv_le_self _ (by omega)
    rw[e,xA (by omega),xD (x:=(v:Int)-la) (by omega),xD (x:=max ((v:Int)-la) 0+slw c p.fQ) (by omega),xD (x:=max ((v:Int)-la) 0+slw c p.fQ-1) (by omega),ct (by omega),xD (x:=(max ((v:Int)-la) 0+slw c p.fQ-1) / slw c p.fQ) (by omega),xD (x:=A v-(max ((v:Int)-la) 0+slw c p.fQ-1) / slw c p.fQ) (by omega),xD (x:=(v:Int)+1) (by omega)]
    have:=Y2 (k:=k) (most:=most) hA ht hs hb hla n (v+1) (by push_cast;omega) (by push_cast;omega)
    rw[<- this]
    rfl
   by_cases h5:(v:Int)<b
   ·rw[if_pos (decide_eq_true h5)]
    refine D4 _ ?_
    have e:(nth c.fK p.fQ).yp=slw c p.fQ:=rfl
    rw[e,xD (x:=slw c p.fQ*A v) (by omega),xD (x:=slw c p.fQ*A v-v) (by omega),xD (by omega),show min (v+1) b.toNat=v+1 by omega,show min v b.toNat=v by omega]
    rfl
   ·rw[if_neg (by simpa using h5)]
    refine D4 _ ?_
    rw[show min (v+1) b.toNat=b.toNat by omega,show min v b.toNat=b.toNat by omega]
  ·rw[if_neg (by simpa using h),show min v b.toNat=b.toNat by omega,show v=(b+la).toNat by omega]
theorem Ve{c:Cf}{rs:List (List Hop)}{de:DM}{p:Pl}{fs:List (Int->Option Int)}{most:Int}(hS:Small c)(hp:PI c p)(hA:AOK A)(ha:kn c rs p de=some (fs,most))(hmost:0<=most/\most<=72)(ht:∀ t,0<=t->t<=4294967296->vB fs t=some (A t))(hs:1<=slw c p.fQ/\slw c p.fQ<=16)(hla:0<=jP c p.ya/\jP c p.ya<=1000):
  gA c rs p de=some (if BZ A (slw c p.fQ)<=32768 then(HB c A most p,0) else(⟨0,0,0,0⟩,360)):=by
 unfold gA
 rw[ha,oB,xA ⟨hp.l0,hp.l1⟩,dS hS hp.n0 hp.n1,oB]
 have hF:=w5
 generalize xI=N at hF ⊢
 refine vj (P:=fun o=>o=some (if BZ A (slw c p.fQ)<=32768 then(HB c A most p,0) else(⟨0,0,0,0⟩,360))) fun k hk=>?_
 rw[Y1 (A:=A) hA ht hs 32768 N 1 (by omega) (by omega) (by omega) (by omega)]
 have e:rn A (slw c p.fQ) 32768 1=BZ A (slw c p.fQ):=rfl
 rw[e]
 by_cases h:BZ A (slw c p.fQ)<=32768
 ·rw[if_pos h,if_pos h,hk]
  refine oW (P:=fun o=>o=some (HB c A most p,0)) fun k2 rv=>?_
  have hb:=Xy A (slw c p.fQ)
  have:=Y2 (k:=k2) (most:=most) (la:=jP c p.ya) hA ht hs ⟨hb.1,h⟩ hla N 0 (by omega) (by omega)
  simp only[Nat.zero_min,tv] at this
  rw[show((0:Nat):Int)=0 from rfl] at this
  rw[this,rv]
  refine congrArg some ?_
  unfold HB
  have lu:=dX (cv A (slw c p.fQ) (jP c p.ya)) (BZ A (slw c p.fQ)+jP c p.ya).toNat
  have hst2:tv (cv A (slw c p.fQ) (jP c p.ya)) (BZ A (slw c p.fQ)+jP c p.ya).toNat<=18014398509481984:=Y0 (by omega) fun t h0 h1=>by
   have h2:0<=(max (t-jP c p.ya) 0+slw c p.fQ-1) / slw c p.fQ:=Int.ediv_nonneg (by omega) (by omega)
   have:=(hA.b t h0 (by omega)).2
   unfold cv;omega
  rw[xD (by omega)]
 ·rw[if_neg h,if_neg h]
theorem Vf{c:Cf}{most:Int}{p:Pl}(hm:∀ t t',0<=t->t<=t'->A t<=A t')(h0:1<=A 0)(hs:1<=slw c p.fQ/\slw c p.fQ<=16)(hla:0<=jP c p.ya/\jP c p.ya<=1000)(h:BZ A (slw c p.fQ)<=32768):jP c p.ya+slw c p.fQ<=(HB c A most p).yj/\(HB c A most p).yj<=33768:=by
 have hb:=Xy A (slw c p.fQ)
 constructor
 ·have:=Wt (f:=lR A (slw c p.fQ) (jP c p.ya)) (n:=(BZ A (slw c p.fQ)).toNat) (t:=0) (by omega) (by omega)
  have h2:slw c p.fQ*1<=slw c p.fQ*A 0:=Int.mul_le_mul_of_nonneg_left h0 (by omega)
  show _<=tv _ _
  unfold lR at this ⊢
  omega
 ·refine Y0 (by omega) fun t t0 t1=>?_
  have h2:=Vp h
  have h3:slw c p.fQ*A t<=slw c p.fQ*A (BZ A (slw c p.fQ)-1):=Int.mul_le_mul_of_nonneg_left (hm _ _ t0 (by omega)) (by omega)
  unfold lR;omega
end
section
/-! ### the order -/
theorem lS{l:List Pl×Int}{k:List yl->Option (List yl×Int)}(hl:l.1.length<=1000000):∀(n:Nat) (o:List yl) (v:Int),0<=v->v<=l.1.length->l.1.length<n+v->o.length=v->
  kx l k n o v=k (o++(l.1.drop v.toNat).map fun p=>⟨p.ya,p.fQ,0,0⟩)
 | 0,o,v,h0,h1,h2,h3=>by omega
 | n+1,o,v,h0,h1,h2,h3=>by
  rw[kx]
  by_cases h:v<l.1.length
  ·rw[if_pos (decide_eq_true h),xA ⟨h0,h⟩,xA (by simp;omega),jZ h0 h,xD (x:=v+1) (by omega)]
   rw[lS hl n _ (v+1) (by omega) (by omega) (by omega) (by simp;omega),show(v+1).toNat=v.toNat+1 by omega]
   simp
  ·rw[if_neg (by simpa using h),List.drop_eq_nil_of_le (by omega)];simp
theorem Y3{c:Cf}{net:Int}{rs:List (List Hop)}(hf:FewP c rs)(hv:VA c net rs):
  (∃ l,l.Perm (PS rs)/\qo rs l/\g0 c net rs=some (l.map fun p=>⟨p.ya,p.fQ,0,0⟩,0))\/(∃ s,sP rs s/\g0 c net rs=some ([],351)):=by
 unfold g0
 obtain⟨b,q1,q2⟩:=px hf.small (net:=net) (rs:=rs) (fun r hr=>by have:=hf.e r hr;omega) (by have:=hf.r;omega)
 rw[q1,q2.2 hv,oB,if_neg (by simp)]
 have DC:=iX hf.e
 have hr:=hf.r
 have h3:rs.length*40<=20*40:=Nat.mul_le_mul_right _ hr
 rcases ay (rs:=rs) (fun r h=>by have:=hf.e r h;omega) (by omega) with⟨l,e1,e2,e3⟩ | ⟨s,e1,e2⟩
 ·rw[e3,oB]
  have jo:=e1.length_eq
  refine .inl ⟨l,e1,e2,?_⟩
  refine vj (P:=fun o=>o=_) fun k hk=>?_
  rw[lS (l:=(l,0)) (by show l.length<=_;omega) xI [] 0 (by omega) (by omega) (by rw[w5];show((l.length:Nat):Int)<_;omega) rfl,hk]
  simp
 ·rw[e2,oB]
  refine .inr ⟨s,e1,?_⟩
  refine vj (P:=fun o=>o=_) fun k hk=>?_
  rw[lS (l:=([],351)) (by simp) xI [] 0 (by omega) (by simp) (by rw[w5];simp) rfl,hk]
  simp
/-! ### the errors of the calculus are small numbers -/
def Er(e:Int):Prop:=0<=e/\e<=9
theorem pH{e:Int}(h:e=0\/e=2\/e=3\/e=6):Er e:=by unfold Er;omega
theorem nx(q:Rat):Er (mk q).2:=by unfold mk Er;split <;> simp
theorem pI(x y:R):Er (bm x y).2:=by
 unfold bm
 by_cases h:V x=true/\V y=true
 ·rw[aC h.1 h.2];exact nx _
 ·rw[YP h];exact pH (by first | exact .inl rfl | exact .inr (.inl rfl) | exact .inr (.inr (.inl rfl)) | exact .inr (.inr (.inr rfl)))
theorem Y4(x y:R):Er (aL x y).2:=by
 unfold aL
 by_cases h:V x=true/\V y=true
 ·rw[dH h.1 h.2];exact nx _
 ·rw[YQ h];exact pH (by first | exact .inl rfl | exact .inr (.inl rfl) | exact .inr (.inr (.inl rfl)) | exact .inr (.inr (.inr rfl)))
theorem Wu(x y:R):Er (MUL x y).2:=by
 unfold MUL
 by_cases h:V x=true/\V y=true
 ·rw[aD h.1 h.2];exact nx _
 ·rw[YR h];exact pH (by first | exact .inl rfl | exact .inr (.inl rfl) | exact .inr (.inr (.inl rfl)) | exact .inr (.inr (.inr rfl)))
theorem Qn(x y:R)(h0:y.fN≠0):Er (DIV x y).2:=by
 unfold DIV
 by_cases h:V x=true/\V y=true
 ·rw[dI h.1 h.2 h0];exact nx _
 ·rw[YS h];exact pH (by first | exact .inl rfl | exact .inr (.inl rfl) | exact .inr (.inr (.inl rfl)) | exact .inr (.inr (.inr rfl)))
theorem rX{e:Int}{r:R×Int}(h1:Er e)(h2:Er r.2):Er (CD e r).2:=by
 unfold CD;split
 ·exact h1
 ·split <;> exact h2
theorem Qo(c:List B)(t:R):Er (bn c t).2:=by
 unfold bn
 by_cases h:VC c=true/\GR t=true
 ·rw[Vm h.1 h.2]
  show Er (if c.all (lJ (val t)) then(t8 (AT c (val t)),0) else(⟨0,0⟩,3):R×Int).2
  split <;> exact pH (by first | exact .inl rfl | exact .inr (.inl rfl) | exact .inr (.inr (.inl rfl)) | exact .inr (.inr (.inr rfl)))
 ·rw[Wb h];exact pH (by first | exact .inl rfl | exact .inr (.inl rfl) | exact .inr (.inr (.inl rfl)) | exact .inr (.inr (.inr rfl)))
theorem Qp(c:List B):Er (oV c).2:=by
 unfold oV
 cases h:VC c with
 | true=>
  have:=eY h
  split at this
  ·obtain⟨r,e,_⟩:=this
   rw[e];exact pH (by first | exact .inl rfl | exact .inr (.inl rfl) | exact .inr (.inr (.inl rfl)) | exact .inr (.inr (.inr rfl)))
  ·rw[this];exact pH (by first | exact .inl rfl | exact .inr (.inl rfl) | exact .inr (.inr (.inl rfl)) | exact .inr (.inr (.inr rfl)))
 | false=>rw[dM h];exact pH (by first | exact .inl rfl | exact .inr (.inl rfl) | exact .inr (.inr (.inl rfl)) | exact .inr (.inr (.inr rfl)))
theorem Y5(t:R):∀(l:List (List B)) (a:R×Int),Er a.2->Er (cl t l a).2
 | [],a,h=>h
 | c::l,a,h=>by
  rw[cl]
  refine Y5 t l _ (rX ?_ (pI _ _))
  split
  ·exact Qo c t
  ·exact h
theorem dv_er{l:List (List B)}{s:SV}(h0:s.ye.fN≠0){e:Int}(he:Er e)(t:R):Er (dv l s e t).2:=by
 unfold dv
 exact rX (rX (rX (Y5 _ _ _ he) (Qn _ _ h0)) (Y4 _ _)) (pI _ _)
theorem bv_er{l:List (List B)}{s:SV}{e:Int}(he:Er e)(t:R):Er (bv l s e t).2:=by
 unfold bv
 have h:=Y5 t l (Z1,e) he
 simp only
 split
 ·exact h
 ·exact rX (rX (rX h (Y4 _ _)) (Wu _ _)) (Y4 _ _)
theorem Wv{f:Int->R->R×Int}(hf:∀ e t,Er e->Er (f e t).2)(P:List R):Er (n2 f P).2:=by
 have h:∀(P:List R) (s:List R×Int),Er s.2->Er (P.foldl (gK f) s).2:=by
  intro P
  induction P with
  | nil=>intro s h;exact h
  | cons p P ih=>intro s h;rw[List.foldl_cons];exact ih _ (hf _ _ h)
 have:=h P ([],0) (pH (.inl rfl))
 unfold n2
 simp only
 split
 ·exact this
 ·exact pH (by first | exact .inl rfl | exact .inr (.inl rfl) | exact .inr (.inr (.inl rfl)) | exact .inr (.inr (.inr rfl)))
theorem Y6:∀(l:List (List B)) (a:R×Int),Er a.2->match br l a with | .inl e=>Er e | .inr r=>Er r.2
 | [],a,h=>h
 | c::l,a,h=>by
  rw[br]
  split
  ·rename_i e he
   split at he
   ·injection he with he;subst he;exact Qp c
   ·have:=Y6 l _ (rX h (pI a.1 (n3 c).1));rw[he] at this;exact this
  ·rename_i e he
   split at he
   ·cases he
   ·have:=Y6 l _ (rX h (pI a.1 (n3 c).1));rw[he] at this;exact this
theorem Ww(l:List (List B))(s:SV):Er (sk l s):=by
 unfold sk
 split
 ·exact pH (by first | exact .inl rfl | exact .inr (.inl rfl) | exact .inr (.inr (.inl rfl)) | exact .inr (.inr (.inr rfl)))
 ·have h:=Y6 l (Z1,0) (pH (.inl rfl))
  split
  ·rename_i e he;rw[he] at h;exact h
  ·rename_i r he;rw[he] at h
   split
   ·exact h
   ·split <;> exact pH (by first | exact .inl rfl | exact .inr (.inl rfl) | exact .inr (.inr (.inl rfl)) | exact .inr (.inr (.inr rfl)))
theorem DL_er(l:List (List B))(s:SV)(h0:s.ye.fN≠0):Er (DL l s).2:=by
 unfold DL
 split
 ·exact Wv (fun e t he=>dv_er h0 he t) _
 ·exact Ww l s
theorem BL_er(l:List (List B))(s:SV):Er (BL l s).2:=by
 unfold BL
 split
 ·exact Wv (fun e t he=>bv_er he t) _
 ·exact Ww l s
theorem ny{e:Int}{r:R×Int}(h1:Er e)(h2:Er r.2):Er (DO e r).2:=by
 unfold DO;simp only;split
 ·exact h2
 ·exact h1
theorem CU_er{c:Cf}{rs:List (List Hop)}{bu:BM}{de:DM}{e:Int}{p:Pl}(he:Er e):Er (CU c rs bu de e p).2.2.1:=by
 have h1:∀(l:List Int) (s:CS),Er s.e->Er (l.foldl (mz c rs de p) s).e:=by
  intro l
  induction l with
  | nil=>intro s h;exact h
  | cons v l ih=>
   intro s h;rw[List.foldl_cons];refine ih _ ?_
   unfold mz;simp only
   split
   ·split
    ·exact ny (ny h (Wu _ _)) (pI _ _)
    ·exact h
   ·exact h
 have h2:∀(bu:BM) (l:List Int) (s:GS),Er s.e->Er (l.foldl (gst c bu p) s).e:=by
  intro bu l
  induction l with
  | nil=>intro s h;exact h
  | cons v l ih=>intro s h;rw[List.foldl_cons];exact ih _ (ny (ny h (pI _ _)) (pI _ _))
 have h3:∀(lk:List (Int×List Int)) (bu:BM) (l:List Int) (s:List (List B)×Int),Er s.2->Er (l.foldl (pF c lk bu p) s).2:=by
  intro lk bu l
  induction l with
  | nil=>intro s h;exact h
  | cons q l ih=>
   intro s h;rw[List.foldl_cons];refine ih _ ?_
   unfold pF;split
   ·exact h
   ·exact h2 _ _ _ h
 unfold CU
 exact h3 _ _ _ _ (h1 _ _ he)
theorem z10V{e a b:Int}(h1:Er e)(h2:Er a)(h3:Er b):fe e a b=352\/Er (fe e a b):=by
 unfold fe er Er at *
 repeat' split
 all_goals omega
theorem zIy{c:Cf}{rs:List (List Hop)}:∀(l:List Pl) (s:WS) (e:Int),s.e=0->rB c rs l s = .inr e->e≠350
 | [],s,e,_,h=>by cases h
 | p::l,s,e,h0,h=>by
  rw[rB] at h
  split at h
  ·injection h with h;subst h
   show fe _ _ _≠350
   rcases z10V (CU_er (c:=c) (rs:=rs) (bu:=s.bu) (de:=s.de) (p:=p) (e:=s.e) (by rw[h0];exact pH (by first | exact .inl rfl | exact .inr (.inl rfl) | exact .inr (.inr (.inl rfl)) | exact .inr (.inr (.inr rfl))))) (DL_er (CU c rs s.bu s.de s.e p).1 (srv c p) (by show(1:Int)≠0;decide)) (BL_er (CU c rs s.bu s.de s.e p).1 (srv c p)) with h | h
   ·rw[h];decide
   ·unfold Er at h;omega
  ·rename_i hn
   exact zIy l _ e (by simpa using hn) h
end
section
variable {rs:List (List Hop)}{net:Int}{p:Pl}{D:Pl->Int}{l1 l2:List Pl}{r:List Hop}
/-! ### all ports -/
def bw(c:Cf)(rs:List (List Hop))(D:Pl->Int)(p:Pl):Int:=BZ (sm c (mc c rs D p)) (slw c p.fQ)
def rI(c:Cf)(rs:List (List Hop))(D:Pl->Int)(p:Pl):PB:=HB c (sm c (mc c rs D p)) (rW c (mc c rs D p)) p
def dD(de:DM):Pl->Int:=fun q=>xp de q 0
def rC(c:Cf)(rs:List (List Hop)):List Pl->DM->List PB->Option (DM×List PB)
 | [],de,out=>some (de,out)
 | p::l,de,out=>if bw c rs (dD de) p<=32768 then rC c rs l (xM de p (rI c rs (dD de) p).yj) (out++[rI c rs (dD de) p]) else none
structure HI (c:Cf) (ps:List Pl) (D:Pl->Int):Prop where
 i:∀ q∈ps,jP c q.ya+slw c q.fQ<=D q/\D q<=33768
 o:∀ q,q∉ps->D q=0
theorem qo.clo{c:Cf}(hv:VA c net rs)(h:qo rs (l1++p::l2))(hr:r∈rs){x:Hop}(hx:x∈r)(hp:pk x∈l1\/pk x=p){g:Hop}(hg:g∈r)(e:g.yh=x.ya):pk g∈l1:=by
 have hpr:iZ rs (pk x) (pk g):=(ca hv).1 ⟨r,hr,g,hg,x,hx,e,rfl,rfl⟩
 rcases hp with hp | hp
 ·obtain⟨a,b,e2⟩:=List.append_of_mem hp
  rw[e2]
  have:=h a (pk x) (b++p::l2) (by rw[e2];simp) _ hpr
  exact List.mem_append_left _ this
 ·exact h l1 p l2 rfl _ (hp▸hpr)
theorem HI.rng{c:Cf}(hS:Small c)(hv:VA c net rs){ps:List Pl}(h:HI c ps D)(hr:r∈rs){x:Hop}(hx:x∈r):0<=D (pk x)/\D (pk x)<=33768:=by
 have hh:=(hv.each r hr).hop hS hx
 by_cases hq:pk x∈ps
 ·have:=h.i _ hq
  have e1:(pk x).ya=x.ya:=rfl
  have e2:(pk x).fQ=x.fQ:=rfl
  rw[e1,e2] at this
  have:=hh.s0;have:=hh.d0
  omega
 ·rw[h.o _ hq];omega
theorem HI.jn0{c:Cf}(hS:Small c)(hv:VA c net rs)(ho:qo rs (l1++p::l2))(h:HI c l1 D)(hr:r∈rs):∀ x∈r,(pk x∈l1\/pk x=p)->0<=jn c D r x.ya:=by
 have CF:=hv.each r hr
 refine CF.ind (P:=fun x=>(pk x∈l1\/pk x=p)->0<=jn c D r x.ya) (fun x hx e _=>?_) (fun g hg x hx e ih hp=>?_)
 ·rw[e,CF.jn_start];exact Int.le_refl _
 ·have hgm:=ho.clo hv hr hx hp hg e
  have h1:=h.i _ hgm
  have h2:=ih (.inl hgm)
  rw[<- e,CF.jn_next D hg]
  have e1:(pk g).ya=g.ya:=rfl
  have e2:(pk g).fQ=g.fQ:=rfl
  rw[e1,e2] at h1
  omega
theorem Vq{c:Cf}(hS:Small c)(hv:VA c net rs){M:Int}(hM:0<=M)(hr:r∈rs)(hD:∀ h∈r,-M<=D (pk h)/\D (pk h)<=M)(n:Int) : -(32*(M+1016))<=jn c D r n/\jn c D r n<=32*(M+1016):=by
 have h:=aY (c:=c) (D:=D) hS (hv.each r hr) hM hD r.length n
 rw[List.take_of_length_le (Nat.le_refl _)] at h
 exact h
theorem Wx{c:Cf}{x:Fw}(hx:x∈mc c rs D p):∃ h∈nth rs x.v,nth rs x.v∈rs/\0<=x.v/\x.v<rs.length/\pk h=p/\x.j=jn c D (nth rs x.v) h.ya/\x.k=ii (nth rs x.v) p:=by
 obtain⟨v,v0,v1,hu,rfl⟩:=cu.1 hx
 obtain⟨h,hh,e⟩:=tH.1 hu
 refine⟨h,hh,wt v0 v1,v0,v1,e,?_,rfl⟩
 rw[<- e];rfl
theorem HI.ok{c:Cf}(hS:Small c)(hv:VA c net rs)(ho:qo rs (l1++p::l2))(h:HI c l1 D):FwOK c (mc c rs D p):=by
 refine Xx hS hv fun x hx=>?_
 obtain⟨y,hy,hr,_,_,e,ej,_⟩:=Wx hx
 have h1:=h.jn0 hS hv ho hr y hy (.inr e)
 have h2:=Vq (c:=c) (D:=D) hS hv (M:=33768) (by omega) hr (fun z hz=>by have:=h.rng hS hv hr hz;omega) y.ya
 rw[ej];omega
theorem Q4{c:Cf}(hv:fc c){l:List Fw}(hl:FwOK c l){x:Fw}(hx:x∈l){t:Int}(h0:0<=t)(h1:t<=4294967296):1<=sm c l t:=by
 have hb:=(tM hv hl hx h0 h1).1
 have hk:=hl.k0 x hx
 have hm:=hv.mx (hl.v0 x hx).1 (hl.v0 x hx).2
 have zw:x∈l.filter fun y=>decide (y.k=x.k):=List.mem_filter.2 ⟨hx,by simp⟩
 have hg:1<=pG c l t x.k:=by
  have:=aZ (f:=fun x=>ig c x t) (l:=l.filter fun y=>decide (y.k=x.k)) (fun y hy=>by have:=(tM hv hl (List.mem_filter.1 hy).1 h0 h1).1;omega) zw
  unfold pG;omega
 have hw:1<=oo c l x.k:=by
  have:=Vb (x:=mx c x.v) (l:=(l.filter fun y=>decide (y.k=x.k)).map fun x=>mx c x.v) (List.mem_map.2 ⟨x,zw,rfl⟩)
  unfold oo;omega
 have hgv:1<=tj c l t x.k:=by
  have hd:0<=t / max 1 (slw c x.k):=Int.ediv_nonneg h0 (by omega)
  unfold tj;split <;> omega
 have:=aZ (f:=tj c l t) (l:=lks c) (fun L _=>(sQ hv hl h0 h1).1) (x:=x.k) (by unfold lks;exact sL.2 ⟨by omega,by push_cast;omega⟩)
 unfold sm;omega
theorem Yv{c:Cf}(hv:fc c){l:List Fw}(hl:FwOK c l):0<=rW c l/\rW c l<=72:=by
 unfold rW
 refine⟨ol _,YX (by omega) fun x hx=>?_⟩
 obtain⟨y,hy,rfl⟩:=List.mem_map.1 hx
 exact(hv.mx (hl.v0 y hy).1 (hl.v0 y hy).2).2.1
theorem Qq{c:Cf}(hS:Small c)(hv:VA c net rs)(hp:p∈PS rs):∃ r∈rs,∃ h∈r,pk h=p/\HV c h:=by
 obtain⟨r,hr,h,hh,e⟩:=(uO rs p).1 hp
 exact⟨r,hr,h,hh,e,(hv.each r hr).hop hS hh⟩
theorem Y7{c:Cf}(hS:Small c)(hv:VA c net rs)(hp:p∈PS rs):(1<=slw c p.fQ/\slw c p.fQ<=16)/\(0<=jP c p.ya/\jP c p.ya<=1000):=by
 obtain⟨r,hr,h,hh,rfl,hx⟩:=Qq hS hv hp
 exact⟨⟨hx.s0,hx.s1⟩,⟨hx.d0,hx.d1⟩⟩
theorem fw_ex{c:Cf}{net:Int}(hp:p∈PS rs):∃ x,x∈mc c rs D p:=by
 obtain⟨r,hr,h,hh,e⟩:=(uO rs p).1 hp
 obtain⟨i,i0,i1,rfl⟩:=mv hr
 exact⟨_,cu.2 ⟨i,i0,i1,tH.2 ⟨h,hh,e⟩,rfl⟩⟩
theorem Vg{c:Cf}(hS:Small c)(hv:VA c net rs)(hV:fc c)(ho:qo rs (l1++p::l2))(hp:p∈PS rs){de:DM}(h:HI c l1 (dD de)):
  gA c rs p de=some (if bw c rs (dD de) p<=32768 then(rI c rs (dD de) p,0) else(⟨0,0,0,0⟩,360)):=by
 have zP:=h.ok hS hv ho
 obtain⟨fs,e,ht⟩:=Yu (p:=p) (de:=de) hS hv hV (fun r hr x hx=>by have:0<=xp de (pk x) 0/\xp de (pk x) 0<=33768:=h.rng hS hv hr hx;omega) zP.j0
 obtain⟨h1,h2⟩:=Y7 hS hv hp
 exact Ve hS (hv.pi hS hp) ⟨fun t t0 t1=>Wr hS hV zP t0 t1⟩ e (Yv hV zP) ht h1 h2
theorem HI.put{c:Cf}(hS:Small c)(hv:VA c net rs)(hV:fc c)(ho:qo rs (l1++p::l2))(hp:p∈PS rs){de:DM}(h:HI c l1 (dD de))(hb:bw c rs (dD de) p<=32768):HI c (l1++[p]) (dD (xM de p (rI c rs (dD de) p).yj)):=by
 have zP:=h.ok hS hv ho
 obtain⟨h1,h2⟩:=Y7 hS hv hp
 obtain⟨x,hx⟩:=fw_ex (c:=c) (net:=net) (D:=dD de) hp
 have hd:=Vf (A:=sm c (mc c rs (dD de) p)) (most:=rW c (mc c rs (dD de) p)) (fun t t' _ ht=>Vd hV zP ht) (Q4 hV zP hx (t:=0) (by omega) (by omega)) h1 h2 hb
 refine⟨fun q hq=>?_,fun q hq=>?_⟩
 ·unfold dD;rw[jg]
  by_cases e:q=p
  ·rw[if_pos e,e];exact hd
  ·rw[if_neg e]
   rcases List.mem_append.1 hq with hq | hq
   ·exact h.i q hq
   ·exact absurd (List.mem_singleton.1 hq) e
 ·unfold dD;rw[jg,if_neg (fun e=>hq (by rw[e];simp))]
  exact h.o q fun hm=>hq (List.mem_append_left _ hm)
theorem bA{c:Cf}{net:Int}{rs:List (List Hop)}{l:List Pl}{e0:Int}{k:List PB->Option (yz×Int)}(hS:Small c)(hv:VA c net rs)(hV:fc c)(hlp:∀ p∈l,p∈PS rs)(ho:qo rs l)(zZ:l.length<=100000):
  ∀(n:Nat) (v:Int) (de:DM) (out:List PB),0<=v->v<=l.length->l.length<n+v->out.length=v->HI c (l.take v.toNat) (dD de)->
   qV (l.map fun p=>(⟨p.ya,p.fQ,0,0⟩:yl),e0) c rs k n v de out=match rC c rs (l.drop v.toNat) de out with | some t=>k t.2 | none=>some (⟨[],[]⟩,360)
 | 0,v,de,out,h0,h1,h2,h3,h4=>by omega
 | n+1,v,de,out,h0,h1,h2,h3,h4=>by
  rw[qV]
  have hml:(((l.map fun p=>(⟨p.ya,p.fQ,0,0⟩:yl)).length:Nat):Int)=l.length:=by rw[List.length_map]
  simp only[hml]
  by_cases h:v<l.length
  ·have hsp:l=l.take v.toNat++nth l v::l.drop (v.toNat+1):=by rw[<- jZ h0 h,List.take_append_drop]
   have hpm:=hlp _ (wt h0 h)
   rw[if_pos (decide_eq_true h),xA ⟨h0,h⟩,jZ h0 h,rC]
   have en:nth (l.map fun p=>(⟨p.ya,p.fQ,0,0⟩:yl)) v=⟨(nth l v).ya,(nth l v).fQ,0,0⟩:=by
    rw[uY ⟨h0,by rw[List.length_map];exact h⟩,List.getElem_map,<- uY ⟨h0,h⟩]
   have ho2:qo rs (l.take v.toNat++nth l v::l.drop (v.toNat+1)):=hsp▸ho
   rw[en]
   have ep:(⟨(nth l v).ya,(nth l v).fQ⟩:za)=nth l v:=rfl
   simp only[ep]
   rw[Vg hS hv hV ho2 hpm h4,oB]
   by_cases hb:bw c rs (dD de) (nth l v)<=32768
   ·rw[if_pos hb,if_pos hb,if_neg (by simp)]
    have hol:(out++[rI c rs (dD de) (nth l v)]).length=v+1:=by rw[List.length_append,List.length_singleton];push_cast;omega
    rw[xA (by rw[hol];omega),xD (x:=v+1) (by omega)]
    have h5:=h4.put hS hv hV ho2 hpm hb
    have et:l.take (v+1).toNat=l.take v.toNat++[nth l v]:=by
     rw[show(v+1).toNat=v.toNat+1 by omega,List.take_succ_eq_append_getElem (by omega),uY ⟨h0,h⟩]
    rw[<- et] at h5
    rw[bA hS hv hV hlp ho zZ n (v+1) _ _ (by omega) (by omega) (by omega) hol h5,show(v+1).toNat=v.toNat+1 by omega]
   ·rw[if_neg hb,if_neg hb,if_pos (by simp)]
  ·rw[if_neg (by simpa using h),List.drop_eq_nil_of_le (by omega),rC]
theorem Y8{c:Cf}{rs:List (List Hop)}:∀(l:List Pl) (de:DM) (out:List PB) (t:DM×List PB),rC c rs l de out=some t->t.2.map qx=out.map qx++l/\t.2.length=out.length+l.length
 | [],de,out,t,h=>by injection h with h;subst h;simp
 | p::l,de,out,t,h=>by
  rw[rC] at h
  split at h
  ·obtain⟨h1,h2⟩:=Y8 l _ _ t h
   rw[h1,h2]
   refine⟨?_,by simp;omega⟩
   rw[List.map_append]
   simp only[List.map_cons,List.map_nil,List.append_assoc,List.cons_append,List.nil_append]
   rfl
  ·cases h
theorem Vh{l:List PB}(hn:(l.map qx).Nodup)(hs:l.length<=1000000)(hb:∀ b∈l,-1000000000<=b.ya/\b.ya<=1000000000 /\ -1000000000<=b.fQ/\b.fQ<=1000000000):
  xY l (fun y0 y1=>wj y0 y1)=some (w8 wj l)/\(w8 wj l).Pairwise fun a b=>¬ur (qx b) (qx a):=by
 have hp:∀ x∈l,∀ y∈l,∃ v,wj x y=some v/\(v<0↔ur (qx x) (qx y))/\(v<=0↔¬ur (qx y) (qx x)):=by
  intro x hx y hy
  have:=hb x hx;have:=hb y hy
  unfold wj ur qx
  simp only[ne_eq,decide_eq_true_eq]
  by_cases e:x.ya=y.ya
  ·rw[if_neg (by simpa using e),xD (by omega)]
   exact⟨_,rfl,by omega,by omega⟩
  ·rw[if_pos (by simpa using e),xD (by omega)]
   exact⟨_,rfl,by omega,by omega⟩
 have BH:∀ x∈l,∀ y∈l,qx x=qx y->x=y:=by
  intro x hx y hy e
  obtain⟨i,hi,rfl⟩:=List.getElem_of_mem hx
  obtain⟨j,hj,rfl⟩:=List.getElem_of_mem hy
  have h1:(l.map qx)[i]'(by simpa using hi)=(l.map qx)[j]'(by simpa using hj):=by simpa using e
  have:=(List.getElem_inj (h₀:=by simpa using hi) (h₁:=by simpa using hj) hn).1 h1
  subst this;rfl
 obtain⟨ho,BF⟩:=cJ (p:=wj) (lt:=fun a b=>ur (qx a) (qx b)) (l:=l) hp (fun x y=>bQ _ _) (fun x y z=>am _ _ _) (fun x hx y hy h1 h2=>BH x hx y hy (dE _ _ h1 h2))
 refine⟨?_,BF⟩
 unfold xY kq qf
 rw[cL (by omega),xA (by omega),oB]
 have hb:=lD l.length (by omega)
 rw[Int.toNat_natCast,xA ⟨⟨rfl,rfl⟩,by omega,by omega,by omega⟩,xA ho,oB]
theorem ng:∀ {a b:List Pl},a.Perm b->a.Nodup->a.Pairwise (fun x y=>¬ur y x)->b.Pairwise (fun x y=>¬ur y x)->a=b
 | [],b,hp,_,_,_=>by have:=hp.length_eq;cases b with | nil=>rfl | cons y b=>simp at this
 | x::a,[],hp,_,_,_=>by have:=hp.length_eq;simp at this
 | x::a,y::b,hp,hn,ha,hb=>by
  have hxy:x=y:=by
   have h1:x∈y::b:=hp.subset (by simp)
   have h2:y∈x::a:=hp.symm.subset (by simp)
   rcases List.mem_cons.1 h1 with h1 | h1
   ·exact h1
   rcases List.mem_cons.1 h2 with h2 | h2
   ·exact h2.symm
   exact dE _ _ ((List.pairwise_cons.1 hb).1 x h1) ((List.pairwise_cons.1 ha).1 y h2)
  subst hxy
  rw[ng hp.cons_inv (List.nodup_cons.1 hn).2 (List.pairwise_cons.1 ha).2 (List.pairwise_cons.1 hb).2]
theorem Wy(hr:∀ r∈rs,r.length<=1000)(hl:rs.length<=100):(PS rs).Pairwise fun a b=>¬ur b a:=by
 refine(ap ?_).2
 have h1:=lE (lF rs) []
 have h2:=bR hr
 have h3:rs.length*1000<=100*1000:=Nat.mul_le_mul_right _ hl
 simp only[List.length_nil] at h1
 omega
inductive HC (c:Cf) (net:Int) (rs:List (List Hop)):yz×Int->Prop
 | route:¬VA c net rs->HC c net rs (⟨[],[]⟩,310)
 | vl:VA c net rs->¬rH c->HC c net rs (⟨[],[]⟩,350)
 | cycle (s:List Pl):VA c net rs->rH c->sP rs s->HC c net rs (⟨[],[]⟩,351)
 | busy (l:List Pl):VA c net rs->rH c->l.Perm (PS rs)->qo rs l->rC c rs l [] []=none->HC c net rs (⟨[],[]⟩,360)
 | ok (l:List Pl) (t:DM×List PB):VA c net rs->rH c->l.Perm (PS rs)->qo rs l->rC c rs l [] []=some t->(w8 wj t.2).map qx=PS rs->HC c net rs (⟨w8 wj t.2,EN c rs (w8 wj t.2)⟩,0)
theorem dY{c:Cf}(hf:FewP c rs):∃ x,ww c net rs=some x/\HC c net rs x:=by
 have hS:=hf.small
 have Bf:∀ r∈rs,r.length<1000000000:=fun r hr=>by have:=hf.e r hr;omega
 have hrs:=hf.r
 obtain⟨y,cy,hcp⟩:=Xw (net:=net) hf
 unfold ww
 by_cases hv:VA c net rs
 ·have DC:=iX hf.e
  have h3:rs.length*40<=20*40:=Nat.mul_le_mul_right _ hrs
  rw[cy]
  by_cases Ap:rH c
  ·have hy:y.2≠350:=by
    cases hcp with
    | route h=>exact absurd hv h
    | vl _ h=>exact absurd Ap h
    | cycle=>decide
    | err l e _ _ _ _ h _=>exact zIy l w0 e rfl h
    | ok=>exact(show(0:Int)≠350 by decide)
   rcases Y3 (net:=net) hf hv with⟨l,e1,e2,e3⟩ | ⟨s,e1,e2⟩
   ·have jo:=e1.length_eq
    rw[e3,oB,if_neg (by simp),oB,if_neg (by simpa using hy),if_neg (by simp)]
    refine vj (P:=fun o=>∃ x,o=some x/\HC c net rs x) fun k hk=>?_
    have hL:=bA (l:=l) (e0:=0) (k:=k) hS hv Ap.vls (fun p hp=>e1.subset hp) e2 (by omega) xI 0 [] [] (by omega) (by omega) (by rw[w5];omega) rfl ⟨by simp,fun q _=>rfl⟩
    simp only[Int.toNat_zero,List.drop_zero] at hL
    rw[hL]
    cases f5:rC c rs l [] [] with
    | none=>exact⟨_,rfl,.busy l hv Ap e1 e2 f5⟩
    | some t=>
     obtain⟨o1,o2⟩:=Y8 l [] [] t f5
     have hol:t.2.length=l.length:=by rw[o2];simp
     have BI:t.2.map qx=l:=by rw[o1];simp
     have Dy:(t.2.map qx).Nodup:=by rw[BI];exact e1.nodup_iff.2 (tF rs)
     simp only
     have hso:=Vh (l:=t.2) Dy (by omega) (fun b hb=>by
      have hm:qx b∈PS rs:=e1.subset (by rw[<- BI];exact List.mem_map.2 ⟨b,hb,rfl⟩)
      have:=hv.pi hS hm
      have a:=this.l0;have b1:=this.l1;have d:=this.n0;have f:=this.n1
      have:=hS.l;have:=hS.m;have:=hS.s
      unfold nN at f
      have e4:(qx b).ya=b.ya:=rfl
      have e5:(qx b).fQ=b.fQ:=rfl
      omega)
     rw[hk,hso.1,oB,YW (net:=net) hS hv.each (by omega) (by rw[mT];omega),oB]
     have hpp:((w8 wj t.2).map qx).Perm (PS rs):=by
      refine((jF _ _).map qx).trans ?_
      rw[BI];exact e1
     refine⟨_,rfl,.ok l t hv Ap e1 e2 f5 (ng hpp (hpp.nodup_iff.2 (tF rs)) ?_ (Wy (fun r hr=>by have:=hf.e r hr;omega) (by omega)))⟩
     rw[List.pairwise_map]
     exact hso.2
   ·rw[e2,oB,if_neg (by simp),oB,if_neg (by simpa using hy),if_pos (by simp)]
    exact⟨_,rfl,.cycle s hv Ap e1⟩
  ·have hy:y=(⟨[],[]⟩,350):=by
    cases hcp with
    | route h=>exact absurd hv h
    | vl _ h=>rfl
    | cycle _ _ h=>exact absurd h Ap
    | err _ _ _ h=>exact absurd h Ap
    | ok _ _ _ h=>exact absurd h Ap
   subst hy
   rcases Y3 (net:=net) hf hv with⟨l,e1,e2,e3⟩ | ⟨s,e1,e2⟩
   ·rw[e3,oB,if_neg (by simp),oB,if_pos (by simp)]
    exact⟨_,rfl,.vl hv Ap⟩
   ·rw[e2,oB,if_neg (by simp),oB,if_pos (by simp)]
    exact⟨_,rfl,.vl hv Ap⟩
 ·have ho:g0 c net rs=some ([],310):=by
   unfold g0
   obtain⟨b,q1,q2⟩:=px hS (net:=net) (rs:=rs) Bf (by omega)
   have hb:b=false:=by
    cases b with
    | false=>rfl
    | true=>exact absurd (q2.1 rfl) hv
   rw[q1,hb];rfl
  rw[ho,oB,if_pos (by simp)]
  exact⟨_,rfl,.route hv⟩
end
section
variable {rs:List (List Hop)}{net:Int}{D:Pl->Int}
/-! ### the delays that are computed: they satisfy their own equations -/
structure HF (c:Cf) (rs:List (List Hop)) (D:Pl->Int):Prop where
 b:∀ p∈PS rs,bw c rs D p<=32768
 d:∀ p∈PS rs,D p=(rI c rs D p).yj
 r:∀ p∈PS rs,jP c p.ya+slw c p.fQ<=D p/\D p<=33768
 z:∀ p,p∉PS rs->D p=0
theorem Wz{c:Cf}(hv:VA c net rs){l1 l2:List Pl}{p:Pl}(ho:qo rs (l1++p::l2)){D':Pl->Int}(h:∀ q∈l1,D q=D' q):mc c rs D p=mc c rs D' p:=by
 unfold mc
 refine List.map_congr_left fun v hvm=>?_
 obtain⟨BB,hu⟩:=List.mem_filter.1 hvm
 have CF:=sL.1 BB
 have hr:=wt (l:=rs) (i:=v) (by omega) (by omega)
 obtain⟨x,hx,e⟩:=tH.1 hu
 have hn:p.ya=x.ya:=by rw[<- e];rfl
 unfold om
 rw[hn,(hv.each _ hr).jn_eq (D:=D) (D':=D') (S:=fun q=>q∈l1\/q=p) (fun y hy hs g hg eg=>?_) x hx (.inr e)]
 have:=ho.clo hv hr hy hs hg eg
 exact⟨.inl this,h _ this⟩
theorem Y9{c:Cf}{net:Int}{rs:List (List Hop)}(hS:Small c)(hv:VA c net rs)(hV:fc c):∀(l2 l1:List Pl) (de:DM) (out:List PB) (t:DM×List PB),(l1++l2).Nodup->(∀ p∈l1++l2,p∈PS rs)->qo rs (l1++l2)->HI c l1 (dD de)->rC c rs l2 de out=some t->
  (∀ q,q∉l2->dD t.1 q=dD de q)/\HI c (l1++l2) (dD t.1)/\(∀ p∈l2,bw c rs (dD t.1) p<=32768/\dD t.1 p=(rI c rs (dD t.1) p).yj)/\t.2=out++l2.map (rI c rs (dD t.1))
 | [],l1,de,out,t,hn,hp,ho,hi,h=>by
  injection h with h;subst h
  simpa using hi
 | p::l2,l1,de,out,t,hn,hp,ho,hi,h=>by
  rw[rC] at h
  split at h
  ·rename_i hb
   have hpm:=hp p (by simp)
   have e1:(l1++[p])++l2=l1++p::l2:=by simp
   have AO:p∉l2:=by
    have:=(List.nodup_append.1 hn).2.1
    exact(List.nodup_cons.1 this).1
   have zB:∀ q∈l1,q≠p:=by
    intro q hq e
    exact(List.nodup_append.1 hn).2.2 q hq p (by simp) e
   have hl12:∀ q∈l1,q∉l2:=by
    intro q hq h2
    exact(List.nodup_append.1 hn).2.2 q hq q (List.mem_cons_of_mem _ h2) rfl
   obtain⟨k1,k2,k3,k4⟩:=Y9 hS hv hV l2 (l1++[p]) _ _ t (by rw[e1];exact hn) (by rw[e1];exact hp) (by rw[e1];exact ho) (hi.put hS hv hV ho hpm hb) h
   have hag:∀ q∈l1,dD de q=dD t.1 q:=by
    intro q hq
    rw[k1 q (hl12 q hq)]
    unfold dD;rw[jg,if_neg (zB q hq)]
   have hfw:=Wz hv ho hag
   have hpb:rI c rs (dD de) p=rI c rs (dD t.1) p:=by unfold rI;rw[hfw]
   have hbz:bw c rs (dD de) p=bw c rs (dD t.1) p:=by unfold bw;rw[hfw]
   refine⟨fun q hq=>?_,by rw[<- e1];exact k2,fun q hq=>?_,?_⟩
   ·rw[k1 q fun hm=>hq (List.mem_cons_of_mem _ hm)]
    unfold dD;rw[jg,if_neg (fun e=>hq (by rw[e];simp))]
   ·rcases List.mem_cons.1 hq with rfl | hq
    ·refine⟨hbz▸hb,?_⟩
     rw[k1 q AO,<- hpb]
     show xp (xM de q _) q 0=_
     rw[jg,if_pos rfl]
    ·exact k3 q hq
   ·rw[k4,hpb];simp
  ·cases h
theorem Qr{c:Cf}(hS:Small c)(hv:VA c net rs)(hV:fc c){l:List Pl}{t:DM×List PB}(hp:l.Perm (PS rs))(ho:qo rs l)(h:rC c rs l [] []=some t):HF c rs (dD t.1)/\t.2=l.map (rI c rs (dD t.1)):=by
 obtain⟨k1,k2,k3,k4⟩:=Y9 hS hv hV l [] [] [] t (by simpa using hp.nodup_iff.2 (tF rs)) (fun p hm=>hp.subset (by simpa using hm)) (by simpa using ho) ⟨by simp,fun q _=>rfl⟩ h
 simp only[List.nil_append] at *
 refine⟨⟨fun p hm=>(k3 p (hp.symm.subset hm)).1,fun p hm=>(k3 p (hp.symm.subset hm)).2,fun p hm=>k2.i p (hp.symm.subset hm),fun p hm=>k2.o p fun hq=>hm (hp.subset hq)⟩,k4⟩
theorem Qs{c:Cf}(hv:VA c net rs)(hD:∀ p∈PS rs,jP c p.ya+slw c p.fQ<=D p){r:List Hop}(hr:r∈rs):∀ x∈r,0<=jn c D r x.ya:=by
 have CF:=hv.each r hr
 refine CF.ind (P:=fun x=>0<=jn c D r x.ya) (fun x hx e=>?_) (fun g hg x hx e ih=>?_)
 ·rw[e,CF.jn_start];exact Int.le_refl _
 ·have h1:=hD (pk g) ((uO rs _).2 ⟨r,hr,g,hg,rfl⟩)
  rw[<- e,CF.jn_next D hg]
  have e1:(pk g).ya=g.ya:=rfl
  have e2:(pk g).fQ=g.fQ:=rfl
  rw[e1,e2] at h1
  omega
theorem HF.rng{c:Cf}(h:HF c rs D)(hS:Small c)(hv:VA c net rs){r:List Hop}(hr:r∈rs){x:Hop}(hx:x∈r):0<=D (pk x)/\D (pk x)<=33768:=by
 have hm:pk x∈PS rs:=(uO rs _).2 ⟨r,hr,x,hx,rfl⟩
 have h1:=h.r _ hm
 have h2:=Y7 hS hv hm
 omega
theorem HF.ok{c:Cf}(h:HF c rs D)(hS:Small c)(hv:VA c net rs)(p:Pl):FwOK c (mc c rs D p):=by
 refine Xx hS hv fun x hx=>?_
 obtain⟨y,hy,hr,_,_,e,ej,_⟩:=Wx hx
 have h1:=Qs hv (fun p hm=>(h.r p hm).1) hr y hy
 have h2:=Vq (c:=c) (D:=D) hS hv (M:=33768) (by omega) hr (fun z hz=>by have:=h.rng hS hv hr hz;omega) y.ya
 rw[ej];omega
/-! ### less comes, less is delayed -/
structure LH (c d:Cf) (rs rT:List (List Hop)):Prop where
 m:d.fM=c.fM
 s:d.fS=c.fS
 l:d.fK=c.fK
 vc:fc c
 vd:fc d
 len:rT.length=rs.length
 r:∀ v:Int,0<=v->v<rs.length->nth rT v=nth rs v\/nth rT v=[]
 mx:∀ v:Int,0<=v->v<rs.length->mx d v<=mx c v
 bg:∀ v:Int,0<=v->v<rs.length->cr d v=cr c v
theorem LH.lat{c d:Cf}{rT:List (List Hop)}(h:LH c d rs rT)(n:Int):jP d n=jP c n:=by unfold jP nM;rw[h.m,h.s]
theorem LH.slw{c d:Cf}{rs rT:List (List Hop)}(h:LH c d rs rT)(n:Int):slw d n=slw c n:=by unfold Go.Proofs.YthjnhebofpebpaaGreat.slw;rw[h.l]
theorem LH.uses{c d:Cf}{rs rT:List (List Hop)}(h:LH c d rs rT){v:Int}(v0:0<=v)(v1:v<rs.length){p:Pl}(hu:uses p (nth rT v)=true):nth rT v=nth rs v:=by
 rcases h.r v v0 v1 with e | e
 ·exact e
 ·rw[e] at hu;simp[Go.Proofs.YthjnhebofpebpaaGreat.uses] at hu
theorem LH.ps{c d:Cf}{rT:List (List Hop)}(h:LH c d rs rT){p:Pl}(hp:p∈PS rT):p∈PS rs:=by
 obtain⟨r,hr,x,hx,e⟩:=(uO rT p).1 hp
 obtain⟨v,v0,v1,rfl⟩:=mv hr
 rw[h.len] at v1
 rw[h.uses v0 v1 (p:=p) (tH.2 ⟨x,hx,e⟩)] at hx
 exact(uO rs p).2 ⟨_,wt v0 v1,x,hx,e⟩
structure LW (c d:Cf) (rs rT:List (List Hop)) (D D':Pl->Int) (p:Pl):Prop where
 j:∀ v:Int,0<=v->v<rs.length->uses p (nth rT v)=true->jn d D' (nth rT v) p.ya<=jn c D (nth rs v) p.ya
end
section
variable {rs:List (List Hop)}{D:Pl->Int}
/-! ### the ends -/
theorem Ya{b:PB}:∀ {l:List PB},(l.map qx).Nodup->b∈l->xp (dem l) (qx b) 0=b.yj
 | [],_,h=>by cases h
 | a::l,hn,h=>by
  show xp (xM (dem l) (qx a) a.yj) (qx b) 0=_
  rw[List.map_cons,List.nodup_cons] at hn
  rw[jg]
  by_cases e:qx b=qx a
  ·rw[if_pos e]
   rcases List.mem_cons.1 h with h | h
   ·rw[h]
   ·exact absurd (List.mem_map.2 ⟨b,h,e⟩) hn.1
  ·rw[if_neg e]
   rcases List.mem_cons.1 h with h | h
   ·exact absurd (by rw[h]) e
   ·exact Ya hn.2 h
structure ERH (s2 s1:ES) (n:Int):Prop where
 h:∀ k,qK s2.sum k=qK s1.sum k
 s:∀ k,0<=xp s2.sum k 0/\xp s2.sum k 0<=xp s1.sum k 0/\xp s1.sum k 0<=n*1073741824
 e:∀ x∈s2.ends,∃ y∈s1.ends,x.yJ=y.yJ/\x.ya=y.ya/\x.yj<=y.yj
theorem ERH.step{c d:Cf}(hm:nM d=nM c){r:List Hop}{v:Int}{Cl Cm:DM}{h:Hop}(hd:0<=xp Cl (pk h) 0/\xp Cl (pk h) 0<=xp Cm (pk h) 0/\xp Cm (pk h) 0<=1073741824){s2 s1:ES}{n:Int}(hn:0<=n/\n<=1000)(hi:ERH s2 s1 n):ERH (mZ d r Cl v s2 h) (mZ c r Cm v s1 h) (n+1):=by
 unfold mZ
 rw[hi.h h.yh]
 split
 ·exact⟨hi.h,fun k=>by have:=hi.s k;omega,hi.e⟩
 ·have hs:=hi.s h.ya
  have D5:0<=i64 (xp s2.sum h.ya 0+xp Cl (pk h) 0)/\i64 (xp s2.sum h.ya 0+xp Cl (pk h) 0)<=i64 (xp s1.sum h.ya 0+xp Cm (pk h) 0)/\i64 (xp s1.sum h.ya 0+xp Cm (pk h) 0)<=(n+1)*1073741824:=by
   rw[xD (by omega),xD (by omega)]
   omega
  simp only
  refine⟨fun k=>?_,fun k=>?_,?_⟩
  ·show qK (xM _ _ _) k=qK (xM _ _ _) k
   rw[py,py,hi.h k]
  ·show 0<=xp (xM _ _ _) k 0/\xp (xM _ _ _) k 0<=xp (xM _ _ _) k 0/\xp (xM _ _ _) k 0<=_
   rw[jg,jg]
   by_cases e:k=h.yh
   ·rw[if_pos e,if_pos e];exact D5
   ·rw[if_neg e,if_neg e];have:=hi.s k;omega
  ·rw[hm]
   split
   ·intro x hx
    have hx:x∈s2.ends++[_]:=hx
    rcases List.mem_append.1 hx with hx | hx
    ·obtain⟨y,hy,e⟩:=hi.e x hx
     exact⟨y,List.mem_append_left _ hy,e⟩
    ·rw[List.mem_singleton.1 hx]
     refine⟨_,List.mem_append_right _ (List.mem_singleton.2 rfl),rfl,rfl,?_⟩
     show xp (xM _ _ _) h.yh 0<=xp (xM _ _ _) h.yh 0
     rw[jg,jg,if_pos rfl,if_pos rfl]
     exact D5.2.1
   ·exact hi.e
theorem ERH.fold{c d:Cf}(hm:nM d=nM c){r:List Hop}{v:Int}{Cl Cm:DM}:∀(hs:List Hop) {s2 s1:ES} {n:Int},(∀ h∈hs,0<=xp Cl (pk h) 0/\xp Cl (pk h) 0<=xp Cm (pk h) 0/\xp Cm (pk h) 0<=1073741824)->0<=n->n+hs.length<=1000->ERH s2 s1 n->
  ERH (hs.foldl (mZ d r Cl v) s2) (hs.foldl (mZ c r Cm v) s1) (n+hs.length)
 | [],s2,s1,n,_,_,_,h=>by simpa using h
 | h::hs,s2,s1,n,hd,h0,h1,hi=>by
  rw[List.foldl_cons,List.foldl_cons]
  rw[List.length_cons] at h1
  have:=ERH.fold (c:=c) (d:=d) hm (r:=r) (v:=v) hs (fun x hx=>hd x (List.mem_cons_of_mem _ hx)) (n:=n+1) (by omega) (by omega) (hi.step hm (r:=r) (v:=v) (hd h (List.mem_cons_self ..)) (by omega))
  rw[List.length_cons,show n+((hs.length+1:Nat):Int)=n+1+(hs.length:Int) by omega]
  exact this
def oq(c:Cf)(rs:List (List Hop))(D:Pl->Int)(ps:List PB):Prop:=ps.map qx=PS rs/\∀ b∈ps,b=rI c rs D (qx b)
theorem Q5{c:Cf}(p:Pl):qx (rI c rs D p)=p:=rfl
theorem oq.of{c:Cf}{l:List Pl}{t:DM×List PB}(h1:(w8 wj t.2).map qx=PS rs)(h2:t.2=l.map (rI c rs (dD t.1))):oq c rs (dD t.1) (w8 wj t.2):=by
 refine⟨h1,fun b hb=>?_⟩
 have hb:=(jF _ _).subset hb
 rw[h2] at hb
 obtain⟨p,hp,rfl⟩:=List.mem_map.1 hb
 rw[Q5]
theorem oq.nd{c:Cf}{ps:List PB}(h:oq c rs D ps):(ps.map qx).Nodup:=by rw[h.1];exact tF rs
theorem oq.dem{c:Cf}{rs:List (List Hop)}{D:Pl->Int}{ps:List PB}(h:oq c rs D ps)(hF:HF c rs D){p:Pl}(hp:p∈PS rs):xp (dem ps) p 0=D p:=by
 rw[<- h.1] at hp
 obtain⟨b,hb,rfl⟩:=List.mem_map.1 hp
 rw[Ya h.nd hb,hF.d (qx b) (by rw[<- h.1];exact hp),<- h.2 b hb]
theorem oq.get{c:Cf}{ps:List PB}(h:oq c rs D ps){p:Pl}(hp:p∈PS rs):∃ b∈ps,qx b=p/\b=rI c rs D p:=by
 rw[<- h.1] at hp
 obtain⟨b,hb,rfl⟩:=List.mem_map.1 hp
 exact⟨b,hb,rfl,h.2 b hb⟩
theorem oq.len{c:Cf}{ps:List PB}(h:oq c rs D ps)(hl:rs.length<=20)(he:∀ r∈rs,r.length<=40):ps.length<=1000000:=by
 have h1:=iX he
 have h2:ps.length=(PS rs).length:=by rw[<- h.1,List.length_map]
 have h3:rs.length*40<=20*40:=Nat.mul_le_mul_right _ hl
 omega
/-! ### less is sent -/
theorem LH.jn{c d:Cf}{net:Int}{rT:List (List Hop)}(hL:LH c d rs rT)(hv:VA c net rs)(zz:VA d net rT){D':Pl->Int}{S:Pl->Prop}{p:Pl}(hp:S p)(hS:∀ r∈rT,∀ x∈r,S (pk x)->∀ g∈r,g.yh=x.ya->S (pk g)/\D' (pk g)<=D (pk g)):LW c d rs rT D D' p:=by
 refine⟨fun v v0 v1 hu=>?_⟩
 have er:=hL.uses v0 v1 hu
 have Bk:=wt (l:=rT) (i:=v) v0 (by rw[hL.len];exact v1)
 have h1:=zz.each _ Bk
 have h2:=hv.each _ (wt v0 v1)
 rw[<- er] at h2 ⊢
 obtain⟨x,hx,e⟩:=tH.1 hu
 have:=h1.jn_le h2 (fun g _=>⟨hL.lat _,hL.slw _⟩) (D:=D') (D':=D) (S:=S) (hS _ Bk) x hx (by rw[e];exact hp)
 have en:p.ya=x.ya:=by rw[<- e];rfl
 rw[en];exact this
end
section
/-! ### holistic.Jitters -/
theorem nh{ps:List PB}{k:(Nat×DM)->Option (Nat×DM)}(hl:ps.length<=1000000):∀(n:Nat) (i:Int) (m:DM),-1<=i->i<ps.length->i+1<n->
  xZ (Nat×DM) ps (fun(x:Int×yl) (s:Nat×DM)=>chk (s.1=0) (g6 x s.2)) k n i (0,m)=k (0,(ps.take (i+1).toNat).foldr (fun b m=>xM m (qx b) b.yj) m)
 | 0,i,m,h0,h1,h2=>by omega
 | n+1,i,m,h0,h1,h2=>by
  rw[xZ]
  by_cases h:i>=0
  ·rw[if_pos (decide_eq_true h),xA ⟨h,h1⟩]
   have e1:ps.take (i+1).toNat=ps.take i.toNat++[nth ps i]:=by
    rw[show(i+1).toNat=i.toNat+1 by omega,List.take_succ_eq_append_getElem (by omega),uY ⟨h,h1⟩]
   have ih:=nh (k:=k) hl n (i-1) (xM m (qx (nth ps i)) (nth ps i).yj) (by omega) (by omega) (by omega)
   rw[show i-1+1=i by omega] at ih
   rw[e1,List.foldr_append]
   simp only[List.foldr_cons,List.foldr_nil]
   rw[<- ih,xD (x:=i-1) (by omega)]
   rfl
  ·rw[if_neg (by simpa using h),show(i+1).toNat=0 by omega]
   simp
theorem Vi{ps:List PB}(hl:ps.length<=1000000):ge ps=some (dem ps):=by
 unfold ge vk va
 have hF:=w5
 generalize xI=N at hF ⊢
 refine vj (P:=fun o=>o=some (dem ps)) fun k hk=>?_
 rw[oB]
 refine vj (P:=fun o=>(o.bind fun(y:Nat×DM)=>k y.2)=some (dem ps)) fun k2 rv=>?_
 rw[xD (by omega),nh hl N _ [] (by omega) (by omega) (by omega),rv,oB,hk]
 rw[show((ps.length:Int)-1+1).toNat=ps.length by omega,List.take_of_length_le (Nat.le_refl _)]
 rfl
def JT(c:Cf)(rs:List (List Hop))(D:Pl->Int):List (List Int):=rs.map fun r=>r.map fun h=>jn c D r h.ya
theorem cw{c:Cf}{net:Int}{rs:List (List Hop)}{de:DM}{k:List (List Int)->Option (List (List Int))}(hS:Small c)(hv:VA c net rs)(hD:∀ r∈rs,∀ h∈r,-1099511627776<=xp de (pk h) 0/\xp de (pk h) 0<=1099511627776):∀(n:Nat) (v:Int),0<=v->v<=rs.length->rs.length<n+v->
  qb rs c de k n (JT c (rs.take v.toNat) (dD de)) v=k (JT c rs (dD de))
 | 0,v,h0,h1,h2=>by omega
 | n+1,v,h0,h1,h2=>by
  have hm:=hv.most
  rw[qb]
  by_cases h:v<rs.length
  ·rw[if_pos (decide_eq_true h),xA ⟨h0,h⟩,dT hS (hv.each _ (wt h0 h)) (hD _ (wt h0 h)),oB]
   have e:JT c (rs.take v.toNat) (dD de)++[(nth rs v).map fun h=>jn c (fun q=>xp de q 0) (nth rs v) h.ya]=JT c (rs.take (v+1).toNat) (dD de):=by
    rw[show(v+1).toNat=v.toNat+1 by omega,List.take_succ_eq_append_getElem (by omega),<- uY ⟨h0,h⟩]
    unfold JT;rw[List.map_append];rfl
   have jo:(JT c (rs.take (v+1).toNat) (dD de)).length<=16:=by
    unfold JT;rw[List.length_map,List.length_take];omega
   rw[e,xA (by omega),xD (x:=v+1) (by omega)]
   exact cw hS hv hD n (v+1) (by omega) (by omega) (by omega)
  ·rw[if_neg (by simpa using h),List.take_of_length_le (by omega)]
theorem Xz{c:Cf}{rs:List (List Hop)}{ps:List PB}(hf:FewP c rs)(hl:ps.length<=1000000)(hD:∀ r∈rs,∀ h∈r,-1099511627776<=xp (dem ps) (pk h) 0/\xp (dem ps) (pk h) 0<=1099511627776):
  (VA c 0 rs\/VA c 1 rs)/\qZ c rs ps=some (JT c rs (dD (dem ps)))\/(¬VA c 0 rs/\¬VA c 1 rs)/\qZ c rs ps=some []:=by
 have hS:=hf.small
 have Bf:∀ r∈rs,r.length<1000000000:=fun r hr=>by have:=hf.e r hr;omega
 have hrs:=hf.r
 obtain⟨b0,p1,p2⟩:=px hS (net:=0) (rs:=rs) Bf (by omega)
 obtain⟨b1,q1,q2⟩:=px hS (net:=1) (rs:=rs) Bf (by omega)
 have fin:∀ net,VA c net rs->((ge ps).bind fun x=>jG (fun(out:List (List Int))=>some out) fun k=>qb rs c x k xI ([]:List (List Int)) 0)=some (JT c rs (dD (dem ps))):=by
  intro net hv
  rw[Vi hl,oB]
  have hF:=w5
  generalize xI=N at hF ⊢
  refine vj (P:=fun o=>o=some (JT c rs (dD (dem ps)))) fun k hk=>?_
  have:=cw (k:=k) hS hv hD N 0 (by omega) (by omega) (by omega)
  simp only[Int.toNat_zero,List.take_zero] at this
  rw[show([]:List (List Int))=JT c [] (dD (dem ps)) from rfl,this,hk]
 unfold qZ
 rw[p1,q1,oB]
 cases b0 with
 | true=>
  have hv:=p2.1 rfl
  simp only[Bool.not_true,Bool.false_eq_true,if_false,oB]
  exact .inl ⟨.inl hv,fin 0 hv⟩
 | false=>
  have hn:¬VA c 0 rs:=fun h=>by have:=p2.2 h;cases this
  cases b1 with
  | true=>
   have hv:=q2.1 rfl
   simp only[Bool.not_false,if_true,oB,Bool.not_true,Bool.false_eq_true,if_false]
   exact .inl ⟨.inr hv,fin 1 hv⟩
  | false=>
   have hn1:¬VA c 1 rs:=fun h=>by have:=q2.2 h;cases this
   simp only[Bool.not_false,if_true,oB]
   exact .inr ⟨⟨hn,hn1⟩,trivial⟩
end
end Go.Proofs.YthjnhebofpebpaaGreat

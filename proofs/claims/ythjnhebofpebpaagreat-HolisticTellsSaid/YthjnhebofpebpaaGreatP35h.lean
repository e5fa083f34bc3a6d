/- A part of this claim's proof: models of functions, walks, plain laws. No conditions. -/
import Derived.Test.YthjnhebofpebpaaGreatP35a
set_option linter.all false
namespace Go.Proofs.YthjnhebofpebpaaGreat
open Go Go.RowKit Sep
section
/-! ### virtual links -/
def iF:List Int:=[100,200,400,800,1600,3200,6400,12800]
theorem GK(b:Int):rh b=some (decide (b∈iF)):=by
 unfold rh
 have hF:xC=(xC-9)+9:=by rw[xN]
 rw[hF]
 generalize xC-9=N
 refine qL (P:=fun o=>o=_) fun k hk=>?_
 have tu:∀(n:Nat) (x:Int),0<=x->x<=12800->jM b k (n+1) x=if x=b then some true else jM b k n (2*x):=fun n x h0 h1=>by
  rw[jM,if_pos (decide_eq_true h1),xD (x:=x*2) (by omega),Int.mul_comm]
  by_cases h:x=b
  ·rw[if_pos (decide_eq_true h),if_pos h]
  ·rw[if_neg (by simpa using h),if_neg h]
 have hend:jM b k (N+1) (2*12800)=some false:=by
  rw[jM,if_neg (by decide),hk]
 rw[tu _ 100 (by omega) (by omega),tu _ (2*100) (by omega) (by omega),tu _ (2*(2*100)) (by omega) (by omega),tu _ (2*(2*(2*100))) (by omega) (by omega),tu _ (2*(2*(2*(2*100)))) (by omega) (by omega),tu _ (2*(2*(2*(2*(2*100))))) (by omega) (by omega),tu _ (2*(2*(2*(2*(2*(2*100)))))) (by omega) (by omega),tu _ (2*(2*(2*(2*(2*(2*(2*100))))))) (by omega) (by omega)]
 have:(2*(2*(2*(2*(2*(2*(2*(2*100)))))) ):Int)=2*12800:=by decide
 rw[this,hend]
 unfold iF
 repeat' split
 all_goals
  simp only[Option.some.injEq]
  first
  | (symm;rw[decide_eq_true_iff];simp only[List.mem_cons,List.not_mem_nil,or_false];omega)
  | (symm;rw[decide_eq_false_iff_not];simp only[List.mem_cons,List.not_mem_nil,or_false];omega)
def pl(v:ym):Prop:=v.yo∈iF/\1<=v.yn/\v.yn<=72
instance (v:ym):Decidable (pl v):=inferInstanceAs (Decidable (_/\_))
theorem GL(v:ym):jp v=some (!decide (pl v)):=by
 unfold jp pl
 rw[GK,oB]
 congr 1
 by_cases h1:v.yo∈iF <;> by_cases h2:1<=v.yn <;> by_cases h3:v.yn<=72 <;> simp[h1,h2,h3] <;> omega
theorem dU{l:List ym}{k:Option Int}(hl:l.length<1000000000):∀(n:Nat) (v:Int),0<=v->v<=l.length->l.length<n+v->
  ((∃ i:Int,v<=i/\i<l.length/\¬pl (nth l i)/\wE l (fun y0=>jp y0) k n v=some i)\/((∀ i:Int,v<=i->i<l.length->pl (nth l i))/\wE l (fun y0=>jp y0) k n v=k))
 | 0,v,h0,h1,h2=>by omega
 | n+1,v,h0,h1,h2=>by
  rw[wE]
  by_cases h:v<l.length
  ·rw[if_pos (decide_eq_true h),xr ⟨h0,h⟩]
   have e:(⟨(nth l v).yq,(⟨((nth l v).yi).yp,((nth l v).yi).yt,((nth l v).yi).yu⟩:yv),(nth l v).yo,(nth l v).yn,(nth l v).yy⟩:ym)=nth l v:=rfl
   rw[e,GL,oB]
   by_cases hv:pl (nth l v)
   ·rw[if_neg (by simpa using hv),xD (x:=v+1) (by omega)]
    rcases dU hl n (v+1) (by omega) (by omega) (by omega) (k:=k) with⟨i,i1,i2,i3,i4⟩ | ⟨i1,i2⟩
    ·exact .inl ⟨i,by omega,i2,i3,i4⟩
    ·refine .inr ⟨fun i j1 j2=>?_,i2⟩
     by_cases e:i=v
     ·rw[e];exact hv
     ·exact i1 i (by omega) j2
   ·rw[if_pos (by simpa using hv)]
    exact .inl ⟨v,Int.le_refl _,h,hv,rfl⟩
  ·rw[if_neg (by simpa using h)]
   exact .inr ⟨fun i h1 h2=>by omega,rfl⟩
def ii(c:Cf):Prop:=∀ v∈c.yd,pl v
theorem GM{c:Cf}(hl:c.yd.length<1000000000):∃ b,vV c.yd (fun y0=>jp y0)=some b/\(b=false↔ii c):=by
 unfold vV jG
 have hF:=xN
 generalize xC=N at hF ⊢
 refine qL (P:=fun o=>∃ b,(o.bind fun x=>some (decide (x>=0)))=some b/\(b=false↔ii c)) fun k hk=>?_
 rcases dU (k:=k) hl N 0 (by omega) (by omega) (by omega) with⟨i,i1,i2,i3,i4⟩ | ⟨i1,i2⟩
 ·refine⟨true,by rw[i4];simp[i1],?_⟩
  simp only[Bool.true_eq_false,false_iff]
  exact fun h=>i3 (h _ (w4 i1 i2))
 ·refine⟨false,by rw[i2,hk];rfl,?_⟩
  simp only[true_iff]
  intro v hv
  obtain⟨i,j0,j1,rfl⟩:=uX hv
  exact i1 i j0 j1
theorem ii.vls{c:Cf}(h:ii c):fr c:=fun v hv=>by
 obtain⟨h1,h2,h3⟩:=h v hv
 refine⟨?_,h2,h3⟩
 unfold iF at h1
 simp only[List.mem_cons,List.not_mem_nil,or_false] at h1
 omega
/-! ### the whole computation -/
theorem VA.pi{c:Cf}{net:Int}{rs:List (List Hop)}(hS:Small c)(hv:VA c net rs){p:Pl}(hp:p∈PS rs):PI c p:=by
 obtain⟨r,hr,h,hh,rfl⟩:=(rm rs p).1 hp
 obtain⟨i,i0,i1,rfl⟩:=uX hh
 obtain⟨_,_,_,j0,j1,_,_,_,_,jf1,jf2,jj⟩:=(hv.each r hr).cond i i0 i1
 have hA:=(Xe hS (nth r i).fQ).2
 have hB:=(Xf hS (nth r i).fQ).2
 refine⟨j0,j1,?_,?_⟩
 ·have a1:=jf1.1;have a2:=jf2.1
  show 0<=(nth r i).ya
  rcases jj with⟨e,_⟩ | ⟨_,e⟩ <;> omega
 ·show(nth r i).ya<nN c
  rcases jj with⟨e,_⟩ | ⟨_,e⟩ <;> omega
def w0:WS:=⟨[],0,[],[]⟩
theorem Wn{c:Cf}{rs:List (List Hop)}:∀(l:List Pl) (s t:WS),oC c rs l s = .inl t->t.out.map we=s.out.map we++l/\t.out.length=s.out.length+l.length/\(s.e=0->t.e=0)
 | [],s,t,h=>by injection h with h;subst h;simp
 | p::l,s,t,h=>by
  rw[oC] at h
  split at h
  ·cases h
  ·rename_i he
   obtain⟨h1,h2,h3⟩:=Wn l _ t h
   have e:(Wj c rs s p).out=s.out++[(PO c rs s.bu s.de s.e p).1]:=rfl
   rw[e] at h1 h2
   refine⟨?_,?_,fun _=>h3 (by simpa using he)⟩
   ·rw[h1,List.map_append,List.append_assoc];rfl
   ·rw[h2];simp;omega
inductive CP (c:Cf) (net:Int) (rs:List (List Hop)):yw×Int->Prop
 | route:¬VA c net rs->CP c net rs (⟨[],[]⟩,310)
 | vl:VA c net rs->¬ii c->CP c net rs (⟨[],[]⟩,350)
 | cycle (s:List Pl):VA c net rs->ii c->tA rs s->CP c net rs (⟨[],[]⟩,351)
 | err (l:List Pl) (e:Int):VA c net rs->ii c->l.Perm (PS rs)->wM rs l->oC c rs l w0 = .inr e->e≠0->CP c net rs (⟨[],[]⟩,e)
 | ok (l:List Pl) (t:WS):VA c net rs->ii c->l.Perm (PS rs)->wM rs l->oC c rs l w0 = .inl t->CP c net rs (⟨w6 qc t.out,EN c rs (w6 qc t.out)⟩,0)
theorem Wo{c:Cf}{rs:List (List Hop)}:∀(l:List Pl) (s:WS) (e:Int),oC c rs l s = .inr e->e≠0
 | [],s,e,h=>by cases h
 | p::l,s,e,h=>by
  rw[oC] at h
  split at h
  ·rename_i he
   injection h with h;subst h;exact he
  ·exact Wo l _ e h
theorem QG{c:Cf}{net:Int}{rs:List (List Hop)}(hf:FewP c rs):∃ x,uu c net rs=some x/\CP c net rs x:=by
 have hS:=hf.small
 have AX:∀ r∈rs,r.length<1000000000:=fun r hr=>by have:=hf.e r hr;omega
 have BS:=hf.r
 obtain⟨b,q1,q2⟩:=lr hS (net:=net) (rs:=rs) AX (by omega)
 unfold uu
 rw[q1,oB]
 cases b with
 | false=>
  rw[if_pos (by rfl)]
  exact⟨_,rfl,.route fun h=>by have:=q2.2 h;cases this⟩
 | true=>
 have hv:=q2.1 rfl
 rw[if_neg (by simp)]
 obtain⟨b,r1,r2⟩:=GM (c:=c) (by have:=hf.v;omega)
 rw[r1,oB]
 cases b with
 | true=>
  rw[if_pos rfl]
  exact⟨_,rfl,.vl hv fun h=>by have:=r2.2 h;cases this⟩
 | false=>
 have zg:=r2.1 rfl
 rw[if_neg (by simp)]
 have C6:=oh hf.e
 have h3:rs.length*40<=20*40:=Nat.mul_le_mul_right _ BS
 rcases W0 (rs:=rs) (fun r h=>by have:=hf.e r h;omega) (by omega) with⟨l,e1,e2,e3⟩ | ⟨s,e1,e2⟩
 ·rw[e3,oB,if_neg (by simp)]
  have iS:=e1.length_eq
  refine w8 (P:=fun o=>∃ x,o=some x/\CP c net rs x) fun k hk=>?_
  have hL:=aS (l:=(l,0)) (k:=k) (rs:=rs) zg.vls hv.len AX hv.most hf.l hS (fun p hp=>hv.pi hS (e1.subset hp)) (by show l.length<=_;omega) xC 0 w0 (by omega) (by simp) (by rw[xN];show((l.length:Nat):Int)<_;omega) rfl
  simp only[Int.toNat_zero,List.drop_zero] at hL
  rw[show(0:Int)=w0.e from rfl,show([]:List PB)=w0.out from rfl,show([]:BM)=w0.bu from rfl,show([]:DM)=w0.de from rfl]
  rw[show j4 (l,w0.e) c rs k xC w0.e w0.e w0.out w0.bu w0.de=j4 (l,0) c rs k xC 0 w0.e w0.out w0.bu w0.de from rfl,hL]
  cases iB:oC c rs l w0 with
  | inr e=>exact⟨_,rfl,.err l e hv zg e1 e2 iB (Wo _ _ _ iB)⟩
  | inl t=>
   obtain⟨o1,o2,o3⟩:=Wn l w0 t iB
   have Cq:t.out.length=l.length:=by rw[o2];simp[w0]
   have zI:t.out.map we=l:=by rw[o1];simp[w0]
   simp only
   rw[hk,(Jt (by rw[zI];exact e1.nodup_iff.2 (mo rs)) (by omega)).1,oB]
   rw[VT (net:=net) hS hv.each (by omega) (by rw[mj];omega),oB]
   exact⟨_,rfl,.ok l t hv zg e1 e2 iB⟩
 ·rw[e2,oB,if_pos (by simp)]
  exact⟨_,rfl,.cycle s hv zg e1⟩
end
section
variable {r:List Hop}{net n v:Int}{D:Pl->Int}
/-! ### jitters -/
def j7(c:Cf)(n:Int):Int:=if n-nM c>=0 then(nth c.fS (n-nM c)).yf else 0
def wj(c:Cf)(k:Int):Int:=(nth c.fK k).yj
theorem aT{c:Cf}(hS:Small c)(h0:0<=n)(h1:n<nN c):gD c n=some (j7 c n):=by
 have:=hS.m;have:=hS.s
 unfold gD j7 nM
 unfold nN at h1
 rw[xD (by omega)]
 by_cases h:n-(c.fM.length:Int)>=0
 ·rw[if_pos (by simpa using h),if_pos h,xr ⟨by omega,by omega⟩]
 ·rw[if_neg (by simpa using h),if_neg h]
structure HV (c:Cf) (h:Hop):Prop where
 l0:0<=h.fQ
 l1:h.fQ<c.fK.length
 n0:0<=h.ya
 n1:h.ya<nN c
 x0:0<=h.fX
 x1:h.fX<nN c
 s0:1<=wj c h.fQ
 s1:wj c h.fQ<=16
 d0:0<=j7 c h.ya
 d1:j7 c h.ya<=1000
theorem sO.lat{c:Cf}(h:sO c net n):0<=n/\0<=j7 c n/\j7 c n<=1000:=by
 obtain⟨h0,h⟩:=h
 refine⟨h0,?_⟩
 unfold j7
 rcases h with h | ⟨_,h1,h2,_⟩
 ·rw[if_neg (by omega)];omega
 ·split
  ·exact⟨h1,h2⟩
  ·omega
theorem VR.hop{c:Cf}(hS:Small c)(h:VR c net r){x:Hop}(hx:x∈r):HV c x:=by
 obtain⟨i,i0,i1,rfl⟩:=uX hx
 obtain⟨_,_,_,l0,l1,_,s0,s1,_,fa,fb,ho⟩:=h.cond i i0 i1
 obtain⟨_,_,a2⟩:=Xe hS (nth r i).fQ
 obtain⟨_,_,b2⟩:=Xf hS (nth r i).fQ
 have ha:=fa.lat;have hb:=fb.lat
 rcases ho with⟨e1,e2⟩ | ⟨e1,e2⟩
 ·rw[e1] at ha a2;rw[e2] at hb b2
  exact⟨l0,l1,ha.1,a2,hb.1,b2,s0,s1,ha.2.1,ha.2.2⟩
 ·rw[e1] at ha a2;rw[e2] at hb b2
  exact⟨l0,l1,hb.1,b2,ha.1,a2,s0,s1,hb.2.1,hb.2.2⟩
def tM(c:Cf)(D:Pl->Int)(mp:List (Int×Int))(h:Hop):List (Int×Int):=xT mp h.fX (xx mp h.ya 0+D (pk h)-j7 c h.ya-wj c h.fQ)
def jn(c:Cf)(D:Pl->Int)(r:List Hop)(n:Int):Int:=xx (r.foldl (tM c D) []) n 0
theorem bD{c:Cf}{D:Pl->Int}{n:Int}:∀(l:List Hop) (mp:List (Int×Int)),(∀ g∈l,g.fX≠n)->xx (l.foldl (tM c D) mp) n 0=xx mp n 0
 | [],mp,_=>rfl
 | g::l,mp,h=>by
  rw[List.foldl_cons,bD l _ fun x hx=>h x (List.mem_cons_of_mem _ hx)]
  unfold tM;rw[qP,if_neg fun e=>h g (by simp) e.symm]
theorem VR.rk{c:Cf}(h:VR c net r)(v0:0<=v)(v1:v<r.length){q:Int}(q0:v<=q)(q1:q<r.length):(nth r q).fX≠(nth r v).ya:=by
 intro e
 obtain⟨h1,_⟩:=h.cond v v0 v1
 obtain⟨_,h2,_⟩:=h.cond q (by omega) q1
 rcases h1 with h1 | ⟨k,k0,k1,h1⟩
 ·exact h2 (.inl (e.trans h1))
 ·exact h2 (.inr ⟨k,k0,by omega,h1.trans e.symm⟩)
theorem lB{g:Hop}(v0:0<=v)(hg:g∈r.drop v.toNat):∃ q:Int,v<=q/\q<r.length/\nth r q=g:=by
 obtain⟨i,hi,rfl⟩:=List.getElem_of_mem hg
 rw[List.length_drop] at hi
 refine⟨v.toNat+i,by omega,by omega,?_⟩
 rw[jT ⟨by omega,by omega⟩,List.getElem_drop]
 simp only[show((v.toNat:Int)+i).toNat=v.toNat+i by omega]
theorem Wp{c:Cf}(v:Nat):jn c D r n=xx ((r.drop v).foldl (tM c D) ((r.take v).foldl (tM c D) [])) n 0:=by
 unfold jn;rw[<- List.foldl_append,List.take_append_drop]
theorem VR.jn_take{c:Cf}(h:VR c net r)(D:Pl->Int)(v0:0<=v)(v1:v<r.length):xx ((r.take v.toNat).foldl (tM c D) []) (nth r v).ya 0=jn c D r (nth r v).ya:=by
 rw[Wp v.toNat]
 symm
 refine bD _ _ fun g hg=>?_
 obtain⟨q,q0,q1,rfl⟩:=lB v0 hg
 exact h.rk v0 v1 q0 q1
theorem VR.jn_next{c:Cf}(h:VR c net r)(D:Pl->Int){g:Hop}(hg:g∈r):jn c D r g.fX=jn c D r g.ya+D (pk g)-j7 c g.ya-wj c g.fQ:=by
 obtain⟨v,v0,v1,rfl⟩:=uX hg
 rw[<- h.jn_take D v0 v1]
 rw[Wp v.toNat,va v0 v1,List.foldl_cons,bD]
 ·unfold tM;rw[qP,if_pos rfl]
 ·intro x hx e
  obtain⟨q,q0,q1,rfl⟩:=lB (v:=v+1) (by omega) (by rw[show(v+1).toNat=v.toNat+1 by omega];exact hx)
  obtain⟨_,h2,_⟩:=h.cond q (by omega) q1
  exact h2 (.inr ⟨v,v0,by omega,e.symm⟩)
theorem Gt{c:Cf}(h:∀ g∈r,g.fX≠n):jn c D r n=0:=by
 unfold jn;rw[bD _ _ h];rfl
theorem VR.start{c:Cf}(h:VR c net r):∀ g∈r,g.fX≠(nth r 0).ya:=by
 intro g hg e
 obtain⟨v,v0,v1,rfl⟩:=uX hg
 exact(h.cond v v0 v1).2.1 (.inl e)
theorem VR.jn_start{c:Cf}(h:VR c net r)(D:Pl->Int):jn c D r (nth r 0).ya=0:=Gt h.start
theorem VR.ind{c:Cf}(h:VR c net r){P:Hop->Prop}(hb:∀ x∈r,x.ya=(nth r 0).ya->P x)(hs:∀ g∈r,∀ x∈r,g.fX=x.ya->P g->P x):∀ x∈r,P x:=by
 have key:∀ n:Nat,∀ v:Int,0<=v->v<r.length->v.toNat<n->P (nth r v):=by
  intro n
  induction n with
  | zero=>intro v _ _ h;omega
  | succ n ih=>
   intro v v0 v1 hv
   rcases(h.cond v v0 v1).1 with e | ⟨q,q0,q1,e⟩
   ·exact hb _ (w4 v0 v1) e
   ·exact hs _ (w4 q0 (by omega)) _ (w4 v0 v1) e (ih q q0 (by omega) (by omega))
 intro x hx
 obtain⟨v,v0,v1,rfl⟩:=uX hx
 exact key (v.toNat+1) v v0 v1 (by omega)
theorem YO{c:Cf}{D:Pl->Int}(hS:Small c){M:Int}(hM:0<=M):∀(l:List Hop) (mp:List (Int×Int)) (B:Int),(∀ h∈l,HV c h /\ -M<=D (pk h)/\D (pk h)<=M)->(∀ n,-B<=xx mp n 0/\xx mp n 0<=B)->∀ n,-(B+l.length*(M+1016))<=xx (l.foldl (tM c D) mp) n 0/\xx (l.foldl (tM c D) mp) n 0<=B+l.length*(M+1016)
 | [],mp,B,_,h,n=>by have:=h n;simpa using this
 | g::l,mp,B,hh,h,n=>by
  have hg:=hh g (by simp)
  have:=YO hS hM l (tM c D mp g) (B+(M+1016)) (fun x hx=>hh x (List.mem_cons_of_mem _ hx)) (fun n=>by
   unfold tM;rw[qP]
   have h1:=h n;have h2:=h g.ya
   have a:=hg.1.s0;have b:=hg.1.s1;have d:=hg.1.d0;have e:=hg.1.d1
   split <;> omega) n
  rw[List.foldl_cons,List.length_cons]
  have e:((l.length+1:Nat):Int)*(M+1016)=l.length*(M+1016)+(M+1016):=by push_cast;rw[Int.add_mul];omega
  omega
theorem nO{c:Cf}(hS:Small c)(hv:VR c net r){M:Int}(hM:0<=M)(hD:∀ h∈r,-M<=D (pk h)/\D (pk h)<=M)(v:Nat)(n:Int) : -(32*(M+1016))<=xx ((r.take v).foldl (tM c D) []) n 0/\xx ((r.take v).foldl (tM c D) []) n 0<=32*(M+1016):=by
 have h:=YO (c:=c) (D:=D) hS hM (r.take v) [] 0 (fun h hh=>⟨hv.hop hS (List.mem_of_mem_take hh),hD h (List.mem_of_mem_take hh)⟩) (fun n=>by simp[xx]) n
 have hl:(r.take v).length<=32:=by have:=hv.len;rw[List.length_take];omega
 have:((r.take v).length:Int)*(M+1016)<=32*(M+1016):=Int.mul_le_mul_of_nonneg_right (by omega) (by omega)
 omega
theorem i3{a b d s M:Int}(h1 : -(32*(M+1016))<=a/\a<=32*(M+1016))(h2 : -M<=b/\b<=M)(h3:0<=d/\d<=1000)(h4:1<=s/\s<=16)(h5:M<=1099511627776):i64 (i64 (i64 (a+b)-d)-s)=a+b-d-s:=by
 rw[xD (x:=a+b) (by omega),xD (x:=a+b-d) (by omega),xD (by omega)]
theorem dV{c:Cf}{net:Int}{r:List Hop}{de:DM}{k:List Int->Option (List Int)}(hS:Small c)(hv:VR c net r){M:Int}(hM:0<=M)(hM1:M<=1099511627776)(hD:∀ h∈r,-M<=xx de (pk h) 0/\xx de (pk h) 0<=M):∀(n:Nat) (v:Int),0<=v->v<=r.length->r.length<n+v->
  ju r c de k n ((r.take v.toNat).map fun h=>jn c (fun q=>xx de q 0) r h.ya) v ((r.take v.toNat).foldl (tM c fun q=>xx de q 0) [])=k (r.map fun h=>jn c (fun q=>xx de q 0) r h.ya)
 | 0,v,h0,h1,h2=>by omega
 | n+1,v,h0,h1,h2=>by
  have hr:=hv.len
  rw[ju]
  by_cases h:v<r.length
  ·have hx:=hv.hop hS (w4 h0 h)
   have hb:=nO (D:=fun q=>xx de q 0) hS hv hM hD v.toNat (nth r v).ya
   have hd:=hD _ (w4 h0 h)
   have s0:=hx.s0;have s1:=hx.s1;have d0:=hx.d0;have d1:=hx.d1
   rw[if_pos (decide_eq_true h),xr ⟨h0,h⟩,xr,aT hS hx.n0 hx.n1]
   ·simp only[oB]
    rw[xr ⟨hx.l0,hx.l1⟩,xD (x:=v+1) (by omega)]
    have e1:r.take (v+1).toNat=r.take v.toNat++[nth r v]:=by
     rw[show(v+1).toNat=v.toNat+1 by omega,List.take_succ_eq_append_getElem (by omega),jT ⟨h0,h⟩]
    have:=dV (k:=k) (de:=de) hS hv hM hM1 hD n (v+1) (by omega) (by omega) (by omega)
    rw[e1,List.map_append,List.foldl_append] at this
    rw[<- this]
    congr 1
    ·rw[hv.jn_take _ h0 h];rfl
    ·show xT _ _ _=xT _ _ _
     congr 1
     have e:(⟨(nth r v).ya,(nth r v).fQ⟩:z7)=pk (nth r v):=rfl
     unfold wj at s0 s1 ⊢
     rw[e]
     exact i3 hb hd ⟨d0,d1⟩ ⟨s0,s1⟩ hM1
   ·rw[List.length_append,List.length_map,List.length_take]
    simp only[List.length_cons,List.length_nil]
    omega
  ·rw[if_neg (by simpa using h),List.take_of_length_le (by omega)]
theorem aU{c:Cf}{de:DM}(hS:Small c)(hv:VR c net r)(hD:∀ h∈r,-1099511627776<=xx de (pk h) 0/\xx de (pk h) 0<=1099511627776):
  gE c r de=some (r.map fun h=>jn c (fun q=>xx de q 0) r h.ya):=by
 unfold gE
 have hF:=xN
 generalize xC=N at hF ⊢
 refine w8 (P:=fun o=>o=some (r.map fun h=>jn c (fun q=>xx de q 0) r h.ya)) fun k hk=>?_
 have hr:=hv.len
 have:=dV (k:=k) (M:=1099511627776) hS hv (by omega) (by omega) hD N 0 (by omega) (by omega) (by omega)
 simp only[Int.toNat_zero,List.take_zero,List.map_nil,List.foldl_nil] at this
 rw[this,hk]
theorem VR.jn_le{c c':Cf}(h:VR c net r)(h':VR c' net r)(hl:∀ g∈r,j7 c g.ya=j7 c' g.ya/\wj c g.fQ=wj c' g.fQ){D':Pl->Int}{S:Pl->Prop}(hS:∀ x∈r,S (pk x)->∀ g∈r,g.fX=x.ya->S (pk g)/\D (pk g)<=D' (pk g)):∀ x∈r,S (pk x)->jn c D r x.ya<=jn c' D' r x.ya:=by
 refine h.ind (P:=fun x=>S (pk x)->jn c D r x.ya<=jn c' D' r x.ya) (fun x hx e _=>?_) (fun g hg x hx e ih hs=>?_)
 ·rw[e,h.jn_start,h'.jn_start];omega
 ·obtain⟨h1,h2⟩:=hS x hx hs g hg e
  have:=ih h1
  rw[<- e,h.jn_next D hg,h'.jn_next D' hg,(hl g hg).1,(hl g hg).2]
  omega
theorem VR.jn_eq{c:Cf}(h:VR c net r){D':Pl->Int}{S:Pl->Prop}(hS:∀ x∈r,S (pk x)->∀ g∈r,g.fX=x.ya->S (pk g)/\D (pk g)=D' (pk g)):∀ x∈r,S (pk x)->jn c D r x.ya=jn c D' r x.ya:=by
 intro x hx hs
 have h1:=h.jn_le h (fun g _=>⟨rfl,rfl⟩) (D:=D) (D':=D') (S:=S) (fun x hx hs g hg e=>⟨(hS x hx hs g hg e).1,by rw[(hS x hx hs g hg e).2];omega⟩) x hx hs
 have h2:=h.jn_le h (fun g _=>⟨rfl,rfl⟩) (D:=D') (D':=D) (S:=S) (fun x hx hs g hg e=>⟨(hS x hx hs g hg e).1,by rw[(hS x hx hs g hg e).2];omega⟩) x hx hs
 omega
end
section
/-! ### sums -/
def gn:List Int->Int
 | []=>0
 | x::l=>x+gn l
theorem Jx{l l':List Int}(h:l.Perm l'):gn l=gn l':=by
 induction h with
 | nil=>rfl
 | cons x _ ih=>simp only[gn,ih]
 | swap x y l=>simp only[gn];omega
 | trans _ _ a b=>exact a.trans b
theorem eL{α:Type}{f g:α->Int}:∀ {l:List α},(∀ x∈l,f x<=g x)->gn (l.map f)<=gn (l.map g)
 | [],_=>by simp[gn]
 | x::l,h=>by
  have:=eL (l:=l) fun y hy=>h y (List.mem_cons_of_mem _ hy)
  have:=h x (by simp)
  simp only[List.map_cons,gn];omega
theorem nj{α:Type}{f:α->Int}{p:α->Bool}:∀ {l:List α},(∀ x∈l,p x=false->f x=0)->gn ((l.filter p).map f)=gn (l.map f)
 | [],_=>rfl
 | x::l,h=>by
  have ih:=nj (f:=f) (p:=p) (l:=l) fun y hy=>h y (List.mem_cons_of_mem _ hy)
  rw[List.filter_cons]
  split
  ·simp only[List.map_cons,gn,ih]
  ·rename_i hp
   simp only[List.map_cons,gn,ih,h x (by simp) (by simpa using hp)];omega
theorem iG{α:Type}{f:α->Int}{l:List α}(h:∀ x∈l,0<=f x):0<=gn (l.map f):=by
 have:=eL (f:=fun _=>0) (g:=f) h
 have e:∀ l:List α,gn (l.map fun _=>0)=0:=by
  intro l;induction l with
  | nil=>rfl
  | cons x l ih=>simp only[List.map_cons,gn,ih];rfl
 rw[e] at this;exact this
theorem bE{α:Type}{f:α->Int}{M:Int}:∀ {l:List α},(∀ x∈l,f x<=M)->gn (l.map f)<=l.length*M
 | [],_=>by simp[gn]
 | x::l,h=>by
  have:=bE (f:=f) (l:=l) fun y hy=>h y (List.mem_cons_of_mem _ hy)
  have:=h x (by simp)
  simp only[List.map_cons,gn,List.length_cons]
  have e:((l.length+1:Nat):Int)*M=l.length*M+M:=by push_cast;rw[Int.add_mul];omega
  omega
theorem Wq{α:Type}{f:α->Int}{l:List α}(h:∀ x∈l,0<=f x){x:α}(hx:x∈l):f x<=gn (l.map f):=by
 induction l with
 | nil=>simp at hx
 | cons y l ih=>
  have h1:=iG (f:=f) (l:=l) fun z hz=>h z (List.mem_cons_of_mem _ hz)
  have h2:=h y (by simp)
  simp only[List.map_cons,gn]
  rcases List.mem_cons.1 hx with rfl | hx
  ·omega
  ·have:=ih (fun z hz=>h z (List.mem_cons_of_mem _ hz)) hx;omega
def t7:List Int->Int
 | []=>0
 | x::l=>max x (t7 l)
theorem YP(l:List Int)(x:Int)(hx:0<=x):t7 (l++[x])=max (t7 l) x:=by
 induction l with
 | nil=>simp only[List.nil_append,t7];omega
 | cons y l ih=>simp only[List.cons_append,t7,ih];omega
theorem iH:∀ l:List Int,0<=t7 l
 | []=>by simp[t7]
 | x::l=>by have:=iH l;simp only[t7];omega
theorem Kt{l:List Int}{x:Int}(h:x∈l):x<=t7 l:=by
 induction l with
 | nil=>simp at h
 | cons y l ih=>
  simp only[t7]
  rcases List.mem_cons.1 h with rfl | h
  ·omega
  ·have:=ih h;omega
theorem VU{l:List Int}{M:Int}(h0:0<=M)(h:∀ x∈l,x<=M):t7 l<=M:=by
 induction l with
 | nil=>simpa [t7] using h0
 | cons y l ih=>
  have:=ih fun x hx=>h x (List.mem_cons_of_mem _ hx)
  have:=h y (by simp)
  simp only[t7];omega
theorem mL{x:Int}:∀ {n:Nat} {v:Int},x∈vJ v n↔v<=x/\x<v+n
 | 0,v=>by simp only[vJ,List.not_mem_nil,false_iff];omega
 | n+1,v=>by
  simp only[vJ,List.mem_cons,mL (n:=n)]
  constructor
  ·rintro(rfl | h) <;> omega
  ·intro h
   by_cases e:x=v
   ·exact .inl e
   ·exact .inr (by omega)
theorem aV:∀(n:Nat) (v:Int),(vJ v n).Nodup
 | 0,_=>by simp[vJ]
 | n+1,v=>by
  simp only[vJ,List.nodup_cons]
  exact⟨fun h=>by have:=mL.1 h;omega,aV n _⟩
theorem lC:∀(n:Nat) (v:Int),(vJ v n).length=n
 | 0,_=>rfl
 | n+1,v=>by simp only[vJ,List.length_cons,lC n]
theorem YQ:∀(n:Nat) (v:Int),vJ v (n+1)=vJ v n++[v+n]
 | 0,v=>by simp[vJ]
 | n+1,v=>by
  rw[vJ,YQ n (v+1)]
  simp only[vJ,List.cons_append]
  rw[show v+1+(n:Int)=v+((n+1:Nat):Int) by push_cast;omega]
/-! ### what comes to an output port -/
structure Fw where
 k:Int
 v:Int
 j:Int
def oH(c:Cf)(v:Int):Int:=(nth c.yd v).yo
def oo(c:Cf)(x:Fw)(t:Int):Int:=mx c x.v*((t+x.j) / oH c x.v+1)
def pm(r:List Hop)(p:Pl):Int:=if (j6 r p.ya).2 then(j6 r p.ya).1.fQ else -1
def oD(c:Cf)(rs:List (List Hop))(D:Pl->Int)(p:Pl)(v:Int):Fw:=⟨pm (nth rs v) p,v,jn c D (nth rs v) p.ya⟩
def vls(rs:List (List Hop))(p:Pl)(n:Nat):List Int:=(vJ 0 n).filter fun v=>mK p (nth rs v)
def th(c:Cf)(rs:List (List Hop))(D:Pl->Int)(p:Pl):List Fw:=(vls rs p rs.length).map (oD c rs D p)
def mM(c:Cf)(l:List Fw)(t L:Int):Int:=gn ((l.filter fun x=>decide (x.k=L)).map fun x=>oo c x t)
def mN(c:Cf)(l:List Fw)(L:Int):Int:=t7 ((l.filter fun x=>decide (x.k=L)).map fun x=>mx c x.v)
def fc(c:Cf)(l:List Fw)(t L:Int):Int:=if L<0 then mM c l t L else min (mM c l t L) (mN c l L+t / max 1 (wj c L))
def Wr(c:Cf):List Int:=vJ (-1) (c.fK.length+1)
def uy(c:Cf)(l:List Fw)(t:Int):Int:=gn ((Wr c).map (fc c l t))
def sQ(c:Cf)(l:List Fw):Int:=t7 (l.map fun x=>mx c x.v)
structure FwOK (c:Cf) (l:List Fw):Prop where
 len:l.length<=16
 v0:∀ x∈l,0<=x.v/\x.v<c.yd.length
 k0:∀ x∈l,-1<=x.k/\x.k<c.fK.length
 j0:∀ x∈l,0<=x.j/\x.j<=4294967296
theorem fr.mx{c:Cf}(h:fr c){v:Int}(h0:0<=v)(h1:v<c.yd.length):1<=mx c v/\mx c v<=72/\100<=oH c v/\oH c v<=12800:=by
 obtain⟨⟨a,b⟩,d,e⟩:=h _ (w4 h0 h1)
 exact⟨d,e,a,b⟩
theorem sF{c:Cf}(hv:fr c){l:List Fw}(hl:FwOK c l){x:Fw}(hx:x∈l){t:Int}(h0:0<=t)(h1:t<=4294967296):1<=oo c x t/\oo c x t<=1099511627776:=by
 obtain⟨a,b,d,e⟩:=hv.mx (hl.v0 x hx).1 (hl.v0 x hx).2
 have hj:=hl.j0 x hx
 unfold oo
 have h2:0<=(t+x.j) / oH c x.v:=Int.ediv_nonneg (by omega) (by omega)
 have h3:(t+x.j) / oH c x.v<=t+x.j:=Int.ediv_le_self _ (by omega)
 constructor
 ·have:=Int.mul_le_mul_of_nonneg_right a (show 0<=(t+x.j) / oH c x.v+1 by omega);omega
 ·have:=Int.mul_le_mul_of_nonneg_right b (show 0<=(t+x.j) / oH c x.v+1 by omega);omega
theorem rH{a b:Int}(h:0<=a):a.tdiv b=a / b:=Int.tdiv_eq_ediv_of_nonneg h
def clo(c:Cf)(x:Fw):Int->Option Int:=fun t=>wL t (nth c.yd x.v) x.j
theorem GN{c:Cf}(hv:fr c){l:List Fw}(hl:FwOK c l){x:Fw}(hx:x∈l){t:Int}(h0:0<=t)(h1:t<=4294967296):clo c x t=some (oo c x t):=by
 have hb:=sF hv hl hx h0 h1
 obtain⟨a,b,d,e⟩:=hv.mx (hl.v0 x hx).1 (hl.v0 x hx).2
 have hj:=hl.j0 x hx
 unfold clo wL tx
 unfold oo mx oH at *
 have h2:0<=(t+x.j) / (nth c.yd x.v).yo:=Int.ediv_nonneg (by omega) (by omega)
 have h3:(t+x.j) / (nth c.yd x.v).yo<=t+x.j:=Int.ediv_le_self _ (by omega)
 rw[xr (by omega),xD (x:=t+x.j) (by omega),rH (by omega),xD (x:=(t+x.j) / (nth c.yd x.v).yo) (by omega),xD (x:=(t+x.j) / (nth c.yd x.v).yo+1) (by omega),xD (by omega)]
 rfl
theorem VV{α:Type}{t M:Int}{F:α->Int->Option Int}{g:α->Int}:∀ {l:List α} {s:Int},(∀ x∈l,F x t=some (g x)/\0<=g x/\g x<=M)->0<=s->s+l.length*M<=4611686018427387904->sC (l.map F) t s=some (s+gn (l.map g))
 | [],s,_,_,_=>by simp[sC,gn]
 | x::l,s,h,h0,h1=>by
  obtain⟨e,e0,e1⟩:=h x (by simp)
  have hM:0<=(l.length:Int)*M:=Int.mul_nonneg (by omega) (by omega)
  have e2:(((x::l).length:Nat):Int)*M=l.length*M+M:=by rw[List.length_cons];push_cast;rw[Int.add_mul];omega
  rw[List.map_cons,sC,e,oB,xD (by omega),VV (l:=l) (fun y hy=>h y (List.mem_cons_of_mem _ hy)) (by omega) (by omega)]
  simp only[List.map_cons,gn]
  congr 1;omega
theorem VW{α:Type}{t M:Int}{F:α->Int->Option Int}{g:α->Int}{l:List α}(h:∀ x∈l,F x t=some (g x)/\0<=g x/\g x<=M)(h1:l.length*M<=4611686018427387904)(h2:l.length<=1000000):vY (l.map F) t=some (gn (l.map g)):=by
 unfold vY
 rw[xr (by rw[List.length_map];omega),VV h (by omega) (by omega)]
 simp
theorem bF{c:Cf}(hv:fr c){l:List Fw}(hl:FwOK c l){t:Int}(h0:0<=t)(h1:t<=4294967296)(L:Int):0<=mM c l t L/\mM c l t L<=17592186044416:=by
 unfold mM
 constructor
 ·exact iG fun x hx=>by have:=(sF hv hl (List.mem_filter.1 hx).1 h0 h1).1;omega
 ·have h:=bE (f:=fun x=>oo c x t) (M:=1099511627776) (l:=l.filter fun x=>decide (x.k=L)) fun x hx=>(sF hv hl (List.mem_filter.1 hx).1 h0 h1).2
  have h2:(l.filter fun x=>decide (x.k=L)).length<=l.length:=List.length_filter_le _ _
  have:=hl.len
  omega
theorem bG{c:Cf}(hv:fr c){l:List Fw}(hl:FwOK c l)(L:Int):0<=mN c l L/\mN c l L<=72:=by
 unfold mN
 refine⟨iH _,VU (by omega) fun x hx=>?_⟩
 obtain⟨y,hy,rfl⟩:=List.mem_map.1 hx
 have hy:=(List.mem_filter.1 hy).1
 exact(hv.mx (hl.v0 y hy).1 (hl.v0 y hy).2).2.1
theorem GO{c:Cf}(hv:fr c){l:List Fw}(hl:FwOK c l){wide:List (Int×Int)}{L:Int}(hw:xx wide L 0=mN c l L)(hL:L<c.fK.length)(hs:0<=L->1<=wj c L){t:Int}(h0:0<=t)(h1:t<=4294967296):
  uE c wide (L,(l.filter fun x=>decide (x.k=L)).map (clo c)) t=some (fc c l t L):=by
 show gB t L ((l.filter fun x=>decide (x.k=L)).map (clo c)) wide c=_
 have iS:(l.filter fun x=>decide (x.k=L)).length<=l.length:=List.length_filter_le _ _
 have DW:=hl.len
 have e:=VW (t:=t) (M:=1099511627776) (F:=clo c) (g:=fun x=>oo c x t) (l:=l.filter fun x=>decide (x.k=L)) (fun x hx=>by
  have hx:=(List.mem_filter.1 hx).1
  have:=sF hv hl hx h0 h1
  exact⟨GN hv hl hx h0 h1,by omega,this.2⟩) (by omega) (by omega)
 unfold gB fc
 by_cases h:L<0
 ·rw[if_pos (decide_eq_true h),if_pos h,e];rfl
 ·have hs:=hs (by omega)
  have hg:=bF hv hl h0 h1 L
  have hwb:=bG hv hl L
  rw[if_neg (by simpa using h),if_neg h,e,oB,xr ⟨by omega,hL⟩]
  rw[show max 1 (wj c L)=wj c L by omega]
  unfold wj at *
  have hd:0<=t / (nth c.fK L).yj:=Int.ediv_nonneg h0 (by omega)
  have hd2:t / (nth c.fK L).yj<=t:=Int.ediv_le_self _ h0
  rw[xr (by omega),rH h0,xD (x:=t / (nth c.fK L).yj) (by omega),hw,xD (by omega)]
  rfl
theorem rn{c:Cf}(hv:fr c){l:List Fw}(hl:FwOK c l){L:Int}{t:Int}(h0:0<=t)(h1:t<=4294967296):0<=fc c l t L/\fc c l t L<=17592186044416:=by
 have hg:=bF hv hl h0 h1 L
 have hwb:=bG hv hl L
 unfold fc
 split
 ·exact hg
 ·have hd:0<=t / max 1 (wj c L):=Int.ediv_nonneg h0 (by omega)
  omega
theorem Jy{c:Cf}{l:List Fw}{t L:Int}(h:∀ x∈l,x.k≠L)(h0:0<=t):fc c l t L=0:=by
 have e:(l.filter fun x=>decide (x.k=L))=[]:=by
  rw[List.filter_eq_nil_iff];intro x hx;simpa using h x hx
 unfold fc mM mN
 rw[e]
 split
 ·rfl
 ·have hd:0<=t / max 1 (wj c L):=Int.ediv_nonneg h0 (by omega)
  show min 0 (0+_)=0
  omega
theorem YR{c:Cf}(hS:Small c)(hv:fr c){l:List Fw}(hl:FwOK c l){t:Int}(h0:0<=t)(h1:t<=4294967296):0<=uy c l t/\uy c l t<=18014398509481984:=by
 unfold uy
 refine⟨iG fun L _=>(rn hv hl h0 h1).1,?_⟩
 have h:=bE (f:=fc c l t) (M:=17592186044416) (l:=Wr c) fun L _=>(rn hv hl h0 h1).2
 have e:(Wr c).length=c.fK.length+1:=lC _ _
 have:=hS.l
 rw[e] at h
 omega
theorem Ku{c:Cf}(hv:fr c){l:List Fw}(hl:FwOK c l){x:Fw}(hx:x∈l){t t':Int}(h:t<=t'):oo c x t<=oo c x t':=by
 obtain⟨a,b,d,e⟩:=hv.mx (hl.v0 x hx).1 (hl.v0 x hx).2
 unfold oo
 refine Int.mul_le_mul_of_nonneg_left ?_ (by omega)
 have:=Int.ediv_le_ediv (a:=t+x.j) (b:=t'+x.j) (c:=oH c x.v) (by omega) (by omega)
 omega
theorem Kv{c:Cf}(hv:fr c){l:List Fw}(hl:FwOK c l){t t':Int}(h:t<=t'):uy c l t<=uy c l t':=by
 unfold uy
 refine eL fun L _=>?_
 have hg:mM c l t L<=mM c l t' L:=by
  unfold mM
  exact eL fun x hx=>Ku hv hl (List.mem_filter.1 hx).1 h
 have hd:=Int.ediv_le_ediv (a:=t) (b:=t') (c:=max 1 (wj c L)) (by omega) h
 unfold fc
 split
 ·exact hg
 ·omega
theorem Jz{c:Cf}{l:List Fw}{t L:Int}(h:∀ x∈l,x.k≠L):mM c l t L=0/\mN c l L=0:=by
 have e:(l.filter fun x=>decide (x.k=L))=[]:=by
  rw[List.filter_eq_nil_iff];intro x hx;simpa using h x hx
 unfold mM mN
 rw[e];exact⟨rfl,rfl⟩
end
section
variable {rs:List (List Hop)}{p:Pl}{D:Pl->Int}{net:Int}
def FL(c:Cf)(rs:List (List Hop))(D:Pl->Int)(p:Pl)(n:Nat):List Fw:=(vls rs p n).map (oD c rs D p)
theorem VX{c:Cf}(n:Nat):FL c rs D p (n+1)=FL c rs D p n++(if mK p (nth rs n) then[oD c rs D p n] else[]):=by
 unfold FL vls
 rw[YQ,List.filter_append,List.map_append,show(0:Int)+n=n by omega]
 by_cases h:mK p (nth rs n)=true <;> simp[h]
theorem Ws{c:Cf}(n:Nat):(FL c rs D p n).length<=n:=by
 unfold FL vls
 rw[List.length_map]
 have h:((vJ 0 n).filter fun v=>mK p (nth rs v)).length<=(vJ 0 n).length:=List.length_filter_le _ _
 rwa [lC] at h
theorem dW{c:Cf}{n:Nat}{x:Fw}:x∈FL c rs D p n↔∃ v:Int,0<=v/\v<n/\mK p (nth rs v)=true/\x=oD c rs D p v:=by
 unfold FL vls
 simp only[List.mem_map,List.mem_filter,mL]
 constructor
 ·rintro⟨v,⟨⟨a,b⟩,d⟩,rfl⟩;exact⟨v,a,by omega,d,rfl⟩
 ·rintro⟨v,a,b,d,rfl⟩;exact⟨v,⟨⟨a,by omega⟩,d⟩,rfl⟩
theorem pN{r:List Hop}:mK p r=true↔∃ h∈r,pk h=p:=by
 unfold mK;simp
theorem dX{c:Cf}(hS:Small c)(hv:VA c net rs)(p:Pl){v:Int}(v0:0<=v)(v1:v<rs.length) : -1<=pm (nth rs v) p/\pm (nth rs v) p<c.fK.length/\(0<=pm (nth rs v) p->1<=wj c (pm (nth rs v) p)/\wj c (pm (nth rs v) p)<=16):=by
 unfold pm
 split
 ·rename_i h
  have:=(hv.each _ (w4 v0 v1)).hop hS (rG h).1
  have a:=this.l0;have b:=this.l1;have d:=this.s0;have e:=this.s1
  exact⟨by omega,b,fun _=>⟨d,e⟩⟩
 ·exact⟨by omega,by omega,fun h=>absurd h (by omega)⟩
structure AI (c:Cf) (l:List Fw) (most:Int) (mp:List (Int×List (Int->Option Int))) (wide:List (Int×Int)):Prop where
 nd:(mp.map (·.1)).Nodup
 get:∀ L,xx mp L []=(l.filter fun x=>decide (x.k=L)).map (clo c)
 key:∀ k∈mp.map (·.1),∃ x∈l,x.k=k
 key2:∀ x∈l,x.k∈mp.map (·.1)
 len:mp.length<=l.length
 wide:∀ L,xx wide L 0=mN c l L
 most:most=sQ c l
theorem AI.nil(c:Cf):AI c [] 0 [] []:=⟨by simp,fun L=>rfl,by simp,by simp,by simp,fun L=>rfl,rfl⟩
theorem AI.put{c:Cf}{l:List Fw}{most:Int}{mp:List (Int×List (Int->Option Int))}{wide:List (Int×Int)}(h:AI c l most mp wide){x:Fw}(hx:0<=mx c x.v):AI c (l++[x]) (max most (mx c x.v)) (xT mp x.k (xx mp x.k []++[clo c x])) (xT wide x.k (max (xx wide x.k 0) (mx c x.v))):=by
 refine⟨?_,fun L=>?_,fun k hk=>?_,fun y hy=>?_,?_,fun L=>?_,?_⟩
 ·rw[rZ]
  split
  ·exact h.nd
  ·rename_i hn
   rw[List.nodup_append]
   refine⟨h.nd,by simp,fun a ha b hb=>?_⟩
   rw[List.mem_singleton] at hb;subst hb
   intro e;subst e;exact hn ha
 ·rw[qP,List.filter_append,List.map_append,<- h.get L]
  by_cases e:L=x.k
  ·subst e;simp
  ·rw[if_neg e];simp[show x.k≠L from fun a=>e a.symm]
 ·rw[rZ] at hk
  split at hk
  ·obtain⟨y,hy,e⟩:=h.key k hk;exact⟨y,List.mem_append_left _ hy,e⟩
  ·rcases List.mem_append.1 hk with hk | hk
   ·obtain⟨y,hy,e⟩:=h.key k hk;exact⟨y,List.mem_append_left _ hy,e⟩
   ·rw[List.mem_singleton] at hk;exact⟨x,by simp,hk.symm⟩
 ·rw[rZ]
  rcases List.mem_append.1 hy with hy | hy
  ·have:=h.key2 y hy
   split
   ·exact this
   ·exact List.mem_append_left _ this
  ·rw[List.mem_singleton] at hy;subst hy
   split
   ·assumption
   ·simp
 ·have e:(xT mp x.k (xx mp x.k []++[clo c x])).length=((xT mp x.k (xx mp x.k []++[clo c x])).map (·.1)).length:=by simp
  rw[e,rZ]
  have:=h.len
  split
  ·simp;omega
  ·simp;omega
 ·rw[qP]
  have hw:=h.wide
  unfold mN at hw ⊢
  rw[List.filter_append,List.map_append]
  by_cases e:L=x.k
  ·subst e
   rw[if_pos rfl,hw]
   simp only[List.filter_cons,List.filter_nil,decide_true,if_true,List.map_cons,List.map_nil]
   rw[YP _ _ hx]
  ·rw[if_neg e,hw];simp[show x.k≠L from fun a=>e a.symm]
 ·have:=h.most
  unfold sQ at *
  rw[List.map_append,List.map_cons,List.map_nil,YP _ _ hx,this]
abbrev AR:=List (Int->Option Int)×Int
theorem bU{c:Cf}{net:Int}{rs:List (List Hop)}{de:DM}{p:Pl}{k:Int->List (Int×List (Int->Option Int))->List (Int×Int)->Option AR}(hS:Small c)(hv:VA c net rs)(hV:fr c)(hD:∀ r∈rs,∀ h∈r,-1099511627776<=xx de (pk h) 0/\xx de (pk h) 0<=1099511627776):
  ∀(n:Nat) (v:Int) (most:Int) (mp:List (Int×List (Int->Option Int))) (wide:List (Int×Int)),0<=v->v<=rs.length->rs.length<n+v->AI c (FL c rs (fun q=>xx de q 0) p v.toNat) most mp wide->
   ∃ o5 AL pb,AI c (FL c rs (fun q=>xx de q 0) p rs.length) o5 AL pb/\je rs p c de k n most v mp wide=k o5 AL pb
 | 0,v,most,mp,wide,h0,h1,h2,h3=>by omega
 | n+1,v,most,mp,wide,h0,h1,h2,h3=>by
  have DW:=hv.most
  have Dh:=hv.len
  rw[je]
  by_cases h:v<rs.length
  ·rw[if_pos (decide_eq_true h)]
   refine dQ (P:=fun o=>∃ o5 AL pb,AI c (FL c rs (fun q=>xx de q 0) p rs.length) o5 AL pb/\o=k o5 AL pb) fun kk Bx=>?_
   have hr:=hv.each _ (w4 h0 h)
   have Ay:=hr.len
   have Cg:∀ most mp wide,AI c (FL c rs (fun q=>xx de q 0) p (v+1).toNat) most mp wide->∃ o5 AL pb,AI c (FL c rs (fun q=>xx de q 0) p rs.length) o5 AL pb/\kk most mp wide=k o5 AL pb:=by
    intro most mp wide Bz
    rw[Bx,xD (x:=v+1) (by omega)]
    exact bU hS hv hV hD n (v+1) most mp wide (by omega) (by omega) (by omega) Bz
   have es:FL c rs (fun q=>xx de q 0) p (v+1).toNat=FL c rs (fun q=>xx de q 0) p v.toNat++(if mK p (nth rs v) then[oD c rs (fun q=>xx de q 0) p v] else[]):=by
    rw[show(v+1).toNat=v.toNat+1 by omega,VX,show((v.toNat:Nat):Int)=v by omega]
   rw[xr ⟨h0,h⟩]
   rcases ie (r:=nth rs v) (f:=fun y0=>gC y0 p) (p:=fun h=>decide (pk h=p)) (fun h _=>rfl) (by omega) with⟨j,j0,j1,j2,j3⟩ | ⟨j2,j3⟩
   ·rw[j3]
    simp only[oB]
    have hj:=List.find?_some j2
    simp only[decide_eq_true_eq] at hj
    rw[if_neg (by simp only[decide_eq_true_eq];omega),xr ⟨h0,by omega⟩,aU hS hr (hD _ (w4 h0 h))]
    simp only[oB]
    rw[xr ⟨j0,by rw[List.length_map];exact j1⟩]
    have hu:mK p (nth rs v)=true:=pN.2 ⟨_,w4 j0 j1,hj⟩
    have ejn:nth ((nth rs v).map fun h=>jn c (fun q=>xx de q 0) (nth rs v) h.ya) j=jn c (fun q=>xx de q 0) (nth rs v) p.ya:=by
     rw[jT ⟨j0,by rw[List.length_map];exact j1⟩,List.getElem_map,<- jT ⟨j0,j1⟩,<- hj];rfl
    rw[es,if_pos hu] at Cg
    have hm:=hV.mx h0 (by omega)
    have DX:∀ L,((xx mp L []).length:Int)<=16:=fun L=>by
     rw[h3.get,List.length_map]
     have h4:((FL c rs (fun q=>xx de q 0) p v.toNat).filter fun x=>decide (x.k=L)).length<=(FL c rs (fun q=>xx de q 0) p v.toNat).length:=List.length_filter_le _ _
     have h5:=Ws (c:=c) (rs:=rs) (D:=fun q=>xx de q 0) (p:=p) v.toNat
     omega
    refine w8 (P:=fun o=>∃ o5 AL pb,AI c (FL c rs (fun q=>xx de q 0) p rs.length) o5 AL pb/\o=k o5 AL pb) fun k2 lN=>?_
    have BT:∀ L,L=pm (nth rs v) p->∃ o5 AL pb,AI c (FL c rs (fun q=>xx de q 0) p rs.length) o5 AL pb/\k2 L=k o5 AL pb:=by
     rintro L rfl
     have hgl:=DX (pm (nth rs v) p)
     rw[lN,xr (by rw[List.length_append];simp only[List.length_cons,List.length_nil];omega)]
     rw[ejn]
     exact Cg _ _ _ (h3.put (x:=oD c rs (fun q=>xx de q 0) p v) (by show 0<=mx c v;omega))
    rcases ie (r:=nth rs v) (f:=fun y0=>gF y0 p) (p:=fun h=>decide (h.fX=p.ya)) (fun h _=>rfl) (by omega) with⟨i,i0,i1,i2,i3⟩ | ⟨i2,i3⟩
    ·rw[i3]
     simp only[oB]
     rw[if_pos (by simp only[decide_eq_true_eq];omega),xr ⟨i0,i1⟩]
     refine BT _ ?_
     unfold pm j6;rw[i2];rfl
    ·rw[i3]
     simp only[oB]
     rw[if_neg (by simp)]
     refine BT _ ?_
     unfold pm j6;rw[i2];rfl
   ·rw[j3]
    simp only[oB]
    have hu:¬mK p (nth rs v)=true:=by
     rw[pN];rintro⟨x,hx,e⟩
     have:=List.find?_eq_none.1 j2 x hx
     simp[e] at this
    rw[if_pos (by simp)]
    rw[es,if_neg hu,List.append_nil] at Cg
    exact Cg _ _ _ h3
  ·rw[if_neg (by simpa using h)]
   have e:v.toNat=rs.length:=by omega
   rw[e] at h3
   exact⟨most,mp,wide,h3,rfl⟩
theorem QH{c:Cf}(hS:Small c)(hv:VA c net rs)(hj:∀ x∈th c rs D p,0<=x.j/\x.j<=4294967296):FwOK c (th c rs D p):=by
 have hl:=hv.most;have Dh:=hv.len
 refine⟨?_,fun x hx=>?_,fun x hx=>?_,hj⟩
 ·have:=Ws (c:=c) (rs:=rs) (D:=D) (p:=p) rs.length
  exact Nat.le_trans this (by omega)
 ·obtain⟨v,v0,v1,_,rfl⟩:=dW.1 hx
  exact⟨v0,by show v<_;omega⟩
 ·obtain⟨v,v0,v1,_,rfl⟩:=dW.1 hx
  have:=dX hS hv p v0 v1
  exact⟨this.1,this.2.1⟩
theorem Vi{c:Cf}{de:DM}(hS:Small c)(hv:VA c net rs)(hV:fr c)(hD:∀ r∈rs,∀ h∈r,-1099511627776<=xx de (pk h) 0/\xx de (pk h) 0<=1099511627776)(hj:∀ x∈th c rs (fun q=>xx de q 0) p,0<=x.j/\x.j<=4294967296):
  ∃ fs,g6 c rs p de=some (fs,sQ c (th c rs (fun q=>xx de q 0) p))/\∀ t,0<=t->t<=4294967296->vY fs t=some (uy c (th c rs (fun q=>xx de q 0) p) t):=by
 have zk:=QH hS hv hj
 unfold g6
 have hF:=xN
 generalize xC=N at hF ⊢
 refine dQ (P:=fun o=>∃ fs,o=some (fs,sQ c (th c rs (fun q=>xx de q 0) p))/\∀ t,0<=t->t<=4294967296->vY fs t=some (uy c (th c rs (fun q=>xx de q 0) p) t)) fun k hk=>?_
 have DW:=hv.most
 obtain⟨most,mp,wide,Bz,e⟩:=bU (k:=k) (p:=p) hS hv hV hD N 0 0 [] [] (by omega) (by omega) (by omega) (AI.nil c)
 rw[e,hk]
 have AM:=Bz.len
 have BK:=zk.len
 have hfl2:FL c rs (fun q=>xx de q 0) p rs.length=th c rs (fun q=>xx de q 0) p:=rfl
 rw[hfl2] at Bz AM
 rw[xr (by omega)]
 refine⟨mp.map (uE c wide),by rw[Bz.most],fun t h0 h1=>?_⟩
 have DY:∀ q∈mp,q=(q.1,((th c rs (fun q=>xx de q 0) p).filter fun x=>decide (x.k=q.1)).map (clo c)):=by
  intro q hq
  rw[<- Bz.get]
  have:∀(l:List (Int×List (Int->Option Int))),(l.map (·.1)).Nodup->∀ q∈l,xx l q.1 []=q.2:=by
   intro l
   induction l with
   | nil=>intro _ q hq;simp at hq
   | cons x l ih=>
    intro hn q hq
    rw[List.map_cons,List.nodup_cons] at hn
    rw[xx]
    rcases List.mem_cons.1 hq with rfl | hq
    ·rw[if_pos rfl]
    ·rw[if_neg,ih hn.2 q hq]
     intro e;exact hn.1 (e▸List.mem_map.2 ⟨q,hq,rfl⟩)
  rw[this mp Bz.nd q hq]
 have hkr:∀ k:Int,k∈mp.map (·.1) -> -1<=k/\k<c.fK.length/\(0<=k->1<=wj c k):=by
  intro k hk
  obtain⟨x,hx,rfl⟩:=Bz.key k hk
  obtain⟨v,v0,v1,_,rfl⟩:=dW.1 hx
  have:=dX hS hv p v0 v1
  exact⟨this.1,this.2.1,fun h=>(this.2.2 h).1⟩
 rw[VW (M:=17592186044416) (F:=uE c wide) (g:=fun q=>fc c (th c rs (fun q=>xx de q 0) p) t q.1) (l:=mp) (fun q hq=>by
   have hq1:=hkr q.1 (List.mem_map.2 ⟨q,hq,rfl⟩)
   have:=rn hV zk (L:=q.1) h0 h1
   refine⟨?_,this.1,this.2⟩
   rw[DY q hq]
   exact GO hV zk (Bz.wide q.1) hq1.2.1 hq1.2.2 h0 h1) (by omega) (by omega)]
 refine congrArg some ?_
 unfold uy
 have h5:(mp.map (·.1)).Perm ((Wr c).filter fun L=>decide (L∈mp.map (·.1))):=by
  refine(List.perm_ext_iff_of_nodup Bz.nd ((aV _ _).filter _)).2 fun k=>?_
  rw[List.mem_filter]
  skip
  rw[mL]
  simp only[decide_eq_true_eq]
  constructor
  ·intro hk;have:=hkr k hk;exact⟨by push_cast;omega,hk⟩
  ·exact fun h=>h.2
 have h6:mp.map (fun q=>fc c (th c rs (fun q=>xx de q 0) p) t q.1)=(mp.map (·.1)).map (fc c (th c rs (fun q=>xx de q 0) p) t):=by rw[List.map_map];rfl
 rw[h6,Jx (h5.map _),nj]
 intro L _ hL
 refine Jy (fun x hx e=>?_) h0
 simp only[decide_eq_false_iff_not] at hL
 exact hL (e▸Bz.key2 x hx)
end
section
variable {A:Int->Int}
/-! ### a port -/
def gc(f:Int->Int):Nat->Int
 | 0=>0
 | n+1=>max (gc f n) (f n)
theorem bH(f:Int->Int):∀ n,0<=gc f n
 | 0=>Int.le_refl _
 | n+1=>by have:=bH f n;simp only[gc];omega
theorem JA{f:Int->Int}:∀ {n:Nat} {t:Int},0<=t->t<n->f t<=gc f n
 | 0,t,h0,h1=>by omega
 | n+1,t,h0,h1=>by
  simp only[gc]
  by_cases e:t=n
  ·subst e;omega
  ·have:=JA (f:=f) (n:=n) h0 (by omega);omega
theorem aW{f:Int->Int}{M:Int}(hM:0<=M):∀ {n:Nat},(∀ t:Int,0<=t->t<n->f t<=M)->gc f n<=M
 | 0,_=>hM
 | n+1,h=>by
  simp only[gc]
  have:=aW hM (n:=n) fun t h0 h1=>h t h0 (by omega)
  have:=h n (by omega) (by omega)
  omega
def sV(A:Int->Int)(s:Int):Nat->Int->Int
 | 0,b=>b
 | n+1,b=>if s*A (b-1)>b then sV A s n (b+1) else b
theorem nP{A:Int->Int}{s:Int}:∀(n:Nat) (b:Int),b<=sV A s n b/\sV A s n b<=b+n/\(sV A s n b<b+n->s*A (sV A s n b-1)<=sV A s n b)/\∀ x,b<=x->x<sV A s n b->s*A (x-1)>x
 | 0,b=>by refine⟨by simp[sV],by simp[sV],fun h=>?_,fun x h1 h2=>?_⟩ <;> simp only[sV] at * <;> omega
 | n+1,b=>by
  rw[sV]
  by_cases h:s*A (b-1)>b
  ·rw[if_pos h]
   obtain⟨h1,h2,h3,h4⟩:=nP n (b+1) (A:=A) (s:=s)
   refine⟨by omega,by push_cast;omega,fun h5=>h3 (by push_cast at h5;omega),fun x h5 h6=>?_⟩
   by_cases e:x=b
   ·rw[e];exact h
   ·exact h4 x (by omega) h6
  ·rw[if_neg h]
   exact⟨by omega,by omega,fun _=>by omega,fun x h1 h2=>by omega⟩
def BZ(A:Int->Int)(s:Int):Int:=sV A s 32768 1
theorem QI(A:Int->Int)(s:Int):1<=BZ A s/\BZ A s<=32769:=by
 obtain⟨h1,h2,_⟩:=nP (A:=A) (s:=s) 32768 1
 unfold BZ;omega
theorem BZ_ok{s:Int}(h:BZ A s<=32768):s*A (BZ A s-1)<=BZ A s:=by
 obtain⟨h1,h2,h3,_⟩:=nP (A:=A) (s:=s) 32768 1
 unfold BZ at *;exact h3 (by omega)
def mW(A:Int->Int)(s la:Int)(t:Int):Int:=s*A t-t+la
def fW(A:Int->Int)(s la:Int)(t:Int):Int:=A t-(max (t-la) 0+s-1) / s
def HB(c:Cf)(A:Int->Int)(most:Int)(p:Pl):PB:=⟨p.ya,p.fQ,gc (mW A (wj c p.fQ) (j7 c p.ya)) (BZ A (wj c p.fQ)).toNat,gc (fW A (wj c p.fQ) (j7 c p.ya)) (BZ A (wj c p.fQ)+j7 c p.ya).toNat+most⟩
structure AOK (A:Int->Int):Prop where
 b:∀ t,0<=t->t<=4294967296->0<=A t/\A t<=18014398509481984
theorem Wt{c:Cf}{p:Pl}{fs:List (Int->Option Int)}{most:Int}{A:Int->Int}{k:Int->Option (PB×Int)}(hA:AOK A)(ht:∀ t,0<=t->t<=4294967296->vY fs t=some (A t))(hs:1<=wj c p.fQ/\wj c p.fQ<=16):
  ∀(n:Nat) (N:Nat) (b:Int),1<=b->b+n=32769->n<N->1<=n->kg (fs,most) c p k N b=if sV A (wj c p.fQ) n b<=32768 then k (sV A (wj c p.fQ) n b) else some (⟨0,0,0,0⟩,360)
 | n,0,b,h0,h1,h2,h3=>by omega
 | 0,N+1,b,h0,h1,h2,h3=>by omega
 | n+1,N+1,b,h0,h1,h2,h3=>by
  push_cast at h1
  rw[kg,xD (x:=b-1) (by omega),ht (b-1) (by omega) (by omega),oB]
  have hb:=hA.b (b-1) (by omega) (by omega)
  have DU:0<=wj c p.fQ*A (b-1):=Int.mul_nonneg (by omega) hb.1
  have Di:wj c p.fQ*A (b-1)<=16*A (b-1):=Int.mul_le_mul_of_nonneg_right hs.2 hb.1
  have e:((nth c.fK p.fQ).yj)*A (b-1)=wj c p.fQ*A (b-1):=rfl
  rw[e,xD (x:=wj c p.fQ*A (b-1)) (by omega),xD (x:=b+1) (by omega),sV]
  by_cases h:wj c p.fQ*A (b-1)>b
  ·rw[if_pos (decide_eq_true h),if_pos h]
   by_cases h4:b+1>32768
   ·rw[if_pos (decide_eq_true h4)]
    have hn:n=0:=by omega
    subst hn
    rw[sV,if_neg (by omega)]
   ·rw[if_neg (by simpa using h4)]
    exact Wt hA ht hs n N (b+1) (by omega) (by omega) (by omega) (by omega)
  ·rw[if_neg (by simpa using h),if_neg h,if_pos (by omega)]
theorem Wu{c:Cf}{p:Pl}{fs:List (Int->Option Int)}{most:Int}{A:Int->Int}{k:Int->Int->Option (PB×Int)}{b la:Int}(hA:AOK A)(ht:∀ t,0<=t->t<=4294967296->vY fs t=some (A t))(hs:1<=wj c p.fQ/\wj c p.fQ<=16)(hb:1<=b/\b<=32768)(Cr:0<=la/\la<=1000):
  ∀(n:Nat) (v:Nat),(v:Int)<=b+la->b+la<n+v->kh b la (fs,most) c p k n v (gc (mW A (wj c p.fQ) la) (min v b.toNat)) (gc (fW A (wj c p.fQ) la) v)=k (gc (mW A (wj c p.fQ) la) b.toNat) (gc (fW A (wj c p.fQ) la) (b+la).toNat)
 | 0,v,h0,h1=>by omega
 | n+1,v,h0,h1=>by
  rw[kh,xD (x:=b+la) (by omega)]
  by_cases h:(v:Int)<b+la
  ·rw[if_pos (decide_eq_true h),ht v (by omega) (by omega),oB]
   refine w8 (P:=fun o=>o=k (gc (mW A (wj c p.fQ) la) b.toNat) (gc (fW A (wj c p.fQ) la) (b+la).toNat)) fun kk Bx=>?_
   have Cl:=hA.b v (by omega) (by omega)
   have DU:0<=wj c p.fQ*A v:=Int.mul_nonneg (by omega) Cl.1
   have Di:wj c p.fQ*A v<=16*A v:=Int.mul_le_mul_of_nonneg_right hs.2 Cl.1
   have DZ:∀ x,x=gc (mW A (wj c p.fQ) la) (min (v+1) b.toNat)->kk x=k (gc (mW A (wj c p.fQ) la) b.toNat) (gc (fW A (wj c p.fQ) la) (b+la).toNat):=by
    rintro x rfl
    rw[Bx]
    have e:(nth c.fK p.fQ).yj=wj c p.fQ:=rfl
    have h2:0<=(max ((v:Int)-la) 0+wj c p.fQ-1) / wj c p.fQ:=Int.ediv_nonneg (by omega) (by omega)
    have h3:(max ((v:Int)-la) 0+wj c p.fQ-1) / wj c p.fQ<=max ((v:Int)-la) 0+wj c p.fQ-1:=Int.ediv_le_self _ (by omega)
    rw[e,xr (by omega),xD (x:=(v:Int)-la) (by omega),xD (x:=max ((v:Int)-la) 0+wj c p.fQ) (by omega),xD (x:=max ((v:Int)-la) 0+wj c p.fQ-1) (by omega),rH (by omega),xD (x:=(max ((v:Int)-la) 0+wj c p.fQ-1) / wj c p.fQ) (by omega),xD (x:=A v-(max ((v:Int)-la) 0+wj c p.fQ-1) / wj c p.fQ) (by omega),xD (x:=(v:Int)+1) (by omega)]
    have:=Wu (k:=k) (most:=most) hA ht hs hb Cr n (v+1) (by push_cast;omega) (by push_cast;omega)
    rw[<- this]
    rfl
   by_cases h5:(v:Int)<b
   ·rw[if_pos (decide_eq_true h5)]
    refine DZ _ ?_
    have e:(nth c.fK p.fQ).yj=wj c p.fQ:=rfl
    rw[e,xD (x:=wj c p.fQ*A v) (by omega),xD (x:=wj c p.fQ*A v-v) (by omega),xD (by omega),show min (v+1) b.toNat=v+1 by omega,show min v b.toNat=v by omega]
    rfl
   ·rw[if_neg (by simpa using h5)]
    refine DZ _ ?_
    rw[show min (v+1) b.toNat=b.toNat by omega,show min v b.toNat=b.toNat by omega]
  ·rw[if_neg (by simpa using h),show min v b.toNat=b.toNat by omega,show v=(b+la).toNat by omega]
theorem Kw{c:Cf}{rs:List (List Hop)}{de:DM}{p:Pl}{fs:List (Int->Option Int)}{most:Int}(hS:Small c)(hp:PI c p)(hA:AOK A)(ha:g6 c rs p de=some (fs,most))(D0:0<=most/\most<=72)(ht:∀ t,0<=t->t<=4294967296->vY fs t=some (A t))(hs:1<=wj c p.fQ/\wj c p.fQ<=16)(Cr:0<=j7 c p.ya/\j7 c p.ya<=1000):
  mf c rs p de=some (if BZ A (wj c p.fQ)<=32768 then(HB c A most p,0) else(⟨0,0,0,0⟩,360)):=by
 unfold mf
 rw[ha,oB,xr ⟨hp.l0,hp.l1⟩,aT hS hp.n0 hp.n1,oB]
 have hF:=xN
 generalize xC=N at hF ⊢
 refine w8 (P:=fun o=>o=some (if BZ A (wj c p.fQ)<=32768 then(HB c A most p,0) else(⟨0,0,0,0⟩,360))) fun k hk=>?_
 rw[Wt (A:=A) hA ht hs 32768 N 1 (by omega) (by omega) (by omega) (by omega)]
 have e:sV A (wj c p.fQ) 32768 1=BZ A (wj c p.fQ):=rfl
 rw[e]
 by_cases h:BZ A (wj c p.fQ)<=32768
 ·rw[if_pos h,if_pos h,hk]
  refine ct (P:=fun o=>o=some (HB c A most p,0)) fun k2 lN=>?_
  have hb:=QI A (wj c p.fQ)
  have:=Wu (k:=k2) (most:=most) (la:=j7 c p.ya) hA ht hs ⟨hb.1,h⟩ Cr N 0 (by omega) (by omega)
  simp only[Nat.zero_min,gc] at this
  rw[show((0:Nat):Int)=0 from rfl] at this
  rw[this,lN]
  refine congrArg some ?_
  unfold HB
  have lJ:=bH (fW A (wj c p.fQ) (j7 c p.ya)) (BZ A (wj c p.fQ)+j7 c p.ya).toNat
  have hst2:gc (fW A (wj c p.fQ) (j7 c p.ya)) (BZ A (wj c p.fQ)+j7 c p.ya).toNat<=18014398509481984:=aW (by omega) fun t h0 h1=>by
   have h2:0<=(max (t-j7 c p.ya) 0+wj c p.fQ-1) / wj c p.fQ:=Int.ediv_nonneg (by omega) (by omega)
   have:=(hA.b t h0 (by omega)).2
   unfold fW;omega
  rw[xD (by omega)]
 ·rw[if_neg h,if_neg h]
theorem Kx{c:Cf}{most:Int}{p:Pl}(hm:∀ t t',0<=t->t<=t'->A t<=A t')(h0:1<=A 0)(hs:1<=wj c p.fQ/\wj c p.fQ<=16)(Cr:0<=j7 c p.ya/\j7 c p.ya<=1000)(h:BZ A (wj c p.fQ)<=32768):j7 c p.ya+wj c p.fQ<=(HB c A most p).yf/\(HB c A most p).yf<=33768:=by
 have hb:=QI A (wj c p.fQ)
 constructor
 ·have:=JA (f:=mW A (wj c p.fQ) (j7 c p.ya)) (n:=(BZ A (wj c p.fQ)).toNat) (t:=0) (by omega) (by omega)
  have h2:wj c p.fQ*1<=wj c p.fQ*A 0:=Int.mul_le_mul_of_nonneg_left h0 (by omega)
  show _<=gc _ _
  unfold mW at this ⊢
  omega
 ·refine aW (by omega) fun t t0 t1=>?_
  have h2:=BZ_ok h
  have h3:wj c p.fQ*A t<=wj c p.fQ*A (BZ A (wj c p.fQ)-1):=Int.mul_le_mul_of_nonneg_left (hm _ _ t0 (by omega)) (by omega)
  unfold mW;omega
end
section
/-! ### the order -/
theorem bI{l:List Pl×Int}{k:List ye->Option (List ye×Int)}(hl:l.1.length<=1000000):∀(n:Nat) (o:List ye) (v:Int),0<=v->v<=l.1.length->l.1.length<n+v->o.length=v->
  gi l k n o v=k (o++(l.1.drop v.toNat).map fun p=>⟨p.ya,p.fQ,0,0⟩)
 | 0,o,v,h0,h1,h2,h3=>by omega
 | n+1,o,v,h0,h1,h2,h3=>by
  rw[gi]
  by_cases h:v<l.1.length
  ·rw[if_pos (decide_eq_true h),xr ⟨h0,h⟩,xr (by simp;omega),va h0 h,xD (x:=v+1) (by omega)]
   rw[bI hl n _ (v+1) (by omega) (by omega) (by omega) (by simp;omega),show(v+1).toNat=v.toNat+1 by omega]
   simp
  ·rw[if_neg (by simpa using h),List.drop_eq_nil_of_le (by omega)];simp
theorem Wv{c:Cf}{net:Int}{rs:List (List Hop)}(hf:FewP c rs)(hv:VA c net rs):
  (∃ l,l.Perm (PS rs)/\wM rs l/\f7 c net rs=some (l.map fun p=>⟨p.ya,p.fQ,0,0⟩,0))\/(∃ s,tA rs s/\f7 c net rs=some ([],351)):=by
 unfold f7
 obtain⟨b,q1,q2⟩:=lr hf.small (net:=net) (rs:=rs) (fun r hr=>by have:=hf.e r hr;omega) (by have:=hf.r;omega)
 rw[q1,q2.2 hv,oB,if_neg (by simp)]
 have C6:=oh hf.e
 have hr:=hf.r
 have h3:rs.length*40<=20*40:=Nat.mul_le_mul_right _ hr
 rcases W0 (rs:=rs) (fun r h=>by have:=hf.e r h;omega) (by omega) with⟨l,e1,e2,e3⟩ | ⟨s,e1,e2⟩
 ·rw[e3,oB]
  have iS:=e1.length_eq
  refine .inl ⟨l,e1,e2,?_⟩
  refine w8 (P:=fun o=>o=_) fun k hk=>?_
  rw[bI (l:=(l,0)) (by show l.length<=_;omega) xC [] 0 (by omega) (by omega) (by rw[xN];show((l.length:Nat):Int)<_;omega) rfl,hk]
  simp
 ·rw[e2,oB]
  refine .inr ⟨s,e1,?_⟩
  refine w8 (P:=fun o=>o=_) fun k hk=>?_
  rw[bI (l:=([],351)) (by simp) xC [] 0 (by omega) (by simp) (by rw[xN];simp) rfl,hk]
  simp
/-! ### the errors of the calculus are small numbers -/
def Er(e:Int):Prop:=0<=e/\e<=9
theorem lD{e:Int}(h:e=0\/e=2\/e=3\/e=6):Er e:=by unfold Er;omega
theorem Xj(q:Rat):Er (mk q).2:=by unfold mk Er;split <;> simp
theorem lE(x y:R):Er (ng x y).2:=by
 unfold ng
 by_cases h:V x=true/\V y=true
 ·rw[W4 h.1 h.2];exact Xj _
 ·rw[VJ h];exact lD (by first | exact .inl rfl | exact .inr (.inl rfl) | exact .inr (.inr (.inl rfl)) | exact .inr (.inr (.inr rfl)))
theorem Ww(x y:R):Er (Wc x y).2:=by
 unfold Wc
 by_cases h:V x=true/\V y=true
 ·rw[aI h.1 h.2];exact Xj _
 ·rw[VK h];exact lD (by first | exact .inl rfl | exact .inr (.inl rfl) | exact .inr (.inr (.inl rfl)) | exact .inr (.inr (.inr rfl)))
theorem JB(x y:R):Er (MUL x y).2:=by
 unfold MUL
 by_cases h:V x=true/\V y=true
 ·rw[W5 h.1 h.2];exact Xj _
 ·rw[VM h];exact lD (by first | exact .inl rfl | exact .inr (.inl rfl) | exact .inr (.inr (.inl rfl)) | exact .inr (.inr (.inr rfl)))
theorem GP(x y:R)(h0:y.fN≠0):Er (DIV x y).2:=by
 unfold DIV
 by_cases h:V x=true/\V y=true
 ·rw[aJ h.1 h.2 h0];exact Xj _
 ·rw[VN h];exact lD (by first | exact .inl rfl | exact .inr (.inl rfl) | exact .inr (.inr (.inl rfl)) | exact .inr (.inr (.inr rfl)))
theorem oT{e:Int}{r:R×Int}(h1:Er e)(h2:Er r.2):Er (CD e r).2:=by
 unfold CD;split
 ·exact h1
 ·split <;> exact h2
theorem GQ(c:List B)(t:R):Er (nh c t).2:=by
 unfold nh
 by_cases h:VC c=true/\GR t=true
 ·rw[KN h.1 h.2]
  show Er (if c.all (br (val t)) then(sT (AT c (val t)),0) else(⟨0,0⟩,3):R×Int).2
  split <;> exact lD (by first | exact .inl rfl | exact .inr (.inl rfl) | exact .inr (.inr (.inl rfl)) | exact .inr (.inr (.inr rfl)))
 ·rw[Ji h];exact lD (by first | exact .inl rfl | exact .inr (.inl rfl) | exact .inr (.inr (.inl rfl)) | exact .inr (.inr (.inr rfl)))
theorem GT(c:List B):Er (cr c).2:=by
 unfold cr
 cases h:VC c with
 | true=>
  have:=YG h
  split at this
  ·obtain⟨r,e,_⟩:=this
   rw[e];exact lD (by first | exact .inl rfl | exact .inr (.inl rfl) | exact .inr (.inr (.inl rfl)) | exact .inr (.inr (.inr rfl)))
  ·rw[this];exact lD (by first | exact .inl rfl | exact .inr (.inl rfl) | exact .inr (.inr (.inl rfl)) | exact .inr (.inr (.inr rfl)))
 | false=>rw[aN h];exact lD (by first | exact .inl rfl | exact .inr (.inl rfl) | exact .inr (.inr (.inl rfl)) | exact .inr (.inr (.inr rfl)))
theorem Wx(t:R):∀(l:List (List B)) (a:R×Int),Er a.2->Er (dR t l a).2
 | [],a,h=>h
 | c::l,a,h=>by
  rw[dR]
  refine Wx t l _ (oT ?_ (lE _ _))
  split
  ·exact GQ c t
  ·exact h
theorem dv_er{l:List (List B)}{s:SV}(h0:s.fR.fN≠0){e:Int}(he:Er e)(t:R):Er (dv l s e t).2:=by
 unfold dv
 exact oT (oT (oT (Wx _ _ _ he) (GP _ _ h0)) (Ww _ _)) (lE _ _)
theorem bv_er{l:List (List B)}{s:SV}{e:Int}(he:Er e)(t:R):Er (bv l s e t).2:=by
 unfold bv
 have h:=Wx t l (Z1,e) he
 simp only
 split
 ·exact h
 ·exact oT (oT (oT h (Ww _ _)) (JB _ _)) (Ww _ _)
theorem JC{f:Int->R->R×Int}(hf:∀ e t,Er e->Er (f e t).2)(P:List R):Er (YI f P).2:=by
 have h:∀(P:List R) (s:List R×Int),Er s.2->Er (P.foldl (mv f) s).2:=by
  intro P
  induction P with
  | nil=>intro s h;exact h
  | cons p P ih=>intro s h;rw[List.foldl_cons];exact ih _ (hf _ _ h)
 have:=h P ([],0) (lD (.inl rfl))
 unfold YI
 simp only
 split
 ·exact this
 ·exact lD (by first | exact .inl rfl | exact .inr (.inl rfl) | exact .inr (.inr (.inl rfl)) | exact .inr (.inr (.inr rfl)))
theorem Wy:∀(l:List (List B)) (a:R×Int),Er a.2->match ni l a with | .inl e=>Er e | .inr r=>Er r.2
 | [],a,h=>h
 | c::l,a,h=>by
  rw[ni]
  split
  ·rename_i e he
   split at he
   ·injection he with he;subst he;exact GT c
   ·have:=Wy l _ (oT h (lE a.1 (YJ c).1));rw[he] at this;exact this
  ·rename_i e he
   split at he
   ·cases he
   ·have:=Wy l _ (oT h (lE a.1 (YJ c).1));rw[he] at this;exact this
theorem JE(l:List (List B))(s:SV):Er (pj l s):=by
 unfold pj
 split
 ·exact lD (by first | exact .inl rfl | exact .inr (.inl rfl) | exact .inr (.inr (.inl rfl)) | exact .inr (.inr (.inr rfl)))
 ·have h:=Wy l (Z1,0) (lD (.inl rfl))
  split
  ·rename_i e he;rw[he] at h;exact h
  ·rename_i r he;rw[he] at h
   split
   ·exact h
   ·split <;> exact lD (by first | exact .inl rfl | exact .inr (.inl rfl) | exact .inr (.inr (.inl rfl)) | exact .inr (.inr (.inr rfl)))
theorem DL_er(l:List (List B))(s:SV)(h0:s.fR.fN≠0):Er (DL l s).2:=by
 unfold DL
 split
 ·exact JC (fun e t he=>dv_er h0 he t) _
 ·exact JE l s
theorem BL_er(l:List (List B))(s:SV):Er (BL l s).2:=by
 unfold BL
 split
 ·exact JC (fun e t he=>bv_er he t) _
 ·exact JE l s
theorem Xk{e:Int}{r:R×Int}(h1:Er e)(h2:Er r.2):Er (DO e r).2:=by
 unfold DO;simp only;split
 ·exact h2
 ·exact h1
theorem CU_er{c:Cf}{rs:List (List Hop)}{bu:BM}{de:DM}{e:Int}{p:Pl}(he:Er e):Er (CU c rs bu de e p).2.2.1:=by
 have h1:∀(l:List Int) (s:CS),Er s.e->Er (l.foldl (t6 c rs de p) s).e:=by
  intro l
  induction l with
  | nil=>intro s h;exact h
  | cons v l ih=>
   intro s h;rw[List.foldl_cons];refine ih _ ?_
   unfold t6;simp only
   split
   ·split
    ·exact Xk (Xk h (JB _ _)) (lE _ _)
    ·exact h
   ·exact h
 have h2:∀(bu:BM) (l:List Int) (s:GS),Er s.e->Er (l.foldl (gst c bu p) s).e:=by
  intro bu l
  induction l with
  | nil=>intro s h;exact h
  | cons v l ih=>intro s h;rw[List.foldl_cons];exact ih _ (Xk (Xk h (lE _ _)) (lE _ _))
 have h3:∀(lk:List (Int×List Int)) (bu:BM) (l:List Int) (s:List (List B)×Int),Er s.2->Er (l.foldl (lA c lk bu p) s).2:=by
  intro lk bu l
  induction l with
  | nil=>intro s h;exact h
  | cons q l ih=>
   intro s h;rw[List.foldl_cons];refine ih _ ?_
   unfold lA;split
   ·exact h
   ·exact h2 _ _ _ h
 unfold CU
 exact h3 _ _ _ _ (h1 _ _ he)
theorem z1lJ{e a b:Int}(h1:Er e)(h2:Er a)(h3:Er b):fe e a b=352\/Er (fe e a b):=by
 unfold fe er Er at *
 repeat' split
 all_goals omega
theorem zW4{c:Cf}{rs:List (List Hop)}:∀(l:List Pl) (s:WS) (e:Int),s.e=0->oC c rs l s = .inr e->e≠350
 | [],s,e,_,h=>by cases h
 | p::l,s,e,h0,h=>by
  rw[oC] at h
  split at h
  ·injection h with h;subst h
   show fe _ _ _≠350
   rcases z1lJ (CU_er (c:=c) (rs:=rs) (bu:=s.bu) (de:=s.de) (p:=p) (e:=s.e) (by rw[h0];exact lD (by first | exact .inl rfl | exact .inr (.inl rfl) | exact .inr (.inr (.inl rfl)) | exact .inr (.inr (.inr rfl))))) (DL_er (CU c rs s.bu s.de s.e p).1 (srv c p) (by show(1:Int)≠0;decide)) (BL_er (CU c rs s.bu s.de s.e p).1 (srv c p)) with h | h
   ·rw[h];decide
   ·unfold Er at h;omega
  ·rename_i hn
   exact zW4 l _ e (by simpa using hn) h
end
section
variable {rs:List (List Hop)}{net:Int}{p:Pl}{D:Pl->Int}{l1 l2:List Pl}{r:List Hop}
/-! ### all ports -/
def ik(c:Cf)(rs:List (List Hop))(D:Pl->Int)(p:Pl):Int:=BZ (uy c (th c rs D p)) (wj c p.fQ)
def ti(c:Cf)(rs:List (List Hop))(D:Pl->Int)(p:Pl):PB:=HB c (uy c (th c rs D p)) (sQ c (th c rs D p)) p
def dD(de:DM):Pl->Int:=fun q=>xx de q 0
def mX(c:Cf)(rs:List (List Hop)):List Pl->DM->List PB->Option (DM×List PB)
 | [],de,out=>some (de,out)
 | p::l,de,out=>if ik c rs (dD de) p<=32768 then mX c rs l (xT de p (ti c rs (dD de) p).yf) (out++[ti c rs (dD de) p]) else none
structure HI (c:Cf) (ps:List Pl) (D:Pl->Int):Prop where
 i:∀ q∈ps,j7 c q.ya+wj c q.fQ<=D q/\D q<=33768
 o:∀ q,q∉ps->D q=0
theorem wM.clo{c:Cf}(hv:VA c net rs)(h:wM rs (l1++p::l2))(hr:r∈rs){x:Hop}(hx:x∈r)(hp:pk x∈l1\/pk x=p){g:Hop}(hg:g∈r)(e:g.fX=x.ya):pk g∈l1:=by
 have hpr:sE rs (pk x) (pk g):=(ig hv).1 ⟨r,hr,g,hg,x,hx,e,rfl,rfl⟩
 rcases hp with hp | hp
 ·obtain⟨a,b,e2⟩:=List.append_of_mem hp
  rw[e2]
  have:=h a (pk x) (b++p::l2) (by rw[e2];simp) _ hpr
  exact List.mem_append_left _ this
 ·exact h l1 p l2 rfl _ (hp▸hpr)
theorem HI.rng{c:Cf}(hS:Small c)(hv:VA c net rs){ps:List Pl}(h:HI c ps D)(hr:r∈rs){x:Hop}(hx:x∈r):0<=D (pk x)/\D (pk x)<=33768:=by
 have hh:=(hv.each r hr).hop hS hx
 by_cases hq:pk x∈ps
 ·have:=h.i _ hq
  have e1:(pk x).ya=x.ya:=rfl
  have e2:(pk x).fQ=x.fQ:=rfl
  rw[e1,e2] at this
  have:=hh.s0;have:=hh.d0
  omega
 ·rw[h.o _ hq];omega
theorem HI.jn0{c:Cf}(hS:Small c)(hv:VA c net rs)(ho:wM rs (l1++p::l2))(h:HI c l1 D)(hr:r∈rs):∀ x∈r,(pk x∈l1\/pk x=p)->0<=jn c D r x.ya:=by
 have Cs:=hv.each r hr
 refine Cs.ind (P:=fun x=>(pk x∈l1\/pk x=p)->0<=jn c D r x.ya) (fun x hx e _=>?_) (fun g hg x hx e ih hp=>?_)
 ·rw[e,Cs.jn_start];exact Int.le_refl _
 ·have hgm:=ho.clo hv hr hx hp hg e
  have h1:=h.i _ hgm
  have h2:=ih (.inl hgm)
  rw[<- e,Cs.jn_next D hg]
  have e1:(pk g).ya=g.ya:=rfl
  have e2:(pk g).fQ=g.fQ:=rfl
  rw[e1,e2] at h1
  omega
theorem KQ{c:Cf}(hS:Small c)(hv:VA c net rs){M:Int}(hM:0<=M)(hr:r∈rs)(hD:∀ h∈r,-M<=D (pk h)/\D (pk h)<=M)(n:Int) : -(32*(M+1016))<=jn c D r n/\jn c D r n<=32*(M+1016):=by
 have h:=nO (c:=c) (D:=D) hS (hv.each r hr) hM hD r.length n
 rw[List.take_of_length_le (Nat.le_refl _)] at h
 exact h
theorem Wz{c:Cf}{x:Fw}(hx:x∈th c rs D p):∃ h∈nth rs x.v,nth rs x.v∈rs/\0<=x.v/\x.v<rs.length/\pk h=p/\x.j=jn c D (nth rs x.v) h.ya/\x.k=pm (nth rs x.v) p:=by
 obtain⟨v,v0,v1,hu,rfl⟩:=dW.1 hx
 obtain⟨h,hh,e⟩:=pN.1 hu
 refine⟨h,hh,w4 v0 v1,v0,v1,e,?_,rfl⟩
 rw[<- e];rfl
theorem HI.ok{c:Cf}(hS:Small c)(hv:VA c net rs)(ho:wM rs (l1++p::l2))(h:HI c l1 D):FwOK c (th c rs D p):=by
 refine QH hS hv fun x hx=>?_
 obtain⟨y,hy,hr,_,_,e,ej,_⟩:=Wz hx
 have h1:=h.jn0 hS hv ho hr y hy (.inr e)
 have h2:=KQ (c:=c) (D:=D) hS hv (M:=33768) (by omega) hr (fun z hz=>by have:=h.rng hS hv hr hz;omega) y.ya
 rw[ej];omega
theorem Gu{c:Cf}(hv:fr c){l:List Fw}(hl:FwOK c l){x:Fw}(hx:x∈l){t:Int}(h0:0<=t)(h1:t<=4294967296):1<=uy c l t:=by
 have hb:=(sF hv hl hx h0 h1).1
 have hk:=hl.k0 x hx
 have hm:=hv.mx (hl.v0 x hx).1 (hl.v0 x hx).2
 have vC:x∈l.filter fun y=>decide (y.k=x.k):=List.mem_filter.2 ⟨hx,by simp⟩
 have hg:1<=mM c l t x.k:=by
  have:=Wq (f:=fun x=>oo c x t) (l:=l.filter fun y=>decide (y.k=x.k)) (fun y hy=>by have:=(sF hv hl (List.mem_filter.1 hy).1 h0 h1).1;omega) vC
  unfold mM;omega
 have hw:1<=mN c l x.k:=by
  have:=Kt (x:=mx c x.v) (l:=(l.filter fun y=>decide (y.k=x.k)).map fun x=>mx c x.v) (List.mem_map.2 ⟨x,vC,rfl⟩)
  unfold mN;omega
 have hgv:1<=fc c l t x.k:=by
  have hd:0<=t / max 1 (wj c x.k):=Int.ediv_nonneg h0 (by omega)
  unfold fc;split <;> omega
 have:=Wq (f:=fc c l t) (l:=Wr c) (fun L _=>(rn hv hl h0 h1).1) (x:=x.k) (by unfold Wr;exact mL.2 ⟨by omega,by push_cast;omega⟩)
 unfold uy;omega
theorem nk{c:Cf}(hv:fr c){l:List Fw}(hl:FwOK c l):0<=sQ c l/\sQ c l<=72:=by
 unfold sQ
 refine⟨iH _,VU (by omega) fun x hx=>?_⟩
 obtain⟨y,hy,rfl⟩:=List.mem_map.1 hx
 exact(hv.mx (hl.v0 y hy).1 (hl.v0 y hy).2).2.1
theorem GU{c:Cf}(hS:Small c)(hv:VA c net rs)(hp:p∈PS rs):∃ r∈rs,∃ h∈r,pk h=p/\HV c h:=by
 obtain⟨r,hr,h,hh,e⟩:=(rm rs p).1 hp
 exact⟨r,hr,h,hh,e,(hv.each r hr).hop hS hh⟩
theorem dY{c:Cf}(hS:Small c)(hv:VA c net rs)(hp:p∈PS rs):(1<=wj c p.fQ/\wj c p.fQ<=16)/\(0<=j7 c p.ya/\j7 c p.ya<=1000):=by
 obtain⟨r,hr,h,hh,rfl,hx⟩:=GU hS hv hp
 exact⟨⟨hx.s0,hx.s1⟩,⟨hx.d0,hx.d1⟩⟩
theorem fw_ex{c:Cf}{net:Int}(hp:p∈PS rs):∃ x,x∈th c rs D p:=by
 obtain⟨r,hr,h,hh,e⟩:=(rm rs p).1 hp
 obtain⟨i,i0,i1,rfl⟩:=uX hr
 exact⟨_,dW.2 ⟨i,i0,i1,pN.2 ⟨h,hh,e⟩,rfl⟩⟩
theorem Ky{c:Cf}(hS:Small c)(hv:VA c net rs)(hV:fr c)(ho:wM rs (l1++p::l2))(hp:p∈PS rs){de:DM}(h:HI c l1 (dD de)):
  mf c rs p de=some (if ik c rs (dD de) p<=32768 then(ti c rs (dD de) p,0) else(⟨0,0,0,0⟩,360)):=by
 have zk:=h.ok hS hv ho
 obtain⟨fs,e,ht⟩:=Vi (p:=p) (de:=de) hS hv hV (fun r hr x hx=>by have:0<=xx de (pk x) 0/\xx de (pk x) 0<=33768:=h.rng hS hv hr hx;omega) zk.j0
 obtain⟨h1,h2⟩:=dY hS hv hp
 exact Kw hS (hv.pi hS hp) ⟨fun t t0 t1=>YR hS hV zk t0 t1⟩ e (nk hV zk) ht h1 h2
theorem HI.put{c:Cf}(hS:Small c)(hv:VA c net rs)(hV:fr c)(ho:wM rs (l1++p::l2))(hp:p∈PS rs){de:DM}(h:HI c l1 (dD de))(hb:ik c rs (dD de) p<=32768):HI c (l1++[p]) (dD (xT de p (ti c rs (dD de) p).yf)):=by
 have zk:=h.ok hS hv ho
 obtain⟨h1,h2⟩:=dY hS hv hp
 obtain⟨x,hx⟩:=fw_ex (c:=c) (net:=net) (D:=dD de) hp
 have hd:=Kx (A:=uy c (th c rs (dD de) p)) (most:=sQ c (th c rs (dD de) p)) (fun t t' _ ht=>Kv hV zk ht) (Gu hV zk hx (t:=0) (by omega) (by omega)) h1 h2 hb
 refine⟨fun q hq=>?_,fun q hq=>?_⟩
 ·unfold dD;rw[qP]
  by_cases e:q=p
  ·rw[if_pos e,e];exact hd
  ·rw[if_neg e]
   rcases List.mem_append.1 hq with hq | hq
   ·exact h.i q hq
   ·exact absurd (List.mem_singleton.1 hq) e
 ·unfold dD;rw[qP,if_neg (fun e=>hq (by rw[e];simp))]
  exact h.o q fun hm=>hq (List.mem_append_left _ hm)
theorem nl{c:Cf}{net:Int}{rs:List (List Hop)}{l:List Pl}{e0:Int}{k:List PB->Option (yw×Int)}(hS:Small c)(hv:VA c net rs)(hV:fr c)(D1:∀ p∈l,p∈PS rs)(ho:wM rs l)(zs:l.length<=100000):
  ∀(n:Nat) (v:Int) (de:DM) (out:List PB),0<=v->v<=l.length->l.length<n+v->out.length=v->HI c (l.take v.toNat) (dD de)->
   jv (l.map fun p=>(⟨p.ya,p.fQ,0,0⟩:ye),e0) c rs k n v de out=match mX c rs (l.drop v.toNat) de out with | some t=>k t.2 | none=>some (⟨[],[]⟩,360)
 | 0,v,de,out,h0,h1,h2,h3,h4=>by omega
 | n+1,v,de,out,h0,h1,h2,h3,h4=>by
  rw[jv]
  have AM:(((l.map fun p=>(⟨p.ya,p.fQ,0,0⟩:ye)).length:Nat):Int)=l.length:=by rw[List.length_map]
  simp only[AM]
  by_cases h:v<l.length
  ·have Dj:l=l.take v.toNat++nth l v::l.drop (v.toNat+1):=by rw[<- va h0 h,List.take_append_drop]
   have zN:=D1 _ (w4 h0 h)
   rw[if_pos (decide_eq_true h),xr ⟨h0,h⟩,va h0 h,mX]
   have en:nth (l.map fun p=>(⟨p.ya,p.fQ,0,0⟩:ye)) v=⟨(nth l v).ya,(nth l v).fQ,0,0⟩:=by
    rw[jT ⟨h0,by rw[List.length_map];exact h⟩,List.getElem_map,<- jT ⟨h0,h⟩]
   have Ci:wM rs (l.take v.toNat++nth l v::l.drop (v.toNat+1)):=Dj▸ho
   rw[en]
   have ep:(⟨(nth l v).ya,(nth l v).fQ⟩:z7)=nth l v:=rfl
   simp only[ep]
   rw[Ky hS hv hV Ci zN h4,oB]
   by_cases hb:ik c rs (dD de) (nth l v)<=32768
   ·rw[if_pos hb,if_pos hb,if_neg (by simp)]
    have Cq:(out++[ti c rs (dD de) (nth l v)]).length=v+1:=by rw[List.length_append,List.length_singleton];push_cast;omega
    rw[xr (by rw[Cq];omega),xD (x:=v+1) (by omega)]
    have h5:=h4.put hS hv hV Ci zN hb
    have et:l.take (v+1).toNat=l.take v.toNat++[nth l v]:=by
     rw[show(v+1).toNat=v.toNat+1 by omega,List.take_succ_eq_append_getElem (by omega),jT ⟨h0,h⟩]
    rw[<- et] at h5
    rw[nl hS hv hV D1 ho zs n (v+1) _ _ (by omega) (by omega) (by omega) Cq h5,show(v+1).toNat=v.toNat+1 by omega]
   ·rw[if_neg hb,if_neg hb,if_pos (by simp)]
  ·rw[if_neg (by simpa using h),List.drop_eq_nil_of_le (by omega),mX]
theorem nQ{c:Cf}{rs:List (List Hop)}:∀(l:List Pl) (de:DM) (out:List PB) (t:DM×List PB),mX c rs l de out=some t->t.2.map we=out.map we++l/\t.2.length=out.length+l.length
 | [],de,out,t,h=>by injection h with h;subst h;simp
 | p::l,de,out,t,h=>by
  rw[mX] at h
  split at h
  ·obtain⟨h1,h2⟩:=nQ l _ _ t h
   rw[h1,h2]
   refine⟨?_,by simp;omega⟩
   rw[List.map_append]
   simp only[List.map_cons,List.map_nil,List.append_assoc,List.cons_append,List.nil_append]
   rfl
  ·cases h
theorem WA{l:List PB}(hn:(l.map we).Nodup)(hs:l.length<=1000000)(hb:∀ b∈l,-1000000000<=b.ya/\b.ya<=1000000000 /\ -1000000000<=b.fQ/\b.fQ<=1000000000):
  wc l (fun y0 y1=>xQ y0 y1)=some (w6 xQ l)/\(w6 xQ l).Pairwise fun a b=>¬fV (we b) (we a):=by
 have hp:∀ x∈l,∀ y∈l,∃ v,xQ x y=some v/\(v<0↔fV (we x) (we y))/\(v<=0↔¬fV (we y) (we x)):=by
  intro x hx y hy
  have:=hb x hx;have:=hb y hy
  unfold xQ fV we
  simp only[ne_eq,decide_eq_true_eq]
  by_cases e:x.ya=y.ya
  ·rw[if_neg (by simpa using e),xD (by omega)]
   exact⟨_,rfl,by omega,by omega⟩
  ·rw[if_pos (by simpa using e),xD (by omega)]
   exact⟨_,rfl,by omega,by omega⟩
 have Aq:∀ x∈l,∀ y∈l,we x=we y->x=y:=by
  intro x hx y hy e
  obtain⟨i,hi,rfl⟩:=List.getElem_of_mem hx
  obtain⟨j,hj,rfl⟩:=List.getElem_of_mem hy
  have h1:(l.map we)[i]'(by simpa using hi)=(l.map we)[j]'(by simpa using hj):=by simpa using e
  have:=(List.getElem_inj (h₀:=by simpa using hi) (h₁:=by simpa using hj) hn).1 h1
  subst this;rfl
 obtain⟨ho,zH⟩:=co (p:=xQ) (lt:=fun a b=>fV (we a) (we b)) (l:=l) hp (fun x y=>bh _ _) (fun x y z=>XV _ _ _) (fun x hx y hy h1 h2=>Aq x hx y hy (aD _ _ h1 h2))
 refine⟨?_,zH⟩
 unfold wc gb qN
 rw[eD (by omega),xr (by omega),oB]
 have hb:=bf l.length (by omega)
 rw[Int.toNat_natCast,xr ⟨⟨rfl,rfl⟩,by omega,by omega,by omega⟩,xr ho,oB]
theorem il:∀ {a b:List Pl},a.Perm b->a.Nodup->a.Pairwise (fun x y=>¬fV y x)->b.Pairwise (fun x y=>¬fV y x)->a=b
 | [],b,hp,_,_,_=>by have:=hp.length_eq;cases b with | nil=>rfl | cons y b=>simp at this
 | x::a,[],hp,_,_,_=>by have:=hp.length_eq;simp at this
 | x::a,y::b,hp,hn,ha,hb=>by
  have hxy:x=y:=by
   have h1:x∈y::b:=hp.subset (by simp)
   have h2:y∈x::a:=hp.symm.subset (by simp)
   rcases List.mem_cons.1 h1 with h1 | h1
   ·exact h1
   rcases List.mem_cons.1 h2 with h2 | h2
   ·exact h2.symm
   exact aD _ _ ((List.pairwise_cons.1 hb).1 x h1) ((List.pairwise_cons.1 ha).1 y h2)
  subst hxy
  rw[il hp.cons_inv (List.nodup_cons.1 hn).2 (List.pairwise_cons.1 ha).2 (List.pairwise_cons.1 hb).2]
theorem dZ(hr:∀ r∈rs,r.length<=1000)(hl:rs.length<=100):(PS rs).Pairwise fun a b=>¬fV b a:=by
 refine(XW ?_).2
 have h1:=bi (bj rs) []
 have h2:=nF hr
 have h3:rs.length*1000<=100*1000:=Nat.mul_le_mul_right _ hl
 simp only[List.length_nil] at h1
 omega
inductive HC (c:Cf) (net:Int) (rs:List (List Hop)):yw×Int->Prop
 | route:¬VA c net rs->HC c net rs (⟨[],[]⟩,310)
 | vl:VA c net rs->¬ii c->HC c net rs (⟨[],[]⟩,350)
 | cycle (s:List Pl):VA c net rs->ii c->tA rs s->HC c net rs (⟨[],[]⟩,351)
 | busy (l:List Pl):VA c net rs->ii c->l.Perm (PS rs)->wM rs l->mX c rs l [] []=none->HC c net rs (⟨[],[]⟩,360)
 | ok (l:List Pl) (t:DM×List PB):VA c net rs->ii c->l.Perm (PS rs)->wM rs l->mX c rs l [] []=some t->(w6 xQ t.2).map we=PS rs->HC c net rs (⟨w6 xQ t.2,EN c rs (w6 xQ t.2)⟩,0)
theorem HC_eq{c:Cf}(hf:FewP c rs):∃ x,gG c net rs=some x/\HC c net rs x:=by
 have hS:=hf.small
 have AX:∀ r∈rs,r.length<1000000000:=fun r hr=>by have:=hf.e r hr;omega
 have BS:=hf.r
 obtain⟨y,cy,hcp⟩:=QG (net:=net) hf
 unfold gG
 by_cases hv:VA c net rs
 ·have C6:=oh hf.e
  have h3:rs.length*40<=20*40:=Nat.mul_le_mul_right _ BS
  rw[cy]
  by_cases zg:ii c
  ·have hy:y.2≠350:=by
    cases hcp with
    | route h=>exact absurd hv h
    | vl _ h=>exact absurd zg h
    | cycle=>decide
    | err l e _ _ _ _ h _=>exact zW4 l w0 e rfl h
    | ok=>exact(show(0:Int)≠350 by decide)
   rcases Wv (net:=net) hf hv with⟨l,e1,e2,e3⟩ | ⟨s,e1,e2⟩
   ·have iS:=e1.length_eq
    rw[e3,oB,if_neg (by simp),oB,if_neg (by simpa using hy),if_neg (by simp)]
    refine w8 (P:=fun o=>∃ x,o=some x/\HC c net rs x) fun k hk=>?_
    have hL:=nl (l:=l) (e0:=0) (k:=k) hS hv zg.vls (fun p hp=>e1.subset hp) e2 (by omega) xC 0 [] [] (by omega) (by omega) (by rw[xN];omega) rfl ⟨by simp,fun q _=>rfl⟩
    simp only[Int.toNat_zero,List.drop_zero] at hL
    rw[hL]
    cases iB:mX c rs l [] [] with
    | none=>exact⟨_,rfl,.busy l hv zg e1 e2 iB⟩
    | some t=>
     obtain⟨o1,o2⟩:=nQ l [] [] t iB
     have Cq:t.2.length=l.length:=by rw[o2];simp
     have zI:t.2.map we=l:=by rw[o1];simp
     have Ap:(t.2.map we).Nodup:=by rw[zI];exact e1.nodup_iff.2 (mo rs)
     simp only
     have hso:=WA (l:=t.2) Ap (by omega) (fun b hb=>by
      have hm:we b∈PS rs:=e1.subset (by rw[<- zI];exact List.mem_map.2 ⟨b,hb,rfl⟩)
      have:=hv.pi hS hm
      have a:=this.l0;have b1:=this.l1;have d:=this.n0;have f:=this.n1
      have:=hS.l;have:=hS.m;have:=hS.s
      unfold nN at f
      have e4:(we b).ya=b.ya:=rfl
      have e5:(we b).fQ=b.fQ:=rfl
      omega)
     rw[hk,hso.1,oB,VT (net:=net) hS hv.each (by omega) (by rw[mj];omega),oB]
     have D2:((w6 xQ t.2).map we).Perm (PS rs):=by
      refine((vX _ _).map we).trans ?_
      rw[zI];exact e1
     refine⟨_,rfl,.ok l t hv zg e1 e2 iB (il D2 (D2.nodup_iff.2 (mo rs)) ?_ (dZ (fun r hr=>by have:=hf.e r hr;omega) (by omega)))⟩
     rw[List.pairwise_map]
     exact hso.2
   ·rw[e2,oB,if_neg (by simp),oB,if_neg (by simpa using hy),if_pos (by simp)]
    exact⟨_,rfl,.cycle s hv zg e1⟩
  ·have hy:y=(⟨[],[]⟩,350):=by
    cases hcp with
    | route h=>exact absurd hv h
    | vl _ h=>rfl
    | cycle _ _ h=>exact absurd h zg
    | err _ _ _ h=>exact absurd h zg
    | ok _ _ _ h=>exact absurd h zg
   subst hy
   rcases Wv (net:=net) hf hv with⟨l,e1,e2,e3⟩ | ⟨s,e1,e2⟩
   ·rw[e3,oB,if_neg (by simp),oB,if_pos (by simp)]
    exact⟨_,rfl,.vl hv zg⟩
   ·rw[e2,oB,if_neg (by simp),oB,if_pos (by simp)]
    exact⟨_,rfl,.vl hv zg⟩
 ·have ho:f7 c net rs=some ([],310):=by
   unfold f7
   obtain⟨b,q1,q2⟩:=lr hS (net:=net) (rs:=rs) AX (by omega)
   have hb:b=false:=by
    cases b with
    | false=>rfl
    | true=>exact absurd (q2.1 rfl) hv
   rw[q1,hb];rfl
  rw[ho,oB,if_pos (by simp)]
  exact⟨_,rfl,.route hv⟩
end
section
variable {net:Int}{rs:List (List Hop)}{D:Pl->Int}
/-! ### the delays that are computed: they satisfy their own equations -/
structure HF (c:Cf) (rs:List (List Hop)) (D:Pl->Int):Prop where
 b:∀ p∈PS rs,ik c rs D p<=32768
 d:∀ p∈PS rs,D p=(ti c rs D p).yf
 r:∀ p∈PS rs,j7 c p.ya+wj c p.fQ<=D p/\D p<=33768
 z:∀ p,p∉PS rs->D p=0
theorem e6{c:Cf}(hv:VA c net rs){l1 l2:List Pl}{p:Pl}(ho:wM rs (l1++p::l2)){D':Pl->Int}(h:∀ q∈l1,D q=D' q):th c rs D p=th c rs D' p:=by
 unfold th
 refine List.map_congr_left fun v hvm=>?_
 obtain⟨zZ,hu⟩:=List.mem_filter.1 hvm
 have Cs:=mL.1 zZ
 have hr:=w4 (l:=rs) (i:=v) (by omega) (by omega)
 obtain⟨x,hx,e⟩:=pN.1 hu
 have hn:p.ya=x.ya:=by rw[<- e];rfl
 unfold oD
 rw[hn,(hv.each _ hr).jn_eq (D:=D) (D':=D') (S:=fun q=>q∈l1\/q=p) (fun y hy hs g hg eg=>?_) x hx (.inr e)]
 have:=ho.clo hv hr hy hs hg eg
 exact⟨.inl this,h _ this⟩
theorem WE{c:Cf}{net:Int}{rs:List (List Hop)}(hS:Small c)(hv:VA c net rs)(hV:fr c):∀(l2 l1:List Pl) (de:DM) (out:List PB) (t:DM×List PB),(l1++l2).Nodup->(∀ p∈l1++l2,p∈PS rs)->wM rs (l1++l2)->HI c l1 (dD de)->mX c rs l2 de out=some t->
  (∀ q,q∉l2->dD t.1 q=dD de q)/\HI c (l1++l2) (dD t.1)/\(∀ p∈l2,ik c rs (dD t.1) p<=32768/\dD t.1 p=(ti c rs (dD t.1) p).yf)/\t.2=out++l2.map (ti c rs (dD t.1))
 | [],l1,de,out,t,hn,hp,ho,hi,h=>by
  injection h with h;subst h
  simpa using hi
 | p::l2,l1,de,out,t,hn,hp,ho,hi,h=>by
  rw[mX] at h
  split at h
  ·rename_i hb
   have zN:=hp p (by simp)
   have e1:(l1++[p])++l2=l1++p::l2:=by simp
   have zn:p∉l2:=by
    have:=(List.nodup_append.1 hn).2.1
    exact(List.nodup_cons.1 this).1
   have xv:∀ q∈l1,q≠p:=by
    intro q hq e
    exact(List.nodup_append.1 hn).2.2 q hq p (by simp) e
   have hl12:∀ q∈l1,q∉l2:=by
    intro q hq h2
    exact(List.nodup_append.1 hn).2.2 q hq q (List.mem_cons_of_mem _ h2) rfl
   obtain⟨k1,k2,k3,k4⟩:=WE hS hv hV l2 (l1++[p]) _ _ t (by rw[e1];exact hn) (by rw[e1];exact hp) (by rw[e1];exact ho) (hi.put hS hv hV ho zN hb) h
   have hag:∀ q∈l1,dD de q=dD t.1 q:=by
    intro q hq
    rw[k1 q (hl12 q hq)]
    unfold dD;rw[qP,if_neg (xv q hq)]
   have CX:=e6 hv ho hag
   have D3:ti c rs (dD de) p=ti c rs (dD t.1) p:=by unfold ti;rw[CX]
   have hbz:ik c rs (dD de) p=ik c rs (dD t.1) p:=by unfold ik;rw[CX]
   refine⟨fun q hq=>?_,by rw[<- e1];exact k2,fun q hq=>?_,?_⟩
   ·rw[k1 q fun hm=>hq (List.mem_cons_of_mem _ hm)]
    unfold dD;rw[qP,if_neg (fun e=>hq (by rw[e];simp))]
   ·rcases List.mem_cons.1 hq with rfl | hq
    ·refine⟨hbz▸hb,?_⟩
     rw[k1 q zn,<- D3]
     show xx (xT de q _) q 0=_
     rw[qP,if_pos rfl]
    ·exact k3 q hq
   ·rw[k4,D3];simp
  ·cases h
theorem e8{c:Cf}(hS:Small c)(hv:VA c net rs)(hV:fr c){l:List Pl}{t:DM×List PB}(hp:l.Perm (PS rs))(ho:wM rs l)(h:mX c rs l [] []=some t):HF c rs (dD t.1)/\t.2=l.map (ti c rs (dD t.1)):=by
 obtain⟨k1,k2,k3,k4⟩:=WE hS hv hV l [] [] [] t (by simpa using hp.nodup_iff.2 (mo rs)) (fun p hm=>hp.subset (by simpa using hm)) (by simpa using ho) ⟨by simp,fun q _=>rfl⟩ h
 simp only[List.nil_append] at *
 refine⟨⟨fun p hm=>(k3 p (hp.symm.subset hm)).1,fun p hm=>(k3 p (hp.symm.subset hm)).2,fun p hm=>k2.i p (hp.symm.subset hm),fun p hm=>k2.o p fun hq=>hm (hp.subset hq)⟩,k4⟩
theorem GV{c:Cf}(hv:VA c net rs)(hD:∀ p∈PS rs,j7 c p.ya+wj c p.fQ<=D p){r:List Hop}(hr:r∈rs):∀ x∈r,0<=jn c D r x.ya:=by
 have Cs:=hv.each r hr
 refine Cs.ind (P:=fun x=>0<=jn c D r x.ya) (fun x hx e=>?_) (fun g hg x hx e ih=>?_)
 ·rw[e,Cs.jn_start];exact Int.le_refl _
 ·have h1:=hD (pk g) ((rm rs _).2 ⟨r,hr,g,hg,rfl⟩)
  rw[<- e,Cs.jn_next D hg]
  have e1:(pk g).ya=g.ya:=rfl
  have e2:(pk g).fQ=g.fQ:=rfl
  rw[e1,e2] at h1
  omega
theorem HF.rng{c:Cf}(h:HF c rs D)(hS:Small c)(hv:VA c net rs){r:List Hop}(hr:r∈rs){x:Hop}(hx:x∈r):0<=D (pk x)/\D (pk x)<=33768:=by
 have hm:pk x∈PS rs:=(rm rs _).2 ⟨r,hr,x,hx,rfl⟩
 have h1:=h.r _ hm
 have h2:=dY hS hv hm
 omega
theorem HF.ok{c:Cf}(h:HF c rs D)(hS:Small c)(hv:VA c net rs)(p:Pl):FwOK c (th c rs D p):=by
 refine QH hS hv fun x hx=>?_
 obtain⟨y,hy,hr,_,_,e,ej,_⟩:=Wz hx
 have h1:=GV hv (fun p hm=>(h.r p hm).1) hr y hy
 have h2:=KQ (c:=c) (D:=D) hS hv (M:=33768) (by omega) hr (fun z hz=>by have:=h.rng hS hv hr hz;omega) y.ya
 rw[ej];omega
/-! ### less comes, less is delayed -/
end
section
variable {rs:List (List Hop)}
/-! ### the ends -/
theorem WF{b:PB}:∀ {l:List PB},(l.map we).Nodup->b∈l->xx (wx l) (we b) 0=b.yf
 | [],_,h=>by cases h
 | a::l,hn,h=>by
  show xx (xT (wx l) (we a) a.yf) (we b) 0=_
  rw[List.map_cons,List.nodup_cons] at hn
  rw[qP]
  by_cases e:we b=we a
  ·rw[if_pos e]
   rcases List.mem_cons.1 h with h | h
   ·rw[h]
   ·exact absurd (List.mem_map.2 ⟨b,h,e⟩) hn.1
  ·rw[if_neg e]
   rcases List.mem_cons.1 h with h | h
   ·exact absurd (by rw[h]) e
   ·exact WF hn.2 h
def QJ(c:Cf)(rs:List (List Hop))(D:Pl->Int)(ps:List PB):Prop:=ps.map we=PS rs/\∀ b∈ps,b=ti c rs D (we b)
theorem Gv{c:Cf}{D:Pl->Int}(p:Pl):we (ti c rs D p)=p:=rfl
theorem QJ.of{c:Cf}{l:List Pl}{t:DM×List PB}(h1:(w6 xQ t.2).map we=PS rs)(h2:t.2=l.map (ti c rs (dD t.1))):QJ c rs (dD t.1) (w6 xQ t.2):=by
 refine⟨h1,fun b hb=>?_⟩
 have hb:=(vX _ _).subset hb
 rw[h2] at hb
 obtain⟨p,hp,rfl⟩:=List.mem_map.1 hb
 rw[Gv]
theorem JF{α β:Type}{f:α->List β}{m:Nat}:∀ l:List α,(∀ x∈l,(f x).length<=m)->(l.flatMap f).length<=l.length*m
 | [],_=>by simp
 | x::l,h=>by
  rw[List.flatMap_cons,List.length_append,List.length_cons,Nat.succ_mul]
  have h1:=h x (by simp)
  have h2:=JF l fun y hy=>h y (List.mem_cons_of_mem _ hy)
  omega
theorem GW{c:Cf}{ps:List PB}(hl:rs.length<=20)(he:∀ r∈rs,r.length<=40):(EN c rs ps).length<=1000000:=by
 unfold EN
 have:=JF (f:=fun v=>w6 vj (VE c rs (wx ps) v)) (m:=40) (vJ 0 rs.length) (fun v hv=>by
  have h4:=mL.1 hv
  rw[mj]
  exact Nat.le_trans Jv (he _ (w4 (by omega) (by omega))))
 rw[lC] at this
 have h3:rs.length*40<=20*40:=Nat.mul_le_mul_right _ hl
 omega
theorem QJ.len{c:Cf}{D:Pl->Int}{ps:List PB}(h:QJ c rs D ps)(hl:rs.length<=20)(he:∀ r∈rs,r.length<=40):ps.length<=1000000:=by
 have h1:=oh he
 have h2:ps.length=(PS rs).length:=by rw[<- h.1,List.length_map]
 have h3:rs.length*40<=20*40:=Nat.mul_le_mul_right _ hl
 omega
/-! ### less is sent -/
end
section
/-! ### holistic.Jitters -/
theorem YS{ps:List PB}{k:(Nat×DM)->Option (Nat×DM)}(hl:ps.length<=1000000):∀(n:Nat) (i:Int) (m:DM),-1<=i->i<ps.length->i+1<n->
  wd (Nat×DM) ps (fun(x:Int×ye) (s:Nat×DM)=>chk (s.1=0) (fg x s.2)) k n i (0,m)=k (0,(ps.take (i+1).toNat).foldr (fun b m=>xT m (we b) b.yf) m)
 | 0,i,m,h0,h1,h2=>by omega
 | n+1,i,m,h0,h1,h2=>by
  rw[wd]
  by_cases h:i>=0
  ·rw[if_pos (decide_eq_true h),xr ⟨h,h1⟩]
   have e1:ps.take (i+1).toNat=ps.take i.toNat++[nth ps i]:=by
    rw[show(i+1).toNat=i.toNat+1 by omega,List.take_succ_eq_append_getElem (by omega),jT ⟨h,h1⟩]
   have ih:=YS (k:=k) hl n (i-1) (xT m (we (nth ps i)) (nth ps i).yf) (by omega) (by omega) (by omega)
   rw[show i-1+1=i by omega] at ih
   rw[e1,List.foldr_append]
   simp only[List.foldr_cons,List.foldr_nil]
   rw[<- ih,xD (x:=i-1) (by omega)]
   rfl
  ·rw[if_neg (by simpa using h),show(i+1).toNat=0 by omega]
   simp
theorem Kz{ps:List PB}(hl:ps.length<=1000000):fq ps=some (wx ps):=by
 unfold fq vK vA
 have hF:=xN
 generalize xC=N at hF ⊢
 refine w8 (P:=fun o=>o=some (wx ps)) fun k hk=>?_
 rw[oB]
 refine w8 (P:=fun o=>(o.bind fun(y:Nat×DM)=>k y.2)=some (wx ps)) fun k2 lN=>?_
 rw[xD (by omega),YS hl N _ [] (by omega) (by omega) (by omega),lN,oB,hk]
 rw[show((ps.length:Int)-1+1).toNat=ps.length by omega,List.take_of_length_le (Nat.le_refl _)]
 rfl
def JT(c:Cf)(rs:List (List Hop))(D:Pl->Int):List (List Int):=rs.map fun r=>r.map fun h=>jn c D r h.ya
theorem ee{c:Cf}{net:Int}{rs:List (List Hop)}{de:DM}{k:List (List Int)->Option (List (List Int))}(hS:Small c)(hv:VA c net rs)(hD:∀ r∈rs,∀ h∈r,-1099511627776<=xx de (pk h) 0/\xx de (pk h) 0<=1099511627776):∀(n:Nat) (v:Int),0<=v->v<=rs.length->rs.length<n+v->
  qH rs c de k n (JT c (rs.take v.toNat) (dD de)) v=k (JT c rs (dD de))
 | 0,v,h0,h1,h2=>by omega
 | n+1,v,h0,h1,h2=>by
  have hm:=hv.most
  rw[qH]
  by_cases h:v<rs.length
  ·rw[if_pos (decide_eq_true h),xr ⟨h0,h⟩,aU hS (hv.each _ (w4 h0 h)) (hD _ (w4 h0 h)),oB]
   have e:JT c (rs.take v.toNat) (dD de)++[(nth rs v).map fun h=>jn c (fun q=>xx de q 0) (nth rs v) h.ya]=JT c (rs.take (v+1).toNat) (dD de):=by
    rw[show(v+1).toNat=v.toNat+1 by omega,List.take_succ_eq_append_getElem (by omega),<- jT ⟨h0,h⟩]
    unfold JT;rw[List.map_append];rfl
   have iS:(JT c (rs.take (v+1).toNat) (dD de)).length<=16:=by
    unfold JT;rw[List.length_map,List.length_take];omega
   rw[e,xr (by omega),xD (x:=v+1) (by omega)]
   exact ee hS hv hD n (v+1) (by omega) (by omega) (by omega)
  ·rw[if_neg (by simpa using h),List.take_of_length_le (by omega)]
theorem oU{c:Cf}{rs:List (List Hop)}{ps:List PB}(hf:FewP c rs)(hl:ps.length<=1000000)(hD:∀ r∈rs,∀ h∈r,-1099511627776<=xx (wx ps) (pk h) 0/\xx (wx ps) (pk h) 0<=1099511627776):
  (VA c 0 rs\/VA c 1 rs)/\j5 c rs ps=some (JT c rs (dD (wx ps)))\/(¬VA c 0 rs/\¬VA c 1 rs)/\j5 c rs ps=some []:=by
 have hS:=hf.small
 have AX:∀ r∈rs,r.length<1000000000:=fun r hr=>by have:=hf.e r hr;omega
 have BS:=hf.r
 obtain⟨b0,p1,p2⟩:=lr hS (net:=0) (rs:=rs) AX (by omega)
 obtain⟨b1,q1,q2⟩:=lr hS (net:=1) (rs:=rs) AX (by omega)
 have xA:∀ net,VA c net rs->((fq ps).bind fun x=>vk (fun(out:List (List Int))=>some out) fun k=>qH rs c x k xC ([]:List (List Int)) 0)=some (JT c rs (dD (wx ps))):=by
  intro net hv
  rw[Kz hl,oB]
  have hF:=xN
  generalize xC=N at hF ⊢
  refine w8 (P:=fun o=>o=some (JT c rs (dD (wx ps)))) fun k hk=>?_
  have:=ee (k:=k) hS hv hD N 0 (by omega) (by omega) (by omega)
  simp only[Int.toNat_zero,List.take_zero] at this
  rw[show([]:List (List Int))=JT c [] (dD (wx ps)) from rfl,this,hk]
 unfold j5
 rw[p1,q1,oB]
 cases b0 with
 | true=>
  have hv:=p2.1 rfl
  simp only[Bool.not_true,Bool.false_eq_true,if_false,oB]
  exact .inl ⟨.inl hv,xA 0 hv⟩
 | false=>
  have hn:¬VA c 0 rs:=fun h=>by have:=p2.2 h;cases this
  cases b1 with
  | true=>
   have hv:=q2.1 rfl
   simp only[Bool.not_false,if_true,oB,Bool.not_true,Bool.false_eq_true,if_false]
   exact .inl ⟨.inr hv,xA 1 hv⟩
  | false=>
   have DV:¬VA c 1 rs:=fun h=>by have:=q2.2 h;cases this
   simp only[Bool.not_false,if_true,oB]
   exact .inr ⟨⟨hn,DV⟩,trivial⟩
end
section
variable {net:Int}
/-! ### the reference's tests -/
theorem KA{c:Cf}(h:Small c){n:Int}(hn : -9223372036854775808<=n/\n<=9223372036854775807):sD c n=fm c n:=by
 have:=h.m;have:=h.s
 unfold sD fm
 rw[bc h]
 unfold nN
 rw[xD (x:=(c.fM.length:Int)+c.fS.length) (by omega)]
 by_cases h1:n<0
 ·rw[if_neg (by simp only[Bool.and_eq_true,decide_eq_true_eq];omega),if_neg (by simp only[Bool.and_eq_true,decide_eq_true_eq];omega),if_pos (decide_eq_true h1)]
  rfl
 ·rw[if_neg (c:=decide (n<0)=true) (by rw[decide_eq_true_eq];exact h1)]
  simp only[oB]
  by_cases h2:n<c.fM.length
  ·rw[if_pos (by simp only[Bool.and_eq_true,decide_eq_true_eq];omega),if_neg (by rw[decide_eq_true_eq];omega),if_pos (decide_eq_true h2)]
  ·rw[if_neg (by simp only[Bool.and_eq_true,decide_eq_true_eq];omega)]
   by_cases h3:n<(c.fM.length:Int)+c.fS.length
   ·rw[if_pos (by simp only[Bool.and_eq_true,decide_eq_true_eq];omega),if_neg (by rw[decide_eq_true_eq];omega),if_neg (by rw[decide_eq_true_eq];exact h2)]
   ·rw[if_neg (by simp only[Bool.and_eq_true,decide_eq_true_eq];omega),if_pos (by rw[decide_eq_true_eq];omega)]
theorem YT{c:Cf}(h:Small c){nm:ByteArray}{k:Option Int}:∀(f:Nat) (v:Int),0<=v->v<=nN c->kZ c nm k f v=qb (nN c) c nm k f v
 | 0,v,h0,h1=>by rw[kZ,qb]
 | f+1,v,h0,h1=>by
  have hb:nN c<=2000:=by have:=h.m;have:=h.s;unfold nN;omega
  have e:i64 ((c.fM.length:Int)+c.fS.length)=nN c:=by unfold nN at *;exact xD (by omega)
  rw[kZ,qb,e,KA h (by omega)]
  by_cases h3:v<nN c
  ·rw[xD (x:=v+1) (by omega),YT h f (v+1) (by omega) (by omega)]
  ·rw[if_neg (by rw[decide_eq_true_eq];exact h3),if_neg (by rw[decide_eq_true_eq];exact h3)]
theorem WG{c:Cf}(h:Small c)(nm:ByteArray):uU c nm=qT c nm:=by
 unfold uU qT
 rw[bc h]
 simp only[oB]
 have hb:0<=nN c:=by unfold nN;omega
 simp only[YT h _ 0 (by omega) hb]
theorem VY{c:Cf}(h:Small c){n:Int}(hn : -1<=n/\n<nN c):tO c net n=some (decide (sO c net n)):=by
 have:=h.m;have:=h.s
 unfold tO
 unfold nN at hn
 by_cases h0:n<0
 ·rw[if_pos (decide_eq_true h0),decide_eq_false];exact fun hc=>by have:=hc.1;omega
 ·rw[if_neg (by rw[decide_eq_true_eq];exact h0)]
  by_cases h1:n<c.fM.length
  ·rw[if_pos (decide_eq_true h1),decide_eq_true];exact⟨by omega,.inl h1⟩
  ·rw[if_neg (by rw[decide_eq_true_eq];exact h1),xD (by omega),xr ⟨by omega,by omega⟩]
   refine congrArg some ?_
   rw[Bool.eq_iff_iff,decide_eq_true_iff]
   unfold sO sw nM
   simp only[Bool.and_eq_true,decide_eq_true_eq]
   constructor
   ·rintro⟨⟨⟨⟨a,b⟩,e⟩,d⟩,f⟩;exact⟨by omega,.inr ⟨a,b,e,d,f⟩⟩
   ·rintro⟨_,a | ⟨a,b,e,d,f⟩⟩
    ·exact absurd a h1
    ·exact⟨⟨⟨⟨a,b⟩,e⟩,d⟩,f⟩
theorem JG{c:Cf}(h:Small c)(net lq a b:Int):tK c net lq a b=some (decide (JN c net lq a b)):=by
 unfold tK
 by_cases h1:lq<0\/lq>=c.fK.length
 ·have hb:(decide (lq<0)||decide (lq>=((c.fK.length:Nat):Int)))=true:=by simpa using h1
  rw[hb]
  simp only[Bool.true_or,if_true]
  rw[xr (by simp),xr (by simp),xr (by simp)]
  congr 1;symm
  rw[decide_eq_false_iff_not]
  rintro⟨a,b,_⟩;omega
 ·have zz:(0:Int)<=lq/\lq<c.fK.length:=by omega
  rw[xr (fun _=>zz),xr (fun _=>zz),xr (fun _=>zz)]
  by_cases h2:(nth c.fK lq).yB=net/\1<=(nth c.fK lq).yj/\(nth c.fK lq).yj<=16
  ·rw[if_neg (by simp only[Bool.or_eq_true,decide_eq_true_eq];rintro((((q | q) | q) | q) | q) <;> omega),xr zz]
   obtain⟨a1,a2,a3⟩:=Xe h lq
   obtain⟨b1,b2,b3⟩:=Xf h lq
   rw[WG h,WG h,a1,b1]
   simp only[oB]
   rw[VY h ⟨a2,a3⟩,VY h ⟨b2,b3⟩]
   simp only[oB]
   by_cases h3:fA c lq=fB c lq
   ·rw[if_pos (decide_eq_true h3)]
    simp only[oB,if_true]
    congr 1;symm
    rw[decide_eq_false_iff_not]
    rintro⟨_,_,_,_,_,x,_⟩;exact x h3
   ·rw[if_neg (by rw[decide_eq_true_eq];exact h3)]
    simp only[oB]
    by_cases h4:sO c net (fA c lq)
    ·rw[decide_eq_true h4]
     simp only[Bool.not_true,Bool.false_eq_true,if_false,oB]
     by_cases h5:sO c net (fB c lq)
     ·rw[decide_eq_true h5]
      simp only[Bool.not_true,Bool.false_eq_true,if_false]
      congr 1
      rw[Bool.eq_iff_iff]
      simp only[Bool.and_eq_true,Bool.or_eq_true,decide_eq_true_eq]
      constructor
      ·intro y;exact⟨zz.1,zz.2,h2.1,h2.2.1,h2.2.2,h3,h4,h5,y⟩
      ·rintro⟨_,_,_,_,_,_,_,_,y⟩;exact y
     ·rw[decide_eq_false h5]
      simp only[Bool.not_false,if_true]
      congr 1;symm
      rw[decide_eq_false_iff_not]
      rintro⟨_,_,_,_,_,_,_,x,_⟩;exact h5 x
    ·rw[decide_eq_false h4]
     simp only[Bool.not_false,if_true,oB]
     congr 1;symm
     rw[decide_eq_false_iff_not]
     rintro⟨_,_,_,_,_,_,x,_⟩;exact h4 x
  ·rw[if_pos (by simp only[Bool.or_eq_true,decide_eq_true_eq];omega)]
   congr 1;symm
   rw[decide_eq_false_iff_not]
   rintro⟨_,_,x,y,z,_⟩;exact h2 ⟨x,y,z⟩
abbrev RAQ(r:List Hop)(i v:Int)(R A R' A':Bool):Prop:=(R'=true↔R=true\/∃ q:Int,v<=q/\q<i/\(nth r q).fX=(nth r i).ya)/\(A'=true↔A=true\/∃ q:Int,v<=q/\q<i/\(nth r q).fX=(nth r i).fX)
theorem JH{r:List Hop}{i:Int}{K:Bool->Bool->Option Bool}(hi:0<=i/\i<r.length)(hl:r.length<=1000):∀(n:Nat) (R A:Bool) (v:Int),0<=v->v<=i->i<n+v->
  ∃ R' A',gj i r K n R A v=K R' A'/\RAQ r i v R A R' A'
 | 0,R,A,v,h0,h1,h2=>by omega
 | n+1,R,A,v,h0,h1,h2=>by
  rw[gj]
  by_cases h:v<i
  ·rw[if_pos (decide_eq_true h)]
   refine uW (P:=fun o=>∃ R' A',o=K R' A'/\RAQ r i v R A R' A') fun k2 lN=>?_
   have hv:(0:Int)<=v/\v<r.length:=by omega
   have D4:∀ R1 A1:Bool,(R1=true↔R=true\/(nth r v).fX=(nth r i).ya)->(A1=true↔A=true\/(nth r v).fX=(nth r i).fX)->∃ R' A',k2 R1 A1=K R' A'/\RAQ r i v R A R' A':=by
    intro R1 A1 e1 e2
    obtain⟨R',A',f1,f2,f3⟩:=JH (K:=K) hi hl n R1 A1 (v+1) (by omega) (by omega) (by omega)
    have ex:∀ p:Int->Prop,(∃ q:Int,v<=q/\q<i/\p q)↔p v\/∃ q:Int,v+1<=q/\q<i/\p q:=by
     intro p
     constructor
     ·rintro⟨q,q1,q2,q3⟩
      by_cases e:q=v
      ·subst e;exact .inl q3
      ·exact .inr ⟨q,by omega,q2,q3⟩
     ·rintro(q | ⟨q,q1,q2,q3⟩)
      ·exact⟨v,Int.le_refl _,h,q⟩
      ·exact⟨q,by omega,q2,q3⟩
    refine⟨R',A',by rw[lN,xD (x:=v+1) (by omega),f1],?_,?_⟩
    ·rw[f2,e1,ex,or_assoc]
    ·rw[f3,e2,ex,or_assoc]
   refine w8 (P:=fun o=>∃ R' A',o=K R' A'/\RAQ r i v R A R' A') fun k1 mV=>?_
   have sec:∀ R1:Bool,(R1=true↔R=true\/(nth r v).fX=(nth r i).ya)->∃ R' A',k1 R1=K R' A'/\RAQ r i v R A R' A':=by
    intro R1 e1
    rw[mV,xr hv,xr hi]
    by_cases e:(nth r v).fX=(nth r i).fX
    ·rw[if_pos (decide_eq_true e)]
     exact D4 R1 true e1 (by simp[e])
    ·rw[if_neg (by rw[decide_eq_true_eq];exact e)]
     exact D4 R1 A e1 (by simp[e])
   rw[xr hv,xr hi]
   by_cases e:(nth r v).fX=(nth r i).ya
   ·rw[if_pos (decide_eq_true e)]
    exact sec true (by simp[e])
   ·rw[if_neg (by rw[decide_eq_true_eq];exact e)]
    exact sec R (by simp[e])
  ·rw[if_neg (by rw[decide_eq_true_eq];exact h)]
   refine⟨R,A,rfl,?_,?_⟩
   ·exact⟨.inl,fun hc=>hc.elim id fun⟨q,q1,q2,_⟩=>by omega⟩
   ·exact⟨.inl,fun hc=>hc.elim id fun⟨q,q1,q2,_⟩=>by omega⟩
theorem JI{c:Cf}(h:Small c){net:Int}{r:List Hop}{k:Option Bool}(hl:r.length<=1000):∀(n:Nat) (v:Int),0<=v->v<=r.length->r.length<n+v->
  (∃ q:Int,v<=q/\q<r.length/\¬uF c net r q)/\ki r c net k n v=some false\/(∀ q:Int,v<=q->q<r.length->uF c net r q)/\ki r c net k n v=k
 | 0,v,h0,h1,h2=>by omega
 | n+1,v,h0,h1,h2=>by
  rw[ki]
  by_cases hv:v<r.length
  ·rw[if_pos (decide_eq_true hv)]
   refine qL (P:=fun o=>(∃ q:Int,v<=q/\q<r.length/\¬uF c net r q)/\o=some false\/(∀ q:Int,v<=q->q<r.length->uF c net r q)/\o=k) fun k0 Bb=>?_
   rw[xr (fun _=>⟨h0,hv⟩),xr (fun _=>⟨by omega,by omega⟩),xr ⟨h0,hv⟩,xr ⟨by omega,by omega⟩]
   refine uW (P:=fun o=>(∃ q:Int,v<=q/\q<r.length/\¬uF c net r q)/\o=some false\/(∀ q:Int,v<=q->q<r.length->uF c net r q)/\o=k) fun k2 lN=>?_
   obtain⟨R,A,e1,e2,e3⟩:=JH (K:=k2) ⟨h0,hv⟩ hl xC (decide (v=0)||decide ((nth r v).ya=(nth r 0).ya)) (decide ((nth r v).fX=(nth r 0).ya)) 0 (by omega) h0 (by rw[xN];omega)
   rw[e1,lN]
   have hR:R=true↔RK r v (nth r v).ya:=by
    rw[e2]
    unfold RK
    simp only[Bool.or_eq_true,decide_eq_true_eq]
    constructor
    ·rintro((q | q) | q)
     ·subst q;exact .inl rfl
     ·exact .inl q
     ·exact .inr q
    ·rintro(q | q)
     ·exact .inl (.inr q)
     ·exact .inr q
   have hA:A=true↔RK r v (nth r v).fX:=by
    rw[e3]
    unfold RK
    simp only[decide_eq_true_eq]
   have good:uF c net r v->(∃ q:Int,v<=q/\q<r.length/\¬uF c net r q)/\k0=some false\/(∀ q:Int,v<=q->q<r.length->uF c net r q)/\k0=k:=by
    intro hc
    rw[Bb,xD (x:=v+1) (by omega)]
    rcases JI h hl n (v+1) (by omega) (by omega) (by omega) (k:=k) (net:=net) with⟨⟨q,q1,q2,q3⟩,h3⟩ | ⟨h3,h4⟩
    ·exact .inl ⟨⟨q,by omega,q2,q3⟩,h3⟩
    ·refine .inr ⟨fun q q1 q2=>?_,h4⟩
     by_cases e:q=v
     ·rw[e];exact hc
     ·exact h3 q (by omega) q2
   rw[xr (fun _=>⟨h0,hv⟩),xr (fun _=>⟨by omega,by omega⟩),xr (fun _ _=>⟨h0,hv⟩)]
   by_cases hq:RK r v (nth r v).ya/\¬RK r v (nth r v).fX/\((nth r v).ya=(nth r 0).ya\/nM c<=(nth r v).ya)
   ·have hR':=hR.2 hq.1
    have hA':A=false:=by
     cases A with
     | false=>rfl
     | true=>exact absurd (hA.1 rfl) hq.2.1
    rw[if_neg (by
     rw[hR',hA']
     simp only[Bool.not_true,Bool.or_self,Bool.false_or,Bool.and_eq_true,decide_eq_true_eq]
     rintro⟨a,b⟩
     rcases hq.2.2 with q | q
     ·exact a q
     ·unfold nM at q;omega),xr ⟨h0,hv⟩,JG h]
    simp only[oB]
    by_cases hj:JN c net (nth r v).fQ (nth r v).ya (nth r v).fX
    ·rw[decide_eq_true hj]
     simp only[Bool.not_true,Bool.false_eq_true,if_false]
     exact good ⟨hq.1,hq.2.1,hq.2.2,hj⟩
    ·rw[decide_eq_false hj]
     simp only[Bool.not_false,if_true]
     exact .inl ⟨⟨v,Int.le_refl _,hv,fun hc=>hj hc.2.2.2⟩,trivial⟩
   ·rw[if_pos (by
     simp only[Bool.or_eq_true,Bool.and_eq_true,Bool.not_eq_true',decide_eq_true_eq]
     by_cases q1:RK r v (nth r v).ya
     ·by_cases q2:RK r v (nth r v).fX
      ·exact .inl (.inr (hA.2 q2))
      ·right
       refine⟨fun e=>hq ⟨q1,q2,.inl e⟩,?_⟩
       by_cases q3:nM c<=(nth r v).ya
       ·exact absurd ⟨q1,q2,.inr q3⟩ hq
       ·unfold nM at q3;omega
     ·left;left
      cases R with
      | false=>rfl
      | true=>exact absurd (hR.1 rfl) q1)]
    simp only[oB,if_true]
    exact .inl ⟨⟨v,Int.le_refl _,hv,fun hc=>hq ⟨hc.1,hc.2.1,hc.2.2.1⟩⟩,trivial⟩
  ·rw[if_neg (by rw[decide_eq_true_eq];exact hv)]
   exact .inr ⟨fun q h1 h2=>by omega,rfl⟩
theorem JJ{c:Cf}(h:Small c){r:List Hop}:∃ b,tL c net r=some b/\(b=true↔VR c net r):=by
 unfold tL
 by_cases h1:((r.length:Nat):Int)>32
 ·rw[if_pos (decide_eq_true h1)]
  refine⟨false,rfl,?_⟩
  simp only[Bool.false_eq_true,false_iff]
  exact fun hc=>by have:=hc.len;omega
 ·rw[if_neg (by rw[decide_eq_true_eq];exact h1)]
  refine qL (P:=fun o=>∃ b,o=some b/\(b=true↔VR c net r)) fun k hk=>?_
  rcases JI h (net:=net) (r:=r) (k:=k) (by omega) xC 0 (by omega) (by omega) (by rw[xN];omega) with⟨⟨q,q1,q2,q3⟩,h3⟩ | ⟨h3,h4⟩
  ·refine⟨false,h3,?_⟩
   simp only[Bool.false_eq_true,false_iff]
   exact fun hc=>q3 (hc.cond q q1 q2)
  ·exact⟨true,h4.trans hk,by simp;exact⟨by omega,h3⟩⟩
theorem aX{c:Cf}(h:Small c){net:Int}{rs:List (List Hop)}{k:Option Bool}(hl:rs.length<=1000):∀(n:Nat) (v:Int),0<=v->v<=rs.length->rs.length<n+v->
  (¬∀ r∈rs.drop v.toNat,VR c net r)/\kj rs c net k n v=some false\/(∀ r∈rs.drop v.toNat,VR c net r)/\kj rs c net k n v=k
 | 0,v,h0,h1,h2=>by omega
 | n+1,v,h0,h1,h2=>by
  rw[kj]
  by_cases hv:v<rs.length
  ·obtain⟨b,b1,b2⟩:=JJ h (net:=net) (r:=nth rs v)
   rw[if_pos (decide_eq_true hv),xr ⟨h0,hv⟩,b1,va h0 hv]
   simp only[oB]
   cases b with
   | false=>
    rw[if_pos (by rfl)]
    refine .inl ⟨fun hc=>?_,rfl⟩
    have:=b2.2 (hc _ (by simp))
    cases this
   | true=>
    have hb:=b2.1 rfl
    rw[if_neg (by simp),xD (x:=v+1) (by omega)]
    rcases aX h hl n (v+1) (by omega) (by omega) (by omega) (k:=k) (net:=net) with⟨a,e⟩ | ⟨a,e⟩
    ·rw[show(v+1).toNat=v.toNat+1 by omega] at a
     exact .inl ⟨fun hc=>a fun r hr=>hc r (List.mem_cons_of_mem _ hr),e⟩
    ·rw[show(v+1).toNat=v.toNat+1 by omega] at a
     refine .inr ⟨fun r hr=>?_,e⟩
     rcases List.mem_cons.1 hr with rfl | hr
     ·exact hb
     ·exact a r hr
  ·rw[if_neg (by rw[decide_eq_true_eq];exact hv),List.drop_eq_nil_of_le (by omega)]
   exact .inr ⟨by simp,rfl⟩
theorem im{c:Cf}(h:Small c){rs:List (List Hop)}:∃ b,f9 c net rs=some b/\(b=true↔VA c net rs):=by
 unfold f9
 by_cases h1:(net=0\/net=1)/\rs.length=c.yd.length/\rs.length<=16
 ·rw[if_neg (by simp only[Bool.and_eq_true,Bool.or_eq_true,decide_eq_true_eq];omega)]
  refine qL (P:=fun o=>∃ b,o=some b/\(b=true↔VA c net rs)) fun k hk=>?_
  rcases aX h (net:=net) (rs:=rs) (k:=k) (by omega) xC 0 (by omega) (by omega) (by rw[xN];omega) with⟨a,e⟩ | ⟨a,e⟩
  ·refine⟨false,e,?_⟩
   simp only[Bool.false_eq_true,false_iff]
   exact fun hc=>a (by simpa using hc.each)
  ·exact⟨true,e.trans hk,by simp;exact⟨h1.1,h1.2.1,h1.2.2,by simpa using a⟩⟩
 ·rw[if_pos (by simp only[Bool.and_eq_true,Bool.or_eq_true,decide_eq_true_eq];omega)]
  refine⟨false,rfl,?_⟩
  simp only[Bool.false_eq_true,false_iff]
  exact fun hc=>h1 ⟨hc.nt,hc.len,hc.most⟩
end
section
/-! ### the reference: gaps -/
theorem KB{b:Int}(h:b>100)(h2:b % 2=0):(∃ j:Nat,b / 2=100*2 ^ j)↔∃ j:Nat,b=100*2 ^ j:=by
 constructor
 ·rintro⟨j,e⟩
  refine⟨j+1,?_⟩
  rw[Int.pow_succ];omega
 ·rintro⟨j,e⟩
  cases j with
  | zero=>simp at e;omega
  | succ j=>exact⟨j,by rw[Int.pow_succ] at e;omega⟩
theorem WH(j:Nat):(1:Int)<=2 ^ j:=by
 induction j with
 | zero=>simp
 | succ j ih=>rw[Int.pow_succ];omega
theorem nR{k:Int->Option Bool}:∀(n:Nat) (b:Int),b<n->0<n->b<=9223372036854775807->∃ x,kl k n b=k x/\(x=100↔∃ j:Nat,b=100*2 ^ j)
 | 0,b,h,h0,_=>absurd h0 (by omega)
 | n+1,b,h,h0,h1=>by
  rw[kl]
  have ht:0<=b->Int.tmod b 2=b % 2:=Int.tmod_eq_emod_of_nonneg
  have hd:0<=b->Int.tdiv b 2=b / 2:=Int.tdiv_eq_ediv_of_nonneg
  by_cases c:b>100/\b % 2=0
  ·rw[if_pos (by simp only[Bool.and_eq_true,decide_eq_true_eq];rw[ht (by omega)];exact c),hd (by omega),xD (by omega)]
   obtain⟨x,e,hx⟩:=nR n (b / 2) (by omega) (by omega) (by omega)
   exact⟨x,e,by rw[hx,KB c.1 c.2]⟩
  ·refine⟨b,?_,?_⟩
   ·rw[if_neg]
    simp only[Bool.and_eq_true,decide_eq_true_eq]
    intro hc
    rw[ht (by omega)] at hc
    exact c hc
   constructor
   ·rintro rfl;exact⟨0,by simp⟩
   ·rintro⟨j,e⟩
    cases j with
    | zero=>simpa using e
    | succ j=>
     have:=WH j
     rw[Int.pow_succ] at e
     exact absurd ⟨by omega,by omega⟩ c
theorem Gw{b:Int}(h:b<=12800):(∃ j:Nat,b=100*2 ^ j)↔b∈iF:=by
 constructor
 ·rintro⟨j,rfl⟩
  match j with
  | 0=>decide
  | 1=>decide
  | 2=>decide
  | 3=>decide
  | 4=>decide
  | 5=>decide
  | 6=>decide
  | 7=>decide
  | j+8=>
   have:=WH j
   rw[Int.pow_add] at h
   omega
 ·intro h
  unfold iF at h
  simp only[List.mem_cons,List.not_mem_nil,or_false] at h
  rcases h with rfl | rfl | rfl | rfl | rfl | rfl | rfl | rfl
  ·exact⟨0,by decide⟩
  ·exact⟨1,by decide⟩
  ·exact⟨2,by decide⟩
  ·exact⟨3,by decide⟩
  ·exact⟨4,by decide⟩
  ·exact⟨5,by decide⟩
  ·exact⟨6,by decide⟩
  ·exact⟨7,by decide⟩
theorem VZ{b:Int}(h:b∈iF):b<=12800:=by
 unfold iF at h
 simp only[List.mem_cons,List.not_mem_nil,or_false] at h
 omega
theorem GX(x:Int):i64 x<=9223372036854775807:=by
 have e:i64 x=if (true&&decide (x % 18446744073709551616>=9223372036854775808))=true then x % 18446744073709551616-18446744073709551616 else x % 18446744073709551616:=rfl
 rw[e]
 by_cases h:x % 18446744073709551616>=9223372036854775808
 ·rw[if_pos (by simpa using h)];omega
 ·rw[if_neg (by simpa using h)];omega
theorem KC(v:ym):ua v=some (decide (pl v)):=by
 unfold ua
 have hF:=xN
 generalize xC=N at hF ⊢
 refine w8 (P:=fun o=>o=_) fun k hk=>?_
 have xA:∀ x,(v.yo<=12800->(x=100↔v.yo∈iF))->k x=some (decide (pl v)):=by
  intro x h
  rw[hk]
  refine congrArg some ?_
  rw[Bool.eq_iff_iff,show(decide (pl v)=true)=pl v from decide_eq_true_eq]
  unfold pl
  simp only[Bool.and_eq_true,decide_eq_true_eq]
  constructor
  ·rintro⟨⟨⟨a,b⟩,d⟩,e⟩;exact⟨(h b).1 a,by omega,e⟩
  ·rintro⟨a,b,d⟩;exact⟨⟨⟨(h (VZ a)).2 a,VZ a⟩,by omega⟩,d⟩
 by_cases hb:v.yo<=9223372036854775807
 ·obtain⟨x,e,hx⟩:=nR (k:=k) N v.yo (by omega) (by omega) hb
  rw[e]
  exact xA x fun h=>by rw[hx,Gw h]
 ·obtain⟨M,rfl⟩:∃ M,N=M+1:=⟨N-1,by omega⟩
  rw[kl]
  split
  ·have hr:i64 (Int.tdiv v.yo 2)<=9223372036854775807:=GX _
   obtain⟨x,e,hx⟩:=nR (k:=k) M (i64 (Int.tdiv v.yo 2)) (by omega) (by omega) hr
   rw[e]
   exact xA x fun h=>absurd h (by omega)
  ·exact xA _ fun h=>absurd h (by omega)
/-! ### the reference: the hop into a node, a port in a list -/
theorem JK{r:List Hop}{m:Int}{k:Option Int}(hl:r.length<=1000):∀(n:Nat) (v:Int),0<=v->v<=r.length->r.length<n+v->
  (∃ i:Int,v<=i/\i<r.length/\jw r m k n v=some i/\(nth r i).fX=m)\/(jw r m k n v=k/\∀ x∈r.drop v.toNat,x.fX≠m)
 | 0,v,h0,h1,h2=>by omega
 | n+1,v,h0,h1,h2=>by
  rw[jw]
  by_cases h:v<r.length
  ·rw[if_pos (decide_eq_true h),xr ⟨h0,h⟩]
   by_cases e:(nth r v).fX=m
   ·rw[if_pos (decide_eq_true e)];exact .inl ⟨v,by omega,h,rfl,e⟩
   ·rw[if_neg (by simpa using e),xD (by omega)]
    rcases JK hl n (v+1) (by omega) (by omega) (by omega) with⟨i,a,b,d,f⟩ | ⟨a,b⟩
    ·exact .inl ⟨i,by omega,b,d,f⟩
    ·refine .inr ⟨a,?_⟩
     rw[va h0 h]
     intro x hx
     rcases List.mem_cons.1 hx with rfl | hx
     ·exact e
     ·exact b x (by rw[show(v+1).toNat=v.toNat+1 by omega];exact hx)
  ·rw[if_neg (by simpa using h),List.drop_eq_nil_of_le (by omega)]
   exact .inr ⟨rfl,by simp⟩
theorem tC{r:List Hop}(hl:r.length<=1000)(m:Int):(∃ i:Int,0<=i/\i<r.length/\km r m=some i/\(nth r i).fX=m)\/(km r m=some (-1)/\∀ x∈r,x.fX≠m):=by
 unfold km
 refine qL (P:=fun o=>(∃ i:Int,0<=i/\i<r.length/\o=some i/\(nth r i).fX=m)\/(o=some (-1)/\∀ x∈r,x.fX≠m)) fun k hk=>?_
 rcases JK (k:=k) (m:=m) hl xC 0 (by omega) (by omega) (by rw[xN];omega) with⟨i,a,b,d,f⟩ | ⟨a,b⟩
 ·exact .inl ⟨i,a,b,d,f⟩
 ·exact .inr ⟨by rw[a,hk],by simpa using b⟩
theorem WI{r:List Hop}{m:Int}{k:Option Int}:∀(n:Nat) (v:Int),gW r m k n v=jw r m k n v
 | 0,v=>rfl
 | n+1,v=>by rw[gW,jw,WI n]
theorem WK{r:List Hop}{m:Int}:fO r m=km r m:=by
 unfold fO km
 unfold g8
 exact WI _ _
theorem KR{l:List PB}{a b:Int}{k:Option Int}(hl:l.length<=1000000):∀(n:Nat) (v:Int),0<=v->v<=l.length->l.length<n+v->
  (∃ i:Int,v<=i/\i<l.length/\gH l a b k n v=some i/\we (nth l i)=⟨a,b⟩/\xx (wx (l.drop v.toNat)) ⟨a,b⟩ 0=(nth l i).yf)\/(gH l a b k n v=k/\(∀ x∈l.drop v.toNat,we x≠⟨a,b⟩)/\xx (wx (l.drop v.toNat)) ⟨a,b⟩ 0=0)
 | 0,v,h0,h1,h2=>by omega
 | n+1,v,h0,h1,h2=>by
  rw[gH]
  by_cases h:v<l.length
  ·rw[if_pos (decide_eq_true h),xr ⟨h0,h⟩,xr (fun _=>⟨h0,h⟩),va h0 h]
   have ed:wx (nth l v::l.drop (v.toNat+1))=xT (wx (l.drop (v.toNat+1))) (we (nth l v)) (nth l v).yf:=rfl
   rw[ed,qP]
   by_cases e:we (nth l v)=⟨a,b⟩
   ·have e1:(nth l v).ya=a:=congrArg z7.ya e
    have e2:(nth l v).fQ=b:=congrArg z7.fQ e
    rw[if_pos (by simp[e1,e2])]
    exact .inl ⟨v,by omega,h,rfl,e,by rw[if_pos e.symm]⟩
   ·have ne:¬((nth l v).ya=a/\(nth l v).fQ=b):=fun hc=>e (by unfold we;rw[hc.1,hc.2])
    rw[if_neg (by simpa using ne),xD (by omega),if_neg (fun x=>e x.symm),show v.toNat+1=(v+1).toNat by omega]
    rcases KR hl n (v+1) (by omega) (by omega) (by omega) with⟨i,a1,b1,d,f,g⟩ | ⟨a1,b1,d⟩
    ·exact .inl ⟨i,by omega,b1,d,f,g⟩
    ·refine .inr ⟨a1,?_,d⟩
     intro x hx
     rcases List.mem_cons.1 hx with rfl | hx
     ·exact e
     ·exact b1 x hx
  ·rw[if_neg (by simpa using h),List.drop_eq_nil_of_le (by omega)]
   exact .inr ⟨rfl,by simp,rfl⟩
theorem cu{l:List PB}(hl:l.length<=1000000)(a b:Int):(∃ i:Int,0<=i/\i<l.length/\vG l a b=some i/\we (nth l i)=⟨a,b⟩/\xx (wx l) ⟨a,b⟩ 0=(nth l i).yf)\/(vG l a b=some (-1)/\(∀ x∈l,we x≠⟨a,b⟩)/\xx (wx l) ⟨a,b⟩ 0=0):=by
 unfold vG
 refine qL (P:=fun o=>(∃ i:Int,0<=i/\i<l.length/\o=some i/\we (nth l i)=⟨a,b⟩/\xx (wx l) ⟨a,b⟩ 0=(nth l i).yf)\/(o=some (-1)/\(∀ x∈l,we x≠⟨a,b⟩)/\xx (wx l) ⟨a,b⟩ 0=0)) fun k hk=>?_
 rcases KR (k:=k) (a:=a) (b:=b) hl xC 0 (by omega) (by omega) (by rw[xN];omega) with⟨i,a1,b1,d,f,g⟩ | ⟨a1,b1,d⟩
 ·exact .inl ⟨i,a1,b1,d,f,by simpa using g⟩
 ·exact .inr ⟨by rw[a1,hk],by simpa using b1,by simpa using d⟩
end
section
variable {net:Int}{r:List Hop}
/-! ### the reference: jitters -/
theorem VR.indv{c:Cf}(h:VR c net r){P:Int->Prop}(hb:∀ v:Int,0<=v->v<r.length->(nth r v).ya=(nth r 0).ya->P v)(hs:∀ q v:Int,0<=q->q<v->v<r.length->(nth r q).fX=(nth r v).ya->P q->P v):∀ v:Int,0<=v->v<r.length->P v:=by
 have key:∀ n:Nat,∀ v:Int,0<=v->v<r.length->v.toNat<n->P v:=by
  intro n
  induction n with
  | zero=>intro v _ _ h;omega
  | succ n ih=>
   intro v v0 v1 hv
   rcases(h.cond v v0 v1).1 with e | ⟨q,q0,q1,e⟩
   ·exact hb _ v0 v1 e
   ·exact hs q v q0 q1 v1 e (ih q q0 (by omega) (by omega))
 exact fun v v0 v1=>key (v.toNat+1) v v0 v1 (by omega)
theorem Q0{c:Cf}(hS:Small c){n:Int}(h0:0<=n)(h1:n<nN c):mg c n=some (j7 c n):=by
 have:=hS.m;have:=hS.s
 unfold mg j7
 unfold nN at h1
 unfold nM
 by_cases h:n<c.fM.length
 ·rw[if_pos (decide_eq_true h),if_neg (by omega)]
 ·rw[if_neg (by simpa using h),xD (by omega),xr ⟨by omega,by omega⟩,if_pos (by omega)]
theorem JL{c:Cf}{D:Pl->Int}(hS:Small c)(hv:VR c net r){M:Int}(hM:0<=M)(hD:∀ h∈r,-M<=D (pk h)/\D (pk h)<=M)(n:Int) : -(32*(M+1016))<=jn c D r n/\jn c D r n<=32*(M+1016):=by
 have h:=nO (c:=c) (D:=D) hS hv hM hD r.length n
 rw[List.take_of_length_le (Nat.le_refl _)] at h
 exact h
abbrev JD(ps:List PB)(r:List Hop):Prop:=∀ h∈r,-1099511627776<=xx (wx ps) (pk h) 0/\xx (wx ps) (pk h) 0<=1099511627776
theorem Gx{c:Cf}{ps:List PB}(hS:Small c)(hv:VR c net r)(hl:ps.length<=1000000)(hD:JD ps r):
  ∀ v:Int,0<=v->v<r.length->∀ n:Nat,v<n->kp n c r (nth r v).ya ps=some (jn c (dD (wx ps)) r (nth r v).ya):=by
 have Ay:=hv.len
 refine hv.indv (fun v v0 v1 e n hn=>?_) (fun q v q0 q1 v1 e ih n hn=>?_)
 ·obtain⟨m,rfl⟩:∃ m,n=m+1:=⟨n-1,by omega⟩
  rw[kp,WK]
  rcases tC (r:=r) (by omega) (nth r v).ya with⟨i,i0,i1,e1,e2⟩ | ⟨e1,_⟩
  ·exact absurd (e2.trans e) (hv.start _ (w4 i0 i1))
  ·rw[e1,oB,if_pos (by decide),e,hv.jn_start]
 ·obtain⟨m,rfl⟩:∃ m,n=m+1:=⟨n-1,by omega⟩
  rw[kp,WK]
  have Ae:=w4 (l:=r) q0 (by omega)
  rcases tC (r:=r) (by omega) (nth r v).ya with⟨i,i0,i1,e1,e2⟩ | ⟨_,e1⟩
  ·have eq:nth r i=nth r q:=hv.uniq (w4 i0 i1) Ae (e2.trans e.symm)
   rw[e1,oB,if_neg (by simp;omega),eq]
   have hh:=hv.hop hS Ae
   refine w8 (P:=fun o=>o=_) fun k hk=>?_
   have xA:k (xx (wx ps) (pk (nth r q)) 0)=some (jn c (dD (wx ps)) r (nth r v).ya):=by
    rw[hk,xr ⟨i0,i1⟩,ih m (by omega),oB,Q0 hS hh.n0 hh.n1,oB,xr ⟨hh.l0,hh.l1⟩]
    have hb:=JL (D:=dD (wx ps)) hS hv (by omega) hD (nth r q).ya
    have hd:=hD _ Ae
    rw[<- e,hv.jn_next _ Ae]
    have:=i3 (a:=jn c (dD (wx ps)) r (nth r q).ya) (b:=xx (wx ps) (pk (nth r q)) 0) (d:=j7 c (nth r q).ya) (s:=wj c (nth r q).fQ) hb hd ⟨hh.d0,hh.d1⟩ ⟨hh.s0,hh.s1⟩ (Int.le_refl _)
    exact congrArg some this
   rw[xr ⟨i0,i1⟩]
   rcases cu (l:=ps) hl (nth r q).ya (nth r q).fQ with⟨j,j0,j1,e3,e4,e5⟩ | ⟨e3,_,e5⟩
   ·rw[e3,oB,if_pos (by simpa using j0),xr ⟨j0,j1⟩,<- e5]
    exact xA
   ·rw[e3,oB,if_neg (by decide),<- e5]
    exact xA
  ·exact absurd e (e1 _ Ae)
end
section
theorem Q1{c:Cf}{net:Int}{r:List Hop}{ps:List PB}(hS:Small c)(hv:VR c net r)(hl:ps.length<=1000000)(hD:JD ps r){x:Hop}(hx:x∈r):sN c r x.ya ps=some (jn c (dD (wx ps)) r x.ya):=by
 obtain⟨v,v0,v1,rfl⟩:=uX hx
 have:=hv.len
 exact Gx hS hv hl hD v v0 v1 xC (by rw[xN];omega)
theorem Q2{c:Cf}{net:Int}{rs:List (List Hop)}{ps:List PB}{v:Int}{k:List Int->Option (List (List Int))}(zZ:0<=v/\v<rs.length)(hS:Small c)(hv:VR c net (nth rs v))(hl:ps.length<=1000000)(hD:JD ps (nth rs v)):
  ∀(n:Nat) (i:Int),0<=i->i<=(nth rs v).length->(nth rs v).length<n+i->
   kv v rs c ps k n (((nth rs v).take i.toNat).map fun h=>jn c (dD (wx ps)) (nth rs v) h.ya) i=k ((nth rs v).map fun h=>jn c (dD (wx ps)) (nth rs v) h.ya)
 | 0,i,h0,h1,h2=>by omega
 | n+1,i,h0,h1,h2=>by
  have hr:=hv.len
  rw[kv,xr zZ]
  by_cases h:i<(nth rs v).length
  ·rw[if_pos (decide_eq_true h),xr zZ,xr ⟨h0,h⟩,Q1 hS hv hl hD (w4 h0 h),oB]
   have e:(((nth rs v).take i.toNat).map fun h=>jn c (dD (wx ps)) (nth rs v) h.ya)++[jn c (dD (wx ps)) (nth rs v) (nth (nth rs v) i).ya]=((nth rs v).take (i+1).toNat).map fun h=>jn c (dD (wx ps)) (nth rs v) h.ya:=by
    rw[show(i+1).toNat=i.toNat+1 by omega,List.take_succ_eq_append_getElem (by omega),<- jT ⟨h0,h⟩,List.map_append];rfl
   rw[e,xr (by rw[List.length_map,List.length_take];omega),xD (by omega)]
   exact Q2 zZ hS hv hl hD n (i+1) (by omega) (by omega) (by omega)
  ·rw[if_neg (by simpa using h),List.take_of_length_le (by omega)]
theorem WM{c:Cf}{net:Int}{rs:List (List Hop)}{ps:List PB}{k:List (List Int)->Option (List (List Int))}(hS:Small c)(hv:VA c net rs)(hl:ps.length<=1000000)(hD:∀ r∈rs,JD ps r):
  ∀(n:Nat) (v:Int),0<=v->v<=rs.length->rs.length<n+v->
   jz rs c ps k n (JT c (rs.take v.toNat) (dD (wx ps))) v=k (JT c rs (dD (wx ps)))
 | 0,v,h0,h1,h2=>by omega
 | n+1,v,h0,h1,h2=>by
  have hm:=hv.most
  rw[jz]
  by_cases h:v<rs.length
  ·rw[if_pos (decide_eq_true h)]
   have hrv:=(hv.each _ (w4 h0 h)).len
   refine w8 (P:=fun o=>o=_) fun k1 mV=>?_
   refine w8 (P:=fun o=>o=_) fun k2 lN=>?_
   have zz:=Q2 (k:=k2) ⟨h0,h⟩ hS (hv.each _ (w4 h0 h)) hl (hD _ (w4 h0 h)) xC 0 (by omega) (by omega) (by rw[xN];omega)
   simp only[Int.toNat_zero,List.take_zero,List.map_nil] at zz
   rw[zz,lN]
   have e:JT c (rs.take v.toNat) (dD (wx ps))++[(nth rs v).map fun h=>jn c (dD (wx ps)) (nth rs v) h.ya]=JT c (rs.take (v+1).toNat) (dD (wx ps)):=by
    rw[show(v+1).toNat=v.toNat+1 by omega,List.take_succ_eq_append_getElem (by omega),<- jT ⟨h0,h⟩]
    unfold JT;rw[List.map_append];rfl
   have iS:(JT c (rs.take (v+1).toNat) (dD (wx ps))).length<=16:=by
    unfold JT;rw[List.length_map,List.length_take];omega
   rw[e,xr (by omega),mV,xD (by omega)]
   exact WM hS hv hl hD n (v+1) (by omega) (by omega) (by omega)
  ·rw[if_neg (by simpa using h),List.take_of_length_le (by omega)]
theorem KD{c:Cf}{rs:List (List Hop)}{ps:List PB}(hf:FewP c rs)(hl:ps.length<=1000000)(hD:∀ r∈rs,JD ps r):ux c rs ps=j5 c rs ps:=by
 have hS:=hf.small
 obtain⟨b0,p1,p2⟩:=im hS (net:=0) (rs:=rs)
 obtain⟨b1,q1,q2⟩:=im hS (net:=1) (rs:=rs)
 have xA:∀ net,VA c net rs->(vk (fun(out:List (List Int))=>some out) fun k=>jz rs c ps k xC ([]:List (List Int)) 0)=some (JT c rs (dD (wx ps))):=by
  intro net hv
  have hm:=hv.most
  refine w8 (P:=fun o=>o=_) fun k hk=>?_
  have:=WM (k:=k) hS hv hl hD xC 0 (by omega) (by omega) (by rw[xN];omega)
  simp only[Int.toNat_zero,List.take_zero] at this
  rw[show([]:List (List Int))=JT c [] (dD (wx ps)) from rfl,this,hk]
 unfold ux
 rw[p1,q1,oB]
 cases b0 with
 | true=>
  have hv:=p2.1 rfl
  simp only[Bool.not_true,Bool.false_eq_true,if_false,oB]
  rw[xA 0 hv]
  rcases oU hf hl hD with⟨_,e⟩ | ⟨⟨e,_⟩,_⟩
  ·exact e.symm
  ·exact absurd hv e
 | false=>
  have hn:¬VA c 0 rs:=fun h=>by have:=p2.2 h;cases this
  cases b1 with
  | true=>
   have hv:=q2.1 rfl
   simp only[Bool.not_false,if_true,oB,Bool.not_true,Bool.false_eq_true,if_false]
   rw[xA 1 hv]
   rcases oU hf hl hD with⟨_,e⟩ | ⟨⟨_,e⟩,_⟩
   ·exact e.symm
   ·exact absurd hv e
  | false=>
   have DV:¬VA c 1 rs:=fun h=>by have:=q2.2 h;cases this
   simp only[Bool.not_false,if_true,oB]
   rcases oU hf hl hD with⟨e,_⟩ | ⟨_,e⟩
   ·exact absurd e (by simp[hn,DV])
   ·exact e.symm
end
section
variable {l:List Fw}
/-! ### the reference: what comes to a port -/
instance:Inhabited Fw:=⟨⟨0,0,0⟩⟩
def Fl(c:Cf)(x:Fw):yr:=⟨x.k,oH c x.v,mx c x.v,x.j⟩
theorem JM{c:Cf}{x:Fw}{t L:Int}:mM c (x::l) t L=(if x.k=L then oo c x t else 0)+mM c l t L:=by
 unfold mM
 by_cases e:x.k=L
 ·rw[if_pos e,List.filter_cons_of_pos (by simpa using e)];rfl
 ·rw[if_neg e,List.filter_cons_of_neg (by simpa using e)];omega
theorem JO{c:Cf}{x:Fw}{L:Int}:mN c (x::l) L=if x.k=L then max (mx c x.v) (mN c l L) else mN c l L:=by
 unfold mN
 by_cases e:x.k=L
 ·rw[if_pos e,List.filter_cons_of_pos (by simpa using e)];rfl
 ·rw[if_neg e,List.filter_cons_of_neg (by simpa using e)]
theorem pO{α β:Type}[Inhabited α][Inhabited β]{f:α->β}{l:List α}{i:Int}(h0:0<=i)(h1:i<l.length):nth (l.map f) i=f (nth l i):=by
 rw[jT ⟨h0,by rw[List.length_map];exact h1⟩,List.getElem_map,<- jT ⟨h0,h1⟩]
theorem Q3{c:Cf}{l:List Fw}{t L:Int}{k:Int->Int->Option Int}(hv:fr c)(hl:FwOK c l)(t0:0<=t)(t1:t<=4294967296):∀(n:Nat) (i part wide:Int),0<=i->i<=l.length->l.length<n+i->0<=part->part<=i*1099511627776->0<=wide->
  gX (l.map (Fl c)) L t k n part wide i=k (part+mM c (l.drop i.toNat) t L) (max wide (mN c (l.drop i.toNat) L))
 | 0,i,part,wide,h0,h1,h2,_,_,_=>by omega
 | n+1,i,part,wide,h0,h1,h2,p0,p1,w0=>by
  have iS:=hl.len
  have AM:(((l.map (Fl c)).length:Nat):Int)=l.length:=by rw[List.length_map]
  rw[gX,AM]
  by_cases h:i<l.length
  ·rw[if_pos (decide_eq_true h),va h0 h,JM,JO]
   refine uW (P:=fun o=>o=_) fun k1 mV=>?_
   have hx:=w4 (l:=l) h0 h
   have hb:=sF hv hl hx t0 t1
   obtain⟨m0,m1,b0,b1⟩:=hv.mx (hl.v0 _ hx).1 (hl.v0 _ hx).2
   have hj:=hl.j0 _ hx
   rw[pO h0 h,xr ⟨h0,h⟩]
   have go:∀ p w,0<=p->p<=(i+1)*1099511627776->0<=w->k1 p w=k (p+mM c (l.drop (i.toNat+1)) t L) (max w (mN c (l.drop (i.toNat+1)) L)):=by
    intro p w hp xv hw
    rw[mV,xD (x:=i+1) (by omega),Q3 hv hl t0 t1 n (i+1) p w (by omega) (by omega) (by omega) hp xv hw,show(i+1).toNat=i.toNat+1 by omega]
   by_cases e:(nth l i).k=L
   ·rw[if_neg (by show ¬decide ((nth l i).k≠L)=true;simpa using e),xr ⟨h0,h⟩,xr (show(Fl c (nth l i)).yo≠0 from(show oH c (nth l i).v≠0 by omega)),xr ⟨h0,h⟩,if_pos e,if_pos e]
    have eb:i64 ((Fl c (nth l i)).yn*i64 (i64 (Int.tdiv (i64 (t+(Fl c (nth l i)).yD)) (Fl c (nth l i)).yo)+1))=oo c (nth l i) t:=by
     show i64 (mx c (nth l i).v*i64 (i64 (Int.tdiv (i64 (t+(nth l i).j)) (oH c (nth l i).v))+1))=_
     have d0:0<=(t+(nth l i).j) / oH c (nth l i).v:=Int.ediv_nonneg (by omega) (by omega)
     have d1:(t+(nth l i).j) / oH c (nth l i).v<=t+(nth l i).j:=Int.ediv_le_self _ (by omega)
     rw[xD (x:=t+(nth l i).j) (by omega),rH (by omega),xD (x:=(t+(nth l i).j) / oH c (nth l i).v) (by omega),xD (x:=(t+(nth l i).j) / oH c (nth l i).v+1) (by omega)]
     exact xD (show -9223372036854775808<=oo c (nth l i) t/\oo c (nth l i) t<=9223372036854775807 by omega)
    rw[eb,xD (x:=part+oo c (nth l i) t) (by omega)]
    have em:(Fl c (nth l i)).yn=mx c (nth l i).v:=rfl
    rw[em]
    by_cases hm:mx c (nth l i).v>wide
    ·rw[if_pos (decide_eq_true hm),xr ⟨h0,h⟩,go _ _ (by omega) (by omega) (by omega)]
     congr 1 <;> omega
    ·rw[if_neg (by simpa using hm),go _ _ (by omega) (by omega) w0]
     congr 1 <;> omega
   ·rw[if_pos (by show decide ((nth l i).k≠L)=true;simpa using e),if_neg e,if_neg e,go _ _ p0 (by omega) w0]
    congr 1;omega
  ·rw[if_neg (by simpa using h),List.drop_eq_nil_of_le (by omega)]
   congr 1
   ·show part=part+0;omega
   ·show wide=max wide 0;omega
theorem WN{c:Cf}{l:List Fw}{t:Int}{k:Int->Option Int}(hS:Small c)(hv:fr c)(hl:FwOK c l)(hs:∀ x∈l,0<=x.k->1<=wj c x.k)(t0:0<=t)(t1:t<=4294967296):∀(n:Nat) (L sum:Int),-1<=L->L<=c.fK.length->c.fK.length<n+L->0<=sum->sum<=(L+1)*17592186044416->
  gY c t (l.map (Fl c)) k n sum L=k (sum+gn ((vJ L (c.fK.length-L).toNat).map (fc c l t)))
 | 0,L,sum,h0,h1,h2,_,_=>by omega
 | n+1,L,sum,h0,h1,h2,s0,s1=>by
  have hS1:=hS.l
  have iS:=hl.len
  rw[gY]
  by_cases h:L<c.fK.length
  ·have ecnt:(c.fK.length-L).toNat=(c.fK.length-(L+1)).toNat+1:=by omega
   have hg:=rn hv hl (L:=L) t0 t1
   have xA:k (sum+fc c l t L+gn ((vJ (L+1) (c.fK.length-(L+1)).toNat).map (fc c l t)))=k (sum+gn ((vJ L (c.fK.length-L).toNat).map (fc c l t))):=by
    rw[ecnt];congr 1;show _=sum+(fc c l t L+_);omega
   rw[if_pos (decide_eq_true h),<- xA]
   refine w8 (P:=fun o=>o=_) fun k1 mV=>?_
   refine uW (P:=fun o=>o=_) fun k2 lN=>?_
   have zz:=Q3 (k:=k2) (L:=L) hv hl t0 t1 xC 0 0 0 (by omega) (by omega) (by rw[xN];omega) (by omega) (by omega) (by omega)
   simp only[Int.toNat_zero,List.drop_zero,Int.zero_add] at zz
   have hgs:=bF hv hl t0 t1 L
   have hgw:=bG hv hl L
   rw[zz,lN,show max 0 (mN c l L)=mN c l L by omega]
   refine w8 (P:=fun o=>o=_) fun k3 BT=>?_
   have go:k3 (fc c l t L)=k (sum+fc c l t L+gn ((vJ (L+1) (c.fK.length-(L+1)).toNat).map (fc c l t))):=by
    rw[BT,mV,xD (x:=sum+fc c l t L) (by omega),xD (x:=L+1) (by omega)]
    exact WN hS hv hl hs t0 t1 n (L+1) _ (by omega) (by omega) (by omega) (by omega) (by omega)
   have Dz:0<=L->mM c l t L>0->1<=wj c L:=by
    intro hL hp
    refine Classical.byContradiction fun hc=>?_
    have:=(Jz (c:=c) (l:=l) (t:=t) (L:=L) fun x hx e=>hc (by rw[<- e];exact hs x hx (by omega))).1
    omega
   have esl:(nth c.fK L).yj=wj c L:=rfl
   rw[esl]
   by_cases hc:0<=L/\mM c l t L>0
   ·have h3:=Dz hc.1 hc.2
    have d0:0<=t / wj c L:=Int.ediv_nonneg t0 (by omega)
    have d1:t / wj c L<=t:=Int.ediv_le_self _ t0
    rw[xr (fun _=>⟨hc.1,h⟩),xr (fun _=>by omega),rH t0,xD (x:=t / wj c L) (by omega),xD (x:=mN c l L+t / wj c L) (by omega)]
    have eg:fc c l t L=min (mM c l t L) (mN c l L+t / wj c L):=by
     unfold fc;rw[if_neg (by omega),show max 1 (wj c L)=wj c L by omega]
    by_cases h4:mN c l L+t / wj c L<mM c l t L
    ·rw[if_pos (by simp only[Bool.and_eq_true,decide_eq_true_eq];omega),xr ⟨hc.1,h⟩,xr (by omega),<- go,eg]
     congr 1;omega
    ·rw[if_neg (by simp only[Bool.and_eq_true,decide_eq_true_eq];omega),<- go,eg]
     congr 1;omega
   ·have hcb:(decide (L>=0)&&decide (mM c l t L>0))=false:=by
     rw[Bool.eq_false_iff];intro hx
     simp only[Bool.and_eq_true,decide_eq_true_eq] at hx
     exact hc hx
    rw[hcb,xr (fun x=>by cases x),xr (fun x=>by cases x),if_neg (by simp),<- go]
    congr 1
    unfold fc
    by_cases hL:L<0
    ·rw[if_pos hL]
    ·rw[if_neg hL]
     have:0<=t / max 1 (wj c L):=Int.ediv_nonneg t0 (by omega)
     omega
  ·rw[if_neg (by simpa using h),show(c.fK.length-L).toNat=0 by omega]
   congr 1;show sum=sum+0;omega
theorem KE{c:Cf}{t:Int}(hS:Small c)(hv:fr c)(hl:FwOK c l)(hs:∀ x∈l,0<=x.k->1<=wj c x.k)(t0:0<=t)(t1:t<=4294967296):gZ c (l.map (Fl c)) t=some (uy c l t):=by
 have hS1:=hS.l
 unfold gZ
 refine w8 (P:=fun o=>o=_) fun k hk=>?_
 rw[WN (k:=k) hS hv hl hs t0 t1 xC (-1) 0 (by omega) (by omega) (by rw[xN];omega) (by omega) (by omega),hk]
 unfold uy Wr
 rw[show((c.fK.length:Int) - -1).toNat=c.fK.length+1 by omega,Int.zero_add]
end
section
variable {net:Int}
/-! ### the reference: the flows at a port -/
theorem VR.pk_ne{c:Cf}{r:List Hop}(h:VR c net r){i j:Int}(i0:0<=i)(ij:i<j)(j1:j<r.length):pk (nth r i)≠pk (nth r j):=by
 intro e
 have e1:(nth r i).ya=(nth r j).ya:=congrArg z7.ya e
 have e2:(nth r i).fQ=(nth r j).fQ:=congrArg z7.fQ e
 obtain⟨_,_,_,_,_,_,_,_,ne1,_,_,o1⟩:=h.cond i i0 (by omega)
 obtain⟨_,hn,_,_,_,_,_,_,ne2,_,_,o2⟩:=h.cond j (by omega) j1
 rw[e1,e2] at o1
 refine hn (.inr ⟨i,i0,ij,?_⟩)
 rcases o1 with o1 | o1 <;> rcases o2 with o2 | o2 <;> omega
theorem Gy{c:Cf}{r:List Hop}(hv:VR c net r){p:Pl}{n:Int}(hn:n=p.ya):(∃ i:Int,0<=i/\i<r.length/\fO r n=some i/\(nth r i).fQ=pm r p)\/(fO r n=some (-1)/\pm r p = -1):=by
 have hl:=hv.len
 subst hn
 rw[WK]
 rcases tC (r:=r) (by omega) p.ya with⟨i,i0,i1,e1,e2⟩ | ⟨e1,e2⟩
 ·refine .inl ⟨i,i0,i1,e1,?_⟩
  have:=hv.into (w4 i0 i1)
  unfold pm
  rw[<- e2,this];rfl
 ·refine .inr ⟨e1,?_⟩
  unfold pm
  rw[if_neg]
  intro h
  obtain⟨h1,h2⟩:=rG h
  exact e2 _ h1 h2
theorem WO{c:Cf}{net:Int}{rs:List (List Hop)}{ps:List PB}{p:PB}{v:Int}{k:List yr->Option (List yr)}(zZ:0<=v/\v<rs.length)(Dh:v<c.yd.length)(hS:Small c)(hv:VR c net (nth rs v))(hl:ps.length<=1000000)(hD:JD ps (nth rs v)):
  ∀(n:Nat) (i:Int) (out:List yr),0<=i->i<=(nth rs v).length->(nth rs v).length<n+i->out.length+(nth rs v).length<=1000+i->
   gl v rs p c ps k n out i=k (out++if mK (we p) ((nth rs v).drop i.toNat)=true then[Fl c (oD c rs (dD (wx ps)) (we p) v)] else[])
 | 0,i,out,h0,h1,h2,_=>by omega
 | n+1,i,out,h0,h1,h2,ho=>by
  have hr:=hv.len
  rw[gl,xr zZ]
  by_cases h:i<(nth rs v).length
  ·rw[if_pos (decide_eq_true h)]
   generalize hE:(if mK (we p) ((nth rs v).drop i.toNat)=true then[Fl c (oD c rs (dD (wx ps)) (we p) v)] else[])=E
   refine w8 (P:=fun o=>o=_) fun k1 mV=>?_
   rw[xr zZ,xr ⟨h0,h⟩]
   have hx:=w4 (l:=nth rs v) h0 h
   have go:∀ o:List yr,o.length+(nth rs v).length<=1000+(i+1)->k1 o=k (o++if mK (we p) ((nth rs v).drop (i.toNat+1))=true then[Fl c (oD c rs (dD (wx ps)) (we p) v)] else[]):=by
    intro o Cq
    rw[mV,xD (x:=i+1) (by omega),WO zZ Dh hS hv hl hD n (i+1) o (by omega) (by omega) (by omega) Cq,show(i+1).toNat=i.toNat+1 by omega]
   have AZ:mK (we p) ((nth rs v).drop i.toNat)=(decide (pk (nth (nth rs v) i)=we p)||mK (we p) ((nth rs v).drop (i.toNat+1))):=by
    rw[va h0 h];unfold mK;rw[List.any_cons]
   rw[AZ] at hE
   by_cases e:pk (nth (nth rs v) i)=we p
   ·have e1:(nth (nth rs v) i).ya=p.ya:=congrArg z7.ya e
    have e2:(nth (nth rs v) i).fQ=p.fQ:=congrArg z7.fQ e
    have ze:mK (we p) ((nth rs v).drop (i.toNat+1))=false:=by
     rw[Bool.eq_false_iff]
     intro hc
     obtain⟨y,hy,ey⟩:=pN.1 hc
     obtain⟨q,q0,q1,rfl⟩:=lB (v:=i+1) (by omega) (by rw[show(i+1).toNat=i.toNat+1 by omega];exact hy)
     exact hv.pk_ne h0 (by omega) q1 (e.trans ey.symm)
    rw[ze,decide_eq_true e] at hE
    simp only[Bool.true_or,if_true] at hE
    rw[if_neg (by rw[e1,e2];simp),xr ⟨by omega,Dh⟩,xr zZ,Q1 hS hv hl hD hx,oB]
    refine w8 (P:=fun o=>o=_) fun k2 lN=>?_
    have xA:k2 (pm (nth rs v) (we p))=k (out++E):=by
     rw[lN]
     have eF:(⟨pm (nth rs v) (we p),(nth c.yd v).yo,(nth c.yd v).yn,jn c (dD (wx ps)) (nth rs v) (nth (nth rs v) i).ya⟩:yr)=Fl c (oD c rs (dD (wx ps)) (we p) v):=by
      rw[e1];rfl
     rw[eF,xr (by rw[List.length_append,List.length_singleton];push_cast;omega),go _ (by rw[List.length_append,List.length_singleton];push_cast;omega),ze,<- hE]
     simp
    rw[xr zZ]
    rcases Gy hv (p:=we p) e1 with⟨q,q0,q1,e3,e4⟩ | ⟨e3,e4⟩
    ·rw[e3,oB,if_pos (by simpa using q0),xr zZ,xr ⟨q0,q1⟩,e4]
     exact xA
    ·rw[e3,oB,if_neg (by decide),<- e4]
     exact xA
   ·rw[decide_eq_false e] at hE
    simp only[Bool.false_or] at hE
    have ne:¬((nth (nth rs v) i).ya=p.ya/\(nth (nth rs v) i).fQ=p.fQ):=fun hc=>e (by unfold pk we;rw[hc.1,hc.2])
    rw[if_pos,go _ (by omega),hE]
    simp only[Bool.or_eq_true,decide_eq_true_eq]
    omega
  ·rw[if_neg (by simpa using h),List.drop_eq_nil_of_le (by omega)]
   simp[mK]
theorem YU{c:Cf}{net:Int}{rs:List (List Hop)}{ps:List PB}{p:PB}{k:List yr->Option (List yr)}(hS:Small c)(hv:VA c net rs)(hl:ps.length<=1000000)(hD:∀ r∈rs,JD ps r):
  ∀(n:Nat) (v:Nat),v<=rs.length->rs.length<n+v->
   gm rs p c ps k n ((FL c rs (dD (wx ps)) (we p) v).map (Fl c)) v=k ((th c rs (dD (wx ps)) (we p)).map (Fl c))
 | 0,v,h1,h2=>by omega
 | n+1,v,h1,h2=>by
  have hm:=hv.most
  have Dh:=hv.len
  rw[gm]
  by_cases h:v<rs.length
  ·have hi:(0:Int)<=v/\(v:Int)<rs.length:=⟨by omega,by omega⟩
   rw[if_pos (by rw[decide_eq_true_eq];omega)]
   refine w8 (P:=fun o=>o=_) fun k1 mV=>?_
   refine w8 (P:=fun o=>o=_) fun k2 lN=>?_
   have hr:=hv.each _ (w4 hi.1 hi.2)
   have Ay:=hr.len
   have BK:=Ws (c:=c) (rs:=rs) (D:=dD (wx ps)) (p:=we p) v
   rw[WO (k:=k2) hi (by omega) hS hr hl (hD _ (w4 hi.1 hi.2)) xC 0 _ (by omega) (by omega) (by rw[xN];omega) (by rw[List.length_map];omega),lN,mV,xD (by omega)]
   have e:(FL c rs (dD (wx ps)) (we p) v).map (Fl c)++(if mK (we p) ((nth rs v).drop (0:Int).toNat)=true then[Fl c (oD c rs (dD (wx ps)) (we p) v)] else[])=(FL c rs (dD (wx ps)) (we p) (v+1)).map (Fl c):=by
    rw[VX,List.map_append,Int.toNat_zero,List.drop_zero]
    congr 1
    split <;> rfl
   rw[e]
   exact YU hS hv hl hD n (v+1) (by omega) (by omega)
  ·rw[if_neg (by rw[decide_eq_true_eq];omega),show v=rs.length by omega]
   rfl
theorem JP{c:Cf}{rs:List (List Hop)}{ps:List PB}{p:PB}(hS:Small c)(hv:VA c net rs)(hl:ps.length<=1000000)(hD:∀ r∈rs,JD ps r):ud c rs p ps=some ((th c rs (dD (wx ps)) (we p)).map (Fl c)):=by
 have hm:=hv.most
 unfold ud
 refine w8 (P:=fun o=>o=_) fun k hk=>?_
 have:=YU (k:=k) (p:=p) hS hv hl hD xC 0 (by omega) (by rw[xN];omega)
 rw[hk] at this
 exact this
end
section
/-! ### the reference: a port -/
theorem KF{d s:Int}(hs:1<=s):(d+s-1) / s=if d % s≠0 then d / s+1 else d / s:=by
 have h1:=Int.mul_ediv_add_emod d s
 have h2:=Int.emod_nonneg d (show s≠0 by omega)
 have h3:=Int.emod_lt_of_pos d (show 0<s by omega)
 have e:d+s-1=(d % s+s-1)+s*(d / s):=by omega
 rw[e,Int.add_mul_ediv_left _ _ (by omega)]
 by_cases h:d % s=0
 ·rw[if_neg (by simpa using h),h,Int.ediv_eq_zero_of_lt (by omega) (by omega)];omega
 ·rw[if_pos h]
  have:(d % s+s-1) / s=1:=by
   rw[show d % s+s-1=(d % s-1)+s*1 by omega,Int.add_mul_ediv_left _ _ (by omega),Int.ediv_eq_zero_of_lt (by omega) (by omega)];rfl
  omega
theorem YV{c:Cf}{p:PB}{fs:List yr}{A:Int->Int}{s:Int}{k:Int->Option (PB×Bool)}(hA:AOK A)(ht:∀ t,0<=t->t<=4294967296->gZ c fs t=some (A t))(hs:1<=s/\s<=16)(es:(nth c.fK p.fQ).yj=s):
  ∀(n:Nat) (N:Nat) (b:Int),1<=b->b+n=32769->n<N->1<=n->kP c fs p k N b=if sV A s n b<=32768 then k (sV A s n b) else some (p,false)
 | n,0,b,h0,h1,h2,h3=>by omega
 | 0,N+1,b,h0,h1,h2,h3=>by omega
 | n+1,N+1,b,h0,h1,h2,h3=>by
  push_cast at h1
  rw[kP,xD (x:=b-1) (by omega),ht (b-1) (by omega) (by omega),oB,es]
  have hb:=hA.b (b-1) (by omega) (by omega)
  have DU:0<=s*A (b-1):=Int.mul_nonneg (by omega) hb.1
  have Di:s*A (b-1)<=16*A (b-1):=Int.mul_le_mul_of_nonneg_right hs.2 hb.1
  rw[xD (x:=s*A (b-1)) (by omega),xD (x:=b+1) (by omega),sV]
  by_cases h:s*A (b-1)>b
  ·rw[if_pos (decide_eq_true h),if_pos h]
   by_cases h4:b+1>32768
   ·rw[if_pos (decide_eq_true h4)]
    have hn:n=0:=by omega
    subst hn
    rw[sV,if_neg (by omega)]
   ·rw[if_neg (by simpa using h4)]
    exact YV hA ht hs es n N (b+1) (by omega) (by omega) (by omega) (by omega)
  ·rw[if_neg (by simpa using h),if_neg h,if_pos (by omega)]
theorem YW{c:Cf}{p:PB}{fs:List yr}{A:Int->Int}{s b la:Int}{k:Int->Int->Option (PB×Bool)}(hA:AOK A)(ht:∀ t,0<=t->t<=4294967296->gZ c fs t=some (A t))(hs:1<=s/\s<=16)(es:(nth c.fK p.fQ).yj=s)(hb:1<=b/\b<=32768)(Cr:0<=la/\la<=1000):
  ∀(n:Nat) (v:Nat),(v:Int)<=b+la->b+la<n+v->kQ b la c fs p k n v (gc (mW A s la) (min v b.toNat)) (gc (fW A s la) v)=k (gc (mW A s la) b.toNat) (gc (fW A s la) (b+la).toNat)
 | 0,v,h0,h1=>by omega
 | n+1,v,h0,h1=>by
  rw[kQ,xD (x:=b+la) (by omega)]
  by_cases h:(v:Int)<b+la
  ·rw[if_pos (decide_eq_true h)]
   refine uW (P:=fun o=>o=_) fun k1 mV=>?_
   rw[ht v (by omega) (by omega),oB]
   have Cl:=hA.b v (by omega) (by omega)
   have DU:0<=s*A v:=Int.mul_nonneg (by omega) Cl.1
   have Di:s*A v<=16*A v:=Int.mul_le_mul_of_nonneg_right hs.2 Cl.1
   have go:∀ x y,x=gc (mW A s la) (min (v+1) b.toNat)->y=gc (fW A s la) (v+1)->k1 x y=k (gc (mW A s la) b.toNat) (gc (fW A s la) (b+la).toNat):=by
    rintro x y rfl rfl
    rw[mV,xD (x:=(v:Int)+1) (by omega)]
    exact YW (k:=k) hA ht hs es hb Cr n (v+1) (by push_cast;omega) (by push_cast;omega)
   refine w8 (P:=fun o=>o=_) fun k2 lN=>?_
   have ms:gc (fW A s la) (v+1)=max (gc (fW A s la) v) (fW A s la v):=rfl
   have xA:∀ x,x=gc (mW A s la) (min (v+1) b.toNat)->k2 x=k (gc (mW A s la) b.toNat) (gc (fW A s la) (b+la).toNat):=by
    intro x hx
    rw[lN]
    refine w8 (P:=fun o=>o=_) fun k3 BT=>?_
    have f3:k3 (fW A s la v)=k (gc (mW A s la) b.toNat) (gc (fW A s la) (b+la).toNat):=by
     rw[BT]
     by_cases hc:fW A s la v>gc (fW A s la) v
     ·rw[if_pos (decide_eq_true hc)];exact go _ _ hx (by rw[ms];omega)
     ·rw[if_neg (by simpa using hc)];exact go _ _ hx (by rw[ms];omega)
    by_cases hl:(v:Int)>la
    ·have d0:0<=((v:Int)-la) / s:=Int.ediv_nonneg (by omega) (by omega)
     have d1:((v:Int)-la) / s<=(v:Int)-la:=Int.ediv_le_self _ (by omega)
     have hsf:fW A s la v=A v-if ((v:Int)-la) % s≠0 then((v:Int)-la) / s+1 else((v:Int)-la) / s:=by
      unfold fW
      rw[show max ((v:Int)-la) 0=(v:Int)-la by omega,KF hs.1]
     rw[if_pos (decide_eq_true hl),es,xr (by omega),xr (by omega),xD (x:=(v:Int)-la) (by omega),Int.tmod_eq_emod_of_nonneg (by omega),rH (by omega),xD (x:=((v:Int)-la) / s) (by omega),xD (x:=A v-((v:Int)-la) / s) (by omega),xD (by omega)]
     by_cases hr:((v:Int)-la) % s≠0
     ·rw[if_pos (decide_eq_true hr),<- f3,hsf,if_pos hr];congr 1;omega
     ·rw[if_neg (by simpa using hr),<- f3,hsf,if_neg hr]
    ·rw[if_neg (by simpa using hl),<- f3]
     unfold fW
     rw[show max ((v:Int)-la) 0=0 by omega,Int.ediv_eq_zero_of_lt (by omega) (by omega)]
     congr 1;omega
   rw[es,xD (x:=s*A v) (by omega),xD (x:=s*A v-v) (by omega),xD (x:=s*A v-v+la) (by omega)]
   have ed:s*A v-v+la=mW A s la v:=rfl
   rw[ed]
   by_cases h5:(v:Int)<b
   ·rw[show min v b.toNat=v by omega]
    have em:gc (mW A s la) (min (v+1) b.toNat)=max (gc (mW A s la) v) (mW A s la v):=by rw[show min (v+1) b.toNat=v+1 by omega];rfl
    by_cases h6:mW A s la v>gc (mW A s la) v
    ·rw[if_pos (by simp only[Bool.and_eq_true,decide_eq_true_eq];exact⟨h5,h6⟩)];exact xA _ (by rw[em];omega)
    ·rw[if_neg (by simp only[Bool.and_eq_true,decide_eq_true_eq];exact fun hc=>h6 hc.2)];exact xA _ (by rw[em];omega)
   ·rw[if_neg (by simp only[Bool.and_eq_true,decide_eq_true_eq];exact fun hc=>h5 hc.1)]
    exact xA _ (by rw[show min (v+1) b.toNat=b.toNat by omega,show min v b.toNat=b.toNat by omega])
  ·rw[if_neg (by simpa using h),show min v b.toNat=b.toNat by omega,show v=(b+la).toNat by omega]
theorem YX{c:Cf}{l:List Fw}{k:Int->Option (PB×Bool)}(hl:l.length<=1000):∀(n:Nat) (i m:Int),0<=i->i<=l.length->l.length<n+i->0<=m->kR (l.map (Fl c)) k n m i=k (max m (t7 ((l.drop i.toNat).map fun x=>mx c x.v)))
 | 0,i,m,h0,h1,h2,hm=>by omega
 | n+1,i,m,h0,h1,h2,hm=>by
  have AM:(((l.map (Fl c)).length:Nat):Int)=l.length:=by rw[List.length_map]
  rw[kR,AM]
  by_cases h:i<l.length
  ·rw[if_pos (decide_eq_true h),va h0 h]
   have ec:t7 ((nth l i::l.drop (i.toNat+1)).map fun x=>mx c x.v)=max (mx c (nth l i).v) (t7 ((l.drop (i.toNat+1)).map fun x=>mx c x.v)):=rfl
   rw[ec]
   refine w8 (P:=fun o=>o=_) fun k1 mV=>?_
   have go:∀ x,0<=x->k1 x=k (max x (t7 ((l.drop (i.toNat+1)).map fun x=>mx c x.v))):=by
    intro x hx
    rw[mV,xD (x:=i+1) (by omega),YX hl n (i+1) x (by omega) (by omega) (by omega) hx,show(i+1).toNat=i.toNat+1 by omega]
   rw[pO h0 h,xr ⟨h0,h⟩]
   have em:(Fl c (nth l i)).yn=mx c (nth l i).v:=rfl
   rw[em]
   by_cases hc:mx c (nth l i).v>m
   ·rw[if_pos (decide_eq_true hc),xr ⟨h0,h⟩,go _ (by omega)];congr 1;omega
   ·rw[if_neg (by simpa using hc),go _ hm];congr 1;omega
  ·rw[if_neg (by simpa using h),List.drop_eq_nil_of_le (by omega)]
   congr 1;show m=max m 0;omega
theorem QK{c:Cf}{rs:List (List Hop)}{ps:List PB}{p:Pl}{l:List Fw}(hS:Small c)(hV:fr c)(hp:PI c p)(hl:FwOK c l)(hk:∀ x∈l,0<=x.k->1<=wj c x.k)(hf:ud c rs ⟨p.ya,p.fQ,0,0⟩ ps=some (l.map (Fl c)))(hs:1<=wj c p.fQ/\wj c p.fQ<=16)(Cr:0<=j7 c p.ya/\j7 c p.ya<=1000):
  mD c rs ⟨p.ya,p.fQ,0,0⟩ ps=some (if BZ (uy c l) (wj c p.fQ)<=32768 then(HB c (uy c l) (sQ c l) p,true) else(⟨p.ya,p.fQ,0,0⟩,false)):=by
 have hA:AOK (uy c l):=⟨fun t t0 t1=>YR hS hV hl t0 t1⟩
 have ht:∀ t,0<=t->t<=4294967296->gZ c (l.map (Fl c)) t=some (uy c l t):=fun t t0 t1=>KE hS hV hl hk t0 t1
 have D0:=nk hV hl
 have iS:=hl.len
 unfold mD
 rw[hf,oB,xr ⟨hp.l0,hp.l1⟩,Q0 hS hp.n0 hp.n1,oB]
 refine w8 (P:=fun o=>o=_) fun k hk=>?_
 have hF:=xN
 generalize xC=N at hF hk ⊢
 rw[YV (A:=uy c l) (s:=wj c p.fQ) hA ht hs rfl 32768 N 1 (by omega) (by omega) (by omega) (by omega)]
 have e:sV (uy c l) (wj c p.fQ) 32768 1=BZ (uy c l) (wj c p.fQ):=rfl
 rw[e]
 by_cases h:BZ (uy c l) (wj c p.fQ)<=32768
 ·rw[if_pos h,if_pos h,hk]
  refine uW (P:=fun o=>o=_) fun k2 lN=>?_
  have hb:=QI (uy c l) (wj c p.fQ)
  have:=YW (k:=k2) (p:=⟨p.ya,p.fQ,0,0⟩) (s:=wj c p.fQ) (la:=j7 c p.ya) hA ht hs rfl ⟨hb.1,h⟩ Cr N 0 (by omega) (by omega)
  simp only[Nat.zero_min,gc] at this
  rw[show((0:Nat):Int)=0 from rfl] at this
  rw[this,lN]
  refine w8 (P:=fun o=>o=_) fun k3 BT=>?_
  rw[YX (by omega) N 0 0 (by omega) (by omega) (by omega) (by omega),BT]
  have em:max 0 (t7 ((l.drop (0:Int).toNat).map fun x=>mx c x.v))=sQ c l:=by
   rw[Int.toNat_zero,List.drop_zero]
   show max 0 (sQ c l)=sQ c l
   omega
  rw[em]
  refine congrArg some ?_
  have lJ:=bH (fW (uy c l) (wj c p.fQ) (j7 c p.ya)) (BZ (uy c l) (wj c p.fQ)+j7 c p.ya).toNat
  have hst2:gc (fW (uy c l) (wj c p.fQ) (j7 c p.ya)) (BZ (uy c l) (wj c p.fQ)+j7 c p.ya).toNat<=18014398509481984:=aW (by omega) fun t h0 h1=>by
   have h2:0<=(max (t-j7 c p.ya) 0+wj c p.fQ-1) / wj c p.fQ:=Int.ediv_nonneg (by omega) (by omega)
   have:=(hA.b t h0 (by omega)).2
   unfold fW;omega
  rw[xD (by omega)]
  rfl
 ·rw[if_neg h,if_neg h]
end
section
/-! ### the reference: the places -/
instance (a b:Pl):Decidable (fV a b):=inferInstanceAs (Decidable (_\/_))
def wA(p:Pl):PB:=⟨p.ya,p.fQ,0,0⟩
theorem Q4(p:Pl):we (wA p)=p:=rfl
theorem Yn{l:List Pl}(hl:l.length<=1000000)(p:Pl):(p∈l/\∃ i:Int,0<=i/\vG (l.map wA) p.ya p.fQ=some i)\/(p∉l/\vG (l.map wA) p.ya p.fQ=some (-1)):=by
 rcases cu (l:=l.map wA) (by rw[List.length_map];exact hl) p.ya p.fQ with⟨i,i0,i1,e1,e2,_⟩ | ⟨e1,e2,_⟩
 ·rw[List.length_map] at i1
  refine .inl ⟨?_,i,i0,e1⟩
  rw[pO i0 i1,Q4] at e2
  have:nth l i=p:=e2
  rw[<- this];exact w4 i0 i1
 ·refine .inr ⟨fun h=>?_,e1⟩
  exact e2 _ (List.mem_map.2 ⟨p,h,rfl⟩) rfl
abbrev SD(l:List Pl):Prop:=l.Pairwise fun a b=>¬fV b a
theorem KS{l:List Pl}{rs:List (List Hop)}{i j:Int}{k:Int->Option (List PB)}(hs:SD l)(hl:l.length<=1000000):∀(n:Nat) (D5:Int),0<=D5->D5<=l.length->D5<n->(∀ x∈l.drop D5.toNat,fV (pk (nth (nth rs i) j)) x)->
  ∃ a:Int,0<=a/\a<=l.length/\kM (l.map wA) rs i j k n D5=k a/\(∀ x∈l.drop a.toNat,fV (pk (nth (nth rs i) j)) x)/\∀ x∈l.take a.toNat,¬fV (pk (nth (nth rs i) j)) x
 | 0,a,h0,h1,h2,_=>by omega
 | n+1,a,h0,h1,h2,hd=>by
  rw[kM]
  by_cases h:a>0
  ·have hi:0<=a-1/\a-1<((l.map wA).length:Int):=by rw[List.length_map];omega
   rw[xD (x:=a-1) (by omega),xr (fun _=>hi),xr (fun _ _=>hi),xr (fun _ _ _=>hi),pO (by omega) (by omega)]
   have Dj:l.drop (a-1).toNat=nth l (a-1)::l.drop a.toNat:=by
    rw[va (by omega) (by omega),show(a-1).toNat+1=a.toNat by omega]
   have key:(decide ((wA (nth l (a-1))).ya>(nth (nth rs i) j).ya)||(decide ((wA (nth l (a-1))).ya=(nth (nth rs i) j).ya)&&decide ((wA (nth l (a-1))).fQ>(nth (nth rs i) j).fQ)))=decide (fV (pk (nth (nth rs i) j)) (nth l (a-1))):=by
    rw[Bool.eq_iff_iff]
    simp only[Bool.or_eq_true,Bool.and_eq_true,decide_eq_true_eq]
    unfold fV wA pk
    simp only
    omega
   rw[key]
   by_cases hc:fV (pk (nth (nth rs i) j)) (nth l (a-1))
   ·rw[if_pos (by simp[h,hc])]
    refine KS hs hl n (a-1) (by omega) (by omega) (by omega) ?_
    rw[Dj]
    intro x hx
    rcases List.mem_cons.1 hx with rfl | hx
    ·exact hc
    ·exact hd x hx
   ·rw[if_neg (by simp[hc])]
    refine⟨a,h0,h1,rfl,hd,?_⟩
    intro x hx
    have e:l.take a.toNat=l.take (a-1).toNat++[nth l (a-1)]:=by
     rw[show a.toNat=(a-1).toNat+1 by omega,List.take_succ_eq_append_getElem (by omega),jT ⟨by omega,by omega⟩]
    have hsd:SD (l.take a.toNat):=hs.sublist (List.take_sublist _ _)
    rw[e] at hx hsd
    rcases List.mem_append.1 hx with hx | hx
    ·have h3:=(List.pairwise_append.1 hsd).2.2 x hx _ (List.mem_singleton.2 rfl)
     intro h4
     unfold fV at hc h3 h4
     omega
    ·rw[List.mem_singleton.1 hx];exact hc
  ·have ha:a=0:=by omega
   subst ha
   rw[xr (fun x=>by simp at x),xr (fun x=>by simp at x),xr (fun x=>by simp at x),if_neg (by simp)]
   exact⟨0,by omega,by omega,rfl,hd,by simp⟩
structure PLI (l:List Pl) (m:Nat):Prop where
 s:SD l
 n:l.Nodup
 b:l.length<=m
theorem PLI.ins{l:List Pl}{m:Nat}(h:PLI l m){p:Pl}{a:Int}(h0:0<=a)(h1:a<=l.length)(hp:p∉l)(hd:∀ x∈l.drop a.toNat,fV p x)(ht:∀ x∈l.take a.toNat,¬fV p x):PLI (l.take a.toNat++[p]++l.drop a.toNat) (m+1)/\∀ x,x∈l.take a.toNat++[p]++l.drop a.toNat↔x=p\/x∈l:=by
 have e:=List.take_append_drop a.toNat l
 have hm:∀ x,x∈l.take a.toNat++[p]++l.drop a.toNat↔x=p\/x∈l:=by
  intro x
  rw[<- e]
  simp only[List.mem_append,List.mem_singleton,e]
  constructor
  ·rintro((h | h) | h)
   ·exact .inr (List.mem_of_mem_take h)
   ·exact .inl h
   ·exact .inr (List.mem_of_mem_drop h)
  ·rintro(h | h)
   ·exact .inl (.inr h)
   ·rw[<- e] at h
    rcases List.mem_append.1 h with h | h
    ·exact .inl (.inl h)
    ·exact .inr h
 have hs:=h.s
 have hn:=h.n
 rw[<- e] at hs hn
 obtain⟨s1,s2,s3⟩:=List.pairwise_append.1 hs
 obtain⟨n1,n2,n3⟩:=List.nodup_append.1 hn
 have hpt:p∉l.take a.toNat:=fun hc=>hp (List.mem_of_mem_take hc)
 have hpd:p∉l.drop a.toNat:=fun hc=>hp (List.mem_of_mem_drop hc)
 refine⟨⟨?_,?_,?_⟩,hm⟩
 ·rw[List.append_assoc]
  refine List.pairwise_append.2 ⟨s1,?_,?_⟩
  ·refine List.pairwise_cons.2 ⟨fun y hy=>bh _ _ (hd y hy),s2⟩
  ·intro x hx y hy
   rcases List.mem_cons.1 hy with rfl | hy
   ·exact ht x hx
   ·exact s3 x hx y hy
 ·rw[List.append_assoc]
  refine List.nodup_append.2 ⟨n1,List.nodup_cons.2 ⟨hpd,n2⟩,?_⟩
  intro x hx y hy e2
  subst e2
  rcases List.mem_cons.1 hy with rfl | hy
  ·exact hpt hx
  ·exact n3 x hx x hy rfl
 ·have zs:=congrArg List.length e
  rw[List.length_append] at zs
  simp only[List.length_append,List.length_cons,List.length_nil]
  have:=h.b
  omega
theorem KT{rs:List (List Hop)}{i:Int}{k:List PB->Option (List PB)}(hi:0<=i/\i<rs.length)(hr:(nth rs i).length<=1000):∀(n:Nat) (j:Int) (l:List Pl) (m:Nat),0<=j->j<=(nth rs i).length->(nth rs i).length<n+j->PLI l m->m+(nth rs i).length<=100000+j->
  ∃ l',PLI l' (m+((nth rs i).length-j).toNat)/\kN i rs k n (l.map wA) j=k (l'.map wA)/\∀ x,x∈l'↔x∈l\/∃ h∈(nth rs i).drop j.toNat,pk h=x
 | 0,j,l,m,h0,h1,h2,hp,hm=>by omega
 | n+1,j,l,m,h0,h1,h2,hp,hm=>by
  have D3:=hp.b
  rw[kN,xr hi]
  by_cases h:j<(nth rs i).length
  ·rw[if_pos (decide_eq_true h),va h0 h]
   refine w8 (P:=fun o=>∃ l',PLI l' (m+((nth rs i).length-j).toNat)/\o=k (l'.map wA)/\∀ x,x∈l'↔x∈l\/∃ h∈nth (nth rs i) j::(nth rs i).drop (j.toNat+1),pk h=x) fun k1 mV=>?_
   have go:∀ l2,PLI l2 (m+1)->(∀ x,x∈l2↔x=pk (nth (nth rs i) j)\/x∈l)->∃ l',PLI l' (m+((nth rs i).length-j).toNat)/\k1 (l2.map wA)=k (l'.map wA)/\∀ x,x∈l'↔x∈l\/∃ h∈nth (nth rs i) j::(nth rs i).drop (j.toNat+1),pk h=x:=by
    intro l2 zn Di
    obtain⟨l',a1,a2,a3⟩:=KT (k:=k) hi hr n (j+1) l2 (m+1) (by omega) (by omega) (by omega) zn (by omega)
    refine⟨l',?_,?_,fun x=>?_⟩
    ·rw[show m+((nth rs i).length-j).toNat=m+1+((nth rs i).length-(j+1)).toNat by omega];exact a1
    ·rw[mV,xD (x:=j+1) (by omega),a2]
    ·rw[a3,Di,show(j+1).toNat=j.toNat+1 by omega]
     simp only[List.mem_cons,exists_eq_or_imp]
     constructor
     ·rintro((h | h) | h)
      ·exact .inr (.inl h.symm)
      ·exact .inl h
      ·exact .inr (.inr h)
     ·rintro(h | h | h)
      ·exact .inl (.inr h)
      ·exact .inl (.inl h.symm)
      ·exact .inr h
   rw[xr hi,xr ⟨h0,h⟩]
   rcases Yn (l:=l) (by omega) (pk (nth (nth rs i) j)) with⟨e1,q,q0,e2⟩ | ⟨e1,e2⟩
   ·have e2:vG (l.map wA) (nth (nth rs i) j).ya (nth (nth rs i) j).fQ=some q:=e2
    rw[e2,oB,if_pos (by simpa using q0)]
    exact go l ⟨hp.s,hp.n,by omega⟩ fun x=>⟨.inr,fun h=>by rcases h with rfl | h;exact e1;exact h⟩
   ·have e2:vG (l.map wA) (nth (nth rs i) j).ya (nth (nth rs i) j).fQ=some (-1):=e2
    rw[e2,oB,if_neg (by decide)]
    refine w8 (P:=fun o=>∃ l',PLI l' (m+((nth rs i).length-j).toNat)/\o=k (l'.map wA)/\∀ x,x∈l'↔x∈l\/∃ h∈nth (nth rs i) j::(nth rs i).drop (j.toNat+1),pk h=x) fun k2 lN=>?_
    have AM:(((l.map wA).length:Nat):Int)=l.length:=by rw[List.length_map]
    rw[AM]
    obtain⟨a,a0,a1,a2,a3,a4⟩:=KS (k:=k2) (rs:=rs) (i:=i) (j:=j) hp.s (by omega) xC l.length (by omega) (by omega) (by rw[xN];omega) (by simp)
    obtain⟨b1,b2⟩:=hp.ins a0 a1 e1 a3 a4
    have mO:=hp.b
    have htk:(l.map wA).take a.toNat=(l.take a.toNat).map wA:=(List.map_take ..).symm
    have hdk:(l.map wA).drop a.toNat=(l.drop a.toNat).map wA:=(List.map_drop ..).symm
    have Ba:=b1.b
    have eq:([]++(l.map wA).take a.toNat)++[(⟨(nth (nth rs i) j).ya,(nth (nth rs i) j).fQ,0,0⟩:PB)]++(l.map wA).drop a.toNat=(l.take a.toNat++[pk (nth (nth rs i) j)]++l.drop a.toNat).map wA:=by
     rw[htk,hdk,List.nil_append,List.map_append,List.map_append];rfl
    have l1:(([]++(l.map wA).take a.toNat).length:Int)<=100000:=by rw[List.nil_append,List.length_take,List.length_map];omega
    have l2:((([]++(l.map wA).take a.toNat)++[(⟨(nth (nth rs i) j).ya,(nth (nth rs i) j).fQ,0,0⟩:PB)]).length:Int)<=100001:=by rw[List.length_append,List.length_singleton];push_cast;omega
    have l3:((([]++(l.map wA).take a.toNat)++[(⟨(nth (nth rs i) j).ya,(nth (nth rs i) j).fQ,0,0⟩:PB)]++(l.map wA).drop a.toNat).length:Int)<=100001:=by rw[eq,List.length_map];omega
    rw[a2,lN,AM,xr ⟨by omega,a0,a1⟩,xr (by omega),xr ⟨Int.le_trans (Int.mul_le_mul_of_nonneg_right l2 (by decide)) (by decide),Int.le_trans l2 (by decide)⟩,xr ⟨a0,a1,by omega⟩,xr ⟨Int.le_trans (Int.mul_le_mul_of_nonneg_right l3 (by decide)) (by decide),Int.le_trans l3 (by decide)⟩]
    have hg:=go _ b1 b2
    rw[←eq] at hg
    exact hg
  ·rw[if_neg (by simpa using h),List.drop_eq_nil_of_le (by omega)]
   exact⟨l,⟨hp.s,hp.n,by omega⟩,rfl,by simp⟩
theorem KU{rs:List (List Hop)}{k:List PB->Option (List PB)}(hr:∀ r∈rs,r.length<=1000)(hl:rs.length<=16):∀(n:Nat) (i:Int) (l:List Pl) (m:Nat),0<=i->i<=rs.length->rs.length<n+i->PLI l m->m<=i*1000->
  ∃ l',SD l'/\l'.Nodup/\kO rs k n (l.map wA) i=k (l'.map wA)/\∀ x,x∈l'↔x∈l\/∃ r∈rs.drop i.toNat,∃ h∈r,pk h=x
 | 0,i,l,m,h0,h1,h2,hp,hm=>by omega
 | n+1,i,l,m,h0,h1,h2,hp,hm=>by
  rw[kO]
  by_cases h:i<rs.length
  ·have hri:=hr _ (w4 h0 h)
   rw[if_pos (decide_eq_true h),va h0 h]
   refine w8 (P:=fun o=>∃ l',SD l'/\l'.Nodup/\o=k (l'.map wA)/\∀ x,x∈l'↔x∈l\/∃ r∈nth rs i::rs.drop (i.toNat+1),∃ h∈r,pk h=x) fun k1 mV=>?_
   refine w8 (P:=fun o=>∃ l',SD l'/\l'.Nodup/\o=k (l'.map wA)/\∀ x,x∈l'↔x∈l\/∃ r∈nth rs i::rs.drop (i.toNat+1),∃ h∈r,pk h=x) fun k2 lN=>?_
   obtain⟨l2,a1,a2,a3⟩:=KT (k:=k2) ⟨h0,h⟩ hri xC 0 l m (by omega) (by omega) (by rw[xN];omega) hp (by omega)
   obtain⟨l',b1,b2,b3,b4⟩:=KU (k:=k) hr hl n (i+1) l2 _ (by omega) (by omega) (by omega) a1 (by omega)
   refine⟨l',b1,b2,?_,fun x=>?_⟩
   ·rw[a2,lN,mV,xD (x:=i+1) (by omega),b3]
   ·rw[b4,a3,show(i+1).toNat=i.toNat+1 by omega]
    simp only[Int.toNat_zero,List.drop_zero,List.mem_cons,exists_eq_or_imp]
    rw[or_assoc]
  ·rw[if_neg (by simpa using h),List.drop_eq_nil_of_le (by omega)]
   exact⟨l,hp.s,hp.n,rfl,by simp⟩
theorem aY{rs:List (List Hop)}(hr:∀ r∈rs,r.length<=1000)(hl:rs.length<=16):mC rs=some ((PS rs).map wA):=by
 unfold mC
 refine w8 (P:=fun o=>o=_) fun k hk=>?_
 obtain⟨l,a1,a2,a3,a4⟩:=KU (k:=k) hr hl xC 0 [] 0 (by omega) (by omega) (by rw[xN];omega) ⟨List.Pairwise.nil,List.nodup_nil,by simp⟩ (by omega)
 have zN:l.Perm (PS rs):=(List.perm_ext_iff_of_nodup a2 (mo rs)).2 fun x=>by
  rw[a4,rm];simp
 have:=il zN a2 a1 (dZ hr (by omega))
 rw[this] at a3
 exact a3.trans (hk _)
end
section
variable {rs:List (List Hop)}
/-! ### the reference: the order -/
def RD(r:List Hop)(o:List Pl)(p:Pl)(hs:List Hop):Prop:=∀ h∈hs,pk h=p->(j6 r h.ya).2=true->pk (j6 r h.ya).1∈o
abbrev RQ(z k:Option Bool)(p:Prop):Prop:=(z=k/\p)\/(z=some false/\¬p)
theorem KV{c:Cf}{net:Int}{rs:List (List Hop)}{i:Int}{p:Pl}{o:List Pl}{k:Option Bool}(hi:0<=i/\i<rs.length)(hv:VR c net (nth rs i))(ho:o.length<=1000000):∀(n:Nat) (j:Int),0<=j->j<=(nth rs i).length->(nth rs i).length<n+j->
  RQ (kn i rs (wA p) (o.map wA) k n j) k (RD (nth rs i) o p ((nth rs i).drop j.toNat))
 | 0,j,h0,h1,h2=>by omega
 | n+1,j,h0,h1,h2=>by
  have hr:=hv.len
  rw[kn,xr hi]
  by_cases h:j<(nth rs i).length
  ·rw[if_pos (decide_eq_true h),va h0 h]
   have go:(RD (nth rs i) o p [nth (nth rs i) j])->RQ (kn i rs (wA p) (o.map wA) k n (i64 (j+1))) k (RD (nth rs i) o p (nth (nth rs i) j::(nth rs i).drop (j.toNat+1))):=by
    intro h3
    rw[xD (x:=j+1) (by omega),show j.toNat+1=(j+1).toNat by omega]
    rcases KV (k:=k) (p:=p) hi hv ho n (j+1) (by omega) (by omega) (by omega) with⟨a,b⟩ | ⟨a,b⟩
    ·refine .inl ⟨a,fun x hx=>?_⟩
     rcases List.mem_cons.1 hx with rfl | hx
     ·exact h3 _ (by simp)
     ·exact b x hx
    ·exact .inr ⟨a,fun hc=>b fun x hx=>hc x (List.mem_cons_of_mem _ hx)⟩
   refine qL (P:=fun z=>RQ z k (RD (nth rs i) o p (nth (nth rs i) j::(nth rs i).drop (j.toNat+1)))) fun k1 mV=>?_
   rw[xr hi,xr ⟨h0,h⟩]
   by_cases e:pk (nth (nth rs i) j)=p
   ·have e1:(nth (nth rs i) j).ya=(wA p).ya:=congrArg z7.ya e
    have e2:(nth (nth rs i) j).fQ=(wA p).fQ:=congrArg z7.fQ e
    rw[if_neg (by simp[e1,e2]),xr hi]
    rcases tC (r:=nth rs i) (by omega) (nth (nth rs i) j).ya with⟨q,q0,q1,e3,e4⟩ | ⟨e3,e4⟩
    ·have zz:=hv.into (w4 q0 q1)
     rw[e4] at zz
     rw[e3,oB,if_pos (by simpa using q0),xr hi,xr ⟨q0,q1⟩]
     rcases Yn (l:=o) ho (pk (nth (nth rs i) q)) with⟨f1,w,w0,f2⟩ | ⟨f1,f2⟩
     ·have f2:vG (o.map wA) (nth (nth rs i) q).ya (nth (nth rs i) q).fQ=some w:=f2
      rw[f2,oB,oB,if_neg (by simpa using w0),mV]
      refine go fun x hx _ _=>?_
      rw[List.mem_singleton.1 hx,zz];exact f1
     ·have f2:vG (o.map wA) (nth (nth rs i) q).ya (nth (nth rs i) q).fQ=some (-1):=f2
      rw[f2,oB,oB,if_pos (by decide)]
      refine .inr ⟨rfl,fun hc=>f1 ?_⟩
      have:=hc _ List.mem_cons_self e (by rw[zz])
      rw[zz] at this;exact this
    ·rw[e3,oB,if_neg (by decide),oB,if_neg (by decide),mV]
     refine go fun x hx _ h5=>?_
     rw[List.mem_singleton.1 hx] at h5
     obtain⟨h6,h7⟩:=rG h5
     exact absurd h7 (e4 _ h6)
   ·have ne:¬((nth (nth rs i) j).ya=(wA p).ya/\(nth (nth rs i) j).fQ=(wA p).fQ):=fun hc=>e (by
     have a:(wA p).ya=p.ya:=rfl
     have b:(wA p).fQ=p.fQ:=rfl
     unfold pk;rw[hc.1,hc.2,a,b])
    rw[if_pos (by simp only[Bool.or_eq_true,decide_eq_true_eq];omega),mV]
    refine go fun x hx ex=>?_
    rw[List.mem_singleton.1 hx] at ex
    exact absurd ex e
  ·rw[if_neg (by simpa using h),List.drop_eq_nil_of_le (by omega)]
   exact .inl ⟨rfl,fun x hx=>by simp at hx⟩
theorem KW{c:Cf}{net:Int}{rs:List (List Hop)}{p:Pl}{o:List Pl}{k:Option Bool}(hv:VA c net rs)(ho:o.length<=1000000):∀(n:Nat) (i:Int),0<=i->i<=rs.length->rs.length<n+i->
  RQ (gk rs (wA p) (o.map wA) k n i) k (∀ r∈rs.drop i.toNat,RD r o p r)
 | 0,i,h0,h1,h2=>by omega
 | n+1,i,h0,h1,h2=>by
  have hm:=hv.most
  rw[gk]
  by_cases h:i<rs.length
  ·have Dk:=hv.each _ (w4 h0 h)
   have hr:=Dk.len
   rw[if_pos (decide_eq_true h),va h0 h]
   refine qL (P:=fun z=>RQ z k (∀ r∈nth rs i::rs.drop (i.toNat+1),RD r o p r)) fun k1 mV=>?_
   refine qL (P:=fun z=>RQ z k (∀ r∈nth rs i::rs.drop (i.toNat+1),RD r o p r)) fun k2 lN=>?_
   rcases KV (k:=k2) (p:=p) ⟨h0,h⟩ Dk ho xC 0 (by omega) (by omega) (by rw[xN];omega) with⟨a,b⟩ | ⟨a,b⟩
   ·simp only[Int.toNat_zero,List.drop_zero] at b
    rw[a,lN,mV,xD (x:=i+1) (by omega),show i.toNat+1=(i+1).toNat by omega]
    rcases KW (k:=k) (p:=p) hv ho n (i+1) (by omega) (by omega) (by omega) with⟨d,e⟩ | ⟨d,e⟩
    ·refine .inl ⟨d,fun r hr=>?_⟩
     rcases List.mem_cons.1 hr with rfl | hr
     ·exact b
     ·exact e r hr
    ·exact .inr ⟨d,fun hc=>e fun r hr=>hc r (List.mem_cons_of_mem _ hr)⟩
   ·simp only[Int.toNat_zero,List.drop_zero] at b
    exact .inr ⟨a,fun hc=>b (hc _ List.mem_cons_self)⟩
  ·rw[if_neg (by simpa using h),List.drop_eq_nil_of_le (by omega)]
   exact .inl ⟨rfl,fun x hx=>by simp at hx⟩
theorem JQ{c:Cf}{net:Int}{p:Pl}{o:List Pl}(hv:VA c net rs)(ho:o.length<=1000000):∃ b,ub rs (o.map wA) (wA p)=some b/\(b=true↔∀ q,sE rs p q->q∈o):=by
 have hm:=hv.most
 have e:(∀ q,sE rs p q->q∈o)↔∀ r∈rs,RD r o p r:=by
  constructor
  ·intro h r hr x hx ex h1;exact h _ ⟨r,hr,x,hx,ex,h1,rfl⟩
  ·rintro h q ⟨r,hr,x,hx,ex,h1,rfl⟩;exact h r hr x hx ex h1
 unfold ub
 refine qL (P:=fun z=>∃ b,z=some b/\(b=true↔∀ q,sE rs p q->q∈o)) fun k hk=>?_
 rw[e]
 rcases KW (k:=k) (p:=p) hv ho xC 0 (by omega) (by omega) (by rw[xN];omega) with⟨a,b⟩ | ⟨a,b⟩
 ·rw[a,hk];exact⟨true,rfl,by simpa using b⟩
 ·rw[a];exact⟨false,rfl,by simpa using b⟩
theorem JR{c:Cf}{net:Int}{rs:List (List Hop)}{o:List Pl}{k:List PB->Option (List PB×Bool)}(hv:VA c net rs)(ho:o.length<=1000000)(hP:(PS rs).length<=1000000):∀(n:Nat) (i:Int),0<=i->i<=(PS rs).length->(PS rs).length<n+i->
  (∃ p∈PS rs,p∉o/\(∀ q,sE rs p q->q∈o)/\jf ((PS rs).map wA) (o.map wA) rs k n i=k ((o++[p]).map wA))\/(jf ((PS rs).map wA) (o.map wA) rs k n i=k (o.map wA)/\∀ p∈(PS rs).drop i.toNat,p∈o\/¬∀ q,sE rs p q->q∈o)
 | 0,i,h0,h1,h2=>by omega
 | n+1,i,h0,h1,h2=>by
  have AM:((((PS rs).map wA).length:Nat):Int)=(PS rs).length:=by rw[List.length_map]
  rw[jf,AM]
  by_cases h:i<(PS rs).length
  ·have zN:=w4 h0 h
   rw[if_pos (decide_eq_true h),va h0 h,pO h0 h,xr ⟨h0,h⟩]
   have next:(nth (PS rs) i∈o\/¬∀ q,sE rs (nth (PS rs) i) q->q∈o)->(∃ p∈PS rs,p∉o/\(∀ q,sE rs p q->q∈o)/\jf ((PS rs).map wA) (o.map wA) rs k n (i64 (i+1))=k ((o++[p]).map wA))\/(jf ((PS rs).map wA) (o.map wA) rs k n (i64 (i+1))=k (o.map wA)/\∀ p∈nth (PS rs) i::(PS rs).drop (i.toNat+1),p∈o\/¬∀ q,sE rs p q->q∈o):=by
    intro hx
    rw[xD (x:=i+1) (by omega),show i.toNat+1=(i+1).toNat by omega]
    rcases JR (k:=k) hv ho hP n (i+1) (by omega) (by omega) (by omega) with a | ⟨a,b⟩
    ·exact .inl a
    ·refine .inr ⟨a,fun p hp=>?_⟩
     rcases List.mem_cons.1 hp with rfl | hp
     ·exact hx
     ·exact b p hp
   have eH:vG (o.map wA) (wA (nth (PS rs) i)).ya (wA (nth (PS rs) i)).fQ=vG (o.map wA) (nth (PS rs) i).ya (nth (PS rs) i).fQ:=rfl
   rw[eH]
   rcases Yn (l:=o) ho (nth (PS rs) i) with⟨f1,w,w0,f2⟩ | ⟨f1,f2⟩
   ·rw[f2,oB,if_neg (by simpa using w0),oB,if_neg (by decide)]
    exact next (.inl f1)
   ·rw[f2,oB,if_pos (by decide),xr ⟨h0,h⟩]
    obtain⟨b,b1,b2⟩:=JQ (p:=nth (PS rs) i) hv ho
    have b1:ub rs (o.map wA) (⟨(wA (nth (PS rs) i)).ya,(wA (nth (PS rs) i)).fQ,(wA (nth (PS rs) i)).yf,(wA (nth (PS rs) i)).fT⟩:PB)=some b:=b1
    rw[b1,oB,oB]
    cases b with
    | false=>
     rw[if_neg (by decide)]
     exact next (.inr fun hc=>by have:=b2.2 hc;cases this)
    | true=>
     have e:([]++o.map wA)++[(⟨(wA (nth (PS rs) i)).ya,(wA (nth (PS rs) i)).fQ,(wA (nth (PS rs) i)).yf,(wA (nth (PS rs) i)).fT⟩:PB)]=(o++[nth (PS rs) i]).map wA:=by
      rw[List.nil_append,List.map_append];rfl
     rw[if_pos rfl,xr (by rw[List.nil_append,List.length_map];omega),xr ⟨h0,h⟩,e,xr (by rw[List.length_map,List.length_append,List.length_singleton];push_cast;omega)]
     exact .inl ⟨_,zN,f1,b2.1 rfl,rfl⟩
  ·rw[if_neg (by simpa using h),List.drop_eq_nil_of_le (by omega)]
   exact .inr ⟨rfl,fun x hx=>by simp at hx⟩
theorem wM.snoc{o:List Pl}(h:wM rs o){p:Pl}(hp:∀ q,sE rs p q->q∈o):wM rs (o++[p]):=by
 intro l1 x l2 e q hq
 rcases List.eq_nil_or_concat l2 with rfl | ⟨m,y,rfl⟩
 ·have:=List.append_inj' e rfl
  injection this.2 with h1 _
  rw[<- this.1];exact hp q (h1▸hq)
 ·have e2:o++[p]=(l1++x::m)++[y]:=by rw[e];simp
  have:=List.append_inj' e2 rfl
  exact h l1 x m this.1 q hq
theorem eM:∀ {a b:List Pl},a.Nodup->(∀ x∈a,x∈b)->a.length<=b.length
 | [],b,_,_=>by simp
 | x::a,b,hn,hs=>by
  have hp:=List.perm_cons_erase (hs x (by simp))
  rw[hp.length_eq,List.length_cons,List.length_cons]
  obtain⟨h1,h2⟩:=List.nodup_cons.1 hn
  have:=eM (b:=b.erase x) h2 fun y hy=>(List.mem_erase_of_ne (fun e:y=x=>h1 (e▸hy))).2 (hs y (List.mem_cons_of_mem _ hy))
  omega
theorem WP:∀ {a b:List Pl},a.Nodup->(∀ x∈a,x∈b)->b.length<=a.length->a.Perm b
 | [],b,_,_,h=>by
  have:b=[]:=List.length_eq_zero_iff.1 (by simpa using h)
  rw[this]
 | x::a,b,hn,hs,h=>by
  have hp:=List.perm_cons_erase (hs x (by simp))
  have hl:=hp.length_eq
  rw[List.length_cons] at hl
  rw[List.length_cons] at h
  obtain⟨h1,h2⟩:=List.nodup_cons.1 hn
  exact((WP (b:=b.erase x) h2 (fun y hy=>(List.mem_erase_of_ne (fun e:y=x=>h1 (e▸hy))).2 (hs y (List.mem_cons_of_mem _ hy))) (by omega)).cons x).trans hp.symm
abbrev OQ(rs:List (List Hop))(z:Option (List PB×Bool))(k:List PB->Option (List PB×Bool)):Prop:=(∃ l,l.Perm (PS rs)/\wM rs l/\z=k (l.map wA))\/(∃ s,tA rs s/\z=some ([],false))
theorem JS{c:Cf}{net:Int}{rs:List (List Hop)}{k:List PB->Option (List PB×Bool)}(hv:VA c net rs)(hP:(PS rs).length<=1000):∀(n:Nat) (o:List Pl),(PS rs).length<n+o.length->o.Nodup->(∀ p∈o,p∈PS rs)->wM rs o->
  (∃ l,l.Perm (PS rs)/\wM rs l/\ko ((PS rs).map wA) rs k n (o.map wA)=k (l.map wA))\/(∃ s,tA rs s/\ko ((PS rs).map wA) rs k n (o.map wA)=some ([],false))
 | 0,o,h0,hn,hs,hi=>by
  have:=eM hn hs
  omega
 | n+1,o,h0,hn,hs,hi=>by
  have zs:=eM hn hs
  rw[ko]
  by_cases h:o.length<(PS rs).length
  ·rw[if_pos (by rw[decide_eq_true_eq,List.length_map,List.length_map];omega)]
   refine w8 (P:=fun z=>OQ rs z k) fun k1 mV=>?_
   refine w8 (P:=fun z=>OQ rs z k) fun k2 lN=>?_
   rcases JR (k:=k2) (o:=o) hv (by omega) (by omega) xC 0 (by omega) (by omega) (by rw[xN];omega) with⟨p,p1,p2,p3,p4⟩ | ⟨a,b⟩
   ·rw[p4,lN,if_neg (by rw[decide_eq_true_eq,List.length_map,List.length_map,List.length_append,List.length_singleton];push_cast;omega),mV]
    refine JS hv hP n (o++[p]) (by rw[List.length_append,List.length_singleton];omega) ?_ ?_ (hi.snoc p3)
    ·rw[List.nodup_append]
     refine⟨hn,by simp,fun x hx y hy e=>?_⟩
     rw[List.mem_singleton.1 hy] at e
     exact p2 (e▸hx)
    ·intro x hx
     rcases List.mem_append.1 hx with hx | hx
     ·exact hs x hx
     ·rw[List.mem_singleton.1 hx];exact p1
   ·simp only[Int.toNat_zero,List.drop_zero] at b
    rw[a,lN,if_pos (by rw[decide_eq_true_eq])]
    refine .inr ⟨(PS rs).filter fun p=>decide (p∉o),⟨?_,?_⟩,rfl⟩
    ·intro hc
     have zu:∀ p∈PS rs,p∈o:=by
      intro p hp
      refine Classical.byContradiction fun ze=>?_
      have:p∈(PS rs).filter fun p=>decide (p∉o):=List.mem_filter.2 ⟨hp,by simpa using ze⟩
      rw[hc] at this
      simp at this
     have:=eM (mo rs) zu
     omega
    ·intro p hp
     obtain⟨xv,zn⟩:=List.mem_filter.1 hp
     have zn:p∉o:=by simpa using zn
     refine⟨xv,?_⟩
     rcases b p xv with hc | hc
     ·exact absurd hc zn
     ·refine Classical.byContradiction fun ze=>hc fun q hq=>?_
      refine Classical.byContradiction fun hqo=>ze ⟨q,List.mem_filter.2 ⟨((ig hv).2 hq).left,by simpa using hqo⟩,hq⟩
  ·rw[if_neg (by rw[decide_eq_true_eq,List.length_map,List.length_map];omega)]
   exact .inl ⟨o,WP hn hs (by omega),hi,rfl⟩
theorem JU{c:Cf}{net:Int}(hf:FewP c rs)(hv:VA c net rs):(∃ l,l.Perm (PS rs)/\wM rs l/\uc c net rs=some (l.map wA,0))\/(∃ s,tA rs s/\uc c net rs=some ([],351)):=by
 have hP:=oh hf.e
 have BS:=hf.r
 have h3:rs.length*40<=20*40:=Nat.mul_le_mul_right _ BS
 have hm:=hv.most
 unfold uc
 obtain⟨b,q1,q2⟩:=im hf.small (net:=net) (rs:=rs)
 rw[q1,oB,q2.2 hv,if_neg (by decide)]
 unfold ru
 rw[aY (fun r hr=>by have:=hf.e r hr;omega) hm,oB]
 refine w8 (P:=fun(z:Option (List PB×Bool))=>(∃ l,l.Perm (PS rs)/\wM rs l/\(z.bind fun x=>if (!x.2)=true then some (([]:List PB),(351:Int)) else some (x.1,0))=some (l.map wA,0))\/(∃ s,tA rs s/\(z.bind fun x=>if (!x.2)=true then some (([]:List PB),(351:Int)) else some (x.1,0))=some ([],351))) fun k hk=>?_
 rcases JS (k:=k) hv (by omega) xC [] (by rw[xN];simp;omega) List.nodup_nil (by simp) (by intro l1 p l2 e;simp at e) with⟨l,a,b,d⟩ | ⟨s,a,d⟩
 ·rw[show([]:List PB)=([]:List Pl).map wA from rfl,d,hk]
  exact .inl ⟨l,a,b,rfl⟩
 ·rw[show([]:List PB)=([]:List Pl).map wA from rfl,d]
  exact .inr ⟨s,a,rfl⟩
end
end Go.Proofs.YthjnhebofpebpaaGreat

/- A part of this claim's proof: models of functions, walks, plain laws. No conditions. -/
import Derived.Test.YthjnhebofpebpaaGreatP35h
set_option linter.all false
namespace Go.Proofs.YthjnhebofpebpaaGreat
open Go Go.RowKit Sep
section
variable {net:Int}{r:List Hop}{ps:List PB}
/-! ### the reference: the ends -/
def Dw(c:Cf)(D:Pl->Int)(p:Pl):Int:=D p+j7 c p.ya+wj c p.fQ
abbrev wn(c:Cf)(D:Pl->Int)(r:List Hop)(n:Int):Int:=jn c (Dw c D) r n
theorem VR.wn_next{c:Cf}(h:VR c net r)(D:Pl->Int){g:Hop}(hg:g∈r):wn c D r g.fX=wn c D r g.ya+D (pk g):=by
 have:=h.jn_next (Dw c D) hg
 unfold wn
 rw[this]
 unfold Dw
 have e1:(pk g).ya=g.ya:=rfl
 have e2:(pk g).fQ=g.fQ:=rfl
 rw[e1,e2];omega
structure WB (c:Cf) (r:List Hop) (D:Pl->Int):Prop where
 d:∀ h∈r,0<=D (pk h)/\D (pk h)<=1000000
theorem WB.w{c:Cf}{D:Pl->Int}(hS:Small c)(hv:VR c net r)(h:WB c r D)(n:Int) : -100000000<=wn c D r n/\wn c D r n<=100000000:=by
 have:=JL (D:=Dw c D) hS hv (M:=1001016) (by omega) (fun x hx=>by
  have hh:=hv.hop hS hx
  have a:=h.d x hx;have b:=hh.d0;have d:=hh.d1;have e:=hh.s0;have f:=hh.s1
  unfold Dw
  have e1:(pk x).ya=x.ya:=rfl
  have e2:(pk x).fQ=x.fQ:=rfl
  rw[e1,e2];omega) n
 unfold wn;omega
theorem Vj{c:Cf}(hS:Small c)(hv:VR c net r)(hl:ps.length<=1000000)(hD:WB c r (dD (wx ps))):
  ∀ v:Int,0<=v->v<r.length->∀(n:Nat) (st:Int),v<n->v<=st->st<=1000->g0 n r ps (nth r v).ya st=some (wn c (dD (wx ps)) r (nth r v).ya):=by
 have Ay:=hv.len
 refine hv.indv (fun v v0 v1 e n st hn lJ hst1=>?_) (fun q v q0 q1 v1 e ih n st hn lJ hst1=>?_)
 ·obtain⟨m,rfl⟩:∃ m,n=m+1:=⟨n-1,by omega⟩
  rw[g0]
  rcases tC (r:=r) (by omega) (nth r v).ya with⟨i,i0,i1,e1,e2⟩ | ⟨e1,_⟩
  ·exact absurd (e2.trans e) (hv.start _ (w4 i0 i1))
  ·rw[e1,oB,xr (fun _=>by omega),if_pos (by simp),e]
   unfold wn;rw[hv.jn_start]
 ·obtain⟨m,rfl⟩:∃ m,n=m+1:=⟨n-1,by omega⟩
  rw[g0]
  have Ae:=w4 (l:=r) q0 (by omega)
  rcases tC (r:=r) (by omega) (nth r v).ya with⟨i,i0,i1,e1,e2⟩ | ⟨_,e1⟩
  ·have eq:nth r i=nth r q:=hv.uniq (w4 i0 i1) Ae (e2.trans e.symm)
   have wX:(nth r v).ya≠(nth r 0).ya:=fun hc=>hv.start _ Ae (e.trans hc)
   rw[e1,oB,xr (fun _=>by omega),if_neg (by simp only[Bool.or_eq_true,decide_eq_true_eq];omega)]
   refine w8 (P:=fun o=>o=_) fun k hk=>?_
   have xA:k (xx (wx ps) (pk (nth r q)) 0)=some (wn c (dD (wx ps)) r (nth r v).ya):=by
    have hw:=hD.w hS hv (nth r q).ya
    have hd:=hD.d _ Ae
    have hd:0<=xx (wx ps) (pk (nth r q)) 0/\xx (wx ps) (pk (nth r q)) 0<=1000000:=hd
    rw[hk,xr ⟨i0,i1⟩,eq,xD (x:=st-1) (by omega),ih m (st-1) (by omega) (by omega) (by omega),oB,xD (by omega),<- e,hv.wn_next _ Ae]
    refine congrArg some ?_
    show xx (wx ps) (pk (nth r q)) 0+_=_+xx (wx ps) (pk (nth r q)) 0
    omega
   rw[xr ⟨i0,i1⟩,eq]
   rcases cu (l:=ps) hl (nth r q).ya (nth r q).fQ with⟨j,j0,j1,e3,e4,e5⟩ | ⟨e3,_,e5⟩
   ·rw[e3,oB,if_pos (by simpa using j0),xr ⟨j0,j1⟩,<- e5]
    exact xA
   ·rw[e3,oB,if_neg (by decide),<- e5]
    exact xA
  ·exact absurd e (e1 _ Ae)
theorem Gz{c:Cf}(hS:Small c)(hv:VR c net r)(hl:ps.length<=1000000)(hD:WB c r (dD (wx ps))){q:Int}(q0:0<=q)(q1:q<r.length):pQ r ps (nth r q).fX r.length=some (wn c (dD (wx ps)) r (nth r q).fX):=by
 have Ay:=hv.len
 have Ae:=w4 (l:=r) q0 q1
 unfold pQ
 obtain⟨m,hm⟩:∃ m,xC=m+1:=⟨xC-1,by rw[xN]⟩
 have Di:1000<m:=by have:=xN;omega
 rw[hm,g0]
 rcases tC (r:=r) (by omega) (nth r q).fX with⟨i,i0,i1,e1,e2⟩ | ⟨_,e1⟩
 ·have eq:nth r i=nth r q:=hv.uniq (w4 i0 i1) Ae e2
  have wX:=hv.start _ Ae
  rw[e1,oB,xr (fun _=>by omega),if_neg (by simp only[Bool.or_eq_true,decide_eq_true_eq];omega)]
  refine w8 (P:=fun o=>o=_) fun k hk=>?_
  have xA:k (xx (wx ps) (pk (nth r q)) 0)=some (wn c (dD (wx ps)) r (nth r q).fX):=by
   have hw:=hD.w hS hv (nth r q).ya
   have hd:0<=xx (wx ps) (pk (nth r q)) 0/\xx (wx ps) (pk (nth r q)) 0<=1000000:=hD.d _ Ae
   rw[hk,xr ⟨i0,i1⟩,eq,xD (x:=(r.length:Int)-1) (by omega),Vj hS hv hl hD q q0 q1 m _ (by omega) (by omega) (by omega),oB,xD (by omega),hv.wn_next _ Ae]
   refine congrArg some ?_
   show xx (wx ps) (pk (nth r q)) 0+_=_+xx (wx ps) (pk (nth r q)) 0
   omega
  rw[xr ⟨i0,i1⟩,eq]
  rcases cu (l:=ps) hl (nth r q).ya (nth r q).fQ with⟨j,j0,j1,e3,e4,e5⟩ | ⟨e3,_,e5⟩
  ·rw[e3,oB,if_pos (by simpa using j0),xr ⟨j0,j1⟩,<- e5]
   exact xA
  ·rw[e3,oB,if_neg (by decide),<- e5]
   exact xA
 ·exact absurd rfl (e1 _ Ae)
def RE(c:Cf)(rs:List (List Hop))(D:Pl->Int)(v:Int)(m:Int)(n:Nat):List zf:=((vJ m n).filter fun m=>(j6 (nth rs v) m).2).map fun m=>⟨v,m,wn c D (nth rs v) m⟩
theorem KX{c:Cf}{net:Int}{rs:List (List Hop)}{v:Int}{k:Option (List zf)}(hi:0<=v/\v<rs.length)(hv:VR c net (nth rs v)):∀(n:Nat) (i:Int),0<=i->i<=(nth rs v).length->(nth rs v).length<n+i->g4 rs v k n i=k
 | 0,i,h0,h1,h2=>by omega
 | n+1,i,h0,h1,h2=>by
  have hr:=hv.len
  rw[g4]
  by_cases h:i<(nth rs v).length
  ·have next:g4 rs v k n (i64 (i+1))=k:=by
    rw[xD (x:=i+1) (by omega)]
    exact KX hi hv n (i+1) (by omega) (by omega) (by omega)
   rw[if_pos (decide_eq_true h),xr ⟨h0,h⟩,xr (by omega)]
   by_cases e:(nth (nth rs v) i).ya=(nth (nth rs v) 0).ya
   ·rw[if_neg (by simpa using e),oB,if_neg (by decide)]
    exact next
   ·rw[if_pos (by simpa using e),xr ⟨by omega,h0,by omega⟩,xr ⟨h0,h⟩]
    rcases tC (r:=(nth rs v).take i.toNat) (by rw[List.length_take];omega) (nth (nth rs v) i).ya with⟨q,q0,q1,e1,e2⟩ | ⟨e1,e2⟩
    ·rw[e1,oB,oB,if_neg (by simpa using q0)]
     exact next
    ·rcases(hv.cond i h0 h).1 with hc | ⟨q,q0,q1,hc⟩
     ·exact absurd hc e
     ·refine absurd hc (e2 _ ?_)
      rw[jT ⟨q0,by omega⟩]
      exact List.mem_take_iff_getElem.2 ⟨q.toNat,by omega,rfl⟩
  ·rw[if_neg (by simpa using h)]
theorem KY{c:Cf}{net:Int}{rs:List (List Hop)}{ps:List PB}{v:Int}{k:List zf->Option (List zf)}(hS:Small c)(hi:0<=v/\v<rs.length)(hv:VR c net (nth rs v))(hl:ps.length<=1000000)(hD:WB c (nth rs v) (dD (wx ps))):∀(n:Nat) (m:Int) (o:List zf),0<=m->m<=nM c->nM c<n+m->o.length<=1000000+m->
  f0 c rs v ps k n o m=k (o++RE c rs (dD (wx ps)) v m (nM c-m).toNat)
 | 0,m,o,h0,h1,h2,h3=>by omega
 | n+1,m,o,h0,h1,h2,h3=>by
  have hr:=hv.len
  have hm:=hS.m
  have enm:((c.fM.length:Nat):Int)=nM c:=rfl
  rw[f0,enm]
  unfold nM at hm h1 h2 ⊢
  by_cases h:m<c.fM.length
  ·rw[if_pos (decide_eq_true h)]
   have e0:RE c rs (dD (wx ps)) v m (c.fM.length-m).toNat=(if (j6 (nth rs v) m).2=true then[⟨v,m,wn c (dD (wx ps)) (nth rs v) m⟩] else[])++RE c rs (dD (wx ps)) v (m+1) (c.fM.length-(m+1)).toNat:=by
    unfold RE
    rw[show(c.fM.length-m).toNat=(c.fM.length-(m+1)).toNat+1 by omega,vJ]
    by_cases e:(j6 (nth rs v) m).2=true
    ·rw[List.filter_cons_of_pos (p:=fun m=>(j6 (nth rs v) m).2) e,if_pos e];rfl
    ·rw[List.filter_cons_of_neg (p:=fun m=>(j6 (nth rs v) m).2) e,if_neg e];rfl
   rw[e0]
   refine w8 (P:=fun z=>z=_) fun k1 mV=>?_
   have go:∀ o2:List zf,o2.length<=1000000+(m+1)->k1 o2=k (o2++RE c rs (dD (wx ps)) v (m+1) (c.fM.length-(m+1)).toNat):=by
    intro o2 Ci
    rw[mV,xD (x:=m+1) (by omega)]
    exact KY hS hi hv hl hD n (m+1) o2 (by omega) (by unfold nM;omega) (by unfold nM;omega) Ci
   rcases tC (r:=nth rs v) (by omega) m with⟨q,q0,q1,e1,e2⟩ | ⟨e1,e2⟩
   ·have zz:=hv.into (w4 q0 q1)
    rw[e2] at zz
    have wX:=hv.start _ (w4 q0 q1)
    rw[e1,oB,xr (fun _=>by omega),if_pos (by simp only[Bool.and_eq_true,decide_eq_true_eq];omega),zz,if_pos rfl,<- e2,Gz hS hv hl hD q0 q1,oB,xr (by rw[List.length_append,List.length_singleton];push_cast;omega),go _ (by rw[List.length_append,List.length_singleton];push_cast;omega),List.append_assoc,e2]
   ·have ze:(j6 (nth rs v) m).2=false:=by
     rw[Bool.eq_false_iff];intro hc
     obtain⟨a,b⟩:=rG hc
     exact e2 _ a b
    rw[e1,oB,xr (fun x=>by simp at x),if_neg (by simp),ze,go _ (by omega)]
    simp
  ·rw[if_neg (by simpa using h),show(c.fM.length-m).toNat=0 by omega]
   simp[RE,vJ]
theorem GY{c:Cf}{rs:List (List Hop)}{D:Pl->Int}{v m:Int}{n:Nat}:(RE c rs D v m n).length<=n:=by
 unfold RE
 rw[List.length_map]
 exact Nat.le_trans (List.length_filter_le _ _) (by rw[lC];exact Nat.le_refl _)
theorem KZ{c:Cf}{net:Int}{rs:List (List Hop)}{ps:List PB}{k:List zf->Option (List zf)}(hS:Small c)(hv:VA c net rs)(hl:ps.length<=1000000)(hD:∀ r∈rs,WB c r (dD (wx ps))):∀(n:Nat) (v:Int) (o:List zf),0<=v->v<=rs.length->rs.length<n+v->o.length<=v*1000->
  f5 rs c ps k n o v=k (o++(vJ v (rs.length-v.toNat)).flatMap fun v=>RE c rs (dD (wx ps)) v 0 (nM c).toNat)
 | 0,v,o,h0,h1,h2,h3=>by omega
 | n+1,v,o,h0,h1,h2,h3=>by
  have hm:=hv.most
  have hSm:=hS.m
  rw[f5]
  by_cases h:v<rs.length
  ·have Dk:=hv.each _ (w4 h0 h)
   have hr:=Dk.len
   rw[if_pos (decide_eq_true h),show rs.length-v.toNat=(rs.length-(v+1).toNat)+1 by omega,vJ,List.flatMap_cons]
   refine w8 (P:=fun x=>x=_) fun k1 mV=>?_
   rw[xr ⟨h0,h⟩]
   refine qL (P:=fun x=>x=_) fun k2 lN=>?_
   rw[KX ⟨h0,h⟩ Dk xC 0 (by omega) (by omega) (by rw[xN];omega),lN]
   refine w8 (P:=fun x=>x=_) fun k3 BT=>?_
   have Ay:=GY (c:=c) (rs:=rs) (D:=dD (wx ps)) (v:=v) (m:=0) (n:=(nM c).toNat)
   have hnm:0<=nM c/\nM c<=1000:=by unfold nM;omega
   rw[KY hS ⟨h0,h⟩ Dk hl (hD _ (w4 h0 h)) xC 0 o (by omega) (by omega) (by rw[xN];omega) (by omega),BT,mV,xD (x:=v+1) (by omega),Int.sub_zero,KZ hS hv hl hD n (v+1) _ (by omega) (by omega) (by omega) (by rw[List.length_append];push_cast;omega),List.append_assoc]
  ·rw[if_neg (by simpa using h),show rs.length-v.toNat=0 by omega];simp[vJ]
theorem KG{c:Cf}{rs:List (List Hop)}(hS:Small c)(hv:VA c net rs)(hl:ps.length<=1000000)(hD:∀ r∈rs,WB c r (dD (wx ps))):uV c rs ps=some ((vJ 0 rs.length).flatMap fun v=>RE c rs (dD (wx ps)) v 0 (nM c).toNat):=by
 have hm:=hv.most
 unfold uV
 refine w8 (P:=fun x=>x=_) fun k hk=>?_
 rw[KZ (k:=k) hS hv hl hD xC 0 [] (by omega) (by omega) (by rw[xN];omega) (by simp),hk]
 simp
end
section
variable {net v:Int}{rs:List (List Hop)}
/-! ### the ends agree -/
theorem WQ{c:Cf}{D:Pl->Int}{n:Int}:∀(l:List Hop) (mp:List (Int×Int)),ji (l.foldl (tM c D) mp) n=true->ji mp n=true\/∃ h∈l,h.fX=n
 | [],mp,h => .inl h
 | g::l,mp,h=>by
  rw[List.foldl_cons] at h
  rcases WQ l _ h with h | ⟨x,hx,e⟩
  ·unfold tM at h
   rw[bd] at h
   simp only[Bool.or_eq_true,decide_eq_true_eq] at h
   rcases h with h | h
   ·exact .inr ⟨g,by simp,h.symm⟩
   ·exact .inl h
  ·exact .inr ⟨x,List.mem_cons_of_mem _ hx,e⟩
theorem WR{c:Cf}{net:Int}{r:List Hop}{de:DM}{v:Int}(hS:Small c)(hv:VR c net r)(hD:WB c r (dD de)):∀ n:Nat,n<=r.length->(r.take n).foldl (sU c r de v) ⟨[],[]⟩=⟨((r.take n).filter fun h=>decide (0<=h.fX/\h.fX<nM c)).map fun h=>⟨v,h.fX,wn c (dD de) r h.fX⟩,(r.take n).foldl (tM c (Dw c (dD de))) []⟩
 | 0,_=>rfl
 | n+1,hn=>by
  have ht:r.take (n+1)=r.take n++[nth r n]:=by
   rw[List.take_succ_eq_append_getElem (by omega),jT ⟨by omega,by omega⟩];rfl
  have hx:=w4 (l:=r) (i:=n) (by omega) (by omega)
  have hh:=hv.hop hS hx
  rw[ht,List.foldl_append,List.foldl_append,WR hS hv hD n (by omega),List.foldl_cons,List.foldl_nil,List.foldl_cons,List.foldl_nil]
  obtain⟨c1,c2,_⟩:=hv.cond n (by omega) (by omega)
  have ze:ji ((r.take n).foldl (tM c (Dw c (dD de))) []) (nth r n).fX=false:=by
   rw[Bool.eq_false_iff]
   intro hc
   rcases WQ _ _ hc with hc | ⟨x,hx,e⟩
   ·simp[ji] at hc
   ·obtain⟨q,hq,rfl⟩:=List.mem_take_iff_getElem.1 hx
    refine c2 (.inr ⟨q,by omega,by omega,?_⟩)
    rw[jT ⟨by omega,by omega⟩]
    exact e
  have wX:(nth r n).fX≠(nth r 0).ya:=fun e=>c2 (.inl e)
  have Ct:xx ((r.take n).foldl (tM c (Dw c (dD de))) []) (nth r n).ya 0=wn c (dD de) r (nth r n).ya:=by
   have:=hv.jn_take (Dw c (dD de)) (v:=n) (by omega) (by omega)
   rw[Int.toNat_natCast] at this
   exact this
  have hw:=hD.w hS hv (nth r n).ya
  have hd:0<=xx de (pk (nth r n)) 0/\xx de (pk (nth r n)) 0<=1000000:=hD.d _ hx
  have Cg:=hv.wn_next (dD de) hx
  have Ar:i64 (xx ((r.take n).foldl (tM c (Dw c (dD de))) []) (nth r n).ya 0+xx de (pk (nth r n)) 0)=wn c (dD de) r (nth r n).fX:=by
   rw[Ct,xD (by omega),Cg];rfl
  have hj:tM c (Dw c (dD de)) ((r.take n).foldl (tM c (Dw c (dD de))) []) (nth r n)=xT ((r.take n).foldl (tM c (Dw c (dD de))) []) (nth r n).fX (wn c (dD de) r (nth r n).fX):=by
   show xT ((r.take n).foldl (tM c (Dw c (dD de))) []) (nth r n).fX (xx ((r.take n).foldl (tM c (Dw c (dD de))) []) (nth r n).ya 0+Dw c (dD de) (pk (nth r n))-j7 c (nth r n).ya-wj c (nth r n).fQ)=_
   rw[Ct,Cg]
   congr 1
   show _=wn c (dD de) r (nth r n).ya+dD de (pk (nth r n))
   unfold Dw
   have e1:(pk (nth r n)).ya=(nth r n).ya:=rfl
   have e2:(pk (nth r n)).fQ=(nth r n).fQ:=rfl
   rw[e1,e2];omega
  rw[hj]
  unfold sU
  rw[if_neg (by simp only[Bool.or_eq_true,decide_eq_true_eq];rw[ze];simpa using wX)]
  simp only[Ar]
  rw[qP,if_pos rfl,List.filter_append,List.map_append]
  by_cases hc:0<=(nth r n).fX/\(nth r n).fX<nM c
  ·rw[if_pos hc,List.filter_cons_of_pos (by simpa using hc)];rfl
  ·rw[if_neg hc,List.filter_cons_of_neg (by simpa using hc)];simp
theorem VE_eq{c:Cf}{de:DM}(hS:Small c)(hv:VR c net (nth rs v))(hD:WB c (nth rs v) (dD de)):VE c rs de v=((nth rs v).filter fun h=>decide (0<=h.fX/\h.fX<nM c)).map fun h=>⟨v,h.fX,wn c (dD de) (nth rs v) h.fX⟩:=by
 have:=WR (v:=v) hS hv hD (nth rs v).length (Nat.le_refl _)
 rw[List.take_length] at this
 unfold VE
 rw[this]
theorem YY:∀ {a b:List zf},a.Perm b->a.Pairwise (fun x y=>x.ya<y.ya)->b.Pairwise (fun x y=>x.ya<y.ya)->a=b
 | [],b,hp,_,_=>by have:=hp.length_eq;cases b with | nil=>rfl | cons y b=>simp at this
 | x::a,[],hp,_,_=>by have:=hp.length_eq;simp at this
 | x::a,y::b,hp,ha,hb=>by
  have hxy:x=y:=by
   have h1:x∈y::b:=hp.subset (by simp)
   have h2:y∈x::a:=hp.symm.subset (by simp)
   rcases List.mem_cons.1 h1 with h1 | h1
   ·exact h1
   rcases List.mem_cons.1 h2 with h2 | h2
   ·exact h2.symm
   have h3:=(List.pairwise_cons.1 hb).1 x h1
   have h4:=(List.pairwise_cons.1 ha).1 y h2
   omega
  subst hxy
  rw[YY hp.cons_inv (List.pairwise_cons.1 ha).2 (List.pairwise_cons.1 hb).2]
theorem Q5:∀(n:Nat) (v:Int),(vJ v n).Pairwise (· < ·)
 | 0,v=>List.Pairwise.nil
 | n+1,v=>by
  rw[vJ]
  exact List.pairwise_cons.2 ⟨fun y hy=>by have:=mL.1 hy;omega,Q5 n (v+1)⟩
theorem KH{c:Cf}{l:List zf}(hS:Small c)(hn:(l.map (·.ya)).Nodup)(hb:∀ x∈l,x.yL=v/\0<=x.ya/\x.ya<nM c):(w6 vj l).Pairwise (fun x y=>x.ya<y.ya):=by
 have hm:=hS.m
 have Aq:∀ x∈l,∀ y∈l,x.ya=y.ya->x=y:=by
  intro x hx y hy e
  obtain⟨i,hi,rfl⟩:=List.getElem_of_mem hx
  obtain⟨j,hj,rfl⟩:=List.getElem_of_mem hy
  have h1:(l.map (·.ya))[i]'(by simpa using hi)=(l.map (·.ya))[j]'(by simpa using hj):=by simpa using e
  have:=(List.getElem_inj (h₀:=by simpa using hi) (h₁:=by simpa using hj) hn).1 h1
  subst this;rfl
 obtain⟨_,hs⟩:=co (p:=vj) (lt:=dT) (l:=l) (fun x hx y hy=>by
  have h1:=hb x hx;have h2:=hb y hy
  unfold nM at h1 h2
  refine⟨_,rfl,?_⟩
  rw[xD (by omega)]
  unfold dT
  omega) (fun x y=>by unfold dT;omega) (fun x y z=>by unfold dT;omega) (fun x hx y hy h1 h2=>Aq x hx y hy (by unfold dT at h1 h2;omega))
 have hn2:((w6 vj l).map (·.ya)).Nodup:=((vX _ _).map _).nodup_iff.2 hn
 have h3:(w6 vj l).Pairwise (fun x y=>x.ya≠y.ya):=List.pairwise_map.1 hn2
 exact(hs.and h3).imp fun h=>by
  have:=h.1;have:=h.2
  unfold dT at *
  omega
theorem RE_eq{c:Cf}{de:DM}(hS:Small c)(hv:VR c net (nth rs v))(hD:WB c (nth rs v) (dD de)):RE c rs (dD de) v 0 (nM c).toNat=w6 vj (VE c rs de v):=by
 have hi:=Ju c rs de v
 have hi1:((VE c rs de v).map (·.ya)).Nodup:=hi.nd
 have hi2:∀ x∈VE c rs de v,x.yL=v/\0<=x.ya/\x.ya<nM c:=fun x hx=>by obtain⟨a1,a2,a3,_⟩:=hi.vl x hx;exact⟨a1,a2,a3⟩
 have mO:=KH hS hi1 hi2
 have hre:(RE c rs (dD de) v 0 (nM c).toNat).Pairwise (fun x y=>x.ya<y.ya):=by
  unfold RE
  rw[List.pairwise_map]
  exact((Q5 _ _).filter _)
 refine YY ?_ hre mO
 have Ap:∀ {l:List zf},l.Pairwise (fun x y=>x.ya<y.ya)->l.Nodup:=fun h=>h.imp fun h e=>by rw[e] at h;omega
 refine(List.perm_ext_iff_of_nodup (Ap hre) (Ap mO)).2 fun x=>?_
 rw[(vX _ _).mem_iff,VE_eq hS hv hD]
 unfold RE
 rw[List.mem_map,List.mem_map]
 constructor
 ·rintro⟨m,hm,rfl⟩
  obtain⟨h1,h2⟩:=List.mem_filter.1 hm
  obtain⟨h3,h4⟩:=rG h2
  have:=mL.1 h1
  refine⟨_,List.mem_filter.2 ⟨h3,?_⟩,by rw[h4]⟩
  rw[h4,decide_eq_true_eq];omega
 ·rintro⟨h,hh,rfl⟩
  obtain⟨h1,h2⟩:=List.mem_filter.1 hh
  rw[decide_eq_true_eq] at h2
  refine⟨h.fX,List.mem_filter.2 ⟨mL.2 (by omega),?_⟩,rfl⟩
  exact nG h1
theorem JV{c:Cf}{ps:List PB}(hS:Small c)(hv:VA c net rs)(hl:ps.length<=1000000)(hD:∀ r∈rs,WB c r (dD (wx ps))):uV c rs ps=some (EN c rs ps):=by
 rw[KG hS hv hl hD]
 refine congrArg some ?_
 unfold EN
 have:∀ v∈vJ 0 rs.length,RE c rs (dD (wx ps)) v 0 (nM c).toNat=w6 vj (VE c rs (wx ps) v):=fun v hvm=>by
  have:=mL.1 hvm
  have hr:=w4 (l:=rs) (i:=v) (by omega) (by omega)
  exact RE_eq hS (hv.each _ hr) (hD _ hr)
 rw[List.flatMap_def,List.flatMap_def,List.map_congr_left this]
end
section
/-! ### the reference: the whole computation -/
theorem JW{c:Cf}{k:Option (yw×Int)}(hl:c.yd.length<=1000):∀(n:Nat) (i:Int),0<=i->i<=c.yd.length->c.yd.length<n+i->
  kq c k n i=if ∀ x∈c.yd.drop i.toNat,pl x then k else some (⟨[],[]⟩,350)
 | 0,i,h0,h1,h2=>by omega
 | n+1,i,h0,h1,h2=>by
  rw[kq]
  by_cases h:i<c.yd.length
  ·rw[if_pos (decide_eq_true h),xr ⟨h0,h⟩,va h0 h]
   have e:ua (⟨(nth c.yd i).yq,⟨(nth c.yd i).yi.yp,(nth c.yd i).yi.yt,(nth c.yd i).yi.yu⟩,(nth c.yd i).yo,(nth c.yd i).yn,(nth c.yd i).yy⟩:ym)=some (decide (pl (nth c.yd i))):=KC _
   rw[e,oB]
   by_cases hk:pl (nth c.yd i)
   ·rw[decide_eq_true hk,if_neg (by decide),xD (x:=i+1) (by omega),JW hl n (i+1) (by omega) (by omega) (by omega),show(i+1).toNat=i.toNat+1 by omega]
    by_cases ha:∀ x∈c.yd.drop (i.toNat+1),pl x
    ·rw[if_pos ha,if_pos]
     intro x hx
     rcases List.mem_cons.1 hx with rfl | hx
     ·exact hk
     ·exact ha x hx
    ·rw[if_neg ha,if_neg fun hc=>ha fun x hx=>hc x (List.mem_cons_of_mem _ hx)]
   ·rw[decide_eq_false hk,if_pos (by decide),if_neg fun hc=>hk (hc _ List.mem_cons_self)]
  ·rw[if_neg (by simpa using h),List.drop_eq_nil_of_le (by omega),if_pos (by simp)]
theorem WT{b:PB}{q:Pl}:∀ {l:List PB},we b∉l.map we->xx (wx (l++[b])) q 0=if q=we b then b.yf else xx (wx l) q 0
 | [],_=>by
  show xx (xT [] (we b) b.yf) q 0=_
  rw[qP];rfl
 | a::l,h=>by
  show xx (xT (wx (l++[b])) (we a) a.yf) q 0=if q=we b then b.yf else xx (xT (wx l) (we a) a.yf) q 0
  simp only[List.map_cons,List.mem_cons,not_or] at h
  rw[qP,qP,WT h.2]
  by_cases e:q=we a
  ·rw[if_pos e,if_pos e,if_neg fun hc:q=we b=>h.1 (hc.symm.trans e)]
  ·rw[if_neg e,if_neg e]
theorem G0{c:Cf}{net:Int}{rs:List (List Hop)}{l:List Pl}{e0:Int}{k:List PB->Option (yw×Int)}(hS:Small c)(hv:VA c net rs)(hV:fr c)(D1:∀ p∈l,p∈PS rs)(Ap:l.Nodup)(ho:wM rs l)(zs:l.length<=100000):
  ∀(n:Nat) (v:Int) (de:DM) (out:List PB),0<=v->v<=l.length->l.length<n+v->out.map we=l.take v.toNat->(∀ q,dD de q=dD (wx out) q)->HI c (l.take v.toNat) (dD de)->
   kr (l.map wA,e0) c rs k n out v=match mX c rs (l.drop v.toNat) de out with | some t=>k t.2 | none=>some (⟨[],[]⟩,360)
 | 0,v,de,out,h0,h1,h2,h3,h4,h5=>by omega
 | n+1,v,de,out,h0,h1,h2,h3,h4,h5=>by
  rw[kr]
  have AM:(((l.map wA).length:Nat):Int)=l.length:=by rw[List.length_map]
  have Cq:(out.length:Int)=v:=by
   have:=congrArg List.length h3
   rw[List.length_map,List.length_take] at this
   omega
  simp only[AM]
  by_cases h:v<l.length
  ·have Dj:l=l.take v.toNat++nth l v::l.drop (v.toNat+1):=by rw[<- va h0 h,List.take_append_drop]
   have zN:=D1 _ (w4 h0 h)
   rw[if_pos (decide_eq_true h),xr ⟨h0,h⟩,va h0 h,mX,pO h0 h]
   have Ci:wM rs (l.take v.toNat++nth l v::l.drop (v.toNat+1)):=Dj▸ho
   have hde:dD de=dD (wx out):=funext h4
   have h5':=h5
   rw[hde] at h5'
   have zk:=h5'.ok hS hv Ci
   obtain⟨s1,s2⟩:=dY hS hv zN
   have BK:=JP (p:=wA (nth l v)) (ps:=out) hS hv (by omega) (fun r hr x hx=>by
    have:=h5'.rng hS hv hr hx
    have:0<=xx (wx out) (pk x) 0/\xx (wx out) (pk x) 0<=33768:=this
    omega)
   rw[Q4] at BK
   have hb:=QK (ps:=out) hS hV (hv.pi hS zN) zk (fun x hx hx0=>by
    obtain⟨y,hy,hr,w0,w1,_,_,ek⟩:=Wz hx
    have:=(dX hS hv (nth l v) w0 w1).2.2
    rw[ek] at hx0 ⊢
    have:=this hx0
    omega) BK s1 s2
   have hb:mD c rs (⟨(wA (nth l v)).ya,(wA (nth l v)).fQ,(wA (nth l v)).yf,(wA (nth l v)).fT⟩:PB) out=some (if ik c rs (dD (wx out)) (nth l v)<=32768 then(ti c rs (dD (wx out)) (nth l v),true) else(wA (nth l v),false)):=hb
   rw[hb,oB,hde]
   by_cases hz:ik c rs (dD (wx out)) (nth l v)<=32768
   ·rw[if_pos hz,if_pos hz,if_neg (by simp)]
    have hol2:((out++[ti c rs (dD (wx out)) (nth l v)]).length:Int)=v+1:=by rw[List.length_append,List.length_singleton];push_cast;omega
    rw[xr (by rw[hol2];omega),xD (x:=v+1) (by omega)]
    have h6:=h5.put hS hv hV Ci zN (by rw[hde];exact hz)
    have et:l.take (v+1).toNat=l.take v.toNat++[nth l v]:=by
     rw[show(v+1).toNat=v.toNat+1 by omega,List.take_succ_eq_append_getElem (by omega),jT ⟨h0,h⟩]
    rw[<- et,hde] at h6
    have C7:we (ti c rs (dD (wx out)) (nth l v))=nth l v:=rfl
    have xW:we (ti c rs (dD (wx out)) (nth l v))∉out.map we:=by
     rw[C7,h3]
     intro hc
     rw[Dj] at Ap
     exact(List.nodup_append.1 Ap).2.2 _ hc _ List.mem_cons_self rfl
    rw[G0 hS hv hV D1 Ap ho zs n (v+1) (xT de (nth l v) (ti c rs (dD (wx out)) (nth l v)).yf) _ (by omega) (by omega) (by omega) (by rw[List.map_append,h3,et];rfl) (fun q=>?_) h6,show(v+1).toNat=v.toNat+1 by omega]
    show xx (xT de _ _) q 0=xx (wx (out++[_])) q 0
    rw[qP,WT xW,C7]
    by_cases eq:q=nth l v
    ·rw[if_pos eq,if_pos eq]
    ·rw[if_neg eq,if_neg eq];exact h4 q
   ·rw[if_neg hz,if_neg hz,if_pos (by simp)]
  ·rw[if_neg (by simpa using h),List.drop_eq_nil_of_le (by omega),mX]
theorem G1{S:List PB}{dn:List PB}{k:List PB->Option (yw×Int)}(kS:dn.length<=100000)(hk:(dn.map we).Nodup)(hS:∀ b∈S,b∈dn)(hl:S.length<=100000):∀(n:Nat) (i:Int),0<=i->i<=S.length->S.length<n+i->
  ku dn k n i (S.take i.toNat++(S.drop i.toNat).map fun b=>wA (we b))=k S
 | 0,i,h0,h1,h2=>by omega
 | n+1,i,h0,h1,h2=>by
  have iS:((S.take i.toNat++(S.drop i.toNat).map fun b=>wA (we b)).length:Int)=S.length:=by
   rw[List.length_append,List.length_map,List.length_take,List.length_drop];omega
  rw[ku,iS]
  by_cases h:i<S.length
  ·have hc:=w4 h0 h
   have en:nth (S.take i.toNat++(S.drop i.toNat).map fun b=>wA (we b)) i=wA (we (nth S i)):=by
    rw[jT ⟨h0,by rw[iS];exact h⟩,List.getElem_append_right (by rw[List.length_take];omega)]
    rw[List.getElem_map,List.getElem_drop,jT ⟨h0,h⟩]
    congr 3
    rw[List.length_take];omega
   rw[if_pos (decide_eq_true h),xr ⟨h0,h⟩,en]
   rcases cu (l:=dn) (by omega) (nth S i).ya (nth S i).fQ with⟨j,j0,j1,e1,e2,_⟩ | ⟨_,e2,_⟩
   ·have e1:vG dn (wA (we (nth S i))).ya (wA (we (nth S i))).fQ=some j:=e1
    have hx:nth dn j=nth S i:=by
     obtain⟨w,w0,w1,e3⟩:=uX (hS _ hc)
     have e4:we (nth dn j)=we (nth dn w):=by rw[e2,e3];rfl
     rw[jT ⟨j0,j1⟩,jT ⟨w0,w1⟩] at e4
     have h5:(dn.map we)[j.toNat]'(by rw[List.length_map];omega)=(dn.map we)[w.toNat]'(by rw[List.length_map];omega):=by simpa using e4
     have h6:=(List.getElem_inj (h₀:=by rw[List.length_map];omega) (h₁:=by rw[List.length_map];omega) hk).1 h5
     rw[<- e3,show j=w by omega]
    rw[e1,oB,xr ⟨j0,j1⟩,xD (x:=i+1) (by omega),hx]
    have es:(S.take i.toNat++(S.drop i.toNat).map fun b=>wA (we b)).set (i:Int).toNat (⟨(nth S i).ya,(nth S i).fQ,(nth S i).yf,(nth S i).fT⟩:PB)=S.take (i+1).toNat++(S.drop (i+1).toNat).map fun b=>wA (we b):=by
     have e5:(S.take i.toNat).length=i.toNat:=by rw[List.length_take];omega
     rw[va h0 h,List.map_cons,show(i+1).toNat=i.toNat+1 by omega,List.take_succ_eq_append_getElem (by omega),<- jT ⟨h0,h⟩,List.set_append_right _ _ (by omega),e5,Nat.sub_self,List.set_cons_zero,List.append_assoc]
     rfl
    rw[es]
    exact G1 kS hk hS hl n (i+1) (by omega) (by omega) (by omega)
   ·exact absurd rfl (e2 _ (hS _ hc))
  ·rw[if_neg (by simpa using h),List.take_of_length_le (by omega),List.drop_eq_nil_of_le (by omega),List.map_nil,List.append_nil]
theorem KI{c:Cf}{net:Int}{rs:List (List Hop)}{l:List Pl}{t:DM×List PB}(hS:Small c)(hv:VA c net rs)(hV:fr c)(hp:l.Perm (PS rs))(ho:wM rs l)(h:mX c rs l [] []=some t):(w6 xQ t.2).map we=PS rs->∀ r∈rs,WB c r (dD (wx (w6 xQ t.2))):=by
 intro hm r hr
 obtain⟨hF,e⟩:=e8 hS hv hV hp ho h
 refine⟨fun x hx=>?_⟩
 have vC:pk x∈PS rs:=(rm rs _).2 ⟨r,hr,x,hx,rfl⟩
 rw[<- hm] at vC
 obtain⟨b,hb,eb⟩:=List.mem_map.1 vC
 have h1:=WF (b:=b) (by rw[hm];exact mo rs) hb
 have h2:=(vX _ _).subset hb
 rw[e] at h2
 obtain⟨q,hq,rfl⟩:=List.mem_map.1 h2
 have DR:=hp.subset hq
 have h3:=hF.r q DR
 have h4:=hF.d q DR
 have h5:=dY hS hv DR
 show 0<=xx _ (pk x) 0/\xx _ (pk x) 0<=_
 rw[<- eb,h1,<- h4]
 omega
theorem GZ{c:Cf}{net:Int}{rs:List (List Hop)}(hf:FewP c rs):∃ x,uw c net rs=some x/\HC c net rs x:=by
 have hS:=hf.small
 have Dh:=hf.v
 unfold uw
 obtain⟨b,q1,q2⟩:=im hS (net:=net) (rs:=rs)
 rw[q1,oB]
 cases b with
 | false=>exact⟨_,rfl,.route fun h=>by have:=q2.2 h;cases this⟩
 | true=>
 have hv:=q2.1 rfl
 have hm:=hv.most
 have hP:=oh hf.e
 have BS:=hf.r
 have h3:rs.length*40<=20*40:=Nat.mul_le_mul_right _ BS
 rw[if_neg (by decide)]
 refine qL (P:=fun o=>∃ x,o=some x/\HC c net rs x) fun k hk=>?_
 rw[JW (by omega) xC 0 (by omega) (by omega) (by rw[xN];omega)]
 simp only[Int.toNat_zero,List.drop_zero]
 by_cases zg:ii c
 ·rw[if_pos (show ∀ x∈c.yd,pl x from zg),hk]
  rcases JU (net:=net) hf hv with⟨l,e1,e2,e3⟩ | ⟨s,e1,e2⟩
  ·have iS:=e1.length_eq
   rw[e3,oB,if_neg (by simp)]
   refine w8 (P:=fun o=>∃ x,o=some x/\HC c net rs x) fun k1 mV=>?_
   have hL:=G0 (l:=l) (e0:=0) (k:=k1) hS hv zg.vls (fun p hp=>e1.subset hp) (e1.nodup_iff.2 (mo rs)) e2 (by omega) xC 0 [] [] (by omega) (by omega) (by rw[xN];omega) rfl (fun _=>rfl) ⟨by simp,fun q _=>rfl⟩
   simp only[Int.toNat_zero,List.drop_zero] at hL
   rw[hL]
   cases iB:mX c rs l [] [] with
   | none=>exact⟨_,rfl,.busy l hv zg e1 e2 iB⟩
   | some t=>
    obtain⟨o1,o2⟩:=nQ l [] [] t iB
    have Cq:t.2.length=l.length:=by rw[o2];simp
    have zI:t.2.map we=l:=by rw[o1];simp
    have Ap:(t.2.map we).Nodup:=by rw[zI];exact e1.nodup_iff.2 (mo rs)
    simp only
    have hso:=WA (l:=t.2) Ap (by omega) (fun b hb=>by
     have hm:we b∈PS rs:=e1.subset (by rw[<- zI];exact List.mem_map.2 ⟨b,hb,rfl⟩)
     have:=hv.pi hS hm
     have a:=this.l0;have b1:=this.l1;have d:=this.n0;have f:=this.n1
     have:=hS.l;have:=hS.m;have:=hS.s
     unfold nN at f
     have e4:(we b).ya=b.ya:=rfl
     have e5:(we b).fQ=b.fQ:=rfl
     omega)
    have D2:((w6 xQ t.2).map we).Perm (PS rs):=by
     refine((vX _ _).map we).trans ?_
     rw[zI];exact e1
    have zH:(w6 xQ t.2).map we=PS rs:=il D2 (D2.nodup_iff.2 (mo rs)) (by rw[List.pairwise_map];exact hso.2) (dZ (fun r hr=>by have:=hf.e r hr;omega) (by omega))
    rw[mV,aY (fun r hr=>by have:=hf.e r hr;omega) hm,oB]
    refine w8 (P:=fun o=>∃ x,o=some x/\HC c net rs x) fun k2 lN=>?_
    have Dz:=mj xQ t.2
    have h6:=G1 (S:=w6 xQ t.2) (dn:=t.2) (k:=k2) (by omega) Ap (fun b hb=>(vX _ _).subset hb) (by omega) xC 0 (by omega) (by omega) (by rw[xN];omega)
    simp only[Int.toNat_zero,List.take_zero,List.drop_zero,List.nil_append] at h6
    have e7:(w6 xQ t.2).map (fun b=>wA (we b))=(PS rs).map wA:=by rw[<- zH,List.map_map];rfl
    rw[e7] at h6
    rw[h6,lN,JV hS hv (by omega) (KI hS hv zg.vls e1 e2 iB zH),oB]
    exact⟨_,rfl,.ok l t hv zg e1 e2 iB zH⟩
  ·rw[e2,oB,if_pos (by simp)]
   exact⟨_,rfl,.cycle s hv zg e1⟩
 ·rw[if_neg (show ¬∀ x∈c.yd,pl x from zg)]
  exact⟨_,rfl,.vl hv zg⟩
end
end Go.Proofs.YthjnhebofpebpaaGreat

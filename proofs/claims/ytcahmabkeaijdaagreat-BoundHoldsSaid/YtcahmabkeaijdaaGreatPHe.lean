/- A part of this claim's proof: models of functions, walks, plain laws. No conditions. -/
import Derived.Test.YtcahmabkeaijdaaGreatPRb
set_option linter.all false
namespace Go.Proofs.YtcahmabkeaijdaaGreat
open Go Go.RowKit Sep
section
variable {α:Type}{i:Int}
theorem lZ[Inhabited α]{a b:List α}(h0:0<=i)(h:i<a.length):nth (a++b) i=nth a i:=by
 rw[jY ⟨h0,by rw[List.length_append];omega⟩,jY ⟨h0,h⟩,List.getElem_append_left]
theorem nG[Inhabited α]{a:List α}{x:α}(h:i=a.length):nth (a++[x]) i=x:=by
 rw[jY ⟨by omega,by rw[List.length_append,List.length_singleton];omega⟩,List.getElem_append_right (by omega)]
 simp[show i.toNat=a.length by omega]
theorem XU[Inhabited α]{l:List α}{q:Int}{x:α}(h0:0<=i)(h1:i<l.length)(q0:0<=q)(q1:q<l.length):nth (l.set i.toNat x) q=if q=i then x else nth l q:=by
 rw[jY ⟨q0,by rw[List.length_set];exact q1⟩,List.getElem_set,jY ⟨q0,q1⟩]
 by_cases e:q=i
 ·rw[if_pos e,if_pos (by omega)]
 ·rw[if_neg e,if_neg (by omega)]
structure CG (c:Cf) (v:Int) (out:List qT) (nx:List Int) (now:Int):Prop where
 len:(out.length:Int)=v
 nl:nx.length=c.yg.length
 nb:0<=now/\now<=v*20000
 xb:∀ q:Int,0<=q->q<nx.length->0<=nth nx q/\nth nx q<=v*20000
 e:∀ i:Int,0<=i->i<v->(0<=(nth out i).yb/\(nth out i).yb<=now)/\(0<=(nth out i).yq/\(nth out i).yq<c.yg.length)/\(1<=(nth out i).yo/\(nth out i).yo<=mx c (nth out i).yq)/\(nth out i).yb+ly c (nth out i).yq<=nth nx (nth out i).yq
 so:∀ i j:Int,0<=i->i<=j->j<v->(nth out i).yb<=(nth out j).yb
 ap:∀ i j:Int,0<=i->i<j->j<v->(nth out i).yq=(nth out j).yq->(nth out i).yb+ly c (nth out i).yq<=(nth out j).yb
theorem CG.step{c:Cf}(hV:gV c){v:Int}{out:List qT}{nx:List Int}{now w z V:Int}(h:CG c v out nx now)(hw:0<=w/\w<2000)(v0:0<=V)(v1:V<c.yg.length)(hz:1<=z/\z<=mx c V):
  CG c (v+1) (out++[⟨max now (nth nx V)+w,V,z⟩]) (nx.set V.toNat (max now (nth nx V)+w+(nth c.yg V).yK)) (max now (nth nx V)+w):=by
 have hl:=h.len
 have hnl:=h.nl
 have hb:=hV.mx v0 v1
 unfold mx ly at hb
 obtain⟨a1,a2⟩:=h.nb
 obtain⟨b1,b2⟩:=h.xb V v0 (by omega)
 refine⟨by rw[List.length_append,List.length_singleton];omega,by rw[List.length_set];exact hnl,by omega,fun q q0 q1=>?_,fun i i0 i1=>?_,fun i j i0 ij j1=>?_,fun i j i0 ij j1 e=>?_⟩
 ·rw[List.length_set] at q1
  rw[XU v0 (by omega) q0 q1]
  have:=h.xb q q0 q1
  split <;> omega
 ·by_cases hi:i<v
  ·rw[lZ i0 (by omega)]
   obtain⟨c1,c2,c3,c4⟩:=h.e i i0 hi
   refine⟨by omega,c2,c3,?_⟩
   rw[XU v0 (by omega) c2.1 (by omega)]
   split
   ·rename_i e;unfold ly at c4 ⊢;rw[e] at c4 ⊢;omega
   ·exact c4
  ·rw[nG (by omega)]
   simp only
   refine⟨by omega,⟨v0,v1⟩,hz,?_⟩
   rw[XU v0 (by omega) v0 (by omega),if_pos rfl]
   exact Int.le_refl _
 ·by_cases hj:j<v
  ·rw[lZ i0 (by omega),lZ (by omega) (by omega)];exact h.so i j i0 ij hj
  ·rw[nG (i:=j) (by omega)]
   by_cases hi:i<v
   ·rw[lZ i0 (by omega)]
    have:=(h.e i i0 hi).1;simp only;omega
   ·rw[nG (i:=i) (by omega)];exact Int.le_refl _
 ·rw[lZ (i:=i) i0 (by omega)] at e ⊢
  by_cases hj:j<v
  ·rw[lZ (by omega) (by omega)] at e ⊢;exact h.ap i j i0 ij hj e
  ·rw[nG (i:=j) (by omega)] at e ⊢
   simp only at e ⊢
   have:=(h.e i i0 (by omega)).2.2.2
   rw[e] at this
   rw[e];omega
theorem XV{x n:Int}(h0:0<=x)(hn:0<n):0<=x.tmod n/\x.tmod n<n:=by
 rw[Int.tmod_eq_emod_of_nonneg h0];exact⟨Int.emod_nonneg _ (by omega),Int.emod_lt_of_pos _ hn⟩
theorem Yb{c:Cf}(hV:gV c)(Ah:0<c.yg.length/\c.yg.length<=1000){wh sz wa:List Int}(Dc:∀ x∈wh,0<=x/\x<=255)(ne:∀ x∈sz,0<=x/\x<=255)(Eh:∀ x∈wa,0<=x/\x<=65535){k:List qT->Option (List qT)}:∀(n:Nat) (out:List qT) (nx:List Int) (now v:Int),0<=v->v<=(wh.take ((min ((wh.length:Nat):Int) 40):Int).toNat).length->(wh.take ((min ((wh.length:Nat):Int) 40):Int).toNat).length<n+v->CG c v out nx now->
  ∃(o:List qT) (DX:List Int) (AP v':Int),v'<=40/\CG c v' o DX AP/\gg wh c sz wa k n out nx now v=k o
 | 0,out,nx,now,v,h0,h1,h2,h3=>by omega
 | n+1,out,nx,now,v,h0,h1,h2,h3=>by
  have nU:(wh.take ((min ((wh.length:Nat):Int) 40):Int).toNat).length<=40:=by rw[List.length_take];omega
  have hlt2:(wh.take ((min ((wh.length:Nat):Int) 40):Int).toNat).length<=wh.length:=by rw[List.length_take];omega
  rw[gg]
  by_cases h:v<(wh.take ((min ((wh.length:Nat):Int) 40):Int).toNat).length
  ·rw[if_pos (decide_eq_true h),xJ ⟨h0,h⟩,xJ (by omega)]
   have hx:=Dc _ (List.mem_of_mem_take (wn h0 h))
   have B7:=XV (x:=i64 (nth (wh.take ((min ((wh.length:Nat):Int) 40):Int).toNat) v)) (n:=((c.yg.length:Nat):Int)) (by rw[xQ (by omega)];omega) (by omega)
   generalize Int.tmod (i64 (nth (wh.take ((min ((wh.length:Nat):Int) 40):Int).toNat) v)) ((c.yg.length:Nat):Int)=V at B7
   obtain⟨m0,m1,b0,b1⟩:=hV.mx B7.1 B7.2
   unfold ly at b0 b1
   have hnl:=h3.nl
   have hol:=h3.len
   refine wD (P:=fun o=>∃(o':List qT) (DX:List Int) (AP v':Int),v'<=40/\CG c v' o' DX AP/\o=k o') fun k1 wj=>?_
   have e1:∃ w,0<=w/\w<2000/\(if decide (v<((wa.length:Nat):Int)) then chk ((0:Int)<=v/\v<((wa.length:Nat):Int)) (k1 (Int.tmod (i64 (nth wa v)) 2000)) else k1 0)=k1 w:=by
    by_cases hw:v<wa.length
    ·have:=Eh _ (wn h0 hw)
     have:=XV (x:=i64 (nth wa v)) (n:=2000) (by rw[xQ (by omega)];omega) (by omega)
     exact⟨_,this.1,this.2,by rw[if_pos (decide_eq_true hw),xJ ⟨h0,hw⟩]⟩
    ·exact⟨0,by omega,by omega,by rw[if_neg (by simpa using hw)]⟩
   obtain⟨w,w0,w1,e1⟩:=e1
   rw[e1,wj,xJ B7]
   refine wD (P:=fun o=>∃(o':List qT) (DX:List Int) (AP v':Int),v'<=40/\CG c v' o' DX AP/\o=k o') fun k2 sG=>?_
   have e2:∃ z,1<=z/\z<=mx c V/\(chk ((decide (v<((sz.length:Nat):Int)))=true->((0:Int)<=v/\v<((sz.length:Nat):Int))) (if (decide (v<((sz.length:Nat):Int)))&&(decide ((bits .and .u8 (nth sz v) 1)=1)) then chk ((0:Int)<=v/\v<((sz.length:Nat):Int)) (chk ((((nth c.yg V).yC):Int)≠0) (k2 (i64 (1+(Int.tmod (i64 (nth sz v)) ((nth c.yg V).yC)))))) else k2 ((nth c.yg V).yC)))=k2 z:=by
    rw[xJ (fun hc=>⟨h0,by simpa using hc⟩)]
    unfold mx at m0 m1 ⊢
    split
    ·rename_i hc
     simp only[Bool.and_eq_true,decide_eq_true_eq] at hc
     have:=ne _ (wn h0 hc.1)
     have:=XV (x:=i64 (nth sz v)) (n:=(nth c.yg V).yC) (by rw[xQ (by omega)];omega) (by omega)
     rw[xJ ⟨h0,hc.1⟩,xJ (by omega),xQ (x:=1+_) (by omega)]
     exact⟨_,by omega,by omega,rfl⟩
    ·exact⟨_,m0,Int.le_refl _,rfl⟩
   obtain⟨z,z0,z1,e2⟩:=e2
   rw[e2,sG,xJ ⟨B7.1,by omega⟩]
   refine wD (P:=fun o=>∃(o':List qT) (DX:List Int) (AP v':Int),v'<=40/\CG c v' o' DX AP/\o=k o') fun k3 Hd=>?_
   have e3:∃ u,0<=u/\u<2000/\(if decide (w<1000) then k3 0 else k3 w)=k3 u:=by
    split
    ·exact⟨0,by omega,by omega,rfl⟩
    ·exact⟨w,w0,w1,rfl⟩
   obtain⟨u,u0,u1,e3⟩:=e3
   have hnb:=h3.nb
   have hxb:=h3.xb V B7.1 (by omega)
   rw[e3,Hd,xJ B7,xJ ⟨B7.1,by omega⟩,xJ (by rw[List.length_append,List.length_singleton];omega),xQ (x:=max now (nth nx V)+u) (by omega),xQ (x:=v+1) (by omega),xQ (x:=max now (nth nx V)+u+_) (by omega)]
   exact Yb hV Ah Dc ne Eh n _ _ _ (v+1) (by omega) (by omega) (by omega) (h3.step hV ⟨u0,u1⟩ B7.1 B7.2 ⟨z0,z1⟩)
  ·rw[if_neg (by simpa using h)]
   exact⟨out,nx,now,v,by omega,h3,rfl⟩
theorem FE{c:Cf}(hV:gV c)(Ah:c.yg.length<=1000){wh sz wa:List Int}(Dc:∀ x∈wh,0<=x/\x<=255)(ne:∀ x∈sz,0<=x/\x<=255)(Eh:∀ x∈wa,0<=x/\x<=65535):
  ∃ sent,tO c wh sz wa=some sent/\FRm c 40 sent/\CF c sent:=by
 unfold tO
 by_cases h:c.yg.length=0
 ·rw[if_pos (by simp[h])]
  exact⟨[],rfl,⟨fun q q0 q1=>by simp at q1;omega,by simp⟩,⟨fun i j i0 ij j1=>by simp at j1;omega,fun i i0 i1=>by simp at i1;omega⟩⟩
 ·rw[if_neg (by simpa using h),xJ (by omega)]
  have hF:=wq
  generalize xR=N at hF ⊢
  refine wD (P:=fun o=>∃ sent,o=some sent/\FRm c 40 sent/\CF c sent) fun k hk=>?_
  rw[xJ (by omega)]
  have hr:∀(m:Nat) (q:Int),0<=q->q<m->nth (List.replicate m (0:Int)) q=0:=fun m q q0 q1=>by
   rw[jY ⟨q0,by rw[List.length_replicate];exact q1⟩,List.getElem_replicate]
  have nU:(wh.take ((min ((wh.length:Nat):Int) 40):Int).toNat).length<=40:=by rw[List.length_take];omega
  obtain⟨o,nx,now,v,hv,hg,e⟩:=Yb (k:=k) hV ⟨by omega,Ah⟩ Dc ne Eh N [] (List.replicate (((c.yg.length:Nat):Int):Int).toNat (0:Int)) 0 0 (by omega) (by omega) (by omega) ⟨by simp,by rw[List.length_replicate];omega,by omega,fun q q0 q1=>by
    rw[List.length_replicate] at q1
    rw[hr _ q q0 q1];omega,fun i i0 i1=>by omega,fun i j i0 ij j1=>by omega,fun i j i0 ij j1=>by omega⟩
  have hl:=hg.len
  refine⟨o,by rw[e,hk],⟨fun q q0 q1=>?_,by omega⟩,⟨fun i j i0 ij j1=>hg.ap i j i0 ij (by omega),fun i i0 i1=>(hg.e i i0 (by omega)).2.2.1.2⟩⟩
  obtain⟨c1,c2,c3,c4⟩:=hg.e q q0 (by omega)
  have hm:=hV.mx c2.1 c2.2
  have hnb:=hg.nb
  exact⟨c1.1,by omega,c2.1,c2.2,c3.1,by omega,fun hq=>hg.so (q-1) q (by omega) (by omega) (by omega)⟩
end
section
variable {net:Int}{rs:List (List Hop)}{D:Pl->Int}{sent:List qT}
abbrev Sw:=yu
def kS(c:Cf)(l:List Sw):Cf:=⟨c.fM,c.yf,l,c.fK,c.yg,c.fH,c.fU,c.ye⟩
structure LG (c:Cf) (l:List Sw):Prop where
 len:l.length=c.fS.length
 nm:∀ i:Int,(nth l i).yJ=(nth c.fS i).yJ
 nt:∀ i:Int,(nth l i).yR=(nth c.fS i).yR
 dl:∀ i:Int,(nth l i).yl=(nth c.fS i).yl
 st:∀ i:Int,0<=(nth c.fS i).fT/\(nth c.fS i).fT<=1073741824->0<=(nth l i).fT/\(nth l i).fT<=1073741824
theorem LG.refl(c:Cf):LG c c.fS:=⟨rfl,fun _=>rfl,fun _=>rfl,fun _=>rfl,fun _ h=>h⟩
section
variable {c:Cf} {l:List Sw} (h:LG c l)
include h
theorem LG.name(i:Int):fk (kS c l) i=fk c i:=by
 unfold fk ko kS
 simp only[h.len,h.nm]
theorem LG.nodes:ko (kS c l)=ko c:=by unfold ko kS;simp only[h.len]
theorem LG.findL(x:Int)(s:ByteArray)(k:Option Int):∀(n:Nat) (i:Int),vT x (kS c l) s k n i=vT x c s k n i
 | 0,i=>by rw[vT,vT]
 | n+1,i=>by
  rw[vT,vT]
  simp only[h.name,LG.findL x s k n]
theorem LG.find(s:ByteArray):j8 (kS c l) s=j8 c s:=by
 unfold j8
 simp only[h.nodes,h.findL]
theorem LG.fA(i:Int):Go.Proofs.YtcahmabkeaijdaaGreat.fA (kS c l) i=Go.Proofs.YtcahmabkeaijdaaGreat.fA c i:=by unfold Go.Proofs.YtcahmabkeaijdaaGreat.fA;rw[h.find];rfl
theorem LG.fB(i:Int):Go.Proofs.YtcahmabkeaijdaaGreat.fB (kS c l) i=Go.Proofs.YtcahmabkeaijdaaGreat.fB c i:=by unfold Go.Proofs.YtcahmabkeaijdaaGreat.fB;rw[h.find];rfl
theorem LG.fine{n:Int}(q:tX c net n):tX (kS c l) net n:=by
 obtain⟨h0,h1⟩:=q
 refine⟨h0,?_⟩
 rcases h1 with h1 | ⟨a,b,d,e⟩
 ·exact .inl h1
 ·right
  unfold sw at *
  rw[show nM (kS c l)=nM c from rfl,show(kS c l).fS=l from rfl,h.nt,h.dl]
  exact⟨a,b,d,h.st _ e⟩
theorem LG.jnP{k a b:Int}(q:JN c net k a b):JN (kS c l) net k a b:=by
 obtain⟨h1,h2,h3,h4,h5,h6,h7,h8,h9⟩:=q
 refine⟨h1,h2,h3,h4,h5,?_,?_,?_,?_⟩
 ·rw[h.fA,h.fB];exact h6
 ·rw[h.fA];exact h.fine h7
 ·rw[h.fB];exact h.fine h8
 ·rw[h.fA,h.fB];exact h9
theorem LG.small(q:Small c):Small (kS c l):=⟨q.m,by show l.length<=_;rw[h.len];exact q.s,q.l,q.v⟩
theorem LG.va(q:VA c net rs):VA (kS c l) net rs:=by
 refine⟨q.nt,q.len,q.most,fun r hr=>⟨(q.each r hr).len,fun x h1 h2=>?_⟩⟩
 obtain⟨a,b,d,e⟩:=(q.each r hr).cond x h1 h2
 exact⟨a,b,d,h.jnP e⟩
theorem LG.lat(n:Int):ju (kS c l) n=ju c n:=by unfold ju;rw[show nM (kS c l)=nM c from rfl,show(kS c l).fS=l from rfl,h.dl]
theorem LG.jn(D:Pl->Int)(r:List Hop)(n:Int):Go.Proofs.YtcahmabkeaijdaaGreat.jn (kS c l) D r n=Go.Proofs.YtcahmabkeaijdaaGreat.jn c D r n:=by
 have e:c0 (kS c l) D=c0 c D:=by funext mp x;unfold c0;rw[h.lat];rfl
 unfold Go.Proofs.YtcahmabkeaijdaaGreat.jn;rw[e]
theorem LG.fws(rs:List (List Hop))(D:Pl->Int)(p:Pl):Go.Proofs.YtcahmabkeaijdaaGreat.fws (kS c l) rs D p=Go.Proofs.YtcahmabkeaijdaaGreat.fws c rs D p:=by
 unfold Go.Proofs.YtcahmabkeaijdaaGreat.fws
 congr 1;funext v;unfold tj;rw[h.jn]
theorem LG.td(D:Pl->Int)(r:List Hop)(n:Int):iI (kS c l) D r n=iI c D r n:=by unfold iI lh;rw[h.jn,h.jn]
theorem LG.ok{p:Pl}(q:FwOK c (Go.Proofs.YtcahmabkeaijdaaGreat.fws c rs D p)):FwOK (kS c l) (Go.Proofs.YtcahmabkeaijdaaGreat.fws (kS c l) rs D p):=by
 rw[h.fws];exact⟨q.v0,q.k0,q.j0⟩
theorem LG.sb{p:Pl}{St:Int}(q:SBd c rs D p St):SBd (kS c l) rs D p St:=by
 refine⟨?_,?_⟩
 ·rw[h.fws,h.lat];exact q.d
 ·rw[h.fws,h.lat];exact q.s
theorem LG.sg(g:Sg c net rs sent):Sg (kS c l) net rs sent:=⟨h.small g.small,h.va g.va,⟨g.fr.each,g.fr.len⟩⟩
end
theorem LG.cf{c:Cf}{l:List Sw}(q:CF c sent):CF (kS c l) sent:=⟨q.ap,q.sz⟩
theorem MX(c:Cf):kS c c.fS=c:=rfl
structure RG (c:Cf) (rs:List (List Hop)) (sent:List qT) (D:Pl->Int) (come lost:List Cm):Prop where
 cm:∀ x∈come,(0<=x.yc/\x.yc<sent.length)/\(nth sent x.yc).yb<=x.yb/\∃ g∈route rs sent x.yc,g.fX=x.ya/\0<=g.fX/\g.fX<nM c/\x.yb-(nth sent x.yc).yb<=iI c D (route rs sent x.yc) g.ya+D (pk g)
 len:come.length<=1280
theorem KB{c:Cf}(g:Sg c net rs sent)(hV:gV c)(hC:CF c sent){St:Pl->Int}{lo:List Pl}(hp:lo.Perm (PS rs))(ho:qS rs lo)(hl:∀ p∈PS rs,FwOK c (fws c rs D p))(hB:∀ p∈PS rs,SBd c rs D p (St p)){l:List Sw}(hL:LG c l):
  ∃ come lost,my (kS c l) net rs sent=some (come,lost,0)/\RG c rs sent D come lost/\((∀ p∈PS rs,St p<=(qv (kS c l) p).yk.fT)->lost=[]):=by
 have g':=hL.sg g
 obtain⟨come,lost,hr,he⟩:=SF g'
 obtain⟨F,H,hF,hJ,hK,hc,xS⟩:=hr.served g'
 have C4:∀ p∈PS rs,SBd (kS c l) rs D p (St p):=fun p hp=>hL.sb (hB p hp)
 have te:∀ p∈PS rs,FwOK (kS c l) (fws (kS c l) rs D p):=fun p hp=>hL.ok (hl p hp)
 refine⟨come,lost,he,⟨fun x hx=>?_,?_⟩,fun n4=>?_⟩
 ·obtain⟨r,hr,e1,e2,e3,e4⟩:=UU hc hx
  have hs:=(hJ.ok r hr).s
  have hce:=UV g' hV (LG.cf hC) hJ hK hp ho te C4 hr e3
  have hm:=(hJ.ok r hr).h
  have hv:=g.vl hs
  have hhop:=(g.va.each _ (wn hv.1 hv.2)).hop g.small hm
  have qm:=(hJ.out r hr _ e3).1
  have hcp:=UT g' hs hm
  have Dc:(nth sent r.ev.yc).yb<=r.ev.yb:=by
   obtain⟨l1,l2,e⟩:=List.append_of_mem (hp.mem_iff.2 ((o9 rs _).2 ⟨_,wn hv.1 hv.2,_,hm,rfl⟩))
   have ha:=Ya g' hV (LG.cf hC) hJ hK hp ho te C4
   have:=(Ky g' hJ (e▸ho) (D:=D) (fun q hq r' hr' e' t' Bd=>by rw[<- e'];exact ha.1 r' hr' t' Bd) hs r.ev.yd hm (.inr rfl) r hr rfl rfl).1
   have h0:0<=lh (kS c l) (route rs sent r.ev.yc) r.ev.yd.ya:=by
    refine(g'.route hs).ind (P:=fun x=>0<=lh (kS c l) (route rs sent r.ev.yc) x.ya) (fun x hx e=>?_) (fun y hy x hx e ih=>?_) _ hm
    ·unfold lh;rw[e,(g'.route hs).jn_start];omega
    ·have hy2:=(g'.route hs).hop g'.small hy
     have:=hy2.s0;have:=hy2.d0
     unfold lh at ih ⊢
     rw[<- e,(g'.route hs).jn_next _ hy];omega
   omega
  rw[e1] at hs Dc hce hm
  rw[hL.td] at hce
  refine⟨hs,by omega,_,hm,e2,hhop.x0,by rw[e2];exact e4,by omega⟩
 ·have:=hr.len;omega
 ·have w5:H.filterMap YJ=[]:=by
   rw[List.filterMap_eq_nil_iff]
   intro r hr
   unfold YJ
   rw[if_neg]
   intro hn
   have hs:=(hJ.ok r hr).s
   have hv:=g.vl hs
   have:=(Ya g' hV (LG.cf hC) hJ hK hp ho te C4).2 r hr hn
   have:=n4 (pk r.ev.yd) ((o9 rs _).2 ⟨_,wn hv.1 hv.2,_,(hJ.ok r hr).h,rfl⟩)
   omega
  rw[w5] at xS
  exact List.perm_nil.1 xS
end
section
section
variable {c:Cf} {net:Int} {rs:List (List Hop)} (hS:Small c) (hv:VA c net rs) (hV:gV c) {l:List Pl} {t:WS} (hp:l.Perm (PS rs)) (ho:qS rs l) (hr:mq c rs l w0 = .inl t)
include hS hv hV hp ho hr
theorem bd_r:∀(n:Nat) (l1 l2:List Pl),l1.length=n->l=l1++l2->∀ q∈l1,ju c q.ya+qJ c q.fQ<=Db t q/\FwOK c (fws c rs (Db t) q)
 | 0,l1,l2,hn,_,q,hq=>by rw[List.length_eq_zero_iff.1 hn] at hq;cases hq
 | n+1,l1,l2,hn,e,q,hq=>by
  have n9:l1≠[]:=by rintro rfl;cases hn
  have e0:=List.dropLast_concat_getLast n9
  generalize l1.dropLast=l0 at e0
  generalize l1.getLast n9=p at e0
  subst e0
  rw[List.length_append,List.length_singleton] at hn
  have e1:l=l0++p::l2:=by rw[e];simp
  have ih:=bd_r n l0 (p::l2) (by omega) e1
  rcases List.mem_append.1 hq with hq | hq
  ·exact ih q hq
  ·rw[List.mem_singleton.1 hq]
   have DR:p∈PS rs:=hp.subset (by rw[e1];simp)
   have Az:FwOK c (fws c rs (Db t) p):=FL_ok hS hv fun x hx=>by
    obtain⟨y,hy,zj,_,_,e,ej,_⟩:=Sr hx
    rw[ej]
    exact jn0 hv (e1▸ho) (fun q hq=>(ih q hq).1) zj y hy (.inr e)
   refine⟨?_,Az⟩
   obtain⟨b,_,_,_,_,b3⟩:=Qo hS hv hV hp ho hr e1 (D:=Db t) fun q _=>Int.le_refl _
   have h0:=(b3 0 (Int.le_refl 0)).1
   obtain⟨x,hx⟩:=Td (c:=c) (D:=Db t) DR
   have h1:=Gw hV Az hx (t:=0) (Int.le_refl 0)
   have h3:=WK hS hv DR
   have h2:=Int.mul_le_mul_of_nonneg_left h1 (show 0<=qJ c p.fQ by omega)
   unfold VI at h0
   omega
theorem SI:∃ St:Pl->Int,∀ p∈PS rs,(ju c p.ya+qJ c p.fQ<=Db t p/\Db t p<=1073741824)/\FwOK c (fws c rs (Db t) p)/\SBd c rs (Db t) p (St p)/\∃ b∈t.out,fG b=p/\b.yl=Db t p/\b.fT=St p/\0<=St p/\St p<=1073741824:=by
 have h:∀ p,∃ s:Int,p∈PS rs->(ju c p.ya+qJ c p.fQ<=Db t p/\Db t p<=1073741824)/\FwOK c (fws c rs (Db t) p)/\SBd c rs (Db t) p s/\∃ b∈t.out,fG b=p/\b.yl=Db t p/\b.fT=s/\0<=s/\s<=1073741824:=fun p=>by
  by_cases hm:p∈PS rs
  ·obtain⟨l1,l2,e⟩:=List.append_of_mem (hp.symm.subset hm)
   obtain⟨b,hb,b1,b2,b3,b4⟩:=Qo hS hv hV hp ho hr e (D:=Db t) fun q _=>Int.le_refl _
   obtain⟨r1,r2⟩:=bd_r hS hv hV hp ho hr _ l [] rfl (by simp) p (hp.symm.subset hm)
   refine⟨b.fT,fun _=>⟨⟨r1,b3.1⟩,r2,⟨fun u u0 _=>(b4 u u0).1,fun u u0 _=>(b4 u u0).2⟩,b,hb,b1,b2,rfl,?_,b3.2⟩⟩
   have h0:=(b4 0 (Int.le_refl 0)).2
   obtain⟨x,hx⟩:=Td (c:=c) (D:=Db t) hm
   have h1:=Gw hV r2 hx (t:=0) (Int.le_refl 0)
   have h3:=WK hS hv hm
   have h4:0<=pN c (fws c rs (Db t) p):=rE _
   unfold XM at h0
   rw[show max (0-ju c p.ya) 0+qJ c p.fQ-1=qJ c p.fQ-1 by omega,Int.ediv_eq_zero_of_lt (by omega) (by omega)] at h0
   omega
  ·exact⟨0,fun h=>absurd h hm⟩
 exact⟨fun p=>Classical.choose (h p),fun p=>Classical.choose_spec (h p)⟩
end
theorem MY{α β:Type}{f:α->β}:∀ {l:List α},(l.map f).Nodup->∀ a∈l,∀ b∈l,f a=f b->a=b
 | [],_,a,ha,_,_,_=>by cases ha
 | x::l,h,a,ha,b,hb,e=>by
  rw[List.map_cons,List.nodup_cons] at h
  rcases List.mem_cons.1 ha with ha | ha <;> rcases List.mem_cons.1 hb with hb | hb
  ·rw[ha,hb]
  ·exact absurd (List.mem_map.2 ⟨b,hb,by rw[<- e,ha]⟩) h.1
  ·exact absurd (List.mem_map.2 ⟨a,ha,by rw[e,hb]⟩) h.1
  ·exact MY h.2 a ha b hb e
end
end Go.Proofs.YtcahmabkeaijdaaGreat

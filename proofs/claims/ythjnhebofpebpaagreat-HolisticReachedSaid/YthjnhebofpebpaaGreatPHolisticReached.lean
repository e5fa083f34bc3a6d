/- A part of this claim's proof. No conditions. -/
import Derived.Test.YthjnhebofpebpaaGreatPRv
import Derived.Test.YthjnhebofpebpaaGreatWHolisticReached
set_option linter.all false
namespace Go.Proofs.YthjnhebofpebpaaGreat
open Go Go.RowKit Sep
theorem GK:tz=some true:=by kernel_rfl
theorem JU{c:Cf}{net:Int}{k:List Sw->Option Bool}(hS:Small c):∀(n:Nat) (v:Int) (l:List Sw),0<=v->v<=c.fS.length->c.fS.length<n+v->LG c l->(∀ i:Int,0<=i->i<v->(nth c.fS i).yQ=net->(nth l i).fT=1073741824)->
  ∃ l',qQ c net k n v l=k l'/\LG c l'/\∀ i:Int,0<=i->i<c.fS.length->(nth c.fS i).yQ=net->(nth l' i).fT=1073741824
 | 0,v,l,h0,h1,h2,h3,h4=>by omega
 | n+1,v,l,h0,h1,h2,h3,h4=>by
  have hs:=hS.s
  have eW:=h3.len
  rw[qQ,List.nil_append]
  by_cases h:v<c.fS.length
  ·rw[Nv h]
   refine wA (P:=fun o=>∃ l',o=k l'/\LG c l'/\∀ i:Int,0<=i->i<c.fS.length->(nth c.fS i).yQ=net->(nth l' i).fT=1073741824) fun kk hk=>?_
   rw[xL ⟨h0,by omega⟩]
   by_cases hn:(nth l v).yQ=net
   ·rw[Nv hn,xL ⟨h0,by omega⟩,hk,xQ (x:=v+1) (by omega)]
    have hnth:∀(q:Int) (y:Sw),nth (l.set v.toNat y) q=if q.toNat=v.toNat then y else nth l q:=by
     intro q y
     unfold nth
     rw[List.getD_eq_getElem?_getD,List.getD_eq_getElem?_getD,List.getElem?_set]
     by_cases e:v.toNat=q.toNat
     ·rw[if_pos e,if_pos (by omega),if_pos e.symm];rfl
     ·rw[if_neg e,if_neg fun x=>e x.symm]
    have hK:∀ q:Int,q.toNat=v.toNat->nth c.fS q=nth c.fS v:=fun q e=>by unfold nth;rw[e]
    refine JU hS n (v+1) _ (by omega) (by omega) (by omega) ⟨by rw[List.length_set];exact eW,fun q=>?_,fun q=>?_,fun q=>?_,fun q hq=>?_⟩ fun i i0 i1 hi=>?_
    all_goals rw[hnth]
    ·split
     ·rename_i e;rw[hK q e];exact h3.nm v
     ·exact h3.nm q
    ·split
     ·rename_i e;rw[hK q e];exact h3.nt v
     ·exact h3.nt q
    ·split
     ·rename_i e;rw[hK q e];exact h3.dl v
     ·exact h3.dl q
    ·split
     ·simp
     ·exact h3.st q hq
    ·split
     ·rfl
     ·rename_i e;exact h4 i i0 (by omega) hi
   ·rw[Nw hn,hk,xQ (x:=v+1) (by omega)]
    refine JU hS n (v+1) _ (by omega) (by omega) (by omega) h3 fun i i0 i1 hi=>?_
    by_cases e:i=v
    ·subst e;rw[h3.nt] at hn;exact absurd hi hn
    ·exact h4 i i0 (by omega) hi
  ·rw[Nw h]
   exact⟨l,rfl,h3,fun i i0 i1 hi=>h4 i i0 (by omega) hi⟩
theorem VW{c:Cf}{k:Option Bool}(hS:Small c):∀(n:Nat) (v:Int),0<=v->v<=c.fK.length->c.fK.length<n+v->
  (f7 c k n v=some false)\/((∀ i:Int,v<=i->i<c.fK.length->wl c i=wl c 0)/\f7 c k n v=k)
 | 0,v,h0,h1,h2=>by omega
 | n+1,v,h0,h1,h2=>by
  have hl:=hS.l
  rw[f7]
  by_cases h:v<c.fK.length
  ·rw[Nv h,xL ⟨h0,h⟩,xL ⟨Int.le_refl _,by omega⟩]
   by_cases e:(nth c.fK v).yp=(nth c.fK 0).yp
   ·rw[if_neg (by simpa using e),xQ (x:=v+1) (by omega)]
    rcases VW hS n (v+1) (by omega) (by omega) (by omega) with q | ⟨q,r⟩
    ·exact .inl q
    ·refine .inr ⟨fun i i0 i1=>?_,r⟩
     by_cases hi:i=v
     ·subst hi;exact e
     ·exact q i (by omega) i1
   ·rw[if_pos (by simpa using e)];exact .inl rfl
  ·rw[Nw h]
   exact .inr ⟨fun i i0 i1=>by omega,rfl⟩
theorem UZ{c:Cf}(hS:Small c):∃ b,ta c=some b/\(b=true->∀ i j:Int,0<=i->i<c.fK.length->0<=j->j<c.fK.length->wl c i=wl c j):=by
 unfold ta
 refine gN (P:=fun o=>∃ b,o=some b/\(b=true->∀ i j:Int,0<=i->i<c.fK.length->0<=j->j<c.fK.length->wl c i=wl c j)) fun k hk=>?_
 have hl:=hS.l
 rcases VW (k:=k) hS xR 0 (by omega) (by omega) (by rw[wi];omega) with q | ⟨q,r⟩
 ·exact⟨false,q,fun h=>by simp at h⟩
 ·exact⟨true,r.trans hk,fun _ i j i0 i1 j0 j1=>(q i i0 i1).trans (q j j0 j1).symm⟩
theorem M6{c:Cf}{x:yL×Int}{y:List Cm×List Cm×Int}{v:Int}{k:Option Bool}{b:Bool}(hb:ta c=some b)(hl:x.1.yy.length<=1000000)(h:∀ e∈x.1.yy,(nth y.1 v).ya=e.ya->(nth y.1 v).yb<=e.yl/\(b=true->(nth y.1 v).yb=e.yl)):∀(n:Nat) (i:Int),0<=i->i<=x.1.yy.length->x.1.yy.length<n+i->qR x y v c k n i=k
 | 0,i,h0,h1,h2=>by omega
 | n+1,i,h0,h1,h2=>by
  rw[qR]
  by_cases hi:i<x.1.yy.length
  ·rw[Nv hi,xL ⟨h0,hi⟩,xQ (x:=i+1) (by omega),M6 hb hl h n (i+1) (by omega) (by omega) (by omega)]
   have hq:=h _ (wp h0 hi)
   by_cases e:(nth y.1 v).ya=(nth x.1.yy i).ya
   ·obtain⟨a1,a2⟩:=hq e
    rw[Nv e,if_neg (by simpa using a1),hb]
    simp only[oB]
    rw[if_neg]
    cases b with
    | false=>simp
    | true=>simp[a2 rfl]
   ·rw[Nw e];rfl
  ·rw[Nw hi]
theorem M7{c:Cf}{x:yL×Int}{y:List Cm×List Cm×Int}{k:Option Bool}{b:Bool}(hb:ta c=some b)(hl:x.1.yy.length<=1000000)(hy:y.1.length<=1000000)(h:∀ z∈y.1,∀ e∈x.1.yy,z.ya=e.ya->z.yb<=e.yl/\(b=true->z.yb=e.yl)):∀(n:Nat) (v:Int),0<=v->v<=y.1.length->y.1.length<n+v->qS y x c k n v=k
 | 0,v,h0,h1,h2=>by omega
 | n+1,v,h0,h1,h2=>by
  rw[qS]
  by_cases hi:v<y.1.length
  ·rw[Nv hi]
   refine gN (P:=fun o=>o=k) fun k1 w5=>?_
   rw[xL ⟨h0,hi⟩]
   refine gN (P:=fun o=>o=k) fun k2 qh=>?_
   rw[M6 hb hl (h _ (wp h0 hi)) xR 0 (by omega) (by omega) (by rw[wi];omega),qh,w5,xQ (x:=v+1) (by omega)]
   exact M7 hb hl hy h n (v+1) (by omega) (by omega) (by omega)
  ·rw[Nw hi]
theorem nC{c:Cf}{rs:List (List Hop)}{ps:List PB}{k:Int}(k0:0<=k)(k1:k<rs.length)(ha:∀ v:Int,0<=v->v<rs.length->v≠k->nth rs v=[]){x:zt}:x∈EN c rs ps↔x∈VE c rs (dem ps) k:=by
 rw[JE]
 constructor
 ·rintro⟨v,v0,v1,h⟩
  by_cases e:v=k
  ·rw[<- e];exact h
  ·have h2:=Wg (c:=c) (rs:=rs) (de:=dem ps) (v:=v)
   rw[ha v v0 v1 e] at h2
   rw[List.length_eq_zero_iff.1 (Nat.le_zero.1 h2)] at h;simp at h
 ·exact fun h=>⟨k,k0,k1,h⟩
theorem law(c:Cf)(net:Int)(rs:List (List Hop))(which:Int)(hw:0<=which/\which<=255):mK c net rs which=some true:=by
 unfold mK
 obtain⟨b,hb,hfew⟩:=T5 c rs
 rw[hb,GK]
 simp only[oB]
 cases b with
 | false=>rfl
 | true=>
  have hf:=hfew.1 rfl
  have hS:=hf.small
  rw[if_neg (by simp)]
  obtain⟨b2,BK,Ai⟩:=cY hS (net:=net) (rs:=rs) (fun r hr=>by have:=hf.e r hr;omega) (by have:=hf.r;omega)
  rw[BK]
  simp only[oB]
  by_cases hc:b2=true/\c.yc.length≠0
  ·have hv:=Ai.1 hc.1
   have eW:=hv.len
   have EM:=hf.v
   rw[if_neg (by simp[hc.1,hc.2]),xL (by omega),xL (by have:=hf.r;omega)]
   have hK:=MY (x:=i64 which) (n:=((c.yc.length:Nat):Int)) (by rw[xQ (by omega)];omega) (by omega)
   generalize Int.tmod (i64 which) ((c.yc.length:Nat):Int)=K at hK
   rw[xL ⟨hK.1,by omega⟩,xL ⟨hK.1,by rw[List.length_replicate];omega⟩,xL (by rw[List.nil_append];have:=hS.s;omega)]
   refine wA (P:=fun o=>o=some true) fun k4 E2=>?_
   rw[List.nil_append]
   have CY:=hS.s
   obtain⟨l,e4,hL,jf⟩:=JU (net:=net) (k:=k4) hS xR 0 c.fS (by omega) (by omega) (by rw[wi];omega) (LG.refl c) (fun i i0 i1=>by omega)
   rw[e4,E2,show(((rs.length:Nat):Int):Int).toNat=rs.length by omega]
   generalize ha:(List.replicate rs.length ([]:List Hop)).set K.toNat (nth rs K)=al
   have hal:al.length=rs.length:=by rw[<- ha,List.length_set,List.length_replicate]
   have Aj:nth al K=nth rs K:=by rw[<- ha,JS hK.1 (by rw[List.length_replicate];omega) hK.1 (by rw[List.length_replicate];omega),if_pos rfl]
   have AU:∀ v:Int,0<=v->v<al.length->v≠K->nth al v=[]:=fun v v0 v1 oM=>by
    rw[hal] at v1
    rw[<- ha,JS hK.1 (by rw[List.length_replicate];omega) v0 (by rw[List.length_replicate];omega),if_neg oM,kh ⟨v0,by rw[List.length_replicate];omega⟩,List.getElem_replicate]
   have Ci:(⟨c.fM,c.yd,l,c.fK,c.yc,c.fH,c.fU,c.ye⟩:Cf)=qp c l:=rfl
   rw[Ci]
   have Do:FewP (qp c l) al:=⟨hf.m,by show l.length<=8;rw[hL.len];exact hf.s,hf.l,hf.v,by rw[hal];exact hf.r,fun r hr=>by
    obtain⟨v,v0,v1,rfl⟩:=tB hr
    by_cases e:v=K
    ·rw[e,Aj];exact hf.e _ (wp hK.1 (by omega))
    ·rw[AU v v0 v1 e];simp⟩
   have BW:=Do.small
   obtain⟨x,hx,hC⟩:=HC_eq (net:=net) Do
   rw[hx]
   simp only[oB]
   rw[xL (fun _=>⟨hK.1,by omega⟩)]
   by_cases he:x.2=0/\(nth rs K).length≠0
   ·rw[if_neg (by simp[he.1];exact fun h=>he.2 (by rw[h];rfl)),xL ⟨hK.1,hK.2⟩]
    obtain⟨w4,zW,D,ps,lo,Eb,E7,hF,hO,hxe⟩:=HC_ok BW hC he.1
    subst hxe
    have hV:=zW.vls
    obtain⟨m0,m1,b0,b1⟩:=hV.mx hK.1 (show K<(qp c l).yc.length from hK.2)
    have e1:∀ i:Int,0<=i->i<(([(⟨0,K,(nth c.yc K).yA⟩:jQ)]:List jQ).length:Int)->nth [(⟨0,K,(nth c.yc K).yA⟩:jQ)] i=⟨0,K,(nth c.yc K).yA⟩/\i=0:=fun i i0 i1=>by
     have:i=0:=by simp at i1;omega
     subst this;exact⟨rfl,rfl⟩
    generalize hsn:([(⟨0,K,(nth c.yc K).yA⟩:jQ)]:List jQ)=sent at e1
    have vB:sent.length=1:=by rw[<- hsn];rfl
    have g:Sg (qp c l) net al sent:=⟨BW,w4,⟨fun q q0 q1=>by
     obtain⟨a1,a2⟩:=e1 q q0 q1
     unfold FG;rw[a1]
     exact⟨by simp,by simp,hK.1,hK.2,m0,m1,fun h=>by omega⟩,by rw[vB];omega⟩⟩
    have Du:CF (qp c l) sent:=⟨fun i j i0 ij j1 _=>by rw[vB] at j1;omega,fun i i0 i1=>by rw[(e1 i i0 i1).1];exact Int.le_refl _⟩
    have tg:∀ p∈PS al,FwOK (qp c l) (fws (qp c l) al D p):=fun p _=>hF.ok BW w4 p
    have hsb:∀ p∈PS al,SBd (qp c l) al D p ((fun p=>(l9 (qp c l) al D p).fT) p):=fun p hp=>hF.sb BW w4 hp
    obtain⟨come,lost,hr,eT⟩:=Ts g
    obtain⟨F,H,hFa,hJ,hSv,zr,hl1⟩:=hr.served g
    rw[eT]
    simp only[oB]
    have zK:=VU g hV Du hJ hSv Eb E7 tg hsb
    have hnl:∀ r∈H,r.out≠none:=by
     intro r hr hn
     have hs:=(hJ.ok r hr).s
     have E8:=g.vl hs
     have hm:=(hJ.ok r hr).h
     have CH:pk r.ev.yg∈PS al:=(sG al).2 ⟨_,wp E8.1 E8.2,_,hm,rfl⟩
     have h1:=zK.2 r hr hn
     have h2:=(hF.store Do BW w4 hV CH).2
     have h3:(qJ (qp c l) (pk r.ev.yg)).yk.fT=1073741824:=by
      show(if nM (qp c l)<=r.ev.yg.ya then(sw (qp c l) r.ev.yg.ya).fT else 1073741824)=_
      split
      ·rename_i hn2
       obtain⟨⟨n0,n1⟩,n3,_⟩:=((g.route hs).hv _ hm).node BW
       rcases n1 with n1 | ⟨a,_⟩
       ·omega
       ·have hlen2:=hL.len
        have Bt:0<=r.ev.yg.ya-nM (qp c l)/\r.ev.yg.ya-nM (qp c l)<c.fS.length:=by
         have e5:(qp c l).fS=l:=rfl
         unfold nN at n3;unfold nM at *;rw[e5] at n3;omega
        refine jf _ Bt.1 Bt.2 ?_
        rw[<- hL.nt];exact a
      ·rfl
     omega
    have sQ:∀ i:Int,0<=i->i<sent.length->route al sent i=nth rs K:=fun i i0 i1=>by
     unfold route;rw[(e1 i i0 i1).1];exact Aj
    have zR:(K:Int)<al.length:=by rw[hal];omega
    have DT:∀ h∈nth al K,xI (dem ps) (pk h) 0=D (pk h):=fun h hh=>hO.dem hF ((sG al).2 ⟨_,wp hK.1 zR,h,hh,rfl⟩)
    have hDb:∀ h∈nth al K,-1073741824<=D (pk h)/\D (pk h)<=1073741824:=fun h hh=>by have:=hF.rng BW w4 (wp hK.1 zR) hh;omega
    have hi0:(0:Int)<=0/\(0:Int)<sent.length:=by rw[vB];omega
    have Bo:∀ z∈come,∃ e∈EN (qp c l) al ps,e.ya=z.ya/\z.yb<=e.yl/\((∀ i j:Int,0<=i->i<c.fK.length->0<=j->j<c.fK.length->wl c i=wl c j)->z.yb=e.yl):=by
     intro z hz
     obtain⟨r,hr,q1,q2,q3,q4⟩:=Xt zr hz
     have hs:=(hJ.ok r hr).s
     have hm:=(hJ.ok r hr).h
     have Ed:=(e1 _ hs.1 hs.2).2
     rw[sQ _ hs.1 hs.2,<- Aj] at hm
     have hhop:=(w4.each _ (wp hK.1 zR)).hop BW hm
     obtain⟨e,Di,f1,f2,f3⟩:=Tu BW w4 hK.1 zR DT hDb hm hhop.x0 (by rw[q2];exact q4)
     refine⟨e,(nC hK.1 zR AU).2 Di,by rw[f2,q2],?_,fun Aw=>?_⟩
     ·have:=JR g hV Du hJ hSv Eb E7 tg hsb hr q3
      rw[sQ _ hs.1 hs.2,<- Aj,(e1 _ hs.1 hs.2).1] at this
      simp only at this
      rw[f3];omega
     ·have hup:=JR g hV Du hJ hSv Eb E7 tg hsb hr q3
      rw[sQ _ hs.1 hs.2,<- Aj,(e1 _ hs.1 hs.2).1] at hup
      simp only at hup
      have had:∀ y∈nth al K,D (pk y)<=qu (qp c l) y.ya+mx (qp c l) K*wl (qp c l) y.fQ:=fun y hy=>Ko hF BW w4 hV hK.1 zR AU Aw hy
      have E9:=UY g hJ (D:=D) hs (fun y hy=>by
       rw[sQ _ hs.1 hs.2,<- Aj] at hy
       rw[(e1 _ hs.1 hs.2).1]
       exact had y hy) r.ev.yg (by rw[sQ _ hs.1 hs.2,<- Aj];exact hm) r hr rfl rfl
      rw[sQ _ hs.1 hs.2,<- Aj,(e1 _ hs.1 hs.2).1] at E9
      simp only at E9
      have BV:=(hJ.out r hr _ q3).1
      have hce:iT (qp c l) sent r.ev.yf r.ev.yg=qu (qp c l) r.ev.yg.ya+mx (qp c l) K*wl (qp c l) r.ev.yg.fQ:=by
       unfold iT
       rw[sY,sa,(e1 _ hs.1 hs.2).1];rfl
      have:=had _ hm
      rw[f3];omega
    have hcn:(come.map (·.ya)).Nodup:=by
     have:=FZ g hJ zr
     rw[List.nodup_iff_pairwise_ne,List.pairwise_map]
     refine this.imp_of_mem fun {a b} ha hb h e=>h ⟨?_,e⟩
     obtain⟨r,hr,q1,_⟩:=Xt zr ha
     obtain⟨r',hr',q1',_⟩:=Xt zr hb
     have h1:=(e1 _ (hJ.ok r hr).s.1 (hJ.ok r hr).s.2).2
     have h2:=(e1 _ (hJ.ok r' hr').s.1 (hJ.ok r' hr').s.2).2
     rw[<- q1,<- q1',h1,h2]
    have hVn:=(b8 (qp c l) al (dem ps) K).nd
    have hENl:(EN (qp c l) al ps).length=(VE (qp c l) al (dem ps) K).length:=by
     have Aq:(EN (qp c l) al ps).Nodup->True:=fun _=>trivial
     unfold EN
     have key:∀(n:Nat) (v:Int),0<=v->v+n<=al.length->((jE v n).flatMap fun v=>wx jI (VE (qp c l) al (dem ps) v)).length=if v<=K/\K<v+n then(VE (qp c l) al (dem ps) K).length else 0:=by
      intro n
      induction n with
      | zero=>intro v v0 v1;rw[if_neg (by omega)];rfl
      | succ n ih=>
       intro v v0 v1
       rw[jE,List.flatMap_cons,List.length_append,ih (v+1) (by omega) (by omega),(jS _ _).length_eq]
       by_cases e:v=K
       ·subst e
        rw[if_neg (by omega),if_pos (by omega)];rfl
       ·have h2:=Wg (c:=qp c l) (rs:=al) (de:=dem ps) (v:=v)
        rw[AU v v0 (by omega) e] at h2
        rw[Nat.le_zero.1 h2,Nat.zero_add]
        by_cases q:v+1<=K/\K<v+1+n
        ·rw[if_pos q,if_pos (by omega)]
        ·rw[if_neg q,if_neg (by omega)]
     rw[key al.length 0 (by omega) (by omega),if_pos (by omega)]
    have vL:come.length=(EN (qp c l) al ps).length:=by
     rw[hENl]
     refine Nat.le_antisymm ?_ ?_
     ·have:=oF _ ((VE (qp c l) al (dem ps) K).map (·.ya)) hcn fun n hn=>by
       obtain⟨z,hz,rfl⟩:=List.mem_map.1 hn
       obtain⟨e,Di,f1,_⟩:=Bo z hz
       exact List.mem_map.2 ⟨e,(nC hK.1 zR AU).1 Di,f1⟩
      rwa [List.length_map,List.length_map] at this
     ·have:=oF _ (come.map (·.ya)) hVn fun n hn=>by
       obtain⟨e,Di,rfl⟩:=List.mem_map.1 hn
       obtain⟨_,n0,n1,hh⟩:=(b8 (qp c l) al (dem ps) K).vl e Di
       have CX:=EV.all BW w4 (wp hK.1 zR) DT hDb K _ (Nat.le_refl _)
       rw[List.take_length] at CX
       obtain⟨q,q0,q1,hq⟩:=(CX.h e.ya).1 hh
       have hgm:=wp (l:=nth al K) q0 q1
       obtain⟨r,hr,r1,r2⟩:=M5 g hJ hFa hnl hi0 _ (by rw[sQ 0 hi0.1 hi0.2,<- Aj];exact hgm)
       cases ho:r.out with
       | none=>exact absurd ho (hnl r hr)
       | some t=>
        have:=MV zr hr ho (by rw[r2,hq];exact n1)
        exact List.mem_map.2 ⟨_,this,by rw[r2];exact hq⟩
      rwa [List.length_map,List.length_map] at this
    rw[if_neg (by simp[vL])]
    refine gN (P:=fun o=>o=some true) fun k5 hk5=>?_
    obtain⟨b,hsb2,Aw⟩:=UZ hS
    have CV:=Tl (c:=qp c l) (ps:=ps) Do.r Do.e
    rw[M7 (b:=b) hsb2 CV (by simp only;rw[vL];exact CV) _ xR 0 (by omega) (by omega) (by rw[wi];simp only;omega),hk5]
    intro z hz e Di hn
    obtain⟨e',he',f1,f2,f3⟩:=Bo z hz
    have h1:=((b8 (qp c l) al (dem ps) K).vl e ((nC hK.1 zR AU).1 Di)).1
    have h2:=((b8 (qp c l) al (dem ps) K).vl e' ((nC hK.1 zR AU).1 he')).1
    have:e=e':=UJ Di he' (h1.trans h2.symm) (hn.symm.trans f1.symm)
    rw[this]
    exact⟨f2,fun hb=>f3 (Aw hb)⟩
   ·rw[if_pos]
    by_cases hx0:x.2=0
    ·have:(nth rs K).length=0:=Classical.byContradiction fun h=>he ⟨hx0,h⟩
     simp[this]
    ·simp[hx0]
  ·rw[if_pos]
   cases b2 with
   | false=>rfl
   | true=>
    have:c.yc.length=0:=Classical.byContradiction fun h=>hc ⟨rfl,h⟩
    simp[this]
end Go.Proofs.YthjnhebofpebpaaGreat

/- A part of this claim's proof. No conditions. -/
import Derived.Test.YthjnhebofpebpaaGreatPRv
import Derived.Test.YthjnhebofpebpaaGreatWHolisticHolds
set_option linter.all false
namespace Go.Proofs.YthjnhebofpebpaaGreat
open Go Go.RowKit Sep
theorem F4:uz=some true:=by kernel_rfl
def ah(v n:Int):yR:=⟨v,n⟩
theorem Mm{x:yM×Int}{k:List (yR×Int)->Option Bool}(hl:x.1.yx.length<=1000000)(hu:∀ a∈x.1.yx,∀ b∈x.1.yx,a.yt=b.yt->a.ya=b.ya->a=b):∀(n:Nat) (i:Int) (mp:List (yR×Int)),0<=i->i<=x.1.yx.length->x.1.yx.length<n+i->(∀ e∈x.1.yx.take i.toNat,wS mp (ah e.yt e.ya)=true/\xK mp (ah e.yt e.ya) 0=e.yl)->
  ∃ zj,jr x k n i mp=k zj/\∀ e∈x.1.yx,wS zj (ah e.yt e.ya)=true/\xK zj (ah e.yt e.ya) 0=e.yl
 | 0,i,mp,h0,h1,h2,h3=>by omega
 | n+1,i,mp,h0,h1,h2,h3=>by
  rw[jr]
  by_cases h:i<x.1.yx.length
  ·rw[Nw h,xM ⟨h0,h⟩,xS (x:=i+1) (by omega)]
   refine Mm hl hu n (i+1) _ (by omega) (by omega) (by omega) fun e he=>?_
   rw[show(i+1).toNat=i.toNat+1 by omega,List.take_succ_eq_append_getElem (by omega),<- j6 ⟨h0,h⟩] at he
   have hm:=ws (l:=x.1.yx) h0 h
   rw[bc,gG]
   by_cases q:ah e.yt e.ya=⟨(nth x.1.yx i).yt,(nth x.1.yx i).ya⟩
   ·have zG:e∈x.1.yx:=by
     rcases List.mem_append.1 he with he | he
     ·exact List.mem_of_mem_take he
     ·rw[List.mem_singleton.1 he];exact hm
    unfold ah at q
    injection q with q1 q2
    have:=hu e zG _ hm q1 q2
    subst this
    unfold ah
    simp
   ·rw[if_neg q]
    rcases List.mem_append.1 he with he | he
    ·obtain⟨a,b⟩:=h3 e he
     exact⟨by rw[a];simp,b⟩
    ·rw[List.mem_singleton.1 he] at q;exact absurd rfl q
  ·rw[Nx h]
   refine⟨mp,rfl,fun e he=>h3 e ?_⟩
   rwa [List.take_of_length_le (by omega)]
theorem Kh{c:Cf}{rs:List (List Hop)}{x:yM×Int}{k:List Sw->Option Bool}(hS:Small c)(hl:x.1.fP.length<=1000000)(hb:∀ b∈x.1.fP,(0<=b.ya/\b.ya<nN c)/\0<=b.fT/\b.fT<=1073741824):∀(n:Nat) (i:Int) (l:List Sw),0<=i->i<=x.1.fP.length->x.1.fP.length<n+i->LG c l->(∀ b∈x.1.fP.take i.toNat,nM c<=b.ya->b.fT<=(nth l (b.ya-nM c)).fT)->
  ∃ l',js x c k n i l=k l'/\LG c l'/\∀ b∈x.1.fP,nM c<=b.ya->b.fT<=(nth l' (b.ya-nM c)).fT
 | 0,i,l,h0,h1,h2,h3,h4=>by omega
 | n+1,i,l,h0,h1,h2,h3,h4=>by
  rw[js]
  by_cases h:i<x.1.fP.length
  ·rw[Nw h]
   refine wx (P:=fun o=>∃ l',o=k l'/\LG c l'/\∀ b∈x.1.fP,nM c<=b.ya->b.fT<=(nth l' (b.ya-nM c)).fT) fun kk hk=>?_
   obtain⟨⟨n0,n1⟩,s0,s1⟩:=hb _ (ws (l:=x.1.fP) h0 h)
   have hm:=hS.m
   have hsw:=hS.s
   have kM:=h3.len
   rw[xM ⟨h0,h⟩,xS (x:=(nth x.1.fP i).ya-((c.fM.length:Nat):Int)) (by unfold nN at n1;omega)]
   have htk:x.1.fP.take (i+1).toNat=x.1.fP.take i.toNat++[nth x.1.fP i]:=by
    rw[show(i+1).toNat=i.toNat+1 by omega,List.take_succ_eq_append_getElem (by omega),<- j6 ⟨h0,h⟩]
   by_cases hq:nM c<=(nth x.1.fP i).ya
   ·have Eg:0<=(nth x.1.fP i).ya-nM c/\(nth x.1.fP i).ya-nM c<l.length:=by unfold nN at n1;unfold nM at *;omega
    rw[if_pos (by unfold nM at Eg;simp only[Bool.and_eq_true,decide_eq_true_eq];omega),xM (by unfold nM at Eg;exact Eg),hk,xS (x:=i+1) (by omega)]
    have e0:(nth x.1.fP i).ya-((c.fM.length:Nat):Int)=(nth x.1.fP i).ya-nM c:=rfl
    rw[e0]
    generalize wT:(nth x.1.fP i).ya-nM c=K at Eg
    have Hf:∀(q:Int) (y:Sw),nth (l.set K.toNat y) q=if q.toNat=K.toNat then y else nth l q:=by
     intro q y
     unfold nth
     rw[List.getD_eq_getElem?_getD,List.getD_eq_getElem?_getD,List.getElem?_set]
     by_cases e:K.toNat=q.toNat
     ·rw[if_pos e,if_pos (by omega),if_pos e.symm];rfl
     ·rw[if_neg e,if_neg fun x=>e x.symm]
    refine Kh (rs:=rs) hS hl hb n (i+1) _ (by omega) (by omega) (by omega) ?_ ?_
    ·have hK:∀ q:Int,q.toNat=K.toNat->nth c.fS q=nth c.fS K:=fun q e=>by unfold nth;rw[e]
     refine⟨by rw[List.length_set];exact kM,fun q=>?_,fun q=>?_,fun q=>?_,fun q hq=>?_⟩
     all_goals rw[Hf]
     ·split
      ·rename_i e;rw[hK q e];exact h3.nm K
      ·exact h3.nm q
     ·split
      ·rename_i e;rw[hK q e];exact h3.nt K
      ·exact h3.nt q
     ·split
      ·rename_i e;rw[hK q e];exact h3.dl K
      ·exact h3.dl q
     ·split
      ·rename_i e;rw[hK q e] at hq;have:=h3.st K hq;simp only;omega
      ·exact h3.st q hq
    ·intro b hbm BP
     rw[htk] at hbm
     rw[Hf]
     rcases List.mem_append.1 hbm with hbm | hbm
     ·have:=h4 b hbm BP
      split
      ·rename_i e
       have e2:nth l (b.ya-nM c)=nth l K:=by unfold nth;rw[e]
       rw[e2] at this;simp only;omega
      ·exact this
     ·rw[List.mem_singleton.1 hbm,wT,if_pos rfl];simp only;omega
   ·rw[if_neg (by unfold nM at hq;simp only[Bool.and_eq_true,decide_eq_true_eq];omega),hk,xS (x:=i+1) (by omega)]
    refine Kh (rs:=rs) hS hl hb n (i+1) _ (by omega) (by omega) (by omega) h3 fun b hbm BP=>?_
    rw[htk] at hbm
    rcases List.mem_append.1 hbm with hbm | hbm
    ·exact h4 b hbm BP
    ·rw[List.mem_singleton.1 hbm] at BP;exact absurd BP hq
  ·rw[Nx h]
   refine⟨l,rfl,h3,fun b hbm=>h4 b ?_⟩
   rwa [List.take_of_length_le (by omega)]
theorem Mn{a b:List Cm×List Cm×Int}{sent:List qZ}{mp:List (yR×Int)}{k:Option Bool}(hl:(a.1++b.1).length<=1000000)(h:∀ x∈a.1++b.1,(0<=x.yd/\x.yd<sent.length)/\wS mp (ah (nth sent x.yd).yt x.ya)=true/\i64 (x.yc-(nth sent x.yd).yc)<=xK mp (ah (nth sent x.yd).yt x.ya) 0):∀(n:Nat) (i:Int),0<=i->i<=(a.1++b.1).length->(a.1++b.1).length<n+i->jt a b sent mp k n i=k
 | 0,i,h0,h1,h2=>by omega
 | n+1,i,h0,h1,h2=>by
  rw[jt]
  by_cases hi:i<(a.1++b.1).length
  ·obtain⟨h3,h4,h5⟩:=h _ (ws h0 hi)
   unfold ah at h4 h5
   rw[Nw hi,xM ⟨h0,hi⟩,xM h3,xM (fun _=>h3),if_neg (by rw[h4];simpa using h5),xS (x:=i+1) (by omega)]
   exact Mn hl h n (i+1) (by omega) (by omega) (by omega)
  ·rw[Nx hi]
theorem law(c:Cf)(net:Int)(rs:List (List Hop))(wh sz wa:List Int)(Dn:∀ x∈wh,0<=x/\x<=255)(lp:∀ x∈sz,0<=x/\x<=255)(Ek:∀ x∈wa,0<=x/\x<=65535):uu c net rs wh sz wa=some true:=by
 unfold uu
 obtain⟨b,hb,hfew⟩:=Tp c rs
 rw[hb,F4]
 simp only[oB]
 cases b with
 | false=>rfl
 | true=>
  have hf:=hfew.1 rfl
  have hS:=hf.small
  obtain⟨x,hx,hC⟩:=HC_eq (net:=net) hf
  rw[if_neg (by simp),hx]
  simp only[oB]
  by_cases he:x.2=0
  ·rw[if_neg (by simpa using he)]
   obtain⟨hv,zU,D,ps,lo,E3,He,hF,hO,hxe⟩:=HC_ok hS hC he
   subst hxe
   have hV:=zU.vls
   obtain⟨sent,hs,Db,Eb⟩:=F3 hV (by have:=hf.v;omega) Dn lp Ek
   rw[hs]
   simp only[oB]
   have g:Sg c net rs sent:=⟨hS,hv,Db⟩
   have vU:∀ p∈PS rs,FwOK c (fws c rs D p):=fun p _=>hF.ok hS hv p
   have hsb:∀ p∈PS rs,SBd c rs D p ((fun p=>(ol c rs D p).fT) p):=fun p hp=>hF.sb hS hv hp
   obtain⟨come,lost,AP,BE,_⟩:=Kg g hV Eb E3 He vU hsb (LG.refl c)
   rw[Ml] at AP
   rw[AP]
   simp only[oB]
   rw[if_neg (by simp)]
   have hF2:=wp
   generalize xT=N at hF2 ⊢
   have Dv:=TF (c:=c) (ps:=ps) hf.r hf.e
   have CE:=hO.len hf.r hf.e
   refine wx (P:=fun o=>o=some true) fun k4 E9=>?_
   obtain⟨mp,e4,hmp⟩:=Mm (x:=(⟨ps,EN c rs ps⟩,0)) (k:=k4) Dv (fun a ha b hb=>T5 ha hb) N 0 [] (by omega) (by omega) (by simp only;omega) (by simp)
   rw[e4,E9,xM (by simp only[List.nil_append];have:=hS.s;omega)]
   refine wx (P:=fun o=>o=some true) fun k5 hk5=>?_
   have hpb:∀ b∈ps,(0<=b.ya/\b.ya<nN c)/\0<=b.fT/\b.fT<=1073741824:=by
    intro b hb
    have hm:kn b∈PS rs:=by rw[<- hO.1];exact List.mem_map.2 ⟨b,hb,rfl⟩
    obtain⟨r,hr,y,hy,hyp,hyv⟩:=M7 hS hv hm
    have e5:=hO.2 b hb
    have e6:b.ya=y.ya:=by have:=congrArg z6.ya hyp;exact this.symm
    refine⟨by rw[e6];exact⟨hyv.n0,hyv.n1⟩,?_⟩
    rw[e5];exact hF.store hf hS hv hV hm
   obtain⟨l,e5,hL,ni⟩:=Kh (rs:=rs) (c:=c) (x:=(⟨ps,EN c rs ps⟩,0)) (k:=k5) hS CE hpb N 0 c.fS (by omega) (by omega) (by simp only;omega) (LG.refl c) (by simp)
   rw[List.nil_append,e5,hk5]
   obtain⟨come2,Hg,BF,Cz,z7⟩:=Kg g hV Eb E3 He vU hsb hL
   rw[show(⟨c.fM,c.ye,l,c.fK,c.yb,c.fH,c.fU,c.yf⟩:Cf)=gi c l from rfl,BF]
   simp only[oB]
   have hno2:Hg=[]:=z7 fun p hp=>by
    obtain⟨b,hb,hbp,EJ⟩:=hO.get hp
    show(ol c rs D p).fT<=if nM c<=p.ya then(sw (gi c l) p.ya).fT else 1073741824
    split
    ·rename_i hn
     have e7:b.ya=p.ya:=congrArg z6.ya hbp
     have:=ni b hb (by rw[e7];exact hn)
     rw[EJ] at this
     exact this
    ·exact(hF.store hf hS hv hV hp).2
   subst hno2
   rw[if_neg (by simp)]
   have hln1:=BE.len
   have hln2:=Cz.len
   refine mF (P:=fun o=>o=some true) fun k6 hk6=>?_
   rw[xM (by rw[List.length_append];omega),Mn _ _ N 0 (by omega) (by omega) (by simp only;rw[List.length_append];omega),hk6]
   ·simp only;rw[List.length_append];omega
   ·intro x hx
    have Do:∀ {a b:List Cm},RG c rs sent D a b->x∈a->(0<=x.yd/\x.yd<sent.length)/\wS mp (ah (nth sent x.yd).yt x.ya)=true/\i64 (x.yc-(nth sent x.yd).yc)<=xK mp (ah (nth sent x.yd).yt x.ya) 0:=by
     intro a b hg Ay
     obtain⟨hs1,ht1,y,hy,y1,y2,y3,y4⟩:=hg.cm x Ay
     have zQ:=g.vl hs1
     have Ej:∀ h∈route rs sent x.yd,xK (dem ps) (pk h) 0=D (pk h):=fun h hh=>hO.dem hF ((sH rs).2 ⟨_,ws zQ.1 zQ.2,h,hh,rfl⟩)
     have hDb:∀ h∈route rs sent x.yd,-1073741824<=D (pk h)/\D (pk h)<=1073741824:=fun h hh=>by have:=hF.rng hS hv (ws zQ.1 zQ.2) hh;omega
     obtain⟨e,he,e1,e2,e3⟩:=TO hS hv zQ.1 zQ.2 Ej hDb hy y2 y3
     obtain⟨m1,m2⟩:=hmp e (K1.2 ⟨_,zQ.1,zQ.2,he⟩)
     rw[e1,e2,y1] at m1 m2
     refine⟨hs1,m1,?_⟩
     rw[m2,e3]
     have b1:=nO (c:=c) (D:=D) hS hv (M:=1073741824) (ws zQ.1 zQ.2) hDb y.ya
     have b2:=nO (c:=c) (D:=fun _=>0) hS hv (M:=0) (ws zQ.1 zQ.2) (fun _ _=>by omega) y.ya
     have b3:=hDb y hy
     unfold route at y4
     rw[xS]
     ·exact y4
     ·unfold iM l9 at y4;omega
    rcases List.mem_append.1 hx with hx | hx
    ·exact Do BE hx
    ·exact Do Cz hx
  ·rw[if_pos (by simpa using he)]
end Go.Proofs.YthjnhebofpebpaaGreat

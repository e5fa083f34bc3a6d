/- A part of this claim's proof: models of functions, walks, plain laws. No conditions. -/
import Derived.Test.YtcahmabkeaijdaaGreatPHe
import Derived.Test.YtcahmabkeaijdaaGreatWBoundHolds
set_option linter.all false
namespace Go.Proofs.YtcahmabkeaijdaaGreat
open Go Go.RowKit Sep
theorem FF:uj=some true:=by kernel_rfl
def nT(v n:Int):yI:=⟨v,n⟩
theorem MZ{x:yM×Int}{k:List (yI×Int)->Option Bool}(hl:x.1.yv.length<=1000000)(hu:∀ a∈x.1.yv,∀ b∈x.1.yv,a.yq=b.yq->a.ya=b.ya->a=b):∀(n:Nat) (i:Int) (mp:List (yI×Int)),0<=i->i<=x.1.yv.length->x.1.yv.length<n+i->(∀ e∈x.1.yv.take i.toNat,wK mp (nT e.yq e.ya)=true/\xC mp (nT e.yq e.ya) 0=e.yl)->
  ∃ Bl,ki x k n i mp=k Bl/\∀ e∈x.1.yv,wK Bl (nT e.yq e.ya)=true/\xC Bl (nT e.yq e.ya) 0=e.yl
 | 0,i,mp,h0,h1,h2,h3=>by omega
 | n+1,i,mp,h0,h1,h2,h3=>by
  rw[ki]
  by_cases h:i<x.1.yv.length
  ·rw[if_pos (decide_eq_true h),xJ ⟨h0,h⟩,xQ (x:=i+1) (by omega)]
   refine MZ hl hu n (i+1) _ (by omega) (by omega) (by omega) fun e he=>?_
   rw[show(i+1).toNat=i.toNat+1 by omega,List.take_succ_eq_append_getElem (by omega),<- jY ⟨h0,h⟩] at he
   have hm:=wn (l:=x.1.yv) h0 h
   rw[cX,jh]
   by_cases q:nT e.yq e.ya=⟨(nth x.1.yv i).yq,(nth x.1.yv i).ya⟩
   ·have zD:e∈x.1.yv:=by
     rcases List.mem_append.1 he with he | he
     ·exact List.mem_of_mem_take he
     ·rw[List.mem_singleton.1 he];exact hm
    unfold nT at q
    injection q with q1 q2
    have:=hu e zD _ hm q1 q2
    subst this
    unfold nT
    simp
   ·rw[if_neg q]
    rcases List.mem_append.1 he with he | he
    ·obtain⟨a,b⟩:=h3 e he
     exact⟨by rw[a];simp,b⟩
    ·rw[List.mem_singleton.1 he] at q;exact absurd rfl q
  ·rw[if_neg (by simpa using h)]
   refine⟨mp,rfl,fun e he=>h3 e ?_⟩
   rwa [List.take_of_length_le (by omega)]
theorem KC{c:Cf}{rs:List (List Hop)}{x:yM×Int}{k:List Sw->Option Bool}(hS:Small c)(hl:x.1.fP.length<=1000000)(hb:∀ b∈x.1.fP,(0<=b.ya/\b.ya<nN c)/\0<=b.fT/\b.fT<=1073741824):∀(n:Nat) (i:Int) (l:List Sw),0<=i->i<=x.1.fP.length->x.1.fP.length<n+i->LG c l->(∀ b∈x.1.fP.take i.toNat,nM c<=b.ya->b.fT<=(nth l (b.ya-nM c)).fT)->
  ∃ l',km x c k n i l=k l'/\LG c l'/\∀ b∈x.1.fP,nM c<=b.ya->b.fT<=(nth l' (b.ya-nM c)).fT
 | 0,i,l,h0,h1,h2,h3,h4=>by omega
 | n+1,i,l,h0,h1,h2,h3,h4=>by
  rw[km]
  by_cases h:i<x.1.fP.length
  ·rw[if_pos (decide_eq_true h)]
   refine wD (P:=fun o=>∃ l',o=k l'/\LG c l'/\∀ b∈x.1.fP,nM c<=b.ya->b.fT<=(nth l' (b.ya-nM c)).fT) fun kk hk=>?_
   obtain⟨⟨n0,n1⟩,s0,s1⟩:=hb _ (wn (l:=x.1.fP) h0 h)
   have hm:=hS.m
   have hsw:=hS.s
   have jy:=h3.len
   rw[xJ ⟨h0,h⟩,xQ (x:=(nth x.1.fP i).ya-((c.fM.length:Nat):Int)) (by unfold nN at n1;omega)]
   have htk:x.1.fP.take (i+1).toNat=x.1.fP.take i.toNat++[nth x.1.fP i]:=by
    rw[show(i+1).toNat=i.toNat+1 by omega,List.take_succ_eq_append_getElem (by omega),<- jY ⟨h0,h⟩]
   by_cases hq:nM c<=(nth x.1.fP i).ya
   ·have Bi:0<=(nth x.1.fP i).ya-nM c/\(nth x.1.fP i).ya-nM c<l.length:=by unfold nN at n1;unfold nM at *;omega
    rw[if_pos (by unfold nM at Bi;simp only[Bool.and_eq_true,decide_eq_true_eq];omega),xJ (by unfold nM at Bi;exact Bi),hk,xQ (x:=i+1) (by omega)]
    have e0:(nth x.1.fP i).ya-((c.fM.length:Nat):Int)=(nth x.1.fP i).ya-nM c:=rfl
    rw[e0]
    generalize xO:(nth x.1.fP i).ya-nM c=K at Bi
    have Hh:∀(q:Int) (y:Sw),nth (l.set K.toNat y) q=if q.toNat=K.toNat then y else nth l q:=by
     intro q y
     unfold nth
     rw[List.getD_eq_getElem?_getD,List.getD_eq_getElem?_getD,List.getElem?_set]
     by_cases e:K.toNat=q.toNat
     ·rw[if_pos e,if_pos (by omega),if_pos e.symm];rfl
     ·rw[if_neg e,if_neg fun x=>e x.symm]
    refine KC (rs:=rs) hS hl hb n (i+1) _ (by omega) (by omega) (by omega) ?_ ?_
    ·have hK:∀ q:Int,q.toNat=K.toNat->nth c.fS q=nth c.fS K:=fun q e=>by unfold nth;rw[e]
     refine⟨by rw[List.length_set];exact jy,fun q=>?_,fun q=>?_,fun q=>?_,fun q hq=>?_⟩
     all_goals rw[Hh]
     ·split
      ·rename_i e;rw[hK q e];exact h3.nm K
      ·exact h3.nm q
     ·split
      ·rename_i e;rw[hK q e];exact h3.nt K
      ·exact h3.nt q
     ·split
      ·rename_i e;rw[hK q e];exact h3.dl K
      ·exact h3.dl q
     ·split
      ·rename_i e;rw[hK q e] at hq;have:=h3.st K hq;simp only;omega
      ·exact h3.st q hq
    ·intro b hbm BJ
     rw[htk] at hbm
     rw[Hh]
     rcases List.mem_append.1 hbm with hbm | hbm
     ·have:=h4 b hbm BJ
      split
      ·rename_i e
       have e2:nth l (b.ya-nM c)=nth l K:=by unfold nth;rw[e]
       rw[e2] at this;simp only;omega
      ·exact this
     ·rw[List.mem_singleton.1 hbm,xO,if_pos rfl];simp only;omega
   ·rw[if_neg (by unfold nM at hq;simp only[Bool.and_eq_true,decide_eq_true_eq];omega),hk,xQ (x:=i+1) (by omega)]
    refine KC (rs:=rs) hS hl hb n (i+1) _ (by omega) (by omega) (by omega) h3 fun b hbm BJ=>?_
    rw[htk] at hbm
    rcases List.mem_append.1 hbm with hbm | hbm
    ·exact h4 b hbm BJ
    ·rw[List.mem_singleton.1 hbm] at BJ;exact absurd BJ hq
  ·rw[if_neg (by simpa using h)]
   refine⟨l,rfl,h3,fun b hbm=>h4 b ?_⟩
   rwa [List.take_of_length_le (by omega)]
theorem KD{a:List Cm×List Cm×Int}{sent:List qT}{mp:List (yI×Int)}{k:Option Bool}(hl:a.1.length<=1000000)(h:∀ x∈a.1,(0<=x.yc/\x.yc<sent.length)/\wK mp (nT (nth sent x.yc).yq x.ya)=true/\i64 (x.yb-(nth sent x.yc).yb)<=xC mp (nT (nth sent x.yc).yq x.ya) 0):∀(n:Nat) (i:Int),0<=i->i<=a.1.length->a.1.length<n+i->kj a sent mp k n i=k/\kn a sent mp k n i=k
 | 0,i,h0,h1,h2=>by omega
 | n+1,i,h0,h1,h2=>by
  rw[kj,kn]
  by_cases hi:i<a.1.length
  ·obtain⟨h3,h4,h5⟩:=h _ (wn h0 hi)
   unfold nT at h4 h5
   have ih:=KD (k:=k) hl h n (i+1) (by omega) (by omega) (by omega)
   rw[if_pos (decide_eq_true hi),if_pos (decide_eq_true hi),xJ ⟨h0,hi⟩,xJ h3,xJ (fun _=>h3),if_neg (by rw[h4];simpa using h5),xJ ⟨h0,hi⟩,xJ h3,if_neg (by simpa using h5),xQ (x:=i+1) (by omega)]
   exact ih
  ·rw[if_neg (by simpa using hi),if_neg (by simpa using hi)]
   exact⟨rfl,rfl⟩
theorem law(c:Cf)(net:Int)(rs:List (List Hop))(wh sz wa:List Int)(Dc:∀ x∈wh,0<=x/\x<=255)(ne:∀ x∈sz,0<=x/\x<=255)(Eh:∀ x∈wa,0<=x/\x<=65535):tQ c net rs wh sz wa=some true:=by
 unfold tQ
 obtain⟨b,hb,hfew⟩:=Sc c rs
 rw[hb,FF]
 simp only[oB]
 cases b with
 | false=>rfl
 | true=>
  have hf:=hfew.1 rfl
  have hS:=hf.small
  obtain⟨x,hx,hC⟩:=Fp (net:=net) hf
  rw[if_neg (by simp),hx]
  simp only[oB]
  by_cases he:x.2=0
  ·rw[if_neg (by simpa using he)]
   cases hC with
   | route _=>cases he
   | vl _ _=>cases he
   | cycle _ _ _ _=>cases he
   | err _ _ _ _ _ _ _ a=>exact absurd he a
   | ok l t hv BH Bu xS hr=>
   have hV:=BH.vls
   obtain⟨St,n4⟩:=SI hS hv hV Bu xS hr
   obtain⟨sent,hs,C0,D5⟩:=FE hV (by have:=hf.v;omega) Dc ne Eh
   rw[hs]
   simp only[oB]
   have g:Sg c net rs sent:=⟨hS,hv,C0⟩
   obtain⟨come,lost,BG,EZ,_⟩:=KB g hV D5 Bu xS (fun p hp=>(n4 p hp).2.1) (fun p hp=>(n4 p hp).2.2.1) (LG.refl c)
   rw[MX] at BG
   rw[BG]
   simp only[oB]
   rw[if_neg (by simp)]
   have o1:t.out.map fG=l:=by rw[(XF l w0 t hr).1];rfl
   have Bm:(t.out.map fG).Nodup:=by rw[o1];exact Bu.nodup_iff.2 (cY rs)
   have sp:=kF qh t.out
   generalize hps:wH qh t.out=ps at sp
   have hnd2:(ps.map fG).Nodup:=(sp.map fG).nodup_iff.2 Bm
   have DU:ps.length<=1000000:=by
    have a1:=sp.length_eq;have a2:=Bu.length_eq;have a3:=JF hf.e
    have a4:rs.length*40<=20*40:=Nat.mul_le_mul_right _ hf.r
    have a5:t.out.length=l.length:=by rw[<- o1,List.length_map]
    omega
   have hF2:=wq
   generalize xR=N at hF2 ⊢
   have Dp:=Ss (c:=c) (ps:=ps) hf.r hf.e
   refine wD (P:=fun o=>o=some true) fun k4 Hb=>?_
   obtain⟨mp,e4,hmp⟩:=MZ (x:=(⟨ps,EN c rs ps⟩,0)) (k:=k4) Dp (fun a ha b hb=>TS ha hb) N 0 [] (by omega) (by omega) (by simp only;omega) (by simp)
   rw[e4,Hb]
   have Dd:∀ {a b:List Cm},RG c rs sent (Db t) a b->∀ x∈a,(0<=x.yc/\x.yc<sent.length)/\wK mp (nT (nth sent x.yc).yq x.ya)=true/\i64 (x.yb-(nth sent x.yc).yb)<=xC mp (nT (nth sent x.yc).yq x.ya) 0:=by
    intro a b hg x As
    obtain⟨hs1,ht1,y,hy,y1,y2,y3,y4⟩:=hg.cm x As
    have Ah:=g.vl hs1
    have hm:∀ h∈route rs sent x.yc,pk h∈PS rs:=fun h hh=>(o9 rs _).2 ⟨_,wn Ah.1 Ah.2,h,hh,rfl⟩
    have Bt:∀ h∈route rs sent x.yc,xC (ew ps) (pk h) 0=Db t (pk h):=fun h hh=>by
     obtain⟨_,_,_,b,hb,b1,b2,_⟩:=n4 _ (hm h hh)
     rw[<- b1,Kj hnd2 (sp.symm.subset hb),b2,b1]
    have hDb:∀ h∈route rs sent x.yc,-1073741824<=Db t (pk h)/\Db t (pk h)<=1073741824:=fun h hh=>by
     have h1:=(n4 _ (hm h hh)).1
     have h2:=WK hS hv (hm h hh)
     omega
    obtain⟨e,he,e1,e2,e3⟩:=SH hS hv Ah.1 Ah.2 Bt hDb hy y2 y3
    obtain⟨m1,m2⟩:=hmp e (Kk.2 ⟨_,Ah.1,Ah.2,he⟩)
    rw[e1,e2,y1] at m1 m2
    refine⟨hs1,m1,?_⟩
    rw[m2,e3]
    have b1:=QX (c:=c) (D:=Db t) hS hv (M:=1073741824) (by omega) (wn Ah.1 Ah.2) hDb y.ya
    have b2:=QX (c:=c) (D:=fun _=>0) hS hv (M:=0) (by omega) (wn Ah.1 Ah.2) (fun _ _=>by omega) y.ya
    have b3:=hDb y hy
    unfold route at y4
    rw[xQ]
    ·exact y4
    ·unfold iI lh at y4;omega
   refine fy (P:=fun o=>o=some true) fun k6 hk6=>?_
   have hln1:=EZ.len
   rw[(KD (k:=k6) (by simp only;omega) (Dd EZ) N 0 (by omega) (by omega) (by simp only;omega)).1,hk6,xJ (by simp only[List.nil_append];have:=hS.s;omega)]
   refine wD (P:=fun o=>o=some true) fun k5 hk5=>?_
   have hpb:∀ b∈ps,(0<=b.ya/\b.ya<nN c)/\(0<=b.fT/\b.fT<=1073741824)/\b.fT=St (fG b):=by
    intro b hb
    have DA:=sp.subset hb
    have hm:fG b∈PS rs:=Bu.subset (by rw[<- o1];exact List.mem_map.2 ⟨b,DA,rfl⟩)
    obtain⟨r,hr,y,hy,E6,hyv⟩:=MF hS hv hm
    have e6:b.ya=y.ya:=by have:=congrArg z7.ya E6;exact this.symm
    obtain⟨_,_,_,b',hb',b1,_,b3,b4⟩:=n4 _ hm
    have:=MY Bm b' hb' b DA b1
    subst this
    exact⟨by rw[e6];exact⟨hyv.n0,hyv.n1⟩,by rw[b3];exact b4,b3⟩
   obtain⟨l',e5,hL,hst2⟩:=KC (rs:=rs) (c:=c) (x:=(⟨ps,EN c rs ps⟩,0)) (k:=k5) hS DU (fun b hb=>⟨(hpb b hb).1,(hpb b hb).2.1⟩) N 0 c.fS (by omega) (by omega) (by simp only;omega) (LG.refl c) (by simp)
   rw[List.nil_append,e5,hk5]
   obtain⟨come2,Hi,CY,hg2,w5⟩:=KB g hV D5 Bu xS (fun p hp=>(n4 p hp).2.1) (fun p hp=>(n4 p hp).2.2.1) hL
   rw[show(⟨c.fM,c.yf,l',c.fK,c.yg,c.fH,c.fU,c.ye⟩:Cf)=kS c l' from rfl,CY]
   simp only[oB]
   have hno2:Hi=[]:=w5 fun p hp=>by
    obtain⟨_,_,_,b,hb,b1,_,b3,b4⟩:=n4 p hp
    show St p<=if nM c<=p.ya then(sw (kS c l') p.ya).fT else 1073741824
    split
    ·rename_i hn
     have e7:b.ya=p.ya:=congrArg z7.ya b1
     have:=hst2 b (sp.symm.subset hb) (by rw[e7];exact hn)
     rw[b3,e7] at this
     exact this
    ·exact b4.2
   subst hno2
   rw[if_neg (by simp)]
   have hln2:=hg2.len
   refine fy (P:=fun o=>o=some true) fun k8 hk8=>?_
   rw[(KD (k:=k8) (by simp only;omega) (Dd hg2) N 0 (by omega) (by omega) (by simp only;omega)).2,hk8]
  ·rw[if_pos (by simpa using he)]
end Go.Proofs.YtcahmabkeaijdaaGreat

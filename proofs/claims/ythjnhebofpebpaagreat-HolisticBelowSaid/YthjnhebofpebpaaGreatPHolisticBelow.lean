/- A part of this claim's proof: models of functions, walks, plain laws. No conditions. -/
import Derived.Test.YthjnhebofpebpaaGreatP36e
import Derived.Test.YthjnhebofpebpaaGreatWHolisticBelow
set_option linter.all false
namespace Go.Proofs.YthjnhebofpebpaaGreat
open Go Go.RowKit Sep
theorem yjZ:y64=some true:=by kernel_rfl
/-! ### the ends of two computations stand side by side -/
theorem insE{x1 x2:zj}(hx:x1.fNode=x2.fNode):∀ {l1 l2:List zj},l1.map (·.fNode)=l2.map (·.fNode)->(y67 y1g x1 l1).map (·.fNode)=(y67 y1g x2 l2).map (·.fNode)
 | [],[],_=>by simp[y67,hx]
 | [],y::l2,h=>by simp at h
 | y::l1,[],h=>by simp at h
 | y1::l1,y2::l2,h=>by
  simp only[List.map_cons,List.cons.injEq] at h
  have e:cby y1g x1 y1=cby y1g x2 y2:=by unfold cby y1g;rw[hx,h.1]
  unfold y67
  rw[e]
  split
  ·simp only[List.map_cons,hx,h.1,h.2]
  ·simp only[List.map_cons,h.1,insE hx h.2]
theorem sortE:∀ {l1 l2:List zj},l1.map (·.fNode)=l2.map (·.fNode)->(yK y1g l1).map (·.fNode)=(yK y1g l2).map (·.fNode)
 | [],[],_=>rfl
 | [],y::l2,h=>by simp at h
 | y::l1,[],h=>by simp at h
 | y1::l1,y2::l2,h=>by
  simp only[List.map_cons,List.cons.injEq] at h
  exact insE h.1 (sortE h.2)
theorem estE{c:Cf}{r:List Hop}{v:Int}{d1 d2:DM}:∀(hs:List Hop) {s1 s2:ES},(∀ k,y2A s1.sum k=y2A s2.sum k)->s1.ends.map (·.fNode)=s2.ends.map (·.fNode)->(hs.foldl (est c r d1 v) s1).ends.map (·.fNode)=(hs.foldl (est c r d2 v) s2).ends.map (·.fNode)
 | [],s1,s2,_,h=>h
 | h::hs,s1,s2,h1,h2=>by
  rw[List.foldl_cons,List.foldl_cons]
  refine estE hs (fun k=>?_) ?_
  ·unfold est;rw[h1 h.fNext]
   split
   ·exact h1 k
   ·show y2A (yC _ _ _) k=y2A (yC _ _ _) k
    rw[y8x,y8x,h1 k]
  ·unfold est;rw[h1 h.fNext]
   split
   ·exact h2
   ·simp only
    split
    ·simp only[List.map_append,h2,List.map_cons,List.map_nil]
    ·exact h2
theorem EN_map{c:Cf}{rs:List (List Hop)}{p1 p2:List PB}:(EN c rs p1).map (fun x=>(x.fVL,x.fNode))=(EN c rs p2).map (fun x=>(x.fVL,x.fNode)):=by
 have key:∀(ps:List PB) (v:Int),(yK y1g (VE c rs (dem ps) v)).map (fun x=>(x.fVL,x.fNode))=((yK y1g (VE c rs (dem ps) v)).map (·.fNode)).map fun n=>(v,n):=by
  intro ps v
  rw[List.map_map]
  refine List.map_congr_left fun x hx=>?_
  have hx:=(y2C _ _).subset hx
  have:=((yfT c rs (dem ps) v).vl x hx).1
  show(x.fVL,x.fNode)=(v,x.fNode)
  rw[this]
 unfold EN
 rw[List.map_flatMap,List.map_flatMap]
 congr 1
 funext v
 rw[key,key,sortE]
 exact estE _ (fun _=>rfl) rfl
/-! ### the tests -/
theorem below3{a b:S39×Int}{k:Option Bool}(hl:a.1.fP.length=b.1.fP.length)(hb:a.1.fP.length<=1000000)(h:∀ i:Int,0<=i->i<a.1.fP.length->pbk (nth a.1.fP i)=pbk (nth b.1.fP i)/\(nth a.1.fP i).fDelay<=(nth b.1.fP i).fDelay/\(nth a.1.fP i).fT<=(nth b.1.fP i).fT):∀(n:Nat) (i:Int),0<=i->i<=a.1.fP.length->a.1.fP.length<n+i->y2r a b k n i=k
 | 0,i,h0,h1,h2=>by omega
 | n+1,i,h0,h1,h2=>by
  rw[y2r]
  by_cases hi:i<a.1.fP.length
  ·rw[if_pos (decide_eq_true hi),yt ⟨h0,hi⟩,yt ⟨h0,by omega⟩,yz (x:=i+1) (by omega),below3 hl hb h n (i+1) (by omega) (by omega) (by omega),if_neg]
   obtain⟨e,h3,h4⟩:=h i h0 hi
   have e1:(nth a.1.fP i).fNode=(nth b.1.fP i).fNode:=congrArg z8.fNode e
   have e2:(nth a.1.fP i).fQ=(nth b.1.fP i).fQ:=congrArg z8.fQ e
   intro hc
   simp only[Bool.or_eq_true,decide_eq_true_eq] at hc
   omega
  ·rw[if_neg (by simpa using hi)]
theorem below4{a b:S39×Int}{k:Option Bool}(hl:a.1.fEnds.length=b.1.fEnds.length)(hb:a.1.fEnds.length<=1000000)(h:∀ i:Int,0<=i->i<a.1.fEnds.length->(nth a.1.fEnds i).fVL=(nth b.1.fEnds i).fVL/\(nth a.1.fEnds i).fNode=(nth b.1.fEnds i).fNode/\(nth a.1.fEnds i).fDelay<=(nth b.1.fEnds i).fDelay):∀(n:Nat) (i:Int),0<=i->i<=a.1.fEnds.length->a.1.fEnds.length<n+i->y2s a b k n i=k
 | 0,i,h0,h1,h2=>by omega
 | n+1,i,h0,h1,h2=>by
  rw[y2s]
  by_cases hi:i<a.1.fEnds.length
  ·rw[if_pos (decide_eq_true hi),yt ⟨h0,hi⟩,yt ⟨h0,by omega⟩,yz (x:=i+1) (by omega),below4 hl hb h n (i+1) (by omega) (by omega) (by omega),if_neg]
   obtain⟨e,h3,h4⟩:=h i h0 hi
   intro hc
   simp only[Bool.or_eq_true,decide_eq_true_eq] at hc
   omega
  ·rw[if_neg (by simpa using hi)]
theorem yer{α β:Type}[Inhabited α][Inhabited β]{f:α->β}{l:List α}{i:Int}(h0:0<=i)(h1:i<l.length):nth (l.map f) i=f (nth l i):=by
 rw[y87 ⟨h0,by rw[List.length_map];exact h1⟩,List.getElem_map,<- y87 ⟨h0,h1⟩]
theorem law(c:Cf)(net:Int)(rs:List (List Hop)):y5q c net rs=some true:=by
 unfold y5q
 rw[yjZ]
 obtain⟨b1,q1,q2⟩:=Few_eq c rs
 rw[q1,oB]
 cases b1 with
 | false=>rfl
 | true=>
 have hf:=q2.1 rfl
 rw[if_neg (by simp)]
 obtain⟨x,x1,x2⟩:=HC_eq (net:=net) hf
 obtain⟨y,y1,y2⟩:=yfU (net:=net) hf
 rw[x1,oB,y1,oB]
 by_cases hx:x.2=0
 ·by_cases hy:y.2=0
  ·have hS:=hf.small
   obtain⟨hv,hvo,D,ps,l0,hlp0,hlo0,hF,hO,rfl⟩:=HC_ok hS x2 hx
   have hV:=hvo.vls
   rw[if_neg (by simp[hy])]
   cases y2 with
   | route _=>cases hy
   | vl _ _=>cases hy
   | cycle _ _ _ _=>cases hy
   | err _ _ _ _ _ _ _ a=>exact absurd hy a
   | ok l t _ _ hlp hlo hr=>
    have hr20:=hf.r
    -- the delays are below
    have hle:∀(n:Nat) (l1 l2:List Pl),l1.length=n->l=l1++l2->∀ q∈l1,D q<=Db t q:=by
     intro n
     induction n with
     | zero=>intro l1 l2 h _ q hq;rw[List.length_eq_zero_iff.1 h] at hq;cases hq
     | succ n ih=>
      intro l1 l2 h e q hq
      have hne:l1≠[]:=by rintro rfl;cases h
      have e0:=List.dropLast_concat_getLast hne
      generalize l1.dropLast=l0' at e0
      generalize l1.getLast hne=p at e0
      subst e0
      have hl0:l0'.length=n:=by rw[List.length_append,List.length_singleton] at h;omega
      have e1:l=l0'++p::l2:=by rw[e];simp
      have ih':=ih l0' (p::l2) hl0 e1
      rcases List.mem_append.1 hq with hq | hq
      ·exact ih' q hq
      ·rw[List.mem_singleton.1 hq]
       have hpm:p∈PS rs:=hlp.subset (by rw[e1];simp)
       obtain⟨b,hb,b1,b2,b3⟩:=yhb hS hv hV hlp hlo hr e1 ih'
       obtain⟨s1,s2⟩:=ybd hS hv hpm
       have h0:=(b3 0 (by omega)).1
       have hA0:=(ydR hS hV (hF.ok hS hv p) (t:=0) (by omega) (by omega)).1
       have hm0:0<=slw c p.fQ*Arr c (fws c rs D p) 0:=Int.mul_nonneg (by omega) hA0
       rw[hF.d p hpm]
       refine ydT ?_ fun t t0 t1=>(b3 t t0).1
       unfold y9E at h0;omega
    have hall:∀ q∈PS rs,D q<=Db t q:=fun q hq=>hle l.length l [] rfl (by simp) q (hlp.symm.subset hq)
    have hstore:∀ p∈PS rs,∃ b∈t.out,pbk b=p/\D p<=b.fDelay/\(pbH c rs D p).fT<=b.fT/\b.fDelay=Db t p:=by
     intro p hp
     obtain⟨l1,l2,e⟩:=List.append_of_mem (hlp.symm.subset hp)
     obtain⟨b,hb,b1,b2,b3⟩:=yhb (D:=D) hS hv hV hlp hlo hr e (fun q hq=>hall q (hlp.subset (by rw[e];simp[hq])))
     refine⟨b,hb,b1,by rw[b2];exact hall p hp,?_,b2⟩
     show mxf _ _+y77 c (fws c rs D p)<=_
     have hs0:=(b3 0 (by omega)).2
     have hA0:=(ydR hS hV (hF.ok hS hv p) (t:=0) (by omega) (by omega)).1
     obtain⟨s1,s2⟩:=ybd hS hv hp
     have:mxf (y9F (Arr c (fws c rs D p)) (slw c p.fQ) (y20 c p.fNode)) (BZ (Arr c (fws c rs D p)) (slw c p.fQ)+y20 c p.fNode).toNat<=b.fT-y77 c (fws c rs D p):=by
      refine ydT ?_ fun t t0 t1=>by have:=(b3 t t0).2;omega
      unfold y9F at hs0
      have hz:(max (0-y20 c p.fNode) 0+slw c p.fQ-1) / slw c p.fQ=0:=by
       rw[show max (0-y20 c p.fNode) 0+slw c p.fQ-1=slw c p.fQ-1 by omega]
       exact Int.ediv_eq_zero_of_lt (by omega) (by omega)
      rw[hz] at hs0;omega
     omega
    -- side by side
    have hrl:=hv.len
    have o1:=(yfc l w0 t hr).1
    have o1:t.out.map pbk=l:=by rw[o1];rfl
    have sp:=y2C yH t.out
    have hps:=yc2 hf.e
    have h3:rs.length*40<=20*40:=Nat.mul_le_mul_right _ hr20
    have hnd:(t.out.map pbk).Nodup:=by rw[o1];exact hlp.nodup_iff.2 (y5x rs)
    have htl:t.out.length<=1000000:=by
     have a1:=hlp.length_eq
     have a2:t.out.length=l.length:=by rw[<- o1,List.length_map]
     omega
    have hpp:((yK yH t.out).map pbk).Perm (PS rs):=(sp.map pbk).trans (by rw[o1];exact hlp)
    have hbm:(yK yH t.out).map pbk=PS rs:=by
     refine ydU hpp (hpp.nodup_iff.2 (y5x rs)) ?_ (yh9 (fun r hr=>by have:=hf.e r hr;omega) (by omega))
     rw[List.pairwise_map]
     exact(yh2 hnd htl).2
    have hplen:ps.length=(yK yH t.out).length:=by
     have a1:=congrArg List.length hbm;have a2:=congrArg List.length hO.1
     rw[List.length_map] at a1 a2;omega
    have hem:=EN_map (c:=c) (rs:=rs) (p1:=ps) (p2:=yK yH t.out)
    have helen:(EN c rs ps).length=(EN c rs (yK yH t.out)).length:=by
     have:=congrArg List.length hem;rwa [List.length_map,List.length_map] at this
    have hbp:=hO.len hr20 hf.e
    have hbe:=EN_len (c:=c) (ps:=ps) hr20 hf.e
    rw[if_neg (by simp only[Bool.or_eq_true,decide_eq_true_eq];omega)]
    refine y5D (P:=fun o=>o=some true) fun k hk=>?_
    rw[below3 (a:=(⟨ps,EN c rs ps⟩,0)) (b:=(⟨yK yH t.out,EN c rs (yK yH t.out)⟩,0)) hplen hbp (fun i i0 i1=>?_) yy 0 (by omega) (by omega) (by rw[yV];show((ps.length:Nat):Int)<_;omega),hk]
    ·refine y5D (P:=fun o=>o=some true) fun k2 hk2=>?_
     rw[below4 (a:=(⟨ps,EN c rs ps⟩,0)) (b:=(⟨yK yH t.out,EN c rs (yK yH t.out)⟩,0)) helen hbe (fun i i0 i1=>?_) yy 0 (by omega) (by omega) (by rw[yV];show(((EN c rs ps).length:Nat):Int)<_;omega),hk2]
     ·rfl
     ·-- an end
      have i1:i<(EN c rs ps).length:=i1
      have e1:=yer (f:=fun x:zj=>(x.fVL,x.fNode)) (l:=EN c rs ps) i0 i1
      have e2:=yer (f:=fun x:zj=>(x.fVL,x.fNode)) (l:=EN c rs (yK yH t.out)) i0 (by omega)
      rw[hem,e2] at e1
      injection e1 with e3 e4
      have hx:=yO (l:=EN c rs ps) i0 i1
      have hy2:=yO (l:=EN c rs (yK yH t.out)) i0 (by omega)
      refine⟨e3.symm,e4.symm,?_⟩
      obtain⟨v,v0,v1,hxv⟩:=yg7.1 hx
      have hrv:=hv.each _ (yO (l:=rs) v0 v1)
      obtain⟨z,hz,f1,f2,f3⟩:=VE_lessH (c:=c) (d:=c) (rs:=rs) (rs':=rs) rfl v0 v1 (.inl rfl) (by have:=hrv.len;omega) (de2:=dem ps) (de1:=dem (yK yH t.out)) (fun h hh=>by
       have hm:pk h∈PS rs:=(y7N rs _).2 ⟨_,yO v0 v1,h,hh,rfl⟩
       rw[hO.dem hF hm]
       have a1:=hF.r _ hm
       have a2:=ybd hS hv hm
       obtain⟨b,hb,b1,b2,_,b4⟩:=hstore _ hm
       have a3:=ycQ (by rw[hbm];exact y5x rs) (sp.symm.subset hb)
       rw[b1] at a3
       have a4:b.fDelay<=1073741824:=by
        obtain⟨l1,l2,e⟩:=List.append_of_mem (hlp.symm.subset hm)
        obtain⟨s,hs⟩:=yeo (hlp.nodup_iff.2 (y5x rs)) hr e
        obtain⟨_,f2,_⟩:=ydM hs.e hs.we
        rw[b4]
        unfold Db
        rw[<- hs.dp]
        show yd (yC s.de _ (flr (DL (CU c rs s.bu s.de s.e (pk h)).1 (srv c (pk h))).1)) _ 0<=_
        rw[y1u,if_pos rfl,hs.e]
        exact(yjw (DL_0 f2).2.1).2
       rw[a3];omega) _ hxv
      have:nth (EN c rs (yK yH t.out)) i=z:=EN_uniq hy2 (yg7.2 ⟨v,v0,v1,hz⟩) (by rw[e3,f1]) (by rw[e4,f2])
      rw[this];exact f3
    ·-- a port
     have i1:i<ps.length:=i1
     have e1:=yer (f:=pbk) (l:=ps) i0 i1
     have e2:=yer (f:=pbk) (l:=yK yH t.out) i0 (by omega)
     rw[hO.1] at e1
     rw[hbm] at e2
     refine⟨e1.symm.trans e2,?_⟩
     have hx:=yO (l:=ps) i0 i1
     have hy2:=sp.subset (yO (l:=yK yH t.out) i0 (by omega))
     have hxm:pbk (nth ps i)∈PS rs:=by rw[<- hO.1];exact List.mem_map.2 ⟨_,hx,rfl⟩
     obtain⟨b,hb,b1,b2,b3,_⟩:=hstore _ hxm
     have hbe2:nth (yK yH t.out) i=b:=by
      have a1:=ycQ hnd hy2
      obtain⟨j,hj,ej⟩:=List.getElem_of_mem hy2
      obtain⟨j',hj',ej'⟩:=List.getElem_of_mem hb
      have a2:(t.out.map pbk)[j]'(by simpa using hj)=(t.out.map pbk)[j']'(by simpa using hj'):=by
       simp only[List.getElem_map,ej,ej',b1]
       rw[<- e2,e1]
      have:=(List.getElem_inj (h₀:=by simpa using hj) (h₁:=by simpa using hj') hnd).1 a2
      subst this
      rw[<- ej,<- ej']
     show(nth ps i).fDelay<=(nth (yK yH t.out) i).fDelay/\(nth ps i).fT<=(nth (yK yH t.out) i).fT
     rw[hbe2]
     have e5:=hO.2 _ hx
     refine⟨?_,by rw[e5];exact b3⟩
     have:=hF.d _ hxm
     rw[e5,<- this];exact b2
  ·rw[if_pos (by simp[hy])];rfl
 ·rw[if_pos (by simp[hx])];rfl
end Go.Proofs.YthjnhebofpebpaaGreat

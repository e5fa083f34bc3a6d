/- A part of this claim's proof: models of functions, walks, plain laws. No conditions. -/
import Derived.Test.YthjnhebofpebpaaGreatP35g
import Derived.Test.YthjnhebofpebpaaGreatWHolisticLess
set_option linter.all false
namespace Go.Proofs.YthjnhebofpebpaaGreat
open Go Go.RowKit Sep
theorem yim:y61=some true:=by kernel_rfl
/-! ### other virtual links -/
structure SN (c d:Cf):Prop where
 m:d.fM=c.fM
 s:d.fS=c.fS
 l:d.fK=c.fK
theorem SN.find{c d:Cf}(h:SN c d)(nm:ByteArray):y2i d nm=y2i c nm:=by
 have h1:∀ i,y4z d i=y4z c i:=fun i=>by
  unfold y4z y4a;rw[h.m,h.s]
 have h2:∀(k:Option Int) (x:Int) (n:Nat) (v:Int),y1W x d nm k n v=y1W x c nm k n v:=by
  intro k x n
  induction n with
  | zero=>intro v;rfl
  | succ n ih=>intro v;rw[y1W,y1W,h1];simp only[ih]
 unfold y2i y4a
 rw[h.m,h.s]
 simp only[oB]
 unfold jp0
 exact h2 _ _ _ _
theorem SN.vr{c d:Cf}(h:SN c d){net:Int}{r:List Hop}(hv:VR c net r):VR d net r:=by
 refine⟨hv.len,fun v h0 h1=>?_⟩
 have hc:=hv.cond v h0 h1
 unfold yb1 JN y9u sw nM fA fB at hc ⊢
 simp only[h.find,h.m,h.s,h.l]
 exact hc
theorem ygY{α:Type}[Inhabited α]{l:List α}{q i:Int}{u:α}(hq:0≤q)(h0:0≤i)(h1:i<l.length):nth (l.set q.toNat u) i=if i=q then u else nth l i:=by
 rw[y83 ⟨h0,by rw[List.length_set];exact h1⟩,y83 ⟨h0,h1⟩,List.getElem_set]
 by_cases e:i=q
 ·rw[if_pos (by omega),if_pos e]
 ·rw[if_neg (by omega),if_neg e]
abbrev cv(c:Cf)(vls:List zh):Cf:=⟨c.fM,c.fC0,c.fS,c.fK,vls,c.fH,c.fU,c.fV0⟩
/-! ### the tests -/
structure NOP (y:PB) (b:List PB):Prop where
 h:∀ q∈b,y.fNode=q.fNode→y.fQ=q.fQ→y.fDelay≤q.fDelay∧y.fT≤q.fT
structure NOE (y:zn) (b:List zn):Prop where
 h:∀ q∈b,y.fVL=q.fVL→y.fNode=q.fNode→y.fDelay≤q.fDelay
theorem less8{b y:S39×Int}{v:Int}{k:Option Bool}(hb:b.1.fP.length≤1000000)(h:NOP (nth y.1.fP v) b.1.fP):∀(n:Nat) (i:Int),0≤i→i≤b.1.fP.length→b.1.fP.length<n+i→y2D b y v k n i=k
 | 0,i,h0,h1,h2=>by omega
 | n+1,i,h0,h1,h2=>by
  rw[y2D]
  by_cases hi:i<b.1.fP.length
  ·rw[if_pos (decide_eq_true hi),yt ⟨h0,hi⟩,yz (x:=i+1) (by omega),less8 hb h n (i+1) (by omega) (by omega) (by omega),if_neg]
   intro hc
   simp only[Bool.and_eq_true,Bool.or_eq_true,decide_eq_true_eq] at hc
   have:=h.h _ (yX h0 hi) hc.1.1 hc.1.2
   omega
  ·rw[if_neg (by simpa using hi)]
theorem less7{b y:S39×Int}{k:Option Bool}(hy:y.1.fP.length≤1000000)(hb:b.1.fP.length≤1000000)(h:∀ x∈y.1.fP,NOP x b.1.fP):∀(n:Nat) (i:Int),0≤i→i≤y.1.fP.length→y.1.fP.length<n+i→y2E y b k n i=k
 | 0,i,h0,h1,h2=>by omega
 | n+1,i,h0,h1,h2=>by
  rw[y2E]
  by_cases hi:i<y.1.fP.length
  ·rw[if_pos (decide_eq_true hi),yz (x:=i+1) (by omega),less7 hy hb h n (i+1) (by omega) (by omega) (by omega)]
   refine y42 (P:=fun o=>o=k) fun k1 hk1=>?_
   rw[yt ⟨h0,hi⟩]
   refine y42 (P:=fun o=>o=k) fun k2 hk2=>?_
   rw[less8 hb (h _ (yX h0 hi)) yx 0 (by omega) (by omega) (by rw[yR];omega),hk2,hk1]
  ·rw[if_neg (by simpa using hi)]
theorem less10{b y:S39×Int}{v:Int}{k:Option Bool}(hb:b.1.fEnds.length≤1000000)(h:NOE (nth y.1.fEnds v) b.1.fEnds):∀(n:Nat) (i:Int),0≤i→i≤b.1.fEnds.length→b.1.fEnds.length<n+i→y2s b y v k n i=k
 | 0,i,h0,h1,h2=>by omega
 | n+1,i,h0,h1,h2=>by
  rw[y2s]
  by_cases hi:i<b.1.fEnds.length
  ·rw[if_pos (decide_eq_true hi),yt ⟨h0,hi⟩,yz (x:=i+1) (by omega),less10 hb h n (i+1) (by omega) (by omega) (by omega),if_neg]
   intro hc
   simp only[Bool.and_eq_true,decide_eq_true_eq] at hc
   have:=h.h _ (yX h0 hi) hc.1.1 hc.1.2
   omega
  ·rw[if_neg (by simpa using hi)]
theorem less9{b y:S39×Int}{k:Option Bool}(hy:y.1.fEnds.length≤1000000)(hb:b.1.fEnds.length≤1000000)(h:∀ x∈y.1.fEnds,NOE x b.1.fEnds):∀(n:Nat) (i:Int),0≤i→i≤y.1.fEnds.length→y.1.fEnds.length<n+i→y2F y b k n i=k
 | 0,i,h0,h1,h2=>by omega
 | n+1,i,h0,h1,h2=>by
  rw[y2F]
  by_cases hi:i<y.1.fEnds.length
  ·rw[if_pos (decide_eq_true hi),yz (x:=i+1) (by omega),less9 hy hb h n (i+1) (by omega) (by omega) (by omega)]
   refine y42 (P:=fun o=>o=k) fun k1 hk1=>?_
   rw[yt ⟨h0,hi⟩]
   refine y42 (P:=fun o=>o=k) fun k2 hk2=>?_
   rw[less10 hb (h _ (yX h0 hi)) yx 0 (by omega) (by omega) (by rw[yR];omega),hk2,hk1]
  ·rw[if_neg (by simpa using hi)]
theorem law(c:Cf)(net:Int)(rs:List (List Hop))(which less:Int)(hw:0≤which∧which≤255)(hy:0≤less∧less≤255):y5H c net rs which less=some true:=by
 unfold y5H
 rw[yim]
 obtain⟨b1,q1,q2⟩:=Few_eq c rs
 rw[q1,oB]
 cases b1 with
 | false=>rfl
 | true=>
 have hf:=q2.1 rfl
 by_cases hz0:c.fVLs.length=0
 ·rw[if_pos (by simp[hz0])];rfl
 rw[if_neg (by simp[hz0])]
 obtain⟨x,x1,x2⟩:=HC_eq (net:=net) hf
 rw[x1,oB]
 by_cases hx:x.2≠0
 ·rw[if_pos (by simpa using hx)];rfl
 rw[if_neg (by simpa using hx)]
 have hS:=hf.small
 obtain⟨hv,hvo,D,ps,l,hlp,hlo,hF,hO,rfl⟩:=HC_ok hS x2 (by simpa using hx)
 have hfv:=hf.v
 have hrl:=hv.len
 have hr20:=hf.r
 rw[yt (by omega),yt (by simp;omega)]
 simp only[List.nil_append]
 have hk:0≤Int.tmod (i64 which) ((c.fVLs.length:Nat):Int)∧Int.tmod (i64 which) ((c.fVLs.length:Nat):Int)<((c.fVLs.length:Nat):Int):=by
  rw[yz (x:=which) (by omega),Int.tmod_eq_emod_of_nonneg hw.1]
  exact⟨Int.emod_nonneg _ (by omega),Int.emod_lt_of_pos _ (by omega)⟩
 rw[yt hk,yt (by omega),yt (by omega)]
 refine y42 (P:=fun o=>o=some true) fun k0 hk0=>?_
 have hk0:k0=some true:=hk0
 have hbp:=hO.len hr20 hf.e
 have hbe:=EN_len (c:=c) (ps:=ps) hr20 hf.e
 -- each of the two
 have key:∀(vls:List zh) (rs':List (List Hop)),VOK (cv c vls)→vls.length=c.fVLs.length→(∀ i:Int,0≤i→i<c.fVLs.length→(nth vls i).fMax≤(nth c.fVLs i).fMax∧(nth vls i).fBag=(nth c.fVLs i).fBag)→rs'.length=rs.length→(∀ v:Int,0≤v→v<rs.length→nth rs' v=nth rs v∨nth rs' v=[])→
   ∃ y:S39,y2h (cv c vls) net rs'=some (y,0)∧y.fP.length≤1000000∧y.fEnds.length≤1000000∧(∀ x∈y.fP,NOP x ps)∧∀ x∈y.fEnds,NOE x (EN c rs ps):=by
  intro vls rs' hvo' hvl hle hlen hrt
  have hL:LH c (cv c vls) rs rs':=⟨rfl,rfl,rfl,hvo.vls,hvo'.vls,hlen,hrt,fun v v0 v1=>(hle v v0 (by omega)).1,fun v v0 v1=>(hle v v0 (by omega)).2⟩
  have hin:∀ r∈rs',r∈rs∨r=[]:=fun r hr=>by
   obtain⟨i,i0,i1,rfl⟩:=y5L hr
   rcases hrt i i0 (by omega) with e | e
   ·rw[e];exact .inl (yX i0 (by omega))
   ·exact .inr e
  have hf':FewP (cv c vls) rs':=⟨hf.m,hf.s,hf.l,by show vls.length≤20;rw[hvl];exact hf.v,by rw[hlen];exact hf.r,fun r hr=>by
   rcases hin r hr with h | h
   ·exact hf.e r h
   ·rw[h];simp⟩
  have hv':VA (cv c vls) net rs':=⟨hv.nt,by rw[hlen,hrl];exact hvl.symm,by rw[hlen];exact hv.most,fun r hr=>by
   rcases hin r hr with h | h
   ·exact SN.vr (c:=c) (d:=cv c vls) ⟨rfl,rfl,rfl⟩ (hv.each r h)
   ·rw[h];exact⟨by simp,fun v h0 h1=>by simp at h1;omega⟩⟩
  obtain⟨D',ps',hF',hO',hC,hle'⟩:=less_H hS hf' hL hv hv' hvo' hF hlp hlo
  refine⟨_,hC,hO'.len hf'.r hf'.e,EN_len hf'.r hf'.e,fun x hx=>⟨fun q hq e1 e2=>?_⟩,fun x hx=>⟨fun q hq e1 e2=>?_⟩⟩
  ·have hx':x∈ps':=hx
   have hxp:pbk x∈PS rs':=by rw[← hO'.1];exact List.mem_map.2 ⟨x,hx',rfl⟩
   have hqp:pbk q∈PS rs:=by rw[← hO.1];exact List.mem_map.2 ⟨q,hq,rfl⟩
   have epk:pbk x=pbk q:=by unfold pbk;rw[e1,e2]
   have:=hle' _ hxp
   rw[hF'.d _ hxp,← hO'.2 x hx',epk,hF.d _ hqp,← hO.2 q hq] at this
   exact this
  ·have hx':x∈EN (cv c vls) rs' ps':=hx
   obtain⟨v,v0,v1,hxv⟩:=yeU.1 hx'
   rw[hlen] at v1
   have hrv:=hv.each _ (yX (l:=rs) v0 v1)
   obtain⟨y,hy,f1,f2,f3⟩:=VE_lessH (c:=c) (d:=cv c vls) (rs:=rs) (rs':=rs') rfl v0 v1 (hrt v v0 v1) (by have:=hrv.len;omega) (de2:=dem ps') (de1:=dem ps) (fun h hh=>by
    have hm:pk h∈PS rs':=(y77 rs' _).2 ⟨_,yX v0 (by rw[hlen];exact v1),h,hh,rfl⟩
    have hmc:=hL.ps hm
    rw[hO'.dem hF' hm,hO.dem hF hmc]
    have h1:=hF'.r _ hm
    have h2:=yd6 hf'.small hv' hm
    have h3:=hF.r _ hmc
    have:=(hle' _ hm).1
    omega) x hxv
   have:q=y:=EN_uniq hq (yeU.2 ⟨v,v0,v1,hy⟩) (by rw[← f1,e1]) (by rw[← f2,e2])
   rw[this];exact f3
 generalize Int.tmod (i64 which) ((c.fVLs.length:Nat):Int)=q at hk
 have hset:∀ v:Int,0≤v→v<rs.length→nth (rs.set q.toNat []) v=nth rs v∨nth (rs.set q.toNat []) v=[]:=fun v h0 h1=>by
  rw[ygY hk.1 h0 h1]
  by_cases e:v=q
  ·rw[if_pos e];exact .inr rfl
  ·rw[if_neg e];exact .inl rfl
 have step:∀(lst:List S70) (n:Nat) (i:Int) (hle:(lst.length:Int)=2) (h0:0≤i) (h1:i<2) (vls:List zh) (rs':List (List Hop)),nth lst i=(⟨cv c vls,rs'⟩:S70)→VOK (cv c vls)→vls.length=c.fVLs.length→(∀ i:Int,0≤i→i<c.fVLs.length→(nth vls i).fMax≤(nth c.fVLs i).fMax∧(nth vls i).fBag=(nth c.fVLs i).fBag)→rs'.length=rs.length→(∀ v:Int,0≤v→v<rs.length→nth rs' v=nth rs v∨nth rs' v=[])→
   y1Q c which less rs net (⟨ps,EN c rs ps⟩,0) k0 (n+1) lst i=y1Q c which less rs net (⟨ps,EN c rs ps⟩,0) k0 n lst (i+1):=by
  intro lst n i hle h0 h1 vls rs' hn g1 g2 g3 g4 g5
  rw[y1Q,if_pos (by simp only[List.length_cons,List.length_nil];exact decide_eq_true (by omega)),yz (x:=i+1) (by omega)]
  refine y42 (P:=fun o=>o=_) fun k1 hk1=>?_
  rw[yt ⟨h0,by omega⟩,hn]
  obtain⟨y,y1,y2,y3,y4,y5⟩:=key vls rs' g1 g2 g3 g4 g5
  rw[show y2h _ net _=some (y,0) from y1,oB,if_neg (by simp)]
  refine y42 (P:=fun o=>o=_) fun k2 hk2=>?_
  rw[less7 (y:=(y,0)) (b:=(⟨ps,EN c rs ps⟩,0)) y2 hbp y4 yx 0 (by omega) (by omega) (by rw[yR];show((y.fP.length:Nat):Int)<_;omega),hk2]
  refine y42 (P:=fun o=>o=_) fun k3 hk3=>?_
  rw[less9 (y:=(y,0)) (b:=(⟨ps,EN c rs ps⟩,0)) y3 hbe y5 yx 0 (by omega) (by omega) (by rw[yR];show((y.fEnds.length:Nat):Int)<_;omega),hk3,hk1]
 have hF:yx=(((yx-3)+1)+1)+1:=by rw[yR]
 rw[hF]
 generalize yx-3=N
 obtain⟨g1,g2,g3⟩:=hvo _ (yX hk.1 hk.2)
 have hm:1≤max 1 (i64 (((nth c.fVLs q).fMax)-(i64 less)))∧max 1 (i64 (((nth c.fVLs q).fMax)-(i64 less)))≤(nth c.fVLs q).fMax:=by
  rw[yz (x:=less) (by omega),yz (x:=(nth c.fVLs q).fMax-less) (by omega)]
  omega
 rw[step _ _ 0 rfl (by omega) (by omega) (c.fVLs.set q.toNat _) rs rfl (fun v hvm=>by
   rcases List.mem_or_eq_of_mem_set hvm with hvm | hvm
   ·exact hvo v hvm
   ·rw[hvm];exact⟨g1,hm.1,by show max 1 _≤72;omega⟩) (by rw[List.length_set]) (fun i i0 i1=>by
   rw[ygY hk.1 i0 i1]
   by_cases e:i=q
   ·rw[if_pos e,e];exact⟨hm.2,rfl⟩
   ·rw[if_neg e];exact⟨Int.le_refl _,rfl⟩) rfl (fun _ _ _ => .inl rfl)]
 rw[step _ _ (0+1) rfl (by omega) (by omega) c.fVLs (rs.set q.toNat []) rfl hvo rfl (fun _ _ _=>⟨Int.le_refl _,rfl⟩) (by rw[List.length_set]) hset]
 rw[y1Q,if_neg (by simp)]
 exact hk0
end Go.Proofs.YthjnhebofpebpaaGreat

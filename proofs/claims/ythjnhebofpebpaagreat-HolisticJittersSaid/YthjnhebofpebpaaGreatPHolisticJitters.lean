/- A part of this claim's proof: models of functions, walks, plain laws. No conditions. -/
import Derived.Test.YthjnhebofpebpaaGreatP35g
import Derived.Test.YthjnhebofpebpaaGreatWHolisticJitters
set_option linter.all false
namespace Go.Proofs.YthjnhebofpebpaaGreat
open Go Go.RowKit Sep
theorem yi8:y61=some true:=by kernel_rfl
def k56(p:Pl):S56:=⟨p.fNode,p.fQ⟩
theorem k56_inj{p q:Pl}(h:k56 p=k56 q):p=q:=by
 unfold k56 at h;injection h with h1 h2
 cases p;cases q;simp only at h1 h2;rw[h1,h2]
theorem jit6{x:S39×Int}{k:List (S56×Int)→Option Bool}(hl:x.1.fP.length≤1000000)(hn:(x.1.fP.map pbk).Nodup):∀(n:Nat) (i:Int) (mp:List (S56×Int)),0≤i→i≤x.1.fP.length→x.1.fP.length<n+i→(∀ b∈x.1.fP.take i.toNat,yf mp (k56 (pbk b)) 0=b.fDelay)→
  ∃ mp',y29 x k n i mp=k mp'∧∀ b∈x.1.fP,yf mp' (k56 (pbk b)) 0=b.fDelay
 | 0,i,mp,h0,h1,h2,h3=>by omega
 | n+1,i,mp,h0,h1,h2,h3=>by
  rw[y29]
  by_cases h:i<x.1.fP.length
  ·rw[if_pos (decide_eq_true h),yt ⟨h0,h⟩,yy (x:=i+1) (by omega)]
   refine jit6 hl hn n (i+1) _ (by omega) (by omega) (by omega) fun b hb=>?_
   rw[show(i+1).toNat=i.toNat+1 by omega,List.take_succ_eq_append_getElem (by omega),← y5w ⟨h0,h⟩] at hb
   rw[y3j]
   by_cases e:k56 (pbk b)=⟨(nth x.1.fP i).fNode,(nth x.1.fP i).fQ⟩
   ·rw[if_pos e]
    have e2:pbk b=pbk (nth x.1.fP i):=k56_inj e
    have hbm:b∈x.1.fP:=by
     rcases List.mem_append.1 hb with hb | hb
     ·exact List.mem_of_mem_take hb
     ·rw[List.mem_singleton.1 hb];exact yU h0 h
    have a1:=yc8 hn hbm
    have a2:=yc8 hn (yU (l:=x.1.fP) h0 h)
    rw[e2,a2] at a1;exact a1
   ·rw[if_neg e]
    rcases List.mem_append.1 hb with hb | hb
    ·exact h3 b hb
    ·rw[List.mem_singleton.1 hb] at e;exact absurd rfl e
  ·rw[if_neg (by simpa using h)]
   refine⟨mp,rfl,fun b hb=>h3 b ?_⟩
   rwa [List.take_of_length_le (by omega)]
theorem jit9{c:Cf}{rs:List (List Hop)}{net:Int}{D:Pl→Int}{mp:List (S56×Int)}{k:Option Bool}{v i:Int}(hS:Small c)(hv:VA c net rs)(h0:0≤v)(h1:v<rs.length)(i0:0≤i)(i1:i<(nth rs v).length)(hmp:∀ g∈nth rs v,yf mp (k56 (pk g)) 0=D (pk g))(hD:∀ g∈nth rs v,0≤D (pk g)∧D (pk g)≤33768)(hj:nth (JT c rs D) v=(nth rs v).map fun h=>jn c D (nth rs v) h.fNode)(hjl:(JT c rs D).length=rs.length):∀(n:Nat) (q:Int),0≤q→q≤(nth rs v).length→(nth rs v).length<n+q→
  y2a rs v c i (JT c rs D) mp k n q=k
 | 0,q,a0,a1,a2=>by omega
 | n+1,q,a0,a1,a2=>by
  have hr:=hv.each _ (yU h0 h1)
  have hlen:=hr.len
  rw[y2a]
  by_cases h:q<(nth rs v).length
  ·have hx:=hr.hop hS (yU a0 h)
   have ml:=hS.m
   have ms:=hS.s
   rw[if_pos (decide_eq_true h),yt ⟨a0,h⟩,yt ⟨hx.l0,hx.l1⟩]
   refine y1E (P:=fun o=>o=k) fun kk hkk=>?_
   have hkk2:∀ least,least=slw c (nth (nth rs v) q).fQ+y3v c (nth (nth rs v) q).fNode→kk least=k:=by
    rintro least rfl
    rw[hkk,hj,hjl]
    have hml:(((nth rs v).map fun h=>jn c D (nth rs v) h.fNode).length:Nat)=(nth rs v).length:=List.length_map ..
    rw[hml,yt (fun _=>⟨h0,h1⟩),yt (fun _=>⟨i0,i1⟩),yt (fun _=>⟨a0,h⟩),yy (x:=q+1) (by omega),jit9 hS hv h0 h1 i0 i1 hmp hD hj hjl n (q+1) (by omega) (by omega) (by omega),if_neg]
    intro hc
    simp only[Bool.and_eq_true,decide_eq_true_eq] at hc
    obtain⟨e,hne⟩:=hc
    have ej:∀ z:Int,0≤z→z<(nth rs v).length→nth ((nth rs v).map fun h=>jn c D (nth rs v) h.fNode) z=jn c D (nth rs v) (nth (nth rs v) z).fNode:=by
     intro z z0 z1
     rw[y5w ⟨z0,by rw[hml];exact z1⟩,List.getElem_map,← y5w ⟨z0,z1⟩]
    apply hne
    rw[ej i i0 i1,ej q a0 h,← e,hr.jn_next D (yU a0 h)]
    have em:yf mp (⟨(nth (nth rs v) q).fNode,(nth (nth rs v) q).fQ⟩:S56) 0=D (pk (nth (nth rs v) q)):=hmp _ (yU a0 h)
    have hd:=hD _ (yU a0 h)
    have hb:=jn_up (c:=c) (D:=D) hS hv (M:=33768) (by omega) (yU h0 h1) (fun z hz=>by have:=hD z hz;omega) (nth (nth rs v) q).fNode
    have s0:=hx.s0;have s1:=hx.s1;have d0:=hx.d0;have d1:=hx.d1
    rw[em,yy (x:=jn c D (nth rs v) (nth (nth rs v) q).fNode+D (pk (nth (nth rs v) q))) (by omega),yy (by omega)]
    omega
   have hn0:=hx.n0;have hn1:=hx.n1
   have s0:=hx.s0;have s1:=hx.s1;have d0:=hx.d0;have d1:=hx.d1
   unfold nN at hn1
   unfold slw y3v nM at hkk2
   unfold slw at s0 s1
   unfold y3v nM at d0 d1
   rw[yy (x:=(nth (nth rs v) q).fNode-(c.fM.length:Int)) (by omega)]
   by_cases hm:(nth (nth rs v) q).fNode-(c.fM.length:Int)≥0
   ·rw[if_pos hm] at d0 d1 hkk2
    rw[if_pos (decide_eq_true hm),yt ⟨by omega,by omega⟩,yy (by omega)]
    exact hkk2 _ rfl
   ·rw[if_neg hm] at hkk2
    rw[if_neg (by simpa using hm)]
    exact hkk2 _ (by omega)
  ·rw[if_neg (by simpa using h)]
theorem jit8{c:Cf}{rs:List (List Hop)}{net:Int}{D:Pl→Int}{mp:List (S56×Int)}{k:Option Bool}{v:Int}(hS:Small c)(hv:VA c net rs)(h0:0≤v)(h1:v<rs.length)(hmp:∀ g∈nth rs v,yf mp (k56 (pk g)) 0=D (pk g))(hD:∀ g∈nth rs v,0≤D (pk g)∧D (pk g)≤33768)(hj:nth (JT c rs D) v=(nth rs v).map fun h=>jn c D (nth rs v) h.fNode)(hjl:(JT c rs D).length=rs.length)(hp:∀ x∈nth rs v,0≤jn c D (nth rs v) x.fNode):∀(n:Nat) (i:Int),0≤i→i≤(nth rs v).length→(nth rs v).length<n+i→
  y2b rs v (JT c rs D) c mp k n i=k
 | 0,i,a0,a1,a2=>by omega
 | n+1,i,a0,a1,a2=>by
  have hr:=hv.each _ (yU h0 h1)
  have hlen:=hr.len
  rw[y2b]
  by_cases h:i<(nth rs v).length
  ·rw[if_pos (decide_eq_true h),yy (x:=i+1) (by omega),jit8 hS hv h0 h1 hmp hD hj hjl hp n (i+1) (by omega) (by omega) (by omega)]
   refine y55 (P:=fun o=>o=k) fun k1 hk1=>?_
   rw[hj,hjl]
   have hml:(((nth rs v).map fun h=>jn c D (nth rs v) h.fNode).length:Nat)=(nth rs v).length:=List.length_map ..
   have ej:nth ((nth rs v).map fun h=>jn c D (nth rs v) h.fNode) i=jn c D (nth rs v) (nth (nth rs v) i).fNode:=by
    rw[y5w ⟨a0,by rw[hml];exact h⟩,List.getElem_map,← y5w ⟨a0,h⟩]
   rw[hml,ej,yt ⟨a0,h⟩,yt ⟨h0,h1⟩,yt ⟨a0,h⟩,yt (fun _=>⟨by omega,by omega⟩),yt (fun _ _=>⟨h0,h1⟩),yt (fun _ _=>⟨a0,h⟩),if_neg]
   ·refine y55 (P:=fun o=>o=k) fun k2 hk2=>?_
    rw[jit9 hS hv h0 h1 a0 h hmp hD hj hjl yx 0 (by omega) (by omega) (by rw[yP];omega),hk2,hk1]
   ·have:=hp _ (yU a0 h)
    intro hc
    simp only[Bool.or_eq_true,Bool.and_eq_true,decide_eq_true_eq] at hc
    rcases hc with hc | ⟨e,hc⟩
    ·omega
    ·rw[e,hr.jn_start] at hc;exact hc rfl
  ·rw[if_neg (by simpa using h)]
theorem jit7{c:Cf}{rs:List (List Hop)}{net:Int}{D:Pl→Int}{mp:List (S56×Int)}{k:Option Bool}(hS:Small c)(hv:VA c net rs)(hmp:∀ r∈rs,∀ g∈r,yf mp (k56 (pk g)) 0=D (pk g))(hD:∀ r∈rs,∀ g∈r,0≤D (pk g)∧D (pk g)≤33768)(hp:∀ r∈rs,∀ x∈r,0≤jn c D r x.fNode):∀(n:Nat) (v:Int),0≤v→v≤rs.length→rs.length<n+v→
  y2c rs c mp k n (JT c rs D) v=k
 | 0,v,h0,h1,h2=>by omega
 | n+1,v,h0,h1,h2=>by
  have hm:=hv.most
  rw[y2c]
  by_cases h:v<rs.length
  ·have hjl:(JT c rs D).length=rs.length:=by unfold JT;rw[List.length_map]
   have hj:nth (JT c rs D) v=(nth rs v).map fun h=>jn c D (nth rs v) h.fNode:=by
    rw[y5w ⟨h0,by rw[hjl];exact h⟩]
    unfold JT
    rw[List.getElem_map,← y5w ⟨h0,h⟩]
   rw[if_pos (decide_eq_true h)]
   refine y1E (P:=fun o=>o=k) fun k1 hk1=>?_
   have hl:(((nth rs v).map fun h=>jn c D (nth rs v) h.fNode).length:Nat)=(nth rs v).length:=List.length_map ..
   rw[hjl,hj,hl,yt ⟨h0,h⟩,yt ⟨h0,h⟩,if_neg (by simp)]
   refine y55 (P:=fun o=>o=k) fun k2 hk2=>?_
   have hrm:=yU h0 h
   rw[jit8 hS hv h0 h (hmp _ hrm) (hD _ hrm) hj hjl (hp _ hrm) yx 0 (by omega) (by omega) (by have:=(hv.each _ hrm).len;rw[yP];omega),hk2,hk1,yy (x:=v+1) (by omega)]
   exact jit7 hS hv hmp hD hp n (v+1) (by omega) (by omega) (by omega)
  ·rw[if_neg (by simpa using h)]
theorem law(c:Cf)(net:Int)(rs:List (List Hop)):y51 c net rs=some true:=by
 unfold y51
 rw[yi8]
 obtain⟨b1,q1,q2⟩:=Few_eq c rs
 rw[q1,oB]
 cases b1 with
 | false=>rfl
 | true=>
 have hf:=q2.1 rfl
 rw[if_neg (by simp)]
 obtain⟨x,x1,x2⟩:=HC_eq (net:=net) hf
 rw[x1,oB]
 by_cases hx:x.2≠0
 ·rw[if_pos (by simpa using hx)];rfl
 rw[if_neg (by simpa using hx)]
 have hS:=hf.small
 obtain⟨hv,hvo,D,ps,l,hlp,hlo,hF,hO,rfl⟩:=HC_ok hS x2 (by simpa using hx)
 have hr20:=hf.r
 have hpl:=hO.len hr20 hf.e
 have hmem:∀ r∈rs,∀ g∈r,pk g∈PS rs:=fun r hr g hg=>(y7B rs _).2 ⟨r,hr,g,hg,rfl⟩
 have hde:∀ r∈rs,∀ g∈r,yf (dem ps) (pk g) 0=D (pk g):=fun r hr g hg=>hO.dem hF (hmem r hr g hg)
 refine y1E (P:=fun o=>o=some true) fun k hk=>?_
 obtain⟨mp,e1,e2⟩:=jit6 (x:=(⟨ps,EN c rs ps⟩,0)) (k:=k) hpl hO.nd yx 0 [] (by omega) (by omega) (by rw[yP];show((ps.length:Nat):Int)<_;omega) (by simp)
 rw[e1,hk]
 have hj:y3e c rs ps=some (JT c rs D):=by
  rcases yi7 (ps:=ps) hf hpl (fun r hr g hg=>by rw[hde r hr g hg];have:=hF.rng hS hv hr hg;omega) with⟨_,h⟩ | ⟨h,_⟩
  ·rw[h]
   refine congrArg some ?_
   unfold JT
   refine List.map_congr_left fun r hr=>List.map_congr_left fun y hy=>?_
   exact(hv.each r hr).jn_eq (S:=fun _=>True) (fun z hz _ g hg _=>⟨trivial,hde r hr g hg⟩) y hy trivial
  ·rcases hv.nt with e | e
   ·subst e;exact absurd hv h.1
   ·subst e;exact absurd hv h.2
 rw[hj,oB,if_neg (by unfold JT;rw[List.length_map];simp)]
 refine y55 (P:=fun o=>o=some true) fun k2 hk2=>?_
 rw[jit7 (D:=D) hS hv (fun r hr g hg=>by
   obtain⟨b,hb,hb2,hb3⟩:=hO.get (hmem r hr g hg)
   rw[← hb2,e2 b hb,hb2,hF.d _ (hmem r hr g hg),← hb3]) (fun r hr g hg=>hF.rng hS hv hr hg) (fun r hr=>jn_pos hv (fun p hp=>(hF.r p hp).1) hr) yx 0 (by omega) (by omega) (by rw[yP];omega),hk2]
 rfl
end Go.Proofs.YthjnhebofpebpaaGreat

/- A part of this claim's proof: models of functions, walks, plain laws. No conditions. -/
import Derived.Test.YthjnhebofpebpaaGreatPTj
import Derived.Test.YthjnhebofpebpaaGreatWHolisticTells
set_option linter.all false
namespace Go.Proofs.YthjnhebofpebpaaGreat
open Go Go.RowKit Sep
theorem oV:mZ=some true:=by kernel_rfl
/-! ### there is one answer only -/
theorem HF.uniq{c:Cf}{net:Int}{rs:List (List Hop)}(hv:VA c net rs){D E:Pl->Int}(hD:HF c rs D)(hE:HF c rs E):∀(l2 l1:List Pl),(∀ p∈l1++l2,p∈PS rs)->wM rs (l1++l2)->(∀ q∈l1,D q=E q)->∀ q∈l1++l2,D q=E q
 | [],l1,_,_,h=>by simpa using h
 | p::l2,l1,hp,ho,h=>by
  have e1:(l1++[p])++l2=l1++p::l2:=by simp
  have zN:=hp p (by simp)
  have CX:=e6 hv ho h
  rw[<- e1]
  refine HF.uniq hv hD hE l2 (l1++[p]) (by rw[e1];exact hp) (by rw[e1];exact ho) fun q hq=>?_
  rcases List.mem_append.1 hq with hq | hq
  ·exact h q hq
  ·rw[List.mem_singleton.1 hq,hD.d p zN,hE.d p zN]
   unfold ti;rw[CX]
theorem WU{c:Cf}{net:Int}{rs:List (List Hop)}(hv:VA c net rs){D:Pl->Int}(hD:HF c rs D):∀(l2 l1:List Pl) (de:DM) (out:List PB),(∀ p∈l1++l2,p∈PS rs)->wM rs (l1++l2)->(∀ q∈l1,dD de q=D q)->∃ t,mX c rs l2 de out=some t
 | [],l1,de,out,_,_,_=>⟨_,rfl⟩
 | p::l2,l1,de,out,hp,ho,h=>by
  have e1:(l1++[p])++l2=l1++p::l2:=by simp
  have zN:=hp p (by simp)
  have CX:=e6 hv ho h
  have hb:=hD.b p zN
  have D3:ti c rs (dD de) p=ti c rs D p:=by unfold ti;rw[CX]
  have hbz:ik c rs (dD de) p=ik c rs D p:=by unfold ik;rw[CX]
  rw[mX,if_pos (by rw[hbz];exact hb)]
  refine WU hv hD l2 (l1++[p]) _ _ (by rw[e1];exact hp) (by rw[e1];exact ho) fun q hq=>?_
  show xx (xT de p _) q 0=D q
  rw[qP]
  by_cases e:q=p
  ·rw[if_pos e,e,D3];exact(hD.d p zN).symm
  ·rw[if_neg e]
   rcases List.mem_append.1 hq with hq | hq
   ·exact h q hq
   ·exact absurd (List.mem_singleton.1 hq) e
theorem HC.uniq{c:Cf}{net:Int}{rs:List (List Hop)}(hS:Small c){x y:yw×Int}(hx:HC c net rs x)(hy:HC c net rs y):x=y:=by
 have stuck:∀ {s l:List Pl},VA c net rs->tA rs s->l.Perm (PS rs)->wM rs l->False:=by
  intro s l hv hs hp ho
  exact hs.no hv (fun p=>((l.idxOf p:Nat):Int)) (fun p _=>by omega) fun p q he=>by
   have:=ho.idx hv hp he
   show((l.idxOf p:Nat):Int)<((l.idxOf q:Nat):Int)
   omega
 have run:∀ {l m:List Pl} {t:DM×List PB},VA c net rs->fr c->l.Perm (PS rs)->wM rs l->m.Perm (PS rs)->wM rs m->mX c rs l [] []=some t->mX c rs m [] []=none->False:=by
  intro l m t hv hV hp ho zn Ci h1 h2
  obtain⟨t2,e⟩:=WU hv (e8 hS hv hV hp ho h1).1 m [] [] [] (fun p hm=>zn.subset (by simpa using hm)) (by simpa using Ci) (by simp)
  rw[e] at h2;cases h2
 have srt:∀ {l:List Pl} {t:DM×List PB},VA c net rs->fr c->l.Perm (PS rs)->wM rs l->mX c rs l [] []=some t->(w6 xQ t.2).map we=PS rs->w6 xQ t.2=(PS rs).map (ti c rs (dD t.1)):=by
  intro l t hv hV hp ho h1 h2
  rw[<- h2,List.map_map]
  have:∀ b∈w6 xQ t.2,b=(ti c rs (dD t.1) ∘ we) b:=by
   intro b hb
   have hb:=(vX _ _).subset hb
   rw[(e8 hS hv hV hp ho h1).2] at hb
   obtain⟨q,_,rfl⟩:=List.mem_map.1 hb
   rfl
  rw[<- List.map_congr_left this,List.map_id']
 cases hx with
 | route a=>
  cases hy with
  | route _=>rfl
  | vl b _=>exact absurd b a
  | cycle _ b _ _=>exact absurd b a
  | busy _ b _ _ _ _=>exact absurd b a
  | ok _ _ b _ _ _ _ _=>exact absurd b a
 | vl a a2=>
  cases hy with
  | route b=>exact absurd a b
  | vl _ _=>rfl
  | cycle _ _ b _=>exact absurd b a2
  | busy _ _ b _ _ _=>exact absurd b a2
  | ok _ _ _ b _ _ _ _=>exact absurd b a2
 | cycle s a a2 a3=>
  cases hy with
  | route b=>exact absurd a b
  | vl _ b=>exact absurd a2 b
  | cycle _ _ _ _=>rfl
  | busy l _ _ b1 b2 _=>exact(stuck a a3 b1 b2).elim
  | ok l _ _ _ b1 b2 _ _=>exact(stuck a a3 b1 b2).elim
 | busy l a a2 a3 a4 a5=>
  cases hy with
  | route b=>exact absurd a b
  | vl _ b=>exact absurd a2 b
  | cycle _ _ _ b=>exact(stuck a b a3 a4).elim
  | busy _ _ _ _ _ _=>rfl
  | ok m t _ _ b1 b2 b3 _=>exact(run a a2.vls b1 b2 a3 a4 b3 a5).elim
 | ok l t a a2 a3 a4 a5 a6=>
  cases hy with
  | route b=>exact absurd a b
  | vl _ b=>exact absurd a2 b
  | cycle _ _ _ b=>exact(stuck a b a3 a4).elim
  | busy m _ _ b1 b2 b3=>exact(run a a2.vls a3 a4 b1 b2 a5 b3).elim
  | ok m u _ _ b1 b2 b3 b4=>
   have f1:=(e8 hS a a2.vls a3 a4 a5).1
   have f2:=(e8 hS a a2.vls b1 b2 b3).1
   have hD:dD t.1=dD u.1:=by
    funext q
    by_cases hq:q∈PS rs
    ·exact HF.uniq a f1 f2 l [] (fun p hm=>a3.subset (by simpa using hm)) (by simpa using a4) (by simp) q (by simpa using a3.symm.subset hq)
    ·rw[f1.z q hq,f2.z q hq]
   have e:w6 xQ t.2=w6 xQ u.2:=by
    rw[srt a a2.vls a3 a4 a5 a6,srt a a2.vls b1 b2 b3 b4,hD]
   rw[e]
/-! ### the tests -/
theorem Q6{a:yw}{k:Option Bool}(hl:a.fP.length<=1000000):∀(n:Nat) (i:Int),0<=i->i<=a.fP.length->a.fP.length<n+i->gT a a k n i=k
 | 0,i,h0,h1,h2=>by omega
 | n+1,i,h0,h1,h2=>by
  rw[gT]
  by_cases h:i<a.fP.length
  ·rw[if_pos (decide_eq_true h),xr ⟨h0,h⟩,xr ⟨h0,h⟩,if_neg (by simp),xD (by omega)]
   exact Q6 hl n (i+1) (by omega) (by omega) (by omega)
  ·rw[if_neg (by simpa using h)]
theorem Q7{a:yw}{k:Option Bool}(hl:a.ys.length<=1000000):∀(n:Nat) (i:Int),0<=i->i<=a.ys.length->a.ys.length<n+i->gU a a k n i=k
 | 0,i,h0,h1,h2=>by omega
 | n+1,i,h0,h1,h2=>by
  rw[gU]
  by_cases h:i<a.ys.length
  ·rw[if_pos (decide_eq_true h),xr ⟨h0,h⟩,xr ⟨h0,h⟩,if_neg (by simp),xD (by omega)]
   exact Q7 hl n (i+1) (by omega) (by omega) (by omega)
  ·rw[if_neg (by simpa using h)]
theorem KJ{a:yw}(hp:a.fP.length<=1000000)(he:a.ys.length<=1000000):uS a a=some true:=by
 unfold uS
 rw[if_neg (by simp)]
 refine qL (P:=fun o=>o=_) fun k hk=>?_
 rw[Q6 hp xC 0 (by omega) (by omega) (by rw[xN];omega),hk]
 refine qL (P:=fun o=>o=_) fun k2 lN=>?_
 rw[Q7 he xC 0 (by omega) (by omega) (by rw[xN];omega),lN]
theorem Q8{a:List Int}{k:Option Bool}(hl:a.length<=1000000):∀(n:Nat) (i:Int),0<=i->i<=a.length->a.length<n+i->gV a a k n i=k
 | 0,i,h0,h1,h2=>by omega
 | n+1,i,h0,h1,h2=>by
  rw[gV]
  by_cases h:i<a.length
  ·rw[if_pos (decide_eq_true h),xr ⟨h0,h⟩,xr ⟨h0,h⟩,if_neg (by simp),xD (by omega)]
   exact Q8 hl n (i+1) (by omega) (by omega) (by omega)
  ·rw[if_neg (by simpa using h)]
theorem KK{a:List Int}(hl:a.length<=1000000):uT a a=some true:=by
 unfold uT
 rw[if_neg (by simp)]
 refine qL (P:=fun o=>o=_) fun k hk=>?_
 rw[Q8 hl xC 0 (by omega) (by omega) (by rw[xN];omega),hk]
theorem WV{js:List (List Int)}{k:Option Bool}(hl:js.length<=1000)(hj:∀ l∈js,l.length<=1000):∀(n:Nat) (i:Int),0<=i->i<=js.length->js.length<n+i->qz js js k n i=k
 | 0,i,h0,h1,h2=>by omega
 | n+1,i,h0,h1,h2=>by
  rw[qz]
  by_cases h:i<js.length
  ·have:=hj _ (w4 h0 h)
   rw[if_pos (decide_eq_true h),xr ⟨h0,h⟩,xr ⟨h0,h⟩,KK (by omega),oB,if_neg (by decide),xD (by omega)]
   exact WV hl hj n (i+1) (by omega) (by omega) (by omega)
  ·rw[if_neg (by simpa using h)]
theorem WW{ps:List PB}{k:Option Bool}(hl:ps.length<=1000)(hk:(∀ b∈ps,-1099511627776<=b.yf/\b.yf<=1099511627776)->k=some true):∀(n:Nat) (i:Int),0<=i->i<=ps.length->ps.length<n+i->(∀ b∈ps.take i.toNat,-1099511627776<=b.yf/\b.yf<=1099511627776)->qy ps k n i=some true
 | 0,i,h0,h1,h2,h3=>by omega
 | n+1,i,h0,h1,h2,h3=>by
  rw[qy]
  by_cases h:i<ps.length
  ·rw[if_pos (decide_eq_true h),xr ⟨h0,h⟩]
   by_cases hb:(nth ps i).yf>1099511627776\/(nth ps i).yf < -1099511627776
   ·rw[if_pos (by simpa using hb),oV];rfl
   ·rw[if_neg (by simpa using hb),xD (by omega)]
    refine WW hl hk n (i+1) (by omega) (by omega) (by omega) fun b hbm=>?_
    rw[show(i+1).toNat=i.toNat+1 by omega,List.take_succ_eq_append_getElem (by omega),<- jT ⟨h0,h⟩] at hbm
    rcases List.mem_append.1 hbm with hbm | hbm
    ·exact h3 b hbm
    ·rw[List.mem_singleton.1 hbm];omega
  ·rw[if_neg (by simpa using h)]
   rw[List.take_of_length_le (by omega)] at h3
   exact hk h3
theorem Q9{q:Pl}:∀ {ps:List PB},(∀ b∈ps,-1099511627776<=b.yf/\b.yf<=1099511627776) -> -1099511627776<=xx (wx ps) q 0/\xx (wx ps) q 0<=1099511627776
 | [],_=>by show(-1099511627776:Int)<=0/\(0:Int)<=1099511627776;omega
 | b::ps,h=>by
  show -1099511627776<=xx (xT (wx ps) (we b) b.yf) q 0/\xx (xT (wx ps) (we b) b.yf) q 0<=1099511627776
  rw[qP]
  split
  ·exact h b (by simp)
  ·exact Q9 fun x hx=>h x (List.mem_cons_of_mem _ hx)
theorem law(c:Cf)(net:Int)(rs:List (List Hop))(ps:List PB):mh c net rs ps=some true:=by
 unfold mh
 obtain⟨b1,q1,q2⟩:=GE c rs
 rw[q1,oB]
 cases b1 with
 | false=>rw[if_pos (by simp),oV];rfl
 | true=>
 have hf:=q2.1 rfl
 by_cases C6:ps.length>20
 ·rw[if_pos (by simp;omega),oV];rfl
 rw[if_neg (by simp;omega)]
 refine qL (P:=fun o=>o=_) fun k hk=>?_
 refine WW (by omega) (fun hb=>?_) xC 0 (by omega) (by omega) (by rw[xN];omega) (by simp)
 have hS:=hf.small
 obtain⟨x,x1,x2⟩:=HC_eq (net:=net) hf
 obtain⟨y,y1,y2⟩:=GZ (net:=net) hf
 have exy:=HC.uniq hS x2 y2
 subst exy
 have hD:∀ r∈rs,∀ h∈r,-1099511627776<=xx (wx ps) (pk h) 0/\xx (wx ps) (pk h) 0<=1099511627776:=fun _ _ _ _=>Q9 hb
 have hJ:∃ js,j5 c rs ps=some js/\js.length<=1000/\∀ l∈js,l.length<=1000:=by
  rcases oU hf (ps:=ps) (by omega) hD with⟨_,e⟩ | ⟨_,e⟩
  ·refine⟨_,e,?_,fun l hl=>?_⟩
   ·unfold JT;rw[List.length_map];have:=hf.r;omega
   ·obtain⟨r,hr,rfl⟩:=List.mem_map.1 hl
    rw[List.length_map];have:=hf.e r hr;omega
  ·exact⟨_,e,by simp,by simp⟩
 obtain⟨js,j1,j2,j3⟩:=hJ
 have lK:x.1.fP.length<=1000000/\x.1.ys.length<=1000000:=by
  have hP:=oh hf.e
  have BS:=hf.r
  have h3:rs.length*40<=20*40:=Nat.mul_le_mul_right _ BS
  cases x2 with
  | route _=>exact⟨by simp,by simp⟩
  | vl _ _=>exact⟨by simp,by simp⟩
  | cycle _ _ _ _=>exact⟨by simp,by simp⟩
  | busy _ _ _ _ _ _=>exact⟨by simp,by simp⟩
  | ok l t _ _ a b d e=>
   refine⟨?_,GW hf.r hf.e⟩
   have:=congrArg List.length e
   rw[List.length_map] at this
   show(w6 xQ t.2).length<=1000000
   omega
 rw[hk,x1,oB,y1,oB,j1,oB,KD hf (by omega) hD,j1,oB,KJ lK.1 lK.2,oB,if_neg (by simp)]
 refine qL (P:=fun o=>o=_) fun k2 lN=>?_
 rw[WV j2 j3 xC 0 (by omega) (by omega) (by rw[xN];omega),lN,oV]
 rfl
end Go.Proofs.YthjnhebofpebpaaGreat

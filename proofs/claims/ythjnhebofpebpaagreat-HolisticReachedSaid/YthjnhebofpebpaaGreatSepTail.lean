/- A part of this claim's proof: the tail of a slice; clear. No conditions. -/
import Derived.Test.YthjnhebofpebpaaGreatSepCore
import Derived.WalkKit
import Derived.ProofKit
import Derived.OpenShut
set_option linter.all false
namespace Sep
open Go Go.RowKit
section
variable {α:Type}{zc:Array Value}
variable [Rnd]
theorem iJ{α:Type}{enc:α->List Value}{sz:Nat}(hl:∀ x,(enc x).length=sz)(iL:0<sz):∀(l:List α) (i:Nat),(l.flatMap enc)[i]?=(l[i / sz]?).bind (fun x=>(enc x)[i % sz]?)
 | [],i=>by simp
 | x::l,i=>by
  rw[List.flatMap_cons]
  by_cases h:i<sz
  ·rw[List.getElem?_append_left (by rw[hl];exact h),Nat.div_eq_of_lt h,Nat.mod_eq_of_lt h]
   simp
  ·rw[List.getElem?_append_right (by rw[hl];omega),hl,iJ hl iL l]
   have h1:i / sz=(i-sz) / sz+1:=by rw[Nat.div_eq_sub_div iL (by omega)]
   have h2:i % sz=(i-sz) % sz:=by rw[Nat.mod_eq_sub_mod (by omega)]
   rw[h1,h2]
   simp
theorem pL{enc:α->List Value}{sz:Nat}{z0:α}(hl:∀ x,(enc x).length=sz)(iL:0<sz)(hz:zc=(enc z0).toArray)(k:Nat):
  (Builtin.zeroCells zc k).toList=(List.replicate k z0).flatMap enc:=by
 subst hz
 apply List.ext_getElem?
 intro i
 rw[iJ hl iL]
 simp only[Builtin.zeroCells,Array.getElem?_toList,Array.getElem?_map,List.size_toArray,hl,List.getElem?_replicate]
 have hm:i % sz<sz:=Nat.mod_lt _ iL
 by_cases h:i<k*sz
 ·have h1:i / sz<k:=(Nat.div_lt_iff_lt_mul iL).2 h
  have h2:(Array.range (k*sz))[i]?=some i:=by simp[h]
  rw[h2,if_pos h1]
  have h3:i % sz<(enc z0).length:=by rw[hl];exact hm
  simp[h3]
 ·have h1:¬i / sz<k:=fun hc=>h ((Nat.div_lt_iff_lt_mul iL).1 hc)
  have h2:(Array.range (k*sz))[i]?=none:=by simp;omega
  rw[h2,if_neg h1];rfl
theorem G6{enc:α->List Value}{sz:Nat}{z0:α}{l:List α}{i k:Nat}(hl:∀ x,(enc x).length=sz)(iL:0<sz)(hz:zc=(enc z0).toArray)(hi:i<=l.length):
  (l.flatMap enc).take (i*sz)++(Builtin.zeroCells zc k).toList=(l.take i++List.replicate k z0).flatMap enc:=by
 rw[bF hl l i hi,pL hl iL hz,List.flatMap_append]
theorem Kt{enc:α->List Value}{sz:Nat}{z0:α}{k:Nat}(hl:∀ x,(enc x).length=sz)(iL:0<sz)(hz:zc=(enc z0).toArray)(ho:∀ x,∀ u∈enc x,u.oneCell'=true):
  ∀ u∈(Builtin.zeroCells zc k).toList,u.oneCell'=true:=by
 rw[pL hl iL hz];exact gF ho
section
variable {P:Program} {n:Nat} {F:List Nat} {Nx:World} {env:List (Nat×Value)} {L Lc Lr R:List Asrt} {eA:Array Oper} {Q:Exit->Act->World->Prop} {eN l:List Oper}
 {dd:Nat} {d:Option Tmp} {ty:TypeId} {pos:String} {after:Array Edge} {g:Option (Nat×Bool)} {x y:Operand} {v u:Value} {t e T:TypeId} {sz sS:Nat}
end
end
end Sep
namespace Sep
open Go Go.RowKit Go.ChangeShapes Go.WideShapes Go.ChangeAt
section
variable {W:World}{α:Type}{sz:Nat}{v:Value}
variable [Rnd]
section
variable {H:Type} {enc:TypeId×Value->H} {P:Program}
theorem nE(hl:laidOutB P=true){W W':World}(hb:Below W.heap.size W W'):∀ {ts:List TypeId} {vs:List Value} {ds:List (DataW H)} {p:List MemPlace},
  (∀ t∈ts,P.readableRec t=true/\t<P.types.size)->DataW.TrodAll enc P W 0 (fun _=>true) true ts vs ds p->(∀ x∈p,x.block<W.heap.size)->
  DataW.TrodAll enc P W' 0 (fun b=>decide (b<W.heap.size)) true ts vs ds p
 | [],_,_,_,_,h,_=>by obtain⟨rfl,rfl,rfl⟩:=trodAll_nil h;exact trodAll_mk0
 | t::ts,_,_,_,hr,h,nS=>by
  obtain⟨v,vs',d,ds',p,q,rfl,rfl,rfl,h1,h2⟩:=trodAll_cons h
  have ht:=hr t (by simp)
  exact trodAll_cons_mk (Below.trod hl ht.1 ht.2 h1 hb (fun x hx=>nS x (List.mem_append_left _ hx)))
   (nE hl hb (fun t' h'=>hr t' (List.mem_cons_of_mem _ h')) h2 (fun x hx=>nS x (List.mem_append_right _ hx)))
theorem GO{f:Func}{s:ChangeSpec}{El:Bool}{W':World}{args:Array Value}{ds gs:List (DataW H)}{zg:List MemPlace}{tb:TypeId}(hl:laidOutB P=true)(Af:(f.params.toList.all fun t=>P.readableRec t&&decide (t<P.types.size))=true)(hv:s.vars=[])(D2:f.resultTypes = #[tb])(hub:P.underlying tb=some .bool)(hW:DataW.Whole enc P f.params.toList s.vars false W args.toList ds gs zg)(hres:gs=[]->(s.fn H (ds++gs)).results=[.lit (.bool true)]/\(s.fn H (ds++gs)).args=ds/\(s.fn H (ds++gs)).vars=[])(hb:Below W.heap.size W W'):
  s.post enc P f false El false false W args (.bool true) W':=by
 have hp:∀ t∈f.params.toList,P.readableRec t=true/\t<P.types.size:=by
  intro t ht
  have:=List.all_eq_true.1 Af t ht
  simpa using this
 have D3:=hW
 obtain⟨p,q,hA,hV,hpq,hfz,Aq⟩:=hW
 have nS:=D3.lt
 rw[hv] at hV
 obtain⟨rfl,rfl⟩:=trodVars_none hV
 obtain⟨h1,h2,h3⟩:=hres rfl
 have hbp:zg=p:=by simpa using hpq
 subst hbp
 refine⟨ds,[],zg,[],zg,[],D3,?_,?_,?_,?_,fun h=>by cases h⟩
 ·rw[h1]
  rw[show f.resultTypes.toList=[tb] by rw[D2],show(Value.bool true).resultList f.resultTypes.size=[Value.bool true] by rw[D2];rfl]
  exact trodAll_mk1 (shut_bool hub _)
 ·rw[h2];exact nE hl hb hp hA nS
 ·rw[h3,hv];rfl
 ·exact hb.frame _
theorem XA{Pr:List Value->α->Prop}{eV:Nat->Bool}{vy:Bool}{t e:TypeId}{fuel:Nat}{x:DataW H×List MemPlace}(ht:P.underlying t=some (.slice e))(hc:P.cellsOf e=sz)(iL:0<sz)(CV:∀ n cs y,DataW.trod enc P W 0 eV vy n e cs=some y->cs.length=sz->∃ a:α,Pr cs a)(hv:∃ a len cap,v = .slice a len cap)(h:DataW.trod enc P W 0 eV vy fuel t v.cells.toList=some x):
  ∃(ao:Option Addr) (m cap:Nat) (l:List α),v = .slice ao m cap/\sV [] W v sz Pr l/\l.length<=maxLen:=by
 obtain⟨ao,m,cap,rfl⟩:=hv
 rcases DataW.trod_slice ht h with⟨h0,-⟩ | ⟨a,len,li,BG,eN,n,_,h0,-,-,xS,hm,eW,hels,-,-⟩
 ·simp[Value.cells] at h0
  obtain⟨rfl,rfl,rfl⟩:=h0
  exact⟨none,0,0,[],rfl,sV.nil _ _ _ _,by simp⟩
 ·simp[Value.cells] at h0
  obtain⟨rfl,rfl,rfl⟩:=h0
  have key:∀ i:Fin m,∃(r:List Value) (b:α),r.length=sz/\(∀ j,j<sz->W.cell? ((a.add (i.val*sz)).add j)=r[j]?)/\Pr r b:=by
   intro ⟨i,hi⟩
   have h1:=hels i hi
   have h2:∃ y,BG[i]?=some y:=⟨BG[i],by simp⟩
   obtain⟨y,hy⟩:=h2
   rw[hy,Option.bind_eq_some_iff] at h1
   obtain⟨cs,Ci,hy'⟩:=h1
   obtain⟨-,h3,h4⟩:=World.cells?_some Ci
   rw[hc] at h3
   obtain⟨b,hb⟩:=CV n cs y hy' h3
   exact⟨cs,b,h3,fun j hj=>by rw[<- h4 j (by omega),hc],hb⟩
  have key2:∃ g:Fin m->List Value×α,∀ i,(g i).1.length=sz/\(∀ j,j<sz->W.cell? ((a.add (i.val*sz)).add j)=(g i).1[j]?)/\Pr (g i).1 (g i).2:=
   ⟨fun i=>((key i).choose,(key i).choose_spec.choose),fun i=>(key i).choose_spec.choose_spec⟩
  obtain⟨g,hg⟩:=key2
  refine⟨some a,m,cap,(List.finRange m).map fun i=>(g i).2,rfl,⟨(List.finRange m).map fun i=>(g i).1,⟨⟨some a,cap,by simp,by simpa using xS,hm,fun _=>⟨a,rfl,by simp,?_⟩⟩,?_⟩,by simp,?_⟩,by simp;omega⟩
  ·intro j u hu
   have D0:((List.finRange m).map fun i=>(g i).1).flatten.length=m*sz:=by
    rw[List.length_flatten,List.map_map]
    have:(List.map (List.length ∘ fun i=>(g i).1) (List.finRange m))=List.replicate m sz:=by
     apply List.ext_getElem
     ·simp
     ·intro i h1 h2;simp[(hg _).1]
    rw[this];simp
   have hj:j<m*sz:=by
    have:=(List.getElem?_eq_some_iff.1 hu).1
    omega
   have hq:j / sz<m:=Nat.div_lt_of_lt_mul (by rw[Nat.mul_comm];exact hj)
   have hr:=Nat.mod_lt j iL
   have hrow:((List.finRange m).map fun i=>(g i).1)[j / sz]?=some (g ⟨j / sz,hq⟩).1:=by simp[hq]
   obtain⟨tl,Eg⟩:=iX (sz:=sz) (rows:=(List.finRange m).map fun i=>(g i).1) (fun r hr=>by
    obtain⟨i,_,rfl⟩:=List.mem_map.1 hr;exact(hg i).1) hrow
   have e1:j=j / sz*sz+j % sz:=by rw[Nat.mul_comm];exact(Nat.div_add_mod j sz).symm
   have e2:((List.finRange m).map fun i=>(g i).1).flatten[j]?=(g ⟨j / sz,hq⟩).1[j % sz]?:=by
    have:=congrArg (fun z=>z[j % sz]?) Eg
    simp only[List.getElem?_drop] at this
    rw[<- e1] at this
    rw[this,List.getElem?_append_left (by rw[(hg _).1];exact hr)]
   have h3:=(hg ⟨j / sz,hq⟩).2.1 (j % sz) hr
   rw[<- e2,hu] at h3
   rw[<- h3,Addr.po,<- e1]
  ·intro r hr
   obtain⟨i,_,rfl⟩:=List.mem_map.1 hr
   exact(hg i).1
  ·intro i r x h1 h2
   simp only[List.getElem?_map,Option.map_eq_some_iff] at h1 h2
   obtain⟨k,hk,rfl⟩:=h1
   obtain⟨k',vQ,rfl⟩:=h2
   rw[hk] at vQ
   cases vQ
   exact(hg k).2.2
theorem U9{Pr:List Value->α->Prop}{eV:Nat->Bool}{vy:Bool}{t e:TypeId}{base:Nat}{d:DataW H}{ps:List MemPlace}(ht:P.underlying t=some (.slice e))(hc:P.cellsOf e=sz)(iL:0<sz)(CV:∀ n cs y,DataW.trod enc P W 0 eV vy n e cs=some y->cs.length=sz->∃ a:α,Pr cs a)(tg:Value.okWide P W .any base t v)(h:DataW.Trod enc P W 0 eV vy t v d ps):
  ∃(ao:Option Addr) (m cap:Nat) (l:List α),v = .slice ao m cap/\sV [] W (.slice ao m cap) sz Pr l/\l.length<=maxLen:=by
 obtain⟨fuel,hf⟩:=h
 obtain⟨ao,m,cap,l,rfl,h1,h2⟩:=XA ht hc iL CV (okWide_slice ht tg) hf
 exact⟨ao,m,cap,l,rfl,h1,h2⟩
theorem sV.all{F:List Nat}{w:World}{Pr:List Value->α->Prop}{l:List α}{q:α->Prop}(h:sV F w v sz Pr l)(hq:∀ r x,Pr r x->q x):∀ x∈l,q x:=by
 obtain⟨rows,_,hl,hP⟩:=h
 intro x hx
 obtain⟨i,hi,rfl⟩:=List.getElem_of_mem hx
 exact hq _ _ (hP i rows[i] l[i] (by simp) (by simp))
end
end
end Sep

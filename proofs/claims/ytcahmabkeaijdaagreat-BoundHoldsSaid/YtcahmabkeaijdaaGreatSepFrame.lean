/- A part of this claim's proof: from a walk to a given statement: arguments opened, the state behind the call. No conditions. -/
import Derived.Test.YtcahmabkeaijdaaGreatSepCore
import Derived.WalkKit
import Derived.ProofKit
import Derived.OpenShut
set_option linter.all false
set_option linter.unusedSectionVars false
namespace Sep
open Go Go.RowKit Go.ChangeShapes Go.WideShapes Go.ChangeAt
variable {W:World}{α:Type}{sz:Nat}{v:Value}
variable [Rnd]
section
variable {H:Type} {enc:TypeId×Value->H} {P:Program}
theorem nI(hl:laidOutB P=true){W W':World}(hb:Below W.heap.size W W'):∀ {ts:List TypeId} {vs:List Value} {ds:List (DataW H)} {p:List MemPlace},
  (∀ t∈ts,P.readableRec t=true/\t<P.types.size)->DataW.TrodAll enc P W 0 (fun _=>true) true ts vs ds p->(∀ x∈p,x.block<W.heap.size)->
  DataW.TrodAll enc P W' 0 (fun b=>decide (b<W.heap.size)) true ts vs ds p
 | [],_,_,_,_,h,_=>by obtain⟨rfl,rfl,rfl⟩:=trodAll_nil h;exact trodAll_mk0
 | t::ts,_,_,_,hr,h,nU=>by
  obtain⟨v,vs',d,ds',p,q,rfl,rfl,rfl,h1,h2⟩:=trodAll_cons h
  have ht:=hr t (by simp)
  exact trodAll_cons_mk (Below.trod hl ht.1 ht.2 h1 hb (fun x hx=>nU x (List.mem_append_left _ hx)))
   (nI hl hb (fun t' h'=>hr t' (List.mem_cons_of_mem _ h')) h2 (fun x hx=>nU x (List.mem_append_right _ hx)))
theorem FK{f:Func}{s:ChangeSpec}{Eo:Bool}{W':World}{args:Array Value}{ds gs:List (DataW H)}{zf:List MemPlace}{tb:TypeId}(hl:laidOutB P=true)(AI:(f.params.toList.all fun t=>P.readableRec t&&decide (t<P.types.size))=true)(hv:s.vars=[])(AJ:f.resultTypes = #[tb])(hub:P.underlying tb=some .bool)(hW:DataW.Whole enc P f.params.toList s.vars false W args.toList ds gs zf)(hres:gs=[]->(s.fn H (ds++gs)).results=[.lit (.bool true)]/\(s.fn H (ds++gs)).args=ds/\(s.fn H (ds++gs)).vars=[])(hb:Below W.heap.size W W'):
  s.post enc P f false Eo false false W args (.bool true) W':=by
 have hp:∀ t∈f.params.toList,P.readableRec t=true/\t<P.types.size:=by
  intro t ht
  have:=List.all_eq_true.1 AI t ht
  simpa using this
 have D4:=hW
 obtain⟨p,q,hA,hV,hpq,hfz,Bm⟩:=hW
 have nU:=D4.lt
 rw[hv] at hV
 obtain⟨rfl,rfl⟩:=trodVars_none hV
 obtain⟨h1,h2,h3⟩:=hres rfl
 have hbp:zf=p:=by simpa using hpq
 subst hbp
 refine⟨ds,[],zf,[],zf,[],D4,?_,?_,?_,?_,fun h=>by cases h⟩
 ·rw[h1]
  rw[show f.resultTypes.toList=[tb] by rw[AJ],show(Value.bool true).resultList f.resultTypes.size=[Value.bool true] by rw[AJ];rfl]
  exact trodAll_mk1 (shut_bool hub _)
 ·rw[h2];exact nI hl hb hp hA nU
 ·rw[h3,hv];rfl
 ·exact hb.frame _
theorem XZ{Pr:List Value->α->Prop}{iU:Nat->Bool}{ve:Bool}{t e:TypeId}{fuel:Nat}{x:DataW H×List MemPlace}(ht:P.underlying t=some (.slice e))(hc:P.cellsOf e=sz)(ne:0<sz)(Dp:∀ n cs y,DataW.trod enc P W 0 iU ve n e cs=some y->cs.length=sz->∃ a:α,Pr cs a)(hv:∃ a len cap,v = .slice a len cap)(h:DataW.trod enc P W 0 iU ve fuel t v.cells.toList=some x):
  ∃(ao:Option Addr) (m cap:Nat) (l:List α),v = .slice ao m cap/\rR [] W v sz Pr l/\l.length<=maxLen:=by
 obtain⟨ao,m,cap,rfl⟩:=hv
 rcases DataW.trod_slice ht h with⟨h0,-⟩ | ⟨a,len,n7,BC,eZ,n,_,h0,-,-,qm,hm,jy,hels,-,-⟩
 ·simp[Value.cells] at h0
  obtain⟨rfl,rfl,rfl⟩:=h0
  exact⟨none,0,0,[],rfl,rR.nil _ _ _ _,by simp⟩
 ·simp[Value.cells] at h0
  obtain⟨rfl,rfl,rfl⟩:=h0
  have key:∀ i:Fin m,∃(r:List Value) (b:α),r.length=sz/\(∀ j,j<sz->W.cell? ((a.add (i.val*sz)).add j)=r[j]?)/\Pr r b:=by
   intro ⟨i,hi⟩
   have h1:=hels i hi
   have h2:∃ y,BC[i]?=some y:=⟨BC[i],by simp⟩
   obtain⟨y,hy⟩:=h2
   rw[hy,Option.bind_eq_some_iff] at h1
   obtain⟨cs,Dn,hy'⟩:=h1
   obtain⟨-,h3,h4⟩:=World.cells?_some Dn
   rw[hc] at h3
   obtain⟨b,hb⟩:=Dp n cs y hy' h3
   exact⟨cs,b,h3,fun j hj=>by rw[<- h4 j (by omega),hc],hb⟩
  have key2:∃ g:Fin m->List Value×α,∀ i,(g i).1.length=sz/\(∀ j,j<sz->W.cell? ((a.add (i.val*sz)).add j)=(g i).1[j]?)/\Pr (g i).1 (g i).2:=
   ⟨fun i=>((key i).choose,(key i).choose_spec.choose),fun i=>(key i).choose_spec.choose_spec⟩
  obtain⟨g,hg⟩:=key2
  refine⟨some a,m,cap,(List.finRange m).map fun i=>(g i).2,rfl,⟨(List.finRange m).map fun i=>(g i).1,⟨⟨some a,cap,by simp,by simpa using qm,hm,fun _=>⟨a,rfl,by simp,?_⟩⟩,?_⟩,by simp,?_⟩,by simp;omega⟩
  ·intro j u hu
   have Dk:((List.finRange m).map fun i=>(g i).1).flatten.length=m*sz:=by
    rw[List.length_flatten,List.map_map]
    have:(List.map (List.length ∘ fun i=>(g i).1) (List.finRange m))=List.replicate m sz:=by
     apply List.ext_getElem
     ·simp
     ·intro i h1 h2;simp[(hg _).1]
    rw[this];simp
   have hj:j<m*sz:=by
    have:=(List.getElem?_eq_some_iff.1 hu).1
    omega
   have hq:j / sz<m:=Nat.div_lt_of_lt_mul (by rw[Nat.mul_comm];exact hj)
   have hr:=Nat.mod_lt j ne
   have hrow:((List.finRange m).map fun i=>(g i).1)[j / sz]?=some (g ⟨j / sz,hq⟩).1:=by simp[hq]
   obtain⟨tl,Ej⟩:=eI (sz:=sz) (rows:=(List.finRange m).map fun i=>(g i).1) (fun r hr=>by
    obtain⟨i,_,rfl⟩:=List.mem_map.1 hr;exact(hg i).1) hrow
   have e1:j=j / sz*sz+j % sz:=by rw[Nat.mul_comm];exact(Nat.div_add_mod j sz).symm
   have e2:((List.finRange m).map fun i=>(g i).1).flatten[j]?=(g ⟨j / sz,hq⟩).1[j % sz]?:=by
    have:=congrArg (fun z=>z[j % sz]?) Ej
    simp only[List.getElem?_drop] at this
    rw[<- e1] at this
    rw[this,List.getElem?_append_left (by rw[(hg _).1];exact hr)]
   have h3:=(hg ⟨j / sz,hq⟩).2.1 (j % sz) hr
   rw[<- e2,hu] at h3
   rw[<- h3,Addr.p9,<- e1]
  ·intro r hr
   obtain⟨i,_,rfl⟩:=List.mem_map.1 hr
   exact(hg i).1
  ·intro i r x h1 h2
   simp only[List.getElem?_map,Option.map_eq_some_iff] at h1 h2
   obtain⟨k,hk,rfl⟩:=h1
   obtain⟨k',vV,rfl⟩:=h2
   rw[hk] at vV
   cases vV
   exact(hg k).2.2
theorem Yg{Pr:List Value->α->Prop}{iU:Nat->Bool}{ve:Bool}{t e:TypeId}{base:Nat}{d:DataW H}{ps:List MemPlace}(ht:P.underlying t=some (.slice e))(hc:P.cellsOf e=sz)(ne:0<sz)(Dp:∀ n cs y,DataW.trod enc P W 0 iU ve n e cs=some y->cs.length=sz->∃ a:α,Pr cs a)(Az:Value.okWide P W .any base t v)(h:DataW.Trod enc P W 0 iU ve t v d ps):
  ∃(ao:Option Addr) (m cap:Nat) (l:List α),v = .slice ao m cap/\rR [] W (.slice ao m cap) sz Pr l/\l.length<=maxLen:=by
 obtain⟨fuel,hf⟩:=h
 obtain⟨ao,m,cap,l,rfl,h1,h2⟩:=XZ ht hc ne Dp (okWide_slice ht Az) hf
 exact⟨ao,m,cap,l,rfl,h1,h2⟩
theorem rR.all{F:List Nat}{w:World}{Pr:List Value->α->Prop}{l:List α}{q:α->Prop}(h:rR F w v sz Pr l)(hq:∀ r x,Pr r x->q x):∀ x∈l,q x:=by
 obtain⟨rows,_,hl,hP⟩:=h
 intro x hx
 obtain⟨i,hi,rfl⟩:=List.getElem_of_mem hx
 exact hq _ _ (hP i rows[i] l[i] (by simp) (by simp))
end
end Sep

/- A part of this claim's proof: owned slices as lists of data. No conditions. -/
import Derived.Test.YthjnhebofpebpaaGreatSepCore
import Derived.WalkKit
import Derived.ProofKit
import Derived.OpenShut
set_option linter.all false
namespace Sep
open Go Go.RowKit
section
variable {cs:List Value}{α:Type}{m cap:Nat}
variable [Rnd]
theorem qQ{b k:Nat}:(⟨b,0,none⟩:Addr).add k=⟨b,k,none⟩:=by rw[Addr.add_lit,Nat.zero_add]
theorem iw{α:Type}{enc:α->List Value}{sz:Nat}(hl:∀ x,(enc x).length=sz):∀(l:List α) (i:Nat),i<=l.length->(l.flatMap enc).drop (i*sz)=(l.drop i).flatMap enc
 | _,0,_=>by simp
 | [],i+1,h=>by simp at h
 | x::l,i+1,h=>by
  rw[List.flatMap_cons,Nat.succ_mul,Nat.add_comm,<- hl x,<- List.drop_drop,List.drop_left,hl x]
  simpa using iw hl l i (by simpa using h)
theorem pR{α:Type}{enc:α->List Value}{sz:Nat}(hl:∀ x,(enc x).length=sz):∀(l:List α) (i:Nat),i<=l.length->(l.flatMap enc).take (i*sz)=(l.take i).flatMap enc
 | _,0,_=>by simp
 | [],i+1,h=>by simp at h
 | x::l,i+1,h=>by
  rw[List.flatMap_cons,Nat.succ_mul,Nat.add_comm,<- hl x,List.take_length_add_append,hl x,pR hl l i (by simpa using h)]
  simp
theorem uB{enc:α->List Value}{sz:Nat}(hl:∀ x,(enc x).length=sz)(l:List α):(l.flatMap enc).length=l.length*sz:=by
 induction l with
 | nil=>simp
 | cons x l ih=>rw[List.flatMap_cons,List.length_append,hl,ih,List.length_cons,Nat.succ_mul,Nat.add_comm]
theorem jb[Inhabited α]{enc:α->List Value}{sz:Nat}(hl:∀ x,(enc x).length=sz){l:List α}{i:Int}(h0:0<=i)(h1:i<l.length):
  ∀(j:Nat) (u:Value),(enc (nth l i))[j]?=some u->(l.flatMap enc)[i.toNat*sz+j]?=some u:=by
 intro j u hu
 have hi:i.toNat<l.length:=by omega
 rw[<- List.getElem?_drop,iw hl l i.toNat (by omega),List.drop_eq_getElem_cons hi,List.flatMap_cons,gU h0 h1]
 rw[List.getElem?_append_left (List.getElem?_eq_some_iff.1 hu).1]
 exact hu
theorem WE[Inhabited α]{enc:α->List Value}{sz:Nat}(hl:∀ x,(enc x).length=sz){l:List α}{i:Int}{y:α}{k:Nat}{vs:List Value}(h0:0<=i)(h1:i<l.length)(hy:j7 (enc (nth l i)) k vs=enc y)(hk:k+vs.length<=sz):j7 (l.flatMap enc) (i.toNat*sz+k) vs=(l.set i.toNat y).flatMap enc:=by
 have hi:i.toNat<l.length:=by omega
 obtain⟨m,rfl⟩:∃ m:Nat,i=m:=⟨i.toNat,by omega⟩
 simp only[Int.toNat_natCast] at *
 have e1:l=l.take m++nth l (m:Int)::l.drop (m+1):=by
  rw[<- gU (Int.natCast_nonneg m) h1]
  simp
 have jo:(l.take m).length=m:=by simp;omega
 have e2:l.set m y=l.take m++y::l.drop (m+1):=by
  rw[List.set_eq_take_append_cons_drop,if_pos hi]
 have e3:((l.take m).flatMap enc).length=m*sz:=by rw[uB hl,jo]
 rw[e2,List.flatMap_append,List.flatMap_cons,<- hy]
 have e4:l.flatMap enc=(l.take m).flatMap enc++(enc (nth l (m:Int))++(l.drop (m+1)).flatMap enc):=by
  conv=>lhs;rw[e1,List.flatMap_append,List.flatMap_cons]
 rw[e4]
 unfold j7
 have hz:(enc (nth l (m:Int))).length=sz:=hl _
 rw[<- e3,List.take_length_add_append,List.take_append_of_le_length (by omega),Nat.add_assoc,List.drop_length_add_append,List.drop_append_of_le_length (by omega)]
 simp[List.append_assoc]
def bC(F:List Nat)(w w':World):Prop:=w.heap.size<=w'.heap.size/\∀ k,k<w.heap.size->k∉F->w'.heap[k]?=w.heap[k]?
theorem bC.refl(F:List Nat)(w:World):bC F w w:=⟨Nat.le_refl _,fun _ _ _=>rfl⟩
theorem bC.trans{F:List Nat}{a b c:World}(h:bC F a b)(k:bC [] b c):bC F a c:=
 ⟨Nat.le_trans h.1 k.1,fun i hi hf=>(k.2 i (Nat.lt_of_lt_of_le hi h.1) (by simp)).trans (h.2 i hi hf)⟩
theorem qj.keep{F:List Nat}{w w':World}{A:Addr}(h:qj F w A cs)(k:bC F w w'):qj [] w' A cs:=by
 refine⟨by simp,fun j u hu=>?_⟩
 have h1:=h.2 j u hu
 rw[<- h1]
 refine World.cell?_of_block (k.2 _ (block_lt_of_cell h1) ?_)
 rw[Addr.uP];exact h.1
section
variable {P:Program} {n:Nat} {F:List Nat} {w₀:World} {env:List (Nat×Value)} {L Lc Lr R:List Asrt} {eA:Array Oper} {Q:Exit->Act->World->Prop} {fi l:List Oper}
 {dd:Nat} {d:Option Tmp} {ty:TypeId} {pos:String} {after:Array Edge} {g:Option (Nat×Bool)} {x y:Operand} {v u:Value} {t e T:TypeId} {sz pm:Nat}
theorem Hp.vJ{w:World}{ao:Option Addr}(hm:Pick L (row (.slice ao m cap) e sz cs) R)(h:Hp F w₀ w L)(oH:m≠0):∃ b,ao=some ⟨b,0,none⟩:=by
 rcases(h.rowShape hm).2.2.2 with⟨_,h0,_⟩ | h0
 ·exact absurd h0 oH
 ·exact h0
theorem b6{b i c:Nat}{ao:Option Addr}{ds:List Value}{z:Value}(ht:elT P t e sz pm)(hz:qc P e z)(hx:eo env x=some (.slice ao (m-i) c))(hao:ao=(if cap=i then some ⟨b,0,none⟩ else(some ⟨b,0,none⟩:Option Addr).map (·.add (i*sz))))(hi:i<=m)(h1:∀ u∈(Builtin.zeroCells z.cells (m-i)).toList,u.oneCell'=true)(hm:Pick L (row (.slice (some ⟨b,0,none⟩) m cap) e sz cs) R)(AK:cs.take (i*sz)++(Builtin.zeroCells z.cells (m-i)).toList=ds):
  iu P n F w₀ env L ⟨none,.call ⟨.builtin .clear,#[x],#[t]⟩,ty,pos,after,g⟩ (row (.slice (some ⟨b,0,none⟩) m cap) e sz ds::R):=by
 intro a w h
 obtain⟨xN,AQ,_,_⟩:=h.hp.rowShape hm
 obtain⟨inf,z',hinf,il,lA,_,Cc⟩:=ht.inf
 have hzz:z=z':=by
  have:=congrFun hz w
  simp[zeroValue,typeInfo,hinf,il] at this
  exact this.symm
 have hzl:(Builtin.zeroCells z.cells (m-i)).toList.length=(m-i)*sz:=by rw[hzz];simp[size_zeroCells,Cc]
 have hmi:m*sz=i*sz+(m-i)*sz:=by rw[<- Nat.add_mul];congr 1;omega
 by_cases h0:m-i=0
 ·refine⟨w,.inr ⟨.tuple #[],?_⟩,?_⟩
  ·have hx':eo env x=some (.slice ao 0 c):=by rw[hx,h0]
   cases ao <;> simp[execOp,h.eval hx',resolve,invoke,builtin,Builtin.clear_,run_underlying ht.sl]
  ·have:ds=cs:=by
    rw[<- AK,h0]
    have:m=i:=by omega
    subst this
    simp[Builtin.zeroCells,<- xN]
   rw[this];exact h.hp.front hm
 ·have oH:cap≠i:=by omega
  simp only[oH,if_false,Option.map_some,qQ] at hao
  subst hao
  obtain⟨w',lu,hp⟩:=h.hp.rowPut (P:=P) (vs:=(Builtin.zeroCells z.cells (m-i)).toList) (off:=i*sz) h1 hm (by omega)
  refine⟨w',.inr ⟨.tuple #[],?_⟩,?_⟩
  ·have hzr:=congrFun hz w
   obtain⟨j,hj⟩:∃ j,m-i=j+1:=⟨m-i-1,by omega⟩
   rw[hj] at hx lu
   simp[execOp,h.eval hx,resolve,invoke,builtin,Builtin.clear_,run_underlying ht.sl,hzr,lu]
  ·have:j7 cs (i*sz) (Builtin.zeroCells z.cells (m-i)).toList=ds:=by
    rw[<- AK,j7,List.drop_eq_nil_of_le (by omega),List.append_nil]
   rw[<- this];exact hp
theorem WL.rowHi{b i:Nat}{hx':Operand}{kk:IntKind}{q:Int}(hg:gd env eA ⟨some dd,.slice t x none (some hx') none,ty,pos,after,g⟩=some true)(iR:Nat.blt dd n=true)(ht:elT P t e sz pm)(hx:eo env x=some (.slice (some ⟨b,0,none⟩) m cap))(hh:eo env hx'=some (.int kk q))(hm:Pick L (row (.slice (some ⟨b,0,none⟩) m cap) e sz cs) R)(hq:q=i)(hi:i<=m)(k:WL P n F w₀ eA Q fi ((dd,.slice (some ⟨b,0,none⟩) i cap)::env) (row (.slice (some ⟨b,0,none⟩) i cap) e sz (cs.take (i*sz))::R)):
  WL P n F w₀ eA Q (⟨some dd,.slice t x none (some hx') none,ty,pos,after,g⟩::fi) env L:=by
 refine Kf (fun w h=>h.rowShape hm) fun hs=>?_
 obtain⟨xN,AQ,Cs,_⟩:=hs
 have hv:(if cap=0 then(some ⟨b,0,none⟩:Option Addr) else(some ⟨b,0,none⟩:Option Addr).map (·.add (0*sz)))=some ⟨b,0,none⟩:=by split <;> simp[Addr.add]
 refine WL.a hg rfl iR (uR (lo:=0) (hi:=i) ht hx (lv:=none) (hv:=some (.int kk q)) (fun _ _ _=>rfl) (fun a w h=>by rw[Option.map_some,h.eval hh]) rfl hq (by omega) (by omega) (by simp)) ?_
 rw[hv,Nat.sub_zero,Nat.sub_zero]
 intro a w h
 refine k a w (h.world ((h.hp.front hm).upd (x:=row (.slice (some ⟨b,0,none⟩) m cap) e sz cs) (y:=row (.slice (some ⟨b,0,none⟩) i cap) e sz (cs.take (i*sz))) .here rfl ⟨rfl,Nat.le_refl _⟩ rfl (Nat.le_refl _) (fun _ _ _=>rfl) ?_ ?_))
 ·obtain⟨m',fh⟩:=h.hp.ok _ hm.mem
  rcases fh.2 with⟨zz,_⟩ | ⟨b0,lw,lB,zz,Cr,CO,zY,zk,zQ,As⟩
  ·cases zz
  injection zz with e1 e2 e3
  injection e1 with e1
  injection e1 with e1
  subst e1 e2 e3
  have hmi:i*sz<=m*sz:=Nat.mul_le_mul_right _ hi
  refine⟨i,by simp;omega,.inr ⟨b,cap,lB,rfl,Cr,CO,by omega,zk,zQ,?_⟩⟩
  rw[<- As,List.take_take];congr 1;omega
 ·intro b' hb'
  simp[row,Value.ownBlock] at hb'
  subst hb'
  have:=h.hp.lt _ hm.mem b' (by simp[row,Value.ownBlock])
  exact⟨this,.inl (by simp[row,Value.ownBlock])⟩
end
end
section
variable {α:Type}{zc:Array Value}
variable [Rnd]
theorem rp{α:Type}{enc:α->List Value}{sz:Nat}(hl:∀ x,(enc x).length=sz)(lA:0<sz):∀(l:List α) (i:Nat),(l.flatMap enc)[i]?=(l[i / sz]?).bind (fun x=>(enc x)[i % sz]?)
 | [],i=>by simp
 | x::l,i=>by
  rw[List.flatMap_cons]
  by_cases h:i<sz
  ·rw[List.getElem?_append_left (by rw[hl];exact h),Nat.div_eq_of_lt h,Nat.mod_eq_of_lt h]
   simp
  ·rw[List.getElem?_append_right (by rw[hl];omega),hl,rp hl lA l]
   have h1:i / sz=(i-sz) / sz+1:=by rw[Nat.div_eq_sub_div lA (by omega)]
   have h2:i % sz=(i-sz) % sz:=by rw[Nat.mod_eq_sub_mod (by omega)]
   rw[h1,h2]
   simp
theorem ox{enc:α->List Value}{sz:Nat}{z0:α}(hl:∀ x,(enc x).length=sz)(lA:0<sz)(hz:zc=(enc z0).toArray)(k:Nat):
  (Builtin.zeroCells zc k).toList=(List.replicate k z0).flatMap enc:=by
 subst hz
 apply List.ext_getElem?
 intro i
 rw[rp hl lA]
 simp only[Builtin.zeroCells,Array.getElem?_toList,Array.getElem?_map,List.size_toArray,hl,List.getElem?_replicate]
 have hm:i % sz<sz:=Nat.mod_lt _ lA
 by_cases h:i<k*sz
 ·have h1:i / sz<k:=(Nat.div_lt_iff_lt_mul lA).2 h
  have h2:(Array.range (k*sz))[i]?=some i:=by simp[h]
  rw[h2,if_pos h1]
  have h3:i % sz<(enc z0).length:=by rw[hl];exact hm
  simp[h3]
 ·have h1:¬i / sz<k:=fun hc=>h ((Nat.div_lt_iff_lt_mul lA).1 hc)
  have h2:(Array.range (k*sz))[i]?=none:=by simp;omega
  rw[h2,if_neg h1];rfl
theorem X4{enc:α->List Value}{sz:Nat}{z0:α}{l:List α}{i k:Nat}(hl:∀ x,(enc x).length=sz)(lA:0<sz)(hz:zc=(enc z0).toArray)(hi:i<=l.length):
  (l.flatMap enc).take (i*sz)++(Builtin.zeroCells zc k).toList=(l.take i++List.replicate k z0).flatMap enc:=by
 rw[pR hl l i hi,ox hl lA hz,List.flatMap_append]
theorem Yz{enc:α->List Value}{sz:Nat}{z0:α}{k:Nat}(hl:∀ x,(enc x).length=sz)(lA:0<sz)(hz:zc=(enc z0).toArray)(ho:∀ x,∀ u∈enc x,u.oneCell'=true):
  ∀ u∈(Builtin.zeroCells zc k).toList,u.oneCell'=true:=by
 rw[ox hl lA hz];exact gr ho _
section
variable {P:Program} {n:Nat} {F:List Nat} {w₀:World} {env:List (Nat×Value)} {L Lc Lr R:List Asrt} {eA:Array Oper} {Q:Exit->Act->World->Prop} {fi l:List Oper}
 {dd:Nat} {d:Option Tmp} {ty:TypeId} {pos:String} {after:Array Edge} {g:Option (Nat×Bool)} {x y:Operand} {v u:Value} {t e T:TypeId} {sz pm:Nat}
end
end
end Sep
namespace Sep
open Go Go.RowKit Go.ChangeShapes Go.WideShapes Go.ChangeAt
section
variable {W:World}{α:Type}{sz:Nat}{v:Value}
variable [Rnd]
section
variable {H:Type} {enc:TypeId×Value->H} {P:Program}
theorem lU(hl:laidOutB P=true){W W':World}(hb:Below W.heap.size W W'):∀ {ts:List TypeId} {vs:List Value} {ds:List (DataW H)} {p:List MemPlace},
  (∀ t∈ts,P.readableRec t=true/\t<P.types.size)->DataW.TrodAll enc P W 0 (fun _=>true) true ts vs ds p->(∀ x∈p,x.block<W.heap.size)->
  DataW.TrodAll enc P W' 0 (fun b=>decide (b<W.heap.size)) true ts vs ds p
 | [],_,_,_,_,h,_=>by obtain⟨rfl,rfl,rfl⟩:=trodAll_nil h;exact trodAll_mk0
 | t::ts,_,_,_,hr,h,mL=>by
  obtain⟨v,vs',d,ds',p,q,rfl,rfl,rfl,h1,h2⟩:=trodAll_cons h
  have ht:=hr t (by simp)
  exact trodAll_cons_mk (Below.trod hl ht.1 ht.2 h1 hb (fun x hx=>mL x (List.mem_append_left _ hx)))
   (lU hl hb (fun t' h'=>hr t' (List.mem_cons_of_mem _ h')) h2 (fun x hx=>mL x (List.mem_append_right _ hx)))
theorem XG{f:Func}{s:ChangeSpec}{Dx:Bool}{W':World}{args:Array Value}{ds gs:List (DataW H)}{zm:List MemPlace}{tb:TypeId}(hl:laidOutB P=true)(z2:(f.params.toList.all fun t=>P.readableRec t&&decide (t<P.types.size))=true)(hv:s.vars=[])(hrt:f.resultTypes = #[tb])(hub:P.underlying tb=some .bool)(hW:DataW.Whole enc P f.params.toList s.vars false W args.toList ds gs zm)(hres:gs=[]->(s.fn H (ds++gs)).results=[.lit (.bool true)]/\(s.fn H (ds++gs)).args=ds/\(s.fn H (ds++gs)).vars=[])(hb:Below W.heap.size W W'):
  s.post enc P f false Dx false false W args (.bool true) W':=by
 have hp:∀ t∈f.params.toList,P.readableRec t=true/\t<P.types.size:=by
  intro t ht
  have:=List.all_eq_true.1 z2 t ht
  simpa using this
 have Dc:=hW
 obtain⟨p,q,hA,hV,hpq,hfz,Dy⟩:=hW
 have mL:=Dc.lt
 rw[hv] at hV
 obtain⟨rfl,rfl⟩:=trodVars_none hV
 obtain⟨h1,h2,h3⟩:=hres rfl
 have hbp:zm=p:=by simpa using hpq
 subst hbp
 refine⟨ds,[],zm,[],zm,[],Dc,?_,?_,?_,?_,fun h=>by cases h⟩
 ·rw[h1]
  rw[show f.resultTypes.toList=[tb] by rw[hrt],show(Value.bool true).resultList f.resultTypes.size=[Value.bool true] by rw[hrt];rfl]
  exact trodAll_mk1 (shut_bool hub _)
 ·rw[h2];exact lU hl hb hp hA mL
 ·rw[h3,hv];rfl
 ·exact hb.frame _
theorem d6{Pr:List Value->α->Prop}{f6:Nat->Bool}{kA:Bool}{t e:TypeId}{fuel:Nat}{x:DataW H×List MemPlace}(ht:P.underlying t=some (.slice e))(hc:P.cellsOf e=sz)(lA:0<sz)(Dz:∀ n cs y,DataW.trod enc P W 0 f6 kA n e cs=some y->cs.length=sz->∃ a:α,Pr cs a)(hv:∃ a len cap,v = .slice a len cap)(h:DataW.trod enc P W 0 f6 kA fuel t v.cells.toList=some x):
  ∃(ao:Option Addr) (m cap:Nat) (l:List α),v = .slice ao m cap/\gO [] W v sz Pr l/\l.length<=maxLen:=by
 obtain⟨ao,m,cap,rfl⟩:=hv
 rcases DataW.trod_slice ht h with⟨h0,-⟩ | ⟨a,len,lw,Bu,fi,n,_,h0,-,-,zZ,hm,jo,hels,-,-⟩
 ·simp[Value.cells] at h0
  obtain⟨rfl,rfl,rfl⟩:=h0
  exact⟨none,0,0,[],rfl,gO.nil _ _ _ _,by simp⟩
 ·simp[Value.cells] at h0
  obtain⟨rfl,rfl,rfl⟩:=h0
  have key:∀ i:Fin m,∃(r:List Value) (b:α),r.length=sz/\(∀ j,j<sz->W.cell? ((a.add (i.val*sz)).add j)=r[j]?)/\Pr r b:=by
   intro ⟨i,hi⟩
   have h1:=hels i hi
   have h2:∃ y,Bu[i]?=some y:=⟨Bu[i],by simp⟩
   obtain⟨y,hy⟩:=h2
   rw[hy,Option.bind_eq_some_iff] at h1
   obtain⟨cs,Cd,hy'⟩:=h1
   obtain⟨-,h3,h4⟩:=World.cells?_some Cd
   rw[hc] at h3
   obtain⟨b,hb⟩:=Dz n cs y hy' h3
   exact⟨cs,b,h3,fun j hj=>by rw[<- h4 j (by omega),hc],hb⟩
  have key2:∃ g:Fin m->List Value×α,∀ i,(g i).1.length=sz/\(∀ j,j<sz->W.cell? ((a.add (i.val*sz)).add j)=(g i).1[j]?)/\Pr (g i).1 (g i).2:=
   ⟨fun i=>((key i).choose,(key i).choose_spec.choose),fun i=>(key i).choose_spec.choose_spec⟩
  obtain⟨g,hg⟩:=key2
  refine⟨some a,m,cap,(List.finRange m).map fun i=>(g i).2,rfl,⟨(List.finRange m).map fun i=>(g i).1,⟨⟨some a,cap,by simp,by simpa using zZ,hm,fun _=>⟨a,rfl,by simp,?_⟩⟩,?_⟩,by simp,?_⟩,by simp;omega⟩
  ·intro j u hu
   have Db:((List.finRange m).map fun i=>(g i).1).flatten.length=m*sz:=by
    rw[List.length_flatten,List.map_map]
    have:(List.map (List.length ∘ fun i=>(g i).1) (List.finRange m))=List.replicate m sz:=by
     apply List.ext_getElem
     ·simp
     ·intro i h1 h2;simp[(hg _).1]
    rw[this];simp
   have hj:j<m*sz:=by
    have:=(List.getElem?_eq_some_iff.1 hu).1
    omega
   have hq:j / sz<m:=Nat.div_lt_of_lt_mul (by rw[Nat.mul_comm];exact hj)
   have hr:=Nat.mod_lt j lA
   have hrow:((List.finRange m).map fun i=>(g i).1)[j / sz]?=some (g ⟨j / sz,hq⟩).1:=by simp[hq]
   obtain⟨tl,Dr⟩:=rJ (sz:=sz) (rows:=(List.finRange m).map fun i=>(g i).1) (fun r hr=>by
    obtain⟨i,_,rfl⟩:=List.mem_map.1 hr;exact(hg i).1) hrow
   have e1:j=j / sz*sz+j % sz:=by rw[Nat.mul_comm];exact(Nat.div_add_mod j sz).symm
   have e2:((List.finRange m).map fun i=>(g i).1).flatten[j]?=(g ⟨j / sz,hq⟩).1[j % sz]?:=by
    have:=congrArg (fun z=>z[j % sz]?) Dr
    simp only[List.getElem?_drop] at this
    rw[<- e1] at this
    rw[this,List.getElem?_append_left (by rw[(hg _).1];exact hr)]
   have h3:=(hg ⟨j / sz,hq⟩).2.1 (j % sz) hr
   rw[<- e2,hu] at h3
   rw[<- h3,Addr.ux,<- e1]
  ·intro r hr
   obtain⟨i,_,rfl⟩:=List.mem_map.1 hr
   exact(hg i).1
  ·intro i r x h1 h2
   simp only[List.getElem?_map,Option.map_eq_some_iff] at h1 h2
   obtain⟨k,hk,rfl⟩:=h1
   obtain⟨k',AH,rfl⟩:=h2
   rw[hk] at AH
   cases AH
   exact(hg k).2.2
theorem Vt{Pr:List Value->α->Prop}{f6:Nat->Bool}{kA:Bool}{t e:TypeId}{base:Nat}{d:DataW H}{ps:List MemPlace}(ht:P.underlying t=some (.slice e))(hc:P.cellsOf e=sz)(lA:0<sz)(Dz:∀ n cs y,DataW.trod enc P W 0 f6 kA n e cs=some y->cs.length=sz->∃ a:α,Pr cs a)(zP:Value.okWide P W .any base t v)(h:DataW.Trod enc P W 0 f6 kA t v d ps):
  ∃(ao:Option Addr) (m cap:Nat) (l:List α),v = .slice ao m cap/\gO [] W (.slice ao m cap) sz Pr l/\l.length<=maxLen:=by
 obtain⟨fuel,hf⟩:=h
 obtain⟨ao,m,cap,l,rfl,h1,h2⟩:=d6 ht hc lA Dz (okWide_slice ht zP) hf
 exact⟨ao,m,cap,l,rfl,h1,h2⟩
theorem gO.all{F:List Nat}{w:World}{Pr:List Value->α->Prop}{l:List α}{q:α->Prop}(h:gO F w v sz Pr l)(hq:∀ r x,Pr r x->q x):∀ x∈l,q x:=by
 obtain⟨rows,_,hl,hP⟩:=h
 intro x hx
 obtain⟨i,hi,rfl⟩:=List.getElem_of_mem hx
 exact hq _ _ (hP i rows[i] l[i] (by simp) (by simp))
end
end
end Sep

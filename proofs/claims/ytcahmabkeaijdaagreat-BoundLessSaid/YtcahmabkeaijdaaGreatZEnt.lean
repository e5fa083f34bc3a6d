/- A part of this claim's proof: models of functions, walks, plain laws. No conditions. -/
import Derived.Test.YtcahmabkeaijdaaGreatZMem
set_option linter.all false
namespace Sep
open Go Go.RowKit
/-! ### 'm[k] op= v': the entry is made sure of, and stored to by its stamp -/
section ent
variable {κ α:Type} [DecidableEq κ]
def mapE(b:Nat)(ek:κ→Value)(ev:α→Value)(l:List (κ×α))(k:κ)(s:Nat):Asrt where
 fp:=[b]
 ok w:=∃ es clock i e,w.heap[b]?=some (.map es clock)∧es.toList.map (fun e=>(e.key,e.val))=l.map (fun p=>(ek p.1,ev p.2))∧y6d es clock∧
  ((l.map (·.1)).findIdx? fun k'=>decide (k=k'))=some i∧es[i]?=some e∧e.born=s
 loc w w' h hl hk:=by
  obtain⟨es,clock,i,e,h1,h2⟩:=hk
  exact⟨es,clock,i,e,by rw[h b (by simp) (hl b (by simp))];exact h1,h2⟩
variable [Rnd]
variable {P:Program} {n:Nat} {F:List Nat} {w₀:World} {env:List (Nat×Value)} {L R:List Asrt} {d:Option Tmp} {ty:TypeId} {pos:String} {after:Array Edge} {g:Option (Nat×Bool)} {x y z:Operand} {t kt e:TypeId}
 {ek:κ→Value} {ev:α→Value} {l:List (κ×α)} {b:Nat} {k:κ} {v dflt:α} {zv:Value}
theorem Hp.setMapG{w:World}{X Y:Asrt}{o:Obj}(h:Hp F w₀ w L)(hm:Pick L X R)(hX:X.fp=[b])(hY:Y.fp=[b])(hok:∀ w',w'.heap[b]?=some o→Y.ok w'):
  Hp F w₀ { w with heap:=w.heap.setIfInBounds b o } (Y::R):=by
 have hlt:b<w.heap.size:=(h.front hm).lt _ (List.mem_cons_self ..) b (by simp[hX])
 refine(h.front hm).upd (x:=X) (y:=Y) .here rfl ⟨rfl,Nat.le_refl _⟩ rfl (by simp) (fun k _ hk'=>?_) (hok _ (by simp[hlt])) ?_
 ·have:b≠k:=fun e=>hk' (by simp[hX,e])
  simp[Array.getElem?_setIfInBounds,this]
 ·intro b' hb'
  rw[hY] at hb'
  simp only[List.mem_singleton] at hb'
  subst hb'
  exact⟨by simpa using hlt,.inl (by simp[hX])⟩
theorem yep{γ:Type}{k:κ}{u v:γ}:∀ {l:List (κ×γ)},yE (yE l k u) k v=yE l k v
 | []=>by simp[yE]
 | p::l=>by
  by_cases hk:k=p.1
  ·subst hk;simp[yE]
  ·simp only[yE,hk,if_false];rw[yep]
theorem ycE{k:κ}:∀ {l:List κ},(l.findIdx? fun k'=>decide (k=k'))=none→((l++[k]).findIdx? fun k'=>decide (k=k'))=some l.length
 | [],_=>by simp
 | a::l,h=>by
  rw[List.findIdx?_cons] at h
  rw[List.cons_append,List.findIdx?_cons]
  by_cases hk:k=a
  ·subst hk;simp at h
  ·simp only[hk,decide_false,Bool.false_eq_true,if_false,Option.map_eq_none_iff] at h ⊢
   rw[ycE h];rfl
theorem ygN(K:KeyT P kt ek)(ht:P.underlying t=some (.map kt e))(hz:y2Q P e zv)(hd:zv=ev dflt)(hx:eo env x=some (.map (some b)))(hy:eo env y=some (ek k))(hm:Pick L (yA b ek ev l) R):
  Ef P n F w₀ env L ⟨d,.mapEntry t x y,ty,pos,after,g⟩ (fun _:Nat=>True) (fun s => .tuple #[ev (yd l k dflt),.int .i64 ((s:Nat):Int)]) (fun s=>mapE b ek ev (yE l k (yd l k dflt)) k s::R):=by
 intro a w h
 obtain⟨es,clock,hb,he,hst⟩:=h.hp.ok _ hm.mem
 have h1:=K.find k es.toList (l.map (·.1)) w (yag he)
 have h2:=y9R (ek:=ek) (ev:=ev) (k:=k) (d:=dflt) l es.toList he
 have h3:=ybz (k:=k) l
 have hzw:=congrFun hz w
 cases hf:(l.map (·.1)).findIdx? (fun k'=>decide (k=k')) with
 | none=>
  rw[hf] at h1 h2 h3
  simp only[Option.map_none] at h1 h2
  refine⟨clock,{ w with heap:=w.heap.setIfInBounds b (.map (es.push { key:=ek k,val:=ev dflt,born:=clock }) (clock+1)) },?_,trivial,?_⟩
  ·simp[execOp,h.eval hx,h.eval hy,Instr.mapEntry,Sem.run_bind,run_underlying ht,Result.andThen,MapKept.run_getObj_map hb,K.chk,h1,hzw,hd,MapKept.run_setObj_map _ hb,goInt,← h2]
  ·refine h.hp.setMapG (X:=yA b ek ev l) hm rfl rfl (fun w' hw'=>⟨_,_,l.length,{ key:=ek k,val:=ev dflt,born:=clock },hw',?_,hst.push _ _,?_,?_,rfl⟩)
   ·rw[y8v l hf]
    have:ev (yd l k dflt)=ev dflt:=h2.symm
    simp[he,this]
   ·rw[y8v l hf,List.map_append]
    simpa using ycE hf
   ·have hl:es.size=l.length:=by have:=congrArg List.length he;simpa using this
    rw[← hl];simp
 | some i=>
  rw[hf] at h1 h2 h3
  obtain⟨i1,i2,i3⟩:=y8u (v:=yd l k dflt) l es.toList i he hf
  have i1':i<es.size:=by simpa using i1
  have e0:es[i]?=some es[i]:=Array.getElem?_eq_getElem i1'
  have hk0:es[i].key=ek k:=by
   rw[Array.getElem?_toList,e0] at i2;simpa using i2
  have hv0:es[i].val=ev (yd l k dflt):=by
   simp only[Option.map_some] at h2
   rw[Array.getElem?_toList,e0] at h2;simpa using h2
  refine⟨es[i].born,{ w with heap:=w.heap.setIfInBounds b (.map (es.modify i fun e=>{ e with key:=ek k }) clock) },?_,trivial,?_⟩
  ·simp[execOp,h.eval hx,h.eval hy,Instr.mapEntry,Sem.run_bind,run_underlying ht,Result.andThen,MapKept.run_getObj_map hb,K.chk,h1,e0,hk0,K.stays,MapKept.run_setObj_map _ hb,goInt,hv0]
  ·have hmod:(es.modify i fun e=>{ e with key:=ek k })=es:=by
    apply Array.ext_getElem?
    intro j
    rw[Array.getElem?_modify]
    by_cases hij:i=j
    ·subst hij;rw[e0];simp[← hk0]
    ·simp[hij]
   have hs:yE l k (yd l k dflt)=l:=ybF (d:=dflt) (by rw[← h3];rfl) rfl
   rw[hmod,hs]
   exact h.hp.setMapG (X:=yA b ek ev l) hm rfl rfl (fun w' hw'=>⟨es,clock,i,es[i],hw',he,hst,hf,e0,rfl⟩)
theorem yhp{es:Array MapEntry}{i:Nat}{e0:MapEntry}(hn:(es.toList.map (·.born)).Nodup)(h:es[i]?=some e0):es.findIdx? (fun e=>((e.born:Nat):Int) == ((e0.born:Nat):Int))=some i:=by
 rw[Array.findIdx?_eq_some_iff_getElem]
 obtain⟨hi,h1⟩:=Array.getElem?_eq_some_iff.1 h
 refine⟨hi,by simp[h1],?_⟩
 intro j hj
 simp only[beq_iff_eq]
 intro hc
 have hji:j<es.size:=by omega
 have hc':es[j].born=e0.born:=Int.ofNat.inj hc
 have h2:=(List.pairwise_iff_getElem.1 hn) j i (by simpa using hji) (by simpa using hi) hj
 apply h2
 simp[hc',h1]
theorem yf9{vv:Value}{s:Nat}(hx:eo env x=some (.map (some b)))(hy:eo env y=some (.int .i64 ((s:Nat):Int)))(hv:eo env z=some vv)(hvv:vv=ev v)(hm:Pick L (mapE b ek ev l k s) R):
  Ef0 P n F w₀ env L ⟨none,.entryStore t x y z,ty,pos,after,g⟩ (yA b ek ev (yE l k v)::R):=by
 intro a w h
 subst hvv
 obtain⟨es,clock,i,e0,hb,he,hst,hf,hi,rfl⟩:=h.hp.ok _ hm.mem
 have hfi:=yhp hst.2 hi
 obtain⟨i1,i2,i3⟩:=y8u (v:=v) l es.toList i he hf
 have hk0:e0.key=ek k:=by rw[Array.getElem?_toList,hi] at i2;simpa using i2
 refine⟨{ w with heap:=w.heap.setIfInBounds b (.map (es.modify i fun e=>{ e with val:=ev v }) clock) },.inl ?_,?_⟩
 ·simp[execOp,h.eval hx,h.eval hy,h.eval hv,Instr.entryStore,Sem.run_bind,Result.andThen,MapKept.run_getObj_map hb,asInt,asIntOf,hfi,MapKept.run_setObj_map _ hb]
 ·refine h.hp.setMapG (X:=mapE b ek ev l k e0.born) hm rfl rfl (fun w' hw'=>⟨_,_,hw',?_,hst.modify _ _ (fun _=>rfl)⟩)
  rw[← i3,Array.toList_modify]
  apply List.ext_getElem?
  intro j
  simp only[List.getElem?_map,List.getElem?_modify]
  by_cases hij:i=j
  ·subst hij
   rw[Array.getElem?_toList,hi]
   simp[hk0]
  ·simp[hij]
theorem yeP{vv:Value}{s:Nat}{u:α}(hx:eo env x=some (.map (some b)))(hy:eo env y=some (.int .i64 ((s:Nat):Int)))(hv:eo env z=some vv)(hvv:vv=ev v)(hm:Pick L (mapE b ek ev (yE l k u) k s) R):
  Ef0 P n F w₀ env L ⟨none,.entryStore t x y z,ty,pos,after,g⟩ (yA b ek ev (yE l k v)::R):=by
 have:=yf9 (P:=P) (n:=n) (F:=F) (w₀:=w₀) (L:=L) (env:=env) (t:=t) (ty:=ty) (pos:=pos) (after:=after) (g:=g) (v:=v) hx hy hv hvv hm
 rwa [yep] at this
def ydb(b:Nat)(ek:κ→Value)(ev:α→Value)(k:κ)(d v:α):Asrt where
 fp:=[b]
 ok w:=∃ l,(yA b ek ev l).ok w∧yd l k d=v
 loc w w' h hl hk:=by
  obtain⟨l,h1,h2⟩:=hk
  exact⟨l,(yA b ek ev l).loc w w' h hl h1,h2⟩
theorem y6K{w:World}{d:α}(h:(yA b ek ev l).ok w):(ydb b ek ev k d (yd l k d)).ok w:=⟨l,h,rfl⟩
theorem yeq{γ:Type}{k:κ}{u d:γ}:∀ {l:List (κ×γ)},yd (yE l k u) k d=u
 | []=>by simp[yE,yd]
 | p::l=>by
  by_cases hk:k=p.1
  ·subst hk;simp[yE,yd]
  ·simp only[yE,hk,if_false,yd];exact yeq
theorem yhq{w:World}{d:α}{s:Nat}(h:(mapE b ek ev (yE l k (yd l k d)) k s).ok w):(ydb b ek ev k d (yd l k d)).ok w:=by
 obtain⟨es,clock,i,e,h1,h2,h3,_⟩:=h
 exact⟨_,⟨es,clock,h1,h2,h3⟩,yeq⟩
theorem yer{u:α}(K:KeyT P kt ek)(ht:P.underlying t=some (.map kt e))(hz:y2Q P e zv)(hd:zv=ev dflt)(hx:eo env x=some (.map (some b)))(hy:eo env y=some (ek k))(hm:Pick L (ydb b ek ev k dflt u) R):
  Qt P n F w₀ env L ⟨d,.lookup t x y false,ty,pos,after,g⟩ (ev u):=by
 intro a w h
 obtain⟨l,h1,h2⟩:=h.hp.ok _ hm.mem
 have hp':=h.hp.front hm
 have h3:Hp F w₀ w (yA b ek ev l::R):=by
  refine⟨hp'.os,hp'.tape,hp'.output,hp'.size,hp'.block,fun y hy=>?_,fun y hy c hc=>?_,fun y hy c hc=>?_,List.pairwise_cons.2 (List.pairwise_cons.1 hp'.sep)⟩
  ·rcases List.mem_cons.1 hy with rfl | hy
   ·exact h1
   ·exact hp'.ok y (List.mem_cons_of_mem _ hy)
  ·rcases List.mem_cons.1 hy with rfl | hy
   ·exact hp'.lt _ (List.mem_cons_self ..) c hc
   ·exact hp'.lt y (List.mem_cons_of_mem _ hy) c hc
  ·rcases List.mem_cons.1 hy with rfl | hy
   ·exact hp'.ow _ (List.mem_cons_self ..) c hc
   ·exact hp'.ow y (List.mem_cons_of_mem _ hy) c hc
 subst h2
 exact y3r K ht hz hd hx hy .here a w (h.world h3)
end ent
theorem WD.oldQ[Rnd]{P:Program}{n dd:Nat}{F:List Nat}{w₀:World}{env:List (Nat×Value)}{L:List Asrt}{ops:Array Oper}{G:Type}{φ:G→Prop}{val:G→Value}{L':G→List Asrt}{o:Oper}{tl:Nat→Bool}{Ls:List Asrt}{fuel:Nat}{listed:Array Bool}{QD:Act→World→Prop}{i:Nat}(hi:ops[i]?=some o)(hr:Region.ready .any ops listed=[i])(hg:gd env ops o=some true)(hd:o.dst=some dd)(hdn:Nat.blt dd n=true)(ht:tl i=true)(hq:Ef P n F w₀ env L o φ val L')(hst:∀ g,Sin (L' g) Ls)(k:∀ g,φ g→WD P n F w₀ ops tl Ls QD fuel (listed.setIfInBounds i true) ((dd,val g)::env) (L' g)):WD P n F w₀ ops tl Ls QD (fuel+1) listed env L:=
 WD.old hi hr hg hd hdn ht hst hq k
section app
variable [Rnd] {F:List Nat} {w₀:World} {L:List Asrt} {Z:Zp}
theorem ZS.news{α:Type}{Pr:List Value→α→Prop}{sz:Nat}{ao:Option Addr}{cap:Nat}{l:List α}(h:ZS Z sz Pr ao cap l):
  ∃ cs,RR sz Pr cs l∧∀ L F w₀,PV F w₀ L Z→∀ w,Hp F w₀ w L→cs≠[]→∃ A,ao=some A∧∀ j u,cs[j]?=some u→w.cell? (A.add j)=some u:=by
 obtain⟨h1,h2,cs,h3,h4⟩:=h
 refine⟨cs,h3,fun L F w₀ pv w hw hne=>?_⟩
 obtain⟨A,hA,hc⟩:=h4 (by
  rintro rfl
  have:=h3.len
  simp only[List.length_nil,Nat.zero_mul] at this
  exact hne (List.eq_nil_of_length_eq_zero this))
 exact⟨A,hA,hc w (pv w hw)⟩
theorem RR.oc{α:Type}{Pr:List Value→α→Prop}{sz:Nat}{cs:List Value}{l:List α}(h:RR sz Pr cs l)(hP:∀ r x,Pr r x→∀ u∈r,u.oneCell'=true):∀ u∈cs,u.oneCell'=true:=by
 obtain⟨rows,h1,h2,h3,h4⟩:=h
 intro u hu
 rw[← h1] at hu
 obtain⟨r,hr,hur⟩:=List.mem_flatten.1 hu
 obtain⟨i,hi,rfl⟩:=List.getElem_of_mem hr
 exact hP _ _ (h4 i rows[i] (l[i]'(by omega)) (List.getElem?_eq_getElem hi) (List.getElem?_eq_getElem (by omega))) u hur
theorem RR.store{α:Type}[Inhabited α]{Pr:List Value→α→Prop}{sz:Nat}{cs r tl vs:List Value}{l:List α}{i:Int}{y:α}{k:Nat}(h:RR sz Pr cs l)(h0:0≤i)(h1:i<l.length)(hd:cs.drop (i.toNat*sz)=r++tl)(hr:r.length=sz)(hk:k+vs.length≤sz)(hP:Pr (y4L r k vs) y):RR sz Pr (y4L cs (i.toNat*sz+k) vs) (l.set i.toNat y)∧i.toNat*sz+k+vs.length≤cs.length:=by
 have hlen:=h.len
 have hi:i.toNat<l.length:=by omega
 have hle:(i.toNat+1)*sz≤l.length*sz:=Nat.mul_le_mul_right _ (by omega)
 rw[Nat.succ_mul] at hle
 obtain⟨rows,a1,a2,a3,a4⟩:=h
 have hfit:i.toNat*sz+k+vs.length≤cs.length:=by omega
 refine⟨⟨rows.set i.toNat (y4L r k vs),?_,?_,by simp[a3],?_⟩,hfit⟩
 ·have hir:i.toNat<rows.length:=by omega
  have e1:rows=rows.take i.toNat++rows[i.toNat]::rows.drop (i.toNat+1):=by
   rw[List.getElem_cons_drop,List.take_append_drop]
  have e2:(rows.take i.toNat).flatten.length=i.toNat*sz:=by
   have:∀(rs:List (List Value)),(∀ r∈rs,r.length=sz)→rs.flatten.length=rs.length*sz:=by
    intro rs
    induction rs with
    | nil=>simp
    | cons r rs ih=>intro hh;rw[List.flatten_cons,List.length_append,hh r (by simp),ih (fun r hr=>hh r (List.mem_cons_of_mem _ hr)),List.length_cons,Nat.succ_mul,Nat.add_comm]
   rw[this _ (fun r hr=>a2 r (List.mem_of_mem_take hr)),List.length_take,Nat.min_eq_left (by omega)]
  have e3:cs=(rows.take i.toNat).flatten++(rows[i.toNat]++(rows.drop (i.toNat+1)).flatten):=by
   rw[← a1]
   have:=congrArg List.flatten e1
   rw[List.flatten_append,List.flatten_cons] at this
   exact this
  have e4:cs.drop (i.toNat*sz)=rows[i.toNat]++(rows.drop (i.toNat+1)).flatten:=by
   rw[e3,← e2,List.drop_left]
  rw[e4] at hd
  have e5:rows[i.toNat]=r∧(rows.drop (i.toNat+1)).flatten=tl:=List.append_inj hd (by rw[a2 _ (List.getElem_mem hir),hr])
  rw[List.set_eq_take_append_cons_drop,if_pos hir,List.flatten_append,List.flatten_cons]
  rw[e3,e5.1]
  unfold y4L
  rw[← e2]
  generalize (rows.take i.toNat).flatten=A
  generalize (rows.drop (i.toNat+1)).flatten=B
  have t1:(A++(r++B)).take (A.length+k)=A++r.take k:=by
   rw[List.take_length_add_append,List.take_append_of_le_length (by omega)]
  have t2:(A++(r++B)).drop (A.length+k+vs.length)=r.drop (k+vs.length)++B:=by
   rw[Nat.add_assoc,List.drop_length_add_append,List.drop_append_of_le_length (by omega)]
  rw[t1,t2]
  simp only[List.append_assoc]
 ·intro r' hr'
  rcases List.mem_or_eq_of_mem_set hr' with h' | rfl
  ·exact a2 _ h'
  ·unfold y4L;simp;omega
 ·intro j r' x hr' hx
  rw[List.getElem?_set] at hr' hx
  by_cases hj:i.toNat=j
  ·subst hj
   rw[if_pos rfl] at hr' hx
   rw[if_pos (by omega)] at hr' hx
   simp at hr' hx
   subst hr' hx
   exact hP
  ·rw[if_neg hj] at hr' hx
   exact a4 _ _ _ hr' hx
end app
end Sep
namespace Sep
open Go Go.RowKit
set_option linter.unusedSectionVars false
/-! ### a range over a map -/
section
variable {κ α:Type}
end
section
variable [Rnd]
variable {P:Program} {n:Nat} {F:List Nat} {w₀:World} {env:List (Nat×Value)} {L R:List Asrt} {d:Option Tmp} {ty:TypeId} {pos:String} {after:Array Edge} {g:Option (Nat×Bool)} {x y z:Operand} {t kt e:TypeId}
 {κ α:Type} {ek:κ→Value} {ev:α→Value} {l rem:List (κ×α)} {cur:Option (κ×α)} {r b:Nat}
end
end Sep
namespace Sep
open Go Go.RowKit
/-! ### a scope that no goto leaves; a label -/
section
variable {P:Program} {n:Nat} {F:Fence} {Q:Exit→Act→World→Prop} {a:Act} {w:World}
theorem y6k{b:Frame}{k:List Item}{cs:List Frame}{c:Code}:step P (lone (b.atR a (.code (.scope c)::k)) cs w) = .next (lone (b.atR a (.code c :: .inScope c::k)) cs w):=
 step_lone_go (by simp[stepG,stepG.exec,Frame.atR])
theorem yeQ{b:Frame}{k:List Item}{cs:List Frame}{c:Code}:step P (lone (b.atR a (.inScope c::k)) cs w) = .next (lone (b.atR a k) cs w):=
 step_lone_go (by simp[stepG,stepG.exec,Frame.atR])
theorem ygO{c:Code}(h:c.wpIn F n P (Exit.noGoto Q) a w):(Code.scope c).wpIn F n P Q a w:=by
 intro b k cs hro hb hr
 have h0:(lone (b.atR a (.code (.scope c)::k)) cs w).fenced P F:=fenced_calm hb hr rfl
 obtain⟨e,a₁,w₁,hq,harr⟩:=h b (.inScope c::k) cs hro hb hr
 cases e with
 | normal=>exact⟨.normal,a₁,w₁,hq,.head h0 y6k (StepsIn.trans harr (.one (fenced_calm hb hr rfl) yeQ))⟩
 | exit id=>
  have hx:exitTo id (.inScope c::k)=exitTo id k:=by simp[exitTo]
  exact⟨.exit id,a₁,w₁,hq,fun k' hk => .head h0 y6k (harr.1 k' (by rw[hx];exact hk)),
   fun hr' hk=>let ⟨k₁,h1,h2⟩:=harr.2 hr' (by rw[hx];exact hk);⟨k₁,h1,.head h0 y6k h2⟩⟩
 | goto l=>exact hq.elim
 | ret=>exact⟨_,a₁,w₁,hq,.of_steps (.one h0 y6k) harr⟩
 | panic ch=>exact⟨_,a₁,w₁,hq,.of_steps (.one h0 y6k) harr⟩
 | outgrown=>exact⟨_,a₁,w₁,hq,.of_steps (.one h0 y6k) harr⟩
end
section
variable [Rnd]
variable {P:Program} {n:Nat} {F:List Nat} {w₀:World} {Q:Exit→Act→World→Prop} {env:List (Nat×Value)} {L:List Asrt}
theorem WC.scope{c:Code}(k:WC P n F w₀ (Exit.noGoto Q) c env L):WC P n F w₀ Q (.scope c) env L:=fun a w h=>ygO (k a w h)
theorem WC.label{l:Nat}(k:WX n F w₀ Q .normal env L):WC P n F w₀ Q (.label l) env L:=fun a w h=>wpIn_label (k a w h)
theorem WX.ycF(k:WX n F w₀ Q .ret env L):WX n F w₀ (Exit.noGoto Q) .ret env L:=k
end
end Sep
namespace Sep
open Go Go.RowKit
/-! ### arrays at an index that is not known; tables of functions; strings -/
def sw{R:Type}:List (Int×Option R)→Int→Option R
 | [],_=>none
 | p::l,i=>if i=p.1 then p.2 else sw l i
structure arT (P:Program) (t e:TypeId) (len sz:Nat):Prop where
 un:P.underlying t=some (.array len e)
 sz:∀ w,(Go.sizeOf e).run P w = .ok sz w
section
variable [Rnd]
variable {P:Program} {n:Nat} {F:List Nat} {w₀:World} {env:List (Nat×Value)} {L R:List Asrt} {ops:Array Oper} {Q:Exit→Act→World→Prop} {rest:List Oper}
 {dd:Nat} {d:Option Tmp} {ty:TypeId} {pos:String} {after:Array Edge} {g:Option (Nat×Bool)} {x y c:Operand} {v u:Value} {t e T:TypeId} {sz len:Nat} {Z:Zp}
end
end Sep
namespace Sep
open Go Go.RowKit
/-! ### maps of slices that are appended to: each value owns its row -/
section
variable {κ α:Type} [DecidableEq κ]
def slv(p:(Option Addr×Nat)×List α):Value := .slice p.1.1 p.2.length p.1.2
def y6r(lg:List (κ×((Nat×(Option Addr×Nat))×List α))):List (κ×((Option Addr×Nat)×List α)):=lg.map fun p=>(p.1,(p.2.1.2,p.2.2))
def y5k(e:TypeId)(sz:Nat)(enc:α→List Value)(g:Nat×(Option Addr×Nat))(x:List α):List Asrt:=[row (.slice g.2.1 x.length g.2.2) e sz (x.flatMap enc)]
variable {lg:List (κ×((Nat×(Option Addr×Nat))×List α))} {l:List (κ×List α)}
theorem yes(k:κ)(g:Nat×(Option Addr×Nat))(x:List α):∀ lg:List (κ×((Nat×(Option Addr×Nat))×List α)),y6r (yE lg k (g,x))=yE (y6r lg) k (g.2,x)
 | []=>rfl
 | p::lg=>by
  unfold yE y6r
  by_cases h:k=p.1
  ·simp[h]
  ·have:=yes k g x lg
   unfold y6r at this
   simp[h,this]
theorem ybG(k:κ):∀ lg:List (κ×((Nat×(Option Addr×Nat))×List α)),yd (y6r lg) k ((none,0),[])=((yd lg k ((0,(none,0)),[])).1.2,(yd lg k ((0,(none,0)),[])).2)
 | []=>rfl
 | p::lg=>by
  have ih:=ybG k lg
  unfold y6r at ih ⊢
  rw[List.map_cons]
  unfold yd
  by_cases h:k=p.1
  ·simp[h]
  ·simp only[h,if_false];exact ih
theorem ydN{γ:Type}{k:κ}{d:γ}:∀ {lg:List (κ×γ)},y2x lg k=false→yd lg k d=d∧y7P k lg=lg
 | [],_=>⟨rfl,rfl⟩
 | p::lg,h=>by
  unfold y2x at h
  by_cases e:k=p.1
  ·simp[e] at h
  ·simp only[e,if_false] at h
   obtain⟨h1,h2⟩:=ydN (d:=d) h
   unfold yd y7P
   simp only[e,if_false]
   exact⟨h1,by rw[h2]⟩
variable {F:List Nat} {w₀ w:World} {L R R':List Asrt} {e:TypeId} {sz:Nat} {enc:α→List Value}
theorem Hp.ybH(k:κ)(hm:dat lg=l)(hp:Pick L (y5j (y5k e sz enc) lg) R)(h:Hp F w₀ w L):
  ∃ g:Option Addr×Nat,yd (y6r lg) k ((none,0),[])=(g,yd l k [])∧Hp F w₀ w (row (.slice g.1 (yd l k []).length g.2) e sz ((yd l k []).flatMap enc)::y5j (y5k e sz enc) (y7P k lg)::R):=by
 subst hm
 rw[ybG,mget_dat k [] (0,(none,0))]
 refine⟨(yd lg k ((0,(none,0)),[])).1.2,rfl,?_⟩
 by_cases hk:y2x lg k=true
 ·obtain⟨v,h1,h2⟩:=ybC k lg hk
  rw[h1]
  have h4:=h.pickAll hp
  have h5:=h4.perm ((ybD (f:=fun p:κ×((Nat×(Option Addr×Nat))×List α)=>y5k e sz enc p.2.1 p.2.2) h2).append_right R)
  rw[List.flatMap_cons,List.append_assoc] at h5
  have h6:Hp F w₀ w (((y7P k lg).flatMap fun p=>y5k e sz enc p.2.1 p.2.2)++(y5k e sz enc v.1 v.2++R)):=h5.perm (by
   rw[← List.append_assoc,← List.append_assoc];exact List.perm_append_comm.append_right R)
  have h7:=Hp.y9Q h6
  exact h7.perm List.perm_middle.symm
 ·have hk':y2x lg k=false:=by simpa using hk
  obtain⟨h1,h2⟩:=ydN (d:=(((0,(none,0)),[]):(Nat×(Option Addr×Nat))×List α)) hk'
  rw[h1,h2]
  exact(h.nilRow e sz).perm (((hp.perm).cons _))
theorem Hp.ygP{k:κ}{ao:Option Addr}{cap:Nat}{x:List α}(hs:Sel L [row (.slice ao x.length cap) e sz (x.flatMap enc),y5j (y5k e sz enc) (y7P k lg)] R)(h:Hp F w₀ w L):
  Hp F w₀ w (y5j (y5k e sz enc) (yE lg k ((0,(ao,cap)),x))::R):=
 Hp.ybE (els:=y5k e sz enc) (b:=0) (g:=(ao,cap)) hs h
theorem Sel.skip{β:Type}{y:β}:∀ {L L' M:List β},Sel L L' M→Sel (y::L) L' (y::M)
 | _,_,_,.nil => .nil
 | _,_,_,.cons h t => .cons (.there h) (Sel.skip t)
theorem Hp.yeu{k:κ}{g:Option Addr×Nat}(hm:dat lg=l)(hp:yd (y6r lg) k ((none,0),[])=(g,yd l k []))(hs:Sel L [row (.slice g.1 (yd l k []).length g.2) e sz ((yd l k []).flatMap enc),y5j (y5k e sz enc) (y7P k lg)] R)(h:Hp F w₀ w L):
  Hp F w₀ w (y5j (y5k e sz enc) lg::R):=by
 by_cases hk:y2x lg k=true
 ·obtain⟨v,h1,h2⟩:=ybC k lg hk
  rw[ybG,h1] at hp
  have e1:v.1.2=g:=congrArg Prod.fst hp
  have e2:v.2=yd l k []:=congrArg Prod.snd hp
  have h3:=Hp.ybE (lg:=lg) (k:=k) (els:=y5k e sz enc) (b:=v.1.1) (g:=g) (x:=yd l k []) hs h
  rwa [show yE lg k ((v.1.1,g),yd l k [])=lg from ybF (d:=v) hk (by rw[h1,← e1,← e2])] at h3
 ·have hk':y2x lg k=false:=by simpa using hk
  rw[(ydN (d:=(((0,(none,0)),[]):(Nat×(Option Addr×Nat))×List α)) hk').2] at hs
  have h1:=Hp.open_ (h.selAll hs)
  exact h1.sub (.cons (.there .here) (Sel.skip .all))
end
section
variable [Rnd] {P:Program} {n:Nat} {F:List Nat} {w₀:World} {ops:Array Oper} {tl:Nat→Bool} {Ls:List Asrt} {fuel:Nat} {listed:Array Bool} {Q:Act→World→Prop} {env:List (Nat×Value)} {L L':List Asrt} {o:Oper}
theorem WD.ygQ{i:Nat}(hi:ops[i]?=some o)(hr:Region.ready .any ops listed=[i])(hg:gd env ops o=some true)(hd:o.dst=none)(ht:tl i=true)(hst:Sin L' Ls)(hq:Ef0 P n F w₀ env L o L')(k:WD P n F w₀ ops tl Ls Q fuel (listed.setIfInBounds i true) env L'):WD P n F w₀ ops tl Ls Q (fuel+1) listed env L:=WD.forced0 hi hr hg hd ht hst hq k
end
theorem yaS{F:List Nat}{w₀:World}{L R:List Asrt}{b off:Nat}{T:TypeId}{ks:List (Nat×Value)}{u v:Value}(hm:Pick L (y7q b T ks) R)(hu:(off,u)∈ks)(hv:(off+1,v)∈ks):
  ∀ w,Hp F w₀ w L→∀ j x,[u,v][j]?=some x→w.cell? (Addr.add ⟨b,off,none⟩ j)=some x:=by
 intro w h j x hx
 match j,hx with
 | 0,hx=>
  have e:Addr.add ⟨b,off,none⟩ 0=⟨b,off,none⟩:=by simp[Addr.add]
  rw[e,y5S hm hu w h];simpa using hx
 | 1,hx=>
  have e:Addr.add ⟨b,off,none⟩ 1=⟨b,off+1,none⟩:=by simp[Addr.add]
  rw[e,y5S hm hv w h];simpa using hx
 | j+2,hx=>simp at hx
end Sep
namespace Sep
open Go Go.RowKit
section
variable [Rnd] {P:Program} {n:Nat} {F:List Nat} {w₀:World} {env:List (Nat×Value)} {L R:List Asrt} {d:Option Tmp} {ty:TypeId} {pos:String} {after:Array Edge} {g:Option (Nat×Bool)} {x y:Operand} {t e:TypeId} {sz by_:Nat}
theorem yfX{ao bo:Option Addr}{m cap k capk:Nat}{cs news:List Value}{dty:TypeId}{a:Act}{w:World}(h:SS n F w₀ env L a w)(ht:elT P t e sz by_)(hx:eo env x=some (.slice ao m cap))(hy:eo env y=some (.slice bo k capk))(hm:Pick L (row (.slice ao m cap) e sz cs) R)(hl:news.length=k*sz)(hnews:news≠[]→∃ A,bo=some A∧∀ j u,news[j]?=some u→w.cell? (A.add j)=some u)(h1:∀ u∈news,u.oneCell'=true)(h63:m+k≤maxLen)(hby:(m+k)*by_≤140737488355328):
  ∃(p:Option Addr×Nat) (w':World),(execOp a.eval ⟨d,.call ⟨.builtin .append,#[x,y],#[t,t]⟩,dty,pos,after,g⟩).run P w = .ok (.value (.slice p.1 (m+k) p.2)) w'∧True∧Hp F w₀ w' (row (.slice p.1 (m+k) p.2) e sz (cs++news)::R):=by
 obtain⟨inf,z,hi,hz,hsz,hb,hzs⟩:=ht.inf
 obtain⟨m',hown⟩:=h.hp.ok _ hm.mem
 have hmm:m'=m:=by
  have hs:=h.hp.rowShape hm
  have:=hown.1.symm.trans hs.1
  exact Nat.eq_of_mul_eq_mul_right ht.pos this
 subst hmm
 subst hsz
 subst hb
 have hshape:=h.hp.rowShape hm
 by_cases hk0:k=0
 ·subst hk0
  have hn:news=[]:=List.eq_nil_of_length_eq_zero (by simpa using hl)
  subst hn
  refine⟨(ao,cap),w,?_,trivial,?_⟩
  ·have hle:m'≤cap:=hshape.2.1
   cases bo <;> cases ao <;> simp[execOp,h.eval hx,h.eval hy,resolve,invoke,builtin,Builtin.append_,run_underlying ht.sl,Go.sizeOf,typeInfo,hi,Builtin.lenOf,Builtin.firstCells,hle,loadCells,loadCellsFrom,storeCells]
  ·simpa using h.hp.front hm
 ·have hne:news≠[]:=by
   intro e;subst e
   have:0=k*inf.size:=by simpa using hl
   have:=Nat.mul_pos (Nat.pos_of_ne_zero hk0) ht.pos
   omega
  obtain⟨A,rfl,hA⟩:=hnews hne
  have h63':((m'+k:Nat):Int)≤9223372036854775807:=by simp only[maxLen] at h63;omega
  obtain⟨v',w',hr,ho,hgb,_⟩:=run_append_own (P:=P) w 0 t dty e inf z inf.size inf.bytes ht.sl hi hz rfl rfl hzs ht.pos _ m' cs hown A k capk news hl hA h1 h63 hby (Nat.zero_le _)
  have hnew:∀ b,v'.ownBlock=some b→(Value.slice ao m' cap).ownBlock=some b∨w.heap.size≤b:=by
   rcases hown.2 with⟨hv,hn⟩ | ⟨b0,cap',cur,hv,_,hh,hc1,hc2,hc3,hc4⟩
   ·injection hv with e1 e2 e3
    subst e1 e3 hn
    have hq:=run_append_nil (P:=P) w t dty e inf z ht.sl hi hz A k capk news hl hA (by omega) (by omega) (by simp only[Nat.zero_add] at hby;omega)
    rw[hr] at hq
    injection hq with e1 _
    subst e1
    intro b hb;simp[Value.ownBlock] at hb;exact .inr (by omega)
   ·injection hv with e1 e2 e3
    subst e1 e3
    by_cases hroom:m'+k≤cap
    ·have hfit:m'*inf.size+news.length≤cur.size:=by rw[hl,hc3,← Nat.add_mul];exact Nat.mul_le_mul_right _ hroom
     have hq:=run_append_room (P:=P) w t dty e inf ht.sl hi b0 m' cap cur hh A k capk news hl hA h1 hroom hfit
     rw[hr] at hq
     injection hq with e1 _
     subst e1
     intro b hb;exact .inl hb
    ·have holds:∀ j u,cs[j]?=some u→w.cell? ((⟨b0,0,none⟩:Addr).add j)=some u:=hown.cells (g:=b0) rfl
     have hq:=run_append_grow (P:=P) w t dty e inf z ht.sl hi hz ⟨b0,0,none⟩ m' cap cs hown.1 holds A k capk news hl hA (by omega) (by omega) (growslice_fits (by omega) hby)
     rw[hr] at hq
     injection hq with e1 _
     subst e1
     intro b hb;simp[Value.ownBlock] at hb;exact .inr (by omega)
  have hdr:w.drawn≤w'.drawn:=by
   rcases hown.2 with⟨hv,hn⟩ | ⟨b0,cap',cur,hv,_,hh,hc1,hc2,hc3,hc4⟩
   ·injection hv with e1 e2 e3
    subst e1 e3 hn
    have hq:=run_append_nil (P:=P) w t dty e inf z ht.sl hi hz A k capk news hl hA (by omega) (by omega) (by simp only[Nat.zero_add] at hby;omega)
    rw[hr] at hq
    injection hq with _ e1
    rw[e1];first | exact Nat.le_refl _ | exact Nat.le_add_right _ _
   ·injection hv with e1 e2 e3
    subst e1 e3
    by_cases hroom:m'+k≤cap
    ·have hfit:m'*inf.size+news.length≤cur.size:=by rw[hl,hc3,← Nat.add_mul];exact Nat.mul_le_mul_right _ hroom
     have hq:=run_append_room (P:=P) w t dty e inf ht.sl hi b0 m' cap cur hh A k capk news hl hA h1 hroom hfit
     rw[hr] at hq
     injection hq with _ e1
     rw[e1];first | exact Nat.le_refl _ | exact Nat.le_add_right _ _
    ·have holds:∀ j u,cs[j]?=some u→w.cell? ((⟨b0,0,none⟩:Addr).add j)=some u:=hown.cells (g:=b0) rfl
     have hq:=run_append_grow (P:=P) w t dty e inf z ht.sl hi hz ⟨b0,0,none⟩ m' cap cs hown.1 holds A k capk news hl hA (by omega) (by omega) (growslice_fits (by omega) hby)
     rw[hr] at hq
     injection hq with _ e1
     rw[e1];first | exact Nat.le_refl _ | exact Nat.le_add_right _ _
  obtain⟨p,rfl⟩:∃ p:Option Addr×Nat,v' = .slice p.1 (m'+k) p.2:=by
   rcases ho.2 with⟨hv,hn⟩ | ⟨b,cap',cur,hv,_⟩
   ·exact⟨(none,0),by rw[hv,hn]⟩
   ·exact⟨(some ⟨b,0,none⟩,cap'),by rw[hv]⟩
  refine⟨p,w',?_,trivial,?_⟩
  ·simp[execOp,h.eval hx,h.eval hy,resolve,invoke,builtin,hr]
  ·refine(h.hp.front hm).upd (x:=row (.slice ao m' cap) e inf.size cs) (y:=row (.slice p.1 (m'+k) p.2) e inf.size (cs++news)) .here hgb.os ⟨hgb.tape,hdr⟩ hgb.output hgb.size ?_ ⟨_,ho⟩ ?_
   ·intro j hj hj'
    refine hgb.block j hj (fun hc=>hj' ?_)
    simp[row,← hc]
   ·intro b hb
    have hb':(Value.slice p.1 (m'+k) p.2).ownBlock=some b:=by simpa [row] using hb
    refine⟨(ho.lt b hb').2,?_⟩
    rcases hnew b hb' with h2 | h2
    ·exact .inl (by simp[row,h2])
    ·exact .inr h2
theorem Hp.rowShort{b m cap i:Nat}{cs:List Value}{w:World}(hm:Pick L (row (.slice (some ⟨b,0,none⟩) m cap) e sz cs) R)(hi:i≤m)(h:Hp F w₀ w L):Hp F w₀ w (row (.slice (some ⟨b,0,none⟩) i cap) e sz (cs.take (i*sz))::R):=by
 have hcl:=(h.rowShape hm).1
 refine(h.front hm).upd (x:=row (.slice (some ⟨b,0,none⟩) m cap) e sz cs) (y:=row (.slice (some ⟨b,0,none⟩) i cap) e sz (cs.take (i*sz))) .here rfl ⟨rfl,Nat.le_refl _⟩ rfl (Nat.le_refl _) (fun _ _ _=>rfl) ?_ ?_
 ·obtain⟨m',hown⟩:=h.ok _ hm.mem
  rcases hown.2 with⟨hv',_⟩ | ⟨b0,cap',cur,hv',hb0,hh',hc1,hc2,hc3,hc4⟩
  ·cases hv'
  injection hv' with e1 e2 e3
  injection e1 with e1
  injection e1 with e1
  subst e1 e2 e3
  have hmi:i*sz≤m*sz:=Nat.mul_le_mul_right _ hi
  refine⟨i,by simp;omega,.inr ⟨b,cap,cur,rfl,hb0,hh',by omega,hc2,hc3,?_⟩⟩
  rw[← hc4,List.take_take];congr 1;omega
 ·intro b' hb'
  simp[row,Value.ownBlock] at hb'
  subst hb'
  have:=h.lt _ hm.mem b' (by simp[row,Value.ownBlock])
  exact⟨this,.inl (by simp[row,Value.ownBlock])⟩
theorem yfa{b m cap i j capk:Nat}{bo:Option Addr}{cs:List Value}{dty:TypeId}(ht:elT P t e sz by_)(hx:eo env x=some (.slice (some ⟨b,0,none⟩) i cap))(hy:eo env y=some (.slice bo (m-j) capk))(hbo:m-j≠0→bo=some (Addr.add ⟨b,0,none⟩ (j*sz)))(hm:Pick L (row (.slice (some ⟨b,0,none⟩) m cap) e sz cs) R)(hij:i≤j)(hjm:j≤m)(h1:∀ u∈cs,u.oneCell'=true)(hby:m*by_≤140737488355328):
  Ef P n F w₀ env L ⟨d,.call ⟨.builtin .append,#[x,y],#[t,t]⟩,dty,pos,after,g⟩ (fun _:Option Addr×Nat=>True) (fun p => .slice p.1 (i+(m-j)) p.2) (fun p=>row (.slice p.1 (i+(m-j)) p.2) e sz (cs.take (i*sz)++cs.drop (j*sz))::R):=by
 intro a w h
 obtain⟨hcl,hmc,hcm,_⟩:=h.hp.rowShape hm
 have hs:=h.world (h.hp.rowShort hm (show i≤m by omega))
 have hlen:(cs.drop (j*sz)).length=(m-j)*sz:=by rw[List.length_drop,hcl,← Nat.sub_mul]
 refine yfX hs ht hx hy .here hlen (fun hne=>?_) (fun u hu=>h1 u (List.mem_of_mem_drop hu)) (by omega) (Nat.le_trans (Nat.mul_le_mul_right _ (by omega)) hby)
 have hk:m-j≠0:=by
  intro hz;rw[hz,Nat.zero_mul] at hlen;exact hne (List.eq_nil_of_length_eq_zero hlen)
 refine⟨_,hbo hk,fun q u hu=>?_⟩
 obtain⟨m',hown⟩:=h.hp.ok _ hm.mem
 rw[Addr.y6H]
 rw[List.getElem?_drop] at hu
 exact hown.cells (g:=b) rfl _ _ hu
theorem Hp.rowLong{b len m cap:Nat}{cs:List Value}{w:World}(h1:len≤m)(h2:m≤cap)(h:Hp F w₀ w (row (.slice (some ⟨b,0,none⟩) len cap) e sz cs::R)):
  ∃ tl:List Value,Hp F w₀ w (row (.slice (some ⟨b,0,none⟩) m cap) e sz (cs++tl)::R):=by
 have hm:Pick (row (.slice (some ⟨b,0,none⟩) len cap) e sz cs::R) (row (.slice (some ⟨b,0,none⟩) len cap) e sz cs) R := .here
 have hcl:=(h.rowShape hm).1
 obtain⟨m',hown⟩:=h.ok _ hm.mem
 rcases hown.2 with⟨hv',_⟩ | ⟨b0,cap',cur,hv',hb0,hh',hc1,hc2,hc3,hc4⟩
 ·cases hv'
 injection hv' with e1 e2 e3
 injection e1 with e1
 injection e1 with e1
 subst e1 e2 e3
 have h3:len*sz≤m*sz:=Nat.mul_le_mul_right _ h1
 have h4:m*sz≤cap*sz:=Nat.mul_le_mul_right _ h2
 have key:cs++(cur.toList.drop (len*sz)).take (m*sz-len*sz)=cur.toList.take (m*sz):=by
  rw[← hc4,← List.take_add];congr 1;omega
 refine⟨(cur.toList.drop (len*sz)).take (m*sz-len*sz),?_⟩
 refine(h.front hm).upd (x:=row (.slice (some ⟨b,0,none⟩) len cap) e sz cs) (y:=row (.slice (some ⟨b,0,none⟩) m cap) e sz _) .here rfl ⟨rfl,Nat.le_refl _⟩ rfl (Nat.le_refl _) (fun _ _ _=>rfl) ?_ ?_
 ·refine⟨m,?_,.inr ⟨b,cap,cur,rfl,hb0,hh',h2,hc2,hc3,key.symm⟩⟩
  rw[key,List.length_take,Array.length_toList,hc3];omega
 ·intro b' hb'
  simp[row,Value.ownBlock] at hb'
  subst hb'
  have:=h.lt _ hm.mem b' (by simp[row,Value.ownBlock])
  exact⟨this,.inl (by simp[row,Value.ownBlock])⟩
theorem ygR{b m cap i j capk:Nat}{bo:Option Addr}{cs:List Value}{dty:TypeId}(ht:elT P t e sz by_)(hx:eo env x=some (.slice (some ⟨b,0,none⟩) i cap))(hy:eo env y=some (.slice bo (m-j) capk))(hbo:m-j≠0→bo=some (Addr.add ⟨b,0,none⟩ (j*sz)))(hm:Pick L (row (.slice (some ⟨b,0,none⟩) m cap) e sz cs) R)(hij:i≤j)(hjm:j≤m)(h1:∀ u∈cs,u.oneCell'=true)(hby:m*by_≤140737488355328):
  Ef P n F w₀ env L ⟨d,.call ⟨.builtin .append,#[x,y],#[t,t]⟩,dty,pos,after,g⟩ (fun _:List Value=>True) (fun _ => .slice (some ⟨b,0,none⟩) (i+(m-j)) cap)
   (fun tl=>row (.slice (some ⟨b,0,none⟩) m cap) e sz (cs.take (i*sz)++cs.drop (j*sz)++tl)::R):=by
 intro a w h
 obtain⟨hcl,hmc,hcm,_⟩:=h.hp.rowShape hm
 obtain⟨p,w',hr,_,hp⟩:=yfa (d:=d) (dty:=dty) (pos:=pos) (after:=after) (g:=g) ht hx hy hbo hm hij hjm h1 hby a w h
 have hlen:(cs.drop (j*sz)).length=(m-j)*sz:=by rw[List.length_drop,hcl,← Nat.sub_mul]
 obtain⟨m',hown⟩:=h.hp.ok _ hm.mem
 have hcells:=hown.cells (g:=b) rfl
 obtain⟨inf,z,hi',hz,hsz,hb,hzs⟩:=ht.inf
 have hrun:∃ w'',(execOp a.eval ⟨d,.call ⟨.builtin .append,#[x,y],#[t,t]⟩,dty,pos,after,g⟩).run P w = .ok (.value (.slice (some ⟨b,0,none⟩) (i+(m-j)) cap)) w'':=by
  by_cases hk:m-j=0
  ·rw[hk] at hy ⊢
   have hle:i≤cap:=by omega
   refine⟨w,?_⟩
   cases bo <;> simp[execOp,h.eval hx,h.eval hy,resolve,invoke,builtin,Builtin.append_,run_underlying ht.sl,Go.sizeOf,typeInfo,hi',Builtin.lenOf,Builtin.firstCells,hle,loadCells,loadCellsFrom,storeCells]
  ·rcases hown.2 with⟨hv',_⟩ | ⟨b0,cap',cur,hv',hb0,hh',hc1,hc2,hc3,hc4⟩
   ·cases hv'
   injection hv' with e1 e2 e3
   injection e1 with e1
   injection e1 with e1
   subst e1 e2 e3
   have hbo':=hbo hk
   subst hbo'
   subst hsz
   have hfit:i*inf.size+(cs.drop (j*inf.size)).length≤cur.size:=by rw[hlen,hc3,← Nat.add_mul];exact Nat.mul_le_mul_right _ (by omega)
   have hq:=run_append_room (P:=P) w t dty e inf ht.sl hi' b i cap cur hh' (Addr.add ⟨b,0,none⟩ (j*inf.size)) (m-j) capk (cs.drop (j*inf.size)) hlen (fun q u hu=>by
    rw[Addr.y6H]
    rw[List.getElem?_drop] at hu
    exact hcells _ _ hu) (fun u hu=>h1 u (List.mem_of_mem_drop hu)) (by omega) hfit
   obtain⟨w2,hq2⟩:∃ w2,(Builtin.append_ #[t,t] dty #[.slice (some ⟨b,0,none⟩) i cap,.slice (some (Addr.add ⟨b,0,none⟩ (j*inf.size))) (m-j) capk]).run P w = .ok (.slice (some ⟨b,0,none⟩) (i+(m-j)) cap) w2:=⟨_,hq⟩
   exact⟨w2,by simp[execOp,h.eval hx,h.eval hy,resolve,invoke,builtin,hq2]⟩
 obtain⟨w'',hr2⟩:=hrun
 rw[hr] at hr2
 injection hr2 with e1 e2
 injection e1 with e1
 injection e1 with e3 _ e4
 dsimp only at hp hr
 rw[e3,e4] at hp hr
 obtain⟨tl,htl⟩:=hp.rowLong (m:=m) (by omega) hmc
 exact⟨tl,w',hr,trivial,htl⟩
theorem q_slice3{ao:Option Addr}{m cap:Nat}{k1 k2 k3:IntKind}{lo hi mx:Int}{lx hx' mx':Operand}(ht:elT P t e sz by_)(hx:eo env x=some (.slice ao m cap))(hl:eo env lx=some (.int k1 lo))(hh:eo env hx'=some (.int k2 hi))(hm:eo env mx'=some (.int k3 mx))(h0:0≤lo)(h1:lo≤hi)(h2:hi≤mx)(h3:mx≤(cap:Int)):
  Qt P n F w₀ env L ⟨d,.slice t x (some lx) (some hx') (some mx'),ty,pos,after,g⟩ (.slice (if mx.toNat=lo.toNat then ao else ao.map (·.add (lo.toNat*sz))) (hi.toNat-lo.toNat) (mx.toNat-lo.toNat)):=by
 intro a w h
 obtain⟨inf,z,hi',hz,hsz,hb,hzs⟩:=ht.inf
 have q1:hi≤((mx.toNat:Nat):Int):=by omega
 have q2:lo≤((hi.toNat:Nat):Int):=by omega
 have q3:0≤hi:=by omega
 have q4:0≤mx:=by omega
 simp[execOp,h.eval hx,h.eval hl,h.eval hh,h.eval hm,Instr.sliceAt,Instr.slice,Instr.sliceBounds,Instr.sliceBound,run_underlying ht.sl,Go.sizeOf,typeInfo,hi',hsz,asIntOf,h0,h3,q1,q2,q3,q4]
 rw[if_pos (by omega),if_pos (by omega)]
end
end Sep

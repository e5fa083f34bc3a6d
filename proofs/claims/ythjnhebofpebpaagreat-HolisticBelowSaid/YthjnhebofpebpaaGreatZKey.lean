/- A part of this claim's proof: models of functions, walks, plain laws. No conditions. -/
import Derived.Test.YthjnhebofpebpaaGreatZMem
set_option linter.all false
namespace Sep
open Go Go.RowKit
/-! ### keys that are structs or arrays of numbers -/
theorem ycU{P:Program}{kt:TypeId}{κ:Type}[DecidableEq κ]{ek:κ->Value}(heq:∀ u v w,(Op.equal kt (ek u) (ek v)).run P w = .ok (decide (u=v)) w)(k:κ):
  ∀(es:List MapEntry) (ks:List κ) (i:Nat) (w:World),es.map (·.key)=ks.map ek->
   (Instr.findAsking kt (ek k) es i).run P w = .ok ((ks.findIdx? fun k'=>decide (k=k')).map fun j=>(i+j,((es[j]?).map (·.val)).getD undef)) w
 | [],[],i,w,_=>by simp[Instr.findAsking]
 | [],_::_,_,_,h=>by simp at h
 | _::_,[],_,_,h=>by simp at h
 | e::es,k'::ks,i,w,h=>by
  simp only[List.map_cons,List.cons.injEq] at h
  unfold Instr.findAsking
  rw[h.1]
  simp only[Sem.run_bind,heq,Result.andThen_ok,List.findIdx?_cons]
  by_cases hk:k=k'
  ·subst hk;simp
  ·simp only[hk,decide_false,Bool.false_eq_true,if_false]
   rw[ycU heq k es ks (i+1) w h.2]
   cases ks.findIdx? (fun k'=>decide (k=k')) with
   | none=>rfl
   | some j=>simp;omega
theorem yeU{P:Program}{kt:TypeId}{κ:Type}[DecidableEq κ]{enc:κ->List Value}{dd:TypeDesc}(hd:P.underlying kt=some dd)(hs:∀ a b,Instr.sameNow dd (.agg a) (.agg b)=none)(hchk:∀ b k w,(Instr.checkKey b 10000 kt (.agg (enc k).toArray)).run P w = .ok () w)(heq:∀ u v w,(Op.equal kt (.agg (enc u).toArray) (.agg (enc v).toArray)).run P w = .ok (decide (u=v)) w)(hbits:∀ k,Instr.sameBits 10000 (.agg (enc k).toArray) (.agg (enc k).toArray)=true):KeyT P kt (fun x => .agg (enc x).toArray) where
 chk:=hchk
 find k es ks w hk:=by
  unfold Instr.findKey
  simp only[Sem.run_bind,run_underlying hd,Result.andThen_ok]
  cases es with
  | nil=>cases ks with
   | nil=>simp[Instr.findNow]
   | cons=>simp at hk
  | cons e es=>cases ks with
   | nil=>simp at hk
   | cons k' ks=>
    have h0:Instr.findNow dd (.agg (enc k).toArray) (e::es) 0=none:=by
     unfold Instr.findNow
     simp only[List.map_cons,List.cons.injEq] at hk
     rw[hk.1,hs]
    rw[h0]
    have:=ycU (P:=P) (kt:=kt) (ek:=fun x=>Value.agg (enc x).toArray) heq k (e::es) (k'::ks) 0 w hk
    simpa using this
 stays k w:=by simp[Instr.keyThatStays,hbits]
end Sep
namespace Sep
open Go Go.RowKit
/-! ### maps of owned objects: the map holds pointers, the objects lie y7c it -/
section y2n
variable {κ β α γ:Type} [DecidableEq κ]
def dat(lg:List (κ×((Nat×β)×α))):List (κ×α):=lg.map fun p=>(p.1,p.2.2)
def y8b(k:κ):List (κ×γ)->List (κ×γ)
 | []=>[]
 | p::l=>if k=p.1 then l else p::y8b k l
def y2n(els:Nat×β->α->List Asrt)(lg:List (κ×((Nat×β)×α))):Asrt:=y1N (lg.flatMap fun p=>els p.2.1 p.2.2)
theorem ygM(k:κ)(v:γ):∀ lg:List (κ×γ),(yC lg k v).Perm ((k,v)::y8b k lg)
 | [] => .refl _
 | p::l=>by
  unfold yC y8b
  by_cases hk:k=p.1
  ·subst hk;simp only[if_true];exact .refl _
  ·simp only[hk,if_false]
   exact((ygM k v l).cons p).trans (.swap _ _ _)
theorem ydi(k:κ):∀ lg:List (κ×γ),y2A lg k=true->∃ v,(∀ d,yd lg k d=v)/\lg.Perm ((k,v)::y8b k lg)
 | [],h=>by simp[y2A] at h
 | p::l,h=>by
  unfold y2A at h
  unfold y8b
  by_cases hk:k=p.1
  ·subst hk;exact⟨p.2,fun d=>by simp[yd],by simp⟩
  ·simp only[hk,if_false] at h ⊢
   obtain⟨v,h1,h2⟩:=ydi k l h
   exact⟨v,fun d=>by unfold yd;simp[hk,h1 d],(h2.cons p).trans (.swap _ _ _)⟩
theorem yhw{lg:List (κ×((Nat×β)×α))}{l:List (κ×α)}(h:dat lg=l)(k:κ)(g:Nat×β)(x:α):dat (yC lg k (g,x))=yC l k x:=by
 subst h
 induction lg with
 | nil=>rfl
 | cons p l ih=>
  unfold dat at ih ⊢
  rw[List.map_cons]
  unfold yC
  by_cases hk:k=p.1
  ·simp[hk]
  ·simp only[hk,if_false,List.map_cons,ih]
theorem mget_dat{lg:List (κ×((Nat×β)×α))}(k:κ)(d:α)(g:Nat×β):yd (dat lg) k d=(yd lg k (g,d)).2:=by
 induction lg with
 | nil=>rfl
 | cons p l ih=>unfold dat at ih ⊢;rw[List.map_cons];unfold yd;by_cases hk:k=p.1 <;> simp[hk,ih]
section hp
variable {F:List Nat} {w₀ w:World} {L R R':List Asrt} {els:Nat×β->α->List Asrt} {lg:List (κ×((Nat×β)×α))} {l:List (κ×α)}
theorem Hp.yfp(els:Nat×β->α->List Asrt)(h:Hp F w₀ w L):Hp F w₀ w (y2n (κ:=κ) els []::L):=Hp.y9O (M:=[]) h
theorem ydj{δ:Type}{f:δ->List Asrt}{a b:List δ}(h:a.Perm b):(a.flatMap f).Perm (b.flatMap f):=List.Perm.flatMap_right f h
theorem Hp.ydk{k:κ}{b:Nat}{g:β}{x:α}(hs:Sel L (els (b,g) x++[y2n els (y8b k lg)]) R)(h:Hp F w₀ w L):Hp F w₀ w (y2n els (yC lg k ((b,g),x))::R):=by
 have h1:=(h.selAll hs).open_
 have h2:Hp F w₀ w (y2n els (y8b k lg)::(els (b,g) x++R)):=h1.perm (by
  rw[List.append_assoc];exact List.perm_middle)
 have h3:=Hp.open_ h2
 refine Hp.y9O (h3.perm ?_)
 refine List.Perm.trans ?_ ((ydj (f:=fun p:κ×((Nat×β)×α)=>els p.2.1 p.2.2) (ygM k ((b,g),x) lg).symm).append_right R)
 rw[List.flatMap_cons,List.append_assoc]
 rw[<- List.append_assoc,<- List.append_assoc]
 exact List.perm_append_comm.append_right R
end hp
end y2n
theorem ydl{κ γ:Type}[DecidableEq κ]{k:κ}{v d:γ}:∀ {l:List (κ×γ)},y2A l k=true->yd l k d=v->yC l k v=l
 | [],h,_=>by simp[y2A] at h
 | p::l,h,hv=>by
  unfold y2A at h
  unfold yd at hv
  unfold yC
  by_cases hk:k=p.1
  ·subst hk;simp only[if_true] at hv ⊢;subst hv;rfl
  ·simp only[hk,if_false] at h hv ⊢;rw[ydl h hv]
theorem Hp.yhx{κ α:Type}{F:List Nat}{w₀ w:World}{L R:List Asrt}{b:Nat}{ek:κ->Value}{ev:α->Value}{l l':List (κ×α)}(hm:Pick L (yn b ek ev l) R)(he:l=l')(h:Hp F w₀ w L):Hp F w₀ w (yn b ek ev l'::R):=by
 subst he;exact h.front hm
section gh
variable [Rnd]
variable {P:Program} {n:Nat} {F:List Nat} {w₀:World} {env:List (Nat×Value)} {L R:List Asrt} {ops:Array Oper} {Q:Exit->Act->World->Prop} {l:List Oper} {G:Type} {φ:G->Prop} {L':G->List Asrt} {M:List Asrt}
theorem WL.gh(h:∀ w,Hp F w₀ w L->∃ g,φ g/\Hp F w₀ w (L' g))(k:∀ g,φ g->WL P n F w₀ ops Q l env (L' g)):WL P n F w₀ ops Q l env L:=fun a w hs=>by
 obtain⟨g,h1,h2⟩:=h w hs.hp;exact k g h1 a w (hs.world h2)
theorem WL.ghL(h:∀ w,Hp F w₀ w L->Hp F w₀ w M)(k:WL P n F w₀ ops Q l env M):WL P n F w₀ ops Q l env L:=fun a w hs=>k a w (hs.world (h w hs.hp))
theorem WC.ghL{c:Code}(h:∀ w,Hp F w₀ w L->Hp F w₀ w M)(k:WC P n F w₀ Q c env M):WC P n F w₀ Q c env L:=fun a w hs=>k a w (hs.world (h w hs.hp))
theorem WX.ghL{e:Exit}(h:∀ w,Hp F w₀ w L->Hp F w₀ w M)(k:WX n F w₀ Q e env M):WX n F w₀ Q e env L:=fun a w hs=>k a w (hs.world (h w hs.hp))
variable {tl:Nat->Bool} {Ls:List Asrt} {fuel:Nat} {listed:Array Bool} {QD:Act->World->Prop}
theorem WD.gh(h:∀ w,Hp F w₀ w L->∃ g,φ g/\Hp F w₀ w (L' g))(k:∀ g,φ g->WD P n F w₀ ops tl Ls QD fuel listed env (L' g)):WD P n F w₀ ops tl Ls QD fuel listed env L:=fun a w hs=>by
 obtain⟨g,h1,h2⟩:=h w hs.hp;exact k g h1 a w (hs.world h2)
theorem WD.ghL(h:∀ w,Hp F w₀ w L->Hp F w₀ w M)(k:WD P n F w₀ ops tl Ls QD fuel listed env M):WD P n F w₀ ops tl Ls QD fuel listed env L:=fun a w hs=>k a w (hs.world (h w hs.hp))
end gh
/-! ### interface values -/
section ifc
variable [Rnd]
variable {P:Program} {n:Nat} {F:List Nat} {w₀:World} {env:List (Nat×Value)} {L R:List Asrt} {d:Option Tmp} {ty:TypeId} {pos:String} {after:Array Edge} {g:Option (Nat×Bool)} {x y:Operand} {v:Value} {t e T:TypeId}
end ifc
end Sep
namespace Sep
open Go Go.RowKit
variable {w:World}{s sz:Nat}{α:Type}
/-! ### 'm[k] op= v': the entry is made sure of, and stored to by its stamp -/
section ent
variable {κ α:Type} [DecidableEq κ]
def mapE(b:Nat)(ek:κ->Value)(ev:α->Value)(l:List (κ×α))(k:κ)(s:Nat):Asrt where
 fp:=[b]
 ok w:=∃ es clock i e,w.heap[b]?=some (.map es clock)/\es.toList.map (fun e=>(e.key,e.val))=l.map (fun p=>(ek p.1,ev p.2))/\y6A es clock/\
  ((l.map (·.1)).findIdx? fun k'=>decide (k=k'))=some i/\es[i]?=some e/\e.born=s
 loc w w' h hl hk:=by
  obtain⟨es,clock,i,e,h1,h2⟩:=hk
  exact⟨es,clock,i,e,by rw[h b (by simp) (hl b (by simp))];exact h1,h2⟩
variable [Rnd]
variable {P:Program} {n:Nat} {F:List Nat} {w₀:World} {env:List (Nat×Value)} {L R:List Asrt} {d:Option Tmp} {ty:TypeId} {pos:String} {after:Array Edge} {g:Option (Nat×Bool)} {x y z:Operand} {t kt e:TypeId}
 {ek:κ->Value} {ev:α->Value} {l:List (κ×α)} {b:Nat} {k:κ} {v dflt:α} {zv:Value}
theorem Hp.setMapG{X Y:Asrt}{o:Obj}(h:Hp F w₀ w L)(hm:Pick L X R)(hX:X.fp=[b])(hY:Y.fp=[b])(hok:∀ w',w'.heap[b]?=some o->Y.ok w'):
  Hp F w₀ { w with heap:=w.heap.setIfInBounds b o } (Y::R):=by
 have hlt:b<w.heap.size:=(h.front hm).lt _ (List.mem_cons_self ..) b (by simp[hX])
 refine(h.front hm).upd (x:=X) (y:=Y) .here rfl ⟨rfl,Nat.le_refl _⟩ rfl (by simp) (fun k _ hk'=>?_) (hok _ (by simp[hlt])) ?_
 ·have:b≠k:=fun e=>hk' (by simp[hX,e])
  simp[Array.getElem?_setIfInBounds,this]
 ·intro b' hb'
  rw[hY] at hb'
  simp only[List.mem_singleton] at hb'
  subst hb'
  exact⟨by simpa using hlt,.inl (by simp[hX])⟩
theorem ygN{γ:Type}{k:κ}{u v:γ}:∀ {l:List (κ×γ)},yC (yC l k u) k v=yC l k v
 | []=>by simp[yC]
 | p::l=>by
  by_cases hk:k=p.1
  ·subst hk;simp[yC]
  ·simp only[yC,hk,if_false];rw[ygN]
theorem yeE{k:κ}:∀ {l:List κ},(l.findIdx? fun k'=>decide (k=k'))=none->((l++[k]).findIdx? fun k'=>decide (k=k'))=some l.length
 | [],_=>by simp
 | a::l,h=>by
  rw[List.findIdx?_cons] at h
  rw[List.cons_append,List.findIdx?_cons]
  by_cases hk:k=a
  ·subst hk;simp at h
  ·simp only[hk,decide_false,Bool.false_eq_true,if_false,Option.map_eq_none_iff] at h ⊢
   rw[yeE h];rfl
theorem yjD(K:KeyT P kt ek)(ht:P.underlying t=some (.map kt e))(hz:y2t P e zv)(hd:zv=ev dflt)(hx:eo env x=some (.map (some b)))(hy:eo env y=some (ek k))(hm:Pick L (yn b ek ev l) R):
  Ef P n F w₀ env L ⟨d,.mapEntry t x y,ty,pos,after,g⟩ (fun _:Nat=>True) (fun s => .tuple #[ev (yd l k dflt),.int .i64 ((s:Nat):Int)]) (fun s=>mapE b ek ev (yC l k (yd l k dflt)) k s::R):=by
 intro a w h
 obtain⟨es,clock,hb,he,hst⟩:=h.hp.ok _ hm.mem
 have h1:=K.find k es.toList (l.map (·.1)) w (yaF he)
 have h2:=y9P (ek:=ek) (ev:=ev) (k:=k) (d:=dflt) l es.toList he
 have h3:=ydf (k:=k) l
 have hzw:=congrFun hz w
 cases hf:(l.map (·.1)).findIdx? (fun k'=>decide (k=k')) with
 | none=>
  rw[hf] at h1 h2 h3
  simp only[Option.map_none] at h1 h2
  refine⟨clock,{ w with heap:=w.heap.setIfInBounds b (.map (es.push { key:=ek k,val:=ev dflt,born:=clock }) (clock+1)) },?_,trivial,?_⟩
  ·simp[execOp,h.eval hx,h.eval hy,Instr.mapEntry,Sem.run_bind,run_underlying ht,Result.andThen,MapKept.run_getObj_map hb,K.chk,h1,hzw,hd,MapKept.run_setObj_map _ hb,goInt,<- h2]
  ·refine h.hp.setMapG (X:=yn b ek ev l) hm rfl rfl (fun w' hw'=>⟨_,_,l.length,{ key:=ek k,val:=ev dflt,born:=clock },hw',?_,hst.push _ _,?_,?_,rfl⟩)
   ·rw[y9R l hf]
    have:ev (yd l k dflt)=ev dflt:=h2.symm
    simp[he,this]
   ·rw[y9R l hf,List.map_append]
    simpa using yeE hf
   ·have hl:es.size=l.length:=by have:=congrArg List.length he;simpa using this
    rw[<- hl];simp
 | some i=>
  rw[hf] at h1 h2 h3
  obtain⟨i1,i2,i3⟩:=y9Q (v:=yd l k dflt) l es.toList i he hf
  have i1':i<es.size:=by simpa using i1
  have e0:es[i]?=some es[i]:=Array.getElem?_eq_getElem i1'
  have hk0:es[i].key=ek k:=by
   rw[Array.getElem?_toList,e0] at i2;simpa using i2
  have hv0:es[i].val=ev (yd l k dflt):=by
   simp only[Option.map_some] at h2
   rw[Array.getElem?_toList,e0] at h2;simpa using h2
  refine⟨es[i].born,{ w with heap:=w.heap.setIfInBounds b (.map (es.modify i fun e=>{ e with key:=ek k }) clock) },?_,trivial,?_⟩
  ·simp[execOp,h.eval hx,h.eval hy,Instr.mapEntry,Sem.run_bind,run_underlying ht,Result.andThen,MapKept.run_getObj_map hb,K.chk,h1,e0,hk0,K.stays,MapKept.run_setObj_map _ hb,goInt,hv0]
  ·have hmod:(es.modify i fun e=>{ e with key:=ek k })=es:=by
    apply Array.ext_getElem?
    intro j
    rw[Array.getElem?_modify]
    by_cases hij:i=j
    ·subst hij;rw[e0];simp[<- hk0]
    ·simp[hij]
   have hs:yC l k (yd l k dflt)=l:=ydl (d:=dflt) (by rw[<- h3];rfl) rfl
   rw[hmod,hs]
   exact h.hp.setMapG (X:=yn b ek ev l) hm rfl rfl (fun w' hw'=>⟨es,clock,i,es[i],hw',he,hst,hf,e0,rfl⟩)
theorem ykc{es:Array MapEntry}{i:Nat}{e0:MapEntry}(hn:(es.toList.map (·.born)).Nodup)(h:es[i]?=some e0):es.findIdx? (fun e=>((e.born:Nat):Int) == ((e0.born:Nat):Int))=some i:=by
 rw[Array.findIdx?_eq_some_iff_getElem]
 obtain⟨hi,h1⟩:=Array.getElem?_eq_some_iff.1 h
 refine⟨hi,by simp[h1],?_⟩
 intro j hj
 simp only[beq_iff_eq]
 intro hc
 have hji:j<es.size:=by omega
 have hc':es[j].born=e0.born:=Int.ofNat.inj hc
 have h2:=(List.pairwise_iff_getElem.1 hn) j i (by simpa using hji) (by simpa using hi) hj
 apply h2
 simp[hc',h1]
theorem yhy{vv:Value}(hx:eo env x=some (.map (some b)))(hy:eo env y=some (.int .i64 ((s:Nat):Int)))(hv:eo env z=some vv)(hvv:vv=ev v)(hm:Pick L (mapE b ek ev l k s) R):
  Ef0 P n F w₀ env L ⟨none,.entryStore t x y z,ty,pos,after,g⟩ (yn b ek ev (yC l k v)::R):=by
 intro a w h
 subst hvv
 obtain⟨es,clock,i,e0,hb,he,hst,hf,hi,rfl⟩:=h.hp.ok _ hm.mem
 have hfi:=ykc hst.2 hi
 obtain⟨i1,i2,i3⟩:=y9Q (v:=v) l es.toList i he hf
 have hk0:e0.key=ek k:=by rw[Array.getElem?_toList,hi] at i2;simpa using i2
 refine⟨{ w with heap:=w.heap.setIfInBounds b (.map (es.modify i fun e=>{ e with val:=ev v }) clock) },.inl ?_,?_⟩
 ·simp[execOp,h.eval hx,h.eval hy,h.eval hv,Instr.entryStore,Sem.run_bind,Result.andThen,MapKept.run_getObj_map hb,asInt,asIntOf,hfi,MapKept.run_setObj_map _ hb]
 ·refine h.hp.setMapG (X:=mapE b ek ev l k e0.born) hm rfl rfl (fun w' hw'=>⟨_,_,hw',?_,hst.modify _ _ (fun _=>rfl)⟩)
  rw[<- i3,Array.toList_modify]
  apply List.ext_getElem?
  intro j
  simp only[List.getElem?_map,List.getElem?_modify]
  by_cases hij:i=j
  ·subst hij
   rw[Array.getElem?_toList,hi]
   simp[hk0]
  ·simp[hij]
theorem yhd{vv:Value}{u:α}(hx:eo env x=some (.map (some b)))(hy:eo env y=some (.int .i64 ((s:Nat):Int)))(hv:eo env z=some vv)(hvv:vv=ev v)(hm:Pick L (mapE b ek ev (yC l k u) k s) R):
  Ef0 P n F w₀ env L ⟨none,.entryStore t x y z,ty,pos,after,g⟩ (yn b ek ev (yC l k v)::R):=by
 have:=yhy (P:=P) (n:=n) (F:=F) (w₀:=w₀) (L:=L) (env:=env) (t:=t) (ty:=ty) (pos:=pos) (after:=after) (g:=g) (v:=v) hx hy hv hvv hm
 rwa [ygN] at this
def yfq(b:Nat)(ek:κ->Value)(ev:α->Value)(k:κ)(d v:α):Asrt where
 fp:=[b]
 ok w:=∃ l,(yn b ek ev l).ok w/\yd l k d=v
 loc w w' h hl hk:=by
  obtain⟨l,h1,h2⟩:=hk
  exact⟨l,(yn b ek ev l).loc w w' h hl h1,h2⟩
theorem y7E{d:α}(h:(yn b ek ev l).ok w):(yfq b ek ev k d (yd l k d)).ok w:=⟨l,h,rfl⟩
theorem ygO{γ:Type}{k:κ}{u d:γ}:∀ {l:List (κ×γ)},yd (yC l k u) k d=u
 | []=>by simp[yC,yd]
 | p::l=>by
  by_cases hk:k=p.1
  ·subst hk;simp[yC,yd]
  ·simp only[yC,hk,if_false,yd];exact ygO
theorem ykd{d:α}(h:(mapE b ek ev (yC l k (yd l k d)) k s).ok w):(yfq b ek ev k d (yd l k d)).ok w:=by
 obtain⟨es,clock,i,e,h1,h2,h3,_⟩:=h
 exact⟨_,⟨es,clock,h1,h2,h3⟩,ygO⟩
theorem ygP{u:α}(K:KeyT P kt ek)(ht:P.underlying t=some (.map kt e))(hz:y2t P e zv)(hd:zv=ev dflt)(hx:eo env x=some (.map (some b)))(hy:eo env y=some (ek k))(hm:Pick L (yfq b ek ev k dflt u) R):
  Qt P n F w₀ env L ⟨d,.lookup t x y false,ty,pos,after,g⟩ (ev u):=by
 intro a w h
 obtain⟨l,h1,h2⟩:=h.hp.ok _ hm.mem
 have hp':=h.hp.front hm
 have h3:Hp F w₀ w (yn b ek ev l::R):=by
  refine⟨hp'.os,hp'.tape,hp'.output,hp'.size,hp'.block,fun y hy=>?_,fun y hy c hc=>?_,fun y hy c hc=>?_,List.pairwise_cons.2 (List.pairwise_cons.1 hp'.sep)⟩
  ·rcases List.mem_cons.1 hy with rfl | hy
   ·exact h1
   ·exact hp'.ok y (List.mem_cons_of_mem _ hy)
  ·rcases List.mem_cons.1 hy with rfl | hy
   ·exact hp'.lt _ (List.mem_cons_self ..) c hc
   ·exact hp'.lt y (List.mem_cons_of_mem _ hy) c hc
  ·rcases List.mem_cons.1 hy with rfl | hy
   ·exact hp'.ow _ (List.mem_cons_self ..) c hc
   ·exact hp'.ow y (List.mem_cons_of_mem _ hy) c hc
 subst h2
 exact y2V K ht hz hd hx hy .here a w (h.world h3)
end ent
theorem WD.oldQ[Rnd]{P:Program}{n dd:Nat}{F:List Nat}{w₀:World}{env:List (Nat×Value)}{L:List Asrt}{ops:Array Oper}{G:Type}{φ:G->Prop}{val:G->Value}{L':G->List Asrt}{o:Oper}{tl:Nat->Bool}{Ls:List Asrt}{fuel:Nat}{listed:Array Bool}{QD:Act->World->Prop}{i:Nat}(hi:ops[i]?=some o)(hr:Region.ready .any ops listed=[i])(hg:gd env ops o=some true)(hd:o.dst=some dd)(hdn:Nat.blt dd n=true)(ht:tl i=true)(hq:Ef P n F w₀ env L o φ val L')(hst:∀ g,Sin (L' g) Ls)(k:∀ g,φ g->WD P n F w₀ ops tl Ls QD fuel (listed.setIfInBounds i true) ((dd,val g)::env) (L' g)):WD P n F w₀ ops tl Ls QD (fuel+1) listed env L:=
 WD.old hi hr hg hd hdn ht hst hq k
section app
variable [Rnd] {F:List Nat} {w₀:World} {L:List Asrt} {Z:Zp}
theorem ZS.news{Pr:List Value->α->Prop}{ao:Option Addr}{cap:Nat}{l:List α}(h:ZS Z sz Pr ao cap l):
  ∃ cs,RR sz Pr cs l/\∀ L F w₀,PV F w₀ L Z->∀ w,Hp F w₀ w L->cs≠[]->∃ A,ao=some A/\∀ j u,cs[j]?=some u->w.cell? (A.add j)=some u:=by
 obtain⟨h1,h2,cs,h3,h4⟩:=h
 refine⟨cs,h3,fun L F w₀ pv w hw hne=>?_⟩
 obtain⟨A,hA,hc⟩:=h4 (by
  rintro rfl
  have:=h3.len
  simp only[List.length_nil,Nat.zero_mul] at this
  exact hne (List.eq_nil_of_length_eq_zero this))
 exact⟨A,hA,hc w (pv w hw)⟩
theorem RR.oc{Pr:List Value->α->Prop}{cs:List Value}{l:List α}(h:RR sz Pr cs l)(hP:∀ r x,Pr r x->∀ u∈r,u.oneCell'=true):∀ u∈cs,u.oneCell'=true:=by
 obtain⟨rows,h1,h2,h3,h4⟩:=h
 intro u hu
 rw[<- h1] at hu
 obtain⟨r,hr,hur⟩:=List.mem_flatten.1 hu
 obtain⟨i,hi,rfl⟩:=List.getElem_of_mem hr
 exact hP _ _ (h4 i rows[i] (l[i]'(by omega)) (List.getElem?_eq_getElem hi) (List.getElem?_eq_getElem (by omega))) u hur
theorem RR.store[Inhabited α]{Pr:List Value->α->Prop}{cs r tl vs:List Value}{l:List α}{i:Int}{y:α}{k:Nat}(h:RR sz Pr cs l)(h0:0<=i)(h1:i<l.length)(hd:cs.drop (i.toNat*sz)=r++tl)(hr:r.length=sz)(hk:k+vs.length<=sz)(hP:Pr (y6y r k vs) y):RR sz Pr (y6y cs (i.toNat*sz+k) vs) (l.set i.toNat y)/\i.toNat*sz+k+vs.length<=cs.length:=by
 have hlen:=h.len
 have hi:i.toNat<l.length:=by omega
 have hle:(i.toNat+1)*sz<=l.length*sz:=Nat.mul_le_mul_right _ (by omega)
 rw[Nat.succ_mul] at hle
 obtain⟨rows,a1,a2,a3,a4⟩:=h
 have hfit:i.toNat*sz+k+vs.length<=cs.length:=by omega
 refine⟨⟨rows.set i.toNat (y6y r k vs),?_,?_,by simp[a3],?_⟩,hfit⟩
 ·have hir:i.toNat<rows.length:=by omega
  have e1:rows=rows.take i.toNat++rows[i.toNat]::rows.drop (i.toNat+1):=by
   rw[List.getElem_cons_drop,List.take_append_drop]
  have e2:(rows.take i.toNat).flatten.length=i.toNat*sz:=by
   have:∀(rs:List (List Value)),(∀ r∈rs,r.length=sz)->rs.flatten.length=rs.length*sz:=by
    intro rs
    induction rs with
    | nil=>simp
    | cons r rs ih=>intro hh;rw[List.flatten_cons,List.length_append,hh r (by simp),ih (fun r hr=>hh r (List.mem_cons_of_mem _ hr)),List.length_cons,Nat.succ_mul,Nat.add_comm]
   rw[this _ (fun r hr=>a2 r (List.mem_of_mem_take hr)),List.length_take,Nat.min_eq_left (by omega)]
  have e3:cs=(rows.take i.toNat).flatten++(rows[i.toNat]++(rows.drop (i.toNat+1)).flatten):=by
   rw[<- a1]
   have:=congrArg List.flatten e1
   rw[List.flatten_append,List.flatten_cons] at this
   exact this
  have e4:cs.drop (i.toNat*sz)=rows[i.toNat]++(rows.drop (i.toNat+1)).flatten:=by
   rw[e3,<- e2,List.drop_left]
  rw[e4] at hd
  have e5:rows[i.toNat]=r/\(rows.drop (i.toNat+1)).flatten=tl:=List.append_inj hd (by rw[a2 _ (List.getElem_mem hir),hr])
  rw[List.set_eq_take_append_cons_drop,if_pos hir,List.flatten_append,List.flatten_cons]
  rw[e3,e5.1]
  unfold y6y
  rw[<- e2]
  generalize (rows.take i.toNat).flatten=A
  generalize (rows.drop (i.toNat+1)).flatten=B
  have t1:(A++(r++B)).take (A.length+k)=A++r.take k:=by
   rw[List.take_length_add_append,List.take_append_of_le_length (by omega)]
  have t2:(A++(r++B)).drop (A.length+k+vs.length)=r.drop (k+vs.length)++B:=by
   rw[Nat.add_assoc,List.drop_length_add_append,List.drop_append_of_le_length (by omega)]
  rw[t1,t2]
  simp only[List.append_assoc]
 ·intro r' hr'
  rcases List.mem_or_eq_of_mem_set hr' with h' | rfl
  ·exact a2 _ h'
  ·unfold y6y;simp;omega
 ·intro j r' x hr' hx
  rw[List.getElem?_set] at hr' hx
  by_cases hj:i.toNat=j
  ·subst hj
   rw[if_pos rfl] at hr' hx
   rw[if_pos (by omega)] at hr' hx
   simp at hr' hx
   subst hr' hx
   exact hP
  ·rw[if_neg hj] at hr' hx
   exact a4 _ _ _ hr' hx
end app
end Sep
namespace Sep
open Go Go.RowKit
set_option linter.unusedSectionVars false
/-! ### a range over a map -/
def y7F(es:List MapEntry)(seen:Array Nat):List MapEntry:=es.filter fun e => !seen.contains e.born
theorem ycV{α β:Type}(f:α->β)(l:List α)(i:Nat):(l.eraseIdx i).map f=(l.map f).eraseIdx i:=by
 simp only[List.eraseIdx_eq_take_drop_succ,List.map_append,List.map_take,List.map_drop]
theorem yiz{l:List MapEntry}{i:Nat}{e:MapEntry}(hn:(l.map (·.born)).Nodup)(h:l[i]?=some e):l.filter (fun q=>q.born != e.born)=l.eraseIdx i:=by
 induction l generalizing i with
 | nil=>simp at h
 | cons a t ih=>
  simp only[List.map_cons,List.nodup_cons,List.mem_map,not_exists,not_and] at hn
  cases i with
  | zero=>
   simp only[List.getElem?_cons_zero,Option.some.injEq] at h
   subst h
   rw[List.filter_cons_of_neg (by simp),List.eraseIdx_cons_zero]
   exact List.filter_eq_self.2 fun q hq=>bne_iff_ne.2 (hn.1 q hq)
  | succ i=>
   rw[List.getElem?_cons_succ] at h
   have hm:e∈t:=List.mem_of_getElem? h
   rw[List.filter_cons_of_pos (by simpa using fun hc=>hn.1 e hm hc.symm),ih hn.2 h,List.eraseIdx_cons_succ]
theorem yiA{es:List MapEntry}{seen:Array Nat}{i:Nat}{e:MapEntry}(hn:(es.map (·.born)).Nodup)(h:(y7F es seen)[i]?=some e):y7F es (seen.push e.born)=(y7F es seen).eraseIdx i:=by
 rw[<- yiz (l:=y7F es seen) (i:=i) (List.Sublist.nodup (List.Sublist.map _ List.filter_sublist) hn) h]
 unfold y7F
 rw[List.filter_filter]
 congr 1;funext q
 rw[Array.contains_push,Bool.not_or,Bool.and_comm]
 simp[bne,Bool.beq_comm,BEq.comm]
theorem yke{l:List MapEntry}{e:MapEntry}(hn:(l.map (·.born)).Nodup)(h:e∈l):l.find? (fun x=>x.born == e.born)=some e:=by
 induction l with
 | nil=>simp at h
 | cons a t ih=>
  simp only[List.map_cons,List.nodup_cons,List.mem_map,not_exists,not_and] at hn
  rcases List.mem_cons.1 h with rfl | h
  ·simp
  ·rw[List.find?_cons_of_neg (by simpa using fun hc=>hn.1 e h hc.symm)];exact ih hn.2 h
section
variable {κ α:Type}
def y6B(r b:Nat)(ek:κ->Value)(ev:α->Value)(l rem:List (κ×α))(cur:Option (κ×α)):Asrt where
 fp:=[r,b]
 ok w:=r≠b/\∃ es clock seen,w.heap[b]?=some (.map es clock)/\es.toList.map (fun e=>(e.key,e.val))=l.map (fun p=>(ek p.1,ev p.2))/\y6A es clock/\w.heap[r]?=some (.mapIter (some b) clock seen clock)/\
  (y7F es.toList seen).map (fun e=>(e.key,e.val))=rem.map (fun p=>(ek p.1,ev p.2))/\
  ∀ c,cur=some c->∃ s e,seen.back?=some s/\es.find? (fun x=>x.born == s)=some e/\e.key=ek c.1/\e.val=ev c.2
 loc w w' h hl hk:=by
  obtain⟨h0,es,clock,seen,h1,h2,h3,h4,h5⟩:=hk
  exact⟨h0,es,clock,seen,by rw[h b (by simp) (hl b (by simp))];exact h1,h2,h3,by rw[h r (by simp) (hl r (by simp))];exact h4,h5⟩
end
section
variable [Rnd]
variable {P:Program} {n:Nat} {F:List Nat} {w₀:World} {env:List (Nat×Value)} {L R:List Asrt} {d:Option Tmp} {ty:TypeId} {pos:String} {after:Array Edge} {g:Option (Nat×Bool)} {x y z:Operand} {t kt e:TypeId}
 {κ α:Type} {ek:κ->Value} {ev:α->Value} {l rem:List (κ×α)} {cur:Option (κ×α)} {r b:Nat}
theorem e_range(ht:P.underlying t=some (.map kt e))(hx:eo env x=some (.map (some b)))(hm:Pick L (yn b ek ev l) R):
  Ef P n F w₀ env L ⟨d,.range t x,ty,pos,after,g⟩ (fun _:Nat=>True) (fun r => .pointer (some ⟨r,0,none⟩)) (fun r=>y6B r b ek ev l l none::R):=by
 intro a w h
 obtain⟨es,clock,hb,he,hst⟩:=h.hp.ok _ hm.mem
 have hbl:b<w.heap.size:=(h.hp.front hm).lt _ (List.mem_cons_self ..) b (by simp[yn])
 refine⟨w.heap.size,w.alloc (.mapIter (some b) clock #[] clock),?_,trivial,?_⟩
 ·simp[execOp,h.eval hx,Instr.range,Sem.run_bind,run_underlying ht,Result.andThen,MapKept.run_getObj_map hb]
 ·have h1:=(h.hp.front hm).alloc (.mapIter (some b) clock #[] clock)
  have hA:=Ext.alloc w (.mapIter (some b) clock #[] clock)
  refine(h.hp.front hm).upd (x:=yn b ek ev l) (y:=y6B w.heap.size b ek ev l l none) .here hA.os hA.tape hA.output hA.size (fun k hk _=>hA.block k hk) ⟨by omega,es,clock,#[],?_,he,hst,?_,?_,by simp⟩ ?_
  ·rw[hA.block b hbl];exact hb
  ·exact heap_alloc_new w _
  ·unfold y7F;rw[List.filter_eq_self.2 (by simp)];exact he
  ·intro q hq
   simp only[y6B,List.mem_cons,List.not_mem_nil,or_false] at hq
   rcases hq with rfl | rfl
   ·exact⟨by simp,.inr (Nat.le_refl _)⟩
   ·exact⟨Nat.lt_of_lt_of_le hbl hA.size,.inl (by simp[yn])⟩
theorem yfr{w:World}{m:Nat}(hm:0<m):∃ i N,i<m/\w.drawn<=N/\(Go.choose (.mapNext m)).run P w = .ok i { w with drawn:=N }:=by
 by_cases h:m<=1
 ·exact⟨0,w.drawn,by omega,Nat.le_refl _,by simp[Go.choose,Sem.run,Question.forced,h]⟩
 ·exact⟨w.tape w.drawn (.mapNext m) % m,w.drawn+1,Nat.mod_lt _ hm,Nat.le_succ _,by simp[-run_choose_drew,Go.choose,Sem.run,Question.forced,h,Question.cut]⟩
theorem e_nextM(hx:eo env x=some (.pointer (some ⟨r,0,none⟩)))(hm:Pick L (y6B r b ek ev l rem cur) R):
  Ef P n F w₀ env L ⟨d,.next x false,ty,pos,after,g⟩ (fun o:Option (Nat×(κ×α))=>match o with | none=>rem=[] | some p=>rem[p.1]?=some p.2)
   (fun o=>match o with | none => .tuple #[.bool false] | some p => .tuple #[.bool true,ek p.2.1,ev p.2.2])
   (fun o=>match o with | none=>y6B r b ek ev l [] cur::R | some p=>y6B r b ek ev l (rem.eraseIdx p.1) (some p.2)::R):=by
 intro a w h
 obtain⟨hrb,es,clock,seen,hb,he,hst,hr,hl,hc⟩:=h.hp.ok _ hm.mem
 have hrl:r<w.heap.size:=(h.hp.front hm).lt _ (List.mem_cons_self ..) r (by simp[y6B])
 have hbl:b<w.heap.size:=(h.hp.front hm).lt _ (List.mem_cons_self ..) b (by simp[y6B])
 have hg1:(getObj r).run P w = .ok (.mapIter (some b) clock seen clock) w:=by simp[getObj,Sem.run,hr]
 have hg2:=MapKept.run_getObj_map (P:=P) hb
 have hu:(!seen.isEmpty && !es.isEmpty&&es.all (fun q=>decide (q.born>=clock)))=false:=by
  by_cases h0:es.isEmpty=true
  ·simp[h0]
  ·have:es.all (fun q=>decide (q.born>=clock))=false:=by
    rw[Bool.eq_false_iff]
    intro hc'
    rw[Array.all_eq_true_iff_forall_mem] at hc'
    have hs:0<es.size:=by
     rw[Array.isEmpty_iff_size_eq_zero] at h0;omega
    have h1:=of_decide_eq_true (hc' es[0] (Array.getElem_mem hs))
    have h2:=hst.1 es[0] (by simp)
    omega
   simp[this]
 have hL:(es.filter fun q => !seen.contains q.born).toList=y7F es.toList seen:=by unfold y7F;rw[Array.toList_filter]
 have hold:(es.filter fun q => !seen.contains q.born).filter (fun q=>decide (q.born<clock))=es.filter fun q => !seen.contains q.born:=by
  apply Array.ext'
  rw[Array.toList_filter,List.filter_eq_self]
  intro q hq
  rw[hL] at hq
  exact decide_eq_true (hst.1 q (List.mem_filter.1 hq).1)
 have hnew:(es.filter fun q => !seen.contains q.born).filter (fun q=>decide (q.born>=clock)) = #[]:=by
  apply Array.ext'
  rw[Array.toList_filter,Array.toList_empty,List.filter_eq_nil_iff]
  intro q hq
  rw[hL] at hq
  have:=hst.1 q (List.mem_filter.1 hq).1
  simp;omega
 have hlen:rem.length=(y7F es.toList seen).length:=by simpa using (congrArg List.length hl).symm
 have hg3:∀ o N,(setObj r o).run P { w with drawn:=N } = .ok () ({ w with drawn:=N }.putObj r o):=fun o N=>by
  simp[setObj,Sem.run,hr,World.putObj]
 generalize hLe:(es.filter fun q => !seen.contains q.born)=left at hL hold hnew
 have hrl':rem.length=left.size:=by rw[hlen,<- hL];simp
 have hl':=hl
 rw[<- hL] at hl
 by_cases h0:left.size=0
 ·have hl0:left = #[]:=Array.eq_empty_of_size_eq_zero h0
  obtain rfl:rem=[]:=List.eq_nil_of_length_eq_zero (by omega)
  obtain⟨i,N,hi,hN,hrun⟩:=yfr (P:=P) (w:=w) Nat.one_pos
  obtain rfl:i=0:=by omega
  refine⟨none,{ w with drawn:=N },?_,rfl,(h.hp.front hm).ext (Ext.yeP w N hN)⟩
  ·simp only[execOp,h.eval hx,Instr.next,Sem.run_bind,hg1,hg2,Result.andThen,hu,hLe,hl0,Bool.false_eq_true,if_false,Array.filter_empty,Array.isEmpty_empty,if_true,Array.append_empty,Array.map_empty]
   simp[-run_choose_drew,hrun,Sem.run_bind,Result.andThen,Sem.run,pure]
 ·obtain⟨i,N,hi,hN,hrun⟩:=yfr (P:=P) (w:=w) (m:=left.size) (by omega)
  have hir:i<rem.length:=by omega
  have hE:=h.hp.ext (Ext.yeP w N hN)
  have hli:=congrArg (fun z=>z[i]?) hl
  simp only[List.getElem?_map,Array.getElem?_toList,List.getElem?_eq_getElem hir,Array.getElem?_eq_getElem hi,Option.map_some,Option.some.injEq,Prod.mk.injEq] at hli
  have hold':(left.filter fun q=>decide (q.born<clock))=left:=hold
  have hne:left.isEmpty=false:=by rw[Bool.eq_false_iff];intro hc;exact h0 (Array.isEmpty_iff_size_eq_zero.1 hc)
  refine⟨some (i,rem[i]),{ w with drawn:=N }.putObj r (.mapIter (some b) clock (seen.push left[i].born) clock),?_,List.getElem?_eq_getElem hir,?_⟩
  ·simp only[execOp,h.eval hx,Instr.next,Sem.run_bind,hg1,hg2,Result.andThen,hu,hLe,hold',hnew]
   simp[-run_choose_drew,hrun,Sem.run_bind,Result.andThen,Sem.run,pure,hne,hg3,hi,hli.1,hli.2]
  ·have hm':(y7F es.toList seen)[i]?=some left[i]:=by rw[<- hL,Array.getElem?_toList,Array.getElem?_eq_getElem hi]
   have hme:left[i]∈es.toList:=(List.mem_filter.1 (List.mem_of_getElem? hm')).1
   refine(hE.front hm).upd (x:=y6B r b ek ev l rem cur) (y:=y6B r b ek ev l (rem.eraseIdx i) (some rem[i])) (w':={ w with drawn:=N }.putObj r (.mapIter (some b) clock (seen.push left[i].born) clock)) .here rfl ⟨rfl,Nat.le_refl _⟩ rfl (by rw[World.putObj_size];exact Nat.le_refl _) (fun k _ hk=>World.putObj_heap_other fun hc=>hk (by simp[y6B,hc])) ⟨hrb,es,clock,seen.push left[i].born,?_,he,hst,World.putObj_heap_same hrl,?_,?_⟩ fun q hq=>⟨by rw[World.putObj_size];simp only[y6B,List.mem_cons,List.not_mem_nil,or_false] at hq;rcases hq with rfl | rfl <;> assumption,.inl hq⟩
   ·rw[World.putObj_heap_other (Ne.symm hrb)];exact hb
   ·rw[yiA hst.2 hm',ycV,hl',ycV]
   ·rintro c hc'
    obtain rfl:rem[i]=c:=oJ hc'
    refine⟨left[i].born,left[i],by simp,?_,hli.1,hli.2⟩
    rw[<- Array.find?_toList];exact yke hst.2 hme
theorem e_entry{c:κ×α}(hx:eo env x=some (.pointer (some ⟨r,0,none⟩)))(hm:Pick L (y6B r b ek ev l rem (some c)) R):
  Qt P n F w₀ env L ⟨d,.entry x,ty,pos,after,g⟩ (.tuple #[ek c.1,ev c.2]):=by
 intro a w h
 obtain⟨hrb,es,clock,seen,hb,he,hst,hr,hl,hc⟩:=h.hp.ok _ hm.mem
 have hg1:(getObj r).run P w = .ok (.mapIter (some b) clock seen clock) w:=by simp[getObj,Sem.run,hr]
 have hg2:=MapKept.run_getObj_map (P:=P) hb
 obtain⟨s,e,h1,h2,h3,h4⟩:=hc c rfl
 simp[execOp,h.eval hx,Instr.entry,Sem.run_bind,hg1,hg2,Result.andThen,h1,h2,h3,h4,Sem.run,pure]
theorem Hp.ykf{w:World}(hm:Pick L (y6B r b ek ev l rem cur) R)(h:Hp F w₀ w L):Hp F w₀ w (yn b ek ev l::R):=by
 have h1:=h.front hm
 obtain⟨hrb,es,clock,seen,hb,he,hst,hr,hl,hc⟩:=h1.ok _ (List.mem_cons_self ..)
 refine h1.upd (x:=y6B r b ek ev l rem cur) (y:=yn b ek ev l) .here rfl (TD.refl _) rfl (Nat.le_refl _) (fun _ _ _=>rfl) ⟨es,clock,hb,he,hst⟩ fun q hq=>?_
 have hq':q=b:=by simpa [yn] using hq
 subst hq'
 exact⟨h1.lt _ (List.mem_cons_self ..) _ (by simp[y6B]),.inl (by simp[y6B])⟩
theorem WL.nextM{dd:Nat}{ops:Array Oper}{Q:Exit->Act->World->Prop}{rest:List Oper}{o:Oper}(ho:o=⟨some dd,.next x false,ty,pos,after,none⟩)(hdn:Nat.blt dd n=true)(hx:eo env x=some (.pointer (some ⟨r,0,none⟩)))(hm:Pick L (y6B r b ek ev l rem cur) R)(k0:rem=[]->WL P n F w₀ ops Q rest ((dd,.tuple #[.bool false])::env) (yn b ek ev l::R))(k1:∀(i:Nat) (y:κ×α) (m:List (κ×α)),rem[i]?=some y->m=rem.eraseIdx i->WL P n F w₀ ops Q rest ((dd,.tuple #[.bool true,ek y.1,ev y.2])::env) (y6B r b ek ev l m (some y)::R)):WL P n F w₀ ops Q (o::rest) env L:=by
 subst ho
 refine WL.eff rfl rfl hdn (e_nextM hx hm) fun g hg=>?_
 cases g with
 | none=>exact WL.ghL (fun _ h=>Hp.ykf .here h) (k0 hg)
 | some p=>exact k1 p.1 p.2 _ hg rfl
end
end Sep
namespace Sep
open Go Go.RowKit
/-! ### a scope that no goto leaves; a label -/
section
variable {P:Program} {n:Nat} {F:Fence} {Q:Exit->Act->World->Prop} {a:Act} {w:World}
theorem y7d{b:Frame}{k:List Item}{cs:List Frame}{c:Code}:step P (lone (b.atR a (.code (.scope c)::k)) cs w) = .next (lone (b.atR a (.code c :: .inScope c::k)) cs w):=
 step_lone_go (by simp[stepG,stepG.exec,Frame.atR])
theorem yhe{b:Frame}{k:List Item}{cs:List Frame}{c:Code}:step P (lone (b.atR a (.inScope c::k)) cs w) = .next (lone (b.atR a k) cs w):=
 step_lone_go (by simp[stepG,stepG.exec,Frame.atR])
theorem yjE{c:Code}(h:c.wpIn F n P (Exit.noGoto Q) a w):(Code.scope c).wpIn F n P Q a w:=by
 intro b k cs hro hb hr
 have h0:(lone (b.atR a (.code (.scope c)::k)) cs w).fenced P F:=fenced_calm hb hr rfl
 obtain⟨e,a₁,w₁,hq,harr⟩:=h b (.inScope c::k) cs hro hb hr
 cases e with
 | normal=>exact⟨.normal,a₁,w₁,hq,.head h0 y7d (StepsIn.trans harr (.one (fenced_calm hb hr rfl) yhe))⟩
 | exit id=>
  have hx:exitTo id (.inScope c::k)=exitTo id k:=by simp[exitTo]
  exact⟨.exit id,a₁,w₁,hq,fun k' hk => .head h0 y7d (harr.1 k' (by rw[hx];exact hk)),
   fun hr' hk=>let ⟨k₁,h1,h2⟩:=harr.2 hr' (by rw[hx];exact hk);⟨k₁,h1,.head h0 y7d h2⟩⟩
 | goto l=>exact hq.elim
 | ret=>exact⟨_,a₁,w₁,hq,.of_steps (.one h0 y7d) harr⟩
 | panic ch=>exact⟨_,a₁,w₁,hq,.of_steps (.one h0 y7d) harr⟩
 | outgrown=>exact⟨_,a₁,w₁,hq,.of_steps (.one h0 y7d) harr⟩
end
section
variable [Rnd]
variable {P:Program} {n:Nat} {F:List Nat} {w₀:World} {Q:Exit->Act->World->Prop} {env:List (Nat×Value)} {L:List Asrt}
theorem WC.scope{c:Code}(k:WC P n F w₀ (Exit.noGoto Q) c env L):WC P n F w₀ Q (.scope c) env L:=fun a w h=>yjE (k a w h)
theorem WC.label{l:Nat}(k:WX n F w₀ Q .normal env L):WC P n F w₀ Q (.label l) env L:=fun a w h=>wpIn_label (k a w h)
theorem WX.yeF(k:WX n F w₀ Q .ret env L):WX n F w₀ (Exit.noGoto Q) .ret env L:=k
end
end Sep
namespace Sep
open Go Go.RowKit
/-! ### arrays at an index that is not known; tables of functions; strings -/
def sw{R:Type}:List (Int×Option R)->Int->Option R
 | [],_=>none
 | p::l,i=>if i=p.1 then p.2 else sw l i
structure arT (P:Program) (t e:TypeId) (len sz:Nat):Prop where
 un:P.underlying t=some (.array len e)
 sz:∀ w,(Go.sizeOf e).run P w = .ok sz w
section
variable [Rnd]
variable {P:Program} {n:Nat} {F:List Nat} {w₀:World} {env:List (Nat×Value)} {L R:List Asrt} {ops:Array Oper} {Q:Exit->Act->World->Prop} {rest:List Oper}
 {dd:Nat} {d:Option Tmp} {ty:TypeId} {pos:String} {after:Array Edge} {g:Option (Nat×Bool)} {x y c:Operand} {v u:Value} {t e T:TypeId} {sz len:Nat} {Z:Zp}
end
end Sep
namespace Sep
open Go Go.RowKit
/-! ### maps of slices that are appended to: each value owns its row -/
section
variable {κ α:Type} [DecidableEq κ]
def slv(p:(Option Addr×Nat)×List α):Value := .slice p.1.1 p.2.length p.1.2
def y2O(lg:List (κ×((Nat×(Option Addr×Nat))×List α))):List (κ×((Option Addr×Nat)×List α)):=lg.map fun p=>(p.1,(p.2.1.2,p.2.2))
def y2d(e:TypeId)(sz:Nat)(enc:α->List Value)(g:Nat×(Option Addr×Nat))(x:List α):List Asrt:=[row (.slice g.2.1 x.length g.2.2) e sz (x.flatMap enc)]
variable {lg:List (κ×((Nat×(Option Addr×Nat))×List α))} {l:List (κ×List α)}
theorem ydm(k:κ)(g:Nat×(Option Addr×Nat))(x:List α):∀ lg:List (κ×((Nat×(Option Addr×Nat))×List α)),y2O (yC lg k (g,x))=yC (y2O lg) k (g.2,x)
 | []=>rfl
 | p::lg=>by
  unfold yC y2O
  by_cases h:k=p.1
  ·simp[h]
  ·have:=ydm k g x lg
   unfold y2O at this
   simp[h,this]
theorem ydn(k:κ):∀ lg:List (κ×((Nat×(Option Addr×Nat))×List α)),yd (y2O lg) k ((none,0),[])=((yd lg k ((0,(none,0)),[])).1.2,(yd lg k ((0,(none,0)),[])).2)
 | []=>rfl
 | p::lg=>by
  have ih:=ydn k lg
  unfold y2O at ih ⊢
  rw[List.map_cons]
  unfold yd
  by_cases h:k=p.1
  ·simp[h]
  ·simp only[h,if_false];exact ih
theorem ygb{γ:Type}{k:κ}{d:γ}:∀ {lg:List (κ×γ)},y2A lg k=false->yd lg k d=d/\y8b k lg=lg
 | [],_=>⟨rfl,rfl⟩
 | p::lg,h=>by
  unfold y2A at h
  by_cases e:k=p.1
  ·simp[e] at h
  ·simp only[e,if_false] at h
   obtain⟨h1,h2⟩:=ygb (d:=d) h
   unfold yd y8b
   simp only[e,if_false]
   exact⟨h1,by rw[h2]⟩
variable {F:List Nat} {w₀ w:World} {L R R':List Asrt} {e:TypeId} {sz:Nat} {enc:α->List Value}
theorem Hp.ybo(k:κ)(hm:dat lg=l)(hp:Pick L (y2n (y2d e sz enc) lg) R)(h:Hp F w₀ w L):
  ∃ g:Option Addr×Nat,yd (y2O lg) k ((none,0),[])=(g,yd l k [])/\Hp F w₀ w (row (.slice g.1 (yd l k []).length g.2) e sz ((yd l k []).flatMap enc)::y2n (y2d e sz enc) (y8b k lg)::R):=by
 subst hm
 rw[ydn,mget_dat k [] (0,(none,0))]
 refine⟨(yd lg k ((0,(none,0)),[])).1.2,rfl,?_⟩
 by_cases hk:y2A lg k=true
 ·obtain⟨v,h1,h2⟩:=ydi k lg hk
  rw[h1]
  have h4:=h.pickAll hp
  have h5:=h4.perm ((ydj (f:=fun p:κ×((Nat×(Option Addr×Nat))×List α)=>y2d e sz enc p.2.1 p.2.2) h2).append_right R)
  rw[List.flatMap_cons,List.append_assoc] at h5
  have h6:Hp F w₀ w (((y8b k lg).flatMap fun p=>y2d e sz enc p.2.1 p.2.2)++(y2d e sz enc v.1 v.2++R)):=h5.perm (by
   rw[<- List.append_assoc,<- List.append_assoc];exact List.perm_append_comm.append_right R)
  have h7:=Hp.y9O h6
  exact h7.perm List.perm_middle.symm
 ·have hk':y2A lg k=false:=by simpa using hk
  obtain⟨h1,h2⟩:=ygb (d:=(((0,(none,0)),[]):(Nat×(Option Addr×Nat))×List α)) hk'
  rw[h1,h2]
  exact(h.nilRow e sz).perm (((hp.perm).cons _))
theorem Hp.yfs{k:κ}{ao:Option Addr}{cap:Nat}{x:List α}(hs:Sel L [row (.slice ao x.length cap) e sz (x.flatMap enc),y2n (y2d e sz enc) (y8b k lg)] R)(h:Hp F w₀ w L):
  Hp F w₀ w (y2n (y2d e sz enc) (yC lg k ((0,(ao,cap)),x))::R):=
 Hp.ydk (els:=y2d e sz enc) (b:=0) (g:=(ao,cap)) hs h
theorem Sel.skip{β:Type}{y:β}:∀ {L L' M:List β},Sel L L' M->Sel (y::L) L' (y::M)
 | _,_,_,.nil => .nil
 | _,_,_,.cons h t => .cons (.there h) (Sel.skip t)
theorem Hp.ygQ{k:κ}{g:Option Addr×Nat}(hm:dat lg=l)(hp:yd (y2O lg) k ((none,0),[])=(g,yd l k []))(hs:Sel L [row (.slice g.1 (yd l k []).length g.2) e sz ((yd l k []).flatMap enc),y2n (y2d e sz enc) (y8b k lg)] R)(h:Hp F w₀ w L):
  Hp F w₀ w (y2n (y2d e sz enc) lg::R):=by
 by_cases hk:y2A lg k=true
 ·obtain⟨v,h1,h2⟩:=ydi k lg hk
  rw[ydn,h1] at hp
  have e1:v.1.2=g:=congrArg Prod.fst hp
  have e2:v.2=yd l k []:=congrArg Prod.snd hp
  have h3:=Hp.ydk (lg:=lg) (k:=k) (els:=y2d e sz enc) (b:=v.1.1) (g:=g) (x:=yd l k []) hs h
  rwa [show yC lg k ((v.1.1,g),yd l k [])=lg from ydl (d:=v) hk (by rw[h1,<- e1,<- e2])] at h3
 ·have hk':y2A lg k=false:=by simpa using hk
  rw[(ygb (d:=(((0,(none,0)),[]):(Nat×(Option Addr×Nat))×List α)) hk').2] at hs
  have h1:=Hp.open_ (h.selAll hs)
  exact h1.sub (.cons (.there .here) (Sel.skip .all))
end
section
variable [Rnd] {P:Program} {n:Nat} {F:List Nat} {w₀:World} {ops:Array Oper} {tl:Nat->Bool} {Ls:List Asrt} {fuel:Nat} {listed:Array Bool} {Q:Act->World->Prop} {env:List (Nat×Value)} {L L':List Asrt} {o:Oper}
theorem WD.yjF{i:Nat}(hi:ops[i]?=some o)(hr:Region.ready .any ops listed=[i])(hg:gd env ops o=some true)(hd:o.dst=none)(ht:tl i=true)(hst:Sin L' Ls)(hq:Ef0 P n F w₀ env L o L')(k:WD P n F w₀ ops tl Ls Q fuel (listed.setIfInBounds i true) env L'):WD P n F w₀ ops tl Ls Q (fuel+1) listed env L:=WD.forced0 hi hr hg hd ht hst hq k
end
theorem ycp{F:List Nat}{w₀:World}{L R:List Asrt}{b off:Nat}{T:TypeId}{ks:List (Nat×Value)}{u v:Value}(hm:Pick L (y8a b T ks) R)(hu:(off,u)∈ks)(hv:(off+1,v)∈ks):
  ∀ w,Hp F w₀ w L->∀ j x,[u,v][j]?=some x->w.cell? (Addr.add ⟨b,off,none⟩ j)=some x:=by
 intro w h j x hx
 match j,hx with
 | 0,hx=>
  have e:Addr.add ⟨b,off,none⟩ 0=⟨b,off,none⟩:=by simp[Addr.add]
  rw[e,y62 hm hu w h];simpa using hx
 | 1,hx=>
  have e:Addr.add ⟨b,off,none⟩ 1=⟨b,off+1,none⟩:=by simp[Addr.add]
  rw[e,y62 hm hv w h];simpa using hx
 | j+2,hx=>simp at hx
end Sep
namespace Sep
open Go Go.RowKit
variable {m cap capk i:Nat}{cs:List Value}{bo:Option Addr}{dty:TypeId}{w:World}
section
variable [Rnd] {P:Program} {n:Nat} {F:List Nat} {w₀:World} {env:List (Nat×Value)} {L R:List Asrt} {d:Option Tmp} {ty:TypeId} {pos:String} {after:Array Edge} {g:Option (Nat×Bool)} {x y:Operand} {t e:TypeId} {sz by_:Nat}
theorem yiB{ao:Option Addr}{k:Nat}{news:List Value}{a:Act}(h:SS n F w₀ env L a w)(ht:elT P t e sz by_)(hx:eo env x=some (.slice ao m cap))(hy:eo env y=some (.slice bo k capk))(hm:Pick L (row (.slice ao m cap) e sz cs) R)(hl:news.length=k*sz)(hnews:news≠[]->∃ A,bo=some A/\∀ j u,news[j]?=some u->w.cell? (A.add j)=some u)(h1:∀ u∈news,u.oneCell'=true)(h63:m+k<=maxLen)(hby:(m+k)*by_<=140737488355328):
  ∃(p:Option Addr×Nat) (w':World),(execOp a.eval ⟨d,.call ⟨.builtin .append,#[x,y],#[t,t]⟩,dty,pos,after,g⟩).run P w = .ok (.value (.slice p.1 (m+k) p.2)) w'/\True/\Hp F w₀ w' (row (.slice p.1 (m+k) p.2) e sz (cs++news)::R):=by
 obtain⟨inf,z,hi,hz,hsz,hb,hzs⟩:=ht.inf
 obtain⟨m',hown⟩:=h.hp.ok _ hm.mem
 have hmm:m'=m:=by
  have hs:=h.hp.rowShape hm
  have:=hown.1.symm.trans hs.1
  exact Nat.eq_of_mul_eq_mul_right ht.pos this
 subst hmm
 subst hsz
 subst hb
 have hshape:=h.hp.rowShape hm
 by_cases hk0:k=0
 ·subst hk0
  have hn:news=[]:=List.eq_nil_of_length_eq_zero (by simpa using hl)
  subst hn
  refine⟨(ao,cap),w,?_,trivial,?_⟩
  ·have hle:m'<=cap:=hshape.2.1
   cases bo <;> cases ao <;> simp[execOp,h.eval hx,h.eval hy,resolve,invoke,builtin,Builtin.append_,run_underlying ht.sl,Go.sizeOf,typeInfo,hi,Builtin.lenOf,Builtin.firstCells,hle,loadCells,loadCellsFrom,storeCells]
  ·simpa using h.hp.front hm
 ·have hne:news≠[]:=by
   intro e;subst e
   have:0=k*inf.size:=by simpa using hl
   have:=Nat.mul_pos (Nat.pos_of_ne_zero hk0) ht.pos
   omega
  obtain⟨A,rfl,hA⟩:=hnews hne
  have h63':((m'+k:Nat):Int)<=9223372036854775807:=by simp only[maxLen] at h63;omega
  obtain⟨v',w',hr,ho,hgb,_⟩:=run_append_own (P:=P) w 0 t dty e inf z inf.size inf.bytes ht.sl hi hz rfl rfl hzs ht.pos _ m' cs hown A k capk news hl hA h1 h63 hby (Nat.zero_le _)
  have hnew:∀ b,v'.ownBlock=some b->(Value.slice ao m' cap).ownBlock=some b\/w.heap.size<=b:=by
   rcases hown.2 with⟨hv,hn⟩ | ⟨b0,cap',cur,hv,_,hh,hc1,hc2,hc3,hc4⟩
   ·injection hv with e1 e2 e3
    subst e1 e3 hn
    have hq:=run_append_nil (P:=P) w t dty e inf z ht.sl hi hz A k capk news hl hA (by omega) (by omega) (by simp only[Nat.zero_add] at hby;omega)
    rw[hr] at hq
    injection hq with e1 _
    subst e1
    intro b hb;simp[Value.ownBlock] at hb;exact .inr (by omega)
   ·injection hv with e1 e2 e3
    subst e1 e3
    by_cases hroom:m'+k<=cap
    ·have hfit:m'*inf.size+news.length<=cur.size:=by rw[hl,hc3,<- Nat.add_mul];exact Nat.mul_le_mul_right _ hroom
     have hq:=run_append_room (P:=P) w t dty e inf ht.sl hi b0 m' cap cur hh A k capk news hl hA h1 hroom hfit
     rw[hr] at hq
     injection hq with e1 _
     subst e1
     intro b hb;exact .inl hb
    ·have holds:∀ j u,cs[j]?=some u->w.cell? ((⟨b0,0,none⟩:Addr).add j)=some u:=hown.cells (g:=b0) rfl
     have hq:=run_append_grow (P:=P) w t dty e inf z ht.sl hi hz ⟨b0,0,none⟩ m' cap cs hown.1 holds A k capk news hl hA (by omega) (by omega) (growslice_fits (by omega) hby)
     rw[hr] at hq
     injection hq with e1 _
     subst e1
     intro b hb;simp[Value.ownBlock] at hb;exact .inr (by omega)
  have hdr:w.drawn<=w'.drawn:=by
   rcases hown.2 with⟨hv,hn⟩ | ⟨b0,cap',cur,hv,_,hh,hc1,hc2,hc3,hc4⟩
   ·injection hv with e1 e2 e3
    subst e1 e3 hn
    have hq:=run_append_nil (P:=P) w t dty e inf z ht.sl hi hz A k capk news hl hA (by omega) (by omega) (by simp only[Nat.zero_add] at hby;omega)
    rw[hr] at hq
    injection hq with _ e1
    rw[e1];first | exact Nat.le_refl _ | exact Nat.le_add_right _ _
   ·injection hv with e1 e2 e3
    subst e1 e3
    by_cases hroom:m'+k<=cap
    ·have hfit:m'*inf.size+news.length<=cur.size:=by rw[hl,hc3,<- Nat.add_mul];exact Nat.mul_le_mul_right _ hroom
     have hq:=run_append_room (P:=P) w t dty e inf ht.sl hi b0 m' cap cur hh A k capk news hl hA h1 hroom hfit
     rw[hr] at hq
     injection hq with _ e1
     rw[e1];first | exact Nat.le_refl _ | exact Nat.le_add_right _ _
    ·have holds:∀ j u,cs[j]?=some u->w.cell? ((⟨b0,0,none⟩:Addr).add j)=some u:=hown.cells (g:=b0) rfl
     have hq:=run_append_grow (P:=P) w t dty e inf z ht.sl hi hz ⟨b0,0,none⟩ m' cap cs hown.1 holds A k capk news hl hA (by omega) (by omega) (growslice_fits (by omega) hby)
     rw[hr] at hq
     injection hq with _ e1
     rw[e1];first | exact Nat.le_refl _ | exact Nat.le_add_right _ _
  obtain⟨p,rfl⟩:∃ p:Option Addr×Nat,v' = .slice p.1 (m'+k) p.2:=by
   rcases ho.2 with⟨hv,hn⟩ | ⟨b,cap',cur,hv,_⟩
   ·exact⟨(none,0),by rw[hv,hn]⟩
   ·exact⟨(some ⟨b,0,none⟩,cap'),by rw[hv]⟩
  refine⟨p,w',?_,trivial,?_⟩
  ·simp[execOp,h.eval hx,h.eval hy,resolve,invoke,builtin,hr]
  ·refine(h.hp.front hm).upd (x:=row (.slice ao m' cap) e inf.size cs) (y:=row (.slice p.1 (m'+k) p.2) e inf.size (cs++news)) .here hgb.os ⟨hgb.tape,hdr⟩ hgb.output hgb.size ?_ ⟨_,ho⟩ ?_
   ·intro j hj hj'
    refine hgb.block j hj (fun hc=>hj' ?_)
    simp[row,<- hc]
   ·intro b hb
    have hb':(Value.slice p.1 (m'+k) p.2).ownBlock=some b:=by simpa [row] using hb
    refine⟨(ho.lt b hb').2,?_⟩
    rcases hnew b hb' with h2 | h2
    ·exact .inl (by simp[row,h2])
    ·exact .inr h2
theorem Hp.rowShort{b:Nat}(hm:Pick L (row (.slice (some ⟨b,0,none⟩) m cap) e sz cs) R)(hi:i<=m)(h:Hp F w₀ w L):Hp F w₀ w (row (.slice (some ⟨b,0,none⟩) i cap) e sz (cs.take (i*sz))::R):=by
 have hcl:=(h.rowShape hm).1
 refine(h.front hm).upd (x:=row (.slice (some ⟨b,0,none⟩) m cap) e sz cs) (y:=row (.slice (some ⟨b,0,none⟩) i cap) e sz (cs.take (i*sz))) .here rfl ⟨rfl,Nat.le_refl _⟩ rfl (Nat.le_refl _) (fun _ _ _=>rfl) ?_ ?_
 ·obtain⟨m',hown⟩:=h.ok _ hm.mem
  rcases hown.2 with⟨hv',_⟩ | ⟨b0,cap',cur,hv',hb0,hh',hc1,hc2,hc3,hc4⟩
  ·cases hv'
  injection hv' with e1 e2 e3
  injection e1 with e1
  injection e1 with e1
  subst e1 e2 e3
  have hmi:i*sz<=m*sz:=Nat.mul_le_mul_right _ hi
  refine⟨i,by simp;omega,.inr ⟨b,cap,cur,rfl,hb0,hh',by omega,hc2,hc3,?_⟩⟩
  rw[<- hc4,List.take_take];congr 1;omega
 ·intro b' hb'
  simp[row,Value.ownBlock] at hb'
  subst hb'
  have:=h.lt _ hm.mem b' (by simp[row,Value.ownBlock])
  exact⟨this,.inl (by simp[row,Value.ownBlock])⟩
theorem yhz{b j:Nat}(ht:elT P t e sz by_)(hx:eo env x=some (.slice (some ⟨b,0,none⟩) i cap))(hy:eo env y=some (.slice bo (m-j) capk))(hbo:m-j≠0->bo=some (Addr.add ⟨b,0,none⟩ (j*sz)))(hm:Pick L (row (.slice (some ⟨b,0,none⟩) m cap) e sz cs) R)(hij:i<=j)(hjm:j<=m)(h1:∀ u∈cs,u.oneCell'=true)(hby:m*by_<=140737488355328):
  Ef P n F w₀ env L ⟨d,.call ⟨.builtin .append,#[x,y],#[t,t]⟩,dty,pos,after,g⟩ (fun _:Option Addr×Nat=>True) (fun p => .slice p.1 (i+(m-j)) p.2) (fun p=>row (.slice p.1 (i+(m-j)) p.2) e sz (cs.take (i*sz)++cs.drop (j*sz))::R):=by
 intro a w h
 obtain⟨hcl,hmc,hcm,_⟩:=h.hp.rowShape hm
 have hs:=h.world (h.hp.rowShort hm (show i<=m by omega))
 have hlen:(cs.drop (j*sz)).length=(m-j)*sz:=by rw[List.length_drop,hcl,<- Nat.sub_mul]
 refine yiB hs ht hx hy .here hlen (fun hne=>?_) (fun u hu=>h1 u (List.mem_of_mem_drop hu)) (by omega) (Nat.le_trans (Nat.mul_le_mul_right _ (by omega)) hby)
 have hk:m-j≠0:=by
  intro hz;rw[hz,Nat.zero_mul] at hlen;exact hne (List.eq_nil_of_length_eq_zero hlen)
 refine⟨_,hbo hk,fun q u hu=>?_⟩
 obtain⟨m',hown⟩:=h.hp.ok _ hm.mem
 rw[Addr.y7z]
 rw[List.getElem?_drop] at hu
 exact hown.cells (g:=b) rfl _ _ hu
theorem Hp.rowLong{b len:Nat}(h1:len<=m)(h2:m<=cap)(h:Hp F w₀ w (row (.slice (some ⟨b,0,none⟩) len cap) e sz cs::R)):
  ∃ tl:List Value,Hp F w₀ w (row (.slice (some ⟨b,0,none⟩) m cap) e sz (cs++tl)::R):=by
 have hm:Pick (row (.slice (some ⟨b,0,none⟩) len cap) e sz cs::R) (row (.slice (some ⟨b,0,none⟩) len cap) e sz cs) R := .here
 have hcl:=(h.rowShape hm).1
 obtain⟨m',hown⟩:=h.ok _ hm.mem
 rcases hown.2 with⟨hv',_⟩ | ⟨b0,cap',cur,hv',hb0,hh',hc1,hc2,hc3,hc4⟩
 ·cases hv'
 injection hv' with e1 e2 e3
 injection e1 with e1
 injection e1 with e1
 subst e1 e2 e3
 have h3:len*sz<=m*sz:=Nat.mul_le_mul_right _ h1
 have h4:m*sz<=cap*sz:=Nat.mul_le_mul_right _ h2
 have key:cs++(cur.toList.drop (len*sz)).take (m*sz-len*sz)=cur.toList.take (m*sz):=by
  rw[<- hc4,<- List.take_add];congr 1;omega
 refine⟨(cur.toList.drop (len*sz)).take (m*sz-len*sz),?_⟩
 refine(h.front hm).upd (x:=row (.slice (some ⟨b,0,none⟩) len cap) e sz cs) (y:=row (.slice (some ⟨b,0,none⟩) m cap) e sz _) .here rfl ⟨rfl,Nat.le_refl _⟩ rfl (Nat.le_refl _) (fun _ _ _=>rfl) ?_ ?_
 ·refine⟨m,?_,.inr ⟨b,cap,cur,rfl,hb0,hh',h2,hc2,hc3,key.symm⟩⟩
  rw[key,List.length_take,Array.length_toList,hc3];omega
 ·intro b' hb'
  simp[row,Value.ownBlock] at hb'
  subst hb'
  have:=h.lt _ hm.mem b' (by simp[row,Value.ownBlock])
  exact⟨this,.inl (by simp[row,Value.ownBlock])⟩
theorem yjG{b j:Nat}(ht:elT P t e sz by_)(hx:eo env x=some (.slice (some ⟨b,0,none⟩) i cap))(hy:eo env y=some (.slice bo (m-j) capk))(hbo:m-j≠0->bo=some (Addr.add ⟨b,0,none⟩ (j*sz)))(hm:Pick L (row (.slice (some ⟨b,0,none⟩) m cap) e sz cs) R)(hij:i<=j)(hjm:j<=m)(h1:∀ u∈cs,u.oneCell'=true)(hby:m*by_<=140737488355328):
  Ef P n F w₀ env L ⟨d,.call ⟨.builtin .append,#[x,y],#[t,t]⟩,dty,pos,after,g⟩ (fun _:List Value=>True) (fun _ => .slice (some ⟨b,0,none⟩) (i+(m-j)) cap)
   (fun tl=>row (.slice (some ⟨b,0,none⟩) m cap) e sz (cs.take (i*sz)++cs.drop (j*sz)++tl)::R):=by
 intro a w h
 obtain⟨hcl,hmc,hcm,_⟩:=h.hp.rowShape hm
 obtain⟨p,w',hr,_,hp⟩:=yhz (d:=d) (dty:=dty) (pos:=pos) (after:=after) (g:=g) ht hx hy hbo hm hij hjm h1 hby a w h
 have hlen:(cs.drop (j*sz)).length=(m-j)*sz:=by rw[List.length_drop,hcl,<- Nat.sub_mul]
 obtain⟨m',hown⟩:=h.hp.ok _ hm.mem
 have hcells:=hown.cells (g:=b) rfl
 obtain⟨inf,z,hi',hz,hsz,hb,hzs⟩:=ht.inf
 have hrun:∃ w'',(execOp a.eval ⟨d,.call ⟨.builtin .append,#[x,y],#[t,t]⟩,dty,pos,after,g⟩).run P w = .ok (.value (.slice (some ⟨b,0,none⟩) (i+(m-j)) cap)) w'':=by
  by_cases hk:m-j=0
  ·rw[hk] at hy ⊢
   have hle:i<=cap:=by omega
   refine⟨w,?_⟩
   cases bo <;> simp[execOp,h.eval hx,h.eval hy,resolve,invoke,builtin,Builtin.append_,run_underlying ht.sl,Go.sizeOf,typeInfo,hi',Builtin.lenOf,Builtin.firstCells,hle,loadCells,loadCellsFrom,storeCells]
  ·rcases hown.2 with⟨hv',_⟩ | ⟨b0,cap',cur,hv',hb0,hh',hc1,hc2,hc3,hc4⟩
   ·cases hv'
   injection hv' with e1 e2 e3
   injection e1 with e1
   injection e1 with e1
   subst e1 e2 e3
   have hbo':=hbo hk
   subst hbo'
   subst hsz
   have hfit:i*inf.size+(cs.drop (j*inf.size)).length<=cur.size:=by rw[hlen,hc3,<- Nat.add_mul];exact Nat.mul_le_mul_right _ (by omega)
   have hq:=run_append_room (P:=P) w t dty e inf ht.sl hi' b i cap cur hh' (Addr.add ⟨b,0,none⟩ (j*inf.size)) (m-j) capk (cs.drop (j*inf.size)) hlen (fun q u hu=>by
    rw[Addr.y7z]
    rw[List.getElem?_drop] at hu
    exact hcells _ _ hu) (fun u hu=>h1 u (List.mem_of_mem_drop hu)) (by omega) hfit
   obtain⟨w2,hq2⟩:∃ w2,(Builtin.append_ #[t,t] dty #[.slice (some ⟨b,0,none⟩) i cap,.slice (some (Addr.add ⟨b,0,none⟩ (j*inf.size))) (m-j) capk]).run P w = .ok (.slice (some ⟨b,0,none⟩) (i+(m-j)) cap) w2:=⟨_,hq⟩
   exact⟨w2,by simp[execOp,h.eval hx,h.eval hy,resolve,invoke,builtin,hq2]⟩
 obtain⟨w'',hr2⟩:=hrun
 rw[hr] at hr2
 injection hr2 with e1 e2
 injection e1 with e1
 injection e1 with e3 _ e4
 dsimp only at hp hr
 rw[e3,e4] at hp hr
 obtain⟨tl,htl⟩:=hp.rowLong (m:=m) (by omega) hmc
 exact⟨tl,w',hr,trivial,htl⟩
theorem q_slice3{ao:Option Addr}{k1 k2 k3:IntKind}{lo hi mx:Int}{lx hx' mx':Operand}(ht:elT P t e sz by_)(hx:eo env x=some (.slice ao m cap))(hl:eo env lx=some (.int k1 lo))(hh:eo env hx'=some (.int k2 hi))(hm:eo env mx'=some (.int k3 mx))(h0:0<=lo)(h1:lo<=hi)(h2:hi<=mx)(h3:mx<=(cap:Int)):
  Qt P n F w₀ env L ⟨d,.slice t x (some lx) (some hx') (some mx'),ty,pos,after,g⟩ (.slice (if mx.toNat=lo.toNat then ao else ao.map (·.add (lo.toNat*sz))) (hi.toNat-lo.toNat) (mx.toNat-lo.toNat)):=by
 intro a w h
 obtain⟨inf,z,hi',hz,hsz,hb,hzs⟩:=ht.inf
 have q1:hi<=((mx.toNat:Nat):Int):=by omega
 have q2:lo<=((hi.toNat:Nat):Int):=by omega
 have q3:0<=hi:=by omega
 have q4:0<=mx:=by omega
 simp[execOp,h.eval hx,h.eval hl,h.eval hh,h.eval hm,Instr.sliceAt,Instr.slice,Instr.sliceBounds,Instr.sliceBound,run_underlying ht.sl,Go.sizeOf,typeInfo,hi',hsz,asIntOf,h0,h3,q1,q2,q3,q4]
 rw[if_pos (by omega),if_pos (by omega)]
end
end Sep
namespace Sep
open Go Go.RowKit
set_option linter.unusedSectionVars false
section
variable [Rnd] {P:Program} {n:Nat} {F:List Nat} {w₀:World} {ops:Array Oper} {tl:Nat->Bool} {Ls:List Asrt} {fuel:Nat} {listed:Array Bool}
 {env:List (Nat×Value)} {L:List Asrt} {o:Oper} {QD:Act->World->Prop} {v:Value} {d i:Nat}
theorem WDo.quiet(hi:ops[i]?=some o)(hg:gd env ops o=some true)(hd:o.dst=some d)(hdn:Nat.blt d n=true)(hst:tl i=true->Sin L Ls)(hq:∀ a w,SS n F w₀ env L a w->(execOp a.eval o).run P w = .ok (.value v) w)(k:WD P n F w₀ ops tl Ls QD fuel (listed.setIfInBounds i true) ((d,v)::env) L):WDo P n F w₀ ops tl Ls QD fuel listed env L i:=
 WDo.forced (G:=Unit) (φ:=fun _=>True) (val:=fun _=>v) (L':=fun _=>L) hi hg hd hdn (fun a w h=>⟨(),w,hq a w h,trivial,h.hp,fun _=>Ext.refl w⟩) (fun ht _=>hst ht) (fun _ _=>k)
end
end Sep
namespace Sep
open Go Go.RowKit
variable {cs:List Value}
/-! ### maps of slices whose elements are no flat data (each a cell): the cells, and what they stand for -/
def y4k(v:Value):List Value:=[v]
theorem ybp:∀ l:List Value,l.flatMap y4k=l
 | []=>rfl
 | v::l=>by rw[List.flatMap_cons,ybp l];rfl
section
variable {κ α:Type}
inductive RM (Pr:List Value->α->Prop):List (κ×List Value)->List (κ×List α)->Prop
 | nil:RM Pr [] []
 | cons {k:κ} {cs:List Value} {x:List α} {lc:List (κ×List Value)} {l:List (κ×List α)} (h:RR 1 Pr cs x) (t:RM Pr lc l):RM Pr ((k,cs)::lc) ((k,x)::l)
variable {Pr Pr':List Value->α->Prop} {lc:List (κ×List Value)} {l:List (κ×List α)}
theorem RM.weak(h:RM Pr lc l)(k:∀ r x,Pr r x->Pr' r x):RM Pr' lc l:=by
 induction h with
 | nil=>exact .nil
 | cons h _ ih=>exact .cons (h.weak k) ih
theorem RR.slv{ao:Option Addr}{cap:Nat}{cs:List Value}{x:List α}(h:RR 1 Pr cs x):slv ((ao,cap),cs) = .slice ao x.length cap:=by
 have:=h.len
 unfold Sep.slv
 simp only
 rw[this,Nat.mul_one]
variable [DecidableEq κ]
theorem RM.get(h:RM Pr lc l)(k:κ):RR 1 Pr (yd lc k []) (yd l k []):=by
 induction h with
 | nil=>exact RR.nil _ _
 | @cons k' cs x lc l h t ih=>
  unfold yd
  by_cases e:k=k'
  ·simp only[e,if_true];exact h
  ·simp only[e,if_false];exact ih
theorem RM.put(h:RM Pr lc l)(k:κ){x:List α}(hr:RR 1 Pr cs x):RM Pr (yC lc k cs) (yC l k x):=by
 induction h with
 | nil=>exact .cons hr .nil
 | @cons k' cs' x' lc l h t ih=>
  unfold yC
  by_cases e:k=k'
  ·simp only[e,if_true];exact .cons hr t
  ·simp only[e,if_false];exact .cons h ih
variable {lg:List (κ×((Nat×(Option Addr×Nat))×List Value))}
theorem RM.putD{g:Option Addr×Nat}(h:RM Pr (dat lg) l)(k:κ){x:List α}(hr:RR 1 Pr cs x):RM Pr (dat (yC lg k ((0,g),cs))) (yC l k x):=by
 rw[yhw rfl];exact h.put k hr
variable {F:List Nat} {w₀ w:World} {L R:List Asrt} {e:TypeId}
theorem Hp.yjH(k:κ)(hm:RM Pr (dat lg) l)(hp:Pick L (y2n (y2d e 1 y4k) lg) R)(h:Hp F w₀ w L):
  ∃ g:(Option Addr×Nat)×List Value,(yd (y2O lg) k ((none,0),[])=g/\RR 1 Pr g.2 (yd l k []))/\Hp F w₀ w (row (.slice g.1.1 (yd l k []).length g.1.2) e 1 g.2::y2n (y2d e 1 y4k) (y8b k lg)::R):=by
 obtain⟨g,h1,h2⟩:=Hp.ybo k rfl hp h
 have h3:=hm.get k
 refine⟨(g,yd (dat lg) k []),⟨h1,h3⟩,?_⟩
 rw[ybp] at h2
 have h4:=h3.len
 rw[Nat.mul_one] at h4
 rw[h4] at h2
 exact h2
theorem Hp.yiC{k:κ}{ao:Option Addr}{cap m:Nat}(hl:m=cs.length)(hs:Sel L [row (.slice ao m cap) e 1 cs,y2n (y2d e 1 y4k) (y8b k lg)] R)(h:Hp F w₀ w L):
  Hp F w₀ w (y2n (y2d e 1 y4k) (yC lg k ((0,(ao,cap)),cs))::R):=by
 subst hl
 refine Hp.yfs (enc:=y4k) (x:=cs) ?_ h
 rw[ybp];exact hs
theorem RR.yiU{x:List α}(h:RR 1 Pr cs x):x.length=cs.length:=by
 have:=h.len;omega
end
end Sep
namespace Sep
open Go Go.RowKit
/-! ### closures as_ data: slices whose order is not said, groups that join the pool, a map of the pool -/
section
variable {α:Type}
def ZSB(Z:Zp)(Pr:List Value->α->Prop)(ao:Option Addr)(cap:Nat)(l:List α):Prop:=∃ l':List α,l'.Perm l/\ZS Z 1 Pr ao cap l'
theorem ZSB.up{Z Z':Zp}{Pr Pr':List Value->α->Prop}{ao:Option Addr}{cap:Nat}{l:List α}(h:ZSB Z Pr ao cap l)(k:Zle Z Z')(hw:∀ r x,Pr r x->Pr' r x):ZSB Z' Pr' ao cap l:=
 let ⟨l',h1,h2⟩:=h;⟨l',h1,(h2.mono k).weak hw⟩
theorem ZSB.of{Z:Zp}{Pr:List Value->α->Prop}{ao:Option Addr}{cap:Nat}{l:List α}(h:ZS Z 1 Pr ao cap l):ZSB Z Pr ao cap l:=⟨l,.refl _,h⟩
inductive RG {κ:Type} (Z:Zp) (Pr:List Value->α->Prop):List (κ×((Option Addr×Nat)×List Value))->List (κ×List α)->Prop
 | nil:RG Z Pr [] []
 | cons {k:κ} {ao:Option Addr} {cap:Nat} {cs:List Value} {x:List α} {lg:List (κ×((Option Addr×Nat)×List Value))} {l:List (κ×List α)} (hl:x.length=cs.length) (h:ZS Z 1 Pr ao cap x) (t:RG Z Pr lg l):RG Z Pr ((k,((ao,cap),cs))::lg) ((k,x)::l)
variable {κ:Type} {Z Z':Zp} {Pr Pr':List Value->α->Prop} {lg:List (κ×((Option Addr×Nat)×List Value))} {l:List (κ×List α)}
theorem RG.up(h:RG Z Pr lg l)(k:Zle Z Z')(hw:∀ r x,Pr r x->Pr' r x):RG Z' Pr' lg l:=by
 induction h with
 | nil=>exact .nil
 | cons hl h _ ih=>exact .cons hl ((h.mono k).weak hw) ih
theorem RG.len(h:RG Z Pr lg l):l.length=lg.length:=by
 induction h with
 | nil=>rfl
 | cons _ _ _ ih=>simp[ih]
theorem RG.at(h:RG Z Pr lg l):∀ {i:Nat} {y:κ×((Option Addr×Nat)×List Value)},lg[i]?=some y->∃ x,l[i]?=some (y.1,x)/\x.length=y.2.2.length/\ZS Z 1 Pr y.2.1.1 y.2.1.2 x/\RG Z Pr (lg.eraseIdx i) (l.eraseIdx i):=by
 induction h with
 | nil=>intro i y h;simp at h
 | @cons k ao cap cs x lg l hl hz t ih=>
  intro i y h
  cases i with
  | zero=>
   simp only[List.getElem?_cons_zero,Option.some.injEq] at h
   subst h
   exact⟨x,by simp,hl,hz,by simpa using t⟩
  | succ i=>
   rw[List.getElem?_cons_succ] at h
   obtain⟨x',h1,h2,h3,h4⟩:=ih h
   exact⟨x',by simpa using h1,h2,h3,by simpa using RG.cons hl hz h4⟩
theorem yft{β:Type}:∀ {l:List β} {i:Nat} {x:β},l[i]?=some x->(x::l.eraseIdx i).Perm l
 | [],i,x,h=>by simp at h
 | a::l,0,x,h=>by
  simp only[List.getElem?_cons_zero,Option.some.injEq] at h
  subst h;simp
 | a::l,i+1,x,h=>by
  rw[List.getElem?_cons_succ] at h
  rw[List.eraseIdx_cons_succ]
  exact(List.Perm.swap _ _ _).trans ((yft h).cons a)
end
section
variable {κ α:Type} {F:List Nat} {w₀ w:World} {R:List Asrt} {e:TypeId} {Z:Zp} {Pr:Zp->List Value->α->Prop}
theorem Hp.ycW(mono:∀ {Z Z':Zp},Zle Z Z'->∀ {r x},Pr Z r x->Pr Z' r x)(hp:PZ F w₀ Z):∀(lg:List (κ×((Nat×(Option Addr×Nat))×List Value))) (l:List (κ×List α)) (Zn:Zp),RM (Pr (Z++Zn)) (dat lg) l->Hp F w₀ w (y2n (y2d e 1 y4k) lg::fz Zn::R)->
  ∃ Zn',Zle (Z++Zn) (Z++Zn')/\RG (Z++Zn') (Pr (Z++Zn')) (y2O lg) l/\Hp F w₀ w (fz Zn'::R)
 | [],l,Zn,hm,h=>by
  cases hm
  refine⟨Zn,Zle.refl _,.nil,?_⟩
  have h1:=Hp.open_ h
  simpa using h1
 | (k,((n,(ao,cap)),cs))::lg,l,Zn,hm,h=>by
  cases hm with
  | @cons _ _ x _ l hr t=>
  have h1:=Hp.open_ h
  rw[List.flatMap_cons] at h1
  have hl:=RR.yiU hr
  have h2:Hp F w₀ w (row (.slice ao x.length cap) e 1 cs::fz Zn::((lg.flatMap fun p=>y2d e 1 y4k p.2.1 p.2.2)++R)):=by
   refine h1.perm ?_
   show([row (.slice ao cs.length cap) e 1 (cs.flatMap y4k)]++(lg.flatMap fun p=>y2d e 1 y4k p.2.1 p.2.2)++fz Zn::R).Perm _
   rw[ybp,hl,List.append_assoc,List.singleton_append]
   exact(List.perm_middle).cons _
  obtain⟨Zn1,k1,k2,k3⟩:=Hp.freezeS (Z:=Z) .here .here hp hr h2
  have h3:Hp F w₀ w (y2n (y2d e 1 y4k) lg::fz Zn1::R):=Hp.y9O (k3.perm List.perm_middle.symm)
  obtain⟨Zn2,j1,j2,j3⟩:=Hp.ycW mono hp lg l Zn1 (t.weak fun _ _ h=>mono k1 h) h3
  exact⟨Zn2,k1.trans j1,.cons hl ((k2.mono j1).weak fun _ _ h=>mono (k1.trans j1) h) j2,j3⟩
end
section
variable [Rnd]
variable {P:Program} {n:Nat} {F:List Nat} {w₀:World} {env:List (Nat×Value)} {L R:List Asrt} {d:Option Tmp} {ty:TypeId} {pos:String} {after:Array Edge} {g:Option (Nat×Bool)} {x y z:Operand} {t kt e:TypeId}
 {κ α:Type} [DecidableEq κ] {ek:κ->Value} {ev:α->Value} {l:List (κ×α)} {b:Nat} {k:κ} {dflt:α} {zv:Value} {Z:Zp}
theorem yjI{w:World}(K:KeyT P kt ek)(ht:P.underlying t=some (.map kt e))(hz:y2t P e zv)(hd:zv=ev dflt)(hk:(yn b ek ev l).ok w):
  (Instr.lookup t (.map (some b)) (ek k) false).run P w = .ok (ev (yd l k dflt)) w:=by
 obtain⟨es,clock,hb,he,hst⟩:=hk
 have h1:=K.find k es.toList (l.map (·.1)) w (yaF he)
 have h2:=y9P (ek:=ek) (ev:=ev) (k:=k) (d:=dflt) l es.toList he
 have hzw:=congrFun hz w
 simp only[Instr.lookup,Sem.run_bind,run_underlying ht,Result.andThen,MapKept.run_getObj_map hb,K.chk]
 cases hf:(l.map (·.1)).findIdx? (fun k'=>decide (k=k')) with
 | none=>rw[hf] at h1 h2;simp only[Option.map_none] at h1 h2;simp[h1,hzw,hd,h2]
 | some i=>rw[hf] at h1 h2;simp only[Option.map_some,Array.getElem?_toList] at h1 h2;simp[h1,h2]
theorem ykg(K:KeyT P kt ek)(ht:P.underlying t=some (.map kt e))(hz:y2t P e zv)(hd:zv=ev dflt)(hx:eo env x=some (.map (some b)))(hy:eo env y=some (ek k))(pv:PV F w₀ L Z)(hA:ZA Z (yn b ek ev l)):
  Qt P n F w₀ env L ⟨d,.lookup t x y false,ty,pos,after,g⟩ (ev (yd l k dflt)):=by
 intro a w h
 simp[execOp,h.eval hx,h.eval hy,yjI K ht hz hd (hA w (pv w h.hp))]
end
end Sep

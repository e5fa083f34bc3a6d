/- A part of this claim's proof: models of functions, walks, plain laws. No conditions. -/
import Derived.Test.YthjnhebofpebpaaGreatZMem
set_option linter.all false
namespace Sep
open Go Go.RowKit
section
variable {κ α β:Type}
section wM
variable {κ β α γ:Type} [DecidableEq κ]
def jO(lg:List (κ×((Nat×β)×α))):List (κ×Option Addr):=lg.map fun p=>(p.1,some ⟨p.2.1.1,0,none⟩)
def mP(lg:List (κ×((Nat×β)×α))):List (κ×α):=lg.map fun p=>(p.1,p.2.2)
def uv(k:κ):List (κ×γ)->List (κ×γ)
 | []=>[]
 | p::l=>if k=p.1 then l else p::uv k l
def wM(els:Nat×β->α->List Asrt)(lg:List (κ×((Nat×β)×α))):Asrt:=qv (lg.flatMap fun p=>els p.2.1 p.2.2)
theorem VD(k:κ)(v:γ):∀ lg:List (κ×γ),(w7 lg k v).Perm ((k,v)::uv k lg)
 | [] => .refl _
 | p::l=>by
  unfold w7 uv
  by_cases hk:k=p.1
  ·subst hk;simp only[if_true];exact .refl _
  ·simp only[hk,if_false]
   exact((VD k v l).cons p).trans (.swap _ _ _)
theorem bR(k:κ):∀ lg:List (κ×γ),wS lg k=true->∃ v,(∀ d,xK lg k d=v)/\lg.Perm ((k,v)::uv k lg)
 | [],h=>by simp[wS] at h
 | p::l,h=>by
  unfold wS at h
  unfold uv
  by_cases hk:k=p.1
  ·subst hk;exact⟨p.2,fun d=>by simp[xK],by simp⟩
  ·simp only[hk,if_false] at h ⊢
   obtain⟨v,h1,h2⟩:=bR k l h
   exact⟨v,fun d=>by unfold xK;simp[hk,h1 d],(h2.cons p).trans (.swap _ _ _)⟩
theorem QN(k:κ):∀ lg:List (κ×γ),∃ l1,lg.Perm (l1++uv k lg)
 | []=>⟨[],.refl _⟩
 | p::l=>by
  unfold uv
  by_cases hk:k=p.1
  ·exact⟨[p],by simp[hk]⟩
  ·obtain⟨l1,h⟩:=QN k l
   simp only[hk,if_false]
   exact⟨l1,(h.cons p).trans List.perm_middle.symm⟩
theorem VF(lg:List (κ×((Nat×β)×α)))(k:κ)(b:Nat)(g:β)(x:α):jO (w7 lg k ((b,g),x))=w7 (jO lg) k (some ⟨b,0,none⟩):=by
 induction lg with
 | nil=>rfl
 | cons p l ih=>
  unfold jO at ih ⊢
  rw[List.map_cons]
  unfold w7
  by_cases hk:k=p.1
  ·simp[hk]
  ·simp only[hk,if_false,List.map_cons,ih]
theorem lG{lg:List (κ×((Nat×β)×α))}{l:List (κ×α)}(h:mP lg=l)(k:κ)(g:Nat×β)(x:α):mP (w7 lg k (g,x))=w7 l k x:=by
 subst h
 induction lg with
 | nil=>rfl
 | cons p l ih=>
  unfold mP at ih ⊢
  rw[List.map_cons]
  unfold w7
  by_cases hk:k=p.1
  ·simp[hk]
  ·simp only[hk,if_false,List.map_cons,ih]
theorem Mz{lg:List (κ×((Nat×β)×α))}(k:κ):wS (mP lg) k=wS lg k:=by
 induction lg with
 | nil=>rfl
 | cons p l ih=>unfold mP at ih ⊢;rw[List.map_cons];unfold wS;by_cases hk:k=p.1 <;> simp[hk,ih]
theorem QO{lg:List (κ×((Nat×β)×α))}(k:κ)(d:α)(g:Nat×β):xK (mP lg) k d=(xK lg k (g,d)).2:=by
 induction lg with
 | nil=>rfl
 | cons p l ih=>unfold mP at ih ⊢;rw[List.map_cons];unfold xK;by_cases hk:k=p.1 <;> simp[hk,ih]
theorem YT{lg:List (κ×((Nat×β)×α))}{l:List (κ×α)}(h:mP lg=l)(k:κ):(xK (jO lg) k none).isNone = !wS l k:=by
 subst h
 induction lg with
 | nil=>rfl
 | cons p l ih=>unfold jO mP at ih ⊢;rw[List.map_cons,List.map_cons];unfold xK wS;by_cases hk:k=p.1 <;> simp[hk,ih]
section hp
variable {F:List Nat} {Ny w:World} {L R R':List Asrt} {els:Nat×β->α->List Asrt} {lg:List (κ×((Nat×β)×α))} {l:List (κ×α)}
theorem Hp.eS(els:Nat×β->α->List Asrt)(h:Hp F Ny w L):Hp F Ny w (wM (κ:=κ) els []::L):=Hp.pq (M:=[]) h
theorem oS{δ:Type}{f:δ->List Asrt}{a b:List δ}(h:a.Perm b):(a.flatMap f).Perm (b.flatMap f):=List.Perm.flatMap_right f h
theorem Hp.Ko[Inhabited α]{k:κ}(hm:mP lg=l)(hk:wS l k=true)(hp:Pick L (wM els lg) R)(L':Nat×β->List Asrt)(he:∀ g,els g (xK l k default)++wM els (uv k lg)::R=L' g)(h:Hp F Ny w L):∃ g:Nat×β,xK (jO lg) k none=some ⟨g.1,0,none⟩/\Hp F Ny w (L' g):=by
 subst hm
 have wj:wS lg k=true:=by rw[<- Mz];exact hk
 obtain⟨v,h1,h2⟩:=bR k lg wj
 refine⟨v.1,?_,?_⟩
 ·have h3:=YT (lg:=lg) rfl k
  rw[hk] at h3
  clear h3 hk h2 hp h he
  induction lg with
  | nil=>simp[wS] at wj
  | cons p l ih=>
   unfold jO at ih ⊢
   rw[List.map_cons]
   unfold wS at wj
   have Br:=h1
   unfold xK at Br ⊢
   by_cases hk:k=p.1
   ·simp only[hk,if_true] at Br ⊢;rw[Br p.2]
   ·simp only[hk,if_false] at Br wj ⊢;exact ih wj (fun d=>Br d)
 ·rw[<- he]
  have h3:xK (mP lg) k default=v.2:=by rw[QO k default v.1,h1]
  rw[h3]
  have h4:=h.pickAll hp
  have h5:=h4.perm ((oS (f:=fun p:κ×((Nat×β)×α)=>els p.2.1 p.2.2) h2).append_right R)
  rw[List.flatMap_cons,List.append_assoc] at h5
  have h6:Hp F Ny w (((uv k lg).flatMap fun p=>els p.2.1 p.2.2)++(els v.1 v.2++R)):=h5.perm (by
   rw[<- List.append_assoc,<- List.append_assoc];exact List.perm_append_comm.append_right R)
  have h7:=Hp.pq h6
  exact h7.perm List.perm_middle.symm
theorem Hp.objsClose{k:κ}{b:Nat}{g:β}{x:α}(hs:Sel L (els (b,g) x++[wM els (uv k lg)]) R)(h:Hp F Ny w L):Hp F Ny w (wM els (w7 lg k ((b,g),x))::R):=by
 have h1:=(h.selAll hs).open_
 have h2:Hp F Ny w (wM els (uv k lg)::(els (b,g) x++R)):=h1.perm (by
  rw[List.append_assoc];exact List.perm_middle)
 have h3:=Hp.open_ h2
 refine Hp.pq (h3.perm ?_)
 refine List.Perm.trans ?_ ((oS (f:=fun p:κ×((Nat×β)×α)=>els p.2.1 p.2.2) (VD k ((b,g),x) lg).symm).append_right R)
 rw[List.flatMap_cons,List.append_assoc]
 rw[<- List.append_assoc,<- List.append_assoc]
 exact List.perm_append_comm.append_right R
theorem Hp.objsRem(k:κ)(hp:Pick L (wM els lg) R)(h:Hp F Ny w L):Hp F Ny w (wM els (uv k lg)::R):=by
 obtain⟨l1,h1⟩:=QN k lg
 have h2:=(h.pickAll hp).perm ((oS (f:=fun p:κ×((Nat×β)×α)=>els p.2.1 p.2.2) h1).append_right R)
 rw[List.flatMap_append,List.append_assoc] at h2
 refine Hp.pq ?_
 exact⟨h2.os,h2.tape,h2.output,h2.size,h2.block,fun x hx=>h2.ok x (List.mem_append_right _ hx),fun x hx=>h2.lt x (List.mem_append_right _ hx),fun x hx=>h2.ow x (List.mem_append_right _ hx),(List.pairwise_append.1 h2.sep).2.1⟩
theorem Hp.Gq{k:κ}{b:Nat}{g:β}{x:α}(hp:Pick L (wM els lg) R')(hs:Sel R' (els (b,g) x) R)(h:Hp F Ny w L):Hp F Ny w (wM els (w7 lg k ((b,g),x))::R):=by
 have h1:=h.objsRem k hp
 have h2:Hp F Ny w (els (b,g) x++[wM els (uv k lg)]++R):=by
  have:(wM els (uv k lg)::R').Perm (els (b,g) x++[wM els (uv k lg)]++R):=by
   rw[List.append_assoc]
   exact((hs.perm).cons _).trans List.perm_middle.symm
  exact h1.perm this
 exact h2.objsClose (R:=R) (by
  have:∀(A B:List Asrt),Sel (A++B) A B:=by
   intro A B
   induction A with
   | nil=>exact .nil
   | cons a A ih=>exact .cons .here ih
  exact this _ _)
end hp
end wM
theorem bS{κ γ:Type}[DecidableEq κ]{k:κ}{v d:γ}:∀ {l:List (κ×γ)},wS l k=true->xK l k d=v->w7 l k v=l
 | [],h,_=>by simp[wS] at h
 | p::l,h,hv=>by
  unfold wS at h
  unfold xK at hv
  unfold w7
  by_cases hk:k=p.1
  ·subst hk;simp only[if_true] at hv ⊢;subst hv;rfl
  ·simp only[hk,if_false] at h hv ⊢;rw[bS h hv]
theorem Ff[DecidableEq κ]{lg:List (κ×((Nat×β)×α))}{l:List (κ×α)}(h:mP lg=l)(k:κ):wS (jO lg) k=wS l k:=by
 subst h
 induction lg with
 | nil=>rfl
 | cons p l ih=>unfold jO mP at ih ⊢;rw[List.map_cons,List.map_cons];unfold wS;by_cases hk:k=p.1 <;> simp[hk,ih]
theorem Gr[DecidableEq κ]{lg:List (κ×((Nat×β)×α))}{l:List (κ×α)}{k:κ}{b:Nat}(hm:mP lg=l)(hk:wS l k=true)(hp:xK (jO lg) k none=some ⟨b,0,none⟩){g:β}{x:α}:
  jO lg=jO (w7 lg k ((b,g),x)):=by
 rw[VF];exact(bS (by rw[Ff hm];exact hk) hp).symm
theorem Hp.eT{F:List Nat}{Ny w:World}{L R:List Asrt}{b:Nat}{ek:κ->Value}{ev:α->Value}{l l':List (κ×α)}(hm:Pick L (xP b ek ev l) R)(he:l=l')(h:Hp F Ny w L):Hp F Ny w (xP b ek ev l'::R):=by
 subst he;exact h.front hm
section gh
variable [Rnd]
variable {P:Program} {n:Nat} {F:List Nat} {Ny:World} {env:List (Nat×Value)} {L R:List Asrt} {eA:Array Oper} {Q:Exit->Act->World->Prop} {l:List Oper} {G:Type} {φ:G->Prop} {L':G->List Asrt} {M:List Asrt}
theorem Ox(h:∀ w,Hp F Ny w L->∃ g,φ g/\Hp F Ny w (L' g))(k:∀ g,φ g->WL P n F Ny eA Q l env (L' g)):WL P n F Ny eA Q l env L:=fun a w hs=>by
 obtain⟨g,h1,h2⟩:=h w hs.hp;exact k g h1 a w (hs.world h2)
theorem Ob(h:∀ w,Hp F Ny w L->Hp F Ny w M)(k:WL P n F Ny eA Q l env M):WL P n F Ny eA Q l env L:=fun a w hs=>k a w (hs.world (h w hs.hp))
theorem Rv{c:Code}(h:∀ w,Hp F Ny w L->Hp F Ny w M)(k:WC P n F Ny Q c env M):WC P n F Ny Q c env L:=fun a w hs=>k a w (hs.world (h w hs.hp))
theorem P7{e:Exit}(h:∀ w,Hp F Ny w L->Hp F Ny w M)(k:WX n F Ny Q e env M):WX n F Ny Q e env L:=fun a w hs=>k a w (hs.world (h w hs.hp))
variable {tl:Nat->Bool} {Ls:List Asrt} {fuel:Nat} {listed:Array Bool} {QD:Act->World->Prop}
theorem P3(h:∀ w,Hp F Ny w L->∃ g,φ g/\Hp F Ny w (L' g))(k:∀ g,φ g->WD P n F Ny eA tl Ls QD fuel listed env (L' g)):WD P n F Ny eA tl Ls QD fuel listed env L:=fun a w hs=>by
 obtain⟨g,h1,h2⟩:=h w hs.hp;exact k g h1 a w (hs.world h2)
theorem Og(h:∀ w,Hp F Ny w L->Hp F Ny w M)(k:WD P n F Ny eA tl Ls QD fuel listed env M):WD P n F Ny eA tl Ls QD fuel listed env L:=fun a w hs=>k a w (hs.world (h w hs.hp))
end gh
section ifc
variable [Rnd]
variable {P:Program} {n:Nat} {F:List Nat} {Ny:World} {env:List (Nat×Value)} {L R:List Asrt} {d:Option Tmp} {ty:TypeId} {pos:String} {after:Array Edge} {g:Option (Nat×Bool)} {x y:Operand} {v:Value} {t e T:TypeId}
theorem bT{dd:TypeDesc}(hu:P.underlying t=some dd)(hd:(match dd with | .interface _=>false | _=>true)=true)(hx:eo env x=some v):Qt P n F Ny env L ⟨d,.makeInterface t x,ty,pos,after,g⟩ (.iface t v):=by
 intro a w h
 cases dd <;> simp_all [execOp,h.eval hx,Instr.makeInterface,run_underlying hu]
theorem QP{dd:TypeDesc}{t':TypeId}(hu:P.underlying T=some dd)(hd:(match dd with | .interface _=>false | _=>true)=true)(hx:eo env x=some (.iface T v)):Qt P n F Ny env L ⟨d,.typeAssert x t' T false,ty,pos,after,g⟩ v:=by
 intro a w h
 cases dd <;> simp_all [execOp,h.eval hx,Instr.typeAssert,run_underlying hu]
theorem W0{f:FuncId}{name:String}{l:List Operand}{vs:List Value}{Bz:Array TypeId}(hm:∀ w,(method (P.types.size+Made.depth) T v name).run P w = .ok (f,v) w)(zC:∀ args w,(callFunc f args).run P w = .ok (.enter f args) w)(hx:eo env x=some (.iface T v))(he:Eos env l vs):
  ∀ a w,SS n F Ny env L a w->(execOp a.eval ⟨d,.call ⟨.invoke x name,l.toArray,Bz⟩,ty,pos,after,g⟩).run P w = .ok (.enter f (v::vs).toArray) w:=by
 intro a w h
 have h1:=he.map h
 have h2:(Array.map a.eval l.toArray)=vs.toArray:=by rw[<- h1];simp
 simp[execOp,resolve,invoke,h.eval hx,callMethod,run_program,hm w,zC,h2]
theorem uP{f:FuncId}{name:String}{l:List Operand}{vs:List Value}{Bz:Array TypeId}{A:Addr}(hm:∀ w,w.cell? A=some v->(method (P.types.size+Made.depth) T (.pointer (some A)) name).run P w = .ok (f,v) w)(zC:∀ args w,(callFunc f args).run P w = .ok (.enter f args) w)[hx:Nv (eo env x) (some (.iface T (.pointer (some A))))](hR:∀ w,Hp F Ny w L->w.cell? A=some v)(he:Eos env l vs):
  ∀ a w,SS n F Ny env L a w->(execOp a.eval ⟨d,.call ⟨.invoke x name,l.toArray,Bz⟩,ty,pos,after,g⟩).run P w = .ok (.enter f (v::vs).toArray) w:=by
 intro a w h
 have h1:=he.map h
 have h2:(Array.map a.eval l.toArray)=vs.toArray:=by rw[<- h1];simp
 simp[execOp,resolve,invoke,h.eval hx.1,callMethod,run_program,hm w (hR w h.hp),zC,h2]
theorem eU{i:TypeInfo}{m:Method}{f fuel:Nat}{name:String}{A:Addr}{w:World}(hi:P.info? T=some i)(hf:i.methods.find? (·.name == name)=some m)(hp:m.path = #[])(hfn:m.func=some (f,false))(hu:P.underlying T=some (.pointer e))(he:gQ P e)(h:w.cell? A=some v):(method (fuel+1) T (.pointer (some A)) name).run P w = .ok (f,v) w:=by
 have h1:=congrFun he w
 skip
 have hti:∀ w,(typeInfo T).run P w = .ok i w:=fun w=>by simp[typeInfo,run_program,hi]
 have hw:∀ x y:String,Builtin.ssaWrapNilChk_ #[T] T #[.pointer (some A),strVal x,strVal y]=pure (.pointer (some A)):=fun x y=>rfl
 simp only[method,Sem.run_bind,hti,Result.andThen_ok,hf,hp,hfn,Array.isEmpty_empty,if_true]
 simp[follow,receiverAt,run_underlying hu,Place.get,hw,loadVar,h1,asAddr,h]
theorem Uw[DecidableEq κ]{lg:List (κ×((Nat×β)×α))}{l:List (κ×α)}{k:κ}{t':TypeId}(hm:mP lg=l)(ht:P.underlying t=some (.pointer e))(hx:eo env x=some (.pointer (xK (jO lg) k none)))(hy:eo env y=some (.pointer none)):
  Qt P n F Ny env L ⟨d,.binOp .eql t x y t',ty,pos,after,g⟩ (.bool (!wS l k)):=by
 rw[<- YT hm]
 exact QF ht hx hy
end ifc
end
section
variable {w:World}{s:Nat}
section ent
variable {κ α:Type} [DecidableEq κ]
def QQ(b:Nat)(ek:κ->Value)(ev:α->Value)(l:List (κ×α))(k:κ)(s:Nat):Asrt where
 fp:=[b]
 ok w:=∃ es jh i e,w.heap[b]?=some (.map es jh)/\es.toList.map (fun e=>(e.key,e.val))=l.map (fun p=>(ek p.1,ev p.2))/\sp es jh/\
  ((l.map (·.1)).findIdx? fun k'=>decide (k=k'))=some i/\es[i]?=some e/\e.born=s
 loc w w' h hl hk:=by
  obtain⟨es,jh,i,e,h1,h2⟩:=hk
  exact⟨es,jh,i,e,by rw[h b (by simp) (hl b (by simp))];exact h1,h2⟩
variable [Rnd]
variable {P:Program} {n:Nat} {F:List Nat} {Ny:World} {env:List (Nat×Value)} {L R:List Asrt} {d:Option Tmp} {ty:TypeId} {pos:String} {after:Array Edge} {g:Option (Nat×Bool)} {x y z:Operand} {t kt e:TypeId}
 {ek:κ->Value} {ev:α->Value} {l:List (κ×α)} {b:Nat} {k:κ} {v dflt:α} {zv:Value}
theorem Hp.setMapG{X Y:Asrt}{o:Obj}(h:Hp F Ny w L)(hm:Pick L X R)(hX:X.fp=[b])(hY:Y.fp=[b])(vU:∀ w',w'.heap[b]?=some o->Y.ok w'):
  Hp F Ny { w with heap:=w.heap.setIfInBounds b o } (Y::R):=by
 have n8:b<w.heap.size:=(h.front hm).lt _ (List.mem_cons_self ..) b (by simp[hX])
 refine(h.front hm).upd (x:=X) (y:=Y) .here rfl ⟨rfl,Nat.le_refl _⟩ rfl (by simp) (fun k _ wj=>?_) (vU _ (by simp[n8])) ?_
 ·have:b≠k:=fun e=>wj (by simp[hX,e])
  simp[Array.getElem?_setIfInBounds,this]
 ·intro b' hb'
  rw[hY] at hb'
  simp only[List.mem_singleton] at hb'
  subst hb'
  exact⟨by simpa using n8,.inl (by simp[hX])⟩
theorem VG{γ:Type}{k:κ}{u v:γ}:∀ {l:List (κ×γ)},w7 (w7 l k u) k v=w7 l k v
 | []=>by simp[w7]
 | p::l=>by
  by_cases hk:k=p.1
  ·subst hk;simp[w7]
  ·simp only[w7,hk,if_false];rw[VG]
theorem YU{k:κ}:∀ {l:List κ},(l.findIdx? fun k'=>decide (k=k'))=none->((l++[k]).findIdx? fun k'=>decide (k=k'))=some l.length
 | [],_=>by simp
 | a::l,h=>by
  rw[List.findIdx?_cons] at h
  rw[List.cons_append,List.findIdx?_cons]
  by_cases hk:k=a
  ·subst hk;simp at h
  ·simp only[hk,decide_false,Bool.false_eq_true,if_false,Option.map_eq_none_iff] at h ⊢
   rw[YU h];rfl
theorem Gs(K:KeyT P kt ek)(ht:P.underlying t=some (.map kt e))(hz:qz P e zv)(hd:zv=ev dflt)(hx:eo env x=some (.map (some b)))(hy:eo env y=some (ek k))(hm:Pick L (xP b ek ev l) R):
  Ef P n F Ny env L ⟨d,.mapEntry t x y,ty,pos,after,g⟩ (fun _:Nat=>True) (fun s => .tuple #[ev (xK l k dflt),.int .i64 ((s:Nat):Int)]) (fun s=>QQ b ek ev (w7 l k (xK l k dflt)) k s::R):=by
 intro a w h
 obtain⟨es,jh,hb,he,ni⟩:=h.hp.ok _ hm.mem
 have h1:=K.find k es.toList (l.map (·.1)) w (cx he)
 have h2:=ii (ek:=ek) (ev:=ev) (k:=k) (d:=dflt) l es.toList he
 have h3:=aH (k:=k) l
 have DB:=congrFun hz w
 cases hf:(l.map (·.1)).findIdx? (fun k'=>decide (k=k')) with
 | none=>
  rw[hf] at h1 h2 h3
  simp only[Option.map_none] at h1 h2
  refine⟨jh,{ w with heap:=w.heap.setIfInBounds b (.map (es.push { key:=ek k,val:=ev dflt,born:=jh }) (jh+1)) },?_,trivial,?_⟩
  ·simp[execOp,h.eval hx,h.eval hy,Instr.mapEntry,Sem.run_bind,run_underlying ht,Result.andThen,MapKept.run_getObj_map hb,K.chk,h1,DB,hd,MapKept.run_setObj_map _ hb,goInt,<- h2]
  ·refine h.hp.setMapG (X:=xP b ek ev l) hm rfl rfl (fun w' oL=>⟨_,_,l.length,{ key:=ek k,val:=ev dflt,born:=jh },oL,?_,ni.push _ _,?_,?_,rfl⟩)
   ·rw[il l hf]
    have:ev (xK l k dflt)=ev dflt:=h2.symm
    simp[he,this]
   ·rw[il l hf,List.map_append]
    simpa using YU hf
   ·have hl:es.size=l.length:=by have:=congrArg List.length he;simpa using this
    rw[<- hl];simp
 | some i=>
  rw[hf] at h1 h2 h3
  obtain⟨i1,i2,i3⟩:=ik (v:=xK l k dflt) l es.toList i he hf
  have EA:i<es.size:=by simpa using i1
  have e0:es[i]?=some es[i]:=Array.getElem?_eq_getElem EA
  have AD:es[i].key=ek k:=by
   rw[Array.getElem?_toList,e0] at i2;simpa using i2
  have Cy:es[i].val=ev (xK l k dflt):=by
   simp only[Option.map_some] at h2
   rw[Array.getElem?_toList,e0] at h2;simpa using h2
  refine⟨es[i].born,{ w with heap:=w.heap.setIfInBounds b (.map (es.modify i fun e=>{ e with key:=ek k }) jh) },?_,trivial,?_⟩
  ·simp[execOp,h.eval hx,h.eval hy,Instr.mapEntry,Sem.run_bind,run_underlying ht,Result.andThen,MapKept.run_getObj_map hb,K.chk,h1,e0,AD,K.stays,MapKept.run_setObj_map _ hb,goInt,Cy]
  ·have hmod:(es.modify i fun e=>{ e with key:=ek k })=es:=by
    apply Array.ext_getElem?
    intro j
    rw[Array.getElem?_modify]
    by_cases hij:i=j
    ·subst hij;rw[e0];simp[<- AD]
    ·simp[hij]
   have hs:w7 l k (xK l k dflt)=l:=bS (d:=dflt) (by rw[<- h3];rfl) rfl
   rw[hmod,hs]
   exact h.hp.setMapG (X:=xP b ek ev l) hm rfl rfl (fun w' oL=>⟨es,jh,i,es[i],oL,he,ni,hf,e0,rfl⟩)
theorem Fg{es:Array MapEntry}{i:Nat}{e0:MapEntry}(hn:(es.toList.map (·.born)).Nodup)(h:es[i]?=some e0):es.findIdx? (fun e=>((e.born:Nat):Int) == ((e0.born:Nat):Int))=some i:=by
 rw[Array.findIdx?_eq_some_iff_getElem]
 obtain⟨hi,h1⟩:=Array.getElem?_eq_some_iff.1 h
 refine⟨hi,by simp[h1],?_⟩
 intro j hj
 simp only[beq_iff_eq]
 intro hc
 have tt:j<es.size:=by omega
 have Cb:es[j].born=e0.born:=Int.ofNat.inj hc
 have h2:=(List.pairwise_iff_getElem.1 hn) j i (by simpa using tt) (by simpa using hi) hj
 apply h2
 simp[Cb,h1]
theorem QR{vv:Value}(hx:eo env x=some (.map (some b)))(hy:eo env y=some (.int .i64 ((s:Nat):Int)))(hv:eo env z=some vv)(DC:vv=ev v)(hm:Pick L (QQ b ek ev l k s) R):
  aw P n F Ny env L ⟨none,.entryStore t x y z,ty,pos,after,g⟩ (xP b ek ev (w7 l k v)::R):=by
 intro a w h
 subst DC
 obtain⟨es,jh,i,e0,hb,he,ni,hf,hi,rfl⟩:=h.hp.ok _ hm.mem
 have hfi:=Fg ni.2 hi
 obtain⟨i1,i2,i3⟩:=ik (v:=v) l es.toList i he hf
 have AD:e0.key=ek k:=by rw[Array.getElem?_toList,hi] at i2;simpa using i2
 refine⟨{ w with heap:=w.heap.setIfInBounds b (.map (es.modify i fun e=>{ e with val:=ev v }) jh) },.inl ?_,?_⟩
 ·simp[execOp,h.eval hx,h.eval hy,h.eval hv,Instr.entryStore,Sem.run_bind,Result.andThen,MapKept.run_getObj_map hb,asInt,asIntOf,hfi,MapKept.run_setObj_map _ hb]
 ·refine h.hp.setMapG (X:=QQ b ek ev l k e0.born) hm rfl rfl (fun w' oL=>⟨_,_,oL,?_,ni.modify _ _ (fun _=>rfl)⟩)
  rw[<- i3,Array.toList_modify]
  apply List.ext_getElem?
  intro j
  simp only[List.getElem?_map,List.getElem?_modify]
  by_cases hij:i=j
  ·subst hij
   rw[Array.getElem?_toList,hi]
   simp[AD]
  ·simp[hij]
theorem Qi{vv:Value}{u:α}(hx:eo env x=some (.map (some b)))(hy:eo env y=some (.int .i64 ((s:Nat):Int)))(hv:eo env z=some vv)(DC:vv=ev v)(hm:Pick L (QQ b ek ev (w7 l k u) k s) R):
  aw P n F Ny env L ⟨none,.entryStore t x y z,ty,pos,after,g⟩ (xP b ek ev (w7 l k v)::R):=by
 have:=QR (P:=P) (n:=n) (F:=F) (Ny:=Ny) (L:=L) (env:=env) (t:=t) (ty:=ty) (pos:=pos) (after:=after) (g:=g) (v:=v) hx hy hv DC hm
 rwa [VG] at this
def W1(b:Nat)(ek:κ->Value)(ev:α->Value)(k:κ)(d v:α):Asrt where
 fp:=[b]
 ok w:=∃ l,(xP b ek ev l).ok w/\xK l k d=v
 loc w w' h hl hk:=by
  obtain⟨l,h1,h2⟩:=hk
  exact⟨l,(xP b ek ev l).loc w w' h hl h1,h2⟩
theorem pt{d:α}(h:(xP b ek ev l).ok w):(W1 b ek ev k d (xK l k d)).ok w:=⟨l,h,rfl⟩
theorem VH{γ:Type}{k:κ}{u d:γ}:∀ {l:List (κ×γ)},xK (w7 l k u) k d=u
 | []=>by simp[w7,xK]
 | p::l=>by
  by_cases hk:k=p.1
  ·subst hk;simp[w7,xK]
  ·simp only[w7,hk,if_false,xK];exact VH
theorem Fh{d:α}(h:(QQ b ek ev (w7 l k (xK l k d)) k s).ok w):(W1 b ek ev k d (xK l k d)).ok w:=by
 obtain⟨es,jh,i,e,h1,h2,h3,_⟩:=h
 exact⟨_,⟨es,jh,h1,h2,h3⟩,VH⟩
theorem VI{u:α}(K:KeyT P kt ek)(ht:P.underlying t=some (.map kt e))(hz:qz P e zv)(hd:zv=ev dflt)(hx:eo env x=some (.map (some b)))(hy:eo env y=some (ek k))(hm:Pick L (W1 b ek ev k dflt u) R):
  Qt P n F Ny env L ⟨d,.lookup t x y false,ty,pos,after,g⟩ (ev u):=by
 intro a w h
 obtain⟨l,h1,h2⟩:=h.hp.ok _ hm.mem
 have As:=h.hp.front hm
 have h3:Hp F Ny w (xP b ek ev l::R):=by
  refine⟨As.os,As.tape,As.output,As.size,As.block,fun y hy=>?_,fun y hy c hc=>?_,fun y hy c hc=>?_,List.pairwise_cons.2 (List.pairwise_cons.1 As.sep)⟩
  ·rcases List.mem_cons.1 hy with rfl | hy
   ·exact h1
   ·exact As.ok y (List.mem_cons_of_mem _ hy)
  ·rcases List.mem_cons.1 hy with rfl | hy
   ·exact As.lt _ (List.mem_cons_self ..) c hc
   ·exact As.lt y (List.mem_cons_of_mem _ hy) c hc
  ·rcases List.mem_cons.1 hy with rfl | hy
   ·exact As.ow _ (List.mem_cons_self ..) c hc
   ·exact As.ow y (List.mem_cons_of_mem _ hy) c hc
 subst h2
 exact jk K ht hz (hd:=⟨hd⟩) (hx:=⟨hx⟩) (hy:=⟨hy⟩) .here a w (h.world h3)
end ent
theorem Pv[Rnd]{P:Program}{n dd:Nat}{F:List Nat}{Ny:World}{env:List (Nat×Value)}{L:List Asrt}{eA:Array Oper}{G:Type}{φ:G->Prop}{val:G->Value}{L':G->List Asrt}{o:Oper}{tl:Nat->Bool}{Ls:List Asrt}{fuel:Nat}{listed:Array Bool}{QD:Act->World->Prop}{i:Nat}(hi:eA[i]?=some o)(hr:Region.ready .any eA listed=[i])(hg:gd env eA o=some true)(hd:o.dst=some dd)(ll:Nat.blt dd n=true)(ht:tl i=true)(hq:Ef P n F Ny env L o φ val L')(ni:∀ g,wJ (L' g) Ls)(k:∀ g,φ g->WD P n F Ny eA tl Ls QD fuel (listed.setIfInBounds i true) ((dd,val g)::env) (L' g)):WD P n F Ny eA tl Ls QD (fuel+1) listed env L:=
 WD.old hi (hr:=hr) (hg:=⟨hg⟩) hd (ll:=⟨ll⟩) (ht:=⟨ht⟩) ni hq k
section app
variable [Rnd] {F:List Nat} {Ny:World} {L:List Asrt} {Z:Zp}
theorem RR.oc{α:Type}{Pr:List Value->α->Prop}{sz:Nat}{cs:List Value}{l:List α}(h:RR sz Pr cs l)(hP:∀ r x,Pr r x->∀ u∈r,u.oneCell'=true):∀ u∈cs,u.oneCell'=true:=by
 obtain⟨rows,h1,h2,h3,h4⟩:=h
 intro u hu
 rw[<- h1] at hu
 obtain⟨r,hr,hur⟩:=List.mem_flatten.1 hu
 obtain⟨i,hi,rfl⟩:=List.getElem_of_mem hr
 exact hP _ _ (h4 i rows[i] (l[i]'(by omega)) (List.getElem?_eq_getElem hi) (List.getElem?_eq_getElem (by omega))) u hur
end app
end
section
def pw(es:List MapEntry)(seen:Array Nat):List MapEntry:=es.filter fun e => !seen.contains e.born
theorem nY{α β:Type}(f:α->β)(l:List α)(i:Nat):(l.eraseIdx i).map f=(l.map f).eraseIdx i:=by
 simp only[List.eraseIdx_eq_take_drop_succ,List.map_append,List.map_take,List.map_drop]
theorem Kp{l:List MapEntry}{i:Nat}{e:MapEntry}(hn:(l.map (·.born)).Nodup)(h:l[i]?=some e):l.filter (fun q=>q.born != e.born)=l.eraseIdx i:=by
 induction l generalizing i with
 | nil=>simp at h
 | cons a t ih=>
  simp only[List.map_cons,List.nodup_cons,List.mem_map,not_exists,not_and] at hn
  cases i with
  | zero=>
   simp only[List.getElem?_cons_zero,Option.some.injEq] at h
   subst h
   rw[List.filter_cons_of_neg (by simp),List.eraseIdx_cons_zero]
   exact List.filter_eq_self.2 fun q hq=>bne_iff_ne.2 (hn.1 q hq)
  | succ i=>
   rw[List.getElem?_cons_succ] at h
   have hm:e∈t:=List.mem_of_getElem? h
   rw[List.filter_cons_of_pos (by simpa using fun hc=>hn.1 e hm hc.symm),ih hn.2 h,List.eraseIdx_cons_succ]
theorem Kq{es:List MapEntry}{seen:Array Nat}{i:Nat}{e:MapEntry}(hn:(es.map (·.born)).Nodup)(h:(pw es seen)[i]?=some e):pw es (seen.push e.born)=(pw es seen).eraseIdx i:=by
 rw[<- Kp (l:=pw es seen) (i:=i) (List.Sublist.nodup (List.Sublist.map _ List.filter_sublist) hn) h]
 unfold pw
 rw[List.filter_filter]
 congr 1;funext q
 rw[Array.contains_push,Bool.not_or,Bool.and_comm]
 simp[bne,Bool.beq_comm,BEq.comm]
theorem Fi{l:List MapEntry}{e:MapEntry}(hn:(l.map (·.born)).Nodup)(h:e∈l):l.find? (fun x=>x.born == e.born)=some e:=by
 induction l with
 | nil=>simp at h
 | cons a t ih=>
  simp only[List.map_cons,List.nodup_cons,List.mem_map,not_exists,not_and] at hn
  rcases List.mem_cons.1 h with rfl | h
  ·simp
  ·rw[List.find?_cons_of_neg (by simpa using fun hc=>hn.1 e h hc.symm)];exact ih hn.2 h
section
variable {κ α:Type}
def sq(r b:Nat)(ek:κ->Value)(ev:α->Value)(l rem:List (κ×α))(nk:Option (κ×α)):Asrt where
 fp:=[r,b]
 ok w:=r≠b/\∃ es jh seen,w.heap[b]?=some (.map es jh)/\es.toList.map (fun e=>(e.key,e.val))=l.map (fun p=>(ek p.1,ev p.2))/\sp es jh/\w.heap[r]?=some (.mapIter (some b) jh seen jh)/\
  (pw es.toList seen).map (fun e=>(e.key,e.val))=rem.map (fun p=>(ek p.1,ev p.2))/\
  ∀ c,nk=some c->∃ s e,seen.back?=some s/\es.find? (fun x=>x.born == s)=some e/\e.key=ek c.1/\e.val=ev c.2
 loc w w' h hl hk:=by
  obtain⟨h0,es,jh,seen,h1,h2,h3,h4,h5⟩:=hk
  exact⟨h0,es,jh,seen,by rw[h b (by simp) (hl b (by simp))];exact h1,h2,h3,by rw[h r (by simp) (hl r (by simp))];exact h4,h5⟩
end
section
variable [Rnd]
variable {P:Program} {n:Nat} {F:List Nat} {Ny:World} {env:List (Nat×Value)} {L R:List Asrt} {d:Option Tmp} {ty:TypeId} {pos:String} {after:Array Edge} {g:Option (Nat×Bool)} {x y z:Operand} {t kt e:TypeId}
 {κ α:Type} {ek:κ->Value} {ev:α->Value} {l rem:List (κ×α)} {nk:Option (κ×α)} {r b:Nat}
theorem Ux(ht:P.underlying t=some (.map kt e))(hx:eo env x=some (.map (some b)))(hm:Pick L (xP b ek ev l) R):
  Ef P n F Ny env L ⟨d,.range t x,ty,pos,after,g⟩ (fun _:Nat=>True) (fun r => .pointer (some ⟨r,0,none⟩)) (fun r=>sq r b ek ev l l none::R):=by
 intro a w h
 obtain⟨es,jh,hb,he,ni⟩:=h.hp.ok _ hm.mem
 have Bx:b<w.heap.size:=(h.hp.front hm).lt _ (List.mem_cons_self ..) b (by simp[xP])
 refine⟨w.heap.size,w.alloc (.mapIter (some b) jh #[] jh),?_,trivial,?_⟩
 ·simp[execOp,h.eval hx,Instr.range,Sem.run_bind,run_underlying ht,Result.andThen,MapKept.run_getObj_map hb]
 ·have h1:=(h.hp.front hm).alloc (.mapIter (some b) jh #[] jh)
  have hA:=Ext.alloc w (.mapIter (some b) jh #[] jh)
  refine(h.hp.front hm).upd (x:=xP b ek ev l) (y:=sq w.heap.size b ek ev l l none) .here hA.os hA.tape hA.output hA.size (fun k hk _=>hA.block k hk) ⟨by omega,es,jh,#[],?_,he,ni,?_,?_,by simp⟩ ?_
  ·rw[hA.block b Bx];exact hb
  ·exact heap_alloc_new w _
  ·unfold pw;rw[List.filter_eq_self.2 (by simp)];exact he
  ·intro q hq
   simp only[sq,List.mem_cons,List.not_mem_nil,or_false] at hq
   rcases hq with rfl | rfl
   ·exact⟨by simp,.inr (Nat.le_refl _)⟩
   ·exact⟨Nat.lt_of_lt_of_le Bx hA.size,.inl (by simp[xP])⟩
theorem W2{w:World}{m:Nat}(hm:0<m):∃ i N,i<m/\w.drawn<=N/\(Go.choose (.mapNext m)).run P w = .ok i { w with drawn:=N }:=by
 by_cases h:m<=1
 ·exact⟨0,w.drawn,by omega,Nat.le_refl _,by simp[Go.choose,Sem.run,Question.forced,h]⟩
 ·exact⟨w.tape w.drawn (.mapNext m) % m,w.drawn+1,Nat.mod_lt _ hm,Nat.le_succ _,by simp[-run_choose_drew,Go.choose,Sem.run,Question.forced,h,Question.cut]⟩
theorem Uy(hx:eo env x=some (.pointer (some ⟨r,0,none⟩)))(hm:Pick L (sq r b ek ev l rem nk) R):
  Ef P n F Ny env L ⟨d,.next x false,ty,pos,after,g⟩ (fun o:Option (Nat×(κ×α))=>match o with | none=>rem=[] | some p=>rem[p.1]?=some p.2)
   (fun o=>match o with | none => .tuple #[.bool false] | some p => .tuple #[.bool true,ek p.2.1,ev p.2.2])
   (fun o=>match o with | none=>sq r b ek ev l [] nk::R | some p=>sq r b ek ev l (rem.eraseIdx p.1) (some p.2)::R):=by
 intro a w h
 obtain⟨hrb,es,jh,seen,hb,he,ni,hr,hl,hc⟩:=h.hp.ok _ hm.mem
 have Ci:r<w.heap.size:=(h.hp.front hm).lt _ (List.mem_cons_self ..) r (by simp[sq])
 have Bx:b<w.heap.size:=(h.hp.front hm).lt _ (List.mem_cons_self ..) b (by simp[sq])
 have BE:(getObj r).run P w = .ok (.mapIter (some b) jh seen jh) w:=by simp[getObj,Sem.run,hr]
 have Cz:=MapKept.run_getObj_map (P:=P) hb
 have hu:(!seen.isEmpty && !es.isEmpty&&es.all (fun q=>decide (q.born>=jh)))=false:=by
  by_cases h0:es.isEmpty=true
  ·simp[h0]
  ·have:es.all (fun q=>decide (q.born>=jh))=false:=by
    rw[Bool.eq_false_iff]
    intro Cb
    rw[Array.all_eq_true_iff_forall_mem] at Cb
    have hs:0<es.size:=by
     rw[Array.isEmpty_iff_size_eq_zero] at h0;omega
    have h1:=of_decide_eq_true (Cb es[0] (Array.getElem_mem hs))
    have h2:=ni.1 es[0] (by simp)
    omega
   simp[this]
 have hL:(es.filter fun q => !seen.contains q.born).toList=pw es.toList seen:=by unfold pw;rw[Array.toList_filter]
 have hold:(es.filter fun q => !seen.contains q.born).filter (fun q=>decide (q.born<jh))=es.filter fun q => !seen.contains q.born:=by
  apply Array.ext'
  rw[Array.toList_filter,List.filter_eq_self]
  intro q hq
  rw[hL] at hq
  exact decide_eq_true (ni.1 q (List.mem_filter.1 hq).1)
 have xE:(es.filter fun q => !seen.contains q.born).filter (fun q=>decide (q.born>=jh)) = #[]:=by
  apply Array.ext'
  rw[Array.toList_filter,Array.toList_empty,List.filter_eq_nil_iff]
  intro q hq
  rw[hL] at hq
  have:=ni.1 q (List.mem_filter.1 hq).1
  simp;omega
 have kM:rem.length=(pw es.toList seen).length:=by simpa using (congrArg List.length hl).symm
 have hg3:∀ o N,(setObj r o).run P { w with drawn:=N } = .ok () ({ w with drawn:=N }.putObj r o):=fun o N=>by
  simp[setObj,Sem.run,hr,World.putObj]
 generalize hLe:(es.filter fun q => !seen.contains q.born)=left at hL hold xE
 have hrl':rem.length=left.size:=by rw[kM,<- hL];simp
 have sR:=hl
 rw[<- hL] at hl
 by_cases h0:left.size=0
 ·have EE:left = #[]:=Array.eq_empty_of_size_eq_zero h0
  obtain rfl:rem=[]:=List.eq_nil_of_length_eq_zero (by omega)
  obtain⟨i,N,hi,hN,jA⟩:=W2 (P:=P) (w:=w) Nat.one_pos
  obtain rfl:i=0:=by omega
  refine⟨none,{ w with drawn:=N },?_,rfl,(h.hp.front hm).ext (Ext.Xe w N hN)⟩
  ·simp only[execOp,h.eval hx,Instr.next,Sem.run_bind,BE,Cz,Result.andThen,hu,hLe,EE,Bool.false_eq_true,if_false,Array.filter_empty,Array.isEmpty_empty,if_true,Array.append_empty,Array.map_empty]
   simp[-run_choose_drew,jA,Sem.run_bind,Result.andThen,Sem.run,pure]
 ·obtain⟨i,N,hi,hN,jA⟩:=W2 (P:=P) (w:=w) (m:=left.size) (by omega)
  have Ce:i<rem.length:=by omega
  have hE:=h.hp.ext (Ext.Xe w N hN)
  have ET:=congrArg (fun z=>z[i]?) hl
  simp only[List.getElem?_map,Array.getElem?_toList,List.getElem?_eq_getElem Ce,Array.getElem?_eq_getElem hi,Option.map_some,Option.some.injEq,Prod.mk.injEq] at ET
  have EU:(left.filter fun q=>decide (q.born<jh))=left:=hold
  have qA:left.isEmpty=false:=by rw[Bool.eq_false_iff];intro hc;exact h0 (Array.isEmpty_iff_size_eq_zero.1 hc)
  refine⟨some (i,rem[i]),{ w with drawn:=N }.putObj r (.mapIter (some b) jh (seen.push left[i].born) jh),?_,List.getElem?_eq_getElem Ce,?_⟩
  ·simp only[execOp,h.eval hx,Instr.next,Sem.run_bind,BE,Cz,Result.andThen,hu,hLe,EU,xE]
   simp[-run_choose_drew,jA,Sem.run_bind,Result.andThen,Sem.run,pure,qA,hg3,hi,ET.1,ET.2]
  ·have B8:(pw es.toList seen)[i]?=some left[i]:=by rw[<- hL,Array.getElem?_toList,Array.getElem?_eq_getElem hi]
   have hme:left[i]∈es.toList:=(List.mem_filter.1 (List.mem_of_getElem? B8)).1
   refine(hE.front hm).upd (x:=sq r b ek ev l rem nk) (y:=sq r b ek ev l (rem.eraseIdx i) (some rem[i])) (w':={ w with drawn:=N }.putObj r (.mapIter (some b) jh (seen.push left[i].born) jh)) .here rfl ⟨rfl,Nat.le_refl _⟩ rfl (by rw[World.putObj_size];exact Nat.le_refl _) (fun k _ hk=>World.putObj_heap_other fun hc=>hk (by simp[sq,hc])) ⟨hrb,es,jh,seen.push left[i].born,?_,he,ni,World.putObj_heap_same Ci,?_,?_⟩ fun q hq=>⟨by rw[World.putObj_size];simp only[sq,List.mem_cons,List.not_mem_nil,or_false] at hq;rcases hq with rfl | rfl <;> assumption,.inl hq⟩
   ·rw[World.putObj_heap_other (Ne.symm hrb)];exact hb
   ·rw[Kq ni.2 B8,nY,sR,nY]
   ·rintro c Cb
    obtain rfl:rem[i]=c:=oJ Cb
    refine⟨left[i].born,left[i],by simp,?_,ET.1,ET.2⟩
    rw[<- Array.find?_toList];exact Fi ni.2 hme
theorem Uz{c:κ×α}(hx:eo env x=some (.pointer (some ⟨r,0,none⟩)))(hm:Pick L (sq r b ek ev l rem (some c)) R):
  Qt P n F Ny env L ⟨d,.entry x,ty,pos,after,g⟩ (.tuple #[ek c.1,ev c.2]):=by
 intro a w h
 obtain⟨hrb,es,jh,seen,hb,he,ni,hr,hl,hc⟩:=h.hp.ok _ hm.mem
 have BE:(getObj r).run P w = .ok (.mapIter (some b) jh seen jh) w:=by simp[getObj,Sem.run,hr]
 have Cz:=MapKept.run_getObj_map (P:=P) hb
 obtain⟨s,e,h1,h2,h3,h4⟩:=hc c rfl
 simp[execOp,h.eval hx,Instr.entry,Sem.run_bind,BE,Cz,Result.andThen,h1,h2,h3,h4,Sem.run,pure]
theorem Hp.Fj{w:World}(hm:Pick L (sq r b ek ev l rem nk) R)(h:Hp F Ny w L):Hp F Ny w (xP b ek ev l::R):=by
 have h1:=h.front hm
 obtain⟨hrb,es,jh,seen,hb,he,ni,hr,hl,hc⟩:=h1.ok _ (List.mem_cons_self ..)
 refine h1.upd (x:=sq r b ek ev l rem nk) (y:=xP b ek ev l) .here rfl (TD.refl _) rfl (Nat.le_refl _) (fun _ _ _=>rfl) ⟨es,jh,hb,he,ni⟩ fun q hq=>?_
 have C7:q=b:=by simpa [xP] using hq
 subst C7
 exact⟨h1.lt _ (List.mem_cons_self ..) _ (by simp[sq]),.inl (by simp[sq])⟩
theorem Pf{dd:Nat}{eA:Array Oper}{Q:Exit->Act->World->Prop}{ir:List Oper}{o:Oper}(ho:o=⟨some dd,.next x false,ty,pos,after,none⟩)(ll:Nat.blt dd n=true)(hx:eo env x=some (.pointer (some ⟨r,0,none⟩)))(hm:Pick L (sq r b ek ev l rem nk) R)(k0:rem=[]->WL P n F Ny eA Q ir ((dd,.tuple #[.bool false])::env) (xP b ek ev l::R))(k1:∀(i:Nat) (y:κ×α) (m:List (κ×α)),rem[i]?=some y->m=rem.eraseIdx i->WL P n F Ny eA Q ir ((dd,.tuple #[.bool true,ek y.1,ev y.2])::env) (sq r b ek ev l m (some y)::R)):WL P n F Ny eA Q (o::ir) env L:=by
 subst ho
 refine O1 rfl rfl ll (Uy hx hm) fun g hg=>?_
 cases g with
 | none=>exact Ob (fun _ h=>Hp.Fj .here h) (k0 hg)
 | some p=>exact k1 p.1 p.2 _ hg rfl
end
end
section
section
variable {P:Program} {n:Nat} {F:Fence} {Q:Exit->Act->World->Prop} {a:Act} {w:World}
theorem rH{b:Frame}{k:List Item}{cs:List Frame}{c:Code}:step P (lone (b.atR a (.code (.scope c)::k)) cs w) = .next (lone (b.atR a (.code c :: .inScope c::k)) cs w):=
 step_lone_go (by simp[stepG,stepG.exec,Frame.atR])
theorem Qj{b:Frame}{k:List Item}{cs:List Frame}{c:Code}:step P (lone (b.atR a (.inScope c::k)) cs w) = .next (lone (b.atR a k) cs w):=
 step_lone_go (by simp[stepG,stepG.exec,Frame.atR])
theorem Gt{c:Code}(h:c.wpIn F n P (Exit.noGoto Q) a w):(Code.scope c).wpIn F n P Q a w:=by
 intro b k cs D6 hb hr
 have h0:(lone (b.atR a (.code (.scope c)::k)) cs w).fenced P F:=fenced_calm hb hr rfl
 obtain⟨e,sG,sP,hq,rh⟩:=h b (.inScope c::k) cs D6 hb hr
 cases e with
 | normal=>exact⟨.normal,sG,sP,hq,.head h0 rH (StepsIn.trans rh (.one (fenced_calm hb hr rfl) Qj))⟩
 | exit id=>
  have hx:exitTo id (.inScope c::k)=exitTo id k:=by simp[exitTo]
  exact⟨.exit id,sG,sP,hq,fun k' hk => .head h0 rH (rh.1 k' (by rw[hx];exact hk)),
   fun hr' hk=>let ⟨k₁,h1,h2⟩:=rh.2 hr' (by rw[hx];exact hk);⟨k₁,h1,.head h0 rH h2⟩⟩
 | goto l=>exact hq.elim
 | ret=>exact⟨_,sG,sP,hq,.of_steps (.one h0 rH) rh⟩
 | panic ch=>exact⟨_,sG,sP,hq,.of_steps (.one h0 rH) rh⟩
 | outgrown=>exact⟨_,sG,sP,hq,.of_steps (.one h0 rH) rh⟩
end
section
variable [Rnd]
variable {P:Program} {n:Nat} {F:List Nat} {Ny:World} {Q:Exit->Act->World->Prop} {env:List (Nat×Value)} {L:List Asrt}
theorem Pk{c:Code}(k:WC P n F Ny (Exit.noGoto Q) c env L):WC P n F Ny Q (.scope c) env L:=fun a w h=>Gt (k a w h)
theorem Pm{l:Nat}(k:WX n F Ny Q .normal env L):WC P n F Ny Q (.label l) env L:=fun a w h=>wpIn_label (k a w h)
theorem Py(k:WX n F Ny Q .ret env L):WX n F Ny (Exit.noGoto Q) .ret env L:=k
end
end
section
def sw{R:Type}:List (Int×Option R)->Int->Option R
 | [],_=>none
 | p::l,i=>if i=p.1 then p.2 else sw l i
structure arT (P:Program) (t e:TypeId) (len sz:Nat):Prop where
 un:P.underlying t=some (.array len e)
 sz:∀ w,(Go.sizeOf e).run P w = .ok sz w
section
variable [Rnd]
variable {P:Program} {n:Nat} {F:List Nat} {Ny:World} {env:List (Nat×Value)} {L R:List Asrt} {eA:Array Oper} {Q:Exit->Act->World->Prop} {ir:List Oper}
 {dd:Nat} {d:Option Tmp} {ty:TypeId} {pos:String} {after:Array Edge} {g:Option (Nat×Bool)} {x y c:Operand} {v u:Value} {t e T:TypeId} {sz len:Nat} {Z:Zp}
end
end
section
section
variable {κ α:Type} [DecidableEq κ]
def slv(p:(Option Addr×Nat)×List α):Value := .slice p.1.1 p.2.length p.1.2
def jP(lg:List (κ×((Nat×(Option Addr×Nat))×List α))):List (κ×((Option Addr×Nat)×List α)):=lg.map fun p=>(p.1,(p.2.1.2,p.2.2))
def qX(e:TypeId)(sz:Nat)(enc:α->List Value)(g:Nat×(Option Addr×Nat))(x:List α):List Asrt:=[row (.slice g.2.1 x.length g.2.2) e sz (x.flatMap enc)]
variable {lg:List (κ×((Nat×(Option Addr×Nat))×List α))} {l:List (κ×List α)}
theorem aJ(k:κ)(g:Nat×(Option Addr×Nat))(x:List α):∀ lg:List (κ×((Nat×(Option Addr×Nat))×List α)),jP (w7 lg k (g,x))=w7 (jP lg) k (g.2,x)
 | []=>rfl
 | p::lg=>by
  unfold w7 jP
  by_cases h:k=p.1
  ·simp[h]
  ·have:=aJ k g x lg
   unfold jP at this
   simp[h,this]
theorem aK(k:κ):∀ lg:List (κ×((Nat×(Option Addr×Nat))×List α)),xK (jP lg) k ((none,0),[])=((xK lg k ((0,(none,0)),[])).1.2,(xK lg k ((0,(none,0)),[])).2)
 | []=>rfl
 | p::lg=>by
  have ih:=aK k lg
  unfold jP at ih ⊢
  rw[List.map_cons]
  unfold xK
  by_cases h:k=p.1
  ·simp[h]
  ·simp only[h,if_false];exact ih
theorem WY{γ:Type}{k:κ}{d:γ}:∀ {lg:List (κ×γ)},wS lg k=false->xK lg k d=d/\uv k lg=lg
 | [],_=>⟨rfl,rfl⟩
 | p::lg,h=>by
  unfold wS at h
  by_cases e:k=p.1
  ·simp[e] at h
  ·simp only[e,if_false] at h
   obtain⟨h1,h2⟩:=WY (d:=d) h
   unfold xK uv
   simp only[e,if_false]
   exact⟨h1,by rw[h2]⟩
variable {F:List Nat} {Ny w:World} {L R R':List Asrt} {e:TypeId} {sz:Nat} {enc:α->List Value}
theorem Hp.bU(k:κ)(hm:mP lg=l)(hp:Pick L (wM (qX e sz enc) lg) R)(h:Hp F Ny w L):
  ∃ g:Option Addr×Nat,xK (jP lg) k ((none,0),[])=(g,xK l k [])/\Hp F Ny w (row (.slice g.1 (xK l k []).length g.2) e sz ((xK l k []).flatMap enc)::wM (qX e sz enc) (uv k lg)::R):=by
 subst hm
 rw[aK,QO k [] (0,(none,0))]
 refine⟨(xK lg k ((0,(none,0)),[])).1.2,rfl,?_⟩
 by_cases hk:wS lg k=true
 ·obtain⟨v,h1,h2⟩:=bR k lg hk
  rw[h1]
  have h4:=h.pickAll hp
  have h5:=h4.perm ((oS (f:=fun p:κ×((Nat×(Option Addr×Nat))×List α)=>qX e sz enc p.2.1 p.2.2) h2).append_right R)
  rw[List.flatMap_cons,List.append_assoc] at h5
  have h6:Hp F Ny w (((uv k lg).flatMap fun p=>qX e sz enc p.2.1 p.2.2)++(qX e sz enc v.1 v.2++R)):=h5.perm (by
   rw[<- List.append_assoc,<- List.append_assoc];exact List.perm_append_comm.append_right R)
  have h7:=Hp.pq h6
  exact h7.perm List.perm_middle.symm
 ·have wj:wS lg k=false:=by simpa using hk
  obtain⟨h1,h2⟩:=WY (d:=(((0,(none,0)),[]):(Nat×(Option Addr×Nat))×List α)) wj
  rw[h1,h2]
  exact(h.nilRow e sz).perm ((hp.perm).cons _)
theorem Hp.W3{k:κ}{ao:Option Addr}{cap:Nat}{x:List α}(hs:Sel L [row (.slice ao x.length cap) e sz (x.flatMap enc),wM (qX e sz enc) (uv k lg)] R)(h:Hp F Ny w L):
  Hp F Ny w (wM (qX e sz enc) (w7 lg k ((0,(ao,cap)),x))::R):=
 Hp.objsClose (els:=qX e sz enc) (b:=0) (g:=(ao,cap)) hs h
theorem Sel.skip{β:Type}{y:β}:∀ {L L' M:List β},Sel L L' M->Sel (y::L) L' (y::M)
 | _,_,_,.nil => .nil
 | _,_,_,.cons h t => .cons (.there h) (Sel.skip t)
theorem Hp.VJ{k:κ}{g:Option Addr×Nat}(hm:mP lg=l)(hp:xK (jP lg) k ((none,0),[])=(g,xK l k []))(hs:Sel L [row (.slice g.1 (xK l k []).length g.2) e sz ((xK l k []).flatMap enc),wM (qX e sz enc) (uv k lg)] R)(h:Hp F Ny w L):
  Hp F Ny w (wM (qX e sz enc) lg::R):=by
 by_cases hk:wS lg k=true
 ·obtain⟨v,h1,h2⟩:=bR k lg hk
  rw[aK,h1] at hp
  have e1:v.1.2=g:=congrArg Prod.fst hp
  have e2:v.2=xK l k []:=congrArg Prod.snd hp
  have h3:=Hp.objsClose (lg:=lg) (k:=k) (els:=qX e sz enc) (b:=v.1.1) (g:=g) (x:=xK l k []) hs h
  rwa [show w7 lg k ((v.1.1,g),xK l k [])=lg from bS (d:=v) hk (by rw[h1,<- e1,<- e2])] at h3
 ·have wj:wS lg k=false:=by simpa using hk
  rw[(WY (d:=(((0,(none,0)),[]):(Nat×(Option Addr×Nat))×List α)) wj).2] at hs
  have h1:=Hp.open_ (h.selAll hs)
  exact h1.sub (.cons (.there .here) (Sel.skip .all))
end
section
variable [Rnd] {P:Program} {n:Nat} {F:List Nat} {Ny:World} {eA:Array Oper} {tl:Nat->Bool} {Ls:List Asrt} {fuel:Nat} {listed:Array Bool} {Q:Act->World->Prop} {env:List (Nat×Value)} {L L':List Asrt} {o:Oper}
theorem Rl{i:Nat}(hi:eA[i]?=some o)(hr:Region.ready .any eA listed=[i])(hg:gd env eA o=some true)(hd:o.dst=none)(ht:tl i=true)(ni:wJ L' Ls)(hq:aw P n F Ny env L o L')(k:WD P n F Ny eA tl Ls Q fuel (listed.setIfInBounds i true) env L'):WD P n F Ny eA tl Ls Q (fuel+1) listed env L:=WD.forced0 hi (hr:=hr) (hg:=⟨hg⟩) (hd:=⟨hd⟩) (ht:=⟨ht⟩) ni hq k
end
theorem eV{F:List Nat}{Ny:World}{L R:List Asrt}{b off:Nat}{T:TypeId}{ks:List (Nat×Value)}{u v:Value}(hm:Pick L (rb b T ks) R)(hu:(off,u)∈ks)(hv:(off+1,v)∈ks):
  ∀ w,Hp F Ny w L->∀ j x,[u,v][j]?=some x->w.cell? (Addr.add ⟨b,off,none⟩ j)=some x:=by
 intro w h j x hx
 match j,hx with
 | 0,hx=>
  have e:Addr.add ⟨b,off,none⟩ 0=⟨b,off,none⟩:=by simp[Addr.add]
  rw[e,mG hm hu w h];simpa using hx
 | 1,hx=>
  have e:Addr.add ⟨b,off,none⟩ 1=⟨b,off+1,none⟩:=by simp[Addr.add]
  rw[e,mG hm hv w h];simpa using hx
 | j+2,hx=>simp at hx
end
section
variable {m cap pA i:Nat}{cs:List Value}{bo:Option Addr}{dty:TypeId}{w:World}
section
variable [Rnd] {P:Program} {n:Nat} {F:List Nat} {Ny:World} {env:List (Nat×Value)} {L R:List Asrt} {d:Option Tmp} {ty:TypeId} {pos:String} {after:Array Edge} {g:Option (Nat×Bool)} {x y:Operand} {t e:TypeId} {sz tj:Nat}
theorem Kr{ao:Option Addr}{k:Nat}{vo:List Value}{a:Act}(h:SS n F Ny env L a w)(ht:elT P t e sz tj)(hx:eo env x=some (.slice ao m cap))(hy:eo env y=some (.slice bo k pA))(hm:Pick L (row (.slice ao m cap) e sz cs) R)(hl:vo.length=k*sz)(zB:vo≠[]->∃ A,bo=some A/\∀ j u,vo[j]?=some u->w.cell? (A.add j)=some u)(h1:∀ u∈vo,u.oneCell'=true)(Ep:m+k<=maxLen)(w8:(m+k)*tj<=140737488355328):
  ∃(p:Option Addr×Nat) (w':World),(execOp a.eval ⟨d,.call ⟨.builtin .append,#[x,y],#[t,t]⟩,dty,pos,after,g⟩).run P w = .ok (.value (.slice p.1 (m+k) p.2)) w'/\True/\Hp F Ny w' (row (.slice p.1 (m+k) p.2) e sz (cs++vo)::R):=by
 obtain⟨inf,z,hi,hz,lp,hb,B7⟩:=ht.inf
 obtain⟨m',iF⟩:=h.hp.ok _ hm.mem
 have hmm:m'=m:=by
  have hs:=h.hp.rowShape hm
  have:=iF.1.symm.trans hs.1
  exact Nat.eq_of_mul_eq_mul_right ht.pos this
 subst hmm
 subst lp
 subst hb
 have AM:=h.hp.rowShape hm
 by_cases AD:k=0
 ·subst AD
  have hn:vo=[]:=List.eq_nil_of_length_eq_zero (by simpa using hl)
  subst hn
  refine⟨(ao,cap),w,?_,trivial,?_⟩
  ·have ze:m'<=cap:=AM.2.1
   cases bo <;> cases ao <;> simp[execOp,h.eval hx,h.eval hy,resolve,invoke,builtin,Builtin.append_,run_underlying ht.sl,Go.sizeOf,typeInfo,hi,Builtin.lenOf,Builtin.firstCells,ze,loadCells,loadCellsFrom,storeCells]
  ·simpa using h.hp.front hm
 ·have qA:vo≠[]:=by
   intro e;subst e
   have:0=k*inf.size:=by simpa using hl
   have:=Nat.mul_pos (Nat.pos_of_ne_zero AD) ht.pos
   omega
  obtain⟨A,rfl,hA⟩:=zB qA
  have h63':((m'+k:Nat):Int)<=9223372036854775807:=by simp only[maxLen] at Ep;omega
  obtain⟨v',w',hr,ho,By,_⟩:=run_append_own (P:=P) w 0 t dty e inf z inf.size inf.bytes ht.sl hi hz rfl rfl B7 ht.pos _ m' cs iF A k pA vo hl hA h1 Ep w8 (Nat.zero_le _)
  have xE:∀ b,v'.ownBlock=some b->(Value.slice ao m' cap).ownBlock=some b\/w.heap.size<=b:=by
   rcases iF.2 with⟨hv,hn⟩ | ⟨b0,n6,nk,hv,_,hh,Al,zn,zR,Ar⟩
   ·injection hv with e1 e2 e3
    subst e1 e3 hn
    have hq:=run_append_nil (P:=P) w t dty e inf z ht.sl hi hz A k pA vo hl hA (by omega) (by omega) (by simp only[Nat.zero_add] at w8;omega)
    rw[hr] at hq
    injection hq with e1 _
    subst e1
    intro b hb;simp[Value.ownBlock] at hb;exact .inr (by omega)
   ·injection hv with e1 e2 e3
    subst e1 e3
    by_cases hroom:m'+k<=cap
    ·have xW:m'*inf.size+vo.length<=nk.size:=by rw[hl,zR,<- Nat.add_mul];exact Nat.mul_le_mul_right _ hroom
     have hq:=run_append_room (P:=P) w t dty e inf ht.sl hi b0 m' cap nk hh A k pA vo hl hA h1 hroom xW
     rw[hr] at hq
     injection hq with e1 _
     subst e1
     intro b hb;exact .inl hb
    ·have holds:∀ j u,cs[j]?=some u->w.cell? ((⟨b0,0,none⟩:Addr).add j)=some u:=iF.cells (g:=b0) rfl
     have hq:=run_append_grow (P:=P) w t dty e inf z ht.sl hi hz ⟨b0,0,none⟩ m' cap cs iF.1 holds A k pA vo hl hA (by omega) (by omega) (growslice_fits (by omega) w8)
     rw[hr] at hq
     injection hq with e1 _
     subst e1
     intro b hb;simp[Value.ownBlock] at hb;exact .inr (by omega)
  have hdr:w.drawn<=w'.drawn:=by
   rcases iF.2 with⟨hv,hn⟩ | ⟨b0,n6,nk,hv,_,hh,Al,zn,zR,Ar⟩
   ·injection hv with e1 e2 e3
    subst e1 e3 hn
    have hq:=run_append_nil (P:=P) w t dty e inf z ht.sl hi hz A k pA vo hl hA (by omega) (by omega) (by simp only[Nat.zero_add] at w8;omega)
    rw[hr] at hq
    injection hq with _ e1
    rw[e1];first | exact Nat.le_refl _ | exact Nat.le_add_right _ _
   ·injection hv with e1 e2 e3
    subst e1 e3
    by_cases hroom:m'+k<=cap
    ·have xW:m'*inf.size+vo.length<=nk.size:=by rw[hl,zR,<- Nat.add_mul];exact Nat.mul_le_mul_right _ hroom
     have hq:=run_append_room (P:=P) w t dty e inf ht.sl hi b0 m' cap nk hh A k pA vo hl hA h1 hroom xW
     rw[hr] at hq
     injection hq with _ e1
     rw[e1];first | exact Nat.le_refl _ | exact Nat.le_add_right _ _
    ·have holds:∀ j u,cs[j]?=some u->w.cell? ((⟨b0,0,none⟩:Addr).add j)=some u:=iF.cells (g:=b0) rfl
     have hq:=run_append_grow (P:=P) w t dty e inf z ht.sl hi hz ⟨b0,0,none⟩ m' cap cs iF.1 holds A k pA vo hl hA (by omega) (by omega) (growslice_fits (by omega) w8)
     rw[hr] at hq
     injection hq with _ e1
     rw[e1];first | exact Nat.le_refl _ | exact Nat.le_add_right _ _
  obtain⟨p,rfl⟩:∃ p:Option Addr×Nat,v' = .slice p.1 (m'+k) p.2:=by
   rcases ho.2 with⟨hv,hn⟩ | ⟨b,n6,nk,hv,_⟩
   ·exact⟨(none,0),by rw[hv,hn]⟩
   ·exact⟨(some ⟨b,0,none⟩,n6),by rw[hv]⟩
  refine⟨p,w',?_,trivial,?_⟩
  ·simp[execOp,h.eval hx,h.eval hy,resolve,invoke,builtin,hr]
  ·refine(h.hp.front hm).upd (x:=row (.slice ao m' cap) e inf.size cs) (y:=row (.slice p.1 (m'+k) p.2) e inf.size (cs++vo)) .here By.os ⟨By.tape,hdr⟩ By.output By.size ?_ ⟨_,ho⟩ ?_
   ·intro j hj Es
    refine By.block j hj (fun hc=>Es ?_)
    simp[row,<- hc]
   ·intro b hb
    have hb':(Value.slice p.1 (m'+k) p.2).ownBlock=some b:=by simpa [row] using hb
    refine⟨(ho.lt b hb').2,?_⟩
    rcases xE b hb' with h2 | h2
    ·exact .inl (by simp[row,h2])
    ·exact .inr h2
theorem Hp.rowShort{b:Nat}(hm:Pick L (row (.slice (some ⟨b,0,none⟩) m cap) e sz cs) R)(hi:i<=m)(h:Hp F Ny w L):Hp F Ny w (row (.slice (some ⟨b,0,none⟩) i cap) e sz (cs.take (i*sz))::R):=by
 have xQ:=(h.rowShape hm).1
 refine(h.front hm).upd (x:=row (.slice (some ⟨b,0,none⟩) m cap) e sz cs) (y:=row (.slice (some ⟨b,0,none⟩) i cap) e sz (cs.take (i*sz))) .here rfl ⟨rfl,Nat.le_refl _⟩ rfl (Nat.le_refl _) (fun _ _ _=>rfl) ?_ ?_
 ·obtain⟨m',iF⟩:=h.ok _ hm.mem
  rcases iF.2 with⟨zK,_⟩ | ⟨b0,n6,nk,zK,Bi,Du,Al,zn,zR,Ar⟩
  ·cases zK
  injection zK with e1 e2 e3
  injection e1 with e1
  injection e1 with e1
  subst e1 e2 e3
  have hmi:i*sz<=m*sz:=Nat.mul_le_mul_right _ hi
  refine⟨i,by simp;omega,.inr ⟨b,cap,nk,rfl,Bi,Du,by omega,zn,zR,?_⟩⟩
  rw[<- Ar,List.take_take];congr 1;omega
 ·intro b' hb'
  simp[row,Value.ownBlock] at hb'
  subst hb'
  have:=h.lt _ hm.mem b' (by simp[row,Value.ownBlock])
  exact⟨this,.inl (by simp[row,Value.ownBlock])⟩
theorem QS{b j:Nat}(ht:elT P t e sz tj)(hx:eo env x=some (.slice (some ⟨b,0,none⟩) i cap))(hy:eo env y=some (.slice bo (m-j) pA))(hbo:m-j≠0->bo=some (Addr.add ⟨b,0,none⟩ (j*sz)))(hm:Pick L (row (.slice (some ⟨b,0,none⟩) m cap) e sz cs) R)(hij:i<=j)(hjm:j<=m)(h1:∀ u∈cs,u.oneCell'=true)(w8:m*tj<=140737488355328):
  Ef P n F Ny env L ⟨d,.call ⟨.builtin .append,#[x,y],#[t,t]⟩,dty,pos,after,g⟩ (fun _:Option Addr×Nat=>True) (fun p => .slice p.1 (i+(m-j)) p.2) (fun p=>row (.slice p.1 (i+(m-j)) p.2) e sz (cs.take (i*sz)++cs.drop (j*sz))::R):=by
 intro a w h
 obtain⟨xQ,AW,D8,_⟩:=h.hp.rowShape hm
 have hs:=h.world (h.hp.rowShort hm (show i<=m by omega))
 have kM:(cs.drop (j*sz)).length=(m-j)*sz:=by rw[List.length_drop,xQ,<- Nat.sub_mul]
 refine Kr hs ht hx hy .here kM (fun qA=>?_) (fun u hu=>h1 u (List.mem_of_mem_drop hu)) (by omega) (Nat.le_trans (Nat.mul_le_mul_right _ (by omega)) w8)
 have hk:m-j≠0:=by
  intro hz;rw[hz,Nat.zero_mul] at kM;exact qA (List.eq_nil_of_length_eq_zero kM)
 refine⟨_,hbo hk,fun q u hu=>?_⟩
 obtain⟨m',iF⟩:=h.hp.ok _ hm.mem
 rw[Addr.pn]
 rw[List.getElem?_drop] at hu
 exact iF.cells (g:=b) rfl _ _ hu
theorem Hp.rowLong{b len:Nat}(h1:len<=m)(h2:m<=cap)(h:Hp F Ny w (row (.slice (some ⟨b,0,none⟩) len cap) e sz cs::R)):
  ∃ tl:List Value,Hp F Ny w (row (.slice (some ⟨b,0,none⟩) m cap) e sz (cs++tl)::R):=by
 have hm:Pick (row (.slice (some ⟨b,0,none⟩) len cap) e sz cs::R) (row (.slice (some ⟨b,0,none⟩) len cap) e sz cs) R := .here
 have xQ:=(h.rowShape hm).1
 obtain⟨m',iF⟩:=h.ok _ hm.mem
 rcases iF.2 with⟨zK,_⟩ | ⟨b0,n6,nk,zK,Bi,Du,Al,zn,zR,Ar⟩
 ·cases zK
 injection zK with e1 e2 e3
 injection e1 with e1
 injection e1 with e1
 subst e1 e2 e3
 have h3:len*sz<=m*sz:=Nat.mul_le_mul_right _ h1
 have h4:m*sz<=cap*sz:=Nat.mul_le_mul_right _ h2
 have key:cs++(nk.toList.drop (len*sz)).take (m*sz-len*sz)=nk.toList.take (m*sz):=by
  rw[<- Ar,<- List.take_add];congr 1;omega
 refine⟨(nk.toList.drop (len*sz)).take (m*sz-len*sz),?_⟩
 refine(h.front hm).upd (x:=row (.slice (some ⟨b,0,none⟩) len cap) e sz cs) (y:=row (.slice (some ⟨b,0,none⟩) m cap) e sz _) .here rfl ⟨rfl,Nat.le_refl _⟩ rfl (Nat.le_refl _) (fun _ _ _=>rfl) ?_ ?_
 ·refine⟨m,?_,.inr ⟨b,cap,nk,rfl,Bi,Du,h2,zn,zR,key.symm⟩⟩
  rw[key,List.length_take,Array.length_toList,zR];omega
 ·intro b' hb'
  simp[row,Value.ownBlock] at hb'
  subst hb'
  have:=h.lt _ hm.mem b' (by simp[row,Value.ownBlock])
  exact⟨this,.inl (by simp[row,Value.ownBlock])⟩
theorem Gv{b j:Nat}(ht:elT P t e sz tj)(hx:eo env x=some (.slice (some ⟨b,0,none⟩) i cap))(hy:eo env y=some (.slice bo (m-j) pA))(hbo:m-j≠0->bo=some (Addr.add ⟨b,0,none⟩ (j*sz)))(hm:Pick L (row (.slice (some ⟨b,0,none⟩) m cap) e sz cs) R)(hij:i<=j)(hjm:j<=m)(h1:∀ u∈cs,u.oneCell'=true)(w8:m*tj<=140737488355328):
  Ef P n F Ny env L ⟨d,.call ⟨.builtin .append,#[x,y],#[t,t]⟩,dty,pos,after,g⟩ (fun _:List Value=>True) (fun _ => .slice (some ⟨b,0,none⟩) (i+(m-j)) cap)
   (fun tl=>row (.slice (some ⟨b,0,none⟩) m cap) e sz (cs.take (i*sz)++cs.drop (j*sz)++tl)::R):=by
 intro a w h
 obtain⟨xQ,AW,D8,_⟩:=h.hp.rowShape hm
 obtain⟨p,w',hr,_,hp⟩:=QS (d:=d) (dty:=dty) (pos:=pos) (after:=after) (g:=g) ht hx hy hbo hm hij hjm h1 w8 a w h
 have kM:(cs.drop (j*sz)).length=(m-j)*sz:=by rw[List.length_drop,xQ,<- Nat.sub_mul]
 obtain⟨m',iF⟩:=h.hp.ok _ hm.mem
 have DH:=iF.cells (g:=b) rfl
 obtain⟨inf,z,BA,hz,lp,hb,B7⟩:=ht.inf
 have jA:∃ rg,(execOp a.eval ⟨d,.call ⟨.builtin .append,#[x,y],#[t,t]⟩,dty,pos,after,g⟩).run P w = .ok (.value (.slice (some ⟨b,0,none⟩) (i+(m-j)) cap)) rg:=by
  by_cases hk:m-j=0
  ·rw[hk] at hy ⊢
   have ze:i<=cap:=by omega
   refine⟨w,?_⟩
   cases bo <;> simp[execOp,h.eval hx,h.eval hy,resolve,invoke,builtin,Builtin.append_,run_underlying ht.sl,Go.sizeOf,typeInfo,BA,Builtin.lenOf,Builtin.firstCells,ze,loadCells,loadCellsFrom,storeCells]
  ·rcases iF.2 with⟨zK,_⟩ | ⟨b0,n6,nk,zK,Bi,Du,Al,zn,zR,Ar⟩
   ·cases zK
   injection zK with e1 e2 e3
   injection e1 with e1
   injection e1 with e1
   subst e1 e2 e3
   have hbo':=hbo hk
   subst hbo'
   subst lp
   have xW:i*inf.size+(cs.drop (j*inf.size)).length<=nk.size:=by rw[kM,zR,<- Nat.add_mul];exact Nat.mul_le_mul_right _ (by omega)
   have hq:=run_append_room (P:=P) w t dty e inf ht.sl BA b i cap nk Du (Addr.add ⟨b,0,none⟩ (j*inf.size)) (m-j) pA (cs.drop (j*inf.size)) kM (fun q u hu=>by
    rw[Addr.pn]
    rw[List.getElem?_drop] at hu
    exact DH _ _ hu) (fun u hu=>h1 u (List.mem_of_mem_drop hu)) (by omega) xW
   obtain⟨w2,Eg⟩:∃ w2,(Builtin.append_ #[t,t] dty #[.slice (some ⟨b,0,none⟩) i cap,.slice (some (Addr.add ⟨b,0,none⟩ (j*inf.size))) (m-j) pA]).run P w = .ok (.slice (some ⟨b,0,none⟩) (i+(m-j)) cap) w2:=⟨_,hq⟩
   exact⟨w2,by simp[execOp,h.eval hx,h.eval hy,resolve,invoke,builtin,Eg]⟩
 obtain⟨rg,BF⟩:=jA
 rw[hr] at BF
 injection BF with e1 e2
 injection e1 with e1
 injection e1 with e3 _ e4
 dsimp only at hp hr
 rw[e3,e4] at hp hr
 obtain⟨tl,Em⟩:=hp.rowLong (m:=m) (by omega) AW
 exact⟨tl,w',hr,trivial,Em⟩
theorem MA{ao:Option Addr}{k1 k2 k3:IntKind}{lo hi mx:Int}{lx hx' mx':Operand}(ht:elT P t e sz tj)(hx:eo env x=some (.slice ao m cap))(hl:eo env lx=some (.int k1 lo))(hh:eo env hx'=some (.int k2 hi))(hm:eo env mx'=some (.int k3 mx))(h0:0<=lo)(h1:lo<=hi)(h2:hi<=mx)(h3:mx<=(cap:Int)):
  Qt P n F Ny env L ⟨d,.slice t x (some lx) (some hx') (some mx'),ty,pos,after,g⟩ (.slice (if mx.toNat=lo.toNat then ao else ao.map (·.add (lo.toNat*sz))) (hi.toNat-lo.toNat) (mx.toNat-lo.toNat)):=by
 intro a w h
 obtain⟨inf,z,BA,hz,lp,hb,B7⟩:=ht.inf
 have q1:hi<=((mx.toNat:Nat):Int):=by omega
 have q2:lo<=((hi.toNat:Nat):Int):=by omega
 have q3:0<=hi:=by omega
 have q4:0<=mx:=by omega
 simp[execOp,h.eval hx,h.eval hl,h.eval hh,h.eval hm,Instr.sliceAt,Instr.slice,Instr.sliceBounds,Instr.sliceBound,run_underlying ht.sl,Go.sizeOf,typeInfo,BA,lp,asIntOf,h0,h3,q1,q2,q3,q4]
 rw[if_pos (by omega),if_pos (by omega)]
end
end
section
section
variable [Rnd] {P:Program} {n:Nat} {F:List Nat} {Ny:World} {eA:Array Oper} {tl:Nat->Bool} {Ls:List Asrt} {fuel:Nat} {listed:Array Bool}
 {env:List (Nat×Value)} {L:List Asrt} {o:Oper} {QD:Act->World->Prop} {v:Value} {d i:Nat}
theorem vY.quiet(hi:eA[i]?=some o)(hg:gd env eA o=some true)(hd:o.dst=some d)(ll:Nat.blt d n=true)(ni:tl i=true->wJ L Ls)(hq:∀ a w,SS n F Ny env L a w->(execOp a.eval o).run P w = .ok (.value v) w)(k:WD P n F Ny eA tl Ls QD fuel (listed.setIfInBounds i true) ((d,v)::env) L):vY P n F Ny eA tl Ls QD fuel listed env L i:=
 vY.forced (G:=Unit) (φ:=fun _=>True) (val:=fun _=>v) (L':=fun _=>L) hi hg hd ll (fun a w h=>⟨(),w,hq a w h,trivial,h.hp,fun _=>Ext.refl w⟩) (fun ht _=>ni ht) (fun _ _=>k)
end
end
section
variable {cs:List Value}
def fq(v:Value):List Value:=[v]
theorem bV:∀ l:List Value,l.flatMap fq=l
 | []=>rfl
 | v::l=>by rw[List.flatMap_cons,bV l];rfl
section
variable {κ α:Type}
inductive RM (Pr:List Value->α->Prop):List (κ×List Value)->List (κ×List α)->Prop
 | nil:RM Pr [] []
 | cons {k:κ} {cs:List Value} {x:List α} {lc:List (κ×List Value)} {l:List (κ×List α)} (h:RR 1 Pr cs x) (t:RM Pr lc l):RM Pr ((k,cs)::lc) ((k,x)::l)
variable {Pr Pr':List Value->α->Prop} {lc:List (κ×List Value)} {l:List (κ×List α)}
theorem RM.weak(h:RM Pr lc l)(k:∀ r x,Pr r x->Pr' r x):RM Pr' lc l:=by
 induction h with
 | nil=>exact .nil
 | cons h _ ih=>exact .cons (h.weak k) ih
theorem RR.slv{ao:Option Addr}{cap:Nat}{cs:List Value}{x:List α}(h:RR 1 Pr cs x):slv ((ao,cap),cs) = .slice ao x.length cap:=by
 have:=h.len
 unfold Sep.slv
 simp only
 rw[this,Nat.mul_one]
variable [DecidableEq κ]
theorem RM.get(h:RM Pr lc l)(k:κ):RR 1 Pr (xK lc k []) (xK l k []):=by
 induction h with
 | nil=>exact RR.nil _ _
 | @cons k' cs x lc l h t ih=>
  unfold xK
  by_cases e:k=k'
  ·simp only[e,if_true];exact h
  ·simp only[e,if_false];exact ih
theorem RM.put(h:RM Pr lc l)(k:κ){x:List α}(hr:RR 1 Pr cs x):RM Pr (w7 lc k cs) (w7 l k x):=by
 induction h with
 | nil=>exact .cons hr .nil
 | @cons k' cs' x' lc l h t ih=>
  unfold w7
  by_cases e:k=k'
  ·simp only[e,if_true];exact .cons hr t
  ·simp only[e,if_false];exact .cons h ih
variable {lg:List (κ×((Nat×(Option Addr×Nat))×List Value))}
theorem RM.putD{g:Option Addr×Nat}(h:RM Pr (mP lg) l)(k:κ){x:List α}(hr:RR 1 Pr cs x):RM Pr (mP (w7 lg k ((0,g),cs))) (w7 l k x):=by
 rw[lG rfl];exact h.put k hr
variable {F:List Nat} {Ny w:World} {L R:List Asrt} {e:TypeId}
theorem Hp.Gw(k:κ)(hm:RM Pr (mP lg) l)(hp:Pick L (wM (qX e 1 fq) lg) R)(h:Hp F Ny w L):
  ∃ g:(Option Addr×Nat)×List Value,(xK (jP lg) k ((none,0),[])=g/\RR 1 Pr g.2 (xK l k []))/\Hp F Ny w (row (.slice g.1.1 (xK l k []).length g.1.2) e 1 g.2::wM (qX e 1 fq) (uv k lg)::R):=by
 obtain⟨g,h1,h2⟩:=Hp.bU k rfl hp h
 have h3:=hm.get k
 refine⟨(g,xK (mP lg) k []),⟨h1,h3⟩,?_⟩
 rw[bV] at h2
 have h4:=h3.len
 rw[Nat.mul_one] at h4
 rw[h4] at h2
 exact h2
theorem Hp.Kt{k:κ}{ao:Option Addr}{cap m:Nat}(hl:m=cs.length)(hs:Sel L [row (.slice ao m cap) e 1 cs,wM (qX e 1 fq) (uv k lg)] R)(h:Hp F Ny w L):
  Hp F Ny w (wM (qX e 1 fq) (w7 lg k ((0,(ao,cap)),cs))::R):=by
 subst hl
 refine Hp.W3 (enc:=fq) (x:=cs) ?_ h
 rw[bV];exact hs
theorem RR.len1{x:List α}(h:RR 1 Pr cs x):x.length=cs.length:=by
 have:=h.len;omega
end
end
section
section
variable {α:Type}
def W4(Z:Zp)(Pr:List Value->α->Prop)(ao:Option Addr)(cap:Nat)(l:List α):Prop:=∃ l':List α,l'.Perm l/\ZS Z 1 Pr ao cap l'
theorem W4.up{Z Z':Zp}{Pr Pr':List Value->α->Prop}{ao:Option Addr}{cap:Nat}{l:List α}(h:W4 Z Pr ao cap l)(k:xF Z Z')(hw:∀ r x,Pr r x->Pr' r x):W4 Z' Pr' ao cap l:=
 let ⟨l',h1,h2⟩:=h;⟨l',h1,(h2.mono k).weak hw⟩
theorem W4.of{Z:Zp}{Pr:List Value->α->Prop}{ao:Option Addr}{cap:Nat}{l:List α}(h:ZS Z 1 Pr ao cap l):W4 Z Pr ao cap l:=⟨l,.refl _,h⟩
inductive RG {κ:Type} (Z:Zp) (Pr:List Value->α->Prop):List (κ×((Option Addr×Nat)×List Value))->List (κ×List α)->Prop
 | nil:RG Z Pr [] []
 | cons {k:κ} {ao:Option Addr} {cap:Nat} {cs:List Value} {x:List α} {lg:List (κ×((Option Addr×Nat)×List Value))} {l:List (κ×List α)} (hl:x.length=cs.length) (h:ZS Z 1 Pr ao cap x) (t:RG Z Pr lg l):RG Z Pr ((k,((ao,cap),cs))::lg) ((k,x)::l)
variable {κ:Type} {Z Z':Zp} {Pr Pr':List Value->α->Prop} {lg:List (κ×((Option Addr×Nat)×List Value))} {l:List (κ×List α)}
theorem RG.up(h:RG Z Pr lg l)(k:xF Z Z')(hw:∀ r x,Pr r x->Pr' r x):RG Z' Pr' lg l:=by
 induction h with
 | nil=>exact .nil
 | cons hl h _ ih=>exact .cons hl ((h.mono k).weak hw) ih
theorem RG.len(h:RG Z Pr lg l):l.length=lg.length:=by
 induction h with
 | nil=>rfl
 | cons _ _ _ ih=>simp[ih]
theorem RG.at(h:RG Z Pr lg l):∀ {i:Nat} {y:κ×((Option Addr×Nat)×List Value)},lg[i]?=some y->∃ x,l[i]?=some (y.1,x)/\x.length=y.2.2.length/\ZS Z 1 Pr y.2.1.1 y.2.1.2 x/\RG Z Pr (lg.eraseIdx i) (l.eraseIdx i):=by
 induction h with
 | nil=>intro i y h;simp at h
 | @cons k ao cap cs x lg l hl hz t ih=>
  intro i y h
  cases i with
  | zero=>
   simp only[List.getElem?_cons_zero,Option.some.injEq] at h
   subst h
   exact⟨x,by simp,hl,hz,by simpa using t⟩
  | succ i=>
   rw[List.getElem?_cons_succ] at h
   obtain⟨x',h1,h2,h3,h4⟩:=ih h
   exact⟨x',by simpa using h1,h2,h3,by simpa using RG.cons hl hz h4⟩
theorem W5{β:Type}:∀ {l:List β} {i:Nat} {x:β},l[i]?=some x->(x::l.eraseIdx i).Perm l
 | [],i,x,h=>by simp at h
 | a::l,0,x,h=>by
  simp only[List.getElem?_cons_zero,Option.some.injEq] at h
  subst h;simp
 | a::l,i+1,x,h=>by
  rw[List.getElem?_cons_succ] at h
  rw[List.eraseIdx_cons_succ]
  exact(List.Perm.swap _ _ _).trans ((W5 h).cons a)
end
section
variable {κ α:Type} {F:List Nat} {Ny w:World} {R:List Asrt} {e:TypeId} {Z:Zp} {Pr:Zp->List Value->α->Prop}
theorem Hp.nZ(mono:∀ {Z Z':Zp},xF Z Z'->∀ {r x},Pr Z r x->Pr Z' r x)(hp:PZ F Ny Z):∀(lg:List (κ×((Nat×(Option Addr×Nat))×List Value))) (l:List (κ×List α)) (Zn:Zp),RM (Pr (Z++Zn)) (mP lg) l->Hp F Ny w (wM (qX e 1 fq) lg::fz Zn::R)->
  ∃ nj,xF (Z++Zn) (Z++nj)/\RG (Z++nj) (Pr (Z++nj)) (jP lg) l/\Hp F Ny w (fz nj::R)
 | [],l,Zn,hm,h=>by
  cases hm
  refine⟨Zn,xF.refl _,.nil,?_⟩
  have h1:=Hp.open_ h
  simpa using h1
 | (k,((n,(ao,cap)),cs))::lg,l,Zn,hm,h=>by
  cases hm with
  | @cons _ _ x _ l hr t=>
  have h1:=Hp.open_ h
  rw[List.flatMap_cons] at h1
  have hl:=RR.len1 hr
  have h2:Hp F Ny w (row (.slice ao x.length cap) e 1 cs::fz Zn::((lg.flatMap fun p=>qX e 1 fq p.2.1 p.2.2)++R)):=by
   refine h1.perm ?_
   show([row (.slice ao cs.length cap) e 1 (cs.flatMap fq)]++(lg.flatMap fun p=>qX e 1 fq p.2.1 p.2.2)++fz Zn::R).Perm _
   rw[bV,hl,List.append_assoc,List.singleton_append]
   exact(List.perm_middle).cons _
  obtain⟨Zn1,k1,k2,k3⟩:=Hp.freezeS (Z:=Z) .here .here hp hr h2
  have h3:Hp F Ny w (wM (qX e 1 fq) lg::fz Zn1::R):=Hp.pq (k3.perm List.perm_middle.symm)
  obtain⟨Zn2,j1,j2,j3⟩:=Hp.nZ mono hp lg l Zn1 (t.weak fun _ _ h=>mono k1 h) h3
  exact⟨Zn2,k1.trans j1,.cons hl ((k2.mono j1).weak fun _ _ h=>mono (k1.trans j1) h) j2,j3⟩
end
section
variable [Rnd]
variable {P:Program} {n:Nat} {F:List Nat} {Ny:World} {env:List (Nat×Value)} {L R:List Asrt} {d:Option Tmp} {ty:TypeId} {pos:String} {after:Array Edge} {g:Option (Nat×Bool)} {x y z:Operand} {t kt e:TypeId}
 {κ α:Type} [DecidableEq κ] {ek:κ->Value} {ev:α->Value} {l:List (κ×α)} {b:Nat} {k:κ} {dflt:α} {zv:Value} {Z:Zp}
theorem Gx{w:World}(K:KeyT P kt ek)(ht:P.underlying t=some (.map kt e))(hz:qz P e zv)(hd:zv=ev dflt)(hk:(xP b ek ev l).ok w):
  (Instr.lookup t (.map (some b)) (ek k) false).run P w = .ok (ev (xK l k dflt)) w:=by
 obtain⟨es,jh,hb,he,ni⟩:=hk
 have h1:=K.find k es.toList (l.map (·.1)) w (cx he)
 have h2:=ii (ek:=ek) (ev:=ev) (k:=k) (d:=dflt) l es.toList he
 have DB:=congrFun hz w
 simp only[Instr.lookup,Sem.run_bind,run_underlying ht,Result.andThen,MapKept.run_getObj_map hb,K.chk]
 cases hf:(l.map (·.1)).findIdx? (fun k'=>decide (k=k')) with
 | none=>rw[hf] at h1 h2;simp only[Option.map_none] at h1 h2;simp[h1,DB,hd,h2]
 | some i=>rw[hf] at h1 h2;simp only[Option.map_some,Array.getElem?_toList] at h1 h2;simp[h1,h2]
theorem Fk(K:KeyT P kt ek)(ht:P.underlying t=some (.map kt e))(hz:qz P e zv)(hd:zv=ev dflt)(hx:eo env x=some (.map (some b)))(hy:eo env y=some (ek k))(pv:PV F Ny L Z)(hA:ZA Z (xP b ek ev l)):
  Qt P n F Ny env L ⟨d,.lookup t x y false,ty,pos,after,g⟩ (ev (xK l k dflt)):=by
 intro a w h
 simp[execOp,h.eval hx,h.eval hy,Gx K ht hz hd (hA w (pv w h.hp))]
end
end
end Sep

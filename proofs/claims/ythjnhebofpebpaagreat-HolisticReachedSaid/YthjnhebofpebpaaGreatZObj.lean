/- A part of this claim's proof: models of functions, walks, plain laws. No conditions. -/
import Derived.Test.YthjnhebofpebpaaGreatZMem
set_option linter.all false
namespace Sep
open Go Go.RowKit
section
variable {κ α β:Type}
section wH
variable {κ β α γ:Type} [DecidableEq κ]
def jK(lg:List (κ×((Nat×β)×α))):List (κ×Option Addr):=lg.map fun p=>(p.1,some ⟨p.2.1.1,0,none⟩)
def mM(lg:List (κ×((Nat×β)×α))):List (κ×α):=lg.map fun p=>(p.1,p.2.2)
def uo(k:κ):List (κ×γ)->List (κ×γ)
 | []=>[]
 | p::l=>if k=p.1 then l else p::uo k l
def wH(els:Nat×β->α->List Asrt)(lg:List (κ×((Nat×β)×α))):Asrt:=qs (lg.flatMap fun p=>els p.2.1 p.2.2)
theorem Vf(k:κ)(v:γ):∀ lg:List (κ×γ),(w6 lg k v).Perm ((k,v)::uo k lg)
 | [] => .refl _
 | p::l=>by
  unfold w6 uo
  by_cases hk:k=p.1
  ·subst hk;simp only[if_true];exact .refl _
  ·simp only[hk,if_false]
   exact((Vf k v l).cons p).trans (.swap _ _ _)
theorem bI(k:κ):∀ lg:List (κ×γ),vH lg k=true->∃ v,(∀ d,xI lg k d=v)/\lg.Perm ((k,v)::uo k lg)
 | [],h=>by simp[vH] at h
 | p::l,h=>by
  unfold vH at h
  unfold uo
  by_cases hk:k=p.1
  ·subst hk;exact⟨p.2,fun d=>by simp[xI],by simp⟩
  ·simp only[hk,if_false] at h ⊢
   obtain⟨v,h1,h2⟩:=bI k l h
   exact⟨v,fun d=>by unfold xI;simp[hk,h1 d],(h2.cons p).trans (.swap _ _ _)⟩
theorem Qu(k:κ):∀ lg:List (κ×γ),∃ l1,lg.Perm (l1++uo k lg)
 | []=>⟨[],.refl _⟩
 | p::l=>by
  unfold uo
  by_cases hk:k=p.1
  ·exact⟨[p],by simp[hk]⟩
  ·obtain⟨l1,h⟩:=Qu k l
   simp only[hk,if_false]
   exact⟨l1,(h.cons p).trans List.perm_middle.symm⟩
theorem Vg(lg:List (κ×((Nat×β)×α)))(k:κ)(b:Nat)(g:β)(x:α):jK (w6 lg k ((b,g),x))=w6 (jK lg) k (some ⟨b,0,none⟩):=by
 induction lg with
 | nil=>rfl
 | cons p l ih=>
  unfold jK at ih ⊢
  rw[List.map_cons]
  unfold w6
  by_cases hk:k=p.1
  ·simp[hk]
  ·simp only[hk,if_false,List.map_cons,ih]
theorem lC{lg:List (κ×((Nat×β)×α))}{l:List (κ×α)}(h:mM lg=l)(k:κ)(g:Nat×β)(x:α):mM (w6 lg k (g,x))=w6 l k x:=by
 subst h
 induction lg with
 | nil=>rfl
 | cons p l ih=>
  unfold mM at ih ⊢
  rw[List.map_cons]
  unfold w6
  by_cases hk:k=p.1
  ·simp[hk]
  ·simp only[hk,if_false,List.map_cons,ih]
theorem Mj{lg:List (κ×((Nat×β)×α))}(k:κ):vH (mM lg) k=vH lg k:=by
 induction lg with
 | nil=>rfl
 | cons p l ih=>unfold mM at ih ⊢;rw[List.map_cons];unfold vH;by_cases hk:k=p.1 <;> simp[hk,ih]
theorem Qv{lg:List (κ×((Nat×β)×α))}(k:κ)(d:α)(g:Nat×β):xI (mM lg) k d=(xI lg k (g,d)).2:=by
 induction lg with
 | nil=>rfl
 | cons p l ih=>unfold mM at ih ⊢;rw[List.map_cons];unfold xI;by_cases hk:k=p.1 <;> simp[hk,ih]
theorem Yy{lg:List (κ×((Nat×β)×α))}{l:List (κ×α)}(h:mM lg=l)(k:κ):(xI (jK lg) k none).isNone = !vH l k:=by
 subst h
 induction lg with
 | nil=>rfl
 | cons p l ih=>unfold jK mM at ih ⊢;rw[List.map_cons,List.map_cons];unfold xI vH;by_cases hk:k=p.1 <;> simp[hk,ih]
section hp
variable {F:List Nat} {Nx w:World} {L R R':List Asrt} {els:Nat×β->α->List Asrt} {lg:List (κ×((Nat×β)×α))} {l:List (κ×α)}
theorem Hp.eE(els:Nat×β->α->List Asrt)(h:Hp F Nx w L):Hp F Nx w (wH (κ:=κ) els []::L):=Hp.pq (M:=[]) h
theorem oS{δ:Type}{f:δ->List Asrt}{a b:List δ}(h:a.Perm b):(a.flatMap f).Perm (b.flatMap f):=List.Perm.flatMap_right f h
theorem Hp.K2[Inhabited α]{k:κ}(hm:mM lg=l)(hk:vH l k=true)(hp:Pick L (wH els lg) R)(L':Nat×β->List Asrt)(he:∀ g,els g (xI l k default)++wH els (uo k lg)::R=L' g)(h:Hp F Nx w L):∃ g:Nat×β,xI (jK lg) k none=some ⟨g.1,0,none⟩/\Hp F Nx w (L' g):=by
 subst hm
 have vQ:vH lg k=true:=by rw[<- Mj];exact hk
 obtain⟨v,h1,h2⟩:=bI k lg vQ
 refine⟨v.1,?_,?_⟩
 ·have h3:=Yy (lg:=lg) rfl k
  rw[hk] at h3
  clear h3 hk h2 hp h he
  induction lg with
  | nil=>simp[vH] at vQ
  | cons p l ih=>
   unfold jK at ih ⊢
   rw[List.map_cons]
   unfold vH at vQ
   have Bs:=h1
   unfold xI at Bs ⊢
   by_cases hk:k=p.1
   ·simp only[hk,if_true] at Bs ⊢;rw[Bs p.2]
   ·simp only[hk,if_false] at Bs vQ ⊢;exact ih vQ (fun d=>Bs d)
 ·rw[<- he]
  have h3:xI (mM lg) k default=v.2:=by rw[Qv k default v.1,h1]
  rw[h3]
  have h4:=h.pickAll hp
  have h5:=h4.perm ((oS (f:=fun p:κ×((Nat×β)×α)=>els p.2.1 p.2.2) h2).append_right R)
  rw[List.flatMap_cons,List.append_assoc] at h5
  have h6:Hp F Nx w (((uo k lg).flatMap fun p=>els p.2.1 p.2.2)++(els v.1 v.2++R)):=h5.perm (by
   rw[<- List.append_assoc,<- List.append_assoc];exact List.perm_append_comm.append_right R)
  have h7:=Hp.pq h6
  exact h7.perm List.perm_middle.symm
theorem Hp.objsClose{k:κ}{b:Nat}{g:β}{x:α}(hs:Sel L (els (b,g) x++[wH els (uo k lg)]) R)(h:Hp F Nx w L):Hp F Nx w (wH els (w6 lg k ((b,g),x))::R):=by
 have h1:=(h.selAll hs).open_
 have h2:Hp F Nx w (wH els (uo k lg)::(els (b,g) x++R)):=h1.perm (by
  rw[List.append_assoc];exact List.perm_middle)
 have h3:=Hp.open_ h2
 refine Hp.pq (h3.perm ?_)
 refine List.Perm.trans ?_ ((oS (f:=fun p:κ×((Nat×β)×α)=>els p.2.1 p.2.2) (Vf k ((b,g),x) lg).symm).append_right R)
 rw[List.flatMap_cons,List.append_assoc]
 rw[<- List.append_assoc,<- List.append_assoc]
 exact List.perm_append_comm.append_right R
theorem Hp.objsRem(k:κ)(hp:Pick L (wH els lg) R)(h:Hp F Nx w L):Hp F Nx w (wH els (uo k lg)::R):=by
 obtain⟨l1,h1⟩:=Qu k lg
 have h2:=(h.pickAll hp).perm ((oS (f:=fun p:κ×((Nat×β)×α)=>els p.2.1 p.2.2) h1).append_right R)
 rw[List.flatMap_append,List.append_assoc] at h2
 refine Hp.pq ?_
 exact⟨h2.os,h2.tape,h2.output,h2.size,h2.block,fun x hx=>h2.ok x (List.mem_append_right _ hx),fun x hx=>h2.lt x (List.mem_append_right _ hx),fun x hx=>h2.ow x (List.mem_append_right _ hx),(List.pairwise_append.1 h2.sep).2.1⟩
theorem Hp.G9{k:κ}{b:Nat}{g:β}{x:α}(hp:Pick L (wH els lg) R')(hs:Sel R' (els (b,g) x) R)(h:Hp F Nx w L):Hp F Nx w (wH els (w6 lg k ((b,g),x))::R):=by
 have h1:=h.objsRem k hp
 have h2:Hp F Nx w (els (b,g) x++[wH els (uo k lg)]++R):=by
  have:(wH els (uo k lg)::R').Perm (els (b,g) x++[wH els (uo k lg)]++R):=by
   rw[List.append_assoc]
   exact((hs.perm).cons _).trans List.perm_middle.symm
  exact h1.perm this
 exact h2.objsClose (R:=R) (by
  have:∀(A B:List Asrt),Sel (A++B) A B:=by
   intro A B
   induction A with
   | nil=>exact .nil
   | cons a A ih=>exact .cons .here ih
  exact this _ _)
end hp
end wH
theorem bJ{κ γ:Type}[DecidableEq κ]{k:κ}{v d:γ}:∀ {l:List (κ×γ)},vH l k=true->xI l k d=v->w6 l k v=l
 | [],h,_=>by simp[vH] at h
 | p::l,h,hv=>by
  unfold vH at h
  unfold xI at hv
  unfold w6
  by_cases hk:k=p.1
  ·subst hk;simp only[if_true] at hv ⊢;subst hv;rfl
  ·simp only[hk,if_false] at h hv ⊢;rw[bJ h hv]
theorem GX[DecidableEq κ]{lg:List (κ×((Nat×β)×α))}{l:List (κ×α)}(h:mM lg=l)(k:κ):vH (jK lg) k=vH l k:=by
 subst h
 induction lg with
 | nil=>rfl
 | cons p l ih=>unfold jK mM at ih ⊢;rw[List.map_cons,List.map_cons];unfold vH;by_cases hk:k=p.1 <;> simp[hk,ih]
theorem Ga[DecidableEq κ]{lg:List (κ×((Nat×β)×α))}{l:List (κ×α)}{k:κ}{b:Nat}(hm:mM lg=l)(hk:vH l k=true)(hp:xI (jK lg) k none=some ⟨b,0,none⟩){g:β}{x:α}:
  jK lg=jK (w6 lg k ((b,g),x)):=by
 rw[Vg];exact(bJ (by rw[GX hm];exact hk) hp).symm
theorem Hp.eF{F:List Nat}{Nx w:World}{L R:List Asrt}{b:Nat}{ek:κ->Value}{ev:α->Value}{l l':List (κ×α)}(hm:Pick L (xN b ek ev l) R)(he:l=l')(h:Hp F Nx w L):Hp F Nx w (xN b ek ev l'::R):=by
 subst he;exact h.front hm
section gh
variable [Rnd]
variable {P:Program} {n:Nat} {F:List Nat} {Nx:World} {env:List (Nat×Value)} {L R:List Asrt} {eA:Array Oper} {Q:Exit->Act->World->Prop} {l:List Oper} {G:Type} {φ:G->Prop} {L':G->List Asrt} {M:List Asrt}
theorem Ov(h:∀ w,Hp F Nx w L->∃ g,φ g/\Hp F Nx w (L' g))(k:∀ g,φ g->WL P n F Nx eA Q l env (L' g)):WL P n F Nx eA Q l env L:=fun a w hs=>by
 obtain⟨g,h1,h2⟩:=h w hs.hp;exact k g h1 a w (hs.world h2)
theorem Bk(h:∀ w,Hp F Nx w L->Hp F Nx w M)(k:WL P n F Nx eA Q l env M):WL P n F Nx eA Q l env L:=fun a w hs=>k a w (hs.world (h w hs.hp))
theorem Rm{c:Code}(h:∀ w,Hp F Nx w L->Hp F Nx w M)(k:WC P n F Nx Q c env M):WC P n F Nx Q c env L:=fun a w hs=>k a w (hs.world (h w hs.hp))
theorem Py{e:Exit}(h:∀ w,Hp F Nx w L->Hp F Nx w M)(k:WX n F Nx Q e env M):WX n F Nx Q e env L:=fun a w hs=>k a w (hs.world (h w hs.hp))
variable {tl:Nat->Bool} {Ls:List Asrt} {fuel:Nat} {listed:Array Bool} {QD:Act->World->Prop}
theorem Ps(h:∀ w,Hp F Nx w L->∃ g,φ g/\Hp F Nx w (L' g))(k:∀ g,φ g->WD P n F Nx eA tl Ls QD fuel listed env (L' g)):WD P n F Nx eA tl Ls QD fuel listed env L:=fun a w hs=>by
 obtain⟨g,h1,h2⟩:=h w hs.hp;exact k g h1 a w (hs.world h2)
theorem Oc(h:∀ w,Hp F Nx w L->Hp F Nx w M)(k:WD P n F Nx eA tl Ls QD fuel listed env M):WD P n F Nx eA tl Ls QD fuel listed env L:=fun a w hs=>k a w (hs.world (h w hs.hp))
end gh
section ifc
variable [Rnd]
variable {P:Program} {n:Nat} {F:List Nat} {Nx:World} {env:List (Nat×Value)} {L R:List Asrt} {d:Option Tmp} {ty:TypeId} {pos:String} {after:Array Edge} {g:Option (Nat×Bool)} {x y:Operand} {v:Value} {t e T:TypeId}
theorem bL{dd:TypeDesc}(hu:P.underlying t=some dd)(hd:(match dd with | .interface _=>false | _=>true)=true)(hx:eo env x=some v):Qt P n F Nx env L ⟨d,.makeInterface t x,ty,pos,after,g⟩ (.iface t v):=by
 intro a w h
 cases dd <;> simp_all [execOp,h.eval hx,Instr.makeInterface,run_underlying hu]
theorem Qw{dd:TypeDesc}{t':TypeId}(hu:P.underlying T=some dd)(hd:(match dd with | .interface _=>false | _=>true)=true)(hx:eo env x=some (.iface T v)):Qt P n F Nx env L ⟨d,.typeAssert x t' T false,ty,pos,after,g⟩ v:=by
 intro a w h
 cases dd <;> simp_all [execOp,h.eval hx,Instr.typeAssert,run_underlying hu]
theorem XE{f:FuncId}{name:String}{l:List Operand}{vs:List Value}{BE:Array TypeId}(hm:∀ w,(method (P.types.size+Made.depth) T v name).run P w = .ok (f,v) w)(zC:∀ args w,(callFunc f args).run P w = .ok (.enter f args) w)(hx:eo env x=some (.iface T v))(he:Eos env l vs):
  ∀ a w,SS n F Nx env L a w->(execOp a.eval ⟨d,.call ⟨.invoke x name,l.toArray,BE⟩,ty,pos,after,g⟩).run P w = .ok (.enter f (v::vs).toArray) w:=by
 intro a w h
 have h1:=he.map h
 have h2:(Array.map a.eval l.toArray)=vs.toArray:=by rw[<- h1];simp
 simp[execOp,resolve,invoke,h.eval hx,callMethod,run_program,hm w,zC,h2]
theorem uL{f:FuncId}{name:String}{l:List Operand}{vs:List Value}{BE:Array TypeId}{A:Addr}(hm:∀ w,w.cell? A=some v->(method (P.types.size+Made.depth) T (.pointer (some A)) name).run P w = .ok (f,v) w)(zC:∀ args w,(callFunc f args).run P w = .ok (.enter f args) w)[hx:Nu (eo env x) (some (.iface T (.pointer (some A))))](hR:∀ w,Hp F Nx w L->w.cell? A=some v)(he:Eos env l vs):
  ∀ a w,SS n F Nx env L a w->(execOp a.eval ⟨d,.call ⟨.invoke x name,l.toArray,BE⟩,ty,pos,after,g⟩).run P w = .ok (.enter f (v::vs).toArray) w:=by
 intro a w h
 have h1:=he.map h
 have h2:(Array.map a.eval l.toArray)=vs.toArray:=by rw[<- h1];simp
 simp[execOp,resolve,invoke,h.eval hx.1,callMethod,run_program,hm w (hR w h.hp),zC,h2]
theorem eG{i:TypeInfo}{m:Method}{f fuel:Nat}{name:String}{A:Addr}{w:World}(hi:P.info? T=some i)(hf:i.methods.find? (·.name == name)=some m)(hp:m.path = #[])(hfn:m.func=some (f,false))(hu:P.underlying T=some (.pointer e))(he:fm P e)(h:w.cell? A=some v):(method (fuel+1) T (.pointer (some A)) name).run P w = .ok (f,v) w:=by
 have h1:=congrFun he w
 skip
 have hti:∀ w,(typeInfo T).run P w = .ok i w:=fun w=>by simp[typeInfo,run_program,hi]
 have hw:∀ x y:String,Builtin.ssaWrapNilChk_ #[T] T #[.pointer (some A),strVal x,strVal y]=pure (.pointer (some A)):=fun x y=>rfl
 simp only[method,Sem.run_bind,hti,Result.andThen_ok,hf,hp,hfn,Array.isEmpty_empty,if_true]
 simp[follow,receiverAt,run_underlying hu,Place.get,hw,loadVar,h1,asAddr,h]
theorem Ue[DecidableEq κ]{lg:List (κ×((Nat×β)×α))}{l:List (κ×α)}{k:κ}{t':TypeId}(hm:mM lg=l)(ht:P.underlying t=some (.pointer e))(hx:eo env x=some (.pointer (xI (jK lg) k none)))(hy:eo env y=some (.pointer none)):
  Qt P n F Nx env L ⟨d,.binOp .eql t x y t',ty,pos,after,g⟩ (.bool (!vH l k)):=by
 rw[<- Yy hm]
 exact Qk ht hx hy
end ifc
end
section
variable {w:World}{s:Nat}
section ent
variable {κ α:Type} [DecidableEq κ]
def Qx(b:Nat)(ek:κ->Value)(ev:α->Value)(l:List (κ×α))(k:κ)(s:Nat):Asrt where
 fp:=[b]
 ok w:=∃ es eS i e,w.heap[b]?=some (.map es eS)/\es.toList.map (fun e=>(e.key,e.val))=l.map (fun p=>(ek p.1,ev p.2))/\sn es eS/\
  ((l.map (·.1)).findIdx? fun k'=>decide (k=k'))=some i/\es[i]?=some e/\e.born=s
 loc w w' h hl hk:=by
  obtain⟨es,eS,i,e,h1,h2⟩:=hk
  exact⟨es,eS,i,e,by rw[h b (by simp) (hl b (by simp))];exact h1,h2⟩
variable [Rnd]
variable {P:Program} {n:Nat} {F:List Nat} {Nx:World} {env:List (Nat×Value)} {L R:List Asrt} {d:Option Tmp} {ty:TypeId} {pos:String} {after:Array Edge} {g:Option (Nat×Bool)} {x y z:Operand} {t kt e:TypeId}
 {ek:κ->Value} {ev:α->Value} {l:List (κ×α)} {b:Nat} {k:κ} {v dflt:α} {zv:Value}
theorem Hp.setMapG{X Y:Asrt}{o:Obj}(h:Hp F Nx w L)(hm:Pick L X R)(hX:X.fp=[b])(hY:Y.fp=[b])(tg:∀ w',w'.heap[b]?=some o->Y.ok w'):
  Hp F Nx { w with heap:=w.heap.setIfInBounds b o } (Y::R):=by
 have nS:b<w.heap.size:=(h.front hm).lt _ (List.mem_cons_self ..) b (by simp[hX])
 refine(h.front hm).upd (x:=X) (y:=Y) .here rfl ⟨rfl,Nat.le_refl _⟩ rfl (by simp) (fun k _ vQ=>?_) (tg _ (by simp[nS])) ?_
 ·have:b≠k:=fun e=>vQ (by simp[hX,e])
  simp[Array.getElem?_setIfInBounds,this]
 ·intro b' hb'
  rw[hY] at hb'
  simp only[List.mem_singleton] at hb'
  subst hb'
  exact⟨by simpa using nS,.inl (by simp[hX])⟩
theorem Vh{γ:Type}{k:κ}{u v:γ}:∀ {l:List (κ×γ)},w6 (w6 l k u) k v=w6 l k v
 | []=>by simp[w6]
 | p::l=>by
  by_cases hk:k=p.1
  ·subst hk;simp[w6]
  ·simp only[w6,hk,if_false];rw[Vh]
theorem Yz{k:κ}:∀ {l:List κ},(l.findIdx? fun k'=>decide (k=k'))=none->((l++[k]).findIdx? fun k'=>decide (k=k'))=some l.length
 | [],_=>by simp
 | a::l,h=>by
  rw[List.findIdx?_cons] at h
  rw[List.cons_append,List.findIdx?_cons]
  by_cases hk:k=a
  ·subst hk;simp at h
  ·simp only[hk,decide_false,Bool.false_eq_true,if_false,Option.map_eq_none_iff] at h ⊢
   rw[Yz h];rfl
theorem Gb(K:KeyT P kt ek)(ht:P.underlying t=some (.map kt e))(hz:qw P e zv)(hd:zv=ev dflt)(hx:eo env x=some (.map (some b)))(hy:eo env y=some (ek k))(hm:Pick L (xN b ek ev l) R):
  Ef P n F Nx env L ⟨d,.mapEntry t x y,ty,pos,after,g⟩ (fun _:Nat=>True) (fun s => .tuple #[ev (xI l k dflt),.int .i64 ((s:Nat):Int)]) (fun s=>Qx b ek ev (w6 l k (xI l k dflt)) k s::R):=by
 intro a w h
 obtain⟨es,eS,hb,he,jf⟩:=h.hp.ok _ hm.mem
 have h1:=K.find k es.toList (l.map (·.1)) w (cr he)
 have h2:=ib (ek:=ek) (ev:=ev) (k:=k) (d:=dflt) l es.toList he
 have h3:=am (k:=k) l
 have Dv:=congrFun hz w
 cases hf:(l.map (·.1)).findIdx? (fun k'=>decide (k=k')) with
 | none=>
  rw[hf] at h1 h2 h3
  simp only[Option.map_none] at h1 h2
  refine⟨eS,{ w with heap:=w.heap.setIfInBounds b (.map (es.push { key:=ek k,val:=ev dflt,born:=eS }) (eS+1)) },?_,trivial,?_⟩
  ·simp[execOp,h.eval hx,h.eval hy,Instr.mapEntry,Sem.run_bind,run_underlying ht,Result.andThen,MapKept.run_getObj_map hb,K.chk,h1,Dv,hd,MapKept.run_setObj_map _ hb,goInt,<- h2]
  ·refine h.hp.setMapG (X:=xN b ek ev l) hm rfl rfl (fun w' oN=>⟨_,_,l.length,{ key:=ek k,val:=ev dflt,born:=eS },oN,?_,jf.push _ _,?_,?_,rfl⟩)
   ·rw[ie l hf]
    have:ev (xI l k dflt)=ev dflt:=h2.symm
    simp[he,this]
   ·rw[ie l hf,List.map_append]
    simpa using Yz hf
   ·have hl:es.size=l.length:=by have:=congrArg List.length he;simpa using this
    rw[<- hl];simp
 | some i=>
  rw[hf] at h1 h2 h3
  obtain⟨i1,i2,i3⟩:=ic (v:=xI l k dflt) l es.toList i he hf
  have Ep:i<es.size:=by simpa using i1
  have e0:es[i]?=some es[i]:=Array.getElem?_eq_getElem Ep
  have AB:es[i].key=ek k:=by
   rw[Array.getElem?_toList,e0] at i2;simpa using i2
  have CB:es[i].val=ev (xI l k dflt):=by
   simp only[Option.map_some] at h2
   rw[Array.getElem?_toList,e0] at h2;simpa using h2
  refine⟨es[i].born,{ w with heap:=w.heap.setIfInBounds b (.map (es.modify i fun e=>{ e with key:=ek k }) eS) },?_,trivial,?_⟩
  ·simp[execOp,h.eval hx,h.eval hy,Instr.mapEntry,Sem.run_bind,run_underlying ht,Result.andThen,MapKept.run_getObj_map hb,K.chk,h1,e0,AB,K.stays,MapKept.run_setObj_map _ hb,goInt,CB]
  ·have hmod:(es.modify i fun e=>{ e with key:=ek k })=es:=by
    apply Array.ext_getElem?
    intro j
    rw[Array.getElem?_modify]
    by_cases hij:i=j
    ·subst hij;rw[e0];simp[<- AB]
    ·simp[hij]
   have hs:w6 l k (xI l k dflt)=l:=bJ (d:=dflt) (by rw[<- h3];rfl) rfl
   rw[hmod,hs]
   exact h.hp.setMapG (X:=xN b ek ev l) hm rfl rfl (fun w' oN=>⟨es,eS,i,es[i],oN,he,jf,hf,e0,rfl⟩)
theorem GY{es:Array MapEntry}{i:Nat}{e0:MapEntry}(hn:(es.toList.map (·.born)).Nodup)(h:es[i]?=some e0):es.findIdx? (fun e=>((e.born:Nat):Int) == ((e0.born:Nat):Int))=some i:=by
 rw[Array.findIdx?_eq_some_iff_getElem]
 obtain⟨hi,h1⟩:=Array.getElem?_eq_some_iff.1 h
 refine⟨hi,by simp[h1],?_⟩
 intro j hj
 simp only[beq_iff_eq]
 intro hc
 have tf:j<es.size:=by omega
 have Cg:es[j].born=e0.born:=Int.ofNat.inj hc
 have h2:=(List.pairwise_iff_getElem.1 hn) j i (by simpa using tf) (by simpa using hi) hj
 apply h2
 simp[Cg,h1]
theorem Qy{vv:Value}(hx:eo env x=some (.map (some b)))(hy:eo env y=some (.int .i64 ((s:Nat):Int)))(hv:eo env z=some vv)(Dw:vv=ev v)(hm:Pick L (Qx b ek ev l k s) R):
  nZ P n F Nx env L ⟨none,.entryStore t x y z,ty,pos,after,g⟩ (xN b ek ev (w6 l k v)::R):=by
 intro a w h
 subst Dw
 obtain⟨es,eS,i,e0,hb,he,jf,hf,hi,rfl⟩:=h.hp.ok _ hm.mem
 have hfi:=GY jf.2 hi
 obtain⟨i1,i2,i3⟩:=ic (v:=v) l es.toList i he hf
 have AB:e0.key=ek k:=by rw[Array.getElem?_toList,hi] at i2;simpa using i2
 refine⟨{ w with heap:=w.heap.setIfInBounds b (.map (es.modify i fun e=>{ e with val:=ev v }) eS) },.inl ?_,?_⟩
 ·simp[execOp,h.eval hx,h.eval hy,h.eval hv,Instr.entryStore,Sem.run_bind,Result.andThen,MapKept.run_getObj_map hb,asInt,asIntOf,hfi,MapKept.run_setObj_map _ hb]
 ·refine h.hp.setMapG (X:=Qx b ek ev l k e0.born) hm rfl rfl (fun w' oN=>⟨_,_,oN,?_,jf.modify _ _ (fun _=>rfl)⟩)
  rw[<- i3,Array.toList_modify]
  apply List.ext_getElem?
  intro j
  simp only[List.getElem?_map,List.getElem?_modify]
  by_cases hij:i=j
  ·subst hij
   rw[Array.getElem?_toList,hi]
   simp[AB]
  ·simp[hij]
theorem VZ{vv:Value}{u:α}(hx:eo env x=some (.map (some b)))(hy:eo env y=some (.int .i64 ((s:Nat):Int)))(hv:eo env z=some vv)(Dw:vv=ev v)(hm:Pick L (Qx b ek ev (w6 l k u) k s) R):
  nZ P n F Nx env L ⟨none,.entryStore t x y z,ty,pos,after,g⟩ (xN b ek ev (w6 l k v)::R):=by
 have:=Qy (P:=P) (n:=n) (F:=F) (Nx:=Nx) (L:=L) (env:=env) (t:=t) (ty:=ty) (pos:=pos) (after:=after) (g:=g) (v:=v) hx hy hv Dw hm
 rwa [Vh] at this
def XF(b:Nat)(ek:κ->Value)(ev:α->Value)(k:κ)(d v:α):Asrt where
 fp:=[b]
 ok w:=∃ l,(xN b ek ev l).ok w/\xI l k d=v
 loc w w' h hl hk:=by
  obtain⟨l,h1,h2⟩:=hk
  exact⟨l,(xN b ek ev l).loc w w' h hl h1,h2⟩
theorem pt{d:α}(h:(xN b ek ev l).ok w):(XF b ek ev k d (xI l k d)).ok w:=⟨l,h,rfl⟩
theorem Vi{γ:Type}{k:κ}{u d:γ}:∀ {l:List (κ×γ)},xI (w6 l k u) k d=u
 | []=>by simp[w6,xI]
 | p::l=>by
  by_cases hk:k=p.1
  ·subst hk;simp[w6,xI]
  ·simp only[w6,hk,if_false,xI];exact Vi
theorem GZ{d:α}(h:(Qx b ek ev (w6 l k (xI l k d)) k s).ok w):(XF b ek ev k d (xI l k d)).ok w:=by
 obtain⟨es,eS,i,e,h1,h2,h3,_⟩:=h
 exact⟨_,⟨es,eS,h1,h2,h3⟩,Vi⟩
theorem Vj{u:α}(K:KeyT P kt ek)(ht:P.underlying t=some (.map kt e))(hz:qw P e zv)(hd:zv=ev dflt)(hx:eo env x=some (.map (some b)))(hy:eo env y=some (ek k))(hm:Pick L (XF b ek ev k dflt u) R):
  Qt P n F Nx env L ⟨d,.lookup t x y false,ty,pos,after,g⟩ (ev u):=by
 intro a w h
 obtain⟨l,h1,h2⟩:=h.hp.ok _ hm.mem
 have Ar:=h.hp.front hm
 have h3:Hp F Nx w (xN b ek ev l::R):=by
  refine⟨Ar.os,Ar.tape,Ar.output,Ar.size,Ar.block,fun y hy=>?_,fun y hy c hc=>?_,fun y hy c hc=>?_,List.pairwise_cons.2 (List.pairwise_cons.1 Ar.sep)⟩
  ·rcases List.mem_cons.1 hy with rfl | hy
   ·exact h1
   ·exact Ar.ok y (List.mem_cons_of_mem _ hy)
  ·rcases List.mem_cons.1 hy with rfl | hy
   ·exact Ar.lt _ (List.mem_cons_self ..) c hc
   ·exact Ar.lt y (List.mem_cons_of_mem _ hy) c hc
  ·rcases List.mem_cons.1 hy with rfl | hy
   ·exact Ar.ow _ (List.mem_cons_self ..) c hc
   ·exact Ar.ow y (List.mem_cons_of_mem _ hy) c hc
 subst h2
 exact jg K ht hz (hd:=⟨hd⟩) (hx:=⟨hx⟩) (hy:=⟨hy⟩) .here a w (h.world h3)
end ent
theorem Pj[Rnd]{P:Program}{n dd:Nat}{F:List Nat}{Nx:World}{env:List (Nat×Value)}{L:List Asrt}{eA:Array Oper}{G:Type}{φ:G->Prop}{val:G->Value}{L':G->List Asrt}{o:Oper}{tl:Nat->Bool}{Ls:List Asrt}{fuel:Nat}{listed:Array Bool}{QD:Act->World->Prop}{i:Nat}(hi:eA[i]?=some o)(hr:Region.ready .any eA listed=[i])(hg:gd env eA o=some true)(hd:o.dst=some dd)(eZ:Nat.blt dd n=true)(ht:tl i=true)(hq:Ef P n F Nx env L o φ val L')(jf:∀ g,wB (L' g) Ls)(k:∀ g,φ g->WD P n F Nx eA tl Ls QD fuel (listed.setIfInBounds i true) ((dd,val g)::env) (L' g)):WD P n F Nx eA tl Ls QD (fuel+1) listed env L:=
 WD.old hi (hr:=hr) (hg:=⟨hg⟩) hd (eZ:=⟨eZ⟩) (ht:=⟨ht⟩) jf hq k
section app
variable [Rnd] {F:List Nat} {Nx:World} {L:List Asrt} {Z:Zp}
theorem RR.oc{α:Type}{Pr:List Value->α->Prop}{sz:Nat}{cs:List Value}{l:List α}(h:RR sz Pr cs l)(hP:∀ r x,Pr r x->∀ u∈r,u.oneCell'=true):∀ u∈cs,u.oneCell'=true:=by
 obtain⟨rows,h1,h2,h3,h4⟩:=h
 intro u hu
 rw[<- h1] at hu
 obtain⟨r,hr,hur⟩:=List.mem_flatten.1 hu
 obtain⟨i,hi,rfl⟩:=List.getElem_of_mem hr
 exact hP _ _ (h4 i rows[i] (l[i]'(by omega)) (List.getElem?_eq_getElem hi) (List.getElem?_eq_getElem (by omega))) u hur
theorem RR.store{α:Type}[Inhabited α]{Pr:List Value->α->Prop}{sz:Nat}{cs r tl vs:List Value}{l:List α}{i:Int}{y:α}{k:Nat}(h:RR sz Pr cs l)(h0:0<=i)(h1:i<l.length)(hd:cs.drop (i.toNat*sz)=r++tl)(hr:r.length=sz)(hk:k+vs.length<=sz)(hP:Pr (uE r k vs) y):RR sz Pr (uE cs (i.toNat*sz+k) vs) (l.set i.toNat y)/\i.toNat*sz+k+vs.length<=cs.length:=by
 have eW:=h.len
 have hi:i.toNat<l.length:=by omega
 have xS:(i.toNat+1)*sz<=l.length*sz:=Nat.mul_le_mul_right _ (by omega)
 rw[Nat.succ_mul] at xS
 obtain⟨rows,a1,a2,a3,a4⟩:=h
 have wc:i.toNat*sz+k+vs.length<=cs.length:=by omega
 refine⟨⟨rows.set i.toNat (uE r k vs),?_,?_,by simp[a3],?_⟩,wc⟩
 ·have Bp:i.toNat<rows.length:=by omega
  have e1:rows=rows.take i.toNat++rows[i.toNat]::rows.drop (i.toNat+1):=by
   rw[List.getElem_cons_drop,List.take_append_drop]
  have e2:(rows.take i.toNat).flatten.length=i.toNat*sz:=by
   have:∀(rs:List (List Value)),(∀ r∈rs,r.length=sz)->rs.flatten.length=rs.length*sz:=by
    intro rs
    induction rs with
    | nil=>simp
    | cons r rs ih=>intro hh;rw[List.flatten_cons,List.length_append,hh r (by simp),ih (fun r hr=>hh r (List.mem_cons_of_mem _ hr)),List.length_cons,Nat.succ_mul,Nat.add_comm]
   rw[this _ (fun r hr=>a2 r (List.mem_of_mem_take hr)),List.length_take,Nat.min_eq_left (by omega)]
  have e3:cs=(rows.take i.toNat).flatten++(rows[i.toNat]++(rows.drop (i.toNat+1)).flatten):=by
   rw[<- a1]
   have:=congrArg List.flatten e1
   rw[List.flatten_append,List.flatten_cons] at this
   exact this
  have e4:cs.drop (i.toNat*sz)=rows[i.toNat]++(rows.drop (i.toNat+1)).flatten:=by
   rw[e3,<- e2,List.drop_left]
  rw[e4] at hd
  have e5:rows[i.toNat]=r/\(rows.drop (i.toNat+1)).flatten=tl:=List.append_inj hd (by rw[a2 _ (List.getElem_mem Bp),hr])
  rw[List.set_eq_take_append_cons_drop,if_pos Bp,List.flatten_append,List.flatten_cons]
  rw[e3,e5.1]
  unfold uE
  rw[<- e2]
  generalize (rows.take i.toNat).flatten=A
  generalize (rows.drop (i.toNat+1)).flatten=B
  have t1:(A++(r++B)).take (A.length+k)=A++r.take k:=by
   rw[List.take_length_add_append,List.take_append_of_le_length (by omega)]
  have t2:(A++(r++B)).drop (A.length+k+vs.length)=r.drop (k+vs.length)++B:=by
   rw[Nat.add_assoc,List.drop_length_add_append,List.drop_append_of_le_length (by omega)]
  rw[t1,t2]
  simp only[List.append_assoc]
 ·intro r' hr'
  rcases List.mem_or_eq_of_mem_set hr' with h' | rfl
  ·exact a2 _ h'
  ·unfold uE;simp;omega
 ·intro j r' x hr' hx
  rw[List.getElem?_set] at hr' hx
  by_cases hj:i.toNat=j
  ·subst hj
   rw[if_pos rfl] at hr' hx
   rw[if_pos (by omega)] at hr' hx
   simp at hr' hx
   subst hr' hx
   exact hP
  ·rw[if_neg hj] at hr' hx
   exact a4 _ _ _ hr' hx
end app
end
section
def pw(es:List MapEntry)(seen:Array Nat):List MapEntry:=es.filter fun e => !seen.contains e.born
theorem nH{α β:Type}(f:α->β)(l:List α)(i:Nat):(l.eraseIdx i).map f=(l.map f).eraseIdx i:=by
 simp only[List.eraseIdx_eq_take_drop_succ,List.map_append,List.map_take,List.map_drop]
theorem K4{l:List MapEntry}{i:Nat}{e:MapEntry}(hn:(l.map (·.born)).Nodup)(h:l[i]?=some e):l.filter (fun q=>q.born != e.born)=l.eraseIdx i:=by
 induction l generalizing i with
 | nil=>simp at h
 | cons a t ih=>
  simp only[List.map_cons,List.nodup_cons,List.mem_map,not_exists,not_and] at hn
  cases i with
  | zero=>
   simp only[List.getElem?_cons_zero,Option.some.injEq] at h
   subst h
   rw[List.filter_cons_of_neg (by simp),List.eraseIdx_cons_zero]
   exact List.filter_eq_self.2 fun q hq=>bne_iff_ne.2 (hn.1 q hq)
  | succ i=>
   rw[List.getElem?_cons_succ] at h
   have hm:e∈t:=List.mem_of_getElem? h
   rw[List.filter_cons_of_pos (by simpa using fun hc=>hn.1 e hm hc.symm),ih hn.2 h,List.eraseIdx_cons_succ]
theorem K5{es:List MapEntry}{seen:Array Nat}{i:Nat}{e:MapEntry}(hn:(es.map (·.born)).Nodup)(h:(pw es seen)[i]?=some e):pw es (seen.push e.born)=(pw es seen).eraseIdx i:=by
 rw[<- K4 (l:=pw es seen) (i:=i) (List.Sublist.nodup (List.Sublist.map _ List.filter_sublist) hn) h]
 unfold pw
 rw[List.filter_filter]
 congr 1;funext q
 rw[Array.contains_push,Bool.not_or,Bool.and_comm]
 simp[bne,Bool.beq_comm,BEq.comm]
theorem F0{l:List MapEntry}{e:MapEntry}(hn:(l.map (·.born)).Nodup)(h:e∈l):l.find? (fun x=>x.born == e.born)=some e:=by
 induction l with
 | nil=>simp at h
 | cons a t ih=>
  simp only[List.map_cons,List.nodup_cons,List.mem_map,not_exists,not_and] at hn
  rcases List.mem_cons.1 h with rfl | h
  ·simp
  ·rw[List.find?_cons_of_neg (by simpa using fun hc=>hn.1 e h hc.symm)];exact ih hn.2 h
section
variable {κ α:Type}
def sp(r b:Nat)(ek:κ->Value)(ev:α->Value)(l rem:List (κ×α))(kA:Option (κ×α)):Asrt where
 fp:=[r,b]
 ok w:=r≠b/\∃ es eS seen,w.heap[b]?=some (.map es eS)/\es.toList.map (fun e=>(e.key,e.val))=l.map (fun p=>(ek p.1,ev p.2))/\sn es eS/\w.heap[r]?=some (.mapIter (some b) eS seen eS)/\
  (pw es.toList seen).map (fun e=>(e.key,e.val))=rem.map (fun p=>(ek p.1,ev p.2))/\
  ∀ c,kA=some c->∃ s e,seen.back?=some s/\es.find? (fun x=>x.born == s)=some e/\e.key=ek c.1/\e.val=ev c.2
 loc w w' h hl hk:=by
  obtain⟨h0,es,eS,seen,h1,h2,h3,h4,h5⟩:=hk
  exact⟨h0,es,eS,seen,by rw[h b (by simp) (hl b (by simp))];exact h1,h2,h3,by rw[h r (by simp) (hl r (by simp))];exact h4,h5⟩
end
section
variable [Rnd]
variable {P:Program} {n:Nat} {F:List Nat} {Nx:World} {env:List (Nat×Value)} {L R:List Asrt} {d:Option Tmp} {ty:TypeId} {pos:String} {after:Array Edge} {g:Option (Nat×Bool)} {x y z:Operand} {t kt e:TypeId}
 {κ α:Type} {ek:κ->Value} {ev:α->Value} {l rem:List (κ×α)} {kA:Option (κ×α)} {r b:Nat}
theorem Uf(ht:P.underlying t=some (.map kt e))(hx:eo env x=some (.map (some b)))(hm:Pick L (xN b ek ev l) R):
  Ef P n F Nx env L ⟨d,.range t x,ty,pos,after,g⟩ (fun _:Nat=>True) (fun r => .pointer (some ⟨r,0,none⟩)) (fun r=>sp r b ek ev l l none::R):=by
 intro a w h
 obtain⟨es,eS,hb,he,jf⟩:=h.hp.ok _ hm.mem
 have BC:b<w.heap.size:=(h.hp.front hm).lt _ (List.mem_cons_self ..) b (by simp[xN])
 refine⟨w.heap.size,w.alloc (.mapIter (some b) eS #[] eS),?_,trivial,?_⟩
 ·simp[execOp,h.eval hx,Instr.range,Sem.run_bind,run_underlying ht,Result.andThen,MapKept.run_getObj_map hb]
 ·have h1:=(h.hp.front hm).alloc (.mapIter (some b) eS #[] eS)
  have hA:=Ext.alloc w (.mapIter (some b) eS #[] eS)
  refine(h.hp.front hm).upd (x:=xN b ek ev l) (y:=sp w.heap.size b ek ev l l none) .here hA.os hA.tape hA.output hA.size (fun k hk _=>hA.block k hk) ⟨by omega,es,eS,#[],?_,he,jf,?_,?_,by simp⟩ ?_
  ·rw[hA.block b BC];exact hb
  ·exact heap_alloc_new w _
  ·unfold pw;rw[List.filter_eq_self.2 (by simp)];exact he
  ·intro q hq
   simp only[sp,List.mem_cons,List.not_mem_nil,or_false] at hq
   rcases hq with rfl | rfl
   ·exact⟨by simp,.inr (Nat.le_refl _)⟩
   ·exact⟨Nat.lt_of_lt_of_le BC hA.size,.inl (by simp[xN])⟩
theorem XG{w:World}{m:Nat}(hm:0<m):∃ i N,i<m/\w.drawn<=N/\(Go.choose (.mapNext m)).run P w = .ok i { w with drawn:=N }:=by
 by_cases h:m<=1
 ·exact⟨0,w.drawn,by omega,Nat.le_refl _,by simp[Go.choose,Sem.run,Question.forced,h]⟩
 ·exact⟨w.tape w.drawn (.mapNext m) % m,w.drawn+1,Nat.mod_lt _ hm,Nat.le_succ _,by simp[-run_choose_drew,Go.choose,Sem.run,Question.forced,h,Question.cut]⟩
theorem Ug(hx:eo env x=some (.pointer (some ⟨r,0,none⟩)))(hm:Pick L (sp r b ek ev l rem kA) R):
  Ef P n F Nx env L ⟨d,.next x false,ty,pos,after,g⟩ (fun o:Option (Nat×(κ×α))=>match o with | none=>rem=[] | some p=>rem[p.1]?=some p.2)
   (fun o=>match o with | none => .tuple #[.bool false] | some p => .tuple #[.bool true,ek p.2.1,ev p.2.2])
   (fun o=>match o with | none=>sp r b ek ev l [] kA::R | some p=>sp r b ek ev l (rem.eraseIdx p.1) (some p.2)::R):=by
 intro a w h
 obtain⟨hrb,es,eS,seen,hb,he,jf,hr,hl,hc⟩:=h.hp.ok _ hm.mem
 have Cl:r<w.heap.size:=(h.hp.front hm).lt _ (List.mem_cons_self ..) r (by simp[sp])
 have BC:b<w.heap.size:=(h.hp.front hm).lt _ (List.mem_cons_self ..) b (by simp[sp])
 have C8:(getObj r).run P w = .ok (.mapIter (some b) eS seen eS) w:=by simp[getObj,Sem.run,hr]
 have D7:=MapKept.run_getObj_map (P:=P) hb
 have hu:(!seen.isEmpty && !es.isEmpty&&es.all (fun q=>decide (q.born>=eS)))=false:=by
  by_cases h0:es.isEmpty=true
  ·simp[h0]
  ·have:es.all (fun q=>decide (q.born>=eS))=false:=by
    rw[Bool.eq_false_iff]
    intro Cg
    rw[Array.all_eq_true_iff_forall_mem] at Cg
    have hs:0<es.size:=by
     rw[Array.isEmpty_iff_size_eq_zero] at h0;omega
    have h1:=of_decide_eq_true (Cg es[0] (Array.getElem_mem hs))
    have h2:=jf.1 es[0] (by simp)
    omega
   simp[this]
 have hL:(es.filter fun q => !seen.contains q.born).toList=pw es.toList seen:=by unfold pw;rw[Array.toList_filter]
 have hold:(es.filter fun q => !seen.contains q.born).filter (fun q=>decide (q.born<eS))=es.filter fun q => !seen.contains q.born:=by
  apply Array.ext'
  rw[Array.toList_filter,List.filter_eq_self]
  intro q hq
  rw[hL] at hq
  exact decide_eq_true (jf.1 q (List.mem_filter.1 hq).1)
 have xC:(es.filter fun q => !seen.contains q.born).filter (fun q=>decide (q.born>=eS)) = #[]:=by
  apply Array.ext'
  rw[Array.toList_filter,Array.toList_empty,List.filter_eq_nil_iff]
  intro q hq
  rw[hL] at hq
  have:=jf.1 q (List.mem_filter.1 hq).1
  simp;omega
 have eW:rem.length=(pw es.toList seen).length:=by simpa using (congrArg List.length hl).symm
 have hg3:∀ o N,(setObj r o).run P { w with drawn:=N } = .ok () ({ w with drawn:=N }.putObj r o):=fun o N=>by
  simp[setObj,Sem.run,hr,World.putObj]
 generalize hLe:(es.filter fun q => !seen.contains q.born)=left at hL hold xC
 have hrl':rem.length=left.size:=by rw[eW,<- hL];simp
 have sF:=hl
 rw[<- hL] at hl
 by_cases h0:left.size=0
 ·have Eu:left = #[]:=Array.eq_empty_of_size_eq_zero h0
  obtain rfl:rem=[]:=List.eq_nil_of_length_eq_zero (by omega)
  obtain⟨i,N,hi,hN,eT⟩:=XG (P:=P) (w:=w) Nat.one_pos
  obtain rfl:i=0:=by omega
  refine⟨none,{ w with drawn:=N },?_,rfl,(h.hp.front hm).ext (Ext.YQ w N hN)⟩
  ·simp only[execOp,h.eval hx,Instr.next,Sem.run_bind,C8,D7,Result.andThen,hu,hLe,Eu,Bool.false_eq_true,if_false,Array.filter_empty,Array.isEmpty_empty,if_true,Array.append_empty,Array.map_empty]
   simp[-run_choose_drew,eT,Sem.run_bind,Result.andThen,Sem.run,pure]
 ·obtain⟨i,N,hi,hN,eT⟩:=XG (P:=P) (w:=w) (m:=left.size) (by omega)
  have Bp:i<rem.length:=by omega
  have hE:=h.hp.ext (Ext.YQ w N hN)
  have EH:=congrArg (fun z=>z[i]?) hl
  simp only[List.getElem?_map,Array.getElem?_toList,List.getElem?_eq_getElem Bp,Array.getElem?_eq_getElem hi,Option.map_some,Option.some.injEq,Prod.mk.injEq] at EH
  have EJ:(left.filter fun q=>decide (q.born<eS))=left:=hold
  have oM:left.isEmpty=false:=by rw[Bool.eq_false_iff];intro hc;exact h0 (Array.isEmpty_iff_size_eq_zero.1 hc)
  refine⟨some (i,rem[i]),{ w with drawn:=N }.putObj r (.mapIter (some b) eS (seen.push left[i].born) eS),?_,List.getElem?_eq_getElem Bp,?_⟩
  ·simp only[execOp,h.eval hx,Instr.next,Sem.run_bind,C8,D7,Result.andThen,hu,hLe,EJ,xC]
   simp[-run_choose_drew,eT,Sem.run_bind,Result.andThen,Sem.run,pure,oM,hg3,hi,EH.1,EH.2]
  ·have Cc:(pw es.toList seen)[i]?=some left[i]:=by rw[<- hL,Array.getElem?_toList,Array.getElem?_eq_getElem hi]
   have hme:left[i]∈es.toList:=(List.mem_filter.1 (List.mem_of_getElem? Cc)).1
   refine(hE.front hm).upd (x:=sp r b ek ev l rem kA) (y:=sp r b ek ev l (rem.eraseIdx i) (some rem[i])) (w':={ w with drawn:=N }.putObj r (.mapIter (some b) eS (seen.push left[i].born) eS)) .here rfl ⟨rfl,Nat.le_refl _⟩ rfl (by rw[World.putObj_size];exact Nat.le_refl _) (fun k _ hk=>World.putObj_heap_other fun hc=>hk (by simp[sp,hc])) ⟨hrb,es,eS,seen.push left[i].born,?_,he,jf,World.putObj_heap_same Cl,?_,?_⟩ fun q hq=>⟨by rw[World.putObj_size];simp only[sp,List.mem_cons,List.not_mem_nil,or_false] at hq;rcases hq with rfl | rfl <;> assumption,.inl hq⟩
   ·rw[World.putObj_heap_other (Ne.symm hrb)];exact hb
   ·rw[K5 jf.2 Cc,nH,sF,nH]
   ·rintro c Cg
    obtain rfl:rem[i]=c:=oJ Cg
    refine⟨left[i].born,left[i],by simp,?_,EH.1,EH.2⟩
    rw[<- Array.find?_toList];exact F0 jf.2 hme
theorem Uh{c:κ×α}(hx:eo env x=some (.pointer (some ⟨r,0,none⟩)))(hm:Pick L (sp r b ek ev l rem (some c)) R):
  Qt P n F Nx env L ⟨d,.entry x,ty,pos,after,g⟩ (.tuple #[ek c.1,ev c.2]):=by
 intro a w h
 obtain⟨hrb,es,eS,seen,hb,he,jf,hr,hl,hc⟩:=h.hp.ok _ hm.mem
 have C8:(getObj r).run P w = .ok (.mapIter (some b) eS seen eS) w:=by simp[getObj,Sem.run,hr]
 have D7:=MapKept.run_getObj_map (P:=P) hb
 obtain⟨s,e,h1,h2,h3,h4⟩:=hc c rfl
 simp[execOp,h.eval hx,Instr.entry,Sem.run_bind,C8,D7,Result.andThen,h1,h2,h3,h4,Sem.run,pure]
theorem Hp.F3{w:World}(hm:Pick L (sp r b ek ev l rem kA) R)(h:Hp F Nx w L):Hp F Nx w (xN b ek ev l::R):=by
 have h1:=h.front hm
 obtain⟨hrb,es,eS,seen,hb,he,jf,hr,hl,hc⟩:=h1.ok _ (List.mem_cons_self ..)
 refine h1.upd (x:=sp r b ek ev l rem kA) (y:=xN b ek ev l) .here rfl (TD.refl _) rfl (Nat.le_refl _) (fun _ _ _=>rfl) ⟨es,eS,hb,he,jf⟩ fun q hq=>?_
 have C9:q=b:=by simpa [xN] using hq
 subst C9
 exact⟨h1.lt _ (List.mem_cons_self ..) _ (by simp[sp]),.inl (by simp[sp])⟩
theorem O9{dd:Nat}{eA:Array Oper}{Q:Exit->Act->World->Prop}{eN:List Oper}{o:Oper}(ho:o=⟨some dd,.next x false,ty,pos,after,none⟩)(eZ:Nat.blt dd n=true)(hx:eo env x=some (.pointer (some ⟨r,0,none⟩)))(hm:Pick L (sp r b ek ev l rem kA) R)(k0:rem=[]->WL P n F Nx eA Q eN ((dd,.tuple #[.bool false])::env) (xN b ek ev l::R))(k1:∀(i:Nat) (y:κ×α) (m:List (κ×α)),rem[i]?=some y->m=rem.eraseIdx i->WL P n F Nx eA Q eN ((dd,.tuple #[.bool true,ek y.1,ev y.2])::env) (sp r b ek ev l m (some y)::R)):WL P n F Nx eA Q (o::eN) env L:=by
 subst ho
 refine Oy rfl rfl eZ (Ug hx hm) fun g hg=>?_
 cases g with
 | none=>exact Bk (fun _ h=>Hp.F3 .here h) (k0 hg)
 | some p=>exact k1 p.1 p.2 _ hg rfl
end
end
section
section
variable {P:Program} {n:Nat} {F:Fence} {Q:Exit->Act->World->Prop} {a:Act} {w:World}
theorem rJ{b:Frame}{k:List Item}{cs:List Frame}{c:Code}:step P (lone (b.atR a (.code (.scope c)::k)) cs w) = .next (lone (b.atR a (.code c :: .inScope c::k)) cs w):=
 step_lone_go (by simp[stepG,stepG.exec,Frame.atR])
theorem Q0{b:Frame}{k:List Item}{cs:List Frame}{c:Code}:step P (lone (b.atR a (.inScope c::k)) cs w) = .next (lone (b.atR a k) cs w):=
 step_lone_go (by simp[stepG,stepG.exec,Frame.atR])
theorem Gc{c:Code}(h:c.wpIn F n P (Exit.noGoto Q) a w):(Code.scope c).wpIn F n P Q a w:=by
 intro b k cs DZ hb hr
 have h0:(lone (b.atR a (.code (.scope c)::k)) cs w).fenced P F:=fenced_calm hb hr rfl
 obtain⟨e,ri,rj,hq,qA⟩:=h b (.inScope c::k) cs DZ hb hr
 cases e with
 | normal=>exact⟨.normal,ri,rj,hq,.head h0 rJ (StepsIn.trans qA (.one (fenced_calm hb hr rfl) Q0))⟩
 | exit id=>
  have hx:exitTo id (.inScope c::k)=exitTo id k:=by simp[exitTo]
  exact⟨.exit id,ri,rj,hq,fun k' hk => .head h0 rJ (qA.1 k' (by rw[hx];exact hk)),
   fun hr' hk=>let ⟨k₁,h1,h2⟩:=qA.2 hr' (by rw[hx];exact hk);⟨k₁,h1,.head h0 rJ h2⟩⟩
 | goto l=>exact hq.elim
 | ret=>exact⟨_,ri,rj,hq,.of_steps (.one h0 rJ) qA⟩
 | panic ch=>exact⟨_,ri,rj,hq,.of_steps (.one h0 rJ) qA⟩
 | outgrown=>exact⟨_,ri,rj,hq,.of_steps (.one h0 rJ) qA⟩
end
section
variable [Rnd]
variable {P:Program} {n:Nat} {F:List Nat} {Nx:World} {Q:Exit->Act->World->Prop} {env:List (Nat×Value)} {L:List Asrt}
theorem Pd{c:Code}(k:WC P n F Nx (Exit.noGoto Q) c env L):WC P n F Nx Q (.scope c) env L:=fun a w h=>Gc (k a w h)
theorem Pe{l:Nat}(k:WX n F Nx Q .normal env L):WC P n F Nx Q (.label l) env L:=fun a w h=>wpIn_label (k a w h)
theorem Pn(k:WX n F Nx Q .ret env L):WX n F Nx (Exit.noGoto Q) .ret env L:=k
end
end
section
def sw{R:Type}:List (Int×Option R)->Int->Option R
 | [],_=>none
 | p::l,i=>if i=p.1 then p.2 else sw l i
structure arT (P:Program) (t e:TypeId) (len sz:Nat):Prop where
 un:P.underlying t=some (.array len e)
 sz:∀ w,(Go.sizeOf e).run P w = .ok sz w
section
variable [Rnd]
variable {P:Program} {n:Nat} {F:List Nat} {Nx:World} {env:List (Nat×Value)} {L R:List Asrt} {eA:Array Oper} {Q:Exit->Act->World->Prop} {eN:List Oper}
 {dd:Nat} {d:Option Tmp} {ty:TypeId} {pos:String} {after:Array Edge} {g:Option (Nat×Bool)} {x y c:Operand} {v u:Value} {t e T:TypeId} {sz len:Nat} {Z:Zp}
end
end
section
section
variable {κ α:Type} [DecidableEq κ]
def slv(p:(Option Addr×Nat)×List α):Value := .slice p.1.1 p.2.length p.1.2
def jL(lg:List (κ×((Nat×(Option Addr×Nat))×List α))):List (κ×((Option Addr×Nat)×List α)):=lg.map fun p=>(p.1,(p.2.1.2,p.2.2))
def qU(e:TypeId)(sz:Nat)(enc:α->List Value)(g:Nat×(Option Addr×Nat))(x:List α):List Asrt:=[row (.slice g.2.1 x.length g.2.2) e sz (x.flatMap enc)]
variable {lg:List (κ×((Nat×(Option Addr×Nat))×List α))} {l:List (κ×List α)}
theorem au(k:κ)(g:Nat×(Option Addr×Nat))(x:List α):∀ lg:List (κ×((Nat×(Option Addr×Nat))×List α)),jL (w6 lg k (g,x))=w6 (jL lg) k (g.2,x)
 | []=>rfl
 | p::lg=>by
  unfold w6 jL
  by_cases h:k=p.1
  ·simp[h]
  ·have:=au k g x lg
   unfold jL at this
   simp[h,this]
theorem aw(k:κ):∀ lg:List (κ×((Nat×(Option Addr×Nat))×List α)),xI (jL lg) k ((none,0),[])=((xI lg k ((0,(none,0)),[])).1.2,(xI lg k ((0,(none,0)),[])).2)
 | []=>rfl
 | p::lg=>by
  have ih:=aw k lg
  unfold jL at ih ⊢
  rw[List.map_cons]
  unfold xI
  by_cases h:k=p.1
  ·simp[h]
  ·simp only[h,if_false];exact ih
theorem Wx{γ:Type}{k:κ}{d:γ}:∀ {lg:List (κ×γ)},vH lg k=false->xI lg k d=d/\uo k lg=lg
 | [],_=>⟨rfl,rfl⟩
 | p::lg,h=>by
  unfold vH at h
  by_cases e:k=p.1
  ·simp[e] at h
  ·simp only[e,if_false] at h
   obtain⟨h1,h2⟩:=Wx (d:=d) h
   unfold xI uo
   simp only[e,if_false]
   exact⟨h1,by rw[h2]⟩
variable {F:List Nat} {Nx w:World} {L R R':List Asrt} {e:TypeId} {sz:Nat} {enc:α->List Value}
theorem Hp.bM(k:κ)(hm:mM lg=l)(hp:Pick L (wH (qU e sz enc) lg) R)(h:Hp F Nx w L):
  ∃ g:Option Addr×Nat,xI (jL lg) k ((none,0),[])=(g,xI l k [])/\Hp F Nx w (row (.slice g.1 (xI l k []).length g.2) e sz ((xI l k []).flatMap enc)::wH (qU e sz enc) (uo k lg)::R):=by
 subst hm
 rw[aw,Qv k [] (0,(none,0))]
 refine⟨(xI lg k ((0,(none,0)),[])).1.2,rfl,?_⟩
 by_cases hk:vH lg k=true
 ·obtain⟨v,h1,h2⟩:=bI k lg hk
  rw[h1]
  have h4:=h.pickAll hp
  have h5:=h4.perm ((oS (f:=fun p:κ×((Nat×(Option Addr×Nat))×List α)=>qU e sz enc p.2.1 p.2.2) h2).append_right R)
  rw[List.flatMap_cons,List.append_assoc] at h5
  have h6:Hp F Nx w (((uo k lg).flatMap fun p=>qU e sz enc p.2.1 p.2.2)++(qU e sz enc v.1 v.2++R)):=h5.perm (by
   rw[<- List.append_assoc,<- List.append_assoc];exact List.perm_append_comm.append_right R)
  have h7:=Hp.pq h6
  exact h7.perm List.perm_middle.symm
 ·have vQ:vH lg k=false:=by simpa using hk
  obtain⟨h1,h2⟩:=Wx (d:=(((0,(none,0)),[]):(Nat×(Option Addr×Nat))×List α)) vQ
  rw[h1,h2]
  exact(h.nilRow e sz).perm ((hp.perm).cons _)
theorem Hp.XH{k:κ}{ao:Option Addr}{cap:Nat}{x:List α}(hs:Sel L [row (.slice ao x.length cap) e sz (x.flatMap enc),wH (qU e sz enc) (uo k lg)] R)(h:Hp F Nx w L):
  Hp F Nx w (wH (qU e sz enc) (w6 lg k ((0,(ao,cap)),x))::R):=
 Hp.objsClose (els:=qU e sz enc) (b:=0) (g:=(ao,cap)) hs h
theorem Sel.skip{β:Type}{y:β}:∀ {L L' M:List β},Sel L L' M->Sel (y::L) L' (y::M)
 | _,_,_,.nil => .nil
 | _,_,_,.cons h t => .cons (.there h) (Sel.skip t)
theorem Hp.Vk{k:κ}{g:Option Addr×Nat}(hm:mM lg=l)(hp:xI (jL lg) k ((none,0),[])=(g,xI l k []))(hs:Sel L [row (.slice g.1 (xI l k []).length g.2) e sz ((xI l k []).flatMap enc),wH (qU e sz enc) (uo k lg)] R)(h:Hp F Nx w L):
  Hp F Nx w (wH (qU e sz enc) lg::R):=by
 by_cases hk:vH lg k=true
 ·obtain⟨v,h1,h2⟩:=bI k lg hk
  rw[aw,h1] at hp
  have e1:v.1.2=g:=congrArg Prod.fst hp
  have e2:v.2=xI l k []:=congrArg Prod.snd hp
  have h3:=Hp.objsClose (lg:=lg) (k:=k) (els:=qU e sz enc) (b:=v.1.1) (g:=g) (x:=xI l k []) hs h
  rwa [show w6 lg k ((v.1.1,g),xI l k [])=lg from bJ (d:=v) hk (by rw[h1,<- e1,<- e2])] at h3
 ·have vQ:vH lg k=false:=by simpa using hk
  rw[(Wx (d:=(((0,(none,0)),[]):(Nat×(Option Addr×Nat))×List α)) vQ).2] at hs
  have h1:=Hp.open_ (h.selAll hs)
  exact h1.sub (.cons (.there .here) (Sel.skip .all))
end
section
variable [Rnd] {P:Program} {n:Nat} {F:List Nat} {Nx:World} {eA:Array Oper} {tl:Nat->Bool} {Ls:List Asrt} {fuel:Nat} {listed:Array Bool} {Q:Act->World->Prop} {env:List (Nat×Value)} {L L':List Asrt} {o:Oper}
theorem Ra{i:Nat}(hi:eA[i]?=some o)(hr:Region.ready .any eA listed=[i])(hg:gd env eA o=some true)(hd:o.dst=none)(ht:tl i=true)(jf:wB L' Ls)(hq:nZ P n F Nx env L o L')(k:WD P n F Nx eA tl Ls Q fuel (listed.setIfInBounds i true) env L'):WD P n F Nx eA tl Ls Q (fuel+1) listed env L:=WD.forced0 hi (hr:=hr) (hg:=⟨hg⟩) (hd:=⟨hd⟩) (ht:=⟨ht⟩) jf hq k
end
theorem eH{F:List Nat}{Nx:World}{L R:List Asrt}{b off:Nat}{T:TypeId}{ks:List (Nat×Value)}{u v:Value}(hm:Pick L (re b T ks) R)(hu:(off,u)∈ks)(hv:(off+1,v)∈ks):
  ∀ w,Hp F Nx w L->∀ j x,[u,v][j]?=some x->w.cell? (Addr.add ⟨b,off,none⟩ j)=some x:=by
 intro w h j x hx
 match j,hx with
 | 0,hx=>
  have e:Addr.add ⟨b,off,none⟩ 0=⟨b,off,none⟩:=by simp[Addr.add]
  rw[e,mC hm hu w h];simpa using hx
 | 1,hx=>
  have e:Addr.add ⟨b,off,none⟩ 1=⟨b,off+1,none⟩:=by simp[Addr.add]
  rw[e,mC hm hv w h];simpa using hx
 | j+2,hx=>simp at hx
end
section
variable {m cap oO i:Nat}{cs:List Value}{bo:Option Addr}{dty:TypeId}{w:World}
section
variable [Rnd] {P:Program} {n:Nat} {F:List Nat} {Nx:World} {env:List (Nat×Value)} {L R:List Asrt} {d:Option Tmp} {ty:TypeId} {pos:String} {after:Array Edge} {g:Option (Nat×Bool)} {x y:Operand} {t e:TypeId} {sz sS:Nat}
theorem K6{ao:Option Addr}{k:Nat}{ve:List Value}{a:Act}(h:SS n F Nx env L a w)(ht:elT P t e sz sS)(hx:eo env x=some (.slice ao m cap))(hy:eo env y=some (.slice bo k oO))(hm:Pick L (row (.slice ao m cap) e sz cs) R)(hl:ve.length=k*sz)(zz:ve≠[]->∃ A,bo=some A/\∀ j u,ve[j]?=some u->w.cell? (A.add j)=some u)(h1:∀ u∈ve,u.oneCell'=true)(Ej:m+k<=maxLen)(t8:(m+k)*sS<=140737488355328):
  ∃(p:Option Addr×Nat) (w':World),(execOp a.eval ⟨d,.call ⟨.builtin .append,#[x,y],#[t,t]⟩,dty,pos,after,g⟩).run P w = .ok (.value (.slice p.1 (m+k) p.2)) w'/\True/\Hp F Nx w' (row (.slice p.1 (m+k) p.2) e sz (cs++ve)::R):=by
 obtain⟨inf,z,hi,hz,iL,hb,Cb⟩:=ht.inf
 obtain⟨m',eO⟩:=h.hp.ok _ hm.mem
 have hmm:m'=m:=by
  have hs:=h.hp.rowShape hm
  have:=eO.1.symm.trans hs.1
  exact Nat.eq_of_mul_eq_mul_right ht.pos this
 subst hmm
 subst iL
 subst hb
 have AL:=h.hp.rowShape hm
 by_cases AB:k=0
 ·subst AB
  have hn:ve=[]:=List.eq_nil_of_length_eq_zero (by simpa using hl)
  subst hn
  refine⟨(ao,cap),w,?_,trivial,?_⟩
  ·have xS:m'<=cap:=AL.2.1
   cases bo <;> cases ao <;> simp[execOp,h.eval hx,h.eval hy,resolve,invoke,builtin,Builtin.append_,run_underlying ht.sl,Go.sizeOf,typeInfo,hi,Builtin.lenOf,Builtin.firstCells,xS,loadCells,loadCellsFrom,storeCells]
  ·simpa using h.hp.front hm
 ·have oM:ve≠[]:=by
   intro e;subst e
   have:0=k*inf.size:=by simpa using hl
   have:=Nat.mul_pos (Nat.pos_of_ne_zero AB) ht.pos
   omega
  obtain⟨A,rfl,hA⟩:=zz oM
  have h63':((m'+k:Nat):Int)<=9223372036854775807:=by simp only[maxLen] at Ej;omega
  obtain⟨v',w',hr,ho,BD,_⟩:=run_append_own (P:=P) w 0 t dty e inf z inf.size inf.bytes ht.sl hi hz rfl rfl Cb ht.pos _ m' cs eO A k oO ve hl hA h1 Ej t8 (Nat.zero_le _)
  have xC:∀ b,v'.ownBlock=some b->(Value.slice ao m' cap).ownBlock=some b\/w.heap.size<=b:=by
   rcases eO.2 with⟨hv,hn⟩ | ⟨b0,li,kA,hv,_,hh,zr,zj,zU,Ap⟩
   ·injection hv with e1 e2 e3
    subst e1 e3 hn
    have hq:=run_append_nil (P:=P) w t dty e inf z ht.sl hi hz A k oO ve hl hA (by omega) (by omega) (by simp only[Nat.zero_add] at t8;omega)
    rw[hr] at hq
    injection hq with e1 _
    subst e1
    intro b hb;simp[Value.ownBlock] at hb;exact .inr (by omega)
   ·injection hv with e1 e2 e3
    subst e1 e3
    by_cases hroom:m'+k<=cap
    ·have wc:m'*inf.size+ve.length<=kA.size:=by rw[hl,zU,<- Nat.add_mul];exact Nat.mul_le_mul_right _ hroom
     have hq:=run_append_room (P:=P) w t dty e inf ht.sl hi b0 m' cap kA hh A k oO ve hl hA h1 hroom wc
     rw[hr] at hq
     injection hq with e1 _
     subst e1
     intro b hb;exact .inl hb
    ·have holds:∀ j u,cs[j]?=some u->w.cell? ((⟨b0,0,none⟩:Addr).add j)=some u:=eO.cells (g:=b0) rfl
     have hq:=run_append_grow (P:=P) w t dty e inf z ht.sl hi hz ⟨b0,0,none⟩ m' cap cs eO.1 holds A k oO ve hl hA (by omega) (by omega) (growslice_fits (by omega) t8)
     rw[hr] at hq
     injection hq with e1 _
     subst e1
     intro b hb;simp[Value.ownBlock] at hb;exact .inr (by omega)
  have hdr:w.drawn<=w'.drawn:=by
   rcases eO.2 with⟨hv,hn⟩ | ⟨b0,li,kA,hv,_,hh,zr,zj,zU,Ap⟩
   ·injection hv with e1 e2 e3
    subst e1 e3 hn
    have hq:=run_append_nil (P:=P) w t dty e inf z ht.sl hi hz A k oO ve hl hA (by omega) (by omega) (by simp only[Nat.zero_add] at t8;omega)
    rw[hr] at hq
    injection hq with _ e1
    rw[e1];first | exact Nat.le_refl _ | exact Nat.le_add_right _ _
   ·injection hv with e1 e2 e3
    subst e1 e3
    by_cases hroom:m'+k<=cap
    ·have wc:m'*inf.size+ve.length<=kA.size:=by rw[hl,zU,<- Nat.add_mul];exact Nat.mul_le_mul_right _ hroom
     have hq:=run_append_room (P:=P) w t dty e inf ht.sl hi b0 m' cap kA hh A k oO ve hl hA h1 hroom wc
     rw[hr] at hq
     injection hq with _ e1
     rw[e1];first | exact Nat.le_refl _ | exact Nat.le_add_right _ _
    ·have holds:∀ j u,cs[j]?=some u->w.cell? ((⟨b0,0,none⟩:Addr).add j)=some u:=eO.cells (g:=b0) rfl
     have hq:=run_append_grow (P:=P) w t dty e inf z ht.sl hi hz ⟨b0,0,none⟩ m' cap cs eO.1 holds A k oO ve hl hA (by omega) (by omega) (growslice_fits (by omega) t8)
     rw[hr] at hq
     injection hq with _ e1
     rw[e1];first | exact Nat.le_refl _ | exact Nat.le_add_right _ _
  obtain⟨p,rfl⟩:∃ p:Option Addr×Nat,v' = .slice p.1 (m'+k) p.2:=by
   rcases ho.2 with⟨hv,hn⟩ | ⟨b,li,kA,hv,_⟩
   ·exact⟨(none,0),by rw[hv,hn]⟩
   ·exact⟨(some ⟨b,0,none⟩,li),by rw[hv]⟩
  refine⟨p,w',?_,trivial,?_⟩
  ·simp[execOp,h.eval hx,h.eval hy,resolve,invoke,builtin,hr]
  ·refine(h.hp.front hm).upd (x:=row (.slice ao m' cap) e inf.size cs) (y:=row (.slice p.1 (m'+k) p.2) e inf.size (cs++ve)) .here BD.os ⟨BD.tape,hdr⟩ BD.output BD.size ?_ ⟨_,ho⟩ ?_
   ·intro j hj Ek
    refine BD.block j hj (fun hc=>Ek ?_)
    simp[row,<- hc]
   ·intro b hb
    have hb':(Value.slice p.1 (m'+k) p.2).ownBlock=some b:=by simpa [row] using hb
    refine⟨(ho.lt b hb').2,?_⟩
    rcases xC b hb' with h2 | h2
    ·exact .inl (by simp[row,h2])
    ·exact .inr h2
theorem Hp.rowShort{b:Nat}(hm:Pick L (row (.slice (some ⟨b,0,none⟩) m cap) e sz cs) R)(hi:i<=m)(h:Hp F Nx w L):Hp F Nx w (row (.slice (some ⟨b,0,none⟩) i cap) e sz (cs.take (i*sz))::R):=by
 have vL:=(h.rowShape hm).1
 refine(h.front hm).upd (x:=row (.slice (some ⟨b,0,none⟩) m cap) e sz cs) (y:=row (.slice (some ⟨b,0,none⟩) i cap) e sz (cs.take (i*sz))) .here rfl ⟨rfl,Nat.le_refl _⟩ rfl (Nat.le_refl _) (fun _ _ _=>rfl) ?_ ?_
 ·obtain⟨m',eO⟩:=h.ok _ hm.mem
  rcases eO.2 with⟨w4,_⟩ | ⟨b0,li,kA,w4,Bh,Dp,zr,zj,zU,Ap⟩
  ·cases w4
  injection w4 with e1 e2 e3
  injection e1 with e1
  injection e1 with e1
  subst e1 e2 e3
  have hmi:i*sz<=m*sz:=Nat.mul_le_mul_right _ hi
  refine⟨i,by simp;omega,.inr ⟨b,cap,kA,rfl,Bh,Dp,by omega,zj,zU,?_⟩⟩
  rw[<- Ap,List.take_take];congr 1;omega
 ·intro b' hb'
  simp[row,Value.ownBlock] at hb'
  subst hb'
  have:=h.lt _ hm.mem b' (by simp[row,Value.ownBlock])
  exact⟨this,.inl (by simp[row,Value.ownBlock])⟩
theorem Qz{b j:Nat}(ht:elT P t e sz sS)(hx:eo env x=some (.slice (some ⟨b,0,none⟩) i cap))(hy:eo env y=some (.slice bo (m-j) oO))(hbo:m-j≠0->bo=some (Addr.add ⟨b,0,none⟩ (j*sz)))(hm:Pick L (row (.slice (some ⟨b,0,none⟩) m cap) e sz cs) R)(hij:i<=j)(hjm:j<=m)(h1:∀ u∈cs,u.oneCell'=true)(t8:m*sS<=140737488355328):
  Ef P n F Nx env L ⟨d,.call ⟨.builtin .append,#[x,y],#[t,t]⟩,dty,pos,after,g⟩ (fun _:Option Addr×Nat=>True) (fun p => .slice p.1 (i+(m-j)) p.2) (fun p=>row (.slice p.1 (i+(m-j)) p.2) e sz (cs.take (i*sz)++cs.drop (j*sz))::R):=by
 intro a w h
 obtain⟨vL,AW,D1,_⟩:=h.hp.rowShape hm
 have hs:=h.world (h.hp.rowShort hm (show i<=m by omega))
 have eW:(cs.drop (j*sz)).length=(m-j)*sz:=by rw[List.length_drop,vL,<- Nat.sub_mul]
 refine K6 hs ht hx hy .here eW (fun oM=>?_) (fun u hu=>h1 u (List.mem_of_mem_drop hu)) (by omega) (Nat.le_trans (Nat.mul_le_mul_right _ (by omega)) t8)
 have hk:m-j≠0:=by
  intro hz;rw[hz,Nat.zero_mul] at eW;exact oM (List.eq_nil_of_length_eq_zero eW)
 refine⟨_,hbo hk,fun q u hu=>?_⟩
 obtain⟨m',eO⟩:=h.hp.ok _ hm.mem
 rw[Addr.po]
 rw[List.getElem?_drop] at hu
 exact eO.cells (g:=b) rfl _ _ hu
theorem Hp.rowLong{b len:Nat}(h1:len<=m)(h2:m<=cap)(h:Hp F Nx w (row (.slice (some ⟨b,0,none⟩) len cap) e sz cs::R)):
  ∃ tl:List Value,Hp F Nx w (row (.slice (some ⟨b,0,none⟩) m cap) e sz (cs++tl)::R):=by
 have hm:Pick (row (.slice (some ⟨b,0,none⟩) len cap) e sz cs::R) (row (.slice (some ⟨b,0,none⟩) len cap) e sz cs) R := .here
 have vL:=(h.rowShape hm).1
 obtain⟨m',eO⟩:=h.ok _ hm.mem
 rcases eO.2 with⟨w4,_⟩ | ⟨b0,li,kA,w4,Bh,Dp,zr,zj,zU,Ap⟩
 ·cases w4
 injection w4 with e1 e2 e3
 injection e1 with e1
 injection e1 with e1
 subst e1 e2 e3
 have h3:len*sz<=m*sz:=Nat.mul_le_mul_right _ h1
 have h4:m*sz<=cap*sz:=Nat.mul_le_mul_right _ h2
 have key:cs++(kA.toList.drop (len*sz)).take (m*sz-len*sz)=kA.toList.take (m*sz):=by
  rw[<- Ap,<- List.take_add];congr 1;omega
 refine⟨(kA.toList.drop (len*sz)).take (m*sz-len*sz),?_⟩
 refine(h.front hm).upd (x:=row (.slice (some ⟨b,0,none⟩) len cap) e sz cs) (y:=row (.slice (some ⟨b,0,none⟩) m cap) e sz _) .here rfl ⟨rfl,Nat.le_refl _⟩ rfl (Nat.le_refl _) (fun _ _ _=>rfl) ?_ ?_
 ·refine⟨m,?_,.inr ⟨b,cap,kA,rfl,Bh,Dp,h2,zj,zU,key.symm⟩⟩
  rw[key,List.length_take,Array.length_toList,zU];omega
 ·intro b' hb'
  simp[row,Value.ownBlock] at hb'
  subst hb'
  have:=h.lt _ hm.mem b' (by simp[row,Value.ownBlock])
  exact⟨this,.inl (by simp[row,Value.ownBlock])⟩
theorem Ge{b j:Nat}(ht:elT P t e sz sS)(hx:eo env x=some (.slice (some ⟨b,0,none⟩) i cap))(hy:eo env y=some (.slice bo (m-j) oO))(hbo:m-j≠0->bo=some (Addr.add ⟨b,0,none⟩ (j*sz)))(hm:Pick L (row (.slice (some ⟨b,0,none⟩) m cap) e sz cs) R)(hij:i<=j)(hjm:j<=m)(h1:∀ u∈cs,u.oneCell'=true)(t8:m*sS<=140737488355328):
  Ef P n F Nx env L ⟨d,.call ⟨.builtin .append,#[x,y],#[t,t]⟩,dty,pos,after,g⟩ (fun _:List Value=>True) (fun _ => .slice (some ⟨b,0,none⟩) (i+(m-j)) cap)
   (fun tl=>row (.slice (some ⟨b,0,none⟩) m cap) e sz (cs.take (i*sz)++cs.drop (j*sz)++tl)::R):=by
 intro a w h
 obtain⟨vL,AW,D1,_⟩:=h.hp.rowShape hm
 obtain⟨p,w',hr,_,hp⟩:=Qz (d:=d) (dty:=dty) (pos:=pos) (after:=after) (g:=g) ht hx hy hbo hm hij hjm h1 t8 a w h
 have eW:(cs.drop (j*sz)).length=(m-j)*sz:=by rw[List.length_drop,vL,<- Nat.sub_mul]
 obtain⟨m',eO⟩:=h.hp.ok _ hm.mem
 have DB:=eO.cells (g:=b) rfl
 obtain⟨inf,z,BF,hz,iL,hb,Cb⟩:=ht.inf
 have eT:∃ qr,(execOp a.eval ⟨d,.call ⟨.builtin .append,#[x,y],#[t,t]⟩,dty,pos,after,g⟩).run P w = .ok (.value (.slice (some ⟨b,0,none⟩) (i+(m-j)) cap)) qr:=by
  by_cases hk:m-j=0
  ·rw[hk] at hy ⊢
   have xS:i<=cap:=by omega
   refine⟨w,?_⟩
   cases bo <;> simp[execOp,h.eval hx,h.eval hy,resolve,invoke,builtin,Builtin.append_,run_underlying ht.sl,Go.sizeOf,typeInfo,BF,Builtin.lenOf,Builtin.firstCells,xS,loadCells,loadCellsFrom,storeCells]
  ·rcases eO.2 with⟨w4,_⟩ | ⟨b0,li,kA,w4,Bh,Dp,zr,zj,zU,Ap⟩
   ·cases w4
   injection w4 with e1 e2 e3
   injection e1 with e1
   injection e1 with e1
   subst e1 e2 e3
   have hbo':=hbo hk
   subst hbo'
   subst iL
   have wc:i*inf.size+(cs.drop (j*inf.size)).length<=kA.size:=by rw[eW,zU,<- Nat.add_mul];exact Nat.mul_le_mul_right _ (by omega)
   have hq:=run_append_room (P:=P) w t dty e inf ht.sl BF b i cap kA Dp (Addr.add ⟨b,0,none⟩ (j*inf.size)) (m-j) oO (cs.drop (j*inf.size)) eW (fun q u hu=>by
    rw[Addr.po]
    rw[List.getElem?_drop] at hu
    exact DB _ _ hu) (fun u hu=>h1 u (List.mem_of_mem_drop hu)) (by omega) wc
   obtain⟨w2,hq2⟩:∃ w2,(Builtin.append_ #[t,t] dty #[.slice (some ⟨b,0,none⟩) i cap,.slice (some (Addr.add ⟨b,0,none⟩ (j*inf.size))) (m-j) oO]).run P w = .ok (.slice (some ⟨b,0,none⟩) (i+(m-j)) cap) w2:=⟨_,hq⟩
   exact⟨w2,by simp[execOp,h.eval hx,h.eval hy,resolve,invoke,builtin,hq2]⟩
 obtain⟨qr,Bt⟩:=eT
 rw[hr] at Bt
 injection Bt with e1 e2
 injection e1 with e1
 injection e1 with e3 _ e4
 dsimp only at hp hr
 rw[e3,e4] at hp hr
 obtain⟨tl,Eg⟩:=hp.rowLong (m:=m) (by omega) AW
 exact⟨tl,w',hr,trivial,Eg⟩
theorem Mk{ao:Option Addr}{k1 k2 k3:IntKind}{lo hi mx:Int}{lx hx' mx':Operand}(ht:elT P t e sz sS)(hx:eo env x=some (.slice ao m cap))(hl:eo env lx=some (.int k1 lo))(hh:eo env hx'=some (.int k2 hi))(hm:eo env mx'=some (.int k3 mx))(h0:0<=lo)(h1:lo<=hi)(h2:hi<=mx)(h3:mx<=(cap:Int)):
  Qt P n F Nx env L ⟨d,.slice t x (some lx) (some hx') (some mx'),ty,pos,after,g⟩ (.slice (if mx.toNat=lo.toNat then ao else ao.map (·.add (lo.toNat*sz))) (hi.toNat-lo.toNat) (mx.toNat-lo.toNat)):=by
 intro a w h
 obtain⟨inf,z,BF,hz,iL,hb,Cb⟩:=ht.inf
 have q1:hi<=((mx.toNat:Nat):Int):=by omega
 have q2:lo<=((hi.toNat:Nat):Int):=by omega
 have q3:0<=hi:=by omega
 have q4:0<=mx:=by omega
 simp[execOp,h.eval hx,h.eval hl,h.eval hh,h.eval hm,Instr.sliceAt,Instr.slice,Instr.sliceBounds,Instr.sliceBound,run_underlying ht.sl,Go.sizeOf,typeInfo,BF,iL,asIntOf,h0,h3,q1,q2,q3,q4]
 rw[if_pos (by omega),if_pos (by omega)]
end
end
section
section
variable [Rnd] {P:Program} {n:Nat} {F:List Nat} {Nx:World} {eA:Array Oper} {tl:Nat->Bool} {Ls:List Asrt} {fuel:Nat} {listed:Array Bool}
 {env:List (Nat×Value)} {L:List Asrt} {o:Oper} {QD:Act->World->Prop} {v:Value} {d i:Nat}
theorem vP.quiet(hi:eA[i]?=some o)(hg:gd env eA o=some true)(hd:o.dst=some d)(eZ:Nat.blt d n=true)(jf:tl i=true->wB L Ls)(hq:∀ a w,SS n F Nx env L a w->(execOp a.eval o).run P w = .ok (.value v) w)(k:WD P n F Nx eA tl Ls QD fuel (listed.setIfInBounds i true) ((d,v)::env) L):vP P n F Nx eA tl Ls QD fuel listed env L i:=
 vP.forced (G:=Unit) (φ:=fun _=>True) (val:=fun _=>v) (L':=fun _=>L) hi hg hd eZ (fun a w h=>⟨(),w,hq a w h,trivial,h.hp,fun _=>Ext.refl w⟩) (fun ht _=>jf ht) (fun _ _=>k)
end
end
section
variable {cs:List Value}
def fq(v:Value):List Value:=[v]
theorem bN:∀ l:List Value,l.flatMap fq=l
 | []=>rfl
 | v::l=>by rw[List.flatMap_cons,bN l];rfl
section
variable {κ α:Type}
inductive RM (Pr:List Value->α->Prop):List (κ×List Value)->List (κ×List α)->Prop
 | nil:RM Pr [] []
 | cons {k:κ} {cs:List Value} {x:List α} {lc:List (κ×List Value)} {l:List (κ×List α)} (h:RR 1 Pr cs x) (t:RM Pr lc l):RM Pr ((k,cs)::lc) ((k,x)::l)
variable {Pr Pr':List Value->α->Prop} {lc:List (κ×List Value)} {l:List (κ×List α)}
theorem RM.weak(h:RM Pr lc l)(k:∀ r x,Pr r x->Pr' r x):RM Pr' lc l:=by
 induction h with
 | nil=>exact .nil
 | cons h _ ih=>exact .cons (h.weak k) ih
theorem RR.slv{ao:Option Addr}{cap:Nat}{cs:List Value}{x:List α}(h:RR 1 Pr cs x):slv ((ao,cap),cs) = .slice ao x.length cap:=by
 have:=h.len
 unfold Sep.slv
 simp only
 rw[this,Nat.mul_one]
variable [DecidableEq κ]
theorem RM.get(h:RM Pr lc l)(k:κ):RR 1 Pr (xI lc k []) (xI l k []):=by
 induction h with
 | nil=>exact RR.nil _ _
 | @cons k' cs x lc l h t ih=>
  unfold xI
  by_cases e:k=k'
  ·simp only[e,if_true];exact h
  ·simp only[e,if_false];exact ih
theorem RM.put(h:RM Pr lc l)(k:κ){x:List α}(hr:RR 1 Pr cs x):RM Pr (w6 lc k cs) (w6 l k x):=by
 induction h with
 | nil=>exact .cons hr .nil
 | @cons k' cs' x' lc l h t ih=>
  unfold w6
  by_cases e:k=k'
  ·simp only[e,if_true];exact .cons hr t
  ·simp only[e,if_false];exact .cons h ih
variable {lg:List (κ×((Nat×(Option Addr×Nat))×List Value))}
theorem RM.putD{g:Option Addr×Nat}(h:RM Pr (mM lg) l)(k:κ){x:List α}(hr:RR 1 Pr cs x):RM Pr (mM (w6 lg k ((0,g),cs))) (w6 l k x):=by
 rw[lC rfl];exact h.put k hr
variable {F:List Nat} {Nx w:World} {L R:List Asrt} {e:TypeId}
theorem Hp.Gf(k:κ)(hm:RM Pr (mM lg) l)(hp:Pick L (wH (qU e 1 fq) lg) R)(h:Hp F Nx w L):
  ∃ g:(Option Addr×Nat)×List Value,(xI (jL lg) k ((none,0),[])=g/\RR 1 Pr g.2 (xI l k []))/\Hp F Nx w (row (.slice g.1.1 (xI l k []).length g.1.2) e 1 g.2::wH (qU e 1 fq) (uo k lg)::R):=by
 obtain⟨g,h1,h2⟩:=Hp.bM k rfl hp h
 have h3:=hm.get k
 refine⟨(g,xI (mM lg) k []),⟨h1,h3⟩,?_⟩
 rw[bN] at h2
 have h4:=h3.len
 rw[Nat.mul_one] at h4
 rw[h4] at h2
 exact h2
theorem Hp.K7{k:κ}{ao:Option Addr}{cap m:Nat}(hl:m=cs.length)(hs:Sel L [row (.slice ao m cap) e 1 cs,wH (qU e 1 fq) (uo k lg)] R)(h:Hp F Nx w L):
  Hp F Nx w (wH (qU e 1 fq) (w6 lg k ((0,(ao,cap)),cs))::R):=by
 subst hl
 refine Hp.XH (enc:=fq) (x:=cs) ?_ h
 rw[bN];exact hs
theorem RR.len1{x:List α}(h:RR 1 Pr cs x):x.length=cs.length:=by
 have:=h.len;omega
end
end
section
section
variable {α:Type}
def XI(Z:Zp)(Pr:List Value->α->Prop)(ao:Option Addr)(cap:Nat)(l:List α):Prop:=∃ l':List α,l'.Perm l/\ZS Z 1 Pr ao cap l'
theorem XI.up{Z Z':Zp}{Pr Pr':List Value->α->Prop}{ao:Option Addr}{cap:Nat}{l:List α}(h:XI Z Pr ao cap l)(k:xE Z Z')(hw:∀ r x,Pr r x->Pr' r x):XI Z' Pr' ao cap l:=
 let ⟨l',h1,h2⟩:=h;⟨l',h1,(h2.mono k).weak hw⟩
theorem XI.of{Z:Zp}{Pr:List Value->α->Prop}{ao:Option Addr}{cap:Nat}{l:List α}(h:ZS Z 1 Pr ao cap l):XI Z Pr ao cap l:=⟨l,.refl _,h⟩
inductive RG {κ:Type} (Z:Zp) (Pr:List Value->α->Prop):List (κ×((Option Addr×Nat)×List Value))->List (κ×List α)->Prop
 | nil:RG Z Pr [] []
 | cons {k:κ} {ao:Option Addr} {cap:Nat} {cs:List Value} {x:List α} {lg:List (κ×((Option Addr×Nat)×List Value))} {l:List (κ×List α)} (hl:x.length=cs.length) (h:ZS Z 1 Pr ao cap x) (t:RG Z Pr lg l):RG Z Pr ((k,((ao,cap),cs))::lg) ((k,x)::l)
variable {κ:Type} {Z Z':Zp} {Pr Pr':List Value->α->Prop} {lg:List (κ×((Option Addr×Nat)×List Value))} {l:List (κ×List α)}
theorem RG.up(h:RG Z Pr lg l)(k:xE Z Z')(hw:∀ r x,Pr r x->Pr' r x):RG Z' Pr' lg l:=by
 induction h with
 | nil=>exact .nil
 | cons hl h _ ih=>exact .cons hl ((h.mono k).weak hw) ih
theorem RG.len(h:RG Z Pr lg l):l.length=lg.length:=by
 induction h with
 | nil=>rfl
 | cons _ _ _ ih=>simp[ih]
theorem RG.at(h:RG Z Pr lg l):∀ {i:Nat} {y:κ×((Option Addr×Nat)×List Value)},lg[i]?=some y->∃ x,l[i]?=some (y.1,x)/\x.length=y.2.2.length/\ZS Z 1 Pr y.2.1.1 y.2.1.2 x/\RG Z Pr (lg.eraseIdx i) (l.eraseIdx i):=by
 induction h with
 | nil=>intro i y h;simp at h
 | @cons k ao cap cs x lg l hl hz t ih=>
  intro i y h
  cases i with
  | zero=>
   simp only[List.getElem?_cons_zero,Option.some.injEq] at h
   subst h
   exact⟨x,by simp,hl,hz,by simpa using t⟩
  | succ i=>
   rw[List.getElem?_cons_succ] at h
   obtain⟨x',h1,h2,h3,h4⟩:=ih h
   exact⟨x',by simpa using h1,h2,h3,by simpa using RG.cons hl hz h4⟩
theorem XJ{β:Type}:∀ {l:List β} {i:Nat} {x:β},l[i]?=some x->(x::l.eraseIdx i).Perm l
 | [],i,x,h=>by simp at h
 | a::l,0,x,h=>by
  simp only[List.getElem?_cons_zero,Option.some.injEq] at h
  subst h;simp
 | a::l,i+1,x,h=>by
  rw[List.getElem?_cons_succ] at h
  rw[List.eraseIdx_cons_succ]
  exact(List.Perm.swap _ _ _).trans ((XJ h).cons a)
end
section
variable {κ α:Type} {F:List Nat} {Nx w:World} {R:List Asrt} {e:TypeId} {Z:Zp} {Pr:Zp->List Value->α->Prop}
theorem Hp.nI(mono:∀ {Z Z':Zp},xE Z Z'->∀ {r x},Pr Z r x->Pr Z' r x)(hp:PZ F Nx Z):∀(lg:List (κ×((Nat×(Option Addr×Nat))×List Value))) (l:List (κ×List α)) (Zn:Zp),RM (Pr (Z++Zn)) (mM lg) l->Hp F Nx w (wH (qU e 1 fq) lg::fz Zn::R)->
  ∃ jt,xE (Z++Zn) (Z++jt)/\RG (Z++jt) (Pr (Z++jt)) (jL lg) l/\Hp F Nx w (fz jt::R)
 | [],l,Zn,hm,h=>by
  cases hm
  refine⟨Zn,xE.refl _,.nil,?_⟩
  have h1:=Hp.open_ h
  simpa using h1
 | (k,((n,(ao,cap)),cs))::lg,l,Zn,hm,h=>by
  cases hm with
  | @cons _ _ x _ l hr t=>
  have h1:=Hp.open_ h
  rw[List.flatMap_cons] at h1
  have hl:=RR.len1 hr
  have h2:Hp F Nx w (row (.slice ao x.length cap) e 1 cs::fz Zn::((lg.flatMap fun p=>qU e 1 fq p.2.1 p.2.2)++R)):=by
   refine h1.perm ?_
   show([row (.slice ao cs.length cap) e 1 (cs.flatMap fq)]++(lg.flatMap fun p=>qU e 1 fq p.2.1 p.2.2)++fz Zn::R).Perm _
   rw[bN,hl,List.append_assoc,List.singleton_append]
   exact(List.perm_middle).cons _
  obtain⟨Zn1,k1,k2,k3⟩:=Hp.freezeS (Z:=Z) .here .here hp hr h2
  have h3:Hp F Nx w (wH (qU e 1 fq) lg::fz Zn1::R):=Hp.pq (k3.perm List.perm_middle.symm)
  obtain⟨Zn2,j1,j2,j3⟩:=Hp.nI mono hp lg l Zn1 (t.weak fun _ _ h=>mono k1 h) h3
  exact⟨Zn2,k1.trans j1,.cons hl ((k2.mono j1).weak fun _ _ h=>mono (k1.trans j1) h) j2,j3⟩
end
section
variable [Rnd]
variable {P:Program} {n:Nat} {F:List Nat} {Nx:World} {env:List (Nat×Value)} {L R:List Asrt} {d:Option Tmp} {ty:TypeId} {pos:String} {after:Array Edge} {g:Option (Nat×Bool)} {x y z:Operand} {t kt e:TypeId}
 {κ α:Type} [DecidableEq κ] {ek:κ->Value} {ev:α->Value} {l:List (κ×α)} {b:Nat} {k:κ} {dflt:α} {zv:Value} {Z:Zp}
theorem Gg{w:World}(K:KeyT P kt ek)(ht:P.underlying t=some (.map kt e))(hz:qw P e zv)(hd:zv=ev dflt)(hk:(xN b ek ev l).ok w):
  (Instr.lookup t (.map (some b)) (ek k) false).run P w = .ok (ev (xI l k dflt)) w:=by
 obtain⟨es,eS,hb,he,jf⟩:=hk
 have h1:=K.find k es.toList (l.map (·.1)) w (cr he)
 have h2:=ib (ek:=ek) (ev:=ev) (k:=k) (d:=dflt) l es.toList he
 have Dv:=congrFun hz w
 simp only[Instr.lookup,Sem.run_bind,run_underlying ht,Result.andThen,MapKept.run_getObj_map hb,K.chk]
 cases hf:(l.map (·.1)).findIdx? (fun k'=>decide (k=k')) with
 | none=>rw[hf] at h1 h2;simp only[Option.map_none] at h1 h2;simp[h1,Dv,hd,h2]
 | some i=>rw[hf] at h1 h2;simp only[Option.map_some,Array.getElem?_toList] at h1 h2;simp[h1,h2]
theorem F4(K:KeyT P kt ek)(ht:P.underlying t=some (.map kt e))(hz:qw P e zv)(hd:zv=ev dflt)(hx:eo env x=some (.map (some b)))(hy:eo env y=some (ek k))(pv:PV F Nx L Z)(hA:ZA Z (xN b ek ev l)):
  Qt P n F Nx env L ⟨d,.lookup t x y false,ty,pos,after,g⟩ (ev (xI l k dflt)):=by
 intro a w h
 simp[execOp,h.eval hx,h.eval hy,Gg K ht hz hd (hA w (pv w h.hp))]
end
end
end Sep

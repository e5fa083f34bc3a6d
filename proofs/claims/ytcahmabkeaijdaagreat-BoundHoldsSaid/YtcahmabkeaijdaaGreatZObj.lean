/- A part of this claim's proof: models of functions, walks, plain laws. No conditions. -/
import Derived.Test.YtcahmabkeaijdaaGreatZMem
set_option linter.all false
namespace Sep
open Go Go.RowKit
section
variable {κ α β:Type}
section q7
variable {κ β α γ:Type} [DecidableEq κ]
def jG(lg:List (κ×((Nat×β)×α))):List (κ×Option Addr):=lg.map fun p=>(p.1,some ⟨p.2.1.1,0,none⟩)
def tz(lg:List (κ×((Nat×β)×α))):List (κ×α):=lg.map fun p=>(p.1,p.2.2)
def uM(k:κ):List (κ×γ)->List (κ×γ)
 | []=>[]
 | p::l=>if k=p.1 then l else p::uM k l
def q7(els:Nat×β->α->List Asrt)(lg:List (κ×((Nat×β)×α))):Asrt:=jt (lg.flatMap fun p=>els p.2.1 p.2.2)
theorem VY(k:κ)(v:γ):∀ lg:List (κ×γ),(w4 lg k v).Perm ((k,v)::uM k lg)
 | [] => .refl _
 | p::l=>by
  unfold w4 uM
  by_cases hk:k=p.1
  ·subst hk;simp only[if_true];exact .refl _
  ·simp only[hk,if_false]
   exact((VY k v l).cons p).trans (.swap _ _ _)
theorem bI(k:κ):∀ lg:List (κ×γ),wK lg k=true->∃ v,(∀ d,xC lg k d=v)/\lg.Perm ((k,v)::uM k lg)
 | [],h=>by simp[wK] at h
 | p::l,h=>by
  unfold wK at h
  unfold uM
  by_cases hk:k=p.1
  ·subst hk;exact⟨p.2,fun d=>by simp[xC],by simp⟩
  ·simp only[hk,if_false] at h ⊢
   obtain⟨v,h1,h2⟩:=bI k l h
   exact⟨v,fun d=>by unfold xC;simp[hk,h1 d],(h2.cons p).trans (.swap _ _ _)⟩
theorem J9(k:κ):∀ lg:List (κ×γ),∃ l1,lg.Perm (l1++uM k lg)
 | []=>⟨[],.refl _⟩
 | p::l=>by
  unfold uM
  by_cases hk:k=p.1
  ·exact⟨[p],by simp[hk]⟩
  ·obtain⟨l1,h⟩:=J9 k l
   simp only[hk,if_false]
   exact⟨l1,(h.cons p).trans List.perm_middle.symm⟩
theorem VZ(lg:List (κ×((Nat×β)×α)))(k:κ)(b:Nat)(g:β)(x:α):jG (w4 lg k ((b,g),x))=w4 (jG lg) k (some ⟨b,0,none⟩):=by
 induction lg with
 | nil=>rfl
 | cons p l ih=>
  unfold jG at ih ⊢
  rw[List.map_cons]
  unfold w4
  by_cases hk:k=p.1
  ·simp[hk]
  ·simp only[hk,if_false,List.map_cons,ih]
theorem cG{lg:List (κ×((Nat×β)×α))}{l:List (κ×α)}(h:tz lg=l)(k:κ)(g:Nat×β)(x:α):tz (w4 lg k (g,x))=w4 l k x:=by
 subst h
 induction lg with
 | nil=>rfl
 | cons p l ih=>
  unfold tz at ih ⊢
  rw[List.map_cons]
  unfold w4
  by_cases hk:k=p.1
  ·simp[hk]
  ·simp only[hk,if_false,List.map_cons,ih]
theorem Ud{lg:List (κ×((Nat×β)×α))}(k:κ):wK (tz lg) k=wK lg k:=by
 induction lg with
 | nil=>rfl
 | cons p l ih=>unfold tz at ih ⊢;rw[List.map_cons];unfold wK;by_cases hk:k=p.1 <;> simp[hk,ih]
theorem Ja{lg:List (κ×((Nat×β)×α))}(k:κ)(d:α)(g:Nat×β):xC (tz lg) k d=(xC lg k (g,d)).2:=by
 induction lg with
 | nil=>rfl
 | cons p l ih=>unfold tz at ih ⊢;rw[List.map_cons];unfold xC;by_cases hk:k=p.1 <;> simp[hk,ih]
theorem YX{lg:List (κ×((Nat×β)×α))}{l:List (κ×α)}(h:tz lg=l)(k:κ):(xC (jG lg) k none).isNone = !wK l k:=by
 subst h
 induction lg with
 | nil=>rfl
 | cons p l ih=>unfold jG tz at ih ⊢;rw[List.map_cons,List.map_cons];unfold xC wK;by_cases hk:k=p.1 <;> simp[hk,ih]
section hp
variable {F:List Nat} {Nv w:World} {L R R':List Asrt} {els:Nat×β->α->List Asrt} {lg:List (κ×((Nat×β)×α))} {l:List (κ×α)}
theorem Hp.W5(els:Nat×β->α->List Asrt)(h:Hp F Nv w L):Hp F Nv w (q7 (κ:=κ) els []::L):=Hp.oD (M:=[]) h
theorem oS{δ:Type}{f:δ->List Asrt}{a b:List δ}(h:a.Perm b):(a.flatMap f).Perm (b.flatMap f):=List.Perm.flatMap_right f h
theorem Hp.KJ[Inhabited α]{k:κ}(hm:tz lg=l)(hk:wK l k=true)(hp:Pick L (q7 els lg) R)(L':Nat×β->List Asrt)(he:∀ g,els g (xC l k default)++q7 els (uM k lg)::R=L' g)(h:Hp F Nv w L):∃ g:Nat×β,xC (jG lg) k none=some ⟨g.1,0,none⟩/\Hp F Nv w (L' g):=by
 subst hm
 have vV:wK lg k=true:=by rw[<- Ud];exact hk
 obtain⟨v,h1,h2⟩:=bI k lg vV
 refine⟨v.1,?_,?_⟩
 ·have h3:=YX (lg:=lg) rfl k
  rw[hk] at h3
  clear h3 hk h2 hp h he
  induction lg with
  | nil=>simp[wK] at vV
  | cons p l ih=>
   unfold jG at ih ⊢
   rw[List.map_cons]
   unfold wK at vV
   have AL:=h1
   unfold xC at AL ⊢
   by_cases hk:k=p.1
   ·simp only[hk,if_true] at AL ⊢;rw[AL p.2]
   ·simp only[hk,if_false] at AL vV ⊢;exact ih vV (fun d=>AL d)
 ·rw[<- he]
  have h3:xC (tz lg) k default=v.2:=by rw[Ja k default v.1,h1]
  rw[h3]
  have h4:=h.pickAll hp
  have h5:=h4.perm ((oS (f:=fun p:κ×((Nat×β)×α)=>els p.2.1 p.2.2) h2).append_right R)
  rw[List.flatMap_cons,List.append_assoc] at h5
  have h6:Hp F Nv w (((uM k lg).flatMap fun p=>els p.2.1 p.2.2)++(els v.1 v.2++R)):=h5.perm (by
   rw[<- List.append_assoc,<- List.append_assoc];exact List.perm_append_comm.append_right R)
  have h7:=Hp.oD h6
  exact h7.perm List.perm_middle.symm
theorem Hp.objsClose{k:κ}{b:Nat}{g:β}{x:α}(hs:Sel L (els (b,g) x++[q7 els (uM k lg)]) R)(h:Hp F Nv w L):Hp F Nv w (q7 els (w4 lg k ((b,g),x))::R):=by
 have h1:=(h.selAll hs).open_
 have h2:Hp F Nv w (q7 els (uM k lg)::(els (b,g) x++R)):=h1.perm (by
  rw[List.append_assoc];exact List.perm_middle)
 have h3:=Hp.open_ h2
 refine Hp.oD (h3.perm ?_)
 refine List.Perm.trans ?_ ((oS (f:=fun p:κ×((Nat×β)×α)=>els p.2.1 p.2.2) (VY k ((b,g),x) lg).symm).append_right R)
 rw[List.flatMap_cons,List.append_assoc]
 rw[<- List.append_assoc,<- List.append_assoc]
 exact List.perm_append_comm.append_right R
theorem Hp.objsRem(k:κ)(hp:Pick L (q7 els lg) R)(h:Hp F Nv w L):Hp F Nv w (q7 els (uM k lg)::R):=by
 obtain⟨l1,h1⟩:=J9 k lg
 have h2:=(h.pickAll hp).perm ((oS (f:=fun p:κ×((Nat×β)×α)=>els p.2.1 p.2.2) h1).append_right R)
 rw[List.flatMap_append,List.append_assoc] at h2
 refine Hp.oD ?_
 exact⟨h2.os,h2.tape,h2.output,h2.size,h2.block,fun x hx=>h2.ok x (List.mem_append_right _ hx),fun x hx=>h2.lt x (List.mem_append_right _ hx),fun x hx=>h2.ow x (List.mem_append_right _ hx),(List.pairwise_append.1 h2.sep).2.1⟩
theorem Hp.GQ{k:κ}{b:Nat}{g:β}{x:α}(hp:Pick L (q7 els lg) R')(hs:Sel R' (els (b,g) x) R)(h:Hp F Nv w L):Hp F Nv w (q7 els (w4 lg k ((b,g),x))::R):=by
 have h1:=h.objsRem k hp
 have h2:Hp F Nv w (els (b,g) x++[q7 els (uM k lg)]++R):=by
  have:(q7 els (uM k lg)::R').Perm (els (b,g) x++[q7 els (uM k lg)]++R):=by
   rw[List.append_assoc]
   exact((hs.perm).cons _).trans List.perm_middle.symm
  exact h1.perm this
 exact h2.objsClose (R:=R) (by
  have:∀(A B:List Asrt),Sel (A++B) A B:=by
   intro A B
   induction A with
   | nil=>exact .nil
   | cons a A ih=>exact .cons .here ih
  exact this _ _)
end hp
end q7
theorem bJ{κ γ:Type}[DecidableEq κ]{k:κ}{v d:γ}:∀ {l:List (κ×γ)},wK l k=true->xC l k d=v->w4 l k v=l
 | [],h,_=>by simp[wK] at h
 | p::l,h,hv=>by
  unfold wK at h
  unfold xC at hv
  unfold w4
  by_cases hk:k=p.1
  ·subst hk;simp only[if_true] at hv ⊢;subst hv;rfl
  ·simp only[hk,if_false] at h hv ⊢;rw[bJ h hv]
theorem FS[DecidableEq κ]{lg:List (κ×((Nat×β)×α))}{l:List (κ×α)}(h:tz lg=l)(k:κ):wK (jG lg) k=wK l k:=by
 subst h
 induction lg with
 | nil=>rfl
 | cons p l ih=>unfold jG tz at ih ⊢;rw[List.map_cons,List.map_cons];unfold wK;by_cases hk:k=p.1 <;> simp[hk,ih]
theorem GT[DecidableEq κ]{lg:List (κ×((Nat×β)×α))}{l:List (κ×α)}{k:κ}{b:Nat}(hm:tz lg=l)(hk:wK l k=true)(hp:xC (jG lg) k none=some ⟨b,0,none⟩)(g:β)(x:α):
  jG lg=jG (w4 lg k ((b,g),x)):=by
 rw[VZ];exact(bJ (by rw[FS hm];exact hk) hp).symm
theorem Hp.Xk{F:List Nat}{Nv w:World}{L R:List Asrt}{b:Nat}{ek:κ->Value}{ev:α->Value}{l l':List (κ×α)}(hm:Pick L (xU b ek ev l) R)(he:l=l')(h:Hp F Nv w L):Hp F Nv w (xU b ek ev l'::R):=by
 subst he;exact h.front hm
section gh
variable [Rnd]
variable {P:Program} {n:Nat} {F:List Nat} {Nv:World} {env:List (Nat×Value)} {L R:List Asrt} {eA:Array Oper} {Q:Exit->Act->World->Prop} {l:List Oper} {G:Type} {φ:G->Prop} {L':G->List Asrt} {M:List Asrt}
theorem Ph(h:∀ w,Hp F Nv w L->∃ g,φ g/\Hp F Nv w (L' g))(k:∀ g,φ g->WL P n F Nv eA Q l env (L' g)):WL P n F Nv eA Q l env L:=fun a w hs=>by
 obtain⟨g,h1,h2⟩:=h w hs.hp;exact k g h1 a w (hs.world h2)
theorem Ok(h:∀ w,Hp F Nv w L->Hp F Nv w M)(k:WL P n F Nv eA Q l env M):WL P n F Nv eA Q l env L:=fun a w hs=>k a w (hs.world (h w hs.hp))
theorem Rg{c:Code}(h:∀ w,Hp F Nv w L->Hp F Nv w M)(k:WC P n F Nv Q c env M):WC P n F Nv Q c env L:=fun a w hs=>k a w (hs.world (h w hs.hp))
theorem Pq{e:Exit}(h:∀ w,Hp F Nv w L->Hp F Nv w M)(k:WX n F Nv Q e env M):WX n F Nv Q e env L:=fun a w hs=>k a w (hs.world (h w hs.hp))
variable {tl:Nat->Bool} {Ls:List Asrt} {fuel:Nat} {listed:Array Bool} {QD:Act->World->Prop}
theorem Pm(h:∀ w,Hp F Nv w L->∃ g,φ g/\Hp F Nv w (L' g))(k:∀ g,φ g->WD P n F Nv eA tl Ls QD fuel listed env (L' g)):WD P n F Nv eA tl Ls QD fuel listed env L:=fun a w hs=>by
 obtain⟨g,h1,h2⟩:=h w hs.hp;exact k g h1 a w (hs.world h2)
theorem Dz(h:∀ w,Hp F Nv w L->Hp F Nv w M)(k:WD P n F Nv eA tl Ls QD fuel listed env M):WD P n F Nv eA tl Ls QD fuel listed env L:=fun a w hs=>k a w (hs.world (h w hs.hp))
end gh
section ifc
variable [Rnd]
variable {P:Program} {n:Nat} {F:List Nat} {Nv:World} {env:List (Nat×Value)} {L R:List Asrt} {d:Option Tmp} {ty:TypeId} {pos:String} {after:Array Edge} {g:Option (Nat×Bool)} {x y:Operand} {v:Value} {t e T:TypeId}
theorem bL{dd:TypeDesc}(hu:P.underlying t=some dd)(hd:(match dd with | .interface _=>false | _=>true)=true)(hx:eo env x=some v):Qt P n F Nv env L ⟨d,.makeInterface t x,ty,pos,after,g⟩ (.iface t v):=by
 intro a w h
 cases dd <;> simp_all [execOp,h.eval hx,Instr.makeInterface,run_underlying hu]
theorem Jb{dd:TypeDesc}{t':TypeId}(hu:P.underlying T=some dd)(hd:(match dd with | .interface _=>false | _=>true)=true)(hx:eo env x=some (.iface T v)):Qt P n F Nv env L ⟨d,.typeAssert x t' T false,ty,pos,after,g⟩ v:=by
 intro a w h
 cases dd <;> simp_all [execOp,h.eval hx,Instr.typeAssert,run_underlying hu]
theorem W6{f:FuncId}{name:String}{l:List Operand}{vs:List Value}{BA:Array TypeId}(hm:∀ w,(method (P.types.size+Made.depth) T v name).run P w = .ok (f,v) w)(zC:∀ args w,(callFunc f args).run P w = .ok (.enter f args) w)(hx:eo env x=some (.iface T v))(he:Eos env l vs):
  ∀ a w,SS n F Nv env L a w->(execOp a.eval ⟨d,.call ⟨.invoke x name,l.toArray,BA⟩,ty,pos,after,g⟩).run P w = .ok (.enter f (v::vs).toArray) w:=by
 intro a w h
 have h1:=he.map h
 have h2:(Array.map a.eval l.toArray)=vs.toArray:=by rw[<- h1];simp
 simp[execOp,resolve,invoke,h.eval hx,callMethod,run_program,hm w,zC,h2]
theorem uD{f:FuncId}{name:String}{l:List Operand}{vs:List Value}{BA:Array TypeId}{A:Addr}(hm:∀ w,w.cell? A=some v->(method (P.types.size+Made.depth) T (.pointer (some A)) name).run P w = .ok (f,v) w)(zC:∀ args w,(callFunc f args).run P w = .ok (.enter f args) w)[hx:Nu (eo env x) (some (.iface T (.pointer (some A))))](hR:∀ w,Hp F Nv w L->w.cell? A=some v)(he:Eos env l vs):
  ∀ a w,SS n F Nv env L a w->(execOp a.eval ⟨d,.call ⟨.invoke x name,l.toArray,BA⟩,ty,pos,after,g⟩).run P w = .ok (.enter f (v::vs).toArray) w:=by
 intro a w h
 have h1:=he.map h
 have h2:(Array.map a.eval l.toArray)=vs.toArray:=by rw[<- h1];simp
 simp[execOp,resolve,invoke,h.eval hx.1,callMethod,run_program,hm w (hR w h.hp),zC,h2]
theorem eS{i:TypeInfo}{m:Method}{f fuel:Nat}{name:String}{A:Addr}{w:World}(hi:P.info? T=some i)(hf:i.methods.find? (·.name == name)=some m)(hp:m.path = #[])(hfn:m.func=some (f,false))(hu:P.underlying T=some (.pointer e))(he:mz P e)(h:w.cell? A=some v):(method (fuel+1) T (.pointer (some A)) name).run P w = .ok (f,v) w:=by
 have h1:=congrFun he w
 skip
 have hti:∀ w,(typeInfo T).run P w = .ok i w:=fun w=>by simp[typeInfo,run_program,hi]
 have hw:∀ x y:String,Builtin.ssaWrapNilChk_ #[T] T #[.pointer (some A),strVal x,strVal y]=pure (.pointer (some A)):=fun x y=>rfl
 simp only[method,Sem.run_bind,hti,Result.andThen_ok,hf,hp,hfn,Array.isEmpty_empty,if_true]
 simp[follow,receiverAt,run_underlying hu,Place.get,hw,loadVar,h1,asAddr,h]
theorem Tk[DecidableEq κ]{lg:List (κ×((Nat×β)×α))}{l:List (κ×α)}{k:κ}{t':TypeId}(hm:tz lg=l)(ht:P.underlying t=some (.pointer e))(hx:eo env x=some (.pointer (xC (jG lg) k none)))(hy:eo env y=some (.pointer none)):
  Qt P n F Nv env L ⟨d,.binOp .eql t x y t',ty,pos,after,g⟩ (.bool (!wK l k)):=by
 rw[<- YX hm]
 exact J2 ht hx hy
end ifc
end
section
variable {w:World}{s:Nat}
section ent
variable {κ α:Type} [DecidableEq κ]
def Jc(b:Nat)(ek:κ->Value)(ev:α->Value)(l:List (κ×α))(k:κ)(s:Nat):Asrt where
 fp:=[b]
 ok w:=∃ es jF i e,w.heap[b]?=some (.map es jF)/\es.toList.map (fun e=>(e.key,e.val))=l.map (fun p=>(ek p.1,ev p.2))/\re es jF/\
  ((l.map (·.1)).findIdx? fun k'=>decide (k=k'))=some i/\es[i]?=some e/\e.born=s
 loc w w' h hl hk:=by
  obtain⟨es,jF,i,e,h1,h2⟩:=hk
  exact⟨es,jF,i,e,by rw[h b (by simp) (hl b (by simp))];exact h1,h2⟩
variable [Rnd]
variable {P:Program} {n:Nat} {F:List Nat} {Nv:World} {env:List (Nat×Value)} {L R:List Asrt} {d:Option Tmp} {ty:TypeId} {pos:String} {after:Array Edge} {g:Option (Nat×Bool)} {x y z:Operand} {t kt e:TypeId}
 {ek:κ->Value} {ev:α->Value} {l:List (κ×α)} {b:Nat} {k:κ} {v dflt:α} {zv:Value}
theorem Hp.setMapG{X Y:Asrt}{o:Obj}(h:Hp F Nv w L)(hm:Pick L X R)(hX:X.fp=[b])(hY:Y.fp=[b])(Az:∀ w',w'.heap[b]?=some o->Y.ok w'):
  Hp F Nv { w with heap:=w.heap.setIfInBounds b o } (Y::R):=by
 have nU:b<w.heap.size:=(h.front hm).lt _ (List.mem_cons_self ..) b (by simp[hX])
 refine(h.front hm).upd (x:=X) (y:=Y) .here rfl ⟨rfl,Nat.le_refl _⟩ rfl (by simp) (fun k _ vV=>?_) (Az _ (by simp[nU])) ?_
 ·have:b≠k:=fun e=>vV (by simp[hX,e])
  simp[Array.getElem?_setIfInBounds,this]
 ·intro b' hb'
  rw[hY] at hb'
  simp only[List.mem_singleton] at hb'
  subst hb'
  exact⟨by simpa using nU,.inl (by simp[hX])⟩
theorem Q0{γ:Type}{k:κ}{u v:γ}:∀ {l:List (κ×γ)},w4 (w4 l k u) k v=w4 l k v
 | []=>by simp[w4]
 | p::l=>by
  by_cases hk:k=p.1
  ·subst hk;simp[w4]
  ·simp only[w4,hk,if_false];rw[Q0]
theorem YY{k:κ}:∀ {l:List κ},(l.findIdx? fun k'=>decide (k=k'))=none->((l++[k]).findIdx? fun k'=>decide (k=k'))=some l.length
 | [],_=>by simp
 | a::l,h=>by
  rw[List.findIdx?_cons] at h
  rw[List.cons_append,List.findIdx?_cons]
  by_cases hk:k=a
  ·subst hk;simp at h
  ·simp only[hk,decide_false,Bool.false_eq_true,if_false,Option.map_eq_none_iff] at h ⊢
   rw[YY h];rfl
theorem GU(K:KeyT P kt ek)(ht:P.underlying t=some (.map kt e))(hz:jk P e zv)(hd:zv=ev dflt)(hx:eo env x=some (.map (some b)))(hy:eo env y=some (ek k))(hm:Pick L (xU b ek ev l) R):
  Ef P n F Nv env L ⟨d,.mapEntry t x y,ty,pos,after,g⟩ (fun _:Nat=>True) (fun s => .tuple #[ev (xC l k dflt),.int .i64 ((s:Nat):Int)]) (fun s=>Jc b ek ev (w4 l k (xC l k dflt)) k s::R):=by
 intro a w h
 obtain⟨es,jF,hb,he,n4⟩:=h.hp.ok _ hm.mem
 have h1:=K.find k es.toList (l.map (·.1)) w (dK he)
 have h2:=bH (ek:=ek) (ev:=ev) (k:=k) (d:=dflt) l es.toList he
 have h3:=am (k:=k) l
 have Et:=congrFun hz w
 cases hf:(l.map (·.1)).findIdx? (fun k'=>decide (k=k')) with
 | none=>
  rw[hf] at h1 h2 h3
  simp only[Option.map_none] at h1 h2
  refine⟨jF,{ w with heap:=w.heap.setIfInBounds b (.map (es.push { key:=ek k,val:=ev dflt,born:=jF }) (jF+1)) },?_,trivial,?_⟩
  ·simp[execOp,h.eval hx,h.eval hy,Instr.mapEntry,Sem.run_bind,run_underlying ht,Result.andThen,MapKept.run_getObj_map hb,K.chk,h1,Et,hd,MapKept.run_setObj_map _ hb,goInt,<- h2]
  ·refine h.hp.setMapG (X:=xU b ek ev l) hm rfl rfl (fun w' qA=>⟨_,_,l.length,{ key:=ek k,val:=ev dflt,born:=jF },qA,?_,n4.push _ _,?_,?_,rfl⟩)
   ·rw[ig l hf]
    have:ev (xC l k dflt)=ev dflt:=h2.symm
    simp[he,this]
   ·rw[ig l hf,List.map_append]
    simpa using YY hf
   ·have hl:es.size=l.length:=by have:=congrArg List.length he;simpa using this
    rw[<- hl];simp
 | some i=>
  rw[hf] at h1 h2 h3
  obtain⟨i1,i2,i3⟩:=ie (v:=xC l k dflt) l es.toList i he hf
  have Eu:i<es.size:=by simpa using i1
  have e0:es[i]?=some es[i]:=Array.getElem?_eq_getElem Eu
  have zW:es[i].key=ek k:=by
   rw[Array.getElem?_toList,e0] at i2;simpa using i2
  have hv0:es[i].val=ev (xC l k dflt):=by
   simp only[Option.map_some] at h2
   rw[Array.getElem?_toList,e0] at h2;simpa using h2
  refine⟨es[i].born,{ w with heap:=w.heap.setIfInBounds b (.map (es.modify i fun e=>{ e with key:=ek k }) jF) },?_,trivial,?_⟩
  ·simp[execOp,h.eval hx,h.eval hy,Instr.mapEntry,Sem.run_bind,run_underlying ht,Result.andThen,MapKept.run_getObj_map hb,K.chk,h1,e0,zW,K.stays,MapKept.run_setObj_map _ hb,goInt,hv0]
  ·have hmod:(es.modify i fun e=>{ e with key:=ek k })=es:=by
    apply Array.ext_getElem?
    intro j
    rw[Array.getElem?_modify]
    by_cases hij:i=j
    ·subst hij;rw[e0];simp[<- zW]
    ·simp[hij]
   have hs:w4 l k (xC l k dflt)=l:=bJ (d:=dflt) (by rw[<- h3];rfl) rfl
   rw[hmod,hs]
   exact h.hp.setMapG (X:=xU b ek ev l) hm rfl rfl (fun w' qA=>⟨es,jF,i,es[i],qA,he,n4,hf,e0,rfl⟩)
theorem FT{es:Array MapEntry}{i:Nat}{e0:MapEntry}(hn:(es.toList.map (·.born)).Nodup)(h:es[i]?=some e0):es.findIdx? (fun e=>((e.born:Nat):Int) == ((e0.born:Nat):Int))=some i:=by
 rw[Array.findIdx?_eq_some_iff_getElem]
 obtain⟨hi,h1⟩:=Array.getElem?_eq_some_iff.1 h
 refine⟨hi,by simp[h1],?_⟩
 intro j hj
 simp only[beq_iff_eq]
 intro hc
 have tW:j<es.size:=by omega
 have EM:es[j].born=e0.born:=Int.ofNat.inj hc
 have h2:=(List.pairwise_iff_getElem.1 hn) j i (by simpa using tW) (by simpa using hi) hj
 apply h2
 simp[EM,h1]
theorem Jd{vv:Value}(hx:eo env x=some (.map (some b)))(hy:eo env y=some (.int .i64 ((s:Nat):Int)))(hv:eo env z=some vv)(Dv:vv=ev v)(hm:Pick L (Jc b ek ev l k s) R):
  aa P n F Nv env L ⟨none,.entryStore t x y z,ty,pos,after,g⟩ (xU b ek ev (w4 l k v)::R):=by
 intro a w h
 subst Dv
 obtain⟨es,jF,i,e0,hb,he,n4,hf,hi,rfl⟩:=h.hp.ok _ hm.mem
 have hfi:=FT n4.2 hi
 obtain⟨i1,i2,i3⟩:=ie (v:=v) l es.toList i he hf
 have zW:e0.key=ek k:=by rw[Array.getElem?_toList,hi] at i2;simpa using i2
 refine⟨{ w with heap:=w.heap.setIfInBounds b (.map (es.modify i fun e=>{ e with val:=ev v }) jF) },.inl ?_,?_⟩
 ·simp[execOp,h.eval hx,h.eval hy,h.eval hv,Instr.entryStore,Sem.run_bind,Result.andThen,MapKept.run_getObj_map hb,asInt,asIntOf,hfi,MapKept.run_setObj_map _ hb]
 ·refine h.hp.setMapG (X:=Jc b ek ev l k e0.born) hm rfl rfl (fun w' qA=>⟨_,_,qA,?_,n4.modify _ _ (fun _=>rfl)⟩)
  rw[<- i3,Array.toList_modify]
  apply List.ext_getElem?
  intro j
  simp only[List.getElem?_map,List.getElem?_modify]
  by_cases hij:i=j
  ·subst hij
   rw[Array.getElem?_toList,hi]
   simp[zW]
  ·simp[hij]
theorem QB{vv:Value}{u:α}(hx:eo env x=some (.map (some b)))(hy:eo env y=some (.int .i64 ((s:Nat):Int)))(hv:eo env z=some vv)(Dv:vv=ev v)(hm:Pick L (Jc b ek ev (w4 l k u) k s) R):
  aa P n F Nv env L ⟨none,.entryStore t x y z,ty,pos,after,g⟩ (xU b ek ev (w4 l k v)::R):=by
 have:=Jd (P:=P) (n:=n) (F:=F) (Nv:=Nv) (L:=L) (env:=env) (t:=t) (ty:=ty) (pos:=pos) (after:=after) (g:=g) (v:=v) hx hy hv Dv hm
 rwa [Q0] at this
def W7(b:Nat)(ek:κ->Value)(ev:α->Value)(k:κ)(d v:α):Asrt where
 fp:=[b]
 ok w:=∃ l,(xU b ek ev l).ok w/\xC l k d=v
 loc w w' h hl hk:=by
  obtain⟨l,h1,h2⟩:=hk
  exact⟨l,(xU b ek ev l).loc w w' h hl h1,h2⟩
theorem pj{d:α}(h:(xU b ek ev l).ok w):(W7 b ek ev k d (xC l k d)).ok w:=⟨l,h,rfl⟩
theorem Q1{γ:Type}{k:κ}{u d:γ}:∀ {l:List (κ×γ)},xC (w4 l k u) k d=u
 | []=>by simp[w4,xC]
 | p::l=>by
  by_cases hk:k=p.1
  ·subst hk;simp[w4,xC]
  ·simp only[w4,hk,if_false,xC];exact Q1
theorem FV{d:α}(h:(Jc b ek ev (w4 l k (xC l k d)) k s).ok w):(W7 b ek ev k d (xC l k d)).ok w:=by
 obtain⟨es,jF,i,e,h1,h2,h3,_⟩:=h
 exact⟨_,⟨es,jF,h1,h2,h3⟩,Q1⟩
theorem Q2{u:α}(K:KeyT P kt ek)(ht:P.underlying t=some (.map kt e))(hz:jk P e zv)(hd:zv=ev dflt)(hx:eo env x=some (.map (some b)))(hy:eo env y=some (ek k))(hm:Pick L (W7 b ek ev k dflt u) R):
  Qt P n F Nv env L ⟨d,.lookup t x y false,ty,pos,after,g⟩ (ev u):=by
 intro a w h
 obtain⟨l,h1,h2⟩:=h.hp.ok _ hm.mem
 have Al:=h.hp.front hm
 have h3:Hp F Nv w (xU b ek ev l::R):=by
  refine⟨Al.os,Al.tape,Al.output,Al.size,Al.block,fun y hy=>?_,fun y hy c hc=>?_,fun y hy c hc=>?_,List.pairwise_cons.2 (List.pairwise_cons.1 Al.sep)⟩
  ·rcases List.mem_cons.1 hy with rfl | hy
   ·exact h1
   ·exact Al.ok y (List.mem_cons_of_mem _ hy)
  ·rcases List.mem_cons.1 hy with rfl | hy
   ·exact Al.lt _ (List.mem_cons_self ..) c hc
   ·exact Al.lt y (List.mem_cons_of_mem _ hy) c hc
  ·rcases List.mem_cons.1 hy with rfl | hy
   ·exact Al.ow _ (List.mem_cons_self ..) c hc
   ·exact Al.ow y (List.mem_cons_of_mem _ hy) c hc
 subst h2
 exact ku K ht hz (hd:=⟨hd⟩) (hx:=⟨hx⟩) (hy:=⟨hy⟩) .here a w (h.world h3)
end ent
theorem Pd[Rnd]{P:Program}{n dd:Nat}{F:List Nat}{Nv:World}{env:List (Nat×Value)}{L:List Asrt}{eA:Array Oper}{G:Type}{φ:G->Prop}{val:G->Value}{L':G->List Asrt}{o:Oper}{tl:Nat->Bool}{Ls:List Asrt}{fuel:Nat}{listed:Array Bool}{QD:Act->World->Prop}{i:Nat}(hi:eA[i]?=some o)(hr:Region.ready .any eA listed=[i])(hg:gd env eA o=some true)(hd:o.dst=some dd)(lp:Nat.blt dd n=true)(ht:tl i=true)(hq:Ef P n F Nv env L o φ val L')(n4:∀ g,wT (L' g) Ls)(k:∀ g,φ g->WD P n F Nv eA tl Ls QD fuel (listed.setIfInBounds i true) ((dd,val g)::env) (L' g)):WD P n F Nv eA tl Ls QD (fuel+1) listed env L:=
 WD.old hi hr (hg:=⟨hg⟩) hd (lp:=⟨lp⟩) (ht:=⟨ht⟩) n4 hq k
section app
variable [Rnd] {F:List Nat} {Nv:World} {L:List Asrt} {Z:Zp}
theorem RR.oc{α:Type}{Pr:List Value->α->Prop}{sz:Nat}{cs:List Value}{l:List α}(h:RR sz Pr cs l)(hP:∀ r x,Pr r x->∀ u∈r,u.oneCell'=true):∀ u∈cs,u.oneCell'=true:=by
 obtain⟨rows,h1,h2,h3,h4⟩:=h
 intro u hu
 rw[<- h1] at hu
 obtain⟨r,hr,hur⟩:=List.mem_flatten.1 hu
 obtain⟨i,hi,rfl⟩:=List.getElem_of_mem hr
 exact hP _ _ (h4 i rows[i] (l[i]'(by omega)) (List.getElem?_eq_getElem hi) (List.getElem?_eq_getElem (by omega))) u hur
end app
end
section
section
variable {κ α:Type}
end
section
variable [Rnd]
variable {P:Program} {n:Nat} {F:List Nat} {Nv:World} {env:List (Nat×Value)} {L R:List Asrt} {d:Option Tmp} {ty:TypeId} {pos:String} {after:Array Edge} {g:Option (Nat×Bool)} {x y z:Operand} {t kt e:TypeId}
 {κ α:Type} {ek:κ->Value} {ev:α->Value} {l rem:List (κ×α)} {pA:Option (κ×α)} {r b:Nat}
end
end
section
section
variable {P:Program} {n:Nat} {F:Fence} {Q:Exit->Act->World->Prop} {a:Act} {w:World}
theorem rz{b:Frame}{k:List Item}{cs:List Frame}{c:Code}:step P (lone (b.atR a (.code (.scope c)::k)) cs w) = .next (lone (b.atR a (.code c :: .inScope c::k)) cs w):=
 step_lone_go (by simp[stepG,stepG.exec,Frame.atR])
theorem QE{b:Frame}{k:List Item}{cs:List Frame}{c:Code}:step P (lone (b.atR a (.inScope c::k)) cs w) = .next (lone (b.atR a k) cs w):=
 step_lone_go (by simp[stepG,stepG.exec,Frame.atR])
theorem GW{c:Code}(h:c.wpIn F n P (Exit.noGoto Q) a w):(Code.scope c).wpIn F n P Q a w:=by
 intro b k cs D3 hb hr
 have h0:(lone (b.atR a (.code (.scope c)::k)) cs w).fenced P F:=fenced_calm hb hr rfl
 obtain⟨e,sY,sZ,hq,sV⟩:=h b (.inScope c::k) cs D3 hb hr
 cases e with
 | normal=>exact⟨.normal,sY,sZ,hq,.head h0 rz (StepsIn.trans sV (.one (fenced_calm hb hr rfl) QE))⟩
 | exit id=>
  have hx:exitTo id (.inScope c::k)=exitTo id k:=by simp[exitTo]
  exact⟨.exit id,sY,sZ,hq,fun k' hk => .head h0 rz (sV.1 k' (by rw[hx];exact hk)),
   fun hr' hk=>let ⟨k₁,h1,h2⟩:=sV.2 hr' (by rw[hx];exact hk);⟨k₁,h1,.head h0 rz h2⟩⟩
 | goto l=>exact hq.elim
 | ret=>exact⟨_,sY,sZ,hq,.of_steps (.one h0 rz) sV⟩
 | panic ch=>exact⟨_,sY,sZ,hq,.of_steps (.one h0 rz) sV⟩
 | outgrown=>exact⟨_,sY,sZ,hq,.of_steps (.one h0 rz) sV⟩
end
section
variable [Rnd]
variable {P:Program} {n:Nat} {F:List Nat} {Nv:World} {Q:Exit->Act->World->Prop} {env:List (Nat×Value)} {L:List Asrt}
theorem O5{c:Code}(k:WC P n F Nv (Exit.noGoto Q) c env L):WC P n F Nv Q (.scope c) env L:=fun a w h=>GW (k a w h)
theorem O7{l:Nat}(k:WX n F Nv Q .normal env L):WC P n F Nv Q (.label l) env L:=fun a w h=>wpIn_label (k a w h)
theorem Pg(k:WX n F Nv Q .ret env L):WX n F Nv (Exit.noGoto Q) .ret env L:=k
end
end
section
def sw{R:Type}:List (Int×Option R)->Int->Option R
 | [],_=>none
 | p::l,i=>if i=p.1 then p.2 else sw l i
structure arT (P:Program) (t e:TypeId) (len sz:Nat):Prop where
 un:P.underlying t=some (.array len e)
 sz:∀ w,(Go.sizeOf e).run P w = .ok sz w
section
variable [Rnd]
variable {P:Program} {n:Nat} {F:List Nat} {Nv:World} {env:List (Nat×Value)} {L R:List Asrt} {eA:Array Oper} {Q:Exit->Act->World->Prop} {eZ:List Oper}
 {dd:Nat} {d:Option Tmp} {ty:TypeId} {pos:String} {after:Array Edge} {g:Option (Nat×Bool)} {x y c:Operand} {v u:Value} {t e T:TypeId} {sz len:Nat} {Z:Zp}
end
end
section
section
variable {κ α:Type} [DecidableEq κ]
def bM(p:(Option Addr×Nat)×List α):Value := .slice p.1.1 p.2.length p.1.2
def rH(lg:List (κ×((Nat×(Option Addr×Nat))×List α))):List (κ×((Option Addr×Nat)×List α)):=lg.map fun p=>(p.1,(p.2.1.2,p.2.2))
def tc(e:TypeId)(sz:Nat)(enc:α->List Value)(g:Nat×(Option Addr×Nat))(x:List α):List Asrt:=[row (.slice g.2.1 x.length g.2.2) e sz (x.flatMap enc)]
variable {lg:List (κ×((Nat×(Option Addr×Nat))×List α))} {l:List (κ×List α)}
theorem Q3(k:κ)(g:Nat×(Option Addr×Nat))(x:List α):∀ lg:List (κ×((Nat×(Option Addr×Nat))×List α)),rH (w4 lg k (g,x))=w4 (rH lg) k (g.2,x)
 | []=>rfl
 | p::lg=>by
  unfold w4 rH
  by_cases h:k=p.1
  ·simp[h]
  ·have:=Q3 k g x lg
   unfold rH at this
   simp[h,this]
theorem au(k:κ):∀ lg:List (κ×((Nat×(Option Addr×Nat))×List α)),xC (rH lg) k ((none,0),[])=((xC lg k ((0,(none,0)),[])).1.2,(xC lg k ((0,(none,0)),[])).2)
 | []=>rfl
 | p::lg=>by
  have ih:=au k lg
  unfold rH at ih ⊢
  rw[List.map_cons]
  unfold xC
  by_cases h:k=p.1
  ·simp[h]
  ·simp only[h,if_false];exact ih
theorem V0{γ:Type}{k:κ}{d:γ}:∀ {lg:List (κ×γ)},wK lg k=false->xC lg k d=d/\uM k lg=lg
 | [],_=>⟨rfl,rfl⟩
 | p::lg,h=>by
  unfold wK at h
  by_cases e:k=p.1
  ·simp[e] at h
  ·simp only[e,if_false] at h
   obtain⟨h1,h2⟩:=V0 (d:=d) h
   unfold xC uM
   simp only[e,if_false]
   exact⟨h1,by rw[h2]⟩
variable {F:List Nat} {Nv w:World} {L R R':List Asrt} {e:TypeId} {sz:Nat} {enc:α->List Value}
theorem Hp.aw(k:κ)(hm:tz lg=l)(hp:Pick L (q7 (tc e sz enc) lg) R)(h:Hp F Nv w L):
  ∃ g:Option Addr×Nat,xC (rH lg) k ((none,0),[])=(g,xC l k [])/\Hp F Nv w (row (.slice g.1 (xC l k []).length g.2) e sz ((xC l k []).flatMap enc)::q7 (tc e sz enc) (uM k lg)::R):=by
 subst hm
 rw[au,Ja k [] (0,(none,0))]
 refine⟨(xC lg k ((0,(none,0)),[])).1.2,rfl,?_⟩
 by_cases hk:wK lg k=true
 ·obtain⟨v,h1,h2⟩:=bI k lg hk
  rw[h1]
  have h4:=h.pickAll hp
  have h5:=h4.perm ((oS (f:=fun p:κ×((Nat×(Option Addr×Nat))×List α)=>tc e sz enc p.2.1 p.2.2) h2).append_right R)
  rw[List.flatMap_cons,List.append_assoc] at h5
  have h6:Hp F Nv w (((uM k lg).flatMap fun p=>tc e sz enc p.2.1 p.2.2)++(tc e sz enc v.1 v.2++R)):=h5.perm (by
   rw[<- List.append_assoc,<- List.append_assoc];exact List.perm_append_comm.append_right R)
  have h7:=Hp.oD h6
  exact h7.perm List.perm_middle.symm
 ·have vV:wK lg k=false:=by simpa using hk
  obtain⟨h1,h2⟩:=V0 (d:=(((0,(none,0)),[]):(Nat×(Option Addr×Nat))×List α)) vV
  rw[h1,h2]
  exact(h.nilRow e sz).perm ((hp.perm).cons _)
theorem Hp.GX{k:κ}{ao:Option Addr}{cap:Nat}{x:List α}(hs:Sel L [row (.slice ao x.length cap) e sz (x.flatMap enc),q7 (tc e sz enc) (uM k lg)] R)(h:Hp F Nv w L):
  Hp F Nv w (q7 (tc e sz enc) (w4 lg k ((0,(ao,cap)),x))::R):=
 Hp.objsClose (els:=tc e sz enc) (b:=0) (g:=(ao,cap)) hs h
theorem Sel.skip{β:Type}{y:β}:∀ {L L' M:List β},Sel L L' M->Sel (y::L) L' (y::M)
 | _,_,_,.nil => .nil
 | _,_,_,.cons h t => .cons (.there h) (Sel.skip t)
theorem Hp.Q4{k:κ}{g:Option Addr×Nat}(hm:tz lg=l)(hp:xC (rH lg) k ((none,0),[])=(g,xC l k []))(hs:Sel L [row (.slice g.1 (xC l k []).length g.2) e sz ((xC l k []).flatMap enc),q7 (tc e sz enc) (uM k lg)] R)(h:Hp F Nv w L):
  Hp F Nv w (q7 (tc e sz enc) lg::R):=by
 by_cases hk:wK lg k=true
 ·obtain⟨v,h1,h2⟩:=bI k lg hk
  rw[au,h1] at hp
  have e1:v.1.2=g:=congrArg Prod.fst hp
  have e2:v.2=xC l k []:=congrArg Prod.snd hp
  have h3:=Hp.objsClose (lg:=lg) (k:=k) (els:=tc e sz enc) (b:=v.1.1) (g:=g) (x:=xC l k []) hs h
  rwa [show w4 lg k ((v.1.1,g),xC l k [])=lg from bJ (d:=v) hk (by rw[h1,<- e1,<- e2])] at h3
 ·have vV:wK lg k=false:=by simpa using hk
  rw[(V0 (d:=(((0,(none,0)),[]):(Nat×(Option Addr×Nat))×List α)) vV).2] at hs
  have h1:=Hp.open_ (h.selAll hs)
  exact h1.sub (.cons (.there .here) (Sel.skip .all))
end
section
variable [Rnd] {P:Program} {n:Nat} {F:List Nat} {Nv:World} {eA:Array Oper} {tl:Nat->Bool} {Ls:List Asrt} {fuel:Nat} {listed:Array Bool} {Q:Act->World->Prop} {env:List (Nat×Value)} {L L':List Asrt} {o:Oper}
theorem P6{i:Nat}(hi:eA[i]?=some o)(hr:Region.ready .any eA listed=[i])(hg:gd env eA o=some true)(hd:o.dst=none)(ht:tl i=true)(n4:wT L' Ls)(hq:aa P n F Nv env L o L')(k:WD P n F Nv eA tl Ls Q fuel (listed.setIfInBounds i true) env L'):WD P n F Nv eA tl Ls Q (fuel+1) listed env L:=WD.forced0 hi hr (hg:=⟨hg⟩) (hd:=⟨hd⟩) (ht:=⟨ht⟩) n4 hq k
end
theorem eT{F:List Nat}{Nv:World}{L R:List Asrt}{b off:Nat}{T:TypeId}{ks:List (Nat×Value)}{u v:Value}(hm:Pick L (rG b T ks) R)(hu:(off,u)∈ks)(hv:(off+1,v)∈ks):
  ∀ w,Hp F Nv w L->∀ j x,[u,v][j]?=some x->w.cell? (Addr.add ⟨b,off,none⟩ j)=some x:=by
 intro w h j x hx
 match j,hx with
 | 0,hx=>
  have e:Addr.add ⟨b,off,none⟩ 0=⟨b,off,none⟩:=by simp[Addr.add]
  rw[e,mH hm hu w h];simpa using hx
 | 1,hx=>
  have e:Addr.add ⟨b,off,none⟩ 1=⟨b,off+1,none⟩:=by simp[Addr.add]
  rw[e,mH hm hv w h];simpa using hx
 | j+2,hx=>simp at hx
end
section
variable {m cap qr i:Nat}{cs:List Value}{bo:Option Addr}{dty:TypeId}{w:World}
section
variable [Rnd] {P:Program} {n:Nat} {F:List Nat} {Nv:World} {env:List (Nat×Value)} {L R:List Asrt} {d:Option Tmp} {ty:TypeId} {pos:String} {after:Array Edge} {g:Option (Nat×Bool)} {x y:Operand} {t e:TypeId} {sz tT:Nat}
theorem KK{ao:Option Addr}{k:Nat}{vy:List Value}{a:Act}(h:SS n F Nv env L a w)(ht:elT P t e sz tT)(hx:eo env x=some (.slice ao m cap))(hy:eo env y=some (.slice bo k qr))(hm:Pick L (row (.slice ao m cap) e sz cs) R)(hl:vy.length=k*sz)(zA:vy≠[]->∃ A,bo=some A/\∀ j u,vy[j]?=some u->w.cell? (A.add j)=some u)(h1:∀ u∈vy,u.oneCell'=true)(Em:m+k<=maxLen)(xE:(m+k)*tT<=140737488355328):
  ∃(p:Option Addr×Nat) (w':World),(execOp a.eval ⟨d,.call ⟨.builtin .append,#[x,y],#[t,t]⟩,dty,pos,after,g⟩).run P w = .ok (.value (.slice p.1 (m+k) p.2)) w'/\True/\Hp F Nv w' (row (.slice p.1 (m+k) p.2) e sz (cs++vy)::R):=by
 obtain⟨inf,z,hi,hz,ne,hb,B4⟩:=ht.inf
 obtain⟨m',ip⟩:=h.hp.ok _ hm.mem
 have Dm:m'=m:=by
  have hs:=h.hp.rowShape hm
  have:=ip.1.symm.trans hs.1
  exact Nat.eq_of_mul_eq_mul_right ht.pos this
 subst Dm
 subst ne
 subst hb
 have AH:=h.hp.rowShape hm
 by_cases zW:k=0
 ·subst zW
  have hn:vy=[]:=List.eq_nil_of_length_eq_zero (by simpa using hl)
  subst hn
  refine⟨(ao,cap),w,?_,trivial,?_⟩
  ·have qm:m'<=cap:=AH.2.1
   cases bo <;> cases ao <;> simp[execOp,h.eval hx,h.eval hy,resolve,invoke,builtin,Builtin.append_,run_underlying ht.sl,Go.sizeOf,typeInfo,hi,Builtin.lenOf,Builtin.firstCells,qm,loadCells,loadCellsFrom,storeCells]
  ·simpa using h.hp.front hm
 ·have n9:vy≠[]:=by
   intro e;subst e
   have:0=k*inf.size:=by simpa using hl
   have:=Nat.mul_pos (Nat.pos_of_ne_zero zW) ht.pos
   omega
  obtain⟨A,rfl,hA⟩:=zA n9
  have h63':((m'+k:Nat):Int)<=9223372036854775807:=by simp only[maxLen] at Em;omega
  obtain⟨v',w',hr,ho,Bz,_⟩:=run_append_own (P:=P) w 0 t dty e inf z inf.size inf.bytes ht.sl hi hz rfl rfl B4 ht.pos _ m' cs ip A k qr vy hl hA h1 Em xE (Nat.zero_le _)
  have zs:∀ b,v'.ownBlock=some b->(Value.slice ao m' cap).ownBlock=some b\/w.heap.size<=b:=by
   rcases ip.2 with⟨hv,hn⟩ | ⟨b0,n7,pA,hv,_,hh,Ad,zk,zN,Ak⟩
   ·injection hv with e1 e2 e3
    subst e1 e3 hn
    have hq:=run_append_nil (P:=P) w t dty e inf z ht.sl hi hz A k qr vy hl hA (by omega) (by omega) (by simp only[Nat.zero_add] at xE;omega)
    rw[hr] at hq
    injection hq with e1 _
    subst e1
    intro b hb;simp[Value.ownBlock] at hb;exact .inr (by omega)
   ·injection hv with e1 e2 e3
    subst e1 e3
    by_cases hroom:m'+k<=cap
    ·have xF:m'*inf.size+vy.length<=pA.size:=by rw[hl,zN,<- Nat.add_mul];exact Nat.mul_le_mul_right _ hroom
     have hq:=run_append_room (P:=P) w t dty e inf ht.sl hi b0 m' cap pA hh A k qr vy hl hA h1 hroom xF
     rw[hr] at hq
     injection hq with e1 _
     subst e1
     intro b hb;exact .inl hb
    ·have holds:∀ j u,cs[j]?=some u->w.cell? ((⟨b0,0,none⟩:Addr).add j)=some u:=ip.cells (g:=b0) rfl
     have hq:=run_append_grow (P:=P) w t dty e inf z ht.sl hi hz ⟨b0,0,none⟩ m' cap cs ip.1 holds A k qr vy hl hA (by omega) (by omega) (growslice_fits (by omega) xE)
     rw[hr] at hq
     injection hq with e1 _
     subst e1
     intro b hb;simp[Value.ownBlock] at hb;exact .inr (by omega)
  have hdr:w.drawn<=w'.drawn:=by
   rcases ip.2 with⟨hv,hn⟩ | ⟨b0,n7,pA,hv,_,hh,Ad,zk,zN,Ak⟩
   ·injection hv with e1 e2 e3
    subst e1 e3 hn
    have hq:=run_append_nil (P:=P) w t dty e inf z ht.sl hi hz A k qr vy hl hA (by omega) (by omega) (by simp only[Nat.zero_add] at xE;omega)
    rw[hr] at hq
    injection hq with _ e1
    rw[e1];first | exact Nat.le_refl _ | exact Nat.le_add_right _ _
   ·injection hv with e1 e2 e3
    subst e1 e3
    by_cases hroom:m'+k<=cap
    ·have xF:m'*inf.size+vy.length<=pA.size:=by rw[hl,zN,<- Nat.add_mul];exact Nat.mul_le_mul_right _ hroom
     have hq:=run_append_room (P:=P) w t dty e inf ht.sl hi b0 m' cap pA hh A k qr vy hl hA h1 hroom xF
     rw[hr] at hq
     injection hq with _ e1
     rw[e1];first | exact Nat.le_refl _ | exact Nat.le_add_right _ _
    ·have holds:∀ j u,cs[j]?=some u->w.cell? ((⟨b0,0,none⟩:Addr).add j)=some u:=ip.cells (g:=b0) rfl
     have hq:=run_append_grow (P:=P) w t dty e inf z ht.sl hi hz ⟨b0,0,none⟩ m' cap cs ip.1 holds A k qr vy hl hA (by omega) (by omega) (growslice_fits (by omega) xE)
     rw[hr] at hq
     injection hq with _ e1
     rw[e1];first | exact Nat.le_refl _ | exact Nat.le_add_right _ _
  obtain⟨p,rfl⟩:∃ p:Option Addr×Nat,v' = .slice p.1 (m'+k) p.2:=by
   rcases ho.2 with⟨hv,hn⟩ | ⟨b,n7,pA,hv,_⟩
   ·exact⟨(none,0),by rw[hv,hn]⟩
   ·exact⟨(some ⟨b,0,none⟩,n7),by rw[hv]⟩
  refine⟨p,w',?_,trivial,?_⟩
  ·simp[execOp,h.eval hx,h.eval hy,resolve,invoke,builtin,hr]
  ·refine(h.hp.front hm).upd (x:=row (.slice ao m' cap) e inf.size cs) (y:=row (.slice p.1 (m'+k) p.2) e inf.size (cs++vy)) .here Bz.os ⟨Bz.tape,hdr⟩ Bz.output Bz.size ?_ ⟨_,ho⟩ ?_
   ·intro j hj En
    refine Bz.block j hj (fun hc=>En ?_)
    simp[row,<- hc]
   ·intro b hb
    have hb':(Value.slice p.1 (m'+k) p.2).ownBlock=some b:=by simpa [row] using hb
    refine⟨(ho.lt b hb').2,?_⟩
    rcases zs b hb' with h2 | h2
    ·exact .inl (by simp[row,h2])
    ·exact .inr h2
theorem Hp.rowShort{b:Nat}(hm:Pick L (row (.slice (some ⟨b,0,none⟩) m cap) e sz cs) R)(hi:i<=m)(h:Hp F Nv w L):Hp F Nv w (row (.slice (some ⟨b,0,none⟩) i cap) e sz (cs.take (i*sz))::R):=by
 have xD:=(h.rowShape hm).1
 refine(h.front hm).upd (x:=row (.slice (some ⟨b,0,none⟩) m cap) e sz cs) (y:=row (.slice (some ⟨b,0,none⟩) i cap) e sz (cs.take (i*sz))) .here rfl ⟨rfl,Nat.le_refl _⟩ rfl (Nat.le_refl _) (fun _ _ _=>rfl) ?_ ?_
 ·obtain⟨m',ip⟩:=h.ok _ hm.mem
  rcases ip.2 with⟨zI,_⟩ | ⟨b0,n7,pA,zI,Be,Do,Ad,zk,zN,Ak⟩
  ·cases zI
  injection zI with e1 e2 e3
  injection e1 with e1
  injection e1 with e1
  subst e1 e2 e3
  have hmi:i*sz<=m*sz:=Nat.mul_le_mul_right _ hi
  refine⟨i,by simp;omega,.inr ⟨b,cap,pA,rfl,Be,Do,by omega,zk,zN,?_⟩⟩
  rw[<- Ak,List.take_take];congr 1;omega
 ·intro b' hb'
  simp[row,Value.ownBlock] at hb'
  subst hb'
  have:=h.lt _ hm.mem b' (by simp[row,Value.ownBlock])
  exact⟨this,.inl (by simp[row,Value.ownBlock])⟩
theorem Je{b j:Nat}(ht:elT P t e sz tT)(hx:eo env x=some (.slice (some ⟨b,0,none⟩) i cap))(hy:eo env y=some (.slice bo (m-j) qr))(DA:m-j≠0->bo=some (Addr.add ⟨b,0,none⟩ (j*sz)))(hm:Pick L (row (.slice (some ⟨b,0,none⟩) m cap) e sz cs) R)(hij:i<=j)(hjm:j<=m)(h1:∀ u∈cs,u.oneCell'=true)(xE:m*tT<=140737488355328):
  Ef P n F Nv env L ⟨d,.call ⟨.builtin .append,#[x,y],#[t,t]⟩,dty,pos,after,g⟩ (fun _:Option Addr×Nat=>True) (fun p => .slice p.1 (i+(m-j)) p.2) (fun p=>row (.slice p.1 (i+(m-j)) p.2) e sz (cs.take (i*sz)++cs.drop (j*sz))::R):=by
 intro a w h
 obtain⟨xD,Aw,B9,_⟩:=h.hp.rowShape hm
 have hs:=h.world (h.hp.rowShort hm (show i<=m by omega))
 have jy:(cs.drop (j*sz)).length=(m-j)*sz:=by rw[List.length_drop,xD,<- Nat.sub_mul]
 refine KK hs ht hx hy .here jy (fun n9=>?_) (fun u hu=>h1 u (List.mem_of_mem_drop hu)) (by omega) (Nat.le_trans (Nat.mul_le_mul_right _ (by omega)) xE)
 have hk:m-j≠0:=by
  intro hz;rw[hz,Nat.zero_mul] at jy;exact n9 (List.eq_nil_of_length_eq_zero jy)
 refine⟨_,DA hk,fun q u hu=>?_⟩
 obtain⟨m',ip⟩:=h.hp.ok _ hm.mem
 rw[Addr.p9]
 rw[List.getElem?_drop] at hu
 exact ip.cells (g:=b) rfl _ _ hu
theorem Hp.rowLong{b len:Nat}(h1:len<=m)(h2:m<=cap)(h:Hp F Nv w (row (.slice (some ⟨b,0,none⟩) len cap) e sz cs::R)):
  ∃ tl:List Value,Hp F Nv w (row (.slice (some ⟨b,0,none⟩) m cap) e sz (cs++tl)::R):=by
 have hm:Pick (row (.slice (some ⟨b,0,none⟩) len cap) e sz cs::R) (row (.slice (some ⟨b,0,none⟩) len cap) e sz cs) R := .here
 have xD:=(h.rowShape hm).1
 obtain⟨m',ip⟩:=h.ok _ hm.mem
 rcases ip.2 with⟨zI,_⟩ | ⟨b0,n7,pA,zI,Be,Do,Ad,zk,zN,Ak⟩
 ·cases zI
 injection zI with e1 e2 e3
 injection e1 with e1
 injection e1 with e1
 subst e1 e2 e3
 have h3:len*sz<=m*sz:=Nat.mul_le_mul_right _ h1
 have h4:m*sz<=cap*sz:=Nat.mul_le_mul_right _ h2
 have key:cs++(pA.toList.drop (len*sz)).take (m*sz-len*sz)=pA.toList.take (m*sz):=by
  rw[<- Ak,<- List.take_add];congr 1;omega
 refine⟨(pA.toList.drop (len*sz)).take (m*sz-len*sz),?_⟩
 refine(h.front hm).upd (x:=row (.slice (some ⟨b,0,none⟩) len cap) e sz cs) (y:=row (.slice (some ⟨b,0,none⟩) m cap) e sz _) .here rfl ⟨rfl,Nat.le_refl _⟩ rfl (Nat.le_refl _) (fun _ _ _=>rfl) ?_ ?_
 ·refine⟨m,?_,.inr ⟨b,cap,pA,rfl,Be,Do,h2,zk,zN,key.symm⟩⟩
  rw[key,List.length_take,Array.length_toList,zN];omega
 ·intro b' hb'
  simp[row,Value.ownBlock] at hb'
  subst hb'
  have:=h.lt _ hm.mem b' (by simp[row,Value.ownBlock])
  exact⟨this,.inl (by simp[row,Value.ownBlock])⟩
theorem GZ{b j:Nat}(ht:elT P t e sz tT)(hx:eo env x=some (.slice (some ⟨b,0,none⟩) i cap))(hy:eo env y=some (.slice bo (m-j) qr))(DA:m-j≠0->bo=some (Addr.add ⟨b,0,none⟩ (j*sz)))(hm:Pick L (row (.slice (some ⟨b,0,none⟩) m cap) e sz cs) R)(hij:i<=j)(hjm:j<=m)(h1:∀ u∈cs,u.oneCell'=true)(xE:m*tT<=140737488355328):
  Ef P n F Nv env L ⟨d,.call ⟨.builtin .append,#[x,y],#[t,t]⟩,dty,pos,after,g⟩ (fun _:List Value=>True) (fun _ => .slice (some ⟨b,0,none⟩) (i+(m-j)) cap)
   (fun tl=>row (.slice (some ⟨b,0,none⟩) m cap) e sz (cs.take (i*sz)++cs.drop (j*sz)++tl)::R):=by
 intro a w h
 obtain⟨xD,Aw,B9,_⟩:=h.hp.rowShape hm
 obtain⟨p,w',hr,_,hp⟩:=Je (d:=d) (dty:=dty) (pos:=pos) (after:=after) (g:=g) ht hx hy DA hm hij hjm h1 xE a w h
 have jy:(cs.drop (j*sz)).length=(m-j)*sz:=by rw[List.length_drop,xD,<- Nat.sub_mul]
 obtain⟨m',ip⟩:=h.hp.ok _ hm.mem
 have DB:=ip.cells (g:=b) rfl
 obtain⟨inf,z,BB,hz,ne,hb,B4⟩:=ht.inf
 have iT:∃ sE,(execOp a.eval ⟨d,.call ⟨.builtin .append,#[x,y],#[t,t]⟩,dty,pos,after,g⟩).run P w = .ok (.value (.slice (some ⟨b,0,none⟩) (i+(m-j)) cap)) sE:=by
  by_cases hk:m-j=0
  ·rw[hk] at hy ⊢
   have qm:i<=cap:=by omega
   refine⟨w,?_⟩
   cases bo <;> simp[execOp,h.eval hx,h.eval hy,resolve,invoke,builtin,Builtin.append_,run_underlying ht.sl,Go.sizeOf,typeInfo,BB,Builtin.lenOf,Builtin.firstCells,qm,loadCells,loadCellsFrom,storeCells]
  ·rcases ip.2 with⟨zI,_⟩ | ⟨b0,n7,pA,zI,Be,Do,Ad,zk,zN,Ak⟩
   ·cases zI
   injection zI with e1 e2 e3
   injection e1 with e1
   injection e1 with e1
   subst e1 e2 e3
   have hbo':=DA hk
   subst hbo'
   subst ne
   have xF:i*inf.size+(cs.drop (j*inf.size)).length<=pA.size:=by rw[jy,zN,<- Nat.add_mul];exact Nat.mul_le_mul_right _ (by omega)
   have hq:=run_append_room (P:=P) w t dty e inf ht.sl BB b i cap pA Do (Addr.add ⟨b,0,none⟩ (j*inf.size)) (m-j) qr (cs.drop (j*inf.size)) jy (fun q u hu=>by
    rw[Addr.p9]
    rw[List.getElem?_drop] at hu
    exact DB _ _ hu) (fun u hu=>h1 u (List.mem_of_mem_drop hu)) (by omega) xF
   obtain⟨w2,Bi⟩:∃ w2,(Builtin.append_ #[t,t] dty #[.slice (some ⟨b,0,none⟩) i cap,.slice (some (Addr.add ⟨b,0,none⟩ (j*inf.size))) (m-j) qr]).run P w = .ok (.slice (some ⟨b,0,none⟩) (i+(m-j)) cap) w2:=⟨_,hq⟩
   exact⟨w2,by simp[execOp,h.eval hx,h.eval hy,resolve,invoke,builtin,Bi]⟩
 obtain⟨sE,CY⟩:=iT
 rw[hr] at CY
 injection CY with e1 e2
 injection e1 with e1
 injection e1 with e3 _ e4
 dsimp only at hp hr
 rw[e3,e4] at hp hr
 obtain⟨tl,Ej⟩:=hp.rowLong (m:=m) (by omega) Aw
 exact⟨tl,w',hr,trivial,Ej⟩
theorem Ue{ao:Option Addr}{k1 k2 k3:IntKind}{lo hi mx:Int}{lx hx' mx':Operand}(ht:elT P t e sz tT)(hx:eo env x=some (.slice ao m cap))(hl:eo env lx=some (.int k1 lo))(hh:eo env hx'=some (.int k2 hi))(hm:eo env mx'=some (.int k3 mx))(h0:0<=lo)(h1:lo<=hi)(h2:hi<=mx)(h3:mx<=(cap:Int)):
  Qt P n F Nv env L ⟨d,.slice t x (some lx) (some hx') (some mx'),ty,pos,after,g⟩ (.slice (if mx.toNat=lo.toNat then ao else ao.map (·.add (lo.toNat*sz))) (hi.toNat-lo.toNat) (mx.toNat-lo.toNat)):=by
 intro a w h
 obtain⟨inf,z,BB,hz,ne,hb,B4⟩:=ht.inf
 have q1:hi<=((mx.toNat:Nat):Int):=by omega
 have q2:lo<=((hi.toNat:Nat):Int):=by omega
 have q3:0<=hi:=by omega
 have q4:0<=mx:=by omega
 simp[execOp,h.eval hx,h.eval hl,h.eval hh,h.eval hm,Instr.sliceAt,Instr.slice,Instr.sliceBounds,Instr.sliceBound,run_underlying ht.sl,Go.sizeOf,typeInfo,BB,ne,asIntOf,h0,h3,q1,q2,q3,q4]
 rw[if_pos (by omega),if_pos (by omega)]
end
end
end Sep

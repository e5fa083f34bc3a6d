/- A part of this claim's proof: a symbolic heap of what a call owns, and the judgements over it. No conditions. -/
import Derived.WalkKit
import Derived.TacticsIn
import Derived.OrdersIn
import Derived.RangeFuncRecord
import Derived.RangeFuncCalls
import Derived.WalkSpells
import Derived.WalkLawsBesides
import Derived.Deep.Quiet
import Derived.Laws.AppendOwnNone
set_option linter.all false
namespace Sep
open Go Go.RowKit
section
class Ej{α:Type _}(a:α)(b:outParam α):Prop where h:a=b
instance{α:Type _}{a:α}:Ej a a:=⟨rfl⟩
structure Asrt where
 fp:List Nat
 ok:World->Prop
 loc:∀ w w':World,(∀ b∈fp,b<w.heap.size->w'.heap[b]?=w.heap[b]?)->(∀ b∈fp,b<w.heap.size)->ok w->ok w'
variable {α G:Type}{w':World}{i m:Nat}{K:Act->World->Prop}{M L':List Asrt}{f:FuncId}{y:Code}
def wA(b:Nat)(o:Obj):Asrt where
 fp:=[b]
 ok w:=w.heap[b]?=some o
 loc w w' h hl hk:=by rw[h b (by simp) (hl b (by simp))];exact hk
def row(v:Value)(e:TypeId)(sz:Nat)(cs:List Value):Asrt where
 fp:=v.ownBlock.toList
 ok w:=∃ n e',w.ownsRow 0 e' sz v n cs
 loc w w' h hl hk:=by
  obtain⟨n,e',h1,h2⟩:=hk
  refine⟨n,e',h1,?_⟩
  rcases h2 with h2 | ⟨g,cap,nZ,hv,hg,hh,r⟩
  ·exact .inl h2
  ·have hm:g∈v.ownBlock.toList:=by subst hv;simp[Value.ownBlock]
   exact .inr ⟨g,cap,nZ,hv,hg,by rw[h g hm (hl g hm)];exact hh,r⟩
structure TD (Ek w:World):Prop where
 t:w.tape=Ek.tape
 d:Ek.drawn<=w.drawn
theorem TD.trans{a b c:World}(h:TD b c)(k:TD a b):TD a c:=⟨h.t.trans k.t,Nat.le_trans k.d h.d⟩
theorem TD.refl(w:World):TD w w:=⟨rfl,Nat.le_refl _⟩
structure Hp (F:List Nat) (Ek w:World) (L:List Asrt):Prop where
 os:w.os=Ek.os
 tape:TD Ek w
 output:w.output=Ek.output
 size:Ek.heap.size<=w.heap.size
 block:∀ k,k<Ek.heap.size->k∉F->w.heap[k]?=Ek.heap[k]?
 ok:∀ x∈L,x.ok w
 lt:∀ x∈L,∀ b∈x.fp,b<w.heap.size
 ow:∀ x∈L,∀ b∈x.fp,b∈F\/Ek.heap.size<=b
 sep:L.Pairwise fun x y=>∀ b∈x.fp,b∉y.fp
theorem Hp.nil(w:World)(F:List Nat):Hp F w w []:=
 ⟨rfl,TD.refl _,rfl,Nat.le_refl _,fun _ _ _=>rfl,by simp,by simp,by simp,.nil⟩
theorem Hp.below{Ek w:World}{L:List Asrt}(h:Hp [] Ek w L):Below Ek.heap.size Ek w:=
 ⟨h.os,h.tape.t,h.output,h.size,fun k hk=>h.block k hk (by simp)⟩
structure Ext (w w':World):Prop where
 os:w'.os=w.os
 tape:TD w w'
 output:w'.output=w.output
 size:w.heap.size<=w'.heap.size
 block:∀ k,k<w.heap.size->w'.heap[k]?=w.heap[k]?
theorem Ext.refl(w:World):Ext w w:=⟨rfl,TD.refl _,rfl,Nat.le_refl _,fun _ _=>rfl⟩
theorem Ext.trans{a b c:World}(h:Ext a b)(k:Ext b c):Ext a c:=
 ⟨k.os.trans h.os,k.tape.trans h.tape,k.output.trans h.output,Nat.le_trans h.size k.size,
  fun i hi=>(k.block i (Nat.lt_of_lt_of_le hi h.size)).trans (h.block i hi)⟩
theorem Ext.drew(w:World)(n:Nat)(h:w.drawn<=n):Ext w { w with drawn:=n }:=⟨rfl,⟨rfl,h⟩,rfl,Nat.le_refl _,fun _ _=>rfl⟩
theorem Ext.alloc(w:World)(o:Obj):Ext w (w.alloc o):=⟨rfl,⟨rfl,Nat.le_refl _⟩,rfl,by simp,fun k hk=>Below.heap_alloc _ _ _ hk⟩
theorem Hp.ext{F:List Nat}{Ek w:World}{L:List Asrt}(h:Hp F Ek w L)(e:Ext w w'):Hp F Ek w' L:=
 ⟨e.os.trans h.os,e.tape.trans h.tape,e.output.trans h.output,Nat.le_trans h.size e.size,
  fun k hk hf=>(e.block k (Nat.lt_of_lt_of_le hk h.size)).trans (h.block k hk hf),
  fun x hx=>x.loc w w' (fun b _ hl=>e.block b hl) (h.lt x hx) (h.ok x hx),
  fun x hx b hb=>Nat.lt_of_lt_of_le (h.lt x hx b hb) e.size,h.ow,h.sep⟩
theorem Hp.toExt{Ek w:World}{L:List Asrt}(h:Hp [] Ek w L):Ext Ek w:=
 ⟨h.os,h.tape,h.output,h.size,fun k hk=>h.block k hk (by simp)⟩
inductive Pick {α:Type}:List α->α->List α->Prop
 | here {x:α} {R:List α}:Pick (x::R) x R
 | there {x y:α} {L R:List α} (h:Pick L x R):Pick (y::L) x (y::R)
theorem Pick.h1{a0 x:α}{R:List α}:Pick (a0::x::R) x (a0::R) := .there .here
theorem Pick.h2{a0 a1 x:α}{R:List α}:Pick (a0::a1::x::R) x (a0::a1::R) := .there .h1
theorem Pick.h3{a0 a1 a2 x:α}{R:List α}:Pick (a0::a1::a2::x::R) x (a0::a1::a2::R) := .there .h2
theorem Pick.h4{a0 a1 a2 a3 x:α}{R:List α}:Pick (a0::a1::a2::a3::x::R) x (a0::a1::a2::a3::R) := .there .h3
theorem Pick.h5{a0 a1 a2 a3 a4 x:α}{R:List α}:Pick (a0::a1::a2::a3::a4::x::R) x (a0::a1::a2::a3::a4::R) := .there .h4
theorem Pick.h6{a0 a1 a2 a3 a4 a5 x:α}{R:List α}:Pick (a0::a1::a2::a3::a4::a5::x::R) x (a0::a1::a2::a3::a4::a5::R) := .there .h5
theorem Pick.h7{a0 a1 a2 a3 a4 a5 a6 x:α}{R:List α}:Pick (a0::a1::a2::a3::a4::a5::a6::x::R) x (a0::a1::a2::a3::a4::a5::a6::R) := .there .h6
inductive Sel {α:Type}:List α->List α->List α->Prop
 | nil {L:List α}:Sel L [] L
 | cons {x:α} {L R L' M:List α} (h:Pick L x R) (t:Sel R L' M):Sel L (x::L') M
theorem Pick.perm{L R:List α}{x:α}(h:Pick L x R):L.Perm (x::R):=by
 induction h with
 | here=>exact .refl _
 | there _ ih=>exact(List.Perm.cons _ ih).trans (List.Perm.swap ..)
theorem Sel.perm{α:Type}{L L' M:List α}(h:Sel L L' M):L.Perm (L'++M):=by
 induction h with
 | nil=>exact .refl _
 | cons h _ ih=>exact h.perm.trans (List.Perm.cons _ ih)
theorem Sel.all{L:List α}:Sel L L []:=by
 induction L with
 | nil=>exact .nil
 | cons x L ih=>exact .cons .here ih
theorem Hp.sub{F:List Nat}{Ek w:World}{L:List Asrt}(h:Hp F Ek w L)(hs:Sel L L' M):Hp F Ek w L':=by
 have hM:=hs.perm
 have hm:∀ x∈L',x∈L:=fun x hx=>hM.mem_iff.2 (List.mem_append_left _ hx)
 have hp:(L'++M).Pairwise fun x y=>∀ b∈x.fp,b∉y.fp:=
  (List.Perm.pairwise_iff (fun {x y} hxy b hb hc=>hxy b hc hb) hM).1 h.sep
 exact⟨h.os,h.tape,h.output,h.size,h.block,fun x hx=>h.ok x (hm x hx),fun x hx=>h.lt x (hm x hx),fun x hx=>h.ow x (hm x hx),
  (List.pairwise_append.1 hp).1⟩
theorem Hp.call{F:List Nat}{Ek w:World}{L Lc Lr:List Asrt}(h:Hp F Ek w L)(hs0:Sel L Lc Lr)(c:Hp (Lc.flatMap (·.fp)) w w' M):Hp F Ek w' (M++Lr):=by
 have hs:=hs0.perm
 have BR:∀ x∈Lc,x∈L:=fun x hx=>hs.mem_iff.2 (List.mem_append_left _ hx)
 have Co:∀ x∈Lr,x∈L:=fun x hx=>hs.mem_iff.2 (List.mem_append_right _ hx)
 have hp:(Lc++Lr).Pairwise fun x y=>∀ b∈x.fp,b∉y.fp:=
  (List.Perm.pairwise_iff (fun {x y} hxy b hb hc=>hxy b hc hb) hs).1 h.sep
 obtain⟨_,Cp,hcr⟩:=List.pairwise_append.1 hp
 have vw:∀ x∈Lr,∀ b∈x.fp,b∉Lc.flatMap (·.fp):=fun x hx b hb hc=>by
  obtain⟨y,hy,zf⟩:=List.mem_flatMap.1 hc
  exact hcr y hy x hx b zf hb
 have hF:∀ b∈Lc.flatMap (·.fp),b∈F\/Ek.heap.size<=b:=fun b hb=>by
  obtain⟨y,hy,zf⟩:=List.mem_flatMap.1 hb
  exact h.ow y (BR y hy) b zf
 refine⟨c.os.trans h.os,c.tape.trans h.tape,c.output.trans h.output,Nat.le_trans h.size c.size,?_,?_,?_,?_,?_⟩
 ·intro k hk hf
  rw[c.block k (Nat.lt_of_lt_of_le hk h.size) (fun hc=>by
   rcases hF k hc with h1 | h1
   ·exact hf h1
   ·omega)]
  exact h.block k hk hf
 ·intro x hx
  rcases List.mem_append.1 hx with hx | hx
  ·exact c.ok x hx
  ·exact x.loc w w' (fun b hb hl=>c.block b hl (vw x hx b hb)) (h.lt x (Co x hx)) (h.ok x (Co x hx))
 ·intro x hx b hb
  rcases List.mem_append.1 hx with hx | hx
  ·exact c.lt x hx b hb
  ·exact Nat.lt_of_lt_of_le (h.lt x (Co x hx) b hb) c.size
 ·intro x hx b hb
  rcases List.mem_append.1 hx with hx | hx
  ·rcases c.ow x hx b hb with h1 | h1
   ·exact hF b h1
   ·exact .inr (Nat.le_trans h.size h1)
  ·exact h.ow x (Co x hx) b hb
 ·refine List.pairwise_append.2 ⟨c.sep,Cp,fun x hx y hy b hb hc=>?_⟩
  rcases c.ow x hx b hb with h1 | h1
  ·exact vw y hy b hc h1
  ·have:=h.lt y (Co y hy) b hc;omega
def lk:List (Nat×Value)->Nat->Option Value
 | [],_=>none
 | (j,v)::r,i=>bif Nat.beq i j then some v else lk r i
def eo(env:List (Nat×Value)):Operand->Option Value
 | .tmp t=>lk env t
 | .const v=>some v
 | .global g=>some (.pointer (some ⟨g,0,none⟩))
 | .func f=>some (.func (.func f) #[] #[])
theorem pn{d:Nat}(h:i≠d):Nat.beq i d=false:=by
 cases hb:Nat.beq i d with
 | false=>rfl
 | true=>exact absurd (Nat.eq_of_beq_eq_true hb) h
def Ev(env:List (Nat×Value))(tmps:Array Value):Prop:=∀ i v,lk env i=some v->tmps[i]?=some v
theorem Ev.put{env:List (Nat×Value)}{tmps:Array Value}(h:Ev env tmps)(d:Nat)(v:Value)(hd:d<tmps.size):
  Ev ((d,v)::env) (tmps.setIfInBounds d v):=by
 intro i u hu
 simp only[lk] at hu
 by_cases hi:i=d
 ·subst hi
  simp at hu;subst hu
  simp[hd]
 ·have:Nat.beq i d=false:=pn hi
  rw[this] at hu
  rw[Array.getElem?_setIfInBounds_ne (fun e=>hi e.symm)]
  exact h i u hu
class Rnd where
 r:Option Nat
 ds:List Deferred
instance Rnd.base:Rnd:=⟨none,[]⟩
def FN[R:Rnd]:Fence:={ fn:=fun _=>True,depth:=none,alive:=false,round:=R.r }
variable [Rnd]
theorem Vq{P:Program}{args:Array Value}{w:World}{R:Ending->World->Prop}(h:Calls P f args w R):CallsIn FN m P f args w R:=
 (callsIn_wide (n:=m)).2 h
theorem QW{P:Program}{args:Array Value}{w:World}{R:Ending->World->Prop}(h:CallsIn FN m P f args w R):Calls P f args w R:=
 (callsIn_wide (n:=m)).1 h
structure SS (n:Nat) (F:List Nat) (Ek:World) (env:List (Nat×Value)) (L:List Asrt) (a:Act) (w:World):Prop where
 defers:a.defers=Rnd.ds
 size:a.tmps.size=n
 ev:Ev env a.tmps
 hp:Hp F Ek w L
section
variable {n:Nat} {F:List Nat} {Ek:World} {env:List (Nat×Value)} {L:List Asrt} {a:Act} {w:World}
theorem SS.get(h:SS n F Ek env L a w){t:Nat}{v:Value}(hv:lk env t=some v):a.tmps.getD t undef=v:=by
 have:=h.ev t v hv
 simp[Array.getD_eq_getD_getElem?,this]
theorem SS.eval(h:SS n F Ek env L a w){x:Operand}{v:Value}(hv:eo env x=some v):a.eval x=v:=by
 cases x with
 | tmp t=>exact h.get hv
 | const c=>simpa [eo,Act.eval] using hv
 | global g=>simpa [eo,Act.eval] using hv
 | func f=>simpa [eo,Act.eval] using hv
theorem SS.put(h:SS n F Ek env L a w){d:Nat}(hd:Nat.blt d n=true)(v:Value){L':List Asrt}{w':World}(hp:Hp F Ek w' L'):
  SS n F Ek ((d,v)::env) L' (a.put (some d) v) w':=by
 have hd':d<a.tmps.size:=by rw[h.size];simpa [Nat.blt_eq] using hd
 exact⟨h.defers,by simp[Act.put,h.size],h.ev.put d v hd',hp⟩
theorem SS.world(h:SS n F Ek env L a w)(hp:Hp F Ek w' L'):SS n F Ek env L' a w':=⟨h.defers,h.size,h.ev,hp⟩
inductive Restr (env:List (Nat×Value)):List (Nat×Value)->Prop
 | nil:Restr env []
 | cons {i:Nat} {v:Value} {r:List (Nat×Value)} (h:lk env i=some v) (t:Restr env r):Restr env ((i,v)::r)
theorem Restr.lk{env env':List (Nat×Value)}(h:Restr env env'):∀ i v,lk env' i=some v->lk env i=some v:=by
 induction h with
 | nil=>intro i v h;cases h
 | @cons j u r h t ih=>
  intro i v hv
  simp only[Sep.lk] at hv
  by_cases hi:i=j
  ·subst hi;simp at hv;subst hv;exact h
  ·have:Nat.beq i j=false:=pn hi
   rw[this] at hv
   exact ih i v hv
theorem SS.restr{env':List (Nat×Value)}(h:SS n F Ek env L a w)(hr:Restr env env'):SS n F Ek env' L a w:=
 ⟨h.defers,h.size,fun i v hv=>h.ev i v (hr.lk i v hv),h.hp⟩
theorem SS.drop{L' M:List Asrt}(h:SS n F Ek env L a w)(hs:Sel L L' M):SS n F Ek env L' a w:=⟨h.defers,h.size,h.ev,h.hp.sub hs⟩
end
def gd(env:List (Nat×Value))(ops:Array Oper)(o:Oper):Option Bool:=
 match o.guard with
 | none=>some true
 | some (j,b)=>match ops[j]? with
  | none=>none
  | some oj=>match oj.dst with
   | none=>none
   | some d=>match lk env d with
    | some (.bool c)=>some (bif b then c else !c)
    | some (.tuple _)=>some false
    | _=>none
theorem js{env:List (Nat×Value)}{ops:Array Oper}{o:Oper}{r:Bool}{n:Nat}{F:List Nat}{Ek:World}{L:List Asrt}{a:Act}{w:World}(h:SS n F Ek env L a w)(hg:gd env ops o=some r):Region.wanted o (yielded ops a.tmps)=r:=by
 unfold gd at hg
 cases hgd:o.guard with
 | none=>rw[hgd] at hg;simp[Region.wanted,hgd] at hg ⊢;exact hg
 | some p=>
  obtain⟨j,b⟩:=p
  rw[hgd] at hg
  simp only at hg
  split at hg
  ·cases hg
  ·rename_i oj hj
   split at hg
   ·cases hg
   ·rename_i d hd
    split at hg
    ·rename_i c hc
     have:=h.ev d _ hc
     simp only[Region.wanted,hgd,yielded,hj,hd,this,Option.bind_some]
     cases b <;> cases c <;> simp_all
    ·rename_i vs hc
     have:=h.ev d _ hc
     simp only[Region.wanted,hgd,yielded,hj,hd,this,Option.bind_some]
     simp_all
    ·cases hg
def WL(P:Program)(n:Nat)(F:List Nat)(Ek:World)(ops:Array Oper)(Q:Exit->Act->World->Prop)(l:List Oper)(env:List (Nat×Value))(L:List Asrt):Prop:=∀ a w,SS n F Ek env L a w->wpListIn FN 0 P ops Q l a w
def WC(P:Program)(n:Nat)(F:List Nat)(Ek:World)(Q:Exit->Act->World->Prop)(c:Code)(env:List (Nat×Value))(L:List Asrt):Prop:=∀ a w,SS n F Ek env L a w->c.wpIn FN 0 P Q a w
def WX(n:Nat)(F:List Nat)(Ek:World)(Q:Exit->Act->World->Prop)(e:Exit)(env:List (Nat×Value))(L:List Asrt):Prop:=∀ a w,SS n F Ek env L a w->Q e a w
section
variable {P:Program} {n:Nat} {F:List Nat} {Ek:World} {ops:Array Oper} {Q:Exit->Act->World->Prop} {na:List Oper}
 {env:List (Nat×Value)} {L:List Asrt} {o:Oper}
theorem WL.nil(k:WX n F Ek Q .normal env L):WL P n F Ek ops Q [] env L:=k
theorem lz{P:Program}{ρ:Operand->Value}{o:Oper}{x:Next}{w:World}(ro:Option Nat)(h:(execOp ρ o).run P w = .ok x w')(hx:∀ d,x ≠ .defer d):
  (o.semAt ro ρ).run P w = .ok x w':=by
 by_cases hd:∃ c,o.op = .defer c
 ·obtain⟨c,hc⟩:=hd
  exfalso
  unfold execOp at h
  rw[hc] at h
  simp only[Sem.run_bind] at h
  cases hr:(resolve ρ c o.type).run P w with
  | ok y w1=>rw[hr] at h;simp[Result.andThen] at h;exact hx _ h.1.symm
  | halt y w1=>rw[hr] at h;simp[Result.andThen] at h
 ·rw[Oper.semAt_eq _ _ _ (fun c hc=>hd ⟨c,hc⟩)];exact h
theorem aj{a:Act}{w:World}{v:Value}(h:(execOp a.eval o).run P w = .ok (.value v) w')(k:K (a.put o.dst v) w'):o.wpIn FN 0 P a w K Q:=by
 refine⟨fun _ _=>trivial,?_⟩
 rw[lz _ h (fun d e=>by cases e)];exact k
theorem QX{a:Act}{w:World}(h:(execOp a.eval o).run P w = .ok .skip w')(k:K (a.put o.dst undef) w'):o.wpIn FN 0 P a w K Q:=by
 refine⟨fun _ _=>trivial,?_⟩
 rw[lz _ h (fun d e=>by cases e)];exact k
theorem QY{a:Act}{w:World}{vs:Array Value}(h:(execOp a.eval o).run P w = .ok (.enter f vs) w')(k:Calls P f vs w' fun e rx=>∃ v,e = .returned v/\K (a.put o.dst v) rx):o.wpIn FN 0 P a w K Q:=by
 refine⟨fun _ _=>trivial,?_⟩
 rw[lz _ h (fun d e=>by cases e),Oper.uponIn_enter]
 refine⟨fun h=>by simp[FN] at h,(Vq k).mono ?_⟩
 rintro e rx ⟨v,rfl,hk⟩;exact hk
theorem lA{a:Act}{w:World}(hg:Region.wanted o (yielded ops a.tmps)=true)(h:o.wpIn FN 0 P a w (wpListIn FN 0 P ops Q na) Q):wpListIn FN 0 P ops Q (o::na) a w:=by
 unfold wpListIn
 rw[if_pos hg]
 exact h
theorem Hr{v:Value}{d:Nat}(hg:gd env ops o=some true)(hd:o.dst=some d)(ng:Nat.blt d n=true)(hq:∀ a w,SS n F Ek env L a w->(execOp a.eval o).run P w = .ok (.value v) w)(k:WL P n F Ek ops Q na ((d,v)::env) L):WL P n F Ek ops Q (o::na) env L:=by
 intro a w h
 refine lA (js h hg) ?_
 refine aj (hq a w h) ?_
 rw[hd]
 exact k _ _ (h.put ng v h.hp)
theorem Hx{φ:G->Prop}{val:G->Value}{L':G->List Asrt}{d:Nat}(hg:gd env ops o=some true)(hd:o.dst=some d)(ng:Nat.blt d n=true)(hq:∀ a w,SS n F Ek env L a w->∃ g w',(execOp a.eval o).run P w = .ok (.value (val g)) w'/\φ g/\Hp F Ek w' (L' g))(k:∀ g,φ g->WL P n F Ek ops Q na ((d,val g)::env) (L' g)):WL P n F Ek ops Q (o::na) env L:=by
 intro a w h
 refine lA (js h hg) ?_
 obtain⟨g,w',hr,tt,hp⟩:=hq a w h
 refine aj hr ?_
 rw[hd]
 exact k g tt _ _ (h.put ng _ hp)
def nn(P:Program)(o:Oper)(a:Act)(w w':World):Prop:=(execOp a.eval o).run P w = .ok .skip w'\/∃ v,(execOp a.eval o).run P w = .ok (.value v) w'
theorem Ll[hg:Ej (gd env ops o) (some true)][hd:Ej o.dst none](hq:∀ a w,SS n F Ek env L a w->∃ w',nn P o a w w'/\Hp F Ek w' L')(k:WL P n F Ek ops Q na env L'):WL P n F Ek ops Q (o::na) env L:=by
 intro a w h
 refine lA (js h hg.1) ?_
 obtain⟨w',hr,hp⟩:=hq a w h
 rcases hr with hr | ⟨v,hr⟩
 ·refine QX hr ?_;rw[hd.1];exact k a w' (h.world hp)
 ·refine aj hr ?_;rw[hd.1];exact k a w' (h.world hp)
theorem E3{G:Type}{φ:G->Prop}{val:G->Value}{M:G->List Asrt}{f:FuncId}{vs:Array Value}{Lc Lr:List Asrt}{d:Nat}(hg:gd env ops o=some true)(hd:o.dst=some d)(ng:Nat.blt d n=true)(kA:∀ a w,SS n F Ek env L a w->(execOp a.eval o).run P w = .ok (.enter f vs) w)(hs:Sel L Lc Lr)(hc:∀ w,Hp F Ek w L->Calls P f vs w fun e w'=>∃ g,e = .returned (val g)/\φ g/\Hp (Lc.flatMap (·.fp)) w w' (M g))(k:∀ g,φ g->WL P n F Ek ops Q na ((d,val g)::env) (M g++Lr)):WL P n F Ek ops Q (o::na) env L:=by
 intro a w h
 refine lA (js h hg) ?_
 refine QY (kA a w h) ((hc w h.hp).mono ?_)
 rintro e w' ⟨g,rfl,tt,hp⟩
 refine⟨_,rfl,?_⟩
 rw[hd]
 exact k g tt _ _ (h.put ng _ (h.hp.call hs hp))
theorem E5{d:Nat}(hg:gd env ops o=some false)(hd:o.dst=some d)[ng:Ej (Nat.blt d n) true](k:WL P n F Ek ops Q na ((d,undef)::env) L):WL P n F Ek ops Q (o::na) env L:=by
 intro a w h
 unfold wpListIn
 rw[if_neg (by rw[js h hg];simp),hd]
 exact⟨fun _ _=>trivial,k _ _ (h.put ng.1 undef h.hp)⟩
theorem WL.restr{env':List (Nat×Value)}{l:List Oper}(hr:Restr env env')(k:WL P n F Ek ops Q l env' L):WL P n F Ek ops Q l env L:=
 fun a w h=>k a w (h.restr hr)
theorem WL.drop{L' M:List Asrt}{l:List Oper}(hs:Sel L L' M)(k:WL P n F Ek ops Q l env L'):WL P n F Ek ops Q l env L:=
 fun a w h=>k a w (h.drop hs)
theorem WC.restr{env':List (Nat×Value)}{c:Code}(hr:Restr env env')(k:WC P n F Ek Q c env' L):WC P n F Ek Q c env L:=
 fun a w h=>k a w (h.restr hr)
theorem WC.drop{L' M:List Asrt}{c:Code}(hs:Sel L L' M)(k:WC P n F Ek Q c env L'):WC P n F Ek Q c env L:=
 fun a w h=>k a w (h.drop hs)
theorem Le{id:Nat}{l:List Oper}(k:WL P n F Ek l.toArray Q l env L):WC P n F Ek Q (.region id l.toArray false) env L:=
 fun a w h=>wpIn_region_lit (k a w h)
theorem Lb{x:Code}(k:WC P n F Ek (Exit.then (fun a w=>y.wpIn FN 0 P Q a w) Q) x env L):WC P n F Ek Q (.seq x y) env L:=
 fun a w h=>wpIn_seq (k a w h)
theorem Ld(k:WC P n F Ek Q y env L):WX n F Ek (Exit.then (fun a w=>y.wpIn FN 0 P Q a w) Q) .normal env L:=k
theorem Ln(k:WX n F Ek Q (.exit i) env L):WX n F Ek (Exit.then K Q) (.exit i) env L:=k
theorem L4(k:WX n F Ek Q .ret env L):WX n F Ek (Exit.then K Q) .ret env L:=k
theorem Ep(k:WX n F Ek Q .normal env L):WC P n F Ek Q .skip env L:=fun a w h=>wpIn_skip (k a w h)
theorem Ec(k:WC P n F Ek Q y env L):WC P n F Ek (Exit.then (fun a w=>y.wpIn FN 0 P Q a w) Q) .skip env L:=Ep (Ld k)
theorem El(k:WX n F Ek Q .ret env L):WC P n F Ek Q .ret env L:=fun a w h=>wpIn_ret (k a w h)
theorem En{i:Nat}(k:WX n F Ek Q (.exit i) env L):WC P n F Ek Q (.exit i) env L:=fun a w h=>wpIn_exit (k a w h)
theorem WC.block{i:Nat}{c:Code}(k:WC P n F Ek (Exit.inBlock i Q) c env L):WC P n F Ek Q (.block i c) env L:=fun a w h=>wpIn_block (k a w h)
theorem Lq(k:WX n F Ek Q .normal env L):WX n F Ek (Exit.inBlock i Q) .normal env L:=k
theorem Nc(k:WX n F Ek Q .ret env L):WX n F Ek (Exit.inBlock i Q) .ret env L:=k
theorem Lu(k:WX n F Ek Q .normal env L):WX n F Ek (Exit.inBlock i Q) (.exit i) env L:=by
 intro a w h;simp only[Exit.inBlock,if_true];exact k a w h
theorem Hc{j:Nat}(zR:Nat.beq j i=false)(k:WX n F Ek Q (.exit j) env L):WX n F Ek (Exit.inBlock i Q) (.exit j) env L:=by
 intro a w h
 have:j≠i:=by intro e;subst e;simp at zR
 simp only[Exit.inBlock,this,if_false];exact k a w h
theorem Er{c:Operand}{x y:Code}{b:Bool}[hc:Ej (eo env c) (some (.bool b))](ht:b=true->WC P n F Ek Q x env L)(hf:b=false->WC P n F Ek Q y env L):
  WC P n F Ek Q (.cond c x y) env L:=by
 intro a w h
 refine wpIn_cond_split (h.eval hc.1) (fun e=>ht e a w h) (fun e=>hf e a w h)
theorem Nw(φ:G->Prop)(f9:G->List (Nat×Value))(LI:G->List Asrt){x:Code}(k1:WC P n F Ek (Exit.then (fun a w=>∃ g,φ g/\SS n F Ek (f9 g) (LI g) a w) Q) x env L)(k2:∀ g,φ g->WC P n F Ek Q y (f9 g) (LI g)):WC P n F Ek Q (.seq x y) env L:=by
 intro a w h
 refine wpIn_seq (Go.wpIn_mono (k1 a w h) ?_)
 intro e a' w' hq
 cases e with
 | normal=>obtain⟨g,tt,hs⟩:=hq;exact k2 g tt a' w' hs
 | _=>exact hq
theorem Lp{φ:G->Prop}{f9:G->List (Nat×Value)}{LI:G->List Asrt}(g:G)(tt:φ g)(hr:Restr env (f9 g))(hL:Sel L (LI g) M):
  WX n F Ek (Exit.then (fun a w=>∃ g,φ g/\SS n F Ek (f9 g) (LI g) a w) Q) .normal env L:=
 fun _ _ h=>⟨g,tt,(h.restr hr).drop hL⟩
theorem E0{G:Type}(φ:G->Prop)(f9:G->List (Nat×Value))(LI:G->List Asrt)(μ:G->Nat){c:Code}(lN:G)(h0:φ lN)(hr:Restr env (f9 lN)){M:List Asrt}(hL:Sel L (LI lN) M)(round:∀ g,φ g->WC P n F Ek (Exit.then (fun a w=>∃ g',(φ g'/\μ g'<μ g)/\SS n F Ek (f9 g') (LI g') a w) Q) c (f9 g) (LI g)):
  WC P n F Ek Q (.loop c) env L:=by
 intro a w h b k cs BC hb AM
 have key:∀ m g,μ g=m->φ g->∀ a w,SS n F Ek (f9 g) (LI g) a w->
   ∃ e a' w',Q e a' w'/\ArrivesIn (Machine.fenced P FN) P (lone (b.atR a (.code c :: .inLoop c::k)) cs w) b k cs e a' w':=by
  intro m
  induction m using Nat.strongRecOn with
  | _ m ih=>
   intro g hm tt a w h
   obtain⟨e,so,sA,hq,re⟩:=round g tt a w h b (.inLoop c::k) cs BC hb AM
   cases e with
   | normal=>
    obtain⟨g',⟨zJ,tW⟩,hs⟩:=hq
    obtain⟨AN,AO,zU,zV,wF⟩:=ih (μ g') (hm▸tW) g' rfl zJ so sA hs
    exact⟨AN,AO,zU,zV,.of_steps (StepsIn.trans re (.one (fenced_calm hb AM rfl) stepR_inLoop)) wF⟩
   | exit id=>exact⟨_,so,sA,hq,.pass (x := .inLoop c) rfl (fun _ _ => .inl (by simp)) re⟩
   | goto l=>exact⟨_,so,sA,hq,.pass (x := .inLoop c) rfl (fun _ _ => .inl (by simp)) re⟩
   | ret=>exact⟨_,so,sA,hq,.pass (x := .inLoop c) rfl (fun _ _ => .inl (by simp)) re⟩
   | panic ch=>exact⟨_,so,sA,hq,.pass (x := .inLoop c) rfl (fun _ _ => .inl (by simp)) re⟩
   | outgrown=>exact⟨_,so,sA,hq,.pass (x := .inLoop c) rfl (fun _ _ => .inl (by simp)) re⟩
 obtain⟨e,a',w',hq,re⟩:=key _ lN rfl h0 a w ((h.restr hr).drop hL)
 exact⟨e,a',w',hq,.of_steps (.one (fenced_calm hb AM rfl) stepR_loop) re⟩
theorem Em{φ:G->Prop}{f9:G->List (Nat×Value)}{LI:G->List Asrt}{μ:G->Nat}(g:G)(tt:φ g)(hμ:μ g<m)(hr:Restr env (f9 g))(hL:Sel L (LI g) M):
  WX n F Ek (Exit.then (fun a w=>∃ g',(φ g'/\μ g'<m)/\SS n F Ek (f9 g') (LI g') a w) Q) .normal env L:=
 fun _ _ h=>⟨g,⟨tt,hμ⟩,(h.restr hr).drop hL⟩
end
theorem oJ{α:Type _}{a b:α}(h:some a=some b):a=b:=Option.some.inj h
theorem oB{α:Type _}{β:Type _}(a:α)(f:α->Option β):(some a).bind f=f a:=rfl
abbrev vi (n:Int):Value:=.int .i64 n
abbrev vp (b:Nat):Value:=.pointer (some ⟨b, 0, none⟩)
abbrev vq (a:Addr):Value:=.pointer (some a)
abbrev vn:Value:=.slice none 0 0
theorem U {α : Sort _} {a : α} : a = a := rfl
def bz (a b:Nat):Array Bool:=(List.replicate a true ++ List.replicate b false).toArray
def dn:Nat -> List Nat
  | 0 => []
  | n + 1 => n :: dn n
abbrev vI:Int -> Value:=.int .i64
abbrev nc (i:Nat):Bool:=[].contains i
abbrev ga {α:Type} (E:α -> List Value) (x:α):Value:=.agg (E x).toArray
abbrev rq {α:Type} (E:α -> List Value) (r:List Value) (x:α):Prop:=r = E x
abbrev vs (a:Option Addr) (n k:Nat):Value:=.slice a n k
abbrev cu2{A B R:Type _}(f:A->B->R)(g:A×B):R:=f g.1 g.2
abbrev cu3{A0 A1 A2 R:Type _}(f:A0->A1->A2->R)(g:A0×A1×A2):R:=cu2 (f g.1) g.2
abbrev cu4{A0 A1 A2 A3 R:Type _}(f:A0->A1->A2->A3->R)(g:A0×A1×A2×A3):R:=cu3 (f g.1) g.2
abbrev cu5{A0 A1 A2 A3 A4 R:Type _}(f:A0->A1->A2->A3->A4->R)(g:A0×A1×A2×A3×A4):R:=cu4 (f g.1) g.2
abbrev cu6{A0 A1 A2 A3 A4 A5 R:Type _}(f:A0->A1->A2->A3->A4->A5->R)(g:A0×A1×A2×A3×A4×A5):R:=cu5 (f g.1) g.2
abbrev cu7{A0 A1 A2 A3 A4 A5 A6 R:Type _}(f:A0->A1->A2->A3->A4->A5->A6->R)(g:A0×A1×A2×A3×A4×A5×A6):R:=cu6 (f g.1) g.2
abbrev cu8{A0 A1 A2 A3 A4 A5 A6 A7 R:Type _}(f:A0->A1->A2->A3->A4->A5->A6->A7->R)(g:A0×A1×A2×A3×A4×A5×A6×A7):R:=cu7 (f g.1) g.2
abbrev cu9{A0 A1 A2 A3 A4 A5 A6 A7 A8 R:Type _}(f:A0->A1->A2->A3->A4->A5->A6->A7->A8->R)(g:A0×A1×A2×A3×A4×A5×A6×A7×A8):R:=cu8 (f g.1) g.2
abbrev cu10{A0 A1 A2 A3 A4 A5 A6 A7 A8 A9 R:Type _}(f:A0->A1->A2->A3->A4->A5->A6->A7->A8->A9->R)(g:A0×A1×A2×A3×A4×A5×A6×A7×A8×A9):R:=cu9 (f g.1) g.2
abbrev cu11{A0 A1 A2 A3 A4 A5 A6 A7 A8 A9 nA R:Type _}(f:A0->A1->A2->A3->A4->A5->A6->A7->A8->A9->nA->R)(g:A0×A1×A2×A3×A4×A5×A6×A7×A8×A9×nA):R:=cu10 (f g.1) g.2
abbrev cu12{A0 A1 A2 A3 A4 A5 A6 A7 A8 A9 nA nC R:Type _}(f:A0->A1->A2->A3->A4->A5->A6->A7->A8->A9->nA->nC->R)(g:A0×A1×A2×A3×A4×A5×A6×A7×A8×A9×nA×nC):R:=cu11 (f g.1) g.2
abbrev cu13{A0 A1 A2 A3 A4 A5 A6 A7 A8 A9 nA nC nW R:Type _}(f:A0->A1->A2->A3->A4->A5->A6->A7->A8->A9->nA->nC->nW->R)(g:A0×A1×A2×A3×A4×A5×A6×A7×A8×A9×nA×nC×nW):R:=cu12 (f g.1) g.2
abbrev cu14{A0 A1 A2 A3 A4 A5 A6 A7 A8 A9 nA nC nW nX R:Type _}(f:A0->A1->A2->A3->A4->A5->A6->A7->A8->A9->nA->nC->nW->nX->R)(g:A0×A1×A2×A3×A4×A5×A6×A7×A8×A9×nA×nC×nW×nX):R:=cu13 (f g.1) g.2
abbrev cu15{A0 A1 A2 A3 A4 A5 A6 A7 A8 A9 nA nC nW nX n2 R:Type _}(f:A0->A1->A2->A3->A4->A5->A6->A7->A8->A9->nA->nC->nW->nX->n2->R)(g:A0×A1×A2×A3×A4×A5×A6×A7×A8×A9×nA×nC×nW×nX×n2):R:=cu14 (f g.1) g.2
abbrev cu16{A0 A1 A2 A3 A4 A5 A6 A7 A8 A9 nA nC nW nX n2 oL R:Type _}(f:A0->A1->A2->A3->A4->A5->A6->A7->A8->A9->nA->nC->nW->nX->n2->oL->R)(g:A0×A1×A2×A3×A4×A5×A6×A7×A8×A9×nA×nC×nW×nX×n2×oL):R:=cu15 (f g.1) g.2
abbrev cu17{A0 A1 A2 A3 A4 A5 A6 A7 A8 A9 nA nC nW nX n2 oL qA R:Type _}(f:A0->A1->A2->A3->A4->A5->A6->A7->A8->A9->nA->nC->nW->nX->n2->oL->qA->R)(g:A0×A1×A2×A3×A4×A5×A6×A7×A8×A9×nA×nC×nW×nX×n2×oL×qA):R:=cu16 (f g.1) g.2
abbrev cu18{A0 A1 A2 A3 A4 A5 A6 A7 A8 A9 nA nC nW nX n2 oL qA qV R:Type _}(f:A0->A1->A2->A3->A4->A5->A6->A7->A8->A9->nA->nC->nW->nX->n2->oL->qA->qV->R)(g:A0×A1×A2×A3×A4×A5×A6×A7×A8×A9×nA×nC×nW×nX×n2×oL×qA×qV):R:=cu17 (f g.1) g.2
abbrev cu19{A0 A1 A2 A3 A4 A5 A6 A7 A8 A9 nA nC nW nX n2 oL qA qV tv R:Type _}(f:A0->A1->A2->A3->A4->A5->A6->A7->A8->A9->nA->nC->nW->nX->n2->oL->qA->qV->tv->R)(g:A0×A1×A2×A3×A4×A5×A6×A7×A8×A9×nA×nC×nW×nX×n2×oL×qA×qV×tv):R:=cu18 (f g.1) g.2
abbrev cu20{A0 A1 A2 A3 A4 A5 A6 A7 A8 A9 nA nC nW nX n2 oL qA qV tv vE R:Type _}(f:A0->A1->A2->A3->A4->A5->A6->A7->A8->A9->nA->nC->nW->nX->n2->oL->qA->qV->tv->vE->R)(g:A0×A1×A2×A3×A4×A5×A6×A7×A8×A9×nA×nC×nW×nX×n2×oL×qA×qV×tv×vE):R:=cu19 (f g.1) g.2
abbrev cu21{A0 A1 A2 A3 A4 A5 A6 A7 A8 A9 nA nC nW nX n2 oL qA qV tv vE zW R:Type _}(f:A0->A1->A2->A3->A4->A5->A6->A7->A8->A9->nA->nC->nW->nX->n2->oL->qA->qV->tv->vE->zW->R)(g:A0×A1×A2×A3×A4×A5×A6×A7×A8×A9×nA×nC×nW×nX×n2×oL×qA×qV×tv×vE×zW):R:=cu20 (f g.1) g.2
end
section
variable {i j:Nat}{v:Value}{oi oj:Oper}{w:World}{K:Act->World->Prop}{M L':List Asrt}{B:Nat->Bool}
variable [Rnd]
def Oper.vT(P:Program)(o:Oper)(a:Act)(next:Act->World->Prop):Result Next->Prop
  | .ok (.value v) w'=>next (a.put o.dst v) w'
  | .ok .skip w'=>next (a.put o.dst undef) w'
  | .ok (.enter f args) w'=>Calls P f args w' fun e rx=>∃ v,e = .returned v/\next (a.put o.dst v) rx
  | .ok (.round l f tmps as_ bo) w'=>RoundIn FN 0 P l f tmps as_ bo w' fun e rx=>∃ v,e = .returned v/\next (a.put o.dst v) rx
  | _=>False
def opN(P:Program)(ops:Array Oper)(i:Nat)(K:Act->World->Prop)(a:Act)(w:World):Prop:=
  match ops[i]? with
  | none=>K a w
  | some o=>if Region.wanted o (yielded ops a.tmps) then Oper.vT P o a K ((execOp a.eval o).run P w) else K (a.put o.dst undef) w
theorem Oper.Wy{P:Program}{o:Oper}{a:Act}{K':Act->World->Prop}(h:∀ a w,K a w->K' a w){r:Result Next}(hh:Oper.vT P o a K r):Oper.vT P o a K' r:=by
  cases r with
  | ok x w'=>
    cases x <;> simp only[Oper.vT] at hh ⊢ <;> first
      | exact h _ _ hh
      | exact hh.mono fun e rx ⟨v,he,hk⟩=>⟨v,he,h _ _ hk⟩
      | exact RoundIn.mono (F:=FN) hh fun e rx ⟨v,he,hk⟩=>⟨v,he,h _ _ hk⟩
  | halt x w'=>exact hh
theorem JN{P:Program}{ops:Array Oper}{Q:Exit->Act->World->Prop}{a:Act}(h:opN P ops i K a w):wpOpIn FN 0 P ops Q i K a w:=by
  unfold opN at h
  unfold wpOpIn
  cases ho:ops[i]? with
  | none=>simpa [ho] using h
  | some o=>
    simp only[ho] at h ⊢
    split
    · rename_i hw
      simp only[hw,if_true] at h
      generalize hr:(execOp a.eval o).run P w=r at h
      cases r with
      | ok x w'=>
        cases x <;> simp only[Oper.vT] at h <;> first
          | exact aj hr h
          | exact QX hr h
          | exact QY hr h
          | (refine⟨fun _ _=>trivial,?_⟩
             rw[lz _ hr (fun d e=>by cases e),Oper.uponIn_round]
             refine⟨fun h=>by simp[FN] at h,RoundIn.mono (F:=FN) h ?_⟩
             rintro e rx ⟨v,rfl,hk⟩;exact hk)
      | halt x w'=>simp only[Oper.vT] at h
    · rename_i hw
      simp only[hw] at h
      exact⟨fun _ _=>trivial,h⟩
theorem ak{P:Program}{ops:Array Oper}{K':Act->World->Prop}{a:Act}(h:∀ a w,K a w->K' a w)(hh:opN P ops i K a w):opN P ops i K' a w:=by
  unfold opN at hh ⊢
  cases ho:ops[i]? with
  | none=>simp only[ho] at hh ⊢;exact h _ _ hh
  | some o=>
    simp only[ho] at hh ⊢
    split
    · rename_i hw;simp only[hw,if_true] at hh;exact Oper.Wy h hh
    · rename_i hw;simp only[hw] at hh;exact h _ _ hh
def me(ops:Array Oper)(i:Nat):Array Bool:=
  ops.foldl (init := #[]) fun acc o=>acc.push (o.after.any fun e=>Region.binds .any e&&(Nat.beq e.on i||acc.getD e.on false))
def XV(ops:Array Oper)(j:Nat):Bool:=(List.range ops.size).all fun k=>Nat.beq k j||(me ops k).getD j false
theorem G8{ops:Array Oper}(hi:ops[i]?=some oi)(h:XV ops j=true)(wo:j≠i):(me ops i).getD j false=true:=by
  unfold XV at h
  simp only[List.all_eq_true,List.mem_range,Bool.or_eq_true] at h
  obtain⟨tW,_⟩:=Array.getElem?_eq_some_iff.1 hi
  rcases h i tW with h | h
  · exact absurd (Nat.eq_of_beq_eq_true h).symm wo
  · exact h
def mZ(P:Program)(ops:Array Oper)(tl:Nat->Bool)(St:World->Prop)(Q:Act->World->Prop):Nat->Array Bool->Act->World->Prop
  | 0,listed,a,w=>∀ w',Ext w w'->Region.ready .any ops listed=[]/\Q a w'
  | fuel+1,listed,a,w=>∀ w',Ext w w'->(Region.ready .any ops listed=[]->Q a w')/\
      ∀ i∈Region.ready .any ops listed,opN P ops i (fun a' rx=>((tl i=false->Ext w' rx)/\(XV ops i=false->St w'->St rx))/\mZ P ops tl St Q fuel (listed.setIfInBounds i true) a' rx) a w'
section
variable {P:Program} {ops:Array Oper} {tl:Nat->Bool} {St:World->Prop} {Q:Act->World->Prop}
theorem mZ.up:∀ {fuel:Nat} {listed:Array Bool} {a:Act} {w w':World},mZ P ops tl St Q fuel listed a w->Ext w w'->mZ P ops tl St Q fuel listed a w'
  | 0,_,_,_,_,h,e=>fun _ e'=>h _ (e.trans e')
  | _+1,_,_,_,_,h,e=>fun _ e'=>h _ (e.trans e')
theorem mZ.YI{Q':Exit->Act->World->Prop}(hQ:∀ a w,Q a w->Q' .normal a w):∀ {fuel:Nat} {listed:Array Bool} {a:Act} {w:World},mZ P ops tl St Q fuel listed a w->wpAnyIn FN 0 P .any ops Q' fuel listed a w
  | 0,_,_,w,h=>let ⟨h1,h2⟩:=h w (.refl w);⟨h1,hQ _ _ h2⟩
  | _+1,_,_,w,h=>let ⟨h1,h2⟩:=h w (.refl w)
    ⟨fun e=>hQ _ _ (h1 e),fun i hi=>JN (ak (fun _ _ hk=>mZ.YI hQ hk.2) (h2 i hi))⟩
def QZ(P:Program)(w:World)(v:Value):Result Next->Prop
  | .ok (.value u) w'=>Ext w w'/\u=v
  | .ok (.enter f args) w'=>Ext w w'/\Calls P f args w' fun e rx=>e = .returned v/\Ext w' rx
  | _=>False
def YE(P:Program)(ops:Array Oper)(o:Oper)(v:Value)(a:Act)(w:World):Prop:=
  (Region.wanted o (yielded ops a.tmps)=true/\∀ w',Ext w w'->QZ P w' v ((execOp a.eval o).run P w')) \/
  (Region.wanted o (yielded ops a.tmps)=false/\v=undef)
theorem YE.up{o:Oper}{a:Act}{w':World}(h:YE P ops o v a w)(e:Ext w w'):YE P ops o v a w':=
  h.imp (fun h=>⟨h.1,fun rx e'=>h.2 rx (e.trans e')⟩) id
theorem YE.same{o:Oper}{a a':Act}(hy:YE P ops o v a w)(he:execOp a'.eval o=execOp a.eval o)(hw:Region.wanted o (yielded ops a'.tmps)=Region.wanted o (yielded ops a.tmps)):YE P ops o v a' w:=by
  unfold YE at *
  rw[he,hw]
  exact hy
theorem YE.opN{i:Nat}{o:Oper}{v:Value}{a:Act}{w:World}(hi:ops[i]?=some o)(hy:YE P ops o v a w){K:Act->World->Prop}(h:∀ w',Ext w w'->K (a.put o.dst v) w'):opN P ops i K a w:=by
  unfold Sep.opN
  simp only[hi]
  rcases hy with⟨hw,hv⟩ | ⟨hw,rfl⟩
  · simp only[hw,if_true]
    have:=hv w (.refl w)
    generalize (execOp a.eval o).run P w=r at this
    cases r with
    | ok x w'=>
      cases x <;> simp only[QZ] at this <;> simp only[Oper.vT]
      case value u=>obtain⟨e,rfl⟩:=this;exact h _ e
      case enter f args=>
        obtain⟨e,hc⟩:=this
        exact hc.mono fun e' rx ⟨he,hx⟩=>⟨v,he,h _ (e.trans hx)⟩
    | halt x w'=>simp only[QZ] at this
  · simp only[hw,Bool.false_eq_true,if_false]
    exact h _ (.refl _)
theorem Md(hj:ops[j]?=some oj)(AP:oi.apart ops oj=true)(Cq:∀ cs b,oi.op ≠ .select cs b)(Cr:∀ cs b,oj.op ≠ .select cs b){a:Act}(hy:YE P ops oi v a w)(h:opN P ops j K (a.put oi.dst v) w):
    opN P ops j (fun a' w'=>YE P ops oi v a' w/\K (a'.put oi.dst v) w') a w:=by
  obtain⟨h1,h2,h3⟩:=Oper.apart_spec AP
  have vG:∀ u,YE P ops oi v (a.put oj.dst u) w:=fun u=>
    hy.same (execOp_put oi Cq a oj.dst u h3) (wanted_put oi a oj.dst u h3)
  unfold opN at *
  simp only[hj] at *
  rw[wanted_put oj a oi.dst v h1,execOp_put oj Cr a oi.dst v h1] at h
  split
  · rename_i hw
    simp only[hw,if_true] at h
    generalize (execOp a.eval oj).run P w=r at h ⊢
    cases r with
    | ok x w'=>
      cases x <;> simp only[Oper.vT] at h ⊢
      case value u=>exact⟨vG u,by rw[<- Act.put_comm a v u h2];exact h⟩
      case skip=>exact⟨vG _,by rw[<- Act.put_comm a v undef h2];exact h⟩
      case enter f args=>exact h.mono fun e rx ⟨u,he,hk⟩=>⟨u,he,vG u,by rw[<- Act.put_comm a v u h2];exact hk⟩
      case round l f tmps as_ bo=>exact RoundIn.mono (F:=FN) h fun e rx ⟨u,he,hk⟩=>⟨u,he,vG u,by rw[<- Act.put_comm a v u h2];exact hk⟩
    | halt x w'=>simp only[Oper.vT] at h
  · rename_i hw
    simp only[hw] at h
    exact⟨vG _,by rw[<- Act.put_comm a v undef h2];exact h⟩
theorem Fe(hj:ops[j]?=some oj)(AP:oi.apart ops oj=true)(Cq:∀ cs b,oi.op ≠ .select cs b)(Cr:∀ cs b,oj.op ≠ .select cs b){a:Act}(hy:∀ w',YE P ops oi v a w')(h:opN P ops j K (a.put oi.dst v) w):
    opN P ops j (fun a' w'=>(∀ w',YE P ops oi v a' w')/\K (a'.put oi.dst v) w') a w:=by
  obtain⟨h1,h2,h3⟩:=Oper.apart_spec AP
  have vG:∀ u,∀ w',YE P ops oi v (a.put oj.dst u) w':=fun u w'=>
    (hy w').same (execOp_put oi Cq a oj.dst u h3) (wanted_put oi a oj.dst u h3)
  unfold opN at *
  simp only[hj] at *
  rw[wanted_put oj a oi.dst v h1,execOp_put oj Cr a oi.dst v h1] at h
  split
  · rename_i hw
    simp only[hw,if_true] at h
    generalize (execOp a.eval oj).run P w=r at h ⊢
    cases r with
    | ok x w'=>
      cases x <;> simp only[Oper.vT] at h ⊢
      case value u=>exact⟨vG u,by rw[<- Act.put_comm a v u h2];exact h⟩
      case skip=>exact⟨vG _,by rw[<- Act.put_comm a v undef h2];exact h⟩
      case enter f args=>exact h.mono fun e rx ⟨u,he,hk⟩=>⟨u,he,vG u,by rw[<- Act.put_comm a v u h2];exact hk⟩
      case round l f tmps as_ bo=>exact RoundIn.mono (F:=FN) h fun e rx ⟨u,he,hk⟩=>⟨u,he,vG u,by rw[<- Act.put_comm a v u h2];exact hk⟩
    | halt x w'=>simp only[Oper.vT] at h
  · rename_i hw
    simp only[hw] at h
    exact⟨vG _,by rw[<- Act.put_comm a v undef h2];exact h⟩
theorem Ff(hj:ops[j]?=some oj)(AP:oi.apart ops oj=true)(Cq:∀ cs b,oi.op ≠ .select cs b)(Cr:∀ cs b,oj.op ≠ .select cs b){a:Act}(nE:St w)(hy:∀ w',St w'->YE P ops oi v a w')(h:opN P ops j K (a.put oi.dst v) w):
    opN P ops j (fun a' w'=>(∀ w',St w'->YE P ops oi v a' w')/\K (a'.put oi.dst v) w') a w:=by
  obtain⟨h1,h2,h3⟩:=Oper.apart_spec AP
  have vG:∀ u,∀ w',St w'->YE P ops oi v (a.put oj.dst u) w':=fun u w' hs=>
    (hy w' hs).same (execOp_put oi Cq a oj.dst u h3) (wanted_put oi a oj.dst u h3)
  unfold opN at *
  simp only[hj] at *
  rw[wanted_put oj a oi.dst v h1,execOp_put oj Cr a oi.dst v h1] at h
  split
  · rename_i hw
    simp only[hw,if_true] at h
    generalize (execOp a.eval oj).run P w=r at h ⊢
    cases r with
    | ok x w'=>
      cases x <;> simp only[Oper.vT] at h ⊢
      case value u=>exact⟨vG u,by rw[<- Act.put_comm a v u h2];exact h⟩
      case skip=>exact⟨vG _,by rw[<- Act.put_comm a v undef h2];exact h⟩
      case enter f args=>exact h.mono fun e rx ⟨u,he,hk⟩=>⟨u,he,vG u,by rw[<- Act.put_comm a v u h2];exact hk⟩
      case round l f tmps as_ bo=>exact RoundIn.mono (F:=FN) h fun e rx ⟨u,he,hk⟩=>⟨u,he,vG u,by rw[<- Act.put_comm a v u h2];exact hk⟩
    | halt x w'=>simp only[Oper.vT] at h
  · rename_i hw
    simp only[hw] at h
    exact⟨vG _,by rw[<- Act.put_comm a v undef h2];exact h⟩
theorem YJ(Ag:∀ w w',Ext w w'->St w->St w')(hi:ops[i]?=some oi)(zX:∀(j:Nat) (o:Oper) cs b,ops[j]?=some o->o.op ≠ .select cs b)(hB:∀ j oj,ops[j]?=some oj->B j=true->∃ e∈oj.after,Region.binds .any e=true/\(e.on=i\/B e.on=true)):
    ∀(fuel:Nat) (listed:Array Bool) (a:Act) (w:World),
      (∀ j,B j=true->listed.getD j true=false)->
      (∀ j oj,ops[j]?=some oj->j≠i->listed.getD j true=false->B j=false->oi.apart ops oj=true/\tl j=false)->
      i∈Region.ready .any ops listed->YE P ops oi v a w->
      mZ P ops tl St Q fuel (listed.setIfInBounds i true) (a.put oi.dst v) w->mZ P ops tl St Q (fuel+1) listed a w:=by
  intro fuel
  induction fuel with
  | zero=>
    intro listed a w _ _ hr hy H w' pQ
    refine⟨fun h=>(by rw[h] at hr;cases hr),fun j hj=>?_⟩
    by_cases wo:j=i
    · subst wo
      by_cases ht:tl j=false
      · exact(hy.up pQ).opN hi fun rx e=>⟨⟨fun _=>e,fun _=>Ag _ _ e⟩,H.up (pQ.trans e)⟩
      · exact(hy.up pQ).opN hi fun rx e=>⟨⟨fun h=>absurd h ht,fun _=>Ag _ _ e⟩,H.up (pQ.trans e)⟩
    · have:=ready_mono hj wo
      rw[(H w' pQ).1] at this
      cases this
  | succ fuel ih=>
    intro listed a w BD vw hr hy H w' pQ
    refine⟨fun h=>(by rw[h] at hr;cases hr),fun j hj=>?_⟩
    by_cases wo:j=i
    · subst wo;exact(hy.up pQ).opN hi fun rx e=>⟨⟨fun _=>e,fun _=>Ag _ _ e⟩,H.up (pQ.trans e)⟩
    · have h1:=(H w' pQ).2 j (ready_mono hj wo)
      obtain⟨zY,oj,Ap,AQ⟩:=mem_ready.1 hj
      have wK:∀ k,listed.getD k true=false->listed.getD k false=true->False:=fun k h0 h1=>by
        rcases Nat.lt_or_ge k listed.size with h' | h'
        · simp[h'] at h0 h1;rw[h0] at h1;cases h1
        · simp[Array.getElem?_eq_none h'] at h1
      have zG:B j=false:=by
        cases hbj:B j with
        | false=>rfl
        | true=>
          obtain⟨e,he,hb,hon⟩:=hB j oj Ap hbj
          have h1:=AQ e he hb
          rcases hon with hon | hon
          · rw[hon] at h1;exact(wK i (mem_ready.1 hr).1 h1).elim
          · exact(wK e.on (BD _ hon) h1).elim
      obtain⟨AP,Cs⟩:=vw j oj Ap wo zY zG
      have h2:=Md Ap AP (fun cs b=>zX i oi cs b hi) (fun cs b=>zX j oj cs b Ap) (hy.up pQ) h1
      have AR:∀ k,B k=true->(listed.setIfInBounds j true).getD k true=false:=fun k hk=>by
        have Aq:j≠k:=fun e=>by rw[<- e,zG] at hk;cases hk
        rw[getD_set_ne true Aq];exact BD k hk
      have zk:∀ k ok,ops[k]?=some ok->k≠i->(listed.setIfInBounds j true).getD k true=false->
          B k=false->oi.apart ops ok=true/\tl k=false:=fun k ok hk Ct Bk Ax=>by
        refine vw k ok hk Ct ?_ Ax
        by_cases Aq:j=k
        · subst Aq;exact zY
        · rw[getD_set_ne true Aq] at Bk;exact Bk
      refine ak (fun a' rx h3=>⟨h3.2.1,?_⟩) h2
      refine ih (listed.setIfInBounds j true) a' rx AR zk (ready_mono hr (Ne.symm wo)) (h3.1.up (h3.2.1.1 Cs)) ?_
      rw[Array.setIfInBounds_comm _ _ wo]
      exact h3.2.2
theorem Yf(Ag:∀ w w',Ext w w'->St w->St w')(hi:ops[i]?=some oi)(zX:∀(j:Nat) (o:Oper) cs b,ops[j]?=some o->o.op ≠ .select cs b)(hB:∀ j oj,ops[j]?=some oj->B j=true->∃ e∈oj.after,Region.binds .any e=true/\(e.on=i\/B e.on=true)):
    ∀(fuel:Nat) (listed:Array Bool) (a:Act) (w:World),
      (∀ j,B j=true->listed.getD j true=false)->
      (∀ j oj,ops[j]?=some oj->j≠i->listed.getD j true=false->B j=false->oi.apart ops oj=true)->
      i∈Region.ready .any ops listed->(∀ w',YE P ops oi v a w')->
      mZ P ops tl St Q fuel (listed.setIfInBounds i true) (a.put oi.dst v) w->mZ P ops tl St Q (fuel+1) listed a w:=by
  intro fuel
  induction fuel with
  | zero=>
    intro listed a w _ _ hr hy H w' pQ
    refine⟨fun h=>(by rw[h] at hr;cases hr),fun j hj=>?_⟩
    by_cases wo:j=i
    · subst wo
      by_cases ht:tl j=false
      · exact(hy w').opN hi fun rx e=>⟨⟨fun _=>e,fun _=>Ag _ _ e⟩,H.up (pQ.trans e)⟩
      · exact(hy w').opN hi fun rx e=>⟨⟨fun h=>absurd h ht,fun _=>Ag _ _ e⟩,H.up (pQ.trans e)⟩
    · have:=ready_mono hj wo
      rw[(H w' pQ).1] at this
      cases this
  | succ fuel ih=>
    intro listed a w BD vw hr hy H w' pQ
    refine⟨fun h=>(by rw[h] at hr;cases hr),fun j hj=>?_⟩
    by_cases wo:j=i
    · subst wo;exact(hy w').opN hi fun rx e=>⟨⟨fun _=>e,fun _=>Ag _ _ e⟩,H.up (pQ.trans e)⟩
    · have h1:=(H w' pQ).2 j (ready_mono hj wo)
      obtain⟨zY,oj,Ap,AQ⟩:=mem_ready.1 hj
      have wK:∀ k,listed.getD k true=false->listed.getD k false=true->False:=fun k h0 h1=>by
        rcases Nat.lt_or_ge k listed.size with h' | h'
        · simp[h'] at h0 h1;rw[h0] at h1;cases h1
        · simp[Array.getElem?_eq_none h'] at h1
      have zG:B j=false:=by
        cases hbj:B j with
        | false=>rfl
        | true=>
          obtain⟨e,he,hb,hon⟩:=hB j oj Ap hbj
          have h1:=AQ e he hb
          rcases hon with hon | hon
          · rw[hon] at h1;exact(wK i (mem_ready.1 hr).1 h1).elim
          · exact(wK e.on (BD _ hon) h1).elim
      have AP:=vw j oj Ap wo zY zG
      have h2:=Fe Ap AP (fun cs b=>zX i oi cs b hi) (fun cs b=>zX j oj cs b Ap) hy h1
      have AR:∀ k,B k=true->(listed.setIfInBounds j true).getD k true=false:=fun k hk=>by
        have Aq:j≠k:=fun e=>by rw[<- e,zG] at hk;cases hk
        rw[getD_set_ne true Aq];exact BD k hk
      have zk:∀ k ok,ops[k]?=some ok->k≠i->(listed.setIfInBounds j true).getD k true=false->
          B k=false->oi.apart ops ok=true:=fun k ok hk Ct Bk Ax=>by
        refine vw k ok hk Ct ?_ Ax
        by_cases Aq:j=k
        · subst Aq;exact zY
        · rw[getD_set_ne true Aq] at Bk;exact Bk
      refine ak (fun a' rx h3=>⟨h3.2.1,?_⟩) h2
      refine ih (listed.setIfInBounds j true) a' rx AR zk (ready_mono hr (Ne.symm wo)) h3.1 ?_
      rw[Array.setIfInBounds_comm _ _ wo]
      exact h3.2.2
theorem Qz(Ag:∀ w w',Ext w w'->St w->St w')(hi:ops[i]?=some oi)(zX:∀(j:Nat) (o:Oper) cs b,ops[j]?=some o->o.op ≠ .select cs b)(BS:∀ j,XV ops j=true->j≠i->B j=true)(hB:∀ j oj,ops[j]?=some oj->B j=true->∃ e∈oj.after,Region.binds .any e=true/\(e.on=i\/B e.on=true)):
    ∀(fuel:Nat) (listed:Array Bool) (a:Act) (w:World),
      (∀ j,B j=true->listed.getD j true=false)->
      (∀ j oj,ops[j]?=some oj->j≠i->listed.getD j true=false->B j=false->oi.apart ops oj=true)->
      i∈Region.ready .any ops listed->St w->(∀ w',St w'->YE P ops oi v a w')->
      mZ P ops tl St Q fuel (listed.setIfInBounds i true) (a.put oi.dst v) w->mZ P ops tl St Q (fuel+1) listed a w:=by
  intro fuel
  induction fuel with
  | zero=>
    intro listed a w _ _ hr nE hy H w' pQ
    refine⟨fun h=>(by rw[h] at hr;cases hr),fun j hj=>?_⟩
    by_cases wo:j=i
    · subst wo
      by_cases ht:tl j=false
      · exact(hy w' (Ag _ _ pQ nE)).opN hi fun rx e=>⟨⟨fun _=>e,fun _=>Ag _ _ e⟩,H.up (pQ.trans e)⟩
      · exact(hy w' (Ag _ _ pQ nE)).opN hi fun rx e=>⟨⟨fun h=>absurd h ht,fun _=>Ag _ _ e⟩,H.up (pQ.trans e)⟩
    · have:=ready_mono hj wo
      rw[(H w' pQ).1] at this
      cases this
  | succ fuel ih=>
    intro listed a w BD vw hr nE hy H w' pQ
    refine⟨fun h=>(by rw[h] at hr;cases hr),fun j hj=>?_⟩
    by_cases wo:j=i
    · subst wo;exact(hy w' (Ag _ _ pQ nE)).opN hi fun rx e=>⟨⟨fun _=>e,fun _=>Ag _ _ e⟩,H.up (pQ.trans e)⟩
    · have h1:=(H w' pQ).2 j (ready_mono hj wo)
      obtain⟨zY,oj,Ap,AQ⟩:=mem_ready.1 hj
      have wK:∀ k,listed.getD k true=false->listed.getD k false=true->False:=fun k h0 h1=>by
        rcases Nat.lt_or_ge k listed.size with h' | h'
        · simp[h'] at h0 h1;rw[h0] at h1;cases h1
        · simp[Array.getElem?_eq_none h'] at h1
      have zG:B j=false:=by
        cases hbj:B j with
        | false=>rfl
        | true=>
          obtain⟨e,he,hb,hon⟩:=hB j oj Ap hbj
          have h1:=AQ e he hb
          rcases hon with hon | hon
          · rw[hon] at h1;exact(wK i (mem_ready.1 hr).1 h1).elim
          · exact(wK e.on (BD _ hon) h1).elim
      have AP:=vw j oj Ap wo zY zG
      have h2:=Ff Ap AP (fun cs b=>zX i oi cs b hi) (fun cs b=>zX j oj cs b Ap) (Ag _ _ pQ nE) hy h1
      have AR:∀ k,B k=true->(listed.setIfInBounds j true).getD k true=false:=fun k hk=>by
        have Aq:j≠k:=fun e=>by rw[<- e,zG] at hk;cases hk
        rw[getD_set_ne true Aq];exact BD k hk
      have zk:∀ k ok,ops[k]?=some ok->k≠i->(listed.setIfInBounds j true).getD k true=false->
          B k=false->oi.apart ops ok=true:=fun k ok hk Ct Bk Ax=>by
        refine vw k ok hk Ct ?_ Ax
        by_cases Aq:j=k
        · subst Aq;exact zY
        · rw[getD_set_ne true Aq] at Bk;exact Bk
      refine ak (fun a' rx h3=>⟨h3.2.1,?_⟩) h2
      refine ih (listed.setIfInBounds j true) a' rx AR zk (ready_mono hr (Ne.symm wo)) (h3.2.1.2 (by cases hfb:XV ops j with | false=>rfl | true=>rw[BS j hfb wo] at zG;cases zG) (Ag _ _ pQ nE)) h3.1 ?_
      rw[Array.setIfInBounds_comm _ _ wo]
      exact h3.2.2
end
def tg(ops:Array Oper)(tl:Nat->Bool)(listed:Array Bool)(i:Nat):Bool:=
  let B:=me ops i
  match ops[i]? with
  | none=>false
  | some oi=>Nat.beq B.size ops.size&&(List.range ops.size).all fun j=>
      (!B.getD j false||(!listed.getD j true&&match ops[j]? with
        | none=>false
        | some oj=>oj.after.any fun e=>Region.binds .any e&&(Nat.beq e.on i||B.getD e.on false))) &&
      (Nat.beq j i||listed.getD j true||B.getD j false ||
      match ops[j]? with
      | none=>true
      | some oj=>oi.apart ops oj && !tl j)
theorem jW{ops:Array Oper}{tl:Nat->Bool}{listed:Array Bool}(hi:ops[i]?=some oi)(h:tg ops tl listed i=true):
    (∀ j oj,ops[j]?=some oj->(me ops i).getD j false=true->∃ e∈oj.after,Region.binds .any e=true/\(e.on=i\/(me ops i).getD e.on false=true))/\
    (∀ j,(me ops i).getD j false=true->listed.getD j true=false)/\
    (∀ j oj,ops[j]?=some oj->j≠i->listed.getD j true=false->(me ops i).getD j false=false->oi.apart ops oj=true/\tl j=false):=by
  unfold tg at h
  simp only[hi,Bool.and_eq_true,List.all_eq_true,List.mem_range] at h
  obtain⟨nP,h⟩:=h
  have hsz':=Nat.eq_of_beq_eq_true nP
  have tW:∀ j,(me ops i).getD j false=true->j<ops.size:=fun j hj=>by
    rcases Nat.lt_or_ge j ops.size with h' | h'
    · exact h'
    · simp[Array.getElem?_eq_none (show(me ops i).size<=j by omega)] at hj
  refine⟨fun j oj hj hb=>?_,fun j hb=>?_,fun j oj hj wo Bk Ax=>?_⟩
  · have:=(h j (tW j hb)).1
    rw[hb,hj] at this
    simp only[Bool.not_true,Bool.false_or,Bool.and_eq_true] at this
    obtain⟨k,hk,he⟩:=Array.any_eq_true.1 this.2
    simp only[Bool.and_eq_true,Bool.or_eq_true] at he
    exact⟨_,Array.getElem_mem hk,he.1,he.2.imp Nat.eq_of_beq_eq_true id⟩
  · have:=(h j (tW j hb)).1
    rw[hb] at this
    simp only[Bool.not_true,Bool.false_or,Bool.and_eq_true,Bool.not_eq_true'] at this
    exact this.1
  · have hl:j<ops.size:=by
      rcases Nat.lt_or_ge j ops.size with h' | h'
      · exact h'
      · simp[Array.getElem?_eq_none h'] at hj
    have:=(h j hl).2
    rw[hj,pn wo,Bk,Ax] at this
    simpa using this
def rV(ops:Array Oper):Bool:=ops.all fun o=>match o.op with | .select .. => false | _=>true
theorem lS{ops:Array Oper}(h:rV ops=true):∀(j:Nat) (o:Oper) cs b,ops[j]?=some o->o.op ≠ .select cs b:=by
  intro j o cs b hj he
  unfold rV at h
  rw[Array.all_eq_true] at h
  obtain⟨tW,hx⟩:=Array.getElem?_eq_some_iff.1 hj
  have:=h j tW
  rw[hx,he] at this
  cases this
def WD(P:Program)(n:Nat)(F:List Nat)(Ek:World)(ops:Array Oper)(tl:Nat->Bool)(Ls:List Asrt)(Q:Act->World->Prop)(fuel:Nat)(listed:Array Bool)(env:List (Nat×Value))(L:List Asrt):Prop:=∀ a w,SS n F Ek env L a w->mZ P ops tl (fun w=>Hp F Ek w Ls) Q fuel listed a w
inductive Wk:List Asrt->List Asrt->Prop
  | nil:Wk [] []
  | same {x:Asrt} {L M:List Asrt} (t:Wk L M):Wk (x::L) (x::M)
  | any {x y:Asrt} {L M:List Asrt} (hf:y.fp=x.fp) (h:∀ w,x.ok w->y.ok w) (t:Wk L M):Wk (x::L) (y::M)
theorem Wk.refl:∀ L:List Asrt,Wk L L
  | [] => .nil
  | _::L => .same (Wk.refl L)
theorem Wk.mem{L:List Asrt}(h:Wk L M):∀ y∈M,∃ x∈L,y.fp=x.fp/\∀ w,x.ok w->y.ok w:=by
  induction h with
  | nil=>intro y hy;cases hy
  | @same x _ _ _ ih=>
    intro y hy
    rcases List.mem_cons.1 hy with rfl | hy
    · exact⟨_,List.mem_cons_self ..,rfl,fun _ h=>h⟩
    · obtain⟨x,hx,h⟩:=ih y hy;exact⟨x,List.mem_cons_of_mem _ hx,h⟩
  | @any x y' _ _ hf hk _ ih=>
    intro y hy
    rcases List.mem_cons.1 hy with rfl | hy
    · exact⟨_,List.mem_cons_self ..,hf,hk⟩
    · obtain⟨x,hx,h⟩:=ih y hy;exact⟨x,List.mem_cons_of_mem _ hx,h⟩
theorem Wk.sep{L:List Asrt}(h:Wk L M)(hs:L.Pairwise fun x y=>∀ b∈x.fp,b∉y.fp):M.Pairwise fun x y=>∀ b∈x.fp,b∉y.fp:=by
  induction h with
  | nil=>exact .nil
  | same t ih=>
    rw[List.pairwise_cons] at hs ⊢
    refine⟨fun y hy b hb=>?_,ih hs.2⟩
    obtain⟨x,hx,hf,_⟩:=t.mem y hy
    rw[hf];exact hs.1 x hx b hb
  | any hf _ t ih=>
    rw[List.pairwise_cons] at hs ⊢
    refine⟨fun y hy b hb=>?_,ih hs.2⟩
    obtain⟨x,hx,hf',_⟩:=t.mem y hy
    rw[hf'];exact hs.1 x hx b (hf▸hb)
theorem Wk.hp{F:List Nat}{Ek w:World}{L M:List Asrt}(h:Wk L M)(hp:Hp F Ek w L):Hp F Ek w M:=
  ⟨hp.os,hp.tape,hp.output,hp.size,hp.block,fun y hy=>by obtain⟨x,hx,_,hk⟩:=h.mem y hy;exact hk w (hp.ok x hx),
    fun y hy b hb=>by obtain⟨x,hx,hf,_⟩:=h.mem y hy;exact hp.lt x hx b (hf▸hb),fun y hy b hb=>by obtain⟨x,hx,hf,_⟩:=h.mem y hy;exact hp.ow x hx b (hf▸hb),h.sep hp.sep⟩
def wS(L Ls:List Asrt):Prop:=∃ L' M,Sel L L' M/\Wk L' Ls
theorem wS.of{L Ls:List Asrt}(h:Sel L Ls M):wS L Ls:=⟨Ls,M,h,Wk.refl _⟩
theorem wS.wk{L Ls:List Asrt}(h:Sel L L' M)(k:Wk L' Ls):wS L Ls:=⟨L',M,h,k⟩
theorem wS.hp{F:List Nat}{Ek w:World}{L Ls:List Asrt}(h:wS L Ls)(hp:Hp F Ek w L):Hp F Ek w Ls:=by
  obtain⟨L',M,hs,hk⟩:=h
  exact hk.hp (hp.sub hs)
section
variable {P:Program} {n:Nat} {F:List Nat} {Ek:World} {ops:Array Oper} {tl:Nat->Bool} {Ls:List Asrt} {fuel:Nat} {listed:Array Bool}
  {env:List (Nat×Value)} {L:List Asrt} {o:Oper} {Q:Act->World->Prop}
theorem Oq{v:Value}{d i:Nat}(zn:rV ops=true)(hi:ops[i]?=some o)(hr:(Region.ready .any ops listed).contains i=true)(hf:tg ops tl listed i=true)(hg:gd env ops o=some true)(hd:o.dst=some d)(ng:Nat.blt d n=true)(hq:∀ a w,SS n F Ek env L a w->(execOp a.eval o).run P w = .ok (.value v) w)(k:WD P n F Ek ops tl Ls Q fuel (listed.setIfInBounds i true) ((d,v)::env) L):WD P n F Ek ops tl Ls Q (fuel+1) listed env L:=by
  intro a w h
  refine YJ (fun _ _ e h=>h.ext e) hi (lS zn) (jW hi hf).1 fuel listed a w (jW hi hf).2.1 (jW hi hf).2.2 (by simpa using hr) (v:=v) (.inl ⟨js h hg,fun w' e=>?_⟩) ?_
  · rw[hq a w' (h.world (h.hp.ext e))];exact⟨.refl _,rfl⟩
  · rw[hd];exact k _ _ (h.put ng v h.hp)
theorem D8{v:Value}{d i:Nat}(zn:rV ops=true)(hi:ops[i]?=some o)(hr:(Region.ready .any ops listed).contains i=true)(hf:tg ops (fun _=>false) listed i=true)(hg:gd env ops o=some true)(hd:o.dst=some d)(ng:Nat.blt d n=true)(hq:∀ Ek a w,SS n [] Ek env [] a w->(execOp a.eval o).run P w = .ok (.value v) w)(k:WD P n F Ek ops tl Ls Q fuel (listed.setIfInBounds i true) ((d,v)::env) L):WD P n F Ek ops tl Ls Q (fuel+1) listed env L:=by
  intro a w h
  refine Yf (fun _ _ e h=>h.ext e) hi (lS zn) (jW hi hf).1 fuel listed a w (jW hi hf).2.1 (fun j oj h1 h2 h3 h4=>((jW hi hf).2.2 j oj h1 h2 h3 h4).1) (by simpa using hr) (v:=v) (fun w1 => .inl ⟨js h hg,fun w' _=>?_⟩) ?_
  · rw[hq w' a w' ⟨h.defers,h.size,h.ev,.nil w' []⟩];exact⟨.refl _,rfl⟩
  · rw[hd];exact k _ _ (h.put ng v h.hp)
theorem C9{d:Nat}(zn:rV ops=true)(hi:ops[i]?=some o)(hr:(Region.ready .any ops listed).contains i=true)(hf:tg ops (fun _=>false) listed i=true)(hg:gd env ops o=some true)(hd:o.dst=some d)(ng:Nat.blt d n=true)(hs:wS L Ls)(hq:∀ a w,SS n F Ek env Ls a w->(execOp a.eval o).run P w = .ok (.value v) w)(k:WD P n F Ek ops tl Ls Q fuel (listed.setIfInBounds i true) ((d,v)::env) L):WD P n F Ek ops tl Ls Q (fuel+1) listed env L:=by
  intro a w h
  refine Qz (fun _ _ e h=>h.ext e) hi (lS zn) (fun j h1 h2=>G8 hi h1 h2) (jW hi hf).1 fuel listed a w (jW hi hf).2.1 (fun j oj h1 h2 h3 h4=>((jW hi hf).2.2 j oj h1 h2 h3 h4).1) (by simpa using hr) (v:=v) (hs.hp h.hp) (fun w1 hw1 => .inl ⟨js h hg,fun w' e=>?_⟩) ?_
  · rw[hq a w' ⟨h.defers,h.size,h.ev,hw1.ext e⟩];exact⟨.refl _,rfl⟩
  · rw[hd];exact k _ _ (h.put ng v h.hp)
theorem Ot{d:Nat}{f:FuncId}{vs:Array Value}(zn:rV ops=true)(hi:ops[i]?=some o)(hr:(Region.ready .any ops listed).contains i=true)(hf:tg ops tl listed i=true)(hg:gd env ops o=some true)(hd:o.dst=some d)(ng:Nat.blt d n=true)(kA:∀ a w,SS n F Ek env L a w->(execOp a.eval o).run P w = .ok (.enter f vs) w)(hc:∀ w,Hp F Ek w L->Calls P f vs w fun e w'=>e = .returned v/\Hp [] w w' [])(k:WD P n F Ek ops tl Ls Q fuel (listed.setIfInBounds i true) ((d,v)::env) L):WD P n F Ek ops tl Ls Q (fuel+1) listed env L:=by
  intro a w h
  refine YJ (fun _ _ e h=>h.ext e) hi (lS zn) (jW hi hf).1 fuel listed a w (jW hi hf).2.1 (jW hi hf).2.2 (by simpa using hr) (v:=v) (.inl ⟨js h hg,fun w' e=>?_⟩) ?_
  · have h':=h.world (h.hp.ext e)
    rw[kA a w' h']
    exact⟨.refl _,(hc w' h'.hp).mono fun e rx ⟨he,hx⟩=>⟨he,hx.toExt⟩⟩
  · rw[hd];exact k _ _ (h.put ng v h.hp)
theorem Ou{d:Nat}(zn:rV ops=true)(hi:ops[i]?=some o)(hr:(Region.ready .any ops listed).contains i=true)(hf:tg ops (fun _=>false) listed i=true)(hg:gd env ops o=some false)(hd:o.dst=some d)(ng:Nat.blt d n=true)(k:WD P n F Ek ops tl Ls Q fuel (listed.setIfInBounds i true) ((d,undef)::env) L):WD P n F Ek ops tl Ls Q (fuel+1) listed env L:=by
  intro a w h
  refine Yf (fun _ _ e h=>h.ext e) hi (lS zn) (jW hi hf).1 fuel listed a w (jW hi hf).2.1 (fun j oj h1 h2 h3 h4=>((jW hi hf).2.2 j oj h1 h2 h3 h4).1) (by simpa using hr) (v:=undef) (fun _ => .inr ⟨js h hg,rfl⟩) ?_
  rw[hd];exact k _ _ (h.put ng undef h.hp)
theorem WD.forced{G:Type}{φ:G->Prop}{val:G->Value}{L':G->List Asrt}{d:Nat}(hi:ops[i]?=some o)(hr:Region.ready .any ops listed=[i])(hg:gd env ops o=some true)(hd:o.dst=some d)(ng:Nat.blt d n=true)(hq:∀ a w,SS n F Ek env L a w->∃ g w',(execOp a.eval o).run P w = .ok (.value (val g)) w'/\φ g/\Hp F Ek w' (L' g)/\(tl i=false->Ext w w'))(nE:tl i=true->∀ g,wS (L' g) Ls)(k:∀ g,φ g->WD P n F Ek ops tl Ls Q fuel (listed.setIfInBounds i true) ((d,val g)::env) (L' g)):WD P n F Ek ops tl Ls Q (fuel+1) listed env L:=by
  intro a w h w' e
  have h':=h.world (h.hp.ext e)
  rw[hr]
  refine⟨by simp,fun j hj=>?_⟩
  simp at hj;subst hj
  obtain⟨g,rx,kA,tt,hp,hx⟩:=hq a w' h'
  unfold opN
  simp only[hi,js h' hg,if_true,kA,Oper.vT,hd]
  refine⟨⟨hx,fun _ h0=>?_⟩,k g tt _ _ (h'.put ng _ hp)⟩
  cases ht:tl j with
  | false=>exact h0.ext (hx ht)
  | true=>exact(nE ht g).hp hp
theorem WD.forced0(hi:ops[i]?=some o)(hr:Region.ready .any ops listed=[i])[hg:Ej (gd env ops o) (some true)][hd:Ej o.dst none][ht:Ej (tl i) true](nE:wS L' Ls)(hq:∀ a w,SS n F Ek env L a w->∃ w',nn P o a w w'/\Hp F Ek w' L')(k:WD P n F Ek ops tl Ls Q fuel (listed.setIfInBounds i true) env L'):WD P n F Ek ops tl Ls Q (fuel+1) listed env L:=by
  intro a w h w' e
  have h':=h.world (h.hp.ext e)
  rw[hr]
  refine⟨by simp,fun j hj=>?_⟩
  simp at hj;subst hj
  obtain⟨rx,kA,hp⟩:=hq a w' h'
  unfold opN
  rcases kA with kA | ⟨v,kA⟩
  · simp only[hi,js h' hg.1,if_true,kA,Oper.vT,hd.1]
    exact⟨⟨fun hf=>(by rw[ht.1] at hf;cases hf),fun _ _=>nE.hp hp⟩,k _ _ (h'.world hp)⟩
  · simp only[hi,js h' hg.1,if_true,kA,Oper.vT,hd.1]
    exact⟨⟨fun hf=>(by rw[ht.1] at hf;cases hf),fun _ _=>nE.hp hp⟩,k _ _ (h'.world hp)⟩
theorem Nb(hi:ops[i]?=some o)(hr:Region.ready .any ops listed=[i])[hg:Ej (gd env ops o) (some true)][hd:Ej o.dst none][ht:Ej (tl i) true](nE:XV ops i=true)(hq:∀ a w,SS n F Ek env L a w->∃ w',nn P o a w w'/\Hp F Ek w' L')(k:WD P n F Ek ops tl Ls Q fuel (listed.setIfInBounds i true) env L'):WD P n F Ek ops tl Ls Q (fuel+1) listed env L:=by
  intro a w h w' e
  have h':=h.world (h.hp.ext e)
  rw[hr]
  refine⟨by simp,fun j hj=>?_⟩
  simp at hj;subst hj
  obtain⟨rx,kA,hp⟩:=hq a w' h'
  unfold opN
  rcases kA with kA | ⟨v,kA⟩
  · simp only[hi,js h' hg.1,if_true,kA,Oper.vT,hd.1]
    exact⟨⟨fun hf=>(by rw[ht.1] at hf;cases hf),fun hf=>by rw[nE] at hf;cases hf⟩,k _ _ (h'.world hp)⟩
  · simp only[hi,js h' hg.1,if_true,kA,Oper.vT,hd.1]
    exact⟨⟨fun hf=>(by rw[ht.1] at hf;cases hf),fun hf=>by rw[nE] at hf;cases hf⟩,k _ _ (h'.world hp)⟩
theorem WD.forcedCall{G:Type}{φ:G->Prop}{val:G->Value}{M:G->List Asrt}{f:FuncId}{vs:Array Value}{Lc Lr:List Asrt}{d:Nat}(hi:ops[i]?=some o)(hr:Region.ready .any ops listed=[i])(hg:gd env ops o=some true)(hd:o.dst=some d)(ng:Nat.blt d n=true)(ht:(tl i=true/\∀ g,wS (M g++Lr) Ls)\/Lc=[])(kA:∀ a w,SS n F Ek env L a w->(execOp a.eval o).run P w = .ok (.enter f vs) w)(hs:Sel L Lc Lr)(hc:∀ w,Hp F Ek w L->Calls P f vs w fun e w'=>∃ g,e = .returned (val g)/\φ g/\Hp (Lc.flatMap (·.fp)) w w' (M g))(k:∀ g,φ g->WD P n F Ek ops tl Ls Q fuel (listed.setIfInBounds i true) ((d,val g)::env) (M g++Lr)):WD P n F Ek ops tl Ls Q (fuel+1) listed env L:=by
  intro a w h w' e
  have h':=h.world (h.hp.ext e)
  rw[hr]
  refine⟨by simp,fun j hj=>?_⟩
  simp at hj;subst hj
  unfold opN
  simp only[hi,js h' hg,if_true,kA a w' h',Oper.vT,hd]
  refine(hc w' h'.hp).mono ?_
  rintro e' rx ⟨g,rfl,tt,hp⟩
  have zo:=h'.hp.call hs hp
  refine⟨_,rfl,⟨fun hf=>?_,fun _ h0=>?_⟩,k g tt _ _ (h'.put ng _ zo)⟩
  · rcases ht with ht | rfl
    · rw[ht.1] at hf;cases hf
    · exact hp.toExt
  · rcases ht with ht | rfl
    · exact(ht.2 g).hp zo
    · exact h0.ext hp.toExt
theorem Eo(hr:Region.ready .any ops listed=[]){Q':Exit->Act->World->Prop}(k:WX n F Ek Q' .normal env L):WD P n F Ek ops tl Ls (Q' .normal) fuel listed env L:=by
  intro a w h
  cases fuel with
  | zero=>exact fun w' e=>⟨hr,k _ _ (h.world (h.hp.ext e))⟩
  | succ f=>exact fun w' e=>⟨fun _=>k _ _ (h.world (h.hp.ext e)),fun i hi=>by rw[hr] at hi;cases hi⟩
theorem WD.restr{env':List (Nat×Value)}(hr:Restr env env')(k:WD P n F Ek ops tl Ls Q fuel listed env' L):WD P n F Ek ops tl Ls Q fuel listed env L:=
  fun a w h=>k a w (h.restr hr)
theorem Lv{Q:Exit->Act->World->Prop}{id:Nat}{l:List Oper}(tl:Nat->Bool)(Ls:List Asrt)[hm:Ej (P.follows .mixedOrders) true](k:WD P n F Ek l.toArray tl Ls (Q .normal) l.length (Array.replicate l.length false) env L):WC P n F Ek Q (.region id l.toArray true) env L:=by
  intro a w h
  refine wpIn_region_any hm.1 ?_
  have:=k a _ (h.world (h.hp.ext (Ext.drew w (w.drawn+1) (Nat.le_succ _))))
  simpa using mZ.YI (Q':=Q) (fun _ _ h=>h) this
end
end
section
variable [Rnd]
def Qt(P:Program)(n:Nat)(F:List Nat)(Ek:World)(env:List (Nat×Value))(L:List Asrt)(o:Oper)(v:Value):Prop:=
 ∀ a w,SS n F Ek env L a w->(execOp a.eval o).run P w = .ok (.value v) w
section
variable {P:Program} {n:Nat} {F:List Nat} {Ek:World} {env:List (Nat×Value)} {L:List Asrt}
 {d:Option Tmp} {ty:TypeId} {pos:String} {after:Array Edge} {g:Option (Nat×Bool)} {x y c:Operand} {v u:Value}
theorem q_m[hx:Ej (eo env x) (some v)]:Qt P n F Ek env L ⟨d,.move x,ty,pos,after,g⟩ v:=by
 intro a w h;simp[execOp,h.eval hx.1]
theorem q_z[hx:Ej (eo env x) (some v)]:Qt P n F Ek env L ⟨d,.assign x,ty,pos,after,g⟩ v:=by
 intro a w h;simp[execOp,h.eval hx.1]
theorem vH[hc:Ej (eo env c) (some (.bool true))][hx:Ej (eo env x) (some v)]:Qt P n F Ek env L ⟨d,.pick c x y,ty,pos,after,g⟩ v:=by
 intro a w h;simp[execOp,h.eval hc.1,h.eval hx.1,asBool]
theorem vA[hc:Ej (eo env c) (some (.bool false))][hy:Ej (eo env y) (some v)]:Qt P n F Ek env L ⟨d,.pick c x y,ty,pos,after,g⟩ v:=by
 intro a w h;simp[execOp,h.eval hc.1,h.eval hy.1,asBool]
theorem wz{p:Addr}[hx:Ej (eo env x) (some (.pointer (some p)))]:Qt P n F Ek env L ⟨d,.nilCheck x,ty,pos,after,g⟩ (.pointer (some p)):=by
 intro a w h;simp[execOp,h.eval hx.1]
theorem vF{i:Nat}{vs:List Value}[hx:Ej (eo env x) (some (.tuple vs.toArray))][hi:Ej vs[i]? (some v)]:Qt P n F Ek env L ⟨d,.extract x i,ty,pos,after,g⟩ v:=by
 intro a w h;simp[execOp,h.eval hx.1,Instr.extract,hi.1]
variable {k k':IntKind} {p q r:Int} {t t':TypeId}
theorem fb[hx:Ej (eo env x) (some (.int k p))][hy:Ej (eo env y) (some (.int k q))][hw:Ej (k.wrap (p+q)) r]:Qt P n F Ek env L ⟨d,.binOp .add t x y t',ty,pos,after,g⟩ (.int k r):=by
 intro a w h;simp[execOp,h.eval hx.1,h.eval hy.1,binOp_add,eqGuard_add,Op.intArith,hw.1]
theorem oU[hx:Ej (eo env x) (some (.int k p))][hy:Ej (eo env y) (some (.int k q))][hw:Ej (k.wrap (p-q)) r]:Qt P n F Ek env L ⟨d,.binOp .sub t x y t',ty,pos,after,g⟩ (.int k r):=by
 intro a w h;simp[execOp,h.eval hx.1,h.eval hy.1,binOp_sub,eqGuard_sub,Op.intArith,hw.1]
theorem uM[hx:Ej (eo env x) (some (.int k p))][hy:Ej (eo env y) (some (.int k q))][hw:Ej (k.wrap (p*q)) r]:Qt P n F Ek env L ⟨d,.binOp .mul t x y t',ty,pos,after,g⟩ (.int k r):=by
 intro a w h;simp[execOp,h.eval hx.1,h.eval hy.1,binOp_mul,eqGuard_mul,Op.intArith,hw.1]
theorem cM[hx:Ej (eo env x) (some (.int k p))][hy:Ej (eo env y) (some (.int k q))](h0:q≠0)[hw:Ej (k.wrap (p.tdiv q)) r]:Qt P n F Ek env L ⟨d,.binOp .quo t x y t',ty,pos,after,g⟩ (.int k r):=by
 intro a w h;simp[execOp,h.eval hx.1,h.eval hy.1,binOp_quo,eqGuard_quo,Op.intDiv,hw.1,h0]
theorem et[hx:Ej (eo env x) (some (.int k p))][hy:Ej (eo env y) (some (.int k q))](h0:q≠0)[hw:Ej (p.tmod q) r]:Qt P n F Ek env L ⟨d,.binOp .rem t x y t',ty,pos,after,g⟩ (.int k r):=by
 intro a w h;simp[execOp,h.eval hx.1,h.eval hy.1,binOp_rem,eqGuard_rem,Op.intDiv,hw.1,h0]
theorem Wz[hx:Ej (eo env x) (some (.int k p))][hy:Ej (eo env y) (some (.int k q))][hw:Ej (bits .and k p q) r]:Qt P n F Ek env L ⟨d,.binOp .and t x y t',ty,pos,after,g⟩ (.int k r):=by
 intro a w h;simp[execOp,h.eval hx.1,h.eval hy.1,binOp_and,eqGuard_and,intBits_and,hw.1]
theorem oV[hx:Ej (eo env x) (some (.int k p))][hy:Ej (eo env y) (some (.int k' q))](h0:0<=q)[hw:Ej (p / 2 ^ min q.toNat k.bits) r]:Qt P n F Ek env L ⟨d,.binOp .shr t x y t',ty,pos,after,g⟩ (.int k r):=by
 intro a w h;simp[execOp,h.eval hx.1,h.eval hy.1,binOp_shr,eqGuard_shr,shift_shr_any _ _ _ _ h0,hw.1]
theorem cN[hx:Ej (eo env x) (some (.int k p))][hy:Ej (eo env y) (some (.int k' q))](h0:0<=q)[hw:Ej (k.wrap (p*2 ^ min q.toNat k.bits)) r]:Qt P n F Ek env L ⟨d,.binOp .shl t x y t',ty,pos,after,g⟩ (.int k r):=by
 intro a w h;simp[execOp,h.eval hx.1,h.eval hy.1,binOp_shl,eqGuard_shl,shift_shl_any _ _ _ _ h0,hw.1]
theorem oW[hx:Ej (eo env x) (some (.int k p))][hy:Ej (eo env y) (some (.int k q))]:Qt P n F Ek env L ⟨d,.binOp .lss t x y t',ty,pos,after,g⟩ (.bool (decide (p<q))):=by
 intro a w h;simp[execOp,h.eval hx.1,h.eval hy.1,binOp_lss,eqGuard_lss]
theorem WA(hx:eo env x=some (.int k p))(hy:eo env y=some (.int k q)):Qt P n F Ek env L ⟨d,.binOp .leq t x y t',ty,pos,after,g⟩ (.bool (decide (p<=q))):=by
 intro a w h;simp[execOp,h.eval hx,h.eval hy,binOp_leq,eqGuard_leq]
theorem oX[hx:Ej (eo env x) (some (.int k p))][hy:Ej (eo env y) (some (.int k q))]:Qt P n F Ek env L ⟨d,.binOp .gtr t x y t',ty,pos,after,g⟩ (.bool (decide (p>q))):=by
 intro a w h;simp[execOp,h.eval hx.1,h.eval hy.1,binOp_gtr,eqGuard_gtr]
theorem tZ[hx:Ej (eo env x) (some (.int k p))][hy:Ej (eo env y) (some (.int k q))]:Qt P n F Ek env L ⟨d,.binOp .geq t x y t',ty,pos,after,g⟩ (.bool (decide (p>=q))):=by
 intro a w h;simp[execOp,h.eval hx.1,h.eval hy.1,binOp_geq,eqGuard_geq]
theorem uh[hx:Ej (eo env x) (some (.int k p))][hy:Ej (eo env y) (some (.int k q))]:Qt P n F Ek env L ⟨d,.binOp .eql t x y t',ty,pos,after,g⟩ (.bool (decide (p=q))):=by
 intro a w h;simp only[execOp,h.eval hx.1,h.eval hy.1,binOp_eql,eqGuard_at_int];rw[show(p == q)=decide (p=q) from by by_cases e:p=q <;> simp[e]];simp
theorem kj[hx:Ej (eo env x) (some (.int k p))][hy:Ej (eo env y) (some (.int k q))]:Qt P n F Ek env L ⟨d,.binOp .neq t x y t',ty,pos,after,g⟩ (.bool (decide (p≠q))):=by
 intro a w h;simp only[execOp,h.eval hx.1,h.eval hy.1,binOp_neq,eqGuard_at_int];rw[show(p != q)=decide (p≠q) from by by_cases e:p=q <;> simp[e]];simp
theorem Kz(hx:eo env x=some (.int k p))(hw:k.wrap (0-p)=r):Qt P n F Ek env L ⟨d,.unOp .neg t x,ty,pos,after,g⟩ (.int k r):=by
 intro a w h
 have:k.wrap (-p)=r:=by rw[<- hw];congr 1;omega
 simp[execOp,h.eval hx,Op.unary,Op.intArith,this]
theorem th{b:Bool}[hx:Ej (eo env x) (some (.bool b))]:Qt P n F Ek env L ⟨d,.unOp .not t x,ty,pos,after,g⟩ (.bool (!b)):=by
 intro a w h;simp[execOp,h.eval hx.1,Op.unary]
theorem vo{dd:TypeDesc}(hs:P.underlying t=some dd)(hd:P.underlying t'=some (.int k'))[hx:Ej (eo env x) (some (.int k p))][hw:Ej (k'.wrap p) r]:Qt P n F Ek env L ⟨d,.convert t t' x,ty,pos,after,g⟩ (.int k' r):=by
 intro a w h;simp[execOp,h.eval hx.1,hw.1,convert,run_underlying hs,run_underlying hd,Conv.intToInt]
theorem lT{Cu:Array TypeId}[hx:Ej (eo env x) (some (.int k p))][hy:Ej (eo env y) (some (.int k q))][hw:Ej (max p q) r]:Qt P n F Ek env L ⟨d,.call ⟨.builtin .max,#[x,y],Cu⟩,ty,pos,after,g⟩ (.int k r):=by
 have hx:=hx.1
 have hy:=hy.1
 have hw:=hw.1
 intro a w h
 have:(if q>p then q else p)=r:=by subst hw;simp only[Int.max_def];split <;> split <;> omega
 simp[execOp,h.eval hx,h.eval hy,resolve,invoke,builtin,run_max_int2,this]
theorem KA{Cu:Array TypeId}(hx:eo env x=some (.int k p))(hy:eo env y=some (.int k q))(hw:min p q=r):Qt P n F Ek env L ⟨d,.call ⟨.builtin .min,#[x,y],Cu⟩,ty,pos,after,g⟩ (.int k r):=by
 intro a w h
 have:(if q<p then q else p)=r:=by subst hw;simp only[Int.min_def];split <;> split <;> omega
 simp[execOp,h.eval hx,h.eval hy,resolve,invoke,builtin,run_min_int2,this]
theorem J0{e:TypeId}{ao:Option Addr}(ht:P.underlying t=some (.pointer e))(hx:eo env x=some (.pointer ao))(hy:eo env y=some (.pointer none)):Qt P n F Ek env L ⟨d,.binOp .eql t x y t',ty,pos,after,g⟩ (.bool ao.isNone):=by
 intro a w h
 have AS:P.underlying t=some (.pointer (P.pointee t)):=by simp[Program.pointee,ht]
 simp[execOp,h.eval hx,h.eval hy,eqGuard_at_pointer,run_eql_pointer_nil w t ao AS]
theorem wO{fn:Fn}{caps:Array Operand}{vs:Array Value}(hc:∀ a w,SS n F Ek env L a w->caps.map a.eval=vs):Qt P n F Ek env L ⟨d,.makeFunc fn #[] caps,ty,pos,after,g⟩ (.func fn #[] vs):=by
 intro a w h;simp[execOp,Instr.makeFunc,hc a w h]
end
end
section
variable {x y a0 a1:Asrt}{w Ek:World}{F:List Nat}{R L:List Asrt}{α:Type}{cs:List Value}{P:Program}{t:TypeId}{i:TypeInfo}{v:Value}{A:Addr}{sz:Nat}
variable [Rnd]
inductive Upd:List Asrt->Asrt->Asrt->List Asrt->Prop
 | here {x y:Asrt} {R:List Asrt}:Upd (x::R) x y (y::R)
 | there {x y z:Asrt} {L R:List Asrt} (h:Upd L x y R):Upd (z::L) x y (z::R)
theorem Upd.h1:Upd (a0::x::R) x y (a0::y::R) := .there .here
theorem Upd.h2:Upd (a0::a1::x::R) x y (a0::a1::y::R) := .there .h1
theorem Upd.h3{a2:Asrt}:Upd (a0::a1::a2::x::R) x y (a0::a1::a2::y::R) := .there .h2
theorem Upd.h4{a2 a3:Asrt}:Upd (a0::a1::a2::a3::x::R) x y (a0::a1::a2::a3::y::R) := .there .h3
theorem Upd.h5{a2 a3 a4:Asrt}:Upd (a0::a1::a2::a3::a4::x::R) x y (a0::a1::a2::a3::a4::y::R) := .there .h4
theorem Upd.h6{a2 a3 a4 a5:Asrt}:Upd (a0::a1::a2::a3::a4::a5::x::R) x y (a0::a1::a2::a3::a4::a5::y::R) := .there .h5
theorem Upd.h7{a2 a3 a4 a5 a6:Asrt}:Upd (a0::a1::a2::a3::a4::a5::a6::x::R) x y (a0::a1::a2::a3::a4::a5::a6::y::R) := .there .h6
theorem Upd.mem{L':List Asrt}(h:Upd L x y L'):x∈L:=by
 induction h with
 | here=>simp
 | there _ ih=>exact List.mem_cons_of_mem _ ih
theorem Pick.mem{L R:List α}{x:α}(h:Pick L x R):x∈L:=h.perm.mem_iff.2 (by simp)
theorem Hp.upd{w':World}{L':List Asrt}(h:Hp F Ek w L)(hu:Upd L x y L')(os:w'.os=w.os)(tape:TD w w')(output:w'.output=w.output)(size:w.heap.size<=w'.heap.size)(block:∀ k,k<w.heap.size->k∉x.fp->w'.heap[k]?=w.heap[k]?)(BE:y.ok w')(Cv:∀ b∈y.fp,b<w'.heap.size/\(b∈x.fp\/w.heap.size<=b)):Hp F Ek w' L':=by
 have gen:∀ {L L':List Asrt},Upd L x y L'->(∀ z∈L,z.ok w)->(∀ z∈L,∀ b∈z.fp,b<w.heap.size)->(∀ z∈L,∀ b∈z.fp,b∈F\/Ek.heap.size<=b)->
   (L.Pairwise fun x y=>∀ b∈x.fp,b∉y.fp)->
   (∀ z∈L',z.ok w')/\(∀ z∈L',∀ b∈z.fp,b<w'.heap.size)/\(∀ z∈L',∀ b∈z.fp,b∈F\/Ek.heap.size<=b)/\(L'.Pairwise fun x y=>∀ b∈x.fp,b∉y.fp)/\
   (∀ z∈L',(z=y)\/z∈L )/\(∀ b,b<w.heap.size->(∀ z∈L,b∉z.fp)->∀ z∈L',b∉z.fp):=by
  intro L L' hu2
  clear hu
  induction hu2 with
  | @here x y R=>
   intro o1 o2 o3 o4
   obtain⟨p1,p2⟩:=List.pairwise_cons.1 o4
   have hb:∀ z∈R,∀ b∈z.fp,b∉y.fp:=fun z hz b hb hc=>by
    rcases(Cv b hc).2 with h1 | h1
    ·exact p1 z hz b h1 hb
    ·have:=o2 z (List.mem_cons_of_mem _ hz) b hb;omega
   refine⟨?_,?_,?_,?_,?_,?_⟩
   ·intro z hz
    rcases List.mem_cons.1 hz with rfl | hz
    ·exact BE
    ·exact z.loc w w' (fun b hb hl=>block b hl (fun hc=>p1 z hz b hc hb)) (o2 z (List.mem_cons_of_mem _ hz)) (o1 z (List.mem_cons_of_mem _ hz))
   ·intro z hz b hb'
    rcases List.mem_cons.1 hz with rfl | hz
    ·exact(Cv b hb').1
    ·exact Nat.lt_of_lt_of_le (o2 z (List.mem_cons_of_mem _ hz) b hb') size
   ·intro z hz b hb'
    rcases List.mem_cons.1 hz with rfl | hz
    ·rcases(Cv b hb').2 with h1 | h1
     ·exact o3 x (by simp) b h1
     ·exact .inr (Nat.le_trans h.size h1)
    ·exact o3 z (List.mem_cons_of_mem _ hz) b hb'
   ·exact List.pairwise_cons.2 ⟨fun z hz b hb' hc=>hb z hz b hc hb',p2⟩
   ·intro z hz
    rcases List.mem_cons.1 hz with rfl | hz
    ·exact .inl rfl
    ·exact .inr (List.mem_cons_of_mem _ hz)
   ·intro b zH Ax z hz hc
    rcases List.mem_cons.1 hz with rfl | hz
    ·rcases(Cv b hc).2 with h1 | h1
     ·exact Ax x (by simp) h1
     ·omega
    ·exact Ax z (List.mem_cons_of_mem _ hz) hc
  | @there x y v L R hu ih=>
   intro o1 o2 o3 o4
   obtain⟨p1,p2⟩:=List.pairwise_cons.1 o4
   obtain⟨q1,q2,q3,q4,q5,q6⟩:=ih block BE Cv (fun z hz=>o1 z (List.mem_cons_of_mem _ hz)) (fun z hz=>o2 z (List.mem_cons_of_mem _ hz)) (fun z hz=>o3 z (List.mem_cons_of_mem _ hz)) p2
   have hvx:∀ b∈v.fp,b∉x.fp:=p1 x hu.mem
   refine⟨?_,?_,?_,?_,?_,?_⟩
   ·intro z hz
    rcases List.mem_cons.1 hz with rfl | hz
    ·exact z.loc w w' (fun b hb hl=>block b hl (hvx b hb)) (o2 z (by simp)) (o1 z (by simp))
    ·exact q1 z hz
   ·intro z hz b hb'
    rcases List.mem_cons.1 hz with rfl | hz
    ·exact Nat.lt_of_lt_of_le (o2 z (by simp) b hb') size
    ·exact q2 z hz b hb'
   ·intro z hz b hb'
    rcases List.mem_cons.1 hz with rfl | hz
    ·exact o3 z (by simp) b hb'
    ·exact q3 z hz b hb'
   ·exact List.pairwise_cons.2 ⟨fun z hz b hb'=>q6 b (o2 v (by simp) b hb') (fun z hz hc=>p1 z hz b hb' hc) z hz,q4⟩
   ·intro z hz
    rcases List.mem_cons.1 hz with rfl | hz
    ·exact .inr (by simp)
    ·rcases q5 z hz with h1 | h1
     ·exact .inl h1
     ·exact .inr (List.mem_cons_of_mem _ h1)
   ·intro b zH Ax z hz hc
    rcases List.mem_cons.1 hz with rfl | hz
    ·exact Ax z (by simp) hc
    ·exact q6 b zH (fun z hz=>Ax z (List.mem_cons_of_mem _ hz)) z hz hc
 obtain⟨q1,q2,q3,q4,_,_⟩:=gen hu h.ok h.lt h.ow h.sep
 refine⟨os.trans h.os,tape.trans h.tape,output.trans h.output,Nat.le_trans h.size size,fun k hk hf=>?_,q1,q2,q3,q4⟩
 rw[block k (Nat.lt_of_lt_of_le hk h.size) (fun hc=>?_)]
 ·exact h.block k hk hf
 ·rcases h.ow x hu.mem k hc with h1 | h1
  ·exact hf h1
  ·omega
theorem Hp.add(h:Hp F Ek w L)(BE:x.ok w)(tW:∀ b∈x.fp,b<w.heap.size)(how:∀ b∈x.fp,b∈F\/Ek.heap.size<=b)(hsep:∀ y∈L,∀ b∈x.fp,b∉y.fp):Hp F Ek w (x::L):=
 ⟨h.os,h.tape,h.output,h.size,h.block,
  fun y hy=>(List.mem_cons.1 hy).elim (fun e=>e▸BE) (h.ok y),
  fun y hy=>(List.mem_cons.1 hy).elim (fun e=>e▸tW) (h.lt y),
  fun y hy=>(List.mem_cons.1 hy).elim (fun e=>e▸how) (h.ow y),
  List.pairwise_cons.2 ⟨hsep,h.sep⟩⟩
theorem Hp.alloc{F:List Nat}{Ek w:World}{L:List Asrt}(h:Hp F Ek w L)(o:Obj):Hp F Ek (w.alloc o) (wA w.heap.size o::L):=by
 refine(h.ext (.alloc w o)).add (heap_alloc_new w o) (by simp[wA]) (by simp[wA,h.size]) ?_
 intro y hy b hb hc
 simp[wA] at hb
 have:=h.lt y hy b hc
 omega
def stb(b:Nat)(T:TypeId)(cs:List Value):Asrt:=wA b (.cells cs.toArray T (0,0))
theorem cR{b:Nat}{T:TypeId}:(stb b T cs).ok w↔w.heap[b]?=some (.cells cs.toArray T (0,0)):=Iff.rfl
theorem cS{b:Nat}{T:TypeId}:(stb b T cs).fp=[b]:=rfl
def jt(P:Program)(t:TypeId):Prop:=(isAgg t).run P=fun w=>Result.ok false w
def g5(P:Program)(t:TypeId)(s:Nat):Prop:=((isAgg t).run P=fun w=>Result.ok true w)/\(Go.sizeOf t).run P=fun w=>Result.ok s w
def q8(P:Program)(t:TypeId)(s:Nat):Prop:=(Go.sizeOf t).run P=fun w=>Result.ok s w
def wt(P:Program)(s:TypeId)(f k:Nat):Prop:=∀ a w,(Instr.fieldAt s (.pointer (some a)) f).run P w = .ok (.pointer (some (a.add k))) w
def vk(P:Program)(t:TypeId)(v:Value):Prop:=(zeroValue t).run P=fun w=>Result.ok v w
structure elT (P:Program) (t e:TypeId) (sz by_:Nat):Prop where
 sl:P.underlying t=some (.slice e)
 inf:∃ i z,P.info? e=some i/\i.zero=some z/\i.size=sz/\i.bytes=by_/\z.cells.size=sz
 pos:0<sz
theorem vJ{d:TypeDesc}(h:P.underlying t=some d)[hd:Ej (match d with | .struct _ | .array _ _=>true | _=>false) false]:jt P t:=by
 have hd:=hd.1
 funext w
 simp only[isAgg,Sem.run_bind,run_underlying h,Result.andThen_ok]
 split <;> simp_all
theorem vc(h:P.info? t=some i):q8 P t i.size:=by
 funext w;simp[Go.sizeOf,typeInfo,h]
theorem qz{d:TypeDesc}(h:P.underlying t=some d)(hd:(match d with | .struct _ | .array _ _=>true | _=>false)=true)(hi:P.info? t=some i):g5 P t i.size:=by
 refine⟨?_,vc hi⟩
 funext w
 simp only[isAgg,Sem.run_bind,run_underlying h,Result.andThen_ok]
 split <;> simp_all
theorem wq{s:TypeId}{fs:Array Field}{f:Nat}{fd:Field}(h:P.underlying s=some (.struct fs))(hf:fs[f]?=some fd)(hi:P.info? fd.type=some i)(h0:i.size≠0){k:Nat}(hk:fd.offset=k):wt P s f k:=by
 subst hk
 intro a w
 simp[Instr.fieldAt,run_underlying h,hf,Instr.sureAddr,fieldPlace,Go.sizeOf,typeInfo,hi,h0]
theorem wT(h:P.info? t=some i)(hz:i.zero=some v):vk P t v:=by
 funext w;simp[zeroValue,typeInfo,h,hz]
def gU(F:List Nat)(w:World)(A:Addr)(cs:List Value):Prop:=
 A.block∉F/\∀ j u,cs[j]?=some u->w.cell? (A.add j)=some u
theorem Addr.sh(A:Addr)(i j:Nat):(A.add i).add j=A.add (i+j):=by
 unfold Addr.add
 split <;> split <;> simp_all [Nat.add_assoc]
theorem Addr.iU(A:Addr)(i:Nat):(A.add i).block=A.block:=by unfold Addr.add;split <;> rfl
theorem gU.sub(h:gU F w A cs)(k:Nat):gU F w (A.add k) (cs.drop k):=
 ⟨by rw[Addr.iU];exact h.1,fun j u hu=>by rw[Addr.sh];exact h.2 _ _ (by simpa using hu)⟩
theorem gU.pre{ds:List Value}(h:gU F w A (cs++ds)):gU F w A cs:=
 ⟨h.1,fun j u hu=>h.2 j u (by
  have hj:j<cs.length:=(List.getElem?_eq_some_iff.1 hu).1
  rw[List.getElem?_append_left hj];exact hu)⟩
theorem gU.now(h:gU F Ek A cs)(hp:Hp F Ek w L):∀ j u,cs[j]?=some u->w.cell? (A.add j)=some u:=by
 intro j u hu
 have h1:=h.2 j u hu
 have tW:=block_lt_of_cell h1
 rw[<- h1]
 refine World.cell?_of_block (hp.block _ tW ?_)
 rw[Addr.iU];exact h.1
theorem gU.at{F F':List Nat}{Ek w:World}{L:List Asrt}{A:Addr}{cs:List Value}(h:gU F Ek A cs)(hp:Hp F Ek w L)(hF:∀ b∈F',∃ x∈L,b∈x.fp)(uQ:cs≠[]):gU F' w A cs:=by
 refine⟨fun hb=>?_,h.now hp⟩
 obtain⟨x,hx,zK⟩:=hF _ hb
 obtain⟨c,cs',rfl⟩:∃ c cs',cs=c::cs':=by cases cs with | nil=>exact absurd rfl uQ | cons c cs'=>exact⟨c,cs',rfl⟩
 have h1:=h.2 0 c (by simp)
 have tW:=block_lt_of_cell h1
 rw[Addr.iU] at tW
 rcases hp.ow x hx _ zK with h2 | h2
 ·exact h.1 h2
 ·omega
structure Sl (F:List Nat) (w:World) (v:Value) (sz:Nat) (rows:List (List Value)):Prop where
 shape:∃ ao cap,v = .slice ao rows.length cap/\rows.length<=cap/\cap<=maxLen/\(rows≠[]->∃ A,ao=some A/\gU F w A rows.flatten)
 len:∀ r∈rows,r.length=sz
def sS{α:Type}(F:List Nat)(w:World)(v:Value)(sz:Nat)(Pr:List Value->α->Prop)(l:List α):Prop:=
 ∃ rows:List (List Value),Sl F w v sz rows/\rows.length=l.length/\∀(i:Nat) (r:List Value) (x:α),rows[i]?=some r->l[i]?=some x->Pr r x
theorem bH{sz:Nat}:∀ {rows:List (List Value)} (_:∀ r∈rows,r.length=sz) {i:Nat} {r:List Value} (_:rows[i]?=some r),∃ tl,rows.flatten.drop (i*sz)=r++tl
 | [],_,i,r,h=>by simp at h
 | r0::rows,hl,0,r,h=>by simp at h;subst h;exact⟨rows.flatten,by simp⟩
 | r0::rows,hl,i+1,r,h=>by
  have h0:r0.length=sz:=hl r0 (by simp)
  obtain⟨tl,ht⟩:=bH (fun r hr=>hl r (List.mem_cons_of_mem _ hr)) (i:=i) (r:=r) (by simpa using h)
  refine⟨tl,?_⟩
  rw[<- ht,List.flatten_cons,Nat.succ_mul,Nat.add_comm,<- h0,<- List.drop_drop,List.drop_left]
theorem sS.shape{Pr:List Value->α->Prop}{l:List α}(h:sS F w v sz Pr l):
  ∃ ao cap,v = .slice ao l.length cap/\l.length<=cap/\cap<=maxLen:=by
 obtain⟨rows,⟨⟨ao,cap,hv,h1,h2,_⟩,_⟩,hl,_⟩:=h
 exact⟨ao,cap,by rw[hv,hl],by omega,h2⟩
theorem sS.len{ao:Option Addr}{m cap:Nat}{Pr:List Value->α->Prop}{l:List α}(h:sS F w (.slice ao m cap) sz Pr l):m=l.length:=by
 obtain⟨Ay,tP,hv,_⟩:=h.shape
 injection hv
theorem sS.elem{Pr:List Value->α->Prop}{l:List α}(h:sS F w v sz Pr l){i:Nat}(hi:i<l.length):
  ∃ A cap r,v = .slice (some A) l.length cap/\gU F w (A.add (i*sz)) r/\r.length=sz/\Pr r l[i]:=by
 obtain⟨rows,⟨⟨ao,cap,hv,h1,h2,h3⟩,nj⟩,hl,hP⟩:=h
 have AH:i<rows.length:=by omega
 obtain⟨A,rfl,hc⟩:=h3 (by intro e;subst e;simp at AH)
 have hr:rows[i]?=some rows[i]:=List.getElem?_eq_getElem AH
 obtain⟨tl,ht⟩:=bH nj hr
 refine⟨A,cap,rows[i],by rw[hv,hl],?_,nj _ (List.getElem_mem AH),hP i _ _ hr (List.getElem?_eq_getElem hi)⟩
 have:=hc.sub (i*sz)
 rw[ht] at this
 exact this.pre
theorem sS.at{α:Type}{F F':List Nat}{Ek w:World}{L:List Asrt}{v:Value}{sz:Nat}{Pr Pr':List Value->α->Prop}{l:List α}(h:sS F Ek v sz Pr l)(hp:Hp F Ek w L)(hF:∀ b∈F',∃ x∈L,b∈x.fp)(nP:0<sz)(hPr:∀ r x,Pr r x->Pr' r x):sS F' w v sz Pr' l:=by
 obtain⟨rows,⟨⟨ao,cap,hv,h1,h2,h3⟩,nj⟩,hl,hP⟩:=h
 refine⟨rows,⟨⟨ao,cap,hv,h1,h2,fun uQ=>?_⟩,nj⟩,hl,fun i r x hr hx=>hPr _ _ (hP i r x hr hx)⟩
 obtain⟨A,hA,hc⟩:=h3 uQ
 refine⟨A,hA,hc.at hp hF ?_⟩
 intro e
 obtain⟨r,rs,rfl⟩:∃ r rs,rows=r::rs:=by cases rows with | nil=>exact absurd rfl uQ | cons r rs=>exact⟨r,rs,rfl⟩
 have:=nj r (by simp)
 rw[List.flatten_cons] at e
 have:r=[]:=List.append_eq_nil_iff.1 e |>.1
 subst this
 simp at this
 omega
theorem sS.nil(F:List Nat)(w:World)(sz:Nat)(Pr:List Value->α->Prop):sS F w (.slice none 0 0) sz Pr []:=
 ⟨[],⟨⟨none,0,rfl,by simp,by simp,by simp⟩,by simp⟩,rfl,by simp⟩
theorem sS.sub{α:Type}{F:List Nat}{w:World}{v:Value}{sz:Nat}{Pr:List Value->α->Prop}{l:List α}(h:sS F w v sz Pr l)(nP:0<sz){lo hi:Nat}(h1:lo<=hi)(h2:hi<=l.length):
  ∀ ao cap,v = .slice ao l.length cap->sS F w (.slice (if cap=lo then ao else ao.map (·.add (lo*sz))) (hi-lo) (cap-lo)) sz Pr ((l.take hi).drop lo):=by
 intro ao cap hv
 obtain⟨rows,⟨⟨Ay,tP,zC,g1,g2,g3⟩,nj⟩,hl,hP⟩:=h
 rw[hv] at zC
 injection zC with e1 e2 e3
 subst e1;subst e3
 refine⟨(rows.take hi).drop lo,⟨⟨if cap=lo then ao else ao.map (·.add (lo*sz)),cap-lo,?_,?_,?_,?_⟩,?_⟩,?_,?_⟩
 ·congr 1;simp;omega
 ·simp;omega
 ·omega
 ·intro uQ
  have tW:lo<hi:=by
   rcases Nat.lt_or_ge lo hi with h' | h'
   ·exact h'
   ·exact absurd (List.drop_eq_nil_of_le (by simp;omega)) uQ
  obtain⟨A,rfl,hc⟩:=g3 (by intro e;subst e;simp at hl;omega)
  have wK:cap≠lo:=by omega
  refine⟨A.add (lo*sz),by simp[wK],?_⟩
  have:=hc.sub (lo*sz)
  have Cw:∀(rows:List (List Value)) (k:Nat),(∀ r∈rows,r.length=sz)->k<=rows.length->rows.flatten.drop (k*sz)=(rows.drop k).flatten:=by
   intro rows
   induction rows with
   | nil=>intro k _ hk;simp at hk;subst hk;simp
   | cons r rs ih=>
    intro k hr hk
    cases k with
    | zero=>simp
    | succ k=>
     have h0:r.length=sz:=hr r (by simp)
     rw[List.flatten_cons,Nat.succ_mul,Nat.add_comm,<- h0,<- List.drop_drop,List.drop_left,h0]
     simpa using ih k (fun r h=>hr r (List.mem_cons_of_mem _ h)) (by simpa using hk)
  rw[Cw rows lo nj (by omega)] at this
  have e:rows.drop lo=(rows.take hi).drop lo++rows.drop hi:=by
   rw[<- List.drop_append_of_le_length (by simp;omega),List.take_append_drop]
  rw[e,List.flatten_append] at this
  exact this.pre
 ·intro r hr;exact nj r (List.mem_of_mem_take (List.mem_of_mem_drop hr))
 ·simp[hl]
 ·intro i r x hr hx
  simp only[List.getElem?_drop,List.getElem?_take] at hr hx
  split at hr
  ·rename_i tW;simp only[tW,if_true] at hx;exact hP _ _ _ hr hx
  ·cases hr
end
section
variable {cs news ds vs:List Value}{m cap off k s capk:Nat}{w:World}{A:Addr}{ao:Option Addr}{p:Prop}{dty:TypeId}
variable [Rnd]
def Ef{G:Type}(P:Program)(n:Nat)(F:List Nat)(Ek:World)(env:List (Nat×Value))(L:List Asrt)(o:Oper)(φ:G->Prop)(val:G->Value)(L':G->List Asrt):Prop:=
 ∀ a w,SS n F Ek env L a w->∃ g w',(execOp a.eval o).run P w = .ok (.value (val g)) w'/\φ g/\Hp F Ek w' (L' g)
def Yg{G:Type}(P:Program)(n:Nat)(F:List Nat)(Ek:World)(env:List (Nat×Value))(L:List Asrt)(o:Oper)(φ:G->Prop)(val:G->Value)(L':G->List Asrt):Prop:=
 ∀ a w,SS n F Ek env L a w->∃ g w',(execOp a.eval o).run P w = .ok (.value (val g)) w'/\φ g/\Hp F Ek w' (L' g)/\Ext w w'
def Yh(P:Program)(n:Nat)(F:List Nat)(Ek:World)(env:List (Nat×Value))(L:List Asrt)(o:Oper)(L':List Asrt):Prop:=
 ∀ a w,SS n F Ek env L a w->∃ w',nn P o a w w'/\Hp F Ek w' L'
theorem Yg.ef{G:Type}{P:Program}{n:Nat}{F:List Nat}{Ek:World}{env:List (Nat×Value)}{L:List Asrt}{o:Oper}{φ:G->Prop}{val:G->Value}{L':G->List Asrt}(h:Yg P n F Ek env L o φ val L'):Ef P n F Ek env L o φ val L':=fun a w hs=>let ⟨g,w',h1,h2,h3,_⟩:=h a w hs;⟨g,w',h1,h2,h3⟩
section
variable {P:Program} {n:Nat} {F:List Nat} {Ek:World} {env:List (Nat×Value)} {L R:List Asrt} {ops:Array Oper} {Q:Exit->Act->World->Prop} {na:List Oper}
 {dd:Nat} {d:Option Tmp} {ty:TypeId} {pos:String} {after:Array Edge} {g:Option (Nat×Bool)} {x y c:Operand} {v u:Value} {t e T:TypeId} {sz by_:Nat}
theorem w7{f:Nat}{A':Addr}(hf:wt P t f k)[hx:Ej (eo env x) (some (.pointer (some A)))][hA:Ej (A.add k) A']:Qt P n F Ek env L ⟨d,.fieldAddr t x f,ty,pos,after,g⟩ (.pointer (some A')):=by
 have hA:=hA.1
 intro a w h;subst hA;simp[execOp,h.eval hx.1,hf A w]
theorem w8(hT:jt P t)(hx:eo env x=some (.pointer (some A)))(hR:∀ w,Hp F Ek w L->w.cell? A=some v):Qt P n F Ek env L ⟨d,.load t x,ty,pos,after,g⟩ v:=by
 intro a w h
 have:=congrFun hT w
 simp[execOp,h.eval hx,Instr.loadAt,Instr.sureAddr,loadVar,this,hR w h.hp]
theorem wX(hT:g5 P t s)[hx:Ej (eo env x) (some (.pointer (some A)))][hl:Ej (Nat.beq cs.length s) true](hR:∀ w,Hp F Ek w L->∀ j u,cs[j]?=some u->w.cell? (A.add j)=some u):
  Qt P n F Ek env L ⟨d,.load t x,ty,pos,after,g⟩ (.agg cs.toArray):=by
 intro a w h
 have h1:=congrFun hT.1 w
 have h2:=congrFun hT.2 w
 have h3:=run_loadCells_list (P:=P) w A cs (hR w h.hp)
 rw[(Nat.eq_of_beq_eq_true hl.1)] at h3
 simp[execOp,h.eval hx.1,Instr.loadAt,Instr.sureAddr,loadVar,h1,h2,h3]
theorem wc{b:Nat}(hm:Pick L (stb b T cs) R)(hv:cs[off]?=some v):∀ w,Hp F Ek w L->w.cell? ⟨b,off,none⟩=some v:=by
 intro w h
 have:=cR.1 (h.ok _ hm.mem)
 rw[cell_of_row w b off _ T (0,0) this]
 simpa using hv
theorem Kc{b:Nat}(hm:Pick L (stb b T cs) R)(hv:∀ j u,ds[j]?=some u->cs[off+j]?=some u):∀ w,Hp F Ek w L->∀ j u,ds[j]?=some u->w.cell? ((⟨b,off,none⟩:Addr).add j)=some u:=by
 intro w h j u hu
 rw[Addr.add_lit]
 exact wc hm (hv j u hu) w h
theorem wh{b:Nat}(hm:Pick L (stb b T cs) R):∀ w,Hp F Ek w L->∀ j u,cs[j]?=some u->w.cell? ((⟨b,0,none⟩:Addr).add j)=some u:=
 Kc hm (fun j u hu=>by simpa using hu)
theorem gt{b len:Nat}(hm:Pick L (row (.slice (some ⟨b,0,none⟩) len cap) e sz cs) R)(hv:cs[off]?=some v):∀ w,Hp F Ek w L->w.cell? ⟨b,off,none⟩=some v:=by
 intro w h
 obtain⟨m,e',hm⟩:=h.ok _ hm.mem
 have:=hm.cells (g:=b) rfl off v hv
 rwa [Addr.add_lit,Nat.zero_add] at this
theorem gV{b len:Nat}(hm:Pick L (row (.slice (some ⟨b,0,none⟩) len cap) e sz cs) R)(hv:∀ j u,ds[j]?=some u->cs[off+j]?=some u):
  ∀ w,Hp F Ek w L->∀ j u,ds[j]?=some u->w.cell? ((⟨b,off,none⟩:Addr).add j)=some u:=by
 intro w h j u hu
 rw[Addr.add_lit]
 exact gt hm (hv j u hu) w h
theorem wu[hx:Ej (eo env x) (some v)][hc:Ej v.cells cs.toArray]:
  Yg P n F Ek env L ⟨d,.box T x,ty,pos,after,g⟩ (fun _:Nat=>True) (fun b => .pointer (some ⟨b,0,none⟩)) (fun b=>stb b T cs::L):=by
 intro a w h
 refine⟨w.heap.size,w.alloc (.cells cs.toArray T (0,0)),?_,trivial,h.hp.alloc _,.alloc _ _⟩
 simp[execOp,h.eval hx.1,Instr.box,newVar,newRow,newObj,Sem.run,hc.1]
theorem wn(hz:vk P T v)[hc:Ej v.cells cs.toArray]:
  Yg P n F Ek env L ⟨d,.alloc T,ty,pos,after,g⟩ (fun _:Nat=>True) (fun b => .pointer (some ⟨b,0,none⟩)) (fun b=>stb b T cs::L):=by
 intro a w h
 have:=congrFun hz w
 refine⟨w.heap.size,w.alloc (.cells cs.toArray T (0,0)),?_,trivial,h.hp.alloc _,.alloc _ _⟩
 simp[execOp,Instr.alloc,this,newVar,newRow,newObj,Sem.run,hc.1]
def mf(cs:List Value)(off:Nat)(vs:List Value):List Value:=cs.take off++vs++cs.drop (off+vs.length)
theorem Hp.front{x:Asrt}(h:Hp F Ek w L)(hm:Pick L x R):Hp F Ek w (x::R):=h.sub (.cons hm .all)
theorem Hp.setRow{w:World}{b:Nat}{cs ds:List Value}(h:Hp F Ek w L)(hm:Pick L (stb b T cs) R):Hp F Ek (w.setRow b ds.toArray) (stb b T ds::R):=by
 have hk:=cR.1 (h.ok _ hm.mem)
 refine(h.front hm).upd (x:=stb b T cs) (y:=stb b T ds) .here rfl ⟨rfl,Nat.le_refl _⟩ rfl (by simp) (fun k _ zD=>setRow_other w b k _ (by simpa [cS] using zD)) (cR.2 (setRow_heap w b _ _ _ _ hk)) ?_
 intro b' hb'
 simp only[cS,List.mem_singleton] at hb'
 subst hb'
 exact⟨by simpa using h.lt _ hm.mem b' (by simp[cS]),.inl (by simp[cS])⟩
theorem Vr{b:Nat}(hT:q8 P t s)(hx:eo env x=some (.pointer (some ⟨b,off,none⟩)))(hy:eo env y=some v)(hv:v.cells=vs.toArray)(hs:vs.length=s)(h1:∀ u∈vs,u.oneCell'=true)(hm:Pick L (stb b T cs) R)(w9:off+s<=cs.length)(zZ:mf cs off vs=ds):
  Yh P n F Ek env L ⟨none,.store t x y,ty,pos,after,g⟩ (stb b T ds::R):=by
 intro a w h
 subst zZ
 have hk:=cR.1 (h.hp.ok _ hm.mem)
 have nE:=run_storeCells_at (P:=P) b off T vs 0 cs.toArray w hk (by simp;omega) h1
 have h2:=congrFun hT w
 refine⟨_,.inl ?_,h.hp.setRow hm (ds:=mf cs off vs)⟩
 simp only[Nat.add_zero] at nE
 simp[execOp,h.eval hx,h.eval hy,Instr.storeAt,Instr.sureAddr,storeVar,h2,hv,hs,nE,mf]
theorem wB(ht:P.underlying t=some (.slice e))[hx:Ej (eo env x) (some (.slice ao m cap))]:Qt P n F Ek env L ⟨d,.call ⟨.builtin .len,#[x],#[t]⟩,ty,pos,after,g⟩ (.int .i64 m):=by
 intro a w h
 have AS:P.underlying t=some (.slice (P.elem t)):=by simp[Program.elem,ht]
 simp[execOp,h.eval hx.1,resolve,invoke,builtin,run_len_slice w t _ ao m cap AS,goInt]
theorem wL{A':Addr}{k:IntKind}{i:Int}(ht:elT P t e sz by_)[hx:Ej (eo env x) (some (.slice (some A) m cap))][hy:Ej (eo env y) (some (.int k i))](h0:0<=i)(h1:i<m)(hA:A.add (i.toNat*sz)=A'):Qt P n F Ek env L ⟨d,.indexAddr t x y,ty,pos,after,g⟩ (.pointer (some A')):=by
 intro a w h
 subst hA
 obtain⟨inf,z,hi,hz,nP,_,_⟩:=ht.inf
 simp[execOp,h.eval hx.1,h.eval hy.1,Instr.indexAt,run_underlying ht.sl,asIntOf,h0,h1,Go.sizeOf,typeInfo,hi,nP]
theorem Hp.rowShape(h:Hp F Ek w L)(hm:Pick L (row (.slice ao m cap) e sz cs) R):
  cs.length=m*sz/\m<=cap/\cap<=maxLen/\((ao=none/\m=0/\cap=0)\/∃ b,ao=some ⟨b,0,none⟩):=by
 obtain⟨m',e',h1,h2⟩:=h.ok _ hm.mem
 rcases h2 with⟨hv,hn⟩ | ⟨b,tP,nZ,hv,_,hh,z6,zI,zL,zM⟩
 ·injection hv with e1 e2 e3;subst e1 e2 e3 hn;exact⟨by simpa using h1,by simp,by simp,.inl ⟨rfl,rfl,rfl⟩⟩
 ·injection hv with e1 e2 e3;subst e1 e2 e3;exact⟨h1,z6,zI,.inr ⟨b,rfl⟩⟩
theorem Es{l:List Oper}(hk:∀ w,Hp F Ek w L->p)(k:p->WL P n F Ek ops Q l env L):WL P n F Ek ops Q l env L:=fun a w h=>k (hk w h.hp) a w h
theorem Dt{cc:Code}(hk:∀ w,Hp F Ek w L->p)(k:p->WC P n F Ek Q cc env L):WC P n F Ek Q cc env L:=fun a w h=>k (hk w h.hp) a w h
theorem Om{ex:Exit}(hk:∀ w,Hp F Ek w L->p)(k:p->WX n F Ek Q ex env L):WX n F Ek Q ex env L:=fun a w h=>k (hk w h.hp) a w h
theorem Eu{tl:Nat->Bool}{Ls:List Asrt}{fuel:Nat}{listed:Array Bool}{QD:Act->World->Prop}(hk:∀ w,Hp F Ek w L->p)(k:p->WD P n F Ek ops tl Ls QD fuel listed env L):WD P n F Ek ops tl Ls QD fuel listed env L:=fun a w h=>k (hk w h.hp) a w h
theorem Sel.tl{α:Type}(x:α):∀ L:List α,Sel (x::L) L [x]
 | [] => .nil
 | _::L => .cons (.there .here) (Sel.tl x L)
theorem d7{t ty e e':TypeId}{i:TypeInfo}(ht:P.underlying t=some (.slice e))(hi:P.info? e=some i){g sLen sCap:Nat}{nZ:Array Value}(hg:w.heap[g]?=some (.cells nZ e' (0,0))){a:Addr}{c:Nat}(hl:news.length=m*i.size)(vM:∀ j u,news[j]?=some u->w.cell? (a.add j)=some u)(h1:∀ u∈news,u.oneCell'=true)(vN:sLen+m<=sCap)(w9:sLen*i.size+news.length<=nZ.size):
  (Builtin.append_ #[t,t] ty #[.slice (some ⟨g,0,none⟩) sLen sCap,.slice (some a) m c]).run P w =
   .ok (.slice (some ⟨g,0,none⟩) (sLen+m) sCap) (w.setRow g (nZ.toList.take (sLen*i.size)++news++nZ.toList.drop (sLen*i.size+news.length)).toArray):=by
 have hf:=run_firstCells_some (P:=P) w i.size m a m c news hl vM
 have nE:=run_storeCells_at P g (sLen*i.size) e' news 0 nZ w hg (by simpa using w9) h1
 simp only[Nat.add_zero] at nE
 simp[Builtin.append_,run_underlying ht,Go.sizeOf,typeInfo,hi,Builtin.lenOf,vN,hf,Addr.add_lit,nE]
theorem Hp.grown{z:Array Value}{old:Nat}(hp:Hp F Ek w L)(hz:z.size=sz)(hl:cs.length=m*sz)(Bo:m<=maxLen):
  Hp F Ek (w.drew.alloc (.cells (cs.toArray++Builtin.zeroCells z (grownCap w m old e-m)) e)) (row (.slice (some ⟨w.heap.size,0,none⟩) m (grownCap w m old e)) e sz cs::L):=by
 have hge:=grownCap_ge w m old e
 have Cx:=grownCap_le_maxLen w m old e Bo
 have uY:Hp F Ek w.drew L:=hp.ext ⟨rfl,⟨rfl,Nat.le_succ _⟩,rfl,Nat.le_refl _,fun _ _=>rfl⟩
 refine(uY.ext (.alloc w.drew _)).add ?_ (by simp[row,Value.ownBlock]) (by simp[row,Value.ownBlock,hp.size]) ?_
 ·refine⟨m,e,hl,.inr ⟨w.heap.size,_,_,rfl,Nat.zero_le _,heap_alloc_new w.drew _,hge,Cx,?_,?_⟩⟩
  ·simp only[Array.size_append,size_zeroCells,hz,List.size_toArray,hl,<- Nat.add_mul];congr 1;omega
  ·rw[Array.toList_append,List.toList_toArray,<- hl];exact List.take_left
 ·intro y hy b hb hc
  simp[row,Value.ownBlock] at hb
  have:=hp.lt y hy b hc
  omega
theorem Hp.room{b:Nat}{nZ:Array Value}{e':TypeId}(hf:Hp F Ek w (row (.slice (some ⟨b,0,none⟩) m cap) e sz cs::R))(hl:news.length=k*sz)(vN:m+k<=cap)(h0:cs.length=m*sz)(hh:w.heap[b]?=some (.cells nZ e' (0,0)))(zI:cap<=maxLen)(zL:nZ.size=cap*sz)(zM:nZ.toList.take (m*sz)=cs):
  Hp F Ek (w.setRow b (nZ.toList.take (m*sz)++news++nZ.toList.drop (m*sz+news.length)).toArray) (row (.slice (some ⟨b,0,none⟩) (m+k) cap) e sz (cs++news)::R):=by
 have nj:(cs++news).length=(m+k)*sz:=by rw[List.length_append,h0,hl,Nat.add_mul]
 have w9:m*sz+news.length<=nZ.size:=by rw[hl,zL,<- Nat.add_mul];exact Nat.mul_le_mul_right _ vN
 refine hf.upd (x:=row (.slice (some ⟨b,0,none⟩) m cap) e sz cs) (y:=row (.slice (some ⟨b,0,none⟩) (m+k) cap) e sz (cs++news)) .here rfl ⟨rfl,Nat.le_refl _⟩ rfl (by simp) ?_
  ⟨m+k,e',nj,.inr ⟨b,cap,_,rfl,Nat.zero_le _,setRow_heap w b nZ _ e' _ hh,vN,zI,?_,?_⟩⟩ ?_
 ·exact fun j _ hj=>setRow_other w b j _ (fun e=>hj (by simp[row,Value.ownBlock,e]))
 ·simp only[List.size_toArray,List.length_append,List.length_take,List.length_drop,Array.length_toList]
  omega
 ·rw[zM,<- nj]
  exact List.take_left
 ·intro c hb
  simp[row,Value.ownBlock] at hb
  subst hb
  exact⟨by simpa using hf.lt _ (List.mem_cons_self ..) c (by simp[row,Value.ownBlock]),.inl (by simp[row,Value.ownBlock])⟩
theorem Hp.append(hp:Hp F Ek w L)(ht:elT P t e sz by_)(hm:Pick L (row (.slice ao m cap) e sz cs) R)(hl:news.length=k*sz)(hA:∀ j u,news[j]?=some u->w.cell? (A.add j)=some u)(h1:∀ u∈news,u.oneCell'=true)(Bo:m+k<=maxLen)(zf:(m+k)*by_<=140737488355328)(Ah:0<k):
  ∃(p:Option Addr×Nat) (w':World),(Builtin.append_ #[t,t] dty #[.slice ao m cap,.slice (some A) k capk]).run P w = .ok (.slice p.1 (m+k) p.2) w'/\Hp F Ek w' (row (.slice p.1 (m+k) p.2) e sz (cs++news)::R):=by
 obtain⟨inf,z,hi,hz,nP,hb,Az⟩:=ht.inf
 obtain⟨m',e',iA⟩:=hp.ok _ hm.mem
 have hmm:m'=m:=Nat.eq_of_mul_eq_mul_right ht.pos (iA.1.symm.trans (hp.rowShape hm).1)
 subst hmm
 subst nP
 subst hb
 have h63':((m'+k:Nat):Int)<=9223372036854775807:=by simp only[maxLen] at Bo;omega
 have hf:=hp.front hm
 have nj:(cs++news).length=(m'+k)*inf.size:=by rw[List.length_append,iA.1,hl,Nat.add_mul]
 have hpR:Hp F Ek w R:=hf.sub (L':=R) (M:=[row (.slice ao m' cap) e inf.size cs]) (Sel.tl _ _)
 rcases iA.2 with⟨hv,hn⟩ | ⟨b0,tP,nZ,hv,_,hh,z6,zI,zL,zM⟩
 ·injection hv with e1 e2 e3
  subst e1 e3 hn
  have zF:cs=[]:=List.eq_nil_of_length_eq_zero (by simpa using iA.1)
  subst zF
  have hq:=run_append_nil (P:=P) w t dty e inf z ht.sl hi hz A k capk news hl hA (by omega) (by omega) (by simp only[Nat.zero_add] at zf;omega)
  refine⟨(_,_),_,by rw[hq,Nat.zero_add],?_⟩
  have:=hpR.grown (z:=z.cells) (e:=e) (old:=0) Az nj Bo
  simpa only [Nat.zero_add,List.nil_append] using this
 ·injection hv with e1 e2 e3
  subst e1 e3
  by_cases vN:m'+k<=cap
  ·have w9:m'*inf.size+news.length<=nZ.size:=by rw[hl,zL,<- Nat.add_mul];exact Nat.mul_le_mul_right _ vN
   refine⟨(_,_),_,d7 ht.sl hi hh hl hA h1 vN w9,?_⟩
   exact hf.room hl vN iA.1 hh zI zL zM
  ·have hq:=run_append_grow (P:=P) w t dty e inf z ht.sl hi hz ⟨b0,0,none⟩ m' cap cs iA.1 (iA.cells (g:=b0) rfl) A k capk news hl hA (by omega) (by omega) (growslice_fits (by omega) zf)
   have:=hpR.grown (z:=z.cells) (e:=e) (old:=cap) Az nj Bo
   rw[<- List.append_toArray] at this
   exact⟨(_,_),_,hq,this⟩
theorem XI{bo:Option Addr}{a:Act}(h:SS n F Ek env L a w)(ht:elT P t e sz by_)(hx:eo env x=some (.slice ao m cap))(hy:eo env y=some (.slice bo k capk))(hm:Pick L (row (.slice ao m cap) e sz cs) R)(hl:news.length=k*sz)(vM:news≠[]->∃ A,bo=some A/\∀ j u,news[j]?=some u->w.cell? (A.add j)=some u)(h1:∀ u∈news,u.oneCell'=true)(Bo:m+k<=maxLen)(zf:(m+k)*by_<=140737488355328):
  ∃(p:Option Addr×Nat) (w':World),(execOp a.eval ⟨d,.call ⟨.builtin .append,#[x,y],#[t,t]⟩,dty,pos,after,g⟩).run P w = .ok (.value (.slice p.1 (m+k) p.2)) w'/\True/\Hp F Ek w' (row (.slice p.1 (m+k) p.2) e sz (cs++news)::R):=by
 by_cases Ah:k=0
 ·subst Ah
  obtain⟨inf,z,hi,hz,nP,hb,Az⟩:=ht.inf
  have hn:news=[]:=List.eq_nil_of_length_eq_zero (by simpa using hl)
  subst hn
  refine⟨(ao,cap),w,?_,trivial,?_⟩
  ·have AU:m<=cap:=(h.hp.rowShape hm).2.1
   cases bo <;> cases ao <;> simp[execOp,h.eval hx,h.eval hy,resolve,invoke,builtin,Builtin.append_,run_underlying ht.sl,Go.sizeOf,typeInfo,hi,Builtin.lenOf,Builtin.firstCells,AU,loadCells,loadCellsFrom,storeCells]
  ·simpa using h.hp.front hm
 ·have uQ:news≠[]:=by
   intro e;subst e
   have:0=k*sz:=by simpa using hl
   have:=Nat.mul_pos (Nat.pos_of_ne_zero Ah) ht.pos
   omega
  obtain⟨A,rfl,hA⟩:=vM uQ
  obtain⟨p,w',hr,hp⟩:=h.hp.append (capk:=capk) (dty:=dty) ht hm hl hA h1 Bo zf (Nat.pos_of_ne_zero Ah)
  exact⟨p,w',by simp[execOp,h.eval hx,h.eval hy,resolve,invoke,builtin,hr],trivial,hp⟩
theorem J1{bo:Option Addr}(ht:elT P t e sz by_)(hx:eo env x=some (.slice ao m cap))(hy:eo env y=some (.slice bo k capk))(hm:Pick L (row (.slice ao m cap) e sz cs) R)(hl:news.length=k*sz)(vM:∀ w,Hp F Ek w L->news≠[]->∃ A,bo=some A/\∀ j u,news[j]?=some u->w.cell? (A.add j)=some u)(h1:∀ u∈news,u.oneCell'=true)(Bo:m+k<=maxLen)(zf:(m+k)*by_<=140737488355328):
  Ef P n F Ek env L ⟨d,.call ⟨.builtin .append,#[x,y],#[t,t]⟩,dty,pos,after,g⟩ (fun _:Option Addr×Nat=>True) (fun p => .slice p.1 (m+k) p.2) (fun p=>row (.slice p.1 (m+k) p.2) e sz (cs++news)::R):=
 fun _ w h=>XI h ht hx hy hm hl (vM w h.hp) h1 Bo zf
theorem Hp.nilRow(h:Hp F Ek w L)(e:TypeId)(sz:Nat):Hp F Ek w (row (.slice none 0 0) e sz []::L):=
 h.add (x:=row (.slice none 0 0) e sz []) ⟨0,e,World.ownsRow_nil w 0 e sz⟩ (by simp[row,Value.ownBlock]) (by simp[row,Value.ownBlock]) (by simp[row,Value.ownBlock])
theorem WL.nilRow{l:List Oper}(e:TypeId)(sz:Nat)(k:WL P n F Ek ops Q l env (row (.slice none 0 0) e sz []::L)):WL P n F Ek ops Q l env L:=fun a w h=>k a w (h.world (h.hp.nilRow e sz))
theorem WC.nilRow{cc:Code}(e:TypeId)(sz:Nat)(k:WC P n F Ek Q cc env (row (.slice none 0 0) e sz []::L)):WC P n F Ek Q cc env L:=fun a w h=>k a w (h.world (h.hp.nilRow e sz))
theorem wD{parts:Array (Nat×Operand)}{pv:Array (Nat×Value)}(ht:elT P t e sz by_)(hp:∀ a w,SS n F Ek env L a w->(parts.map fun(i,x)=>(i,a.eval x))=pv)(hr:∀ w,(Instr.buildSlice t m pv).run P w = .ok (.slice (some ⟨w.heap.size,0,none⟩) m m) (w.alloc (.cells cs.toArray e)))[hl:Ej cs.length (m*sz)](hm:m<=maxLen):
  Yg P n F Ek env L ⟨d,.buildSlice t m parts,ty,pos,after,g⟩ (fun _:Nat=>True) (fun b => .slice (some ⟨b,0,none⟩) m m) (fun b=>row (.slice (some ⟨b,0,none⟩) m m) e sz cs::L):=by
 have hl:=hl.1
 intro a w h
 refine⟨w.heap.size,w.alloc (.cells cs.toArray e),?_,trivial,?_,.alloc _ _⟩
 ·simp only[execOp,hp a w h]
  simp[hr w]
 ·refine(h.hp.ext (.alloc w _)).add ?_ (by simp[row,Value.ownBlock]) (by simp[row,Value.ownBlock,h.hp.size]) ?_
  ·exact⟨m,_,hl,.inr ⟨w.heap.size,m,cs.toArray,rfl,Nat.zero_le _,heap_alloc_new w _,Nat.le_refl _,hm,by simpa using hl,by simp[<- hl]⟩⟩
  ·intro y hy b hb hc
   simp[row,Value.ownBlock] at hb
   have:=h.hp.lt y hy b hc
   omega
theorem wN{parts:Array (Nat×Operand)}{pv:Array (Nat×Value)}(hp:∀ a w,SS n F Ek env L a w->(parts.map fun(i,x)=>(i,a.eval x))=pv)(hr:∀ w,(Instr.build t pv).run P w = .ok v w):Qt P n F Ek env L ⟨d,.build t parts,ty,pos,after,g⟩ v:=by
 intro a w h
 simp only[execOp,hp a w h]
 simp[hr w]
theorem Hp.rowPut{b:Nat}(h:Hp F Ek w L)(h1:∀ u∈vs,u.oneCell'=true)(hm:Pick L (row (.slice (some ⟨b,0,none⟩) m cap) e sz cs) R)(w9:off+vs.length<=cs.length):
  ∃ w',(storeCells ⟨b,off,none⟩ vs).run P w = .ok () w'/\Hp F Ek w' (row (.slice (some ⟨b,0,none⟩) m cap) e sz (mf cs off vs)::R):=by
 obtain⟨m',e',iA⟩:=h.ok _ hm.mem
 rcases iA.2 with⟨zC,_⟩ | ⟨b0,tP,nZ,zC,BF,hh,z6,zI,zL,zM⟩
 ·cases zC
 injection zC with e1 e2 e3
 injection e1 with e1
 injection e1 with e1
 subst e1 e2 e3
 have hlc:cs.length<=nZ.size:=by rw[<- zM,List.length_take];simp;omega
 have nE:=run_storeCells_at (P:=P) b off _ vs 0 nZ w hh (by omega) h1
 simp only[Nat.add_zero] at nE
 refine⟨w.setRow b (List.take off nZ.toList++vs++List.drop (off+vs.length) nZ.toList).toArray,nE,(h.front hm).upd (x:=row (.slice (some ⟨b,0,none⟩) m cap) e sz cs) (y:=row (.slice (some ⟨b,0,none⟩) m cap) e sz (mf cs off vs)) .here rfl ⟨rfl,Nat.le_refl _⟩ rfl (by simp) (fun k _ zD=>setRow_other w b k _ (by simpa [row,Value.ownBlock] using zD)) ?_ ?_⟩
 ·refine⟨m,_,?_,.inr ⟨b,cap,_,rfl,BF,setRow_heap w b _ _ _ _ hh,z6,zI,?_,?_⟩⟩
  ·rw[<- iA.1];simp[mf];omega
  ·simp;omega
  ·have wK:cs.length=m*sz:=iA.1
   have zF:cs=nZ.toList.take (m*sz):=zM.symm
   rw[<- wK]
   apply List.ext_getElem?
   intro j
   simp only[mf]
   rw[List.getElem?_take]
   by_cases hj:j<cs.length
   ·simp only[hj,if_true]
    have e1:nZ.toList.take off=cs.take off:=by rw[zF,List.take_take];congr 1;omega
    rw[e1]
    have e2:(List.take off cs++vs).length=off+vs.length:=by simp;omega
    by_cases hj1:j<off+vs.length
    ·rw[List.getElem?_append_left (l₁:=List.take off cs++vs) (by omega)]
     rw[List.getElem?_append_left (l₁:=List.take off cs++vs) (by omega)]
    ·have e3:cs[j]?=nZ.toList[j]?:=by
      have:(List.take (m*sz) nZ.toList)[j]?=nZ.toList[j]?:=by rw[List.getElem?_take,if_pos (by omega)]
      rw[<- this,<- zF]
     rw[List.getElem?_append_right (by omega),List.getElem?_append_right (by omega),e2,List.getElem?_drop,List.getElem?_drop,
      show off+vs.length+(j-(off+vs.length))=j from by omega,e3]
   ·simp only[hj,if_false]
    rw[List.getElem?_eq_none]
    simp;omega
 ·intro b' hb'
  simp[row,Value.ownBlock] at hb'
  subst hb'
  exact⟨by simpa using (Array.getElem?_eq_some_iff.1 hh).1,.inl (by simp[row,Value.ownBlock])⟩
theorem sT{b:Nat}(hT:q8 P t s)[hx:Ej (eo env x) (some (.pointer (some ⟨b,off,none⟩)))][hy:Ej (eo env y) (some v)][hv:Ej v.cells vs.toArray][hs:Ej (Nat.beq vs.length s) true](h1:∀ u∈vs,u.oneCell'=true)(hm:Pick L (row (.slice (some ⟨b,0,none⟩) m cap) e sz cs) R)(w9:off+s<=cs.length)(zZ:mf cs off vs=ds):
  Yh P n F Ek env L ⟨none,.store t x y,ty,pos,after,g⟩ (row (.slice (some ⟨b,0,none⟩) m cap) e sz ds::R):=by
 have hx:=hx.1
 have hy:=hy.1
 have hv:=hv.1
 have hs:=Nat.eq_of_beq_eq_true hs.1
 intro a w h
 subst zZ
 obtain⟨w',nE,hp⟩:=h.hp.rowPut (P:=P) (off:=off) h1 hm (by omega)
 have h2:=congrFun hT w
 refine⟨w',.inl ?_,hp⟩
 simp[execOp,h.eval hx,h.eval hy,Instr.storeAt,Instr.sureAddr,storeVar,h2,hv,hs,nE]
end
end
section
variable {w:World}{f:FuncId}{vs:List Value}{α:Type}
variable [Rnd]
abbrev fps(L:List Asrt):List Nat:=L.flatMap (·.fp)
def iV:Nat->List Value->List (Nat×Value)
 | _,[]=>[]
 | k,v::vs=>(k,v)::iV (k+1) vs
theorem Vt:∀(vs:List Value) (k i:Nat) (v:Value),lk (iV k vs) i=some v->k<=i/\vs[i-k]?=some v
 | [],k,i,v,h=>by simp[iV,lk] at h
 | u::vs,k,i,v,h=>by
  simp only[iV,lk] at h
  by_cases hi:i=k
  ·subst hi;simp at h;subst h;simp
  ·rw[pn hi] at h
   obtain⟨h1,h2⟩:=Vt vs (k+1) i v h
   refine⟨by omega,?_⟩
   rw[show i-k=(i-(k+1))+1 from by omega]
   simpa using h2
theorem Ex{P:Program}{fn:Func}{c:Code}{R:Ending->World->Prop}{n:Nat}{pre:List Asrt}{env:List (Nat×Value)}(hf:P.funcs[f]?=some fn)(hb:fn.body=some c)(hn:fn.ntmps=n)(nP:Nat.ble vs.length n=true)(iA:Hp (fps pre) w w pre)(he:iV 0 vs=env)(k : @WC Rnd.base P n (fps pre) w (bodyPost P fn R) c env pre):Calls P f vs.toArray w R:=by
 subst he
 refine QW (m:=0) (callsIn_of_wp (F := @FN Rnd.base) hf hb trivial (k _ _ (@SS.mk Rnd.base _ _ _ _ _ _ _ rfl ?_ ?_ iA)) rfl)
 ·have:=Nat.le_of_ble_eq_true nP
  simp[hn];omega
 ·intro i v hv
  obtain⟨_,h⟩:=Vt vs 0 i v hv
  have tW:i<vs.length:=by have:=(List.getElem?_eq_some_iff.1 h).1;simpa using this
  rw[Array.getElem?_append_left (by simpa using tW)]
  simpa using h
section
variable {P:Program} {n:Nat} {F:List Nat} {Ek:World} {env:List (Nat×Value)} {L Lc Lr R:List Asrt} {ops:Array Oper} {Q:Exit->Act->World->Prop} {na:List Oper}
 {dd:Nat} {d:Option Tmp} {ty:TypeId} {pos:String} {after:Array Edge} {g:Option (Nat×Bool)} {v u:Value} {t e T:TypeId} {sz by_:Nat}
theorem Hp.owns(h:Hp F Ek w L)(hs:Sel L Lc Lr):Hp (fps Lc) w w Lc:=by
 have h':=h.sub hs
 exact⟨rfl,⟨rfl,Nat.le_refl _⟩,rfl,Nat.le_refl _,fun _ _ _=>rfl,h'.ok,h'.lt,fun x hx b hb => .inl (List.mem_flatMap.2 ⟨x,hx,hb⟩),h'.sep⟩
theorem Sel.mem{L L' M:List α}(h:Sel L L' M){x:α}(hx:x∈L'):x∈L:=h.perm.mem_iff.2 (List.mem_append_left _ hx)
theorem Sel.memr{L L' M:List α}(h:Sel L L' M){x:α}(hx:x∈M):x∈L:=h.perm.mem_iff.2 (List.mem_append_right _ hx)
theorem Sel.fps(hs:Sel L Lc Lr):∀ b∈fps Lc,∃ x∈L,b∈x.fp:=fun b hb=>by
 obtain⟨x,hx,zK⟩:=List.mem_flatMap.1 hb
 exact⟨x,hs.mem hx,zK⟩
theorem sS.call{Pr Pr':List Value->α->Prop}{l:List α}(h:sS F Ek v sz Pr l)(hp:Hp F Ek w L)(hs:Sel L Lc Lr)(nP:0<sz)(hPr:∀ r x,Pr r x->Pr' r x):sS (Sep.fps Lc) w v sz Pr' l:=
 h.at hp hs.fps nP hPr
theorem sS.call0{Pr:List Value->α->Prop}{l:List α}(h:sS F Ek v sz Pr l)(hp:Hp F Ek w L)(nP:0<sz):sS [] w v sz Pr l:=
 h.at hp (by simp) nP (fun _ _ h=>h)
theorem Hp.cellsRow{ao:Option Addr}{m cap:Nat}{cs:List Value}(h:Hp F Ek w L)(hs:Sel L Lc Lr)(hm:Pick Lr (row (.slice ao m cap) e sz cs) R)(uQ:cs≠[]):
  ∃ b,ao=some ⟨b,0,none⟩/\gU (fps Lc) w ⟨b,0,none⟩ cs:=by
 obtain⟨m',e',iA⟩:=h.ok _ (hs.memr hm.mem)
 rcases iA.2 with⟨hv,hn⟩ | ⟨b,tP,nZ,hv,_,_⟩
 ·subst hn;exact absurd (List.eq_nil_of_length_eq_zero (by simpa using iA.1)) uQ
 ·injection hv with e1 e2 e3
  subst e1
  refine⟨b,rfl,fun hb=>?_,fun j u hu=>iA.cells (g:=b) rfl j u hu⟩
  obtain⟨x,hx,zK⟩:=List.mem_flatMap.1 hb
  have hp:(Lc++Lr).Pairwise fun x y=>∀ b∈x.fp,b∉y.fp:=
   (List.Perm.pairwise_iff (fun {x y} hxy b hb hc=>hxy b hc hb) hs.perm).1 h.sep
  exact(List.pairwise_append.1 hp).2.2 x hx _ hm.mem b zK (by simp[row,Value.ownBlock])
inductive Eos (env:List (Nat×Value)):List Operand->List Value->Prop
 | nil:Eos env [] []
 | cons {x:Operand} {v:Value} {l:List Operand} {vs:List Value} (h:eo env x=some v) (t:Eos env l vs):Eos env (x::l) (v::vs)
theorem Eos.map{a:Act}{w:World}{l:List Operand}{vs:List Value}(he:Eos env l vs)(h:SS n F Ek env L a w):l.map a.eval=vs:=by
 induction he with
 | nil=>rfl
 | cons hx _ ih=>rw[List.map_cons,h.eval hx,ih]
theorem za{l:List Operand}{zN:Array TypeId}(zp:∀ args w,(callFunc f args).run P w = .ok (.enter f args) w)(he:Eos env l vs):
  ∀ a w,SS n F Ek env L a w->(execOp a.eval ⟨d,.call ⟨.value (.func f),l.toArray,zN⟩,ty,pos,after,g⟩).run P w = .ok (.enter f vs.toArray) w:=by
 intro a w h
 have:=he.map h
 simp[execOp,resolve,Act.eval,Deferred.ofValue,invoke,zp,this]
theorem wV{c:Operand}{l:List Operand}{caps:List Value}{zN:Array TypeId}(zp:∀ args w,(callFunc f args).run P w = .ok (.enter f args) w)[hc:Ej (eo env c) (some (.func (.func f) #[] caps.toArray))](he:Eos env l vs):
  ∀ a w,SS n F Ek env L a w->(execOp a.eval ⟨d,.call ⟨.value c,l.toArray,zN⟩,ty,pos,after,g⟩).run P w = .ok (.enter f (vs++caps).toArray) w:=by
 intro a w h
 have:=he.map h
 simp[execOp,resolve,h.eval hc.1,Deferred.ofValue,invoke,zp,this]
theorem Oo{o:Oper}{vs:Array Value}{M:List Asrt}(hg:gd env ops o=some true)(hd:o.dst=some dd)(ng:Nat.blt dd n=true)(kA:∀ a w,SS n F Ek env L a w->(execOp a.eval o).run P w = .ok (.enter f vs) w)(hs:Sel L Lc Lr)(hc:∀ w,Hp F Ek w L->Calls P f vs w fun e w'=>e = .returned v/\Hp (fps Lc) w w' M)(k:WL P n F Ek ops Q na ((dd,v)::env) (M++Lr)):WL P n F Ek ops Q (o::na) env L:=
 E3 (G:=Unit) (φ:=fun _=>True) (val:=fun _=>v) (M:=fun _=>M) hg hd ng kA hs (fun w h=>(hc w h).mono fun _ _ ⟨h1,h2⟩=>⟨(),h1,trivial,h2⟩) (fun _ _=>k)
def bh:List Value->Value
 | [v]=>v
 | vs => .tuple vs.toArray
theorem KB{fn:Func}{tmps:Array Value}{rs:List ResultVar}(hr:fn.results=rs.toArray)(h:∀(i:Nat) (r:ResultVar) (v:Value),rs[i]?=some r->vs[i]?=some v->(match r with | .tmp t=>tmps.getD t undef=v | .cell a t=>((do loadVar t (<- asAddr (tmps.getD a undef)):Sem Value)).run P w = .ok v w))(hl:rs.length=vs.length):
  (results fn tmps).run P w = .ok (bh vs) w:=by
 have hm:∀(rs:List ResultVar) (vs:List Value),rs.length=vs.length->(∀(i:Nat) (r:ResultVar) (v:Value),rs[i]?=some r->vs[i]?=some v->(match r with | .tmp t=>tmps.getD t undef=v | .cell a t=>((do loadVar t (<- asAddr (tmps.getD a undef)):Sem Value)).run P w = .ok v w))->
   (rs.mapM fun(r:ResultVar)=>match r with | .tmp t=>(pure (tmps.getD t undef):Sem Value) | .cell a t=>do loadVar t (<- asAddr (tmps.getD a undef))).run P w = .ok vs w:=by
  intro rs
  induction rs with
  | nil=>intro vs hl _;cases vs with | nil=>simp | cons=>simp at hl
  | cons r rs ih=>
   intro vs hl h
   cases vs with
   | nil=>simp at hl
   | cons v vs=>
    have h0:=h 0 r v rfl rfl
    have h1:=ih vs (by simpa using hl) (fun i r v hr hv=>h (i+1) r v (by simpa using hr) (by simpa using hv))
    rw[List.mapM_cons]
    cases r with
    | tmp t=>
     simp only at h0
     simp only[Sem.run_bind,Sem.run_pure,Result.andThen_ok]
     rw[h1,h0]
     rfl
    | cell a t=>
     simp only at h0
     rw[Sem.run_bind,h0,Result.andThen_ok,Sem.run_bind,h1,Result.andThen_ok,Sem.run_pure]
 have:=hm rs vs hl h
 unfold results
 rw[hr]
 rw[List.mapM_toArray,map_eq_pure_bind]
 simp only[Sem.run_bind]
 erw [this]
 simp only[Result.andThen_ok,Sem.run_pure]
 cases vs with
 | nil=>rfl
 | cons v vs=>cases vs with
  | nil=>rfl
  | cons u us=>simp[bh]
inductive ResV (P:Program) (F:List Nat) (Ek:World) (env:List (Nat×Value)) (L:List Asrt):List ResultVar->List Value->Prop
 | nil:ResV P F Ek env L [] []
 | tmp {t:Nat} {v:Value} {rs:List ResultVar} {vs:List Value} (h:lk env t=some v) (r:ResV P F Ek env L rs vs):ResV P F Ek env L (.tmp t::rs) (v::vs)
 | one {t ty:Nat} {A:Addr} {v:Value} {rs:List ResultVar} {vs:List Value} (h:lk env t=some (.pointer (some A))) (hT:jt P ty) (hR:∀ w,Hp F Ek w L->w.cell? A=some v)
   (r:ResV P F Ek env L rs vs):ResV P F Ek env L (.cell t ty::rs) (v::vs)
 | agg {t ty s:Nat} {A:Addr} {cs:List Value} {rs:List ResultVar} {vs:List Value} (h:lk env t=some (.pointer (some A))) (hT:g5 P ty s) (hl:cs.length=s) (hR:∀ w,Hp F Ek w L->∀ j u,cs[j]?=some u->w.cell? (A.add j)=some u)
   (r:ResV P F Ek env L rs vs):ResV P F Ek env L (.cell t ty::rs) (.agg cs.toArray::vs)
theorem ResV.run{fn:Func}{rs:List ResultVar}{vs:List Value}(hr:fn.results=rs.toArray)(h:ResV P F Ek env L rs vs){a:Act}{w:World}(hs:SS n F Ek env L a w):
  (results fn a.tmps).run P w = .ok (bh vs) w:=by
 have:=KB (P:=P) (tmps:=a.tmps) (w:=w) (vs:=vs) hr ?_ ?_
 ·exact this
 ·clear hr
  induction h with
  | nil=>intro i r v h;simp at h
  | tmp h _ ih=>
   intro i r v h1 h2
   cases i with
   | zero=>simp at h1 h2;subst h1 h2;exact hs.get h
   | succ i=>exact ih i r v (by simpa using h1) (by simpa using h2)
  | one h hT hR _ ih=>
   intro i r v h1 h2
   cases i with
   | zero=>
    simp at h1 h2;subst h1 h2
    have e1:=hs.get h
    have e2:=congrFun hT w
    simp only[e1]
    simp[asAddr,loadVar,e2,hR w hs.hp]
   | succ i=>exact ih i r v (by simpa using h1) (by simpa using h2)
  | agg h hT hl hR _ ih=>
   intro i r v h1 h2
   cases i with
   | zero=>
    simp at h1 h2;subst h1 h2
    have e1:=hs.get h
    have e2:=congrFun hT.1 w
    have e3:=congrFun hT.2 w
    have e4:=run_loadCells_list (P:=P) w _ _ (hR w hs.hp)
    rw[hl] at e4
    simp only[e1]
    simp[asAddr,loadVar,e2,e3,e4]
   | succ i=>exact ih i r v (by simpa using h1) (by simpa using h2)
 ·clear hr
  induction h with
  | nil=>rfl
  | tmp _ _ ih=>simpa using ih
  | one _ _ _ _ ih=>simpa using ih
  | agg _ _ _ _ _ ih=>simpa using ih
omit [Rnd] in
theorem Lk{fn:Func}{rs:List ResultVar}{vs:List Value}{R:Ending->World->Prop}(hr:fn.results=rs.toArray)(hv:ResV P F Ek env L rs vs)(k:∀ w,Hp F Ek w L->R (.returned (bh vs)) w):
  @WX Rnd.base n F Ek (bodyPost P fn R) .ret env L:=fun _ w h=>⟨h.defers,_,hv.run hr h,k w h.hp⟩
omit [Rnd] in
theorem Nj{fn:Func}{rs:List ResultVar}{vs:List Value}{R:Ending->World->Prop}(hr:fn.results=rs.toArray)(hv:ResV P F Ek env L rs vs)(k:∀ w,Hp F Ek w L->R (.returned (bh vs)) w):
  @WX Rnd.base n F Ek (bodyPost P fn R) .normal env L:=fun _ w h=>⟨h.defers,_,hv.run hr h,k w h.hp⟩
theorem N6{l:List Oper}{i:Nat}{b c:Bool}(hv:lk env i=some (.bool b))(hb:b=c)(k:WL P n F Ek ops Q l ((i,.bool c)::env) L):WL P n F Ek ops Q l env L:=by
 subst hb
 refine fun a w h=>k a w ⟨h.defers,h.size,fun j u hu=>?_,h.hp⟩
 simp only[lk] at hu
 by_cases hj:j=i
 ·subst hj;simp at hu;subst hu;exact h.ev _ _ hv
 ·rw[pn hj] at hu;exact h.ev j u hu
theorem L2{tl:Nat->Bool}{Ls:List Asrt}{fuel:Nat}{listed:Array Bool}{QD:Act->World->Prop}{i:Nat}{b c:Bool}(hv:lk env i=some (.bool b))(hb:b=c)(k:WD P n F Ek ops tl Ls QD fuel listed ((i,.bool c)::env) L):WD P n F Ek ops tl Ls QD fuel listed env L:=by
 subst hb
 refine fun a w h=>k a w ⟨h.defers,h.size,fun j u hu=>?_,h.hp⟩
 simp only[lk] at hu
 by_cases hj:j=i
 ·subst hj;simp at hu;subst hu;exact h.ev _ _ hv
 ·rw[pn hj] at hu;exact h.ev j u hu
end
end
section
variable {G:Type}{Ls:List Asrt}{fuel:Nat}{listed:Array Bool}{QD:Act->World->Prop}{o:Oper}
variable [Rnd]
def nth{α:Type}[Inhabited α](l:List α)(i:Int):α:=l.getD i.toNat default
theorem ti{α:Type}[Inhabited α]{l:List α}{i:Int}(_h0:0<=i)(h:i<l.length):l[i.toNat]'(by omega)=nth l i:=by
 unfold nth;rw[List.getD_eq_getElem?_getD,List.getElem?_eq_getElem (by omega)];rfl
theorem w64{m:Int}(h : -9223372036854775808<=m/\m<=9223372036854775807):IntKind.wrap .i64 m=m:=by
 rw[IntKind.wrap_i64];omega
theorem zq{c d:Bool}(h:c=d):some (Value.bool c)=some (Value.bool d):=by rw[h]
theorem wx{v u:Value}[h:Ej v u]:Ending.returned (bh [v]) = .returned u:=by rw[h.1];rfl
theorem qq{v v' u u':Value}[h:Ej v u][h':Ej v' u']:Ending.returned (bh [v,v']) = .returned (.tuple #[u,u']):=by rw[h.1,h'.1];rfl
theorem XW{v v' v'' u u' u'':Value}[h:Ej v u][h':Ej v' u'][h'':Ej v'' u'']:Ending.returned (bh [v,v',v'']) = .returned (.tuple #[u,u',u'']):=by rw[h.1,h'.1,h''.1];rfl
theorem ui:Ending.returned (bh []) = .returned (.tuple #[]):=rfl
section
variable {P:Program} {n:Nat} {F:List Nat} {Ek:World} {env:List (Nat×Value)} {L Lc Lr R:List Asrt} {ops:Array Oper} {Q:Exit->Act->World->Prop} {na:List Oper}
 {dd:Nat} {d:Option Tmp} {ty:TypeId} {pos:String} {after:Array Edge} {g:Option (Nat×Bool)} {x y:Operand} {v u:Value} {t e T:TypeId} {sz by_:Nat}
theorem Hy(φ:G->Prop)(f9:G->List (Nat×Value))(LI:G->List Asrt)(k:Nat){l:List Oper}(k1:WL P n F Ek ops (Exit.then (fun a w=>∃ g,φ g/\SS n F Ek (f9 g) (LI g) a w) Q) (l.take k) env L)(k2:∀ g,φ g->WL P n F Ek ops Q (l.drop k) (f9 g) (LI g)):WL P n F Ek ops Q l env L:=by
 intro a w h
 have gen:∀(l1 l2:List Oper) (Q':Exit->Act->World->Prop) a w,(∀ a w,Q' .normal a w->wpListIn FN 0 P ops Q l2 a w)->(∀ e a w,e ≠ .normal->Q' e a w->Q e a w)->wpListIn FN 0 P ops Q' l1 a w->wpListIn FN 0 P ops Q (l1++l2) a w:=by
  intro l1
  induction l1 with
  | nil=>intro l2 Q' a w h1 _ h;exact h1 a w h
  | cons o l1 ih=>
   intro l2 Q' a w h1 h2 h
   rw[List.cons_append]
   unfold wpListIn at h ⊢
   split
   ·rename_i hw
    simp only[hw,if_true] at h
    refine⟨h.1,?_⟩
    have h:=h.2
    generalize (o.semAt FN.round a.eval).run P w=r at h ⊢
    cases r with
    | ok x w'=>
     cases x <;> simp only[Oper.uponIn] at h ⊢
     case enter f args=>
      refine⟨h.1,CallsIn.mono h.2 ?_⟩
      intro e rx he
      cases e with
      | returned v=>exact ih l2 Q' _ _ h1 h2 he
      | panicked c=>exact h2 _ _ _ (by simp) he
      | outgrown=>obtain⟨a',w',hq⟩:=he;exact⟨a',w',h2 _ _ _ (by simp) hq⟩
     case round l f tmps as_ bo=>
      refine⟨h.1,RoundIn.mono h.2 ?_⟩
      intro e rx he
      cases e with
      | returned v=>exact ih l2 Q' _ _ h1 h2 he
      | panicked c=>exact h2 _ _ _ (by simp) he
      | outgrown=>obtain⟨a',w',hq⟩:=he;exact⟨a',w',h2 _ _ _ (by simp) hq⟩
     case row r args=>exact⟨h.1,RowsIn.mono h.2 (fun _ _ he=>ih l2 Q' _ _ h1 h2 he)⟩
     all_goals exact ih l2 Q' _ _ h1 h2 h
    | halt x w'=>cases x <;> simp only[Oper.uponIn] at h ⊢ <;> exact h2 _ _ _ (by simp) h
   ·rename_i hw
    simp only[hw] at h
    exact⟨h.1,ih l2 Q' _ _ h1 h2 h.2⟩
 have:=gen (l.take k) (l.drop k) _ a w (fun a w ⟨g,tt,hs⟩=>k2 g tt a w hs) (fun e a w he hq=>by cases e <;> first | exact absurd rfl he | exact hq) (k1 a w h)
 rwa [List.take_append_drop] at this
theorem Hf{φ:G->Prop}{f9:G->List (Nat×Value)}{LI:G->List Asrt}{M:List Asrt}(g:G)(tt:φ g)(hr:Restr env (f9 g))(hL:Sel L (LI g) M):
  WL P n F Ek ops (Exit.then (fun a w=>∃ g,φ g/\SS n F Ek (f9 g) (LI g) a w) Q) [] env L:=
 fun _ _ h=>⟨g,tt,(h.restr hr).drop hL⟩
def wR(n:Nat)(done:List Nat):Array Bool:=done.foldr (fun i a=>a.setIfInBounds i true) (Array.replicate n false)
theorem L9{tl:Nat->Bool}{fuel':Nat}(env':List (Nat×Value))(ni:Array Bool)(k2:WD P n F Ek ops tl Ls QD fuel' ni env' L)(k1:WD P n F Ek ops tl Ls QD fuel' ni env' L->WD P n F Ek ops tl Ls QD fuel listed env L):WD P n F Ek ops tl Ls QD fuel listed env L:=k1 k2
theorem WL.new{φ:G->Prop}{val:G->Value}{L':G->List Asrt}(hg:gd env ops o=some true)(hd:o.dst=some dd)(ng:Nat.blt dd n=true)(hq:Yg P n F Ek env L o φ val L')(k:∀ g,φ g->WL P n F Ek ops Q na ((dd,val g)::env) (L' g)):WL P n F Ek ops Q (o::na) env L:=Hx hg hd ng hq.ef k
theorem WD.new{φ:G->Prop}{val:G->Value}{L':G->List Asrt}{tl:Nat->Bool}{i:Nat}(hi:ops[i]?=some o)(hr:Region.ready .any ops listed=[i])[hg:Ej (gd env ops o) (some true)](hd:o.dst=some dd)[ng:Ej (Nat.blt dd n) true](hq:Yg P n F Ek env L o φ val L')(nE:tl i=true->∀ g,wS (L' g) Ls)(k:∀ g,φ g->WD P n F Ek ops tl Ls QD fuel (listed.setIfInBounds i true) ((dd,val g)::env) (L' g)):WD P n F Ek ops tl Ls QD (fuel+1) listed env L:=
 WD.forced hi hr hg.1 hd ng.1 (fun a w h=>let ⟨g,w',h1,h2,h3,h4⟩:=hq a w h;⟨g,w',h1,h2,h3,fun _=>h4⟩) nE k
theorem WD.old{φ:G->Prop}{val:G->Value}{L':G->List Asrt}{tl:Nat->Bool}{i:Nat}(hi:ops[i]?=some o)(hr:Region.ready .any ops listed=[i])[hg:Ej (gd env ops o) (some true)](hd:o.dst=some dd)[ng:Ej (Nat.blt dd n) true][ht:Ej (tl i) true](nE:∀ g,wS (L' g) Ls)(hq:Ef P n F Ek env L o φ val L')(k:∀ g,φ g->WD P n F Ek ops tl Ls QD fuel (listed.setIfInBounds i true) ((dd,val g)::env) (L' g)):WD P n F Ek ops tl Ls QD (fuel+1) listed env L:=
 WD.forced hi hr hg.1 hd ng.1 (fun a w h=>let ⟨g,w',h1,h2,h3⟩:=hq a w h;⟨g,w',h1,h2,h3,fun hf=>by rw[ht.1] at hf;cases hf⟩) (fun _=>nE) k
theorem Lt{l:List Operand}{vs:List Value}(he:Eos env l vs)(is:List Nat):∀ a w,SS n F Ek env L a w->((is.zip l).toArray.map fun(i,x)=>(i,a.eval x))=(is.zip vs).toArray:=by
 intro a w h
 simp only[List.map_toArray]
 congr 1
 induction he generalizing is with
 | nil=>simp
 | cons hx _ ih=>
  cases is with
  | nil=>simp
  | cons i is=>simp only[List.zip_cons_cons,List.map_cons,h.eval hx,ih is]
theorem L6{l:List Operand}{vs:List Value}(he:Eos env l vs):∀ a w,SS n F Ek env L a w->l.toArray.map a.eval=vs.toArray:=by
 intro a w h
 rw[List.map_toArray,he.map h]
end
end
section
variable {A0 A1 A2 A3 A4 A5 A6 A7:Type}{o:Oper}{f:FuncId}{vs:Array Value}{M Ls:List Asrt}{x y:Code}{fuel i:Nat}{listed:Array Bool}{QD:Act->World->Prop}
variable [Rnd]
theorem jB{b c:Bool}(h:b=true):true=(b||c):=by rw[h];rfl
theorem jC{b c:Bool}(h:b=false):c=(b||c):=by rw[h];rfl
theorem qd{b c:Bool}(h:b=false):false=(b&&c):=by rw[h];rfl
theorem qe{b c:Bool}(h:b=true):c=(b&&c):=by rw[h];rfl
section
variable {P:Program} {n:Nat} {F:List Nat} {Ek:World} {env:List (Nat×Value)} {L Lc Lr R:List Asrt} {ops:Array Oper} {Q:Exit->Act->World->Prop} {na:List Oper} {dd:Nat}
theorem Nh(φ:Prop)(f9:List (Nat×Value))(LI:List Asrt)(k1:WC P n F Ek (Exit.then (fun a w=>∃ _g:Unit,φ/\SS n F Ek f9 LI a w) Q) x env L)(k2:φ->WC P n F Ek Q y f9 LI):WC P n F Ek Q (.seq x y) env L:=
 Nw (G:=Unit) (fun _=>φ) (fun _=>f9) (fun _=>LI) k1 (fun _ h=>k2  h)
theorem Nu{φ:Prop}{val:Value}[hg:Ej (gd env ops o) (some true)](hd:o.dst=some dd)[ng:Ej (Nat.blt dd n) true](kA:∀ a w,SS n F Ek env L a w->(execOp a.eval o).run P w = .ok (.enter f vs) w)(hs:Sel L Lc Lr)(hc:∀ w,Hp F Ek w L->Calls P f vs w fun e w'=>e = .returned val/\φ/\Hp (fps Lc) w w' M)(k:φ->WL P n F Ek ops Q na ((dd,val)::env) (M++Lr)):WL P n F Ek ops Q (o::na) env L:=
 E3 (G:=Unit) (φ:=fun _=>φ) (val:=fun _=>val) (M:=fun _=>M) hg.1 hd ng.1 kA hs
  (fun w h=>(hc w h).mono fun e w'=>by rintro⟨h1,h2,h3⟩;exact⟨(),h1,h2,h3⟩) (fun _ h=>k  h)
theorem WD.call0{tl:Nat->Bool}{φ:Prop}{val:Value}(hi:ops[i]?=some o)(hr:Region.ready .any ops listed=[i])[hg:Ej (gd env ops o) (some true)](hd:o.dst=some dd)[ng:Ej (Nat.blt dd n) true](ht:(tl i=true/\(wS (M++Lr) Ls))\/Lc=[])(kA:∀ a w,SS n F Ek env L a w->(execOp a.eval o).run P w = .ok (.enter f vs) w)(hs:Sel L Lc Lr)(hc:∀ w,Hp F Ek w L->Calls P f vs w fun e w'=>e = .returned val/\φ/\Hp (fps Lc) w w' M)(k:φ->WD P n F Ek ops tl Ls QD fuel (listed.setIfInBounds i true) ((dd,val)::env) (M++Lr)):WD P n F Ek ops tl Ls QD (fuel+1) listed env L:=
 WD.forcedCall (G:=Unit) (φ:=fun _=>φ) (val:=fun _=>val) (M:=fun _=>M) hi hr hg.1 hd ng.1 (ht.imp (fun h=>⟨h.1,fun _=>h.2⟩) id) kA hs
  (fun w h=>(hc w h).mono fun e w'=>by rintro⟨h1,h2,h3⟩;exact⟨(),h1,h2,h3⟩) (fun _ h=>k  h)
theorem Da(φ:A0->Prop)(f9:A0->List (Nat×Value))(LI:A0->List Asrt)(j:Nat){l:List Oper}(k1:WL P n F Ek ops (Exit.then (fun a w=>∃ g:A0,(φ g)/\SS n F Ek (f9 g) (LI g) a w) Q) (l.take j) env L)(k2:∀ x0,(φ x0)->WL P n F Ek ops Q (l.drop j) (f9 x0) (LI x0)):WL P n F Ek ops Q l env L:=
 Hy (G:=A0) (fun g=>(φ g)) (fun g=>(f9 g)) (fun g=>(LI g)) j k1 (fun g h=>k2 g h)
theorem Nd(φ:A0->Prop)(f9:A0->List (Nat×Value))(LI:A0->List Asrt)(k1:WC P n F Ek (Exit.then (fun a w=>∃ g:A0,(φ g)/\SS n F Ek (f9 g) (LI g) a w) Q) x env L)(k2:∀ x0,(φ x0)->WC P n F Ek Q y (f9 x0) (LI x0)):WC P n F Ek Q (.seq x y) env L:=
 Nw (G:=A0) (fun g=>(φ g)) (fun g=>(f9 g)) (fun g=>(LI g)) k1 (fun g h=>k2 g h)
theorem N2(φ:A0->Prop)(f9:A0->List (Nat×Value))(LI:A0->List Asrt)(μ:A0->Nat){c:Code}(lN:A0)(h0:((fun g=>(φ g)):A0->Prop) lN)(hr:Restr env (((fun g=>(f9 g)):A0->_) lN))(hL:Sel L (((fun g=>(LI g)):A0->_) lN) M)(round:∀ x0,(φ x0)->WC P n F Ek (Exit.then (fun a w=>∃ g':A0,(((fun g=>(φ g)):A0->Prop) g'/\((fun g=>(μ g)):A0->Nat) g'<(μ x0))/\SS n F Ek (((fun g=>(f9 g)):A0->_) g') (((fun g=>(LI g)):A0->_) g') a w) Q) c (f9 x0) (LI x0)):
  WC P n F Ek Q (.loop c) env L:=
 E0 (G:=A0) (fun g=>(φ g)) (fun g=>(f9 g)) (fun g=>(LI g)) (fun g=>(μ g)) lN h0 hr hL (fun g h=>round g h)
theorem H9{φ:A0->Prop}{val:A0->Value}{M:A0->List Asrt}(hg:gd env ops o=some true)(hd:o.dst=some dd)(ng:Nat.blt dd n=true)(kA:∀ a w,SS n F Ek env L a w->(execOp a.eval o).run P w = .ok (.enter f vs) w)(hs:Sel L Lc Lr)(hc:∀ w,Hp F Ek w L->Calls P f vs w fun e w'=>∃ x0,e = .returned (val x0)/\(φ x0)/\Hp (fps Lc) w w' (M x0))(k:∀ x0,(φ x0)->WL P n F Ek ops Q na ((dd,val x0)::env) ((M x0)++Lr)):WL P n F Ek ops Q (o::na) env L:=
 E3 (G:=A0) (φ:=fun g=>(φ g)) (val:=fun g=>(val g)) (M:=fun g=>(M g)) hg hd ng kA hs
  (fun w h=>(hc w h).mono fun e w'=>by rintro⟨x0,h1,h2,h3⟩;exact⟨x0,h1,h2,h3⟩) (fun g h=>k g h)
theorem WD.call1{tl:Nat->Bool}{φ:A0->Prop}{val:A0->Value}{M:A0->List Asrt}(hi:ops[i]?=some o)(hr:Region.ready .any ops listed=[i])(hg:gd env ops o=some true)(hd:o.dst=some dd)(ng:Nat.blt dd n=true)(ht:(tl i=true/\(∀ x0,wS ((M x0)++Lr) Ls))\/Lc=[])(kA:∀ a w,SS n F Ek env L a w->(execOp a.eval o).run P w = .ok (.enter f vs) w)(hs:Sel L Lc Lr)(hc:∀ w,Hp F Ek w L->Calls P f vs w fun e w'=>∃ x0,e = .returned (val x0)/\(φ x0)/\Hp (fps Lc) w w' (M x0))(k:∀ x0,(φ x0)->WD P n F Ek ops tl Ls QD fuel (listed.setIfInBounds i true) ((dd,val x0)::env) ((M x0)++Lr)):WD P n F Ek ops tl Ls QD (fuel+1) listed env L:=
 WD.forcedCall (G:=A0) (φ:=fun g=>(φ g)) (val:=fun g=>(val g)) (M:=fun g=>(M g)) hi hr hg hd ng (ht.imp (fun h=>⟨h.1,fun g=>h.2 g⟩) id) kA hs
  (fun w h=>(hc w h).mono fun e w'=>by rintro⟨x0,h1,h2,h3⟩;exact⟨x0,h1,h2,h3⟩) (fun g h=>k g h)
theorem Nv(φ:A0->A1->Prop)(f9:A0->A1->List (Nat×Value))(LI:A0->A1->List Asrt)(k1:WC P n F Ek (Exit.then (fun a w=>∃ g:A0×A1,(φ g.1 g.2)/\SS n F Ek (f9 g.1 g.2) (LI g.1 g.2) a w) Q) x env L)(k2:∀ x0 x1,(φ x0 x1)->WC P n F Ek Q y (f9 x0 x1) (LI x0 x1)):WC P n F Ek Q (.seq x y) env L:=
 Nw (G:=A0×A1) (fun g=>(φ g.1 g.2)) (fun g=>(f9 g.1 g.2)) (fun g=>(LI g.1 g.2)) k1 (fun g h=>k2 g.1 g.2 h)
theorem Ni(φ:A0->A1->Prop)(f9:A0->A1->List (Nat×Value))(LI:A0->A1->List Asrt)(μ:A0->A1->Nat){c:Code}(lN:A0×A1)(h0:((fun g=>(φ g.1 g.2)):A0×A1->Prop) lN)(hr:Restr env (((fun g=>(f9 g.1 g.2)):A0×A1->_) lN))(hL:Sel L (((fun g=>(LI g.1 g.2)):A0×A1->_) lN) M)(round:∀ x0 x1,(φ x0 x1)->WC P n F Ek (Exit.then (fun a w=>∃ g':A0×A1,(((fun g=>(φ g.1 g.2)):A0×A1->Prop) g'/\((fun g=>(μ g.1 g.2)):A0×A1->Nat) g'<(μ x0 x1))/\SS n F Ek (((fun g=>(f9 g.1 g.2)):A0×A1->_) g') (((fun g=>(LI g.1 g.2)):A0×A1->_) g') a w) Q) c (f9 x0 x1) (LI x0 x1)):
  WC P n F Ek Q (.loop c) env L:=
 E0 (G:=A0×A1) (fun g=>(φ g.1 g.2)) (fun g=>(f9 g.1 g.2)) (fun g=>(LI g.1 g.2)) (fun g=>(μ g.1 g.2)) lN h0 hr hL (fun g h=>round g.1 g.2 h)
theorem L7{φ:A0->A1->Prop}{val:A0->A1->Value}{M:A0->A1->List Asrt}[hg:Ej (gd env ops o) (some true)](hd:o.dst=some dd)[ng:Ej (Nat.blt dd n) true](kA:∀ a w,SS n F Ek env L a w->(execOp a.eval o).run P w = .ok (.enter f vs) w)(hs:Sel L Lc Lr)(hc:∀ w,Hp F Ek w L->Calls P f vs w fun e w'=>∃ x0 x1,e = .returned (val x0 x1)/\(φ x0 x1)/\Hp (fps Lc) w w' (M x0 x1))(k:∀ x0 x1,(φ x0 x1)->WL P n F Ek ops Q na ((dd,val x0 x1)::env) ((M x0 x1)++Lr)):WL P n F Ek ops Q (o::na) env L:=
 E3 (G:=A0×A1) (φ:=fun g=>(φ g.1 g.2)) (val:=fun g=>(val g.1 g.2)) (M:=fun g=>(M g.1 g.2)) hg.1 hd ng.1 kA hs
  (fun w h=>(hc w h).mono fun e w'=>by rintro⟨x0,x1,h1,h2,h3⟩;exact⟨⟨x0,x1⟩,h1,h2,h3⟩) (fun g h=>k g.1 g.2 h)
theorem WD.call2{tl:Nat->Bool}{φ:A0->A1->Prop}{val:A0->A1->Value}{M:A0->A1->List Asrt}(hi:ops[i]?=some o)(hr:Region.ready .any ops listed=[i])[hg:Ej (gd env ops o) (some true)](hd:o.dst=some dd)[ng:Ej (Nat.blt dd n) true](ht:(tl i=true/\(∀ x0 x1,wS ((M x0 x1)++Lr) Ls))\/Lc=[])(kA:∀ a w,SS n F Ek env L a w->(execOp a.eval o).run P w = .ok (.enter f vs) w)(hs:Sel L Lc Lr)(hc:∀ w,Hp F Ek w L->Calls P f vs w fun e w'=>∃ x0 x1,e = .returned (val x0 x1)/\(φ x0 x1)/\Hp (fps Lc) w w' (M x0 x1))(k:∀ x0 x1,(φ x0 x1)->WD P n F Ek ops tl Ls QD fuel (listed.setIfInBounds i true) ((dd,val x0 x1)::env) ((M x0 x1)++Lr)):WD P n F Ek ops tl Ls QD (fuel+1) listed env L:=
 WD.forcedCall (G:=A0×A1) (φ:=fun g=>(φ g.1 g.2)) (val:=fun g=>(val g.1 g.2)) (M:=fun g=>(M g.1 g.2)) hi hr hg.1 hd ng.1 (ht.imp (fun h=>⟨h.1,fun g=>h.2 g.1 g.2⟩) id) kA hs
  (fun w h=>(hc w h).mono fun e w'=>by rintro⟨x0,x1,h1,h2,h3⟩;exact⟨⟨x0,x1⟩,h1,h2,h3⟩) (fun g h=>k g.1 g.2 h)
theorem Nf(φ:A0->A1->A2->Prop)(f9:A0->A1->A2->List (Nat×Value))(LI:A0->A1->A2->List Asrt)(k1:WC P n F Ek (Exit.then (fun a w=>∃ g:A0×A1×A2,(cu3 φ g)/\SS n F Ek (cu3 f9 g) (cu3 LI g) a w) Q) x env L)(k2:∀ x0 x1 x2,(φ x0 x1 x2)->WC P n F Ek Q y (f9 x0 x1 x2) (LI x0 x1 x2)):WC P n F Ek Q (.seq x y) env L:=
 Nw (G:=A0×A1×A2) (fun g=>(cu3 φ g)) (fun g=>(cu3 f9 g)) (fun g=>(cu3 LI g)) k1 (fun g h=>k2 g.1 g.2.1 g.2.2 h)
theorem E4(φ:A0->A1->A2->Prop)(f9:A0->A1->A2->List (Nat×Value))(LI:A0->A1->A2->List Asrt)(μ:A0->A1->A2->Nat){c:Code}(lN:A0×A1×A2)(h0:((fun g=>(cu3 φ g)):A0×A1×A2->Prop) lN)(hr:Restr env (((fun g=>(cu3 f9 g)):A0×A1×A2->_) lN))(hL:Sel L (((fun g=>(cu3 LI g)):A0×A1×A2->_) lN) M)(round:∀ x0 x1 x2,(φ x0 x1 x2)->WC P n F Ek (Exit.then (fun a w=>∃ g':A0×A1×A2,(((fun g=>(cu3 φ g)):A0×A1×A2->Prop) g'/\((fun g=>(cu3 μ g)):A0×A1×A2->Nat) g'<(μ x0 x1 x2))/\SS n F Ek (((fun g=>(cu3 f9 g)):A0×A1×A2->_) g') (((fun g=>(cu3 LI g)):A0×A1×A2->_) g') a w) Q) c (f9 x0 x1 x2) (LI x0 x1 x2)):
  WC P n F Ek Q (.loop c) env L:=
 E0 (G:=A0×A1×A2) (fun g=>(cu3 φ g)) (fun g=>(cu3 f9 g)) (fun g=>(cu3 LI g)) (fun g=>(cu3 μ g)) lN h0 hr hL (fun g h=>round g.1 g.2.1 g.2.2 h)
theorem Ha{φ:A0->A1->A2->Prop}{val:A0->A1->A2->Value}{M:A0->A1->A2->List Asrt}[hg:Ej (gd env ops o) (some true)](hd:o.dst=some dd)[ng:Ej (Nat.blt dd n) true](kA:∀ a w,SS n F Ek env L a w->(execOp a.eval o).run P w = .ok (.enter f vs) w)(hs:Sel L Lc Lr)(hc:∀ w,Hp F Ek w L->Calls P f vs w fun e w'=>∃ x0 x1 x2,e = .returned (val x0 x1 x2)/\(φ x0 x1 x2)/\Hp (fps Lc) w w' (M x0 x1 x2))(k:∀ x0 x1 x2,(φ x0 x1 x2)->WL P n F Ek ops Q na ((dd,val x0 x1 x2)::env) ((M x0 x1 x2)++Lr)):WL P n F Ek ops Q (o::na) env L:=
 E3 (G:=A0×A1×A2) (φ:=fun g=>(cu3 φ g)) (val:=fun g=>(cu3 val g)) (M:=fun g=>(cu3 M g)) hg.1 hd ng.1 kA hs
  (fun w h=>(hc w h).mono fun e w'=>by rintro⟨x0,x1,x2,h1,h2,h3⟩;exact⟨⟨x0,x1,x2⟩,h1,h2,h3⟩) (fun g h=>k g.1 g.2.1 g.2.2 h)
theorem WD.call3{tl:Nat->Bool}{φ:A0->A1->A2->Prop}{val:A0->A1->A2->Value}{M:A0->A1->A2->List Asrt}(hi:ops[i]?=some o)(hr:Region.ready .any ops listed=[i])(hg:gd env ops o=some true)(hd:o.dst=some dd)(ng:Nat.blt dd n=true)(ht:(tl i=true/\(∀ x0 x1 x2,wS ((M x0 x1 x2)++Lr) Ls))\/Lc=[])(kA:∀ a w,SS n F Ek env L a w->(execOp a.eval o).run P w = .ok (.enter f vs) w)(hs:Sel L Lc Lr)(hc:∀ w,Hp F Ek w L->Calls P f vs w fun e w'=>∃ x0 x1 x2,e = .returned (val x0 x1 x2)/\(φ x0 x1 x2)/\Hp (fps Lc) w w' (M x0 x1 x2))(k:∀ x0 x1 x2,(φ x0 x1 x2)->WD P n F Ek ops tl Ls QD fuel (listed.setIfInBounds i true) ((dd,val x0 x1 x2)::env) ((M x0 x1 x2)++Lr)):WD P n F Ek ops tl Ls QD (fuel+1) listed env L:=
 WD.forcedCall (G:=A0×A1×A2) (φ:=fun g=>(cu3 φ g)) (val:=fun g=>(cu3 val g)) (M:=fun g=>(cu3 M g)) hi hr hg hd ng (ht.imp (fun h=>⟨h.1,fun g=>h.2 g.1 g.2.1 g.2.2⟩) id) kA hs
  (fun w h=>(hc w h).mono fun e w'=>by rintro⟨x0,x1,x2,h1,h2,h3⟩;exact⟨⟨x0,x1,x2⟩,h1,h2,h3⟩) (fun g h=>k g.1 g.2.1 g.2.2 h)
theorem Dn(φ:A0->A1->A2->A3->Prop)(f9:A0->A1->A2->A3->List (Nat×Value))(LI:A0->A1->A2->A3->List Asrt)(k1:WC P n F Ek (Exit.then (fun a w=>∃ g:A0×A1×A2×A3,(cu4 φ g)/\SS n F Ek (cu4 f9 g) (cu4 LI g) a w) Q) x env L)(k2:∀ x0 x1 x2 x3,(φ x0 x1 x2 x3)->WC P n F Ek Q y (f9 x0 x1 x2 x3) (LI x0 x1 x2 x3)):WC P n F Ek Q (.seq x y) env L:=
 Nw (G:=A0×A1×A2×A3) (fun g=>(cu4 φ g)) (fun g=>(cu4 f9 g)) (fun g=>(cu4 LI g)) k1 (fun g h=>k2 g.1 g.2.1 g.2.2.1 g.2.2.2 h)
theorem E9(φ:A0->A1->A2->A3->Prop)(f9:A0->A1->A2->A3->List (Nat×Value))(LI:A0->A1->A2->A3->List Asrt)(μ:A0->A1->A2->A3->Nat){c:Code}(lN:A0×A1×A2×A3)(h0:((fun g=>(cu4 φ g)):A0×A1×A2×A3->Prop) lN)(hr:Restr env (((fun g=>(cu4 f9 g)):A0×A1×A2×A3->_) lN))(hL:Sel L (((fun g=>(cu4 LI g)):A0×A1×A2×A3->_) lN) M)(round:∀ x0 x1 x2 x3,(φ x0 x1 x2 x3)->WC P n F Ek (Exit.then (fun a w=>∃ g':A0×A1×A2×A3,(((fun g=>(cu4 φ g)):A0×A1×A2×A3->Prop) g'/\((fun g=>(cu4 μ g)):A0×A1×A2×A3->Nat) g'<(μ x0 x1 x2 x3))/\SS n F Ek (((fun g=>(cu4 f9 g)):A0×A1×A2×A3->_) g') (((fun g=>(cu4 LI g)):A0×A1×A2×A3->_) g') a w) Q) c (f9 x0 x1 x2 x3) (LI x0 x1 x2 x3)):
  WC P n F Ek Q (.loop c) env L:=
 E0 (G:=A0×A1×A2×A3) (fun g=>(cu4 φ g)) (fun g=>(cu4 f9 g)) (fun g=>(cu4 LI g)) (fun g=>(cu4 μ g)) lN h0 hr hL (fun g h=>round g.1 g.2.1 g.2.2.1 g.2.2.2 h)
theorem Np{φ:A0->A1->A2->A3->Prop}{val:A0->A1->A2->A3->Value}{M:A0->A1->A2->A3->List Asrt}[hg:Ej (gd env ops o) (some true)](hd:o.dst=some dd)[ng:Ej (Nat.blt dd n) true](kA:∀ a w,SS n F Ek env L a w->(execOp a.eval o).run P w = .ok (.enter f vs) w)(hs:Sel L Lc Lr)(hc:∀ w,Hp F Ek w L->Calls P f vs w fun e w'=>∃ x0 x1 x2 x3,e = .returned (val x0 x1 x2 x3)/\(φ x0 x1 x2 x3)/\Hp (fps Lc) w w' (M x0 x1 x2 x3))(k:∀ x0 x1 x2 x3,(φ x0 x1 x2 x3)->WL P n F Ek ops Q na ((dd,val x0 x1 x2 x3)::env) ((M x0 x1 x2 x3)++Lr)):WL P n F Ek ops Q (o::na) env L:=
 E3 (G:=A0×A1×A2×A3) (φ:=fun g=>(cu4 φ g)) (val:=fun g=>(cu4 val g)) (M:=fun g=>(cu4 M g)) hg.1 hd ng.1 kA hs
  (fun w h=>(hc w h).mono fun e w'=>by rintro⟨x0,x1,x2,x3,h1,h2,h3⟩;exact⟨⟨x0,x1,x2,x3⟩,h1,h2,h3⟩) (fun g h=>k g.1 g.2.1 g.2.2.1 g.2.2.2 h)
theorem WD.call4{tl:Nat->Bool}{φ:A0->A1->A2->A3->Prop}{val:A0->A1->A2->A3->Value}{M:A0->A1->A2->A3->List Asrt}(hi:ops[i]?=some o)(hr:Region.ready .any ops listed=[i])(hg:gd env ops o=some true)(hd:o.dst=some dd)(ng:Nat.blt dd n=true)(ht:(tl i=true/\(∀ x0 x1 x2 x3,wS ((M x0 x1 x2 x3)++Lr) Ls))\/Lc=[])(kA:∀ a w,SS n F Ek env L a w->(execOp a.eval o).run P w = .ok (.enter f vs) w)(hs:Sel L Lc Lr)(hc:∀ w,Hp F Ek w L->Calls P f vs w fun e w'=>∃ x0 x1 x2 x3,e = .returned (val x0 x1 x2 x3)/\(φ x0 x1 x2 x3)/\Hp (fps Lc) w w' (M x0 x1 x2 x3))(k:∀ x0 x1 x2 x3,(φ x0 x1 x2 x3)->WD P n F Ek ops tl Ls QD fuel (listed.setIfInBounds i true) ((dd,val x0 x1 x2 x3)::env) ((M x0 x1 x2 x3)++Lr)):WD P n F Ek ops tl Ls QD (fuel+1) listed env L:=
 WD.forcedCall (G:=A0×A1×A2×A3) (φ:=fun g=>(cu4 φ g)) (val:=fun g=>(cu4 val g)) (M:=fun g=>(cu4 M g)) hi hr hg hd ng (ht.imp (fun h=>⟨h.1,fun g=>h.2 g.1 g.2.1 g.2.2.1 g.2.2.2⟩) id) kA hs
  (fun w h=>(hc w h).mono fun e w'=>by rintro⟨x0,x1,x2,x3,h1,h2,h3⟩;exact⟨⟨x0,x1,x2,x3⟩,h1,h2,h3⟩) (fun g h=>k g.1 g.2.1 g.2.2.1 g.2.2.2 h)
theorem Hi(φ:A0->A1->A2->A3->A4->Prop)(f9:A0->A1->A2->A3->A4->List (Nat×Value))(LI:A0->A1->A2->A3->A4->List Asrt)(k1:WC P n F Ek (Exit.then (fun a w=>∃ g:A0×A1×A2×A3×A4,(cu5 φ g)/\SS n F Ek (cu5 f9 g) (cu5 LI g) a w) Q) x env L)(k2:∀ x0 x1 x2 x3 x4,(φ x0 x1 x2 x3 x4)->WC P n F Ek Q y (f9 x0 x1 x2 x3 x4) (LI x0 x1 x2 x3 x4)):WC P n F Ek Q (.seq x y) env L:=
 Nw (G:=A0×A1×A2×A3×A4) (fun g=>(cu5 φ g)) (fun g=>(cu5 f9 g)) (fun g=>(cu5 LI g)) k1 (fun g h=>k2 g.1 g.2.1 g.2.2.1 g.2.2.2.1 g.2.2.2.2 h)
theorem E6(φ:A0->A1->A2->A3->A4->Prop)(f9:A0->A1->A2->A3->A4->List (Nat×Value))(LI:A0->A1->A2->A3->A4->List Asrt)(μ:A0->A1->A2->A3->A4->Nat){c:Code}(lN:A0×A1×A2×A3×A4)(h0:((fun g=>(cu5 φ g)):A0×A1×A2×A3×A4->Prop) lN)(hr:Restr env (((fun g=>(cu5 f9 g)):A0×A1×A2×A3×A4->_) lN))(hL:Sel L (((fun g=>(cu5 LI g)):A0×A1×A2×A3×A4->_) lN) M)(round:∀ x0 x1 x2 x3 x4,(φ x0 x1 x2 x3 x4)->WC P n F Ek (Exit.then (fun a w=>∃ g':A0×A1×A2×A3×A4,(((fun g=>(cu5 φ g)):A0×A1×A2×A3×A4->Prop) g'/\((fun g=>(cu5 μ g)):A0×A1×A2×A3×A4->Nat) g'<(μ x0 x1 x2 x3 x4))/\SS n F Ek (((fun g=>(cu5 f9 g)):A0×A1×A2×A3×A4->_) g') (((fun g=>(cu5 LI g)):A0×A1×A2×A3×A4->_) g') a w) Q) c (f9 x0 x1 x2 x3 x4) (LI x0 x1 x2 x3 x4)):
  WC P n F Ek Q (.loop c) env L:=
 E0 (G:=A0×A1×A2×A3×A4) (fun g=>(cu5 φ g)) (fun g=>(cu5 f9 g)) (fun g=>(cu5 LI g)) (fun g=>(cu5 μ g)) lN h0 hr hL (fun g h=>round g.1 g.2.1 g.2.2.1 g.2.2.2.1 g.2.2.2.2 h)
theorem He{φ:A0->A1->A2->A3->A4->Prop}{val:A0->A1->A2->A3->A4->Value}{M:A0->A1->A2->A3->A4->List Asrt}[hg:Ej (gd env ops o) (some true)](hd:o.dst=some dd)[ng:Ej (Nat.blt dd n) true](kA:∀ a w,SS n F Ek env L a w->(execOp a.eval o).run P w = .ok (.enter f vs) w)(hs:Sel L Lc Lr)(hc:∀ w,Hp F Ek w L->Calls P f vs w fun e w'=>∃ x0 x1 x2 x3 x4,e = .returned (val x0 x1 x2 x3 x4)/\(φ x0 x1 x2 x3 x4)/\Hp (fps Lc) w w' (M x0 x1 x2 x3 x4))(k:∀ x0 x1 x2 x3 x4,(φ x0 x1 x2 x3 x4)->WL P n F Ek ops Q na ((dd,val x0 x1 x2 x3 x4)::env) ((M x0 x1 x2 x3 x4)++Lr)):WL P n F Ek ops Q (o::na) env L:=
 E3 (G:=A0×A1×A2×A3×A4) (φ:=fun g=>(cu5 φ g)) (val:=fun g=>(cu5 val g)) (M:=fun g=>(cu5 M g)) hg.1 hd ng.1 kA hs
  (fun w h=>(hc w h).mono fun e w'=>by rintro⟨x0,x1,x2,x3,x4,h1,h2,h3⟩;exact⟨⟨x0,x1,x2,x3,x4⟩,h1,h2,h3⟩) (fun g h=>k g.1 g.2.1 g.2.2.1 g.2.2.2.1 g.2.2.2.2 h)
theorem WD.call5{tl:Nat->Bool}{φ:A0->A1->A2->A3->A4->Prop}{val:A0->A1->A2->A3->A4->Value}{M:A0->A1->A2->A3->A4->List Asrt}(hi:ops[i]?=some o)(hr:Region.ready .any ops listed=[i])(hg:gd env ops o=some true)(hd:o.dst=some dd)(ng:Nat.blt dd n=true)(ht:(tl i=true/\(∀ x0 x1 x2 x3 x4,wS ((M x0 x1 x2 x3 x4)++Lr) Ls))\/Lc=[])(kA:∀ a w,SS n F Ek env L a w->(execOp a.eval o).run P w = .ok (.enter f vs) w)(hs:Sel L Lc Lr)(hc:∀ w,Hp F Ek w L->Calls P f vs w fun e w'=>∃ x0 x1 x2 x3 x4,e = .returned (val x0 x1 x2 x3 x4)/\(φ x0 x1 x2 x3 x4)/\Hp (fps Lc) w w' (M x0 x1 x2 x3 x4))(k:∀ x0 x1 x2 x3 x4,(φ x0 x1 x2 x3 x4)->WD P n F Ek ops tl Ls QD fuel (listed.setIfInBounds i true) ((dd,val x0 x1 x2 x3 x4)::env) ((M x0 x1 x2 x3 x4)++Lr)):WD P n F Ek ops tl Ls QD (fuel+1) listed env L:=
 WD.forcedCall (G:=A0×A1×A2×A3×A4) (φ:=fun g=>(cu5 φ g)) (val:=fun g=>(cu5 val g)) (M:=fun g=>(cu5 M g)) hi hr hg hd ng (ht.imp (fun h=>⟨h.1,fun g=>h.2 g.1 g.2.1 g.2.2.1 g.2.2.2.1 g.2.2.2.2⟩) id) kA hs
  (fun w h=>(hc w h).mono fun e w'=>by rintro⟨x0,x1,x2,x3,x4,h1,h2,h3⟩;exact⟨⟨x0,x1,x2,x3,x4⟩,h1,h2,h3⟩) (fun g h=>k g.1 g.2.1 g.2.2.1 g.2.2.2.1 g.2.2.2.2 h)
theorem Hw(φ:A0->A1->A2->A3->A4->A5->Prop)(f9:A0->A1->A2->A3->A4->A5->List (Nat×Value))(LI:A0->A1->A2->A3->A4->A5->List Asrt)(k1:WC P n F Ek (Exit.then (fun a w=>∃ g:A0×A1×A2×A3×A4×A5,(cu6 φ g)/\SS n F Ek (cu6 f9 g) (cu6 LI g) a w) Q) x env L)(k2:∀ x0 x1 x2 x3 x4 x5,(φ x0 x1 x2 x3 x4 x5)->WC P n F Ek Q y (f9 x0 x1 x2 x3 x4 x5) (LI x0 x1 x2 x3 x4 x5)):WC P n F Ek Q (.seq x y) env L:=
 Nw (G:=A0×A1×A2×A3×A4×A5) (fun g=>(cu6 φ g)) (fun g=>(cu6 f9 g)) (fun g=>(cu6 LI g)) k1 (fun g h=>k2 g.1 g.2.1 g.2.2.1 g.2.2.2.1 g.2.2.2.2.1 g.2.2.2.2.2 h)
theorem Hj(φ:A0->A1->A2->A3->A4->A5->Prop)(f9:A0->A1->A2->A3->A4->A5->List (Nat×Value))(LI:A0->A1->A2->A3->A4->A5->List Asrt)(μ:A0->A1->A2->A3->A4->A5->Nat){c:Code}(lN:A0×A1×A2×A3×A4×A5)(h0:((fun g=>(cu6 φ g)):A0×A1×A2×A3×A4×A5->Prop) lN)(hr:Restr env (((fun g=>(cu6 f9 g)):A0×A1×A2×A3×A4×A5->_) lN))(hL:Sel L (((fun g=>(cu6 LI g)):A0×A1×A2×A3×A4×A5->_) lN) M)(round:∀ x0 x1 x2 x3 x4 x5,(φ x0 x1 x2 x3 x4 x5)->WC P n F Ek (Exit.then (fun a w=>∃ g':A0×A1×A2×A3×A4×A5,(((fun g=>(cu6 φ g)):A0×A1×A2×A3×A4×A5->Prop) g'/\((fun g=>(cu6 μ g)):A0×A1×A2×A3×A4×A5->Nat) g'<(μ x0 x1 x2 x3 x4 x5))/\SS n F Ek (((fun g=>(cu6 f9 g)):A0×A1×A2×A3×A4×A5->_) g') (((fun g=>(cu6 LI g)):A0×A1×A2×A3×A4×A5->_) g') a w) Q) c (f9 x0 x1 x2 x3 x4 x5) (LI x0 x1 x2 x3 x4 x5)):
  WC P n F Ek Q (.loop c) env L:=
 E0 (G:=A0×A1×A2×A3×A4×A5) (fun g=>(cu6 φ g)) (fun g=>(cu6 f9 g)) (fun g=>(cu6 LI g)) (fun g=>(cu6 μ g)) lN h0 hr hL (fun g h=>round g.1 g.2.1 g.2.2.1 g.2.2.2.1 g.2.2.2.2.1 g.2.2.2.2.2 h)
theorem C8{φ:A0->A1->A2->A3->A4->A5->Prop}{val:A0->A1->A2->A3->A4->A5->Value}{M:A0->A1->A2->A3->A4->A5->List Asrt}(hg:gd env ops o=some true)(hd:o.dst=some dd)(ng:Nat.blt dd n=true)(kA:∀ a w,SS n F Ek env L a w->(execOp a.eval o).run P w = .ok (.enter f vs) w)(hs:Sel L Lc Lr)(hc:∀ w,Hp F Ek w L->Calls P f vs w fun e w'=>∃ x0 x1 x2 x3 x4 x5,e = .returned (val x0 x1 x2 x3 x4 x5)/\(φ x0 x1 x2 x3 x4 x5)/\Hp (fps Lc) w w' (M x0 x1 x2 x3 x4 x5))(k:∀ x0 x1 x2 x3 x4 x5,(φ x0 x1 x2 x3 x4 x5)->WL P n F Ek ops Q na ((dd,val x0 x1 x2 x3 x4 x5)::env) ((M x0 x1 x2 x3 x4 x5)++Lr)):WL P n F Ek ops Q (o::na) env L:=
 E3 (G:=A0×A1×A2×A3×A4×A5) (φ:=fun g=>(cu6 φ g)) (val:=fun g=>(cu6 val g)) (M:=fun g=>(cu6 M g)) hg hd ng kA hs
  (fun w h=>(hc w h).mono fun e w'=>by rintro⟨x0,x1,x2,x3,x4,x5,h1,h2,h3⟩;exact⟨⟨x0,x1,x2,x3,x4,x5⟩,h1,h2,h3⟩) (fun g h=>k g.1 g.2.1 g.2.2.1 g.2.2.2.1 g.2.2.2.2.1 g.2.2.2.2.2 h)
theorem D4(φ:A0->A1->A2->A3->A4->A5->A6->Prop)(f9:A0->A1->A2->A3->A4->A5->A6->List (Nat×Value))(LI:A0->A1->A2->A3->A4->A5->A6->List Asrt)(k1:WC P n F Ek (Exit.then (fun a w=>∃ g:A0×A1×A2×A3×A4×A5×A6,(cu7 φ g)/\SS n F Ek (cu7 f9 g) (cu7 LI g) a w) Q) x env L)(k2:∀ x0 x1 x2 x3 x4 x5 x6,(φ x0 x1 x2 x3 x4 x5 x6)->WC P n F Ek Q y (f9 x0 x1 x2 x3 x4 x5 x6) (LI x0 x1 x2 x3 x4 x5 x6)):WC P n F Ek Q (.seq x y) env L:=
 Nw (G:=A0×A1×A2×A3×A4×A5×A6) (fun g=>(cu7 φ g)) (fun g=>(cu7 f9 g)) (fun g=>(cu7 LI g)) k1 (fun g h=>k2 g.1 g.2.1 g.2.2.1 g.2.2.2.1 g.2.2.2.2.1 g.2.2.2.2.2.1 g.2.2.2.2.2.2 h)
theorem H2(φ:A0->A1->A2->A3->A4->A5->A6->Prop)(f9:A0->A1->A2->A3->A4->A5->A6->List (Nat×Value))(LI:A0->A1->A2->A3->A4->A5->A6->List Asrt)(μ:A0->A1->A2->A3->A4->A5->A6->Nat){c:Code}(lN:A0×A1×A2×A3×A4×A5×A6)(h0:((fun g=>(cu7 φ g)):A0×A1×A2×A3×A4×A5×A6->Prop) lN)(hr:Restr env (((fun g=>(cu7 f9 g)):A0×A1×A2×A3×A4×A5×A6->_) lN))(hL:Sel L (((fun g=>(cu7 LI g)):A0×A1×A2×A3×A4×A5×A6->_) lN) M)(round:∀ x0 x1 x2 x3 x4 x5 x6,(φ x0 x1 x2 x3 x4 x5 x6)->WC P n F Ek (Exit.then (fun a w=>∃ g':A0×A1×A2×A3×A4×A5×A6,(((fun g=>(cu7 φ g)):A0×A1×A2×A3×A4×A5×A6->Prop) g'/\((fun g=>(cu7 μ g)):A0×A1×A2×A3×A4×A5×A6->Nat) g'<(μ x0 x1 x2 x3 x4 x5 x6))/\SS n F Ek (((fun g=>(cu7 f9 g)):A0×A1×A2×A3×A4×A5×A6->_) g') (((fun g=>(cu7 LI g)):A0×A1×A2×A3×A4×A5×A6->_) g') a w) Q) c (f9 x0 x1 x2 x3 x4 x5 x6) (LI x0 x1 x2 x3 x4 x5 x6)):
  WC P n F Ek Q (.loop c) env L:=
 E0 (G:=A0×A1×A2×A3×A4×A5×A6) (fun g=>(cu7 φ g)) (fun g=>(cu7 f9 g)) (fun g=>(cu7 LI g)) (fun g=>(cu7 μ g)) lN h0 hr hL (fun g h=>round g.1 g.2.1 g.2.2.1 g.2.2.2.1 g.2.2.2.2.1 g.2.2.2.2.2.1 g.2.2.2.2.2.2 h)
theorem B2(φ:A0->A1->A2->A3->A4->A5->A6->A7->Prop)(f9:A0->A1->A2->A3->A4->A5->A6->A7->List (Nat×Value))(LI:A0->A1->A2->A3->A4->A5->A6->A7->List Asrt)(k1:WC P n F Ek (Exit.then (fun a w=>∃ g:A0×A1×A2×A3×A4×A5×A6×A7,(cu8 φ g)/\SS n F Ek (cu8 f9 g) (cu8 LI g) a w) Q) x env L)(k2:∀ x0 x1 x2 x3 x4 x5 x6 x7,(φ x0 x1 x2 x3 x4 x5 x6 x7)->WC P n F Ek Q y (f9 x0 x1 x2 x3 x4 x5 x6 x7) (LI x0 x1 x2 x3 x4 x5 x6 x7)):WC P n F Ek Q (.seq x y) env L:=
 Nw (G:=A0×A1×A2×A3×A4×A5×A6×A7) (fun g=>(cu8 φ g)) (fun g=>(cu8 f9 g)) (fun g=>(cu8 LI g)) k1 (fun g h=>k2 g.1 g.2.1 g.2.2.1 g.2.2.2.1 g.2.2.2.2.1 g.2.2.2.2.2.1 g.2.2.2.2.2.2.1 g.2.2.2.2.2.2.2 h)
theorem Hb(φ:A0->A1->A2->A3->A4->A5->A6->A7->Prop)(f9:A0->A1->A2->A3->A4->A5->A6->A7->List (Nat×Value))(LI:A0->A1->A2->A3->A4->A5->A6->A7->List Asrt)(μ:A0->A1->A2->A3->A4->A5->A6->A7->Nat){c:Code}(lN:A0×A1×A2×A3×A4×A5×A6×A7)(h0:((fun g=>(cu8 φ g)):A0×A1×A2×A3×A4×A5×A6×A7->Prop) lN)(hr:Restr env (((fun g=>(cu8 f9 g)):A0×A1×A2×A3×A4×A5×A6×A7->_) lN))(hL:Sel L (((fun g=>(cu8 LI g)):A0×A1×A2×A3×A4×A5×A6×A7->_) lN) M)(round:∀ x0 x1 x2 x3 x4 x5 x6 x7,(φ x0 x1 x2 x3 x4 x5 x6 x7)->WC P n F Ek (Exit.then (fun a w=>∃ g':A0×A1×A2×A3×A4×A5×A6×A7,(((fun g=>(cu8 φ g)):A0×A1×A2×A3×A4×A5×A6×A7->Prop) g'/\((fun g=>(cu8 μ g)):A0×A1×A2×A3×A4×A5×A6×A7->Nat) g'<(μ x0 x1 x2 x3 x4 x5 x6 x7))/\SS n F Ek (((fun g=>(cu8 f9 g)):A0×A1×A2×A3×A4×A5×A6×A7->_) g') (((fun g=>(cu8 LI g)):A0×A1×A2×A3×A4×A5×A6×A7->_) g') a w) Q) c (f9 x0 x1 x2 x3 x4 x5 x6 x7) (LI x0 x1 x2 x3 x4 x5 x6 x7)):
  WC P n F Ek Q (.loop c) env L:=
 E0 (G:=A0×A1×A2×A3×A4×A5×A6×A7) (fun g=>(cu8 φ g)) (fun g=>(cu8 f9 g)) (fun g=>(cu8 LI g)) (fun g=>(cu8 μ g)) lN h0 hr hL (fun g h=>round g.1 g.2.1 g.2.2.1 g.2.2.2.1 g.2.2.2.2.1 g.2.2.2.2.2.1 g.2.2.2.2.2.2.1 g.2.2.2.2.2.2.2 h)
theorem Dw{φ:A0->A1->A2->A3->A4->A5->A6->A7->Prop}{val:A0->A1->A2->A3->A4->A5->A6->A7->Value}{M:A0->A1->A2->A3->A4->A5->A6->A7->List Asrt}(hg:gd env ops o=some true)(hd:o.dst=some dd)(ng:Nat.blt dd n=true)(kA:∀ a w,SS n F Ek env L a w->(execOp a.eval o).run P w = .ok (.enter f vs) w)(hs:Sel L Lc Lr)(hc:∀ w,Hp F Ek w L->Calls P f vs w fun e w'=>∃ x0 x1 x2 x3 x4 x5 x6 x7,e = .returned (val x0 x1 x2 x3 x4 x5 x6 x7)/\(φ x0 x1 x2 x3 x4 x5 x6 x7)/\Hp (fps Lc) w w' (M x0 x1 x2 x3 x4 x5 x6 x7))(k:∀ x0 x1 x2 x3 x4 x5 x6 x7,(φ x0 x1 x2 x3 x4 x5 x6 x7)->WL P n F Ek ops Q na ((dd,val x0 x1 x2 x3 x4 x5 x6 x7)::env) ((M x0 x1 x2 x3 x4 x5 x6 x7)++Lr)):WL P n F Ek ops Q (o::na) env L:=
 E3 (G:=A0×A1×A2×A3×A4×A5×A6×A7) (φ:=fun g=>(cu8 φ g)) (val:=fun g=>(cu8 val g)) (M:=fun g=>(cu8 M g)) hg hd ng kA hs
  (fun w h=>(hc w h).mono fun e w'=>by rintro⟨x0,x1,x2,x3,x4,x5,x6,x7,h1,h2,h3⟩;exact⟨⟨x0,x1,x2,x3,x4,x5,x6,x7⟩,h1,h2,h3⟩) (fun g h=>k g.1 g.2.1 g.2.2.1 g.2.2.2.1 g.2.2.2.2.1 g.2.2.2.2.2.1 g.2.2.2.2.2.2.1 g.2.2.2.2.2.2.2 h)
theorem Dj{A8:Type}(φ:A0->A1->A2->A3->A4->A5->A6->A7->A8->Prop)(f9:A0->A1->A2->A3->A4->A5->A6->A7->A8->List (Nat×Value))(LI:A0->A1->A2->A3->A4->A5->A6->A7->A8->List Asrt)(μ:A0->A1->A2->A3->A4->A5->A6->A7->A8->Nat){c:Code}(lN:A0×A1×A2×A3×A4×A5×A6×A7×A8)(h0:((fun g=>(cu9 φ g)):A0×A1×A2×A3×A4×A5×A6×A7×A8->Prop) lN)(hr:Restr env (((fun g=>(cu9 f9 g)):A0×A1×A2×A3×A4×A5×A6×A7×A8->_) lN))(hL:Sel L (((fun g=>(cu9 LI g)):A0×A1×A2×A3×A4×A5×A6×A7×A8->_) lN) M)(round:∀ x0 x1 x2 x3 x4 x5 x6 x7 x8,(φ x0 x1 x2 x3 x4 x5 x6 x7 x8)->WC P n F Ek (Exit.then (fun a w=>∃ g':A0×A1×A2×A3×A4×A5×A6×A7×A8,(((fun g=>(cu9 φ g)):A0×A1×A2×A3×A4×A5×A6×A7×A8->Prop) g'/\((fun g=>(cu9 μ g)):A0×A1×A2×A3×A4×A5×A6×A7×A8->Nat) g'<(μ x0 x1 x2 x3 x4 x5 x6 x7 x8))/\SS n F Ek (((fun g=>(cu9 f9 g)):A0×A1×A2×A3×A4×A5×A6×A7×A8->_) g') (((fun g=>(cu9 LI g)):A0×A1×A2×A3×A4×A5×A6×A7×A8->_) g') a w) Q) c (f9 x0 x1 x2 x3 x4 x5 x6 x7 x8) (LI x0 x1 x2 x3 x4 x5 x6 x7 x8)):
  WC P n F Ek Q (.loop c) env L:=
 E0 (G:=A0×A1×A2×A3×A4×A5×A6×A7×A8) (fun g=>(cu9 φ g)) (fun g=>(cu9 f9 g)) (fun g=>(cu9 LI g)) (fun g=>(cu9 μ g)) lN h0 hr hL (fun g h=>round g.1 g.2.1 g.2.2.1 g.2.2.2.1 g.2.2.2.2.1 g.2.2.2.2.2.1 g.2.2.2.2.2.2.1 g.2.2.2.2.2.2.2.1 g.2.2.2.2.2.2.2.2 h)
theorem D3{A8 A9:Type}(φ:A0->A1->A2->A3->A4->A5->A6->A7->A8->A9->Prop)(f9:A0->A1->A2->A3->A4->A5->A6->A7->A8->A9->List (Nat×Value))(LI:A0->A1->A2->A3->A4->A5->A6->A7->A8->A9->List Asrt)(k1:WC P n F Ek (Exit.then (fun a w=>∃ g:A0×A1×A2×A3×A4×A5×A6×A7×A8×A9,(cu10 φ g)/\SS n F Ek (cu10 f9 g) (cu10 LI g) a w) Q) x env L)(k2:∀ x0 x1 x2 x3 x4 x5 x6 x7 x8 x9,(φ x0 x1 x2 x3 x4 x5 x6 x7 x8 x9)->WC P n F Ek Q y (f9 x0 x1 x2 x3 x4 x5 x6 x7 x8 x9) (LI x0 x1 x2 x3 x4 x5 x6 x7 x8 x9)):WC P n F Ek Q (.seq x y) env L:=
 Nw (G:=A0×A1×A2×A3×A4×A5×A6×A7×A8×A9) (fun g=>(cu10 φ g)) (fun g=>(cu10 f9 g)) (fun g=>(cu10 LI g)) k1 (fun g h=>k2 g.1 g.2.1 g.2.2.1 g.2.2.2.1 g.2.2.2.2.1 g.2.2.2.2.2.1 g.2.2.2.2.2.2.1 g.2.2.2.2.2.2.2.1 g.2.2.2.2.2.2.2.2.1 g.2.2.2.2.2.2.2.2.2 h)
end
end
section
variable {A0 A1 A2 A3 A4 A5 A6 A7 A8 A9 nA nC nW nX n2 oL qA qV:Type}{M:List Asrt}
variable [Rnd]
section
variable {P:Program} {n:Nat} {F:List Nat} {Ek:World} {env:List (Nat×Value)} {L Lc Lr R:List Asrt} {ops:Array Oper} {Q:Exit->Act->World->Prop} {na:List Oper} {dd:Nat}
theorem Ol(φ:A0->A1->A2->A3->A4->A5->A6->A7->A8->A9->nA->Prop)(f9:A0->A1->A2->A3->A4->A5->A6->A7->A8->A9->nA->List (Nat×Value))(LI:A0->A1->A2->A3->A4->A5->A6->A7->A8->A9->nA->List Asrt)(μ:A0->A1->A2->A3->A4->A5->A6->A7->A8->A9->nA->Nat){c:Code}(lN:A0×A1×A2×A3×A4×A5×A6×A7×A8×A9×nA)(h0:((fun g=>(cu11 φ g)):A0×A1×A2×A3×A4×A5×A6×A7×A8×A9×nA->Prop) lN)(hr:Restr env (((fun g=>(cu11 f9 g)):A0×A1×A2×A3×A4×A5×A6×A7×A8×A9×nA->_) lN))(hL:Sel L (((fun g=>(cu11 LI g)):A0×A1×A2×A3×A4×A5×A6×A7×A8×A9×nA->_) lN) M)(round:∀ x0 x1 x2 x3 x4 x5 x6 x7 x8 x9 rv,(φ x0 x1 x2 x3 x4 x5 x6 x7 x8 x9 rv)->WC P n F Ek (Exit.then (fun a w=>∃ g':A0×A1×A2×A3×A4×A5×A6×A7×A8×A9×nA,(((fun g=>(cu11 φ g)):A0×A1×A2×A3×A4×A5×A6×A7×A8×A9×nA->Prop) g'/\((fun g=>(cu11 μ g)):A0×A1×A2×A3×A4×A5×A6×A7×A8×A9×nA->Nat) g'<(μ x0 x1 x2 x3 x4 x5 x6 x7 x8 x9 rv))/\SS n F Ek (((fun g=>(cu11 f9 g)):A0×A1×A2×A3×A4×A5×A6×A7×A8×A9×nA->_) g') (((fun g=>(cu11 LI g)):A0×A1×A2×A3×A4×A5×A6×A7×A8×A9×nA->_) g') a w) Q) c (f9 x0 x1 x2 x3 x4 x5 x6 x7 x8 x9 rv) (LI x0 x1 x2 x3 x4 x5 x6 x7 x8 x9 rv)):
  WC P n F Ek Q (.loop c) env L:=
 E0 (G:=A0×A1×A2×A3×A4×A5×A6×A7×A8×A9×nA) (fun g=>(cu11 φ g)) (fun g=>(cu11 f9 g)) (fun g=>(cu11 LI g)) (fun g=>(cu11 μ g)) lN h0 hr hL (fun g h=>round g.1 g.2.1 g.2.2.1 g.2.2.2.1 g.2.2.2.2.1 g.2.2.2.2.2.1 g.2.2.2.2.2.2.1 g.2.2.2.2.2.2.2.1 g.2.2.2.2.2.2.2.2.1 g.2.2.2.2.2.2.2.2.2.1 g.2.2.2.2.2.2.2.2.2.2 h)
theorem Oj(φ:A0->A1->A2->A3->A4->A5->A6->A7->A8->A9->nA->nC->Prop)(f9:A0->A1->A2->A3->A4->A5->A6->A7->A8->A9->nA->nC->List (Nat×Value))(LI:A0->A1->A2->A3->A4->A5->A6->A7->A8->A9->nA->nC->List Asrt)(μ:A0->A1->A2->A3->A4->A5->A6->A7->A8->A9->nA->nC->Nat){c:Code}(lN:A0×A1×A2×A3×A4×A5×A6×A7×A8×A9×nA×nC)(h0:((fun g=>(cu12 φ g)):A0×A1×A2×A3×A4×A5×A6×A7×A8×A9×nA×nC->Prop) lN)(hr:Restr env (((fun g=>(cu12 f9 g)):A0×A1×A2×A3×A4×A5×A6×A7×A8×A9×nA×nC->_) lN))(hL:Sel L (((fun g=>(cu12 LI g)):A0×A1×A2×A3×A4×A5×A6×A7×A8×A9×nA×nC->_) lN) M)(round:∀ x0 x1 x2 x3 x4 x5 x6 x7 x8 x9 rv sY,(φ x0 x1 x2 x3 x4 x5 x6 x7 x8 x9 rv sY)->WC P n F Ek (Exit.then (fun a w=>∃ g':A0×A1×A2×A3×A4×A5×A6×A7×A8×A9×nA×nC,(((fun g=>(cu12 φ g)):A0×A1×A2×A3×A4×A5×A6×A7×A8×A9×nA×nC->Prop) g'/\((fun g=>(cu12 μ g)):A0×A1×A2×A3×A4×A5×A6×A7×A8×A9×nA×nC->Nat) g'<(μ x0 x1 x2 x3 x4 x5 x6 x7 x8 x9 rv sY))/\SS n F Ek (((fun g=>(cu12 f9 g)):A0×A1×A2×A3×A4×A5×A6×A7×A8×A9×nA×nC->_) g') (((fun g=>(cu12 LI g)):A0×A1×A2×A3×A4×A5×A6×A7×A8×A9×nA×nC->_) g') a w) Q) c (f9 x0 x1 x2 x3 x4 x5 x6 x7 x8 x9 rv sY) (LI x0 x1 x2 x3 x4 x5 x6 x7 x8 x9 rv sY)):
  WC P n F Ek Q (.loop c) env L:=
 E0 (G:=A0×A1×A2×A3×A4×A5×A6×A7×A8×A9×nA×nC) (fun g=>(cu12 φ g)) (fun g=>(cu12 f9 g)) (fun g=>(cu12 LI g)) (fun g=>(cu12 μ g)) lN h0 hr hL (fun g h=>round g.1 g.2.1 g.2.2.1 g.2.2.2.1 g.2.2.2.2.1 g.2.2.2.2.2.1 g.2.2.2.2.2.2.1 g.2.2.2.2.2.2.2.1 g.2.2.2.2.2.2.2.2.1 g.2.2.2.2.2.2.2.2.2.1 g.2.2.2.2.2.2.2.2.2.2.1 g.2.2.2.2.2.2.2.2.2.2.2 h)
theorem Of(φ:A0->A1->A2->A3->A4->A5->A6->A7->A8->A9->nA->nC->nW->nX->n2->oL->qA->qV->Prop)(f9:A0->A1->A2->A3->A4->A5->A6->A7->A8->A9->nA->nC->nW->nX->n2->oL->qA->qV->List (Nat×Value))(LI:A0->A1->A2->A3->A4->A5->A6->A7->A8->A9->nA->nC->nW->nX->n2->oL->qA->qV->List Asrt){x y:Code}(k1:WC P n F Ek (Exit.then (fun a w=>∃ g:A0×A1×A2×A3×A4×A5×A6×A7×A8×A9×nA×nC×nW×nX×n2×oL×qA×qV,(cu18 φ g)/\SS n F Ek (cu18 f9 g) (cu18 LI g) a w) Q) x env L)(k2:∀ x0 x1 x2 x3 x4 x5 x6 x7 x8 x9 rv sY uV wd wy wH zh zr,(φ x0 x1 x2 x3 x4 x5 x6 x7 x8 x9 rv sY uV wd wy wH zh zr)->WC P n F Ek Q y (f9 x0 x1 x2 x3 x4 x5 x6 x7 x8 x9 rv sY uV wd wy wH zh zr) (LI x0 x1 x2 x3 x4 x5 x6 x7 x8 x9 rv sY uV wd wy wH zh zr)):WC P n F Ek Q (.seq x y) env L:=
 Nw (G:=A0×A1×A2×A3×A4×A5×A6×A7×A8×A9×nA×nC×nW×nX×n2×oL×qA×qV) (fun g=>(cu18 φ g)) (fun g=>(cu18 f9 g)) (fun g=>(cu18 LI g)) k1 (fun g h=>k2 g.1 g.2.1 g.2.2.1 g.2.2.2.1 g.2.2.2.2.1 g.2.2.2.2.2.1 g.2.2.2.2.2.2.1 g.2.2.2.2.2.2.2.1 g.2.2.2.2.2.2.2.2.1 g.2.2.2.2.2.2.2.2.2.1 g.2.2.2.2.2.2.2.2.2.2.1 g.2.2.2.2.2.2.2.2.2.2.2.1 g.2.2.2.2.2.2.2.2.2.2.2.2.1 g.2.2.2.2.2.2.2.2.2.2.2.2.2.1 g.2.2.2.2.2.2.2.2.2.2.2.2.2.2.1 g.2.2.2.2.2.2.2.2.2.2.2.2.2.2.2.1 g.2.2.2.2.2.2.2.2.2.2.2.2.2.2.2.2.1 g.2.2.2.2.2.2.2.2.2.2.2.2.2.2.2.2.2 h)
theorem Oe{tv:Type}(φ:A0->A1->A2->A3->A4->A5->A6->A7->A8->A9->nA->nC->nW->nX->n2->oL->qA->qV->tv->Prop)(f9:A0->A1->A2->A3->A4->A5->A6->A7->A8->A9->nA->nC->nW->nX->n2->oL->qA->qV->tv->List (Nat×Value))(LI:A0->A1->A2->A3->A4->A5->A6->A7->A8->A9->nA->nC->nW->nX->n2->oL->qA->qV->tv->List Asrt){x y:Code}(k1:WC P n F Ek (Exit.then (fun a w=>∃ g:A0×A1×A2×A3×A4×A5×A6×A7×A8×A9×nA×nC×nW×nX×n2×oL×qA×qV×tv,(cu19 φ g)/\SS n F Ek (cu19 f9 g) (cu19 LI g) a w) Q) x env L)(k2:∀ x0 x1 x2 x3 x4 x5 x6 x7 x8 x9 rv sY uV wd wy wH zh zr Ai,(φ x0 x1 x2 x3 x4 x5 x6 x7 x8 x9 rv sY uV wd wy wH zh zr Ai)->WC P n F Ek Q y (f9 x0 x1 x2 x3 x4 x5 x6 x7 x8 x9 rv sY uV wd wy wH zh zr Ai) (LI x0 x1 x2 x3 x4 x5 x6 x7 x8 x9 rv sY uV wd wy wH zh zr Ai)):WC P n F Ek Q (.seq x y) env L:=
 Nw (G:=A0×A1×A2×A3×A4×A5×A6×A7×A8×A9×nA×nC×nW×nX×n2×oL×qA×qV×tv) (fun g=>(cu19 φ g)) (fun g=>(cu19 f9 g)) (fun g=>(cu19 LI g)) k1 (fun g h=>k2 g.1 g.2.1 g.2.2.1 g.2.2.2.1 g.2.2.2.2.1 g.2.2.2.2.2.1 g.2.2.2.2.2.2.1 g.2.2.2.2.2.2.2.1 g.2.2.2.2.2.2.2.2.1 g.2.2.2.2.2.2.2.2.2.1 g.2.2.2.2.2.2.2.2.2.2.1 g.2.2.2.2.2.2.2.2.2.2.2.1 g.2.2.2.2.2.2.2.2.2.2.2.2.1 g.2.2.2.2.2.2.2.2.2.2.2.2.2.1 g.2.2.2.2.2.2.2.2.2.2.2.2.2.2.1 g.2.2.2.2.2.2.2.2.2.2.2.2.2.2.2.1 g.2.2.2.2.2.2.2.2.2.2.2.2.2.2.2.2.1 g.2.2.2.2.2.2.2.2.2.2.2.2.2.2.2.2.2.1 g.2.2.2.2.2.2.2.2.2.2.2.2.2.2.2.2.2.2 h)
theorem Oi{tv vE:Type}(φ:A0->A1->A2->A3->A4->A5->A6->A7->A8->A9->nA->nC->nW->nX->n2->oL->qA->qV->tv->vE->Prop)(f9:A0->A1->A2->A3->A4->A5->A6->A7->A8->A9->nA->nC->nW->nX->n2->oL->qA->qV->tv->vE->List (Nat×Value))(LI:A0->A1->A2->A3->A4->A5->A6->A7->A8->A9->nA->nC->nW->nX->n2->oL->qA->qV->tv->vE->List Asrt)(μ:A0->A1->A2->A3->A4->A5->A6->A7->A8->A9->nA->nC->nW->nX->n2->oL->qA->qV->tv->vE->Nat){c:Code}(lN:A0×A1×A2×A3×A4×A5×A6×A7×A8×A9×nA×nC×nW×nX×n2×oL×qA×qV×tv×vE)(h0:((fun g=>(cu20 φ g)):A0×A1×A2×A3×A4×A5×A6×A7×A8×A9×nA×nC×nW×nX×n2×oL×qA×qV×tv×vE->Prop) lN)(hr:Restr env (((fun g=>(cu20 f9 g)):A0×A1×A2×A3×A4×A5×A6×A7×A8×A9×nA×nC×nW×nX×n2×oL×qA×qV×tv×vE->_) lN))(hL:Sel L (((fun g=>(cu20 LI g)):A0×A1×A2×A3×A4×A5×A6×A7×A8×A9×nA×nC×nW×nX×n2×oL×qA×qV×tv×vE->_) lN) M)(round:∀ x0 x1 x2 x3 x4 x5 x6 x7 x8 x9 rv sY uV wd wy wH zh zr Ai Bp,(φ x0 x1 x2 x3 x4 x5 x6 x7 x8 x9 rv sY uV wd wy wH zh zr Ai Bp)->WC P n F Ek (Exit.then (fun a w=>∃ g':A0×A1×A2×A3×A4×A5×A6×A7×A8×A9×nA×nC×nW×nX×n2×oL×qA×qV×tv×vE,(((fun g=>(cu20 φ g)):A0×A1×A2×A3×A4×A5×A6×A7×A8×A9×nA×nC×nW×nX×n2×oL×qA×qV×tv×vE->Prop) g'/\((fun g=>(cu20 μ g)):A0×A1×A2×A3×A4×A5×A6×A7×A8×A9×nA×nC×nW×nX×n2×oL×qA×qV×tv×vE->Nat) g'<(μ x0 x1 x2 x3 x4 x5 x6 x7 x8 x9 rv sY uV wd wy wH zh zr Ai Bp))/\SS n F Ek (((fun g=>(cu20 f9 g)):A0×A1×A2×A3×A4×A5×A6×A7×A8×A9×nA×nC×nW×nX×n2×oL×qA×qV×tv×vE->_) g') (((fun g=>(cu20 LI g)):A0×A1×A2×A3×A4×A5×A6×A7×A8×A9×nA×nC×nW×nX×n2×oL×qA×qV×tv×vE->_) g') a w) Q) c (f9 x0 x1 x2 x3 x4 x5 x6 x7 x8 x9 rv sY uV wd wy wH zh zr Ai Bp) (LI x0 x1 x2 x3 x4 x5 x6 x7 x8 x9 rv sY uV wd wy wH zh zr Ai Bp)):
  WC P n F Ek Q (.loop c) env L:=
 E0 (G:=A0×A1×A2×A3×A4×A5×A6×A7×A8×A9×nA×nC×nW×nX×n2×oL×qA×qV×tv×vE) (fun g=>(cu20 φ g)) (fun g=>(cu20 f9 g)) (fun g=>(cu20 LI g)) (fun g=>(cu20 μ g)) lN h0 hr hL (fun g h=>round g.1 g.2.1 g.2.2.1 g.2.2.2.1 g.2.2.2.2.1 g.2.2.2.2.2.1 g.2.2.2.2.2.2.1 g.2.2.2.2.2.2.2.1 g.2.2.2.2.2.2.2.2.1 g.2.2.2.2.2.2.2.2.2.1 g.2.2.2.2.2.2.2.2.2.2.1 g.2.2.2.2.2.2.2.2.2.2.2.1 g.2.2.2.2.2.2.2.2.2.2.2.2.1 g.2.2.2.2.2.2.2.2.2.2.2.2.2.1 g.2.2.2.2.2.2.2.2.2.2.2.2.2.2.1 g.2.2.2.2.2.2.2.2.2.2.2.2.2.2.2.1 g.2.2.2.2.2.2.2.2.2.2.2.2.2.2.2.2.1 g.2.2.2.2.2.2.2.2.2.2.2.2.2.2.2.2.2.1 g.2.2.2.2.2.2.2.2.2.2.2.2.2.2.2.2.2.2.1 g.2.2.2.2.2.2.2.2.2.2.2.2.2.2.2.2.2.2.2 h)
end
end
end Sep

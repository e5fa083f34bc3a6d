/- A part of this claim's proof: a symbolic heap of what a call owns, and the judgements over it. No conditions. -/
import Derived.WalkKit
import Derived.TacticsIn
import Derived.OrdersIn
import Derived.RangeFuncRecord
import Derived.RangeFuncCalls
import Derived.WalkSpells
import Derived.WalkLawsBesides
import Derived.Deep.Quiet
import Derived.Laws.AppendOwnNone
set_option linter.all false
namespace Sep
open Go Go.RowKit
section
class Nu{α:Type _}(a:α)(b:outParam α):Prop where h:a=b
instance{α:Type _}{a:α}:Nu a a:=⟨rfl⟩
structure Asrt where
 fp:List Nat
 ok:World->Prop
 loc:∀ w w':World,(∀ b∈fp,b<w.heap.size->w'.heap[b]?=w.heap[b]?)->(∀ b∈fp,b<w.heap.size)->ok w->ok w'
variable {α:Type}{w':World}{i m:Nat}{K:Act->World->Prop}{M L':List Asrt}{f:FuncId}{y:Code}
def wr(b:Nat)(o:Obj):Asrt where
 fp:=[b]
 ok w:=w.heap[b]?=some o
 loc w w' h hl hk:=by rw[h b (by simp) (hl b (by simp))];exact hk
def row(v:Value)(e:TypeId)(sz:Nat)(cs:List Value):Asrt where
 fp:=v.ownBlock.toList
 ok w:=∃ n,w.ownsRow 0 e sz v n cs
 loc w w' h hl hk:=by
  obtain⟨n,h1,h2⟩:=hk
  refine⟨n,h1,?_⟩
  rcases h2 with h2 | ⟨g,cap,pA,hv,hg,hh,r⟩
  ·exact .inl h2
  ·have hm:g∈v.ownBlock.toList:=by subst hv;simp[Value.ownBlock]
   exact .inr ⟨g,cap,pA,hv,hg,by rw[h g hm (hl g hm)];exact hh,r⟩
structure TD (Nv w:World):Prop where
 t:w.tape=Nv.tape
 d:Nv.drawn<=w.drawn
theorem TD.trans{a b c:World}(h:TD b c)(k:TD a b):TD a c:=⟨h.t.trans k.t,Nat.le_trans k.d h.d⟩
theorem TD.refl(w:World):TD w w:=⟨rfl,Nat.le_refl _⟩
structure Hp (F:List Nat) (Nv w:World) (L:List Asrt):Prop where
 os:w.os=Nv.os
 tape:TD Nv w
 output:w.output=Nv.output
 size:Nv.heap.size<=w.heap.size
 block:∀ k,k<Nv.heap.size->k∉F->w.heap[k]?=Nv.heap[k]?
 ok:∀ x∈L,x.ok w
 lt:∀ x∈L,∀ b∈x.fp,b<w.heap.size
 ow:∀ x∈L,∀ b∈x.fp,b∈F\/Nv.heap.size<=b
 sep:L.Pairwise fun x y=>∀ b∈x.fp,b∉y.fp
theorem Hp.nil(w:World)(F:List Nat):Hp F w w []:=
 ⟨rfl,TD.refl _,rfl,Nat.le_refl _,fun _ _ _=>rfl,by simp,by simp,by simp,.nil⟩
theorem Hp.below{Nv w:World}{L:List Asrt}(h:Hp [] Nv w L):Below Nv.heap.size Nv w:=
 ⟨h.os,h.tape.t,h.output,h.size,fun k hk=>h.block k hk (by simp)⟩
structure Ext (w w':World):Prop where
 os:w'.os=w.os
 tape:TD w w'
 output:w'.output=w.output
 size:w.heap.size<=w'.heap.size
 block:∀ k,k<w.heap.size->w'.heap[k]?=w.heap[k]?
theorem Ext.refl(w:World):Ext w w:=⟨rfl,TD.refl _,rfl,Nat.le_refl _,fun _ _=>rfl⟩
theorem Ext.trans{a b c:World}(h:Ext a b)(k:Ext b c):Ext a c:=
 ⟨k.os.trans h.os,k.tape.trans h.tape,k.output.trans h.output,Nat.le_trans h.size k.size,
  fun i hi=>(k.block i (Nat.lt_of_lt_of_le hi h.size)).trans (h.block i hi)⟩
theorem Ext.drew(w:World)(n:Nat)(h:w.drawn<=n):Ext w { w with drawn:=n }:=⟨rfl,⟨rfl,h⟩,rfl,Nat.le_refl _,fun _ _=>rfl⟩
theorem Ext.alloc(w:World)(o:Obj):Ext w (w.alloc o):=⟨rfl,⟨rfl,Nat.le_refl _⟩,rfl,by simp,fun k hk=>Below.heap_alloc _ _ _ hk⟩
theorem Hp.ext{F:List Nat}{Nv w:World}{L:List Asrt}(h:Hp F Nv w L)(e:Ext w w'):Hp F Nv w' L:=
 ⟨e.os.trans h.os,e.tape.trans h.tape,e.output.trans h.output,Nat.le_trans h.size e.size,
  fun k hk hf=>(e.block k (Nat.lt_of_lt_of_le hk h.size)).trans (h.block k hk hf),
  fun x hx=>x.loc w w' (fun b _ hl=>e.block b hl) (h.lt x hx) (h.ok x hx),
  fun x hx b hb=>Nat.lt_of_lt_of_le (h.lt x hx b hb) e.size,h.ow,h.sep⟩
theorem Hp.toExt{Nv w:World}{L:List Asrt}(h:Hp [] Nv w L):Ext Nv w:=
 ⟨h.os,h.tape,h.output,h.size,fun k hk=>h.block k hk (by simp)⟩
inductive Pick {α:Type}:List α->α->List α->Prop
 | here {x:α} {R:List α}:Pick (x::R) x R
 | there {x y:α} {L R:List α} (h:Pick L x R):Pick (y::L) x (y::R)
theorem Pick.h1{a0 x:α}{R:List α}:Pick (a0::x::R) x (a0::R) := .there .here
theorem Pick.h2{a0 a1 x:α}{R:List α}:Pick (a0::a1::x::R) x (a0::a1::R) := .there .h1
theorem Pick.h3{a0 a1 a2 x:α}{R:List α}:Pick (a0::a1::a2::x::R) x (a0::a1::a2::R) := .there .h2
theorem Pick.h4{a0 a1 a2 a3 x:α}{R:List α}:Pick (a0::a1::a2::a3::x::R) x (a0::a1::a2::a3::R) := .there .h3
theorem Pick.h5{a0 a1 a2 a3 a4 x:α}{R:List α}:Pick (a0::a1::a2::a3::a4::x::R) x (a0::a1::a2::a3::a4::R) := .there .h4
theorem Pick.h6{a0 a1 a2 a3 a4 a5 x:α}{R:List α}:Pick (a0::a1::a2::a3::a4::a5::x::R) x (a0::a1::a2::a3::a4::a5::R) := .there .h5
theorem Pick.h7{a0 a1 a2 a3 a4 a5 a6 x:α}{R:List α}:Pick (a0::a1::a2::a3::a4::a5::a6::x::R) x (a0::a1::a2::a3::a4::a5::a6::R) := .there .h6
inductive Sel {α:Type}:List α->List α->List α->Prop
 | nil {L:List α}:Sel L [] L
 | cons {x:α} {L R L' M:List α} (h:Pick L x R) (t:Sel R L' M):Sel L (x::L') M
theorem Pick.perm{L R:List α}{x:α}(h:Pick L x R):L.Perm (x::R):=by
 induction h with
 | here=>exact .refl _
 | there _ ih=>exact(List.Perm.cons _ ih).trans (List.Perm.swap ..)
theorem Sel.perm{α:Type}{L L' M:List α}(h:Sel L L' M):L.Perm (L'++M):=by
 induction h with
 | nil=>exact .refl _
 | cons h _ ih=>exact h.perm.trans (List.Perm.cons _ ih)
theorem Sel.all{L:List α}:Sel L L []:=by
 induction L with
 | nil=>exact .nil
 | cons x L ih=>exact .cons .here ih
theorem Hp.sub{F:List Nat}{Nv w:World}{L:List Asrt}(h:Hp F Nv w L)(hs:Sel L L' M):Hp F Nv w L':=by
 have hM:=hs.perm
 have hm:∀ x∈L',x∈L:=fun x hx=>hM.mem_iff.2 (List.mem_append_left _ hx)
 have hp:(L'++M).Pairwise fun x y=>∀ b∈x.fp,b∉y.fp:=
  (List.Perm.pairwise_iff (fun {x y} hxy b hb hc=>hxy b hc hb) hM).1 h.sep
 exact⟨h.os,h.tape,h.output,h.size,h.block,fun x hx=>h.ok x (hm x hx),fun x hx=>h.lt x (hm x hx),fun x hx=>h.ow x (hm x hx),
  (List.pairwise_append.1 hp).1⟩
theorem Hp.call{F:List Nat}{Nv w:World}{L Lc Lr:List Asrt}(h:Hp F Nv w L)(hs0:Sel L Lc Lr)(c:Hp (Lc.flatMap (·.fp)) w w' M):Hp F Nv w' (M++Lr):=by
 have hs:=hs0.perm
 have Aw:∀ x∈Lc,x∈L:=fun x hx=>hs.mem_iff.2 (List.mem_append_left _ hx)
 have D2:∀ x∈Lr,x∈L:=fun x hx=>hs.mem_iff.2 (List.mem_append_right _ hx)
 have hp:(Lc++Lr).Pairwise fun x y=>∀ b∈x.fp,b∉y.fp:=
  (List.Perm.pairwise_iff (fun {x y} hxy b hb hc=>hxy b hc hb) hs).1 h.sep
 obtain⟨_,hpr,hcr⟩:=List.pairwise_append.1 hp
 have t7:∀ x∈Lr,∀ b∈x.fp,b∉Lc.flatMap (·.fp):=fun x hx b hb hc=>by
  obtain⟨y,hy,xE⟩:=List.mem_flatMap.1 hc
  exact hcr y hy x hx b xE hb
 have hF:∀ b∈Lc.flatMap (·.fp),b∈F\/Nv.heap.size<=b:=fun b hb=>by
  obtain⟨y,hy,xE⟩:=List.mem_flatMap.1 hb
  exact h.ow y (Aw y hy) b xE
 refine⟨c.os.trans h.os,c.tape.trans h.tape,c.output.trans h.output,Nat.le_trans h.size c.size,?_,?_,?_,?_,?_⟩
 ·intro k hk hf
  rw[c.block k (Nat.lt_of_lt_of_le hk h.size) (fun hc=>by
   rcases hF k hc with h1 | h1
   ·exact hf h1
   ·omega)]
  exact h.block k hk hf
 ·intro x hx
  rcases List.mem_append.1 hx with hx | hx
  ·exact c.ok x hx
  ·exact x.loc w w' (fun b hb hl=>c.block b hl (t7 x hx b hb)) (h.lt x (D2 x hx)) (h.ok x (D2 x hx))
 ·intro x hx b hb
  rcases List.mem_append.1 hx with hx | hx
  ·exact c.lt x hx b hb
  ·exact Nat.lt_of_lt_of_le (h.lt x (D2 x hx) b hb) c.size
 ·intro x hx b hb
  rcases List.mem_append.1 hx with hx | hx
  ·rcases c.ow x hx b hb with h1 | h1
   ·exact hF b h1
   ·exact .inr (Nat.le_trans h.size h1)
  ·exact h.ow x (D2 x hx) b hb
 ·refine List.pairwise_append.2 ⟨c.sep,hpr,fun x hx y hy b hb hc=>?_⟩
  rcases c.ow x hx b hb with h1 | h1
  ·exact t7 y hy b hc h1
  ·have:=h.lt y (D2 y hy) b hc;omega
def lk:List (Nat×Value)->Nat->Option Value
 | [],_=>none
 | (j,v)::r,i=>bif Nat.beq i j then some v else lk r i
def eo(env:List (Nat×Value)):Operand->Option Value
 | .tmp t=>lk env t
 | .const v=>some v
 | .global g=>some (.pointer (some ⟨g,0,none⟩))
 | .func f=>some (.func (.func f) #[] #[])
theorem p7{d:Nat}(h:i≠d):Nat.beq i d=false:=by
 cases hb:Nat.beq i d with
 | false=>rfl
 | true=>exact absurd (Nat.eq_of_beq_eq_true hb) h
def Ev(env:List (Nat×Value))(tmps:Array Value):Prop:=∀ i v,lk env i=some v->tmps[i]?=some v
theorem Ev.put{env:List (Nat×Value)}{tmps:Array Value}(h:Ev env tmps)(d:Nat)(v:Value)(hd:d<tmps.size):
  Ev ((d,v)::env) (tmps.setIfInBounds d v):=by
 intro i u hu
 simp only[lk] at hu
 by_cases hi:i=d
 ·subst hi
  simp at hu;subst hu
  simp[hd]
 ·have:Nat.beq i d=false:=p7 hi
  rw[this] at hu
  rw[Array.getElem?_setIfInBounds_ne (fun e=>hi e.symm)]
  exact h i u hu
class Rnd where
 r:Option Nat
 ds:List Deferred
instance Rnd.base:Rnd:=⟨none,[]⟩
def FN[R:Rnd]:Fence:={ fn:=fun _=>True,depth:=none,alive:=false,round:=R.r }
variable [Rnd]
theorem G1{P:Program}{args:Array Value}{w:World}{R:Ending->World->Prop}(h:Calls P f args w R):CallsIn FN m P f args w R:=
 (callsIn_wide (n:=m)).2 h
theorem QY{P:Program}{args:Array Value}{w:World}{R:Ending->World->Prop}(h:CallsIn FN m P f args w R):Calls P f args w R:=
 (callsIn_wide (n:=m)).1 h
structure SS (n:Nat) (F:List Nat) (Nv:World) (env:List (Nat×Value)) (L:List Asrt) (a:Act) (w:World):Prop where
 defers:a.defers=Rnd.ds
 size:a.tmps.size=n
 ev:Ev env a.tmps
 hp:Hp F Nv w L
section
variable {n:Nat} {F:List Nat} {Nv:World} {env:List (Nat×Value)} {L:List Asrt} {a:Act} {w:World}
theorem SS.get(h:SS n F Nv env L a w){t:Nat}{v:Value}(hv:lk env t=some v):a.tmps.getD t undef=v:=by
 have:=h.ev t v hv
 simp[Array.getD_eq_getD_getElem?,this]
theorem SS.eval(h:SS n F Nv env L a w){x:Operand}{v:Value}(hv:eo env x=some v):a.eval x=v:=by
 cases x with
 | tmp t=>exact h.get hv
 | const c=>simpa [eo,Act.eval] using hv
 | global g=>simpa [eo,Act.eval] using hv
 | func f=>simpa [eo,Act.eval] using hv
theorem SS.put(h:SS n F Nv env L a w){d:Nat}(hd:Nat.blt d n=true)(v:Value){L':List Asrt}{w':World}(hp:Hp F Nv w' L'):
  SS n F Nv ((d,v)::env) L' (a.put (some d) v) w':=by
 have hd':d<a.tmps.size:=by rw[h.size];simpa [Nat.blt_eq] using hd
 exact⟨h.defers,by simp[Act.put,h.size],h.ev.put d v hd',hp⟩
theorem SS.world(h:SS n F Nv env L a w)(hp:Hp F Nv w' L'):SS n F Nv env L' a w':=⟨h.defers,h.size,h.ev,hp⟩
inductive Restr (env:List (Nat×Value)):List (Nat×Value)->Prop
 | nil:Restr env []
 | cons {i:Nat} {v:Value} {r:List (Nat×Value)} (h:lk env i=some v) (t:Restr env r):Restr env ((i,v)::r)
theorem Restr.lk{env env':List (Nat×Value)}(h:Restr env env'):∀ i v,lk env' i=some v->lk env i=some v:=by
 induction h with
 | nil=>intro i v h;cases h
 | @cons j u r h t ih=>
  intro i v hv
  simp only[Sep.lk] at hv
  by_cases hi:i=j
  ·subst hi;simp at hv;subst hv;exact h
  ·have:Nat.beq i j=false:=p7 hi
   rw[this] at hv
   exact ih i v hv
theorem SS.restr{env':List (Nat×Value)}(h:SS n F Nv env L a w)(hr:Restr env env'):SS n F Nv env' L a w:=
 ⟨h.defers,h.size,fun i v hv=>h.ev i v (hr.lk i v hv),h.hp⟩
theorem SS.drop{L' M:List Asrt}(h:SS n F Nv env L a w)(hs:Sel L L' M):SS n F Nv env L' a w:=⟨h.defers,h.size,h.ev,h.hp.sub hs⟩
end
def gd(env:List (Nat×Value))(eA:Array Oper)(o:Oper):Option Bool:=
 match o.guard with
 | none=>some true
 | some (j,b)=>match eA[j]? with
  | none=>none
  | some oj=>match oj.dst with
   | none=>none
   | some d=>match lk env d with
    | some (.bool c)=>some (bif b then c else !c)
    | some (.tuple _)=>some false
    | _=>none
theorem kE{env:List (Nat×Value)}{eA:Array Oper}{o:Oper}{r:Bool}{n:Nat}{F:List Nat}{Nv:World}{L:List Asrt}{a:Act}{w:World}(h:SS n F Nv env L a w)(hg:gd env eA o=some r):Region.wanted o (yielded eA a.tmps)=r:=by
 unfold gd at hg
 cases hgd:o.guard with
 | none=>rw[hgd] at hg;simp[Region.wanted,hgd] at hg ⊢;exact hg
 | some p=>
  obtain⟨j,b⟩:=p
  rw[hgd] at hg
  simp only at hg
  split at hg
  ·cases hg
  ·rename_i oj hj
   split at hg
   ·cases hg
   ·rename_i d hd
    split at hg
    ·rename_i c hc
     have:=h.ev d _ hc
     simp only[Region.wanted,hgd,yielded,hj,hd,this,Option.bind_some]
     cases b <;> cases c <;> simp_all
    ·rename_i vs hc
     have:=h.ev d _ hc
     simp only[Region.wanted,hgd,yielded,hj,hd,this,Option.bind_some]
     simp_all
    ·cases hg
def WL(P:Program)(n:Nat)(F:List Nat)(Nv:World)(eA:Array Oper)(Q:Exit->Act->World->Prop)(l:List Oper)(env:List (Nat×Value))(L:List Asrt):Prop:=∀ a w,SS n F Nv env L a w->wpListIn FN 0 P eA Q l a w
def WC(P:Program)(n:Nat)(F:List Nat)(Nv:World)(Q:Exit->Act->World->Prop)(c:Code)(env:List (Nat×Value))(L:List Asrt):Prop:=∀ a w,SS n F Nv env L a w->c.wpIn FN 0 P Q a w
def WX(n:Nat)(F:List Nat)(Nv:World)(Q:Exit->Act->World->Prop)(e:Exit)(env:List (Nat×Value))(L:List Asrt):Prop:=∀ a w,SS n F Nv env L a w->Q e a w
section
variable {P:Program} {n:Nat} {F:List Nat} {Nv:World} {eA:Array Oper} {Q:Exit->Act->World->Prop} {eZ:List Oper}
 {env:List (Nat×Value)} {L:List Asrt} {o:Oper}
theorem WL.nil(k:WX n F Nv Q .normal env L):WL P n F Nv eA Q [] env L:=k
theorem bE{P:Program}{ρ:Operand->Value}{o:Oper}{x:Next}{w:World}(ro:Option Nat)(h:(execOp ρ o).run P w = .ok x w')(hx:∀ d,x ≠ .defer d):
  (o.semAt ro ρ).run P w = .ok x w':=by
 by_cases hd:∃ c,o.op = .defer c
 ·obtain⟨c,hc⟩:=hd
  exfalso
  unfold execOp at h
  rw[hc] at h
  simp only[Sem.run_bind] at h
  cases hr:(resolve ρ c o.type).run P w with
  | ok y w1=>rw[hr] at h;simp[Result.andThen] at h;exact hx _ h.1.symm
  | halt y w1=>rw[hr] at h;simp[Result.andThen] at h
 ·rw[Oper.semAt_eq _ _ _ (fun c hc=>hd ⟨c,hc⟩)];exact h
theorem eF{a:Act}{w:World}{v:Value}(h:(execOp a.eval o).run P w = .ok (.value v) w')(k:K (a.put o.dst v) w'):o.wpIn FN 0 P a w K Q:=by
 refine⟨fun _ _=>trivial,?_⟩
 rw[bE _ h (fun d e=>by cases e)];exact k
theorem QZ{a:Act}{w:World}(h:(execOp a.eval o).run P w = .ok .skip w')(k:K (a.put o.dst undef) w'):o.wpIn FN 0 P a w K Q:=by
 refine⟨fun _ _=>trivial,?_⟩
 rw[bE _ h (fun d e=>by cases e)];exact k
theorem J0{a:Act}{w:World}{vs:Array Value}(h:(execOp a.eval o).run P w = .ok (.enter f vs) w')(k:Calls P f vs w' fun e sE=>∃ v,e = .returned v/\K (a.put o.dst v) sE):o.wpIn FN 0 P a w K Q:=by
 refine⟨fun _ _=>trivial,?_⟩
 rw[bE _ h (fun d e=>by cases e),Oper.uponIn_enter]
 refine⟨fun h=>by simp[FN] at h,(G1 k).mono ?_⟩
 rintro e sE ⟨v,rfl,hk⟩;exact hk
theorem ia{a:Act}{w:World}(hg:Region.wanted o (yielded eA a.tmps)=true)(h:o.wpIn FN 0 P a w (wpListIn FN 0 P eA Q eZ) Q):wpListIn FN 0 P eA Q (o::eZ) a w:=by
 unfold wpListIn
 rw[if_pos hg]
 exact h
theorem Oa{v:Value}{d:Nat}(hg:gd env eA o=some true)(hd:o.dst=some d)(lp:Nat.blt d n=true)(hq:∀ a w,SS n F Nv env L a w->(execOp a.eval o).run P w = .ok (.value v) w)(k:WL P n F Nv eA Q eZ ((d,v)::env) L):WL P n F Nv eA Q (o::eZ) env L:=by
 intro a w h
 refine ia (kE h hg) ?_
 refine eF (hq a w h) ?_
 rw[hd]
 exact k _ _ (h.put lp v h.hp)
theorem O2{G:Type}{φ:G->Prop}{val:G->Value}{L':G->List Asrt}{d:Nat}(hg:gd env eA o=some true)(hd:o.dst=some d)(lp:Nat.blt d n=true)(hq:∀ a w,SS n F Nv env L a w->∃ g w',(execOp a.eval o).run P w = .ok (.value (val g)) w'/\φ g/\Hp F Nv w' (L' g))(k:∀ g,φ g->WL P n F Nv eA Q eZ ((d,val g)::env) (L' g)):WL P n F Nv eA Q (o::eZ) env L:=by
 intro a w h
 refine ia (kE h hg) ?_
 obtain⟨g,w',hr,t8,hp⟩:=hq a w h
 refine eF hr ?_
 rw[hd]
 exact k g t8 _ _ (h.put lp _ hp)
def dE(P:Program)(o:Oper)(a:Act)(w w':World):Prop:=(execOp a.eval o).run P w = .ok .skip w'\/∃ v,(execOp a.eval o).run P w = .ok (.value v) w'
theorem Ln[hg:Nu (gd env eA o) (some true)][hd:Nu o.dst none](hq:∀ a w,SS n F Nv env L a w->∃ w',dE P o a w w'/\Hp F Nv w' L')(k:WL P n F Nv eA Q eZ env L'):WL P n F Nv eA Q (o::eZ) env L:=by
 intro a w h
 refine ia (kE h hg.1) ?_
 obtain⟨w',hr,hp⟩:=hq a w h
 rcases hr with hr | ⟨v,hr⟩
 ·refine QZ hr ?_;rw[hd.1];exact k a w' (h.world hp)
 ·refine eF hr ?_;rw[hd.1];exact k a w' (h.world hp)
theorem N8{G:Type}{φ:G->Prop}{val:G->Value}{M:G->List Asrt}{f:FuncId}{vs:Array Value}{Lc Lr:List Asrt}{d:Nat}(hg:gd env eA o=some true)(hd:o.dst=some d)(lp:Nat.blt d n=true)(iT:∀ a w,SS n F Nv env L a w->(execOp a.eval o).run P w = .ok (.enter f vs) w)(hs:Sel L Lc Lr)(hc:∀ w,Hp F Nv w L->Calls P f vs w fun e w'=>∃ g,e = .returned (val g)/\φ g/\Hp (Lc.flatMap (·.fp)) w w' (M g))(k:∀ g,φ g->WL P n F Nv eA Q eZ ((d,val g)::env) (M g++Lr)):WL P n F Nv eA Q (o::eZ) env L:=by
 intro a w h
 refine ia (kE h hg) ?_
 refine J0 (iT a w h) ((hc w h.hp).mono ?_)
 rintro e w' ⟨g,rfl,t8,hp⟩
 refine⟨_,rfl,?_⟩
 rw[hd]
 exact k g t8 _ _ (h.put lp _ (h.hp.call hs hp))
theorem WL.e{d:Nat}(hg:gd env eA o=some false)(hd:o.dst=some d)[lp:Nu (Nat.blt d n) true](k:WL P n F Nv eA Q eZ ((d,undef)::env) L):WL P n F Nv eA Q (o::eZ) env L:=by
 intro a w h
 unfold wpListIn
 rw[if_neg (by rw[kE h hg];simp),hd]
 exact⟨fun _ _=>trivial,k _ _ (h.put lp.1 undef h.hp)⟩
theorem WL.restr{env':List (Nat×Value)}{l:List Oper}(hr:Restr env env')(k:WL P n F Nv eA Q l env' L):WL P n F Nv eA Q l env L:=
 fun a w h=>k a w (h.restr hr)
theorem WL.drop{L' M:List Asrt}{l:List Oper}(hs:Sel L L' M)(k:WL P n F Nv eA Q l env L'):WL P n F Nv eA Q l env L:=
 fun a w h=>k a w (h.drop hs)
theorem WC.restr{env':List (Nat×Value)}{c:Code}(hr:Restr env env')(k:WC P n F Nv Q c env' L):WC P n F Nv Q c env L:=
 fun a w h=>k a w (h.restr hr)
theorem WC.drop{L' M:List Asrt}{c:Code}(hs:Sel L L' M)(k:WC P n F Nv Q c env L'):WC P n F Nv Q c env L:=
 fun a w h=>k a w (h.drop hs)
theorem Ld{id:Nat}{l:List Oper}(k:WL P n F Nv l.toArray Q l env L):WC P n F Nv Q (.region id l.toArray false) env L:=
 fun a w h=>wpIn_region_lit (k a w h)
theorem WC.b{x:Code}(k:WC P n F Nv (Exit.then (fun a w=>y.wpIn FN 0 P Q a w) Q) x env L):WC P n F Nv Q (.seq x y) env L:=
 fun a w h=>wpIn_seq (k a w h)
theorem Lb(k:WC P n F Nv Q y env L):WX n F Nv (Exit.then (fun a w=>y.wpIn FN 0 P Q a w) Q) .normal env L:=k
theorem Lo(k:WX n F Nv Q (.exit i) env L):WX n F Nv (Exit.then K Q) (.exit i) env L:=k
theorem Ll(k:WX n F Nv Q .ret env L):WX n F Nv (Exit.then K Q) .ret env L:=k
theorem N0(k:WX n F Nv Q .normal env L):WC P n F Nv Q .skip env L:=fun a w h=>wpIn_skip (k a w h)
theorem Nn(k:WC P n F Nv Q y env L):WC P n F Nv (Exit.then (fun a w=>y.wpIn FN 0 P Q a w) Q) .skip env L:=N0 (Lb k)
theorem Nw(k:WX n F Nv Q .ret env L):WC P n F Nv Q .ret env L:=fun a w h=>wpIn_ret (k a w h)
theorem Nz{i:Nat}(k:WX n F Nv Q (.exit i) env L):WC P n F Nv Q (.exit i) env L:=fun a w h=>wpIn_exit (k a w h)
theorem WC.block{i:Nat}{c:Code}(k:WC P n F Nv (Exit.inBlock i Q) c env L):WC P n F Nv Q (.block i c) env L:=fun a w h=>wpIn_block (k a w h)
theorem Lt(k:WX n F Nv Q .normal env L):WX n F Nv (Exit.inBlock i Q) .normal env L:=k
theorem Ly(k:WX n F Nv Q .ret env L):WX n F Nv (Exit.inBlock i Q) .ret env L:=k
theorem Lv(k:WX n F Nv Q .normal env L):WX n F Nv (Exit.inBlock i Q) (.exit i) env L:=by
 intro a w h;simp only[Exit.inBlock,if_true];exact k a w h
theorem Oi{j:Nat}(hij:Nat.beq j i=false)(k:WX n F Nv Q (.exit j) env L):WX n F Nv (Exit.inBlock i Q) (.exit j) env L:=by
 intro a w h
 have:j≠i:=by intro e;subst e;simp at hij
 simp only[Exit.inBlock,this,if_false];exact k a w h
theorem WC.cond{c:Operand}{x y:Code}{b:Bool}(hc:eo env c=some (.bool b))(ht:b=true->WC P n F Nv Q x env L)(hf:b=false->WC P n F Nv Q y env L):
  WC P n F Nv Q (.cond c x y) env L:=by
 intro a w h
 refine wpIn_cond_split (h.eval hc) (fun e=>ht e a w h) (fun e=>hf e a w h)
theorem Bg{G:Type}(φ:G->Prop)(iA:G->List (Nat×Value))(LI:G->List Asrt){x:Code}(k1:WC P n F Nv (Exit.then (fun a w=>∃ g,φ g/\SS n F Nv (iA g) (LI g) a w) Q) x env L)(k2:∀ g,φ g->WC P n F Nv Q y (iA g) (LI g)):WC P n F Nv Q (.seq x y) env L:=by
 intro a w h
 refine wpIn_seq (Go.wpIn_mono (k1 a w h) ?_)
 intro e a' w' hq
 cases e with
 | normal=>obtain⟨g,t8,hs⟩:=hq;exact k2 g t8 a' w' hs
 | _=>exact hq
theorem Lp{G:Type}{φ:G->Prop}{iA:G->List (Nat×Value)}{LI:G->List Asrt}(g:G)(t8:φ g)(hr:Restr env (iA g))(hL:Sel L (LI g) M):
  WX n F Nv (Exit.then (fun a w=>∃ g,φ g/\SS n F Nv (iA g) (LI g) a w) Q) .normal env L:=
 fun _ _ h=>⟨g,t8,(h.restr hr).drop hL⟩
theorem H5{G:Type}(φ:G->Prop)(iA:G->List (Nat×Value))(LI:G->List Asrt)(μ:G->Nat){c:Code}(nV:G)(h0:φ nV)(hr:Restr env (iA nV)){M:List Asrt}(hL:Sel L (LI nV) M)(round:∀ g,φ g->WC P n F Nv (Exit.then (fun a w=>∃ g',(φ g'/\μ g'<μ g)/\SS n F Nv (iA g') (LI g') a w) Q) c (iA g) (LI g)):
  WC P n F Nv Q (.loop c) env L:=by
 intro a w h b k cs D3 hb zj
 have key:∀ m g,μ g=m->φ g->∀ a w,SS n F Nv (iA g) (LI g) a w->
   ∃ e a' w',Q e a' w'/\ArrivesIn (Machine.fenced P FN) P (lone (b.atR a (.code c :: .inLoop c::k)) cs w) b k cs e a' w':=by
  intro m
  induction m using Nat.strongRecOn with
  | _ m ih=>
   intro g hm t8 a w h
   obtain⟨e,sY,sZ,hq,sV⟩:=round g t8 a w h b (.inLoop c::k) cs D3 hb zj
   cases e with
   | normal=>
    obtain⟨g',⟨De,nU⟩,hs⟩:=hq
    obtain⟨Df,Dg,Bb,Bw,zP⟩:=ih (μ g') (hm▸nU) g' rfl De sY sZ hs
    exact⟨Df,Dg,Bb,Bw,.of_steps (StepsIn.trans sV (.one (fenced_calm hb zj rfl) stepR_inLoop)) zP⟩
   | exit id=>exact⟨_,sY,sZ,hq,.pass (x := .inLoop c) rfl (fun _ _ => .inl (by simp)) sV⟩
   | goto l=>exact⟨_,sY,sZ,hq,.pass (x := .inLoop c) rfl (fun _ _ => .inl (by simp)) sV⟩
   | ret=>exact⟨_,sY,sZ,hq,.pass (x := .inLoop c) rfl (fun _ _ => .inl (by simp)) sV⟩
   | panic ch=>exact⟨_,sY,sZ,hq,.pass (x := .inLoop c) rfl (fun _ _ => .inl (by simp)) sV⟩
   | outgrown=>exact⟨_,sY,sZ,hq,.pass (x := .inLoop c) rfl (fun _ _ => .inl (by simp)) sV⟩
 obtain⟨e,a',w',hq,sV⟩:=key _ nV rfl h0 a w ((h.restr hr).drop hL)
 exact⟨e,a',w',hq,.of_steps (.one (fenced_calm hb zj rfl) stepR_loop) sV⟩
theorem Nx{G:Type}{φ:G->Prop}{iA:G->List (Nat×Value)}{LI:G->List Asrt}{μ:G->Nat}(g:G)(t8:φ g)(hμ:μ g<m)(hr:Restr env (iA g))(hL:Sel L (LI g) M):
  WX n F Nv (Exit.then (fun a w=>∃ g',(φ g'/\μ g'<m)/\SS n F Nv (iA g') (LI g') a w) Q) .normal env L:=
 fun _ _ h=>⟨g,⟨t8,hμ⟩,(h.restr hr).drop hL⟩
end
theorem oJ{α:Type _}{a b:α}(h:some a=some b):a=b:=Option.some.inj h
theorem oB{α:Type _}{β:Type _}(a:α)(f:α->Option β):(some a).bind f=f a:=rfl
abbrev vi (n:Int):Value:=.int .i64 n
abbrev vp (b:Nat):Value:=.pointer (some ⟨b, 0, none⟩)
abbrev vq (a:Addr):Value:=.pointer (some a)
abbrev vn:Value:=.slice none 0 0
theorem U {α : Sort _} {a : α} : a = a := rfl
def bz (a b:Nat):Array Bool:=(List.replicate a true ++ List.replicate b false).toArray
def dn:Nat -> List Nat
  | 0 => []
  | n + 1 => n :: dn n
abbrev vI:Int -> Value:=.int .i64
abbrev nc (i:Nat):Bool:=[].contains i
abbrev ga {α:Type} (E:α -> List Value) (x:α):Value:=.agg (E x).toArray
abbrev rq {α:Type} (E:α -> List Value) (r:List Value) (x:α):Prop:=r = E x
abbrev vs (a:Option Addr) (n k:Nat):Value:=.slice a n k
abbrev cu2{A B R:Type _}(f:A->B->R)(g:A×B):R:=f g.1 g.2
abbrev cu3{A0 A1 A2 R:Type _}(f:A0->A1->A2->R)(g:A0×A1×A2):R:=cu2 (f g.1) g.2
abbrev cu4{A0 A1 A2 A3 R:Type _}(f:A0->A1->A2->A3->R)(g:A0×A1×A2×A3):R:=cu3 (f g.1) g.2
abbrev cu5{A0 A1 A2 A3 A4 R:Type _}(f:A0->A1->A2->A3->A4->R)(g:A0×A1×A2×A3×A4):R:=cu4 (f g.1) g.2
abbrev cu6{A0 A1 A2 A3 A4 A5 R:Type _}(f:A0->A1->A2->A3->A4->A5->R)(g:A0×A1×A2×A3×A4×A5):R:=cu5 (f g.1) g.2
abbrev cu7{A0 A1 A2 A3 A4 A5 A6 R:Type _}(f:A0->A1->A2->A3->A4->A5->A6->R)(g:A0×A1×A2×A3×A4×A5×A6):R:=cu6 (f g.1) g.2
abbrev cu8{A0 A1 A2 A3 A4 A5 A6 A7 R:Type _}(f:A0->A1->A2->A3->A4->A5->A6->A7->R)(g:A0×A1×A2×A3×A4×A5×A6×A7):R:=cu7 (f g.1) g.2
abbrev cu9{A0 A1 A2 A3 A4 A5 A6 A7 A8 R:Type _}(f:A0->A1->A2->A3->A4->A5->A6->A7->A8->R)(g:A0×A1×A2×A3×A4×A5×A6×A7×A8):R:=cu8 (f g.1) g.2
abbrev cu10{A0 A1 A2 A3 A4 A5 A6 A7 A8 A9 R:Type _}(f:A0->A1->A2->A3->A4->A5->A6->A7->A8->A9->R)(g:A0×A1×A2×A3×A4×A5×A6×A7×A8×A9):R:=cu9 (f g.1) g.2
abbrev cu11{A0 A1 A2 A3 A4 A5 A6 A7 A8 A9 oL R:Type _}(f:A0->A1->A2->A3->A4->A5->A6->A7->A8->A9->oL->R)(g:A0×A1×A2×A3×A4×A5×A6×A7×A8×A9×oL):R:=cu10 (f g.1) g.2
abbrev cu12{A0 A1 A2 A3 A4 A5 A6 A7 A8 A9 oL sk R:Type _}(f:A0->A1->A2->A3->A4->A5->A6->A7->A8->A9->oL->sk->R)(g:A0×A1×A2×A3×A4×A5×A6×A7×A8×A9×oL×sk):R:=cu11 (f g.1) g.2
abbrev cu13{A0 A1 A2 A3 A4 A5 A6 A7 A8 A9 oL sk vg R:Type _}(f:A0->A1->A2->A3->A4->A5->A6->A7->A8->A9->oL->sk->vg->R)(g:A0×A1×A2×A3×A4×A5×A6×A7×A8×A9×oL×sk×vg):R:=cu12 (f g.1) g.2
abbrev cu14{A0 A1 A2 A3 A4 A5 A6 A7 A8 A9 oL sk vg wL R:Type _}(f:A0->A1->A2->A3->A4->A5->A6->A7->A8->A9->oL->sk->vg->wL->R)(g:A0×A1×A2×A3×A4×A5×A6×A7×A8×A9×oL×sk×vg×wL):R:=cu13 (f g.1) g.2
abbrev cu15{A0 A1 A2 A3 A4 A5 A6 A7 A8 A9 oL sk vg wL zd R:Type _}(f:A0->A1->A2->A3->A4->A5->A6->A7->A8->A9->oL->sk->vg->wL->zd->R)(g:A0×A1×A2×A3×A4×A5×A6×A7×A8×A9×oL×sk×vg×wL×zd):R:=cu14 (f g.1) g.2
abbrev cu16{A0 A1 A2 A3 A4 A5 A6 A7 A8 A9 oL sk vg wL zd zo R:Type _}(f:A0->A1->A2->A3->A4->A5->A6->A7->A8->A9->oL->sk->vg->wL->zd->zo->R)(g:A0×A1×A2×A3×A4×A5×A6×A7×A8×A9×oL×sk×vg×wL×zd×zo):R:=cu15 (f g.1) g.2
abbrev cu17{A0 A1 A2 A3 A4 A5 A6 A7 A8 A9 oL sk vg wL zd zo zH R:Type _}(f:A0->A1->A2->A3->A4->A5->A6->A7->A8->A9->oL->sk->vg->wL->zd->zo->zH->R)(g:A0×A1×A2×A3×A4×A5×A6×A7×A8×A9×oL×sk×vg×wL×zd×zo×zH):R:=cu16 (f g.1) g.2
abbrev cu18{A0 A1 A2 A3 A4 A5 A6 A7 A8 A9 oL sk vg wL zd zo zH zQ R:Type _}(f:A0->A1->A2->A3->A4->A5->A6->A7->A8->A9->oL->sk->vg->wL->zd->zo->zH->zQ->R)(g:A0×A1×A2×A3×A4×A5×A6×A7×A8×A9×oL×sk×vg×wL×zd×zo×zH×zQ):R:=cu17 (f g.1) g.2
abbrev cu19{A0 A1 A2 A3 A4 A5 A6 A7 A8 A9 oL sk vg wL zd zo zH zQ Ax R:Type _}(f:A0->A1->A2->A3->A4->A5->A6->A7->A8->A9->oL->sk->vg->wL->zd->zo->zH->zQ->Ax->R)(g:A0×A1×A2×A3×A4×A5×A6×A7×A8×A9×oL×sk×vg×wL×zd×zo×zH×zQ×Ax):R:=cu18 (f g.1) g.2
abbrev cu20{A0 A1 A2 A3 A4 A5 A6 A7 A8 A9 oL sk vg wL zd zo zH zQ Ax Bc R:Type _}(f:A0->A1->A2->A3->A4->A5->A6->A7->A8->A9->oL->sk->vg->wL->zd->zo->zH->zQ->Ax->Bc->R)(g:A0×A1×A2×A3×A4×A5×A6×A7×A8×A9×oL×sk×vg×wL×zd×zo×zH×zQ×Ax×Bc):R:=cu19 (f g.1) g.2
abbrev cu21{A0 A1 A2 A3 A4 A5 A6 A7 A8 A9 oL sk vg wL zd zo zH zQ Ax Bc B0 R:Type _}(f:A0->A1->A2->A3->A4->A5->A6->A7->A8->A9->oL->sk->vg->wL->zd->zo->zH->zQ->Ax->Bc->B0->R)(g:A0×A1×A2×A3×A4×A5×A6×A7×A8×A9×oL×sk×vg×wL×zd×zo×zH×zQ×Ax×Bc×B0):R:=cu20 (f g.1) g.2
abbrev cu22{A0 A1 A2 A3 A4 A5 A6 A7 A8 A9 oL sk vg wL zd zo zH zQ Ax Bc B0 Dh R:Type _}(f:A0->A1->A2->A3->A4->A5->A6->A7->A8->A9->oL->sk->vg->wL->zd->zo->zH->zQ->Ax->Bc->B0->Dh->R)(g:A0×A1×A2×A3×A4×A5×A6×A7×A8×A9×oL×sk×vg×wL×zd×zo×zH×zQ×Ax×Bc×B0×Dh):R:=cu21 (f g.1) g.2
end
section
variable {i j:Nat}{v:Value}{oi oj:Oper}{w:World}{K:Act->World->Prop}{M L':List Asrt}
variable [Rnd]
def Oper.qc(P:Program)(o:Oper)(a:Act)(next:Act->World->Prop):Result Next->Prop
 | .ok (.value v) w'=>next (a.put o.dst v) w'
 | .ok .skip w'=>next (a.put o.dst undef) w'
 | .ok (.enter f args) w'=>Calls P f args w' fun e sE=>∃ v,e = .returned v/\next (a.put o.dst v) sE
 | _=>False
def opN(P:Program)(eA:Array Oper)(i:Nat)(K:Act->World->Prop)(a:Act)(w:World):Prop:=
 match eA[i]? with
 | none=>K a w
 | some o=>if Region.wanted o (yielded eA a.tmps) then Oper.qc P o a K ((execOp a.eval o).run P w) else K (a.put o.dst undef) w
theorem Oper.XW{P:Program}{o:Oper}{a:Act}{K':Act->World->Prop}(h:∀ a w,K a w->K' a w){r:Result Next}(hh:Oper.qc P o a K r):Oper.qc P o a K' r:=by
 cases r with
 | ok x w'=>
  cases x <;> simp only[Oper.qc] at hh ⊢ <;> first
   | exact h _ _ hh
   | exact hh.mono fun e sE ⟨v,he,hk⟩=>⟨v,he,h _ _ hk⟩
 | halt x w'=>exact hh
theorem KE{P:Program}{eA:Array Oper}{Q:Exit->Act->World->Prop}{a:Act}(h:opN P eA i K a w):wpOpIn FN 0 P eA Q i K a w:=by
 unfold opN at h
 unfold wpOpIn
 cases ho:eA[i]? with
 | none=>simpa [ho] using h
 | some o=>
  simp only[ho] at h ⊢
  split
  ·rename_i hw
   simp only[hw,if_true] at h
   generalize hr:(execOp a.eval o).run P w=r at h
   cases r with
   | ok x w'=>
    cases x <;> simp only[Oper.qc] at h <;> first
     | exact eF hr h
     | exact QZ hr h
     | exact J0 hr h
   | halt x w'=>simp only[Oper.qc] at h
  ·rename_i hw
   simp only[hw] at h
   exact⟨fun _ _=>trivial,h⟩
theorem eG{P:Program}{eA:Array Oper}{K':Act->World->Prop}{a:Act}(h:∀ a w,K a w->K' a w)(hh:opN P eA i K a w):opN P eA i K' a w:=by
 unfold opN at hh ⊢
 cases ho:eA[i]? with
 | none=>simp only[ho] at hh ⊢;exact h _ _ hh
 | some o=>
  simp only[ho] at hh ⊢
  split
  ·rename_i hw;simp only[hw,if_true] at hh;exact Oper.XW h hh
  ·rename_i hw;simp only[hw] at hh;exact h _ _ hh
def mE(eA:Array Oper)(i:Nat):Array Bool:=
 eA.foldl (init := #[]) fun jb o=>jb.push (o.after.any fun e=>Region.binds .any e&&(Nat.beq e.on i||jb.getD e.on false))
def Xd(eA:Array Oper)(j:Nat):Bool:=(List.range eA.size).all fun k=>Nat.beq k j||(mE eA k).getD j false
theorem FH{eA:Array Oper}(hi:eA[i]?=some oi)(h:Xd eA j=true)(tW:j≠i):(mE eA i).getD j false=true:=by
 unfold Xd at h
 simp only[List.all_eq_true,List.mem_range,Bool.or_eq_true] at h
 obtain⟨nU,_⟩:=Array.getElem?_eq_some_iff.1 hi
 rcases h i nU with h | h
 ·exact absurd (Nat.eq_of_beq_eq_true h).symm tW
 ·exact h
def uk(P:Program)(eA:Array Oper)(tl:Nat->Bool)(St:World->Prop)(Q:Act->World->Prop):Nat->Array Bool->Act->World->Prop
 | 0,listed,a,w=>∀ w',Ext w w'->Region.ready .any eA listed=[]/\Q a w'
 | fuel+1,listed,a,w=>∀ w',Ext w w'->(Region.ready .any eA listed=[]->Q a w')/\
   ∀ i∈Region.ready .any eA listed,opN P eA i (fun a' sE=>((tl i=false->Ext w' sE)/\(Xd eA i=false->St w'->St sE))/\uk P eA tl St Q fuel (listed.setIfInBounds i true) a' sE) a w'
section
variable {P:Program} {eA:Array Oper} {tl:Nat->Bool} {St:World->Prop} {Q:Act->World->Prop}
theorem uk.up:∀ {fuel:Nat} {listed:Array Bool} {a:Act} {w w':World},uk P eA tl St Q fuel listed a w->Ext w w'->uk P eA tl St Q fuel listed a w'
 | 0,_,_,_,_,h,e=>fun _ e'=>h _ (e.trans e')
 | _+1,_,_,_,_,h,e=>fun _ e'=>h _ (e.trans e')
theorem uk.nX{Q':Exit->Act->World->Prop}(hQ:∀ a w,Q a w->Q' .normal a w):∀ {fuel:Nat} {listed:Array Bool} {a:Act} {w:World},uk P eA tl St Q fuel listed a w->wpAnyIn FN 0 P .any eA Q' fuel listed a w
 | 0,_,_,w,h=>let ⟨h1,h2⟩:=h w (.refl w);⟨h1,hQ _ _ h2⟩
 | _+1,_,_,w,h=>let ⟨h1,h2⟩:=h w (.refl w)
  ⟨fun e=>hQ _ _ (h1 e),fun i hi=>KE (eG (fun _ _ hk=>uk.nX hQ hk.2) (h2 i hi))⟩
def J1(P:Program)(w:World)(v:Value):Result Next->Prop
 | .ok (.value u) w'=>Ext w w'/\u=v
 | .ok (.enter f args) w'=>Ext w w'/\Calls P f args w' fun e sE=>e = .returned v/\Ext w' sE
 | _=>False
def YE(P:Program)(eA:Array Oper)(o:Oper)(v:Value)(a:Act)(w:World):Prop:=
 (Region.wanted o (yielded eA a.tmps)=true/\∀ w',Ext w w'->J1 P w' v ((execOp a.eval o).run P w')) \/
 (Region.wanted o (yielded eA a.tmps)=false/\v=undef)
theorem YE.up{o:Oper}{a:Act}{w':World}(h:YE P eA o v a w)(e:Ext w w'):YE P eA o v a w':=
 h.imp (fun h=>⟨h.1,fun sE e'=>h.2 sE (e.trans e')⟩) id
theorem YE.same{o:Oper}{a a':Act}(hy:YE P eA o v a w)(he:execOp a'.eval o=execOp a.eval o)(hw:Region.wanted o (yielded eA a'.tmps)=Region.wanted o (yielded eA a.tmps)):YE P eA o v a' w:=by
 unfold YE at *
 rw[he,hw]
 exact hy
theorem YE.opN{i:Nat}{o:Oper}{v:Value}{a:Act}{w:World}(hi:eA[i]?=some o)(hy:YE P eA o v a w){K:Act->World->Prop}(h:∀ w',Ext w w'->K (a.put o.dst v) w'):opN P eA i K a w:=by
 unfold Sep.opN
 simp only[hi]
 rcases hy with⟨hw,hv⟩ | ⟨hw,rfl⟩
 ·simp only[hw,if_true]
  have:=hv w (.refl w)
  generalize (execOp a.eval o).run P w=r at this
  cases r with
  | ok x w'=>
   cases x <;> simp only[J1] at this <;> simp only[Oper.qc]
   case value u=>obtain⟨e,rfl⟩:=this;exact h _ e
   case enter f args=>
    obtain⟨e,hc⟩:=this
    exact hc.mono fun e' sE ⟨he,hx⟩=>⟨v,he,h _ (e.trans hx)⟩
  | halt x w'=>simp only[J1] at this
 ·simp only[hw,Bool.false_eq_true,if_false]
  exact h _ (.refl _)
theorem Tg(hj:eA[j]?=some oj)(Bx:oi.apart eA oj=true)(CC:∀ cs b,oi.op ≠ .select cs b)(Ei:∀ cs b,oj.op ≠ .select cs b){a:Act}(hy:YE P eA oi v a w)(h:opN P eA j K (a.put oi.dst v) w):
  opN P eA j (fun a' w'=>YE P eA oi v a' w/\K (a'.put oi.dst v) w') a w:=by
 obtain⟨h1,h2,h3⟩:=Oper.apart_spec Bx
 have keep:∀ u,YE P eA oi v (a.put oj.dst u) w:=fun u=>
  hy.same (execOp_put oi CC a oj.dst u h3) (wanted_put oi a oj.dst u h3)
 unfold opN at *
 simp only[hj] at *
 rw[wanted_put oj a oi.dst v h1,execOp_put oj Ei a oi.dst v h1] at h
 split
 ·rename_i hw
  simp only[hw,if_true] at h
  generalize (execOp a.eval oj).run P w=r at h ⊢
  cases r with
  | ok x w'=>
   cases x <;> simp only[Oper.qc] at h ⊢
   case value u=>exact⟨keep u,by rw[<- Act.put_comm a v u h2];exact h⟩
   case skip=>exact⟨keep _,by rw[<- Act.put_comm a v undef h2];exact h⟩
   case enter f args=>exact h.mono fun e sE ⟨u,he,hk⟩=>⟨u,he,keep u,by rw[<- Act.put_comm a v u h2];exact hk⟩
  | halt x w'=>simp only[Oper.qc] at h
 ·rename_i hw
  simp only[hw] at h
  exact⟨keep _,by rw[<- Act.put_comm a v undef h2];exact h⟩
theorem U0(hj:eA[j]?=some oj)(Bx:oi.apart eA oj=true)(CC:∀ cs b,oi.op ≠ .select cs b)(Ei:∀ cs b,oj.op ≠ .select cs b){a:Act}(hy:∀ w',YE P eA oi v a w')(h:opN P eA j K (a.put oi.dst v) w):
  opN P eA j (fun a' w'=>(∀ w',YE P eA oi v a' w')/\K (a'.put oi.dst v) w') a w:=by
 obtain⟨h1,h2,h3⟩:=Oper.apart_spec Bx
 have keep:∀ u,∀ w',YE P eA oi v (a.put oj.dst u) w':=fun u w'=>
  (hy w').same (execOp_put oi CC a oj.dst u h3) (wanted_put oi a oj.dst u h3)
 unfold opN at *
 simp only[hj] at *
 rw[wanted_put oj a oi.dst v h1,execOp_put oj Ei a oi.dst v h1] at h
 split
 ·rename_i hw
  simp only[hw,if_true] at h
  generalize (execOp a.eval oj).run P w=r at h ⊢
  cases r with
  | ok x w'=>
   cases x <;> simp only[Oper.qc] at h ⊢
   case value u=>exact⟨keep u,by rw[<- Act.put_comm a v u h2];exact h⟩
   case skip=>exact⟨keep _,by rw[<- Act.put_comm a v undef h2];exact h⟩
   case enter f args=>exact h.mono fun e sE ⟨u,he,hk⟩=>⟨u,he,keep u,by rw[<- Act.put_comm a v u h2];exact hk⟩
  | halt x w'=>simp only[Oper.qc] at h
 ·rename_i hw
  simp only[hw] at h
  exact⟨keep _,by rw[<- Act.put_comm a v undef h2];exact h⟩
theorem U3(hj:eA[j]?=some oj)(Bx:oi.apart eA oj=true)(CC:∀ cs b,oi.op ≠ .select cs b)(Ei:∀ cs b,oj.op ≠ .select cs b){a:Act}(n4:St w)(hy:∀ w',St w'->YE P eA oi v a w')(h:opN P eA j K (a.put oi.dst v) w):
  opN P eA j (fun a' w'=>(∀ w',St w'->YE P eA oi v a' w')/\K (a'.put oi.dst v) w') a w:=by
 obtain⟨h1,h2,h3⟩:=Oper.apart_spec Bx
 have keep:∀ u,∀ w',St w'->YE P eA oi v (a.put oj.dst u) w':=fun u w' hs=>
  (hy w' hs).same (execOp_put oi CC a oj.dst u h3) (wanted_put oi a oj.dst u h3)
 unfold opN at *
 simp only[hj] at *
 rw[wanted_put oj a oi.dst v h1,execOp_put oj Ei a oi.dst v h1] at h
 split
 ·rename_i hw
  simp only[hw,if_true] at h
  generalize (execOp a.eval oj).run P w=r at h ⊢
  cases r with
  | ok x w'=>
   cases x <;> simp only[Oper.qc] at h ⊢
   case value u=>exact⟨keep u,by rw[<- Act.put_comm a v u h2];exact h⟩
   case skip=>exact⟨keep _,by rw[<- Act.put_comm a v undef h2];exact h⟩
   case enter f args=>exact h.mono fun e sE ⟨u,he,hk⟩=>⟨u,he,keep u,by rw[<- Act.put_comm a v u h2];exact hk⟩
  | halt x w'=>simp only[Oper.qc] at h
 ·rename_i hw
  simp only[hw] at h
  exact⟨keep _,by rw[<- Act.put_comm a v undef h2];exact h⟩
theorem nY{B:Nat->Bool}(Ay:∀ w w',Ext w w'->St w->St w')(hi:eA[i]?=some oi)(Ai:∀(j:Nat) (o:Oper) cs b,eA[j]?=some o->o.op ≠ .select cs b)(hB:∀ j oj,eA[j]?=some oj->B j=true->∃ e∈oj.after,Region.binds .any e=true/\(e.on=i\/B e.on=true)):
  ∀(fuel:Nat) (listed:Array Bool) (a:Act) (w:World),
   (∀ j,B j=true->listed.getD j true=false)->
   (∀ j oj,eA[j]?=some oj->j≠i->listed.getD j true=false->B j=false->oi.apart eA oj=true/\tl j=false)->
   i∈Region.ready .any eA listed->YE P eA oi v a w->
   uk P eA tl St Q fuel (listed.setIfInBounds i true) (a.put oi.dst v) w->uk P eA tl St Q (fuel+1) listed a w:=by
 intro fuel
 induction fuel with
 | zero=>
  intro listed a w _ _ hr hy H w' qA
  refine⟨fun h=>(by rw[h] at hr;cases hr),fun j hj=>?_⟩
  by_cases tW:j=i
  ·subst tW
   by_cases ht:tl j=false
   ·exact(hy.up qA).opN hi fun sE e=>⟨⟨fun _=>e,fun _=>Ay _ _ e⟩,H.up (qA.trans e)⟩
   ·exact(hy.up qA).opN hi fun sE e=>⟨⟨fun h=>absurd h ht,fun _=>Ay _ _ e⟩,H.up (qA.trans e)⟩
  ·have:=ready_mono hj tW
   rw[(H w' qA).1] at this
   cases this
 | succ fuel ih=>
  intro listed a w CE t7 hr hy H w' qA
  refine⟨fun h=>(by rw[h] at hr;cases hr),fun j hj=>?_⟩
  by_cases tW:j=i
  ·subst tW;exact(hy.up qA).opN hi fun sE e=>⟨⟨fun _=>e,fun _=>Ay _ _ e⟩,H.up (qA.trans e)⟩
  ·have h1:=(H w' qA).2 j (ready_mono hj tW)
   obtain⟨Aj,oj,AR,zq⟩:=mem_ready.1 hj
   have xD:∀ k,listed.getD k true=false->listed.getD k false=true->False:=fun k h0 h1=>by
    rcases Nat.lt_or_ge k listed.size with h' | h'
    ·simp[h'] at h0 h1;rw[h0] at h1;cases h1
    ·simp[Array.getElem?_eq_none h'] at h1
   have zK:B j=false:=by
    cases hbj:B j with
    | false=>rfl
    | true=>
     obtain⟨e,he,hb,hon⟩:=hB j oj AR hbj
     have h1:=zq e he hb
     rcases hon with hon | hon
     ·rw[hon] at h1;exact(xD i (mem_ready.1 hr).1 h1).elim
     ·exact(xD e.on (CE _ hon) h1).elim
   obtain⟨Bx,Ej⟩:=t7 j oj AR tW Aj zK
   have h2:=Tg AR Bx (fun cs b=>Ai i oi cs b hi) (fun cs b=>Ai j oj cs b AR) (hy.up qA) h1
   have By:∀ k,B k=true->(listed.setIfInBounds j true).getD k true=false:=fun k hk=>by
    have AS:j≠k:=fun e=>by rw[<- e,zK] at hk;cases hk
    rw[getD_set_ne true AS];exact CE k hk
   have zz:∀ k ok,eA[k]?=some ok->k≠i->(listed.setIfInBounds j true).getD k true=false->
     B k=false->oi.apart eA ok=true/\tl k=false:=fun k ok hk Ek B3 w5=>by
    refine t7 k ok hk Ek ?_ w5
    by_cases AS:j=k
    ·subst AS;exact Aj
    ·rw[getD_set_ne true AS] at B3;exact B3
   refine eG (fun a' sE h3=>⟨h3.2.1,?_⟩) h2
   refine ih (listed.setIfInBounds j true) a' sE By zz (ready_mono hr (Ne.symm tW)) (h3.1.up (h3.2.1.1 Ej)) ?_
   rw[Array.setIfInBounds_comm _ _ tW]
   exact h3.2.2
theorem nH{B:Nat->Bool}(Ay:∀ w w',Ext w w'->St w->St w')(hi:eA[i]?=some oi)(Ai:∀(j:Nat) (o:Oper) cs b,eA[j]?=some o->o.op ≠ .select cs b)(hB:∀ j oj,eA[j]?=some oj->B j=true->∃ e∈oj.after,Region.binds .any e=true/\(e.on=i\/B e.on=true)):
  ∀(fuel:Nat) (listed:Array Bool) (a:Act) (w:World),
   (∀ j,B j=true->listed.getD j true=false)->
   (∀ j oj,eA[j]?=some oj->j≠i->listed.getD j true=false->B j=false->oi.apart eA oj=true)->
   i∈Region.ready .any eA listed->(∀ w',YE P eA oi v a w')->
   uk P eA tl St Q fuel (listed.setIfInBounds i true) (a.put oi.dst v) w->uk P eA tl St Q (fuel+1) listed a w:=by
 intro fuel
 induction fuel with
 | zero=>
  intro listed a w _ _ hr hy H w' qA
  refine⟨fun h=>(by rw[h] at hr;cases hr),fun j hj=>?_⟩
  by_cases tW:j=i
  ·subst tW
   by_cases ht:tl j=false
   ·exact(hy w').opN hi fun sE e=>⟨⟨fun _=>e,fun _=>Ay _ _ e⟩,H.up (qA.trans e)⟩
   ·exact(hy w').opN hi fun sE e=>⟨⟨fun h=>absurd h ht,fun _=>Ay _ _ e⟩,H.up (qA.trans e)⟩
  ·have:=ready_mono hj tW
   rw[(H w' qA).1] at this
   cases this
 | succ fuel ih=>
  intro listed a w CE t7 hr hy H w' qA
  refine⟨fun h=>(by rw[h] at hr;cases hr),fun j hj=>?_⟩
  by_cases tW:j=i
  ·subst tW;exact(hy w').opN hi fun sE e=>⟨⟨fun _=>e,fun _=>Ay _ _ e⟩,H.up (qA.trans e)⟩
  ·have h1:=(H w' qA).2 j (ready_mono hj tW)
   obtain⟨Aj,oj,AR,zq⟩:=mem_ready.1 hj
   have xD:∀ k,listed.getD k true=false->listed.getD k false=true->False:=fun k h0 h1=>by
    rcases Nat.lt_or_ge k listed.size with h' | h'
    ·simp[h'] at h0 h1;rw[h0] at h1;cases h1
    ·simp[Array.getElem?_eq_none h'] at h1
   have zK:B j=false:=by
    cases hbj:B j with
    | false=>rfl
    | true=>
     obtain⟨e,he,hb,hon⟩:=hB j oj AR hbj
     have h1:=zq e he hb
     rcases hon with hon | hon
     ·rw[hon] at h1;exact(xD i (mem_ready.1 hr).1 h1).elim
     ·exact(xD e.on (CE _ hon) h1).elim
   have Bx:=t7 j oj AR tW Aj zK
   have h2:=U0 AR Bx (fun cs b=>Ai i oi cs b hi) (fun cs b=>Ai j oj cs b AR) hy h1
   have By:∀ k,B k=true->(listed.setIfInBounds j true).getD k true=false:=fun k hk=>by
    have AS:j≠k:=fun e=>by rw[<- e,zK] at hk;cases hk
    rw[getD_set_ne true AS];exact CE k hk
   have zz:∀ k ok,eA[k]?=some ok->k≠i->(listed.setIfInBounds j true).getD k true=false->
     B k=false->oi.apart eA ok=true:=fun k ok hk Ek B3 w5=>by
    refine t7 k ok hk Ek ?_ w5
    by_cases AS:j=k
    ·subst AS;exact Aj
    ·rw[getD_set_ne true AS] at B3;exact B3
   refine eG (fun a' sE h3=>⟨h3.2.1,?_⟩) h2
   refine ih (listed.setIfInBounds j true) a' sE By zz (ready_mono hr (Ne.symm tW)) h3.1 ?_
   rw[Array.setIfInBounds_comm _ _ tW]
   exact h3.2.2
theorem Qz{B:Nat->Bool}(Ay:∀ w w',Ext w w'->St w->St w')(hi:eA[i]?=some oi)(Ai:∀(j:Nat) (o:Oper) cs b,eA[j]?=some o->o.op ≠ .select cs b)(Di:∀ j,Xd eA j=true->j≠i->B j=true)(hB:∀ j oj,eA[j]?=some oj->B j=true->∃ e∈oj.after,Region.binds .any e=true/\(e.on=i\/B e.on=true)):
  ∀(fuel:Nat) (listed:Array Bool) (a:Act) (w:World),
   (∀ j,B j=true->listed.getD j true=false)->
   (∀ j oj,eA[j]?=some oj->j≠i->listed.getD j true=false->B j=false->oi.apart eA oj=true)->
   i∈Region.ready .any eA listed->St w->(∀ w',St w'->YE P eA oi v a w')->
   uk P eA tl St Q fuel (listed.setIfInBounds i true) (a.put oi.dst v) w->uk P eA tl St Q (fuel+1) listed a w:=by
 intro fuel
 induction fuel with
 | zero=>
  intro listed a w _ _ hr n4 hy H w' qA
  refine⟨fun h=>(by rw[h] at hr;cases hr),fun j hj=>?_⟩
  by_cases tW:j=i
  ·subst tW
   by_cases ht:tl j=false
   ·exact(hy w' (Ay _ _ qA n4)).opN hi fun sE e=>⟨⟨fun _=>e,fun _=>Ay _ _ e⟩,H.up (qA.trans e)⟩
   ·exact(hy w' (Ay _ _ qA n4)).opN hi fun sE e=>⟨⟨fun h=>absurd h ht,fun _=>Ay _ _ e⟩,H.up (qA.trans e)⟩
  ·have:=ready_mono hj tW
   rw[(H w' qA).1] at this
   cases this
 | succ fuel ih=>
  intro listed a w CE t7 hr n4 hy H w' qA
  refine⟨fun h=>(by rw[h] at hr;cases hr),fun j hj=>?_⟩
  by_cases tW:j=i
  ·subst tW;exact(hy w' (Ay _ _ qA n4)).opN hi fun sE e=>⟨⟨fun _=>e,fun _=>Ay _ _ e⟩,H.up (qA.trans e)⟩
  ·have h1:=(H w' qA).2 j (ready_mono hj tW)
   obtain⟨Aj,oj,AR,zq⟩:=mem_ready.1 hj
   have xD:∀ k,listed.getD k true=false->listed.getD k false=true->False:=fun k h0 h1=>by
    rcases Nat.lt_or_ge k listed.size with h' | h'
    ·simp[h'] at h0 h1;rw[h0] at h1;cases h1
    ·simp[Array.getElem?_eq_none h'] at h1
   have zK:B j=false:=by
    cases hbj:B j with
    | false=>rfl
    | true=>
     obtain⟨e,he,hb,hon⟩:=hB j oj AR hbj
     have h1:=zq e he hb
     rcases hon with hon | hon
     ·rw[hon] at h1;exact(xD i (mem_ready.1 hr).1 h1).elim
     ·exact(xD e.on (CE _ hon) h1).elim
   have Bx:=t7 j oj AR tW Aj zK
   have h2:=U3 AR Bx (fun cs b=>Ai i oi cs b hi) (fun cs b=>Ai j oj cs b AR) (Ay _ _ qA n4) hy h1
   have By:∀ k,B k=true->(listed.setIfInBounds j true).getD k true=false:=fun k hk=>by
    have AS:j≠k:=fun e=>by rw[<- e,zK] at hk;cases hk
    rw[getD_set_ne true AS];exact CE k hk
   have zz:∀ k ok,eA[k]?=some ok->k≠i->(listed.setIfInBounds j true).getD k true=false->
     B k=false->oi.apart eA ok=true:=fun k ok hk Ek B3 w5=>by
    refine t7 k ok hk Ek ?_ w5
    by_cases AS:j=k
    ·subst AS;exact Aj
    ·rw[getD_set_ne true AS] at B3;exact B3
   refine eG (fun a' sE h3=>⟨h3.2.1,?_⟩) h2
   refine ih (listed.setIfInBounds j true) a' sE By zz (ready_mono hr (Ne.symm tW)) (h3.2.1.2 (by cases hfb:Xd eA j with | false=>rfl | true=>rw[Di j hfb tW] at zK;cases zK) (Ay _ _ qA n4)) h3.1 ?_
   rw[Array.setIfInBounds_comm _ _ tW]
   exact h3.2.2
end
def tw(eA:Array Oper)(tl:Nat->Bool)(listed:Array Bool)(i:Nat):Bool:=
 let B:=mE eA i
 match eA[i]? with
 | none=>false
 | some oi=>Nat.beq B.size eA.size&&(List.range eA.size).all fun j=>
   (!B.getD j false||(!listed.getD j true&&match eA[j]? with
    | none=>false
    | some oj=>oj.after.any fun e=>Region.binds .any e&&(Nat.beq e.on i||B.getD e.on false))) &&
   (Nat.beq j i||listed.getD j true||B.getD j false ||
   match eA[j]? with
   | none=>true
   | some oj=>oi.apart eA oj && !tl j)
theorem kr{eA:Array Oper}{tl:Nat->Bool}{listed:Array Bool}(hi:eA[i]?=some oi)(h:tw eA tl listed i=true):
  (∀ j oj,eA[j]?=some oj->(mE eA i).getD j false=true->∃ e∈oj.after,Region.binds .any e=true/\(e.on=i\/(mE eA i).getD e.on false=true))/\
  (∀ j,(mE eA i).getD j false=true->listed.getD j true=false)/\
  (∀ j oj,eA[j]?=some oj->j≠i->listed.getD j true=false->(mE eA i).getD j false=false->oi.apart eA oj=true/\tl j=false):=by
 unfold tw at h
 simp only[hi,Bool.and_eq_true,List.all_eq_true,List.mem_range] at h
 obtain⟨ne,h⟩:=h
 have hsz':=Nat.eq_of_beq_eq_true ne
 have nU:∀ j,(mE eA i).getD j false=true->j<eA.size:=fun j hj=>by
  rcases Nat.lt_or_ge j eA.size with h' | h'
  ·exact h'
  ·simp[Array.getElem?_eq_none (show(mE eA i).size<=j by omega)] at hj
 refine⟨fun j oj hj hb=>?_,fun j hb=>?_,fun j oj hj tW B3 w5=>?_⟩
 ·have:=(h j (nU j hb)).1
  rw[hb,hj] at this
  simp only[Bool.not_true,Bool.false_or,Bool.and_eq_true] at this
  obtain⟨k,hk,he⟩:=Array.any_eq_true.1 this.2
  simp only[Bool.and_eq_true,Bool.or_eq_true] at he
  exact⟨_,Array.getElem_mem hk,he.1,he.2.imp Nat.eq_of_beq_eq_true id⟩
 ·have:=(h j (nU j hb)).1
  rw[hb] at this
  simp only[Bool.not_true,Bool.false_or,Bool.and_eq_true,Bool.not_eq_true'] at this
  exact this.1
 ·have hl:j<eA.size:=by
   rcases Nat.lt_or_ge j eA.size with h' | h'
   ·exact h'
   ·simp[Array.getElem?_eq_none h'] at hj
  have:=(h j hl).2
  rw[hj,p7 tW,B3,w5] at this
  simpa using this
def rO(eA:Array Oper):Bool:=eA.all fun o=>match o.op with | .select .. => false | _=>true
theorem oP{eA:Array Oper}(h:rO eA=true):∀(j:Nat) (o:Oper) cs b,eA[j]?=some o->o.op ≠ .select cs b:=by
 intro j o cs b hj he
 unfold rO at h
 rw[Array.all_eq_true] at h
 obtain⟨nU,hx⟩:=Array.getElem?_eq_some_iff.1 hj
 have:=h j nU
 rw[hx,he] at this
 cases this
def WD(P:Program)(n:Nat)(F:List Nat)(Nv:World)(eA:Array Oper)(tl:Nat->Bool)(Ls:List Asrt)(Q:Act->World->Prop)(fuel:Nat)(listed:Array Bool)(env:List (Nat×Value))(L:List Asrt):Prop:=∀ a w,SS n F Nv env L a w->uk P eA tl (fun w=>Hp F Nv w Ls) Q fuel listed a w
inductive Wk:List Asrt->List Asrt->Prop
 | nil:Wk [] []
 | same {x:Asrt} {L M:List Asrt} (t:Wk L M):Wk (x::L) (x::M)
 | any {x y:Asrt} {L M:List Asrt} (hf:y.fp=x.fp) (h:∀ w,x.ok w->y.ok w) (t:Wk L M):Wk (x::L) (y::M)
theorem Wk.refl:∀ L:List Asrt,Wk L L
 | [] => .nil
 | _::L => .same (Wk.refl L)
theorem Wk.mem{L:List Asrt}(h:Wk L M):∀ y∈M,∃ x∈L,y.fp=x.fp/\∀ w,x.ok w->y.ok w:=by
 induction h with
 | nil=>intro y hy;cases hy
 | @same x _ _ _ ih=>
  intro y hy
  rcases List.mem_cons.1 hy with rfl | hy
  ·exact⟨_,List.mem_cons_self ..,rfl,fun _ h=>h⟩
  ·obtain⟨x,hx,h⟩:=ih y hy;exact⟨x,List.mem_cons_of_mem _ hx,h⟩
 | @any x y' _ _ hf hk _ ih=>
  intro y hy
  rcases List.mem_cons.1 hy with rfl | hy
  ·exact⟨_,List.mem_cons_self ..,hf,hk⟩
  ·obtain⟨x,hx,h⟩:=ih y hy;exact⟨x,List.mem_cons_of_mem _ hx,h⟩
theorem Wk.sep{L:List Asrt}(h:Wk L M)(hs:L.Pairwise fun x y=>∀ b∈x.fp,b∉y.fp):M.Pairwise fun x y=>∀ b∈x.fp,b∉y.fp:=by
 induction h with
 | nil=>exact .nil
 | same t ih=>
  rw[List.pairwise_cons] at hs ⊢
  refine⟨fun y hy b hb=>?_,ih hs.2⟩
  obtain⟨x,hx,hf,_⟩:=t.mem y hy
  rw[hf];exact hs.1 x hx b hb
 | any hf _ t ih=>
  rw[List.pairwise_cons] at hs ⊢
  refine⟨fun y hy b hb=>?_,ih hs.2⟩
  obtain⟨x,hx,hf',_⟩:=t.mem y hy
  rw[hf'];exact hs.1 x hx b (hf▸hb)
theorem Wk.hp{F:List Nat}{Nv w:World}{L M:List Asrt}(h:Wk L M)(hp:Hp F Nv w L):Hp F Nv w M:=
 ⟨hp.os,hp.tape,hp.output,hp.size,hp.block,fun y hy=>by obtain⟨x,hx,_,hk⟩:=h.mem y hy;exact hk w (hp.ok x hx),
  fun y hy b hb=>by obtain⟨x,hx,hf,_⟩:=h.mem y hy;exact hp.lt x hx b (hf▸hb),fun y hy b hb=>by obtain⟨x,hx,hf,_⟩:=h.mem y hy;exact hp.ow x hx b (hf▸hb),h.sep hp.sep⟩
def wT(L Ls:List Asrt):Prop:=∃ L' M,Sel L L' M/\Wk L' Ls
theorem wT.of{L Ls:List Asrt}(h:Sel L Ls M):wT L Ls:=⟨Ls,M,h,Wk.refl _⟩
theorem wT.wk{L Ls:List Asrt}(h:Sel L L' M)(k:Wk L' Ls):wT L Ls:=⟨L',M,h,k⟩
theorem wT.hp{F:List Nat}{Nv w:World}{L Ls:List Asrt}(h:wT L Ls)(hp:Hp F Nv w L):Hp F Nv w Ls:=by
 obtain⟨L',M,hs,hk⟩:=h
 exact hk.hp (hp.sub hs)
section
variable {P:Program} {n:Nat} {F:List Nat} {Nv:World} {eA:Array Oper} {tl:Nat->Bool} {Ls:List Asrt} {fuel:Nat} {listed:Array Bool}
 {env:List (Nat×Value)} {L:List Asrt} {o:Oper} {Q:Act->World->Prop}
theorem WD.e{v:Value}{d i:Nat}(zr:rO eA=true)(hi:eA[i]?=some o)(hr:(Region.ready .any eA listed).contains i=true)(hf:tw eA tl listed i=true)(hg:gd env eA o=some true)(hd:o.dst=some d)(lp:Nat.blt d n=true)(hq:∀ a w,SS n F Nv env L a w->(execOp a.eval o).run P w = .ok (.value v) w)(k:WD P n F Nv eA tl Ls Q fuel (listed.setIfInBounds i true) ((d,v)::env) L):WD P n F Nv eA tl Ls Q (fuel+1) listed env L:=by
 intro a w h
 refine nY (fun _ _ e h=>h.ext e) hi (oP zr) (kr hi hf).1 fuel listed a w (kr hi hf).2.1 (kr hi hf).2.2 (by simpa using hr) (v:=v) (.inl ⟨kE h hg,fun w' e=>?_⟩) ?_
 ·rw[hq a w' (h.world (h.hp.ext e))];exact⟨.refl _,rfl⟩
 ·rw[hd];exact k _ _ (h.put lp v h.hp)
theorem Ps{v:Value}{d i:Nat}(zr:rO eA=true)(hi:eA[i]?=some o)(hr:(Region.ready .any eA listed).contains i=true)(hf:tw eA (fun _=>false) listed i=true)(hg:gd env eA o=some true)(hd:o.dst=some d)(lp:Nat.blt d n=true)(hq:∀ Nv a w,SS n [] Nv env [] a w->(execOp a.eval o).run P w = .ok (.value v) w)(k:WD P n F Nv eA tl Ls Q fuel (listed.setIfInBounds i true) ((d,v)::env) L):WD P n F Nv eA tl Ls Q (fuel+1) listed env L:=by
 intro a w h
 refine nH (fun _ _ e h=>h.ext e) hi (oP zr) (kr hi hf).1 fuel listed a w (kr hi hf).2.1 (fun j oj h1 h2 h3 h4=>((kr hi hf).2.2 j oj h1 h2 h3 h4).1) (by simpa using hr) (v:=v) (fun w1 => .inl ⟨kE h hg,fun w' _=>?_⟩) ?_
 ·rw[hq w' a w' ⟨h.defers,h.size,h.ev,.nil w' []⟩];exact⟨.refl _,rfl⟩
 ·rw[hd];exact k _ _ (h.put lp v h.hp)
theorem Ox{d:Nat}(zr:rO eA=true)(hi:eA[i]?=some o)(hr:(Region.ready .any eA listed).contains i=true)(hf:tw eA (fun _=>false) listed i=true)(hg:gd env eA o=some true)(hd:o.dst=some d)(lp:Nat.blt d n=true)(hs:wT L Ls)(hq:∀ a w,SS n F Nv env Ls a w->(execOp a.eval o).run P w = .ok (.value v) w)(k:WD P n F Nv eA tl Ls Q fuel (listed.setIfInBounds i true) ((d,v)::env) L):WD P n F Nv eA tl Ls Q (fuel+1) listed env L:=by
 intro a w h
 refine Qz (fun _ _ e h=>h.ext e) hi (oP zr) (fun j h1 h2=>FH hi h1 h2) (kr hi hf).1 fuel listed a w (kr hi hf).2.1 (fun j oj h1 h2 h3 h4=>((kr hi hf).2.2 j oj h1 h2 h3 h4).1) (by simpa using hr) (v:=v) (hs.hp h.hp) (fun w1 hw1 => .inl ⟨kE h hg,fun w' e=>?_⟩) ?_
 ·rw[hq a w' ⟨h.defers,h.size,h.ev,hw1.ext e⟩];exact⟨.refl _,rfl⟩
 ·rw[hd];exact k _ _ (h.put lp v h.hp)
theorem Rf{d:Nat}{f:FuncId}{vs:Array Value}(zr:rO eA=true)(hi:eA[i]?=some o)(hr:(Region.ready .any eA listed).contains i=true)(hf:tw eA tl listed i=true)(hg:gd env eA o=some true)(hd:o.dst=some d)(lp:Nat.blt d n=true)(iT:∀ a w,SS n F Nv env L a w->(execOp a.eval o).run P w = .ok (.enter f vs) w)(hc:∀ w,Hp F Nv w L->Calls P f vs w fun e w'=>e = .returned v/\Hp [] w w' [])(k:WD P n F Nv eA tl Ls Q fuel (listed.setIfInBounds i true) ((d,v)::env) L):WD P n F Nv eA tl Ls Q (fuel+1) listed env L:=by
 intro a w h
 refine nY (fun _ _ e h=>h.ext e) hi (oP zr) (kr hi hf).1 fuel listed a w (kr hi hf).2.1 (kr hi hf).2.2 (by simpa using hr) (v:=v) (.inl ⟨kE h hg,fun w' e=>?_⟩) ?_
 ·have h':=h.world (h.hp.ext e)
  rw[iT a w' h']
  exact⟨.refl _,(hc w' h'.hp).mono fun e sE ⟨he,hx⟩=>⟨he,hx.toExt⟩⟩
 ·rw[hd];exact k _ _ (h.put lp v h.hp)
theorem WD.b{d:Nat}(zr:rO eA=true)(hi:eA[i]?=some o)(hr:(Region.ready .any eA listed).contains i=true)(hf:tw eA (fun _=>false) listed i=true)(hg:gd env eA o=some false)(hd:o.dst=some d)(lp:Nat.blt d n=true)(k:WD P n F Nv eA tl Ls Q fuel (listed.setIfInBounds i true) ((d,undef)::env) L):WD P n F Nv eA tl Ls Q (fuel+1) listed env L:=by
 intro a w h
 refine nH (fun _ _ e h=>h.ext e) hi (oP zr) (kr hi hf).1 fuel listed a w (kr hi hf).2.1 (fun j oj h1 h2 h3 h4=>((kr hi hf).2.2 j oj h1 h2 h3 h4).1) (by simpa using hr) (v:=undef) (fun _ => .inr ⟨kE h hg,rfl⟩) ?_
 rw[hd];exact k _ _ (h.put lp undef h.hp)
theorem WD.forced{G:Type}{φ:G->Prop}{val:G->Value}{L':G->List Asrt}{d:Nat}(hi:eA[i]?=some o)(hr:Region.ready .any eA listed=[i])(hg:gd env eA o=some true)(hd:o.dst=some d)(lp:Nat.blt d n=true)(hq:∀ a w,SS n F Nv env L a w->∃ g w',(execOp a.eval o).run P w = .ok (.value (val g)) w'/\φ g/\Hp F Nv w' (L' g)/\(tl i=false->Ext w w'))(n4:tl i=true->∀ g,wT (L' g) Ls)(k:∀ g,φ g->WD P n F Nv eA tl Ls Q fuel (listed.setIfInBounds i true) ((d,val g)::env) (L' g)):WD P n F Nv eA tl Ls Q (fuel+1) listed env L:=by
 intro a w h w' e
 have h':=h.world (h.hp.ext e)
 rw[hr]
 refine⟨by simp,fun j hj=>?_⟩
 simp at hj;subst hj
 obtain⟨g,sE,iT,t8,hp,hx⟩:=hq a w' h'
 unfold opN
 simp only[hi,kE h' hg,if_true,iT,Oper.qc,hd]
 refine⟨⟨hx,fun _ h0=>?_⟩,k g t8 _ _ (h'.put lp _ hp)⟩
 cases ht:tl j with
 | false=>exact h0.ext (hx ht)
 | true=>exact(n4 ht g).hp hp
theorem WD.forced0(hi:eA[i]?=some o)(hr:Region.ready .any eA listed=[i])[hg:Nu (gd env eA o) (some true)][hd:Nu o.dst none][ht:Nu (tl i) true](n4:wT L' Ls)(hq:∀ a w,SS n F Nv env L a w->∃ w',dE P o a w w'/\Hp F Nv w' L')(k:WD P n F Nv eA tl Ls Q fuel (listed.setIfInBounds i true) env L'):WD P n F Nv eA tl Ls Q (fuel+1) listed env L:=by
 intro a w h w' e
 have h':=h.world (h.hp.ext e)
 rw[hr]
 refine⟨by simp,fun j hj=>?_⟩
 simp at hj;subst hj
 obtain⟨sE,iT,hp⟩:=hq a w' h'
 unfold opN
 rcases iT with iT | ⟨v,iT⟩
 ·simp only[hi,kE h' hg.1,if_true,iT,Oper.qc,hd.1]
  exact⟨⟨fun hf=>(by rw[ht.1] at hf;cases hf),fun _ _=>n4.hp hp⟩,k _ _ (h'.world hp)⟩
 ·simp only[hi,kE h' hg.1,if_true,iT,Oper.qc,hd.1]
  exact⟨⟨fun hf=>(by rw[ht.1] at hf;cases hf),fun _ _=>n4.hp hp⟩,k _ _ (h'.world hp)⟩
theorem Nc(hi:eA[i]?=some o)(hr:Region.ready .any eA listed=[i])[hg:Nu (gd env eA o) (some true)][hd:Nu o.dst none][ht:Nu (tl i) true](n4:Xd eA i=true)(hq:∀ a w,SS n F Nv env L a w->∃ w',dE P o a w w'/\Hp F Nv w' L')(k:WD P n F Nv eA tl Ls Q fuel (listed.setIfInBounds i true) env L'):WD P n F Nv eA tl Ls Q (fuel+1) listed env L:=by
 intro a w h w' e
 have h':=h.world (h.hp.ext e)
 rw[hr]
 refine⟨by simp,fun j hj=>?_⟩
 simp at hj;subst hj
 obtain⟨sE,iT,hp⟩:=hq a w' h'
 unfold opN
 rcases iT with iT | ⟨v,iT⟩
 ·simp only[hi,kE h' hg.1,if_true,iT,Oper.qc,hd.1]
  exact⟨⟨fun hf=>(by rw[ht.1] at hf;cases hf),fun hf=>by rw[n4] at hf;cases hf⟩,k _ _ (h'.world hp)⟩
 ·simp only[hi,kE h' hg.1,if_true,iT,Oper.qc,hd.1]
  exact⟨⟨fun hf=>(by rw[ht.1] at hf;cases hf),fun hf=>by rw[n4] at hf;cases hf⟩,k _ _ (h'.world hp)⟩
theorem WD.forcedCall{G:Type}{φ:G->Prop}{val:G->Value}{M:G->List Asrt}{f:FuncId}{vs:Array Value}{Lc Lr:List Asrt}{d:Nat}(hi:eA[i]?=some o)(hr:Region.ready .any eA listed=[i])(hg:gd env eA o=some true)(hd:o.dst=some d)(lp:Nat.blt d n=true)(ht:(tl i=true/\∀ g,wT (M g++Lr) Ls)\/Lc=[])(iT:∀ a w,SS n F Nv env L a w->(execOp a.eval o).run P w = .ok (.enter f vs) w)(hs:Sel L Lc Lr)(hc:∀ w,Hp F Nv w L->Calls P f vs w fun e w'=>∃ g,e = .returned (val g)/\φ g/\Hp (Lc.flatMap (·.fp)) w w' (M g))(k:∀ g,φ g->WD P n F Nv eA tl Ls Q fuel (listed.setIfInBounds i true) ((d,val g)::env) (M g++Lr)):WD P n F Nv eA tl Ls Q (fuel+1) listed env L:=by
 intro a w h w' e
 have h':=h.world (h.hp.ext e)
 rw[hr]
 refine⟨by simp,fun j hj=>?_⟩
 simp at hj;subst hj
 unfold opN
 simp only[hi,kE h' hg,if_true,iT a w' h',Oper.qc,hd]
 refine(hc w' h'.hp).mono ?_
 rintro e' sE ⟨g,rfl,t8,hp⟩
 have zs:=h'.hp.call hs hp
 refine⟨_,rfl,⟨fun hf=>?_,fun _ h0=>?_⟩,k g t8 _ _ (h'.put lp _ zs)⟩
 ·rcases ht with ht | rfl
  ·rw[ht.1] at hf;cases hf
  ·exact hp.toExt
 ·rcases ht with ht | rfl
  ·exact(ht.2 g).hp zs
  ·exact h0.ext hp.toExt
theorem Ny(hr:Region.ready .any eA listed=[]){Q':Exit->Act->World->Prop}(k:WX n F Nv Q' .normal env L):WD P n F Nv eA tl Ls (Q' .normal) fuel listed env L:=by
 intro a w h
 cases fuel with
 | zero=>exact fun w' e=>⟨hr,k _ _ (h.world (h.hp.ext e))⟩
 | succ f=>exact fun w' e=>⟨fun _=>k _ _ (h.world (h.hp.ext e)),fun i hi=>by rw[hr] at hi;cases hi⟩
theorem WD.restr{env':List (Nat×Value)}(hr:Restr env env')(k:WD P n F Nv eA tl Ls Q fuel listed env' L):WD P n F Nv eA tl Ls Q fuel listed env L:=
 fun a w h=>k a w (h.restr hr)
theorem Lu{Q:Exit->Act->World->Prop}{id:Nat}{l:List Oper}(tl:Nat->Bool)(Ls:List Asrt)[hm:Nu (P.follows .mixedOrders) true](k:WD P n F Nv l.toArray tl Ls (Q .normal) l.length (Array.replicate l.length false) env L):WC P n F Nv Q (.region id l.toArray true) env L:=by
 intro a w h
 refine wpIn_region_any hm.1 ?_
 have:=k a _ (h.world (h.hp.ext (Ext.drew w (w.drawn+1) (Nat.le_succ _))))
 simpa using uk.nX (Q':=Q) (fun _ _ h=>h) this
end
end
section
variable [Rnd]
def Qt(P:Program)(n:Nat)(F:List Nat)(Nv:World)(env:List (Nat×Value))(L:List Asrt)(o:Oper)(v:Value):Prop:=
 ∀ a w,SS n F Nv env L a w->(execOp a.eval o).run P w = .ok (.value v) w
section
variable {P:Program} {n:Nat} {F:List Nat} {Nv:World} {env:List (Nat×Value)} {L:List Asrt}
 {d:Option Tmp} {ty:TypeId} {pos:String} {after:Array Edge} {g:Option (Nat×Bool)} {x y c:Operand} {v u:Value}
theorem q_m[hx:Nu (eo env x) (some v)]:Qt P n F Nv env L ⟨d,.move x,ty,pos,after,g⟩ v:=by
 intro a w h;simp[execOp,h.eval hx.1]
theorem q_z[hx:Nu (eo env x) (some v)]:Qt P n F Nv env L ⟨d,.assign x,ty,pos,after,g⟩ v:=by
 intro a w h;simp[execOp,h.eval hx.1]
theorem qE[hc:Nu (eo env c) (some (.bool true))][hx:Nu (eo env x) (some v)]:Qt P n F Nv env L ⟨d,.pick c x y,ty,pos,after,g⟩ v:=by
 intro a w h;simp[execOp,h.eval hc.1,h.eval hx.1,asBool]
theorem qF[hc:Nu (eo env c) (some (.bool false))][hy:Nu (eo env y) (some v)]:Qt P n F Nv env L ⟨d,.pick c x y,ty,pos,after,g⟩ v:=by
 intro a w h;simp[execOp,h.eval hc.1,h.eval hy.1,asBool]
theorem w3{p:Addr}[hx:Nu (eo env x) (some (.pointer (some p)))]:Qt P n F Nv env L ⟨d,.nilCheck x,ty,pos,after,g⟩ (.pointer (some p)):=by
 intro a w h;simp[execOp,h.eval hx.1]
theorem mv{i:Nat}{vs:List Value}[hx:Nu (eo env x) (some (.tuple vs.toArray))][hi:Nu vs[i]? (some v)]:Qt P n F Nv env L ⟨d,.extract x i,ty,pos,after,g⟩ v:=by
 intro a w h;simp[execOp,h.eval hx.1,Instr.extract,hi.1]
variable {k k':IntKind} {p q r:Int} {t t':TypeId}
theorem rP[hx:Nu (eo env x) (some (.int k p))][hy:Nu (eo env y) (some (.int k q))][hw:Nu (k.wrap (p+q)) r]:Qt P n F Nv env L ⟨d,.binOp .add t x y t',ty,pos,after,g⟩ (.int k r):=by
 intro a w h;simp[execOp,h.eval hx.1,h.eval hy.1,binOp_add,eqGuard_add,Op.intArith,hw.1]
theorem sR[hx:Nu (eo env x) (some (.int k p))][hy:Nu (eo env y) (some (.int k q))][hw:Nu (k.wrap (p-q)) r]:Qt P n F Nv env L ⟨d,.binOp .sub t x y t',ty,pos,after,g⟩ (.int k r):=by
 intro a w h;simp[execOp,h.eval hx.1,h.eval hy.1,binOp_sub,eqGuard_sub,Op.intArith,hw.1]
theorem rQ[hx:Nu (eo env x) (some (.int k p))][hy:Nu (eo env y) (some (.int k q))][hw:Nu (k.wrap (p*q)) r]:Qt P n F Nv env L ⟨d,.binOp .mul t x y t',ty,pos,after,g⟩ (.int k r):=by
 intro a w h;simp[execOp,h.eval hx.1,h.eval hy.1,binOp_mul,eqGuard_mul,Op.intArith,hw.1]
theorem QI(hx:eo env x=some (.int k p))(hy:eo env y=some (.int k q))(h0:q≠0)(hw:k.wrap (p.tdiv q)=r):Qt P n F Nv env L ⟨d,.binOp .quo t x y t',ty,pos,after,g⟩ (.int k r):=by
 intro a w h;simp[execOp,h.eval hx,h.eval hy,binOp_quo,eqGuard_quo,Op.intDiv,hw,h0]
theorem XX[hx:Nu (eo env x) (some (.int k p))][hy:Nu (eo env y) (some (.int k q))](h0:q≠0)[hw:Nu (p.tmod q) r]:Qt P n F Nv env L ⟨d,.binOp .rem t x y t',ty,pos,after,g⟩ (.int k r):=by
 intro a w h;simp[execOp,h.eval hx.1,h.eval hy.1,binOp_rem,eqGuard_rem,Op.intDiv,hw.1,h0]
theorem q_and(hx:eo env x=some (.int k p))(hy:eo env y=some (.int k q))(hw:bits .and k p q=r):Qt P n F Nv env L ⟨d,.binOp .and t x y t',ty,pos,after,g⟩ (.int k r):=by
 intro a w h;simp[execOp,h.eval hx,h.eval hy,binOp_and,eqGuard_and,intBits_and,hw]
theorem QJ(hx:eo env x=some (.int k p))(hy:eo env y=some (.int k' q))(h0:0<=q)(hw:p / 2 ^ min q.toNat k.bits=r):Qt P n F Nv env L ⟨d,.binOp .shr t x y t',ty,pos,after,g⟩ (.int k r):=by
 intro a w h;simp[execOp,h.eval hx,h.eval hy,binOp_shr,eqGuard_shr,shift_shr_any _ _ _ _ h0,hw]
theorem sS[hx:Nu (eo env x) (some (.int k p))][hy:Nu (eo env y) (some (.int k q))]:Qt P n F Nv env L ⟨d,.binOp .lss t x y t',ty,pos,after,g⟩ (.bool (decide (p<q))):=by
 intro a w h;simp[execOp,h.eval hx.1,h.eval hy.1,binOp_lss,eqGuard_lss]
theorem GK(hx:eo env x=some (.int k p))(hy:eo env y=some (.int k q)):Qt P n F Nv env L ⟨d,.binOp .leq t x y t',ty,pos,after,g⟩ (.bool (decide (p<=q))):=by
 intro a w h;simp[execOp,h.eval hx,h.eval hy,binOp_leq,eqGuard_leq]
theorem sT[hx:Nu (eo env x) (some (.int k p))][hy:Nu (eo env y) (some (.int k q))]:Qt P n F Nv env L ⟨d,.binOp .gtr t x y t',ty,pos,after,g⟩ (.bool (decide (p>q))):=by
 intro a w h;simp[execOp,h.eval hx.1,h.eval hy.1,binOp_gtr,eqGuard_gtr]
theorem QK(hx:eo env x=some (.int k p))(hy:eo env y=some (.int k q)):Qt P n F Nv env L ⟨d,.binOp .geq t x y t',ty,pos,after,g⟩ (.bool (decide (p>=q))):=by
 intro a w h;simp[execOp,h.eval hx,h.eval hy,binOp_geq,eqGuard_geq]
theorem eH(hx:eo env x=some (.int k p))(hy:eo env y=some (.int k q)):Qt P n F Nv env L ⟨d,.binOp .eql t x y t',ty,pos,after,g⟩ (.bool (decide (p=q))):=by
 intro a w h;simp only[execOp,h.eval hx,h.eval hy,binOp_eql,eqGuard_at_int];rw[show(p == q)=decide (p=q) from by by_cases e:p=q <;> simp[e]];simp
theorem GL(hx:eo env x=some (.int k p))(hy:eo env y=some (.int k q)):Qt P n F Nv env L ⟨d,.binOp .neq t x y t',ty,pos,after,g⟩ (.bool (decide (p≠q))):=by
 intro a w h;simp only[execOp,h.eval hx,h.eval hy,binOp_neq,eqGuard_at_int];rw[show(p != q)=decide (p≠q) from by by_cases e:p=q <;> simp[e]];simp
theorem QL(hx:eo env x=some (.int k p))(hw:k.wrap (0-p)=r):Qt P n F Nv env L ⟨d,.unOp .neg t x,ty,pos,after,g⟩ (.int k r):=by
 intro a w h
 have:k.wrap (-p)=r:=by rw[<- hw];congr 1;omega
 simp[execOp,h.eval hx,Op.unary,Op.intArith,this]
theorem Yd{b:Bool}(hx:eo env x=some (.bool b)):Qt P n F Nv env L ⟨d,.unOp .not t x,ty,pos,after,g⟩ (.bool (!b)):=by
 intro a w h;simp[execOp,h.eval hx,Op.unary]
theorem fg{dd:TypeDesc}(hs:P.underlying t=some dd)(hd:P.underlying t'=some (.int k'))[hx:Nu (eo env x) (some (.int k p))][hw:Nu (k'.wrap p) r]:Qt P n F Nv env L ⟨d,.convert t t' x,ty,pos,after,g⟩ (.int k' r):=by
 intro a w h;simp[execOp,h.eval hx.1,hw.1,convert,run_underlying hs,run_underlying hd,Conv.intToInt]
theorem Ye{at_:Array TypeId}[hx:Nu (eo env x) (some (.int k p))][hy:Nu (eo env y) (some (.int k q))][hw:Nu (max p q) r]:Qt P n F Nv env L ⟨d,.call ⟨.builtin .max,#[x,y],at_⟩,ty,pos,after,g⟩ (.int k r):=by
 have hx:=hx.1
 have hy:=hy.1
 have hw:=hw.1
 intro a w h
 have:(if q>p then q else p)=r:=by subst hw;simp only[Int.max_def];split <;> split <;> omega
 simp[execOp,h.eval hx,h.eval hy,resolve,invoke,builtin,run_max_int2,this]
theorem q_min{at_:Array TypeId}(hx:eo env x=some (.int k p))(hy:eo env y=some (.int k q))(hw:min p q=r):Qt P n F Nv env L ⟨d,.call ⟨.builtin .min,#[x,y],at_⟩,ty,pos,after,g⟩ (.int k r):=by
 intro a w h
 have:(if q<p then q else p)=r:=by subst hw;simp only[Int.min_def];split <;> split <;> omega
 simp[execOp,h.eval hx,h.eval hy,resolve,invoke,builtin,run_min_int2,this]
theorem J2{e:TypeId}{ao:Option Addr}(ht:P.underlying t=some (.pointer e))(hx:eo env x=some (.pointer ao))(hy:eo env y=some (.pointer none)):Qt P n F Nv env L ⟨d,.binOp .eql t x y t',ty,pos,after,g⟩ (.bool ao.isNone):=by
 intro a w h
 have Bd:P.underlying t=some (.pointer (P.pointee t)):=by simp[Program.pointee,ht]
 simp[execOp,h.eval hx,h.eval hy,eqGuard_at_pointer,run_eql_pointer_nil w t ao Bd]
theorem vf{fn:Fn}{caps:Array Operand}{vs:Array Value}(hc:∀ a w,SS n F Nv env L a w->caps.map a.eval=vs):Qt P n F Nv env L ⟨d,.makeFunc fn #[] caps,ty,pos,after,g⟩ (.func fn #[] vs):=by
 intro a w h;simp[execOp,Instr.makeFunc,hc a w h]
end
end
section
variable {x y a0 a1:Asrt}{w Nv:World}{F:List Nat}{cs:List Value}{P:Program}{L:List Asrt}{α:Type}{t:TypeId}{i:TypeInfo}{A:Addr}
variable [Rnd]
inductive Upd:List Asrt->Asrt->Asrt->List Asrt->Prop
 | here {x y:Asrt} {R:List Asrt}:Upd (x::R) x y (y::R)
 | there {x y z:Asrt} {L R:List Asrt} (h:Upd L x y R):Upd (z::L) x y (z::R)
theorem Upd.h1{R:List Asrt}:Upd (a0::x::R) x y (a0::y::R) := .there .here
theorem Upd.h2{R:List Asrt}:Upd (a0::a1::x::R) x y (a0::a1::y::R) := .there .h1
theorem Upd.h3{a2:Asrt}{R:List Asrt}:Upd (a0::a1::a2::x::R) x y (a0::a1::a2::y::R) := .there .h2
theorem Upd.h4{a2 a3:Asrt}{R:List Asrt}:Upd (a0::a1::a2::a3::x::R) x y (a0::a1::a2::a3::y::R) := .there .h3
theorem Upd.h5{a2 a3 a4:Asrt}{R:List Asrt}:Upd (a0::a1::a2::a3::a4::x::R) x y (a0::a1::a2::a3::a4::y::R) := .there .h4
theorem Upd.h6{a2 a3 a4 a5:Asrt}{R:List Asrt}:Upd (a0::a1::a2::a3::a4::a5::x::R) x y (a0::a1::a2::a3::a4::a5::y::R) := .there .h5
theorem Upd.h7{a2 a3 a4 a5 a6:Asrt}{R:List Asrt}:Upd (a0::a1::a2::a3::a4::a5::a6::x::R) x y (a0::a1::a2::a3::a4::a5::a6::y::R) := .there .h6
theorem Upd.mem{L':List Asrt}(h:Upd L x y L'):x∈L:=by
 induction h with
 | here=>simp
 | there _ ih=>exact List.mem_cons_of_mem _ ih
theorem Pick.mem{L R:List α}{x:α}(h:Pick L x R):x∈L:=h.perm.mem_iff.2 (by simp)
theorem Hp.upd{w':World}{L':List Asrt}(h:Hp F Nv w L)(hu:Upd L x y L')(os:w'.os=w.os)(tape:TD w w')(output:w'.output=w.output)(size:w.heap.size<=w'.heap.size)(block:∀ k,k<w.heap.size->k∉x.fp->w'.heap[k]?=w.heap[k]?)(Az:y.ok w')(El:∀ b∈y.fp,b<w'.heap.size/\(b∈x.fp\/w.heap.size<=b)):Hp F Nv w' L':=by
 have gen:∀ {L L':List Asrt},Upd L x y L'->(∀ z∈L,z.ok w)->(∀ z∈L,∀ b∈z.fp,b<w.heap.size)->(∀ z∈L,∀ b∈z.fp,b∈F\/Nv.heap.size<=b)->
   (L.Pairwise fun x y=>∀ b∈x.fp,b∉y.fp)->
   (∀ z∈L',z.ok w')/\(∀ z∈L',∀ b∈z.fp,b<w'.heap.size)/\(∀ z∈L',∀ b∈z.fp,b∈F\/Nv.heap.size<=b)/\(L'.Pairwise fun x y=>∀ b∈x.fp,b∉y.fp)/\
   (∀ z∈L',(z=y)\/z∈L )/\(∀ b,b<w.heap.size->(∀ z∈L,b∉z.fp)->∀ z∈L',b∉z.fp):=by
  intro L L' hu2
  clear hu
  induction hu2 with
  | @here x y R=>
   intro o1 o2 o3 o4
   obtain⟨p1,p2⟩:=List.pairwise_cons.1 o4
   have hb:∀ z∈R,∀ b∈z.fp,b∉y.fp:=fun z hz b hb hc=>by
    rcases(El b hc).2 with h1 | h1
    ·exact p1 z hz b h1 hb
    ·have:=o2 z (List.mem_cons_of_mem _ hz) b hb;omega
   refine⟨?_,?_,?_,?_,?_,?_⟩
   ·intro z hz
    rcases List.mem_cons.1 hz with rfl | hz
    ·exact Az
    ·exact z.loc w w' (fun b hb hl=>block b hl (fun hc=>p1 z hz b hc hb)) (o2 z (List.mem_cons_of_mem _ hz)) (o1 z (List.mem_cons_of_mem _ hz))
   ·intro z hz b hb'
    rcases List.mem_cons.1 hz with rfl | hz
    ·exact(El b hb').1
    ·exact Nat.lt_of_lt_of_le (o2 z (List.mem_cons_of_mem _ hz) b hb') size
   ·intro z hz b hb'
    rcases List.mem_cons.1 hz with rfl | hz
    ·rcases(El b hb').2 with h1 | h1
     ·exact o3 x (by simp) b h1
     ·exact .inr (Nat.le_trans h.size h1)
    ·exact o3 z (List.mem_cons_of_mem _ hz) b hb'
   ·exact List.pairwise_cons.2 ⟨fun z hz b hb' hc=>hb z hz b hc hb',p2⟩
   ·intro z hz
    rcases List.mem_cons.1 hz with rfl | hz
    ·exact .inl rfl
    ·exact .inr (List.mem_cons_of_mem _ hz)
   ·intro b Dj w5 z hz hc
    rcases List.mem_cons.1 hz with rfl | hz
    ·rcases(El b hc).2 with h1 | h1
     ·exact w5 x (by simp) h1
     ·omega
    ·exact w5 z (List.mem_cons_of_mem _ hz) hc
  | @there x y v L R hu ih=>
   intro o1 o2 o3 o4
   obtain⟨p1,p2⟩:=List.pairwise_cons.1 o4
   obtain⟨q1,q2,q3,q4,q5,q6⟩:=ih block Az El (fun z hz=>o1 z (List.mem_cons_of_mem _ hz)) (fun z hz=>o2 z (List.mem_cons_of_mem _ hz)) (fun z hz=>o3 z (List.mem_cons_of_mem _ hz)) p2
   have hvx:∀ b∈v.fp,b∉x.fp:=p1 x hu.mem
   refine⟨?_,?_,?_,?_,?_,?_⟩
   ·intro z hz
    rcases List.mem_cons.1 hz with rfl | hz
    ·exact z.loc w w' (fun b hb hl=>block b hl (hvx b hb)) (o2 z (by simp)) (o1 z (by simp))
    ·exact q1 z hz
   ·intro z hz b hb'
    rcases List.mem_cons.1 hz with rfl | hz
    ·exact Nat.lt_of_lt_of_le (o2 z (by simp) b hb') size
    ·exact q2 z hz b hb'
   ·intro z hz b hb'
    rcases List.mem_cons.1 hz with rfl | hz
    ·exact o3 z (by simp) b hb'
    ·exact q3 z hz b hb'
   ·exact List.pairwise_cons.2 ⟨fun z hz b hb'=>q6 b (o2 v (by simp) b hb') (fun z hz hc=>p1 z hz b hb' hc) z hz,q4⟩
   ·intro z hz
    rcases List.mem_cons.1 hz with rfl | hz
    ·exact .inr (by simp)
    ·rcases q5 z hz with h1 | h1
     ·exact .inl h1
     ·exact .inr (List.mem_cons_of_mem _ h1)
   ·intro b Dj w5 z hz hc
    rcases List.mem_cons.1 hz with rfl | hz
    ·exact w5 z (by simp) hc
    ·exact q6 b Dj (fun z hz=>w5 z (List.mem_cons_of_mem _ hz)) z hz hc
 obtain⟨q1,q2,q3,q4,_,_⟩:=gen hu h.ok h.lt h.ow h.sep
 refine⟨os.trans h.os,tape.trans h.tape,output.trans h.output,Nat.le_trans h.size size,fun k hk hf=>?_,q1,q2,q3,q4⟩
 rw[block k (Nat.lt_of_lt_of_le hk h.size) (fun hc=>?_)]
 ·exact h.block k hk hf
 ·rcases h.ow x hu.mem k hc with h1 | h1
  ·exact hf h1
  ·omega
theorem Hp.add(h:Hp F Nv w L)(Az:x.ok w)(nU:∀ b∈x.fp,b<w.heap.size)(how:∀ b∈x.fp,b∈F\/Nv.heap.size<=b)(hsep:∀ y∈L,∀ b∈x.fp,b∉y.fp):Hp F Nv w (x::L):=
 ⟨h.os,h.tape,h.output,h.size,h.block,
  fun y hy=>(List.mem_cons.1 hy).elim (fun e=>e▸Az) (h.ok y),
  fun y hy=>(List.mem_cons.1 hy).elim (fun e=>e▸nU) (h.lt y),
  fun y hy=>(List.mem_cons.1 hy).elim (fun e=>e▸how) (h.ow y),
  List.pairwise_cons.2 ⟨hsep,h.sep⟩⟩
theorem Hp.alloc{F:List Nat}{Nv w:World}{L:List Asrt}(h:Hp F Nv w L)(o:Obj):Hp F Nv (w.alloc o) (wr w.heap.size o::L):=by
 refine(h.ext (.alloc w o)).add (heap_alloc_new w o) (by simp[wr]) (by simp[wr,h.size]) ?_
 intro y hy b hb hc
 simp[wr] at hb
 have:=h.lt y hy b hc
 omega
def stb(b:Nat)(T:TypeId)(cs:List Value):Asrt:=wr b (.cells cs.toArray T (0,0))
theorem dF{b:Nat}{T:TypeId}:(stb b T cs).ok w↔w.heap[b]?=some (.cells cs.toArray T (0,0)):=Iff.rfl
theorem dG{b:Nat}{T:TypeId}:(stb b T cs).fp=[b]:=rfl
def mz(P:Program)(t:TypeId):Prop:=(isAgg t).run P=fun w=>Result.ok false w
def uK(P:Program)(t:TypeId)(s:Nat):Prop:=((isAgg t).run P=fun w=>Result.ok true w)/\(Go.sizeOf t).run P=fun w=>Result.ok s w
def gA(P:Program)(t:TypeId)(s:Nat):Prop:=(Go.sizeOf t).run P=fun w=>Result.ok s w
def w8(P:Program)(s:TypeId)(f k:Nat):Prop:=∀ a w,(Instr.fieldAt s (.pointer (some a)) f).run P w = .ok (.pointer (some (a.add k))) w
def jk(P:Program)(t:TypeId)(v:Value):Prop:=(zeroValue t).run P=fun w=>Result.ok v w
structure elT (P:Program) (t e:TypeId) (sz tT:Nat):Prop where
 sl:P.underlying t=some (.slice e)
 inf:∃ i z,P.info? e=some i/\i.zero=some z/\i.size=sz/\i.bytes=tT/\z.cells.size=sz
 pos:0<sz
theorem jQ{d:TypeDesc}(h:P.underlying t=some d)[hd:Nu (match d with | .struct _ | .array _ _=>true | _=>false) false]:mz P t:=by
 have hd:=hd.1
 funext w
 simp only[isAgg,Sem.run_bind,run_underlying h,Result.andThen_ok]
 split <;> simp_all
theorem qG(h:P.info? t=some i):gA P t i.size:=by
 funext w;simp[Go.sizeOf,typeInfo,h]
theorem gM{d:TypeDesc}(h:P.underlying t=some d)(hd:(match d with | .struct _ | .array _ _=>true | _=>false)=true)(hi:P.info? t=some i):uK P t i.size:=by
 refine⟨?_,qG hi⟩
 funext w
 simp only[isAgg,Sem.run_bind,run_underlying h,Result.andThen_ok]
 split <;> simp_all
theorem xT{s:TypeId}{fs:Array Field}{f:Nat}{fd:Field}(h:P.underlying s=some (.struct fs))(hf:fs[f]?=some fd)(hi:P.info? fd.type=some i)(h0:i.size≠0){k:Nat}(hk:fd.offset=k):w8 P s f k:=by
 subst hk
 intro a w
 simp[Instr.fieldAt,run_underlying h,hf,Instr.sureAddr,fieldPlace,Go.sizeOf,typeInfo,hi,h0]
theorem qM{v:Value}(h:P.info? t=some i)(hz:i.zero=some v):jk P t v:=by
 funext w;simp[zeroValue,typeInfo,h,hz]
def mr(F:List Nat)(w:World)(A:Addr)(cs:List Value):Prop:=
 A.block∉F/\∀ j u,cs[j]?=some u->w.cell? (A.add j)=some u
theorem Addr.p9(A:Addr)(i j:Nat):(A.add i).add j=A.add (i+j):=by
 unfold Addr.add
 split <;> split <;> simp_all [Nat.add_assoc]
theorem Addr.lz(A:Addr)(i:Nat):(A.add i).block=A.block:=by unfold Addr.add;split <;> rfl
theorem mr.sub(h:mr F w A cs)(k:Nat):mr F w (A.add k) (cs.drop k):=
 ⟨by rw[Addr.lz];exact h.1,fun j u hu=>by rw[Addr.p9];exact h.2 _ _ (by simpa using hu)⟩
theorem mr.pre{ds:List Value}(h:mr F w A (cs++ds)):mr F w A cs:=
 ⟨h.1,fun j u hu=>h.2 j u (by
  have hj:j<cs.length:=(List.getElem?_eq_some_iff.1 hu).1
  rw[List.getElem?_append_left hj];exact hu)⟩
theorem mr.now(h:mr F Nv A cs)(hp:Hp F Nv w L):∀ j u,cs[j]?=some u->w.cell? (A.add j)=some u:=by
 intro j u hu
 have h1:=h.2 j u hu
 have nU:=block_lt_of_cell h1
 rw[<- h1]
 refine World.cell?_of_block (hp.block _ nU ?_)
 rw[Addr.lz];exact h.1
theorem mr.at{F F':List Nat}{Nv w:World}{L:List Asrt}{A:Addr}{cs:List Value}(h:mr F Nv A cs)(hp:Hp F Nv w L)(hF:∀ b∈F',∃ x∈L,b∈x.fp)(n9:cs≠[]):mr F' w A cs:=by
 refine⟨fun hb=>?_,h.now hp⟩
 obtain⟨x,hx,zR⟩:=hF _ hb
 obtain⟨c,cs',rfl⟩:∃ c cs',cs=c::cs':=by cases cs with | nil=>exact absurd rfl n9 | cons c cs'=>exact⟨c,cs',rfl⟩
 have h1:=h.2 0 c (by simp)
 have nU:=block_lt_of_cell h1
 rw[Addr.lz] at nU
 rcases hp.ow x hx _ zR with h2 | h2
 ·exact h.1 h2
 ·omega
structure Sl (F:List Nat) (w:World) (v:Value) (sz:Nat) (rows:List (List Value)):Prop where
 shape:∃ ao cap,v = .slice ao rows.length cap/\rows.length<=cap/\cap<=maxLen/\(rows≠[]->∃ A,ao=some A/\mr F w A rows.flatten)
 len:∀ r∈rows,r.length=sz
def rR{α:Type}(F:List Nat)(w:World)(v:Value)(sz:Nat)(Pr:List Value->α->Prop)(l:List α):Prop:=
 ∃ rows:List (List Value),Sl F w v sz rows/\rows.length=l.length/\∀(i:Nat) (r:List Value) (x:α),rows[i]?=some r->l[i]?=some x->Pr r x
theorem eI{sz:Nat}:∀ {rows:List (List Value)} (_:∀ r∈rows,r.length=sz) {i:Nat} {r:List Value} (_:rows[i]?=some r),∃ tl,rows.flatten.drop (i*sz)=r++tl
 | [],_,i,r,h=>by simp at h
 | r0::rows,hl,0,r,h=>by simp at h;subst h;exact⟨rows.flatten,by simp⟩
 | r0::rows,hl,i+1,r,h=>by
  have h0:r0.length=sz:=hl r0 (by simp)
  obtain⟨tl,ht⟩:=eI (fun r hr=>hl r (List.mem_cons_of_mem _ hr)) (i:=i) (r:=r) (by simpa using h)
  refine⟨tl,?_⟩
  rw[<- ht,List.flatten_cons,Nat.succ_mul,Nat.add_comm,<- h0,<- List.drop_drop,List.drop_left]
theorem rR.shape{v:Value}{sz:Nat}{Pr:List Value->α->Prop}{l:List α}(h:rR F w v sz Pr l):
  ∃ ao cap,v = .slice ao l.length cap/\l.length<=cap/\cap<=maxLen:=by
 obtain⟨rows,⟨⟨ao,cap,hv,h1,h2,_⟩,_⟩,hl,_⟩:=h
 exact⟨ao,cap,by rw[hv,hl],by omega,h2⟩
theorem rR.len{ao:Option Addr}{m cap:Nat}{sz:Nat}{Pr:List Value->α->Prop}{l:List α}(h:rR F w (.slice ao m cap) sz Pr l):m=l.length:=by
 obtain⟨zS,n7,hv,_⟩:=h.shape
 injection hv
theorem rR.at{α:Type}{F F':List Nat}{Nv w:World}{L:List Asrt}{v:Value}{sz:Nat}{Pr Pr':List Value->α->Prop}{l:List α}(h:rR F Nv v sz Pr l)(hp:Hp F Nv w L)(hF:∀ b∈F',∃ x∈L,b∈x.fp)(ne:0<sz)(hPr:∀ r x,Pr r x->Pr' r x):rR F' w v sz Pr' l:=by
 obtain⟨rows,⟨⟨ao,cap,hv,h1,h2,h3⟩,jy⟩,hl,hP⟩:=h
 refine⟨rows,⟨⟨ao,cap,hv,h1,h2,fun n9=>?_⟩,jy⟩,hl,fun i r x hr hx=>hPr _ _ (hP i r x hr hx)⟩
 obtain⟨A,hA,hc⟩:=h3 n9
 refine⟨A,hA,hc.at hp hF ?_⟩
 intro e
 obtain⟨r,rs,rfl⟩:∃ r rs,rows=r::rs:=by cases rows with | nil=>exact absurd rfl n9 | cons r rs=>exact⟨r,rs,rfl⟩
 have:=jy r (by simp)
 rw[List.flatten_cons] at e
 have:r=[]:=List.append_eq_nil_iff.1 e |>.1
 subst this
 simp at this
 omega
theorem rR.nil(F:List Nat)(w:World)(sz:Nat)(Pr:List Value->α->Prop):rR F w (.slice none 0 0) sz Pr []:=
 ⟨[],⟨⟨none,0,rfl,by simp,by simp,by simp⟩,by simp⟩,rfl,by simp⟩
theorem rR.sub{α:Type}{F:List Nat}{w:World}{v:Value}{sz:Nat}{Pr:List Value->α->Prop}{l:List α}(h:rR F w v sz Pr l)(ne:0<sz){lo hi:Nat}(h1:lo<=hi)(h2:hi<=l.length):
  ∀ ao cap,v = .slice ao l.length cap->rR F w (.slice (if cap=lo then ao else ao.map (·.add (lo*sz))) (hi-lo) (cap-lo)) sz Pr ((l.take hi).drop lo):=by
 intro ao cap hv
 obtain⟨rows,⟨⟨zS,n7,zI,g1,g2,g3⟩,jy⟩,hl,hP⟩:=h
 rw[hv] at zI
 injection zI with e1 e2 e3
 subst e1;subst e3
 refine⟨(rows.take hi).drop lo,⟨⟨if cap=lo then ao else ao.map (·.add (lo*sz)),cap-lo,?_,?_,?_,?_⟩,?_⟩,?_,?_⟩
 ·congr 1;simp;omega
 ·simp;omega
 ·omega
 ·intro n9
  have nU:lo<hi:=by
   rcases Nat.lt_or_ge lo hi with h' | h'
   ·exact h'
   ·exact absurd (List.drop_eq_nil_of_le (by simp;omega)) n9
  obtain⟨A,rfl,hc⟩:=g3 (by intro e;subst e;simp at hl;omega)
  have xD:cap≠lo:=by omega
  refine⟨A.add (lo*sz),by simp[xD],?_⟩
  have:=hc.sub (lo*sz)
  have Dk:∀(rows:List (List Value)) (k:Nat),(∀ r∈rows,r.length=sz)->k<=rows.length->rows.flatten.drop (k*sz)=(rows.drop k).flatten:=by
   intro rows
   induction rows with
   | nil=>intro k _ hk;simp at hk;subst hk;simp
   | cons r rs ih=>
    intro k hr hk
    cases k with
    | zero=>simp
    | succ k=>
     have h0:r.length=sz:=hr r (by simp)
     rw[List.flatten_cons,Nat.succ_mul,Nat.add_comm,<- h0,<- List.drop_drop,List.drop_left,h0]
     simpa using ih k (fun r h=>hr r (List.mem_cons_of_mem _ h)) (by simpa using hk)
  rw[Dk rows lo jy (by omega)] at this
  have e:rows.drop lo=(rows.take hi).drop lo++rows.drop hi:=by
   rw[<- List.drop_append_of_le_length (by simp;omega),List.take_append_drop]
  rw[e,List.flatten_append] at this
  exact this.pre
 ·intro r hr;exact jy r (List.mem_of_mem_take (List.mem_of_mem_drop hr))
 ·simp[hl]
 ·intro i r x hr hx
  simp only[List.getElem?_drop,List.getElem?_take] at hr hx
  split at hr
  ·rename_i nU;simp only[nU,if_true] at hx;exact hP _ _ _ hr hx
  ·cases hr
end
section
variable {cs ds vs:List Value}{cap off m s:Nat}{A:Addr}{w:World}{p:Prop}{ao:Option Addr}
variable [Rnd]
def Ef{G:Type}(P:Program)(n:Nat)(F:List Nat)(Nv:World)(env:List (Nat×Value))(L:List Asrt)(o:Oper)(φ:G->Prop)(val:G->Value)(L':G->List Asrt):Prop:=
 ∀ a w,SS n F Nv env L a w->∃ g w',(execOp a.eval o).run P w = .ok (.value (val g)) w'/\φ g/\Hp F Nv w' (L' g)
def nZ{G:Type}(P:Program)(n:Nat)(F:List Nat)(Nv:World)(env:List (Nat×Value))(L:List Asrt)(o:Oper)(φ:G->Prop)(val:G->Value)(L':G->List Asrt):Prop:=
 ∀ a w,SS n F Nv env L a w->∃ g w',(execOp a.eval o).run P w = .ok (.value (val g)) w'/\φ g/\Hp F Nv w' (L' g)/\Ext w w'
def aa(P:Program)(n:Nat)(F:List Nat)(Nv:World)(env:List (Nat×Value))(L:List Asrt)(o:Oper)(L':List Asrt):Prop:=
 ∀ a w,SS n F Nv env L a w->∃ w',dE P o a w w'/\Hp F Nv w' L'
theorem nZ.ef{G:Type}{P:Program}{n:Nat}{F:List Nat}{Nv:World}{env:List (Nat×Value)}{L:List Asrt}{o:Oper}{φ:G->Prop}{val:G->Value}{L':G->List Asrt}(h:nZ P n F Nv env L o φ val L'):Ef P n F Nv env L o φ val L':=fun a w hs=>let ⟨g,w',h1,h2,h3,_⟩:=h a w hs;⟨g,w',h1,h2,h3⟩
section
variable {P:Program} {n:Nat} {F:List Nat} {Nv:World} {env:List (Nat×Value)} {L R:List Asrt} {eA:Array Oper} {Q:Exit->Act->World->Prop} {eZ:List Oper}
 {dd:Nat} {d:Option Tmp} {ty:TypeId} {pos:String} {after:Array Edge} {g:Option (Nat×Bool)} {x y c:Operand} {v u:Value} {t e T:TypeId} {sz tT:Nat}
theorem xA{f k:Nat}{A':Addr}(hf:w8 P t f k)[hx:Nu (eo env x) (some (.pointer (some A)))][hA:Nu (A.add k) A']:Qt P n F Nv env L ⟨d,.fieldAddr t x f,ty,pos,after,g⟩ (.pointer (some A')):=by
 have hA:=hA.1
 intro a w h;subst hA;simp[execOp,h.eval hx.1,hf A w]
theorem xB(hT:mz P t)(hx:eo env x=some (.pointer (some A)))(hR:∀ w,Hp F Nv w L->w.cell? A=some v):Qt P n F Nv env L ⟨d,.load t x,ty,pos,after,g⟩ v:=by
 intro a w h
 have:=congrFun hT w
 simp[execOp,h.eval hx,Instr.loadAt,Instr.sureAddr,loadVar,this,hR w h.hp]
theorem wi(hT:uK P t s)[hx:Nu (eo env x) (some (.pointer (some A)))][hl:Nu (Nat.beq cs.length s) true](hR:∀ w,Hp F Nv w L->∀ j u,cs[j]?=some u->w.cell? (A.add j)=some u):
  Qt P n F Nv env L ⟨d,.load t x,ty,pos,after,g⟩ (.agg cs.toArray):=by
 intro a w h
 have h1:=congrFun hT.1 w
 have h2:=congrFun hT.2 w
 have h3:=run_loadCells_list (P:=P) w A cs (hR w h.hp)
 rw[(Nat.eq_of_beq_eq_true hl.1)] at h3
 simp[execOp,h.eval hx.1,Instr.loadAt,Instr.sureAddr,loadVar,h1,h2,h3]
theorem xG{b:Nat}(hm:Pick L (stb b T cs) R)(hv:cs[off]?=some v):∀ w,Hp F Nv w L->w.cell? ⟨b,off,none⟩=some v:=by
 intro w h
 have:=dF.1 (h.ok _ hm.mem)
 rw[cell_of_row w b off _ T (0,0) this]
 simpa using hv
theorem G2{b:Nat}(hm:Pick L (stb b T cs) R)(hv:∀ j u,ds[j]?=some u->cs[off+j]?=some u):∀ w,Hp F Nv w L->∀ j u,ds[j]?=some u->w.cell? ((⟨b,off,none⟩:Addr).add j)=some u:=by
 intro w h j u hu
 rw[Addr.add_lit]
 exact xG hm (hv j u hu) w h
theorem xM{b:Nat}(hm:Pick L (stb b T cs) R):∀ w,Hp F Nv w L->∀ j u,cs[j]?=some u->w.cell? ((⟨b,0,none⟩:Addr).add j)=some u:=
 G2 hm (fun j u hu=>by simpa using hu)
theorem oQ{b len:Nat}(hm:Pick L (row (.slice (some ⟨b,0,none⟩) len cap) e sz cs) R)(hv:cs[off]?=some v):∀ w,Hp F Nv w L->w.cell? ⟨b,off,none⟩=some v:=by
 intro w h
 obtain⟨m,hm⟩:=h.ok _ hm.mem
 have:=hm.cells (g:=b) rfl off v hv
 rwa [Addr.add_lit,Nat.zero_add] at this
theorem vB{b len:Nat}(hm:Pick L (row (.slice (some ⟨b,0,none⟩) len cap) e sz cs) R)(hv:∀ j u,ds[j]?=some u->cs[off+j]?=some u):
  ∀ w,Hp F Nv w L->∀ j u,ds[j]?=some u->w.cell? ((⟨b,off,none⟩:Addr).add j)=some u:=by
 intro w h j u hu
 rw[Addr.add_lit]
 exact oQ hm (hv j u hu) w h
theorem wg[hx:Nu (eo env x) (some v)][hc:Nu v.cells cs.toArray]:
  nZ P n F Nv env L ⟨d,.box T x,ty,pos,after,g⟩ (fun _:Nat=>True) (fun b => .pointer (some ⟨b,0,none⟩)) (fun b=>stb b T cs::L):=by
 intro a w h
 refine⟨w.heap.size,w.alloc (.cells cs.toArray T (0,0)),?_,trivial,h.hp.alloc _,.alloc _ _⟩
 simp[execOp,h.eval hx.1,Instr.box,newVar,newRow,newObj,Sem.run,hc.1]
theorem xW(hz:jk P T v)[hc:Nu v.cells cs.toArray]:
  nZ P n F Nv env L ⟨d,.alloc T,ty,pos,after,g⟩ (fun _:Nat=>True) (fun b => .pointer (some ⟨b,0,none⟩)) (fun b=>stb b T cs::L):=by
 intro a w h
 have:=congrFun hz w
 refine⟨w.heap.size,w.alloc (.cells cs.toArray T (0,0)),?_,trivial,h.hp.alloc _,.alloc _ _⟩
 simp[execOp,Instr.alloc,this,newVar,newRow,newObj,Sem.run,hc.1]
def oo(cs:List Value)(off:Nat)(vs:List Value):List Value:=cs.take off++vs++cs.drop (off+vs.length)
theorem Hp.front{x:Asrt}(h:Hp F Nv w L)(hm:Pick L x R):Hp F Nv w (x::R):=h.sub (.cons hm .all)
theorem Hp.setRow{w:World}{b:Nat}{cs ds:List Value}(h:Hp F Nv w L)(hm:Pick L (stb b T cs) R):Hp F Nv (w.setRow b ds.toArray) (stb b T ds::R):=by
 have hk:=dF.1 (h.ok _ hm.mem)
 refine(h.front hm).upd (x:=stb b T cs) (y:=stb b T ds) .here rfl ⟨rfl,Nat.le_refl _⟩ rfl (by simp) (fun k _ vV=>setRow_other w b k _ (by simpa [dG] using vV)) (dF.2 (setRow_heap w b _ _ _ _ hk)) ?_
 intro b' hb'
 simp only[dG,List.mem_singleton] at hb'
 subst hb'
 exact⟨by simpa using h.lt _ hm.mem b' (by simp[dG]),.inl (by simp[dG])⟩
theorem G3{b:Nat}(hT:gA P t s)(hx:eo env x=some (.pointer (some ⟨b,off,none⟩)))(hy:eo env y=some v)(hv:v.cells=vs.toArray)(hs:vs.length=s)(h1:∀ u∈vs,u.oneCell'=true)(hm:Pick L (stb b T cs) R)(xF:off+s<=cs.length)(AG:oo cs off vs=ds):
  aa P n F Nv env L ⟨none,.store t x y,ty,pos,after,g⟩ (stb b T ds::R):=by
 intro a w h
 subst AG
 have hk:=dF.1 (h.hp.ok _ hm.mem)
 have n4:=run_storeCells_at (P:=P) b off T vs 0 cs.toArray w hk (by simp;omega) h1
 have h2:=congrFun hT w
 refine⟨_,.inl ?_,h.hp.setRow hm (ds:=oo cs off vs)⟩
 simp only[Nat.add_zero] at n4
 simp[execOp,h.eval hx,h.eval hy,Instr.storeAt,Instr.sureAddr,storeVar,h2,hv,hs,n4,oo]
theorem w9(ht:P.underlying t=some (.slice e))[hx:Nu (eo env x) (some (.slice ao m cap))]:Qt P n F Nv env L ⟨d,.call ⟨.builtin .len,#[x],#[t]⟩,ty,pos,after,g⟩ (.int .i64 m):=by
 intro a w h
 have Bd:P.underlying t=some (.slice (P.elem t)):=by simp[Program.elem,ht]
 simp[execOp,h.eval hx.1,resolve,invoke,builtin,run_len_slice w t _ ao m cap Bd,goInt]
theorem xY{A':Addr}{k:IntKind}{i:Int}(ht:elT P t e sz tT)[hx:Nu (eo env x) (some (.slice (some A) m cap))][hy:Nu (eo env y) (some (.int k i))](h0:0<=i)(h1:i<m)(hA:A.add (i.toNat*sz)=A'):Qt P n F Nv env L ⟨d,.indexAddr t x y,ty,pos,after,g⟩ (.pointer (some A')):=by
 intro a w h
 subst hA
 obtain⟨inf,z,hi,hz,ne,_,_⟩:=ht.inf
 simp[execOp,h.eval hx.1,h.eval hy.1,Instr.indexAt,run_underlying ht.sl,asIntOf,h0,h1,Go.sizeOf,typeInfo,hi,ne]
theorem Hp.rowShape(h:Hp F Nv w L)(hm:Pick L (row (.slice ao m cap) e sz cs) R):
  cs.length=m*sz/\m<=cap/\cap<=maxLen/\((ao=none/\m=0/\cap=0)\/∃ b,ao=some ⟨b,0,none⟩):=by
 obtain⟨m',h1,h2⟩:=h.ok _ hm.mem
 rcases h2 with⟨hv,hn⟩ | ⟨b,n7,pA,hv,_,hh,Ad,zk,zN,Ak⟩
 ·injection hv with e1 e2 e3;subst e1 e2 e3 hn;exact⟨by simpa using h1,by simp,by simp,.inl ⟨rfl,rfl,rfl⟩⟩
 ·injection hv with e1 e2 e3;subst e1 e2 e3;exact⟨h1,Ad,zk,.inr ⟨b,rfl⟩⟩
theorem Nj{l:List Oper}(hk:∀ w,Hp F Nv w L->p)(k:p->WL P n F Nv eA Q l env L):WL P n F Nv eA Q l env L:=fun a w h=>k (hk w h.hp) a w h
theorem Pf{cc:Code}(hk:∀ w,Hp F Nv w L->p)(k:p->WC P n F Nv Q cc env L):WC P n F Nv Q cc env L:=fun a w h=>k (hk w h.hp) a w h
theorem Rd{ex:Exit}(hk:∀ w,Hp F Nv w L->p)(k:p->WX n F Nv Q ex env L):WX n F Nv Q ex env L:=fun a w h=>k (hk w h.hp) a w h
theorem N2{tl:Nat->Bool}{Ls:List Asrt}{fuel:Nat}{listed:Array Bool}{QD:Act->World->Prop}(hk:∀ w,Hp F Nv w L->p)(k:p->WD P n F Nv eA tl Ls QD fuel listed env L):WD P n F Nv eA tl Ls QD fuel listed env L:=fun a w h=>k (hk w h.hp) a w h
theorem J3{bo:Option Addr}{k qr:Nat}{vy:List Value}{dty:TypeId}(ht:elT P t e sz tT)(hx:eo env x=some (.slice ao m cap))(hy:eo env y=some (.slice bo k qr))(hm:Pick L (row (.slice ao m cap) e sz cs) R)(hl:vy.length=k*sz)(zA:∀ w,Hp F Nv w L->vy≠[]->∃ A,bo=some A/\∀ j u,vy[j]?=some u->w.cell? (A.add j)=some u)(h1:∀ u∈vy,u.oneCell'=true)(Em:m+k<=maxLen)(xE:(m+k)*tT<=140737488355328):
  Ef P n F Nv env L ⟨d,.call ⟨.builtin .append,#[x,y],#[t,t]⟩,dty,pos,after,g⟩ (fun _:Option Addr×Nat=>True) (fun p => .slice p.1 (m+k) p.2) (fun p=>row (.slice p.1 (m+k) p.2) e sz (cs++vy)::R):=by
 intro a w h
 obtain⟨inf,z,hi,hz,ne,hb,B4⟩:=ht.inf
 obtain⟨m',ip⟩:=h.hp.ok _ hm.mem
 have Dm:m'=m:=by
  have hs:=h.hp.rowShape hm
  have:=ip.1.symm.trans hs.1
  exact Nat.eq_of_mul_eq_mul_right ht.pos this
 subst Dm
 subst ne
 subst hb
 have AH:=h.hp.rowShape hm
 by_cases zW:k=0
 ·subst zW
  have hn:vy=[]:=List.eq_nil_of_length_eq_zero (by simpa using hl)
  subst hn
  refine⟨(ao,cap),w,?_,trivial,?_⟩
  ·have qm:m'<=cap:=AH.2.1
   cases bo <;> cases ao <;> simp[execOp,h.eval hx,h.eval hy,resolve,invoke,builtin,Builtin.append_,run_underlying ht.sl,Go.sizeOf,typeInfo,hi,Builtin.lenOf,Builtin.firstCells,qm,loadCells,loadCellsFrom,storeCells]
  ·simpa using h.hp.front hm
 ·have n9:vy≠[]:=by
   intro e;subst e
   have:0=k*inf.size:=by simpa using hl
   have:=Nat.mul_pos (Nat.pos_of_ne_zero zW) ht.pos
   omega
  obtain⟨A,rfl,hA⟩:=zA w h.hp n9
  have h63':((m'+k:Nat):Int)<=9223372036854775807:=by simp only[maxLen] at Em;omega
  obtain⟨v',w',hr,ho,Bz,_⟩:=run_append_own (P:=P) w 0 t dty e inf z inf.size inf.bytes ht.sl hi hz rfl rfl B4 ht.pos _ m' cs ip A k qr vy hl hA h1 Em xE (Nat.zero_le _)
  have zs:∀ b,v'.ownBlock=some b->(Value.slice ao m' cap).ownBlock=some b\/w.heap.size<=b:=by
   rcases ip.2 with⟨hv,hn⟩ | ⟨b0,n7,pA,hv,_,hh,Ad,zk,zN,Ak⟩
   ·injection hv with e1 e2 e3
    subst e1 e3 hn
    have hq:=run_append_nil (P:=P) w t dty e inf z ht.sl hi hz A k qr vy hl hA (by omega) (by omega) (by simp only[Nat.zero_add] at xE;omega)
    rw[hr] at hq
    injection hq with e1 _
    subst e1
    intro b hb;simp[Value.ownBlock] at hb;exact .inr (by omega)
   ·injection hv with e1 e2 e3
    subst e1 e3
    by_cases hroom:m'+k<=cap
    ·have xF:m'*inf.size+vy.length<=pA.size:=by rw[hl,zN,<- Nat.add_mul];exact Nat.mul_le_mul_right _ hroom
     have hq:=run_append_room (P:=P) w t dty e inf ht.sl hi b0 m' cap pA hh A k qr vy hl hA h1 hroom xF
     rw[hr] at hq
     injection hq with e1 _
     subst e1
     intro b hb;exact .inl hb
    ·have holds:∀ j u,cs[j]?=some u->w.cell? ((⟨b0,0,none⟩:Addr).add j)=some u:=ip.cells (g:=b0) rfl
     have hq:=run_append_grow (P:=P) w t dty e inf z ht.sl hi hz ⟨b0,0,none⟩ m' cap cs ip.1 holds A k qr vy hl hA (by omega) (by omega) (growslice_fits (by omega) xE)
     rw[hr] at hq
     injection hq with e1 _
     subst e1
     intro b hb;simp[Value.ownBlock] at hb;exact .inr (by omega)
  have hdr:w.drawn<=w'.drawn:=by
   rcases ip.2 with⟨hv,hn⟩ | ⟨b0,n7,pA,hv,_,hh,Ad,zk,zN,Ak⟩
   ·injection hv with e1 e2 e3
    subst e1 e3 hn
    have hq:=run_append_nil (P:=P) w t dty e inf z ht.sl hi hz A k qr vy hl hA (by omega) (by omega) (by simp only[Nat.zero_add] at xE;omega)
    rw[hr] at hq
    injection hq with _ e1
    rw[e1];first | exact Nat.le_refl _ | exact Nat.le_add_right _ _
   ·injection hv with e1 e2 e3
    subst e1 e3
    by_cases hroom:m'+k<=cap
    ·have xF:m'*inf.size+vy.length<=pA.size:=by rw[hl,zN,<- Nat.add_mul];exact Nat.mul_le_mul_right _ hroom
     have hq:=run_append_room (P:=P) w t dty e inf ht.sl hi b0 m' cap pA hh A k qr vy hl hA h1 hroom xF
     rw[hr] at hq
     injection hq with _ e1
     rw[e1];first | exact Nat.le_refl _ | exact Nat.le_add_right _ _
    ·have holds:∀ j u,cs[j]?=some u->w.cell? ((⟨b0,0,none⟩:Addr).add j)=some u:=ip.cells (g:=b0) rfl
     have hq:=run_append_grow (P:=P) w t dty e inf z ht.sl hi hz ⟨b0,0,none⟩ m' cap cs ip.1 holds A k qr vy hl hA (by omega) (by omega) (growslice_fits (by omega) xE)
     rw[hr] at hq
     injection hq with _ e1
     rw[e1];first | exact Nat.le_refl _ | exact Nat.le_add_right _ _
  obtain⟨p,rfl⟩:∃ p:Option Addr×Nat,v' = .slice p.1 (m'+k) p.2:=by
   rcases ho.2 with⟨hv,hn⟩ | ⟨b,n7,pA,hv,_⟩
   ·exact⟨(none,0),by rw[hv,hn]⟩
   ·exact⟨(some ⟨b,0,none⟩,n7),by rw[hv]⟩
  refine⟨p,w',?_,trivial,?_⟩
  ·simp[execOp,h.eval hx,h.eval hy,resolve,invoke,builtin,hr]
  ·refine(h.hp.front hm).upd (x:=row (.slice ao m' cap) e inf.size cs) (y:=row (.slice p.1 (m'+k) p.2) e inf.size (cs++vy)) .here Bz.os ⟨Bz.tape,hdr⟩ Bz.output Bz.size ?_ ⟨_,ho⟩ ?_
   ·intro j hj En
    refine Bz.block j hj (fun hc=>En ?_)
    simp[row,<- hc]
   ·intro b hb
    have hb':(Value.slice p.1 (m'+k) p.2).ownBlock=some b:=by simpa [row] using hb
    refine⟨(ho.lt b hb').2,?_⟩
    rcases zs b hb' with h2 | h2
    ·exact .inl (by simp[row,h2])
    ·exact .inr h2
theorem Hp.nilRow(h:Hp F Nv w L)(e:TypeId)(sz:Nat):Hp F Nv w (row (.slice none 0 0) e sz []::L):=
 h.add (x:=row (.slice none 0 0) e sz []) ⟨0,World.ownsRow_nil w 0 e sz⟩ (by simp[row,Value.ownBlock]) (by simp[row,Value.ownBlock]) (by simp[row,Value.ownBlock])
theorem WL.nilRow{l:List Oper}(e:TypeId)(sz:Nat)(k:WL P n F Nv eA Q l env (row (.slice none 0 0) e sz []::L)):WL P n F Nv eA Q l env L:=fun a w h=>k a w (h.world (h.hp.nilRow e sz))
theorem WC.nilRow{cc:Code}(e:TypeId)(sz:Nat)(k:WC P n F Nv Q cc env (row (.slice none 0 0) e sz []::L)):WC P n F Nv Q cc env L:=fun a w h=>k a w (h.world (h.hp.nilRow e sz))
theorem ws{parts:Array (Nat×Operand)}{pv:Array (Nat×Value)}(ht:elT P t e sz tT)(hp:∀ a w,SS n F Nv env L a w->(parts.map fun(i,x)=>(i,a.eval x))=pv)(hr:∀ w,(Instr.buildSlice t m pv).run P w = .ok (.slice (some ⟨w.heap.size,0,none⟩) m m) (w.alloc (.cells cs.toArray e)))[hl:Nu cs.length (m*sz)](hm:m<=maxLen):
  nZ P n F Nv env L ⟨d,.buildSlice t m parts,ty,pos,after,g⟩ (fun _:Nat=>True) (fun b => .slice (some ⟨b,0,none⟩) m m) (fun b=>row (.slice (some ⟨b,0,none⟩) m m) e sz cs::L):=by
 have hl:=hl.1
 intro a w h
 refine⟨w.heap.size,w.alloc (.cells cs.toArray e),?_,trivial,?_,.alloc _ _⟩
 ·simp only[execOp,hp a w h]
  simp[hr w]
 ·refine(h.hp.ext (.alloc w _)).add ?_ (by simp[row,Value.ownBlock]) (by simp[row,Value.ownBlock,h.hp.size]) ?_
  ·exact⟨m,hl,.inr ⟨w.heap.size,m,cs.toArray,rfl,Nat.zero_le _,heap_alloc_new w _,Nat.le_refl _,hm,by simpa using hl,by simp[<- hl]⟩⟩
  ·intro y hy b hb hc
   simp[row,Value.ownBlock] at hb
   have:=h.hp.lt y hy b hc
   omega
theorem wm{parts:Array (Nat×Operand)}{pv:Array (Nat×Value)}(hp:∀ a w,SS n F Nv env L a w->(parts.map fun(i,x)=>(i,a.eval x))=pv)(hr:∀ w,(Instr.build t pv).run P w = .ok v w):Qt P n F Nv env L ⟨d,.build t parts,ty,pos,after,g⟩ v:=by
 intro a w h
 simp only[execOp,hp a w h]
 simp[hr w]
theorem Hp.rowPut{b:Nat}(h:Hp F Nv w L)(h1:∀ u∈vs,u.oneCell'=true)(hm:Pick L (row (.slice (some ⟨b,0,none⟩) m cap) e sz cs) R)(xF:off+vs.length<=cs.length):
  ∃ w',(storeCells ⟨b,off,none⟩ vs).run P w = .ok () w'/\Hp F Nv w' (row (.slice (some ⟨b,0,none⟩) m cap) e sz (oo cs off vs)::R):=by
 obtain⟨m',ip⟩:=h.ok _ hm.mem
 rcases ip.2 with⟨zI,_⟩ | ⟨b0,n7,pA,zI,Be,hh,Ad,zk,zN,Ak⟩
 ·cases zI
 injection zI with e1 e2 e3
 injection e1 with e1
 injection e1 with e1
 subst e1 e2 e3
 have hlc:cs.length<=pA.size:=by rw[<- Ak,List.length_take];simp;omega
 have n4:=run_storeCells_at (P:=P) b off e vs 0 pA w hh (by omega) h1
 simp only[Nat.add_zero] at n4
 refine⟨w.setRow b (List.take off pA.toList++vs++List.drop (off+vs.length) pA.toList).toArray,n4,(h.front hm).upd (x:=row (.slice (some ⟨b,0,none⟩) m cap) e sz cs) (y:=row (.slice (some ⟨b,0,none⟩) m cap) e sz (oo cs off vs)) .here rfl ⟨rfl,Nat.le_refl _⟩ rfl (by simp) (fun k _ vV=>setRow_other w b k _ (by simpa [row,Value.ownBlock] using vV)) ?_ ?_⟩
 ·refine⟨m,?_,.inr ⟨b,cap,_,rfl,Be,setRow_heap w b _ _ _ _ hh,Ad,zk,?_,?_⟩⟩
  ·rw[<- ip.1];simp[oo];omega
  ·simp;omega
  ·have xD:cs.length=m*sz:=ip.1
   have Dn:cs=pA.toList.take (m*sz):=Ak.symm
   rw[<- xD]
   apply List.ext_getElem?
   intro j
   simp only[oo]
   rw[List.getElem?_take]
   by_cases hj:j<cs.length
   ·simp only[hj,if_true]
    have e1:pA.toList.take off=cs.take off:=by rw[Dn,List.take_take];congr 1;omega
    rw[e1]
    have e2:(List.take off cs++vs).length=off+vs.length:=by simp;omega
    by_cases hj1:j<off+vs.length
    ·rw[List.getElem?_append_left (l₁:=List.take off cs++vs) (by omega)]
     rw[List.getElem?_append_left (l₁:=List.take off cs++vs) (by omega)]
    ·have e3:cs[j]?=pA.toList[j]?:=by
      have:(List.take (m*sz) pA.toList)[j]?=pA.toList[j]?:=by rw[List.getElem?_take,if_pos (by omega)]
      rw[<- this,<- Dn]
     rw[List.getElem?_append_right (by omega),List.getElem?_append_right (by omega),e2,List.getElem?_drop,List.getElem?_drop,
      show off+vs.length+(j-(off+vs.length))=j from by omega,e3]
   ·simp only[hj,if_false]
    rw[List.getElem?_eq_none]
    simp;omega
 ·intro b' hb'
  simp[row,Value.ownBlock] at hb'
  subst hb'
  exact⟨by simpa using (Array.getElem?_eq_some_iff.1 hh).1,.inl (by simp[row,Value.ownBlock])⟩
theorem kQ{b:Nat}(hT:gA P t s)[hx:Nu (eo env x) (some (.pointer (some ⟨b,off,none⟩)))][hy:Nu (eo env y) (some v)][hv:Nu v.cells vs.toArray][hs:Nu (Nat.beq vs.length s) true](h1:∀ u∈vs,u.oneCell'=true)(hm:Pick L (row (.slice (some ⟨b,0,none⟩) m cap) e sz cs) R)(xF:off+s<=cs.length)(AG:oo cs off vs=ds):
  aa P n F Nv env L ⟨none,.store t x y,ty,pos,after,g⟩ (row (.slice (some ⟨b,0,none⟩) m cap) e sz ds::R):=by
 have hx:=hx.1
 have hy:=hy.1
 have hv:=hv.1
 have hs:=Nat.eq_of_beq_eq_true hs.1
 intro a w h
 subst AG
 obtain⟨w',n4,hp⟩:=h.hp.rowPut (P:=P) (off:=off) h1 hm (by omega)
 have h2:=congrFun hT w
 refine⟨w',.inl ?_,hp⟩
 simp[execOp,h.eval hx,h.eval hy,Instr.storeAt,Instr.sureAddr,storeVar,h2,hv,hs,n4]
end
end
section
variable {w:World}{f:FuncId}{vs:List Value}{α:Type}
variable [Rnd]
abbrev fps(L:List Asrt):List Nat:=L.flatMap (·.fp)
def lC:Nat->List Value->List (Nat×Value)
 | _,[]=>[]
 | k,v::vs=>(k,v)::lC (k+1) vs
theorem WU:∀(vs:List Value) (k i:Nat) (v:Value),lk (lC k vs) i=some v->k<=i/\vs[i-k]?=some v
 | [],k,i,v,h=>by simp[lC,lk] at h
 | u::vs,k,i,v,h=>by
  simp only[lC,lk] at h
  by_cases hi:i=k
  ·subst hi;simp at h;subst h;simp
  ·rw[p7 hi] at h
   obtain⟨h1,h2⟩:=WU vs (k+1) i v h
   refine⟨by omega,?_⟩
   rw[show i-k=(i-(k+1))+1 from by omega]
   simpa using h2
theorem N3{P:Program}{fn:Func}{c:Code}{R:Ending->World->Prop}{n:Nat}{pre:List Asrt}{env:List (Nat×Value)}(hf:P.funcs[f]?=some fn)(hb:fn.body=some c)(hn:fn.ntmps=n)(ne:Nat.ble vs.length n=true)(ip:Hp (fps pre) w w pre)(he:lC 0 vs=env)(k : @WC Rnd.base P n (fps pre) w (bodyPost P fn R) c env pre):Calls P f vs.toArray w R:=by
 subst he
 refine QY (m:=0) (callsIn_of_wp (F := @FN Rnd.base) hf hb trivial (k _ _ (@SS.mk Rnd.base _ _ _ _ _ _ _ rfl ?_ ?_ ip)) rfl)
 ·have:=Nat.le_of_ble_eq_true ne
  simp[hn];omega
 ·intro i v hv
  obtain⟨_,h⟩:=WU vs 0 i v hv
  have nU:i<vs.length:=by have:=(List.getElem?_eq_some_iff.1 h).1;simpa using this
  rw[Array.getElem?_append_left (by simpa using nU)]
  simpa using h
section
variable {P:Program} {n:Nat} {F:List Nat} {Nv:World} {env:List (Nat×Value)} {L Lc Lr R:List Asrt} {eA:Array Oper} {Q:Exit->Act->World->Prop} {eZ:List Oper}
 {dd:Nat} {d:Option Tmp} {ty:TypeId} {pos:String} {after:Array Edge} {g:Option (Nat×Bool)} {v u:Value} {t e T:TypeId} {sz tT:Nat}
theorem Hp.owns(h:Hp F Nv w L)(hs:Sel L Lc Lr):Hp (fps Lc) w w Lc:=by
 have h':=h.sub hs
 exact⟨rfl,⟨rfl,Nat.le_refl _⟩,rfl,Nat.le_refl _,fun _ _ _=>rfl,h'.ok,h'.lt,fun x hx b hb => .inl (List.mem_flatMap.2 ⟨x,hx,hb⟩),h'.sep⟩
theorem Sel.mem{L L' M:List α}(h:Sel L L' M){x:α}(hx:x∈L'):x∈L:=h.perm.mem_iff.2 (List.mem_append_left _ hx)
theorem Sel.memr{L L' M:List α}(h:Sel L L' M){x:α}(hx:x∈M):x∈L:=h.perm.mem_iff.2 (List.mem_append_right _ hx)
theorem Sel.fps(hs:Sel L Lc Lr):∀ b∈fps Lc,∃ x∈L,b∈x.fp:=fun b hb=>by
 obtain⟨x,hx,zR⟩:=List.mem_flatMap.1 hb
 exact⟨x,hs.mem hx,zR⟩
theorem rR.call{Pr Pr':List Value->α->Prop}{l:List α}(h:rR F Nv v sz Pr l)(hp:Hp F Nv w L)(hs:Sel L Lc Lr)(ne:0<sz)(hPr:∀ r x,Pr r x->Pr' r x):rR (Sep.fps Lc) w v sz Pr' l:=
 h.at hp hs.fps ne hPr
theorem rR.call0{Pr:List Value->α->Prop}{l:List α}(h:rR F Nv v sz Pr l)(hp:Hp F Nv w L)(ne:0<sz):rR [] w v sz Pr l:=
 h.at hp (by simp) ne (fun _ _ h=>h)
theorem Hp.cellsRow{ao:Option Addr}{m cap:Nat}{cs:List Value}(h:Hp F Nv w L)(hs:Sel L Lc Lr)(hm:Pick Lr (row (.slice ao m cap) e sz cs) R)(n9:cs≠[]):
  ∃ b,ao=some ⟨b,0,none⟩/\mr (fps Lc) w ⟨b,0,none⟩ cs:=by
 obtain⟨m',ip⟩:=h.ok _ (hs.memr hm.mem)
 rcases ip.2 with⟨hv,hn⟩ | ⟨b,n7,pA,hv,_,_⟩
 ·subst hn;exact absurd (List.eq_nil_of_length_eq_zero (by simpa using ip.1)) n9
 ·injection hv with e1 e2 e3
  subst e1
  refine⟨b,rfl,fun hb=>?_,fun j u hu=>ip.cells (g:=b) rfl j u hu⟩
  obtain⟨x,hx,zR⟩:=List.mem_flatMap.1 hb
  have hp:(Lc++Lr).Pairwise fun x y=>∀ b∈x.fp,b∉y.fp:=
   (List.Perm.pairwise_iff (fun {x y} hxy b hb hc=>hxy b hc hb) hs.perm).1 h.sep
  exact(List.pairwise_append.1 hp).2.2 x hx _ hm.mem b zR (by simp[row,Value.ownBlock])
inductive Eos (env:List (Nat×Value)):List Operand->List Value->Prop
 | nil:Eos env [] []
 | cons {x:Operand} {v:Value} {l:List Operand} {vs:List Value} (h:eo env x=some v) (t:Eos env l vs):Eos env (x::l) (v::vs)
theorem Eos.map{a:Act}{w:World}{l:List Operand}{vs:List Value}(he:Eos env l vs)(h:SS n F Nv env L a w):l.map a.eval=vs:=by
 induction he with
 | nil=>rfl
 | cons hx _ ih=>rw[List.map_cons,h.eval hx,ih]
theorem za{l:List Operand}{BA:Array TypeId}(zC:∀ args w,(callFunc f args).run P w = .ok (.enter f args) w)(he:Eos env l vs):
  ∀ a w,SS n F Nv env L a w->(execOp a.eval ⟨d,.call ⟨.value (.func f),l.toArray,BA⟩,ty,pos,after,g⟩).run P w = .ok (.enter f vs.toArray) w:=by
 intro a w h
 have:=he.map h
 simp[execOp,resolve,Act.eval,Deferred.ofValue,invoke,zC,this]
theorem qi{c:Operand}{l:List Operand}{caps:List Value}{BA:Array TypeId}(zC:∀ args w,(callFunc f args).run P w = .ok (.enter f args) w)[hc:Nu (eo env c) (some (.func (.func f) #[] caps.toArray))](he:Eos env l vs):
  ∀ a w,SS n F Nv env L a w->(execOp a.eval ⟨d,.call ⟨.value c,l.toArray,BA⟩,ty,pos,after,g⟩).run P w = .ok (.enter f (vs++caps).toArray) w:=by
 intro a w h
 have:=he.map h
 simp[execOp,resolve,h.eval hc.1,Deferred.ofValue,invoke,zC,this]
theorem WL.b{o:Oper}{vs:Array Value}{M:List Asrt}(hg:gd env eA o=some true)(hd:o.dst=some dd)(lp:Nat.blt dd n=true)(iT:∀ a w,SS n F Nv env L a w->(execOp a.eval o).run P w = .ok (.enter f vs) w)(hs:Sel L Lc Lr)(hc:∀ w,Hp F Nv w L->Calls P f vs w fun e w'=>e = .returned v/\Hp (fps Lc) w w' M)(k:WL P n F Nv eA Q eZ ((dd,v)::env) (M++Lr)):WL P n F Nv eA Q (o::eZ) env L:=
 N8 (G:=Unit) (φ:=fun _=>True) (val:=fun _=>v) (M:=fun _=>M) hg hd lp iT hs (fun w h=>(hc w h).mono fun _ _ ⟨h1,h2⟩=>⟨(),h1,trivial,h2⟩) (fun _ _=>k)
def cF:List Value->Value
 | [v]=>v
 | vs => .tuple vs.toArray
theorem GM{fn:Func}{tmps:Array Value}{rs:List ResultVar}(hr:fn.results=rs.toArray)(h:∀(i:Nat) (r:ResultVar) (v:Value),rs[i]?=some r->vs[i]?=some v->(match r with | .tmp t=>tmps.getD t undef=v | .cell a t=>((do loadVar t (<- asAddr (tmps.getD a undef)):Sem Value)).run P w = .ok v w))(hl:rs.length=vs.length):
  (results fn tmps).run P w = .ok (cF vs) w:=by
 have hm:∀(rs:List ResultVar) (vs:List Value),rs.length=vs.length->(∀(i:Nat) (r:ResultVar) (v:Value),rs[i]?=some r->vs[i]?=some v->(match r with | .tmp t=>tmps.getD t undef=v | .cell a t=>((do loadVar t (<- asAddr (tmps.getD a undef)):Sem Value)).run P w = .ok v w))->
   (rs.mapM fun(r:ResultVar)=>match r with | .tmp t=>(pure (tmps.getD t undef):Sem Value) | .cell a t=>do loadVar t (<- asAddr (tmps.getD a undef))).run P w = .ok vs w:=by
  intro rs
  induction rs with
  | nil=>intro vs hl _;cases vs with | nil=>simp | cons=>simp at hl
  | cons r rs ih=>
   intro vs hl h
   cases vs with
   | nil=>simp at hl
   | cons v vs=>
    have h0:=h 0 r v rfl rfl
    have h1:=ih vs (by simpa using hl) (fun i r v hr hv=>h (i+1) r v (by simpa using hr) (by simpa using hv))
    rw[List.mapM_cons]
    cases r with
    | tmp t=>
     simp only at h0
     simp only[Sem.run_bind,Sem.run_pure,Result.andThen_ok]
     rw[h1,h0]
     rfl
    | cell a t=>
     simp only at h0
     rw[Sem.run_bind,h0,Result.andThen_ok,Sem.run_bind,h1,Result.andThen_ok,Sem.run_pure]
 have:=hm rs vs hl h
 unfold results
 rw[hr]
 rw[List.mapM_toArray,map_eq_pure_bind]
 simp only[Sem.run_bind]
 erw [this]
 simp only[Result.andThen_ok,Sem.run_pure]
 cases vs with
 | nil=>rfl
 | cons v vs=>cases vs with
  | nil=>rfl
  | cons u us=>simp[cF]
inductive ResV (P:Program) (F:List Nat) (Nv:World) (env:List (Nat×Value)) (L:List Asrt):List ResultVar->List Value->Prop
 | nil:ResV P F Nv env L [] []
 | tmp {t:Nat} {v:Value} {rs:List ResultVar} {vs:List Value} (h:lk env t=some v) (r:ResV P F Nv env L rs vs):ResV P F Nv env L (.tmp t::rs) (v::vs)
 | one {t ty:Nat} {A:Addr} {v:Value} {rs:List ResultVar} {vs:List Value} (h:lk env t=some (.pointer (some A))) (hT:mz P ty) (hR:∀ w,Hp F Nv w L->w.cell? A=some v)
   (r:ResV P F Nv env L rs vs):ResV P F Nv env L (.cell t ty::rs) (v::vs)
 | agg {t ty s:Nat} {A:Addr} {cs:List Value} {rs:List ResultVar} {vs:List Value} (h:lk env t=some (.pointer (some A))) (hT:uK P ty s) (hl:cs.length=s) (hR:∀ w,Hp F Nv w L->∀ j u,cs[j]?=some u->w.cell? (A.add j)=some u)
   (r:ResV P F Nv env L rs vs):ResV P F Nv env L (.cell t ty::rs) (.agg cs.toArray::vs)
theorem ResV.run{fn:Func}{rs:List ResultVar}{vs:List Value}(hr:fn.results=rs.toArray)(h:ResV P F Nv env L rs vs){a:Act}{w:World}(hs:SS n F Nv env L a w):
  (results fn a.tmps).run P w = .ok (cF vs) w:=by
 have:=GM (P:=P) (tmps:=a.tmps) (w:=w) (vs:=vs) hr ?_ ?_
 ·exact this
 ·clear hr
  induction h with
  | nil=>intro i r v h;simp at h
  | tmp h _ ih=>
   intro i r v h1 h2
   cases i with
   | zero=>simp at h1 h2;subst h1 h2;exact hs.get h
   | succ i=>exact ih i r v (by simpa using h1) (by simpa using h2)
  | one h hT hR _ ih=>
   intro i r v h1 h2
   cases i with
   | zero=>
    simp at h1 h2;subst h1 h2
    have e1:=hs.get h
    have e2:=congrFun hT w
    simp only[e1]
    simp[asAddr,loadVar,e2,hR w hs.hp]
   | succ i=>exact ih i r v (by simpa using h1) (by simpa using h2)
  | agg h hT hl hR _ ih=>
   intro i r v h1 h2
   cases i with
   | zero=>
    simp at h1 h2;subst h1 h2
    have e1:=hs.get h
    have e2:=congrFun hT.1 w
    have e3:=congrFun hT.2 w
    have e4:=run_loadCells_list (P:=P) w _ _ (hR w hs.hp)
    rw[hl] at e4
    simp only[e1]
    simp[asAddr,loadVar,e2,e3,e4]
   | succ i=>exact ih i r v (by simpa using h1) (by simpa using h2)
 ·clear hr
  induction h with
  | nil=>rfl
  | tmp _ _ ih=>simpa using ih
  | one _ _ _ _ ih=>simpa using ih
  | agg _ _ _ _ _ ih=>simpa using ih
omit [Rnd] in
theorem Li{fn:Func}{rs:List ResultVar}{vs:List Value}{R:Ending->World->Prop}(hr:fn.results=rs.toArray)(hv:ResV P F Nv env L rs vs)(k:∀ w,Hp F Nv w L->R (.returned (cF vs)) w):
  @WX Rnd.base n F Nv (bodyPost P fn R) .ret env L:=fun _ w h=>⟨h.defers,_,hv.run hr h,k w h.hp⟩
omit [Rnd] in
theorem Nh{fn:Func}{rs:List ResultVar}{vs:List Value}{R:Ending->World->Prop}(hr:fn.results=rs.toArray)(hv:ResV P F Nv env L rs vs)(k:∀ w,Hp F Nv w L->R (.returned (cF vs)) w):
  @WX Rnd.base n F Nv (bodyPost P fn R) .normal env L:=fun _ w h=>⟨h.defers,_,hv.run hr h,k w h.hp⟩
theorem Og{l:List Oper}{i:Nat}{b c:Bool}(hv:lk env i=some (.bool b))(hb:b=c)(k:WL P n F Nv eA Q l ((i,.bool c)::env) L):WL P n F Nv eA Q l env L:=by
 subst hb
 refine fun a w h=>k a w ⟨h.defers,h.size,fun j u hu=>?_,h.hp⟩
 simp only[lk] at hu
 by_cases hj:j=i
 ·subst hj;simp at hu;subst hu;exact h.ev _ _ hv
 ·rw[p7 hj] at hu;exact h.ev j u hu
theorem L0{tl:Nat->Bool}{Ls:List Asrt}{fuel:Nat}{listed:Array Bool}{QD:Act->World->Prop}{i:Nat}{b c:Bool}(hv:lk env i=some (.bool b))(hb:b=c)(k:WD P n F Nv eA tl Ls QD fuel listed ((i,.bool c)::env) L):WD P n F Nv eA tl Ls QD fuel listed env L:=by
 subst hb
 refine fun a w h=>k a w ⟨h.defers,h.size,fun j u hu=>?_,h.hp⟩
 simp only[lk] at hu
 by_cases hj:j=i
 ·subst hj;simp at hu;subst hu;exact h.ev _ _ hv
 ·rw[p7 hj] at hu;exact h.ev j u hu
end
end
section
variable {tl:Nat->Bool}{Ls:List Asrt}{fuel:Nat}{listed:Array Bool}{QD:Act->World->Prop}{o:Oper}
variable [Rnd]
def nth{α:Type}[Inhabited α](l:List α)(i:Int):α:=l.getD i.toNat default
theorem tY{α:Type}[Inhabited α]{l:List α}{i:Int}(_h0:0<=i)(h:i<l.length):l[i.toNat]'(by omega)=nth l i:=by
 unfold nth;rw[List.getD_eq_getElem?_getD,List.getElem?_eq_getElem (by omega)];rfl
theorem w64{m:Int}(h : -9223372036854775808<=m/\m<=9223372036854775807):IntKind.wrap .i64 m=m:=by
 rw[IntKind.wrap_i64];omega
theorem zu{c d:Bool}(h:c=d):some (Value.bool c)=some (Value.bool d):=by rw[h]
theorem w6{v u:Value}[h:Nu v u]:Ending.returned (cF [v]) = .returned u:=by rw[h.1];rfl
theorem qz{v v' u u':Value}[h:Nu v u][h':Nu v' u']:Ending.returned (cF [v,v']) = .returned (.tuple #[u,u']):=by rw[h.1,h'.1];rfl
theorem U4{v v' v'' u u' u'':Value}(h:v=u)(h':v'=u')(h'':v''=u''):Ending.returned (cF [v,v',v'']) = .returned (.tuple #[u,u',u'']):=by rw[h,h',h''];rfl
theorem mF:Ending.returned (cF []) = .returned (.tuple #[]):=rfl
section
variable {P:Program} {n:Nat} {F:List Nat} {Nv:World} {env:List (Nat×Value)} {L Lc Lr R:List Asrt} {eA:Array Oper} {Q:Exit->Act->World->Prop} {eZ:List Oper}
 {dd:Nat} {d:Option Tmp} {ty:TypeId} {pos:String} {after:Array Edge} {g:Option (Nat×Bool)} {x y:Operand} {v u:Value} {t e T:TypeId} {sz tT:Nat}
theorem Ol{G:Type}(φ:G->Prop)(iA:G->List (Nat×Value))(LI:G->List Asrt)(k:Nat){l:List Oper}(k1:WL P n F Nv eA (Exit.then (fun a w=>∃ g,φ g/\SS n F Nv (iA g) (LI g) a w) Q) (l.take k) env L)(k2:∀ g,φ g->WL P n F Nv eA Q (l.drop k) (iA g) (LI g)):WL P n F Nv eA Q l env L:=by
 intro a w h
 have gen:∀(l1 l2:List Oper) (Q':Exit->Act->World->Prop) a w,(∀ a w,Q' .normal a w->wpListIn FN 0 P eA Q l2 a w)->(∀ e a w,e ≠ .normal->Q' e a w->Q e a w)->wpListIn FN 0 P eA Q' l1 a w->wpListIn FN 0 P eA Q (l1++l2) a w:=by
  intro l1
  induction l1 with
  | nil=>intro l2 Q' a w h1 _ h;exact h1 a w h
  | cons o l1 ih=>
   intro l2 Q' a w h1 h2 h
   rw[List.cons_append]
   unfold wpListIn at h ⊢
   split
   ·rename_i hw
    simp only[hw,if_true] at h
    refine⟨h.1,?_⟩
    have h:=h.2
    generalize (o.semAt FN.round a.eval).run P w=r at h ⊢
    cases r with
    | ok x w'=>
     cases x <;> simp only[Oper.uponIn] at h ⊢
     case enter f args=>
      refine⟨h.1,CallsIn.mono h.2 ?_⟩
      intro e sE he
      cases e with
      | returned v=>exact ih l2 Q' _ _ h1 h2 he
      | panicked c=>exact h2 _ _ _ (by simp) he
      | outgrown=>obtain⟨a',w',hq⟩:=he;exact⟨a',w',h2 _ _ _ (by simp) hq⟩
     case round l f tmps as_ bo=>
      refine⟨h.1,RoundIn.mono h.2 ?_⟩
      intro e sE he
      cases e with
      | returned v=>exact ih l2 Q' _ _ h1 h2 he
      | panicked c=>exact h2 _ _ _ (by simp) he
      | outgrown=>obtain⟨a',w',hq⟩:=he;exact⟨a',w',h2 _ _ _ (by simp) hq⟩
     case row r args=>exact⟨h.1,RowsIn.mono h.2 (fun _ _ he=>ih l2 Q' _ _ h1 h2 he)⟩
     all_goals exact ih l2 Q' _ _ h1 h2 h
    | halt x w'=>cases x <;> simp only[Oper.uponIn] at h ⊢ <;> exact h2 _ _ _ (by simp) h
   ·rename_i hw
    simp only[hw] at h
    exact⟨h.1,ih l2 Q' _ _ h1 h2 h.2⟩
 have:=gen (l.take k) (l.drop k) _ a w (fun a w ⟨g,t8,hs⟩=>k2 g t8 a w hs) (fun e a w he hq=>by cases e <;> first | exact absurd rfl he | exact hq) (k1 a w h)
 rwa [List.take_append_drop] at this
theorem Oo{G:Type}{φ:G->Prop}{iA:G->List (Nat×Value)}{LI:G->List Asrt}{M:List Asrt}(g:G)(t8:φ g)(hr:Restr env (iA g))(hL:Sel L (LI g) M):
  WL P n F Nv eA (Exit.then (fun a w=>∃ g,φ g/\SS n F Nv (iA g) (LI g) a w) Q) [] env L:=
 fun _ _ h=>⟨g,t8,(h.restr hr).drop hL⟩
def j7(n:Nat)(done:List Nat):Array Bool:=done.foldr (fun i a=>a.setIfInBounds i true) (Array.replicate n false)
theorem L9{fuel':Nat}(env':List (Nat×Value))(xI:Array Bool)(k2:WD P n F Nv eA tl Ls QD fuel' xI env' L)(k1:WD P n F Nv eA tl Ls QD fuel' xI env' L->WD P n F Nv eA tl Ls QD fuel listed env L):WD P n F Nv eA tl Ls QD fuel listed env L:=k1 k2
theorem WL.new{G:Type}{φ:G->Prop}{val:G->Value}{L':G->List Asrt}(hg:gd env eA o=some true)(hd:o.dst=some dd)(lp:Nat.blt dd n=true)(hq:nZ P n F Nv env L o φ val L')(k:∀ g,φ g->WL P n F Nv eA Q eZ ((dd,val g)::env) (L' g)):WL P n F Nv eA Q (o::eZ) env L:=O2 hg hd lp hq.ef k
theorem WD.new{G:Type}{φ:G->Prop}{val:G->Value}{L':G->List Asrt}{i:Nat}(hi:eA[i]?=some o)(hr:Region.ready .any eA listed=[i])[hg:Nu (gd env eA o) (some true)](hd:o.dst=some dd)[lp:Nu (Nat.blt dd n) true](hq:nZ P n F Nv env L o φ val L')(n4:tl i=true->∀ g,wT (L' g) Ls)(k:∀ g,φ g->WD P n F Nv eA tl Ls QD fuel (listed.setIfInBounds i true) ((dd,val g)::env) (L' g)):WD P n F Nv eA tl Ls QD (fuel+1) listed env L:=
 WD.forced hi hr hg.1 hd lp.1 (fun a w h=>let ⟨g,w',h1,h2,h3,h4⟩:=hq a w h;⟨g,w',h1,h2,h3,fun _=>h4⟩) n4 k
theorem WD.old{G:Type}{φ:G->Prop}{val:G->Value}{L':G->List Asrt}{i:Nat}(hi:eA[i]?=some o)(hr:Region.ready .any eA listed=[i])[hg:Nu (gd env eA o) (some true)](hd:o.dst=some dd)[lp:Nu (Nat.blt dd n) true][ht:Nu (tl i) true](n4:∀ g,wT (L' g) Ls)(hq:Ef P n F Nv env L o φ val L')(k:∀ g,φ g->WD P n F Nv eA tl Ls QD fuel (listed.setIfInBounds i true) ((dd,val g)::env) (L' g)):WD P n F Nv eA tl Ls QD (fuel+1) listed env L:=
 WD.forced hi hr hg.1 hd lp.1 (fun a w h=>let ⟨g,w',h1,h2,h3⟩:=hq a w h;⟨g,w',h1,h2,h3,fun hf=>by rw[ht.1] at hf;cases hf⟩) (fun _=>n4) k
theorem Lq{l:List Operand}{vs:List Value}(he:Eos env l vs)(is:List Nat):∀ a w,SS n F Nv env L a w->((is.zip l).toArray.map fun(i,x)=>(i,a.eval x))=(is.zip vs).toArray:=by
 intro a w h
 simp only[List.map_toArray]
 congr 1
 induction he generalizing is with
 | nil=>simp
 | cons hx _ ih=>
  cases is with
  | nil=>simp
  | cons i is=>simp only[List.zip_cons_cons,List.map_cons,h.eval hx,ih is]
theorem L6{l:List Operand}{vs:List Value}(he:Eos env l vs):∀ a w,SS n F Nv env L a w->l.toArray.map a.eval=vs.toArray:=by
 intro a w h
 rw[List.map_toArray,he.map h]
end
end
section
variable {A0 A1 A2 A3 A4 A5 A6:Type}{o:Oper}{f:FuncId}{vs:Array Value}{M Ls:List Asrt}{x y:Code}{tl:Nat->Bool}{fuel i:Nat}{listed:Array Bool}{QD:Act->World->Prop}
variable [Rnd]
theorem gQ{b c:Bool}(h:b=true):true=(b||c):=by rw[h];rfl
theorem gR{b c:Bool}(h:b=false):c=(b||c):=by rw[h];rfl
theorem jR{b c:Bool}(h:b=false):false=(b&&c):=by rw[h];rfl
theorem jS{b c:Bool}(h:b=true):c=(b&&c):=by rw[h];rfl
section
variable {P:Program} {n:Nat} {F:List Nat} {Nv:World} {env:List (Nat×Value)} {L Lc Lr R:List Asrt} {eA:Array Oper} {Q:Exit->Act->World->Prop} {eZ:List Oper} {dd:Nat}
theorem Nd(φ:Prop)(iA:List (Nat×Value))(LI:List Asrt)(k1:WC P n F Nv (Exit.then (fun a w=>∃ _g:Unit,φ/\SS n F Nv iA LI a w) Q) x env L)(k2:φ->WC P n F Nv Q y iA LI):WC P n F Nv Q (.seq x y) env L:=
 Bg (G:=Unit) (fun _=>φ) (fun _=>iA) (fun _=>LI) k1 (fun _ h=>k2  h)
theorem Na{φ:Prop}{val:Value}[hg:Nu (gd env eA o) (some true)](hd:o.dst=some dd)[lp:Nu (Nat.blt dd n) true](iT:∀ a w,SS n F Nv env L a w->(execOp a.eval o).run P w = .ok (.enter f vs) w)(hs:Sel L Lc Lr)(hc:∀ w,Hp F Nv w L->Calls P f vs w fun e w'=>e = .returned val/\φ/\Hp (fps Lc) w w' M)(k:φ->WL P n F Nv eA Q eZ ((dd,val)::env) (M++Lr)):WL P n F Nv eA Q (o::eZ) env L:=
 N8 (G:=Unit) (φ:=fun _=>φ) (val:=fun _=>val) (M:=fun _=>M) hg.1 hd lp.1 iT hs
  (fun w h=>(hc w h).mono fun e w'=>by rintro⟨h1,h2,h3⟩;exact⟨(),h1,h2,h3⟩) (fun _ h=>k  h)
theorem WD.call0{φ:Prop}{val:Value}(hi:eA[i]?=some o)(hr:Region.ready .any eA listed=[i])[hg:Nu (gd env eA o) (some true)](hd:o.dst=some dd)[lp:Nu (Nat.blt dd n) true](ht:(tl i=true/\(wT (M++Lr) Ls))\/Lc=[])(iT:∀ a w,SS n F Nv env L a w->(execOp a.eval o).run P w = .ok (.enter f vs) w)(hs:Sel L Lc Lr)(hc:∀ w,Hp F Nv w L->Calls P f vs w fun e w'=>e = .returned val/\φ/\Hp (fps Lc) w w' M)(k:φ->WD P n F Nv eA tl Ls QD fuel (listed.setIfInBounds i true) ((dd,val)::env) (M++Lr)):WD P n F Nv eA tl Ls QD (fuel+1) listed env L:=
 WD.forcedCall (G:=Unit) (φ:=fun _=>φ) (val:=fun _=>val) (M:=fun _=>M) hi hr hg.1 hd lp.1 (ht.imp (fun h=>⟨h.1,fun _=>h.2⟩) id) iT hs
  (fun w h=>(hc w h).mono fun e w'=>by rintro⟨h1,h2,h3⟩;exact⟨(),h1,h2,h3⟩) (fun _ h=>k  h)
theorem On(φ:A0->Prop)(iA:A0->List (Nat×Value))(LI:A0->List Asrt)(j:Nat){l:List Oper}(k1:WL P n F Nv eA (Exit.then (fun a w=>∃ g:A0,(φ g)/\SS n F Nv (iA g) (LI g) a w) Q) (l.take j) env L)(k2:∀ x0,(φ x0)->WL P n F Nv eA Q (l.drop j) (iA x0) (LI x0)):WL P n F Nv eA Q l env L:=
 Ol (G:=A0) (fun g=>(φ g)) (fun g=>(iA g)) (fun g=>(LI g)) j k1 (fun g h=>k2 g h)
theorem L5(φ:A0->Prop)(iA:A0->List (Nat×Value))(LI:A0->List Asrt)(k1:WC P n F Nv (Exit.then (fun a w=>∃ g:A0,(φ g)/\SS n F Nv (iA g) (LI g) a w) Q) x env L)(k2:∀ x0,(φ x0)->WC P n F Nv Q y (iA x0) (LI x0)):WC P n F Nv Q (.seq x y) env L:=
 Bg (G:=A0) (fun g=>(φ g)) (fun g=>(iA g)) (fun g=>(LI g)) k1 (fun g h=>k2 g h)
theorem Pj{φ:A0->Prop}{val:A0->Value}{M:A0->List Asrt}(hg:gd env eA o=some true)(hd:o.dst=some dd)(lp:Nat.blt dd n=true)(iT:∀ a w,SS n F Nv env L a w->(execOp a.eval o).run P w = .ok (.enter f vs) w)(hs:Sel L Lc Lr)(hc:∀ w,Hp F Nv w L->Calls P f vs w fun e w'=>∃ x0,e = .returned (val x0)/\(φ x0)/\Hp (fps Lc) w w' (M x0))(k:∀ x0,(φ x0)->WL P n F Nv eA Q eZ ((dd,val x0)::env) ((M x0)++Lr)):WL P n F Nv eA Q (o::eZ) env L:=
 N8 (G:=A0) (φ:=fun g=>(φ g)) (val:=fun g=>(val g)) (M:=fun g=>(M g)) hg hd lp iT hs
  (fun w h=>(hc w h).mono fun e w'=>by rintro⟨x0,h1,h2,h3⟩;exact⟨x0,h1,h2,h3⟩) (fun g h=>k g h)
theorem WD.call1{φ:A0->Prop}{val:A0->Value}{M:A0->List Asrt}(hi:eA[i]?=some o)(hr:Region.ready .any eA listed=[i])(hg:gd env eA o=some true)(hd:o.dst=some dd)(lp:Nat.blt dd n=true)(ht:(tl i=true/\(∀ x0,wT ((M x0)++Lr) Ls))\/Lc=[])(iT:∀ a w,SS n F Nv env L a w->(execOp a.eval o).run P w = .ok (.enter f vs) w)(hs:Sel L Lc Lr)(hc:∀ w,Hp F Nv w L->Calls P f vs w fun e w'=>∃ x0,e = .returned (val x0)/\(φ x0)/\Hp (fps Lc) w w' (M x0))(k:∀ x0,(φ x0)->WD P n F Nv eA tl Ls QD fuel (listed.setIfInBounds i true) ((dd,val x0)::env) ((M x0)++Lr)):WD P n F Nv eA tl Ls QD (fuel+1) listed env L:=
 WD.forcedCall (G:=A0) (φ:=fun g=>(φ g)) (val:=fun g=>(val g)) (M:=fun g=>(M g)) hi hr hg hd lp (ht.imp (fun h=>⟨h.1,fun g=>h.2 g⟩) id) iT hs
  (fun w h=>(hc w h).mono fun e w'=>by rintro⟨x0,h1,h2,h3⟩;exact⟨x0,h1,h2,h3⟩) (fun g h=>k g h)
theorem H0(φ:A0->A1->Prop)(iA:A0->A1->List (Nat×Value))(LI:A0->A1->List Asrt)(k1:WC P n F Nv (Exit.then (fun a w=>∃ g:A0×A1,(φ g.1 g.2)/\SS n F Nv (iA g.1 g.2) (LI g.1 g.2) a w) Q) x env L)(k2:∀ x0 x1,(φ x0 x1)->WC P n F Nv Q y (iA x0 x1) (LI x0 x1)):WC P n F Nv Q (.seq x y) env L:=
 Bg (G:=A0×A1) (fun g=>(φ g.1 g.2)) (fun g=>(iA g.1 g.2)) (fun g=>(LI g.1 g.2)) k1 (fun g h=>k2 g.1 g.2 h)
theorem Ng(φ:A0->A1->Prop)(iA:A0->A1->List (Nat×Value))(LI:A0->A1->List Asrt)(μ:A0->A1->Nat){c:Code}(nV:A0×A1)(h0:((fun g=>(φ g.1 g.2)):A0×A1->Prop) nV)(hr:Restr env (((fun g=>(iA g.1 g.2)):A0×A1->_) nV))(hL:Sel L (((fun g=>(LI g.1 g.2)):A0×A1->_) nV) M)(round:∀ x0 x1,(φ x0 x1)->WC P n F Nv (Exit.then (fun a w=>∃ g':A0×A1,(((fun g=>(φ g.1 g.2)):A0×A1->Prop) g'/\((fun g=>(μ g.1 g.2)):A0×A1->Nat) g'<(μ x0 x1))/\SS n F Nv (((fun g=>(iA g.1 g.2)):A0×A1->_) g') (((fun g=>(LI g.1 g.2)):A0×A1->_) g') a w) Q) c (iA x0 x1) (LI x0 x1)):
  WC P n F Nv Q (.loop c) env L:=
 H5 (G:=A0×A1) (fun g=>(φ g.1 g.2)) (fun g=>(iA g.1 g.2)) (fun g=>(LI g.1 g.2)) (fun g=>(μ g.1 g.2)) nV h0 hr hL (fun g h=>round g.1 g.2 h)
theorem N9{φ:A0->A1->Prop}{val:A0->A1->Value}{M:A0->A1->List Asrt}[hg:Nu (gd env eA o) (some true)](hd:o.dst=some dd)[lp:Nu (Nat.blt dd n) true](iT:∀ a w,SS n F Nv env L a w->(execOp a.eval o).run P w = .ok (.enter f vs) w)(hs:Sel L Lc Lr)(hc:∀ w,Hp F Nv w L->Calls P f vs w fun e w'=>∃ x0 x1,e = .returned (val x0 x1)/\(φ x0 x1)/\Hp (fps Lc) w w' (M x0 x1))(k:∀ x0 x1,(φ x0 x1)->WL P n F Nv eA Q eZ ((dd,val x0 x1)::env) ((M x0 x1)++Lr)):WL P n F Nv eA Q (o::eZ) env L:=
 N8 (G:=A0×A1) (φ:=fun g=>(φ g.1 g.2)) (val:=fun g=>(val g.1 g.2)) (M:=fun g=>(M g.1 g.2)) hg.1 hd lp.1 iT hs
  (fun w h=>(hc w h).mono fun e w'=>by rintro⟨x0,x1,h1,h2,h3⟩;exact⟨⟨x0,x1⟩,h1,h2,h3⟩) (fun g h=>k g.1 g.2 h)
theorem WD.call2{φ:A0->A1->Prop}{val:A0->A1->Value}{M:A0->A1->List Asrt}(hi:eA[i]?=some o)(hr:Region.ready .any eA listed=[i])(hg:gd env eA o=some true)(hd:o.dst=some dd)(lp:Nat.blt dd n=true)(ht:(tl i=true/\(∀ x0 x1,wT ((M x0 x1)++Lr) Ls))\/Lc=[])(iT:∀ a w,SS n F Nv env L a w->(execOp a.eval o).run P w = .ok (.enter f vs) w)(hs:Sel L Lc Lr)(hc:∀ w,Hp F Nv w L->Calls P f vs w fun e w'=>∃ x0 x1,e = .returned (val x0 x1)/\(φ x0 x1)/\Hp (fps Lc) w w' (M x0 x1))(k:∀ x0 x1,(φ x0 x1)->WD P n F Nv eA tl Ls QD fuel (listed.setIfInBounds i true) ((dd,val x0 x1)::env) ((M x0 x1)++Lr)):WD P n F Nv eA tl Ls QD (fuel+1) listed env L:=
 WD.forcedCall (G:=A0×A1) (φ:=fun g=>(φ g.1 g.2)) (val:=fun g=>(val g.1 g.2)) (M:=fun g=>(M g.1 g.2)) hi hr hg hd lp (ht.imp (fun h=>⟨h.1,fun g=>h.2 g.1 g.2⟩) id) iT hs
  (fun w h=>(hc w h).mono fun e w'=>by rintro⟨x0,x1,h1,h2,h3⟩;exact⟨⟨x0,x1⟩,h1,h2,h3⟩) (fun g h=>k g.1 g.2 h)
theorem N5(φ:A0->A1->A2->Prop)(iA:A0->A1->A2->List (Nat×Value))(LI:A0->A1->A2->List Asrt)(k1:WC P n F Nv (Exit.then (fun a w=>∃ g:A0×A1×A2,(cu3 φ g)/\SS n F Nv (cu3 iA g) (cu3 LI g) a w) Q) x env L)(k2:∀ x0 x1 x2,(φ x0 x1 x2)->WC P n F Nv Q y (iA x0 x1 x2) (LI x0 x1 x2)):WC P n F Nv Q (.seq x y) env L:=
 Bg (G:=A0×A1×A2) (fun g=>(cu3 φ g)) (fun g=>(cu3 iA g)) (fun g=>(cu3 LI g)) k1 (fun g h=>k2 g.1 g.2.1 g.2.2 h)
theorem N7(φ:A0->A1->A2->Prop)(iA:A0->A1->A2->List (Nat×Value))(LI:A0->A1->A2->List Asrt)(μ:A0->A1->A2->Nat){c:Code}(nV:A0×A1×A2)(h0:((fun g=>(cu3 φ g)):A0×A1×A2->Prop) nV)(hr:Restr env (((fun g=>(cu3 iA g)):A0×A1×A2->_) nV))(hL:Sel L (((fun g=>(cu3 LI g)):A0×A1×A2->_) nV) M)(round:∀ x0 x1 x2,(φ x0 x1 x2)->WC P n F Nv (Exit.then (fun a w=>∃ g':A0×A1×A2,(((fun g=>(cu3 φ g)):A0×A1×A2->Prop) g'/\((fun g=>(cu3 μ g)):A0×A1×A2->Nat) g'<(μ x0 x1 x2))/\SS n F Nv (((fun g=>(cu3 iA g)):A0×A1×A2->_) g') (((fun g=>(cu3 LI g)):A0×A1×A2->_) g') a w) Q) c (iA x0 x1 x2) (LI x0 x1 x2)):
  WC P n F Nv Q (.loop c) env L:=
 H5 (G:=A0×A1×A2) (fun g=>(cu3 φ g)) (fun g=>(cu3 iA g)) (fun g=>(cu3 LI g)) (fun g=>(cu3 μ g)) nV h0 hr hL (fun g h=>round g.1 g.2.1 g.2.2 h)
theorem WD.call3{φ:A0->A1->A2->Prop}{val:A0->A1->A2->Value}{M:A0->A1->A2->List Asrt}(hi:eA[i]?=some o)(hr:Region.ready .any eA listed=[i])(hg:gd env eA o=some true)(hd:o.dst=some dd)(lp:Nat.blt dd n=true)(ht:(tl i=true/\(∀ x0 x1 x2,wT ((M x0 x1 x2)++Lr) Ls))\/Lc=[])(iT:∀ a w,SS n F Nv env L a w->(execOp a.eval o).run P w = .ok (.enter f vs) w)(hs:Sel L Lc Lr)(hc:∀ w,Hp F Nv w L->Calls P f vs w fun e w'=>∃ x0 x1 x2,e = .returned (val x0 x1 x2)/\(φ x0 x1 x2)/\Hp (fps Lc) w w' (M x0 x1 x2))(k:∀ x0 x1 x2,(φ x0 x1 x2)->WD P n F Nv eA tl Ls QD fuel (listed.setIfInBounds i true) ((dd,val x0 x1 x2)::env) ((M x0 x1 x2)++Lr)):WD P n F Nv eA tl Ls QD (fuel+1) listed env L:=
 WD.forcedCall (G:=A0×A1×A2) (φ:=fun g=>(cu3 φ g)) (val:=fun g=>(cu3 val g)) (M:=fun g=>(cu3 M g)) hi hr hg hd lp (ht.imp (fun h=>⟨h.1,fun g=>h.2 g.1 g.2.1 g.2.2⟩) id) iT hs
  (fun w h=>(hc w h).mono fun e w'=>by rintro⟨x0,x1,x2,h1,h2,h3⟩;exact⟨⟨x0,x1,x2⟩,h1,h2,h3⟩) (fun g h=>k g.1 g.2.1 g.2.2 h)
theorem Ou(φ:A0->A1->A2->A3->Prop)(iA:A0->A1->A2->A3->List (Nat×Value))(LI:A0->A1->A2->A3->List Asrt)(k1:WC P n F Nv (Exit.then (fun a w=>∃ g:A0×A1×A2×A3,(cu4 φ g)/\SS n F Nv (cu4 iA g) (cu4 LI g) a w) Q) x env L)(k2:∀ x0 x1 x2 x3,(φ x0 x1 x2 x3)->WC P n F Nv Q y (iA x0 x1 x2 x3) (LI x0 x1 x2 x3)):WC P n F Nv Q (.seq x y) env L:=
 Bg (G:=A0×A1×A2×A3) (fun g=>(cu4 φ g)) (fun g=>(cu4 iA g)) (fun g=>(cu4 LI g)) k1 (fun g h=>k2 g.1 g.2.1 g.2.2.1 g.2.2.2 h)
theorem Dw(φ:A0->A1->A2->A3->Prop)(iA:A0->A1->A2->A3->List (Nat×Value))(LI:A0->A1->A2->A3->List Asrt)(μ:A0->A1->A2->A3->Nat){c:Code}(nV:A0×A1×A2×A3)(h0:((fun g=>(cu4 φ g)):A0×A1×A2×A3->Prop) nV)(hr:Restr env (((fun g=>(cu4 iA g)):A0×A1×A2×A3->_) nV))(hL:Sel L (((fun g=>(cu4 LI g)):A0×A1×A2×A3->_) nV) M)(round:∀ x0 x1 x2 x3,(φ x0 x1 x2 x3)->WC P n F Nv (Exit.then (fun a w=>∃ g':A0×A1×A2×A3,(((fun g=>(cu4 φ g)):A0×A1×A2×A3->Prop) g'/\((fun g=>(cu4 μ g)):A0×A1×A2×A3->Nat) g'<(μ x0 x1 x2 x3))/\SS n F Nv (((fun g=>(cu4 iA g)):A0×A1×A2×A3->_) g') (((fun g=>(cu4 LI g)):A0×A1×A2×A3->_) g') a w) Q) c (iA x0 x1 x2 x3) (LI x0 x1 x2 x3)):
  WC P n F Nv Q (.loop c) env L:=
 H5 (G:=A0×A1×A2×A3) (fun g=>(cu4 φ g)) (fun g=>(cu4 iA g)) (fun g=>(cu4 LI g)) (fun g=>(cu4 μ g)) nV h0 hr hL (fun g h=>round g.1 g.2.1 g.2.2.1 g.2.2.2 h)
theorem Oj{φ:A0->A1->A2->A3->Prop}{val:A0->A1->A2->A3->Value}{M:A0->A1->A2->A3->List Asrt}[hg:Nu (gd env eA o) (some true)](hd:o.dst=some dd)[lp:Nu (Nat.blt dd n) true](iT:∀ a w,SS n F Nv env L a w->(execOp a.eval o).run P w = .ok (.enter f vs) w)(hs:Sel L Lc Lr)(hc:∀ w,Hp F Nv w L->Calls P f vs w fun e w'=>∃ x0 x1 x2 x3,e = .returned (val x0 x1 x2 x3)/\(φ x0 x1 x2 x3)/\Hp (fps Lc) w w' (M x0 x1 x2 x3))(k:∀ x0 x1 x2 x3,(φ x0 x1 x2 x3)->WL P n F Nv eA Q eZ ((dd,val x0 x1 x2 x3)::env) ((M x0 x1 x2 x3)++Lr)):WL P n F Nv eA Q (o::eZ) env L:=
 N8 (G:=A0×A1×A2×A3) (φ:=fun g=>(cu4 φ g)) (val:=fun g=>(cu4 val g)) (M:=fun g=>(cu4 M g)) hg.1 hd lp.1 iT hs
  (fun w h=>(hc w h).mono fun e w'=>by rintro⟨x0,x1,x2,x3,h1,h2,h3⟩;exact⟨⟨x0,x1,x2,x3⟩,h1,h2,h3⟩) (fun g h=>k g.1 g.2.1 g.2.2.1 g.2.2.2 h)
theorem Dy(φ:A0->A1->A2->A3->A4->Prop)(iA:A0->A1->A2->A3->A4->List (Nat×Value))(LI:A0->A1->A2->A3->A4->List Asrt)(μ:A0->A1->A2->A3->A4->Nat){c:Code}(nV:A0×A1×A2×A3×A4)(h0:((fun g=>(cu5 φ g)):A0×A1×A2×A3×A4->Prop) nV)(hr:Restr env (((fun g=>(cu5 iA g)):A0×A1×A2×A3×A4->_) nV))(hL:Sel L (((fun g=>(cu5 LI g)):A0×A1×A2×A3×A4->_) nV) M)(round:∀ x0 x1 x2 x3 x4,(φ x0 x1 x2 x3 x4)->WC P n F Nv (Exit.then (fun a w=>∃ g':A0×A1×A2×A3×A4,(((fun g=>(cu5 φ g)):A0×A1×A2×A3×A4->Prop) g'/\((fun g=>(cu5 μ g)):A0×A1×A2×A3×A4->Nat) g'<(μ x0 x1 x2 x3 x4))/\SS n F Nv (((fun g=>(cu5 iA g)):A0×A1×A2×A3×A4->_) g') (((fun g=>(cu5 LI g)):A0×A1×A2×A3×A4->_) g') a w) Q) c (iA x0 x1 x2 x3 x4) (LI x0 x1 x2 x3 x4)):
  WC P n F Nv Q (.loop c) env L:=
 H5 (G:=A0×A1×A2×A3×A4) (fun g=>(cu5 φ g)) (fun g=>(cu5 iA g)) (fun g=>(cu5 LI g)) (fun g=>(cu5 μ g)) nV h0 hr hL (fun g h=>round g.1 g.2.1 g.2.2.1 g.2.2.2.1 g.2.2.2.2 h)
theorem O8(φ:A0->A1->A2->A3->A4->A5->Prop)(iA:A0->A1->A2->A3->A4->A5->List (Nat×Value))(LI:A0->A1->A2->A3->A4->A5->List Asrt)(k1:WC P n F Nv (Exit.then (fun a w=>∃ g:A0×A1×A2×A3×A4×A5,(cu6 φ g)/\SS n F Nv (cu6 iA g) (cu6 LI g) a w) Q) x env L)(k2:∀ x0 x1 x2 x3 x4 x5,(φ x0 x1 x2 x3 x4 x5)->WC P n F Nv Q y (iA x0 x1 x2 x3 x4 x5) (LI x0 x1 x2 x3 x4 x5)):WC P n F Nv Q (.seq x y) env L:=
 Bg (G:=A0×A1×A2×A3×A4×A5) (fun g=>(cu6 φ g)) (fun g=>(cu6 iA g)) (fun g=>(cu6 LI g)) k1 (fun g h=>k2 g.1 g.2.1 g.2.2.1 g.2.2.2.1 g.2.2.2.2.1 g.2.2.2.2.2 h)
theorem Pa(φ:A0->A1->A2->A3->A4->A5->Prop)(iA:A0->A1->A2->A3->A4->A5->List (Nat×Value))(LI:A0->A1->A2->A3->A4->A5->List Asrt)(μ:A0->A1->A2->A3->A4->A5->Nat){c:Code}(nV:A0×A1×A2×A3×A4×A5)(h0:((fun g=>(cu6 φ g)):A0×A1×A2×A3×A4×A5->Prop) nV)(hr:Restr env (((fun g=>(cu6 iA g)):A0×A1×A2×A3×A4×A5->_) nV))(hL:Sel L (((fun g=>(cu6 LI g)):A0×A1×A2×A3×A4×A5->_) nV) M)(round:∀ x0 x1 x2 x3 x4 x5,(φ x0 x1 x2 x3 x4 x5)->WC P n F Nv (Exit.then (fun a w=>∃ g':A0×A1×A2×A3×A4×A5,(((fun g=>(cu6 φ g)):A0×A1×A2×A3×A4×A5->Prop) g'/\((fun g=>(cu6 μ g)):A0×A1×A2×A3×A4×A5->Nat) g'<(μ x0 x1 x2 x3 x4 x5))/\SS n F Nv (((fun g=>(cu6 iA g)):A0×A1×A2×A3×A4×A5->_) g') (((fun g=>(cu6 LI g)):A0×A1×A2×A3×A4×A5->_) g') a w) Q) c (iA x0 x1 x2 x3 x4 x5) (LI x0 x1 x2 x3 x4 x5)):
  WC P n F Nv Q (.loop c) env L:=
 H5 (G:=A0×A1×A2×A3×A4×A5) (fun g=>(cu6 φ g)) (fun g=>(cu6 iA g)) (fun g=>(cu6 LI g)) (fun g=>(cu6 μ g)) nV h0 hr hL (fun g h=>round g.1 g.2.1 g.2.2.1 g.2.2.2.1 g.2.2.2.2.1 g.2.2.2.2.2 h)
theorem P5{φ:A0->A1->A2->A3->A4->A5->Prop}{val:A0->A1->A2->A3->A4->A5->Value}{M:A0->A1->A2->A3->A4->A5->List Asrt}(hg:gd env eA o=some true)(hd:o.dst=some dd)(lp:Nat.blt dd n=true)(iT:∀ a w,SS n F Nv env L a w->(execOp a.eval o).run P w = .ok (.enter f vs) w)(hs:Sel L Lc Lr)(hc:∀ w,Hp F Nv w L->Calls P f vs w fun e w'=>∃ x0 x1 x2 x3 x4 x5,e = .returned (val x0 x1 x2 x3 x4 x5)/\(φ x0 x1 x2 x3 x4 x5)/\Hp (fps Lc) w w' (M x0 x1 x2 x3 x4 x5))(k:∀ x0 x1 x2 x3 x4 x5,(φ x0 x1 x2 x3 x4 x5)->WL P n F Nv eA Q eZ ((dd,val x0 x1 x2 x3 x4 x5)::env) ((M x0 x1 x2 x3 x4 x5)++Lr)):WL P n F Nv eA Q (o::eZ) env L:=
 N8 (G:=A0×A1×A2×A3×A4×A5) (φ:=fun g=>(cu6 φ g)) (val:=fun g=>(cu6 val g)) (M:=fun g=>(cu6 M g)) hg hd lp iT hs
  (fun w h=>(hc w h).mono fun e w'=>by rintro⟨x0,x1,x2,x3,x4,x5,h1,h2,h3⟩;exact⟨⟨x0,x1,x2,x3,x4,x5⟩,h1,h2,h3⟩) (fun g h=>k g.1 g.2.1 g.2.2.1 g.2.2.2.1 g.2.2.2.2.1 g.2.2.2.2.2 h)
theorem O6(φ:A0->A1->A2->A3->A4->A5->A6->Prop)(iA:A0->A1->A2->A3->A4->A5->A6->List (Nat×Value))(LI:A0->A1->A2->A3->A4->A5->A6->List Asrt)(μ:A0->A1->A2->A3->A4->A5->A6->Nat){c:Code}(nV:A0×A1×A2×A3×A4×A5×A6)(h0:((fun g=>(cu7 φ g)):A0×A1×A2×A3×A4×A5×A6->Prop) nV)(hr:Restr env (((fun g=>(cu7 iA g)):A0×A1×A2×A3×A4×A5×A6->_) nV))(hL:Sel L (((fun g=>(cu7 LI g)):A0×A1×A2×A3×A4×A5×A6->_) nV) M)(round:∀ x0 x1 x2 x3 x4 x5 x6,(φ x0 x1 x2 x3 x4 x5 x6)->WC P n F Nv (Exit.then (fun a w=>∃ g':A0×A1×A2×A3×A4×A5×A6,(((fun g=>(cu7 φ g)):A0×A1×A2×A3×A4×A5×A6->Prop) g'/\((fun g=>(cu7 μ g)):A0×A1×A2×A3×A4×A5×A6->Nat) g'<(μ x0 x1 x2 x3 x4 x5 x6))/\SS n F Nv (((fun g=>(cu7 iA g)):A0×A1×A2×A3×A4×A5×A6->_) g') (((fun g=>(cu7 LI g)):A0×A1×A2×A3×A4×A5×A6->_) g') a w) Q) c (iA x0 x1 x2 x3 x4 x5 x6) (LI x0 x1 x2 x3 x4 x5 x6)):
  WC P n F Nv Q (.loop c) env L:=
 H5 (G:=A0×A1×A2×A3×A4×A5×A6) (fun g=>(cu7 φ g)) (fun g=>(cu7 iA g)) (fun g=>(cu7 LI g)) (fun g=>(cu7 μ g)) nV h0 hr hL (fun g h=>round g.1 g.2.1 g.2.2.1 g.2.2.2.1 g.2.2.2.2.1 g.2.2.2.2.2.1 g.2.2.2.2.2.2 h)
theorem P4{φ:A0->A1->A2->A3->A4->A5->A6->Prop}{val:A0->A1->A2->A3->A4->A5->A6->Value}{M:A0->A1->A2->A3->A4->A5->A6->List Asrt}(hg:gd env eA o=some true)(hd:o.dst=some dd)(lp:Nat.blt dd n=true)(iT:∀ a w,SS n F Nv env L a w->(execOp a.eval o).run P w = .ok (.enter f vs) w)(hs:Sel L Lc Lr)(hc:∀ w,Hp F Nv w L->Calls P f vs w fun e w'=>∃ x0 x1 x2 x3 x4 x5 x6,e = .returned (val x0 x1 x2 x3 x4 x5 x6)/\(φ x0 x1 x2 x3 x4 x5 x6)/\Hp (fps Lc) w w' (M x0 x1 x2 x3 x4 x5 x6))(k:∀ x0 x1 x2 x3 x4 x5 x6,(φ x0 x1 x2 x3 x4 x5 x6)->WL P n F Nv eA Q eZ ((dd,val x0 x1 x2 x3 x4 x5 x6)::env) ((M x0 x1 x2 x3 x4 x5 x6)++Lr)):WL P n F Nv eA Q (o::eZ) env L:=
 N8 (G:=A0×A1×A2×A3×A4×A5×A6) (φ:=fun g=>(cu7 φ g)) (val:=fun g=>(cu7 val g)) (M:=fun g=>(cu7 M g)) hg hd lp iT hs
  (fun w h=>(hc w h).mono fun e w'=>by rintro⟨x0,x1,x2,x3,x4,x5,x6,h1,h2,h3⟩;exact⟨⟨x0,x1,x2,x3,x4,x5,x6⟩,h1,h2,h3⟩) (fun g h=>k g.1 g.2.1 g.2.2.1 g.2.2.2.1 g.2.2.2.2.1 g.2.2.2.2.2.1 g.2.2.2.2.2.2 h)
theorem Ot{A7:Type}(φ:A0->A1->A2->A3->A4->A5->A6->A7->Prop)(iA:A0->A1->A2->A3->A4->A5->A6->A7->List (Nat×Value))(LI:A0->A1->A2->A3->A4->A5->A6->A7->List Asrt)(μ:A0->A1->A2->A3->A4->A5->A6->A7->Nat){c:Code}(nV:A0×A1×A2×A3×A4×A5×A6×A7)(h0:((fun g=>(cu8 φ g)):A0×A1×A2×A3×A4×A5×A6×A7->Prop) nV)(hr:Restr env (((fun g=>(cu8 iA g)):A0×A1×A2×A3×A4×A5×A6×A7->_) nV))(hL:Sel L (((fun g=>(cu8 LI g)):A0×A1×A2×A3×A4×A5×A6×A7->_) nV) M)(round:∀ x0 x1 x2 x3 x4 x5 x6 x7,(φ x0 x1 x2 x3 x4 x5 x6 x7)->WC P n F Nv (Exit.then (fun a w=>∃ g':A0×A1×A2×A3×A4×A5×A6×A7,(((fun g=>(cu8 φ g)):A0×A1×A2×A3×A4×A5×A6×A7->Prop) g'/\((fun g=>(cu8 μ g)):A0×A1×A2×A3×A4×A5×A6×A7->Nat) g'<(μ x0 x1 x2 x3 x4 x5 x6 x7))/\SS n F Nv (((fun g=>(cu8 iA g)):A0×A1×A2×A3×A4×A5×A6×A7->_) g') (((fun g=>(cu8 LI g)):A0×A1×A2×A3×A4×A5×A6×A7->_) g') a w) Q) c (iA x0 x1 x2 x3 x4 x5 x6 x7) (LI x0 x1 x2 x3 x4 x5 x6 x7)):
  WC P n F Nv Q (.loop c) env L:=
 H5 (G:=A0×A1×A2×A3×A4×A5×A6×A7) (fun g=>(cu8 φ g)) (fun g=>(cu8 iA g)) (fun g=>(cu8 LI g)) (fun g=>(cu8 μ g)) nV h0 hr hL (fun g h=>round g.1 g.2.1 g.2.2.1 g.2.2.2.1 g.2.2.2.2.1 g.2.2.2.2.2.1 g.2.2.2.2.2.2.1 g.2.2.2.2.2.2.2 h)
theorem O9{A7 A8 A9:Type}(φ:A0->A1->A2->A3->A4->A5->A6->A7->A8->A9->Prop)(iA:A0->A1->A2->A3->A4->A5->A6->A7->A8->A9->List (Nat×Value))(LI:A0->A1->A2->A3->A4->A5->A6->A7->A8->A9->List Asrt)(k1:WC P n F Nv (Exit.then (fun a w=>∃ g:A0×A1×A2×A3×A4×A5×A6×A7×A8×A9,(cu10 φ g)/\SS n F Nv (cu10 iA g) (cu10 LI g) a w) Q) x env L)(k2:∀ x0 x1 x2 x3 x4 x5 x6 x7 x8 x9,(φ x0 x1 x2 x3 x4 x5 x6 x7 x8 x9)->WC P n F Nv Q y (iA x0 x1 x2 x3 x4 x5 x6 x7 x8 x9) (LI x0 x1 x2 x3 x4 x5 x6 x7 x8 x9)):WC P n F Nv Q (.seq x y) env L:=
 Bg (G:=A0×A1×A2×A3×A4×A5×A6×A7×A8×A9) (fun g=>(cu10 φ g)) (fun g=>(cu10 iA g)) (fun g=>(cu10 LI g)) k1 (fun g h=>k2 g.1 g.2.1 g.2.2.1 g.2.2.2.1 g.2.2.2.2.1 g.2.2.2.2.2.1 g.2.2.2.2.2.2.1 g.2.2.2.2.2.2.2.1 g.2.2.2.2.2.2.2.2.1 g.2.2.2.2.2.2.2.2.2 h)
end
end
section
variable [Rnd]
section
variable {P:Program} {n:Nat} {F:List Nat} {Nv:World} {env:List (Nat×Value)} {L Lc Lr R:List Asrt} {eA:Array Oper} {Q:Exit->Act->World->Prop} {eZ:List Oper} {dd:Nat}
theorem Rb{A0 A1 A2 A3 A4 A5 A6 A7 A8 A9 oL:Type}(φ:A0->A1->A2->A3->A4->A5->A6->A7->A8->A9->oL->Prop)(iA:A0->A1->A2->A3->A4->A5->A6->A7->A8->A9->oL->List (Nat×Value))(LI:A0->A1->A2->A3->A4->A5->A6->A7->A8->A9->oL->List Asrt){x y:Code}(k1:WC P n F Nv (Exit.then (fun a w=>∃ g:A0×A1×A2×A3×A4×A5×A6×A7×A8×A9×oL,(cu11 φ g)/\SS n F Nv (cu11 iA g) (cu11 LI g) a w) Q) x env L)(k2:∀ x0 x1 x2 x3 x4 x5 x6 x7 x8 x9 zL,(φ x0 x1 x2 x3 x4 x5 x6 x7 x8 x9 zL)->WC P n F Nv Q y (iA x0 x1 x2 x3 x4 x5 x6 x7 x8 x9 zL) (LI x0 x1 x2 x3 x4 x5 x6 x7 x8 x9 zL)):WC P n F Nv Q (.seq x y) env L:=
 Bg (G:=A0×A1×A2×A3×A4×A5×A6×A7×A8×A9×oL) (fun g=>(cu11 φ g)) (fun g=>(cu11 iA g)) (fun g=>(cu11 LI g)) k1 (fun g h=>k2 g.1 g.2.1 g.2.2.1 g.2.2.2.1 g.2.2.2.2.1 g.2.2.2.2.2.1 g.2.2.2.2.2.2.1 g.2.2.2.2.2.2.2.1 g.2.2.2.2.2.2.2.2.1 g.2.2.2.2.2.2.2.2.2.1 g.2.2.2.2.2.2.2.2.2.2 h)
theorem Pp{A0 A1 A2 A3 A4 A5 A6 A7 A8 A9 oL sk:Type}(φ:A0->A1->A2->A3->A4->A5->A6->A7->A8->A9->oL->sk->Prop)(iA:A0->A1->A2->A3->A4->A5->A6->A7->A8->A9->oL->sk->List (Nat×Value))(LI:A0->A1->A2->A3->A4->A5->A6->A7->A8->A9->oL->sk->List Asrt)(μ:A0->A1->A2->A3->A4->A5->A6->A7->A8->A9->oL->sk->Nat){c:Code}(nV:A0×A1×A2×A3×A4×A5×A6×A7×A8×A9×oL×sk)(h0:((fun g=>(cu12 φ g)):A0×A1×A2×A3×A4×A5×A6×A7×A8×A9×oL×sk->Prop) nV)(hr:Restr env (((fun g=>(cu12 iA g)):A0×A1×A2×A3×A4×A5×A6×A7×A8×A9×oL×sk->_) nV)){M:List Asrt}(hL:Sel L (((fun g=>(cu12 LI g)):A0×A1×A2×A3×A4×A5×A6×A7×A8×A9×oL×sk->_) nV) M)(round:∀ x0 x1 x2 x3 x4 x5 x6 x7 x8 x9 zL AU,(φ x0 x1 x2 x3 x4 x5 x6 x7 x8 x9 zL AU)->WC P n F Nv (Exit.then (fun a w=>∃ g':A0×A1×A2×A3×A4×A5×A6×A7×A8×A9×oL×sk,(((fun g=>(cu12 φ g)):A0×A1×A2×A3×A4×A5×A6×A7×A8×A9×oL×sk->Prop) g'/\((fun g=>(cu12 μ g)):A0×A1×A2×A3×A4×A5×A6×A7×A8×A9×oL×sk->Nat) g'<(μ x0 x1 x2 x3 x4 x5 x6 x7 x8 x9 zL AU))/\SS n F Nv (((fun g=>(cu12 iA g)):A0×A1×A2×A3×A4×A5×A6×A7×A8×A9×oL×sk->_) g') (((fun g=>(cu12 LI g)):A0×A1×A2×A3×A4×A5×A6×A7×A8×A9×oL×sk->_) g') a w) Q) c (iA x0 x1 x2 x3 x4 x5 x6 x7 x8 x9 zL AU) (LI x0 x1 x2 x3 x4 x5 x6 x7 x8 x9 zL AU)):
  WC P n F Nv Q (.loop c) env L:=
 H5 (G:=A0×A1×A2×A3×A4×A5×A6×A7×A8×A9×oL×sk) (fun g=>(cu12 φ g)) (fun g=>(cu12 iA g)) (fun g=>(cu12 LI g)) (fun g=>(cu12 μ g)) nV h0 hr hL (fun g h=>round g.1 g.2.1 g.2.2.1 g.2.2.2.1 g.2.2.2.2.1 g.2.2.2.2.2.1 g.2.2.2.2.2.2.1 g.2.2.2.2.2.2.2.1 g.2.2.2.2.2.2.2.2.1 g.2.2.2.2.2.2.2.2.2.1 g.2.2.2.2.2.2.2.2.2.2.1 g.2.2.2.2.2.2.2.2.2.2.2 h)
end
end
section
variable {i:Nat}{QD:Act->World->Prop}{f:FuncId}{vs:Array Value}{A0:Type}
variable [Rnd]
def um(P:Program)(n:Nat)(F:List Nat)(Nv:World)(eA:Array Oper)(tl:Nat->Bool)(Ls:List Asrt)(Q:Act->World->Prop)(fuel:Nat)(listed:Array Bool)(env:List (Nat×Value))(L:List Asrt)(i:Nat):Prop:=
 ∀ a w,SS n F Nv env L a w->∀ w',Ext w w'->opN P eA i (fun a' sE=>((tl i=false->Ext w' sE)/\(Xd eA i=false->Hp F Nv w' Ls->Hp F Nv sE Ls))/\uk P eA tl (fun w=>Hp F Nv w Ls) Q fuel (listed.setIfInBounds i true) a' sE) a w'
section
variable {P:Program} {n:Nat} {F:List Nat} {Nv:World} {eA:Array Oper} {tl:Nat->Bool} {Ls:List Asrt} {fuel:Nat} {listed:Array Bool}
 {env:List (Nat×Value)} {L Lc Lr R:List Asrt} {o:Oper} {Q:Act->World->Prop} {dd:Nat}
theorem um.nil:∀ i∈([]:List Nat),um P n F Nv eA tl Ls Q fuel listed env L i:=fun _ h=>(by cases h)
theorem um.cons{j:Nat}{is:List Nat}(h:um P n F Nv eA tl Ls Q fuel listed env L j)(hs:∀ i∈is,um P n F Nv eA tl Ls Q fuel listed env L i):∀ i∈j::is,um P n F Nv eA tl Ls Q fuel listed env L i:=by
 intro i hi
 rcases List.mem_cons.1 hi with rfl | hi
 ·exact h
 ·exact hs i hi
theorem um.forced{G:Type}{φ:G->Prop}{val:G->Value}{L':G->List Asrt}{d:Nat}(hi:eA[i]?=some o)(hg:gd env eA o=some true)(hd:o.dst=some d)(lp:Nat.blt d n=true)(hq:∀ a w,SS n F Nv env L a w->∃ g w',(execOp a.eval o).run P w = .ok (.value (val g)) w'/\φ g/\Hp F Nv w' (L' g)/\(tl i=false->Ext w w'))(n4:tl i=true->∀ g,wT (L' g) Ls)(k:∀ g,φ g->WD P n F Nv eA tl Ls Q fuel (listed.setIfInBounds i true) ((d,val g)::env) (L' g)):um P n F Nv eA tl Ls Q fuel listed env L i:=by
 intro a w h w' e
 have h':=h.world (h.hp.ext e)
 obtain⟨g,sE,iT,t8,hp,hx⟩:=hq a w' h'
 unfold opN
 simp only[hi,kE h' hg,if_true,iT,Oper.qc,hd]
 refine⟨⟨hx,fun _ h0=>?_⟩,k g t8 _ _ (h'.put lp _ hp)⟩
 cases ht:tl i with
 | false=>exact h0.ext (hx ht)
 | true=>exact(n4 ht g).hp hp
theorem um.forced0{L':List Asrt}(hi:eA[i]?=some o)(hg:gd env eA o=some true)(hd:o.dst=none)(ht:tl i=true)(n4:wT L' Ls)(hq:∀ a w,SS n F Nv env L a w->∃ w',dE P o a w w'/\Hp F Nv w' L')(k:WD P n F Nv eA tl Ls Q fuel (listed.setIfInBounds i true) env L'):um P n F Nv eA tl Ls Q fuel listed env L i:=by
 intro a w h w' e
 have h':=h.world (h.hp.ext e)
 obtain⟨sE,iT,hp⟩:=hq a w' h'
 unfold opN
 rcases iT with iT | ⟨v,iT⟩
 ·simp only[hi,kE h' hg,if_true,iT,Oper.qc,hd]
  exact⟨⟨fun hf=>(by rw[ht] at hf;cases hf),fun _ _=>n4.hp hp⟩,k _ _ (h'.world hp)⟩
 ·simp only[hi,kE h' hg,if_true,iT,Oper.qc,hd]
  exact⟨⟨fun hf=>(by rw[ht] at hf;cases hf),fun _ _=>n4.hp hp⟩,k _ _ (h'.world hp)⟩
theorem um.forcedCall{G:Type}{φ:G->Prop}{val:G->Value}{M:G->List Asrt}{Lc Lr:List Asrt}{d:Nat}(hi:eA[i]?=some o)(hg:gd env eA o=some true)(hd:o.dst=some d)(lp:Nat.blt d n=true)(ht:(tl i=true/\∀ g,wT (M g++Lr) Ls)\/Lc=[])(iT:∀ a w,SS n F Nv env L a w->(execOp a.eval o).run P w = .ok (.enter f vs) w)(hs:Sel L Lc Lr)(hc:∀ w,Hp F Nv w L->Calls P f vs w fun e w'=>∃ g,e = .returned (val g)/\φ g/\Hp (Lc.flatMap (·.fp)) w w' (M g))(k:∀ g,φ g->WD P n F Nv eA tl Ls Q fuel (listed.setIfInBounds i true) ((d,val g)::env) (M g++Lr)):um P n F Nv eA tl Ls Q fuel listed env L i:=by
 intro a w h w' e
 have h':=h.world (h.hp.ext e)
 unfold opN
 simp only[hi,kE h' hg,if_true,iT a w' h',Oper.qc,hd]
 refine(hc w' h'.hp).mono ?_
 rintro e' sE ⟨g,rfl,t8,hp⟩
 have zs:=h'.hp.call hs hp
 refine⟨_,rfl,⟨fun hf=>?_,fun _ h0=>?_⟩,k g t8 _ _ (h'.put lp _ zs)⟩
 ·rcases ht with ht | rfl
  ·rw[ht.1] at hf;cases hf
  ·exact hp.toExt
 ·rcases ht with ht | rfl
  ·exact(ht.2 g).hp zs
  ·exact h0.ext hp.toExt
theorem um.new{G:Type}{φ:G->Prop}{val:G->Value}{L':G->List Asrt}{o:Oper}{tl:Nat->Bool}{Ls:List Asrt}{fuel:Nat}{listed:Array Bool}(hi:eA[i]?=some o)(hg:gd env eA o=some true)(hd:o.dst=some dd)(lp:Nat.blt dd n=true)(hq:nZ P n F Nv env L o φ val L')(n4:tl i=true->∀ g,wT (L' g) Ls)(k:∀ g,φ g->WD P n F Nv eA tl Ls QD fuel (listed.setIfInBounds i true) ((dd,val g)::env) (L' g)):um P n F Nv eA tl Ls QD fuel listed env L i:=
 um.forced hi hg hd lp (fun a w h=>let ⟨g,w',h1,h2,h3,h4⟩:=hq a w h;⟨g,w',h1,h2,h3,fun _=>h4⟩) n4 k
theorem um.old{G:Type}{φ:G->Prop}{val:G->Value}{L':G->List Asrt}{o:Oper}{tl:Nat->Bool}{Ls:List Asrt}{fuel:Nat}{listed:Array Bool}(hi:eA[i]?=some o)(hg:gd env eA o=some true)(hd:o.dst=some dd)(lp:Nat.blt dd n=true)(ht:tl i=true)(n4:∀ g,wT (L' g) Ls)(hq:Ef P n F Nv env L o φ val L')(k:∀ g,φ g->WD P n F Nv eA tl Ls QD fuel (listed.setIfInBounds i true) ((dd,val g)::env) (L' g)):um P n F Nv eA tl Ls QD fuel listed env L i:=
 um.forced hi hg hd lp (fun a w h=>let ⟨g,w',h1,h2,h3⟩:=hq a w h;⟨g,w',h1,h2,h3,fun hf=>by rw[ht] at hf;cases hf⟩) (fun _=>n4) k
theorem um.call0{o:Oper}{tl:Nat->Bool}{Ls:List Asrt}{fuel:Nat}{listed:Array Bool}{φ:Prop}{val:Value}{M:List Asrt}(hi:eA[i]?=some o)(hg:gd env eA o=some true)(hd:o.dst=some dd)(lp:Nat.blt dd n=true)(ht:(tl i=true/\(wT (M++Lr) Ls))\/Lc=[])(iT:∀ a w,SS n F Nv env L a w->(execOp a.eval o).run P w = .ok (.enter f vs) w)(hs:Sel L Lc Lr)(hc:∀ w,Hp F Nv w L->Calls P f vs w fun e w'=>e = .returned val/\φ/\Hp (fps Lc) w w' M)(k:φ->WD P n F Nv eA tl Ls QD fuel (listed.setIfInBounds i true) ((dd,val)::env) (M++Lr)):um P n F Nv eA tl Ls QD fuel listed env L i:=
 um.forcedCall (G:=Unit) (φ:=fun _=>φ) (val:=fun _=>val) (M:=fun _=>M) hi hg hd lp (ht.imp (fun h=>⟨h.1,fun _=>h.2⟩) id) iT hs
  (fun w h=>(hc w h).mono fun e w'=>by rintro⟨h1,h2,h3⟩;exact⟨(),h1,h2,h3⟩) (fun _ h=>k  h)
theorem um.call1{o:Oper}{tl:Nat->Bool}{Ls:List Asrt}{fuel:Nat}{listed:Array Bool}{φ:A0->Prop}{val:A0->Value}{M:A0->List Asrt}(hi:eA[i]?=some o)(hg:gd env eA o=some true)(hd:o.dst=some dd)(lp:Nat.blt dd n=true)(ht:(tl i=true/\(∀ x0,wT ((M x0)++Lr) Ls))\/Lc=[])(iT:∀ a w,SS n F Nv env L a w->(execOp a.eval o).run P w = .ok (.enter f vs) w)(hs:Sel L Lc Lr)(hc:∀ w,Hp F Nv w L->Calls P f vs w fun e w'=>∃ x0,e = .returned (val x0)/\(φ x0)/\Hp (fps Lc) w w' (M x0))(k:∀ x0,(φ x0)->WD P n F Nv eA tl Ls QD fuel (listed.setIfInBounds i true) ((dd,val x0)::env) ((M x0)++Lr)):um P n F Nv eA tl Ls QD fuel listed env L i:=
 um.forcedCall (G:=A0) (φ:=fun g=>(φ g)) (val:=fun g=>(val g)) (M:=fun g=>(M g)) hi hg hd lp (ht.imp (fun h=>⟨h.1,fun g=>h.2 g⟩) id) iT hs
  (fun w h=>(hc w h).mono fun e w'=>by rintro⟨x0,h1,h2,h3⟩;exact⟨x0,h1,h2,h3⟩) (fun g h=>k g h)
theorem um.call2{A1:Type}{o:Oper}{tl:Nat->Bool}{Ls:List Asrt}{fuel:Nat}{listed:Array Bool}{φ:A0->A1->Prop}{val:A0->A1->Value}{M:A0->A1->List Asrt}(hi:eA[i]?=some o)(hg:gd env eA o=some true)(hd:o.dst=some dd)(lp:Nat.blt dd n=true)(ht:(tl i=true/\(∀ x0 x1,wT ((M x0 x1)++Lr) Ls))\/Lc=[])(iT:∀ a w,SS n F Nv env L a w->(execOp a.eval o).run P w = .ok (.enter f vs) w)(hs:Sel L Lc Lr)(hc:∀ w,Hp F Nv w L->Calls P f vs w fun e w'=>∃ x0 x1,e = .returned (val x0 x1)/\(φ x0 x1)/\Hp (fps Lc) w w' (M x0 x1))(k:∀ x0 x1,(φ x0 x1)->WD P n F Nv eA tl Ls QD fuel (listed.setIfInBounds i true) ((dd,val x0 x1)::env) ((M x0 x1)++Lr)):um P n F Nv eA tl Ls QD fuel listed env L i:=
 um.forcedCall (G:=A0×A1) (φ:=fun g=>(φ g.1 g.2)) (val:=fun g=>(val g.1 g.2)) (M:=fun g=>(M g.1 g.2)) hi hg hd lp (ht.imp (fun h=>⟨h.1,fun g=>h.2 g.1 g.2⟩) id) iT hs
  (fun w h=>(hc w h).mono fun e w'=>by rintro⟨x0,x1,h1,h2,h3⟩;exact⟨⟨x0,x1⟩,h1,h2,h3⟩) (fun g h=>k g.1 g.2 h)
theorem um.call3{A1 A2:Type}{o:Oper}{tl:Nat->Bool}{Ls:List Asrt}{fuel:Nat}{listed:Array Bool}{φ:A0->A1->A2->Prop}{val:A0->A1->A2->Value}{M:A0->A1->A2->List Asrt}(hi:eA[i]?=some o)(hg:gd env eA o=some true)(hd:o.dst=some dd)(lp:Nat.blt dd n=true)(ht:(tl i=true/\(∀ x0 x1 x2,wT ((M x0 x1 x2)++Lr) Ls))\/Lc=[])(iT:∀ a w,SS n F Nv env L a w->(execOp a.eval o).run P w = .ok (.enter f vs) w)(hs:Sel L Lc Lr)(hc:∀ w,Hp F Nv w L->Calls P f vs w fun e w'=>∃ x0 x1 x2,e = .returned (val x0 x1 x2)/\(φ x0 x1 x2)/\Hp (fps Lc) w w' (M x0 x1 x2))(k:∀ x0 x1 x2,(φ x0 x1 x2)->WD P n F Nv eA tl Ls QD fuel (listed.setIfInBounds i true) ((dd,val x0 x1 x2)::env) ((M x0 x1 x2)++Lr)):um P n F Nv eA tl Ls QD fuel listed env L i:=
 um.forcedCall (G:=A0×A1×A2) (φ:=fun g=>(cu3 φ g)) (val:=fun g=>(cu3 val g)) (M:=fun g=>(cu3 M g)) hi hg hd lp (ht.imp (fun h=>⟨h.1,fun g=>h.2 g.1 g.2.1 g.2.2⟩) id) iT hs
  (fun w h=>(hc w h).mono fun e w'=>by rintro⟨x0,x1,x2,h1,h2,h3⟩;exact⟨⟨x0,x1,x2⟩,h1,h2,h3⟩) (fun g h=>k g.1 g.2.1 g.2.2 h)
theorem L2{L' M:List Asrt}{env':List (Nat×Value)}(hs:Sel L L' M)(hr:Restr env env')(k:WD P n F Nv eA tl Ls Q fuel listed env' L'):WD P n F Nv eA tl Ls Q fuel listed env L:=
 fun a w h=>k a w ((h.restr hr).drop hs)
end
end
section
variable [Rnd]
theorem XY:∀ u∈([]:List Value),u.oneCell'=true:=by simp
theorem Yf{v:Value}{vs:List Value}(h:v.oneCell'=true)(t:∀ u∈vs,u.oneCell'=true):∀ u∈v::vs,u.oneCell'=true:=by
 intro u hu
 rcases List.mem_cons.1 hu with rfl | hu
 ·exact h
 ·exact t u hu
theorem gN{α:Type}{enc:α->List Value}(h:∀ x,∀ u∈enc x,u.oneCell'=true)(l:List α):∀ u∈l.flatMap enc,u.oneCell'=true:=by
 intro u hu
 obtain⟨x,_,hx⟩:=List.mem_flatMap.1 hu
 exact h x u hx
section
variable {P:Program} {n:Nat} {F:List Nat} {Nv:World} {env:List (Nat×Value)} {L Lc Lr R:List Asrt} {eA:Array Oper} {Q:Exit->Act->World->Prop} {eZ l:List Oper}
 {dd:Nat} {d:Option Tmp} {ty:TypeId} {pos:String} {after:Array Edge} {g:Option (Nat×Bool)} {x y:Operand} {v u:Value} {t e T:TypeId} {sz tT:Nat}
theorem kN{bo:Option Addr}{k qr:Nat}{vy:List Value}{sz':Nat}(hm:Pick L (row (.slice bo k qr) e sz' vy) R):∀ w,Hp F Nv w L->vy≠[]->∃ A,bo=some A/\∀ j u,vy[j]?=some u->w.cell? (A.add j)=some u:=by
 intro w h n9
 obtain⟨b,hb,hc⟩:=h.cellsRow .nil hm n9
 exact⟨_,hb,hc.2⟩
theorem WD.nilRow{tl:Nat->Bool}{Ls:List Asrt}{fuel:Nat}{listed:Array Bool}{QD:Act->World->Prop}(e:TypeId)(sz:Nat)(k:WD P n F Nv eA tl Ls QD fuel listed env (row (.slice none 0 0) e sz []::L)):WD P n F Nv eA tl Ls QD fuel listed env L:=fun a w h=>k a w (h.world (h.hp.nilRow e sz))
theorem gp{b off s:Nat}{cs ds:List Value}(hm:Pick L (stb b T cs) R)(hd:(cs.drop off).take s=ds):∀ w,Hp F Nv w L->∀ j u,ds[j]?=some u->w.cell? ((⟨b,off,none⟩:Addr).add j)=some u:=by
 subst hd
 refine G2 hm (fun j u hu=>?_)
 rw[List.getElem?_take] at hu
 split at hu
 ·simpa using hu
 ·cases hu
theorem pF{ao:Option Addr}{m cap lo hi:Nat}{lx hx':Option Operand}{lv hv:Option Value}(ht:elT P t e sz tT)(hx:eo env x=some (.slice ao m cap))(hl:∀ a w,SS n F Nv env L a w->lx.map a.eval=lv)(hh:∀ a w,SS n F Nv env L a w->hx'.map a.eval=hv)(Bf:match lv with | none=>lo=0 | some (.int _ q)=>q=lo | _=>False)(AA:match hv with | none=>hi=m | some (.int _ q)=>q=hi | _=>False)(h1:lo<=hi)(h2:hi<=cap)(h3:hv=none->m<=cap):
  Qt P n F Nv env L ⟨d,.slice t x lx hx' none,ty,pos,after,g⟩ (.slice (if cap=lo then ao else ao.map (·.add (lo*sz))) (hi-lo) (cap-lo)):=by
 intro a w h
 obtain⟨inf,z,BB,hz,ne,_,_⟩:=ht.inf
 have Bd:P.underlying t=some (.slice (P.elem t)):=by simp[Program.elem,ht.sl]
 have e1:P.elem t=e:=by simp[Program.elem,ht.sl]
 have hs:(Go.sizeOf (P.elem t)).run P w = .ok sz w:=by simp[Go.sizeOf,typeInfo,e1,BB,ne]
 simp only[execOp,h.eval hx,hl a w h,hh a w h,Option.map_none]
 rw[Sem.run_bind,run_sliceAt_slice w t _ _ _ _ Bd]
 cases lv with
 | none=>
  subst Bf
  cases hv with
  | none=>subst AA;rw[run_slice_all w t ao hi cap Bd,hs];simp[sliced]
  | some q=>
   cases q <;> simp only at AA
   case int k q=>subst AA;rw[run_slice_h w t ao m cap Bd k _ (by omega) (by omega),hs];simp[sliced]
 | some p=>
  cases p <;> simp only at Bf
  case int k p=>
   subst Bf
   cases hv with
   | none=>subst AA;rw[run_slice_l w t ao hi cap Bd k _ (by omega) (by omega),hs];simp[sliced]
   | some q=>
    cases q <;> simp only at AA
    case int k' q=>subst AA;rw[run_slice_lh w t ao m cap Bd k k' _ _ (by omega) (by omega) (by omega),hs];simp[sliced]
theorem mr.call{w:World}{A:Addr}{cs:List Value}(h:mr F Nv A cs)(hp:Hp F Nv w L)(hs:Sel L Lc Lr)(n9:cs≠[]):mr (fps Lc) w A cs:=h.at hp hs.fps n9
end
end
section
variable {α:Type}{m cap:Nat}{cs:List Value}
variable [Rnd]
theorem wz{b k:Nat}:(⟨b,0,none⟩:Addr).add k=⟨b,k,none⟩:=by rw[Addr.add_lit,Nat.zero_add]
theorem ab{α:Type}{enc:α->List Value}{sz:Nat}(hl:∀ x,(enc x).length=sz):∀(l:List α) (i:Nat),i<=l.length->(l.flatMap enc).drop (i*sz)=(l.drop i).flatMap enc
 | _,0,_=>by simp
 | [],i+1,h=>by simp at h
 | x::l,i+1,h=>by
  rw[List.flatMap_cons,Nat.succ_mul,Nat.add_comm,<- hl x,<- List.drop_drop,List.drop_left,hl x]
  simpa using ab hl l i (by simpa using h)
theorem bG{α:Type}{enc:α->List Value}{sz:Nat}(hl:∀ x,(enc x).length=sz):∀(l:List α) (i:Nat),i<=l.length->(l.flatMap enc).take (i*sz)=(l.take i).flatMap enc
 | _,0,_=>by simp
 | [],i+1,h=>by simp at h
 | x::l,i+1,h=>by
  rw[List.flatMap_cons,Nat.succ_mul,Nat.add_comm,<- hl x,List.take_length_add_append,hl x,bG hl l i (by simpa using h)]
  simp
theorem pg{enc:α->List Value}{sz:Nat}(hl:∀ x,(enc x).length=sz)(l:List α):(l.flatMap enc).length=l.length*sz:=by
 induction l with
 | nil=>simp
 | cons x l ih=>rw[List.flatMap_cons,List.length_append,hl,ih,List.length_cons,Nat.succ_mul,Nat.add_comm]
theorem wG[Inhabited α]{enc:α->List Value}{sz:Nat}(hl:∀ x,(enc x).length=sz){l:List α}{i:Int}(h0:0<=i)(h1:i<l.length):
  ∀(j:Nat) (u:Value),(enc (nth l i))[j]?=some u->(l.flatMap enc)[i.toNat*sz+j]?=some u:=by
 intro j u hu
 have hi:i.toNat<l.length:=by omega
 rw[<- List.getElem?_drop,ab hl l i.toNat (by omega),List.drop_eq_getElem_cons hi,List.flatMap_cons,tY h0 h1]
 rw[List.getElem?_append_left (List.getElem?_eq_some_iff.1 hu).1]
 exact hu
theorem fZ[Inhabited α]{enc:α->List Value}{sz:Nat}(hl:∀ x,(enc x).length=sz){l:List α}{i:Int}{y:α}{k:Nat}{vs:List Value}(h0:0<=i)(h1:i<l.length)[hy:Nu (oo (enc (nth l i)) k vs) (enc y)](hk:k+vs.length<=sz):oo (l.flatMap enc) (i.toNat*sz+k) vs=(l.set i.toNat y).flatMap enc:=by
 have hy:=hy.1
 have hi:i.toNat<l.length:=by omega
 obtain⟨m,rfl⟩:∃ m:Nat,i=m:=⟨i.toNat,by omega⟩
 simp only[Int.toNat_natCast] at *
 have e1:l=l.take m++nth l (m:Int)::l.drop (m+1):=by
  rw[<- tY (Int.natCast_nonneg m) h1]
  simp
 have jy:(l.take m).length=m:=by simp;omega
 have e2:l.set m y=l.take m++y::l.drop (m+1):=by
  rw[List.set_eq_take_append_cons_drop,if_pos hi]
 have e3:((l.take m).flatMap enc).length=m*sz:=by rw[pg hl,jy]
 rw[e2,List.flatMap_append,List.flatMap_cons,<- hy]
 have e4:l.flatMap enc=(l.take m).flatMap enc++(enc (nth l (m:Int))++(l.drop (m+1)).flatMap enc):=by
  conv=>lhs;rw[e1,List.flatMap_append,List.flatMap_cons]
 rw[e4]
 unfold oo
 have hz:(enc (nth l (m:Int))).length=sz:=hl _
 rw[<- e3,List.take_length_add_append,List.take_append_of_le_length (by omega),Nat.add_assoc,List.drop_length_add_append,List.drop_append_of_le_length (by omega)]
 simp[List.append_assoc]
def WV(F:List Nat)(w w':World):Prop:=w.heap.size<=w'.heap.size/\∀ k,k<w.heap.size->k∉F->w'.heap[k]?=w.heap[k]?
theorem WV.refl(F:List Nat)(w:World):WV F w w:=⟨Nat.le_refl _,fun _ _ _=>rfl⟩
theorem WV.trans{F:List Nat}{a b c:World}(h:WV F a b)(k:WV [] b c):WV F a c:=
 ⟨Nat.le_trans h.1 k.1,fun i hi hf=>(k.2 i (Nat.lt_of_lt_of_le hi h.1) (by simp)).trans (h.2 i hi hf)⟩
section
variable {P:Program} {n:Nat} {F:List Nat} {Nv:World} {env:List (Nat×Value)} {L Lc Lr R:List Asrt} {eA:Array Oper} {Q:Exit->Act->World->Prop} {eZ l:List Oper}
 {dd:Nat} {d:Option Tmp} {ty:TypeId} {pos:String} {after:Array Edge} {g:Option (Nat×Bool)} {x y:Operand} {v u:Value} {t e T:TypeId} {sz tT:Nat}
theorem Hp.vo{w:World}{ao:Option Addr}(hm:Pick L (row (.slice ao m cap) e sz cs) R)(h:Hp F Nv w L)(n9:m≠0):∃ b,ao=some ⟨b,0,none⟩:=by
 rcases(h.rowShape hm).2.2.2 with⟨_,h0,_⟩ | h0
 ·exact absurd h0 n9
 ·exact h0
theorem YT{b i c:Nat}{ao:Option Addr}{ds:List Value}{z:Value}(ht:elT P t e sz tT)(hz:jk P e z)(hx:eo env x=some (.slice ao (m-i) c))(hao:ao=(if cap=i then some ⟨b,0,none⟩ else(some ⟨b,0,none⟩:Option Addr).map (·.add (i*sz))))(hi:i<=m)(h1:∀ u∈(Builtin.zeroCells z.cells (m-i)).toList,u.oneCell'=true)(hm:Pick L (row (.slice (some ⟨b,0,none⟩) m cap) e sz cs) R)(AG:cs.take (i*sz)++(Builtin.zeroCells z.cells (m-i)).toList=ds):
  aa P n F Nv env L ⟨none,.call ⟨.builtin .clear,#[x],#[t]⟩,ty,pos,after,g⟩ (row (.slice (some ⟨b,0,none⟩) m cap) e sz ds::R):=by
 intro a w h
 obtain⟨xD,Aw,_,_⟩:=h.hp.rowShape hm
 obtain⟨inf,z',B8,hz',ne,_,B4⟩:=ht.inf
 have hzz:z=z':=by
  have:=congrFun hz w
  simp[zeroValue,typeInfo,B8,hz'] at this
  exact this.symm
 have hzl:(Builtin.zeroCells z.cells (m-i)).toList.length=(m-i)*sz:=by rw[hzz];simp[size_zeroCells,B4]
 have hmi:m*sz=i*sz+(m-i)*sz:=by rw[<- Nat.add_mul];congr 1;omega
 by_cases h0:m-i=0
 ·refine⟨w,.inr ⟨.tuple #[],?_⟩,?_⟩
  ·have hx':eo env x=some (.slice ao 0 c):=by rw[hx,h0]
   cases ao <;> simp[execOp,h.eval hx',resolve,invoke,builtin,Builtin.clear_,run_underlying ht.sl]
  ·have:ds=cs:=by
    rw[<- AG,h0]
    have:m=i:=by omega
    subst this
    simp[Builtin.zeroCells,<- xD]
   rw[this];exact h.hp.front hm
 ·have n9:cap≠i:=by omega
  simp only[n9,if_false,Option.map_some,wz] at hao
  subst hao
  obtain⟨w',n4,hp⟩:=h.hp.rowPut (P:=P) (vs:=(Builtin.zeroCells z.cells (m-i)).toList) (off:=i*sz) h1 hm (by omega)
  refine⟨w',.inr ⟨.tuple #[],?_⟩,?_⟩
  ·have hzr:=congrFun hz w
   obtain⟨j,hj⟩:∃ j,m-i=j+1:=⟨m-i-1,by omega⟩
   rw[hj] at hx n4
   simp[execOp,h.eval hx,resolve,invoke,builtin,Builtin.clear_,run_underlying ht.sl,hzr,n4]
  ·have:oo cs (i*sz) (Builtin.zeroCells z.cells (m-i)).toList=ds:=by
    rw[<- AG,oo,List.drop_eq_nil_of_le (by omega),List.append_nil]
   rw[<- this];exact hp
theorem O1{b i:Nat}{hx':Operand}{kk:IntKind}{q:Int}(hg:gd env eA ⟨some dd,.slice t x none (some hx') none,ty,pos,after,g⟩=some true)(lp:Nat.blt dd n=true)(ht:elT P t e sz tT)(hx:eo env x=some (.slice (some ⟨b,0,none⟩) m cap))(hh:eo env hx'=some (.int kk q))(hm:Pick L (row (.slice (some ⟨b,0,none⟩) m cap) e sz cs) R)(hq:q=i)(hi:i<=m)(k:WL P n F Nv eA Q eZ ((dd,.slice (some ⟨b,0,none⟩) i cap)::env) (row (.slice (some ⟨b,0,none⟩) i cap) e sz (cs.take (i*sz))::R)):
  WL P n F Nv eA Q (⟨some dd,.slice t x none (some hx') none,ty,pos,after,g⟩::eZ) env L:=by
 refine Nj (fun w h=>h.rowShape hm) fun hs=>?_
 obtain⟨xD,Aw,B9,_⟩:=hs
 have hv:(if cap=0 then(some ⟨b,0,none⟩:Option Addr) else(some ⟨b,0,none⟩:Option Addr).map (·.add (0*sz)))=some ⟨b,0,none⟩:=by split <;> simp[Addr.add]
 refine Oa hg rfl lp (pF (lo:=0) (hi:=i) ht hx (lv:=none) (hv:=some (.int kk q)) (fun _ _ _=>rfl) (fun a w h=>by rw[Option.map_some,h.eval hh]) rfl hq (by omega) (by omega) (by simp)) ?_
 rw[hv,Nat.sub_zero,Nat.sub_zero]
 intro a w h
 refine k a w (h.world ((h.hp.front hm).upd (x:=row (.slice (some ⟨b,0,none⟩) m cap) e sz cs) (y:=row (.slice (some ⟨b,0,none⟩) i cap) e sz (cs.take (i*sz))) .here rfl ⟨rfl,Nat.le_refl _⟩ rfl (Nat.le_refl _) (fun _ _ _=>rfl) ?_ ?_))
 ·obtain⟨m',ip⟩:=h.hp.ok _ hm.mem
  rcases ip.2 with⟨zI,_⟩ | ⟨b0,n7,pA,zI,Be,Do,Ad,zk,zN,Ak⟩
  ·cases zI
  injection zI with e1 e2 e3
  injection e1 with e1
  injection e1 with e1
  subst e1 e2 e3
  have hmi:i*sz<=m*sz:=Nat.mul_le_mul_right _ hi
  refine⟨i,by simp;omega,.inr ⟨b,cap,pA,rfl,Be,Do,by omega,zk,zN,?_⟩⟩
  rw[<- Ak,List.take_take];congr 1;omega
 ·intro b' hb'
  simp[row,Value.ownBlock] at hb'
  subst hb'
  have:=h.hp.lt _ hm.mem b' (by simp[row,Value.ownBlock])
  exact⟨this,.inl (by simp[row,Value.ownBlock])⟩
end
end
section
variable {α:Type}{zc:Array Value}
variable [Rnd]
theorem iJ{α:Type}{enc:α->List Value}{sz:Nat}(hl:∀ x,(enc x).length=sz)(ne:0<sz):∀(l:List α) (i:Nat),(l.flatMap enc)[i]?=(l[i / sz]?).bind (fun x=>(enc x)[i % sz]?)
 | [],i=>by simp
 | x::l,i=>by
  rw[List.flatMap_cons]
  by_cases h:i<sz
  ·rw[List.getElem?_append_left (by rw[hl];exact h),Nat.div_eq_of_lt h,Nat.mod_eq_of_lt h]
   simp
  ·rw[List.getElem?_append_right (by rw[hl];omega),hl,iJ hl ne l]
   have h1:i / sz=(i-sz) / sz+1:=by rw[Nat.div_eq_sub_div ne (by omega)]
   have h2:i % sz=(i-sz) % sz:=by rw[Nat.mod_eq_sub_mod (by omega)]
   rw[h1,h2]
   simp
theorem pG{enc:α->List Value}{sz:Nat}{z0:α}(hl:∀ x,(enc x).length=sz)(ne:0<sz)(hz:zc=(enc z0).toArray)(k:Nat):
  (Builtin.zeroCells zc k).toList=(List.replicate k z0).flatMap enc:=by
 subst hz
 apply List.ext_getElem?
 intro i
 rw[iJ hl ne]
 simp only[Builtin.zeroCells,Array.getElem?_toList,Array.getElem?_map,List.size_toArray,hl,List.getElem?_replicate]
 have hm:i % sz<sz:=Nat.mod_lt _ ne
 by_cases h:i<k*sz
 ·have h1:i / sz<k:=(Nat.div_lt_iff_lt_mul ne).2 h
  have h2:(Array.range (k*sz))[i]?=some i:=by simp[h]
  rw[h2,if_pos h1]
  have h3:i % sz<(enc z0).length:=by rw[hl];exact hm
  simp[h3]
 ·have h1:¬i / sz<k:=fun hc=>h ((Nat.div_lt_iff_lt_mul ne).1 hc)
  have h2:(Array.range (k*sz))[i]?=none:=by simp;omega
  rw[h2,if_neg h1];rfl
theorem GN{enc:α->List Value}{sz:Nat}{z0:α}{l:List α}{i k:Nat}(hl:∀ x,(enc x).length=sz)(ne:0<sz)(hz:zc=(enc z0).toArray)(hi:i<=l.length):
  (l.flatMap enc).take (i*sz)++(Builtin.zeroCells zc k).toList=(l.take i++List.replicate k z0).flatMap enc:=by
 rw[bG hl l i hi,pG hl ne hz,List.flatMap_append]
theorem G4{enc:α->List Value}{sz:Nat}{z0:α}{k:Nat}(hl:∀ x,(enc x).length=sz)(ne:0<sz)(hz:zc=(enc z0).toArray)(ho:∀ x,∀ u∈enc x,u.oneCell'=true):
  ∀ u∈(Builtin.zeroCells zc k).toList,u.oneCell'=true:=by
 rw[pG hl ne hz];exact gN ho _
section
variable {P:Program} {n:Nat} {F:List Nat} {Nv:World} {env:List (Nat×Value)} {L Lc Lr R:List Asrt} {eA:Array Oper} {Q:Exit->Act->World->Prop} {eZ l:List Oper}
 {dd:Nat} {d:Option Tmp} {ty:TypeId} {pos:String} {after:Array Edge} {g:Option (Nat×Bool)} {x y:Operand} {v u:Value} {t e T:TypeId} {sz tT:Nat}
end
end
end Sep

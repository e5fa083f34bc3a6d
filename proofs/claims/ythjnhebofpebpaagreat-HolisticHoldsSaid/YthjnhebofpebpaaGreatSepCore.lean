/- A part of this claim's proof: a symbolic heap of what a call owns, and the judgements over it. No conditions. -/
import Derived.WalkKit
import Derived.TacticsIn
import Derived.OrdersIn
import Derived.RangeFuncRecord
import Derived.RangeFuncCalls
import Derived.WalkSpells
import Derived.WalkLawsBesides
import Derived.Deep.Quiet
import Derived.Laws.AppendOwnNone
set_option linter.all false
namespace Sep
open Go Go.RowKit
section
class Nv{α:Type _}(a:α)(b:outParam α):Prop where h:a=b
instance{α:Type _}{a:α}:Nv a a:=⟨rfl⟩
structure Asrt where
 fp:List Nat
 ok:World->Prop
 loc:∀ w w':World,(∀ b∈fp,b<w.heap.size->w'.heap[b]?=w.heap[b]?)->(∀ b∈fp,b<w.heap.size)->ok w->ok w'
variable {α:Type}{w':World}{i m:Nat}{K:Act->World->Prop}{M L':List Asrt}{f:FuncId}{y:Code}
def wq(b:Nat)(o:Obj):Asrt where
 fp:=[b]
 ok w:=w.heap[b]?=some o
 loc w w' h hl hk:=by rw[h b (by simp) (hl b (by simp))];exact hk
def row(v:Value)(e:TypeId)(sz:Nat)(cs:List Value):Asrt where
 fp:=v.ownBlock.toList
 ok w:=∃ n,w.ownsRow 0 e sz v n cs
 loc w w' h hl hk:=by
  obtain⟨n,h1,h2⟩:=hk
  refine⟨n,h1,?_⟩
  rcases h2 with h2 | ⟨g,cap,nk,hv,hg,hh,r⟩
  ·exact .inl h2
  ·have hm:g∈v.ownBlock.toList:=by subst hv;simp[Value.ownBlock]
   exact .inr ⟨g,cap,nk,hv,hg,by rw[h g hm (hl g hm)];exact hh,r⟩
structure TD (Ny w:World):Prop where
 t:w.tape=Ny.tape
 d:Ny.drawn<=w.drawn
theorem TD.trans{a b c:World}(h:TD b c)(k:TD a b):TD a c:=⟨h.t.trans k.t,Nat.le_trans k.d h.d⟩
theorem TD.refl(w:World):TD w w:=⟨rfl,Nat.le_refl _⟩
structure Hp (F:List Nat) (Ny w:World) (L:List Asrt):Prop where
 os:w.os=Ny.os
 tape:TD Ny w
 output:w.output=Ny.output
 size:Ny.heap.size<=w.heap.size
 block:∀ k,k<Ny.heap.size->k∉F->w.heap[k]?=Ny.heap[k]?
 ok:∀ x∈L,x.ok w
 lt:∀ x∈L,∀ b∈x.fp,b<w.heap.size
 ow:∀ x∈L,∀ b∈x.fp,b∈F\/Ny.heap.size<=b
 sep:L.Pairwise fun x y=>∀ b∈x.fp,b∉y.fp
theorem Hp.nil(w:World)(F:List Nat):Hp F w w []:=
 ⟨rfl,TD.refl _,rfl,Nat.le_refl _,fun _ _ _=>rfl,by simp,by simp,by simp,.nil⟩
theorem Hp.below{Ny w:World}{L:List Asrt}(h:Hp [] Ny w L):Below Ny.heap.size Ny w:=
 ⟨h.os,h.tape.t,h.output,h.size,fun k hk=>h.block k hk (by simp)⟩
structure Ext (w w':World):Prop where
 os:w'.os=w.os
 tape:TD w w'
 output:w'.output=w.output
 size:w.heap.size<=w'.heap.size
 block:∀ k,k<w.heap.size->w'.heap[k]?=w.heap[k]?
theorem Ext.refl(w:World):Ext w w:=⟨rfl,TD.refl _,rfl,Nat.le_refl _,fun _ _=>rfl⟩
theorem Ext.trans{a b c:World}(h:Ext a b)(k:Ext b c):Ext a c:=
 ⟨k.os.trans h.os,k.tape.trans h.tape,k.output.trans h.output,Nat.le_trans h.size k.size,
  fun i hi=>(k.block i (Nat.lt_of_lt_of_le hi h.size)).trans (h.block i hi)⟩
theorem Ext.Xe(w:World)(n:Nat)(h:w.drawn<=n):Ext w { w with drawn:=n }:=⟨rfl,⟨rfl,h⟩,rfl,Nat.le_refl _,fun _ _=>rfl⟩
theorem Ext.alloc(w:World)(o:Obj):Ext w (w.alloc o):=⟨rfl,⟨rfl,Nat.le_refl _⟩,rfl,by simp,fun k hk=>Below.heap_alloc _ _ _ hk⟩
theorem Hp.ext{F:List Nat}{Ny w:World}{L:List Asrt}(h:Hp F Ny w L)(e:Ext w w'):Hp F Ny w' L:=
 ⟨e.os.trans h.os,e.tape.trans h.tape,e.output.trans h.output,Nat.le_trans h.size e.size,
  fun k hk hf=>(e.block k (Nat.lt_of_lt_of_le hk h.size)).trans (h.block k hk hf),
  fun x hx=>x.loc w w' (fun b _ hl=>e.block b hl) (h.lt x hx) (h.ok x hx),
  fun x hx b hb=>Nat.lt_of_lt_of_le (h.lt x hx b hb) e.size,h.ow,h.sep⟩
theorem Hp.toExt{Ny w:World}{L:List Asrt}(h:Hp [] Ny w L):Ext Ny w:=
 ⟨h.os,h.tape,h.output,h.size,fun k hk=>h.block k hk (by simp)⟩
inductive Pick {α:Type}:List α->α->List α->Prop
 | here {x:α} {R:List α}:Pick (x::R) x R
 | there {x y:α} {L R:List α} (h:Pick L x R):Pick (y::L) x (y::R)
theorem Pick.h1{a0 x:α}{R:List α}:Pick (a0::x::R) x (a0::R) := .there .here
theorem Pick.h2{a0 a1 x:α}{R:List α}:Pick (a0::a1::x::R) x (a0::a1::R) := .there .h1
theorem Pick.h3{a0 a1 a2 x:α}{R:List α}:Pick (a0::a1::a2::x::R) x (a0::a1::a2::R) := .there .h2
theorem Pick.h4{a0 a1 a2 a3 x:α}{R:List α}:Pick (a0::a1::a2::a3::x::R) x (a0::a1::a2::a3::R) := .there .h3
theorem Pick.h5{a0 a1 a2 a3 a4 x:α}{R:List α}:Pick (a0::a1::a2::a3::a4::x::R) x (a0::a1::a2::a3::a4::R) := .there .h4
theorem Pick.h6{a0 a1 a2 a3 a4 a5 x:α}{R:List α}:Pick (a0::a1::a2::a3::a4::a5::x::R) x (a0::a1::a2::a3::a4::a5::R) := .there .h5
theorem Pick.h7{a0 a1 a2 a3 a4 a5 a6 x:α}{R:List α}:Pick (a0::a1::a2::a3::a4::a5::a6::x::R) x (a0::a1::a2::a3::a4::a5::a6::R) := .there .h6
inductive Sel {α:Type}:List α->List α->List α->Prop
 | nil {L:List α}:Sel L [] L
 | cons {x:α} {L R L' M:List α} (h:Pick L x R) (t:Sel R L' M):Sel L (x::L') M
theorem Pick.perm{L R:List α}{x:α}(h:Pick L x R):L.Perm (x::R):=by
 induction h with
 | here=>exact .refl _
 | there _ ih=>exact(List.Perm.cons _ ih).trans (List.Perm.swap ..)
theorem Sel.perm{α:Type}{L L' M:List α}(h:Sel L L' M):L.Perm (L'++M):=by
 induction h with
 | nil=>exact .refl _
 | cons h _ ih=>exact h.perm.trans (List.Perm.cons _ ih)
theorem Sel.all{L:List α}:Sel L L []:=by
 induction L with
 | nil=>exact .nil
 | cons x L ih=>exact .cons .here ih
theorem Hp.sub{F:List Nat}{Ny w:World}{L:List Asrt}(h:Hp F Ny w L)(hs:Sel L L' M):Hp F Ny w L':=by
 have hM:=hs.perm
 have hm:∀ x∈L',x∈L:=fun x hx=>hM.mem_iff.2 (List.mem_append_left _ hx)
 have hp:(L'++M).Pairwise fun x y=>∀ b∈x.fp,b∉y.fp:=
  (List.Perm.pairwise_iff (fun {x y} hxy b hb hc=>hxy b hc hb) hM).1 h.sep
 exact⟨h.os,h.tape,h.output,h.size,h.block,fun x hx=>h.ok x (hm x hx),fun x hx=>h.lt x (hm x hx),fun x hx=>h.ow x (hm x hx),
  (List.pairwise_append.1 hp).1⟩
theorem Hp.call{F:List Nat}{Ny w:World}{L Lc Lr:List Asrt}(h:Hp F Ny w L)(hs0:Sel L Lc Lr)(c:Hp (Lc.flatMap (·.fp)) w w' M):Hp F Ny w' (M++Lr):=by
 have hs:=hs0.perm
 have AW:∀ x∈Lc,x∈L:=fun x hx=>hs.mem_iff.2 (List.mem_append_left _ hx)
 have D5:∀ x∈Lr,x∈L:=fun x hx=>hs.mem_iff.2 (List.mem_append_right _ hx)
 have hp:(Lc++Lr).Pairwise fun x y=>∀ b∈x.fp,b∉y.fp:=
  (List.Perm.pairwise_iff (fun {x y} hxy b hb hc=>hxy b hc hb) hs).1 h.sep
 obtain⟨_,hpr,hcr⟩:=List.pairwise_append.1 hp
 have tv:∀ x∈Lr,∀ b∈x.fp,b∉Lc.flatMap (·.fp):=fun x hx b hb hc=>by
  obtain⟨y,hy,w8⟩:=List.mem_flatMap.1 hc
  exact hcr y hy x hx b w8 hb
 have hF:∀ b∈Lc.flatMap (·.fp),b∈F\/Ny.heap.size<=b:=fun b hb=>by
  obtain⟨y,hy,w8⟩:=List.mem_flatMap.1 hb
  exact h.ow y (AW y hy) b w8
 refine⟨c.os.trans h.os,c.tape.trans h.tape,c.output.trans h.output,Nat.le_trans h.size c.size,?_,?_,?_,?_,?_⟩
 ·intro k hk hf
  rw[c.block k (Nat.lt_of_lt_of_le hk h.size) (fun hc=>by
   rcases hF k hc with h1 | h1
   ·exact hf h1
   ·omega)]
  exact h.block k hk hf
 ·intro x hx
  rcases List.mem_append.1 hx with hx | hx
  ·exact c.ok x hx
  ·exact x.loc w w' (fun b hb hl=>c.block b hl (tv x hx b hb)) (h.lt x (D5 x hx)) (h.ok x (D5 x hx))
 ·intro x hx b hb
  rcases List.mem_append.1 hx with hx | hx
  ·exact c.lt x hx b hb
  ·exact Nat.lt_of_lt_of_le (h.lt x (D5 x hx) b hb) c.size
 ·intro x hx b hb
  rcases List.mem_append.1 hx with hx | hx
  ·rcases c.ow x hx b hb with h1 | h1
   ·exact hF b h1
   ·exact .inr (Nat.le_trans h.size h1)
  ·exact h.ow x (D5 x hx) b hb
 ·refine List.pairwise_append.2 ⟨c.sep,hpr,fun x hx y hy b hb hc=>?_⟩
  rcases c.ow x hx b hb with h1 | h1
  ·exact tv y hy b hc h1
  ·have:=h.lt y (D5 y hy) b hc;omega
def lk:List (Nat×Value)->Nat->Option Value
 | [],_=>none
 | (j,v)::r,i=>bif Nat.beq i j then some v else lk r i
def eo(env:List (Nat×Value)):Operand->Option Value
 | .tmp t=>lk env t
 | .const v=>some v
 | .global g=>some (.pointer (some ⟨g,0,none⟩))
 | .func f=>some (.func (.func f) #[] #[])
theorem pl{d:Nat}(h:i≠d):Nat.beq i d=false:=by
 cases hb:Nat.beq i d with
 | false=>rfl
 | true=>exact absurd (Nat.eq_of_beq_eq_true hb) h
def Ev(env:List (Nat×Value))(tmps:Array Value):Prop:=∀ i v,lk env i=some v->tmps[i]?=some v
theorem Ev.put{env:List (Nat×Value)}{tmps:Array Value}(h:Ev env tmps)(d:Nat)(v:Value)(hd:d<tmps.size):
  Ev ((d,v)::env) (tmps.setIfInBounds d v):=by
 intro i u hu
 simp only[lk] at hu
 by_cases hi:i=d
 ·subst hi
  simp at hu;subst hu
  simp[hd]
 ·have:Nat.beq i d=false:=pl hi
  rw[this] at hu
  rw[Array.getElem?_setIfInBounds_ne (fun e=>hi e.symm)]
  exact h i u hu
class Rnd where
 r:Option Nat
 ds:List Deferred
instance Rnd.base:Rnd:=⟨none,[]⟩
def FN[R:Rnd]:Fence:={ fn:=fun _=>True,depth:=none,alive:=false,round:=R.r }
variable [Rnd]
theorem KK{P:Program}{args:Array Value}{w:World}{R:Ending->World->Prop}(h:Calls P f args w R):CallsIn FN m P f args w R:=
 (callsIn_wide (n:=m)).2 h
theorem QA{P:Program}{args:Array Value}{w:World}{R:Ending->World->Prop}(h:CallsIn FN m P f args w R):Calls P f args w R:=
 (callsIn_wide (n:=m)).1 h
structure SS (n:Nat) (F:List Nat) (Ny:World) (env:List (Nat×Value)) (L:List Asrt) (a:Act) (w:World):Prop where
 defers:a.defers=Rnd.ds
 size:a.tmps.size=n
 ev:Ev env a.tmps
 hp:Hp F Ny w L
section
variable {n:Nat} {F:List Nat} {Ny:World} {env:List (Nat×Value)} {L:List Asrt} {a:Act} {w:World}
theorem SS.get(h:SS n F Ny env L a w){t:Nat}{v:Value}(hv:lk env t=some v):a.tmps.getD t undef=v:=by
 have:=h.ev t v hv
 simp[Array.getD_eq_getD_getElem?,this]
theorem SS.eval(h:SS n F Ny env L a w){x:Operand}{v:Value}(hv:eo env x=some v):a.eval x=v:=by
 cases x with
 | tmp t=>exact h.get hv
 | const c=>simpa [eo,Act.eval] using hv
 | global g=>simpa [eo,Act.eval] using hv
 | func f=>simpa [eo,Act.eval] using hv
theorem SS.put(h:SS n F Ny env L a w){d:Nat}(hd:Nat.blt d n=true)(v:Value){L':List Asrt}{w':World}(hp:Hp F Ny w' L'):
  SS n F Ny ((d,v)::env) L' (a.put (some d) v) w':=by
 have hd':d<a.tmps.size:=by rw[h.size];simpa [Nat.blt_eq] using hd
 exact⟨h.defers,by simp[Act.put,h.size],h.ev.put d v hd',hp⟩
theorem SS.world(h:SS n F Ny env L a w)(hp:Hp F Ny w' L'):SS n F Ny env L' a w':=⟨h.defers,h.size,h.ev,hp⟩
inductive Restr (env:List (Nat×Value)):List (Nat×Value)->Prop
 | nil:Restr env []
 | cons {i:Nat} {v:Value} {r:List (Nat×Value)} (h:lk env i=some v) (t:Restr env r):Restr env ((i,v)::r)
theorem Restr.lk{env env':List (Nat×Value)}(h:Restr env env'):∀ i v,lk env' i=some v->lk env i=some v:=by
 induction h with
 | nil=>intro i v h;cases h
 | @cons j u r h t ih=>
  intro i v hv
  simp only[Sep.lk] at hv
  by_cases hi:i=j
  ·subst hi;simp at hv;subst hv;exact h
  ·have:Nat.beq i j=false:=pl hi
   rw[this] at hv
   exact ih i v hv
theorem SS.restr{env':List (Nat×Value)}(h:SS n F Ny env L a w)(hr:Restr env env'):SS n F Ny env' L a w:=
 ⟨h.defers,h.size,fun i v hv=>h.ev i v (hr.lk i v hv),h.hp⟩
theorem SS.drop{L' M:List Asrt}(h:SS n F Ny env L a w)(hs:Sel L L' M):SS n F Ny env L' a w:=⟨h.defers,h.size,h.ev,h.hp.sub hs⟩
end
def gd(env:List (Nat×Value))(eA:Array Oper)(o:Oper):Option Bool:=
 match o.guard with
 | none=>some true
 | some (j,b)=>match eA[j]? with
  | none=>none
  | some oj=>match oj.dst with
   | none=>none
   | some d=>match lk env d with
    | some (.bool c)=>some (bif b then c else !c)
    | some (.tuple _)=>some false
    | _=>none
theorem kY{env:List (Nat×Value)}{eA:Array Oper}{o:Oper}{r:Bool}{n:Nat}{F:List Nat}{Ny:World}{L:List Asrt}{a:Act}{w:World}(h:SS n F Ny env L a w)(hg:gd env eA o=some r):Region.wanted o (yielded eA a.tmps)=r:=by
 unfold gd at hg
 cases hgd:o.guard with
 | none=>rw[hgd] at hg;simp[Region.wanted,hgd] at hg ⊢;exact hg
 | some p=>
  obtain⟨j,b⟩:=p
  rw[hgd] at hg
  simp only at hg
  split at hg
  ·cases hg
  ·rename_i oj hj
   split at hg
   ·cases hg
   ·rename_i d hd
    split at hg
    ·rename_i c hc
     have:=h.ev d _ hc
     simp only[Region.wanted,hgd,yielded,hj,hd,this,Option.bind_some]
     cases b <;> cases c <;> simp_all
    ·rename_i vs hc
     have:=h.ev d _ hc
     simp only[Region.wanted,hgd,yielded,hj,hd,this,Option.bind_some]
     simp_all
    ·cases hg
def WL(P:Program)(n:Nat)(F:List Nat)(Ny:World)(eA:Array Oper)(Q:Exit->Act->World->Prop)(l:List Oper)(env:List (Nat×Value))(L:List Asrt):Prop:=∀ a w,SS n F Ny env L a w->wpListIn FN 0 P eA Q l a w
def WC(P:Program)(n:Nat)(F:List Nat)(Ny:World)(Q:Exit->Act->World->Prop)(c:Code)(env:List (Nat×Value))(L:List Asrt):Prop:=∀ a w,SS n F Ny env L a w->c.wpIn FN 0 P Q a w
def WX(n:Nat)(F:List Nat)(Ny:World)(Q:Exit->Act->World->Prop)(e:Exit)(env:List (Nat×Value))(L:List Asrt):Prop:=∀ a w,SS n F Ny env L a w->Q e a w
section
variable {P:Program} {n:Nat} {F:List Nat} {Ny:World} {eA:Array Oper} {Q:Exit->Act->World->Prop} {ir:List Oper}
 {env:List (Nat×Value)} {L:List Asrt} {o:Oper}
theorem WL.nil(k:WX n F Ny Q .normal env L):WL P n F Ny eA Q [] env L:=k
theorem bM{P:Program}{ρ:Operand->Value}{o:Oper}{x:Next}{w:World}{ro:Option Nat}(h:(execOp ρ o).run P w = .ok x w')(hx:∀ d,x ≠ .defer d):
  (o.semAt ro ρ).run P w = .ok x w':=by
 by_cases hd:∃ c,o.op = .defer c
 ·obtain⟨c,hc⟩:=hd
  exfalso
  unfold execOp at h
  rw[hc] at h
  simp only[Sem.run_bind] at h
  cases hr:(resolve ρ c o.type).run P w with
  | ok y w1=>rw[hr] at h;simp[Result.andThen] at h;exact hx _ h.1.symm
  | halt y w1=>rw[hr] at h;simp[Result.andThen] at h
 ·rw[Oper.semAt_eq _ _ _ (fun c hc=>hd ⟨c,hc⟩)];exact h
theorem eF{a:Act}{w:World}{v:Value}(h:(execOp a.eval o).run P w = .ok (.value v) w')(k:K (a.put o.dst v) w'):o.wpIn FN 0 P a w K Q:=by
 refine⟨fun _ _=>trivial,?_⟩
 rw[bM h (fun d e=>by cases e)];exact k
theorem QB{a:Act}{w:World}(h:(execOp a.eval o).run P w = .ok .skip w')(k:K (a.put o.dst undef) w'):o.wpIn FN 0 P a w K Q:=by
 refine⟨fun _ _=>trivial,?_⟩
 rw[bM h (fun d e=>by cases e)];exact k
theorem QC{a:Act}{w:World}{vs:Array Value}(h:(execOp a.eval o).run P w = .ok (.enter f vs) w')(k:Calls P f vs w' fun e rg=>∃ v,e = .returned v/\K (a.put o.dst v) rg):o.wpIn FN 0 P a w K Q:=by
 refine⟨fun _ _=>trivial,?_⟩
 rw[bM h (fun d e=>by cases e),Oper.uponIn_enter]
 refine⟨fun h=>by simp[FN] at h,(KK k).mono ?_⟩
 rintro e rg ⟨v,rfl,hk⟩;exact hk
theorem ie{a:Act}{w:World}(hg:Region.wanted o (yielded eA a.tmps)=true)(h:o.wpIn FN 0 P a w (wpListIn FN 0 P eA Q ir) Q):wpListIn FN 0 P eA Q (o::ir) a w:=by
 unfold wpListIn
 rw[if_pos hg]
 exact h
theorem Om{v:Value}{d:Nat}(hg:gd env eA o=some true)(hd:o.dst=some d)(ll:Nat.blt d n=true)(hq:∀ a w,SS n F Ny env L a w->(execOp a.eval o).run P w = .ok (.value v) w)(k:WL P n F Ny eA Q ir ((d,v)::env) L):WL P n F Ny eA Q (o::ir) env L:=by
 intro a w h
 refine ie (kY h hg) ?_
 refine eF (hq a w h) ?_
 rw[hd]
 exact k _ _ (h.put ll v h.hp)
theorem O1{G:Type}{φ:G->Prop}{val:G->Value}{L':G->List Asrt}{d:Nat}(hg:gd env eA o=some true)(hd:o.dst=some d)(ll:Nat.blt d n=true)(hq:∀ a w,SS n F Ny env L a w->∃ g w',(execOp a.eval o).run P w = .ok (.value (val g)) w'/\φ g/\Hp F Ny w' (L' g))(k:∀ g,φ g->WL P n F Ny eA Q ir ((d,val g)::env) (L' g)):WL P n F Ny eA Q (o::ir) env L:=by
 intro a w h
 refine ie (kY h hg) ?_
 obtain⟨g,w',hr,tN,hp⟩:=hq a w h
 refine eF hr ?_
 rw[hd]
 exact k g tN _ _ (h.put ll _ hp)
def dE(P:Program)(o:Oper)(a:Act)(w w':World):Prop:=(execOp a.eval o).run P w = .ok .skip w'\/∃ v,(execOp a.eval o).run P w = .ok (.value v) w'
theorem Lk[hg:Nv (gd env eA o) (some true)][hd:Nv o.dst none](hq:∀ a w,SS n F Ny env L a w->∃ w',dE P o a w w'/\Hp F Ny w' L')(k:WL P n F Ny eA Q ir env L'):WL P n F Ny eA Q (o::ir) env L:=by
 intro a w h
 refine ie (kY h hg.1) ?_
 obtain⟨w',hr,hp⟩:=hq a w h
 rcases hr with hr | ⟨v,hr⟩
 ·refine QB hr ?_;rw[hd.1];exact k a w' (h.world hp)
 ·refine eF hr ?_;rw[hd.1];exact k a w' (h.world hp)
theorem N9{G:Type}{φ:G->Prop}{val:G->Value}{M:G->List Asrt}{f:FuncId}{vs:Array Value}{Lc Lr:List Asrt}{d:Nat}(hg:gd env eA o=some true)(hd:o.dst=some d)(ll:Nat.blt d n=true)(jA:∀ a w,SS n F Ny env L a w->(execOp a.eval o).run P w = .ok (.enter f vs) w)(hs:Sel L Lc Lr)(hc:∀ w,Hp F Ny w L->Calls P f vs w fun e w'=>∃ g,e = .returned (val g)/\φ g/\Hp (Lc.flatMap (·.fp)) w w' (M g))(k:∀ g,φ g->WL P n F Ny eA Q ir ((d,val g)::env) (M g++Lr)):WL P n F Ny eA Q (o::ir) env L:=by
 intro a w h
 refine ie (kY h hg) ?_
 refine QC (jA a w h) ((hc w h.hp).mono ?_)
 rintro e w' ⟨g,rfl,tN,hp⟩
 refine⟨_,rfl,?_⟩
 rw[hd]
 exact k g tN _ _ (h.put ll _ (h.hp.call hs hp))
theorem WL.e{d:Nat}(hg:gd env eA o=some false)(hd:o.dst=some d)[ll:Nv (Nat.blt d n) true](k:WL P n F Ny eA Q ir ((d,undef)::env) L):WL P n F Ny eA Q (o::ir) env L:=by
 intro a w h
 unfold wpListIn
 rw[if_neg (by rw[kY h hg];simp),hd]
 exact⟨fun _ _=>trivial,k _ _ (h.put ll.1 undef h.hp)⟩
theorem WL.restr{env':List (Nat×Value)}{l:List Oper}(hr:Restr env env')(k:WL P n F Ny eA Q l env' L):WL P n F Ny eA Q l env L:=
 fun a w h=>k a w (h.restr hr)
theorem WL.drop{L' M:List Asrt}{l:List Oper}(hs:Sel L L' M)(k:WL P n F Ny eA Q l env L'):WL P n F Ny eA Q l env L:=
 fun a w h=>k a w (h.drop hs)
theorem WC.restr{env':List (Nat×Value)}{c:Code}(hr:Restr env env')(k:WC P n F Ny Q c env' L):WC P n F Ny Q c env L:=
 fun a w h=>k a w (h.restr hr)
theorem WC.drop{L' M:List Asrt}{c:Code}(hs:Sel L L' M)(k:WC P n F Ny Q c env L'):WC P n F Ny Q c env L:=
 fun a w h=>k a w (h.drop hs)
theorem Ld{id:Nat}{l:List Oper}(k:WL P n F Ny l.toArray Q l env L):WC P n F Ny Q (.region id l.toArray false) env L:=
 fun a w h=>wpIn_region_lit (k a w h)
theorem WC.b{x:Code}(k:WC P n F Ny (Exit.then (fun a w=>y.wpIn FN 0 P Q a w) Q) x env L):WC P n F Ny Q (.seq x y) env L:=
 fun a w h=>wpIn_seq (k a w h)
theorem Lb(k:WC P n F Ny Q y env L):WX n F Ny (Exit.then (fun a w=>y.wpIn FN 0 P Q a w) Q) .normal env L:=k
theorem Ln(k:WX n F Ny Q (.exit i) env L):WX n F Ny (Exit.then K Q) (.exit i) env L:=k
theorem Ll(k:WX n F Ny Q .ret env L):WX n F Ny (Exit.then K Q) .ret env L:=k
theorem N3(k:WX n F Ny Q .normal env L):WC P n F Ny Q .skip env L:=fun a w h=>wpIn_skip (k a w h)
theorem Np(k:WC P n F Ny Q y env L):WC P n F Ny (Exit.then (fun a w=>y.wpIn FN 0 P Q a w) Q) .skip env L:=N3 (Lb k)
theorem Nz(k:WX n F Ny Q .ret env L):WC P n F Ny Q .ret env L:=fun a w h=>wpIn_ret (k a w h)
theorem N2{i:Nat}(k:WX n F Ny Q (.exit i) env L):WC P n F Ny Q (.exit i) env L:=fun a w h=>wpIn_exit (k a w h)
theorem WC.block{i:Nat}{c:Code}(k:WC P n F Ny (Exit.inBlock i Q) c env L):WC P n F Ny Q (.block i c) env L:=fun a w h=>wpIn_block (k a w h)
theorem Lt(k:WX n F Ny Q .normal env L):WX n F Ny (Exit.inBlock i Q) .normal env L:=k
theorem Lx(k:WX n F Ny Q .ret env L):WX n F Ny (Exit.inBlock i Q) .ret env L:=k
theorem Lv(k:WX n F Ny Q .normal env L):WX n F Ny (Exit.inBlock i Q) (.exit i) env L:=by
 intro a w h;simp only[Exit.inBlock,if_true];exact k a w h
theorem Ow{j:Nat}(hij:Nat.beq j i=false)(k:WX n F Ny Q (.exit j) env L):WX n F Ny (Exit.inBlock i Q) (.exit j) env L:=by
 intro a w h
 have:j≠i:=by intro e;subst e;simp at hij
 simp only[Exit.inBlock,this,if_false];exact k a w h
theorem WC.cond{c:Operand}{x y:Code}{b:Bool}(hc:eo env c=some (.bool b))(ht:b=true->WC P n F Ny Q x env L)(hf:b=false->WC P n F Ny Q y env L):
  WC P n F Ny Q (.cond c x y) env L:=by
 intro a w h
 refine wpIn_cond_split (h.eval hc) (fun e=>ht e a w h) (fun e=>hf e a w h)
theorem Od{G:Type}(φ:G->Prop)(iP:G->List (Nat×Value))(LI:G->List Asrt){x:Code}(k1:WC P n F Ny (Exit.then (fun a w=>∃ g,φ g/\SS n F Ny (iP g) (LI g) a w) Q) x env L)(k2:∀ g,φ g->WC P n F Ny Q y (iP g) (LI g)):WC P n F Ny Q (.seq x y) env L:=by
 intro a w h
 refine wpIn_seq (Go.wpIn_mono (k1 a w h) ?_)
 intro e a' w' hq
 cases e with
 | normal=>obtain⟨g,tN,hs⟩:=hq;exact k2 g tN a' w' hs
 | _=>exact hq
theorem Lp{G:Type}{φ:G->Prop}{iP:G->List (Nat×Value)}{LI:G->List Asrt}(g:G)(tN:φ g)(hr:Restr env (iP g))(hL:Sel L (LI g) M):
  WX n F Ny (Exit.then (fun a w=>∃ g,φ g/\SS n F Ny (iP g) (LI g) a w) Q) .normal env L:=
 fun _ _ h=>⟨g,tN,(h.restr hr).drop hL⟩
theorem H9{G:Type}(φ:G->Prop)(iP:G->List (Nat×Value))(LI:G->List Asrt)(μ:G->Nat){c:Code}(nf:G)(h0:φ nf)(hr:Restr env (iP nf)){M:List Asrt}(hL:Sel L (LI nf) M)(round:∀ g,φ g->WC P n F Ny (Exit.then (fun a w=>∃ g',(φ g'/\μ g'<μ g)/\SS n F Ny (iP g') (LI g') a w) Q) c (iP g) (LI g)):
  WC P n F Ny Q (.loop c) env L:=by
 intro a w h b k cs D6 hb zt
 have key:∀ m g,μ g=m->φ g->∀ a w,SS n F Ny (iP g) (LI g) a w->
   ∃ e a' w',Q e a' w'/\ArrivesIn (Machine.fenced P FN) P (lone (b.atR a (.code c :: .inLoop c::k)) cs w) b k cs e a' w':=by
  intro m
  induction m using Nat.strongRecOn with
  | _ m ih=>
   intro g hm tN a w h
   obtain⟨e,sG,sP,hq,rh⟩:=round g tN a w h b (.inLoop c::k) cs D6 hb zt
   cases e with
   | normal=>
    obtain⟨g',⟨Dp,n8⟩,hs⟩:=hq
    obtain⟨Dq,Dr,Bf,Bu,zW⟩:=ih (μ g') (hm▸n8) g' rfl Dp sG sP hs
    exact⟨Dq,Dr,Bf,Bu,.of_steps (StepsIn.trans rh (.one (fenced_calm hb zt rfl) stepR_inLoop)) zW⟩
   | exit id=>exact⟨_,sG,sP,hq,.pass (x := .inLoop c) rfl (fun _ _ => .inl (by simp)) rh⟩
   | goto l=>exact⟨_,sG,sP,hq,.pass (x := .inLoop c) rfl (fun _ _ => .inl (by simp)) rh⟩
   | ret=>exact⟨_,sG,sP,hq,.pass (x := .inLoop c) rfl (fun _ _ => .inl (by simp)) rh⟩
   | panic ch=>exact⟨_,sG,sP,hq,.pass (x := .inLoop c) rfl (fun _ _ => .inl (by simp)) rh⟩
   | outgrown=>exact⟨_,sG,sP,hq,.pass (x := .inLoop c) rfl (fun _ _ => .inl (by simp)) rh⟩
 obtain⟨e,a',w',hq,rh⟩:=key _ nf rfl h0 a w ((h.restr hr).drop hL)
 exact⟨e,a',w',hq,.of_steps (.one (fenced_calm hb zt rfl) stepR_loop) rh⟩
theorem N0{G:Type}{φ:G->Prop}{iP:G->List (Nat×Value)}{LI:G->List Asrt}{μ:G->Nat}(g:G)(tN:φ g)(hr:Restr env (iP g))(hL:Sel L (LI g) M)(hμ:μ g<m:=by exact Nat.lt_succ_self _):
  WX n F Ny (Exit.then (fun a w=>∃ g',(φ g'/\μ g'<m)/\SS n F Ny (iP g') (LI g') a w) Q) .normal env L:=
 fun _ _ h=>⟨g,⟨tN,hμ⟩,(h.restr hr).drop hL⟩
end
theorem oJ{α:Type _}{a b:α}(h:some a=some b):a=b:=Option.some.inj h
theorem oB{α:Type _}{β:Type _}(a:α)(f:α->Option β):(some a).bind f=f a:=rfl
abbrev vi (n:Int):Value:=.int .i64 n
abbrev vp (b:Nat):Value:=.pointer (some ⟨b, 0, none⟩)
abbrev vq (a:Addr):Value:=.pointer (some a)
abbrev vn:Value:=.slice none 0 0
theorem U {α : Sort _} {a : α} : a = a := rfl
def bz (a b:Nat):Array Bool:=(List.replicate a true ++ List.replicate b false).toArray
def dn:Nat -> List Nat
  | 0 => []
  | n + 1 => n :: dn n
abbrev vI:Int -> Value:=.int .i64
abbrev nc (i:Nat):Bool:=[].contains i
abbrev ga {α:Type} (E:α -> List Value) (x:α):Value:=.agg (E x).toArray
abbrev rq {α:Type} (E:α -> List Value) (r:List Value) (x:α):Prop:=r = E x
abbrev vs (a:Option Addr) (n k:Nat):Value:=.slice a n k
abbrev cu2{A B R:Type _}(f:A->B->R)(g:A×B):R:=f g.1 g.2
abbrev cu3{A0 A1 A2 R:Type _}(f:A0->A1->A2->R)(g:A0×A1×A2):R:=cu2 (f g.1) g.2
abbrev cu4{A0 A1 A2 A3 R:Type _}(f:A0->A1->A2->A3->R)(g:A0×A1×A2×A3):R:=cu3 (f g.1) g.2
abbrev cu5{A0 A1 A2 A3 A4 R:Type _}(f:A0->A1->A2->A3->A4->R)(g:A0×A1×A2×A3×A4):R:=cu4 (f g.1) g.2
abbrev cu6{A0 A1 A2 A3 A4 A5 R:Type _}(f:A0->A1->A2->A3->A4->A5->R)(g:A0×A1×A2×A3×A4×A5):R:=cu5 (f g.1) g.2
abbrev cu7{A0 A1 A2 A3 A4 A5 A6 R:Type _}(f:A0->A1->A2->A3->A4->A5->A6->R)(g:A0×A1×A2×A3×A4×A5×A6):R:=cu6 (f g.1) g.2
abbrev cu8{A0 A1 A2 A3 A4 A5 A6 A7 R:Type _}(f:A0->A1->A2->A3->A4->A5->A6->A7->R)(g:A0×A1×A2×A3×A4×A5×A6×A7):R:=cu7 (f g.1) g.2
abbrev cu9{A0 A1 A2 A3 A4 A5 A6 A7 A8 R:Type _}(f:A0->A1->A2->A3->A4->A5->A6->A7->A8->R)(g:A0×A1×A2×A3×A4×A5×A6×A7×A8):R:=cu8 (f g.1) g.2
abbrev cu10{A0 A1 A2 A3 A4 A5 A6 A7 A8 A9 R:Type _}(f:A0->A1->A2->A3->A4->A5->A6->A7->A8->A9->R)(g:A0×A1×A2×A3×A4×A5×A6×A7×A8×A9):R:=cu9 (f g.1) g.2
abbrev cu11{A0 A1 A2 A3 A4 A5 A6 A7 A8 A9 n9 R:Type _}(f:A0->A1->A2->A3->A4->A5->A6->A7->A8->A9->n9->R)(g:A0×A1×A2×A3×A4×A5×A6×A7×A8×A9×n9):R:=cu10 (f g.1) g.2
abbrev cu12{A0 A1 A2 A3 A4 A5 A6 A7 A8 A9 n9 qp R:Type _}(f:A0->A1->A2->A3->A4->A5->A6->A7->A8->A9->n9->qp->R)(g:A0×A1×A2×A3×A4×A5×A6×A7×A8×A9×n9×qp):R:=cu11 (f g.1) g.2
abbrev cu13{A0 A1 A2 A3 A4 A5 A6 A7 A8 A9 n9 qp vT R:Type _}(f:A0->A1->A2->A3->A4->A5->A6->A7->A8->A9->n9->qp->vT->R)(g:A0×A1×A2×A3×A4×A5×A6×A7×A8×A9×n9×qp×vT):R:=cu12 (f g.1) g.2
abbrev cu14{A0 A1 A2 A3 A4 A5 A6 A7 A8 A9 n9 qp vT xD R:Type _}(f:A0->A1->A2->A3->A4->A5->A6->A7->A8->A9->n9->qp->vT->xD->R)(g:A0×A1×A2×A3×A4×A5×A6×A7×A8×A9×n9×qp×vT×xD):R:=cu13 (f g.1) g.2
abbrev cu15{A0 A1 A2 A3 A4 A5 A6 A7 A8 A9 n9 qp vT xD zf R:Type _}(f:A0->A1->A2->A3->A4->A5->A6->A7->A8->A9->n9->qp->vT->xD->zf->R)(g:A0×A1×A2×A3×A4×A5×A6×A7×A8×A9×n9×qp×vT×xD×zf):R:=cu14 (f g.1) g.2
abbrev cu16{A0 A1 A2 A3 A4 A5 A6 A7 A8 A9 n9 qp vT xD zf zq R:Type _}(f:A0->A1->A2->A3->A4->A5->A6->A7->A8->A9->n9->qp->vT->xD->zf->zq->R)(g:A0×A1×A2×A3×A4×A5×A6×A7×A8×A9×n9×qp×vT×xD×zf×zq):R:=cu15 (f g.1) g.2
abbrev cu17{A0 A1 A2 A3 A4 A5 A6 A7 A8 A9 n9 qp vT xD zf zq zJ R:Type _}(f:A0->A1->A2->A3->A4->A5->A6->A7->A8->A9->n9->qp->vT->xD->zf->zq->zJ->R)(g:A0×A1×A2×A3×A4×A5×A6×A7×A8×A9×n9×qp×vT×xD×zf×zq×zJ):R:=cu16 (f g.1) g.2
abbrev cu18{A0 A1 A2 A3 A4 A5 A6 A7 A8 A9 n9 qp vT xD zf zq zJ zX R:Type _}(f:A0->A1->A2->A3->A4->A5->A6->A7->A8->A9->n9->qp->vT->xD->zf->zq->zJ->zX->R)(g:A0×A1×A2×A3×A4×A5×A6×A7×A8×A9×n9×qp×vT×xD×zf×zq×zJ×zX):R:=cu17 (f g.1) g.2
abbrev cu19{A0 A1 A2 A3 A4 A5 A6 A7 A8 A9 n9 qp vT xD zf zq zJ zX AB R:Type _}(f:A0->A1->A2->A3->A4->A5->A6->A7->A8->A9->n9->qp->vT->xD->zf->zq->zJ->zX->AB->R)(g:A0×A1×A2×A3×A4×A5×A6×A7×A8×A9×n9×qp×vT×xD×zf×zq×zJ×zX×AB):R:=cu18 (f g.1) g.2
abbrev cu20{A0 A1 A2 A3 A4 A5 A6 A7 A8 A9 n9 qp vT xD zf zq zJ zX AB Bg R:Type _}(f:A0->A1->A2->A3->A4->A5->A6->A7->A8->A9->n9->qp->vT->xD->zf->zq->zJ->zX->AB->Bg->R)(g:A0×A1×A2×A3×A4×A5×A6×A7×A8×A9×n9×qp×vT×xD×zf×zq×zJ×zX×AB×Bg):R:=cu19 (f g.1) g.2
abbrev cu21{A0 A1 A2 A3 A4 A5 A6 A7 A8 A9 n9 qp vT xD zf zq zJ zX AB Bg B5 R:Type _}(f:A0->A1->A2->A3->A4->A5->A6->A7->A8->A9->n9->qp->vT->xD->zf->zq->zJ->zX->AB->Bg->B5->R)(g:A0×A1×A2×A3×A4×A5×A6×A7×A8×A9×n9×qp×vT×xD×zf×zq×zJ×zX×AB×Bg×B5):R:=cu20 (f g.1) g.2
abbrev cu22{A0 A1 A2 A3 A4 A5 A6 A7 A8 A9 n9 qp vT xD zf zq zJ zX AB Bg B5 Ds R:Type _}(f:A0->A1->A2->A3->A4->A5->A6->A7->A8->A9->n9->qp->vT->xD->zf->zq->zJ->zX->AB->Bg->B5->Ds->R)(g:A0×A1×A2×A3×A4×A5×A6×A7×A8×A9×n9×qp×vT×xD×zf×zq×zJ×zX×AB×Bg×B5×Ds):R:=cu21 (f g.1) g.2
theorem Nw{p:Prop}[Decidable p]{α:Sort _}{a b:α}(h:p):(if decide p=true then a else b)=a:=if_pos (decide_eq_true h)
theorem Nx{p:Prop}[Decidable p]{α:Sort _}{a b:α}(h:¬p):(if decide p=true then a else b)=b:=if_neg (by simpa using h)
end
section
variable {i j:Nat}{v:Value}{oi oj:Oper}{w:World}{K:Act->World->Prop}{M L':List Asrt}
variable [Rnd]
def Oper.qo(P:Program)(o:Oper)(a:Act)(next:Act->World->Prop):Result Next->Prop
 | .ok (.value v) w'=>next (a.put o.dst v) w'
 | .ok .skip w'=>next (a.put o.dst undef) w'
 | .ok (.enter f args) w'=>Calls P f args w' fun e rg=>∃ v,e = .returned v/\next (a.put o.dst v) rg
 | _=>False
def opN(P:Program)(eA:Array Oper)(i:Nat)(K:Act->World->Prop)(a:Act)(w:World):Prop:=
 match eA[i]? with
 | none=>K a w
 | some o=>if Region.wanted o (yielded eA a.tmps) then Oper.qo P o a K ((execOp a.eval o).run P w) else K (a.put o.dst undef) w
theorem Oper.XU{P:Program}{o:Oper}{a:Act}{K':Act->World->Prop}(h:∀ a w,K a w->K' a w){r:Result Next}(hh:Oper.qo P o a K r):Oper.qo P o a K' r:=by
 cases r with
 | ok x w'=>
  cases x <;> simp only[Oper.qo] at hh ⊢ <;> first
   | exact h _ _ hh
   | exact hh.mono fun e rg ⟨v,he,hk⟩=>⟨v,he,h _ _ hk⟩
 | halt x w'=>exact hh
theorem Ki{P:Program}{eA:Array Oper}{Q:Exit->Act->World->Prop}{a:Act}(h:opN P eA i K a w):wpOpIn FN 0 P eA Q i K a w:=by
 unfold opN at h
 unfold wpOpIn
 cases ho:eA[i]? with
 | none=>simpa [ho] using h
 | some o=>
  simp only[ho] at h ⊢
  split
  ·rename_i hw
   simp only[hw,if_true] at h
   generalize hr:(execOp a.eval o).run P w=r at h
   cases r with
   | ok x w'=>
    cases x <;> simp only[Oper.qo] at h <;> first
     | exact eF hr h
     | exact QB hr h
     | exact QC hr h
   | halt x w'=>simp only[Oper.qo] at h
  ·rename_i hw
   simp only[hw] at h
   exact⟨fun _ _=>trivial,h⟩
theorem eG{P:Program}{eA:Array Oper}{K':Act->World->Prop}{a:Act}(h:∀ a w,K a w->K' a w)(hh:opN P eA i K a w):opN P eA i K' a w:=by
 unfold opN at hh ⊢
 cases ho:eA[i]? with
 | none=>simp only[ho] at hh ⊢;exact h _ _ hh
 | some o=>
  simp only[ho] at hh ⊢
  split
  ·rename_i hw;simp only[hw,if_true] at hh;exact Oper.XU h hh
  ·rename_i hw;simp only[hw] at hh;exact h _ _ hh
def mU(eA:Array Oper)(i:Nat):Array Bool:=
 eA.foldl (init := #[]) fun jg o=>jg.push (o.after.any fun e=>Region.binds .any e&&(Nat.beq e.on i||jg.getD e.on false))
def Xf(eA:Array Oper)(j:Nat):Bool:=(List.range eA.size).all fun k=>Nat.beq k j||(mU eA k).getD j false
theorem F5{eA:Array Oper}(hi:eA[i]?=some oi)(h:Xf eA j=true)(tt:j≠i):(mU eA i).getD j false=true:=by
 unfold Xf at h
 simp only[List.all_eq_true,List.mem_range,Bool.or_eq_true] at h
 obtain⟨n8,_⟩:=Array.getElem?_eq_some_iff.1 hi
 rcases h i n8 with h | h
 ·exact absurd (Nat.eq_of_beq_eq_true h).symm tt
 ·exact h
def uA(P:Program)(eA:Array Oper)(tl:Nat->Bool)(St:World->Prop)(Q:Act->World->Prop):Nat->Array Bool->Act->World->Prop
 | 0,listed,a,w=>∀ w',Ext w w'->Region.ready .any eA listed=[]/\Q a w'
 | fuel+1,listed,a,w=>∀ w',Ext w w'->(Region.ready .any eA listed=[]->Q a w')/\
   ∀ i∈Region.ready .any eA listed,opN P eA i (fun a' rg=>((tl i=false->Ext w' rg)/\(Xf eA i=false->St w'->St rg))/\uA P eA tl St Q fuel (listed.setIfInBounds i true) a' rg) a w'
section
variable {P:Program} {eA:Array Oper} {tl:Nat->Bool} {St:World->Prop} {Q:Act->World->Prop}
theorem uA.up:∀ {fuel:Nat} {listed:Array Bool} {a:Act} {w w':World},uA P eA tl St Q fuel listed a w->Ext w w'->uA P eA tl St Q fuel listed a w'
 | 0,_,_,_,_,h,e=>fun _ e'=>h _ (e.trans e')
 | _+1,_,_,_,_,h,e=>fun _ e'=>h _ (e.trans e')
theorem uA.am{Q':Exit->Act->World->Prop}(hQ:∀ a w,Q a w->Q' .normal a w):∀ {fuel:Nat} {listed:Array Bool} {a:Act} {w:World},uA P eA tl St Q fuel listed a w->wpAnyIn FN 0 P .any eA Q' fuel listed a w
 | 0,_,_,w,h=>let ⟨h1,h2⟩:=h w (.refl w);⟨h1,hQ _ _ h2⟩
 | _+1,_,_,w,h=>let ⟨h1,h2⟩:=h w (.refl w)
  ⟨fun e=>hQ _ _ (h1 e),fun i hi=>Ki (eG (fun _ _ hk=>uA.am hQ hk.2) (h2 i hi))⟩
def QE(P:Program)(w:World)(v:Value):Result Next->Prop
 | .ok (.value u) w'=>Ext w w'/\u=v
 | .ok (.enter f args) w'=>Ext w w'/\Calls P f args w' fun e rg=>e = .returned v/\Ext w' rg
 | _=>False
def YE(P:Program)(eA:Array Oper)(o:Oper)(v:Value)(a:Act)(w:World):Prop:=
 (Region.wanted o (yielded eA a.tmps)=true/\∀ w',Ext w w'->QE P w' v ((execOp a.eval o).run P w')) \/
 (Region.wanted o (yielded eA a.tmps)=false/\v=undef)
theorem YE.up{o:Oper}{a:Act}{w':World}(h:YE P eA o v a w)(e:Ext w w'):YE P eA o v a w':=
 h.imp (fun h=>⟨h.1,fun rg e'=>h.2 rg (e.trans e')⟩) id
theorem YE.same{o:Oper}{a a':Act}(hy:YE P eA o v a w)(he:execOp a'.eval o=execOp a.eval o)(hw:Region.wanted o (yielded eA a'.tmps)=Region.wanted o (yielded eA a.tmps)):YE P eA o v a' w:=by
 unfold YE at *
 rw[he,hw]
 exact hy
theorem YE.opN{i:Nat}{o:Oper}{v:Value}{a:Act}{w:World}(hi:eA[i]?=some o)(hy:YE P eA o v a w){K:Act->World->Prop}(h:∀ w',Ext w w'->K (a.put o.dst v) w'):opN P eA i K a w:=by
 unfold Sep.opN
 simp only[hi]
 rcases hy with⟨hw,hv⟩ | ⟨hw,rfl⟩
 ·simp only[hw,if_true]
  have:=hv w (.refl w)
  generalize (execOp a.eval o).run P w=r at this
  cases r with
  | ok x w'=>
   cases x <;> simp only[QE] at this <;> simp only[Oper.qo]
   case value u=>obtain⟨e,rfl⟩:=this;exact h _ e
   case enter f args=>
    obtain⟨e,hc⟩:=this
    exact hc.mono fun e' rg ⟨he,hx⟩=>⟨v,he,h _ (e.trans hx)⟩
  | halt x w'=>simp only[QE] at this
 ·simp only[hw,Bool.false_eq_true,if_false]
  exact h _ (.refl _)
theorem Ur(hj:eA[j]?=some oj)(Bv:oi.apart eA oj=true)(CV:∀ cs b,oi.op ≠ .select cs b)(El:∀ cs b,oj.op ≠ .select cs b){a:Act}(hy:YE P eA oi v a w)(h:opN P eA j K (a.put oi.dst v) w):
  opN P eA j (fun a' w'=>YE P eA oi v a' w/\K (a'.put oi.dst v) w') a w:=by
 obtain⟨h1,h2,h3⟩:=Oper.apart_spec Bv
 have xU:∀ u,YE P eA oi v (a.put oj.dst u) w:=fun u=>
  hy.same (execOp_put oi CV a oj.dst u h3) (wanted_put oi a oj.dst u h3)
 unfold opN at *
 simp only[hj] at *
 rw[wanted_put oj a oi.dst v h1,execOp_put oj El a oi.dst v h1] at h
 split
 ·rename_i hw
  simp only[hw,if_true] at h
  generalize (execOp a.eval oj).run P w=r at h ⊢
  cases r with
  | ok x w'=>
   cases x <;> simp only[Oper.qo] at h ⊢
   case value u=>exact⟨xU u,by rw[<- Act.put_comm a v u h2];exact h⟩
   case skip=>exact⟨xU _,by rw[<- Act.put_comm a v undef h2];exact h⟩
   case enter f args=>exact h.mono fun e rg ⟨u,he,hk⟩=>⟨u,he,xU u,by rw[<- Act.put_comm a v u h2];exact hk⟩
  | halt x w'=>simp only[Oper.qo] at h
 ·rename_i hw
  simp only[hw] at h
  exact⟨xU _,by rw[<- Act.put_comm a v undef h2];exact h⟩
theorem Mo(hj:eA[j]?=some oj)(Bv:oi.apart eA oj=true)(CV:∀ cs b,oi.op ≠ .select cs b)(El:∀ cs b,oj.op ≠ .select cs b){a:Act}(hy:∀ w',YE P eA oi v a w')(h:opN P eA j K (a.put oi.dst v) w):
  opN P eA j (fun a' w'=>(∀ w',YE P eA oi v a' w')/\K (a'.put oi.dst v) w') a w:=by
 obtain⟨h1,h2,h3⟩:=Oper.apart_spec Bv
 have xU:∀ u,∀ w',YE P eA oi v (a.put oj.dst u) w':=fun u w'=>
  (hy w').same (execOp_put oi CV a oj.dst u h3) (wanted_put oi a oj.dst u h3)
 unfold opN at *
 simp only[hj] at *
 rw[wanted_put oj a oi.dst v h1,execOp_put oj El a oi.dst v h1] at h
 split
 ·rename_i hw
  simp only[hw,if_true] at h
  generalize (execOp a.eval oj).run P w=r at h ⊢
  cases r with
  | ok x w'=>
   cases x <;> simp only[Oper.qo] at h ⊢
   case value u=>exact⟨xU u,by rw[<- Act.put_comm a v u h2];exact h⟩
   case skip=>exact⟨xU _,by rw[<- Act.put_comm a v undef h2];exact h⟩
   case enter f args=>exact h.mono fun e rg ⟨u,he,hk⟩=>⟨u,he,xU u,by rw[<- Act.put_comm a v u h2];exact hk⟩
  | halt x w'=>simp only[Oper.qo] at h
 ·rename_i hw
  simp only[hw] at h
  exact⟨xU _,by rw[<- Act.put_comm a v undef h2];exact h⟩
theorem Mp(hj:eA[j]?=some oj)(Bv:oi.apart eA oj=true)(CV:∀ cs b,oi.op ≠ .select cs b)(El:∀ cs b,oj.op ≠ .select cs b){a:Act}(ni:St w)(hy:∀ w',St w'->YE P eA oi v a w')(h:opN P eA j K (a.put oi.dst v) w):
  opN P eA j (fun a' w'=>(∀ w',St w'->YE P eA oi v a' w')/\K (a'.put oi.dst v) w') a w:=by
 obtain⟨h1,h2,h3⟩:=Oper.apart_spec Bv
 have xU:∀ u,∀ w',St w'->YE P eA oi v (a.put oj.dst u) w':=fun u w' hs=>
  (hy w' hs).same (execOp_put oi CV a oj.dst u h3) (wanted_put oi a oj.dst u h3)
 unfold opN at *
 simp only[hj] at *
 rw[wanted_put oj a oi.dst v h1,execOp_put oj El a oi.dst v h1] at h
 split
 ·rename_i hw
  simp only[hw,if_true] at h
  generalize (execOp a.eval oj).run P w=r at h ⊢
  cases r with
  | ok x w'=>
   cases x <;> simp only[Oper.qo] at h ⊢
   case value u=>exact⟨xU u,by rw[<- Act.put_comm a v u h2];exact h⟩
   case skip=>exact⟨xU _,by rw[<- Act.put_comm a v undef h2];exact h⟩
   case enter f args=>exact h.mono fun e rg ⟨u,he,hk⟩=>⟨u,he,xU u,by rw[<- Act.put_comm a v u h2];exact hk⟩
  | halt x w'=>simp only[Oper.qo] at h
 ·rename_i hw
  simp only[hw] at h
  exact⟨xU _,by rw[<- Act.put_comm a v undef h2];exact h⟩
theorem aq{B:Nat->Bool}(AC:∀ w w',Ext w w'->St w->St w')(hi:eA[i]?=some oi)(Ao:∀(j:Nat) (o:Oper) cs b,eA[j]?=some o->o.op ≠ .select cs b)(hB:∀ j oj,eA[j]?=some oj->B j=true->∃ e∈oj.after,Region.binds .any e=true/\(e.on=i\/B e.on=true)):
  ∀(fuel:Nat) (listed:Array Bool) (a:Act) (w:World),
   (∀ j,B j=true->listed.getD j true=false)->
   (∀ j oj,eA[j]?=some oj->j≠i->listed.getD j true=false->B j=false->oi.apart eA oj=true/\tl j=false)->
   i∈Region.ready .any eA listed->YE P eA oi v a w->
   uA P eA tl St Q fuel (listed.setIfInBounds i true) (a.put oi.dst v) w->uA P eA tl St Q (fuel+1) listed a w:=by
 intro fuel
 induction fuel with
 | zero=>
  intro listed a w _ _ hr hy H w' oL
  refine⟨fun h=>(by rw[h] at hr;cases hr),fun j hj=>?_⟩
  by_cases tt:j=i
  ·subst tt
   by_cases ht:tl j=false
   ·exact(hy.up oL).opN hi fun rg e=>⟨⟨fun _=>e,fun _=>AC _ _ e⟩,H.up (oL.trans e)⟩
   ·exact(hy.up oL).opN hi fun rg e=>⟨⟨fun h=>absurd h ht,fun _=>AC _ _ e⟩,H.up (oL.trans e)⟩
  ·have:=ready_mono hj tt
   rw[(H w' oL).1] at this
   cases this
 | succ fuel ih=>
  intro listed a w CW tv hr hy H w' oL
  refine⟨fun h=>(by rw[h] at hr;cases hr),fun j hj=>?_⟩
  by_cases tt:j=i
  ·subst tt;exact(hy.up oL).opN hi fun rg e=>⟨⟨fun _=>e,fun _=>AC _ _ e⟩,H.up (oL.trans e)⟩
  ·have h1:=(H w' oL).2 j (ready_mono hj tt)
   obtain⟨Ap,oj,AX,Aq⟩:=mem_ready.1 hj
   have xQ:∀ k,listed.getD k true=false->listed.getD k false=true->False:=fun k h0 h1=>by
    rcases Nat.lt_or_ge k listed.size with h' | h'
    ·simp[h'] at h0 h1;rw[h0] at h1;cases h1
    ·simp[Array.getElem?_eq_none h'] at h1
   have zL:B j=false:=by
    cases hbj:B j with
    | false=>rfl
    | true=>
     obtain⟨e,he,hb,hon⟩:=hB j oj AX hbj
     have h1:=Aq e he hb
     rcases hon with hon | hon
     ·rw[hon] at h1;exact(xQ i (mem_ready.1 hr).1 h1).elim
     ·exact(xQ e.on (CW _ hon) h1).elim
   obtain⟨Bv,Em⟩:=tv j oj AX tt Ap zL
   have h2:=Ur AX Bv (fun cs b=>Ao i oi cs b hi) (fun cs b=>Ao j oj cs b AX) (hy.up oL) h1
   have Bw:∀ k,B k=true->(listed.setIfInBounds j true).getD k true=false:=fun k hk=>by
    have AY:j≠k:=fun e=>by rw[<- e,zL] at hk;cases hk
    rw[getD_set_ne true AY];exact CW k hk
   have zA:∀ k ok,eA[k]?=some ok->k≠i->(listed.setIfInBounds j true).getD k true=false->
     B k=false->oi.apart eA ok=true/\tl k=false:=fun k ok hk En B6 z7=>by
    refine tv k ok hk En ?_ z7
    by_cases AY:j=k
    ·subst AY;exact Ap
    ·rw[getD_set_ne true AY] at B6;exact B6
   refine eG (fun a' rg h3=>⟨h3.2.1,?_⟩) h2
   refine ih (listed.setIfInBounds j true) a' rg Bw zA (ready_mono hr (Ne.symm tt)) (h3.1.up (h3.2.1.1 Em)) ?_
   rw[Array.setIfInBounds_comm _ _ tt]
   exact h3.2.2
theorem nU{B:Nat->Bool}(AC:∀ w w',Ext w w'->St w->St w')(hi:eA[i]?=some oi)(Ao:∀(j:Nat) (o:Oper) cs b,eA[j]?=some o->o.op ≠ .select cs b)(hB:∀ j oj,eA[j]?=some oj->B j=true->∃ e∈oj.after,Region.binds .any e=true/\(e.on=i\/B e.on=true)):
  ∀(fuel:Nat) (listed:Array Bool) (a:Act) (w:World),
   (∀ j,B j=true->listed.getD j true=false)->
   (∀ j oj,eA[j]?=some oj->j≠i->listed.getD j true=false->B j=false->oi.apart eA oj=true)->
   i∈Region.ready .any eA listed->(∀ w',YE P eA oi v a w')->
   uA P eA tl St Q fuel (listed.setIfInBounds i true) (a.put oi.dst v) w->uA P eA tl St Q (fuel+1) listed a w:=by
 intro fuel
 induction fuel with
 | zero=>
  intro listed a w _ _ hr hy H w' oL
  refine⟨fun h=>(by rw[h] at hr;cases hr),fun j hj=>?_⟩
  by_cases tt:j=i
  ·subst tt
   by_cases ht:tl j=false
   ·exact(hy w').opN hi fun rg e=>⟨⟨fun _=>e,fun _=>AC _ _ e⟩,H.up (oL.trans e)⟩
   ·exact(hy w').opN hi fun rg e=>⟨⟨fun h=>absurd h ht,fun _=>AC _ _ e⟩,H.up (oL.trans e)⟩
  ·have:=ready_mono hj tt
   rw[(H w' oL).1] at this
   cases this
 | succ fuel ih=>
  intro listed a w CW tv hr hy H w' oL
  refine⟨fun h=>(by rw[h] at hr;cases hr),fun j hj=>?_⟩
  by_cases tt:j=i
  ·subst tt;exact(hy w').opN hi fun rg e=>⟨⟨fun _=>e,fun _=>AC _ _ e⟩,H.up (oL.trans e)⟩
  ·have h1:=(H w' oL).2 j (ready_mono hj tt)
   obtain⟨Ap,oj,AX,Aq⟩:=mem_ready.1 hj
   have xQ:∀ k,listed.getD k true=false->listed.getD k false=true->False:=fun k h0 h1=>by
    rcases Nat.lt_or_ge k listed.size with h' | h'
    ·simp[h'] at h0 h1;rw[h0] at h1;cases h1
    ·simp[Array.getElem?_eq_none h'] at h1
   have zL:B j=false:=by
    cases hbj:B j with
    | false=>rfl
    | true=>
     obtain⟨e,he,hb,hon⟩:=hB j oj AX hbj
     have h1:=Aq e he hb
     rcases hon with hon | hon
     ·rw[hon] at h1;exact(xQ i (mem_ready.1 hr).1 h1).elim
     ·exact(xQ e.on (CW _ hon) h1).elim
   have Bv:=tv j oj AX tt Ap zL
   have h2:=Mo AX Bv (fun cs b=>Ao i oi cs b hi) (fun cs b=>Ao j oj cs b AX) hy h1
   have Bw:∀ k,B k=true->(listed.setIfInBounds j true).getD k true=false:=fun k hk=>by
    have AY:j≠k:=fun e=>by rw[<- e,zL] at hk;cases hk
    rw[getD_set_ne true AY];exact CW k hk
   have zA:∀ k ok,eA[k]?=some ok->k≠i->(listed.setIfInBounds j true).getD k true=false->
     B k=false->oi.apart eA ok=true:=fun k ok hk En B6 z7=>by
    refine tv k ok hk En ?_ z7
    by_cases AY:j=k
    ·subst AY;exact Ap
    ·rw[getD_set_ne true AY] at B6;exact B6
   refine eG (fun a' rg h3=>⟨h3.2.1,?_⟩) h2
   refine ih (listed.setIfInBounds j true) a' rg Bw zA (ready_mono hr (Ne.symm tt)) h3.1 ?_
   rw[Array.setIfInBounds_comm _ _ tt]
   exact h3.2.2
theorem Qg{B:Nat->Bool}(AC:∀ w w',Ext w w'->St w->St w')(hi:eA[i]?=some oi)(Ao:∀(j:Nat) (o:Oper) cs b,eA[j]?=some o->o.op ≠ .select cs b)(hfin:∀ j,Xf eA j=true->j≠i->B j=true)(hB:∀ j oj,eA[j]?=some oj->B j=true->∃ e∈oj.after,Region.binds .any e=true/\(e.on=i\/B e.on=true)):
  ∀(fuel:Nat) (listed:Array Bool) (a:Act) (w:World),
   (∀ j,B j=true->listed.getD j true=false)->
   (∀ j oj,eA[j]?=some oj->j≠i->listed.getD j true=false->B j=false->oi.apart eA oj=true)->
   i∈Region.ready .any eA listed->St w->(∀ w',St w'->YE P eA oi v a w')->
   uA P eA tl St Q fuel (listed.setIfInBounds i true) (a.put oi.dst v) w->uA P eA tl St Q (fuel+1) listed a w:=by
 intro fuel
 induction fuel with
 | zero=>
  intro listed a w _ _ hr ni hy H w' oL
  refine⟨fun h=>(by rw[h] at hr;cases hr),fun j hj=>?_⟩
  by_cases tt:j=i
  ·subst tt
   by_cases ht:tl j=false
   ·exact(hy w' (AC _ _ oL ni)).opN hi fun rg e=>⟨⟨fun _=>e,fun _=>AC _ _ e⟩,H.up (oL.trans e)⟩
   ·exact(hy w' (AC _ _ oL ni)).opN hi fun rg e=>⟨⟨fun h=>absurd h ht,fun _=>AC _ _ e⟩,H.up (oL.trans e)⟩
  ·have:=ready_mono hj tt
   rw[(H w' oL).1] at this
   cases this
 | succ fuel ih=>
  intro listed a w CW tv hr ni hy H w' oL
  refine⟨fun h=>(by rw[h] at hr;cases hr),fun j hj=>?_⟩
  by_cases tt:j=i
  ·subst tt;exact(hy w' (AC _ _ oL ni)).opN hi fun rg e=>⟨⟨fun _=>e,fun _=>AC _ _ e⟩,H.up (oL.trans e)⟩
  ·have h1:=(H w' oL).2 j (ready_mono hj tt)
   obtain⟨Ap,oj,AX,Aq⟩:=mem_ready.1 hj
   have xQ:∀ k,listed.getD k true=false->listed.getD k false=true->False:=fun k h0 h1=>by
    rcases Nat.lt_or_ge k listed.size with h' | h'
    ·simp[h'] at h0 h1;rw[h0] at h1;cases h1
    ·simp[Array.getElem?_eq_none h'] at h1
   have zL:B j=false:=by
    cases hbj:B j with
    | false=>rfl
    | true=>
     obtain⟨e,he,hb,hon⟩:=hB j oj AX hbj
     have h1:=Aq e he hb
     rcases hon with hon | hon
     ·rw[hon] at h1;exact(xQ i (mem_ready.1 hr).1 h1).elim
     ·exact(xQ e.on (CW _ hon) h1).elim
   have Bv:=tv j oj AX tt Ap zL
   have h2:=Mp AX Bv (fun cs b=>Ao i oi cs b hi) (fun cs b=>Ao j oj cs b AX) (AC _ _ oL ni) hy h1
   have Bw:∀ k,B k=true->(listed.setIfInBounds j true).getD k true=false:=fun k hk=>by
    have AY:j≠k:=fun e=>by rw[<- e,zL] at hk;cases hk
    rw[getD_set_ne true AY];exact CW k hk
   have zA:∀ k ok,eA[k]?=some ok->k≠i->(listed.setIfInBounds j true).getD k true=false->
     B k=false->oi.apart eA ok=true:=fun k ok hk En B6 z7=>by
    refine tv k ok hk En ?_ z7
    by_cases AY:j=k
    ·subst AY;exact Ap
    ·rw[getD_set_ne true AY] at B6;exact B6
   refine eG (fun a' rg h3=>⟨h3.2.1,?_⟩) h2
   refine ih (listed.setIfInBounds j true) a' rg Bw zA (ready_mono hr (Ne.symm tt)) (h3.2.1.2 (by cases hfb:Xf eA j with | false=>rfl | true=>rw[hfin j hfb tt] at zL;cases zL) (AC _ _ oL ni)) h3.1 ?_
   rw[Array.setIfInBounds_comm _ _ tt]
   exact h3.2.2
end
def tE(eA:Array Oper)(tl:Nat->Bool)(listed:Array Bool)(i:Nat):Bool:=
 let B:=mU eA i
 match eA[i]? with
 | none=>false
 | some oi=>Nat.beq B.size eA.size&&(List.range eA.size).all fun j=>
   (!B.getD j false||(!listed.getD j true&&match eA[j]? with
    | none=>false
    | some oj=>oj.after.any fun e=>Region.binds .any e&&(Nat.beq e.on i||B.getD e.on false))) &&
   (Nat.beq j i||listed.getD j true||B.getD j false ||
   match eA[j]? with
   | none=>true
   | some oj=>oi.apart eA oj && !tl j)
theorem kP{eA:Array Oper}{tl:Nat->Bool}{listed:Array Bool}(hi:eA[i]?=some oi)(h:tE eA tl listed i=true):
  (∀ j oj,eA[j]?=some oj->(mU eA i).getD j false=true->∃ e∈oj.after,Region.binds .any e=true/\(e.on=i\/(mU eA i).getD e.on false=true))/\
  (∀ j,(mU eA i).getD j false=true->listed.getD j true=false)/\
  (∀ j oj,eA[j]?=some oj->j≠i->listed.getD j true=false->(mU eA i).getD j false=false->oi.apart eA oj=true/\tl j=false):=by
 unfold tE at h
 simp only[hi,Bool.and_eq_true,List.all_eq_true,List.mem_range] at h
 obtain⟨lp,h⟩:=h
 have hsz':=Nat.eq_of_beq_eq_true lp
 have n8:∀ j,(mU eA i).getD j false=true->j<eA.size:=fun j hj=>by
  rcases Nat.lt_or_ge j eA.size with h' | h'
  ·exact h'
  ·simp[Array.getElem?_eq_none (show(mU eA i).size<=j by omega)] at hj
 refine⟨fun j oj hj hb=>?_,fun j hb=>?_,fun j oj hj tt B6 z7=>?_⟩
 ·have:=(h j (n8 j hb)).1
  rw[hb,hj] at this
  simp only[Bool.not_true,Bool.false_or,Bool.and_eq_true] at this
  obtain⟨k,hk,he⟩:=Array.any_eq_true.1 this.2
  simp only[Bool.and_eq_true,Bool.or_eq_true] at he
  exact⟨_,Array.getElem_mem hk,he.1,he.2.imp Nat.eq_of_beq_eq_true id⟩
 ·have:=(h j (n8 j hb)).1
  rw[hb] at this
  simp only[Bool.not_true,Bool.false_or,Bool.and_eq_true,Bool.not_eq_true'] at this
  exact this.1
 ·have hl:j<eA.size:=by
   rcases Nat.lt_or_ge j eA.size with h' | h'
   ·exact h'
   ·simp[Array.getElem?_eq_none h'] at hj
  have:=(h j hl).2
  rw[hj,pl tt,B6,z7] at this
  simpa using this
def rU(eA:Array Oper):Bool:=eA.all fun o=>match o.op with | .select .. => false | _=>true
theorem oP{eA:Array Oper}(h:rU eA=true):∀(j:Nat) (o:Oper) cs b,eA[j]?=some o->o.op ≠ .select cs b:=by
 intro j o cs b hj he
 unfold rU at h
 rw[Array.all_eq_true] at h
 obtain⟨n8,hx⟩:=Array.getElem?_eq_some_iff.1 hj
 have:=h j n8
 rw[hx,he] at this
 cases this
def WD(P:Program)(n:Nat)(F:List Nat)(Ny:World)(eA:Array Oper)(tl:Nat->Bool)(Ls:List Asrt)(Q:Act->World->Prop)(fuel:Nat)(listed:Array Bool)(env:List (Nat×Value))(L:List Asrt):Prop:=∀ a w,SS n F Ny env L a w->uA P eA tl (fun w=>Hp F Ny w Ls) Q fuel listed a w
inductive Wk:List Asrt->List Asrt->Prop
 | nil:Wk [] []
 | same {x:Asrt} {L M:List Asrt} (t:Wk L M):Wk (x::L) (x::M)
 | any {x y:Asrt} {L M:List Asrt} (hf:y.fp=x.fp) (h:∀ w,x.ok w->y.ok w) (t:Wk L M):Wk (x::L) (y::M)
theorem Wk.refl:∀ L:List Asrt,Wk L L
 | [] => .nil
 | _::L => .same (Wk.refl L)
theorem Wk.mem{L:List Asrt}(h:Wk L M):∀ y∈M,∃ x∈L,y.fp=x.fp/\∀ w,x.ok w->y.ok w:=by
 induction h with
 | nil=>intro y hy;cases hy
 | @same x _ _ _ ih=>
  intro y hy
  rcases List.mem_cons.1 hy with rfl | hy
  ·exact⟨_,List.mem_cons_self ..,rfl,fun _ h=>h⟩
  ·obtain⟨x,hx,h⟩:=ih y hy;exact⟨x,List.mem_cons_of_mem _ hx,h⟩
 | @any x y' _ _ hf hk _ ih=>
  intro y hy
  rcases List.mem_cons.1 hy with rfl | hy
  ·exact⟨_,List.mem_cons_self ..,hf,hk⟩
  ·obtain⟨x,hx,h⟩:=ih y hy;exact⟨x,List.mem_cons_of_mem _ hx,h⟩
theorem Wk.sep{L:List Asrt}(h:Wk L M)(hs:L.Pairwise fun x y=>∀ b∈x.fp,b∉y.fp):M.Pairwise fun x y=>∀ b∈x.fp,b∉y.fp:=by
 induction h with
 | nil=>exact .nil
 | same t ih=>
  rw[List.pairwise_cons] at hs ⊢
  refine⟨fun y hy b hb=>?_,ih hs.2⟩
  obtain⟨x,hx,hf,_⟩:=t.mem y hy
  rw[hf];exact hs.1 x hx b hb
 | any hf _ t ih=>
  rw[List.pairwise_cons] at hs ⊢
  refine⟨fun y hy b hb=>?_,ih hs.2⟩
  obtain⟨x,hx,hf',_⟩:=t.mem y hy
  rw[hf'];exact hs.1 x hx b (hf▸hb)
theorem Wk.hp{F:List Nat}{Ny w:World}{L M:List Asrt}(h:Wk L M)(hp:Hp F Ny w L):Hp F Ny w M:=
 ⟨hp.os,hp.tape,hp.output,hp.size,hp.block,fun y hy=>by obtain⟨x,hx,_,hk⟩:=h.mem y hy;exact hk w (hp.ok x hx),
  fun y hy b hb=>by obtain⟨x,hx,hf,_⟩:=h.mem y hy;exact hp.lt x hx b (hf▸hb),fun y hy b hb=>by obtain⟨x,hx,hf,_⟩:=h.mem y hy;exact hp.ow x hx b (hf▸hb),h.sep hp.sep⟩
def wJ(L Ls:List Asrt):Prop:=∃ L' M,Sel L L' M/\Wk L' Ls
theorem wJ.of{L Ls:List Asrt}(h:Sel L Ls M):wJ L Ls:=⟨Ls,M,h,Wk.refl _⟩
theorem wJ.wk{L Ls:List Asrt}(h:Sel L L' M)(k:Wk L' Ls):wJ L Ls:=⟨L',M,h,k⟩
theorem wJ.hp{F:List Nat}{Ny w:World}{L Ls:List Asrt}(h:wJ L Ls)(hp:Hp F Ny w L):Hp F Ny w Ls:=by
 obtain⟨L',M,hs,hk⟩:=h
 exact hk.hp (hp.sub hs)
section
variable {P:Program} {n:Nat} {F:List Nat} {Ny:World} {eA:Array Oper} {tl:Nat->Bool} {Ls:List Asrt} {fuel:Nat} {listed:Array Bool}
 {env:List (Nat×Value)} {L:List Asrt} {o:Oper} {Q:Act->World->Prop}
theorem WD.e{v:Value}{d i:Nat}(zr:rU eA=true)(hi:eA[i]?=some o)(hr:(Region.ready .any eA listed).contains i=true)(hf:tE eA tl listed i=true)(hg:gd env eA o=some true)(hd:o.dst=some d)(ll:Nat.blt d n=true)(hq:∀ a w,SS n F Ny env L a w->(execOp a.eval o).run P w = .ok (.value v) w)(k:WD P n F Ny eA tl Ls Q fuel (listed.setIfInBounds i true) ((d,v)::env) L):WD P n F Ny eA tl Ls Q (fuel+1) listed env L:=by
 intro a w h
 refine aq (fun _ _ e h=>h.ext e) hi (oP zr) (kP hi hf).1 fuel listed a w (kP hi hf).2.1 (kP hi hf).2.2 (by simpa using hr) (v:=v) (.inl ⟨kY h hg,fun w' e=>?_⟩) ?_
 ·rw[hq a w' (h.world (h.hp.ext e))];exact⟨.refl _,rfl⟩
 ·rw[hd];exact k _ _ (h.put ll v h.hp)
theorem P8{v:Value}{d i:Nat}(zr:rU eA=true)(hi:eA[i]?=some o)(hr:(Region.ready .any eA listed).contains i=true)(hf:tE eA (fun _=>false) listed i=true)(hg:gd env eA o=some true)(hd:o.dst=some d)(ll:Nat.blt d n=true)(hq:∀ Ny a w,SS n [] Ny env [] a w->(execOp a.eval o).run P w = .ok (.value v) w)(k:WD P n F Ny eA tl Ls Q fuel (listed.setIfInBounds i true) ((d,v)::env) L):WD P n F Ny eA tl Ls Q (fuel+1) listed env L:=by
 intro a w h
 refine nU (fun _ _ e h=>h.ext e) hi (oP zr) (kP hi hf).1 fuel listed a w (kP hi hf).2.1 (fun j oj h1 h2 h3 h4=>((kP hi hf).2.2 j oj h1 h2 h3 h4).1) (by simpa using hr) (v:=v) (fun w1 => .inl ⟨kY h hg,fun w' _=>?_⟩) ?_
 ·rw[hq w' a w' ⟨h.defers,h.size,h.ev,.nil w' []⟩];exact⟨.refl _,rfl⟩
 ·rw[hd];exact k _ _ (h.put ll v h.hp)
theorem Pb{d:Nat}(zr:rU eA=true)(hi:eA[i]?=some o)(hr:(Region.ready .any eA listed).contains i=true)(hf:tE eA (fun _=>false) listed i=true)(hg:gd env eA o=some true)(hd:o.dst=some d)(ll:Nat.blt d n=true)(hs:wJ L Ls)(hq:∀ a w,SS n F Ny env Ls a w->(execOp a.eval o).run P w = .ok (.value v) w)(k:WD P n F Ny eA tl Ls Q fuel (listed.setIfInBounds i true) ((d,v)::env) L):WD P n F Ny eA tl Ls Q (fuel+1) listed env L:=by
 intro a w h
 refine Qg (fun _ _ e h=>h.ext e) hi (oP zr) (fun j h1 h2=>F5 hi h1 h2) (kP hi hf).1 fuel listed a w (kP hi hf).2.1 (fun j oj h1 h2 h3 h4=>((kP hi hf).2.2 j oj h1 h2 h3 h4).1) (by simpa using hr) (v:=v) (hs.hp h.hp) (fun w1 hw1 => .inl ⟨kY h hg,fun w' e=>?_⟩) ?_
 ·rw[hq a w' ⟨h.defers,h.size,h.ev,hw1.ext e⟩];exact⟨.refl _,rfl⟩
 ·rw[hd];exact k _ _ (h.put ll v h.hp)
theorem Ru{d:Nat}{f:FuncId}{vs:Array Value}(zr:rU eA=true)(hi:eA[i]?=some o)(hr:(Region.ready .any eA listed).contains i=true)(hf:tE eA tl listed i=true)(hg:gd env eA o=some true)(hd:o.dst=some d)(ll:Nat.blt d n=true)(jA:∀ a w,SS n F Ny env L a w->(execOp a.eval o).run P w = .ok (.enter f vs) w)(hc:∀ w,Hp F Ny w L->Calls P f vs w fun e w'=>e = .returned v/\Hp [] w w' [])(k:WD P n F Ny eA tl Ls Q fuel (listed.setIfInBounds i true) ((d,v)::env) L):WD P n F Ny eA tl Ls Q (fuel+1) listed env L:=by
 intro a w h
 refine aq (fun _ _ e h=>h.ext e) hi (oP zr) (kP hi hf).1 fuel listed a w (kP hi hf).2.1 (kP hi hf).2.2 (by simpa using hr) (v:=v) (.inl ⟨kY h hg,fun w' e=>?_⟩) ?_
 ·have h':=h.world (h.hp.ext e)
  rw[jA a w' h']
  exact⟨.refl _,(hc w' h'.hp).mono fun e rg ⟨he,hx⟩=>⟨he,hx.toExt⟩⟩
 ·rw[hd];exact k _ _ (h.put ll v h.hp)
theorem WD.b{d:Nat}(zr:rU eA=true)(hi:eA[i]?=some o)(hr:(Region.ready .any eA listed).contains i=true)(hf:tE eA (fun _=>false) listed i=true)(hg:gd env eA o=some false)(hd:o.dst=some d)(ll:Nat.blt d n=true)(k:WD P n F Ny eA tl Ls Q fuel (listed.setIfInBounds i true) ((d,undef)::env) L):WD P n F Ny eA tl Ls Q (fuel+1) listed env L:=by
 intro a w h
 refine nU (fun _ _ e h=>h.ext e) hi (oP zr) (kP hi hf).1 fuel listed a w (kP hi hf).2.1 (fun j oj h1 h2 h3 h4=>((kP hi hf).2.2 j oj h1 h2 h3 h4).1) (by simpa using hr) (v:=undef) (fun _ => .inr ⟨kY h hg,rfl⟩) ?_
 rw[hd];exact k _ _ (h.put ll undef h.hp)
theorem WD.forced{G:Type}{φ:G->Prop}{val:G->Value}{L':G->List Asrt}{d:Nat}(hi:eA[i]?=some o)(hr:Region.ready .any eA listed=[i])(hg:gd env eA o=some true)(hd:o.dst=some d)(ll:Nat.blt d n=true)(hq:∀ a w,SS n F Ny env L a w->∃ g w',(execOp a.eval o).run P w = .ok (.value (val g)) w'/\φ g/\Hp F Ny w' (L' g)/\(tl i=false->Ext w w'))(ni:tl i=true->∀ g,wJ (L' g) Ls)(k:∀ g,φ g->WD P n F Ny eA tl Ls Q fuel (listed.setIfInBounds i true) ((d,val g)::env) (L' g)):WD P n F Ny eA tl Ls Q (fuel+1) listed env L:=by
 intro a w h w' e
 have h':=h.world (h.hp.ext e)
 rw[hr]
 refine⟨by simp,fun j hj=>?_⟩
 simp at hj;subst hj
 obtain⟨g,rg,jA,tN,hp,hx⟩:=hq a w' h'
 unfold opN
 simp only[hi,kY h' hg,if_true,jA,Oper.qo,hd]
 refine⟨⟨hx,fun _ h0=>?_⟩,k g tN _ _ (h'.put ll _ hp)⟩
 cases ht:tl j with
 | false=>exact h0.ext (hx ht)
 | true=>exact(ni ht g).hp hp
theorem WD.forced0(hi:eA[i]?=some o)[hg:Nv (gd env eA o) (some true)][hd:Nv o.dst none][ht:Nv (tl i) true](ni:wJ L' Ls)(hq:∀ a w,SS n F Ny env L a w->∃ w',dE P o a w w'/\Hp F Ny w' L')(k:WD P n F Ny eA tl Ls Q fuel (listed.setIfInBounds i true) env L')(hr:Region.ready .any eA listed=[i]:=by kernel_rfl):WD P n F Ny eA tl Ls Q (fuel+1) listed env L:=by
 intro a w h w' e
 have h':=h.world (h.hp.ext e)
 rw[hr]
 refine⟨by simp,fun j hj=>?_⟩
 simp at hj;subst hj
 obtain⟨rg,jA,hp⟩:=hq a w' h'
 unfold opN
 rcases jA with jA | ⟨v,jA⟩
 ·simp only[hi,kY h' hg.1,if_true,jA,Oper.qo,hd.1]
  exact⟨⟨fun hf=>(by rw[ht.1] at hf;cases hf),fun _ _=>ni.hp hp⟩,k _ _ (h'.world hp)⟩
 ·simp only[hi,kY h' hg.1,if_true,jA,Oper.qo,hd.1]
  exact⟨⟨fun hf=>(by rw[ht.1] at hf;cases hf),fun _ _=>ni.hp hp⟩,k _ _ (h'.world hp)⟩
theorem Na(hi:eA[i]?=some o)[hg:Nv (gd env eA o) (some true)][hd:Nv o.dst none][ht:Nv (tl i) true](hq:∀ a w,SS n F Ny env L a w->∃ w',dE P o a w w'/\Hp F Ny w' L')(k:WD P n F Ny eA tl Ls Q fuel (listed.setIfInBounds i true) env L')(hr:Region.ready .any eA listed=[i]:=by kernel_rfl)(ni:Xf eA i=true:=by kernel_rfl):WD P n F Ny eA tl Ls Q (fuel+1) listed env L:=by
 intro a w h w' e
 have h':=h.world (h.hp.ext e)
 rw[hr]
 refine⟨by simp,fun j hj=>?_⟩
 simp at hj;subst hj
 obtain⟨rg,jA,hp⟩:=hq a w' h'
 unfold opN
 rcases jA with jA | ⟨v,jA⟩
 ·simp only[hi,kY h' hg.1,if_true,jA,Oper.qo,hd.1]
  exact⟨⟨fun hf=>(by rw[ht.1] at hf;cases hf),fun hf=>by rw[ni] at hf;cases hf⟩,k _ _ (h'.world hp)⟩
 ·simp only[hi,kY h' hg.1,if_true,jA,Oper.qo,hd.1]
  exact⟨⟨fun hf=>(by rw[ht.1] at hf;cases hf),fun hf=>by rw[ni] at hf;cases hf⟩,k _ _ (h'.world hp)⟩
theorem WD.forcedCall{G:Type}{φ:G->Prop}{val:G->Value}{M:G->List Asrt}{f:FuncId}{vs:Array Value}{Lc Lr:List Asrt}{d:Nat}(hi:eA[i]?=some o)(hr:Region.ready .any eA listed=[i])(hg:gd env eA o=some true)(hd:o.dst=some d)(ll:Nat.blt d n=true)(ht:(tl i=true/\∀ g,wJ (M g++Lr) Ls)\/Lc=[])(jA:∀ a w,SS n F Ny env L a w->(execOp a.eval o).run P w = .ok (.enter f vs) w)(hs:Sel L Lc Lr)(hc:∀ w,Hp F Ny w L->Calls P f vs w fun e w'=>∃ g,e = .returned (val g)/\φ g/\Hp (Lc.flatMap (·.fp)) w w' (M g))(k:∀ g,φ g->WD P n F Ny eA tl Ls Q fuel (listed.setIfInBounds i true) ((d,val g)::env) (M g++Lr)):WD P n F Ny eA tl Ls Q (fuel+1) listed env L:=by
 intro a w h w' e
 have h':=h.world (h.hp.ext e)
 rw[hr]
 refine⟨by simp,fun j hj=>?_⟩
 simp at hj;subst hj
 unfold opN
 simp only[hi,kY h' hg,if_true,jA a w' h',Oper.qo,hd]
 refine(hc w' h'.hp).mono ?_
 rintro e' rg ⟨g,rfl,tN,hp⟩
 have xE:=h'.hp.call hs hp
 refine⟨_,rfl,⟨fun hf=>?_,fun _ h0=>?_⟩,k g tN _ _ (h'.put ll _ xE)⟩
 ·rcases ht with ht | rfl
  ·rw[ht.1] at hf;cases hf
  ·exact hp.toExt
 ·rcases ht with ht | rfl
  ·exact(ht.2 g).hp xE
  ·exact h0.ext hp.toExt
theorem N1{Q':Exit->Act->World->Prop}(k:WX n F Ny Q' .normal env L)(hr:Region.ready .any eA listed=[]:=by kernel_rfl):WD P n F Ny eA tl Ls (Q' .normal) fuel listed env L:=by
 intro a w h
 cases fuel with
 | zero=>exact fun w' e=>⟨hr,k _ _ (h.world (h.hp.ext e))⟩
 | succ f=>exact fun w' e=>⟨fun _=>k _ _ (h.world (h.hp.ext e)),fun i hi=>by rw[hr] at hi;cases hi⟩
theorem WD.restr{env':List (Nat×Value)}(hr:Restr env env')(k:WD P n F Ny eA tl Ls Q fuel listed env' L):WD P n F Ny eA tl Ls Q fuel listed env L:=
 fun a w h=>k a w (h.restr hr)
theorem Lu{Q:Exit->Act->World->Prop}{id:Nat}{l:List Oper}(tl:Nat->Bool)(Ls:List Asrt)[hm:Nv (P.follows .mixedOrders) true](k:WD P n F Ny l.toArray tl Ls (Q .normal) l.length (Array.replicate l.length false) env L):WC P n F Ny Q (.region id l.toArray true) env L:=by
 intro a w h
 refine wpIn_region_any hm.1 ?_
 have:=k a _ (h.world (h.hp.ext (Ext.Xe w (w.drawn+1) (Nat.le_succ _))))
 simpa using uA.am (Q':=Q) (fun _ _ h=>h) this
end
end
section
variable [Rnd]
def Qt(P:Program)(n:Nat)(F:List Nat)(Ny:World)(env:List (Nat×Value))(L:List Asrt)(o:Oper)(v:Value):Prop:=
 ∀ a w,SS n F Ny env L a w->(execOp a.eval o).run P w = .ok (.value v) w
section
variable {P:Program} {n:Nat} {F:List Nat} {Ny:World} {env:List (Nat×Value)} {L:List Asrt}
 {d:Option Tmp} {ty:TypeId} {pos:String} {after:Array Edge} {g:Option (Nat×Bool)} {x y c:Operand} {v u:Value}
theorem q_m[hx:Nv (eo env x) (some v)]:Qt P n F Ny env L ⟨d,.move x,ty,pos,after,g⟩ v:=by
 intro a w h;simp[execOp,h.eval hx.1]
theorem q_z[hx:Nv (eo env x) (some v)]:Qt P n F Ny env L ⟨d,.assign x,ty,pos,after,g⟩ v:=by
 intro a w h;simp[execOp,h.eval hx.1]
theorem qO[hc:Nv (eo env c) (some (.bool true))][hx:Nv (eo env x) (some v)]:Qt P n F Ny env L ⟨d,.pick c x y,ty,pos,after,g⟩ v:=by
 intro a w h;simp[execOp,h.eval hc.1,h.eval hx.1,asBool]
theorem qP[hc:Nv (eo env c) (some (.bool false))][hy:Nv (eo env y) (some v)]:Qt P n F Ny env L ⟨d,.pick c x y,ty,pos,after,g⟩ v:=by
 intro a w h;simp[execOp,h.eval hc.1,h.eval hy.1,asBool]
theorem w5{p:Addr}[hx:Nv (eo env x) (some (.pointer (some p)))]:Qt P n F Ny env L ⟨d,.nilCheck x,ty,pos,after,g⟩ (.pointer (some p)):=by
 intro a w h;simp[execOp,h.eval hx.1]
theorem mK{i:Nat}{vs:List Value}[hx:Nv (eo env x) (some (.tuple vs.toArray))][hi:Nv vs[i]? (some v)]:Qt P n F Ny env L ⟨d,.extract x i,ty,pos,after,g⟩ v:=by
 intro a w h;simp[execOp,h.eval hx.1,Instr.extract,hi.1]
variable {k k':IntKind} {p q r:Int} {t t':TypeId}
theorem uG[hx:Nv (eo env x) (some (.int k p))][hy:Nv (eo env y) (some (.int k q))][hw:Nv (k.wrap (p+q)) r]:Qt P n F Ny env L ⟨d,.binOp .add t x y t',ty,pos,after,g⟩ (.int k r):=by
 intro a w h;simp[execOp,h.eval hx.1,h.eval hy.1,binOp_add,eqGuard_add,Op.intArith,hw.1]
theorem uH[hx:Nv (eo env x) (some (.int k p))][hy:Nv (eo env y) (some (.int k q))][hw:Nv (k.wrap (p-q)) r]:Qt P n F Ny env L ⟨d,.binOp .sub t x y t',ty,pos,after,g⟩ (.int k r):=by
 intro a w h;simp[execOp,h.eval hx.1,h.eval hy.1,binOp_sub,eqGuard_sub,Op.intArith,hw.1]
theorem sX[hx:Nv (eo env x) (some (.int k p))][hy:Nv (eo env y) (some (.int k q))][hw:Nv (k.wrap (p*q)) r]:Qt P n F Ny env L ⟨d,.binOp .mul t x y t',ty,pos,after,g⟩ (.int k r):=by
 intro a w h;simp[execOp,h.eval hx.1,h.eval hy.1,binOp_mul,eqGuard_mul,Op.intArith,hw.1]
theorem eH[hx:Nv (eo env x) (some (.int k p))][hy:Nv (eo env y) (some (.int k q))](h0:q≠0)[hw:Nv (k.wrap (p.tdiv q)) r]:Qt P n F Ny env L ⟨d,.binOp .quo t x y t',ty,pos,after,g⟩ (.int k r):=by
 intro a w h;simp[execOp,h.eval hx.1,h.eval hy.1,binOp_quo,eqGuard_quo,Op.intDiv,hw.1,h0]
theorem XV[hx:Nv (eo env x) (some (.int k p))][hy:Nv (eo env y) (some (.int k q))](h0:q≠0)[hw:Nv (p.tmod q) r]:Qt P n F Ny env L ⟨d,.binOp .rem t x y t',ty,pos,after,g⟩ (.int k r):=by
 intro a w h;simp[execOp,h.eval hx.1,h.eval hy.1,binOp_rem,eqGuard_rem,Op.intDiv,hw.1,h0]
theorem q_and(hx:eo env x=some (.int k p))(hy:eo env y=some (.int k q))(hw:bits .and k p q=r):Qt P n F Ny env L ⟨d,.binOp .and t x y t',ty,pos,after,g⟩ (.int k r):=by
 intro a w h;simp[execOp,h.eval hx,h.eval hy,binOp_and,eqGuard_and,intBits_and,hw]
theorem Qm(hx:eo env x=some (.int k p))(hy:eo env y=some (.int k' q))(hw:p / 2 ^ min q.toNat k.bits=r)(h0:0<=q:=by decide):Qt P n F Ny env L ⟨d,.binOp .shr t x y t',ty,pos,after,g⟩ (.int k r):=by
 intro a w h;simp[execOp,h.eval hx,h.eval hy,binOp_shr,eqGuard_shr,shift_shr_any _ _ _ _ h0,hw]
theorem sY[hx:Nv (eo env x) (some (.int k p))][hy:Nv (eo env y) (some (.int k q))]:Qt P n F Ny env L ⟨d,.binOp .lss t x y t',ty,pos,after,g⟩ (.bool (decide (p<q))):=by
 intro a w h;simp[execOp,h.eval hx.1,h.eval hy.1,binOp_lss,eqGuard_lss]
theorem Gk(hx:eo env x=some (.int k p))(hy:eo env y=some (.int k q)):Qt P n F Ny env L ⟨d,.binOp .leq t x y t',ty,pos,after,g⟩ (.bool (decide (p<=q))):=by
 intro a w h;simp[execOp,h.eval hx,h.eval hy,binOp_leq,eqGuard_leq]
theorem rV[hx:Nv (eo env x) (some (.int k p))][hy:Nv (eo env y) (some (.int k q))]:Qt P n F Ny env L ⟨d,.binOp .gtr t x y t',ty,pos,after,g⟩ (.bool (decide (p>q))):=by
 intro a w h;simp[execOp,h.eval hx.1,h.eval hy.1,binOp_gtr,eqGuard_gtr]
theorem Qn(hx:eo env x=some (.int k p))(hy:eo env y=some (.int k q)):Qt P n F Ny env L ⟨d,.binOp .geq t x y t',ty,pos,after,g⟩ (.bool (decide (p>=q))):=by
 intro a w h;simp[execOp,h.eval hx,h.eval hy,binOp_geq,eqGuard_geq]
theorem eI(hx:eo env x=some (.int k p))(hy:eo env y=some (.int k q)):Qt P n F Ny env L ⟨d,.binOp .eql t x y t',ty,pos,after,g⟩ (.bool (decide (p=q))):=by
 intro a w h;simp only[execOp,h.eval hx,h.eval hy,binOp_eql,eqGuard_at_int];rw[show(p == q)=decide (p=q) from by by_cases e:p=q <;> simp[e]];simp
theorem Qo(hx:eo env x=some (.int k p))(hy:eo env y=some (.int k q)):Qt P n F Ny env L ⟨d,.binOp .neq t x y t',ty,pos,after,g⟩ (.bool (decide (p≠q))):=by
 intro a w h;simp only[execOp,h.eval hx,h.eval hy,binOp_neq,eqGuard_at_int];rw[show(p != q)=decide (p≠q) from by by_cases e:p=q <;> simp[e]];simp
theorem Qp(hx:eo env x=some (.int k p))(hw:k.wrap (0-p)=r):Qt P n F Ny env L ⟨d,.unOp .neg t x,ty,pos,after,g⟩ (.int k r):=by
 intro a w h
 have:k.wrap (-p)=r:=by rw[<- hw];congr 1;omega
 simp[execOp,h.eval hx,Op.unary,Op.intArith,this]
theorem Yo{b:Bool}(hx:eo env x=some (.bool b)):Qt P n F Ny env L ⟨d,.unOp .not t x,ty,pos,after,g⟩ (.bool (!b)):=by
 intro a w h;simp[execOp,h.eval hx,Op.unary]
theorem fF{dd:TypeDesc}(hs:P.underlying t=some dd)(hd:P.underlying t'=some (.int k'))[hx:Nv (eo env x) (some (.int k p))][hw:Nv (k'.wrap p) r]:Qt P n F Ny env L ⟨d,.convert t t' x,ty,pos,after,g⟩ (.int k' r):=by
 intro a w h;simp[execOp,h.eval hx.1,hw.1,convert,run_underlying hs,run_underlying hd,Conv.intToInt]
theorem oQ{at_:Array TypeId}[hx:Nv (eo env x) (some (.int k p))][hy:Nv (eo env y) (some (.int k q))][hw:Nv (max p q) r]:Qt P n F Ny env L ⟨d,.call ⟨.builtin .max,#[x,y],at_⟩,ty,pos,after,g⟩ (.int k r):=by
 have hx:=hx.1
 have hy:=hy.1
 have hw:=hw.1
 intro a w h
 have:(if q>p then q else p)=r:=by subst hw;simp only[Int.max_def];split <;> split <;> omega
 simp[execOp,h.eval hx,h.eval hy,resolve,invoke,builtin,run_max_int2,this]
theorem Ui{at_:Array TypeId}(hx:eo env x=some (.int k p))(hy:eo env y=some (.int k q))(hw:min p q=r):Qt P n F Ny env L ⟨d,.call ⟨.builtin .min,#[x,y],at_⟩,ty,pos,after,g⟩ (.int k r):=by
 intro a w h
 have:(if q<p then q else p)=r:=by subst hw;simp only[Int.min_def];split <;> split <;> omega
 simp[execOp,h.eval hx,h.eval hy,resolve,invoke,builtin,run_min_int2,this]
theorem QF{e:TypeId}{ao:Option Addr}(ht:P.underlying t=some (.pointer e))(hx:eo env x=some (.pointer ao))(hy:eo env y=some (.pointer none)):Qt P n F Ny env L ⟨d,.binOp .eql t x y t',ty,pos,after,g⟩ (.bool ao.isNone):=by
 intro a w h
 have Bh:P.underlying t=some (.pointer (P.pointee t)):=by simp[Program.pointee,ht]
 simp[execOp,h.eval hx,h.eval hy,eqGuard_at_pointer,run_eql_pointer_nil w t ao Bh]
theorem wO{fn:Fn}{caps:Array Operand}{vs:Array Value}(hc:∀ a w,SS n F Ny env L a w->caps.map a.eval=vs):Qt P n F Ny env L ⟨d,.makeFunc fn #[] caps,ty,pos,after,g⟩ (.func fn #[] vs):=by
 intro a w h;simp[execOp,Instr.makeFunc,hc a w h]
end
end
section
variable {x y a0 a1:Asrt}{w Ny:World}{F:List Nat}{α:Type}{cs:List Value}{P:Program}{L:List Asrt}{t:TypeId}{i:TypeInfo}{v:Value}{A:Addr}{sz:Nat}
variable [Rnd]
inductive Upd:List Asrt->Asrt->Asrt->List Asrt->Prop
 | here {x y:Asrt} {R:List Asrt}:Upd (x::R) x y (y::R)
 | there {x y z:Asrt} {L R:List Asrt} (h:Upd L x y R):Upd (z::L) x y (z::R)
theorem Upd.h1{R:List Asrt}:Upd (a0::x::R) x y (a0::y::R) := .there .here
theorem Upd.h2{R:List Asrt}:Upd (a0::a1::x::R) x y (a0::a1::y::R) := .there .h1
theorem Upd.h3{a2:Asrt}{R:List Asrt}:Upd (a0::a1::a2::x::R) x y (a0::a1::a2::y::R) := .there .h2
theorem Upd.h4{a2 a3:Asrt}{R:List Asrt}:Upd (a0::a1::a2::a3::x::R) x y (a0::a1::a2::a3::y::R) := .there .h3
theorem Upd.h5{a2 a3 a4:Asrt}{R:List Asrt}:Upd (a0::a1::a2::a3::a4::x::R) x y (a0::a1::a2::a3::a4::y::R) := .there .h4
theorem Upd.h6{a2 a3 a4 a5:Asrt}{R:List Asrt}:Upd (a0::a1::a2::a3::a4::a5::x::R) x y (a0::a1::a2::a3::a4::a5::y::R) := .there .h5
theorem Upd.h7{a2 a3 a4 a5 a6:Asrt}{R:List Asrt}:Upd (a0::a1::a2::a3::a4::a5::a6::x::R) x y (a0::a1::a2::a3::a4::a5::a6::y::R) := .there .h6
theorem Upd.mem{L':List Asrt}(h:Upd L x y L'):x∈L:=by
 induction h with
 | here=>simp
 | there _ ih=>exact List.mem_cons_of_mem _ ih
theorem Pick.mem{L R:List α}{x:α}(h:Pick L x R):x∈L:=h.perm.mem_iff.2 (by simp)
theorem Hp.upd{w':World}{L':List Asrt}(h:Hp F Ny w L)(hu:Upd L x y L')(os:w'.os=w.os)(tape:TD w w')(output:w'.output=w.output)(size:w.heap.size<=w'.heap.size)(block:∀ k,k<w.heap.size->k∉x.fp->w'.heap[k]?=w.heap[k]?)(vU:y.ok w')(Eo:∀ b∈y.fp,b<w'.heap.size/\(b∈x.fp\/w.heap.size<=b)):Hp F Ny w' L':=by
 have gen:∀ {L L':List Asrt},Upd L x y L'->(∀ z∈L,z.ok w)->(∀ z∈L,∀ b∈z.fp,b<w.heap.size)->(∀ z∈L,∀ b∈z.fp,b∈F\/Ny.heap.size<=b)->
   (L.Pairwise fun x y=>∀ b∈x.fp,b∉y.fp)->
   (∀ z∈L',z.ok w')/\(∀ z∈L',∀ b∈z.fp,b<w'.heap.size)/\(∀ z∈L',∀ b∈z.fp,b∈F\/Ny.heap.size<=b)/\(L'.Pairwise fun x y=>∀ b∈x.fp,b∉y.fp)/\
   (∀ z∈L',(z=y)\/z∈L )/\(∀ b,b<w.heap.size->(∀ z∈L,b∉z.fp)->∀ z∈L',b∉z.fp):=by
  intro L L' hu2
  clear hu
  induction hu2 with
  | @here x y R=>
   intro o1 o2 o3 o4
   obtain⟨p1,p2⟩:=List.pairwise_cons.1 o4
   have hb:∀ z∈R,∀ b∈z.fp,b∉y.fp:=fun z hz b hb hc=>by
    rcases(Eo b hc).2 with h1 | h1
    ·exact p1 z hz b h1 hb
    ·have:=o2 z (List.mem_cons_of_mem _ hz) b hb;omega
   refine⟨?_,?_,?_,?_,?_,?_⟩
   ·intro z hz
    rcases List.mem_cons.1 hz with rfl | hz
    ·exact vU
    ·exact z.loc w w' (fun b hb hl=>block b hl (fun hc=>p1 z hz b hc hb)) (o2 z (List.mem_cons_of_mem _ hz)) (o1 z (List.mem_cons_of_mem _ hz))
   ·intro z hz b hb'
    rcases List.mem_cons.1 hz with rfl | hz
    ·exact(Eo b hb').1
    ·exact Nat.lt_of_lt_of_le (o2 z (List.mem_cons_of_mem _ hz) b hb') size
   ·intro z hz b hb'
    rcases List.mem_cons.1 hz with rfl | hz
    ·rcases(Eo b hb').2 with h1 | h1
     ·exact o3 x (by simp) b h1
     ·exact .inr (Nat.le_trans h.size h1)
    ·exact o3 z (List.mem_cons_of_mem _ hz) b hb'
   ·exact List.pairwise_cons.2 ⟨fun z hz b hb' hc=>hb z hz b hc hb',p2⟩
   ·intro z hz
    rcases List.mem_cons.1 hz with rfl | hz
    ·exact .inl rfl
    ·exact .inr (List.mem_cons_of_mem _ hz)
   ·intro b Bx z7 z hz hc
    rcases List.mem_cons.1 hz with rfl | hz
    ·rcases(Eo b hc).2 with h1 | h1
     ·exact z7 x (by simp) h1
     ·omega
    ·exact z7 z (List.mem_cons_of_mem _ hz) hc
  | @there x y v L R hu ih=>
   intro o1 o2 o3 o4
   obtain⟨p1,p2⟩:=List.pairwise_cons.1 o4
   obtain⟨q1,q2,q3,q4,q5,q6⟩:=ih block vU Eo (fun z hz=>o1 z (List.mem_cons_of_mem _ hz)) (fun z hz=>o2 z (List.mem_cons_of_mem _ hz)) (fun z hz=>o3 z (List.mem_cons_of_mem _ hz)) p2
   have hvx:∀ b∈v.fp,b∉x.fp:=p1 x hu.mem
   refine⟨?_,?_,?_,?_,?_,?_⟩
   ·intro z hz
    rcases List.mem_cons.1 hz with rfl | hz
    ·exact z.loc w w' (fun b hb hl=>block b hl (hvx b hb)) (o2 z (by simp)) (o1 z (by simp))
    ·exact q1 z hz
   ·intro z hz b hb'
    rcases List.mem_cons.1 hz with rfl | hz
    ·exact Nat.lt_of_lt_of_le (o2 z (by simp) b hb') size
    ·exact q2 z hz b hb'
   ·intro z hz b hb'
    rcases List.mem_cons.1 hz with rfl | hz
    ·exact o3 z (by simp) b hb'
    ·exact q3 z hz b hb'
   ·exact List.pairwise_cons.2 ⟨fun z hz b hb'=>q6 b (o2 v (by simp) b hb') (fun z hz hc=>p1 z hz b hb' hc) z hz,q4⟩
   ·intro z hz
    rcases List.mem_cons.1 hz with rfl | hz
    ·exact .inr (by simp)
    ·rcases q5 z hz with h1 | h1
     ·exact .inl h1
     ·exact .inr (List.mem_cons_of_mem _ h1)
   ·intro b Bx z7 z hz hc
    rcases List.mem_cons.1 hz with rfl | hz
    ·exact z7 z (by simp) hc
    ·exact q6 b Bx (fun z hz=>z7 z (List.mem_cons_of_mem _ hz)) z hz hc
 obtain⟨q1,q2,q3,q4,_,_⟩:=gen hu h.ok h.lt h.ow h.sep
 refine⟨os.trans h.os,tape.trans h.tape,output.trans h.output,Nat.le_trans h.size size,fun k hk hf=>?_,q1,q2,q3,q4⟩
 rw[block k (Nat.lt_of_lt_of_le hk h.size) (fun hc=>?_)]
 ·exact h.block k hk hf
 ·rcases h.ow x hu.mem k hc with h1 | h1
  ·exact hf h1
  ·omega
theorem Hp.add(h:Hp F Ny w L)(vU:x.ok w)(n8:∀ b∈x.fp,b<w.heap.size)(how:∀ b∈x.fp,b∈F\/Ny.heap.size<=b)(hsep:∀ y∈L,∀ b∈x.fp,b∉y.fp):Hp F Ny w (x::L):=
 ⟨h.os,h.tape,h.output,h.size,h.block,
  fun y hy=>(List.mem_cons.1 hy).elim (fun e=>e▸vU) (h.ok y),
  fun y hy=>(List.mem_cons.1 hy).elim (fun e=>e▸n8) (h.lt y),
  fun y hy=>(List.mem_cons.1 hy).elim (fun e=>e▸how) (h.ow y),
  List.pairwise_cons.2 ⟨hsep,h.sep⟩⟩
theorem Hp.alloc{F:List Nat}{Ny w:World}{L:List Asrt}(h:Hp F Ny w L)(o:Obj):Hp F Ny (w.alloc o) (wq w.heap.size o::L):=by
 refine(h.ext (.alloc w o)).add (heap_alloc_new w o) (by simp[wq]) (by simp[wq,h.size]) ?_
 intro y hy b hb hc
 simp[wq] at hb
 have:=h.lt y hy b hc
 omega
def stb(b:Nat)(T:TypeId)(cs:List Value):Asrt:=wq b (.cells cs.toArray T (0,0))
theorem dF{b:Nat}{T:TypeId}:(stb b T cs).ok w↔w.heap[b]?=some (.cells cs.toArray T (0,0)):=Iff.rfl
theorem dG{b:Nat}{T:TypeId}:(stb b T cs).fp=[b]:=rfl
def gQ(P:Program)(t:TypeId):Prop:=(isAgg t).run P=fun w=>Result.ok false w
def uI(P:Program)(t:TypeId)(s:Nat):Prop:=((isAgg t).run P=fun w=>Result.ok true w)/\(Go.sizeOf t).run P=fun w=>Result.ok s w
def kU(P:Program)(t:TypeId)(s:Nat):Prop:=(Go.sizeOf t).run P=fun w=>Result.ok s w
def w9(P:Program)(s:TypeId)(f k:Nat):Prop:=∀ a w,(Instr.fieldAt s (.pointer (some a)) f).run P w = .ok (.pointer (some (a.add k))) w
def qz(P:Program)(t:TypeId)(v:Value):Prop:=(zeroValue t).run P=fun w=>Result.ok v w
structure elT (P:Program) (t e:TypeId) (sz tj:Nat):Prop where
 sl:P.underlying t=some (.slice e)
 inf:∃ i z,P.info? e=some i/\i.zero=some z/\i.size=sz/\i.bytes=tj/\z.cells.size=sz
 pos:0<sz
theorem qQ{d:TypeDesc}(h:P.underlying t=some d)[hd:Nv (match d with | .struct _ | .array _ _=>true | _=>false) false]:gQ P t:=by
 have hd:=hd.1
 funext w
 simp only[isAgg,Sem.run_bind,run_underlying h,Result.andThen_ok]
 split <;> simp_all
theorem qj(h:P.info? t=some i):kU P t i.size:=by
 funext w;simp[Go.sizeOf,typeInfo,h]
theorem gI{d:TypeDesc}(h:P.underlying t=some d)(hd:(match d with | .struct _ | .array _ _=>true | _=>false)=true)(hi:P.info? t=some i):uI P t i.size:=by
 refine⟨?_,qj hi⟩
 funext w
 simp only[isAgg,Sem.run_bind,run_underlying h,Result.andThen_ok]
 split <;> simp_all
theorem xX{s:TypeId}{fs:Array Field}{f:Nat}{fd:Field}(h:P.underlying s=some (.struct fs))(hf:fs[f]?=some fd)(hi:P.info? fd.type=some i){k:Nat}(hk:fd.offset=k)(h0:i.size≠0:=by decide):w9 P s f k:=by
 subst hk
 intro a w
 simp[Instr.fieldAt,run_underlying h,hf,Instr.sureAddr,fieldPlace,Go.sizeOf,typeInfo,hi,h0]
theorem qb(h:P.info? t=some i)(hz:i.zero=some v):qz P t v:=by
 funext w;simp[zeroValue,typeInfo,h,hz]
def fG(F:List Nat)(w:World)(A:Addr)(cs:List Value):Prop:=
 A.block∉F/\∀ j u,cs[j]?=some u->w.cell? (A.add j)=some u
theorem Addr.pn(A:Addr)(i j:Nat):(A.add i).add j=A.add (i+j):=by
 unfold Addr.add
 split <;> split <;> simp_all [Nat.add_assoc]
theorem Addr.lC(A:Addr)(i:Nat):(A.add i).block=A.block:=by unfold Addr.add;split <;> rfl
theorem fG.sub(h:fG F w A cs)(k:Nat):fG F w (A.add k) (cs.drop k):=
 ⟨by rw[Addr.lC];exact h.1,fun j u hu=>by rw[Addr.pn];exact h.2 _ _ (by simpa using hu)⟩
theorem fG.pre{ds:List Value}(h:fG F w A (cs++ds)):fG F w A cs:=
 ⟨h.1,fun j u hu=>h.2 j u (by
  have hj:j<cs.length:=(List.getElem?_eq_some_iff.1 hu).1
  rw[List.getElem?_append_left hj];exact hu)⟩
theorem fG.now(h:fG F Ny A cs)(hp:Hp F Ny w L):∀ j u,cs[j]?=some u->w.cell? (A.add j)=some u:=by
 intro j u hu
 have h1:=h.2 j u hu
 have n8:=block_lt_of_cell h1
 rw[<- h1]
 refine World.cell?_of_block (hp.block _ n8 ?_)
 rw[Addr.lC];exact h.1
theorem fG.at{F F':List Nat}{Ny w:World}{L:List Asrt}{A:Addr}{cs:List Value}(h:fG F Ny A cs)(hp:Hp F Ny w L)(hF:∀ b∈F',∃ x∈L,b∈x.fp)(qA:cs≠[]):fG F' w A cs:=by
 refine⟨fun hb=>?_,h.now hp⟩
 obtain⟨x,hx,Ae⟩:=hF _ hb
 obtain⟨c,cs',rfl⟩:∃ c cs',cs=c::cs':=by cases cs with | nil=>exact absurd rfl qA | cons c cs'=>exact⟨c,cs',rfl⟩
 have h1:=h.2 0 c (by simp)
 have n8:=block_lt_of_cell h1
 rw[Addr.lC] at n8
 rcases hp.ow x hx _ Ae with h2 | h2
 ·exact h.1 h2
 ·omega
structure Sl (F:List Nat) (w:World) (v:Value) (sz:Nat) (rows:List (List Value)):Prop where
 shape:∃ ao cap,v = .slice ao rows.length cap/\rows.length<=cap/\cap<=maxLen/\(rows≠[]->∃ A,ao=some A/\fG F w A rows.flatten)
 len:∀ r∈rows,r.length=sz
def sU{α:Type}(F:List Nat)(w:World)(v:Value)(sz:Nat)(Pr:List Value->α->Prop)(l:List α):Prop:=
 ∃ rows:List (List Value),Sl F w v sz rows/\rows.length=l.length/\∀(i:Nat) (r:List Value) (x:α),rows[i]?=some r->l[i]?=some x->Pr r x
theorem c0{sz:Nat}:∀ {rows:List (List Value)} (_:∀ r∈rows,r.length=sz) {i:Nat} {r:List Value} (_:rows[i]?=some r),∃ tl,rows.flatten.drop (i*sz)=r++tl
 | [],_,i,r,h=>by simp at h
 | r0::rows,hl,0,r,h=>by simp at h;subst h;exact⟨rows.flatten,by simp⟩
 | r0::rows,hl,i+1,r,h=>by
  have h0:r0.length=sz:=hl r0 (by simp)
  obtain⟨tl,ht⟩:=c0 (fun r hr=>hl r (List.mem_cons_of_mem _ hr)) (i:=i) (r:=r) (by simpa using h)
  refine⟨tl,?_⟩
  rw[<- ht,List.flatten_cons,Nat.succ_mul,Nat.add_comm,<- h0,<- List.drop_drop,List.drop_left]
theorem sU.shape{Pr:List Value->α->Prop}{l:List α}(h:sU F w v sz Pr l):
  ∃ ao cap,v = .slice ao l.length cap/\l.length<=cap/\cap<=maxLen:=by
 obtain⟨rows,⟨⟨ao,cap,hv,h1,h2,_⟩,_⟩,hl,_⟩:=h
 exact⟨ao,cap,by rw[hv,hl],by omega,h2⟩
theorem sU.len{ao:Option Addr}{m cap:Nat}{Pr:List Value->α->Prop}{l:List α}(h:sU F w (.slice ao m cap) sz Pr l):m=l.length:=by
 obtain⟨zM,n6,hv,_⟩:=h.shape
 injection hv
theorem sU.elem{Pr:List Value->α->Prop}{l:List α}(h:sU F w v sz Pr l){i:Nat}(hi:i<l.length):
  ∃ A cap r,v = .slice (some A) l.length cap/\fG F w (A.add (i*sz)) r/\r.length=sz/\Pr r l[i]:=by
 obtain⟨rows,⟨⟨ao,cap,hv,h1,h2,h3⟩,kM⟩,hl,hP⟩:=h
 have Ce:i<rows.length:=by omega
 obtain⟨A,rfl,hc⟩:=h3 (by intro e;subst e;simp at Ce)
 have hr:rows[i]?=some rows[i]:=List.getElem?_eq_getElem Ce
 obtain⟨tl,ht⟩:=c0 kM hr
 refine⟨A,cap,rows[i],by rw[hv,hl],?_,kM _ (List.getElem_mem Ce),hP i _ _ hr (List.getElem?_eq_getElem hi)⟩
 have:=hc.sub (i*sz)
 rw[ht] at this
 exact this.pre
theorem sU.at{α:Type}{F F':List Nat}{Ny w:World}{L:List Asrt}{v:Value}{sz:Nat}{Pr Pr':List Value->α->Prop}{l:List α}(h:sU F Ny v sz Pr l)(hp:Hp F Ny w L)(hF:∀ b∈F',∃ x∈L,b∈x.fp)(lp:0<sz)(hPr:∀ r x,Pr r x->Pr' r x):sU F' w v sz Pr' l:=by
 obtain⟨rows,⟨⟨ao,cap,hv,h1,h2,h3⟩,kM⟩,hl,hP⟩:=h
 refine⟨rows,⟨⟨ao,cap,hv,h1,h2,fun qA=>?_⟩,kM⟩,hl,fun i r x hr hx=>hPr _ _ (hP i r x hr hx)⟩
 obtain⟨A,hA,hc⟩:=h3 qA
 refine⟨A,hA,hc.at hp hF ?_⟩
 intro e
 obtain⟨r,rs,rfl⟩:∃ r rs,rows=r::rs:=by cases rows with | nil=>exact absurd rfl qA | cons r rs=>exact⟨r,rs,rfl⟩
 have:=kM r (by simp)
 rw[List.flatten_cons] at e
 have:r=[]:=List.append_eq_nil_iff.1 e |>.1
 subst this
 simp at this
 omega
theorem sU.nil(F:List Nat)(w:World)(sz:Nat)(Pr:List Value->α->Prop):sU F w (.slice none 0 0) sz Pr []:=
 ⟨[],⟨⟨none,0,rfl,by simp,by simp,by simp⟩,by simp⟩,rfl,by simp⟩
theorem sU.sub{α:Type}{F:List Nat}{w:World}{v:Value}{sz:Nat}{Pr:List Value->α->Prop}{l:List α}(h:sU F w v sz Pr l)(lp:0<sz){lo hi:Nat}(h1:lo<=hi)(h2:hi<=l.length):
  ∀ ao cap,v = .slice ao l.length cap->sU F w (.slice (if cap=lo then ao else ao.map (·.add (lo*sz))) (hi-lo) (cap-lo)) sz Pr ((l.take hi).drop lo):=by
 intro ao cap hv
 obtain⟨rows,⟨⟨zM,n6,zK,g1,g2,g3⟩,kM⟩,hl,hP⟩:=h
 rw[hv] at zK
 injection zK with e1 e2 e3
 subst e1;subst e3
 refine⟨(rows.take hi).drop lo,⟨⟨if cap=lo then ao else ao.map (·.add (lo*sz)),cap-lo,?_,?_,?_,?_⟩,?_⟩,?_,?_⟩
 ·congr 1;simp;omega
 ·simp;omega
 ·omega
 ·intro qA
  have n8:lo<hi:=by
   rcases Nat.lt_or_ge lo hi with h' | h'
   ·exact h'
   ·exact absurd (List.drop_eq_nil_of_le (by simp;omega)) qA
  obtain⟨A,rfl,hc⟩:=g3 (by intro e;subst e;simp at hl;omega)
  have xQ:cap≠lo:=by omega
  refine⟨A.add (lo*sz),by simp[xQ],?_⟩
  have:=hc.sub (lo*sz)
  have D7:∀(rows:List (List Value)) (k:Nat),(∀ r∈rows,r.length=sz)->k<=rows.length->rows.flatten.drop (k*sz)=(rows.drop k).flatten:=by
   intro rows
   induction rows with
   | nil=>intro k _ hk;simp at hk;subst hk;simp
   | cons r rs ih=>
    intro k hr hk
    cases k with
    | zero=>simp
    | succ k=>
     have h0:r.length=sz:=hr r (by simp)
     rw[List.flatten_cons,Nat.succ_mul,Nat.add_comm,<- h0,<- List.drop_drop,List.drop_left,h0]
     simpa using ih k (fun r h=>hr r (List.mem_cons_of_mem _ h)) (by simpa using hk)
  rw[D7 rows lo kM (by omega)] at this
  have e:rows.drop lo=(rows.take hi).drop lo++rows.drop hi:=by
   rw[<- List.drop_append_of_le_length (by simp;omega),List.take_append_drop]
  rw[e,List.flatten_append] at this
  exact this.pre
 ·intro r hr;exact kM r (List.mem_of_mem_take (List.mem_of_mem_drop hr))
 ·simp[hl]
 ·intro i r x hr hx
  simp only[List.getElem?_drop,List.getElem?_take] at hr hx
  split at hr
  ·rename_i n8;simp only[n8,if_true] at hx;exact hP _ _ _ hr hx
  ·cases hr
end
section
variable {cs ds vs:List Value}{cap off m s:Nat}{A:Addr}{w:World}{p:Prop}{ao:Option Addr}
variable [Rnd]
def Ef{G:Type}(P:Program)(n:Nat)(F:List Nat)(Ny:World)(env:List (Nat×Value))(L:List Asrt)(o:Oper)(φ:G->Prop)(val:G->Value)(L':G->List Asrt):Prop:=
 ∀ a w,SS n F Ny env L a w->∃ g w',(execOp a.eval o).run P w = .ok (.value (val g)) w'/\φ g/\Hp F Ny w' (L' g)
def au{G:Type}(P:Program)(n:Nat)(F:List Nat)(Ny:World)(env:List (Nat×Value))(L:List Asrt)(o:Oper)(φ:G->Prop)(val:G->Value)(L':G->List Asrt):Prop:=
 ∀ a w,SS n F Ny env L a w->∃ g w',(execOp a.eval o).run P w = .ok (.value (val g)) w'/\φ g/\Hp F Ny w' (L' g)/\Ext w w'
def aw(P:Program)(n:Nat)(F:List Nat)(Ny:World)(env:List (Nat×Value))(L:List Asrt)(o:Oper)(L':List Asrt):Prop:=
 ∀ a w,SS n F Ny env L a w->∃ w',dE P o a w w'/\Hp F Ny w' L'
theorem au.ef{G:Type}{P:Program}{n:Nat}{F:List Nat}{Ny:World}{env:List (Nat×Value)}{L:List Asrt}{o:Oper}{φ:G->Prop}{val:G->Value}{L':G->List Asrt}(h:au P n F Ny env L o φ val L'):Ef P n F Ny env L o φ val L':=fun a w hs=>let ⟨g,w',h1,h2,h3,_⟩:=h a w hs;⟨g,w',h1,h2,h3⟩
section
variable {P:Program} {n:Nat} {F:List Nat} {Ny:World} {env:List (Nat×Value)} {L R:List Asrt} {eA:Array Oper} {Q:Exit->Act->World->Prop} {ir:List Oper}
 {dd:Nat} {d:Option Tmp} {ty:TypeId} {pos:String} {after:Array Edge} {g:Option (Nat×Bool)} {x y c:Operand} {v u:Value} {t e T:TypeId} {sz tj:Nat}
theorem xB{f k:Nat}{A':Addr}(hf:w9 P t f k)[hx:Nv (eo env x) (some (.pointer (some A)))][hA:Nv (A.add k) A']:Qt P n F Ny env L ⟨d,.fieldAddr t x f,ty,pos,after,g⟩ (.pointer (some A')):=by
 have hA:=hA.1
 intro a w h;subst hA;simp[execOp,h.eval hx.1,hf A w]
theorem xC(hT:gQ P t)(hx:eo env x=some (.pointer (some A)))(hR:∀ w,Hp F Ny w L->w.cell? A=some v):Qt P n F Ny env L ⟨d,.load t x,ty,pos,after,g⟩ v:=by
 intro a w h
 have:=congrFun hT w
 simp[execOp,h.eval hx,Instr.loadAt,Instr.sureAddr,loadVar,this,hR w h.hp]
theorem wo(hT:uI P t s)[hx:Nv (eo env x) (some (.pointer (some A)))][hl:Nv (Nat.beq cs.length s) true](hR:∀ w,Hp F Ny w L->∀ j u,cs[j]?=some u->w.cell? (A.add j)=some u):
  Qt P n F Ny env L ⟨d,.load t x,ty,pos,after,g⟩ (.agg cs.toArray):=by
 intro a w h
 have h1:=congrFun hT.1 w
 have h2:=congrFun hT.2 w
 have h3:=run_loadCells_list (P:=P) w A cs (hR w h.hp)
 rw[(Nat.eq_of_beq_eq_true hl.1)] at h3
 simp[execOp,h.eval hx.1,Instr.loadAt,Instr.sureAddr,loadVar,h1,h2,h3]
theorem xG{b:Nat}(hm:Pick L (stb b T cs) R)(hv:cs[off]?=some v):∀ w,Hp F Ny w L->w.cell? ⟨b,off,none⟩=some v:=by
 intro w h
 have:=dF.1 (h.ok _ hm.mem)
 rw[cell_of_row w b off _ T (0,0) this]
 simpa using hv
theorem KL{b:Nat}(hm:Pick L (stb b T cs) R)(hv:∀ j u,ds[j]?=some u->cs[off+j]?=some u):∀ w,Hp F Ny w L->∀ j u,ds[j]?=some u->w.cell? ((⟨b,off,none⟩:Addr).add j)=some u:=by
 intro w h j u hu
 rw[Addr.add_lit]
 exact xG hm (hv j u hu) w h
theorem xO{b:Nat}(hm:Pick L (stb b T cs) R):∀ w,Hp F Ny w L->∀ j u,cs[j]?=some u->w.cell? ((⟨b,0,none⟩:Addr).add j)=some u:=
 KL hm (fun j u hu=>by simpa using hu)
theorem sj{b len:Nat}(hm:Pick L (row (.slice (some ⟨b,0,none⟩) len cap) e sz cs) R)(hv:cs[off]?=some v):∀ w,Hp F Ny w L->w.cell? ⟨b,off,none⟩=some v:=by
 intro w h
 obtain⟨m,hm⟩:=h.ok _ hm.mem
 have:=hm.cells (g:=b) rfl off v hv
 rwa [Addr.add_lit,Nat.zero_add] at this
theorem vQ{b len:Nat}(hm:Pick L (row (.slice (some ⟨b,0,none⟩) len cap) e sz cs) R)(hv:∀ j u,ds[j]?=some u->cs[off+j]?=some u):
  ∀ w,Hp F Ny w L->∀ j u,ds[j]?=some u->w.cell? ((⟨b,off,none⟩:Addr).add j)=some u:=by
 intro w h j u hu
 rw[Addr.add_lit]
 exact sj hm (hv j u hu) w h
theorem we[hx:Nv (eo env x) (some v)][hc:Nv v.cells cs.toArray]:
  au P n F Ny env L ⟨d,.box T x,ty,pos,after,g⟩ (fun _:Nat=>True) (fun b => .pointer (some ⟨b,0,none⟩)) (fun b=>stb b T cs::L):=by
 intro a w h
 refine⟨w.heap.size,w.alloc (.cells cs.toArray T (0,0)),?_,trivial,h.hp.alloc _,.alloc _ _⟩
 simp[execOp,h.eval hx.1,Instr.box,newVar,newRow,newObj,Sem.run,hc.1]
theorem xV(hz:qz P T v)(hc:v.cells=cs.toArray):
  au P n F Ny env L ⟨d,.alloc T,ty,pos,after,g⟩ (fun _:Nat=>True) (fun b => .pointer (some ⟨b,0,none⟩)) (fun b=>stb b T cs::L):=by
 intro a w h
 have:=congrFun hz w
 refine⟨w.heap.size,w.alloc (.cells cs.toArray T (0,0)),?_,trivial,h.hp.alloc _,.alloc _ _⟩
 simp[execOp,Instr.alloc,this,newVar,newRow,newObj,Sem.run,hc]
def ot(cs:List Value)(off:Nat)(vs:List Value):List Value:=cs.take off++vs++cs.drop (off+vs.length)
theorem Hp.front{x:Asrt}(h:Hp F Ny w L)(hm:Pick L x R):Hp F Ny w (x::R):=h.sub (.cons hm .all)
theorem Hp.setRow{w:World}{b:Nat}{cs ds:List Value}(h:Hp F Ny w L)(hm:Pick L (stb b T cs) R):Hp F Ny (w.setRow b ds.toArray) (stb b T ds::R):=by
 have hk:=dF.1 (h.ok _ hm.mem)
 refine(h.front hm).upd (x:=stb b T cs) (y:=stb b T ds) .here rfl ⟨rfl,Nat.le_refl _⟩ rfl (by simp) (fun k _ wj=>setRow_other w b k _ (by simpa [dG] using wj)) (dF.2 (setRow_heap w b _ _ _ _ hk)) ?_
 intro b' hb'
 simp only[dG,List.mem_singleton] at hb'
 subst hb'
 exact⟨by simpa using h.lt _ hm.mem b' (by simp[dG]),.inl (by simp[dG])⟩
theorem KM{b:Nat}(hT:kU P t s)(hx:eo env x=some (.pointer (some ⟨b,off,none⟩)))(hy:eo env y=some v)(hv:v.cells=vs.toArray)(hs:vs.length=s)(h1:∀ u∈vs,u.oneCell'=true)(hm:Pick L (stb b T cs) R)(xW:off+s<=cs.length)(AL:ot cs off vs=ds):
  aw P n F Ny env L ⟨none,.store t x y,ty,pos,after,g⟩ (stb b T ds::R):=by
 intro a w h
 subst AL
 have hk:=dF.1 (h.hp.ok _ hm.mem)
 have ni:=run_storeCells_at (P:=P) b off T vs 0 cs.toArray w hk (by simp;omega) h1
 have h2:=congrFun hT w
 refine⟨_,.inl ?_,h.hp.setRow hm (ds:=ot cs off vs)⟩
 simp only[Nat.add_zero] at ni
 simp[execOp,h.eval hx,h.eval hy,Instr.storeAt,Instr.sureAddr,storeVar,h2,hv,hs,ni,ot]
theorem wc(ht:P.underlying t=some (.slice e))[hx:Nv (eo env x) (some (.slice ao m cap))]:Qt P n F Ny env L ⟨d,.call ⟨.builtin .len,#[x],#[t]⟩,ty,pos,after,g⟩ (.int .i64 m):=by
 intro a w h
 have Bh:P.underlying t=some (.slice (P.elem t)):=by simp[Program.elem,ht]
 simp[execOp,h.eval hx.1,resolve,invoke,builtin,run_len_slice w t _ ao m cap Bh,goInt]
theorem xZ{A':Addr}{k:IntKind}{i:Int}(ht:elT P t e sz tj)[hx:Nv (eo env x) (some (.slice (some A) m cap))][hy:Nv (eo env y) (some (.int k i))](h0:0<=i)(h1:i<m)(hA:A.add (i.toNat*sz)=A'):Qt P n F Ny env L ⟨d,.indexAddr t x y,ty,pos,after,g⟩ (.pointer (some A')):=by
 intro a w h
 subst hA
 obtain⟨inf,z,hi,hz,lp,_,_⟩:=ht.inf
 simp[execOp,h.eval hx.1,h.eval hy.1,Instr.indexAt,run_underlying ht.sl,asIntOf,h0,h1,Go.sizeOf,typeInfo,hi,lp]
theorem Hp.rowShape(h:Hp F Ny w L)(hm:Pick L (row (.slice ao m cap) e sz cs) R):
  cs.length=m*sz/\m<=cap/\cap<=maxLen/\((ao=none/\m=0/\cap=0)\/∃ b,ao=some ⟨b,0,none⟩):=by
 obtain⟨m',h1,h2⟩:=h.ok _ hm.mem
 rcases h2 with⟨hv,hn⟩ | ⟨b,n6,nk,hv,_,hh,Al,zn,zR,Ar⟩
 ·injection hv with e1 e2 e3;subst e1 e2 e3 hn;exact⟨by simpa using h1,by simp,by simp,.inl ⟨rfl,rfl,rfl⟩⟩
 ·injection hv with e1 e2 e3;subst e1 e2 e3;exact⟨h1,Al,zn,.inr ⟨b,rfl⟩⟩
theorem N5{l:List Oper}(hk:∀ w,Hp F Ny w L->p)(k:p->WL P n F Ny eA Q l env L):WL P n F Ny eA Q l env L:=fun a w h=>k (hk w h.hp) a w h
theorem Px{cc:Code}(hk:∀ w,Hp F Ny w L->p)(k:p->WC P n F Ny Q cc env L):WC P n F Ny Q cc env L:=fun a w h=>k (hk w h.hp) a w h
theorem Rs{ex:Exit}(hk:∀ w,Hp F Ny w L->p)(k:p->WX n F Ny Q ex env L):WX n F Ny Q ex env L:=fun a w h=>k (hk w h.hp) a w h
theorem Nk{tl:Nat->Bool}{Ls:List Asrt}{fuel:Nat}{listed:Array Bool}{QD:Act->World->Prop}(hk:∀ w,Hp F Ny w L->p)(k:p->WD P n F Ny eA tl Ls QD fuel listed env L):WD P n F Ny eA tl Ls QD fuel listed env L:=fun a w h=>k (hk w h.hp) a w h
theorem QG{bo:Option Addr}{k pA:Nat}{vo:List Value}{dty:TypeId}(ht:elT P t e sz tj)(hx:eo env x=some (.slice ao m cap))(hy:eo env y=some (.slice bo k pA))(hm:Pick L (row (.slice ao m cap) e sz cs) R)(hl:vo.length=k*sz)(zB:∀ w,Hp F Ny w L->vo≠[]->∃ A,bo=some A/\∀ j u,vo[j]?=some u->w.cell? (A.add j)=some u)(h1:∀ u∈vo,u.oneCell'=true)(Ep:m+k<=maxLen)(w8:(m+k)*tj<=140737488355328):
  Ef P n F Ny env L ⟨d,.call ⟨.builtin .append,#[x,y],#[t,t]⟩,dty,pos,after,g⟩ (fun _:Option Addr×Nat=>True) (fun p => .slice p.1 (m+k) p.2) (fun p=>row (.slice p.1 (m+k) p.2) e sz (cs++vo)::R):=by
 intro a w h
 obtain⟨inf,z,hi,hz,lp,hb,B7⟩:=ht.inf
 obtain⟨m',iF⟩:=h.hp.ok _ hm.mem
 have hmm:m'=m:=by
  have hs:=h.hp.rowShape hm
  have:=iF.1.symm.trans hs.1
  exact Nat.eq_of_mul_eq_mul_right ht.pos this
 subst hmm
 subst lp
 subst hb
 have AM:=h.hp.rowShape hm
 by_cases AD:k=0
 ·subst AD
  have hn:vo=[]:=List.eq_nil_of_length_eq_zero (by simpa using hl)
  subst hn
  refine⟨(ao,cap),w,?_,trivial,?_⟩
  ·have ze:m'<=cap:=AM.2.1
   cases bo <;> cases ao <;> simp[execOp,h.eval hx,h.eval hy,resolve,invoke,builtin,Builtin.append_,run_underlying ht.sl,Go.sizeOf,typeInfo,hi,Builtin.lenOf,Builtin.firstCells,ze,loadCells,loadCellsFrom,storeCells]
  ·simpa using h.hp.front hm
 ·have qA:vo≠[]:=by
   intro e;subst e
   have:0=k*inf.size:=by simpa using hl
   have:=Nat.mul_pos (Nat.pos_of_ne_zero AD) ht.pos
   omega
  obtain⟨A,rfl,hA⟩:=zB w h.hp qA
  have h63':((m'+k:Nat):Int)<=9223372036854775807:=by simp only[maxLen] at Ep;omega
  obtain⟨v',w',hr,ho,By,_⟩:=run_append_own (P:=P) w 0 t dty e inf z inf.size inf.bytes ht.sl hi hz rfl rfl B7 ht.pos _ m' cs iF A k pA vo hl hA h1 Ep w8 (Nat.zero_le _)
  have xE:∀ b,v'.ownBlock=some b->(Value.slice ao m' cap).ownBlock=some b\/w.heap.size<=b:=by
   rcases iF.2 with⟨hv,hn⟩ | ⟨b0,n6,nk,hv,_,hh,Al,zn,zR,Ar⟩
   ·injection hv with e1 e2 e3
    subst e1 e3 hn
    have hq:=run_append_nil (P:=P) w t dty e inf z ht.sl hi hz A k pA vo hl hA (by omega) (by omega) (by simp only[Nat.zero_add] at w8;omega)
    rw[hr] at hq
    injection hq with e1 _
    subst e1
    intro b hb;simp[Value.ownBlock] at hb;exact .inr (by omega)
   ·injection hv with e1 e2 e3
    subst e1 e3
    by_cases hroom:m'+k<=cap
    ·have xW:m'*inf.size+vo.length<=nk.size:=by rw[hl,zR,<- Nat.add_mul];exact Nat.mul_le_mul_right _ hroom
     have hq:=run_append_room (P:=P) w t dty e inf ht.sl hi b0 m' cap nk hh A k pA vo hl hA h1 hroom xW
     rw[hr] at hq
     injection hq with e1 _
     subst e1
     intro b hb;exact .inl hb
    ·have holds:∀ j u,cs[j]?=some u->w.cell? ((⟨b0,0,none⟩:Addr).add j)=some u:=iF.cells (g:=b0) rfl
     have hq:=run_append_grow (P:=P) w t dty e inf z ht.sl hi hz ⟨b0,0,none⟩ m' cap cs iF.1 holds A k pA vo hl hA (by omega) (by omega) (growslice_fits (by omega) w8)
     rw[hr] at hq
     injection hq with e1 _
     subst e1
     intro b hb;simp[Value.ownBlock] at hb;exact .inr (by omega)
  have hdr:w.drawn<=w'.drawn:=by
   rcases iF.2 with⟨hv,hn⟩ | ⟨b0,n6,nk,hv,_,hh,Al,zn,zR,Ar⟩
   ·injection hv with e1 e2 e3
    subst e1 e3 hn
    have hq:=run_append_nil (P:=P) w t dty e inf z ht.sl hi hz A k pA vo hl hA (by omega) (by omega) (by simp only[Nat.zero_add] at w8;omega)
    rw[hr] at hq
    injection hq with _ e1
    rw[e1];first | exact Nat.le_refl _ | exact Nat.le_add_right _ _
   ·injection hv with e1 e2 e3
    subst e1 e3
    by_cases hroom:m'+k<=cap
    ·have xW:m'*inf.size+vo.length<=nk.size:=by rw[hl,zR,<- Nat.add_mul];exact Nat.mul_le_mul_right _ hroom
     have hq:=run_append_room (P:=P) w t dty e inf ht.sl hi b0 m' cap nk hh A k pA vo hl hA h1 hroom xW
     rw[hr] at hq
     injection hq with _ e1
     rw[e1];first | exact Nat.le_refl _ | exact Nat.le_add_right _ _
    ·have holds:∀ j u,cs[j]?=some u->w.cell? ((⟨b0,0,none⟩:Addr).add j)=some u:=iF.cells (g:=b0) rfl
     have hq:=run_append_grow (P:=P) w t dty e inf z ht.sl hi hz ⟨b0,0,none⟩ m' cap cs iF.1 holds A k pA vo hl hA (by omega) (by omega) (growslice_fits (by omega) w8)
     rw[hr] at hq
     injection hq with _ e1
     rw[e1];first | exact Nat.le_refl _ | exact Nat.le_add_right _ _
  obtain⟨p,rfl⟩:∃ p:Option Addr×Nat,v' = .slice p.1 (m'+k) p.2:=by
   rcases ho.2 with⟨hv,hn⟩ | ⟨b,n6,nk,hv,_⟩
   ·exact⟨(none,0),by rw[hv,hn]⟩
   ·exact⟨(some ⟨b,0,none⟩,n6),by rw[hv]⟩
  refine⟨p,w',?_,trivial,?_⟩
  ·simp[execOp,h.eval hx,h.eval hy,resolve,invoke,builtin,hr]
  ·refine(h.hp.front hm).upd (x:=row (.slice ao m' cap) e inf.size cs) (y:=row (.slice p.1 (m'+k) p.2) e inf.size (cs++vo)) .here By.os ⟨By.tape,hdr⟩ By.output By.size ?_ ⟨_,ho⟩ ?_
   ·intro j hj Es
    refine By.block j hj (fun hc=>Es ?_)
    simp[row,<- hc]
   ·intro b hb
    have hb':(Value.slice p.1 (m'+k) p.2).ownBlock=some b:=by simpa [row] using hb
    refine⟨(ho.lt b hb').2,?_⟩
    rcases xE b hb' with h2 | h2
    ·exact .inl (by simp[row,h2])
    ·exact .inr h2
theorem Hp.nilRow(h:Hp F Ny w L)(e:TypeId)(sz:Nat):Hp F Ny w (row (.slice none 0 0) e sz []::L):=
 h.add (x:=row (.slice none 0 0) e sz []) ⟨0,World.ownsRow_nil w 0 e sz⟩ (by simp[row,Value.ownBlock]) (by simp[row,Value.ownBlock]) (by simp[row,Value.ownBlock])
theorem WL.nilRow{l:List Oper}(e:TypeId)(sz:Nat)(k:WL P n F Ny eA Q l env (row (.slice none 0 0) e sz []::L)):WL P n F Ny eA Q l env L:=fun a w h=>k a w (h.world (h.hp.nilRow e sz))
theorem WC.nilRow{cc:Code}(e:TypeId)(sz:Nat)(k:WC P n F Ny Q cc env (row (.slice none 0 0) e sz []::L)):WC P n F Ny Q cc env L:=fun a w h=>k a w (h.world (h.hp.nilRow e sz))
theorem wn{parts:Array (Nat×Operand)}{pv:Array (Nat×Value)}(ht:elT P t e sz tj)(hp:∀ a w,SS n F Ny env L a w->(parts.map fun(i,x)=>(i,a.eval x))=pv)[hl:Nv cs.length (m*sz)](hr:∀ w,(Instr.buildSlice t m pv).run P w = .ok (.slice (some ⟨w.heap.size,0,none⟩) m m) (w.alloc (.cells cs.toArray e)):=by intro _;kernel_rfl)(hm:m<=maxLen:=by unfold maxLen;omega):
  au P n F Ny env L ⟨d,.buildSlice t m parts,ty,pos,after,g⟩ (fun _:Nat=>True) (fun b => .slice (some ⟨b,0,none⟩) m m) (fun b=>row (.slice (some ⟨b,0,none⟩) m m) e sz cs::L):=by
 have hl:=hl.1
 intro a w h
 refine⟨w.heap.size,w.alloc (.cells cs.toArray e),?_,trivial,?_,.alloc _ _⟩
 ·simp only[execOp,hp a w h]
  simp[hr w]
 ·refine(h.hp.ext (.alloc w _)).add ?_ (by simp[row,Value.ownBlock]) (by simp[row,Value.ownBlock,h.hp.size]) ?_
  ·exact⟨m,hl,.inr ⟨w.heap.size,m,cs.toArray,rfl,Nat.zero_le _,heap_alloc_new w _,Nat.le_refl _,hm,by simpa using hl,by simp[<- hl]⟩⟩
  ·intro y hy b hb hc
   simp[row,Value.ownBlock] at hb
   have:=h.hp.lt y hy b hc
   omega
theorem wl{parts:Array (Nat×Operand)}{pv:Array (Nat×Value)}(hp:∀ a w,SS n F Ny env L a w->(parts.map fun(i,x)=>(i,a.eval x))=pv)(hr:∀ w,(Instr.build t pv).run P w = .ok v w:=by intro _;kernel_rfl):Qt P n F Ny env L ⟨d,.build t parts,ty,pos,after,g⟩ v:=by
 intro a w h
 simp only[execOp,hp a w h]
 simp[hr w]
theorem Hp.rowPut{b:Nat}(h:Hp F Ny w L)(h1:∀ u∈vs,u.oneCell'=true)(hm:Pick L (row (.slice (some ⟨b,0,none⟩) m cap) e sz cs) R)(xW:off+vs.length<=cs.length):
  ∃ w',(storeCells ⟨b,off,none⟩ vs).run P w = .ok () w'/\Hp F Ny w' (row (.slice (some ⟨b,0,none⟩) m cap) e sz (ot cs off vs)::R):=by
 obtain⟨m',iF⟩:=h.ok _ hm.mem
 rcases iF.2 with⟨zK,_⟩ | ⟨b0,n6,nk,zK,Bi,hh,Al,zn,zR,Ar⟩
 ·cases zK
 injection zK with e1 e2 e3
 injection e1 with e1
 injection e1 with e1
 subst e1 e2 e3
 have hlc:cs.length<=nk.size:=by rw[<- Ar,List.length_take];simp;omega
 have ni:=run_storeCells_at (P:=P) b off e vs 0 nk w hh (by omega) h1
 simp only[Nat.add_zero] at ni
 refine⟨w.setRow b (List.take off nk.toList++vs++List.drop (off+vs.length) nk.toList).toArray,ni,(h.front hm).upd (x:=row (.slice (some ⟨b,0,none⟩) m cap) e sz cs) (y:=row (.slice (some ⟨b,0,none⟩) m cap) e sz (ot cs off vs)) .here rfl ⟨rfl,Nat.le_refl _⟩ rfl (by simp) (fun k _ wj=>setRow_other w b k _ (by simpa [row,Value.ownBlock] using wj)) ?_ ?_⟩
 ·refine⟨m,?_,.inr ⟨b,cap,_,rfl,Bi,setRow_heap w b _ _ _ _ hh,Al,zn,?_,?_⟩⟩
  ·rw[<- iF.1];simp[ot];omega
  ·simp;omega
  ·have xQ:cs.length=m*sz:=iF.1
   have Dt:cs=nk.toList.take (m*sz):=Ar.symm
   rw[<- xQ]
   apply List.ext_getElem?
   intro j
   simp only[ot]
   rw[List.getElem?_take]
   by_cases hj:j<cs.length
   ·simp only[hj,if_true]
    have e1:nk.toList.take off=cs.take off:=by rw[Dt,List.take_take];congr 1;omega
    rw[e1]
    have e2:(List.take off cs++vs).length=off+vs.length:=by simp;omega
    by_cases hj1:j<off+vs.length
    ·rw[List.getElem?_append_left (l₁:=List.take off cs++vs) (by omega)]
     rw[List.getElem?_append_left (l₁:=List.take off cs++vs) (by omega)]
    ·have e3:cs[j]?=nk.toList[j]?:=by
      have:(List.take (m*sz) nk.toList)[j]?=nk.toList[j]?:=by rw[List.getElem?_take,if_pos (by omega)]
      rw[<- this,<- Dt]
     rw[List.getElem?_append_right (by omega),List.getElem?_append_right (by omega),e2,List.getElem?_drop,List.getElem?_drop,
      show off+vs.length+(j-(off+vs.length))=j from by omega,e3]
   ·simp only[hj,if_false]
    rw[List.getElem?_eq_none]
    simp;omega
 ·intro b' hb'
  simp[row,Value.ownBlock] at hb'
  subst hb'
  exact⟨by simpa using (Array.getElem?_eq_some_iff.1 hh).1,.inl (by simp[row,Value.ownBlock])⟩
theorem gb{b:Nat}(hT:kU P t s)[hx:Nv (eo env x) (some (.pointer (some ⟨b,off,none⟩)))][hy:Nv (eo env y) (some v)][hv:Nv v.cells vs.toArray][hs:Nv (Nat.beq vs.length s) true](h1:∀ u∈vs,u.oneCell'=true)(hm:Pick L (row (.slice (some ⟨b,0,none⟩) m cap) e sz cs) R)(xW:off+s<=cs.length)(AL:ot cs off vs=ds):
  aw P n F Ny env L ⟨none,.store t x y,ty,pos,after,g⟩ (row (.slice (some ⟨b,0,none⟩) m cap) e sz ds::R):=by
 have hx:=hx.1
 have hy:=hy.1
 have hv:=hv.1
 have hs:=Nat.eq_of_beq_eq_true hs.1
 intro a w h
 subst AL
 obtain⟨w',ni,hp⟩:=h.hp.rowPut (P:=P) (off:=off) h1 hm (by omega)
 have h2:=congrFun hT w
 refine⟨w',.inl ?_,hp⟩
 simp[execOp,h.eval hx,h.eval hy,Instr.storeAt,Instr.sureAddr,storeVar,h2,hv,hs,ni]
end
end
section
variable {w:World}{f:FuncId}{vs:List Value}{α:Type}
variable [Rnd]
abbrev fps(L:List Asrt):List Nat:=L.flatMap (·.fp)
def lD:Nat->List Value->List (Nat×Value)
 | _,[]=>[]
 | k,v::vs=>(k,v)::lD (k+1) vs
theorem WT:∀(vs:List Value) (k i:Nat) (v:Value),lk (lD k vs) i=some v->k<=i/\vs[i-k]?=some v
 | [],k,i,v,h=>by simp[lD,lk] at h
 | u::vs,k,i,v,h=>by
  simp only[lD,lk] at h
  by_cases hi:i=k
  ·subst hi;simp at h;subst h;simp
  ·rw[pl hi] at h
   obtain⟨h1,h2⟩:=WT vs (k+1) i v h
   refine⟨by omega,?_⟩
   rw[show i-k=(i-(k+1))+1 from by omega]
   simpa using h2
theorem N6{P:Program}{fn:Func}{c:Code}{R:Ending->World->Prop}{n:Nat}{pre:List Asrt}{env:List (Nat×Value)}(hf:P.funcs[f]?=some fn)(hb:fn.body=some c)(hn:fn.ntmps=n)(lp:Nat.ble vs.length n=true)(iF:Hp (fps pre) w w pre)(he:lD 0 vs=env)(k : @WC Rnd.base P n (fps pre) w (bodyPost P fn R) c env pre):Calls P f vs.toArray w R:=by
 subst he
 refine QA (m:=0) (callsIn_of_wp (F := @FN Rnd.base) hf hb trivial (k _ _ (@SS.mk Rnd.base _ _ _ _ _ _ _ rfl ?_ ?_ iF)) rfl)
 ·have:=Nat.le_of_ble_eq_true lp
  simp[hn];omega
 ·intro i v hv
  obtain⟨_,h⟩:=WT vs 0 i v hv
  have n8:i<vs.length:=by have:=(List.getElem?_eq_some_iff.1 h).1;simpa using this
  rw[Array.getElem?_append_left (by simpa using n8)]
  simpa using h
section
variable {P:Program} {n:Nat} {F:List Nat} {Ny:World} {env:List (Nat×Value)} {L Lc Lr R:List Asrt} {eA:Array Oper} {Q:Exit->Act->World->Prop} {ir:List Oper}
 {dd:Nat} {d:Option Tmp} {ty:TypeId} {pos:String} {after:Array Edge} {g:Option (Nat×Bool)} {v u:Value} {t e T:TypeId} {sz tj:Nat}
theorem Hp.owns(h:Hp F Ny w L)(hs:Sel L Lc Lr):Hp (fps Lc) w w Lc:=by
 have h':=h.sub hs
 exact⟨rfl,⟨rfl,Nat.le_refl _⟩,rfl,Nat.le_refl _,fun _ _ _=>rfl,h'.ok,h'.lt,fun x hx b hb => .inl (List.mem_flatMap.2 ⟨x,hx,hb⟩),h'.sep⟩
theorem Sel.mem{L L' M:List α}(h:Sel L L' M){x:α}(hx:x∈L'):x∈L:=h.perm.mem_iff.2 (List.mem_append_left _ hx)
theorem Sel.memr{L L' M:List α}(h:Sel L L' M){x:α}(hx:x∈M):x∈L:=h.perm.mem_iff.2 (List.mem_append_right _ hx)
theorem Sel.fps(hs:Sel L Lc Lr):∀ b∈fps Lc,∃ x∈L,b∈x.fp:=fun b hb=>by
 obtain⟨x,hx,Ae⟩:=List.mem_flatMap.1 hb
 exact⟨x,hs.mem hx,Ae⟩
theorem sU.call{Pr Pr':List Value->α->Prop}{l:List α}(h:sU F Ny v sz Pr l)(hp:Hp F Ny w L)(hs:Sel L Lc Lr)(lp:0<sz)(hPr:∀ r x,Pr r x->Pr' r x):sU (Sep.fps Lc) w v sz Pr' l:=
 h.at hp hs.fps lp hPr
theorem sU.call0{Pr:List Value->α->Prop}{l:List α}(h:sU F Ny v sz Pr l)(hp:Hp F Ny w L)(lp:0<sz):sU [] w v sz Pr l:=
 h.at hp (by simp) lp (fun _ _ h=>h)
theorem Hp.cellsRow{ao:Option Addr}{m cap:Nat}{cs:List Value}(h:Hp F Ny w L)(hs:Sel L Lc Lr)(hm:Pick Lr (row (.slice ao m cap) e sz cs) R)(qA:cs≠[]):
  ∃ b,ao=some ⟨b,0,none⟩/\fG (fps Lc) w ⟨b,0,none⟩ cs:=by
 obtain⟨m',iF⟩:=h.ok _ (hs.memr hm.mem)
 rcases iF.2 with⟨hv,hn⟩ | ⟨b,n6,nk,hv,_,_⟩
 ·subst hn;exact absurd (List.eq_nil_of_length_eq_zero (by simpa using iF.1)) qA
 ·injection hv with e1 e2 e3
  subst e1
  refine⟨b,rfl,fun hb=>?_,fun j u hu=>iF.cells (g:=b) rfl j u hu⟩
  obtain⟨x,hx,Ae⟩:=List.mem_flatMap.1 hb
  have hp:(Lc++Lr).Pairwise fun x y=>∀ b∈x.fp,b∉y.fp:=
   (List.Perm.pairwise_iff (fun {x y} hxy b hb hc=>hxy b hc hb) hs.perm).1 h.sep
  exact(List.pairwise_append.1 hp).2.2 x hx _ hm.mem b Ae (by simp[row,Value.ownBlock])
inductive Eos (env:List (Nat×Value)):List Operand->List Value->Prop
 | nil:Eos env [] []
 | cons {x:Operand} {v:Value} {l:List Operand} {vs:List Value} (h:eo env x=some v) (t:Eos env l vs):Eos env (x::l) (v::vs)
theorem Eos.map{a:Act}{w:World}{l:List Operand}{vs:List Value}(he:Eos env l vs)(h:SS n F Ny env L a w):l.map a.eval=vs:=by
 induction he with
 | nil=>rfl
 | cons hx _ ih=>rw[List.map_cons,h.eval hx,ih]
theorem zb{l:List Operand}{Bz:Array TypeId}(zC:∀ args w,(callFunc f args).run P w = .ok (.enter f args) w)(he:Eos env l vs):
  ∀ a w,SS n F Ny env L a w->(execOp a.eval ⟨d,.call ⟨.value (.func f),l.toArray,Bz⟩,ty,pos,after,g⟩).run P w = .ok (.enter f vs.toArray) w:=by
 intro a w h
 have:=he.map h
 simp[execOp,resolve,Act.eval,Deferred.ofValue,invoke,zC,this]
theorem qk{c:Operand}{l:List Operand}{caps:List Value}{Bz:Array TypeId}(zC:∀ args w,(callFunc f args).run P w = .ok (.enter f args) w)[hc:Nv (eo env c) (some (.func (.func f) #[] caps.toArray))](he:Eos env l vs):
  ∀ a w,SS n F Ny env L a w->(execOp a.eval ⟨d,.call ⟨.value c,l.toArray,Bz⟩,ty,pos,after,g⟩).run P w = .ok (.enter f (vs++caps).toArray) w:=by
 intro a w h
 have:=he.map h
 simp[execOp,resolve,h.eval hc.1,Deferred.ofValue,invoke,zC,this]
theorem WL.b{o:Oper}{vs:Array Value}{M:List Asrt}(hg:gd env eA o=some true)(hd:o.dst=some dd)(ll:Nat.blt dd n=true)(jA:∀ a w,SS n F Ny env L a w->(execOp a.eval o).run P w = .ok (.enter f vs) w)(hs:Sel L Lc Lr)(hc:∀ w,Hp F Ny w L->Calls P f vs w fun e w'=>e = .returned v/\Hp (fps Lc) w w' M)(k:WL P n F Ny eA Q ir ((dd,v)::env) (M++Lr)):WL P n F Ny eA Q (o::ir) env L:=
 N9 (G:=Unit) (φ:=fun _=>True) (val:=fun _=>v) (M:=fun _=>M) hg hd ll jA hs (fun w h=>(hc w h).mono fun _ _ ⟨h1,h2⟩=>⟨(),h1,trivial,h2⟩) (fun _ _=>k)
def cG:List Value->Value
 | [v]=>v
 | vs => .tuple vs.toArray
theorem Gl{fn:Func}{tmps:Array Value}{rs:List ResultVar}(hr:fn.results=rs.toArray)(h:∀(i:Nat) (r:ResultVar) (v:Value),rs[i]?=some r->vs[i]?=some v->(match r with | .tmp t=>tmps.getD t undef=v | .cell a t=>((do loadVar t (<- asAddr (tmps.getD a undef)):Sem Value)).run P w = .ok v w))(hl:rs.length=vs.length):
  (results fn tmps).run P w = .ok (cG vs) w:=by
 have hm:∀(rs:List ResultVar) (vs:List Value),rs.length=vs.length->(∀(i:Nat) (r:ResultVar) (v:Value),rs[i]?=some r->vs[i]?=some v->(match r with | .tmp t=>tmps.getD t undef=v | .cell a t=>((do loadVar t (<- asAddr (tmps.getD a undef)):Sem Value)).run P w = .ok v w))->
   (rs.mapM fun(r:ResultVar)=>match r with | .tmp t=>(pure (tmps.getD t undef):Sem Value) | .cell a t=>do loadVar t (<- asAddr (tmps.getD a undef))).run P w = .ok vs w:=by
  intro rs
  induction rs with
  | nil=>intro vs hl _;cases vs with | nil=>simp | cons=>simp at hl
  | cons r rs ih=>
   intro vs hl h
   cases vs with
   | nil=>simp at hl
   | cons v vs=>
    have h0:=h 0 r v rfl rfl
    have h1:=ih vs (by simpa using hl) (fun i r v hr hv=>h (i+1) r v (by simpa using hr) (by simpa using hv))
    rw[List.mapM_cons]
    cases r with
    | tmp t=>
     simp only at h0
     simp only[Sem.run_bind,Sem.run_pure,Result.andThen_ok]
     rw[h1,h0]
     rfl
    | cell a t=>
     simp only at h0
     rw[Sem.run_bind,h0,Result.andThen_ok,Sem.run_bind,h1,Result.andThen_ok,Sem.run_pure]
 have:=hm rs vs hl h
 unfold results
 rw[hr]
 rw[List.mapM_toArray,map_eq_pure_bind]
 simp only[Sem.run_bind]
 erw [this]
 simp only[Result.andThen_ok,Sem.run_pure]
 cases vs with
 | nil=>rfl
 | cons v vs=>cases vs with
  | nil=>rfl
  | cons u us=>simp[cG]
inductive ResV (P:Program) (F:List Nat) (Ny:World) (env:List (Nat×Value)) (L:List Asrt):List ResultVar->List Value->Prop
 | nil:ResV P F Ny env L [] []
 | tmp {t:Nat} {v:Value} {rs:List ResultVar} {vs:List Value} (h:lk env t=some v) (r:ResV P F Ny env L rs vs):ResV P F Ny env L (.tmp t::rs) (v::vs)
 | one {t ty:Nat} {A:Addr} {v:Value} {rs:List ResultVar} {vs:List Value} (h:lk env t=some (.pointer (some A))) (hT:gQ P ty) (hR:∀ w,Hp F Ny w L->w.cell? A=some v)
   (r:ResV P F Ny env L rs vs):ResV P F Ny env L (.cell t ty::rs) (v::vs)
 | agg {t ty s:Nat} {A:Addr} {cs:List Value} {rs:List ResultVar} {vs:List Value} (h:lk env t=some (.pointer (some A))) (hT:uI P ty s) (hl:cs.length=s) (hR:∀ w,Hp F Ny w L->∀ j u,cs[j]?=some u->w.cell? (A.add j)=some u)
   (r:ResV P F Ny env L rs vs):ResV P F Ny env L (.cell t ty::rs) (.agg cs.toArray::vs)
theorem ResV.run{fn:Func}{rs:List ResultVar}{vs:List Value}(hr:fn.results=rs.toArray)(h:ResV P F Ny env L rs vs){a:Act}{w:World}(hs:SS n F Ny env L a w):
  (results fn a.tmps).run P w = .ok (cG vs) w:=by
 have:=Gl (P:=P) (tmps:=a.tmps) (w:=w) (vs:=vs) hr ?_ ?_
 ·exact this
 ·clear hr
  induction h with
  | nil=>intro i r v h;simp at h
  | tmp h _ ih=>
   intro i r v h1 h2
   cases i with
   | zero=>simp at h1 h2;subst h1 h2;exact hs.get h
   | succ i=>exact ih i r v (by simpa using h1) (by simpa using h2)
  | one h hT hR _ ih=>
   intro i r v h1 h2
   cases i with
   | zero=>
    simp at h1 h2;subst h1 h2
    have e1:=hs.get h
    have e2:=congrFun hT w
    simp only[e1]
    simp[asAddr,loadVar,e2,hR w hs.hp]
   | succ i=>exact ih i r v (by simpa using h1) (by simpa using h2)
  | agg h hT hl hR _ ih=>
   intro i r v h1 h2
   cases i with
   | zero=>
    simp at h1 h2;subst h1 h2
    have e1:=hs.get h
    have e2:=congrFun hT.1 w
    have e3:=congrFun hT.2 w
    have e4:=run_loadCells_list (P:=P) w _ _ (hR w hs.hp)
    rw[hl] at e4
    simp only[e1]
    simp[asAddr,loadVar,e2,e3,e4]
   | succ i=>exact ih i r v (by simpa using h1) (by simpa using h2)
 ·clear hr
  induction h with
  | nil=>rfl
  | tmp _ _ ih=>simpa using ih
  | one _ _ _ _ ih=>simpa using ih
  | agg _ _ _ _ _ ih=>simpa using ih
omit [Rnd] in
theorem Li{fn:Func}{rs:List ResultVar}{vs:List Value}{R:Ending->World->Prop}(hr:fn.results=rs.toArray)(hv:ResV P F Ny env L rs vs)(k:∀ w,Hp F Ny w L->R (.returned (cG vs)) w):
  @WX Rnd.base n F Ny (bodyPost P fn R) .ret env L:=fun _ w h=>⟨h.defers,_,hv.run hr h,k w h.hp⟩
omit [Rnd] in
theorem Nh{fn:Func}{rs:List ResultVar}{vs:List Value}{R:Ending->World->Prop}(hr:fn.results=rs.toArray)(hv:ResV P F Ny env L rs vs)(k:∀ w,Hp F Ny w L->R (.returned (cG vs)) w):
  @WX Rnd.base n F Ny (bodyPost P fn R) .normal env L:=fun _ w h=>⟨h.defers,_,hv.run hr h,k w h.hp⟩
theorem Ot{l:List Oper}{i:Nat}{b c:Bool}(hv:lk env i=some (.bool b))(hb:b=c)(k:WL P n F Ny eA Q l ((i,.bool c)::env) L):WL P n F Ny eA Q l env L:=by
 subst hb
 refine fun a w h=>k a w ⟨h.defers,h.size,fun j u hu=>?_,h.hp⟩
 simp only[lk] at hu
 by_cases hj:j=i
 ·subst hj;simp at hu;subst hu;exact h.ev _ _ hv
 ·rw[pl hj] at hu;exact h.ev j u hu
theorem L3{tl:Nat->Bool}{Ls:List Asrt}{fuel:Nat}{listed:Array Bool}{QD:Act->World->Prop}{i:Nat}{b c:Bool}(hv:lk env i=some (.bool b))(hb:b=c)(k:WD P n F Ny eA tl Ls QD fuel listed ((i,.bool c)::env) L):WD P n F Ny eA tl Ls QD fuel listed env L:=by
 subst hb
 refine fun a w h=>k a w ⟨h.defers,h.size,fun j u hu=>?_,h.hp⟩
 simp only[lk] at hu
 by_cases hj:j=i
 ·subst hj;simp at hu;subst hu;exact h.ev _ _ hv
 ·rw[pl hj] at hu;exact h.ev j u hu
end
end
section
variable {tl:Nat->Bool}{Ls:List Asrt}{fuel:Nat}{listed:Array Bool}{QD:Act->World->Prop}{o:Oper}
variable [Rnd]
def nth{α:Type}[Inhabited α](l:List α)(i:Int):α:=l.getD i.toNat default
theorem sk{α:Type}[Inhabited α]{l:List α}{i:Int}(_h0:0<=i)(h:i<l.length):l[i.toNat]'(by omega)=nth l i:=by
 unfold nth;rw[List.getD_eq_getElem?_getD,List.getElem?_eq_getElem (by omega)];rfl
theorem w64{m:Int}(h : -9223372036854775808<=m/\m<=9223372036854775807):IntKind.wrap .i64 m=m:=by
 rw[IntKind.wrap_i64];omega
theorem zx{c d:Bool}(h:c=d):some (Value.bool c)=some (Value.bool d):=by rw[h]
theorem w3{v u:Value}[h:Nv v u]:Ending.returned (cG [v]) = .returned u:=by rw[h.1];rfl
theorem qc{v v' u u':Value}[h:Nv v u][h':Nv v' u']:Ending.returned (cG [v,v']) = .returned (.tuple #[u,u']):=by rw[h.1,h'.1];rfl
theorem Mq{v v' v'' u u' u'':Value}(h:v=u)(h':v'=u')(h'':v''=u''):Ending.returned (cG [v,v',v'']) = .returned (.tuple #[u,u',u'']):=by rw[h,h',h''];rfl
theorem ms:Ending.returned (cG []) = .returned (.tuple #[]):=rfl
section
variable {P:Program} {n:Nat} {F:List Nat} {Ny:World} {env:List (Nat×Value)} {L Lc Lr R:List Asrt} {eA:Array Oper} {Q:Exit->Act->World->Prop} {ir:List Oper}
 {dd:Nat} {d:Option Tmp} {ty:TypeId} {pos:String} {after:Array Edge} {g:Option (Nat×Bool)} {x y:Operand} {v u:Value} {t e T:TypeId} {sz tj:Nat}
theorem O2{G:Type}(φ:G->Prop)(iP:G->List (Nat×Value))(LI:G->List Asrt)(k:Nat){l:List Oper}(k1:WL P n F Ny eA (Exit.then (fun a w=>∃ g,φ g/\SS n F Ny (iP g) (LI g) a w) Q) (l.take k) env L)(k2:∀ g,φ g->WL P n F Ny eA Q (l.drop k) (iP g) (LI g)):WL P n F Ny eA Q l env L:=by
 intro a w h
 have gen:∀(l1 l2:List Oper) (Q':Exit->Act->World->Prop) a w,(∀ a w,Q' .normal a w->wpListIn FN 0 P eA Q l2 a w)->(∀ e a w,e ≠ .normal->Q' e a w->Q e a w)->wpListIn FN 0 P eA Q' l1 a w->wpListIn FN 0 P eA Q (l1++l2) a w:=by
  intro l1
  induction l1 with
  | nil=>intro l2 Q' a w h1 _ h;exact h1 a w h
  | cons o l1 ih=>
   intro l2 Q' a w h1 h2 h
   rw[List.cons_append]
   unfold wpListIn at h ⊢
   split
   ·rename_i hw
    simp only[hw,if_true] at h
    refine⟨h.1,?_⟩
    have h:=h.2
    generalize (o.semAt FN.round a.eval).run P w=r at h ⊢
    cases r with
    | ok x w'=>
     cases x <;> simp only[Oper.uponIn] at h ⊢
     case enter f args=>
      refine⟨h.1,CallsIn.mono h.2 ?_⟩
      intro e rg he
      cases e with
      | returned v=>exact ih l2 Q' _ _ h1 h2 he
      | panicked c=>exact h2 _ _ _ (by simp) he
      | outgrown=>obtain⟨a',w',hq⟩:=he;exact⟨a',w',h2 _ _ _ (by simp) hq⟩
     case round l f tmps as_ bo=>
      refine⟨h.1,RoundIn.mono h.2 ?_⟩
      intro e rg he
      cases e with
      | returned v=>exact ih l2 Q' _ _ h1 h2 he
      | panicked c=>exact h2 _ _ _ (by simp) he
      | outgrown=>obtain⟨a',w',hq⟩:=he;exact⟨a',w',h2 _ _ _ (by simp) hq⟩
     case row r args=>exact⟨h.1,RowsIn.mono h.2 (fun _ _ he=>ih l2 Q' _ _ h1 h2 he)⟩
     all_goals exact ih l2 Q' _ _ h1 h2 h
    | halt x w'=>cases x <;> simp only[Oper.uponIn] at h ⊢ <;> exact h2 _ _ _ (by simp) h
   ·rename_i hw
    simp only[hw] at h
    exact⟨h.1,ih l2 Q' _ _ h1 h2 h.2⟩
 have:=gen (l.take k) (l.drop k) _ a w (fun a w ⟨g,tN,hs⟩=>k2 g tN a w hs) (fun e a w he hq=>by cases e <;> first | exact absurd rfl he | exact hq) (k1 a w h)
 rwa [List.take_append_drop] at this
theorem O4{G:Type}{φ:G->Prop}{iP:G->List (Nat×Value)}{LI:G->List Asrt}{M:List Asrt}(g:G)(tN:φ g)(hr:Restr env (iP g))(hL:Sel L (LI g) M):
  WL P n F Ny eA (Exit.then (fun a w=>∃ g,φ g/\SS n F Ny (iP g) (LI g) a w) Q) [] env L:=
 fun _ _ h=>⟨g,tN,(h.restr hr).drop hL⟩
def vE(n:Nat)(done:List Nat):Array Bool:=done.foldr (fun i a=>a.setIfInBounds i true) (Array.replicate n false)
theorem Nd{fuel':Nat}(env':List (Nat×Value))(ng:Array Bool)(k2:WD P n F Ny eA tl Ls QD fuel' ng env' L)(k1:WD P n F Ny eA tl Ls QD fuel' ng env' L->WD P n F Ny eA tl Ls QD fuel listed env L):WD P n F Ny eA tl Ls QD fuel listed env L:=k1 k2
theorem WL.new{G:Type}{φ:G->Prop}{val:G->Value}{L':G->List Asrt}(hg:gd env eA o=some true)(hd:o.dst=some dd)(ll:Nat.blt dd n=true)(hq:au P n F Ny env L o φ val L')(k:∀ g,φ g->WL P n F Ny eA Q ir ((dd,val g)::env) (L' g)):WL P n F Ny eA Q (o::ir) env L:=O1 hg hd ll hq.ef k
theorem WD.new{G:Type}{φ:G->Prop}{val:G->Value}{L':G->List Asrt}{i:Nat}(hi:eA[i]?=some o)[hg:Nv (gd env eA o) (some true)](hd:o.dst=some dd)[ll:Nv (Nat.blt dd n) true](hq:au P n F Ny env L o φ val L')(ni:tl i=true->∀ g,wJ (L' g) Ls)(k:∀ g,φ g->WD P n F Ny eA tl Ls QD fuel (listed.setIfInBounds i true) ((dd,val g)::env) (L' g))(hr:Region.ready .any eA listed=[i]:=by kernel_rfl):WD P n F Ny eA tl Ls QD (fuel+1) listed env L:=
 WD.forced hi hr hg.1 hd ll.1 (fun a w h=>let ⟨g,w',h1,h2,h3,h4⟩:=hq a w h;⟨g,w',h1,h2,h3,fun _=>h4⟩) ni k
theorem WD.old{G:Type}{φ:G->Prop}{val:G->Value}{L':G->List Asrt}{i:Nat}(hi:eA[i]?=some o)[hg:Nv (gd env eA o) (some true)](hd:o.dst=some dd)[ll:Nv (Nat.blt dd n) true][ht:Nv (tl i) true](ni:∀ g,wJ (L' g) Ls)(hq:Ef P n F Ny env L o φ val L')(k:∀ g,φ g->WD P n F Ny eA tl Ls QD fuel (listed.setIfInBounds i true) ((dd,val g)::env) (L' g))(hr:Region.ready .any eA listed=[i]:=by kernel_rfl):WD P n F Ny eA tl Ls QD (fuel+1) listed env L:=
 WD.forced hi hr hg.1 hd ll.1 (fun a w h=>let ⟨g,w',h1,h2,h3⟩:=hq a w h;⟨g,w',h1,h2,h3,fun hf=>by rw[ht.1] at hf;cases hf⟩) (fun _=>ni) k
theorem Lq{l:List Operand}{vs:List Value}(he:Eos env l vs)(is:List Nat):∀ a w,SS n F Ny env L a w->((is.zip l).toArray.map fun(i,x)=>(i,a.eval x))=(is.zip vs).toArray:=by
 intro a w h
 simp only[List.map_toArray]
 congr 1
 induction he generalizing is with
 | nil=>simp
 | cons hx _ ih=>
  cases is with
  | nil=>simp
  | cons i is=>simp only[List.zip_cons_cons,List.map_cons,h.eval hx,ih is]
theorem L5{l:List Operand}{vs:List Value}(he:Eos env l vs):∀ a w,SS n F Ny env L a w->l.toArray.map a.eval=vs.toArray:=by
 intro a w h
 rw[List.map_toArray,he.map h]
end
end
section
variable {A0 A1 A2 A3 A4 A5 A6:Type}{o:Oper}{f:FuncId}{vs:Array Value}{M Ls:List Asrt}{x y:Code}{tl:Nat->Bool}{fuel i:Nat}{listed:Array Bool}{QD:Act->World->Prop}
variable [Rnd]
theorem fc{b c:Bool}(h:b=true):true=(b||c):=by rw[h];rfl
theorem ff{b c:Bool}(h:b=false):c=(b||c):=by rw[h];rfl
theorem kQ{b c:Bool}(h:b=false):false=(b&&c):=by rw[h];rfl
theorem kR{b c:Bool}(h:b=true):c=(b&&c):=by rw[h];rfl
section
variable {P:Program} {n:Nat} {F:List Nat} {Ny:World} {env:List (Nat×Value)} {L Lc Lr R:List Asrt} {eA:Array Oper} {Q:Exit->Act->World->Prop} {ir:List Oper} {dd:Nat}
theorem Nf(φ:Prop)(iP:List (Nat×Value))(LI:List Asrt)(k1:WC P n F Ny (Exit.then (fun a w=>∃ _g:Unit,φ/\SS n F Ny iP LI a w) Q) x env L)(k2:φ->WC P n F Ny Q y iP LI):WC P n F Ny Q (.seq x y) env L:=
 Od (G:=Unit) (fun _=>φ) (fun _=>iP) (fun _=>LI) k1 (fun _ h=>k2  h)
theorem Nc{φ:Prop}{val:Value}[hg:Nv (gd env eA o) (some true)](hd:o.dst=some dd)[ll:Nv (Nat.blt dd n) true](jA:∀ a w,SS n F Ny env L a w->(execOp a.eval o).run P w = .ok (.enter f vs) w)(hs:Sel L Lc Lr)(hc:∀ w,Hp F Ny w L->Calls P f vs w fun e w'=>e = .returned val/\φ/\Hp (fps Lc) w w' M)(k:φ->WL P n F Ny eA Q ir ((dd,val)::env) (M++Lr)):WL P n F Ny eA Q (o::ir) env L:=
 N9 (G:=Unit) (φ:=fun _=>φ) (val:=fun _=>val) (M:=fun _=>M) hg.1 hd ll.1 jA hs
  (fun w h=>(hc w h).mono fun e w'=>by rintro⟨h1,h2,h3⟩;exact⟨(),h1,h2,h3⟩) (fun _ h=>k  h)
theorem WD.call0{φ:Prop}{val:Value}(hi:eA[i]?=some o)[hg:Nv (gd env eA o) (some true)](hd:o.dst=some dd)[ll:Nv (Nat.blt dd n) true](ht:(tl i=true/\(wJ (M++Lr) Ls))\/Lc=[])(jA:∀ a w,SS n F Ny env L a w->(execOp a.eval o).run P w = .ok (.enter f vs) w)(hs:Sel L Lc Lr)(hc:∀ w,Hp F Ny w L->Calls P f vs w fun e w'=>e = .returned val/\φ/\Hp (fps Lc) w w' M)(k:φ->WD P n F Ny eA tl Ls QD fuel (listed.setIfInBounds i true) ((dd,val)::env) (M++Lr))(hr:Region.ready .any eA listed=[i]:=by kernel_rfl):WD P n F Ny eA tl Ls QD (fuel+1) listed env L:=
 WD.forcedCall (G:=Unit) (φ:=fun _=>φ) (val:=fun _=>val) (M:=fun _=>M) hi hr hg.1 hd ll.1 (ht.imp (fun h=>⟨h.1,fun _=>h.2⟩) id) jA hs
  (fun w h=>(hc w h).mono fun e w'=>by rintro⟨h1,h2,h3⟩;exact⟨(),h1,h2,h3⟩) (fun _ h=>k  h)
theorem O3(φ:A0->Prop)(iP:A0->List (Nat×Value))(LI:A0->List Asrt)(j:Nat){l:List Oper}(k1:WL P n F Ny eA (Exit.then (fun a w=>∃ g:A0,(φ g)/\SS n F Ny (iP g) (LI g) a w) Q) (l.take j) env L)(k2:∀ x0,(φ x0)->WL P n F Ny eA Q (l.drop j) (iP x0) (LI x0)):WL P n F Ny eA Q l env L:=
 O2 (G:=A0) (fun g=>(φ g)) (fun g=>(iP g)) (fun g=>(LI g)) j k1 (fun g h=>k2 g h)
theorem L6(φ:A0->Prop)(iP:A0->List (Nat×Value))(LI:A0->List Asrt)(k1:WC P n F Ny (Exit.then (fun a w=>∃ g:A0,(φ g)/\SS n F Ny (iP g) (LI g) a w) Q) x env L)(k2:∀ x0,(φ x0)->WC P n F Ny Q y (iP x0) (LI x0)):WC P n F Ny Q (.seq x y) env L:=
 Od (G:=A0) (fun g=>(φ g)) (fun g=>(iP g)) (fun g=>(LI g)) k1 (fun g h=>k2 g h)
theorem Pg{φ:A0->Prop}{val:A0->Value}{M:A0->List Asrt}(hg:gd env eA o=some true)(hd:o.dst=some dd)(ll:Nat.blt dd n=true)(jA:∀ a w,SS n F Ny env L a w->(execOp a.eval o).run P w = .ok (.enter f vs) w)(hs:Sel L Lc Lr)(hc:∀ w,Hp F Ny w L->Calls P f vs w fun e w'=>∃ x0,e = .returned (val x0)/\(φ x0)/\Hp (fps Lc) w w' (M x0))(k:∀ x0,(φ x0)->WL P n F Ny eA Q ir ((dd,val x0)::env) ((M x0)++Lr)):WL P n F Ny eA Q (o::ir) env L:=
 N9 (G:=A0) (φ:=fun g=>(φ g)) (val:=fun g=>(val g)) (M:=fun g=>(M g)) hg hd ll jA hs
  (fun w h=>(hc w h).mono fun e w'=>by rintro⟨x0,h1,h2,h3⟩;exact⟨x0,h1,h2,h3⟩) (fun g h=>k g h)
theorem WD.call1{φ:A0->Prop}{val:A0->Value}{M:A0->List Asrt}(hi:eA[i]?=some o)(hr:Region.ready .any eA listed=[i])(hg:gd env eA o=some true)(hd:o.dst=some dd)(ll:Nat.blt dd n=true)(ht:(tl i=true/\(∀ x0,wJ ((M x0)++Lr) Ls))\/Lc=[])(jA:∀ a w,SS n F Ny env L a w->(execOp a.eval o).run P w = .ok (.enter f vs) w)(hs:Sel L Lc Lr)(hc:∀ w,Hp F Ny w L->Calls P f vs w fun e w'=>∃ x0,e = .returned (val x0)/\(φ x0)/\Hp (fps Lc) w w' (M x0))(k:∀ x0,(φ x0)->WD P n F Ny eA tl Ls QD fuel (listed.setIfInBounds i true) ((dd,val x0)::env) ((M x0)++Lr)):WD P n F Ny eA tl Ls QD (fuel+1) listed env L:=
 WD.forcedCall (G:=A0) (φ:=fun g=>(φ g)) (val:=fun g=>(val g)) (M:=fun g=>(M g)) hi hr hg hd ll (ht.imp (fun h=>⟨h.1,fun g=>h.2 g⟩) id) jA hs
  (fun w h=>(hc w h).mono fun e w'=>by rintro⟨x0,h1,h2,h3⟩;exact⟨x0,h1,h2,h3⟩) (fun g h=>k g h)
theorem H6(φ:A0->A1->Prop)(iP:A0->A1->List (Nat×Value))(LI:A0->A1->List Asrt)(k1:WC P n F Ny (Exit.then (fun a w=>∃ g:A0×A1,(φ g.1 g.2)/\SS n F Ny (iP g.1 g.2) (LI g.1 g.2) a w) Q) x env L)(k2:∀ x0 x1,(φ x0 x1)->WC P n F Ny Q y (iP x0 x1) (LI x0 x1)):WC P n F Ny Q (.seq x y) env L:=
 Od (G:=A0×A1) (fun g=>(φ g.1 g.2)) (fun g=>(iP g.1 g.2)) (fun g=>(LI g.1 g.2)) k1 (fun g h=>k2 g.1 g.2 h)
theorem Ng(φ:A0->A1->Prop)(iP:A0->A1->List (Nat×Value))(LI:A0->A1->List Asrt)(μ:A0->A1->Nat){c:Code}(nf:A0×A1)(h0:((fun g=>(φ g.1 g.2)):A0×A1->Prop) nf)(hr:Restr env (((fun g=>(iP g.1 g.2)):A0×A1->_) nf))(hL:Sel L (((fun g=>(LI g.1 g.2)):A0×A1->_) nf) M)(round:∀ x0 x1,(φ x0 x1)->WC P n F Ny (Exit.then (fun a w=>∃ g':A0×A1,(((fun g=>(φ g.1 g.2)):A0×A1->Prop) g'/\((fun g=>(μ g.1 g.2)):A0×A1->Nat) g'<(μ x0 x1))/\SS n F Ny (((fun g=>(iP g.1 g.2)):A0×A1->_) g') (((fun g=>(LI g.1 g.2)):A0×A1->_) g') a w) Q) c (iP x0 x1) (LI x0 x1)):
  WC P n F Ny Q (.loop c) env L:=
 H9 (G:=A0×A1) (fun g=>(φ g.1 g.2)) (fun g=>(iP g.1 g.2)) (fun g=>(LI g.1 g.2)) (fun g=>(μ g.1 g.2)) nf h0 hr hL (fun g h=>round g.1 g.2 h)
theorem H4{φ:A0->A1->Prop}{val:A0->A1->Value}{M:A0->A1->List Asrt}[hg:Nv (gd env eA o) (some true)](hd:o.dst=some dd)[ll:Nv (Nat.blt dd n) true](jA:∀ a w,SS n F Ny env L a w->(execOp a.eval o).run P w = .ok (.enter f vs) w)(hs:Sel L Lc Lr)(hc:∀ w,Hp F Ny w L->Calls P f vs w fun e w'=>∃ x0 x1,e = .returned (val x0 x1)/\(φ x0 x1)/\Hp (fps Lc) w w' (M x0 x1))(k:∀ x0 x1,(φ x0 x1)->WL P n F Ny eA Q ir ((dd,val x0 x1)::env) ((M x0 x1)++Lr)):WL P n F Ny eA Q (o::ir) env L:=
 N9 (G:=A0×A1) (φ:=fun g=>(φ g.1 g.2)) (val:=fun g=>(val g.1 g.2)) (M:=fun g=>(M g.1 g.2)) hg.1 hd ll.1 jA hs
  (fun w h=>(hc w h).mono fun e w'=>by rintro⟨x0,x1,h1,h2,h3⟩;exact⟨⟨x0,x1⟩,h1,h2,h3⟩) (fun g h=>k g.1 g.2 h)
theorem WD.call2{φ:A0->A1->Prop}{val:A0->A1->Value}{M:A0->A1->List Asrt}(hi:eA[i]?=some o)(hg:gd env eA o=some true)(hd:o.dst=some dd)(ll:Nat.blt dd n=true)(ht:(tl i=true/\(∀ x0 x1,wJ ((M x0 x1)++Lr) Ls))\/Lc=[])(jA:∀ a w,SS n F Ny env L a w->(execOp a.eval o).run P w = .ok (.enter f vs) w)(hs:Sel L Lc Lr)(hc:∀ w,Hp F Ny w L->Calls P f vs w fun e w'=>∃ x0 x1,e = .returned (val x0 x1)/\(φ x0 x1)/\Hp (fps Lc) w w' (M x0 x1))(k:∀ x0 x1,(φ x0 x1)->WD P n F Ny eA tl Ls QD fuel (listed.setIfInBounds i true) ((dd,val x0 x1)::env) ((M x0 x1)++Lr))(hr:Region.ready .any eA listed=[i]:=by kernel_rfl):WD P n F Ny eA tl Ls QD (fuel+1) listed env L:=
 WD.forcedCall (G:=A0×A1) (φ:=fun g=>(φ g.1 g.2)) (val:=fun g=>(val g.1 g.2)) (M:=fun g=>(M g.1 g.2)) hi hr hg hd ll (ht.imp (fun h=>⟨h.1,fun g=>h.2 g.1 g.2⟩) id) jA hs
  (fun w h=>(hc w h).mono fun e w'=>by rintro⟨x0,x1,h1,h2,h3⟩;exact⟨⟨x0,x1⟩,h1,h2,h3⟩) (fun g h=>k g.1 g.2 h)
theorem Ni(φ:A0->A1->A2->Prop)(iP:A0->A1->A2->List (Nat×Value))(LI:A0->A1->A2->List Asrt)(k1:WC P n F Ny (Exit.then (fun a w=>∃ g:A0×A1×A2,(cu3 φ g)/\SS n F Ny (cu3 iP g) (cu3 LI g) a w) Q) x env L)(k2:∀ x0 x1 x2,(φ x0 x1 x2)->WC P n F Ny Q y (iP x0 x1 x2) (LI x0 x1 x2)):WC P n F Ny Q (.seq x y) env L:=
 Od (G:=A0×A1×A2) (fun g=>(cu3 φ g)) (fun g=>(cu3 iP g)) (fun g=>(cu3 LI g)) k1 (fun g h=>k2 g.1 g.2.1 g.2.2 h)
theorem H0(φ:A0->A1->A2->Prop)(iP:A0->A1->A2->List (Nat×Value))(LI:A0->A1->A2->List Asrt)(μ:A0->A1->A2->Nat){c:Code}(nf:A0×A1×A2)(h0:((fun g=>(cu3 φ g)):A0×A1×A2->Prop) nf)(hr:Restr env (((fun g=>(cu3 iP g)):A0×A1×A2->_) nf))(hL:Sel L (((fun g=>(cu3 LI g)):A0×A1×A2->_) nf) M)(round:∀ x0 x1 x2,(φ x0 x1 x2)->WC P n F Ny (Exit.then (fun a w=>∃ g':A0×A1×A2,(((fun g=>(cu3 φ g)):A0×A1×A2->Prop) g'/\((fun g=>(cu3 μ g)):A0×A1×A2->Nat) g'<(μ x0 x1 x2))/\SS n F Ny (((fun g=>(cu3 iP g)):A0×A1×A2->_) g') (((fun g=>(cu3 LI g)):A0×A1×A2->_) g') a w) Q) c (iP x0 x1 x2) (LI x0 x1 x2)):
  WC P n F Ny Q (.loop c) env L:=
 H9 (G:=A0×A1×A2) (fun g=>(cu3 φ g)) (fun g=>(cu3 iP g)) (fun g=>(cu3 LI g)) (fun g=>(cu3 μ g)) nf h0 hr hL (fun g h=>round g.1 g.2.1 g.2.2 h)
theorem P1{φ:A0->A1->A2->Prop}{val:A0->A1->A2->Value}{M:A0->A1->A2->List Asrt}(hg:gd env eA o=some true)(hd:o.dst=some dd)(ll:Nat.blt dd n=true)(jA:∀ a w,SS n F Ny env L a w->(execOp a.eval o).run P w = .ok (.enter f vs) w)(hs:Sel L Lc Lr)(hc:∀ w,Hp F Ny w L->Calls P f vs w fun e w'=>∃ x0 x1 x2,e = .returned (val x0 x1 x2)/\(φ x0 x1 x2)/\Hp (fps Lc) w w' (M x0 x1 x2))(k:∀ x0 x1 x2,(φ x0 x1 x2)->WL P n F Ny eA Q ir ((dd,val x0 x1 x2)::env) ((M x0 x1 x2)++Lr)):WL P n F Ny eA Q (o::ir) env L:=
 N9 (G:=A0×A1×A2) (φ:=fun g=>(cu3 φ g)) (val:=fun g=>(cu3 val g)) (M:=fun g=>(cu3 M g)) hg hd ll jA hs
  (fun w h=>(hc w h).mono fun e w'=>by rintro⟨x0,x1,x2,h1,h2,h3⟩;exact⟨⟨x0,x1,x2⟩,h1,h2,h3⟩) (fun g h=>k g.1 g.2.1 g.2.2 h)
theorem WD.call3{φ:A0->A1->A2->Prop}{val:A0->A1->A2->Value}{M:A0->A1->A2->List Asrt}(hi:eA[i]?=some o)(hr:Region.ready .any eA listed=[i])(hg:gd env eA o=some true)(hd:o.dst=some dd)(ll:Nat.blt dd n=true)(ht:(tl i=true/\(∀ x0 x1 x2,wJ ((M x0 x1 x2)++Lr) Ls))\/Lc=[])(jA:∀ a w,SS n F Ny env L a w->(execOp a.eval o).run P w = .ok (.enter f vs) w)(hs:Sel L Lc Lr)(hc:∀ w,Hp F Ny w L->Calls P f vs w fun e w'=>∃ x0 x1 x2,e = .returned (val x0 x1 x2)/\(φ x0 x1 x2)/\Hp (fps Lc) w w' (M x0 x1 x2))(k:∀ x0 x1 x2,(φ x0 x1 x2)->WD P n F Ny eA tl Ls QD fuel (listed.setIfInBounds i true) ((dd,val x0 x1 x2)::env) ((M x0 x1 x2)++Lr)):WD P n F Ny eA tl Ls QD (fuel+1) listed env L:=
 WD.forcedCall (G:=A0×A1×A2) (φ:=fun g=>(cu3 φ g)) (val:=fun g=>(cu3 val g)) (M:=fun g=>(cu3 M g)) hi hr hg hd ll (ht.imp (fun h=>⟨h.1,fun g=>h.2 g.1 g.2.1 g.2.2⟩) id) jA hs
  (fun w h=>(hc w h).mono fun e w'=>by rintro⟨x0,x1,x2,h1,h2,h3⟩;exact⟨⟨x0,x1,x2⟩,h1,h2,h3⟩) (fun g h=>k g.1 g.2.1 g.2.2 h)
theorem O9(φ:A0->A1->A2->A3->Prop)(iP:A0->A1->A2->A3->List (Nat×Value))(LI:A0->A1->A2->A3->List Asrt)(k1:WC P n F Ny (Exit.then (fun a w=>∃ g:A0×A1×A2×A3,(cu4 φ g)/\SS n F Ny (cu4 iP g) (cu4 LI g) a w) Q) x env L)(k2:∀ x0 x1 x2 x3,(φ x0 x1 x2 x3)->WC P n F Ny Q y (iP x0 x1 x2 x3) (LI x0 x1 x2 x3)):WC P n F Ny Q (.seq x y) env L:=
 Od (G:=A0×A1×A2×A3) (fun g=>(cu4 φ g)) (fun g=>(cu4 iP g)) (fun g=>(cu4 LI g)) k1 (fun g h=>k2 g.1 g.2.1 g.2.2.1 g.2.2.2 h)
theorem Cv(φ:A0->A1->A2->A3->Prop)(iP:A0->A1->A2->A3->List (Nat×Value))(LI:A0->A1->A2->A3->List Asrt)(μ:A0->A1->A2->A3->Nat){c:Code}(nf:A0×A1×A2×A3)(h0:((fun g=>(cu4 φ g)):A0×A1×A2×A3->Prop) nf)(hr:Restr env (((fun g=>(cu4 iP g)):A0×A1×A2×A3->_) nf))(hL:Sel L (((fun g=>(cu4 LI g)):A0×A1×A2×A3->_) nf) M)(round:∀ x0 x1 x2 x3,(φ x0 x1 x2 x3)->WC P n F Ny (Exit.then (fun a w=>∃ g':A0×A1×A2×A3,(((fun g=>(cu4 φ g)):A0×A1×A2×A3->Prop) g'/\((fun g=>(cu4 μ g)):A0×A1×A2×A3->Nat) g'<(μ x0 x1 x2 x3))/\SS n F Ny (((fun g=>(cu4 iP g)):A0×A1×A2×A3->_) g') (((fun g=>(cu4 LI g)):A0×A1×A2×A3->_) g') a w) Q) c (iP x0 x1 x2 x3) (LI x0 x1 x2 x3)):
  WC P n F Ny Q (.loop c) env L:=
 H9 (G:=A0×A1×A2×A3) (fun g=>(cu4 φ g)) (fun g=>(cu4 iP g)) (fun g=>(cu4 LI g)) (fun g=>(cu4 μ g)) nf h0 hr hL (fun g h=>round g.1 g.2.1 g.2.2.1 g.2.2.2 h)
theorem Ol{φ:A0->A1->A2->A3->Prop}{val:A0->A1->A2->A3->Value}{M:A0->A1->A2->A3->List Asrt}[hg:Nv (gd env eA o) (some true)](hd:o.dst=some dd)[ll:Nv (Nat.blt dd n) true](jA:∀ a w,SS n F Ny env L a w->(execOp a.eval o).run P w = .ok (.enter f vs) w)(hs:Sel L Lc Lr)(hc:∀ w,Hp F Ny w L->Calls P f vs w fun e w'=>∃ x0 x1 x2 x3,e = .returned (val x0 x1 x2 x3)/\(φ x0 x1 x2 x3)/\Hp (fps Lc) w w' (M x0 x1 x2 x3))(k:∀ x0 x1 x2 x3,(φ x0 x1 x2 x3)->WL P n F Ny eA Q ir ((dd,val x0 x1 x2 x3)::env) ((M x0 x1 x2 x3)++Lr)):WL P n F Ny eA Q (o::ir) env L:=
 N9 (G:=A0×A1×A2×A3) (φ:=fun g=>(cu4 φ g)) (val:=fun g=>(cu4 val g)) (M:=fun g=>(cu4 M g)) hg.1 hd ll.1 jA hs
  (fun w h=>(hc w h).mono fun e w'=>by rintro⟨x0,x1,x2,x3,h1,h2,h3⟩;exact⟨⟨x0,x1,x2,x3⟩,h1,h2,h3⟩) (fun g h=>k g.1 g.2.1 g.2.2.1 g.2.2.2 h)
theorem O8(φ:A0->A1->A2->A3->A4->Prop)(iP:A0->A1->A2->A3->A4->List (Nat×Value))(LI:A0->A1->A2->A3->A4->List Asrt)(k1:WC P n F Ny (Exit.then (fun a w=>∃ g:A0×A1×A2×A3×A4,(cu5 φ g)/\SS n F Ny (cu5 iP g) (cu5 LI g) a w) Q) x env L)(k2:∀ x0 x1 x2 x3 x4,(φ x0 x1 x2 x3 x4)->WC P n F Ny Q y (iP x0 x1 x2 x3 x4) (LI x0 x1 x2 x3 x4)):WC P n F Ny Q (.seq x y) env L:=
 Od (G:=A0×A1×A2×A3×A4) (fun g=>(cu5 φ g)) (fun g=>(cu5 iP g)) (fun g=>(cu5 LI g)) k1 (fun g h=>k2 g.1 g.2.1 g.2.2.1 g.2.2.2.1 g.2.2.2.2 h)
theorem Oe(φ:A0->A1->A2->A3->A4->Prop)(iP:A0->A1->A2->A3->A4->List (Nat×Value))(LI:A0->A1->A2->A3->A4->List Asrt)(μ:A0->A1->A2->A3->A4->Nat){c:Code}(nf:A0×A1×A2×A3×A4)(h0:((fun g=>(cu5 φ g)):A0×A1×A2×A3×A4->Prop) nf)(hr:Restr env (((fun g=>(cu5 iP g)):A0×A1×A2×A3×A4->_) nf))(hL:Sel L (((fun g=>(cu5 LI g)):A0×A1×A2×A3×A4->_) nf) M)(round:∀ x0 x1 x2 x3 x4,(φ x0 x1 x2 x3 x4)->WC P n F Ny (Exit.then (fun a w=>∃ g':A0×A1×A2×A3×A4,(((fun g=>(cu5 φ g)):A0×A1×A2×A3×A4->Prop) g'/\((fun g=>(cu5 μ g)):A0×A1×A2×A3×A4->Nat) g'<(μ x0 x1 x2 x3 x4))/\SS n F Ny (((fun g=>(cu5 iP g)):A0×A1×A2×A3×A4->_) g') (((fun g=>(cu5 LI g)):A0×A1×A2×A3×A4->_) g') a w) Q) c (iP x0 x1 x2 x3 x4) (LI x0 x1 x2 x3 x4)):
  WC P n F Ny Q (.loop c) env L:=
 H9 (G:=A0×A1×A2×A3×A4) (fun g=>(cu5 φ g)) (fun g=>(cu5 iP g)) (fun g=>(cu5 LI g)) (fun g=>(cu5 μ g)) nf h0 hr hL (fun g h=>round g.1 g.2.1 g.2.2.1 g.2.2.2.1 g.2.2.2.2 h)
theorem Po(φ:A0->A1->A2->A3->A4->A5->Prop)(iP:A0->A1->A2->A3->A4->A5->List (Nat×Value))(LI:A0->A1->A2->A3->A4->A5->List Asrt)(k1:WC P n F Ny (Exit.then (fun a w=>∃ g:A0×A1×A2×A3×A4×A5,(cu6 φ g)/\SS n F Ny (cu6 iP g) (cu6 LI g) a w) Q) x env L)(k2:∀ x0 x1 x2 x3 x4 x5,(φ x0 x1 x2 x3 x4 x5)->WC P n F Ny Q y (iP x0 x1 x2 x3 x4 x5) (LI x0 x1 x2 x3 x4 x5)):WC P n F Ny Q (.seq x y) env L:=
 Od (G:=A0×A1×A2×A3×A4×A5) (fun g=>(cu6 φ g)) (fun g=>(cu6 iP g)) (fun g=>(cu6 LI g)) k1 (fun g h=>k2 g.1 g.2.1 g.2.2.1 g.2.2.2.1 g.2.2.2.2.1 g.2.2.2.2.2 h)
theorem O0(φ:A0->A1->A2->A3->A4->A5->Prop)(iP:A0->A1->A2->A3->A4->A5->List (Nat×Value))(LI:A0->A1->A2->A3->A4->A5->List Asrt)(μ:A0->A1->A2->A3->A4->A5->Nat){c:Code}(nf:A0×A1×A2×A3×A4×A5)(h0:((fun g=>(cu6 φ g)):A0×A1×A2×A3×A4×A5->Prop) nf)(hr:Restr env (((fun g=>(cu6 iP g)):A0×A1×A2×A3×A4×A5->_) nf))(hL:Sel L (((fun g=>(cu6 LI g)):A0×A1×A2×A3×A4×A5->_) nf) M)(round:∀ x0 x1 x2 x3 x4 x5,(φ x0 x1 x2 x3 x4 x5)->WC P n F Ny (Exit.then (fun a w=>∃ g':A0×A1×A2×A3×A4×A5,(((fun g=>(cu6 φ g)):A0×A1×A2×A3×A4×A5->Prop) g'/\((fun g=>(cu6 μ g)):A0×A1×A2×A3×A4×A5->Nat) g'<(μ x0 x1 x2 x3 x4 x5))/\SS n F Ny (((fun g=>(cu6 iP g)):A0×A1×A2×A3×A4×A5->_) g') (((fun g=>(cu6 LI g)):A0×A1×A2×A3×A4×A5->_) g') a w) Q) c (iP x0 x1 x2 x3 x4 x5) (LI x0 x1 x2 x3 x4 x5)):
  WC P n F Ny Q (.loop c) env L:=
 H9 (G:=A0×A1×A2×A3×A4×A5) (fun g=>(cu6 φ g)) (fun g=>(cu6 iP g)) (fun g=>(cu6 LI g)) (fun g=>(cu6 μ g)) nf h0 hr hL (fun g h=>round g.1 g.2.1 g.2.2.1 g.2.2.2.1 g.2.2.2.2.1 g.2.2.2.2.2 h)
theorem Rk{φ:A0->A1->A2->A3->A4->A5->Prop}{val:A0->A1->A2->A3->A4->A5->Value}{M:A0->A1->A2->A3->A4->A5->List Asrt}(hg:gd env eA o=some true)(hd:o.dst=some dd)(ll:Nat.blt dd n=true)(jA:∀ a w,SS n F Ny env L a w->(execOp a.eval o).run P w = .ok (.enter f vs) w)(hs:Sel L Lc Lr)(hc:∀ w,Hp F Ny w L->Calls P f vs w fun e w'=>∃ x0 x1 x2 x3 x4 x5,e = .returned (val x0 x1 x2 x3 x4 x5)/\(φ x0 x1 x2 x3 x4 x5)/\Hp (fps Lc) w w' (M x0 x1 x2 x3 x4 x5))(k:∀ x0 x1 x2 x3 x4 x5,(φ x0 x1 x2 x3 x4 x5)->WL P n F Ny eA Q ir ((dd,val x0 x1 x2 x3 x4 x5)::env) ((M x0 x1 x2 x3 x4 x5)++Lr)):WL P n F Ny eA Q (o::ir) env L:=
 N9 (G:=A0×A1×A2×A3×A4×A5) (φ:=fun g=>(cu6 φ g)) (val:=fun g=>(cu6 val g)) (M:=fun g=>(cu6 M g)) hg hd ll jA hs
  (fun w h=>(hc w h).mono fun e w'=>by rintro⟨x0,x1,x2,x3,x4,x5,h1,h2,h3⟩;exact⟨⟨x0,x1,x2,x3,x4,x5⟩,h1,h2,h3⟩) (fun g h=>k g.1 g.2.1 g.2.2.1 g.2.2.2.1 g.2.2.2.2.1 g.2.2.2.2.2 h)
theorem Pq(φ:A0->A1->A2->A3->A4->A5->A6->Prop)(iP:A0->A1->A2->A3->A4->A5->A6->List (Nat×Value))(LI:A0->A1->A2->A3->A4->A5->A6->List Asrt)(μ:A0->A1->A2->A3->A4->A5->A6->Nat){c:Code}(nf:A0×A1×A2×A3×A4×A5×A6)(h0:((fun g=>(cu7 φ g)):A0×A1×A2×A3×A4×A5×A6->Prop) nf)(hr:Restr env (((fun g=>(cu7 iP g)):A0×A1×A2×A3×A4×A5×A6->_) nf))(hL:Sel L (((fun g=>(cu7 LI g)):A0×A1×A2×A3×A4×A5×A6->_) nf) M)(round:∀ x0 x1 x2 x3 x4 x5 x6,(φ x0 x1 x2 x3 x4 x5 x6)->WC P n F Ny (Exit.then (fun a w=>∃ g':A0×A1×A2×A3×A4×A5×A6,(((fun g=>(cu7 φ g)):A0×A1×A2×A3×A4×A5×A6->Prop) g'/\((fun g=>(cu7 μ g)):A0×A1×A2×A3×A4×A5×A6->Nat) g'<(μ x0 x1 x2 x3 x4 x5 x6))/\SS n F Ny (((fun g=>(cu7 iP g)):A0×A1×A2×A3×A4×A5×A6->_) g') (((fun g=>(cu7 LI g)):A0×A1×A2×A3×A4×A5×A6->_) g') a w) Q) c (iP x0 x1 x2 x3 x4 x5 x6) (LI x0 x1 x2 x3 x4 x5 x6)):
  WC P n F Ny Q (.loop c) env L:=
 H9 (G:=A0×A1×A2×A3×A4×A5×A6) (fun g=>(cu7 φ g)) (fun g=>(cu7 iP g)) (fun g=>(cu7 LI g)) (fun g=>(cu7 μ g)) nf h0 hr hL (fun g h=>round g.1 g.2.1 g.2.2.1 g.2.2.2.1 g.2.2.2.2.1 g.2.2.2.2.2.1 g.2.2.2.2.2.2 h)
theorem Rj{φ:A0->A1->A2->A3->A4->A5->A6->Prop}{val:A0->A1->A2->A3->A4->A5->A6->Value}{M:A0->A1->A2->A3->A4->A5->A6->List Asrt}(hg:gd env eA o=some true)(hd:o.dst=some dd)(ll:Nat.blt dd n=true)(jA:∀ a w,SS n F Ny env L a w->(execOp a.eval o).run P w = .ok (.enter f vs) w)(hs:Sel L Lc Lr)(hc:∀ w,Hp F Ny w L->Calls P f vs w fun e w'=>∃ x0 x1 x2 x3 x4 x5 x6,e = .returned (val x0 x1 x2 x3 x4 x5 x6)/\(φ x0 x1 x2 x3 x4 x5 x6)/\Hp (fps Lc) w w' (M x0 x1 x2 x3 x4 x5 x6))(k:∀ x0 x1 x2 x3 x4 x5 x6,(φ x0 x1 x2 x3 x4 x5 x6)->WL P n F Ny eA Q ir ((dd,val x0 x1 x2 x3 x4 x5 x6)::env) ((M x0 x1 x2 x3 x4 x5 x6)++Lr)):WL P n F Ny eA Q (o::ir) env L:=
 N9 (G:=A0×A1×A2×A3×A4×A5×A6) (φ:=fun g=>(cu7 φ g)) (val:=fun g=>(cu7 val g)) (M:=fun g=>(cu7 M g)) hg hd ll jA hs
  (fun w h=>(hc w h).mono fun e w'=>by rintro⟨x0,x1,x2,x3,x4,x5,x6,h1,h2,h3⟩;exact⟨⟨x0,x1,x2,x3,x4,x5,x6⟩,h1,h2,h3⟩) (fun g h=>k g.1 g.2.1 g.2.2.1 g.2.2.2.1 g.2.2.2.2.1 g.2.2.2.2.2.1 g.2.2.2.2.2.2 h)
theorem Oz{A7:Type}(φ:A0->A1->A2->A3->A4->A5->A6->A7->Prop)(iP:A0->A1->A2->A3->A4->A5->A6->A7->List (Nat×Value))(LI:A0->A1->A2->A3->A4->A5->A6->A7->List Asrt)(μ:A0->A1->A2->A3->A4->A5->A6->A7->Nat){c:Code}(nf:A0×A1×A2×A3×A4×A5×A6×A7)(h0:((fun g=>(cu8 φ g)):A0×A1×A2×A3×A4×A5×A6×A7->Prop) nf)(hr:Restr env (((fun g=>(cu8 iP g)):A0×A1×A2×A3×A4×A5×A6×A7->_) nf))(hL:Sel L (((fun g=>(cu8 LI g)):A0×A1×A2×A3×A4×A5×A6×A7->_) nf) M)(round:∀ x0 x1 x2 x3 x4 x5 x6 x7,(φ x0 x1 x2 x3 x4 x5 x6 x7)->WC P n F Ny (Exit.then (fun a w=>∃ g':A0×A1×A2×A3×A4×A5×A6×A7,(((fun g=>(cu8 φ g)):A0×A1×A2×A3×A4×A5×A6×A7->Prop) g'/\((fun g=>(cu8 μ g)):A0×A1×A2×A3×A4×A5×A6×A7->Nat) g'<(μ x0 x1 x2 x3 x4 x5 x6 x7))/\SS n F Ny (((fun g=>(cu8 iP g)):A0×A1×A2×A3×A4×A5×A6×A7->_) g') (((fun g=>(cu8 LI g)):A0×A1×A2×A3×A4×A5×A6×A7->_) g') a w) Q) c (iP x0 x1 x2 x3 x4 x5 x6 x7) (LI x0 x1 x2 x3 x4 x5 x6 x7)):
  WC P n F Ny Q (.loop c) env L:=
 H9 (G:=A0×A1×A2×A3×A4×A5×A6×A7) (fun g=>(cu8 φ g)) (fun g=>(cu8 iP g)) (fun g=>(cu8 LI g)) (fun g=>(cu8 μ g)) nf h0 hr hL (fun g h=>round g.1 g.2.1 g.2.2.1 g.2.2.2.1 g.2.2.2.2.1 g.2.2.2.2.2.1 g.2.2.2.2.2.2.1 g.2.2.2.2.2.2.2 h)
theorem Pp{A7 A8 A9:Type}(φ:A0->A1->A2->A3->A4->A5->A6->A7->A8->A9->Prop)(iP:A0->A1->A2->A3->A4->A5->A6->A7->A8->A9->List (Nat×Value))(LI:A0->A1->A2->A3->A4->A5->A6->A7->A8->A9->List Asrt)(k1:WC P n F Ny (Exit.then (fun a w=>∃ g:A0×A1×A2×A3×A4×A5×A6×A7×A8×A9,(cu10 φ g)/\SS n F Ny (cu10 iP g) (cu10 LI g) a w) Q) x env L)(k2:∀ x0 x1 x2 x3 x4 x5 x6 x7 x8 x9,(φ x0 x1 x2 x3 x4 x5 x6 x7 x8 x9)->WC P n F Ny Q y (iP x0 x1 x2 x3 x4 x5 x6 x7 x8 x9) (LI x0 x1 x2 x3 x4 x5 x6 x7 x8 x9)):WC P n F Ny Q (.seq x y) env L:=
 Od (G:=A0×A1×A2×A3×A4×A5×A6×A7×A8×A9) (fun g=>(cu10 φ g)) (fun g=>(cu10 iP g)) (fun g=>(cu10 LI g)) k1 (fun g h=>k2 g.1 g.2.1 g.2.2.1 g.2.2.2.1 g.2.2.2.2.1 g.2.2.2.2.2.1 g.2.2.2.2.2.2.1 g.2.2.2.2.2.2.2.1 g.2.2.2.2.2.2.2.2.1 g.2.2.2.2.2.2.2.2.2 h)
end
end
section
variable [Rnd]
section
variable {P:Program} {n:Nat} {F:List Nat} {Ny:World} {env:List (Nat×Value)} {L Lc Lr R:List Asrt} {eA:Array Oper} {Q:Exit->Act->World->Prop} {ir:List Oper} {dd:Nat}
theorem Rr{A0 A1 A2 A3 A4 A5 A6 A7 A8 A9 n9:Type}(φ:A0->A1->A2->A3->A4->A5->A6->A7->A8->A9->n9->Prop)(iP:A0->A1->A2->A3->A4->A5->A6->A7->A8->A9->n9->List (Nat×Value))(LI:A0->A1->A2->A3->A4->A5->A6->A7->A8->A9->n9->List Asrt){x y:Code}(k1:WC P n F Ny (Exit.then (fun a w=>∃ g:A0×A1×A2×A3×A4×A5×A6×A7×A8×A9×n9,(cu11 φ g)/\SS n F Ny (cu11 iP g) (cu11 LI g) a w) Q) x env L)(k2:∀ x0 x1 x2 x3 x4 x5 x6 x7 x8 x9 zu,(φ x0 x1 x2 x3 x4 x5 x6 x7 x8 x9 zu)->WC P n F Ny Q y (iP x0 x1 x2 x3 x4 x5 x6 x7 x8 x9 zu) (LI x0 x1 x2 x3 x4 x5 x6 x7 x8 x9 zu)):WC P n F Ny Q (.seq x y) env L:=
 Od (G:=A0×A1×A2×A3×A4×A5×A6×A7×A8×A9×n9) (fun g=>(cu11 φ g)) (fun g=>(cu11 iP g)) (fun g=>(cu11 LI g)) k1 (fun g h=>k2 g.1 g.2.1 g.2.2.1 g.2.2.2.1 g.2.2.2.2.1 g.2.2.2.2.2.1 g.2.2.2.2.2.2.1 g.2.2.2.2.2.2.2.1 g.2.2.2.2.2.2.2.2.1 g.2.2.2.2.2.2.2.2.2.1 g.2.2.2.2.2.2.2.2.2.2 h)
theorem P6{A0 A1 A2 A3 A4 A5 A6 A7 A8 A9 n9 qp:Type}(φ:A0->A1->A2->A3->A4->A5->A6->A7->A8->A9->n9->qp->Prop)(iP:A0->A1->A2->A3->A4->A5->A6->A7->A8->A9->n9->qp->List (Nat×Value))(LI:A0->A1->A2->A3->A4->A5->A6->A7->A8->A9->n9->qp->List Asrt)(μ:A0->A1->A2->A3->A4->A5->A6->A7->A8->A9->n9->qp->Nat){c:Code}(nf:A0×A1×A2×A3×A4×A5×A6×A7×A8×A9×n9×qp)(h0:((fun g=>(cu12 φ g)):A0×A1×A2×A3×A4×A5×A6×A7×A8×A9×n9×qp->Prop) nf)(hr:Restr env (((fun g=>(cu12 iP g)):A0×A1×A2×A3×A4×A5×A6×A7×A8×A9×n9×qp->_) nf)){M:List Asrt}(hL:Sel L (((fun g=>(cu12 LI g)):A0×A1×A2×A3×A4×A5×A6×A7×A8×A9×n9×qp->_) nf) M)(round:∀ x0 x1 x2 x3 x4 x5 x6 x7 x8 x9 zu AZ,(φ x0 x1 x2 x3 x4 x5 x6 x7 x8 x9 zu AZ)->WC P n F Ny (Exit.then (fun a w=>∃ g':A0×A1×A2×A3×A4×A5×A6×A7×A8×A9×n9×qp,(((fun g=>(cu12 φ g)):A0×A1×A2×A3×A4×A5×A6×A7×A8×A9×n9×qp->Prop) g'/\((fun g=>(cu12 μ g)):A0×A1×A2×A3×A4×A5×A6×A7×A8×A9×n9×qp->Nat) g'<(μ x0 x1 x2 x3 x4 x5 x6 x7 x8 x9 zu AZ))/\SS n F Ny (((fun g=>(cu12 iP g)):A0×A1×A2×A3×A4×A5×A6×A7×A8×A9×n9×qp->_) g') (((fun g=>(cu12 LI g)):A0×A1×A2×A3×A4×A5×A6×A7×A8×A9×n9×qp->_) g') a w) Q) c (iP x0 x1 x2 x3 x4 x5 x6 x7 x8 x9 zu AZ) (LI x0 x1 x2 x3 x4 x5 x6 x7 x8 x9 zu AZ)):
  WC P n F Ny Q (.loop c) env L:=
 H9 (G:=A0×A1×A2×A3×A4×A5×A6×A7×A8×A9×n9×qp) (fun g=>(cu12 φ g)) (fun g=>(cu12 iP g)) (fun g=>(cu12 LI g)) (fun g=>(cu12 μ g)) nf h0 hr hL (fun g h=>round g.1 g.2.1 g.2.2.1 g.2.2.2.1 g.2.2.2.2.1 g.2.2.2.2.2.1 g.2.2.2.2.2.2.1 g.2.2.2.2.2.2.2.1 g.2.2.2.2.2.2.2.2.1 g.2.2.2.2.2.2.2.2.2.1 g.2.2.2.2.2.2.2.2.2.2.1 g.2.2.2.2.2.2.2.2.2.2.2 h)
end
end
section
variable {i fuel':Nat}{A0 A1 A2:Type}{QD:Act->World->Prop}{f:FuncId}{vs:Array Value}
variable [Rnd]
def vY(P:Program)(n:Nat)(F:List Nat)(Ny:World)(eA:Array Oper)(tl:Nat->Bool)(Ls:List Asrt)(Q:Act->World->Prop)(fuel:Nat)(listed:Array Bool)(env:List (Nat×Value))(L:List Asrt)(i:Nat):Prop:=
 ∀ a w,SS n F Ny env L a w->∀ w',Ext w w'->opN P eA i (fun a' rg=>((tl i=false->Ext w' rg)/\(Xf eA i=false->Hp F Ny w' Ls->Hp F Ny rg Ls))/\uA P eA tl (fun w=>Hp F Ny w Ls) Q fuel (listed.setIfInBounds i true) a' rg) a w'
section
variable {P:Program} {n:Nat} {F:List Nat} {Ny:World} {eA:Array Oper} {tl:Nat->Bool} {Ls:List Asrt} {fuel:Nat} {listed:Array Bool}
 {env:List (Nat×Value)} {L Lc Lr R:List Asrt} {o:Oper} {Q:Act->World->Prop} {dd:Nat}
theorem vY.nil:∀ i∈([]:List Nat),vY P n F Ny eA tl Ls Q fuel listed env L i:=fun _ h=>(by cases h)
theorem vY.cons{j:Nat}{is:List Nat}(h:vY P n F Ny eA tl Ls Q fuel listed env L j)(hs:∀ i∈is,vY P n F Ny eA tl Ls Q fuel listed env L i):∀ i∈j::is,vY P n F Ny eA tl Ls Q fuel listed env L i:=by
 intro i hi
 rcases List.mem_cons.1 hi with rfl | hi
 ·exact h
 ·exact hs i hi
theorem WD.choose(is:List Nat)(qA:is.isEmpty=false)(k:∀ i∈is,vY P n F Ny eA tl Ls Q fuel listed env L i)(hr:Region.ready .any eA listed=is:=by kernel_rfl):WD P n F Ny eA tl Ls Q (fuel+1) listed env L:=by
 intro a w h w' e
 rw[hr]
 refine⟨fun h0=>(by rw[h0] at qA;cases qA),fun j hj=>k j hj a w h w' e⟩
theorem vY.forced{G:Type}{φ:G->Prop}{val:G->Value}{L':G->List Asrt}{d:Nat}(hi:eA[i]?=some o)(hg:gd env eA o=some true)(hd:o.dst=some d)(ll:Nat.blt d n=true)(hq:∀ a w,SS n F Ny env L a w->∃ g w',(execOp a.eval o).run P w = .ok (.value (val g)) w'/\φ g/\Hp F Ny w' (L' g)/\(tl i=false->Ext w w'))(ni:tl i=true->∀ g,wJ (L' g) Ls)(k:∀ g,φ g->WD P n F Ny eA tl Ls Q fuel (listed.setIfInBounds i true) ((d,val g)::env) (L' g)):vY P n F Ny eA tl Ls Q fuel listed env L i:=by
 intro a w h w' e
 have h':=h.world (h.hp.ext e)
 obtain⟨g,rg,jA,tN,hp,hx⟩:=hq a w' h'
 unfold opN
 simp only[hi,kY h' hg,if_true,jA,Oper.qo,hd]
 refine⟨⟨hx,fun _ h0=>?_⟩,k g tN _ _ (h'.put ll _ hp)⟩
 cases ht:tl i with
 | false=>exact h0.ext (hx ht)
 | true=>exact(ni ht g).hp hp
theorem vY.forced0{L':List Asrt}(hi:eA[i]?=some o)(hg:gd env eA o=some true)(hd:o.dst=none)(ht:tl i=true)(ni:wJ L' Ls)(hq:∀ a w,SS n F Ny env L a w->∃ w',dE P o a w w'/\Hp F Ny w' L')(k:WD P n F Ny eA tl Ls Q fuel (listed.setIfInBounds i true) env L'):vY P n F Ny eA tl Ls Q fuel listed env L i:=by
 intro a w h w' e
 have h':=h.world (h.hp.ext e)
 obtain⟨rg,jA,hp⟩:=hq a w' h'
 unfold opN
 rcases jA with jA | ⟨v,jA⟩
 ·simp only[hi,kY h' hg,if_true,jA,Oper.qo,hd]
  exact⟨⟨fun hf=>(by rw[ht] at hf;cases hf),fun _ _=>ni.hp hp⟩,k _ _ (h'.world hp)⟩
 ·simp only[hi,kY h' hg,if_true,jA,Oper.qo,hd]
  exact⟨⟨fun hf=>(by rw[ht] at hf;cases hf),fun _ _=>ni.hp hp⟩,k _ _ (h'.world hp)⟩
theorem vY.forcedCall{G:Type}{φ:G->Prop}{val:G->Value}{M:G->List Asrt}{Lc Lr:List Asrt}{d:Nat}(hi:eA[i]?=some o)(hg:gd env eA o=some true)(hd:o.dst=some d)(ll:Nat.blt d n=true)(ht:(tl i=true/\∀ g,wJ (M g++Lr) Ls)\/Lc=[])(jA:∀ a w,SS n F Ny env L a w->(execOp a.eval o).run P w = .ok (.enter f vs) w)(hs:Sel L Lc Lr)(hc:∀ w,Hp F Ny w L->Calls P f vs w fun e w'=>∃ g,e = .returned (val g)/\φ g/\Hp (Lc.flatMap (·.fp)) w w' (M g))(k:∀ g,φ g->WD P n F Ny eA tl Ls Q fuel (listed.setIfInBounds i true) ((d,val g)::env) (M g++Lr)):vY P n F Ny eA tl Ls Q fuel listed env L i:=by
 intro a w h w' e
 have h':=h.world (h.hp.ext e)
 unfold opN
 simp only[hi,kY h' hg,if_true,jA a w' h',Oper.qo,hd]
 refine(hc w' h'.hp).mono ?_
 rintro e' rg ⟨g,rfl,tN,hp⟩
 have xE:=h'.hp.call hs hp
 refine⟨_,rfl,⟨fun hf=>?_,fun _ h0=>?_⟩,k g tN _ _ (h'.put ll _ xE)⟩
 ·rcases ht with ht | rfl
  ·rw[ht.1] at hf;cases hf
  ·exact hp.toExt
 ·rcases ht with ht | rfl
  ·exact(ht.2 g).hp xE
  ·exact h0.ext hp.toExt
theorem vY.new{G:Type}{φ:G->Prop}{val:G->Value}{L':G->List Asrt}{o:Oper}{tl:Nat->Bool}{Ls:List Asrt}{fuel:Nat}{listed:Array Bool}[hi:Nv eA[i]? (some o)][hg:Nv (gd env eA o) (some true)][hd:Nv o.dst (some dd)][ll:Nv (Nat.blt dd n) true](hq:au P n F Ny env L o φ val L')(ni:tl i=true->∀ g,wJ (L' g) Ls)(k:∀ g,φ g->WD P n F Ny eA tl Ls QD fuel (listed.setIfInBounds i true) ((dd,val g)::env) (L' g)):vY P n F Ny eA tl Ls QD fuel listed env L i:=
 vY.forced hi.1 hg.1 hd.1 ll.1 (fun a w h=>let ⟨g,w',h1,h2,h3,h4⟩:=hq a w h;⟨g,w',h1,h2,h3,fun _=>h4⟩) ni k
theorem vY.old{G:Type}{φ:G->Prop}{val:G->Value}{L':G->List Asrt}{o:Oper}{tl:Nat->Bool}{Ls:List Asrt}{fuel:Nat}{listed:Array Bool}(hi:eA[i]?=some o)(hg:gd env eA o=some true)(hd:o.dst=some dd)(ll:Nat.blt dd n=true)(ht:tl i=true)(ni:∀ g,wJ (L' g) Ls)(hq:Ef P n F Ny env L o φ val L')(k:∀ g,φ g->WD P n F Ny eA tl Ls QD fuel (listed.setIfInBounds i true) ((dd,val g)::env) (L' g)):vY P n F Ny eA tl Ls QD fuel listed env L i:=
 vY.forced hi hg hd ll (fun a w h=>let ⟨g,w',h1,h2,h3⟩:=hq a w h;⟨g,w',h1,h2,h3,fun hf=>by rw[ht] at hf;cases hf⟩) (fun _=>ni) k
theorem vY.call0{o:Oper}{tl:Nat->Bool}{Ls:List Asrt}{fuel:Nat}{listed:Array Bool}{φ:Prop}{val:Value}{M:List Asrt}(hi:eA[i]?=some o)(hg:gd env eA o=some true)(hd:o.dst=some dd)(ll:Nat.blt dd n=true)(ht:(tl i=true/\(wJ (M++Lr) Ls))\/Lc=[])(jA:∀ a w,SS n F Ny env L a w->(execOp a.eval o).run P w = .ok (.enter f vs) w)(hs:Sel L Lc Lr)(hc:∀ w,Hp F Ny w L->Calls P f vs w fun e w'=>e = .returned val/\φ/\Hp (fps Lc) w w' M)(k:φ->WD P n F Ny eA tl Ls QD fuel (listed.setIfInBounds i true) ((dd,val)::env) (M++Lr)):vY P n F Ny eA tl Ls QD fuel listed env L i:=
 vY.forcedCall (G:=Unit) (φ:=fun _=>φ) (val:=fun _=>val) (M:=fun _=>M) hi hg hd ll (ht.imp (fun h=>⟨h.1,fun _=>h.2⟩) id) jA hs
  (fun w h=>(hc w h).mono fun e w'=>by rintro⟨h1,h2,h3⟩;exact⟨(),h1,h2,h3⟩) (fun _ h=>k  h)
theorem vY.call1{o:Oper}{tl:Nat->Bool}{Ls:List Asrt}{fuel:Nat}{listed:Array Bool}{φ:A0->Prop}{val:A0->Value}{M:A0->List Asrt}(hi:eA[i]?=some o)(hg:gd env eA o=some true)(hd:o.dst=some dd)(ll:Nat.blt dd n=true)(ht:(tl i=true/\(∀ x0,wJ ((M x0)++Lr) Ls))\/Lc=[])(jA:∀ a w,SS n F Ny env L a w->(execOp a.eval o).run P w = .ok (.enter f vs) w)(hs:Sel L Lc Lr)(hc:∀ w,Hp F Ny w L->Calls P f vs w fun e w'=>∃ x0,e = .returned (val x0)/\(φ x0)/\Hp (fps Lc) w w' (M x0))(k:∀ x0,(φ x0)->WD P n F Ny eA tl Ls QD fuel (listed.setIfInBounds i true) ((dd,val x0)::env) ((M x0)++Lr)):vY P n F Ny eA tl Ls QD fuel listed env L i:=
 vY.forcedCall (G:=A0) (φ:=fun g=>(φ g)) (val:=fun g=>(val g)) (M:=fun g=>(M g)) hi hg hd ll (ht.imp (fun h=>⟨h.1,fun g=>h.2 g⟩) id) jA hs
  (fun w h=>(hc w h).mono fun e w'=>by rintro⟨x0,h1,h2,h3⟩;exact⟨x0,h1,h2,h3⟩) (fun g h=>k g h)
theorem vY.call2{o:Oper}{tl:Nat->Bool}{Ls:List Asrt}{fuel:Nat}{listed:Array Bool}{φ:A0->A1->Prop}{val:A0->A1->Value}{M:A0->A1->List Asrt}(hi:eA[i]?=some o)(hg:gd env eA o=some true)(hd:o.dst=some dd)(ll:Nat.blt dd n=true)(ht:(tl i=true/\(∀ x0 x1,wJ ((M x0 x1)++Lr) Ls))\/Lc=[])(jA:∀ a w,SS n F Ny env L a w->(execOp a.eval o).run P w = .ok (.enter f vs) w)(hs:Sel L Lc Lr)(hc:∀ w,Hp F Ny w L->Calls P f vs w fun e w'=>∃ x0 x1,e = .returned (val x0 x1)/\(φ x0 x1)/\Hp (fps Lc) w w' (M x0 x1))(k:∀ x0 x1,(φ x0 x1)->WD P n F Ny eA tl Ls QD fuel (listed.setIfInBounds i true) ((dd,val x0 x1)::env) ((M x0 x1)++Lr)):vY P n F Ny eA tl Ls QD fuel listed env L i:=
 vY.forcedCall (G:=A0×A1) (φ:=fun g=>(φ g.1 g.2)) (val:=fun g=>(val g.1 g.2)) (M:=fun g=>(M g.1 g.2)) hi hg hd ll (ht.imp (fun h=>⟨h.1,fun g=>h.2 g.1 g.2⟩) id) jA hs
  (fun w h=>(hc w h).mono fun e w'=>by rintro⟨x0,x1,h1,h2,h3⟩;exact⟨⟨x0,x1⟩,h1,h2,h3⟩) (fun g h=>k g.1 g.2 h)
theorem vY.call3{o:Oper}{tl:Nat->Bool}{Ls:List Asrt}{fuel:Nat}{listed:Array Bool}{φ:A0->A1->A2->Prop}{val:A0->A1->A2->Value}{M:A0->A1->A2->List Asrt}(hi:eA[i]?=some o)(hg:gd env eA o=some true)(hd:o.dst=some dd)(ll:Nat.blt dd n=true)(ht:(tl i=true/\(∀ x0 x1 x2,wJ ((M x0 x1 x2)++Lr) Ls))\/Lc=[])(jA:∀ a w,SS n F Ny env L a w->(execOp a.eval o).run P w = .ok (.enter f vs) w)(hs:Sel L Lc Lr)(hc:∀ w,Hp F Ny w L->Calls P f vs w fun e w'=>∃ x0 x1 x2,e = .returned (val x0 x1 x2)/\(φ x0 x1 x2)/\Hp (fps Lc) w w' (M x0 x1 x2))(k:∀ x0 x1 x2,(φ x0 x1 x2)->WD P n F Ny eA tl Ls QD fuel (listed.setIfInBounds i true) ((dd,val x0 x1 x2)::env) ((M x0 x1 x2)++Lr)):vY P n F Ny eA tl Ls QD fuel listed env L i:=
 vY.forcedCall (G:=A0×A1×A2) (φ:=fun g=>(cu3 φ g)) (val:=fun g=>(cu3 val g)) (M:=fun g=>(cu3 M g)) hi hg hd ll (ht.imp (fun h=>⟨h.1,fun g=>h.2 g.1 g.2.1 g.2.2⟩) id) jA hs
  (fun w h=>(hc w h).mono fun e w'=>by rintro⟨x0,x1,x2,h1,h2,h3⟩;exact⟨⟨x0,x1,x2⟩,h1,h2,h3⟩) (fun g h=>k g.1 g.2.1 g.2.2 h)
theorem Lw{L' M:List Asrt}{env':List (Nat×Value)}(hs:Sel L L' M)(hr:Restr env env')(k:WD P n F Ny eA tl Ls Q fuel listed env' L'):WD P n F Ny eA tl Ls Q fuel listed env L:=
 fun a w h=>k a w ((h.restr hr).drop hs)
theorem P4(zF:A0->List (Nat×Value))(L1:A0->List Asrt)(φ:A0->Prop)(ng:Array Bool)(k2:∀ x0,(φ x0)->WD P n F Ny eA tl Ls Q fuel' ng (zF x0) (L1 x0))(k1:(∀ x0,(φ x0)->WD P n F Ny eA tl Ls Q fuel' ng (zF x0) (L1 x0))->WD P n F Ny eA tl Ls Q fuel listed env L):WD P n F Ny eA tl Ls Q fuel listed env L:=k1 k2
theorem Pj(zF:A0->A1->List (Nat×Value))(L1:A0->A1->List Asrt)(φ:A0->A1->Prop)(ng:Array Bool)(k2:∀ x0 x1,(φ x0 x1)->WD P n F Ny eA tl Ls Q fuel' ng (zF x0 x1) (L1 x0 x1))(k1:(∀ x0 x1,(φ x0 x1)->WD P n F Ny eA tl Ls Q fuel' ng (zF x0 x1) (L1 x0 x1))->WD P n F Ny eA tl Ls Q fuel listed env L):WD P n F Ny eA tl Ls Q fuel listed env L:=k1 k2
theorem O6(zF:A0->A1->A2->List (Nat×Value))(L1:A0->A1->A2->List Asrt)(φ:A0->A1->A2->Prop)(ng:Array Bool)(k2:∀ x0 x1 x2,(φ x0 x1 x2)->WD P n F Ny eA tl Ls Q fuel' ng (zF x0 x1 x2) (L1 x0 x1 x2))(k1:(∀ x0 x1 x2,(φ x0 x1 x2)->WD P n F Ny eA tl Ls Q fuel' ng (zF x0 x1 x2) (L1 x0 x1 x2))->WD P n F Ny eA tl Ls Q fuel listed env L):WD P n F Ny eA tl Ls Q fuel listed env L:=k1 k2
theorem O5{A3:Type}(zF:A0->A1->A2->A3->List (Nat×Value))(L1:A0->A1->A2->A3->List Asrt)(φ:A0->A1->A2->A3->Prop)(ng:Array Bool)(k2:∀ x0 x1 x2 x3,(φ x0 x1 x2 x3)->WD P n F Ny eA tl Ls Q fuel' ng (zF x0 x1 x2 x3) (L1 x0 x1 x2 x3))(k1:(∀ x0 x1 x2 x3,(φ x0 x1 x2 x3)->WD P n F Ny eA tl Ls Q fuel' ng (zF x0 x1 x2 x3) (L1 x0 x1 x2 x3))->WD P n F Ny eA tl Ls Q fuel listed env L):WD P n F Ny eA tl Ls Q fuel listed env L:=k1 k2
end
end
section
variable [Rnd]
theorem cJ:∀ u∈([]:List Value),u.oneCell'=true:=by simp
theorem lE{v:Value}{vs:List Value}[h:Nv v.oneCell' true](t:∀ u∈vs,u.oneCell'=true:=by exact cJ):∀ u∈v::vs,u.oneCell'=true:=by
 intro u hu
 rcases List.mem_cons.1 hu with rfl | hu
 ·exact h.1
 ·exact t u hu
theorem kZ{α:Type}{enc:α->List Value}(h:∀ x,∀ u∈enc x,u.oneCell'=true){l:List α}:∀ u∈l.flatMap enc,u.oneCell'=true:=by
 intro u hu
 obtain⟨x,_,hx⟩:=List.mem_flatMap.1 hu
 exact h x u hx
section
variable {P:Program} {n:Nat} {F:List Nat} {Ny:World} {env:List (Nat×Value)} {L Lc Lr R:List Asrt} {eA:Array Oper} {Q:Exit->Act->World->Prop} {ir l:List Oper}
 {dd:Nat} {d:Option Tmp} {ty:TypeId} {pos:String} {after:Array Edge} {g:Option (Nat×Bool)} {x y:Operand} {v u:Value} {t e T:TypeId} {sz tj:Nat}
theorem j4{bo:Option Addr}{k pA:Nat}{vo:List Value}{sz':Nat}(hm:Pick L (row (.slice bo k pA) e sz' vo) R):∀ w,Hp F Ny w L->vo≠[]->∃ A,bo=some A/\∀ j u,vo[j]?=some u->w.cell? (A.add j)=some u:=by
 intro w h qA
 obtain⟨b,hb,hc⟩:=h.cellsRow .nil hm qA
 exact⟨_,hb,hc.2⟩
theorem WD.nilRow{tl:Nat->Bool}{Ls:List Asrt}{fuel:Nat}{listed:Array Bool}{QD:Act->World->Prop}(e:TypeId)(sz:Nat)(k:WD P n F Ny eA tl Ls QD fuel listed env (row (.slice none 0 0) e sz []::L)):WD P n F Ny eA tl Ls QD fuel listed env L:=fun a w h=>k a w (h.world (h.hp.nilRow e sz))
theorem gN{b off s:Nat}{cs ds:List Value}(hm:Pick L (stb b T cs) R)(hd:(cs.drop off).take s=ds):∀ w,Hp F Ny w L->∀ j u,ds[j]?=some u->w.cell? ((⟨b,off,none⟩:Addr).add j)=some u:=by
 subst hd
 refine KL hm (fun j u hu=>?_)
 rw[List.getElem?_take] at hu
 split at hu
 ·simpa using hu
 ·cases hu
theorem pM{ao:Option Addr}{m cap lo hi:Nat}{lx hx':Option Operand}{lv hv:Option Value}(ht:elT P t e sz tj)(hx:eo env x=some (.slice ao m cap))(hl:∀ a w,SS n F Ny env L a w->lx.map a.eval=lv)(hh:∀ a w,SS n F Ny env L a w->hx'.map a.eval=hv)(Bj:match lv with | none=>lo=0 | some (.int _ q)=>q=lo | _=>False)(AE:match hv with | none=>hi=m | some (.int _ q)=>q=hi | _=>False)(h3:hv=none->m<=cap)(h1:lo<=hi:=by omega)(h2:hi<=cap:=by omega):
  Qt P n F Ny env L ⟨d,.slice t x lx hx' none,ty,pos,after,g⟩ (.slice (if cap=lo then ao else ao.map (·.add (lo*sz))) (hi-lo) (cap-lo)):=by
 intro a w h
 obtain⟨inf,z,BA,hz,lp,_,_⟩:=ht.inf
 have Bh:P.underlying t=some (.slice (P.elem t)):=by simp[Program.elem,ht.sl]
 have e1:P.elem t=e:=by simp[Program.elem,ht.sl]
 have hs:(Go.sizeOf (P.elem t)).run P w = .ok sz w:=by simp[Go.sizeOf,typeInfo,e1,BA,lp]
 simp only[execOp,h.eval hx,hl a w h,hh a w h,Option.map_none]
 rw[Sem.run_bind,run_sliceAt_slice w t _ _ _ _ Bh]
 cases lv with
 | none=>
  subst Bj
  cases hv with
  | none=>subst AE;rw[run_slice_all w t ao hi cap Bh,hs];simp[sliced]
  | some q=>
   cases q <;> simp only at AE
   case int k q=>subst AE;rw[run_slice_h w t ao m cap Bh k _ (by omega) (by omega),hs];simp[sliced]
 | some p=>
  cases p <;> simp only at Bj
  case int k p=>
   subst Bj
   cases hv with
   | none=>subst AE;rw[run_slice_l w t ao hi cap Bh k _ (by omega) (by omega),hs];simp[sliced]
   | some q=>
    cases q <;> simp only at AE
    case int k' q=>subst AE;rw[run_slice_lh w t ao m cap Bh k k' _ _ (by omega) (by omega) (by omega),hs];simp[sliced]
theorem fG.call{w:World}{A:Addr}{cs:List Value}(h:fG F Ny A cs)(hp:Hp F Ny w L)(hs:Sel L Lc Lr)(qA:cs≠[]):fG (fps Lc) w A cs:=h.at hp hs.fps qA
end
end
section
variable {α:Type}{m cap:Nat}{cs:List Value}
variable [Rnd]
theorem wF{b k:Nat}:(⟨b,0,none⟩:Addr).add k=⟨b,k,none⟩:=by rw[Addr.add_lit,Nat.zero_add]
theorem ay{α:Type}{enc:α->List Value}{sz:Nat}(hl:∀ x,(enc x).length=sz):∀(l:List α) (i:Nat),i<=l.length->(l.flatMap enc).drop (i*sz)=(l.drop i).flatMap enc
 | _,0,_=>by simp
 | [],i+1,h=>by simp at h
 | x::l,i+1,h=>by
  rw[List.flatMap_cons,Nat.succ_mul,Nat.add_comm,<- hl x,<- List.drop_drop,List.drop_left,hl x]
  simpa using ay hl l i (by simpa using h)
theorem bO{α:Type}{enc:α->List Value}{sz:Nat}(hl:∀ x,(enc x).length=sz):∀(l:List α) (i:Nat),i<=l.length->(l.flatMap enc).take (i*sz)=(l.take i).flatMap enc
 | _,0,_=>by simp
 | [],i+1,h=>by simp at h
 | x::l,i+1,h=>by
  rw[List.flatMap_cons,Nat.succ_mul,Nat.add_comm,<- hl x,List.take_length_add_append,hl x,bO hl l i (by simpa using h)]
  simp
theorem pp{enc:α->List Value}{sz:Nat}(hl:∀ x,(enc x).length=sz)(l:List α):(l.flatMap enc).length=l.length*sz:=by
 induction l with
 | nil=>simp
 | cons x l ih=>rw[List.flatMap_cons,List.length_append,hl,ih,List.length_cons,Nat.succ_mul,Nat.add_comm]
theorem wN[Inhabited α]{enc:α->List Value}{sz:Nat}{l:List α}{i:Int}(h0:0<=i)(h1:i<l.length)(hl:∀ x,(enc x).length=sz:=by exact fun _=>U):
  ∀(j:Nat) (u:Value),(enc (nth l i))[j]?=some u->(l.flatMap enc)[i.toNat*sz+j]?=some u:=by
 intro j u hu
 have hi:i.toNat<l.length:=by omega
 rw[<- List.getElem?_drop,ay hl l i.toNat (by omega),List.drop_eq_getElem_cons hi,List.flatMap_cons,sk h0 h1]
 rw[List.getElem?_append_left (List.getElem?_eq_some_iff.1 hu).1]
 exact hu
theorem mt[Inhabited α]{enc:α->List Value}{sz:Nat}{l:List α}{i:Int}{y:α}{k:Nat}{vs:List Value}(h0:0<=i)(h1:i<l.length)[hy:Nv (ot (enc (nth l i)) k vs) (enc y)](hk:k+vs.length<=sz)(hl:∀ x,(enc x).length=sz:=by exact fun _=>U):ot (l.flatMap enc) (i.toNat*sz+k) vs=(l.set i.toNat y).flatMap enc:=by
 have hy:=hy.1
 have hi:i.toNat<l.length:=by omega
 obtain⟨m,rfl⟩:∃ m:Nat,i=m:=⟨i.toNat,by omega⟩
 simp only[Int.toNat_natCast] at *
 have e1:l=l.take m++nth l (m:Int)::l.drop (m+1):=by
  rw[<- sk (Int.natCast_nonneg m) h1]
  simp
 have kM:(l.take m).length=m:=by simp;omega
 have e2:l.set m y=l.take m++y::l.drop (m+1):=by
  rw[List.set_eq_take_append_cons_drop,if_pos hi]
 have e3:((l.take m).flatMap enc).length=m*sz:=by rw[pp hl,kM]
 rw[e2,List.flatMap_append,List.flatMap_cons,<- hy]
 have e4:l.flatMap enc=(l.take m).flatMap enc++(enc (nth l (m:Int))++(l.drop (m+1)).flatMap enc):=by
  conv=>lhs;rw[e1,List.flatMap_append,List.flatMap_cons]
 rw[e4]
 unfold ot
 have hz:(enc (nth l (m:Int))).length=sz:=hl _
 rw[<- e3,List.take_length_add_append,List.take_append_of_le_length (by omega),Nat.add_assoc,List.drop_length_add_append,List.drop_append_of_le_length (by omega)]
 simp[List.append_assoc]
def WU(F:List Nat)(w w':World):Prop:=w.heap.size<=w'.heap.size/\∀ k,k<w.heap.size->k∉F->w'.heap[k]?=w.heap[k]?
theorem WU.refl(F:List Nat)(w:World):WU F w w:=⟨Nat.le_refl _,fun _ _ _=>rfl⟩
theorem WU.trans{F:List Nat}{a b c:World}(h:WU F a b)(k:WU [] b c):WU F a c:=
 ⟨Nat.le_trans h.1 k.1,fun i hi hf=>(k.2 i (Nat.lt_of_lt_of_le hi h.1) (by simp)).trans (h.2 i hi hf)⟩
section
variable {P:Program} {n:Nat} {F:List Nat} {Ny:World} {env:List (Nat×Value)} {L Lc Lr R:List Asrt} {eA:Array Oper} {Q:Exit->Act->World->Prop} {ir l:List Oper}
 {dd:Nat} {d:Option Tmp} {ty:TypeId} {pos:String} {after:Array Edge} {g:Option (Nat×Bool)} {x y:Operand} {v u:Value} {t e T:TypeId} {sz tj:Nat}
theorem Hp.vf{w:World}{ao:Option Addr}(hm:Pick L (row (.slice ao m cap) e sz cs) R)(h:Hp F Ny w L)(qA:m≠0):∃ b,ao=some ⟨b,0,none⟩:=by
 rcases(h.rowShape hm).2.2.2 with⟨_,h0,_⟩ | h0
 ·exact absurd h0 qA
 ·exact h0
theorem YP{b i c:Nat}{ao:Option Addr}{ds:List Value}{z:Value}(ht:elT P t e sz tj)(hz:qz P e z)(hx:eo env x=some (.slice ao (m-i) c))(hao:ao=(if cap=i then some ⟨b,0,none⟩ else(some ⟨b,0,none⟩:Option Addr).map (·.add (i*sz))))(hi:i<=m)(h1:∀ u∈(Builtin.zeroCells z.cells (m-i)).toList,u.oneCell'=true)(hm:Pick L (row (.slice (some ⟨b,0,none⟩) m cap) e sz cs) R)(AL:cs.take (i*sz)++(Builtin.zeroCells z.cells (m-i)).toList=ds):
  aw P n F Ny env L ⟨none,.call ⟨.builtin .clear,#[x],#[t]⟩,ty,pos,after,g⟩ (row (.slice (some ⟨b,0,none⟩) m cap) e sz ds::R):=by
 intro a w h
 obtain⟨xQ,AW,_,_⟩:=h.hp.rowShape hm
 obtain⟨inf,z',Cg,hz',lp,_,B7⟩:=ht.inf
 have hzz:z=z':=by
  have:=congrFun hz w
  simp[zeroValue,typeInfo,Cg,hz'] at this
  exact this.symm
 have hzl:(Builtin.zeroCells z.cells (m-i)).toList.length=(m-i)*sz:=by rw[hzz];simp[size_zeroCells,B7]
 have hmi:m*sz=i*sz+(m-i)*sz:=by rw[<- Nat.add_mul];congr 1;omega
 by_cases h0:m-i=0
 ·refine⟨w,.inr ⟨.tuple #[],?_⟩,?_⟩
  ·have hx':eo env x=some (.slice ao 0 c):=by rw[hx,h0]
   cases ao <;> simp[execOp,h.eval hx',resolve,invoke,builtin,Builtin.clear_,run_underlying ht.sl]
  ·have:ds=cs:=by
    rw[<- AL,h0]
    have:m=i:=by omega
    subst this
    simp[Builtin.zeroCells,<- xQ]
   rw[this];exact h.hp.front hm
 ·have qA:cap≠i:=by omega
  simp only[qA,if_false,Option.map_some,wF] at hao
  subst hao
  obtain⟨w',ni,hp⟩:=h.hp.rowPut (P:=P) (vs:=(Builtin.zeroCells z.cells (m-i)).toList) (off:=i*sz) h1 hm (by omega)
  refine⟨w',.inr ⟨.tuple #[],?_⟩,?_⟩
  ·have hzr:=congrFun hz w
   obtain⟨j,hj⟩:∃ j,m-i=j+1:=⟨m-i-1,by omega⟩
   rw[hj] at hx ni
   simp[execOp,h.eval hx,resolve,invoke,builtin,Builtin.clear_,run_underlying ht.sl,hzr,ni]
  ·have:ot cs (i*sz) (Builtin.zeroCells z.cells (m-i)).toList=ds:=by
    rw[<- AL,ot,List.drop_eq_nil_of_le (by omega),List.append_nil]
   rw[<- this];exact hp
theorem Pe{b i:Nat}{hx':Operand}{kk:IntKind}{q:Int}(hg:gd env eA ⟨some dd,.slice t x none (some hx') none,ty,pos,after,g⟩=some true)(ll:Nat.blt dd n=true)(ht:elT P t e sz tj)(hx:eo env x=some (.slice (some ⟨b,0,none⟩) m cap))(hh:eo env hx'=some (.int kk q))(hm:Pick L (row (.slice (some ⟨b,0,none⟩) m cap) e sz cs) R)(hq:q=i)(hi:i<=m)(k:WL P n F Ny eA Q ir ((dd,.slice (some ⟨b,0,none⟩) i cap)::env) (row (.slice (some ⟨b,0,none⟩) i cap) e sz (cs.take (i*sz))::R)):
  WL P n F Ny eA Q (⟨some dd,.slice t x none (some hx') none,ty,pos,after,g⟩::ir) env L:=by
 refine N5 (fun w h=>h.rowShape hm) fun hs=>?_
 obtain⟨xQ,AW,D8,_⟩:=hs
 have hv:(if cap=0 then(some ⟨b,0,none⟩:Option Addr) else(some ⟨b,0,none⟩:Option Addr).map (·.add (0*sz)))=some ⟨b,0,none⟩:=by split <;> simp[Addr.add]
 refine Om hg rfl ll (pM (lo:=0) (hi:=i) ht hx (lv:=none) (hv:=some (.int kk q)) (fun _ _ _=>rfl) (fun a w h=>by rw[Option.map_some,h.eval hh]) rfl hq (by simp)) ?_
 rw[hv,Nat.sub_zero,Nat.sub_zero]
 intro a w h
 refine k a w (h.world ((h.hp.front hm).upd (x:=row (.slice (some ⟨b,0,none⟩) m cap) e sz cs) (y:=row (.slice (some ⟨b,0,none⟩) i cap) e sz (cs.take (i*sz))) .here rfl ⟨rfl,Nat.le_refl _⟩ rfl (Nat.le_refl _) (fun _ _ _=>rfl) ?_ ?_))
 ·obtain⟨m',iF⟩:=h.hp.ok _ hm.mem
  rcases iF.2 with⟨zK,_⟩ | ⟨b0,n6,nk,zK,Bi,Du,Al,zn,zR,Ar⟩
  ·cases zK
  injection zK with e1 e2 e3
  injection e1 with e1
  injection e1 with e1
  subst e1 e2 e3
  have hmi:i*sz<=m*sz:=Nat.mul_le_mul_right _ hi
  refine⟨i,by simp;omega,.inr ⟨b,cap,nk,rfl,Bi,Du,by omega,zn,zR,?_⟩⟩
  rw[<- Ar,List.take_take];congr 1;omega
 ·intro b' hb'
  simp[row,Value.ownBlock] at hb'
  subst hb'
  have:=h.hp.lt _ hm.mem b' (by simp[row,Value.ownBlock])
  exact⟨this,.inl (by simp[row,Value.ownBlock])⟩
end
end
end Sep

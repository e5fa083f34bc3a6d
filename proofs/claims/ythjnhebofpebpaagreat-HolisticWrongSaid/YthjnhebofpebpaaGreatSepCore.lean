/- A part of this claim's proof: a symbolic heap of what a call owns, and the judgements over it. No conditions. -/
import Derived.WalkKit
import Derived.TacticsIn
import Derived.OrdersIn
import Derived.RangeFuncRecord
import Derived.RangeFuncCalls
import Derived.WalkSpells
import Derived.WalkLawsBesides
import Derived.Deep.Quiet
import Derived.Laws.AppendOwnNone
set_option linter.all false
namespace Sep
open Go Go.RowKit
section
structure Asrt where
  fp:List Nat
  ok:World->Prop
  loc:∀ w w':World,(∀ b∈fp,b<w.heap.size->w'.heap[b]?=w.heap[b]?)->(∀ b∈fp,b<w.heap.size)->ok w->ok w'
variable {α:Type}{w':World}{i m:Nat}{K:Act->World->Prop}{M L':List Asrt}{f:FuncId}{y:Code}
def xR(b:Nat)(o:Obj):Asrt where
  fp:=[b]
  ok w:=w.heap[b]?=some o
  loc w w' h hl hk:=by rw[h b (by simp) (hl b (by simp))];exact hk
def row(v:Value)(e:TypeId)(sz:Nat)(cs:List Value):Asrt where
  fp:=v.ownBlock.toList
  ok w:=∃ n,w.ownsRow 0 e sz v n cs
  loc w w' h hl hk:=by
    obtain⟨n,h1,h2⟩:=hk
    refine⟨n,h1,?_⟩
    rcases h2 with h2 | ⟨g,cap,lB,hv,hg,hh,r⟩
    · exact .inl h2
    · have hm:g∈v.ownBlock.toList:=by subst hv;simp[Value.ownBlock]
      exact .inr ⟨g,cap,lB,hv,hg,by rw[h g hm (hl g hm)];exact hh,r⟩
structure TD (w₀ w:World):Prop where
  t:w.tape=w₀.tape
  d:w₀.drawn<=w.drawn
theorem TD.trans{a b c:World}(h:TD b c)(k:TD a b):TD a c:=⟨h.t.trans k.t,Nat.le_trans k.d h.d⟩
theorem TD.refl(w:World):TD w w:=⟨rfl,Nat.le_refl _⟩
structure Hp (F:List Nat) (w₀ w:World) (L:List Asrt):Prop where
  os:w.os=w₀.os
  tape:TD w₀ w
  output:w.output=w₀.output
  size:w₀.heap.size<=w.heap.size
  block:∀ k,k<w₀.heap.size->k∉F->w.heap[k]?=w₀.heap[k]?
  ok:∀ x∈L,x.ok w
  lt:∀ x∈L,∀ b∈x.fp,b<w.heap.size
  ow:∀ x∈L,∀ b∈x.fp,b∈F\/w₀.heap.size<=b
  sep:L.Pairwise fun x y=>∀ b∈x.fp,b∉y.fp
theorem Hp.nil(w:World)(F:List Nat):Hp F w w []:=
  ⟨rfl,TD.refl _,rfl,Nat.le_refl _,fun _ _ _=>rfl,by simp,by simp,by simp,.nil⟩
theorem Hp.below{w₀ w:World}{L:List Asrt}(h:Hp [] w₀ w L):Below w₀.heap.size w₀ w:=
  ⟨h.os,h.tape.t,h.output,h.size,fun k hk=>h.block k hk (by simp)⟩
structure Ext (w w':World):Prop where
  os:w'.os=w.os
  tape:TD w w'
  output:w'.output=w.output
  size:w.heap.size<=w'.heap.size
  block:∀ k,k<w.heap.size->w'.heap[k]?=w.heap[k]?
theorem Ext.refl(w:World):Ext w w:=⟨rfl,TD.refl _,rfl,Nat.le_refl _,fun _ _=>rfl⟩
theorem Ext.trans{a b c:World}(h:Ext a b)(k:Ext b c):Ext a c:=
  ⟨k.os.trans h.os,k.tape.trans h.tape,k.output.trans h.output,Nat.le_trans h.size k.size,
   fun i hi=>(k.block i (Nat.lt_of_lt_of_le hi h.size)).trans (h.block i hi)⟩
theorem Ext.drew(w:World)(n:Nat)(h:w.drawn<=n):Ext w { w with drawn:=n }:=⟨rfl,⟨rfl,h⟩,rfl,Nat.le_refl _,fun _ _=>rfl⟩
theorem Ext.alloc(w:World)(o:Obj):Ext w (w.alloc o):=⟨rfl,⟨rfl,Nat.le_refl _⟩,rfl,by simp,fun k hk=>Below.heap_alloc _ _ _ hk⟩
theorem Hp.ext{F:List Nat}{w₀ w:World}{L:List Asrt}(h:Hp F w₀ w L)(e:Ext w w'):Hp F w₀ w' L:=
  ⟨e.os.trans h.os,e.tape.trans h.tape,e.output.trans h.output,Nat.le_trans h.size e.size,
   fun k hk hf=>(e.block k (Nat.lt_of_lt_of_le hk h.size)).trans (h.block k hk hf),
   fun x hx=>x.loc w w' (fun b _ hl=>e.block b hl) (h.lt x hx) (h.ok x hx),
   fun x hx b hb=>Nat.lt_of_lt_of_le (h.lt x hx b hb) e.size,h.ow,h.sep⟩
theorem Hp.toExt{w₀ w:World}{L:List Asrt}(h:Hp [] w₀ w L):Ext w₀ w:=
  ⟨h.os,h.tape,h.output,h.size,fun k hk=>h.block k hk (by simp)⟩
inductive Pick {α:Type}:List α->α->List α->Prop
  | here {x:α} {R:List α}:Pick (x::R) x R
  | there {x y:α} {L R:List α} (h:Pick L x R):Pick (y::L) x (y::R)
theorem Pick.h1{a0 x:α}{R:List α}:Pick (a0::x::R) x (a0::R) := .there .here
theorem Pick.h2{a0 a1 x:α}{R:List α}:Pick (a0::a1::x::R) x (a0::a1::R) := .there .h1
theorem Pick.h3{a0 a1 a2 x:α}{R:List α}:Pick (a0::a1::a2::x::R) x (a0::a1::a2::R) := .there .h2
theorem Pick.h4{a0 a1 a2 a3 x:α}{R:List α}:Pick (a0::a1::a2::a3::x::R) x (a0::a1::a2::a3::R) := .there .h3
theorem Pick.h5{a0 a1 a2 a3 a4 x:α}{R:List α}:Pick (a0::a1::a2::a3::a4::x::R) x (a0::a1::a2::a3::a4::R) := .there .h4
theorem Pick.h6{a0 a1 a2 a3 a4 a5 x:α}{R:List α}:Pick (a0::a1::a2::a3::a4::a5::x::R) x (a0::a1::a2::a3::a4::a5::R) := .there .h5
theorem Pick.h7{a0 a1 a2 a3 a4 a5 a6 x:α}{R:List α}:Pick (a0::a1::a2::a3::a4::a5::a6::x::R) x (a0::a1::a2::a3::a4::a5::a6::R) := .there .h6
inductive Sel {α:Type}:List α->List α->List α->Prop
  | nil {L:List α}:Sel L [] L
  | cons {x:α} {L R L' M:List α} (h:Pick L x R) (t:Sel R L' M):Sel L (x::L') M
theorem Pick.perm{L R:List α}{x:α}(h:Pick L x R):L.Perm (x::R):=by
  induction h with
  | here=>exact .refl _
  | there _ ih=>exact(List.Perm.cons _ ih).trans (List.Perm.swap ..)
theorem Sel.perm{α:Type}{L L' M:List α}(h:Sel L L' M):L.Perm (L'++M):=by
  induction h with
  | nil=>exact .refl _
  | cons h _ ih=>exact h.perm.trans (List.Perm.cons _ ih)
theorem Sel.all{L:List α}:Sel L L []:=by
  induction L with
  | nil=>exact .nil
  | cons x L ih=>exact .cons .here ih
theorem Hp.sub{F:List Nat}{w₀ w:World}{L:List Asrt}(h:Hp F w₀ w L)(hs:Sel L L' M):Hp F w₀ w L':=by
  have hM:=hs.perm
  have hm:∀ x∈L',x∈L:=fun x hx=>hM.mem_iff.2 (List.mem_append_left _ hx)
  have hp:(L'++M).Pairwise fun x y=>∀ b∈x.fp,b∉y.fp:=
    (List.Perm.pairwise_iff (fun {x y} hxy b hb hc=>hxy b hc hb) hM).1 h.sep
  exact⟨h.os,h.tape,h.output,h.size,h.block,fun x hx=>h.ok x (hm x hx),fun x hx=>h.lt x (hm x hx),fun x hx=>h.ow x (hm x hx),
    (List.pairwise_append.1 hp).1⟩
theorem Hp.call{F:List Nat}{w₀ w:World}{L Lc Lr:List Asrt}(h:Hp F w₀ w L)(hs0:Sel L Lc Lr)(c:Hp (Lc.flatMap (·.fp)) w w' M):Hp F w₀ w' (M++Lr):=by
  have hs:=hs0.perm
  have AQ:∀ x∈Lc,x∈L:=fun x hx=>hs.mem_iff.2 (List.mem_append_left _ hx)
  have Do:∀ x∈Lr,x∈L:=fun x hx=>hs.mem_iff.2 (List.mem_append_right _ hx)
  have hp:(Lc++Lr).Pairwise fun x y=>∀ b∈x.fp,b∉y.fp:=
    (List.Perm.pairwise_iff (fun {x y} hxy b hb hc=>hxy b hc hb) hs).1 h.sep
  obtain⟨_,hpr,hcr⟩:=List.pairwise_append.1 hp
  have sh:∀ x∈Lr,∀ b∈x.fp,b∉Lc.flatMap (·.fp):=fun x hx b hb hc=>by
    obtain⟨y,hy,xS⟩:=List.mem_flatMap.1 hc
    exact hcr y hy x hx b xS hb
  have hF:∀ b∈Lc.flatMap (·.fp),b∈F\/w₀.heap.size<=b:=fun b hb=>by
    obtain⟨y,hy,xS⟩:=List.mem_flatMap.1 hb
    exact h.ow y (AQ y hy) b xS
  refine⟨c.os.trans h.os,c.tape.trans h.tape,c.output.trans h.output,Nat.le_trans h.size c.size,?_,?_,?_,?_,?_⟩
  · intro k hk hf
    rw[c.block k (Nat.lt_of_lt_of_le hk h.size) (fun hc=>by
      rcases hF k hc with h1 | h1
      · exact hf h1
      · omega)]
    exact h.block k hk hf
  · intro x hx
    rcases List.mem_append.1 hx with hx | hx
    · exact c.ok x hx
    · exact x.loc w w' (fun b hb hl=>c.block b hl (sh x hx b hb)) (h.lt x (Do x hx)) (h.ok x (Do x hx))
  · intro x hx b hb
    rcases List.mem_append.1 hx with hx | hx
    · exact c.lt x hx b hb
    · exact Nat.lt_of_lt_of_le (h.lt x (Do x hx) b hb) c.size
  · intro x hx b hb
    rcases List.mem_append.1 hx with hx | hx
    · rcases c.ow x hx b hb with h1 | h1
      · exact hF b h1
      · exact .inr (Nat.le_trans h.size h1)
    · exact h.ow x (Do x hx) b hb
  · refine List.pairwise_append.2 ⟨c.sep,hpr,fun x hx y hy b hb hc=>?_⟩
    rcases c.ow x hx b hb with h1 | h1
    · exact sh y hy b hc h1
    · have:=h.lt y (Do y hy) b hc;omega
/-! ### The frame of a function -/
def lk:List (Nat×Value)->Nat->Option Value
  | [],_=>none
  | (j,v)::r,i=>bif Nat.beq i j then some v else lk r i
def eo(env:List (Nat×Value)):Operand->Option Value
  | .tmp t=>lk env t
  | .const v=>some v
  | .global g=>some (.pointer (some ⟨g,0,none⟩))
  | .func f=>some (.func (.func f) #[] #[])
theorem uw{d:Nat}(h:i≠d):Nat.beq i d=false:=by
  cases hb:Nat.beq i d with
  | false=>rfl
  | true=>exact absurd (Nat.eq_of_beq_eq_true hb) h
def Ev(env:List (Nat×Value))(tmps:Array Value):Prop:=∀ i v,lk env i=some v->tmps[i]?=some v
theorem Ev.put{env:List (Nat×Value)}{tmps:Array Value}(h:Ev env tmps)(d:Nat)(v:Value)(hd:d<tmps.size):
    Ev ((d,v)::env) (tmps.setIfInBounds d v):=by
  intro i u hu
  simp only[lk] at hu
  by_cases hi:i=d
  · subst hi
    simp at hu;subst hu
    simp[hd]
  · have:Nat.beq i d=false:=uw hi
    rw[this] at hu
    rw[Array.getElem?_setIfInBounds_ne (fun e=>hi e.symm)]
    exact h i u hu
class Rnd where
  r:Option Nat
  ds:List Deferred
instance Rnd.base:Rnd:=⟨none,[]⟩
def FN[R:Rnd]:Fence:={ fn:=fun _=>True,depth:=none,alive:=false,round:=R.r }
variable [Rnd]
theorem Yw{P:Program}{args:Array Value}{w:World}{R:Ending->World->Prop}(h:Calls P f args w R):CallsIn FN m P f args w R:=
  (callsIn_wide (n:=m)).2 h
theorem nz{P:Program}{args:Array Value}{w:World}{R:Ending->World->Prop}(h:CallsIn FN m P f args w R):Calls P f args w R:=
  (callsIn_wide (n:=m)).1 h
structure SS (n:Nat) (F:List Nat) (w₀:World) (env:List (Nat×Value)) (L:List Asrt) (a:Act) (w:World):Prop where
  defers:a.defers=Rnd.ds
  size:a.tmps.size=n
  ev:Ev env a.tmps
  hp:Hp F w₀ w L
section
variable {n:Nat} {F:List Nat} {w₀:World} {env:List (Nat×Value)} {L:List Asrt} {a:Act} {w:World}
theorem SS.get(h:SS n F w₀ env L a w){t:Nat}{v:Value}(hv:lk env t=some v):a.tmps.getD t undef=v:=by
  have:=h.ev t v hv
  simp[Array.getD_eq_getD_getElem?,this]
theorem SS.eval(h:SS n F w₀ env L a w){x:Operand}{v:Value}(hv:eo env x=some v):a.eval x=v:=by
  cases x with
  | tmp t=>exact h.get hv
  | const c=>simpa [eo,Act.eval] using hv
  | global g=>simpa [eo,Act.eval] using hv
  | func f=>simpa [eo,Act.eval] using hv
theorem SS.put(h:SS n F w₀ env L a w){d:Nat}(hd:Nat.blt d n=true)(v:Value){L':List Asrt}{w':World}(hp:Hp F w₀ w' L'):
    SS n F w₀ ((d,v)::env) L' (a.put (some d) v) w':=by
  have hd':d<a.tmps.size:=by rw[h.size];simpa [Nat.blt_eq] using hd
  exact⟨h.defers,by simp[Act.put,h.size],h.ev.put d v hd',hp⟩
theorem SS.world(h:SS n F w₀ env L a w)(hp:Hp F w₀ w' L'):SS n F w₀ env L' a w':=⟨h.defers,h.size,h.ev,hp⟩
inductive Restr (env:List (Nat×Value)):List (Nat×Value)->Prop
  | nil:Restr env []
  | cons {i:Nat} {v:Value} {r:List (Nat×Value)} (h:lk env i=some v) (t:Restr env r):Restr env ((i,v)::r)
theorem Restr.lk{env env':List (Nat×Value)}(h:Restr env env'):∀ i v,lk env' i=some v->lk env i=some v:=by
  induction h with
  | nil=>intro i v h;cases h
  | @cons j u r h t ih=>
    intro i v hv
    simp only[Sep.lk] at hv
    by_cases hi:i=j
    · subst hi;simp at hv;subst hv;exact h
    · have:Nat.beq i j=false:=uw hi
      rw[this] at hv
      exact ih i v hv
theorem SS.restr{env':List (Nat×Value)}(h:SS n F w₀ env L a w)(hr:Restr env env'):SS n F w₀ env' L a w:=
  ⟨h.defers,h.size,fun i v hv=>h.ev i v (hr.lk i v hv),h.hp⟩
theorem SS.drop{L' M:List Asrt}(h:SS n F w₀ env L a w)(hs:Sel L L' M):SS n F w₀ env L' a w:=⟨h.defers,h.size,h.ev,h.hp.sub hs⟩
end
def gd(env:List (Nat×Value))(eA:Array Oper)(o:Oper):Option Bool:=
  match o.guard with
  | none=>some true
  | some (j,b)=>match eA[j]? with
    | none=>none
    | some oj=>match oj.dst with
      | none=>none
      | some d=>match lk env d with
        | some (.bool c)=>some (bif b then c else !c)
        | some (.tuple _)=>some false
        | _=>none
theorem ja{env:List (Nat×Value)}{eA:Array Oper}{o:Oper}{r:Bool}{n:Nat}{F:List Nat}{w₀:World}{L:List Asrt}{a:Act}{w:World}(h:SS n F w₀ env L a w)(hg:gd env eA o=some r):Region.wanted o (yielded eA a.tmps)=r:=by
  unfold gd at hg
  cases hgd:o.guard with
  | none=>rw[hgd] at hg;simp[Region.wanted,hgd] at hg ⊢;exact hg
  | some p=>
    obtain⟨j,b⟩:=p
    rw[hgd] at hg
    simp only at hg
    split at hg
    · cases hg
    · rename_i oj hj
      split at hg
      · cases hg
      · rename_i d hd
        split at hg
        · rename_i c hc
          have:=h.ev d _ hc
          simp only[Region.wanted,hgd,yielded,hj,hd,this,Option.bind_some]
          cases b <;> cases c <;> simp_all
        · rename_i vs hc
          have:=h.ev d _ hc
          simp only[Region.wanted,hgd,yielded,hj,hd,this,Option.bind_some]
          simp_all
        · cases hg
/-! ### Judgements -/
def WL(P:Program)(n:Nat)(F:List Nat)(w₀:World)(eA:Array Oper)(Q:Exit->Act->World->Prop)(l:List Oper)(env:List (Nat×Value))(L:List Asrt):Prop:=∀ a w,SS n F w₀ env L a w->wpListIn FN 0 P eA Q l a w
def WC(P:Program)(n:Nat)(F:List Nat)(w₀:World)(Q:Exit->Act->World->Prop)(c:Code)(env:List (Nat×Value))(L:List Asrt):Prop:=∀ a w,SS n F w₀ env L a w->c.wpIn FN 0 P Q a w
def WX(n:Nat)(F:List Nat)(w₀:World)(Q:Exit->Act->World->Prop)(e:Exit)(env:List (Nat×Value))(L:List Asrt):Prop:=∀ a w,SS n F w₀ env L a w->Q e a w
section
variable {P:Program} {n:Nat} {F:List Nat} {w₀:World} {eA:Array Oper} {Q:Exit->Act->World->Prop} {fi:List Oper}
  {env:List (Nat×Value)} {L:List Asrt} {o:Oper}
theorem WL.nil(k:WX n F w₀ Q .normal env L):WL P n F w₀ eA Q [] env L:=k
theorem pP{P:Program}{ρ:Operand->Value}{o:Oper}{x:Next}{w:World}(ro:Option Nat)(h:(execOp ρ o).run P w = .ok x w')(hx:∀ d,x ≠ .defer d):
    (o.semAt ro ρ).run P w = .ok x w':=by
  by_cases hd:∃ c,o.op = .defer c
  · obtain⟨c,hc⟩:=hd
    exfalso
    unfold execOp at h
    rw[hc] at h
    simp only[Sem.run_bind] at h
    cases hr:(resolve ρ c o.type).run P w with
    | ok y w1=>rw[hr] at h;simp[Result.andThen] at h;exact hx _ h.1.symm
    | halt y w1=>rw[hr] at h;simp[Result.andThen] at h
  · rw[Oper.semAt_eq _ _ _ (fun c hc=>hd ⟨c,hc⟩)];exact h
theorem oY{a:Act}{w:World}{v:Value}(h:(execOp a.eval o).run P w = .ok (.value v) w')(k:K (a.put o.dst v) w'):o.wpIn FN 0 P a w K Q:=by
  refine⟨fun _ _=>trivial,?_⟩
  rw[pP _ h (fun d e=>by cases e)];exact k
theorem nB{a:Act}{w:World}(h:(execOp a.eval o).run P w = .ok .skip w')(k:K (a.put o.dst undef) w'):o.wpIn FN 0 P a w K Q:=by
  refine⟨fun _ _=>trivial,?_⟩
  rw[pP _ h (fun d e=>by cases e)];exact k
theorem nC{a:Act}{w:World}{vs:Array Value}(h:(execOp a.eval o).run P w = .ok (.enter f vs) w')(k:Calls P f vs w' fun e oK=>∃ v,e = .returned v/\K (a.put o.dst v) oK):o.wpIn FN 0 P a w K Q:=by
  refine⟨fun _ _=>trivial,?_⟩
  rw[pP _ h (fun d e=>by cases e),Oper.uponIn_enter]
  refine⟨fun h=>by simp[FN] at h,(Yw k).mono ?_⟩
  rintro e oK ⟨v,rfl,hk⟩;exact hk
theorem sR{a:Act}{w:World}(hg:Region.wanted o (yielded eA a.tmps)=true)(h:o.wpIn FN 0 P a w (wpListIn FN 0 P eA Q fi) Q):wpListIn FN 0 P eA Q (o::fi) a w:=by
  unfold wpListIn
  rw[if_pos hg]
  exact h
theorem WL.a{v:Value}{d:Nat}(hg:gd env eA o=some true)(hd:o.dst=some d)(iR:Nat.blt d n=true)(hq:∀ a w,SS n F w₀ env L a w->(execOp a.eval o).run P w = .ok (.value v) w)(k:WL P n F w₀ eA Q fi ((d,v)::env) L):WL P n F w₀ eA Q (o::fi) env L:=by
  intro a w h
  refine sR (ja h hg) ?_
  refine oY (hq a w h) ?_
  rw[hd]
  exact k _ _ (h.put iR v h.hp)
theorem WL.eff{G:Type}{φ:G->Prop}{val:G->Value}{L':G->List Asrt}{d:Nat}(hg:gd env eA o=some true)(hd:o.dst=some d)(iR:Nat.blt d n=true)(hq:∀ a w,SS n F w₀ env L a w->∃ g w',(execOp a.eval o).run P w = .ok (.value (val g)) w'/\φ g/\Hp F w₀ w' (L' g))(k:∀ g,φ g->WL P n F w₀ eA Q fi ((d,val g)::env) (L' g)):WL P n F w₀ eA Q (o::fi) env L:=by
  intro a w h
  refine sR (ja h hg) ?_
  obtain⟨g,w',hr,so,hp⟩:=hq a w h
  refine oY hr ?_
  rw[hd]
  exact k g so _ _ (h.put iR _ hp)
def ot(P:Program)(o:Oper)(a:Act)(w w':World):Prop:=(execOp a.eval o).run P w = .ok .skip w'\/∃ v,(execOp a.eval o).run P w = .ok (.value v) w'
theorem Lk(hg:gd env eA o=some true)(hd:o.dst=none)(hq:∀ a w,SS n F w₀ env L a w->∃ w',ot P o a w w'/\Hp F w₀ w' L')(k:WL P n F w₀ eA Q fi env L'):WL P n F w₀ eA Q (o::fi) env L:=by
  intro a w h
  refine sR (ja h hg) ?_
  obtain⟨w',hr,hp⟩:=hq a w h
  rcases hr with hr | ⟨v,hr⟩
  · refine nB hr ?_;rw[hd];exact k a w' (h.world hp)
  · refine oY hr ?_;rw[hd];exact k a w' (h.world hp)
theorem WL.enter{G:Type}{φ:G->Prop}{val:G->Value}{M:G->List Asrt}{f:FuncId}{vs:Array Value}{Lc Lr:List Asrt}{d:Nat}(hg:gd env eA o=some true)(hd:o.dst=some d)(iR:Nat.blt d n=true)(f5:∀ a w,SS n F w₀ env L a w->(execOp a.eval o).run P w = .ok (.enter f vs) w)(hs:Sel L Lc Lr)(hc:∀ w,Hp F w₀ w L->Calls P f vs w fun e w'=>∃ g,e = .returned (val g)/\φ g/\Hp (Lc.flatMap (·.fp)) w w' (M g))(k:∀ g,φ g->WL P n F w₀ eA Q fi ((d,val g)::env) (M g++Lr)):WL P n F w₀ eA Q (o::fi) env L:=by
  intro a w h
  refine sR (ja h hg) ?_
  refine nC (f5 a w h) ((hc w h.hp).mono ?_)
  rintro e w' ⟨g,rfl,so,hp⟩
  refine⟨_,rfl,?_⟩
  rw[hd]
  exact k g so _ _ (h.put iR _ (h.hp.call hs hp))
theorem WL.e{d:Nat}(hg:gd env eA o=some false)(hd:o.dst=some d)(iR:Nat.blt d n=true)(k:WL P n F w₀ eA Q fi ((d,undef)::env) L):WL P n F w₀ eA Q (o::fi) env L:=by
  intro a w h
  unfold wpListIn
  rw[if_neg (by rw[ja h hg];simp),hd]
  exact⟨fun _ _=>trivial,k _ _ (h.put iR undef h.hp)⟩
theorem WL.restr{env':List (Nat×Value)}{l:List Oper}(hr:Restr env env')(k:WL P n F w₀ eA Q l env' L):WL P n F w₀ eA Q l env L:=
  fun a w h=>k a w (h.restr hr)
theorem WL.drop{L' M:List Asrt}{l:List Oper}(hs:Sel L L' M)(k:WL P n F w₀ eA Q l env L'):WL P n F w₀ eA Q l env L:=
  fun a w h=>k a w (h.drop hs)
theorem WC.restr{env':List (Nat×Value)}{c:Code}(hr:Restr env env')(k:WC P n F w₀ Q c env' L):WC P n F w₀ Q c env L:=
  fun a w h=>k a w (h.restr hr)
theorem WC.drop{L' M:List Asrt}{c:Code}(hs:Sel L L' M)(k:WC P n F w₀ Q c env L'):WC P n F w₀ Q c env L:=
  fun a w h=>k a w (h.drop hs)
/-! code -/
theorem Ld{id:Nat}{l:List Oper}(k:WL P n F w₀ l.toArray Q l env L):WC P n F w₀ Q (.region id l.toArray false) env L:=
  fun a w h=>wpIn_region_lit (k a w h)
theorem WC.b{x:Code}(k:WC P n F w₀ (Exit.then (fun a w=>y.wpIn FN 0 P Q a w) Q) x env L):WC P n F w₀ Q (.seq x y) env L:=
  fun a w h=>wpIn_seq (k a w h)
theorem Lb(k:WC P n F w₀ Q y env L):WX n F w₀ (Exit.then (fun a w=>y.wpIn FN 0 P Q a w) Q) .normal env L:=k
theorem Ln(k:WX n F w₀ Q (.exit i) env L):WX n F w₀ (Exit.then K Q) (.exit i) env L:=k
theorem Ll(k:WX n F w₀ Q .ret env L):WX n F w₀ (Exit.then K Q) .ret env L:=k
theorem WC.skip(k:WX n F w₀ Q .normal env L):WC P n F w₀ Q .skip env L:=fun a w h=>wpIn_skip (k a w h)
theorem WC.ret(k:WX n F w₀ Q .ret env L):WC P n F w₀ Q .ret env L:=fun a w h=>wpIn_ret (k a w h)
theorem WC.exit{i:Nat}(k:WX n F w₀ Q (.exit i) env L):WC P n F w₀ Q (.exit i) env L:=fun a w h=>wpIn_exit (k a w h)
theorem WC.block{i:Nat}{c:Code}(k:WC P n F w₀ (Exit.inBlock i Q) c env L):WC P n F w₀ Q (.block i c) env L:=fun a w h=>wpIn_block (k a w h)
theorem Lu(k:WX n F w₀ Q .normal env L):WX n F w₀ (Exit.inBlock i Q) .normal env L:=k
theorem Lv(k:WX n F w₀ Q .ret env L):WX n F w₀ (Exit.inBlock i Q) .ret env L:=k
theorem Lx(k:WX n F w₀ Q .normal env L):WX n F w₀ (Exit.inBlock i Q) (.exit i) env L:=by
  intro a w h;simp only[Exit.inBlock,if_true];exact k a w h
theorem WX.ip{j:Nat}(Ar:Nat.beq j i=false)(k:WX n F w₀ Q (.exit j) env L):WX n F w₀ (Exit.inBlock i Q) (.exit j) env L:=by
  intro a w h
  have:j≠i:=by intro e;subst e;simp at Ar
  simp only[Exit.inBlock,this,if_false];exact k a w h
theorem WC.cond{c:Operand}{x y:Code}{b:Bool}(hc:eo env c=some (.bool b))(ht:b=true->WC P n F w₀ Q x env L)(hf:b=false->WC P n F w₀ Q y env L):
    WC P n F w₀ Q (.cond c x y) env L:=by
  intro a w h
  refine wpIn_cond_split (h.eval hc) (fun e=>ht e a w h) (fun e=>hf e a w h)
theorem WC.mD{G:Type}(φ:G->Prop)(fg:G->List (Nat×Value))(LI:G->List Asrt){x:Code}(k1:WC P n F w₀ (Exit.then (fun a w=>∃ g,φ g/\SS n F w₀ (fg g) (LI g) a w) Q) x env L)(k2:∀ g,φ g->WC P n F w₀ Q y (fg g) (LI g)):WC P n F w₀ Q (.seq x y) env L:=by
  intro a w h
  refine wpIn_seq (Go.wpIn_mono (k1 a w h) ?_)
  intro e a' w' hq
  cases e with
  | normal=>obtain⟨g,so,hs⟩:=hq;exact k2 g so a' w' hs
  | _=>exact hq
theorem Lp{G:Type}{φ:G->Prop}{fg:G->List (Nat×Value)}{LI:G->List Asrt}(g:G)(so:φ g)(hr:Restr env (fg g))(hL:Sel L (LI g) M):
    WX n F w₀ (Exit.then (fun a w=>∃ g,φ g/\SS n F w₀ (fg g) (LI g) a w) Q) .normal env L:=
  fun _ _ h=>⟨g,so,(h.restr hr).drop hL⟩
theorem WC.loop{G:Type}(φ:G->Prop)(fg:G->List (Nat×Value))(LI:G->List Asrt)(μ:G->Nat){c:Code}(ln:G)(h0:φ ln)(hr:Restr env (fg ln)){M:List Asrt}(hL:Sel L (LI ln) M)(round:∀ g,φ g->WC P n F w₀ (Exit.then (fun a w=>∃ g',(φ g'/\μ g'<μ g)/\SS n F w₀ (fg g') (LI g') a w) Q) c (fg g) (LI g)):
    WC P n F w₀ Q (.loop c) env L:=by
  intro a w h b k cs Cn hb Bi
  have key:∀ m g,μ g=m->φ g->∀ a w,SS n F w₀ (fg g) (LI g) a w->
      ∃ e a' w',Q e a' w'/\ArrivesIn (Machine.fenced P FN) P (lone (b.atR a (.code c :: .inLoop c::k)) cs w) b k cs e a' w':=by
    intro m
    induction m using Nat.strongRecOn with
    | _ m ih=>
      intro g hm so a w h
      obtain⟨e,pM,pN,hq,o8⟩:=round g so a w h b (.inLoop c::k) cs Cn hb Bi
      cases e with
      | normal=>
        obtain⟨g',⟨CH,mL⟩,hs⟩:=hq
        obtain⟨CI,CJ,AZ,Bo,zV⟩:=ih (μ g') (hm▸mL) g' rfl CH pM pN hs
        exact⟨CI,CJ,AZ,Bo,.of_steps (StepsIn.trans o8 (.one (fenced_calm hb Bi rfl) stepR_inLoop)) zV⟩
      | exit id=>exact⟨_,pM,pN,hq,.pass (x := .inLoop c) rfl (fun _ _ => .inl (by simp)) o8⟩
      | goto l=>exact⟨_,pM,pN,hq,.pass (x := .inLoop c) rfl (fun _ _ => .inl (by simp)) o8⟩
      | ret=>exact⟨_,pM,pN,hq,.pass (x := .inLoop c) rfl (fun _ _ => .inl (by simp)) o8⟩
      | panic ch=>exact⟨_,pM,pN,hq,.pass (x := .inLoop c) rfl (fun _ _ => .inl (by simp)) o8⟩
      | outgrown=>exact⟨_,pM,pN,hq,.pass (x := .inLoop c) rfl (fun _ _ => .inl (by simp)) o8⟩
  obtain⟨e,a',w',hq,o8⟩:=key _ ln rfl h0 a w ((h.restr hr).drop hL)
  exact⟨e,a',w',hq,.of_steps (.one (fenced_calm hb Bi rfl) stepR_loop) o8⟩
theorem WX.round{G:Type}{φ:G->Prop}{fg:G->List (Nat×Value)}{LI:G->List Asrt}{μ:G->Nat}(g:G)(so:φ g)(hμ:μ g<m)(hr:Restr env (fg g))(hL:Sel L (LI g) M):
    WX n F w₀ (Exit.then (fun a w=>∃ g',(φ g'/\μ g'<m)/\SS n F w₀ (fg g') (LI g') a w) Q) .normal env L:=
  fun _ _ h=>⟨g,⟨so,hμ⟩,(h.restr hr).drop hL⟩
end
theorem oJ{α:Type _}{a b:α}(h:some a=some b):a=b:=Option.some.inj h
theorem oB{α:Type _}{β:Type _}(a:α)(f:α->Option β):(some a).bind f=f a:=rfl
abbrev vi (n:Int):Value:=.int .i64 n
abbrev vp (b:Nat):Value:=.pointer (some ⟨b, 0, none⟩)
abbrev vq (a:Addr):Value:=.pointer (some a)
abbrev vn:Value:=.slice none 0 0
theorem U {α : Sort _} {a : α} : a = a := rfl
def bz (a b:Nat):Array Bool:=(List.replicate a true ++ List.replicate b false).toArray
def dn:Nat -> List Nat
  | 0 => []
  | n + 1 => n :: dn n
abbrev vI:Int -> Value:=.int .i64
abbrev nc (i:Nat):Bool:=[].contains i
abbrev ga {α:Type} (E:α -> List Value) (x:α):Value:=.agg (E x).toArray
abbrev rq {α:Type} (E:α -> List Value) (r:List Value) (x:α):Prop:=r = E x
abbrev vs (a:Option Addr) (n k:Nat):Value:=.slice a n k
abbrev cu2{A B R:Type _}(f:A->B->R)(g:A×B):R:=f g.1 g.2
abbrev cu3{A0 A1 A2 R:Type _}(f:A0->A1->A2->R)(g:A0×A1×A2):R:=cu2 (f g.1) g.2
abbrev cu4{A0 A1 A2 A3 R:Type _}(f:A0->A1->A2->A3->R)(g:A0×A1×A2×A3):R:=cu3 (f g.1) g.2
abbrev cu5{A0 A1 A2 A3 A4 R:Type _}(f:A0->A1->A2->A3->A4->R)(g:A0×A1×A2×A3×A4):R:=cu4 (f g.1) g.2
abbrev cu6{A0 A1 A2 A3 A4 A5 R:Type _}(f:A0->A1->A2->A3->A4->A5->R)(g:A0×A1×A2×A3×A4×A5):R:=cu5 (f g.1) g.2
abbrev cu7{A0 A1 A2 A3 A4 A5 A6 R:Type _}(f:A0->A1->A2->A3->A4->A5->A6->R)(g:A0×A1×A2×A3×A4×A5×A6):R:=cu6 (f g.1) g.2
abbrev cu8{A0 A1 A2 A3 A4 A5 A6 A7 R:Type _}(f:A0->A1->A2->A3->A4->A5->A6->A7->R)(g:A0×A1×A2×A3×A4×A5×A6×A7):R:=cu7 (f g.1) g.2
abbrev cu9{A0 A1 A2 A3 A4 A5 A6 A7 A8 R:Type _}(f:A0->A1->A2->A3->A4->A5->A6->A7->A8->R)(g:A0×A1×A2×A3×A4×A5×A6×A7×A8):R:=cu8 (f g.1) g.2
abbrev cu10{A0 A1 A2 A3 A4 A5 A6 A7 A8 A9 R:Type _}(f:A0->A1->A2->A3->A4->A5->A6->A7->A8->A9->R)(g:A0×A1×A2×A3×A4×A5×A6×A7×A8×A9):R:=cu9 (f g.1) g.2
abbrev cu11{A0 A1 A2 A3 A4 A5 A6 A7 A8 A9 o9 R:Type _}(f:A0->A1->A2->A3->A4->A5->A6->A7->A8->A9->o9->R)(g:A0×A1×A2×A3×A4×A5×A6×A7×A8×A9×o9):R:=cu10 (f g.1) g.2
abbrev cu12{A0 A1 A2 A3 A4 A5 A6 A7 A8 A9 o9 pO R:Type _}(f:A0->A1->A2->A3->A4->A5->A6->A7->A8->A9->o9->pO->R)(g:A0×A1×A2×A3×A4×A5×A6×A7×A8×A9×o9×pO):R:=cu11 (f g.1) g.2
abbrev cu13{A0 A1 A2 A3 A4 A5 A6 A7 A8 A9 o9 pO zs R:Type _}(f:A0->A1->A2->A3->A4->A5->A6->A7->A8->A9->o9->pO->zs->R)(g:A0×A1×A2×A3×A4×A5×A6×A7×A8×A9×o9×pO×zs):R:=cu12 (f g.1) g.2
abbrev cu14{A0 A1 A2 A3 A4 A5 A6 A7 A8 A9 o9 pO zs zK R:Type _}(f:A0->A1->A2->A3->A4->A5->A6->A7->A8->A9->o9->pO->zs->zK->R)(g:A0×A1×A2×A3×A4×A5×A6×A7×A8×A9×o9×pO×zs×zK):R:=cu13 (f g.1) g.2
abbrev cu15{A0 A1 A2 A3 A4 A5 A6 A7 A8 A9 o9 pO zs zK zW R:Type _}(f:A0->A1->A2->A3->A4->A5->A6->A7->A8->A9->o9->pO->zs->zK->zW->R)(g:A0×A1×A2×A3×A4×A5×A6×A7×A8×A9×o9×pO×zs×zK×zW):R:=cu14 (f g.1) g.2
abbrev cu16{A0 A1 A2 A3 A4 A5 A6 A7 A8 A9 o9 pO zs zK zW AF R:Type _}(f:A0->A1->A2->A3->A4->A5->A6->A7->A8->A9->o9->pO->zs->zK->zW->AF->R)(g:A0×A1×A2×A3×A4×A5×A6×A7×A8×A9×o9×pO×zs×zK×zW×AF):R:=cu15 (f g.1) g.2
abbrev cu17{A0 A1 A2 A3 A4 A5 A6 A7 A8 A9 o9 pO zs zK zW AF Ba R:Type _}(f:A0->A1->A2->A3->A4->A5->A6->A7->A8->A9->o9->pO->zs->zK->zW->AF->Ba->R)(g:A0×A1×A2×A3×A4×A5×A6×A7×A8×A9×o9×pO×zs×zK×zW×AF×Ba):R:=cu16 (f g.1) g.2
abbrev cu18{A0 A1 A2 A3 A4 A5 A6 A7 A8 A9 o9 pO zs zK zW AF Ba BV R:Type _}(f:A0->A1->A2->A3->A4->A5->A6->A7->A8->A9->o9->pO->zs->zK->zW->AF->Ba->BV->R)(g:A0×A1×A2×A3×A4×A5×A6×A7×A8×A9×o9×pO×zs×zK×zW×AF×Ba×BV):R:=cu17 (f g.1) g.2
abbrev cu19{A0 A1 A2 A3 A4 A5 A6 A7 A8 A9 o9 pO zs zK zW AF Ba BV CK R:Type _}(f:A0->A1->A2->A3->A4->A5->A6->A7->A8->A9->o9->pO->zs->zK->zW->AF->Ba->BV->CK->R)(g:A0×A1×A2×A3×A4×A5×A6×A7×A8×A9×o9×pO×zs×zK×zW×AF×Ba×BV×CK):R:=cu18 (f g.1) g.2
end
section
variable {i j:Nat}{v:Value}{oi oj:Oper}{w:World}{K:Act->World->Prop}{M L':List Asrt}
variable [Rnd]
def Oper.wY(P:Program)(o:Oper)(a:Act)(next:Act->World->Prop):Result Next->Prop
 | .ok (.value v) w'=>next (a.put o.dst v) w'
 | .ok .skip w'=>next (a.put o.dst undef) w'
 | .ok (.enter f args) w'=>Calls P f args w' fun e oK=>∃ v,e = .returned v/\next (a.put o.dst v) oK
 | _=>False
def opN(P:Program)(eA:Array Oper)(i:Nat)(K:Act->World->Prop)(a:Act)(w:World):Prop:=
 match eA[i]? with
 | none=>K a w
 | some o=>if Region.wanted o (yielded eA a.tmps) then Oper.wY P o a K ((execOp a.eval o).run P w) else K (a.put o.dst undef) w
theorem Oper.bZ{P:Program}{o:Oper}{a:Act}{K':Act->World->Prop}(h:∀ a w,K a w->K' a w){r:Result Next}(hh:Oper.wY P o a K r):Oper.wY P o a K' r:=by
 cases r with
 | ok x w'=>
  cases x <;> simp only[Oper.wY] at hh ⊢ <;> first
   | exact h _ _ hh
   | exact hh.mono fun e oK ⟨v,he,hk⟩=>⟨v,he,h _ _ hk⟩
 | halt x w'=>exact hh
theorem Yb{P:Program}{eA:Array Oper}{Q:Exit->Act->World->Prop}{a:Act}(h:opN P eA i K a w):wpOpIn FN 0 P eA Q i K a w:=by
 unfold opN at h
 unfold wpOpIn
 cases ho:eA[i]? with
 | none=>simpa [ho] using h
 | some o=>
  simp only[ho] at h ⊢
  split
  ·rename_i hw
   simp only[hw,if_true] at h
   generalize hr:(execOp a.eval o).run P w=r at h
   cases r with
   | ok x w'=>
    cases x <;> simp only[Oper.wY] at h <;> first
     | exact oY hr h
     | exact nB hr h
     | exact nC hr h
   | halt x w'=>simp only[Oper.wY] at h
  ·rename_i hw
   simp only[hw] at h
   exact⟨fun _ _=>trivial,h⟩
theorem oZ{P:Program}{eA:Array Oper}{K':Act->World->Prop}{a:Act}(h:∀ a w,K a w->K' a w)(hh:opN P eA i K a w):opN P eA i K' a w:=by
 unfold opN at hh ⊢
 cases ho:eA[i]? with
 | none=>simp only[ho] at hh ⊢;exact h _ _ hh
 | some o=>
  simp only[ho] at hh ⊢
  split
  ·rename_i hw;simp only[hw,if_true] at hh;exact Oper.bZ h hh
  ·rename_i hw;simp only[hw] at hh;exact h _ _ hh
def g7(eA:Array Oper)(i:Nat):Array Bool:=
 eA.foldl (init := #[]) fun acc o=>acc.push (o.after.any fun e=>Region.binds .any e&&(Nat.beq e.on i||acc.getD e.on false))
def bB(eA:Array Oper)(j:Nat):Bool:=(List.range eA.size).all fun k=>Nat.beq k j||(g7 eA k).getD j false
theorem XC{eA:Array Oper}(hi:eA[i]?=some oi)(h:bB eA j=true)(xn:j≠i):(g7 eA i).getD j false=true:=by
 unfold bB at h
 simp only[List.all_eq_true,List.mem_range,Bool.or_eq_true] at h
 obtain⟨mL,_⟩:=Array.getElem?_eq_some_iff.1 hi
 rcases h i mL with h | h
 ·exact absurd (Nat.eq_of_beq_eq_true h).symm xn
 ·exact h
def gG(P:Program)(eA:Array Oper)(tl:Nat->Bool)(St:World->Prop)(Q:Act->World->Prop):Nat->Array Bool->Act->World->Prop
 | 0,listed,a,w=>∀ w',Ext w w'->Region.ready .any eA listed=[]/\Q a w'
 | fuel+1,listed,a,w=>∀ w',Ext w w'->(Region.ready .any eA listed=[]->Q a w')/\
   ∀ i∈Region.ready .any eA listed,opN P eA i (fun a' oK=>((tl i=false->Ext w' oK)/\(bB eA i=false->St w'->St oK))/\gG P eA tl St Q fuel (listed.setIfInBounds i true) a' oK) a w'
section
variable {P:Program} {eA:Array Oper} {tl:Nat->Bool} {St:World->Prop} {Q:Act->World->Prop}
theorem gG.up:∀ {fuel:Nat} {listed:Array Bool} {a:Act} {w w':World},gG P eA tl St Q fuel listed a w->Ext w w'->gG P eA tl St Q fuel listed a w'
 | 0,_,_,_,_,h,e=>fun _ e'=>h _ (e.trans e')
 | _+1,_,_,_,_,h,e=>fun _ e'=>h _ (e.trans e')
theorem gG.iq{Q':Exit->Act->World->Prop}(hQ:∀ a w,Q a w->Q' .normal a w):∀ {fuel:Nat} {listed:Array Bool} {a:Act} {w:World},gG P eA tl St Q fuel listed a w->wpAnyIn FN 0 P .any eA Q' fuel listed a w
 | 0,_,_,w,h=>let ⟨h1,h2⟩:=h w (.refl w);⟨h1,hQ _ _ h2⟩
 | _+1,_,_,w,h=>let ⟨h1,h2⟩:=h w (.refl w)
  ⟨fun e=>hQ _ _ (h1 e),fun i hi=>Yb (oZ (fun _ _ hk=>gG.iq hQ hk.2) (h2 i hi))⟩
def nD(P:Program)(w:World)(v:Value):Result Next->Prop
 | .ok (.value u) w'=>Ext w w'/\u=v
 | .ok (.enter f args) w'=>Ext w w'/\Calls P f args w' fun e oK=>e = .returned v/\Ext w' oK
 | _=>False
def YE(P:Program)(eA:Array Oper)(o:Oper)(v:Value)(a:Act)(w:World):Prop:=
 (Region.wanted o (yielded eA a.tmps)=true/\∀ w',Ext w w'->nD P w' v ((execOp a.eval o).run P w')) \/
 (Region.wanted o (yielded eA a.tmps)=false/\v=undef)
theorem YE.up{o:Oper}{a:Act}{w':World}(h:YE P eA o v a w)(e:Ext w w'):YE P eA o v a w':=
 h.imp (fun h=>⟨h.1,fun oK e'=>h.2 oK (e.trans e')⟩) id
theorem YE.same{o:Oper}{a a':Act}(hy:YE P eA o v a w)(he:execOp a'.eval o=execOp a.eval o)(hw:Region.wanted o (yielded eA a'.tmps)=Region.wanted o (yielded eA a.tmps)):YE P eA o v a' w:=by
 unfold YE at *
 rw[he,hw]
 exact hy
theorem YE.opN{i:Nat}{o:Oper}{v:Value}{a:Act}{w:World}(hi:eA[i]?=some o)(hy:YE P eA o v a w){K:Act->World->Prop}(h:∀ w',Ext w w'->K (a.put o.dst v) w'):opN P eA i K a w:=by
 unfold Sep.opN
 simp only[hi]
 rcases hy with⟨hw,hv⟩ | ⟨hw,rfl⟩
 ·simp only[hw,if_true]
  have:=hv w (.refl w)
  generalize (execOp a.eval o).run P w=r at this
  cases r with
  | ok x w'=>
   cases x <;> simp only[nD] at this <;> simp only[Oper.wY]
   case value u=>obtain⟨e,rfl⟩:=this;exact h _ e
   case enter f args=>
    obtain⟨e,hc⟩:=this
    exact hc.mono fun e' oK ⟨he,hx⟩=>⟨v,he,h _ (e.trans hx)⟩
  | halt x w'=>simp only[nD] at this
 ·simp only[hw,Bool.false_eq_true,if_false]
  exact h _ (.refl _)
theorem Vs(hj:eA[j]?=some oj)(Bp:oi.apart eA oj=true)(Dp:∀ cs b,oi.op ≠ .select cs b)(Dq:∀ cs b,oj.op ≠ .select cs b){a:Act}(hy:YE P eA oi v a w)(h:opN P eA j K (a.put oi.dst v) w):
  opN P eA j (fun a' w'=>YE P eA oi v a' w/\K (a'.put oi.dst v) w') a w:=by
 obtain⟨h1,h2,h3⟩:=Oper.apart_spec Bp
 have keep:∀ u,YE P eA oi v (a.put oj.dst u) w:=fun u=>
  hy.same (execOp_put oi Dp a oj.dst u h3) (wanted_put oi a oj.dst u h3)
 unfold opN at *
 simp only[hj] at *
 rw[wanted_put oj a oi.dst v h1,execOp_put oj Dq a oi.dst v h1] at h
 split
 ·rename_i hw
  simp only[hw,if_true] at h
  generalize (execOp a.eval oj).run P w=r at h ⊢
  cases r with
  | ok x w'=>
   cases x <;> simp only[Oper.wY] at h ⊢
   case value u=>exact⟨keep u,by rw[<- Act.put_comm a v u h2];exact h⟩
   case skip=>exact⟨keep _,by rw[<- Act.put_comm a v undef h2];exact h⟩
   case enter f args=>exact h.mono fun e oK ⟨u,he,hk⟩=>⟨u,he,keep u,by rw[<- Act.put_comm a v u h2];exact hk⟩
  | halt x w'=>simp only[Oper.wY] at h
 ·rename_i hw
  simp only[hw] at h
  exact⟨keep _,by rw[<- Act.put_comm a v undef h2];exact h⟩
theorem WA(hj:eA[j]?=some oj)(Bp:oi.apart eA oj=true)(Dp:∀ cs b,oi.op ≠ .select cs b)(Dq:∀ cs b,oj.op ≠ .select cs b){a:Act}(hy:∀ w',YE P eA oi v a w')(h:opN P eA j K (a.put oi.dst v) w):
  opN P eA j (fun a' w'=>(∀ w',YE P eA oi v a' w')/\K (a'.put oi.dst v) w') a w:=by
 obtain⟨h1,h2,h3⟩:=Oper.apart_spec Bp
 have keep:∀ u,∀ w',YE P eA oi v (a.put oj.dst u) w':=fun u w'=>
  (hy w').same (execOp_put oi Dp a oj.dst u h3) (wanted_put oi a oj.dst u h3)
 unfold opN at *
 simp only[hj] at *
 rw[wanted_put oj a oi.dst v h1,execOp_put oj Dq a oi.dst v h1] at h
 split
 ·rename_i hw
  simp only[hw,if_true] at h
  generalize (execOp a.eval oj).run P w=r at h ⊢
  cases r with
  | ok x w'=>
   cases x <;> simp only[Oper.wY] at h ⊢
   case value u=>exact⟨keep u,by rw[<- Act.put_comm a v u h2];exact h⟩
   case skip=>exact⟨keep _,by rw[<- Act.put_comm a v undef h2];exact h⟩
   case enter f args=>exact h.mono fun e oK ⟨u,he,hk⟩=>⟨u,he,keep u,by rw[<- Act.put_comm a v u h2];exact hk⟩
  | halt x w'=>simp only[Oper.wY] at h
 ·rename_i hw
  simp only[hw] at h
  exact⟨keep _,by rw[<- Act.put_comm a v undef h2];exact h⟩
theorem WB(hj:eA[j]?=some oj)(Bp:oi.apart eA oj=true)(Dp:∀ cs b,oi.op ≠ .select cs b)(Dq:∀ cs b,oj.op ≠ .select cs b){a:Act}(lu:St w)(hy:∀ w',St w'->YE P eA oi v a w')(h:opN P eA j K (a.put oi.dst v) w):
  opN P eA j (fun a' w'=>(∀ w',St w'->YE P eA oi v a' w')/\K (a'.put oi.dst v) w') a w:=by
 obtain⟨h1,h2,h3⟩:=Oper.apart_spec Bp
 have keep:∀ u,∀ w',St w'->YE P eA oi v (a.put oj.dst u) w':=fun u w' hs=>
  (hy w' hs).same (execOp_put oi Dp a oj.dst u h3) (wanted_put oi a oj.dst u h3)
 unfold opN at *
 simp only[hj] at *
 rw[wanted_put oj a oi.dst v h1,execOp_put oj Dq a oi.dst v h1] at h
 split
 ·rename_i hw
  simp only[hw,if_true] at h
  generalize (execOp a.eval oj).run P w=r at h ⊢
  cases r with
  | ok x w'=>
   cases x <;> simp only[Oper.wY] at h ⊢
   case value u=>exact⟨keep u,by rw[<- Act.put_comm a v u h2];exact h⟩
   case skip=>exact⟨keep _,by rw[<- Act.put_comm a v undef h2];exact h⟩
   case enter f args=>exact h.mono fun e oK ⟨u,he,hk⟩=>⟨u,he,keep u,by rw[<- Act.put_comm a v u h2];exact hk⟩
  | halt x w'=>simp only[Oper.wY] at h
 ·rename_i hw
  simp only[hw] at h
  exact⟨keep _,by rw[<- Act.put_comm a v undef h2];exact h⟩
theorem ir{B:Nat->Bool}(AG:∀ w w',Ext w w'->St w->St w')(hi:eA[i]?=some oi)(Au:∀(j:Nat) (o:Oper) cs b,eA[j]?=some o->o.op ≠ .select cs b)(hB:∀ j oj,eA[j]?=some oj->B j=true->∃ e∈oj.after,Region.binds .any e=true/\(e.on=i\/B e.on=true)):
  ∀(fuel:Nat) (listed:Array Bool) (a:Act) (w:World),
   (∀ j,B j=true->listed.getD j true=false)->
   (∀ j oj,eA[j]?=some oj->j≠i->listed.getD j true=false->B j=false->oi.apart eA oj=true/\tl j=false)->
   i∈Region.ready .any eA listed->YE P eA oi v a w->
   gG P eA tl St Q fuel (listed.setIfInBounds i true) (a.put oi.dst v) w->gG P eA tl St Q (fuel+1) listed a w:=by
 intro fuel
 induction fuel with
 | zero=>
  intro listed a w _ _ hr hy H w' oa
  refine⟨fun h=>(by rw[h] at hr;cases hr),fun j hj=>?_⟩
  by_cases xn:j=i
  ·subst xn
   by_cases ht:tl j=false
   ·exact(hy.up oa).opN hi fun oK e=>⟨⟨fun _=>e,fun _=>AG _ _ e⟩,H.up (oa.trans e)⟩
   ·exact(hy.up oa).opN hi fun oK e=>⟨⟨fun h=>absurd h ht,fun _=>AG _ _ e⟩,H.up (oa.trans e)⟩
  ·have:=ready_mono hj xn
   rw[(H w' oa).1] at this
   cases this
 | succ fuel ih=>
  intro listed a w Co sh hr hy H w' oa
  refine⟨fun h=>(by rw[h] at hr;cases hr),fun j hj=>?_⟩
  by_cases xn:j=i
  ·subst xn;exact(hy.up oa).opN hi fun oK e=>⟨⟨fun _=>e,fun _=>AG _ _ e⟩,H.up (oa.trans e)⟩
  ·have h1:=(H w' oa).2 j (ready_mono hj xn)
   obtain⟨Av,oj,AS,Aw⟩:=mem_ready.1 hj
   have xN:∀ k,listed.getD k true=false->listed.getD k false=true->False:=fun k h0 h1=>by
    rcases Nat.lt_or_ge k listed.size with h' | h'
    ·simp[h'] at h0 h1;rw[h0] at h1;cases h1
    ·simp[Array.getElem?_eq_none h'] at h1
   have zN:B j=false:=by
    cases hbj:B j with
    | false=>rfl
    | true=>
     obtain⟨e,he,hb,hon⟩:=hB j oj AS hbj
     have h1:=Aw e he hb
     rcases hon with hon | hon
     ·rw[hon] at h1;exact(xN i (mem_ready.1 hr).1 h1).elim
     ·exact(xN e.on (Co _ hon) h1).elim
   obtain⟨Bp,Dr⟩:=sh j oj AS xn Av zN
   have h2:=Vs AS Bp (fun cs b=>Au i oi cs b hi) (fun cs b=>Au j oj cs b AS) (hy.up oa) h1
   have Bq:∀ k,B k=true->(listed.setIfInBounds j true).getD k true=false:=fun k hk=>by
    have AU:j≠k:=fun e=>by rw[<- e,zN] at hk;cases hk
    rw[getD_set_ne true AU];exact Co k hk
   have zC:∀ k ok,eA[k]?=some ok->k≠i->(listed.setIfInBounds j true).getD k true=false->
     B k=false->oi.apart eA ok=true/\tl k=false:=fun k ok hk Ds BW Bb=>by
    refine sh k ok hk Ds ?_ Bb
    by_cases AU:j=k
    ·subst AU;exact Av
    ·rw[getD_set_ne true AU] at BW;exact BW
   refine oZ (fun a' oK h3=>⟨h3.2.1,?_⟩) h2
   refine ih (listed.setIfInBounds j true) a' oK Bq zC (ready_mono hr (Ne.symm xn)) (h3.1.up (h3.2.1.1 Dr)) ?_
   rw[Array.setIfInBounds_comm _ _ xn]
   exact h3.2.2
theorem lT{B:Nat->Bool}(AG:∀ w w',Ext w w'->St w->St w')(hi:eA[i]?=some oi)(Au:∀(j:Nat) (o:Oper) cs b,eA[j]?=some o->o.op ≠ .select cs b)(hB:∀ j oj,eA[j]?=some oj->B j=true->∃ e∈oj.after,Region.binds .any e=true/\(e.on=i\/B e.on=true)):
  ∀(fuel:Nat) (listed:Array Bool) (a:Act) (w:World),
   (∀ j,B j=true->listed.getD j true=false)->
   (∀ j oj,eA[j]?=some oj->j≠i->listed.getD j true=false->B j=false->oi.apart eA oj=true)->
   i∈Region.ready .any eA listed->(∀ w',YE P eA oi v a w')->
   gG P eA tl St Q fuel (listed.setIfInBounds i true) (a.put oi.dst v) w->gG P eA tl St Q (fuel+1) listed a w:=by
 intro fuel
 induction fuel with
 | zero=>
  intro listed a w _ _ hr hy H w' oa
  refine⟨fun h=>(by rw[h] at hr;cases hr),fun j hj=>?_⟩
  by_cases xn:j=i
  ·subst xn
   by_cases ht:tl j=false
   ·exact(hy w').opN hi fun oK e=>⟨⟨fun _=>e,fun _=>AG _ _ e⟩,H.up (oa.trans e)⟩
   ·exact(hy w').opN hi fun oK e=>⟨⟨fun h=>absurd h ht,fun _=>AG _ _ e⟩,H.up (oa.trans e)⟩
  ·have:=ready_mono hj xn
   rw[(H w' oa).1] at this
   cases this
 | succ fuel ih=>
  intro listed a w Co sh hr hy H w' oa
  refine⟨fun h=>(by rw[h] at hr;cases hr),fun j hj=>?_⟩
  by_cases xn:j=i
  ·subst xn;exact(hy w').opN hi fun oK e=>⟨⟨fun _=>e,fun _=>AG _ _ e⟩,H.up (oa.trans e)⟩
  ·have h1:=(H w' oa).2 j (ready_mono hj xn)
   obtain⟨Av,oj,AS,Aw⟩:=mem_ready.1 hj
   have xN:∀ k,listed.getD k true=false->listed.getD k false=true->False:=fun k h0 h1=>by
    rcases Nat.lt_or_ge k listed.size with h' | h'
    ·simp[h'] at h0 h1;rw[h0] at h1;cases h1
    ·simp[Array.getElem?_eq_none h'] at h1
   have zN:B j=false:=by
    cases hbj:B j with
    | false=>rfl
    | true=>
     obtain⟨e,he,hb,hon⟩:=hB j oj AS hbj
     have h1:=Aw e he hb
     rcases hon with hon | hon
     ·rw[hon] at h1;exact(xN i (mem_ready.1 hr).1 h1).elim
     ·exact(xN e.on (Co _ hon) h1).elim
   have Bp:=sh j oj AS xn Av zN
   have h2:=WA AS Bp (fun cs b=>Au i oi cs b hi) (fun cs b=>Au j oj cs b AS) hy h1
   have Bq:∀ k,B k=true->(listed.setIfInBounds j true).getD k true=false:=fun k hk=>by
    have AU:j≠k:=fun e=>by rw[<- e,zN] at hk;cases hk
    rw[getD_set_ne true AU];exact Co k hk
   have zC:∀ k ok,eA[k]?=some ok->k≠i->(listed.setIfInBounds j true).getD k true=false->
     B k=false->oi.apart eA ok=true:=fun k ok hk Ds BW Bb=>by
    refine sh k ok hk Ds ?_ Bb
    by_cases AU:j=k
    ·subst AU;exact Av
    ·rw[getD_set_ne true AU] at BW;exact BW
   refine oZ (fun a' oK h3=>⟨h3.2.1,?_⟩) h2
   refine ih (listed.setIfInBounds j true) a' oK Bq zC (ready_mono hr (Ne.symm xn)) h3.1 ?_
   rw[Array.setIfInBounds_comm _ _ xn]
   exact h3.2.2
theorem ni{B:Nat->Bool}(AG:∀ w w',Ext w w'->St w->St w')(hi:eA[i]?=some oi)(Au:∀(j:Nat) (o:Oper) cs b,eA[j]?=some o->o.op ≠ .select cs b)(hfin:∀ j,bB eA j=true->j≠i->B j=true)(hB:∀ j oj,eA[j]?=some oj->B j=true->∃ e∈oj.after,Region.binds .any e=true/\(e.on=i\/B e.on=true)):
  ∀(fuel:Nat) (listed:Array Bool) (a:Act) (w:World),
   (∀ j,B j=true->listed.getD j true=false)->
   (∀ j oj,eA[j]?=some oj->j≠i->listed.getD j true=false->B j=false->oi.apart eA oj=true)->
   i∈Region.ready .any eA listed->St w->(∀ w',St w'->YE P eA oi v a w')->
   gG P eA tl St Q fuel (listed.setIfInBounds i true) (a.put oi.dst v) w->gG P eA tl St Q (fuel+1) listed a w:=by
 intro fuel
 induction fuel with
 | zero=>
  intro listed a w _ _ hr lu hy H w' oa
  refine⟨fun h=>(by rw[h] at hr;cases hr),fun j hj=>?_⟩
  by_cases xn:j=i
  ·subst xn
   by_cases ht:tl j=false
   ·exact(hy w' (AG _ _ oa lu)).opN hi fun oK e=>⟨⟨fun _=>e,fun _=>AG _ _ e⟩,H.up (oa.trans e)⟩
   ·exact(hy w' (AG _ _ oa lu)).opN hi fun oK e=>⟨⟨fun h=>absurd h ht,fun _=>AG _ _ e⟩,H.up (oa.trans e)⟩
  ·have:=ready_mono hj xn
   rw[(H w' oa).1] at this
   cases this
 | succ fuel ih=>
  intro listed a w Co sh hr lu hy H w' oa
  refine⟨fun h=>(by rw[h] at hr;cases hr),fun j hj=>?_⟩
  by_cases xn:j=i
  ·subst xn;exact(hy w' (AG _ _ oa lu)).opN hi fun oK e=>⟨⟨fun _=>e,fun _=>AG _ _ e⟩,H.up (oa.trans e)⟩
  ·have h1:=(H w' oa).2 j (ready_mono hj xn)
   obtain⟨Av,oj,AS,Aw⟩:=mem_ready.1 hj
   have xN:∀ k,listed.getD k true=false->listed.getD k false=true->False:=fun k h0 h1=>by
    rcases Nat.lt_or_ge k listed.size with h' | h'
    ·simp[h'] at h0 h1;rw[h0] at h1;cases h1
    ·simp[Array.getElem?_eq_none h'] at h1
   have zN:B j=false:=by
    cases hbj:B j with
    | false=>rfl
    | true=>
     obtain⟨e,he,hb,hon⟩:=hB j oj AS hbj
     have h1:=Aw e he hb
     rcases hon with hon | hon
     ·rw[hon] at h1;exact(xN i (mem_ready.1 hr).1 h1).elim
     ·exact(xN e.on (Co _ hon) h1).elim
   have Bp:=sh j oj AS xn Av zN
   have h2:=WB AS Bp (fun cs b=>Au i oi cs b hi) (fun cs b=>Au j oj cs b AS) (AG _ _ oa lu) hy h1
   have Bq:∀ k,B k=true->(listed.setIfInBounds j true).getD k true=false:=fun k hk=>by
    have AU:j≠k:=fun e=>by rw[<- e,zN] at hk;cases hk
    rw[getD_set_ne true AU];exact Co k hk
   have zC:∀ k ok,eA[k]?=some ok->k≠i->(listed.setIfInBounds j true).getD k true=false->
     B k=false->oi.apart eA ok=true:=fun k ok hk Ds BW Bb=>by
    refine sh k ok hk Ds ?_ Bb
    by_cases AU:j=k
    ·subst AU;exact Av
    ·rw[getD_set_ne true AU] at BW;exact BW
   refine oZ (fun a' oK h3=>⟨h3.2.1,?_⟩) h2
   refine ih (listed.setIfInBounds j true) a' oK Bq zC (ready_mono hr (Ne.symm xn)) (h3.2.1.2 (by cases hfb:bB eA j with | false=>rfl | true=>rw[hfin j hfb xn] at zN;cases zN) (AG _ _ oa lu)) h3.1 ?_
   rw[Array.setIfInBounds_comm _ _ xn]
   exact h3.2.2
end
def gL(eA:Array Oper)(tl:Nat->Bool)(listed:Array Bool)(i:Nat):Bool:=
 let B:=g7 eA i
 match eA[i]? with
 | none=>false
 | some oi=>Nat.beq B.size eA.size&&(List.range eA.size).all fun j=>
   (!B.getD j false||(!listed.getD j true&&match eA[j]? with
    | none=>false
    | some oj=>oj.after.any fun e=>Region.binds .any e&&(Nat.beq e.on i||B.getD e.on false))) &&
   (Nat.beq j i||listed.getD j true||B.getD j false ||
   match eA[j]? with
   | none=>true
   | some oj=>oi.apart eA oj && !tl j)
theorem j5{eA:Array Oper}{tl:Nat->Bool}{listed:Array Bool}(hi:eA[i]?=some oi)(h:gL eA tl listed i=true):
  (∀ j oj,eA[j]?=some oj->(g7 eA i).getD j false=true->∃ e∈oj.after,Region.binds .any e=true/\(e.on=i\/(g7 eA i).getD e.on false=true))/\
  (∀ j,(g7 eA i).getD j false=true->listed.getD j true=false)/\
  (∀ j oj,eA[j]?=some oj->j≠i->listed.getD j true=false->(g7 eA i).getD j false=false->oi.apart eA oj=true/\tl j=false):=by
 unfold gL at h
 simp only[hi,Bool.and_eq_true,List.all_eq_true,List.mem_range] at h
 obtain⟨lA,h⟩:=h
 have hsz':=Nat.eq_of_beq_eq_true lA
 have mL:∀ j,(g7 eA i).getD j false=true->j<eA.size:=fun j hj=>by
  rcases Nat.lt_or_ge j eA.size with h' | h'
  ·exact h'
  ·simp[Array.getElem?_eq_none (show(g7 eA i).size<=j by omega)] at hj
 refine⟨fun j oj hj hb=>?_,fun j hb=>?_,fun j oj hj xn BW Bb=>?_⟩
 ·have:=(h j (mL j hb)).1
  rw[hb,hj] at this
  simp only[Bool.not_true,Bool.false_or,Bool.and_eq_true] at this
  obtain⟨k,hk,he⟩:=Array.any_eq_true.1 this.2
  simp only[Bool.and_eq_true,Bool.or_eq_true] at he
  exact⟨_,Array.getElem_mem hk,he.1,he.2.imp Nat.eq_of_beq_eq_true id⟩
 ·have:=(h j (mL j hb)).1
  rw[hb] at this
  simp only[Bool.not_true,Bool.false_or,Bool.and_eq_true,Bool.not_eq_true'] at this
  exact this.1
 ·have hl:j<eA.size:=by
   rcases Nat.lt_or_ge j eA.size with h' | h'
   ·exact h'
   ·simp[Array.getElem?_eq_none h'] at hj
  have:=(h j hl).2
  rw[hj,uw xn,BW,Bb] at this
  simpa using this
def mj(eA:Array Oper):Bool:=eA.all fun o=>match o.op with | .select .. => false | _=>true
theorem tQ{eA:Array Oper}(h:mj eA=true):∀(j:Nat) (o:Oper) cs b,eA[j]?=some o->o.op ≠ .select cs b:=by
 intro j o cs b hj he
 unfold mj at h
 rw[Array.all_eq_true] at h
 obtain⟨mL,hx⟩:=Array.getElem?_eq_some_iff.1 hj
 have:=h j mL
 rw[hx,he] at this
 cases this
def WD(P:Program)(n:Nat)(F:List Nat)(w₀:World)(eA:Array Oper)(tl:Nat->Bool)(Ls:List Asrt)(Q:Act->World->Prop)(fuel:Nat)(listed:Array Bool)(env:List (Nat×Value))(L:List Asrt):Prop:=∀ a w,SS n F w₀ env L a w->gG P eA tl (fun w=>Hp F w₀ w Ls) Q fuel listed a w
inductive Wk:List Asrt->List Asrt->Prop
 | nil:Wk [] []
 | same {x:Asrt} {L M:List Asrt} (t:Wk L M):Wk (x::L) (x::M)
 | any {x y:Asrt} {L M:List Asrt} (hf:y.fp=x.fp) (h:∀ w,x.ok w->y.ok w) (t:Wk L M):Wk (x::L) (y::M)
theorem Wk.refl:∀ L:List Asrt,Wk L L
 | [] => .nil
 | _::L => .same (Wk.refl L)
theorem Wk.mem{L:List Asrt}(h:Wk L M):∀ y∈M,∃ x∈L,y.fp=x.fp/\∀ w,x.ok w->y.ok w:=by
 induction h with
 | nil=>intro y hy;cases hy
 | @same x _ _ _ ih=>
  intro y hy
  rcases List.mem_cons.1 hy with rfl | hy
  ·exact⟨_,List.mem_cons_self ..,rfl,fun _ h=>h⟩
  ·obtain⟨x,hx,h⟩:=ih y hy;exact⟨x,List.mem_cons_of_mem _ hx,h⟩
 | @any x y' _ _ hf hk _ ih=>
  intro y hy
  rcases List.mem_cons.1 hy with rfl | hy
  ·exact⟨_,List.mem_cons_self ..,hf,hk⟩
  ·obtain⟨x,hx,h⟩:=ih y hy;exact⟨x,List.mem_cons_of_mem _ hx,h⟩
theorem Wk.sep{L:List Asrt}(h:Wk L M)(hs:L.Pairwise fun x y=>∀ b∈x.fp,b∉y.fp):M.Pairwise fun x y=>∀ b∈x.fp,b∉y.fp:=by
 induction h with
 | nil=>exact .nil
 | same t ih=>
  rw[List.pairwise_cons] at hs ⊢
  refine⟨fun y hy b hb=>?_,ih hs.2⟩
  obtain⟨x,hx,hf,_⟩:=t.mem y hy
  rw[hf];exact hs.1 x hx b hb
 | any hf _ t ih=>
  rw[List.pairwise_cons] at hs ⊢
  refine⟨fun y hy b hb=>?_,ih hs.2⟩
  obtain⟨x,hx,Cp,_⟩:=t.mem y hy
  rw[Cp];exact hs.1 x hx b (hf▸hb)
theorem Wk.hp{F:List Nat}{w₀ w:World}{L M:List Asrt}(h:Wk L M)(hp:Hp F w₀ w L):Hp F w₀ w M:=
 ⟨hp.os,hp.tape,hp.output,hp.size,hp.block,fun y hy=>by obtain⟨x,hx,_,hk⟩:=h.mem y hy;exact hk w (hp.ok x hx),
  fun y hy b hb=>by obtain⟨x,hx,hf,_⟩:=h.mem y hy;exact hp.lt x hx b (hf▸hb),fun y hy b hb=>by obtain⟨x,hx,hf,_⟩:=h.mem y hy;exact hp.ow x hx b (hf▸hb),h.sep hp.sep⟩
def ws(L Ls:List Asrt):Prop:=∃ L' M,Sel L L' M/\Wk L' Ls
theorem ws.of{L Ls:List Asrt}(h:Sel L Ls M):ws L Ls:=⟨Ls,M,h,Wk.refl _⟩
theorem ws.wk{L Ls:List Asrt}(h:Sel L L' M)(k:Wk L' Ls):ws L Ls:=⟨L',M,h,k⟩
theorem ws.hp{F:List Nat}{w₀ w:World}{L Ls:List Asrt}(h:ws L Ls)(hp:Hp F w₀ w L):Hp F w₀ w Ls:=by
 obtain⟨L',M,hs,hk⟩:=h
 exact hk.hp (hp.sub hs)
section
variable {P:Program} {n:Nat} {F:List Nat} {w₀:World} {eA:Array Oper} {tl:Nat->Bool} {Ls:List Asrt} {fuel:Nat} {listed:Array Bool}
 {env:List (Nat×Value)} {L:List Asrt} {o:Oper} {Q:Act->World->Prop}
theorem WD.e{v:Value}{d i:Nat}(zj:mj eA=true)(hi:eA[i]?=some o)(hr:(Region.ready .any eA listed).contains i=true)(hf:gL eA tl listed i=true)(hg:gd env eA o=some true)(hd:o.dst=some d)(iR:Nat.blt d n=true)(hq:∀ a w,SS n F w₀ env L a w->(execOp a.eval o).run P w = .ok (.value v) w)(k:WD P n F w₀ eA tl Ls Q fuel (listed.setIfInBounds i true) ((d,v)::env) L):WD P n F w₀ eA tl Ls Q (fuel+1) listed env L:=by
 intro a w h
 refine ir (fun _ _ e h=>h.ext e) hi (tQ zj) (j5 hi hf).1 fuel listed a w (j5 hi hf).2.1 (j5 hi hf).2.2 (by simpa using hr) (v:=v) (.inl ⟨ja h hg,fun w' e=>?_⟩) ?_
 ·rw[hq a w' (h.world (h.hp.ext e))];exact⟨.refl _,rfl⟩
 ·rw[hd];exact k _ _ (h.put iR v h.hp)
theorem WD.a{v:Value}{d i:Nat}(zj:mj eA=true)(hi:eA[i]?=some o)(hr:(Region.ready .any eA listed).contains i=true)(hf:gL eA (fun _=>false) listed i=true)(hg:gd env eA o=some true)(hd:o.dst=some d)(iR:Nat.blt d n=true)(hq:∀ w₀ a w,SS n [] w₀ env [] a w->(execOp a.eval o).run P w = .ok (.value v) w)(k:WD P n F w₀ eA tl Ls Q fuel (listed.setIfInBounds i true) ((d,v)::env) L):WD P n F w₀ eA tl Ls Q (fuel+1) listed env L:=by
 intro a w h
 refine lT (fun _ _ e h=>h.ext e) hi (tQ zj) (j5 hi hf).1 fuel listed a w (j5 hi hf).2.1 (fun j oj h1 h2 h3 h4=>((j5 hi hf).2.2 j oj h1 h2 h3 h4).1) (by simpa using hr) (v:=v) (fun w1 => .inl ⟨ja h hg,fun w' _=>?_⟩) ?_
 ·rw[hq w' a w' ⟨h.defers,h.size,h.ev,.nil w' []⟩];exact⟨.refl _,rfl⟩
 ·rw[hd];exact k _ _ (h.put iR v h.hp)
theorem WD.XD{d:Nat}(zj:mj eA=true)(hi:eA[i]?=some o)(hr:(Region.ready .any eA listed).contains i=true)(hf:gL eA (fun _=>false) listed i=true)(hg:gd env eA o=some true)(hd:o.dst=some d)(iR:Nat.blt d n=true)(hs:ws L Ls)(hq:∀ a w,SS n F w₀ env Ls a w->(execOp a.eval o).run P w = .ok (.value v) w)(k:WD P n F w₀ eA tl Ls Q fuel (listed.setIfInBounds i true) ((d,v)::env) L):WD P n F w₀ eA tl Ls Q (fuel+1) listed env L:=by
 intro a w h
 refine ni (fun _ _ e h=>h.ext e) hi (tQ zj) (fun j h1 h2=>XC hi h1 h2) (j5 hi hf).1 fuel listed a w (j5 hi hf).2.1 (fun j oj h1 h2 h3 h4=>((j5 hi hf).2.2 j oj h1 h2 h3 h4).1) (by simpa using hr) (v:=v) (hs.hp h.hp) (fun w1 hw1 => .inl ⟨ja h hg,fun w' e=>?_⟩) ?_
 ·rw[hq a w' ⟨h.defers,h.size,h.ev,hw1.ext e⟩];exact⟨.refl _,rfl⟩
 ·rw[hd];exact k _ _ (h.put iR v h.hp)
theorem WD.c{d:Nat}{f:FuncId}{vs:Array Value}(zj:mj eA=true)(hi:eA[i]?=some o)(hr:(Region.ready .any eA listed).contains i=true)(hf:gL eA tl listed i=true)(hg:gd env eA o=some true)(hd:o.dst=some d)(iR:Nat.blt d n=true)(f5:∀ a w,SS n F w₀ env L a w->(execOp a.eval o).run P w = .ok (.enter f vs) w)(hc:∀ w,Hp F w₀ w L->Calls P f vs w fun e w'=>e = .returned v/\Hp [] w w' [])(k:WD P n F w₀ eA tl Ls Q fuel (listed.setIfInBounds i true) ((d,v)::env) L):WD P n F w₀ eA tl Ls Q (fuel+1) listed env L:=by
 intro a w h
 refine ir (fun _ _ e h=>h.ext e) hi (tQ zj) (j5 hi hf).1 fuel listed a w (j5 hi hf).2.1 (j5 hi hf).2.2 (by simpa using hr) (v:=v) (.inl ⟨ja h hg,fun w' e=>?_⟩) ?_
 ·have h':=h.world (h.hp.ext e)
  rw[f5 a w' h']
  exact⟨.refl _,(hc w' h'.hp).mono fun e oK ⟨he,hx⟩=>⟨he,hx.toExt⟩⟩
 ·rw[hd];exact k _ _ (h.put iR v h.hp)
theorem WD.b{d:Nat}(zj:mj eA=true)(hi:eA[i]?=some o)(hr:(Region.ready .any eA listed).contains i=true)(hf:gL eA (fun _=>false) listed i=true)(hg:gd env eA o=some false)(hd:o.dst=some d)(iR:Nat.blt d n=true)(k:WD P n F w₀ eA tl Ls Q fuel (listed.setIfInBounds i true) ((d,undef)::env) L):WD P n F w₀ eA tl Ls Q (fuel+1) listed env L:=by
 intro a w h
 refine lT (fun _ _ e h=>h.ext e) hi (tQ zj) (j5 hi hf).1 fuel listed a w (j5 hi hf).2.1 (fun j oj h1 h2 h3 h4=>((j5 hi hf).2.2 j oj h1 h2 h3 h4).1) (by simpa using hr) (v:=undef) (fun _ => .inr ⟨ja h hg,rfl⟩) ?_
 rw[hd];exact k _ _ (h.put iR undef h.hp)
theorem WD.forced{G:Type}{φ:G->Prop}{val:G->Value}{L':G->List Asrt}{d:Nat}(hi:eA[i]?=some o)(hr:Region.ready .any eA listed=[i])(hg:gd env eA o=some true)(hd:o.dst=some d)(iR:Nat.blt d n=true)(hq:∀ a w,SS n F w₀ env L a w->∃ g w',(execOp a.eval o).run P w = .ok (.value (val g)) w'/\φ g/\Hp F w₀ w' (L' g)/\(tl i=false->Ext w w'))(lu:tl i=true->∀ g,ws (L' g) Ls)(k:∀ g,φ g->WD P n F w₀ eA tl Ls Q fuel (listed.setIfInBounds i true) ((d,val g)::env) (L' g)):WD P n F w₀ eA tl Ls Q (fuel+1) listed env L:=by
 intro a w h w' e
 have h':=h.world (h.hp.ext e)
 rw[hr]
 refine⟨by simp,fun j hj=>?_⟩
 simp at hj;subst hj
 obtain⟨g,oK,f5,so,hp,hx⟩:=hq a w' h'
 unfold opN
 simp only[hi,ja h' hg,if_true,f5,Oper.wY,hd]
 refine⟨⟨hx,fun _ h0=>?_⟩,k g so _ _ (h'.put iR _ hp)⟩
 cases ht:tl j with
 | false=>exact h0.ext (hx ht)
 | true=>exact(lu ht g).hp hp
theorem WD.forced0(hi:eA[i]?=some o)(hr:Region.ready .any eA listed=[i])(hg:gd env eA o=some true)(hd:o.dst=none)(ht:tl i=true)(lu:ws L' Ls)(hq:∀ a w,SS n F w₀ env L a w->∃ w',ot P o a w w'/\Hp F w₀ w' L')(k:WD P n F w₀ eA tl Ls Q fuel (listed.setIfInBounds i true) env L'):WD P n F w₀ eA tl Ls Q (fuel+1) listed env L:=by
 intro a w h w' e
 have h':=h.world (h.hp.ext e)
 rw[hr]
 refine⟨by simp,fun j hj=>?_⟩
 simp at hj;subst hj
 obtain⟨oK,f5,hp⟩:=hq a w' h'
 unfold opN
 rcases f5 with f5 | ⟨v,f5⟩
 ·simp only[hi,ja h' hg,if_true,f5,Oper.wY,hd]
  exact⟨⟨fun hf=>(by rw[ht] at hf;cases hf),fun _ _=>lu.hp hp⟩,k _ _ (h'.world hp)⟩
 ·simp only[hi,ja h' hg,if_true,f5,Oper.wY,hd]
  exact⟨⟨fun hf=>(by rw[ht] at hf;cases hf),fun _ _=>lu.hp hp⟩,k _ _ (h'.world hp)⟩
theorem WD.jf(hi:eA[i]?=some o)(hr:Region.ready .any eA listed=[i])(hg:gd env eA o=some true)(hd:o.dst=none)(ht:tl i=true)(lu:bB eA i=true)(hq:∀ a w,SS n F w₀ env L a w->∃ w',ot P o a w w'/\Hp F w₀ w' L')(k:WD P n F w₀ eA tl Ls Q fuel (listed.setIfInBounds i true) env L'):WD P n F w₀ eA tl Ls Q (fuel+1) listed env L:=by
 intro a w h w' e
 have h':=h.world (h.hp.ext e)
 rw[hr]
 refine⟨by simp,fun j hj=>?_⟩
 simp at hj;subst hj
 obtain⟨oK,f5,hp⟩:=hq a w' h'
 unfold opN
 rcases f5 with f5 | ⟨v,f5⟩
 ·simp only[hi,ja h' hg,if_true,f5,Oper.wY,hd]
  exact⟨⟨fun hf=>(by rw[ht] at hf;cases hf),fun hf=>by rw[lu] at hf;cases hf⟩,k _ _ (h'.world hp)⟩
 ·simp only[hi,ja h' hg,if_true,f5,Oper.wY,hd]
  exact⟨⟨fun hf=>(by rw[ht] at hf;cases hf),fun hf=>by rw[lu] at hf;cases hf⟩,k _ _ (h'.world hp)⟩
theorem WD.forcedCall{G:Type}{φ:G->Prop}{val:G->Value}{M:G->List Asrt}{f:FuncId}{vs:Array Value}{Lc Lr:List Asrt}{d:Nat}(hi:eA[i]?=some o)(hr:Region.ready .any eA listed=[i])(hg:gd env eA o=some true)(hd:o.dst=some d)(iR:Nat.blt d n=true)(ht:(tl i=true/\∀ g,ws (M g++Lr) Ls)\/Lc=[])(f5:∀ a w,SS n F w₀ env L a w->(execOp a.eval o).run P w = .ok (.enter f vs) w)(hs:Sel L Lc Lr)(hc:∀ w,Hp F w₀ w L->Calls P f vs w fun e w'=>∃ g,e = .returned (val g)/\φ g/\Hp (Lc.flatMap (·.fp)) w w' (M g))(k:∀ g,φ g->WD P n F w₀ eA tl Ls Q fuel (listed.setIfInBounds i true) ((d,val g)::env) (M g++Lr)):WD P n F w₀ eA tl Ls Q (fuel+1) listed env L:=by
 intro a w h w' e
 have h':=h.world (h.hp.ext e)
 rw[hr]
 refine⟨by simp,fun j hj=>?_⟩
 simp at hj;subst hj
 unfold opN
 simp only[hi,ja h' hg,if_true,f5 a w' h',Oper.wY,hd]
 refine(hc w' h'.hp).mono ?_
 rintro e' oK ⟨g,rfl,so,hp⟩
 have zu:=h'.hp.call hs hp
 refine⟨_,rfl,⟨fun hf=>?_,fun _ h0=>?_⟩,k g so _ _ (h'.put iR _ zu)⟩
 ·rcases ht with ht | rfl
  ·rw[ht.1] at hf;cases hf
  ·exact hp.toExt
 ·rcases ht with ht | rfl
  ·exact(ht.2 g).hp zu
  ·exact h0.ext hp.toExt
theorem WD.done(hr:Region.ready .any eA listed=[]){Q':Exit->Act->World->Prop}(k:WX n F w₀ Q' .normal env L):WD P n F w₀ eA tl Ls (Q' .normal) fuel listed env L:=by
 intro a w h
 cases fuel with
 | zero=>exact fun w' e=>⟨hr,k _ _ (h.world (h.hp.ext e))⟩
 | succ f=>exact fun w' e=>⟨fun _=>k _ _ (h.world (h.hp.ext e)),fun i hi=>by rw[hr] at hi;cases hi⟩
theorem WD.restr{env':List (Nat×Value)}(hr:Restr env env')(k:WD P n F w₀ eA tl Ls Q fuel listed env' L):WD P n F w₀ eA tl Ls Q fuel listed env L:=
 fun a w h=>k a w (h.restr hr)
theorem Lw{Q:Exit->Act->World->Prop}{id:Nat}{l:List Oper}(tl:Nat->Bool)(Ls:List Asrt)(hm:P.follows .mixedOrders=true)(k:WD P n F w₀ l.toArray tl Ls (Q .normal) l.length (Array.replicate l.length false) env L):WC P n F w₀ Q (.region id l.toArray true) env L:=by
 intro a w h
 refine wpIn_region_any hm ?_
 have:=k a _ (h.world (h.hp.ext (Ext.drew w (w.drawn+1) (Nat.le_succ _))))
 simpa using gG.iq (Q':=Q) (fun _ _ h=>h) this
end
end
section
variable [Rnd]
def Qt(P:Program)(n:Nat)(F:List Nat)(w₀:World)(env:List (Nat×Value))(L:List Asrt)(o:Oper)(v:Value):Prop:=
 ∀ a w,SS n F w₀ env L a w->(execOp a.eval o).run P w = .ok (.value v) w
section
variable {P:Program} {n:Nat} {F:List Nat} {w₀:World} {env:List (Nat×Value)} {L:List Asrt}
 {d:Option Tmp} {ty:TypeId} {pos:String} {after:Array Edge} {g:Option (Nat×Bool)} {x y c:Operand} {v u:Value}
theorem q_m(hx:eo env x=some v):Qt P n F w₀ env L ⟨d,.move x,ty,pos,after,g⟩ v:=by
 intro a w h;simp[execOp,h.eval hx]
theorem q_z(hx:eo env x=some v):Qt P n F w₀ env L ⟨d,.assign x,ty,pos,after,g⟩ v:=by
 intro a w h;simp[execOp,h.eval hx]
theorem jI(hc:eo env c=some (.bool true))(hx:eo env x=some v):Qt P n F w₀ env L ⟨d,.pick c x y,ty,pos,after,g⟩ v:=by
 intro a w h;simp[execOp,h.eval hc,h.eval hx,asBool]
theorem jJ(hc:eo env c=some (.bool false))(hy:eo env y=some v):Qt P n F w₀ env L ⟨d,.pick c x y,ty,pos,after,g⟩ v:=by
 intro a w h;simp[execOp,h.eval hc,h.eval hy,asBool]
theorem wx{p:Addr}(hx:eo env x=some (.pointer (some p))):Qt P n F w₀ env L ⟨d,.nilCheck x,ty,pos,after,g⟩ (.pointer (some p)):=by
 intro a w h;simp[execOp,h.eval hx]
theorem ka{i:Nat}{vs:List Value}(hx:eo env x=some (.tuple vs.toArray))(hi:vs[i]?=some v):Qt P n F w₀ env L ⟨d,.extract x i,ty,pos,after,g⟩ v:=by
 intro a w h;simp[execOp,h.eval hx,Instr.extract,hi]
/-! integers -/
variable {k k':IntKind} {p q r:Int} {t t':TypeId}
theorem tR(hx:eo env x=some (.int k p))(hy:eo env y=some (.int k q))(hw:k.wrap (p+q)=r):Qt P n F w₀ env L ⟨d,.binOp .add t x y t',ty,pos,after,g⟩ (.int k r):=by
 intro a w h;simp[execOp,h.eval hx,h.eval hy,binOp_add,eqGuard_add,Op.intArith,hw]
theorem sM(hx:eo env x=some (.int k p))(hy:eo env y=some (.int k q))(hw:k.wrap (p-q)=r):Qt P n F w₀ env L ⟨d,.binOp .sub t x y t',ty,pos,after,g⟩ (.int k r):=by
 intro a w h;simp[execOp,h.eval hx,h.eval hy,binOp_sub,eqGuard_sub,Op.intArith,hw]
theorem uk(hx:eo env x=some (.int k p))(hy:eo env y=some (.int k q))(hw:k.wrap (p*q)=r):Qt P n F w₀ env L ⟨d,.binOp .mul t x y t',ty,pos,after,g⟩ (.int k r):=by
 intro a w h;simp[execOp,h.eval hx,h.eval hy,binOp_mul,eqGuard_mul,Op.intArith,hw]
theorem l3(hx:eo env x=some (.int k p))(hy:eo env y=some (.int k q))(h0:q≠0)(hw:k.wrap (p.tdiv q)=r):Qt P n F w₀ env L ⟨d,.binOp .quo t x y t',ty,pos,after,g⟩ (.int k r):=by
 intro a w h;simp[execOp,h.eval hx,h.eval hy,binOp_quo,eqGuard_quo,Op.intDiv,hw,h0]
theorem nq(hx:eo env x=some (.int k p))(hy:eo env y=some (.int k q))(h0:q≠0)(hw:p.tmod q=r):Qt P n F w₀ env L ⟨d,.binOp .rem t x y t',ty,pos,after,g⟩ (.int k r):=by
 intro a w h;simp[execOp,h.eval hx,h.eval hy,binOp_rem,eqGuard_rem,Op.intDiv,hw,h0]
theorem nr(hx:eo env x=some (.int k p))(hy:eo env y=some (.int k q)):Qt P n F w₀ env L ⟨d,.binOp .lss t x y t',ty,pos,after,g⟩ (.bool (decide (p<q))):=by
 intro a w h;simp[execOp,h.eval hx,h.eval hy,binOp_lss,eqGuard_lss]
theorem X0(hx:eo env x=some (.int k p))(hy:eo env y=some (.int k q)):Qt P n F w₀ env L ⟨d,.binOp .leq t x y t',ty,pos,after,g⟩ (.bool (decide (p<=q))):=by
 intro a w h;simp[execOp,h.eval hx,h.eval hy,binOp_leq,eqGuard_leq]
theorem cx(hx:eo env x=some (.int k p))(hy:eo env y=some (.int k q)):Qt P n F w₀ env L ⟨d,.binOp .gtr t x y t',ty,pos,after,g⟩ (.bool (decide (p>q))):=by
 intro a w h;simp[execOp,h.eval hx,h.eval hy,binOp_gtr,eqGuard_gtr]
theorem X1(hx:eo env x=some (.int k p))(hy:eo env y=some (.int k q)):Qt P n F w₀ env L ⟨d,.binOp .geq t x y t',ty,pos,after,g⟩ (.bool (decide (p>=q))):=by
 intro a w h;simp[execOp,h.eval hx,h.eval hy,binOp_geq,eqGuard_geq]
theorem l4(hx:eo env x=some (.int k p))(hy:eo env y=some (.int k q)):Qt P n F w₀ env L ⟨d,.binOp .eql t x y t',ty,pos,after,g⟩ (.bool (decide (p=q))):=by
 intro a w h;simp only[execOp,h.eval hx,h.eval hy,binOp_eql,eqGuard_at_int];rw[show(p == q)=decide (p=q) from by by_cases e:p=q <;> simp[e]];simp
theorem cz(hx:eo env x=some (.int k p))(hy:eo env y=some (.int k q)):Qt P n F w₀ env L ⟨d,.binOp .neq t x y t',ty,pos,after,g⟩ (.bool (decide (p≠q))):=by
 intro a w h;simp only[execOp,h.eval hx,h.eval hy,binOp_neq,eqGuard_at_int];rw[show(p != q)=decide (p≠q) from by by_cases e:p=q <;> simp[e]];simp
theorem ns(hx:eo env x=some (.int k p))(hw:k.wrap (0-p)=r):Qt P n F w₀ env L ⟨d,.unOp .neg t x,ty,pos,after,g⟩ (.int k r):=by
 intro a w h
 have:k.wrap (-p)=r:=by rw[<- hw];congr 1;omega
 simp[execOp,h.eval hx,Op.unary,Op.intArith,this]
theorem X2{b:Bool}(hx:eo env x=some (.bool b)):Qt P n F w₀ env L ⟨d,.unOp .not t x,ty,pos,after,g⟩ (.bool (!b)):=by
 intro a w h;simp[execOp,h.eval hx,Op.unary]
theorem tk{dd:TypeDesc}(hs:P.underlying t=some dd)(hd:P.underlying t'=some (.int k'))(hx:eo env x=some (.int k p))(hw:k'.wrap p=r):Qt P n F w₀ env L ⟨d,.convert t t' x,ty,pos,after,g⟩ (.int k' r):=by
 intro a w h;simp[execOp,h.eval hx,hw,convert,run_underlying hs,run_underlying hd,Conv.intToInt]
theorem l5{at_:Array TypeId}(hx:eo env x=some (.int k p))(hy:eo env y=some (.int k q))(hw:max p q=r):Qt P n F w₀ env L ⟨d,.call ⟨.builtin .max,#[x,y],at_⟩,ty,pos,after,g⟩ (.int k r):=by
 intro a w h
 have:(if q>p then q else p)=r:=by subst hw;simp only[Int.max_def];split <;> split <;> omega
 simp[execOp,h.eval hx,h.eval hy,resolve,invoke,builtin,run_max_int2,this]
theorem q_min{at_:Array TypeId}(hx:eo env x=some (.int k p))(hy:eo env y=some (.int k q))(hw:min p q=r):Qt P n F w₀ env L ⟨d,.call ⟨.builtin .min,#[x,y],at_⟩,ty,pos,after,g⟩ (.int k r):=by
 intro a w h
 have:(if q<p then q else p)=r:=by subst hw;simp only[Int.min_def];split <;> split <;> omega
 simp[execOp,h.eval hx,h.eval hy,resolve,invoke,builtin,run_min_int2,this]
/-! pointers -/
theorem wq{fn:Fn}{caps:Array Operand}{vs:Array Value}(hc:∀ a w,SS n F w₀ env L a w->caps.map a.eval=vs):Qt P n F w₀ env L ⟨d,.makeFunc fn #[] caps,ty,pos,after,g⟩ (.func fn #[] vs):=by
 intro a w h;simp[execOp,Instr.makeFunc,hc a w h]
end
end
section
variable {x y a0 a1:Asrt}{w w₀:World}{F:List Nat}{α:Type}{cs:List Value}{P:Program}{L:List Asrt}{t:TypeId}{i:TypeInfo}{v:Value}{A:Addr}{sz:Nat}
variable [Rnd]
inductive Upd:List Asrt->Asrt->Asrt->List Asrt->Prop
  | here {x y:Asrt} {R:List Asrt}:Upd (x::R) x y (y::R)
  | there {x y z:Asrt} {L R:List Asrt} (h:Upd L x y R):Upd (z::L) x y (z::R)
theorem Upd.h1{R:List Asrt}:Upd (a0::x::R) x y (a0::y::R) := .there .here
theorem Upd.h2{R:List Asrt}:Upd (a0::a1::x::R) x y (a0::a1::y::R) := .there .h1
theorem Upd.h3{a2:Asrt}{R:List Asrt}:Upd (a0::a1::a2::x::R) x y (a0::a1::a2::y::R) := .there .h2
theorem Upd.h4{a2 a3:Asrt}{R:List Asrt}:Upd (a0::a1::a2::a3::x::R) x y (a0::a1::a2::a3::y::R) := .there .h3
theorem Upd.h5{a2 a3 a4:Asrt}{R:List Asrt}:Upd (a0::a1::a2::a3::a4::x::R) x y (a0::a1::a2::a3::a4::y::R) := .there .h4
theorem Upd.h6{a2 a3 a4 a5:Asrt}{R:List Asrt}:Upd (a0::a1::a2::a3::a4::a5::x::R) x y (a0::a1::a2::a3::a4::a5::y::R) := .there .h5
theorem Upd.h7{a2 a3 a4 a5 a6:Asrt}{R:List Asrt}:Upd (a0::a1::a2::a3::a4::a5::a6::x::R) x y (a0::a1::a2::a3::a4::a5::a6::y::R) := .there .h6
theorem Upd.mem{L':List Asrt}(h:Upd L x y L'):x∈L:=by
  induction h with
  | here=>simp
  | there _ ih=>exact List.mem_cons_of_mem _ ih
theorem Pick.mem{L R:List α}{x:α}(h:Pick L x R):x∈L:=h.perm.mem_iff.2 (by simp)
theorem Hp.upd{w':World}{L':List Asrt}(h:Hp F w₀ w L)(hu:Upd L x y L')(os:w'.os=w.os)(tape:TD w w')(output:w'.output=w.output)(size:w.heap.size<=w'.heap.size)(block:∀ k,k<w.heap.size->k∉x.fp->w'.heap[k]?=w.heap[k]?)(zP:y.ok w')(Dt:∀ b∈y.fp,b<w'.heap.size/\(b∈x.fp\/w.heap.size<=b)):Hp F w₀ w' L':=by
  have gen:∀ {L L':List Asrt},Upd L x y L'->(∀ z∈L,z.ok w)->(∀ z∈L,∀ b∈z.fp,b<w.heap.size)->(∀ z∈L,∀ b∈z.fp,b∈F\/w₀.heap.size<=b)->
      (L.Pairwise fun x y=>∀ b∈x.fp,b∉y.fp)->
      (∀ z∈L',z.ok w')/\(∀ z∈L',∀ b∈z.fp,b<w'.heap.size)/\(∀ z∈L',∀ b∈z.fp,b∈F\/w₀.heap.size<=b)/\(L'.Pairwise fun x y=>∀ b∈x.fp,b∉y.fp)/\
      (∀ z∈L',(z=y)\/z∈L )/\(∀ b,b<w.heap.size->(∀ z∈L,b∉z.fp)->∀ z∈L',b∉z.fp):=by
    intro L L' hu2
    clear hu
    induction hu2 with
    | @here x y R=>
      intro o1 o2 o3 o4
      obtain⟨p1,p2⟩:=List.pairwise_cons.1 o4
      have hb:∀ z∈R,∀ b∈z.fp,b∉y.fp:=fun z hz b hb hc=>by
        rcases(Dt b hc).2 with h1 | h1
        · exact p1 z hz b h1 hb
        · have:=o2 z (List.mem_cons_of_mem _ hz) b hb;omega
      refine⟨?_,?_,?_,?_,?_,?_⟩
      · intro z hz
        rcases List.mem_cons.1 hz with rfl | hz
        · exact zP
        · exact z.loc w w' (fun b hb hl=>block b hl (fun hc=>p1 z hz b hc hb)) (o2 z (List.mem_cons_of_mem _ hz)) (o1 z (List.mem_cons_of_mem _ hz))
      · intro z hz b hb'
        rcases List.mem_cons.1 hz with rfl | hz
        · exact(Dt b hb').1
        · exact Nat.lt_of_lt_of_le (o2 z (List.mem_cons_of_mem _ hz) b hb') size
      · intro z hz b hb'
        rcases List.mem_cons.1 hz with rfl | hz
        · rcases(Dt b hb').2 with h1 | h1
          · exact o3 x (by simp) b h1
          · exact .inr (Nat.le_trans h.size h1)
        · exact o3 z (List.mem_cons_of_mem _ hz) b hb'
      · exact List.pairwise_cons.2 ⟨fun z hz b hb' hc=>hb z hz b hc hb',p2⟩
      · intro z hz
        rcases List.mem_cons.1 hz with rfl | hz
        · exact .inl rfl
        · exact .inr (List.mem_cons_of_mem _ hz)
      · intro b Br Bb z hz hc
        rcases List.mem_cons.1 hz with rfl | hz
        · rcases(Dt b hc).2 with h1 | h1
          · exact Bb x (by simp) h1
          · omega
        · exact Bb z (List.mem_cons_of_mem _ hz) hc
    | @there x y v L R hu ih=>
      intro o1 o2 o3 o4
      obtain⟨p1,p2⟩:=List.pairwise_cons.1 o4
      obtain⟨q1,q2,q3,q4,q5,q6⟩:=ih block zP Dt (fun z hz=>o1 z (List.mem_cons_of_mem _ hz)) (fun z hz=>o2 z (List.mem_cons_of_mem _ hz)) (fun z hz=>o3 z (List.mem_cons_of_mem _ hz)) p2
      have hvx:∀ b∈v.fp,b∉x.fp:=p1 x hu.mem
      refine⟨?_,?_,?_,?_,?_,?_⟩
      · intro z hz
        rcases List.mem_cons.1 hz with rfl | hz
        · exact z.loc w w' (fun b hb hl=>block b hl (hvx b hb)) (o2 z (by simp)) (o1 z (by simp))
        · exact q1 z hz
      · intro z hz b hb'
        rcases List.mem_cons.1 hz with rfl | hz
        · exact Nat.lt_of_lt_of_le (o2 z (by simp) b hb') size
        · exact q2 z hz b hb'
      · intro z hz b hb'
        rcases List.mem_cons.1 hz with rfl | hz
        · exact o3 z (by simp) b hb'
        · exact q3 z hz b hb'
      · exact List.pairwise_cons.2 ⟨fun z hz b hb'=>q6 b (o2 v (by simp) b hb') (fun z hz hc=>p1 z hz b hb' hc) z hz,q4⟩
      · intro z hz
        rcases List.mem_cons.1 hz with rfl | hz
        · exact .inr (by simp)
        · rcases q5 z hz with h1 | h1
          · exact .inl h1
          · exact .inr (List.mem_cons_of_mem _ h1)
      · intro b Br Bb z hz hc
        rcases List.mem_cons.1 hz with rfl | hz
        · exact Bb z (by simp) hc
        · exact q6 b Br (fun z hz=>Bb z (List.mem_cons_of_mem _ hz)) z hz hc
  obtain⟨q1,q2,q3,q4,_,_⟩:=gen hu h.ok h.lt h.ow h.sep
  refine⟨os.trans h.os,tape.trans h.tape,output.trans h.output,Nat.le_trans h.size size,fun k hk hf=>?_,q1,q2,q3,q4⟩
  rw[block k (Nat.lt_of_lt_of_le hk h.size) (fun hc=>?_)]
  · exact h.block k hk hf
  · rcases h.ow x hu.mem k hc with h1 | h1
    · exact hf h1
    · omega
theorem Hp.add(h:Hp F w₀ w L)(zP:x.ok w)(mL:∀ b∈x.fp,b<w.heap.size)(how:∀ b∈x.fp,b∈F\/w₀.heap.size<=b)(hsep:∀ y∈L,∀ b∈x.fp,b∉y.fp):Hp F w₀ w (x::L):=
  ⟨h.os,h.tape,h.output,h.size,h.block,
   fun y hy=>(List.mem_cons.1 hy).elim (fun e=>e▸zP) (h.ok y),
   fun y hy=>(List.mem_cons.1 hy).elim (fun e=>e▸mL) (h.lt y),
   fun y hy=>(List.mem_cons.1 hy).elim (fun e=>e▸how) (h.ow y),
   List.pairwise_cons.2 ⟨hsep,h.sep⟩⟩
theorem Hp.alloc{F:List Nat}{w₀ w:World}{L:List Asrt}(h:Hp F w₀ w L)(o:Obj):Hp F w₀ (w.alloc o) (xR w.heap.size o::L):=by
  refine(h.ext (.alloc w o)).add (heap_alloc_new w o) (by simp[xR]) (by simp[xR,h.size]) ?_
  intro y hy b hb hc
  simp[xR] at hb
  have:=h.lt y hy b hc
  omega
def stb(b:Nat)(T:TypeId)(cs:List Value):Asrt:=xR b (.cells cs.toArray T (0,0))
theorem ou{b:Nat}{T:TypeId}:(stb b T cs).ok w↔w.heap[b]?=some (.cells cs.toArray T (0,0)):=Iff.rfl
theorem ov{b:Nat}{T:TypeId}:(stb b T cs).fp=[b]:=rfl
/-! ### the types' table -/
def gC(P:Program)(t:TypeId):Prop:=(isAgg t).run P=fun w=>Result.ok false w
def mF(P:Program)(t:TypeId)(s:Nat):Prop:=((isAgg t).run P=fun w=>Result.ok true w)/\(Go.sizeOf t).run P=fun w=>Result.ok s w
def kP(P:Program)(t:TypeId)(s:Nat):Prop:=(Go.sizeOf t).run P=fun w=>Result.ok s w
def w4(P:Program)(s:TypeId)(f k:Nat):Prop:=∀ a w,(Instr.fieldAt s (.pointer (some a)) f).run P w = .ok (.pointer (some (a.add k))) w
def qc(P:Program)(t:TypeId)(v:Value):Prop:=(zeroValue t).run P=fun w=>Result.ok v w
structure elT (P:Program) (t e:TypeId) (sz pm:Nat):Prop where
  sl:P.underlying t=some (.slice e)
  inf:∃ i z,P.info? e=some i/\i.zero=some z/\i.size=sz/\i.bytes=pm/\z.cells.size=sz
  pos:0<sz
theorem j4{d:TypeDesc}(h:P.underlying t=some d)(hd:(match d with | .struct _ | .array _ _=>true | _=>false)=false):gC P t:=by
  funext w
  simp only[isAgg,Sem.run_bind,run_underlying h,Result.andThen_ok]
  split <;> simp_all
theorem qi(h:P.info? t=some i):kP P t i.size:=by
  funext w;simp[Go.sizeOf,typeInfo,h]
theorem gp{d:TypeDesc}(h:P.underlying t=some d)(hd:(match d with | .struct _ | .array _ _=>true | _=>false)=true)(hi:P.info? t=some i):mF P t i.size:=by
  refine⟨?_,qi hi⟩
  funext w
  simp only[isAgg,Sem.run_bind,run_underlying h,Result.andThen_ok]
  split <;> simp_all
theorem xO{s:TypeId}{fs:Array Field}{f:Nat}{fd:Field}(h:P.underlying s=some (.struct fs))(hf:fs[f]?=some fd)(hi:P.info? fd.type=some i)(h0:i.size≠0){k:Nat}(hk:fd.offset=k):w4 P s f k:=by
  subst hk
  intro a w
  simp[Instr.fieldAt,run_underlying h,hf,Instr.sureAddr,fieldPlace,Go.sizeOf,typeInfo,hi,h0]
theorem vS(h:P.info? t=some i)(hz:i.zero=some v):qc P t v:=by
  funext w;simp[zeroValue,typeInfo,h,hz]
/-! ### reading -/
def qj(F:List Nat)(w:World)(A:Addr)(cs:List Value):Prop:=
  A.block∉F/\∀ j u,cs[j]?=some u->w.cell? (A.add j)=some u
theorem Addr.ux(A:Addr)(i j:Nat):(A.add i).add j=A.add (i+j):=by
  unfold Addr.add
  split <;> split <;> simp_all [Nat.add_assoc]
theorem Addr.uP(A:Addr)(i:Nat):(A.add i).block=A.block:=by unfold Addr.add;split <;> rfl
theorem qj.sub(h:qj F w A cs)(k:Nat):qj F w (A.add k) (cs.drop k):=
  ⟨by rw[Addr.uP];exact h.1,fun j u hu=>by rw[Addr.ux];exact h.2 _ _ (by simpa using hu)⟩
theorem qj.pre{ds:List Value}(h:qj F w A (cs++ds)):qj F w A cs:=
  ⟨h.1,fun j u hu=>h.2 j u (by
    have hj:j<cs.length:=(List.getElem?_eq_some_iff.1 hu).1
    rw[List.getElem?_append_left hj];exact hu)⟩
theorem qj.now(h:qj F w₀ A cs)(hp:Hp F w₀ w L):∀ j u,cs[j]?=some u->w.cell? (A.add j)=some u:=by
  intro j u hu
  have h1:=h.2 j u hu
  have mL:=block_lt_of_cell h1
  rw[<- h1]
  refine World.cell?_of_block (hp.block _ mL ?_)
  rw[Addr.uP];exact h.1
theorem qj.at{F F':List Nat}{w₀ w:World}{L:List Asrt}{A:Addr}{cs:List Value}(h:qj F w₀ A cs)(hp:Hp F w₀ w L)(hF:∀ b∈F',∃ x∈L,b∈x.fp)(oH:cs≠[]):qj F' w A cs:=by
  refine⟨fun hb=>?_,h.now hp⟩
  obtain⟨x,hx,zX⟩:=hF _ hb
  obtain⟨c,cs',rfl⟩:∃ c cs',cs=c::cs':=by cases cs with | nil=>exact absurd rfl oH | cons c cs'=>exact⟨c,cs',rfl⟩
  have h1:=h.2 0 c (by simp)
  have mL:=block_lt_of_cell h1
  rw[Addr.uP] at mL
  rcases hp.ow x hx _ zX with h2 | h2
  · exact h.1 h2
  · omega
structure Sl (F:List Nat) (w:World) (v:Value) (sz:Nat) (rows:List (List Value)):Prop where
  shape:∃ ao cap,v = .slice ao rows.length cap/\rows.length<=cap/\cap<=maxLen/\(rows≠[]->∃ A,ao=some A/\qj F w A rows.flatten)
  len:∀ r∈rows,r.length=sz
def gO{α:Type}(F:List Nat)(w:World)(v:Value)(sz:Nat)(Pr:List Value->α->Prop)(l:List α):Prop:=
  ∃ rows:List (List Value),Sl F w v sz rows/\rows.length=l.length/\∀(i:Nat) (r:List Value) (x:α),rows[i]?=some r->l[i]?=some x->Pr r x
theorem rJ{sz:Nat}:∀ {rows:List (List Value)} (_:∀ r∈rows,r.length=sz) {i:Nat} {r:List Value} (_:rows[i]?=some r),∃ tl,rows.flatten.drop (i*sz)=r++tl
  | [],_,i,r,h=>by simp at h
  | r0::rows,hl,0,r,h=>by simp at h;subst h;exact⟨rows.flatten,by simp⟩
  | r0::rows,hl,i+1,r,h=>by
    have h0:r0.length=sz:=hl r0 (by simp)
    obtain⟨tl,ht⟩:=rJ (fun r hr=>hl r (List.mem_cons_of_mem _ hr)) (i:=i) (r:=r) (by simpa using h)
    refine⟨tl,?_⟩
    rw[<- ht,List.flatten_cons,Nat.succ_mul,Nat.add_comm,<- h0,<- List.drop_drop,List.drop_left]
theorem gO.shape{Pr:List Value->α->Prop}{l:List α}(h:gO F w v sz Pr l):
    ∃ ao cap,v = .slice ao l.length cap/\l.length<=cap/\cap<=maxLen:=by
  obtain⟨rows,⟨⟨ao,cap,hv,h1,h2,_⟩,_⟩,hl,_⟩:=h
  exact⟨ao,cap,by rw[hv,hl],by omega,h2⟩
theorem gO.len{ao:Option Addr}{m cap:Nat}{Pr:List Value->α->Prop}{l:List α}(h:gO F w (.slice ao m cap) sz Pr l):m=l.length:=by
  obtain⟨zM,lw,hv,_⟩:=h.shape
  injection hv
theorem gO.elem{Pr:List Value->α->Prop}{l:List α}(h:gO F w v sz Pr l){i:Nat}(hi:i<l.length):
    ∃ A cap r,v = .slice (some A) l.length cap/\qj F w (A.add (i*sz)) r/\r.length=sz/\Pr r l[i]:=by
  obtain⟨rows,⟨⟨ao,cap,hv,h1,h2,h3⟩,jo⟩,hl,hP⟩:=h
  have Bj:i<rows.length:=by omega
  obtain⟨A,rfl,hc⟩:=h3 (by intro e;subst e;simp at Bj)
  have hr:rows[i]?=some rows[i]:=List.getElem?_eq_getElem Bj
  obtain⟨tl,ht⟩:=rJ jo hr
  refine⟨A,cap,rows[i],by rw[hv,hl],?_,jo _ (List.getElem_mem Bj),hP i _ _ hr (List.getElem?_eq_getElem hi)⟩
  have:=hc.sub (i*sz)
  rw[ht] at this
  exact this.pre
theorem gO.at{α:Type}{F F':List Nat}{w₀ w:World}{L:List Asrt}{v:Value}{sz:Nat}{Pr Pr':List Value->α->Prop}{l:List α}(h:gO F w₀ v sz Pr l)(hp:Hp F w₀ w L)(hF:∀ b∈F',∃ x∈L,b∈x.fp)(lA:0<sz)(hPr:∀ r x,Pr r x->Pr' r x):gO F' w v sz Pr' l:=by
  obtain⟨rows,⟨⟨ao,cap,hv,h1,h2,h3⟩,jo⟩,hl,hP⟩:=h
  refine⟨rows,⟨⟨ao,cap,hv,h1,h2,fun oH=>?_⟩,jo⟩,hl,fun i r x hr hx=>hPr _ _ (hP i r x hr hx)⟩
  obtain⟨A,hA,hc⟩:=h3 oH
  refine⟨A,hA,hc.at hp hF ?_⟩
  intro e
  obtain⟨r,rs,rfl⟩:∃ r rs,rows=r::rs:=by cases rows with | nil=>exact absurd rfl oH | cons r rs=>exact⟨r,rs,rfl⟩
  have:=jo r (by simp)
  rw[List.flatten_cons] at e
  have:r=[]:=List.append_eq_nil_iff.1 e |>.1
  subst this
  simp at this
  omega
theorem gO.nil(F:List Nat)(w:World)(sz:Nat)(Pr:List Value->α->Prop):gO F w (.slice none 0 0) sz Pr []:=
  ⟨[],⟨⟨none,0,rfl,by simp,by simp,by simp⟩,by simp⟩,rfl,by simp⟩
theorem gO.sub{α:Type}{F:List Nat}{w:World}{v:Value}{sz:Nat}{Pr:List Value->α->Prop}{l:List α}(h:gO F w v sz Pr l)(lA:0<sz){lo hi:Nat}(h1:lo<=hi)(h2:hi<=l.length):
    ∀ ao cap,v = .slice ao l.length cap->gO F w (.slice (if cap=lo then ao else ao.map (·.add (lo*sz))) (hi-lo) (cap-lo)) sz Pr ((l.take hi).drop lo):=by
  intro ao cap hv
  obtain⟨rows,⟨⟨zM,lw,zz,g1,g2,g3⟩,jo⟩,hl,hP⟩:=h
  rw[hv] at zz
  injection zz with e1 e2 e3
  subst e1;subst e3
  refine⟨(rows.take hi).drop lo,⟨⟨if cap=lo then ao else ao.map (·.add (lo*sz)),cap-lo,?_,?_,?_,?_⟩,?_⟩,?_,?_⟩
  · congr 1;simp;omega
  · simp;omega
  · omega
  · intro oH
    have mL:lo<hi:=by
      rcases Nat.lt_or_ge lo hi with h' | h'
      · exact h'
      · exact absurd (List.drop_eq_nil_of_le (by simp;omega)) oH
    obtain⟨A,rfl,hc⟩:=g3 (by intro e;subst e;simp at hl;omega)
    have xN:cap≠lo:=by omega
    refine⟨A.add (lo*sz),by simp[xN],?_⟩
    have:=hc.sub (lo*sz)
    have Db:∀(rows:List (List Value)) (k:Nat),(∀ r∈rows,r.length=sz)->k<=rows.length->rows.flatten.drop (k*sz)=(rows.drop k).flatten:=by
      intro rows
      induction rows with
      | nil=>intro k _ hk;simp at hk;subst hk;simp
      | cons r rs ih=>
        intro k hr hk
        cases k with
        | zero=>simp
        | succ k=>
          have h0:r.length=sz:=hr r (by simp)
          rw[List.flatten_cons,Nat.succ_mul,Nat.add_comm,<- h0,<- List.drop_drop,List.drop_left,h0]
          simpa using ih k (fun r h=>hr r (List.mem_cons_of_mem _ h)) (by simpa using hk)
    rw[Db rows lo jo (by omega)] at this
    have e:rows.drop lo=(rows.take hi).drop lo++rows.drop hi:=by
      rw[<- List.drop_append_of_le_length (by simp;omega),List.take_append_drop]
    rw[e,List.flatten_append] at this
    exact this.pre
  · intro r hr;exact jo r (List.mem_of_mem_take (List.mem_of_mem_drop hr))
  · simp[hl]
  · intro i r x hr hx
    simp only[List.getElem?_drop,List.getElem?_take] at hr hx
    split at hr
    · rename_i mL;simp only[mL,if_true] at hx;exact hP _ _ _ hr hx
    · cases hr
end
section
variable {cs ds vs:List Value}{cap off m s:Nat}{ao:Option Addr}{A:Addr}{w:World}{p:Prop}{k:IntKind}{i:Int}
variable [Rnd]
def Ef{G:Type}(P:Program)(n:Nat)(F:List Nat)(w₀:World)(env:List (Nat×Value))(L:List Asrt)(o:Oper)(φ:G->Prop)(val:G->Value)(L':G->List Asrt):Prop:=
 ∀ a w,SS n F w₀ env L a w->∃ g w',(execOp a.eval o).run P w = .ok (.value (val g)) w'/\φ g/\Hp F w₀ w' (L' g)
def b5{G:Type}(P:Program)(n:Nat)(F:List Nat)(w₀:World)(env:List (Nat×Value))(L:List Asrt)(o:Oper)(φ:G->Prop)(val:G->Value)(L':G->List Asrt):Prop:=
 ∀ a w,SS n F w₀ env L a w->∃ g w',(execOp a.eval o).run P w = .ok (.value (val g)) w'/\φ g/\Hp F w₀ w' (L' g)/\Ext w w'
def iu(P:Program)(n:Nat)(F:List Nat)(w₀:World)(env:List (Nat×Value))(L:List Asrt)(o:Oper)(L':List Asrt):Prop:=
 ∀ a w,SS n F w₀ env L a w->∃ w',ot P o a w w'/\Hp F w₀ w' L'
theorem b5.ef{G:Type}{P:Program}{n:Nat}{F:List Nat}{w₀:World}{env:List (Nat×Value)}{L:List Asrt}{o:Oper}{φ:G->Prop}{val:G->Value}{L':G->List Asrt}(h:b5 P n F w₀ env L o φ val L'):Ef P n F w₀ env L o φ val L':=fun a w hs=>let ⟨g,w',h1,h2,h3,_⟩:=h a w hs;⟨g,w',h1,h2,h3⟩
section
variable {P:Program} {n:Nat} {F:List Nat} {w₀:World} {env:List (Nat×Value)} {L R:List Asrt} {eA:Array Oper} {Q:Exit->Act->World->Prop} {fi:List Oper}
 {dd:Nat} {d:Option Tmp} {ty:TypeId} {pos:String} {after:Array Edge} {g:Option (Nat×Bool)} {x y c:Operand} {v u:Value} {t e T:TypeId} {sz pm:Nat}
theorem xk{f k:Nat}{A':Addr}(hf:w4 P t f k)(hx:eo env x=some (.pointer (some A)))(hA:A.add k=A'):Qt P n F w₀ env L ⟨d,.fieldAddr t x f,ty,pos,after,g⟩ (.pointer (some A')):=by
 intro a w h;subst hA;simp[execOp,h.eval hx,hf A w]
theorem xl(hT:gC P t)(hx:eo env x=some (.pointer (some A)))(hR:∀ w,Hp F w₀ w L->w.cell? A=some v):Qt P n F w₀ env L ⟨d,.load t x,ty,pos,after,g⟩ v:=by
 intro a w h
 have:=congrFun hT w
 simp[execOp,h.eval hx,Instr.loadAt,Instr.sureAddr,loadVar,this,hR w h.hp]
theorem wp(hT:mF P t s)(hx:eo env x=some (.pointer (some A)))(hl:cs.length=s)(hR:∀ w,Hp F w₀ w L->∀ j u,cs[j]?=some u->w.cell? (A.add j)=some u):
  Qt P n F w₀ env L ⟨d,.load t x,ty,pos,after,g⟩ (.agg cs.toArray):=by
 intro a w h
 have h1:=congrFun hT.1 w
 have h2:=congrFun hT.2 w
 have h3:=run_loadCells_list (P:=P) w A cs (hR w h.hp)
 rw[hl] at h3
 simp[execOp,h.eval hx,Instr.loadAt,Instr.sureAddr,loadVar,h1,h2,h3]
/-! readers -/
theorem xu{b:Nat}(hm:Pick L (stb b T cs) R)(hv:cs[off]?=some v):∀ w,Hp F w₀ w L->w.cell? ⟨b,off,none⟩=some v:=by
 intro w h
 have:=ou.1 (h.ok _ hm.mem)
 rw[cell_of_row w b off _ T (0,0) this]
 simpa using hv
theorem Yx{b:Nat}(hm:Pick L (stb b T cs) R)(hv:∀ j u,ds[j]?=some u->cs[off+j]?=some u):∀ w,Hp F w₀ w L->∀ j u,ds[j]?=some u->w.cell? ((⟨b,off,none⟩:Addr).add j)=some u:=by
 intro w h j u hu
 rw[Addr.add_lit]
 exact xu hm (hv j u hu) w h
theorem xt{b:Nat}(hm:Pick L (stb b T cs) R):∀ w,Hp F w₀ w L->∀ j u,cs[j]?=some u->w.cell? ((⟨b,0,none⟩:Addr).add j)=some u:=
 Yx hm (fun j u hu=>by simpa using hu)
theorem uy{b len:Nat}(hm:Pick L (row (.slice (some ⟨b,0,none⟩) len cap) e sz cs) R)(hv:cs[off]?=some v):∀ w,Hp F w₀ w L->w.cell? ⟨b,off,none⟩=some v:=by
 intro w h
 obtain⟨m,hm⟩:=h.ok _ hm.mem
 have:=hm.cells (g:=b) rfl off v hv
 rwa [Addr.add_lit,Nat.zero_add] at this
theorem gq{b len:Nat}(hm:Pick L (row (.slice (some ⟨b,0,none⟩) len cap) e sz cs) R)(hv:∀ j u,ds[j]?=some u->cs[off+j]?=some u):
  ∀ w,Hp F w₀ w L->∀ j u,ds[j]?=some u->w.cell? ((⟨b,off,none⟩:Addr).add j)=some u:=by
 intro w h j u hu
 rw[Addr.add_lit]
 exact uy hm (hv j u hu) w h
/-! making -/
theorem xP(hx:eo env x=some v)(hc:v.cells=cs.toArray):
  b5 P n F w₀ env L ⟨d,.box T x,ty,pos,after,g⟩ (fun _:Nat=>True) (fun b => .pointer (some ⟨b,0,none⟩)) (fun b=>stb b T cs::L):=by
 intro a w h
 refine⟨w.heap.size,w.alloc (.cells cs.toArray T (0,0)),?_,trivial,h.hp.alloc _,.alloc _ _⟩
 simp[execOp,h.eval hx,Instr.box,newVar,newRow,newObj,Sem.run,hc]
theorem xC(hz:qc P T v)(hc:v.cells=cs.toArray):
  b5 P n F w₀ env L ⟨d,.alloc T,ty,pos,after,g⟩ (fun _:Nat=>True) (fun b => .pointer (some ⟨b,0,none⟩)) (fun b=>stb b T cs::L):=by
 intro a w h
 have:=congrFun hz w
 refine⟨w.heap.size,w.alloc (.cells cs.toArray T (0,0)),?_,trivial,h.hp.alloc _,.alloc _ _⟩
 simp[execOp,Instr.alloc,this,newVar,newRow,newObj,Sem.run,hc]
def j7(cs:List Value)(off:Nat)(vs:List Value):List Value:=cs.take off++vs++cs.drop (off+vs.length)
theorem Hp.front{x:Asrt}(h:Hp F w₀ w L)(hm:Pick L x R):Hp F w₀ w (x::R):=h.sub (.cons hm .all)
theorem Hp.setRow{w:World}{b:Nat}{cs ds:List Value}(h:Hp F w₀ w L)(hm:Pick L (stb b T cs) R):Hp F w₀ (w.setRow b ds.toArray) (stb b T ds::R):=by
 have hk:=ou.1 (h.ok _ hm.mem)
 refine(h.front hm).upd (x:=stb b T cs) (y:=stb b T ds) .here rfl ⟨rfl,Nat.le_refl _⟩ rfl (by simp) (fun k _ AH=>setRow_other w b k _ (by simpa [ov] using AH)) (ou.2 (setRow_heap w b _ _ _ _ hk)) ?_
 intro b' hb'
 simp only[ov,List.mem_singleton] at hb'
 subst hb'
 exact⟨by simpa using h.lt _ hm.mem b' (by simp[ov]),.inl (by simp[ov])⟩
theorem Yy{b:Nat}(hT:kP P t s)(hx:eo env x=some (.pointer (some ⟨b,off,none⟩)))(hy:eo env y=some v)(hv:v.cells=vs.toArray)(hs:vs.length=s)(h1:∀ u∈vs,u.oneCell'=true)(hm:Pick L (stb b T cs) R)(xo:off+s<=cs.length)(AK:j7 cs off vs=ds):
  iu P n F w₀ env L ⟨none,.store t x y,ty,pos,after,g⟩ (stb b T ds::R):=by
 intro a w h
 subst AK
 have hk:=ou.1 (h.hp.ok _ hm.mem)
 have lu:=run_storeCells_at (P:=P) b off T vs 0 cs.toArray w hk (by simp;omega) h1
 have h2:=congrFun hT w
 refine⟨_,.inl ?_,h.hp.setRow hm (ds:=j7 cs off vs)⟩
 simp only[Nat.add_zero] at lu
 simp[execOp,h.eval hx,h.eval hy,Instr.storeAt,Instr.sureAddr,storeVar,h2,hv,hs,lu,j7]
/-! slices -/
theorem xQ(ht:P.underlying t=some (.slice e))(hx:eo env x=some (.slice ao m cap)):Qt P n F w₀ env L ⟨d,.call ⟨.builtin .len,#[x],#[t]⟩,ty,pos,after,g⟩ (.int .i64 m):=by
 intro a w h
 have CL:P.underlying t=some (.slice (P.elem t)):=by simp[Program.elem,ht]
 simp[execOp,h.eval hx,resolve,invoke,builtin,run_len_slice w t _ ao m cap CL,goInt]
theorem w7{A':Addr}(ht:elT P t e sz pm)(hx:eo env x=some (.slice (some A) m cap))(hy:eo env y=some (.int k i))(h0:0<=i)(h1:i<m)(hA:A.add (i.toNat*sz)=A'):Qt P n F w₀ env L ⟨d,.indexAddr t x y,ty,pos,after,g⟩ (.pointer (some A')):=by
 intro a w h
 subst hA
 obtain⟨inf,z,hi,hz,lA,_,_⟩:=ht.inf
 simp[execOp,h.eval hx,h.eval hy,Instr.indexAt,run_underlying ht.sl,asIntOf,h0,h1,Go.sizeOf,typeInfo,hi,lA]
theorem WL.slIndex{α:Type}{Pr:List Value->α->Prop}{l:List α}(hg:gd env eA ⟨some dd,.indexAddr t x y,ty,pos,after,g⟩=some true)(iR:Nat.blt dd n=true)(ht:elT P t e sz pm)(hx:eo env x=some (.slice ao l.length cap))(hy:eo env y=some (.int k i))(hs:gO F w₀ (.slice ao l.length cap) sz Pr l)(h0:0<=i)(h1:i.toNat<l.length)(k:∀ A r,qj F w₀ A r->r.length=sz->Pr r l[i.toNat]->WL P n F w₀ eA Q fi ((dd,.pointer (some A))::env) L):
  WL P n F w₀ eA Q (⟨some dd,.indexAddr t x y,ty,pos,after,g⟩::fi) env L:=by
 obtain⟨A,lw,r,hv,hc,hl,hp⟩:=hs.elem h1
 injection hv with e1 _ e3
 subst e1
 exact WL.a hg rfl iR (w7 ht hx hy h0 (by omega) rfl) (k _ r hc hl hp)
theorem WD.slIndex{tl:Nat->Bool}{Ls:List Asrt}{fuel:Nat}{listed:Array Bool}{QD:Act->World->Prop}{j:Nat}{α:Type}{Pr:List Value->α->Prop}{l:List α}(zj:mj eA=true)(hi:eA[j]?=some ⟨some dd,.indexAddr t x y,ty,pos,after,g⟩)(hr:(Region.ready .any eA listed).contains j=true)(hf:gL eA tl listed j=true)(hg:gd env eA ⟨some dd,.indexAddr t x y,ty,pos,after,g⟩=some true)(iR:Nat.blt dd n=true)(ht:elT P t e sz pm)(hx:eo env x=some (.slice ao l.length cap))(hy:eo env y=some (.int k i))(hs:gO F w₀ (.slice ao l.length cap) sz Pr l)(h0:0<=i)(h1:i.toNat<l.length)(k:∀ A r,qj F w₀ A r->r.length=sz->Pr r l[i.toNat]->WD P n F w₀ eA tl Ls QD fuel (listed.setIfInBounds j true) ((dd,.pointer (some A))::env) L):
  WD P n F w₀ eA tl Ls QD (fuel+1) listed env L:=by
 obtain⟨A,lw,r,hv,hc,hl,hp⟩:=hs.elem h1
 injection hv with e1 _ e3
 subst e1
 exact WD.e zj hi hr hf hg rfl iR (w7 ht hx hy h0 (by omega) rfl) (k _ r hc hl hp)
theorem Hp.rowShape(h:Hp F w₀ w L)(hm:Pick L (row (.slice ao m cap) e sz cs) R):
  cs.length=m*sz/\m<=cap/\cap<=maxLen/\((ao=none/\m=0/\cap=0)\/∃ b,ao=some ⟨b,0,none⟩):=by
 obtain⟨m',h1,h2⟩:=h.ok _ hm.mem
 rcases h2 with⟨hv,hn⟩ | ⟨b,lw,lB,hv,_,hh,zY,zk,zQ,As⟩
 ·injection hv with e1 e2 e3;subst e1 e2 e3 hn;exact⟨by simpa using h1,by simp,by simp,.inl ⟨rfl,rfl,rfl⟩⟩
 ·injection hv with e1 e2 e3;subst e1 e2 e3;exact⟨h1,zY,zk,.inr ⟨b,rfl⟩⟩
theorem Kf{l:List Oper}(hk:∀ w,Hp F w₀ w L->p)(k:p->WL P n F w₀ eA Q l env L):WL P n F w₀ eA Q l env L:=fun a w h=>k (hk w h.hp) a w h
theorem WC.know{cc:Code}(hk:∀ w,Hp F w₀ w L->p)(k:p->WC P n F w₀ Q cc env L):WC P n F w₀ Q cc env L:=fun a w h=>k (hk w h.hp) a w h
theorem WX.know{ex:Exit}(hk:∀ w,Hp F w₀ w L->p)(k:p->WX n F w₀ Q ex env L):WX n F w₀ Q ex env L:=fun a w h=>k (hk w h.hp) a w h
theorem WD.know{tl:Nat->Bool}{Ls:List Asrt}{fuel:Nat}{listed:Array Bool}{QD:Act->World->Prop}(hk:∀ w,Hp F w₀ w L->p)(k:p->WD P n F w₀ eA tl Ls QD fuel listed env L):WD P n F w₀ eA tl Ls QD fuel listed env L:=fun a w h=>k (hk w h.hp) a w h
theorem nE{bo:Option Addr}{k mg:Nat}{news:List Value}{dty:TypeId}(ht:elT P t e sz pm)(hx:eo env x=some (.slice ao m cap))(hy:eo env y=some (.slice bo k mg))(hm:Pick L (row (.slice ao m cap) e sz cs) R)(hl:news.length=k*sz)(sA:∀ w,Hp F w₀ w L->news≠[]->∃ A,bo=some A/\∀ j u,news[j]?=some u->w.cell? (A.add j)=some u)(h1:∀ u∈news,u.oneCell'=true)(Cq:m+k<=maxLen)(xS:(m+k)*pm<=140737488355328):
  Ef P n F w₀ env L ⟨d,.call ⟨.builtin .append,#[x,y],#[t,t]⟩,dty,pos,after,g⟩ (fun _:Option Addr×Nat=>True) (fun p => .slice p.1 (m+k) p.2) (fun p=>row (.slice p.1 (m+k) p.2) e sz (cs++news)::R):=by
 intro a w h
 obtain⟨inf,z,hi,hz,lA,hb,Cc⟩:=ht.inf
 obtain⟨m',fh⟩:=h.hp.ok _ hm.mem
 have Du:m'=m:=by
  have hs:=h.hp.rowShape hm
  have:=fh.1.symm.trans hs.1
  exact Nat.eq_of_mul_eq_mul_right ht.pos this
 subst Du
 subst lA
 subst hb
 have AL:=h.hp.rowShape hm
 by_cases BX:k=0
 ·subst BX
  have hn:news=[]:=List.eq_nil_of_length_eq_zero (by simpa using hl)
  subst hn
  refine⟨(ao,cap),w,?_,trivial,?_⟩
  ·have zZ:m'<=cap:=AL.2.1
   cases bo <;> cases ao <;> simp[execOp,h.eval hx,h.eval hy,resolve,invoke,builtin,Builtin.append_,run_underlying ht.sl,Go.sizeOf,typeInfo,hi,Builtin.lenOf,Builtin.firstCells,zZ,loadCells,loadCellsFrom,storeCells]
  ·simpa using h.hp.front hm
 ·have oH:news≠[]:=by
   intro e;subst e
   have:0=k*inf.size:=by simpa using hl
   have:=Nat.mul_pos (Nat.pos_of_ne_zero BX) ht.pos
   omega
  obtain⟨A,rfl,hA⟩:=sA w h.hp oH
  have Dv:((m'+k:Nat):Int)<=9223372036854775807:=by simp only[maxLen] at Cq;omega
  obtain⟨v',w',hr,ho,Bs,_⟩:=run_append_own (P:=P) w 0 t dty e inf z inf.size inf.bytes ht.sl hi hz rfl rfl Cc ht.pos _ m' cs fh A k mg news hl hA h1 Cq xS (Nat.zero_le _)
  have zu:∀ b,v'.ownBlock=some b->(Value.slice ao m' cap).ownBlock=some b\/w.heap.size<=b:=by
   rcases fh.2 with⟨hv,hn⟩ | ⟨b0,lw,lB,hv,_,hh,zY,zk,zQ,As⟩
   ·injection hv with e1 e2 e3
    subst e1 e3 hn
    have hq:=run_append_nil (P:=P) w t dty e inf z ht.sl hi hz A k mg news hl hA (by omega) (by omega) (by simp only[Nat.zero_add] at xS;omega)
    rw[hr] at hq
    injection hq with e1 _
    subst e1
    intro b hb;simp[Value.ownBlock] at hb;exact .inr (by omega)
   ·injection hv with e1 e2 e3
    subst e1 e3
    by_cases hroom:m'+k<=cap
    ·have xo:m'*inf.size+news.length<=lB.size:=by rw[hl,zQ,<- Nat.add_mul];exact Nat.mul_le_mul_right _ hroom
     have hq:=run_append_room (P:=P) w t dty e inf ht.sl hi b0 m' cap lB hh A k mg news hl hA h1 hroom xo
     rw[hr] at hq
     injection hq with e1 _
     subst e1
     intro b hb;exact .inl hb
    ·have holds:∀ j u,cs[j]?=some u->w.cell? ((⟨b0,0,none⟩:Addr).add j)=some u:=fh.cells (g:=b0) rfl
     have hq:=run_append_grow (P:=P) w t dty e inf z ht.sl hi hz ⟨b0,0,none⟩ m' cap cs fh.1 holds A k mg news hl hA (by omega) (by omega) (growslice_fits (by omega) xS)
     rw[hr] at hq
     injection hq with e1 _
     subst e1
     intro b hb;simp[Value.ownBlock] at hb;exact .inr (by omega)
  have hdr:w.drawn<=w'.drawn:=by
   rcases fh.2 with⟨hv,hn⟩ | ⟨b0,lw,lB,hv,_,hh,zY,zk,zQ,As⟩
   ·injection hv with e1 e2 e3
    subst e1 e3 hn
    have hq:=run_append_nil (P:=P) w t dty e inf z ht.sl hi hz A k mg news hl hA (by omega) (by omega) (by simp only[Nat.zero_add] at xS;omega)
    rw[hr] at hq
    injection hq with _ e1
    rw[e1];first | exact Nat.le_refl _ | exact Nat.le_add_right _ _
   ·injection hv with e1 e2 e3
    subst e1 e3
    by_cases hroom:m'+k<=cap
    ·have xo:m'*inf.size+news.length<=lB.size:=by rw[hl,zQ,<- Nat.add_mul];exact Nat.mul_le_mul_right _ hroom
     have hq:=run_append_room (P:=P) w t dty e inf ht.sl hi b0 m' cap lB hh A k mg news hl hA h1 hroom xo
     rw[hr] at hq
     injection hq with _ e1
     rw[e1];first | exact Nat.le_refl _ | exact Nat.le_add_right _ _
    ·have holds:∀ j u,cs[j]?=some u->w.cell? ((⟨b0,0,none⟩:Addr).add j)=some u:=fh.cells (g:=b0) rfl
     have hq:=run_append_grow (P:=P) w t dty e inf z ht.sl hi hz ⟨b0,0,none⟩ m' cap cs fh.1 holds A k mg news hl hA (by omega) (by omega) (growslice_fits (by omega) xS)
     rw[hr] at hq
     injection hq with _ e1
     rw[e1];first | exact Nat.le_refl _ | exact Nat.le_add_right _ _
  obtain⟨p,rfl⟩:∃ p:Option Addr×Nat,v' = .slice p.1 (m'+k) p.2:=by
   rcases ho.2 with⟨hv,hn⟩ | ⟨b,lw,lB,hv,_⟩
   ·exact⟨(none,0),by rw[hv,hn]⟩
   ·exact⟨(some ⟨b,0,none⟩,lw),by rw[hv]⟩
  refine⟨p,w',?_,trivial,?_⟩
  ·simp[execOp,h.eval hx,h.eval hy,resolve,invoke,builtin,hr]
  ·refine(h.hp.front hm).upd (x:=row (.slice ao m' cap) e inf.size cs) (y:=row (.slice p.1 (m'+k) p.2) e inf.size (cs++news)) .here Bs.os ⟨Bs.tape,hdr⟩ Bs.output Bs.size ?_ ⟨_,ho⟩ ?_
   ·intro j hj Dw
    refine Bs.block j hj (fun hc=>Dw ?_)
    simp[row,<- hc]
   ·intro b hb
    have hb':(Value.slice p.1 (m'+k) p.2).ownBlock=some b:=by simpa [row] using hb
    refine⟨(ho.lt b hb').2,?_⟩
    rcases zu b hb' with h2 | h2
    ·exact .inl (by simp[row,h2])
    ·exact .inr h2
theorem Hp.nilRow(h:Hp F w₀ w L)(e:TypeId)(sz:Nat):Hp F w₀ w (row (.slice none 0 0) e sz []::L):=
 h.add (x:=row (.slice none 0 0) e sz []) ⟨0,World.ownsRow_nil w 0 e sz⟩ (by simp[row,Value.ownBlock]) (by simp[row,Value.ownBlock]) (by simp[row,Value.ownBlock])
theorem WL.nilRow{l:List Oper}(e:TypeId)(sz:Nat)(k:WL P n F w₀ eA Q l env (row (.slice none 0 0) e sz []::L)):WL P n F w₀ eA Q l env L:=fun a w h=>k a w (h.world (h.hp.nilRow e sz))
theorem WC.nilRow{cc:Code}(e:TypeId)(sz:Nat)(k:WC P n F w₀ Q cc env (row (.slice none 0 0) e sz []::L)):WC P n F w₀ Q cc env L:=fun a w h=>k a w (h.world (h.hp.nilRow e sz))
theorem xV{parts:Array (Nat×Operand)}{pv:Array (Nat×Value)}(ht:elT P t e sz pm)(hp:∀ a w,SS n F w₀ env L a w->(parts.map fun(i,x)=>(i,a.eval x))=pv)(hr:∀ w,(Instr.buildSlice t m pv).run P w = .ok (.slice (some ⟨w.heap.size,0,none⟩) m m) (w.alloc (.cells cs.toArray e)))(hl:cs.length=m*sz)(hm:m<=maxLen):
  b5 P n F w₀ env L ⟨d,.buildSlice t m parts,ty,pos,after,g⟩ (fun _:Nat=>True) (fun b => .slice (some ⟨b,0,none⟩) m m) (fun b=>row (.slice (some ⟨b,0,none⟩) m m) e sz cs::L):=by
 intro a w h
 refine⟨w.heap.size,w.alloc (.cells cs.toArray e),?_,trivial,?_,.alloc _ _⟩
 ·simp only[execOp,hp a w h]
  simp[hr w]
 ·refine(h.hp.ext (.alloc w _)).add ?_ (by simp[row,Value.ownBlock]) (by simp[row,Value.ownBlock,h.hp.size]) ?_
  ·exact⟨m,hl,.inr ⟨w.heap.size,m,cs.toArray,rfl,Nat.zero_le _,heap_alloc_new w _,Nat.le_refl _,hm,by simpa using hl,by simp[<- hl]⟩⟩
  ·intro y hy b hb hc
   simp[row,Value.ownBlock] at hb
   have:=h.hp.lt y hy b hc
   omega
theorem xU{parts:Array (Nat×Operand)}{pv:Array (Nat×Value)}(hp:∀ a w,SS n F w₀ env L a w->(parts.map fun(i,x)=>(i,a.eval x))=pv)(hr:∀ w,(Instr.build t pv).run P w = .ok v w):Qt P n F w₀ env L ⟨d,.build t parts,ty,pos,after,g⟩ v:=by
 intro a w h
 simp only[execOp,hp a w h]
 simp[hr w]
theorem Hp.rowPut{b:Nat}(h:Hp F w₀ w L)(h1:∀ u∈vs,u.oneCell'=true)(hm:Pick L (row (.slice (some ⟨b,0,none⟩) m cap) e sz cs) R)(xo:off+vs.length<=cs.length):
  ∃ w',(storeCells ⟨b,off,none⟩ vs).run P w = .ok () w'/\Hp F w₀ w' (row (.slice (some ⟨b,0,none⟩) m cap) e sz (j7 cs off vs)::R):=by
 obtain⟨m',fh⟩:=h.ok _ hm.mem
 rcases fh.2 with⟨zz,_⟩ | ⟨b0,lw,lB,zz,Cr,hh,zY,zk,zQ,As⟩
 ·cases zz
 injection zz with e1 e2 e3
 injection e1 with e1
 injection e1 with e1
 subst e1 e2 e3
 have hlc:cs.length<=lB.size:=by rw[<- As,List.length_take];simp;omega
 have lu:=run_storeCells_at (P:=P) b off e vs 0 lB w hh (by omega) h1
 simp only[Nat.add_zero] at lu
 refine⟨w.setRow b (List.take off lB.toList++vs++List.drop (off+vs.length) lB.toList).toArray,lu,(h.front hm).upd (x:=row (.slice (some ⟨b,0,none⟩) m cap) e sz cs) (y:=row (.slice (some ⟨b,0,none⟩) m cap) e sz (j7 cs off vs)) .here rfl ⟨rfl,Nat.le_refl _⟩ rfl (by simp) (fun k _ AH=>setRow_other w b k _ (by simpa [row,Value.ownBlock] using AH)) ?_ ?_⟩
 ·refine⟨m,?_,.inr ⟨b,cap,_,rfl,Cr,setRow_heap w b _ _ _ _ hh,zY,zk,?_,?_⟩⟩
  ·rw[<- fh.1];simp[j7];omega
  ·simp;omega
  ·have xN:cs.length=m*sz:=fh.1
   have Cd:cs=lB.toList.take (m*sz):=As.symm
   rw[<- xN]
   apply List.ext_getElem?
   intro j
   simp only[j7]
   rw[List.getElem?_take]
   by_cases hj:j<cs.length
   ·simp only[hj,if_true]
    have e1:lB.toList.take off=cs.take off:=by rw[Cd,List.take_take];congr 1;omega
    rw[e1]
    have e2:(List.take off cs++vs).length=off+vs.length:=by simp;omega
    by_cases hj1:j<off+vs.length
    ·rw[List.getElem?_append_left (l₁:=List.take off cs++vs) (by omega)]
     rw[List.getElem?_append_left (l₁:=List.take off cs++vs) (by omega)]
    ·have e3:cs[j]?=lB.toList[j]?:=by
      have:(List.take (m*sz) lB.toList)[j]?=lB.toList[j]?:=by rw[List.getElem?_take,if_pos (by omega)]
      rw[<- this,<- Cd]
     rw[List.getElem?_append_right (by omega),List.getElem?_append_right (by omega),e2,List.getElem?_drop,List.getElem?_drop,
      show off+vs.length+(j-(off+vs.length))=j from by omega,e3]
   ·simp only[hj,if_false]
    rw[List.getElem?_eq_none]
    simp;omega
 ·intro b' hb'
  simp[row,Value.ownBlock] at hb'
  subst hb'
  exact⟨by simpa using (Array.getElem?_eq_some_iff.1 hh).1,.inl (by simp[row,Value.ownBlock])⟩
theorem uQ{b:Nat}(hT:kP P t s)(hx:eo env x=some (.pointer (some ⟨b,off,none⟩)))(hy:eo env y=some v)(hv:v.cells=vs.toArray)(hs:vs.length=s)(h1:∀ u∈vs,u.oneCell'=true)(hm:Pick L (row (.slice (some ⟨b,0,none⟩) m cap) e sz cs) R)(xo:off+s<=cs.length)(AK:j7 cs off vs=ds):
  iu P n F w₀ env L ⟨none,.store t x y,ty,pos,after,g⟩ (row (.slice (some ⟨b,0,none⟩) m cap) e sz ds::R):=by
 intro a w h
 subst AK
 obtain⟨w',lu,hp⟩:=h.hp.rowPut (P:=P) (off:=off) h1 hm (by omega)
 have h2:=congrFun hT w
 refine⟨w',.inl ?_,hp⟩
 simp[execOp,h.eval hx,h.eval hy,Instr.storeAt,Instr.sureAddr,storeVar,h2,hv,hs,lu]
end
end
section
variable {w:World}{f:FuncId}{vs:List Value}{α:Type}
variable [Rnd]
abbrev fps(L:List Asrt):List Nat:=L.flatMap (·.fp)
def sn:Nat->List Value->List (Nat×Value)
 | _,[]=>[]
 | k,v::vs=>(k,v)::sn (k+1) vs
theorem dZ:∀(vs:List Value) (k i:Nat) (v:Value),lk (sn k vs) i=some v->k<=i/\vs[i-k]?=some v
 | [],k,i,v,h=>by simp[sn,lk] at h
 | u::vs,k,i,v,h=>by
  simp only[sn,lk] at h
  by_cases hi:i=k
  ·subst hi;simp at h;subst h;simp
  ·rw[uw hi] at h
   obtain⟨h1,h2⟩:=dZ vs (k+1) i v h
   refine⟨by omega,?_⟩
   rw[show i-k=(i-(k+1))+1 from by omega]
   simpa using h2
theorem Calls.gM{P:Program}{fn:Func}{c:Code}{R:Ending->World->Prop}{n:Nat}{pre:List Asrt}{env:List (Nat×Value)}(hf:P.funcs[f]?=some fn)(hb:fn.body=some c)(hn:fn.ntmps=n)(lA:Nat.ble vs.length n=true)(fh:Hp (fps pre) w w pre)(he:sn 0 vs=env)(k : @WC Rnd.base P n (fps pre) w (bodyPost P fn R) c env pre):Calls P f vs.toArray w R:=by
 subst he
 refine nz (m:=0) (callsIn_of_wp (F := @FN Rnd.base) hf hb trivial (k _ _ (@SS.mk Rnd.base _ _ _ _ _ _ _ rfl ?_ ?_ fh)) rfl)
 ·have:=Nat.le_of_ble_eq_true lA
  simp[hn];omega
 ·intro i v hv
  obtain⟨_,h⟩:=dZ vs 0 i v hv
  have mL:i<vs.length:=by have:=(List.getElem?_eq_some_iff.1 h).1;simpa using this
  rw[Array.getElem?_append_left (by simpa using mL)]
  simpa using h
section
variable {P:Program} {n:Nat} {F:List Nat} {w₀:World} {env:List (Nat×Value)} {L Lc Lr R:List Asrt} {eA:Array Oper} {Q:Exit->Act->World->Prop} {fi:List Oper}
 {dd:Nat} {d:Option Tmp} {ty:TypeId} {pos:String} {after:Array Edge} {g:Option (Nat×Bool)} {v u:Value} {t e T:TypeId} {sz pm:Nat}
theorem Hp.owns(h:Hp F w₀ w L)(hs:Sel L Lc Lr):Hp (fps Lc) w w Lc:=by
 have h':=h.sub hs
 exact⟨rfl,⟨rfl,Nat.le_refl _⟩,rfl,Nat.le_refl _,fun _ _ _=>rfl,h'.ok,h'.lt,fun x hx b hb => .inl (List.mem_flatMap.2 ⟨x,hx,hb⟩),h'.sep⟩
theorem Sel.mem{L L' M:List α}(h:Sel L L' M){x:α}(hx:x∈L'):x∈L:=h.perm.mem_iff.2 (List.mem_append_left _ hx)
theorem Sel.memr{L L' M:List α}(h:Sel L L' M){x:α}(hx:x∈M):x∈L:=h.perm.mem_iff.2 (List.mem_append_right _ hx)
theorem Sel.fps(hs:Sel L Lc Lr):∀ b∈fps Lc,∃ x∈L,b∈x.fp:=fun b hb=>by
 obtain⟨x,hx,zX⟩:=List.mem_flatMap.1 hb
 exact⟨x,hs.mem hx,zX⟩
theorem gO.call{Pr Pr':List Value->α->Prop}{l:List α}(h:gO F w₀ v sz Pr l)(hp:Hp F w₀ w L)(hs:Sel L Lc Lr)(lA:0<sz)(hPr:∀ r x,Pr r x->Pr' r x):gO (Sep.fps Lc) w v sz Pr' l:=
 h.at hp hs.fps lA hPr
theorem gO.call0{Pr:List Value->α->Prop}{l:List α}(h:gO F w₀ v sz Pr l)(hp:Hp F w₀ w L)(lA:0<sz):gO [] w v sz Pr l:=
 h.at hp (by simp) lA (fun _ _ h=>h)
theorem Hp.cellsRow{ao:Option Addr}{m cap:Nat}{cs:List Value}(h:Hp F w₀ w L)(hs:Sel L Lc Lr)(hm:Pick Lr (row (.slice ao m cap) e sz cs) R)(oH:cs≠[]):
  ∃ b,ao=some ⟨b,0,none⟩/\qj (fps Lc) w ⟨b,0,none⟩ cs:=by
 obtain⟨m',fh⟩:=h.ok _ (hs.memr hm.mem)
 rcases fh.2 with⟨hv,hn⟩ | ⟨b,lw,lB,hv,_,_⟩
 ·subst hn;exact absurd (List.eq_nil_of_length_eq_zero (by simpa using fh.1)) oH
 ·injection hv with e1 e2 e3
  subst e1
  refine⟨b,rfl,fun hb=>?_,fun j u hu=>fh.cells (g:=b) rfl j u hu⟩
  obtain⟨x,hx,zX⟩:=List.mem_flatMap.1 hb
  have hp:(Lc++Lr).Pairwise fun x y=>∀ b∈x.fp,b∉y.fp:=
   (List.Perm.pairwise_iff (fun {x y} hxy b hb hc=>hxy b hc hb) hs.perm).1 h.sep
  exact(List.pairwise_append.1 hp).2.2 x hx _ hm.mem b zX (by simp[row,Value.ownBlock])
/-! ### calls -/
inductive Eos (env:List (Nat×Value)):List Operand->List Value->Prop
 | nil:Eos env [] []
 | cons {x:Operand} {v:Value} {l:List Operand} {vs:List Value} (h:eo env x=some v) (t:Eos env l vs):Eos env (x::l) (v::vs)
theorem Eos.map{a:Act}{w:World}{l:List Operand}{vs:List Value}(he:Eos env l vs)(h:SS n F w₀ env L a w):l.map a.eval=vs:=by
 induction he with
 | nil=>rfl
 | cons hx _ ih=>rw[List.map_cons,h.eval hx,ih]
theorem zf{l:List Operand}{CN:Array TypeId}(Bt:∀ args w,(callFunc f args).run P w = .ok (.enter f args) w)(he:Eos env l vs):
  ∀ a w,SS n F w₀ env L a w->(execOp a.eval ⟨d,.call ⟨.value (.func f),l.toArray,CN⟩,ty,pos,after,g⟩).run P w = .ok (.enter f vs.toArray) w:=by
 intro a w h
 have:=he.map h
 simp[execOp,resolve,Act.eval,Deferred.ofValue,invoke,Bt,this]
theorem qp{c:Operand}{l:List Operand}{caps:List Value}{CN:Array TypeId}(Bt:∀ args w,(callFunc f args).run P w = .ok (.enter f args) w)(hc:eo env c=some (.func (.func f) #[] caps.toArray))(he:Eos env l vs):
  ∀ a w,SS n F w₀ env L a w->(execOp a.eval ⟨d,.call ⟨.value c,l.toArray,CN⟩,ty,pos,after,g⟩).run P w = .ok (.enter f (vs++caps).toArray) w:=by
 intro a w h
 have:=he.map h
 simp[execOp,resolve,h.eval hc,Deferred.ofValue,invoke,Bt,this]
theorem WL.b{o:Oper}{vs:Array Value}{M:List Asrt}(hg:gd env eA o=some true)(hd:o.dst=some dd)(iR:Nat.blt dd n=true)(f5:∀ a w,SS n F w₀ env L a w->(execOp a.eval o).run P w = .ok (.enter f vs) w)(hs:Sel L Lc Lr)(hc:∀ w,Hp F w₀ w L->Calls P f vs w fun e w'=>e = .returned v/\Hp (fps Lc) w w' M)(k:WL P n F w₀ eA Q fi ((dd,v)::env) (M++Lr)):WL P n F w₀ eA Q (o::fi) env L:=
 WL.enter (G:=Unit) (φ:=fun _=>True) (val:=fun _=>v) (M:=fun _=>M) hg hd iR f5 hs (fun w h=>(hc w h).mono fun _ _ ⟨h1,h2⟩=>⟨(),h1,trivial,h2⟩) (fun _ _=>k)
/-! ### the end of a function -/
def o6:List Value->Value
 | [v]=>v
 | vs => .tuple vs.toArray
theorem X3{fn:Func}{tmps:Array Value}{rs:List ResultVar}(hr:fn.results=rs.toArray)(h:∀(i:Nat) (r:ResultVar) (v:Value),rs[i]?=some r->vs[i]?=some v->(match r with | .tmp t=>tmps.getD t undef=v | .cell a t=>((do loadVar t (<- asAddr (tmps.getD a undef)):Sem Value)).run P w = .ok v w))(hl:rs.length=vs.length):
  (results fn tmps).run P w = .ok (o6 vs) w:=by
 have hm:∀(rs:List ResultVar) (vs:List Value),rs.length=vs.length->(∀(i:Nat) (r:ResultVar) (v:Value),rs[i]?=some r->vs[i]?=some v->(match r with | .tmp t=>tmps.getD t undef=v | .cell a t=>((do loadVar t (<- asAddr (tmps.getD a undef)):Sem Value)).run P w = .ok v w))->
   (rs.mapM fun(r:ResultVar)=>match r with | .tmp t=>(pure (tmps.getD t undef):Sem Value) | .cell a t=>do loadVar t (<- asAddr (tmps.getD a undef))).run P w = .ok vs w:=by
  intro rs
  induction rs with
  | nil=>intro vs hl _;cases vs with | nil=>simp | cons=>simp at hl
  | cons r rs ih=>
   intro vs hl h
   cases vs with
   | nil=>simp at hl
   | cons v vs=>
    have h0:=h 0 r v rfl rfl
    have h1:=ih vs (by simpa using hl) (fun i r v hr hv=>h (i+1) r v (by simpa using hr) (by simpa using hv))
    rw[List.mapM_cons]
    cases r with
    | tmp t=>
     simp only at h0
     simp only[Sem.run_bind,Sem.run_pure,Result.andThen_ok]
     rw[h1,h0]
     rfl
    | cell a t=>
     simp only at h0
     rw[Sem.run_bind,h0,Result.andThen_ok,Sem.run_bind,h1,Result.andThen_ok,Sem.run_pure]
 have:=hm rs vs hl h
 unfold results
 rw[hr]
 rw[List.mapM_toArray,map_eq_pure_bind]
 simp only[Sem.run_bind]
 erw [this]
 simp only[Result.andThen_ok,Sem.run_pure]
 cases vs with
 | nil=>rfl
 | cons v vs=>cases vs with
  | nil=>rfl
  | cons u us=>simp[o6]
inductive ResV (P:Program) (F:List Nat) (w₀:World) (env:List (Nat×Value)) (L:List Asrt):List ResultVar->List Value->Prop
 | nil:ResV P F w₀ env L [] []
 | tmp {t:Nat} {v:Value} {rs:List ResultVar} {vs:List Value} (h:lk env t=some v) (r:ResV P F w₀ env L rs vs):ResV P F w₀ env L (.tmp t::rs) (v::vs)
 | one {t ty:Nat} {A:Addr} {v:Value} {rs:List ResultVar} {vs:List Value} (h:lk env t=some (.pointer (some A))) (hT:gC P ty) (hR:∀ w,Hp F w₀ w L->w.cell? A=some v)
   (r:ResV P F w₀ env L rs vs):ResV P F w₀ env L (.cell t ty::rs) (v::vs)
 | agg {t ty s:Nat} {A:Addr} {cs:List Value} {rs:List ResultVar} {vs:List Value} (h:lk env t=some (.pointer (some A))) (hT:mF P ty s) (hl:cs.length=s) (hR:∀ w,Hp F w₀ w L->∀ j u,cs[j]?=some u->w.cell? (A.add j)=some u)
   (r:ResV P F w₀ env L rs vs):ResV P F w₀ env L (.cell t ty::rs) (.agg cs.toArray::vs)
theorem ResV.run{fn:Func}{rs:List ResultVar}{vs:List Value}(hr:fn.results=rs.toArray)(h:ResV P F w₀ env L rs vs){a:Act}{w:World}(hs:SS n F w₀ env L a w):
  (results fn a.tmps).run P w = .ok (o6 vs) w:=by
 have:=X3 (P:=P) (tmps:=a.tmps) (w:=w) (vs:=vs) hr ?_ ?_
 ·exact this
 ·clear hr
  induction h with
  | nil=>intro i r v h;simp at h
  | tmp h _ ih=>
   intro i r v h1 h2
   cases i with
   | zero=>simp at h1 h2;subst h1 h2;exact hs.get h
   | succ i=>exact ih i r v (by simpa using h1) (by simpa using h2)
  | one h hT hR _ ih=>
   intro i r v h1 h2
   cases i with
   | zero=>
    simp at h1 h2;subst h1 h2
    have e1:=hs.get h
    have e2:=congrFun hT w
    simp only[e1]
    simp[asAddr,loadVar,e2,hR w hs.hp]
   | succ i=>exact ih i r v (by simpa using h1) (by simpa using h2)
  | agg h hT hl hR _ ih=>
   intro i r v h1 h2
   cases i with
   | zero=>
    simp at h1 h2;subst h1 h2
    have e1:=hs.get h
    have e2:=congrFun hT.1 w
    have e3:=congrFun hT.2 w
    have e4:=run_loadCells_list (P:=P) w _ _ (hR w hs.hp)
    rw[hl] at e4
    simp only[e1]
    simp[asAddr,loadVar,e2,e3,e4]
   | succ i=>exact ih i r v (by simpa using h1) (by simpa using h2)
 ·clear hr
  induction h with
  | nil=>rfl
  | tmp _ _ ih=>simpa using ih
  | one _ _ _ _ ih=>simpa using ih
  | agg _ _ _ _ _ ih=>simpa using ih
omit [Rnd] in
theorem Lh{fn:Func}{rs:List ResultVar}{vs:List Value}{R:Ending->World->Prop}(hr:fn.results=rs.toArray)(hv:ResV P F w₀ env L rs vs)(k:∀ w,Hp F w₀ w L->R (.returned (o6 vs)) w):
  @WX Rnd.base n F w₀ (bodyPost P fn R) .ret env L:=fun _ w h=>⟨h.defers,_,hv.run hr h,k w h.hp⟩
omit [Rnd] in
theorem WX.gP{fn:Func}{rs:List ResultVar}{vs:List Value}{R:Ending->World->Prop}(hr:fn.results=rs.toArray)(hv:ResV P F w₀ env L rs vs)(k:∀ w,Hp F w₀ w L->R (.returned (o6 vs)) w):
  @WX Rnd.base n F w₀ (bodyPost P fn R) .normal env L:=fun _ w h=>⟨h.defers,_,hv.run hr h,k w h.hp⟩
/-! pinning a Bool -/
theorem WL.pin{l:List Oper}{i:Nat}{b c:Bool}(hv:lk env i=some (.bool b))(hb:b=c)(k:WL P n F w₀ eA Q l ((i,.bool c)::env) L):WL P n F w₀ eA Q l env L:=by
 subst hb
 refine fun a w h=>k a w ⟨h.defers,h.size,fun j u hu=>?_,h.hp⟩
 simp only[lk] at hu
 by_cases hj:j=i
 ·subst hj;simp at hu;subst hu;exact h.ev _ _ hv
 ·rw[uw hj] at hu;exact h.ev j u hu
theorem L3{tl:Nat->Bool}{Ls:List Asrt}{fuel:Nat}{listed:Array Bool}{QD:Act->World->Prop}{i:Nat}{b c:Bool}(hv:lk env i=some (.bool b))(hb:b=c)(k:WD P n F w₀ eA tl Ls QD fuel listed ((i,.bool c)::env) L):WD P n F w₀ eA tl Ls QD fuel listed env L:=by
 subst hb
 refine fun a w h=>k a w ⟨h.defers,h.size,fun j u hu=>?_,h.hp⟩
 simp only[lk] at hu
 by_cases hj:j=i
 ·subst hj;simp at hu;subst hu;exact h.ev _ _ hv
 ·rw[uw hj] at hu;exact h.ev j u hu
end
end
section
variable {tl:Nat->Bool}{Ls:List Asrt}{fuel:Nat}{listed:Array Bool}{QD:Act->World->Prop}
variable [Rnd]
def nth{α:Type}[Inhabited α](l:List α)(i:Int):α:=l.getD i.toNat default
theorem gU{α:Type}[Inhabited α]{l:List α}{i:Int}(_h0:0<=i)(h:i<l.length):l[i.toNat]'(by omega)=nth l i:=by
 unfold nth;rw[List.getD_eq_getElem?_getD,List.getElem?_eq_getElem (by omega)];rfl
theorem w64{m:Int}(h : -9223372036854775808<=m/\m<=9223372036854775807):IntKind.wrap .i64 m=m:=by
 rw[IntKind.wrap_i64];omega
theorem zL{c d:Bool}(h:c=d):some (Value.bool c)=some (Value.bool d):=by rw[h]
theorem xK{v u:Value}(h:v=u):Ending.returned (o6 [v]) = .returned u:=by rw[h];rfl
theorem vg{v v' u u':Value}(h:v=u)(h':v'=u'):Ending.returned (o6 [v,v']) = .returned (.tuple #[u,u']):=by rw[h,h'];rfl
theorem sp:Ending.returned (o6 []) = .returned (.tuple #[]):=rfl
section
variable {P:Program} {n:Nat} {F:List Nat} {w₀:World} {env:List (Nat×Value)} {L Lc Lr R:List Asrt} {eA:Array Oper} {Q:Exit->Act->World->Prop} {fi:List Oper}
 {dd:Nat} {d:Option Tmp} {ty:TypeId} {pos:String} {after:Array Edge} {g:Option (Nat×Bool)} {x y:Operand} {v u:Value} {t e T:TypeId} {sz pm:Nat}
theorem WL.nth{α:Type}[Inhabited α]{Pr:List Value->α->Prop}{l:List α}{ao:Option Addr}{m cap:Nat}{kk:IntKind}{i:Int}(hg:gd env eA ⟨some dd,.indexAddr t x y,ty,pos,after,g⟩=some true)(iR:Nat.blt dd n=true)(ht:elT P t e sz pm)(hx:eo env x=some (.slice ao m cap))(hy:eo env y=some (.int kk i))(hs:gO F w₀ (.slice ao m cap) sz Pr l)(h0:0<=i)(h1:i<l.length)(k:∀ A r,qj F w₀ A r->r.length=sz->Pr r (nth l i)->WL P n F w₀ eA Q fi ((dd,.pointer (some A))::env) L):
  WL P n F w₀ eA Q (⟨some dd,.indexAddr t x y,ty,pos,after,g⟩::fi) env L:=by
 have hl:=hs.len
 subst hl
 exact WL.slIndex hg iR ht hx hy hs h0 (by omega) fun A r BY h2 h3=>k A r BY h2 (by rw[<- gU h0 h1];exact h3)
theorem WD.nth{tl:Nat->Bool}{Ls:List Asrt}{fuel:Nat}{listed:Array Bool}{QD:Act->World->Prop}{j:Nat}{α:Type}[Inhabited α]{Pr:List Value->α->Prop}{l:List α}{ao:Option Addr}{m cap:Nat}{kk:IntKind}{i:Int}(zj:mj eA=true)(hi:eA[j]?=some ⟨some dd,.indexAddr t x y,ty,pos,after,g⟩)(hr:(Region.ready .any eA listed).contains j=true)(hf:gL eA tl listed j=true)(hg:gd env eA ⟨some dd,.indexAddr t x y,ty,pos,after,g⟩=some true)(iR:Nat.blt dd n=true)(ht:elT P t e sz pm)(hx:eo env x=some (.slice ao m cap))(hy:eo env y=some (.int kk i))(hs:gO F w₀ (.slice ao m cap) sz Pr l)(h0:0<=i)(h1:i<l.length)(k:∀ A r,qj F w₀ A r->r.length=sz->Pr r (nth l i)->WD P n F w₀ eA tl Ls QD fuel (listed.setIfInBounds j true) ((dd,.pointer (some A))::env) L):
  WD P n F w₀ eA tl Ls QD (fuel+1) listed env L:=by
 have hl:=hs.len
 subst hl
 exact WD.slIndex zj hi hr hf hg iR ht hx hy hs h0 (by omega) fun A r BY h2 h3=>k A r BY h2 (by rw[<- gU h0 h1];exact h3)
theorem WL.cut{G:Type}(φ:G->Prop)(fg:G->List (Nat×Value))(LI:G->List Asrt)(k:Nat){l:List Oper}(k1:WL P n F w₀ eA (Exit.then (fun a w=>∃ g,φ g/\SS n F w₀ (fg g) (LI g) a w) Q) (l.take k) env L)(k2:∀ g,φ g->WL P n F w₀ eA Q (l.drop k) (fg g) (LI g)):WL P n F w₀ eA Q l env L:=by
 intro a w h
 have gen:∀(l1 l2:List Oper) (Q':Exit->Act->World->Prop) a w,(∀ a w,Q' .normal a w->wpListIn FN 0 P eA Q l2 a w)->(∀ e a w,e ≠ .normal->Q' e a w->Q e a w)->wpListIn FN 0 P eA Q' l1 a w->wpListIn FN 0 P eA Q (l1++l2) a w:=by
  intro l1
  induction l1 with
  | nil=>intro l2 Q' a w h1 _ h;exact h1 a w h
  | cons o l1 ih=>
   intro l2 Q' a w h1 h2 h
   rw[List.cons_append]
   unfold wpListIn at h ⊢
   split
   ·rename_i hw
    simp only[hw,if_true] at h
    refine⟨h.1,?_⟩
    have h:=h.2
    generalize (o.semAt FN.round a.eval).run P w=r at h ⊢
    cases r with
    | ok x w'=>
     cases x <;> simp only[Oper.uponIn] at h ⊢
     case enter f args=>
      refine⟨h.1,CallsIn.mono h.2 ?_⟩
      intro e oK he
      cases e with
      | returned v=>exact ih l2 Q' _ _ h1 h2 he
      | panicked c=>exact h2 _ _ _ (by simp) he
      | outgrown=>obtain⟨a',w',hq⟩:=he;exact⟨a',w',h2 _ _ _ (by simp) hq⟩
     case round l f tmps as_ bo=>
      refine⟨h.1,RoundIn.mono h.2 ?_⟩
      intro e oK he
      cases e with
      | returned v=>exact ih l2 Q' _ _ h1 h2 he
      | panicked c=>exact h2 _ _ _ (by simp) he
      | outgrown=>obtain⟨a',w',hq⟩:=he;exact⟨a',w',h2 _ _ _ (by simp) hq⟩
     case row r args=>exact⟨h.1,RowsIn.mono h.2 (fun _ _ he=>ih l2 Q' _ _ h1 h2 he)⟩
     all_goals exact ih l2 Q' _ _ h1 h2 h
    | halt x w'=>cases x <;> simp only[Oper.uponIn] at h ⊢ <;> exact h2 _ _ _ (by simp) h
   ·rename_i hw
    simp only[hw] at h
    exact⟨h.1,ih l2 Q' _ _ h1 h2 h.2⟩
 have:=gen (l.take k) (l.drop k) _ a w (fun a w ⟨g,so,hs⟩=>k2 g so a w hs) (fun e a w he hq=>by cases e <;> first | exact absurd rfl he | exact hq) (k1 a w h)
 rwa [List.take_append_drop] at this
theorem WL.pQ{G:Type}{φ:G->Prop}{fg:G->List (Nat×Value)}{LI:G->List Asrt}{M:List Asrt}(g:G)(so:φ g)(hr:Restr env (fg g))(hL:Sel L (LI g) M):
  WL P n F w₀ eA (Exit.then (fun a w=>∃ g,φ g/\SS n F w₀ (fg g) (LI g) a w) Q) [] env L:=
 fun _ _ h=>⟨g,so,(h.restr hr).drop hL⟩
def wm(n:Nat)(done:List Nat):Array Bool:=done.foldr (fun i a=>a.setIfInBounds i true) (Array.replicate n false)
theorem Kb{fuel':Nat}(env':List (Nat×Value))(ik:Array Bool)(k2:WD P n F w₀ eA tl Ls QD fuel' ik env' L)(k1:WD P n F w₀ eA tl Ls QD fuel' ik env' L->WD P n F w₀ eA tl Ls QD fuel listed env L):WD P n F w₀ eA tl Ls QD fuel listed env L:=k1 k2
/-! rules in the form that the printer uses -/
theorem WL.new{G:Type}{φ:G->Prop}{val:G->Value}{L':G->List Asrt}{o:Oper}(hg:gd env eA o=some true)(hd:o.dst=some dd)(iR:Nat.blt dd n=true)(hq:b5 P n F w₀ env L o φ val L')(k:∀ g,φ g->WL P n F w₀ eA Q fi ((dd,val g)::env) (L' g)):WL P n F w₀ eA Q (o::fi) env L:=WL.eff hg hd iR hq.ef k
theorem WD.new{G:Type}{φ:G->Prop}{val:G->Value}{L':G->List Asrt}{o:Oper}{i:Nat}(hi:eA[i]?=some o)(hr:Region.ready .any eA listed=[i])(hg:gd env eA o=some true)(hd:o.dst=some dd)(iR:Nat.blt dd n=true)(hq:b5 P n F w₀ env L o φ val L')(lu:tl i=true->∀ g,ws (L' g) Ls)(k:∀ g,φ g->WD P n F w₀ eA tl Ls QD fuel (listed.setIfInBounds i true) ((dd,val g)::env) (L' g)):WD P n F w₀ eA tl Ls QD (fuel+1) listed env L:=
 WD.forced hi hr hg hd iR (fun a w h=>let ⟨g,w',h1,h2,h3,h4⟩:=hq a w h;⟨g,w',h1,h2,h3,fun _=>h4⟩) lu k
theorem WD.old{G:Type}{φ:G->Prop}{val:G->Value}{L':G->List Asrt}{o:Oper}{i:Nat}(hi:eA[i]?=some o)(hr:Region.ready .any eA listed=[i])(hg:gd env eA o=some true)(hd:o.dst=some dd)(iR:Nat.blt dd n=true)(ht:tl i=true)(lu:∀ g,ws (L' g) Ls)(hq:Ef P n F w₀ env L o φ val L')(k:∀ g,φ g->WD P n F w₀ eA tl Ls QD fuel (listed.setIfInBounds i true) ((dd,val g)::env) (L' g)):WD P n F w₀ eA tl Ls QD (fuel+1) listed env L:=
 WD.forced hi hr hg hd iR (fun a w h=>let ⟨g,w',h1,h2,h3⟩:=hq a w h;⟨g,w',h1,h2,h3,fun hf=>by rw[ht] at hf;cases hf⟩) (fun _=>lu) k
theorem Lq{l:List Operand}{vs:List Value}(he:Eos env l vs)(is:List Nat):∀ a w,SS n F w₀ env L a w->((is.zip l).toArray.map fun(i,x)=>(i,a.eval x))=(is.zip vs).toArray:=by
 intro a w h
 simp only[List.map_toArray]
 congr 1
 induction he generalizing is with
 | nil=>simp
 | cons hx _ ih=>
  cases is with
  | nil=>simp
  | cons i is=>simp only[List.zip_cons_cons,List.map_cons,h.eval hx,ih is]
theorem L4{l:List Operand}{vs:List Value}(he:Eos env l vs):∀ a w,SS n F w₀ env L a w->l.toArray.map a.eval=vs.toArray:=by
 intro a w h
 rw[List.map_toArray,he.map h]
end
end
section
variable {A0 A1 A2 A3 A4 A5 A6:Type}{M Ls:List Asrt}{f:FuncId}{vs:Array Value}{x y:Code}{tl:Nat->Bool}{fuel i:Nat}{listed:Array Bool}{QD:Act->World->Prop}
variable [Rnd]
theorem uz{b c:Bool}(h:b=true):true=(b||c):=by rw[h];rfl
theorem uA{b c:Bool}(h:b=false):c=(b||c):=by rw[h];rfl
theorem kb{b c:Bool}(h:b=false):false=(b&&c):=by rw[h];rfl
theorem kc{b c:Bool}(h:b=true):c=(b&&c):=by rw[h];rfl
section
variable {P:Program} {n:Nat} {F:List Nat} {w₀:World} {env:List (Nat×Value)} {L Lc Lr R:List Asrt} {eA:Array Oper} {Q:Exit->Act->World->Prop} {fi:List Oper} {dd:Nat}
theorem L9(φ:Prop)(fg:List (Nat×Value))(LI:List Asrt)(k1:WC P n F w₀ (Exit.then (fun a w=>∃ _g:Unit,φ/\SS n F w₀ fg LI a w) Q) x env L)(k2:φ->WC P n F w₀ Q y fg LI):WC P n F w₀ Q (.seq x y) env L:=
 WC.mD (G:=Unit) (fun _=>φ) (fun _=>fg) (fun _=>LI) k1 (fun _ h=>k2  h)
theorem WL.gj{o:Oper}{φ:Prop}{val:Value}(hg:gd env eA o=some true)(hd:o.dst=some dd)(iR:Nat.blt dd n=true)(f5:∀ a w,SS n F w₀ env L a w->(execOp a.eval o).run P w = .ok (.enter f vs) w)(hs:Sel L Lc Lr)(hc:∀ w,Hp F w₀ w L->Calls P f vs w fun e w'=>e = .returned val/\φ/\Hp (fps Lc) w w' M)(k:φ->WL P n F w₀ eA Q fi ((dd,val)::env) (M++Lr)):WL P n F w₀ eA Q (o::fi) env L:=
 WL.enter (G:=Unit) (φ:=fun _=>φ) (val:=fun _=>val) (M:=fun _=>M) hg hd iR f5 hs
  (fun w h=>(hc w h).mono fun e w'=>by rintro⟨h1,h2,h3⟩;exact⟨(),h1,h2,h3⟩) (fun _ h=>k  h)
theorem WD.call0{o:Oper}{φ:Prop}{val:Value}(hi:eA[i]?=some o)(hr:Region.ready .any eA listed=[i])(hg:gd env eA o=some true)(hd:o.dst=some dd)(iR:Nat.blt dd n=true)(ht:(tl i=true/\(ws (M++Lr) Ls))\/Lc=[])(f5:∀ a w,SS n F w₀ env L a w->(execOp a.eval o).run P w = .ok (.enter f vs) w)(hs:Sel L Lc Lr)(hc:∀ w,Hp F w₀ w L->Calls P f vs w fun e w'=>e = .returned val/\φ/\Hp (fps Lc) w w' M)(k:φ->WD P n F w₀ eA tl Ls QD fuel (listed.setIfInBounds i true) ((dd,val)::env) (M++Lr)):WD P n F w₀ eA tl Ls QD (fuel+1) listed env L:=
 WD.forcedCall (G:=Unit) (φ:=fun _=>φ) (val:=fun _=>val) (M:=fun _=>M) hi hr hg hd iR (ht.imp (fun h=>⟨h.1,fun _=>h.2⟩) id) f5 hs
  (fun w h=>(hc w h).mono fun e w'=>by rintro⟨h1,h2,h3⟩;exact⟨(),h1,h2,h3⟩) (fun _ h=>k  h)
theorem WL.cut1(φ:A0->Prop)(fg:A0->List (Nat×Value))(LI:A0->List Asrt)(j:Nat){l:List Oper}(k1:WL P n F w₀ eA (Exit.then (fun a w=>∃ g:A0,(φ g)/\SS n F w₀ (fg g) (LI g) a w) Q) (l.take j) env L)(k2:∀ x0,(φ x0)->WL P n F w₀ eA Q (l.drop j) (fg x0) (LI x0)):WL P n F w₀ eA Q l env L:=
 WL.cut (G:=A0) (fun g=>(φ g)) (fun g=>(fg g)) (fun g=>(LI g)) j k1 (fun g h=>k2 g h)
theorem WC.jh(φ:A0->Prop)(fg:A0->List (Nat×Value))(LI:A0->List Asrt)(k1:WC P n F w₀ (Exit.then (fun a w=>∃ g:A0,(φ g)/\SS n F w₀ (fg g) (LI g) a w) Q) x env L)(k2:∀ x0,(φ x0)->WC P n F w₀ Q y (fg x0) (LI x0)):WC P n F w₀ Q (.seq x y) env L:=
 WC.mD (G:=A0) (fun g=>(φ g)) (fun g=>(fg g)) (fun g=>(LI g)) k1 (fun g h=>k2 g h)
theorem WL.iv{o:Oper}{φ:A0->Prop}{val:A0->Value}{M:A0->List Asrt}(hg:gd env eA o=some true)(hd:o.dst=some dd)(iR:Nat.blt dd n=true)(f5:∀ a w,SS n F w₀ env L a w->(execOp a.eval o).run P w = .ok (.enter f vs) w)(hs:Sel L Lc Lr)(hc:∀ w,Hp F w₀ w L->Calls P f vs w fun e w'=>∃ x0,e = .returned (val x0)/\(φ x0)/\Hp (fps Lc) w w' (M x0))(k:∀ x0,(φ x0)->WL P n F w₀ eA Q fi ((dd,val x0)::env) ((M x0)++Lr)):WL P n F w₀ eA Q (o::fi) env L:=
 WL.enter (G:=A0) (φ:=fun g=>(φ g)) (val:=fun g=>(val g)) (M:=fun g=>(M g)) hg hd iR f5 hs
  (fun w h=>(hc w h).mono fun e w'=>by rintro⟨x0,h1,h2,h3⟩;exact⟨x0,h1,h2,h3⟩) (fun g h=>k g h)
theorem WC.fm(φ:A0->A1->Prop)(fg:A0->A1->List (Nat×Value))(LI:A0->A1->List Asrt)(k1:WC P n F w₀ (Exit.then (fun a w=>∃ g:A0×A1,(φ g.1 g.2)/\SS n F w₀ (fg g.1 g.2) (LI g.1 g.2) a w) Q) x env L)(k2:∀ x0 x1,(φ x0 x1)->WC P n F w₀ Q y (fg x0 x1) (LI x0 x1)):WC P n F w₀ Q (.seq x y) env L:=
 WC.mD (G:=A0×A1) (fun g=>(φ g.1 g.2)) (fun g=>(fg g.1 g.2)) (fun g=>(LI g.1 g.2)) k1 (fun g h=>k2 g.1 g.2 h)
theorem Ka(φ:A0->A1->Prop)(fg:A0->A1->List (Nat×Value))(LI:A0->A1->List Asrt)(μ:A0->A1->Nat){c:Code}(ln:A0×A1)(h0:((fun g=>(φ g.1 g.2)):A0×A1->Prop) ln)(hr:Restr env (((fun g=>(fg g.1 g.2)):A0×A1->_) ln))(hL:Sel L (((fun g=>(LI g.1 g.2)):A0×A1->_) ln) M)(round:∀ x0 x1,(φ x0 x1)->WC P n F w₀ (Exit.then (fun a w=>∃ g':A0×A1,(((fun g=>(φ g.1 g.2)):A0×A1->Prop) g'/\((fun g=>(μ g.1 g.2)):A0×A1->Nat) g'<(μ x0 x1))/\SS n F w₀ (((fun g=>(fg g.1 g.2)):A0×A1->_) g') (((fun g=>(LI g.1 g.2)):A0×A1->_) g') a w) Q) c (fg x0 x1) (LI x0 x1)):
  WC P n F w₀ Q (.loop c) env L:=
 WC.loop (G:=A0×A1) (fun g=>(φ g.1 g.2)) (fun g=>(fg g.1 g.2)) (fun g=>(LI g.1 g.2)) (fun g=>(μ g.1 g.2)) ln h0 hr hL (fun g h=>round g.1 g.2 h)
theorem WL.kY{o:Oper}{φ:A0->A1->Prop}{val:A0->A1->Value}{M:A0->A1->List Asrt}(hg:gd env eA o=some true)(hd:o.dst=some dd)(iR:Nat.blt dd n=true)(f5:∀ a w,SS n F w₀ env L a w->(execOp a.eval o).run P w = .ok (.enter f vs) w)(hs:Sel L Lc Lr)(hc:∀ w,Hp F w₀ w L->Calls P f vs w fun e w'=>∃ x0 x1,e = .returned (val x0 x1)/\(φ x0 x1)/\Hp (fps Lc) w w' (M x0 x1))(k:∀ x0 x1,(φ x0 x1)->WL P n F w₀ eA Q fi ((dd,val x0 x1)::env) ((M x0 x1)++Lr)):WL P n F w₀ eA Q (o::fi) env L:=
 WL.enter (G:=A0×A1) (φ:=fun g=>(φ g.1 g.2)) (val:=fun g=>(val g.1 g.2)) (M:=fun g=>(M g.1 g.2)) hg hd iR f5 hs
  (fun w h=>(hc w h).mono fun e w'=>by rintro⟨x0,x1,h1,h2,h3⟩;exact⟨⟨x0,x1⟩,h1,h2,h3⟩) (fun g h=>k g.1 g.2 h)
theorem WD.call2{o:Oper}{φ:A0->A1->Prop}{val:A0->A1->Value}{M:A0->A1->List Asrt}(hi:eA[i]?=some o)(hr:Region.ready .any eA listed=[i])(hg:gd env eA o=some true)(hd:o.dst=some dd)(iR:Nat.blt dd n=true)(ht:(tl i=true/\(∀ x0 x1,ws ((M x0 x1)++Lr) Ls))\/Lc=[])(f5:∀ a w,SS n F w₀ env L a w->(execOp a.eval o).run P w = .ok (.enter f vs) w)(hs:Sel L Lc Lr)(hc:∀ w,Hp F w₀ w L->Calls P f vs w fun e w'=>∃ x0 x1,e = .returned (val x0 x1)/\(φ x0 x1)/\Hp (fps Lc) w w' (M x0 x1))(k:∀ x0 x1,(φ x0 x1)->WD P n F w₀ eA tl Ls QD fuel (listed.setIfInBounds i true) ((dd,val x0 x1)::env) ((M x0 x1)++Lr)):WD P n F w₀ eA tl Ls QD (fuel+1) listed env L:=
 WD.forcedCall (G:=A0×A1) (φ:=fun g=>(φ g.1 g.2)) (val:=fun g=>(val g.1 g.2)) (M:=fun g=>(M g.1 g.2)) hi hr hg hd iR (ht.imp (fun h=>⟨h.1,fun g=>h.2 g.1 g.2⟩) id) f5 hs
  (fun w h=>(hc w h).mono fun e w'=>by rintro⟨x0,x1,h1,h2,h3⟩;exact⟨⟨x0,x1⟩,h1,h2,h3⟩) (fun g h=>k g.1 g.2 h)
theorem WC.qN(φ:A0->A1->A2->Prop)(fg:A0->A1->A2->List (Nat×Value))(LI:A0->A1->A2->List Asrt)(k1:WC P n F w₀ (Exit.then (fun a w=>∃ g:A0×A1×A2,(cu3 φ g)/\SS n F w₀ (cu3 fg g) (cu3 LI g) a w) Q) x env L)(k2:∀ x0 x1 x2,(φ x0 x1 x2)->WC P n F w₀ Q y (fg x0 x1 x2) (LI x0 x1 x2)):WC P n F w₀ Q (.seq x y) env L:=
 WC.mD (G:=A0×A1×A2) (fun g=>(cu3 φ g)) (fun g=>(cu3 fg g)) (fun g=>(cu3 LI g)) k1 (fun g h=>k2 g.1 g.2.1 g.2.2 h)
theorem WC.p9(φ:A0->A1->A2->Prop)(fg:A0->A1->A2->List (Nat×Value))(LI:A0->A1->A2->List Asrt)(μ:A0->A1->A2->Nat){c:Code}(ln:A0×A1×A2)(h0:((fun g=>(cu3 φ g)):A0×A1×A2->Prop) ln)(hr:Restr env (((fun g=>(cu3 fg g)):A0×A1×A2->_) ln))(hL:Sel L (((fun g=>(cu3 LI g)):A0×A1×A2->_) ln) M)(round:∀ x0 x1 x2,(φ x0 x1 x2)->WC P n F w₀ (Exit.then (fun a w=>∃ g':A0×A1×A2,(((fun g=>(cu3 φ g)):A0×A1×A2->Prop) g'/\((fun g=>(cu3 μ g)):A0×A1×A2->Nat) g'<(μ x0 x1 x2))/\SS n F w₀ (((fun g=>(cu3 fg g)):A0×A1×A2->_) g') (((fun g=>(cu3 LI g)):A0×A1×A2->_) g') a w) Q) c (fg x0 x1 x2) (LI x0 x1 x2)):
  WC P n F w₀ Q (.loop c) env L:=
 WC.loop (G:=A0×A1×A2) (fun g=>(cu3 φ g)) (fun g=>(cu3 fg g)) (fun g=>(cu3 LI g)) (fun g=>(cu3 μ g)) ln h0 hr hL (fun g h=>round g.1 g.2.1 g.2.2 h)
theorem WL.eI{o:Oper}{φ:A0->A1->A2->Prop}{val:A0->A1->A2->Value}{M:A0->A1->A2->List Asrt}(hg:gd env eA o=some true)(hd:o.dst=some dd)(iR:Nat.blt dd n=true)(f5:∀ a w,SS n F w₀ env L a w->(execOp a.eval o).run P w = .ok (.enter f vs) w)(hs:Sel L Lc Lr)(hc:∀ w,Hp F w₀ w L->Calls P f vs w fun e w'=>∃ x0 x1 x2,e = .returned (val x0 x1 x2)/\(φ x0 x1 x2)/\Hp (fps Lc) w w' (M x0 x1 x2))(k:∀ x0 x1 x2,(φ x0 x1 x2)->WL P n F w₀ eA Q fi ((dd,val x0 x1 x2)::env) ((M x0 x1 x2)++Lr)):WL P n F w₀ eA Q (o::fi) env L:=
 WL.enter (G:=A0×A1×A2) (φ:=fun g=>(cu3 φ g)) (val:=fun g=>(cu3 val g)) (M:=fun g=>(cu3 M g)) hg hd iR f5 hs
  (fun w h=>(hc w h).mono fun e w'=>by rintro⟨x0,x1,x2,h1,h2,h3⟩;exact⟨⟨x0,x1,x2⟩,h1,h2,h3⟩) (fun g h=>k g.1 g.2.1 g.2.2 h)
theorem WC.rK(φ:A0->A1->A2->A3->Prop)(fg:A0->A1->A2->A3->List (Nat×Value))(LI:A0->A1->A2->A3->List Asrt)(k1:WC P n F w₀ (Exit.then (fun a w=>∃ g:A0×A1×A2×A3,(cu4 φ g)/\SS n F w₀ (cu4 fg g) (cu4 LI g) a w) Q) x env L)(k2:∀ x0 x1 x2 x3,(φ x0 x1 x2 x3)->WC P n F w₀ Q y (fg x0 x1 x2 x3) (LI x0 x1 x2 x3)):WC P n F w₀ Q (.seq x y) env L:=
 WC.mD (G:=A0×A1×A2×A3) (fun g=>(cu4 φ g)) (fun g=>(cu4 fg g)) (fun g=>(cu4 LI g)) k1 (fun g h=>k2 g.1 g.2.1 g.2.2.1 g.2.2.2 h)
theorem WC.mG(φ:A0->A1->A2->A3->Prop)(fg:A0->A1->A2->A3->List (Nat×Value))(LI:A0->A1->A2->A3->List Asrt)(μ:A0->A1->A2->A3->Nat){c:Code}(ln:A0×A1×A2×A3)(h0:((fun g=>(cu4 φ g)):A0×A1×A2×A3->Prop) ln)(hr:Restr env (((fun g=>(cu4 fg g)):A0×A1×A2×A3->_) ln))(hL:Sel L (((fun g=>(cu4 LI g)):A0×A1×A2×A3->_) ln) M)(round:∀ x0 x1 x2 x3,(φ x0 x1 x2 x3)->WC P n F w₀ (Exit.then (fun a w=>∃ g':A0×A1×A2×A3,(((fun g=>(cu4 φ g)):A0×A1×A2×A3->Prop) g'/\((fun g=>(cu4 μ g)):A0×A1×A2×A3->Nat) g'<(μ x0 x1 x2 x3))/\SS n F w₀ (((fun g=>(cu4 fg g)):A0×A1×A2×A3->_) g') (((fun g=>(cu4 LI g)):A0×A1×A2×A3->_) g') a w) Q) c (fg x0 x1 x2 x3) (LI x0 x1 x2 x3)):
  WC P n F w₀ Q (.loop c) env L:=
 WC.loop (G:=A0×A1×A2×A3) (fun g=>(cu4 φ g)) (fun g=>(cu4 fg g)) (fun g=>(cu4 LI g)) (fun g=>(cu4 μ g)) ln h0 hr hL (fun g h=>round g.1 g.2.1 g.2.2.1 g.2.2.2 h)
theorem WL.tI{o:Oper}{φ:A0->A1->A2->A3->Prop}{val:A0->A1->A2->A3->Value}{M:A0->A1->A2->A3->List Asrt}(hg:gd env eA o=some true)(hd:o.dst=some dd)(iR:Nat.blt dd n=true)(f5:∀ a w,SS n F w₀ env L a w->(execOp a.eval o).run P w = .ok (.enter f vs) w)(hs:Sel L Lc Lr)(hc:∀ w,Hp F w₀ w L->Calls P f vs w fun e w'=>∃ x0 x1 x2 x3,e = .returned (val x0 x1 x2 x3)/\(φ x0 x1 x2 x3)/\Hp (fps Lc) w w' (M x0 x1 x2 x3))(k:∀ x0 x1 x2 x3,(φ x0 x1 x2 x3)->WL P n F w₀ eA Q fi ((dd,val x0 x1 x2 x3)::env) ((M x0 x1 x2 x3)++Lr)):WL P n F w₀ eA Q (o::fi) env L:=
 WL.enter (G:=A0×A1×A2×A3) (φ:=fun g=>(cu4 φ g)) (val:=fun g=>(cu4 val g)) (M:=fun g=>(cu4 M g)) hg hd iR f5 hs
  (fun w h=>(hc w h).mono fun e w'=>by rintro⟨x0,x1,x2,x3,h1,h2,h3⟩;exact⟨⟨x0,x1,x2,x3⟩,h1,h2,h3⟩) (fun g h=>k g.1 g.2.1 g.2.2.1 g.2.2.2 h)
theorem WD.call4{o:Oper}{φ:A0->A1->A2->A3->Prop}{val:A0->A1->A2->A3->Value}{M:A0->A1->A2->A3->List Asrt}(hi:eA[i]?=some o)(hr:Region.ready .any eA listed=[i])(hg:gd env eA o=some true)(hd:o.dst=some dd)(iR:Nat.blt dd n=true)(ht:(tl i=true/\(∀ x0 x1 x2 x3,ws ((M x0 x1 x2 x3)++Lr) Ls))\/Lc=[])(f5:∀ a w,SS n F w₀ env L a w->(execOp a.eval o).run P w = .ok (.enter f vs) w)(hs:Sel L Lc Lr)(hc:∀ w,Hp F w₀ w L->Calls P f vs w fun e w'=>∃ x0 x1 x2 x3,e = .returned (val x0 x1 x2 x3)/\(φ x0 x1 x2 x3)/\Hp (fps Lc) w w' (M x0 x1 x2 x3))(k:∀ x0 x1 x2 x3,(φ x0 x1 x2 x3)->WD P n F w₀ eA tl Ls QD fuel (listed.setIfInBounds i true) ((dd,val x0 x1 x2 x3)::env) ((M x0 x1 x2 x3)++Lr)):WD P n F w₀ eA tl Ls QD (fuel+1) listed env L:=
 WD.forcedCall (G:=A0×A1×A2×A3) (φ:=fun g=>(cu4 φ g)) (val:=fun g=>(cu4 val g)) (M:=fun g=>(cu4 M g)) hi hr hg hd iR (ht.imp (fun h=>⟨h.1,fun g=>h.2 g.1 g.2.1 g.2.2.1 g.2.2.2⟩) id) f5 hs
  (fun w h=>(hc w h).mono fun e w'=>by rintro⟨x0,x1,x2,x3,h1,h2,h3⟩;exact⟨⟨x0,x1,x2,x3⟩,h1,h2,h3⟩) (fun g h=>k g.1 g.2.1 g.2.2.1 g.2.2.2 h)
theorem WC.rL(φ:A0->A1->A2->A3->A4->Prop)(fg:A0->A1->A2->A3->A4->List (Nat×Value))(LI:A0->A1->A2->A3->A4->List Asrt)(k1:WC P n F w₀ (Exit.then (fun a w=>∃ g:A0×A1×A2×A3×A4,(cu5 φ g)/\SS n F w₀ (cu5 fg g) (cu5 LI g) a w) Q) x env L)(k2:∀ x0 x1 x2 x3 x4,(φ x0 x1 x2 x3 x4)->WC P n F w₀ Q y (fg x0 x1 x2 x3 x4) (LI x0 x1 x2 x3 x4)):WC P n F w₀ Q (.seq x y) env L:=
 WC.mD (G:=A0×A1×A2×A3×A4) (fun g=>(cu5 φ g)) (fun g=>(cu5 fg g)) (fun g=>(cu5 LI g)) k1 (fun g h=>k2 g.1 g.2.1 g.2.2.1 g.2.2.2.1 g.2.2.2.2 h)
theorem WC.tz(φ:A0->A1->A2->A3->A4->Prop)(fg:A0->A1->A2->A3->A4->List (Nat×Value))(LI:A0->A1->A2->A3->A4->List Asrt)(μ:A0->A1->A2->A3->A4->Nat){c:Code}(ln:A0×A1×A2×A3×A4)(h0:((fun g=>(cu5 φ g)):A0×A1×A2×A3×A4->Prop) ln)(hr:Restr env (((fun g=>(cu5 fg g)):A0×A1×A2×A3×A4->_) ln))(hL:Sel L (((fun g=>(cu5 LI g)):A0×A1×A2×A3×A4->_) ln) M)(round:∀ x0 x1 x2 x3 x4,(φ x0 x1 x2 x3 x4)->WC P n F w₀ (Exit.then (fun a w=>∃ g':A0×A1×A2×A3×A4,(((fun g=>(cu5 φ g)):A0×A1×A2×A3×A4->Prop) g'/\((fun g=>(cu5 μ g)):A0×A1×A2×A3×A4->Nat) g'<(μ x0 x1 x2 x3 x4))/\SS n F w₀ (((fun g=>(cu5 fg g)):A0×A1×A2×A3×A4->_) g') (((fun g=>(cu5 LI g)):A0×A1×A2×A3×A4->_) g') a w) Q) c (fg x0 x1 x2 x3 x4) (LI x0 x1 x2 x3 x4)):
  WC P n F w₀ Q (.loop c) env L:=
 WC.loop (G:=A0×A1×A2×A3×A4) (fun g=>(cu5 φ g)) (fun g=>(cu5 fg g)) (fun g=>(cu5 LI g)) (fun g=>(cu5 μ g)) ln h0 hr hL (fun g h=>round g.1 g.2.1 g.2.2.1 g.2.2.2.1 g.2.2.2.2 h)
theorem WC.rM(φ:A0->A1->A2->A3->A4->A5->Prop)(fg:A0->A1->A2->A3->A4->A5->List (Nat×Value))(LI:A0->A1->A2->A3->A4->A5->List Asrt)(k1:WC P n F w₀ (Exit.then (fun a w=>∃ g:A0×A1×A2×A3×A4×A5,(cu6 φ g)/\SS n F w₀ (cu6 fg g) (cu6 LI g) a w) Q) x env L)(k2:∀ x0 x1 x2 x3 x4 x5,(φ x0 x1 x2 x3 x4 x5)->WC P n F w₀ Q y (fg x0 x1 x2 x3 x4 x5) (LI x0 x1 x2 x3 x4 x5)):WC P n F w₀ Q (.seq x y) env L:=
 WC.mD (G:=A0×A1×A2×A3×A4×A5) (fun g=>(cu6 φ g)) (fun g=>(cu6 fg g)) (fun g=>(cu6 LI g)) k1 (fun g h=>k2 g.1 g.2.1 g.2.2.1 g.2.2.2.1 g.2.2.2.2.1 g.2.2.2.2.2 h)
theorem WC.pa(φ:A0->A1->A2->A3->A4->A5->Prop)(fg:A0->A1->A2->A3->A4->A5->List (Nat×Value))(LI:A0->A1->A2->A3->A4->A5->List Asrt)(μ:A0->A1->A2->A3->A4->A5->Nat){c:Code}(ln:A0×A1×A2×A3×A4×A5)(h0:((fun g=>(cu6 φ g)):A0×A1×A2×A3×A4×A5->Prop) ln)(hr:Restr env (((fun g=>(cu6 fg g)):A0×A1×A2×A3×A4×A5->_) ln))(hL:Sel L (((fun g=>(cu6 LI g)):A0×A1×A2×A3×A4×A5->_) ln) M)(round:∀ x0 x1 x2 x3 x4 x5,(φ x0 x1 x2 x3 x4 x5)->WC P n F w₀ (Exit.then (fun a w=>∃ g':A0×A1×A2×A3×A4×A5,(((fun g=>(cu6 φ g)):A0×A1×A2×A3×A4×A5->Prop) g'/\((fun g=>(cu6 μ g)):A0×A1×A2×A3×A4×A5->Nat) g'<(μ x0 x1 x2 x3 x4 x5))/\SS n F w₀ (((fun g=>(cu6 fg g)):A0×A1×A2×A3×A4×A5->_) g') (((fun g=>(cu6 LI g)):A0×A1×A2×A3×A4×A5->_) g') a w) Q) c (fg x0 x1 x2 x3 x4 x5) (LI x0 x1 x2 x3 x4 x5)):
  WC P n F w₀ Q (.loop c) env L:=
 WC.loop (G:=A0×A1×A2×A3×A4×A5) (fun g=>(cu6 φ g)) (fun g=>(cu6 fg g)) (fun g=>(cu6 LI g)) (fun g=>(cu6 μ g)) ln h0 hr hL (fun g h=>round g.1 g.2.1 g.2.2.1 g.2.2.2.1 g.2.2.2.2.1 g.2.2.2.2.2 h)
theorem WL.XE{o:Oper}{φ:A0->A1->A2->A3->A4->A5->Prop}{val:A0->A1->A2->A3->A4->A5->Value}{M:A0->A1->A2->A3->A4->A5->List Asrt}(hg:gd env eA o=some true)(hd:o.dst=some dd)(iR:Nat.blt dd n=true)(f5:∀ a w,SS n F w₀ env L a w->(execOp a.eval o).run P w = .ok (.enter f vs) w)(hs:Sel L Lc Lr)(hc:∀ w,Hp F w₀ w L->Calls P f vs w fun e w'=>∃ x0 x1 x2 x3 x4 x5,e = .returned (val x0 x1 x2 x3 x4 x5)/\(φ x0 x1 x2 x3 x4 x5)/\Hp (fps Lc) w w' (M x0 x1 x2 x3 x4 x5))(k:∀ x0 x1 x2 x3 x4 x5,(φ x0 x1 x2 x3 x4 x5)->WL P n F w₀ eA Q fi ((dd,val x0 x1 x2 x3 x4 x5)::env) ((M x0 x1 x2 x3 x4 x5)++Lr)):WL P n F w₀ eA Q (o::fi) env L:=
 WL.enter (G:=A0×A1×A2×A3×A4×A5) (φ:=fun g=>(cu6 φ g)) (val:=fun g=>(cu6 val g)) (M:=fun g=>(cu6 M g)) hg hd iR f5 hs
  (fun w h=>(hc w h).mono fun e w'=>by rintro⟨x0,x1,x2,x3,x4,x5,h1,h2,h3⟩;exact⟨⟨x0,x1,x2,x3,x4,x5⟩,h1,h2,h3⟩) (fun g h=>k g.1 g.2.1 g.2.2.1 g.2.2.2.1 g.2.2.2.2.1 g.2.2.2.2.2 h)
theorem WC.nF(φ:A0->A1->A2->A3->A4->A5->A6->Prop)(fg:A0->A1->A2->A3->A4->A5->A6->List (Nat×Value))(LI:A0->A1->A2->A3->A4->A5->A6->List Asrt)(μ:A0->A1->A2->A3->A4->A5->A6->Nat){c:Code}(ln:A0×A1×A2×A3×A4×A5×A6)(h0:((fun g=>(cu7 φ g)):A0×A1×A2×A3×A4×A5×A6->Prop) ln)(hr:Restr env (((fun g=>(cu7 fg g)):A0×A1×A2×A3×A4×A5×A6->_) ln))(hL:Sel L (((fun g=>(cu7 LI g)):A0×A1×A2×A3×A4×A5×A6->_) ln) M)(round:∀ x0 x1 x2 x3 x4 x5 x6,(φ x0 x1 x2 x3 x4 x5 x6)->WC P n F w₀ (Exit.then (fun a w=>∃ g':A0×A1×A2×A3×A4×A5×A6,(((fun g=>(cu7 φ g)):A0×A1×A2×A3×A4×A5×A6->Prop) g'/\((fun g=>(cu7 μ g)):A0×A1×A2×A3×A4×A5×A6->Nat) g'<(μ x0 x1 x2 x3 x4 x5 x6))/\SS n F w₀ (((fun g=>(cu7 fg g)):A0×A1×A2×A3×A4×A5×A6->_) g') (((fun g=>(cu7 LI g)):A0×A1×A2×A3×A4×A5×A6->_) g') a w) Q) c (fg x0 x1 x2 x3 x4 x5 x6) (LI x0 x1 x2 x3 x4 x5 x6)):
  WC P n F w₀ Q (.loop c) env L:=
 WC.loop (G:=A0×A1×A2×A3×A4×A5×A6) (fun g=>(cu7 φ g)) (fun g=>(cu7 fg g)) (fun g=>(cu7 LI g)) (fun g=>(cu7 μ g)) ln h0 hr hL (fun g h=>round g.1 g.2.1 g.2.2.1 g.2.2.2.1 g.2.2.2.2.1 g.2.2.2.2.2.1 g.2.2.2.2.2.2 h)
theorem WC.pb{A7:Type}(φ:A0->A1->A2->A3->A4->A5->A6->A7->Prop)(fg:A0->A1->A2->A3->A4->A5->A6->A7->List (Nat×Value))(LI:A0->A1->A2->A3->A4->A5->A6->A7->List Asrt)(μ:A0->A1->A2->A3->A4->A5->A6->A7->Nat){c:Code}(ln:A0×A1×A2×A3×A4×A5×A6×A7)(h0:((fun g=>(cu8 φ g)):A0×A1×A2×A3×A4×A5×A6×A7->Prop) ln)(hr:Restr env (((fun g=>(cu8 fg g)):A0×A1×A2×A3×A4×A5×A6×A7->_) ln))(hL:Sel L (((fun g=>(cu8 LI g)):A0×A1×A2×A3×A4×A5×A6×A7->_) ln) M)(round:∀ x0 x1 x2 x3 x4 x5 x6 x7,(φ x0 x1 x2 x3 x4 x5 x6 x7)->WC P n F w₀ (Exit.then (fun a w=>∃ g':A0×A1×A2×A3×A4×A5×A6×A7,(((fun g=>(cu8 φ g)):A0×A1×A2×A3×A4×A5×A6×A7->Prop) g'/\((fun g=>(cu8 μ g)):A0×A1×A2×A3×A4×A5×A6×A7->Nat) g'<(μ x0 x1 x2 x3 x4 x5 x6 x7))/\SS n F w₀ (((fun g=>(cu8 fg g)):A0×A1×A2×A3×A4×A5×A6×A7->_) g') (((fun g=>(cu8 LI g)):A0×A1×A2×A3×A4×A5×A6×A7->_) g') a w) Q) c (fg x0 x1 x2 x3 x4 x5 x6 x7) (LI x0 x1 x2 x3 x4 x5 x6 x7)):
  WC P n F w₀ Q (.loop c) env L:=
 WC.loop (G:=A0×A1×A2×A3×A4×A5×A6×A7) (fun g=>(cu8 φ g)) (fun g=>(cu8 fg g)) (fun g=>(cu8 LI g)) (fun g=>(cu8 μ g)) ln h0 hr hL (fun g h=>round g.1 g.2.1 g.2.2.1 g.2.2.2.1 g.2.2.2.2.1 g.2.2.2.2.2.1 g.2.2.2.2.2.2.1 g.2.2.2.2.2.2.2 h)
theorem WC.o7{A7 A8 A9:Type}(φ:A0->A1->A2->A3->A4->A5->A6->A7->A8->A9->Prop)(fg:A0->A1->A2->A3->A4->A5->A6->A7->A8->A9->List (Nat×Value))(LI:A0->A1->A2->A3->A4->A5->A6->A7->A8->A9->List Asrt)(k1:WC P n F w₀ (Exit.then (fun a w=>∃ g:A0×A1×A2×A3×A4×A5×A6×A7×A8×A9,(cu10 φ g)/\SS n F w₀ (cu10 fg g) (cu10 LI g) a w) Q) x env L)(k2:∀ x0 x1 x2 x3 x4 x5 x6 x7 x8 x9,(φ x0 x1 x2 x3 x4 x5 x6 x7 x8 x9)->WC P n F w₀ Q y (fg x0 x1 x2 x3 x4 x5 x6 x7 x8 x9) (LI x0 x1 x2 x3 x4 x5 x6 x7 x8 x9)):WC P n F w₀ Q (.seq x y) env L:=
 WC.mD (G:=A0×A1×A2×A3×A4×A5×A6×A7×A8×A9) (fun g=>(cu10 φ g)) (fun g=>(cu10 fg g)) (fun g=>(cu10 LI g)) k1 (fun g h=>k2 g.1 g.2.1 g.2.2.1 g.2.2.2.1 g.2.2.2.2.1 g.2.2.2.2.2.1 g.2.2.2.2.2.2.1 g.2.2.2.2.2.2.2.1 g.2.2.2.2.2.2.2.2.1 g.2.2.2.2.2.2.2.2.2 h)
end
end
section
variable [Rnd]
section
variable {P:Program} {n:Nat} {F:List Nat} {w₀:World} {env:List (Nat×Value)} {L Lc Lr R:List Asrt} {eA:Array Oper} {Q:Exit->Act->World->Prop} {fi:List Oper} {dd:Nat}
theorem WC.XF{A0 A1 A2 A3 A4 A5 A6 A7 A8 A9 o9 pO:Type}(φ:A0->A1->A2->A3->A4->A5->A6->A7->A8->A9->o9->pO->Prop)(fg:A0->A1->A2->A3->A4->A5->A6->A7->A8->A9->o9->pO->List (Nat×Value))(LI:A0->A1->A2->A3->A4->A5->A6->A7->A8->A9->o9->pO->List Asrt)(μ:A0->A1->A2->A3->A4->A5->A6->A7->A8->A9->o9->pO->Nat){c:Code}(ln:A0×A1×A2×A3×A4×A5×A6×A7×A8×A9×o9×pO)(h0:((fun g=>(cu12 φ g)):A0×A1×A2×A3×A4×A5×A6×A7×A8×A9×o9×pO->Prop) ln)(hr:Restr env (((fun g=>(cu12 fg g)):A0×A1×A2×A3×A4×A5×A6×A7×A8×A9×o9×pO->_) ln)){M:List Asrt}(hL:Sel L (((fun g=>(cu12 LI g)):A0×A1×A2×A3×A4×A5×A6×A7×A8×A9×o9×pO->_) ln) M)(round:∀ x0 x1 x2 x3 x4 x5 x6 x7 x8 x9 lr ly,(φ x0 x1 x2 x3 x4 x5 x6 x7 x8 x9 lr ly)->WC P n F w₀ (Exit.then (fun a w=>∃ g':A0×A1×A2×A3×A4×A5×A6×A7×A8×A9×o9×pO,(((fun g=>(cu12 φ g)):A0×A1×A2×A3×A4×A5×A6×A7×A8×A9×o9×pO->Prop) g'/\((fun g=>(cu12 μ g)):A0×A1×A2×A3×A4×A5×A6×A7×A8×A9×o9×pO->Nat) g'<(μ x0 x1 x2 x3 x4 x5 x6 x7 x8 x9 lr ly))/\SS n F w₀ (((fun g=>(cu12 fg g)):A0×A1×A2×A3×A4×A5×A6×A7×A8×A9×o9×pO->_) g') (((fun g=>(cu12 LI g)):A0×A1×A2×A3×A4×A5×A6×A7×A8×A9×o9×pO->_) g') a w) Q) c (fg x0 x1 x2 x3 x4 x5 x6 x7 x8 x9 lr ly) (LI x0 x1 x2 x3 x4 x5 x6 x7 x8 x9 lr ly)):
  WC P n F w₀ Q (.loop c) env L:=
 WC.loop (G:=A0×A1×A2×A3×A4×A5×A6×A7×A8×A9×o9×pO) (fun g=>(cu12 φ g)) (fun g=>(cu12 fg g)) (fun g=>(cu12 LI g)) (fun g=>(cu12 μ g)) ln h0 hr hL (fun g h=>round g.1 g.2.1 g.2.2.1 g.2.2.2.1 g.2.2.2.2.1 g.2.2.2.2.2.1 g.2.2.2.2.2.2.1 g.2.2.2.2.2.2.2.1 g.2.2.2.2.2.2.2.2.1 g.2.2.2.2.2.2.2.2.2.1 g.2.2.2.2.2.2.2.2.2.2.1 g.2.2.2.2.2.2.2.2.2.2.2 h)
theorem WL.d5{A0 A1 A2 A3 A4 A5 A6 A7 A8 A9 o9 pO zs zK zW AF Ba BV CK:Type}{o:Oper}{φ:A0->A1->A2->A3->A4->A5->A6->A7->A8->A9->o9->pO->zs->zK->zW->AF->Ba->BV->CK->Prop}{val:A0->A1->A2->A3->A4->A5->A6->A7->A8->A9->o9->pO->zs->zK->zW->AF->Ba->BV->CK->Value}{M:A0->A1->A2->A3->A4->A5->A6->A7->A8->A9->o9->pO->zs->zK->zW->AF->Ba->BV->CK->List Asrt}{f:FuncId}{vs:Array Value}(hg:gd env eA o=some true)(hd:o.dst=some dd)(iR:Nat.blt dd n=true)(f5:∀ a w,SS n F w₀ env L a w->(execOp a.eval o).run P w = .ok (.enter f vs) w)(hs:Sel L Lc Lr)(hc:∀ w,Hp F w₀ w L->Calls P f vs w fun e w'=>∃ x0 x1 x2 x3 x4 x5 x6 x7 x8 x9 lr ly mi mI nA oI pq qP xr,e = .returned (val x0 x1 x2 x3 x4 x5 x6 x7 x8 x9 lr ly mi mI nA oI pq qP xr)/\(φ x0 x1 x2 x3 x4 x5 x6 x7 x8 x9 lr ly mi mI nA oI pq qP xr)/\Hp (fps Lc) w w' (M x0 x1 x2 x3 x4 x5 x6 x7 x8 x9 lr ly mi mI nA oI pq qP xr))(k:∀ x0 x1 x2 x3 x4 x5 x6 x7 x8 x9 lr ly mi mI nA oI pq qP xr,(φ x0 x1 x2 x3 x4 x5 x6 x7 x8 x9 lr ly mi mI nA oI pq qP xr)->WL P n F w₀ eA Q fi ((dd,val x0 x1 x2 x3 x4 x5 x6 x7 x8 x9 lr ly mi mI nA oI pq qP xr)::env) ((M x0 x1 x2 x3 x4 x5 x6 x7 x8 x9 lr ly mi mI nA oI pq qP xr)++Lr)):WL P n F w₀ eA Q (o::fi) env L:=
 WL.enter (G:=A0×A1×A2×A3×A4×A5×A6×A7×A8×A9×o9×pO×zs×zK×zW×AF×Ba×BV×CK) (φ:=fun g=>(cu19 φ g)) (val:=fun g=>(cu19 val g)) (M:=fun g=>(cu19 M g)) hg hd iR f5 hs
  (fun w h=>(hc w h).mono fun e w'=>by rintro⟨x0,x1,x2,x3,x4,x5,x6,x7,x8,x9,lr,ly,mi,mI,nA,oI,pq,qP,xr,h1,h2,h3⟩;exact⟨⟨x0,x1,x2,x3,x4,x5,x6,x7,x8,x9,lr,ly,mi,mI,nA,oI,pq,qP,xr⟩,h1,h2,h3⟩) (fun g h=>k g.1 g.2.1 g.2.2.1 g.2.2.2.1 g.2.2.2.2.1 g.2.2.2.2.2.1 g.2.2.2.2.2.2.1 g.2.2.2.2.2.2.2.1 g.2.2.2.2.2.2.2.2.1 g.2.2.2.2.2.2.2.2.2.1 g.2.2.2.2.2.2.2.2.2.2.1 g.2.2.2.2.2.2.2.2.2.2.2.1 g.2.2.2.2.2.2.2.2.2.2.2.2.1 g.2.2.2.2.2.2.2.2.2.2.2.2.2.1 g.2.2.2.2.2.2.2.2.2.2.2.2.2.2.1 g.2.2.2.2.2.2.2.2.2.2.2.2.2.2.2.1 g.2.2.2.2.2.2.2.2.2.2.2.2.2.2.2.2.1 g.2.2.2.2.2.2.2.2.2.2.2.2.2.2.2.2.2.1 g.2.2.2.2.2.2.2.2.2.2.2.2.2.2.2.2.2.2 h)
end
end
section
variable {i fuel':Nat}{A0 A1 A2 A3:Type}{QD:Act->World->Prop}{f:FuncId}{vs:Array Value}
variable [Rnd]
def wl(P:Program)(n:Nat)(F:List Nat)(w₀:World)(eA:Array Oper)(tl:Nat->Bool)(Ls:List Asrt)(Q:Act->World->Prop)(fuel:Nat)(listed:Array Bool)(env:List (Nat×Value))(L:List Asrt)(i:Nat):Prop:=
 ∀ a w,SS n F w₀ env L a w->∀ w',Ext w w'->opN P eA i (fun a' oK=>((tl i=false->Ext w' oK)/\(bB eA i=false->Hp F w₀ w' Ls->Hp F w₀ oK Ls))/\gG P eA tl (fun w=>Hp F w₀ w Ls) Q fuel (listed.setIfInBounds i true) a' oK) a w'
section
variable {P:Program} {n:Nat} {F:List Nat} {w₀:World} {eA:Array Oper} {tl:Nat->Bool} {Ls:List Asrt} {fuel:Nat} {listed:Array Bool}
 {env:List (Nat×Value)} {L Lc Lr R:List Asrt} {o:Oper} {Q:Act->World->Prop} {dd:Nat}
theorem wl.nil:∀ i∈([]:List Nat),wl P n F w₀ eA tl Ls Q fuel listed env L i:=fun _ h=>(by cases h)
theorem wl.cons{j:Nat}{is:List Nat}(h:wl P n F w₀ eA tl Ls Q fuel listed env L j)(hs:∀ i∈is,wl P n F w₀ eA tl Ls Q fuel listed env L i):∀ i∈j::is,wl P n F w₀ eA tl Ls Q fuel listed env L i:=by
 intro i hi
 rcases List.mem_cons.1 hi with rfl | hi
 ·exact h
 ·exact hs i hi
theorem WD.choose(is:List Nat)(hr:Region.ready .any eA listed=is)(oH:is.isEmpty=false)(k:∀ i∈is,wl P n F w₀ eA tl Ls Q fuel listed env L i):WD P n F w₀ eA tl Ls Q (fuel+1) listed env L:=by
 intro a w h w' e
 rw[hr]
 refine⟨fun h0=>(by rw[h0] at oH;cases oH),fun j hj=>k j hj a w h w' e⟩
theorem wl.forced{G:Type}{φ:G->Prop}{val:G->Value}{L':G->List Asrt}{d:Nat}(hi:eA[i]?=some o)(hg:gd env eA o=some true)(hd:o.dst=some d)(iR:Nat.blt d n=true)(hq:∀ a w,SS n F w₀ env L a w->∃ g w',(execOp a.eval o).run P w = .ok (.value (val g)) w'/\φ g/\Hp F w₀ w' (L' g)/\(tl i=false->Ext w w'))(lu:tl i=true->∀ g,ws (L' g) Ls)(k:∀ g,φ g->WD P n F w₀ eA tl Ls Q fuel (listed.setIfInBounds i true) ((d,val g)::env) (L' g)):wl P n F w₀ eA tl Ls Q fuel listed env L i:=by
 intro a w h w' e
 have h':=h.world (h.hp.ext e)
 obtain⟨g,oK,f5,so,hp,hx⟩:=hq a w' h'
 unfold opN
 simp only[hi,ja h' hg,if_true,f5,Oper.wY,hd]
 refine⟨⟨hx,fun _ h0=>?_⟩,k g so _ _ (h'.put iR _ hp)⟩
 cases ht:tl i with
 | false=>exact h0.ext (hx ht)
 | true=>exact(lu ht g).hp hp
theorem wl.forced0{L':List Asrt}(hi:eA[i]?=some o)(hg:gd env eA o=some true)(hd:o.dst=none)(ht:tl i=true)(lu:ws L' Ls)(hq:∀ a w,SS n F w₀ env L a w->∃ w',ot P o a w w'/\Hp F w₀ w' L')(k:WD P n F w₀ eA tl Ls Q fuel (listed.setIfInBounds i true) env L'):wl P n F w₀ eA tl Ls Q fuel listed env L i:=by
 intro a w h w' e
 have h':=h.world (h.hp.ext e)
 obtain⟨oK,f5,hp⟩:=hq a w' h'
 unfold opN
 rcases f5 with f5 | ⟨v,f5⟩
 ·simp only[hi,ja h' hg,if_true,f5,Oper.wY,hd]
  exact⟨⟨fun hf=>(by rw[ht] at hf;cases hf),fun _ _=>lu.hp hp⟩,k _ _ (h'.world hp)⟩
 ·simp only[hi,ja h' hg,if_true,f5,Oper.wY,hd]
  exact⟨⟨fun hf=>(by rw[ht] at hf;cases hf),fun _ _=>lu.hp hp⟩,k _ _ (h'.world hp)⟩
theorem wl.forcedCall{G:Type}{φ:G->Prop}{val:G->Value}{M:G->List Asrt}{Lc Lr:List Asrt}{d:Nat}(hi:eA[i]?=some o)(hg:gd env eA o=some true)(hd:o.dst=some d)(iR:Nat.blt d n=true)(ht:(tl i=true/\∀ g,ws (M g++Lr) Ls)\/Lc=[])(f5:∀ a w,SS n F w₀ env L a w->(execOp a.eval o).run P w = .ok (.enter f vs) w)(hs:Sel L Lc Lr)(hc:∀ w,Hp F w₀ w L->Calls P f vs w fun e w'=>∃ g,e = .returned (val g)/\φ g/\Hp (Lc.flatMap (·.fp)) w w' (M g))(k:∀ g,φ g->WD P n F w₀ eA tl Ls Q fuel (listed.setIfInBounds i true) ((d,val g)::env) (M g++Lr)):wl P n F w₀ eA tl Ls Q fuel listed env L i:=by
 intro a w h w' e
 have h':=h.world (h.hp.ext e)
 unfold opN
 simp only[hi,ja h' hg,if_true,f5 a w' h',Oper.wY,hd]
 refine(hc w' h'.hp).mono ?_
 rintro e' oK ⟨g,rfl,so,hp⟩
 have zu:=h'.hp.call hs hp
 refine⟨_,rfl,⟨fun hf=>?_,fun _ h0=>?_⟩,k g so _ _ (h'.put iR _ zu)⟩
 ·rcases ht with ht | rfl
  ·rw[ht.1] at hf;cases hf
  ·exact hp.toExt
 ·rcases ht with ht | rfl
  ·exact(ht.2 g).hp zu
  ·exact h0.ext hp.toExt
theorem wl.new{G:Type}{φ:G->Prop}{val:G->Value}{L':G->List Asrt}{o:Oper}{tl:Nat->Bool}{Ls:List Asrt}{fuel:Nat}{listed:Array Bool}(hi:eA[i]?=some o)(hg:gd env eA o=some true)(hd:o.dst=some dd)(iR:Nat.blt dd n=true)(hq:b5 P n F w₀ env L o φ val L')(lu:tl i=true->∀ g,ws (L' g) Ls)(k:∀ g,φ g->WD P n F w₀ eA tl Ls QD fuel (listed.setIfInBounds i true) ((dd,val g)::env) (L' g)):wl P n F w₀ eA tl Ls QD fuel listed env L i:=
 wl.forced hi hg hd iR (fun a w h=>let ⟨g,w',h1,h2,h3,h4⟩:=hq a w h;⟨g,w',h1,h2,h3,fun _=>h4⟩) lu k
theorem wl.old{G:Type}{φ:G->Prop}{val:G->Value}{L':G->List Asrt}{o:Oper}{tl:Nat->Bool}{Ls:List Asrt}{fuel:Nat}{listed:Array Bool}(hi:eA[i]?=some o)(hg:gd env eA o=some true)(hd:o.dst=some dd)(iR:Nat.blt dd n=true)(ht:tl i=true)(lu:∀ g,ws (L' g) Ls)(hq:Ef P n F w₀ env L o φ val L')(k:∀ g,φ g->WD P n F w₀ eA tl Ls QD fuel (listed.setIfInBounds i true) ((dd,val g)::env) (L' g)):wl P n F w₀ eA tl Ls QD fuel listed env L i:=
 wl.forced hi hg hd iR (fun a w h=>let ⟨g,w',h1,h2,h3⟩:=hq a w h;⟨g,w',h1,h2,h3,fun hf=>by rw[ht] at hf;cases hf⟩) (fun _=>lu) k
theorem wl.call0{o:Oper}{tl:Nat->Bool}{Ls:List Asrt}{fuel:Nat}{listed:Array Bool}{φ:Prop}{val:Value}{M:List Asrt}(hi:eA[i]?=some o)(hg:gd env eA o=some true)(hd:o.dst=some dd)(iR:Nat.blt dd n=true)(ht:(tl i=true/\(ws (M++Lr) Ls))\/Lc=[])(f5:∀ a w,SS n F w₀ env L a w->(execOp a.eval o).run P w = .ok (.enter f vs) w)(hs:Sel L Lc Lr)(hc:∀ w,Hp F w₀ w L->Calls P f vs w fun e w'=>e = .returned val/\φ/\Hp (fps Lc) w w' M)(k:φ->WD P n F w₀ eA tl Ls QD fuel (listed.setIfInBounds i true) ((dd,val)::env) (M++Lr)):wl P n F w₀ eA tl Ls QD fuel listed env L i:=
 wl.forcedCall (G:=Unit) (φ:=fun _=>φ) (val:=fun _=>val) (M:=fun _=>M) hi hg hd iR (ht.imp (fun h=>⟨h.1,fun _=>h.2⟩) id) f5 hs
  (fun w h=>(hc w h).mono fun e w'=>by rintro⟨h1,h2,h3⟩;exact⟨(),h1,h2,h3⟩) (fun _ h=>k  h)
theorem wl.call2{o:Oper}{tl:Nat->Bool}{Ls:List Asrt}{fuel:Nat}{listed:Array Bool}{φ:A0->A1->Prop}{val:A0->A1->Value}{M:A0->A1->List Asrt}(hi:eA[i]?=some o)(hg:gd env eA o=some true)(hd:o.dst=some dd)(iR:Nat.blt dd n=true)(ht:(tl i=true/\(∀ x0 x1,ws ((M x0 x1)++Lr) Ls))\/Lc=[])(f5:∀ a w,SS n F w₀ env L a w->(execOp a.eval o).run P w = .ok (.enter f vs) w)(hs:Sel L Lc Lr)(hc:∀ w,Hp F w₀ w L->Calls P f vs w fun e w'=>∃ x0 x1,e = .returned (val x0 x1)/\(φ x0 x1)/\Hp (fps Lc) w w' (M x0 x1))(k:∀ x0 x1,(φ x0 x1)->WD P n F w₀ eA tl Ls QD fuel (listed.setIfInBounds i true) ((dd,val x0 x1)::env) ((M x0 x1)++Lr)):wl P n F w₀ eA tl Ls QD fuel listed env L i:=
 wl.forcedCall (G:=A0×A1) (φ:=fun g=>(φ g.1 g.2)) (val:=fun g=>(val g.1 g.2)) (M:=fun g=>(M g.1 g.2)) hi hg hd iR (ht.imp (fun h=>⟨h.1,fun g=>h.2 g.1 g.2⟩) id) f5 hs
  (fun w h=>(hc w h).mono fun e w'=>by rintro⟨x0,x1,h1,h2,h3⟩;exact⟨⟨x0,x1⟩,h1,h2,h3⟩) (fun g h=>k g.1 g.2 h)
theorem wl.call4{o:Oper}{tl:Nat->Bool}{Ls:List Asrt}{fuel:Nat}{listed:Array Bool}{φ:A0->A1->A2->A3->Prop}{val:A0->A1->A2->A3->Value}{M:A0->A1->A2->A3->List Asrt}(hi:eA[i]?=some o)(hg:gd env eA o=some true)(hd:o.dst=some dd)(iR:Nat.blt dd n=true)(ht:(tl i=true/\(∀ x0 x1 x2 x3,ws ((M x0 x1 x2 x3)++Lr) Ls))\/Lc=[])(f5:∀ a w,SS n F w₀ env L a w->(execOp a.eval o).run P w = .ok (.enter f vs) w)(hs:Sel L Lc Lr)(hc:∀ w,Hp F w₀ w L->Calls P f vs w fun e w'=>∃ x0 x1 x2 x3,e = .returned (val x0 x1 x2 x3)/\(φ x0 x1 x2 x3)/\Hp (fps Lc) w w' (M x0 x1 x2 x3))(k:∀ x0 x1 x2 x3,(φ x0 x1 x2 x3)->WD P n F w₀ eA tl Ls QD fuel (listed.setIfInBounds i true) ((dd,val x0 x1 x2 x3)::env) ((M x0 x1 x2 x3)++Lr)):wl P n F w₀ eA tl Ls QD fuel listed env L i:=
 wl.forcedCall (G:=A0×A1×A2×A3) (φ:=fun g=>(cu4 φ g)) (val:=fun g=>(cu4 val g)) (M:=fun g=>(cu4 M g)) hi hg hd iR (ht.imp (fun h=>⟨h.1,fun g=>h.2 g.1 g.2.1 g.2.2.1 g.2.2.2⟩) id) f5 hs
  (fun w h=>(hc w h).mono fun e w'=>by rintro⟨x0,x1,x2,x3,h1,h2,h3⟩;exact⟨⟨x0,x1,x2,x3⟩,h1,h2,h3⟩) (fun g h=>k g.1 g.2.1 g.2.2.1 g.2.2.2 h)
theorem Lt{L' M:List Asrt}{env':List (Nat×Value)}(hs:Sel L L' M)(hr:Restr env env')(k:WD P n F w₀ eA tl Ls Q fuel listed env' L'):WD P n F w₀ eA tl Ls Q fuel listed env L:=
 fun a w h=>k a w ((h.restr hr).drop hs)
theorem WD.tA(tO:A0->List (Nat×Value))(L1:A0->List Asrt)(φ:A0->Prop)(ik:Array Bool)(k2:∀ x0,(φ x0)->WD P n F w₀ eA tl Ls Q fuel' ik (tO x0) (L1 x0))(k1:(∀ x0,(φ x0)->WD P n F w₀ eA tl Ls Q fuel' ik (tO x0) (L1 x0))->WD P n F w₀ eA tl Ls Q fuel listed env L):WD P n F w₀ eA tl Ls Q fuel listed env L:=k1 k2
theorem WD.pf(tO:A0->A1->List (Nat×Value))(L1:A0->A1->List Asrt)(φ:A0->A1->Prop)(ik:Array Bool)(k2:∀ x0 x1,(φ x0 x1)->WD P n F w₀ eA tl Ls Q fuel' ik (tO x0 x1) (L1 x0 x1))(k1:(∀ x0 x1,(φ x0 x1)->WD P n F w₀ eA tl Ls Q fuel' ik (tO x0 x1) (L1 x0 x1))->WD P n F w₀ eA tl Ls Q fuel listed env L):WD P n F w₀ eA tl Ls Q fuel listed env L:=k1 k2
theorem WD.sq(tO:A0->A1->A2->List (Nat×Value))(L1:A0->A1->A2->List Asrt)(φ:A0->A1->A2->Prop)(ik:Array Bool)(k2:∀ x0 x1 x2,(φ x0 x1 x2)->WD P n F w₀ eA tl Ls Q fuel' ik (tO x0 x1 x2) (L1 x0 x1 x2))(k1:(∀ x0 x1 x2,(φ x0 x1 x2)->WD P n F w₀ eA tl Ls Q fuel' ik (tO x0 x1 x2) (L1 x0 x1 x2))->WD P n F w₀ eA tl Ls Q fuel listed env L):WD P n F w₀ eA tl Ls Q fuel listed env L:=k1 k2
theorem WD.sr(tO:A0->A1->A2->A3->List (Nat×Value))(L1:A0->A1->A2->A3->List Asrt)(φ:A0->A1->A2->A3->Prop)(ik:Array Bool)(k2:∀ x0 x1 x2 x3,(φ x0 x1 x2 x3)->WD P n F w₀ eA tl Ls Q fuel' ik (tO x0 x1 x2 x3) (L1 x0 x1 x2 x3))(k1:(∀ x0 x1 x2 x3,(φ x0 x1 x2 x3)->WD P n F w₀ eA tl Ls Q fuel' ik (tO x0 x1 x2 x3) (L1 x0 x1 x2 x3))->WD P n F w₀ eA tl Ls Q fuel listed env L):WD P n F w₀ eA tl Ls Q fuel listed env L:=k1 k2
theorem WD.nG{A4 A5 A6:Type}(tO:A0->A1->A2->A3->A4->A5->A6->List (Nat×Value))(L1:A0->A1->A2->A3->A4->A5->A6->List Asrt)(φ:A0->A1->A2->A3->A4->A5->A6->Prop)(ik:Array Bool)(k2:∀ x0 x1 x2 x3 x4 x5 x6,(φ x0 x1 x2 x3 x4 x5 x6)->WD P n F w₀ eA tl Ls Q fuel' ik (tO x0 x1 x2 x3 x4 x5 x6) (L1 x0 x1 x2 x3 x4 x5 x6))(k1:(∀ x0 x1 x2 x3 x4 x5 x6,(φ x0 x1 x2 x3 x4 x5 x6)->WD P n F w₀ eA tl Ls Q fuel' ik (tO x0 x1 x2 x3 x4 x5 x6) (L1 x0 x1 x2 x3 x4 x5 x6))->WD P n F w₀ eA tl Ls Q fuel listed env L):WD P n F w₀ eA tl Ls Q fuel listed env L:=k1 k2
theorem WD.l6{A4 A5 A6 A7:Type}(tO:A0->A1->A2->A3->A4->A5->A6->A7->List (Nat×Value))(L1:A0->A1->A2->A3->A4->A5->A6->A7->List Asrt)(φ:A0->A1->A2->A3->A4->A5->A6->A7->Prop)(ik:Array Bool)(k2:∀ x0 x1 x2 x3 x4 x5 x6 x7,(φ x0 x1 x2 x3 x4 x5 x6 x7)->WD P n F w₀ eA tl Ls Q fuel' ik (tO x0 x1 x2 x3 x4 x5 x6 x7) (L1 x0 x1 x2 x3 x4 x5 x6 x7))(k1:(∀ x0 x1 x2 x3 x4 x5 x6 x7,(φ x0 x1 x2 x3 x4 x5 x6 x7)->WD P n F w₀ eA tl Ls Q fuel' ik (tO x0 x1 x2 x3 x4 x5 x6 x7) (L1 x0 x1 x2 x3 x4 x5 x6 x7))->WD P n F w₀ eA tl Ls Q fuel listed env L):WD P n F w₀ eA tl Ls Q fuel listed env L:=k1 k2
end
end
section
variable [Rnd]
theorem tm:∀ u∈([]:List Value),u.oneCell'=true:=by simp
theorem ua{v:Value}{vs:List Value}(h:v.oneCell'=true)(t:∀ u∈vs,u.oneCell'=true):∀ u∈v::vs,u.oneCell'=true:=by
 intro u hu
 rcases List.mem_cons.1 hu with rfl | hu
 ·exact h
 ·exact t u hu
theorem gr{α:Type}{enc:α->List Value}(h:∀ x,∀ u∈enc x,u.oneCell'=true)(l:List α):∀ u∈l.flatMap enc,u.oneCell'=true:=by
 intro u hu
 obtain⟨x,_,hx⟩:=List.mem_flatMap.1 hu
 exact h x u hx
section
variable {P:Program} {n:Nat} {F:List Nat} {w₀:World} {env:List (Nat×Value)} {L Lc Lr R:List Asrt} {eA:Array Oper} {Q:Exit->Act->World->Prop} {fi l:List Oper}
 {dd:Nat} {d:Option Tmp} {ty:TypeId} {pos:String} {after:Array Edge} {g:Option (Nat×Bool)} {x y:Operand} {v u:Value} {t e T:TypeId} {sz pm:Nat}
theorem qg{bo:Option Addr}{k mg:Nat}{news:List Value}{sz':Nat}(hm:Pick L (row (.slice bo k mg) e sz' news) R):∀ w,Hp F w₀ w L->news≠[]->∃ A,bo=some A/\∀ j u,news[j]?=some u->w.cell? (A.add j)=some u:=by
 intro w h oH
 obtain⟨b,hb,hc⟩:=h.cellsRow .nil hm oH
 exact⟨_,hb,hc.2⟩
theorem gO.cells{α:Type}{enc:α->List Value}{ls:List α}{sz:Nat}{ao:Option Addr}{k cap:Nat}(h:gO F w₀ (.slice ao k cap) sz (fun r x=>r=enc x) ls)(oH:ls.flatMap enc≠[]):∃ A,ao=some A/\qj F w₀ A (ls.flatMap enc):=by
 obtain⟨rows,⟨⟨zM,lw,hv,h1,h2,h3⟩,jo⟩,hl,hP⟩:=h
 injection hv with e1 e2 e3
 subst e1
 have hr:rows=ls.map enc:=by
  apply List.ext_getElem? 
  intro i
  rw[List.getElem?_map]
  cases hx:ls[i]? with
  | none=>
   have:rows[i]?=none:=by rw[List.getElem?_eq_none_iff] at hx ⊢;omega
   simp[this]
  | some x=>
   have mL:i<rows.length:=by have:=(List.getElem?_eq_some_iff.1 hx).1;omega
   have:=hP i _ x (List.getElem?_eq_getElem mL) hx
   rw[List.getElem?_eq_getElem mL,this];rfl
 rw[List.flatMap_def,<- hr] at oH ⊢
 exact h3 (by rintro rfl;simp at oH)
theorem WD.nilRow{tl:Nat->Bool}{Ls:List Asrt}{fuel:Nat}{listed:Array Bool}{QD:Act->World->Prop}(e:TypeId)(sz:Nat)(k:WD P n F w₀ eA tl Ls QD fuel listed env (row (.slice none 0 0) e sz []::L)):WD P n F w₀ eA tl Ls QD fuel listed env L:=fun a w h=>k a w (h.world (h.hp.nilRow e sz))
theorem ko{b off s:Nat}{cs ds:List Value}(hm:Pick L (stb b T cs) R)(hd:(cs.drop off).take s=ds):∀ w,Hp F w₀ w L->∀ j u,ds[j]?=some u->w.cell? ((⟨b,off,none⟩:Addr).add j)=some u:=by
 subst hd
 refine Yx hm (fun j u hu=>?_)
 rw[List.getElem?_take] at hu
 split at hu
 ·simpa using hu
 ·cases hu
theorem uR{ao:Option Addr}{m cap lo hi:Nat}{lx hx':Option Operand}{lv hv:Option Value}(ht:elT P t e sz pm)(hx:eo env x=some (.slice ao m cap))(hl:∀ a w,SS n F w₀ env L a w->lx.map a.eval=lv)(hh:∀ a w,SS n F w₀ env L a w->hx'.map a.eval=hv)(Bc:match lv with | none=>lo=0 | some (.int _ q)=>q=lo | _=>False)(AJ:match hv with | none=>hi=m | some (.int _ q)=>q=hi | _=>False)(h1:lo<=hi)(h2:hi<=cap)(h3:hv=none->m<=cap):
  Qt P n F w₀ env L ⟨d,.slice t x lx hx' none,ty,pos,after,g⟩ (.slice (if cap=lo then ao else ao.map (·.add (lo*sz))) (hi-lo) (cap-lo)):=by
 intro a w h
 obtain⟨inf,z,B0,hz,lA,_,_⟩:=ht.inf
 have CL:P.underlying t=some (.slice (P.elem t)):=by simp[Program.elem,ht.sl]
 have e1:P.elem t=e:=by simp[Program.elem,ht.sl]
 have hs:(Go.sizeOf (P.elem t)).run P w = .ok sz w:=by simp[Go.sizeOf,typeInfo,e1,B0,lA]
 simp only[execOp,h.eval hx,hl a w h,hh a w h,Option.map_none]
 rw[Sem.run_bind,run_sliceAt_slice w t _ _ _ _ CL]
 cases lv with
 | none=>
  subst Bc
  cases hv with
  | none=>subst AJ;rw[run_slice_all w t ao hi cap CL,hs];simp[sliced]
  | some q=>
   cases q <;> simp only at AJ
   case int k q=>subst AJ;rw[run_slice_h w t ao m cap CL k _ (by omega) (by omega),hs];simp[sliced]
 | some p=>
  cases p <;> simp only at Bc
  case int k p=>
   subst Bc
   cases hv with
   | none=>subst AJ;rw[run_slice_l w t ao hi cap CL k _ (by omega) (by omega),hs];simp[sliced]
   | some q=>
    cases q <;> simp only at AJ
    case int k' q=>subst AJ;rw[run_slice_lh w t ao m cap CL k k' _ _ (by omega) (by omega) (by omega),hs];simp[sliced]
theorem qj.call{w:World}{A:Addr}{cs:List Value}(h:qj F w₀ A cs)(hp:Hp F w₀ w L)(hs:Sel L Lc Lr)(oH:cs≠[]):qj (fps Lc) w A cs:=h.at hp hs.fps oH
theorem Hp.keep{w:World}(h:Hp F w₀ w L):w₀.heap.size<=w.heap.size/\∀ k,k<w₀.heap.size->k∉F->w.heap[k]?=w₀.heap[k]?:=⟨h.size,h.block⟩
end
end
end Sep

/- A part of this claim's proof: a symbolic heap of what a call owns, and the judgements over it. No conditions. -/
import Derived.WalkKit
import Derived.TacticsIn
import Derived.OrdersIn
import Derived.RangeFuncRecord
import Derived.RangeFuncCalls
import Derived.WalkSpells
import Derived.WalkLawsBesides
import Derived.Deep.Quiet
set_option linter.all false
set_option linter.unusedSectionVars false
namespace Sep
open Go Go.RowKit
structure Asrt where
  fp : List Nat
  ok : World → Prop
  loc : ∀ w w' : World, (∀ b ∈ fp, b < w.heap.size → w'.heap[b]? = w.heap[b]?) → (∀ b ∈ fp, b < w.heap.size) → ok w → ok w'
def blk (b : Nat) (o : Obj) : Asrt where
  fp := [b]
  ok w := w.heap[b]? = some o
  loc w w' h hl hk := by rw [h b (by simp) (hl b (by simp))]; exact hk
def row (v : Value) (e : TypeId) (sz : Nat) (cs : List Value) : Asrt where
  fp := v.ownBlock.toList
  ok w := ∃ n, w.ownsRow 0 e sz v n cs
  loc w w' h hl hk := by
    obtain ⟨n, h1, h2⟩ := hk
    refine ⟨n, h1, ?_⟩
    rcases h2 with h2 | ⟨g, cap, cur, hv, hg, hh, r⟩
    · exact .inl h2
    · have hm : g ∈ v.ownBlock.toList := by subst hv; simp [Value.ownBlock]
      exact .inr ⟨g, cap, cur, hv, hg, by rw [h g hm (hl g hm)]; exact hh, r⟩
structure TD (w₀ w : World) : Prop where
  t : w.tape = w₀.tape
  d : w₀.drawn ≤ w.drawn
theorem TD.trans {a b c : World} (h : TD b c) (k : TD a b) : TD a c := ⟨h.t.trans k.t, Nat.le_trans k.d h.d⟩
theorem TD.refl (w : World) : TD w w := ⟨rfl, Nat.le_refl _⟩
structure Hp (F : List Nat) (w₀ w : World) (L : List Asrt) : Prop where
  os : w.os = w₀.os
  tape : TD w₀ w
  output : w.output = w₀.output
  size : w₀.heap.size ≤ w.heap.size
  block : ∀ k, k < w₀.heap.size → k ∉ F → w.heap[k]? = w₀.heap[k]?
  ok : ∀ x ∈ L, x.ok w
  lt : ∀ x ∈ L, ∀ b ∈ x.fp, b < w.heap.size
  ow : ∀ x ∈ L, ∀ b ∈ x.fp, b ∈ F ∨ w₀.heap.size ≤ b
  sep : L.Pairwise fun x y => ∀ b ∈ x.fp, b ∉ y.fp
theorem Hp.nil (w : World) (F : List Nat) : Hp F w w [] :=
  ⟨rfl, TD.refl _, rfl, Nat.le_refl _, fun _ _ _ => rfl, by simp, by simp, by simp, .nil⟩
theorem Hp.below {w₀ w : World} {L : List Asrt} (h : Hp [] w₀ w L) : Below w₀.heap.size w₀ w :=
  ⟨h.os, h.tape.t, h.output, h.size, fun k hk => h.block k hk (by simp)⟩
structure Ext (w w' : World) : Prop where
  os : w'.os = w.os
  tape : TD w w'
  output : w'.output = w.output
  size : w.heap.size ≤ w'.heap.size
  block : ∀ k, k < w.heap.size → w'.heap[k]? = w.heap[k]?
theorem Ext.refl (w : World) : Ext w w := ⟨rfl, TD.refl _, rfl, Nat.le_refl _, fun _ _ => rfl⟩
theorem Ext.trans {a b c : World} (h : Ext a b) (k : Ext b c) : Ext a c :=
  ⟨k.os.trans h.os, k.tape.trans h.tape, k.output.trans h.output, Nat.le_trans h.size k.size,
   fun i hi => (k.block i (Nat.lt_of_lt_of_le hi h.size)).trans (h.block i hi)⟩
theorem Ext.drew (w : World) (n : Nat) (h : w.drawn ≤ n) : Ext w { w with drawn := n } := ⟨rfl, ⟨rfl, h⟩, rfl, Nat.le_refl _, fun _ _ => rfl⟩
theorem Ext.alloc (w : World) (o : Obj) : Ext w (w.alloc o) := ⟨rfl, ⟨rfl, Nat.le_refl _⟩, rfl, by simp, fun k hk => Below.heap_alloc _ _ _ hk⟩
theorem Hp.ext {F : List Nat} {w₀ w w' : World} {L : List Asrt} (h : Hp F w₀ w L) (e : Ext w w') : Hp F w₀ w' L :=
  ⟨e.os.trans h.os, e.tape.trans h.tape, e.output.trans h.output, Nat.le_trans h.size e.size,
   fun k hk hf => (e.block k (Nat.lt_of_lt_of_le hk h.size)).trans (h.block k hk hf),
   fun x hx => x.loc w w' (fun b _ hl => e.block b hl) (h.lt x hx) (h.ok x hx),
   fun x hx b hb => Nat.lt_of_lt_of_le (h.lt x hx b hb) e.size, h.ow, h.sep⟩
theorem Hp.toExt {w₀ w : World} {L : List Asrt} (h : Hp [] w₀ w L) : Ext w₀ w :=
  ⟨h.os, h.tape, h.output, h.size, fun k hk => h.block k hk (by simp)⟩
inductive Pick {α : Type} : List α → α → List α → Prop
  | here {x : α} {R : List α} : Pick (x :: R) x R
  | there {x y : α} {L R : List α} (h : Pick L x R) : Pick (y :: L) x (y :: R)
theorem Pick.h1 {α : Type} {a0 x : α} {R : List α} : Pick (a0 :: x :: R) x (a0 :: R) := .there .here
theorem Pick.h2 {α : Type} {a0 a1 x : α} {R : List α} : Pick (a0 :: a1 :: x :: R) x (a0 :: a1 :: R) := .there .h1
theorem Pick.h3 {α : Type} {a0 a1 a2 x : α} {R : List α} : Pick (a0 :: a1 :: a2 :: x :: R) x (a0 :: a1 :: a2 :: R) := .there .h2
theorem Pick.h4 {α : Type} {a0 a1 a2 a3 x : α} {R : List α} : Pick (a0 :: a1 :: a2 :: a3 :: x :: R) x (a0 :: a1 :: a2 :: a3 :: R) := .there .h3
theorem Pick.h5 {α : Type} {a0 a1 a2 a3 a4 x : α} {R : List α} : Pick (a0 :: a1 :: a2 :: a3 :: a4 :: x :: R) x (a0 :: a1 :: a2 :: a3 :: a4 :: R) := .there .h4
theorem Pick.h6 {α : Type} {a0 a1 a2 a3 a4 a5 x : α} {R : List α} : Pick (a0 :: a1 :: a2 :: a3 :: a4 :: a5 :: x :: R) x (a0 :: a1 :: a2 :: a3 :: a4 :: a5 :: R) := .there .h5
theorem Pick.h7 {α : Type} {a0 a1 a2 a3 a4 a5 a6 x : α} {R : List α} : Pick (a0 :: a1 :: a2 :: a3 :: a4 :: a5 :: a6 :: x :: R) x (a0 :: a1 :: a2 :: a3 :: a4 :: a5 :: a6 :: R) := .there .h6
inductive Sel {α : Type} : List α → List α → List α → Prop
  | nil {L : List α} : Sel L [] L
  | cons {x : α} {L R L' M : List α} (h : Pick L x R) (t : Sel R L' M) : Sel L (x :: L') M
theorem Pick.perm {α : Type} {L R : List α} {x : α} (h : Pick L x R) : L.Perm (x :: R) := by
  induction h with
  | here => exact .refl _
  | there _ ih => exact (List.Perm.cons _ ih).trans (List.Perm.swap ..)
theorem Sel.perm {α : Type} {L L' M : List α} (h : Sel L L' M) : L.Perm (L' ++ M) := by
  induction h with
  | nil => exact .refl _
  | cons h _ ih => exact h.perm.trans (List.Perm.cons _ ih)
theorem Sel.all {α : Type} {L : List α} : Sel L L [] := by
  induction L with
  | nil => exact .nil
  | cons x L ih => exact .cons .here ih
theorem Hp.sub {F : List Nat} {w₀ w : World} {L L' : List Asrt} (h : Hp F w₀ w L) {M : List Asrt} (hs : Sel L L' M) : Hp F w₀ w L' := by
  have hM := hs.perm
  have hm : ∀ x ∈ L', x ∈ L := fun x hx => hM.mem_iff.2 (List.mem_append_left _ hx)
  have hp : (L' ++ M).Pairwise fun x y => ∀ b ∈ x.fp, b ∉ y.fp :=
    (List.Perm.pairwise_iff (fun {x y} hxy b hb hc => hxy b hc hb) hM).1 h.sep
  exact ⟨h.os, h.tape, h.output, h.size, h.block, fun x hx => h.ok x (hm x hx), fun x hx => h.lt x (hm x hx), fun x hx => h.ow x (hm x hx),
    (List.pairwise_append.1 hp).1⟩
theorem Hp.call {F : List Nat} {w₀ w w' : World} {L Lc Lr M : List Asrt} (h : Hp F w₀ w L) (hs0 : Sel L Lc Lr)
    (c : Hp (Lc.flatMap (·.fp)) w w' M) : Hp F w₀ w' (M ++ Lr) := by
  have hs := hs0.perm
  have hmc : ∀ x ∈ Lc, x ∈ L := fun x hx => hs.mem_iff.2 (List.mem_append_left _ hx)
  have hmr : ∀ x ∈ Lr, x ∈ L := fun x hx => hs.mem_iff.2 (List.mem_append_right _ hx)
  have hp : (Lc ++ Lr).Pairwise fun x y => ∀ b ∈ x.fp, b ∉ y.fp :=
    (List.Perm.pairwise_iff (fun {x y} hxy b hb hc => hxy b hc hb) hs).1 h.sep
  obtain ⟨_, hpr, hcr⟩ := List.pairwise_append.1 hp
  have hfree : ∀ x ∈ Lr, ∀ b ∈ x.fp, b ∉ Lc.flatMap (·.fp) := fun x hx b hb hc => by
    obtain ⟨y, hy, hby⟩ := List.mem_flatMap.1 hc
    exact hcr y hy x hx b hby hb
  have hF : ∀ b ∈ Lc.flatMap (·.fp), b ∈ F ∨ w₀.heap.size ≤ b := fun b hb => by
    obtain ⟨y, hy, hby⟩ := List.mem_flatMap.1 hb
    exact h.ow y (hmc y hy) b hby
  refine ⟨c.os.trans h.os, c.tape.trans h.tape, c.output.trans h.output, Nat.le_trans h.size c.size, ?_, ?_, ?_, ?_, ?_⟩
  · intro k hk hf
    rw [c.block k (Nat.lt_of_lt_of_le hk h.size) (fun hc => by
      rcases hF k hc with h1 | h1
      · exact hf h1
      · omega)]
    exact h.block k hk hf
  · intro x hx
    rcases List.mem_append.1 hx with hx | hx
    · exact c.ok x hx
    · exact x.loc w w' (fun b hb hl => c.block b hl (hfree x hx b hb)) (h.lt x (hmr x hx)) (h.ok x (hmr x hx))
  · intro x hx b hb
    rcases List.mem_append.1 hx with hx | hx
    · exact c.lt x hx b hb
    · exact Nat.lt_of_lt_of_le (h.lt x (hmr x hx) b hb) c.size
  · intro x hx b hb
    rcases List.mem_append.1 hx with hx | hx
    · rcases c.ow x hx b hb with h1 | h1
      · exact hF b h1
      · exact .inr (Nat.le_trans h.size h1)
    · exact h.ow x (hmr x hx) b hb
  · refine List.pairwise_append.2 ⟨c.sep, hpr, fun x hx y hy b hb hc => ?_⟩
    rcases c.ow x hx b hb with h1 | h1
    · exact hfree y hy b hc h1
    · have := h.lt y (hmr y hy) b hc; omega
/-! ### The frame of a function -/
def lk : List (Nat × Value) → Nat → Option Value
  | [], _ => none
  | (j, v) :: r, i => bif Nat.beq i j then some v else lk r i
def eo (env : List (Nat × Value)) : Operand → Option Value
  | .tmp t => lk env t
  | .const v => some v
  | .global g => some (.pointer (some ⟨g, 0, none⟩))
  | .func f => some (.func (.func f) #[] #[])
theorem y63 {i d : Nat} (h : i ≠ d) : Nat.beq i d = false := by
  cases hb : Nat.beq i d with
  | false => rfl
  | true => exact absurd (Nat.eq_of_beq_eq_true hb) h
def Ev (env : List (Nat × Value)) (tmps : Array Value) : Prop := ∀ i v, lk env i = some v → tmps[i]? = some v
theorem Ev.put {env : List (Nat × Value)} {tmps : Array Value} (h : Ev env tmps) (d : Nat) (v : Value) (hd : d < tmps.size) :
    Ev ((d, v) :: env) (tmps.setIfInBounds d v) := by
  intro i u hu
  simp only [lk] at hu
  by_cases hi : i = d
  · subst hi
    simp at hu; subst hu
    simp [hd]
  · have : Nat.beq i d = false := y63 hi
    rw [this] at hu
    rw [Array.getElem?_setIfInBounds_ne (fun e => hi e.symm)]
    exact h i u hu
class Rnd where
  r : Option Nat
  ds : List Deferred
instance Rnd.base : Rnd := ⟨none, []⟩
def FN [R : Rnd] : Fence := { fn := fun _ => True, depth := none, alive := false, round := R.r }
variable [Rnd]
theorem yd1 {P : Program} {f : FuncId} {args : Array Value} {w : World} {R : Ending → World → Prop} {m : Nat} (h : Calls P f args w R) : CallsIn FN m P f args w R :=
  (callsIn_wide (n := m)).2 h
theorem ycl {P : Program} {f : FuncId} {args : Array Value} {w : World} {R : Ending → World → Prop} {m : Nat} (h : CallsIn FN m P f args w R) : Calls P f args w R :=
  (callsIn_wide (n := m)).1 h
structure SS (n : Nat) (F : List Nat) (w₀ : World) (env : List (Nat × Value)) (L : List Asrt) (a : Act) (w : World) : Prop where
  defers : a.defers = Rnd.ds
  size : a.tmps.size = n
  ev : Ev env a.tmps
  hp : Hp F w₀ w L
section
variable {n : Nat} {F : List Nat} {w₀ : World} {env : List (Nat × Value)} {L : List Asrt} {a : Act} {w : World}
theorem SS.get (h : SS n F w₀ env L a w) {t : Nat} {v : Value} (hv : lk env t = some v) : a.tmps.getD t undef = v := by
  have := h.ev t v hv
  simp [Array.getD_eq_getD_getElem?, this]
theorem SS.eval (h : SS n F w₀ env L a w) {x : Operand} {v : Value} (hv : eo env x = some v) : a.eval x = v := by
  cases x with
  | tmp t => exact h.get hv
  | const c => simpa [eo, Act.eval] using hv
  | global g => simpa [eo, Act.eval] using hv
  | func f => simpa [eo, Act.eval] using hv
theorem SS.put (h : SS n F w₀ env L a w) {d : Nat} (hd : Nat.blt d n = true) (v : Value) {L' : List Asrt} {w' : World} (hp : Hp F w₀ w' L') :
    SS n F w₀ ((d, v) :: env) L' (a.put (some d) v) w' := by
  have hd' : d < a.tmps.size := by rw [h.size]; simpa [Nat.blt_eq] using hd
  exact ⟨h.defers, by simp [Act.put, h.size], h.ev.put d v hd', hp⟩
theorem SS.world (h : SS n F w₀ env L a w) {L' : List Asrt} {w' : World} (hp : Hp F w₀ w' L') : SS n F w₀ env L' a w' := ⟨h.defers, h.size, h.ev, hp⟩
inductive Restr (env : List (Nat × Value)) : List (Nat × Value) → Prop
  | nil : Restr env []
  | cons {i : Nat} {v : Value} {r : List (Nat × Value)} (h : lk env i = some v) (t : Restr env r) : Restr env ((i, v) :: r)
theorem Restr.lk {env env' : List (Nat × Value)} (h : Restr env env') : ∀ i v, lk env' i = some v → lk env i = some v := by
  induction h with
  | nil => intro i v h; cases h
  | @cons j u r h t ih =>
    intro i v hv
    simp only [Sep.lk] at hv
    by_cases hi : i = j
    · subst hi; simp at hv; subst hv; exact h
    · have : Nat.beq i j = false := y63 hi
      rw [this] at hv
      exact ih i v hv
theorem SS.restr {env' : List (Nat × Value)} (h : SS n F w₀ env L a w) (hr : Restr env env') : SS n F w₀ env' L a w :=
  ⟨h.defers, h.size, fun i v hv => h.ev i v (hr.lk i v hv), h.hp⟩
theorem SS.drop {L' M : List Asrt} (h : SS n F w₀ env L a w) (hs : Sel L L' M) : SS n F w₀ env L' a w := ⟨h.defers, h.size, h.ev, h.hp.sub hs⟩
end
def gd (env : List (Nat × Value)) (ops : Array Oper) (o : Oper) : Option Bool :=
  match o.guard with
  | none => some true
  | some (j, b) => match ops[j]? with
    | none => none
    | some oj => match oj.dst with
      | none => none
      | some d => match lk env d with
        | some (.bool c) => some (bif b then c else !c)
        | some (.tuple _) => some false
        | _ => none
theorem y2o {env : List (Nat × Value)} {ops : Array Oper} {o : Oper} {r : Bool} {n : Nat} {F : List Nat} {w₀ : World} {L : List Asrt} {a : Act} {w : World}
    (h : SS n F w₀ env L a w) (hg : gd env ops o = some r) : Region.wanted o (yielded ops a.tmps) = r := by
  unfold gd at hg
  cases hgd : o.guard with
  | none => rw [hgd] at hg; simp [Region.wanted, hgd] at hg ⊢; exact hg
  | some p =>
    obtain ⟨j, b⟩ := p
    rw [hgd] at hg
    simp only at hg
    split at hg
    · cases hg
    · rename_i oj hj
      split at hg
      · cases hg
      · rename_i d hd
        split at hg
        · rename_i c hc
          have := h.ev d _ hc
          simp only [Region.wanted, hgd, yielded, hj, hd, this, Option.bind_some]
          cases b <;> cases c <;> simp_all
        · rename_i vs hc
          have := h.ev d _ hc
          simp only [Region.wanted, hgd, yielded, hj, hd, this, Option.bind_some]
          simp_all
        · cases hg
/-! ### Judgements -/
def WL (P : Program) (n : Nat) (F : List Nat) (w₀ : World) (ops : Array Oper) (Q : Exit → Act → World → Prop) (l : List Oper)
    (env : List (Nat × Value)) (L : List Asrt) : Prop := ∀ a w, SS n F w₀ env L a w → wpListIn FN 0 P ops Q l a w
def WC (P : Program) (n : Nat) (F : List Nat) (w₀ : World) (Q : Exit → Act → World → Prop) (c : Code)
    (env : List (Nat × Value)) (L : List Asrt) : Prop := ∀ a w, SS n F w₀ env L a w → c.wpIn FN 0 P Q a w
def WX (n : Nat) (F : List Nat) (w₀ : World) (Q : Exit → Act → World → Prop) (e : Exit)
    (env : List (Nat × Value)) (L : List Asrt) : Prop := ∀ a w, SS n F w₀ env L a w → Q e a w
section
variable {P : Program} {n : Nat} {F : List Nat} {w₀ : World} {ops : Array Oper} {Q : Exit → Act → World → Prop} {rest : List Oper}
  {env : List (Nat × Value)} {L : List Asrt} {o : Oper}
theorem WL.nil (k : WX n F w₀ Q .normal env L) : WL P n F w₀ ops Q [] env L := k
theorem y8O {P : Program} {ρ : Operand → Value} {o : Oper} {x : Next} {w w' : World} (ro : Option Nat) (h : (execOp ρ o).run P w = .ok x w') (hx : ∀ d, x ≠ .defer d) :
    (o.semAt ro ρ).run P w = .ok x w' := by
  by_cases hd : ∃ c, o.op = .defer c
  · obtain ⟨c, hc⟩ := hd
    exfalso
    unfold execOp at h
    rw [hc] at h
    simp only [Sem.run_bind] at h
    cases hr : (resolve ρ c o.type).run P w with
    | ok y w1 => rw [hr] at h; simp [Result.andThen] at h; exact hx _ h.1.symm
    | halt y w1 => rw [hr] at h; simp [Result.andThen] at h
  · rw [Oper.semAt_eq _ _ _ (fun c hc => hd ⟨c, hc⟩)]; exact h
theorem y9t {a : Act} {w w' : World} {v : Value} {K : Act → World → Prop} (h : (execOp a.eval o).run P w = .ok (.value v) w') (k : K (a.put o.dst v) w') : o.wpIn FN 0 P a w K Q := by
  refine ⟨fun _ _ => trivial, ?_⟩
  rw [y8O _ h (fun d e => by cases e)]; exact k
theorem ycm {a : Act} {w w' : World} {K : Act → World → Prop} (h : (execOp a.eval o).run P w = .ok .skip w') (k : K (a.put o.dst undef) w') : o.wpIn FN 0 P a w K Q := by
  refine ⟨fun _ _ => trivial, ?_⟩
  rw [y8O _ h (fun d e => by cases e)]; exact k
theorem ycn {a : Act} {w w' : World} {f : FuncId} {vs : Array Value} {K : Act → World → Prop} (h : (execOp a.eval o).run P w = .ok (.enter f vs) w')
    (k : Calls P f vs w' fun e w'' => ∃ v, e = .returned v ∧ K (a.put o.dst v) w'') : o.wpIn FN 0 P a w K Q := by
  refine ⟨fun _ _ => trivial, ?_⟩
  rw [y8O _ h (fun d e => by cases e), Oper.uponIn_enter]
  refine ⟨fun h => by simp [FN] at h, (yd1 k).mono ?_⟩
  rintro e w'' ⟨v, rfl, hk⟩; exact hk
theorem y7L {a : Act} {w : World} (hg : Region.wanted o (yielded ops a.tmps) = true) (h : o.wpIn FN 0 P a w (wpListIn FN 0 P ops Q rest) Q) : wpListIn FN 0 P ops Q (o :: rest) a w := by
  unfold wpListIn
  rw [if_pos hg]
  exact h
theorem WL.a {v : Value} {d : Nat} (hg : gd env ops o = some true) (hd : o.dst = some d) (hdn : Nat.blt d n = true)
    (hq : ∀ a w, SS n F w₀ env L a w → (execOp a.eval o).run P w = .ok (.value v) w)
    (k : WL P n F w₀ ops Q rest ((d, v) :: env) L) : WL P n F w₀ ops Q (o :: rest) env L := by
  intro a w h
  refine y7L (y2o h hg) ?_
  refine y9t (hq a w h) ?_
  rw [hd]
  exact k _ _ (h.put hdn v h.hp)
theorem WL.eff {G : Type} {φ : G → Prop} {val : G → Value} {L' : G → List Asrt} {d : Nat} (hg : gd env ops o = some true) (hd : o.dst = some d) (hdn : Nat.blt d n = true)
    (hq : ∀ a w, SS n F w₀ env L a w → ∃ g w', (execOp a.eval o).run P w = .ok (.value (val g)) w' ∧ φ g ∧ Hp F w₀ w' (L' g))
    (k : ∀ g, φ g → WL P n F w₀ ops Q rest ((d, val g) :: env) (L' g)) : WL P n F w₀ ops Q (o :: rest) env L := by
  intro a w h
  refine y7L (y2o h hg) ?_
  obtain ⟨g, w', hr, hφ, hp⟩ := hq a w h
  refine y9t hr ?_
  rw [hd]
  exact k g hφ _ _ (h.put hdn _ hp)
def y93 (P : Program) (o : Oper) (a : Act) (w w' : World) : Prop := (execOp a.eval o).run P w = .ok .skip w' ∨ ∃ v, (execOp a.eval o).run P w = .ok (.value v) w'
theorem WL.ym {L' : List Asrt} (hg : gd env ops o = some true) (hd : o.dst = none)
    (hq : ∀ a w, SS n F w₀ env L a w → ∃ w', y93 P o a w w' ∧ Hp F w₀ w' L')
    (k : WL P n F w₀ ops Q rest env L') : WL P n F w₀ ops Q (o :: rest) env L := by
  intro a w h
  refine y7L (y2o h hg) ?_
  obtain ⟨w', hr, hp⟩ := hq a w h
  rcases hr with hr | ⟨v, hr⟩
  · refine ycm hr ?_; rw [hd]; exact k a w' (h.world hp)
  · refine y9t hr ?_; rw [hd]; exact k a w' (h.world hp)
theorem WL.enter {G : Type} {φ : G → Prop} {val : G → Value} {M : G → List Asrt} {f : FuncId} {vs : Array Value} {Lc Lr : List Asrt} {d : Nat}
    (hg : gd env ops o = some true) (hd : o.dst = some d) (hdn : Nat.blt d n = true)
    (hrun : ∀ a w, SS n F w₀ env L a w → (execOp a.eval o).run P w = .ok (.enter f vs) w)
    (hs : Sel L Lc Lr)
    (hc : ∀ w, Hp F w₀ w L → Calls P f vs w fun e w' => ∃ g, e = .returned (val g) ∧ φ g ∧ Hp (Lc.flatMap (·.fp)) w w' (M g))
    (k : ∀ g, φ g → WL P n F w₀ ops Q rest ((d, val g) :: env) (M g ++ Lr)) : WL P n F w₀ ops Q (o :: rest) env L := by
  intro a w h
  refine y7L (y2o h hg) ?_
  refine ycn (hrun a w h) ((hc w h.hp).mono ?_)
  rintro e w' ⟨g, rfl, hφ, hp⟩
  refine ⟨_, rfl, ?_⟩
  rw [hd]
  exact k g hφ _ _ (h.put hdn _ (h.hp.call hs hp))
theorem WL.e {d : Nat} (hg : gd env ops o = some false) (hd : o.dst = some d) (hdn : Nat.blt d n = true)
    (k : WL P n F w₀ ops Q rest ((d, undef) :: env) L) : WL P n F w₀ ops Q (o :: rest) env L := by
  intro a w h
  unfold wpListIn
  rw [if_neg (by rw [y2o h hg]; simp), hd]
  exact ⟨fun _ _ => trivial, k _ _ (h.put hdn undef h.hp)⟩
theorem WL.restr {env' : List (Nat × Value)} {l : List Oper} (hr : Restr env env') (k : WL P n F w₀ ops Q l env' L) : WL P n F w₀ ops Q l env L :=
  fun a w h => k a w (h.restr hr)
theorem WL.drop {L' M : List Asrt} {l : List Oper} (hs : Sel L L' M) (k : WL P n F w₀ ops Q l env L') : WL P n F w₀ ops Q l env L :=
  fun a w h => k a w (h.drop hs)
theorem WC.restr {env' : List (Nat × Value)} {c : Code} (hr : Restr env env') (k : WC P n F w₀ Q c env' L) : WC P n F w₀ Q c env L :=
  fun a w h => k a w (h.restr hr)
theorem WC.drop {L' M : List Asrt} {c : Code} (hs : Sel L L' M) (k : WC P n F w₀ Q c env L') : WC P n F w₀ Q c env L :=
  fun a w h => k a w (h.drop hs)
/-! code -/
theorem WC.a {id : Nat} {l : List Oper} (k : WL P n F w₀ l.toArray Q l env L) : WC P n F w₀ Q (.region id l.toArray false) env L :=
  fun a w h => wpIn_region_lit (k a w h)
theorem WC.b {x y : Code} (k : WC P n F w₀ (Exit.then (fun a w => y.wpIn FN 0 P Q a w) Q) x env L) : WC P n F w₀ Q (.seq x y) env L :=
  fun a w h => wpIn_seq (k a w h)
theorem WX.a {y : Code} (k : WC P n F w₀ Q y env L) : WX n F w₀ (Exit.then (fun a w => y.wpIn FN 0 P Q a w) Q) .normal env L := k
theorem WX.yf {K : Act → World → Prop} {i : Nat} (k : WX n F w₀ Q (.exit i) env L) : WX n F w₀ (Exit.then K Q) (.exit i) env L := k
theorem WX.yd {K : Act → World → Prop} (k : WX n F w₀ Q .ret env L) : WX n F w₀ (Exit.then K Q) .ret env L := k
theorem WC.skip (k : WX n F w₀ Q .normal env L) : WC P n F w₀ Q .skip env L := fun a w h => wpIn_skip (k a w h)
theorem WC.ret (k : WX n F w₀ Q .ret env L) : WC P n F w₀ Q .ret env L := fun a w h => wpIn_ret (k a w h)
theorem WC.exit {i : Nat} (k : WX n F w₀ Q (.exit i) env L) : WC P n F w₀ Q (.exit i) env L := fun a w h => wpIn_exit (k a w h)
theorem WC.block {i : Nat} {c : Code} (k : WC P n F w₀ (Exit.inBlock i Q) c env L) : WC P n F w₀ Q (.block i c) env L := fun a w h => wpIn_block (k a w h)
theorem WX.yj {i : Nat} (k : WX n F w₀ Q .normal env L) : WX n F w₀ (Exit.inBlock i Q) .normal env L := k
theorem WX.ys {i : Nat} (k : WX n F w₀ Q .ret env L) : WX n F w₀ (Exit.inBlock i Q) .ret env L := k
theorem WX.yz {i : Nat} (k : WX n F w₀ Q .normal env L) : WX n F w₀ (Exit.inBlock i Q) (.exit i) env L := by
  intro a w h; simp only [Exit.inBlock, if_true]; exact k a w h
theorem WX.ya8 {i j : Nat} (hij : Nat.beq j i = false) (k : WX n F w₀ Q (.exit j) env L) : WX n F w₀ (Exit.inBlock i Q) (.exit j) env L := by
  intro a w h
  have : j ≠ i := by intro e; subst e; simp at hij
  simp only [Exit.inBlock, this, if_false]; exact k a w h
theorem WC.cond {c : Operand} {x y : Code} {b : Bool} (hc : eo env c = some (.bool b)) (ht : b = true → WC P n F w₀ Q x env L) (hf : b = false → WC P n F w₀ Q y env L) :
    WC P n F w₀ Q (.cond c x y) env L := by
  intro a w h
  refine wpIn_cond_split (h.eval hc) (fun e => ht e a w h) (fun e => hf e a w h)
theorem WC.y64 {G : Type} (φ : G → Prop) (envI : G → List (Nat × Value)) (LI : G → List Asrt) {x y : Code}
    (k1 : WC P n F w₀ (Exit.then (fun a w => ∃ g, φ g ∧ SS n F w₀ (envI g) (LI g) a w) Q) x env L)
    (k2 : ∀ g, φ g → WC P n F w₀ Q y (envI g) (LI g)) : WC P n F w₀ Q (.seq x y) env L := by
  intro a w h
  refine wpIn_seq (Go.wpIn_mono (k1 a w h) ?_)
  intro e a' w' hq
  cases e with
  | normal => obtain ⟨g, hφ, hs⟩ := hq; exact k2 g hφ a' w' hs
  | _ => exact hq
theorem WX.mid {G : Type} {φ : G → Prop} {envI : G → List (Nat × Value)} {LI : G → List Asrt} {M : List Asrt} (g : G) (hφ : φ g) (hr : Restr env (envI g)) (hL : Sel L (LI g) M) :
    WX n F w₀ (Exit.then (fun a w => ∃ g, φ g ∧ SS n F w₀ (envI g) (LI g) a w) Q) .normal env L :=
  fun _ _ h => ⟨g, hφ, (h.restr hr).drop hL⟩
theorem WC.loop {G : Type} (φ : G → Prop) (envI : G → List (Nat × Value)) (LI : G → List Asrt) (μ : G → Nat) {c : Code} (g₀ : G) (h0 : φ g₀)
    (hr : Restr env (envI g₀)) {M : List Asrt} (hL : Sel L (LI g₀) M)
    (round : ∀ g, φ g → WC P n F w₀ (Exit.then (fun a w => ∃ g', (φ g' ∧ μ g' < μ g) ∧ SS n F w₀ (envI g') (LI g') a w) Q) c (envI g) (LI g)) :
    WC P n F w₀ Q (.loop c) env L := by
  intro a w h b k cs hro hb hrm
  have key : ∀ m g, μ g = m → φ g → ∀ a w, SS n F w₀ (envI g) (LI g) a w →
      ∃ e a' w', Q e a' w' ∧ ArrivesIn (Machine.fenced P FN) P (lone (b.atR a (.code c :: .inLoop c :: k)) cs w) b k cs e a' w' := by
    intro m
    induction m using Nat.strongRecOn with
    | _ m ih =>
      intro g hm hφ a w h
      obtain ⟨e, a₁, w₁, hq, harr⟩ := round g hφ a w h b (.inLoop c :: k) cs hro hb hrm
      cases e with
      | normal =>
        obtain ⟨g', ⟨hφ', hlt⟩, hs⟩ := hq
        obtain ⟨e₂, a₂, w₂, hq₂, harr₂⟩ := ih (μ g') (hm ▸ hlt) g' rfl hφ' a₁ w₁ hs
        exact ⟨e₂, a₂, w₂, hq₂, .of_steps (StepsIn.trans harr (.one (fenced_calm hb hrm rfl) stepR_inLoop)) harr₂⟩
      | exit id => exact ⟨_, a₁, w₁, hq, .pass (x := .inLoop c) rfl (fun _ _ => .inl (by simp)) harr⟩
      | goto l => exact ⟨_, a₁, w₁, hq, .pass (x := .inLoop c) rfl (fun _ _ => .inl (by simp)) harr⟩
      | ret => exact ⟨_, a₁, w₁, hq, .pass (x := .inLoop c) rfl (fun _ _ => .inl (by simp)) harr⟩
      | panic ch => exact ⟨_, a₁, w₁, hq, .pass (x := .inLoop c) rfl (fun _ _ => .inl (by simp)) harr⟩
      | outgrown => exact ⟨_, a₁, w₁, hq, .pass (x := .inLoop c) rfl (fun _ _ => .inl (by simp)) harr⟩
  obtain ⟨e, a', w', hq, harr⟩ := key _ g₀ rfl h0 a w ((h.restr hr).drop hL)
  exact ⟨e, a', w', hq, .of_steps (.one (fenced_calm hb hrm rfl) stepR_loop) harr⟩
theorem WX.round {G : Type} {φ : G → Prop} {envI : G → List (Nat × Value)} {LI : G → List Asrt} {μ : G → Nat} {m : Nat} {M : List Asrt} (g : G) (hφ : φ g) (hμ : μ g < m) (hr : Restr env (envI g)) (hL : Sel L (LI g) M) :
    WX n F w₀ (Exit.then (fun a w => ∃ g', (φ g' ∧ μ g' < m) ∧ SS n F w₀ (envI g') (LI g') a w) Q) .normal env L :=
  fun _ _ h => ⟨g, ⟨hφ, hμ⟩, (h.restr hr).drop hL⟩
end
end Sep

/- A part of this claim's proof: reading memory; slices as lists of data. No conditions. -/
import Derived.Test.YtcahmabkeaijdaaGreatSepOps
import Derived.Laws.AppendOwnNone
set_option linter.all false
set_option linter.unusedSectionVars false
namespace Sep
open Go Go.RowKit
variable [Rnd]
inductive Upd : List Asrt → Asrt → Asrt → List Asrt → Prop
  | here {x y : Asrt} {R : List Asrt} : Upd (x :: R) x y (y :: R)
  | there {x y z : Asrt} {L R : List Asrt} (h : Upd L x y R) : Upd (z :: L) x y (z :: R)
theorem Upd.h1 {a0 x y : Asrt} {R : List Asrt} : Upd (a0 :: x :: R) x y (a0 :: y :: R) := .there .here
theorem Upd.h2 {a0 a1 x y : Asrt} {R : List Asrt} : Upd (a0 :: a1 :: x :: R) x y (a0 :: a1 :: y :: R) := .there .h1
theorem Upd.h3 {a0 a1 a2 x y : Asrt} {R : List Asrt} : Upd (a0 :: a1 :: a2 :: x :: R) x y (a0 :: a1 :: a2 :: y :: R) := .there .h2
theorem Upd.h4 {a0 a1 a2 a3 x y : Asrt} {R : List Asrt} : Upd (a0 :: a1 :: a2 :: a3 :: x :: R) x y (a0 :: a1 :: a2 :: a3 :: y :: R) := .there .h3
theorem Upd.h5 {a0 a1 a2 a3 a4 x y : Asrt} {R : List Asrt} : Upd (a0 :: a1 :: a2 :: a3 :: a4 :: x :: R) x y (a0 :: a1 :: a2 :: a3 :: a4 :: y :: R) := .there .h4
theorem Upd.h6 {a0 a1 a2 a3 a4 a5 x y : Asrt} {R : List Asrt} : Upd (a0 :: a1 :: a2 :: a3 :: a4 :: a5 :: x :: R) x y (a0 :: a1 :: a2 :: a3 :: a4 :: a5 :: y :: R) := .there .h5
theorem Upd.h7 {a0 a1 a2 a3 a4 a5 a6 x y : Asrt} {R : List Asrt} : Upd (a0 :: a1 :: a2 :: a3 :: a4 :: a5 :: a6 :: x :: R) x y (a0 :: a1 :: a2 :: a3 :: a4 :: a5 :: a6 :: y :: R) := .there .h6
theorem Upd.mem {L L' : List Asrt} {x y : Asrt} (h : Upd L x y L') : x ∈ L := by
  induction h with
  | here => simp
  | there _ ih => exact List.mem_cons_of_mem _ ih
theorem Pick.mem {α : Type} {L R : List α} {x : α} (h : Pick L x R) : x ∈ L := h.perm.mem_iff.2 (by simp)
theorem Hp.upd {F : List Nat} {w₀ w w' : World} {L L' : List Asrt} {x y : Asrt} (h : Hp F w₀ w L) (hu : Upd L x y L')
    (os : w'.os = w.os) (tape : TD w w') (output : w'.output = w.output) (size : w.heap.size ≤ w'.heap.size)
    (block : ∀ k, k < w.heap.size → k ∉ x.fp → w'.heap[k]? = w.heap[k]?) (hok : y.ok w') (hfp : ∀ b ∈ y.fp, b < w'.heap.size ∧ (b ∈ x.fp ∨ w.heap.size ≤ b)) : Hp F w₀ w' L' := by
  have gen : ∀ {L L' : List Asrt}, Upd L x y L' → (∀ z ∈ L, z.ok w) → (∀ z ∈ L, ∀ b ∈ z.fp, b < w.heap.size) → (∀ z ∈ L, ∀ b ∈ z.fp, b ∈ F ∨ w₀.heap.size ≤ b) →
      (L.Pairwise fun x y => ∀ b ∈ x.fp, b ∉ y.fp) →
      (∀ z ∈ L', z.ok w') ∧ (∀ z ∈ L', ∀ b ∈ z.fp, b < w'.heap.size) ∧ (∀ z ∈ L', ∀ b ∈ z.fp, b ∈ F ∨ w₀.heap.size ≤ b) ∧ (L'.Pairwise fun x y => ∀ b ∈ x.fp, b ∉ y.fp) ∧
      (∀ z ∈ L', (z = y) ∨ z ∈ L ) ∧ (∀ b, b < w.heap.size → (∀ z ∈ L, b ∉ z.fp) → ∀ z ∈ L', b ∉ z.fp) := by
    intro L L' hu2
    clear hu
    induction hu2 with
    | @here x y R =>
      intro o1 o2 o3 o4
      obtain ⟨p1, p2⟩ := List.pairwise_cons.1 o4
      have hb : ∀ z ∈ R, ∀ b ∈ z.fp, b ∉ y.fp := fun z hz b hb hc => by
        rcases (hfp b hc).2 with h1 | h1
        · exact p1 z hz b h1 hb
        · have := o2 z (List.mem_cons_of_mem _ hz) b hb; omega
      refine ⟨?_, ?_, ?_, ?_, ?_, ?_⟩
      · intro z hz
        rcases List.mem_cons.1 hz with rfl | hz
        · exact hok
        · exact z.loc w w' (fun b hb hl => block b hl (fun hc => p1 z hz b hc hb)) (o2 z (List.mem_cons_of_mem _ hz)) (o1 z (List.mem_cons_of_mem _ hz))
      · intro z hz b hb'
        rcases List.mem_cons.1 hz with rfl | hz
        · exact (hfp b hb').1
        · exact Nat.lt_of_lt_of_le (o2 z (List.mem_cons_of_mem _ hz) b hb') size
      · intro z hz b hb'
        rcases List.mem_cons.1 hz with rfl | hz
        · rcases (hfp b hb').2 with h1 | h1
          · exact o3 x (by simp) b h1
          · exact .inr (Nat.le_trans h.size h1)
        · exact o3 z (List.mem_cons_of_mem _ hz) b hb'
      · exact List.pairwise_cons.2 ⟨fun z hz b hb' hc => hb z hz b hc hb', p2⟩
      · intro z hz
        rcases List.mem_cons.1 hz with rfl | hz
        · exact .inl rfl
        · exact .inr (List.mem_cons_of_mem _ hz)
      · intro b hbl hno z hz hc
        rcases List.mem_cons.1 hz with rfl | hz
        · rcases (hfp b hc).2 with h1 | h1
          · exact hno x (by simp) h1
          · omega
        · exact hno z (List.mem_cons_of_mem _ hz) hc
    | @there x y v L R hu ih =>
      intro o1 o2 o3 o4
      obtain ⟨p1, p2⟩ := List.pairwise_cons.1 o4
      obtain ⟨q1, q2, q3, q4, q5, q6⟩ := ih block hok hfp (fun z hz => o1 z (List.mem_cons_of_mem _ hz)) (fun z hz => o2 z (List.mem_cons_of_mem _ hz)) (fun z hz => o3 z (List.mem_cons_of_mem _ hz)) p2
      have hvx : ∀ b ∈ v.fp, b ∉ x.fp := p1 x hu.mem
      refine ⟨?_, ?_, ?_, ?_, ?_, ?_⟩
      · intro z hz
        rcases List.mem_cons.1 hz with rfl | hz
        · exact z.loc w w' (fun b hb hl => block b hl (hvx b hb)) (o2 z (by simp)) (o1 z (by simp))
        · exact q1 z hz
      · intro z hz b hb'
        rcases List.mem_cons.1 hz with rfl | hz
        · exact Nat.lt_of_lt_of_le (o2 z (by simp) b hb') size
        · exact q2 z hz b hb'
      · intro z hz b hb'
        rcases List.mem_cons.1 hz with rfl | hz
        · exact o3 z (by simp) b hb'
        · exact q3 z hz b hb'
      · exact List.pairwise_cons.2 ⟨fun z hz b hb' => q6 b (o2 v (by simp) b hb') (fun z hz hc => p1 z hz b hb' hc) z hz, q4⟩
      · intro z hz
        rcases List.mem_cons.1 hz with rfl | hz
        · exact .inr (by simp)
        · rcases q5 z hz with h1 | h1
          · exact .inl h1
          · exact .inr (List.mem_cons_of_mem _ h1)
      · intro b hbl hno z hz hc
        rcases List.mem_cons.1 hz with rfl | hz
        · exact hno z (by simp) hc
        · exact q6 b hbl (fun z hz => hno z (List.mem_cons_of_mem _ hz)) z hz hc
  obtain ⟨q1, q2, q3, q4, _, _⟩ := gen hu h.ok h.lt h.ow h.sep
  refine ⟨os.trans h.os, tape.trans h.tape, output.trans h.output, Nat.le_trans h.size size, fun k hk hf => ?_, q1, q2, q3, q4⟩
  rw [block k (Nat.lt_of_lt_of_le hk h.size) (fun hc => ?_)]
  · exact h.block k hk hf
  · rcases h.ow x hu.mem k hc with h1 | h1
    · exact hf h1
    · omega
theorem Hp.add {F : List Nat} {w₀ w : World} {L : List Asrt} {x : Asrt} (h : Hp F w₀ w L) (hok : x.ok w) (hlt : ∀ b ∈ x.fp, b < w.heap.size)
    (how : ∀ b ∈ x.fp, b ∈ F ∨ w₀.heap.size ≤ b) (hsep : ∀ y ∈ L, ∀ b ∈ x.fp, b ∉ y.fp) : Hp F w₀ w (x :: L) :=
  ⟨h.os, h.tape, h.output, h.size, h.block,
   fun y hy => (List.mem_cons.1 hy).elim (fun e => e ▸ hok) (h.ok y),
   fun y hy => (List.mem_cons.1 hy).elim (fun e => e ▸ hlt) (h.lt y),
   fun y hy => (List.mem_cons.1 hy).elim (fun e => e ▸ how) (h.ow y),
   List.pairwise_cons.2 ⟨hsep, h.sep⟩⟩
theorem Hp.alloc {F : List Nat} {w₀ w : World} {L : List Asrt} (h : Hp F w₀ w L) (o : Obj) : Hp F w₀ (w.alloc o) (blk w.heap.size o :: L) := by
  refine (h.ext (.alloc w o)).add (heap_alloc_new w o) (by simp [blk]) (by simp [blk, h.size]) ?_
  intro y hy b hb hc
  simp [blk] at hb
  have := h.lt y hy b hc
  omega
def stb (b : Nat) (T : TypeId) (cs : List Value) : Asrt := blk b (.cells cs.toArray T (0, 0))
theorem y94 {b : Nat} {T : TypeId} {cs : List Value} {w : World} : (stb b T cs).ok w ↔ w.heap[b]? = some (.cells cs.toArray T (0, 0)) := Iff.rfl
theorem y95 {b : Nat} {T : TypeId} {cs : List Value} : (stb b T cs).fp = [b] := rfl
/-! ### the types' table -/
def y5a (P : Program) (t : TypeId) : Prop := (isAgg t).run P = fun w => Result.ok false w
def y5r (P : Program) (t : TypeId) (s : Nat) : Prop := ((isAgg t).run P = fun w => Result.ok true w) ∧ (Go.sizeOf t).run P = fun w => Result.ok s w
def y46 (P : Program) (t : TypeId) (s : Nat) : Prop := (Go.sizeOf t).run P = fun w => Result.ok s w
def yO (P : Program) (s : TypeId) (f k : Nat) : Prop := ∀ a w, (Instr.fieldAt s (.pointer (some a)) f).run P w = .ok (.pointer (some (a.add k))) w
def y2n (P : Program) (t : TypeId) (v : Value) : Prop := (zeroValue t).run P = fun w => Result.ok v w
structure elT (P : Program) (t e : TypeId) (sz by_ : Nat) : Prop where
  sl : P.underlying t = some (.slice e)
  inf : ∃ i z, P.info? e = some i ∧ i.zero = some z ∧ i.size = sz ∧ i.bytes = by_ ∧ z.cells.size = sz
  pos : 0 < sz
theorem y3c {P : Program} {t : TypeId} {d : TypeDesc} (h : P.underlying t = some d) (hd : (match d with | .struct _ | .array _ _ => true | _ => false) = false) : y5a P t := by
  funext w
  simp only [isAgg, Sem.run_bind, run_underlying h, Result.andThen_ok]
  split <;> simp_all
theorem y2A {P : Program} {t : TypeId} {i : TypeInfo} (h : P.info? t = some i) : y46 P t i.size := by
  funext w; simp [Go.sizeOf, typeInfo, h]
theorem y3P {P : Program} {t : TypeId} {d : TypeDesc} {i : TypeInfo} (h : P.underlying t = some d) (hd : (match d with | .struct _ | .array _ _ => true | _ => false) = true) (hi : P.info? t = some i) : y5r P t i.size := by
  refine ⟨?_, y2A hi⟩
  funext w
  simp only [isAgg, Sem.run_bind, run_underlying h, Result.andThen_ok]
  split <;> simp_all
theorem yF {P : Program} {s : TypeId} {fs : Array Field} {f : Nat} {fd : Field} {i : TypeInfo} (h : P.underlying s = some (.struct fs)) (hf : fs[f]? = some fd)
    (hi : P.info? fd.type = some i) (h0 : i.size ≠ 0) {k : Nat} (hk : fd.offset = k) : yO P s f k := by
  subst hk
  intro a w
  simp [Instr.fieldAt, run_underlying h, hf, Instr.sureAddr, fieldPlace, Go.sizeOf, typeInfo, hi, h0]
theorem y2i {P : Program} {t : TypeId} {i : TypeInfo} {v : Value} (h : P.info? t = some i) (hz : i.zero = some v) : y2n P t v := by
  funext w; simp [zeroValue, typeInfo, h, hz]
/-! ### reading -/
def y1L (F : List Nat) (w : World) (A : Addr) (cs : List Value) : Prop :=
  A.block ∉ F ∧ ∀ j u, cs[j]? = some u → w.cell? (A.add j) = some u
theorem Addr.y65 (A : Addr) (i j : Nat) : (A.add i).add j = A.add (i + j) := by
  unfold Addr.add
  split <;> split <;> simp_all [Nat.add_assoc]
theorem Addr.y6h (A : Addr) (i : Nat) : (A.add i).block = A.block := by unfold Addr.add; split <;> rfl
theorem y1L.sub {F : List Nat} {w : World} {A : Addr} {cs : List Value} (h : y1L F w A cs) (k : Nat) : y1L F w (A.add k) (cs.drop k) :=
  ⟨by rw [Addr.y6h]; exact h.1, fun j u hu => by rw [Addr.y65]; exact h.2 _ _ (by simpa using hu)⟩
theorem y1L.pre {F : List Nat} {w : World} {A : Addr} {cs ds : List Value} (h : y1L F w A (cs ++ ds)) : y1L F w A cs :=
  ⟨h.1, fun j u hu => h.2 j u (by
    have hj : j < cs.length := (List.getElem?_eq_some_iff.1 hu).1
    rw [List.getElem?_append_left hj]; exact hu)⟩
theorem y1L.now {F : List Nat} {w₀ w : World} {L : List Asrt} {A : Addr} {cs : List Value} (h : y1L F w₀ A cs) (hp : Hp F w₀ w L) : ∀ j u, cs[j]? = some u → w.cell? (A.add j) = some u := by
  intro j u hu
  have h1 := h.2 j u hu
  have hlt := block_lt_of_cell h1
  rw [← h1]
  refine World.cell?_of_block (hp.block _ hlt ?_)
  rw [Addr.y6h]; exact h.1
theorem y1L.at {F F' : List Nat} {w₀ w : World} {L : List Asrt} {A : Addr} {cs : List Value} (h : y1L F w₀ A cs) (hp : Hp F w₀ w L) (hF : ∀ b ∈ F', ∃ x ∈ L, b ∈ x.fp) (hne : cs ≠ []) : y1L F' w A cs := by
  refine ⟨fun hb => ?_, h.now hp⟩
  obtain ⟨x, hx, hbx⟩ := hF _ hb
  obtain ⟨c, cs', rfl⟩ : ∃ c cs', cs = c :: cs' := by cases cs with | nil => exact absurd rfl hne | cons c cs' => exact ⟨c, cs', rfl⟩
  have h1 := h.2 0 c (by simp)
  have hlt := block_lt_of_cell h1
  rw [Addr.y6h] at hlt
  rcases hp.ow x hx _ hbx with h2 | h2
  · exact h.1 h2
  · omega
structure Sl (F : List Nat) (w : World) (v : Value) (sz : Nat) (rows : List (List Value)) : Prop where
  shape : ∃ ao cap, v = .slice ao rows.length cap ∧ rows.length ≤ cap ∧ cap ≤ maxLen ∧ (rows ≠ [] → ∃ A, ao = some A ∧ y1L F w A rows.flatten)
  len : ∀ r ∈ rows, r.length = sz
def SlP {α : Type} (F : List Nat) (w : World) (v : Value) (sz : Nat) (Pr : List Value → α → Prop) (l : List α) : Prop :=
  ∃ rows : List (List Value), Sl F w v sz rows ∧ rows.length = l.length ∧ ∀ (i : Nat) (r : List Value) (x : α), rows[i]? = some r → l[i]? = some x → Pr r x
theorem y8f {sz : Nat} : ∀ {rows : List (List Value)} (_ : ∀ r ∈ rows, r.length = sz) {i : Nat} {r : List Value} (_ : rows[i]? = some r), ∃ tl, rows.flatten.drop (i * sz) = r ++ tl
  | [], _, i, r, h => by simp at h
  | r0 :: rows, hl, 0, r, h => by simp at h; subst h; exact ⟨rows.flatten, by simp⟩
  | r0 :: rows, hl, i + 1, r, h => by
    have h0 : r0.length = sz := hl r0 (by simp)
    obtain ⟨tl, ht⟩ := y8f (fun r hr => hl r (List.mem_cons_of_mem _ hr)) (i := i) (r := r) (by simpa using h)
    refine ⟨tl, ?_⟩
    rw [← ht, List.flatten_cons, Nat.succ_mul, Nat.add_comm, ← h0, ← List.drop_drop, List.drop_left]
theorem SlP.shape {α : Type} {F : List Nat} {w : World} {v : Value} {sz : Nat} {Pr : List Value → α → Prop} {l : List α} (h : SlP F w v sz Pr l) :
    ∃ ao cap, v = .slice ao l.length cap ∧ l.length ≤ cap ∧ cap ≤ maxLen := by
  obtain ⟨rows, ⟨⟨ao, cap, hv, h1, h2, _⟩, _⟩, hl, _⟩ := h
  exact ⟨ao, cap, by rw [hv, hl], by omega, h2⟩
theorem SlP.len {α : Type} {F : List Nat} {w : World} {ao : Option Addr} {m cap : Nat} {sz : Nat} {Pr : List Value → α → Prop} {l : List α} (h : SlP F w (.slice ao m cap) sz Pr l) : m = l.length := by
  obtain ⟨ao', cap', hv, _⟩ := h.shape
  injection hv
theorem SlP.elem {α : Type} {F : List Nat} {w : World} {v : Value} {sz : Nat} {Pr : List Value → α → Prop} {l : List α} (h : SlP F w v sz Pr l) {i : Nat} (hi : i < l.length) :
    ∃ A cap r, v = .slice (some A) l.length cap ∧ y1L F w (A.add (i * sz)) r ∧ r.length = sz ∧ Pr r l[i] := by
  obtain ⟨rows, ⟨⟨ao, cap, hv, h1, h2, h3⟩, hlen⟩, hl, hP⟩ := h
  have hir : i < rows.length := by omega
  obtain ⟨A, rfl, hc⟩ := h3 (by intro e; subst e; simp at hir)
  have hr : rows[i]? = some rows[i] := List.getElem?_eq_getElem hir
  obtain ⟨tl, ht⟩ := y8f hlen hr
  refine ⟨A, cap, rows[i], by rw [hv, hl], ?_, hlen _ (List.getElem_mem hir), hP i _ _ hr (List.getElem?_eq_getElem hi)⟩
  have := hc.sub (i * sz)
  rw [ht] at this
  exact this.pre
theorem SlP.at {α : Type} {F F' : List Nat} {w₀ w : World} {L : List Asrt} {v : Value} {sz : Nat} {Pr Pr' : List Value → α → Prop} {l : List α}
    (h : SlP F w₀ v sz Pr l) (hp : Hp F w₀ w L) (hF : ∀ b ∈ F', ∃ x ∈ L, b ∈ x.fp) (hsz : 0 < sz) (hPr : ∀ r x, Pr r x → Pr' r x) : SlP F' w v sz Pr' l := by
  obtain ⟨rows, ⟨⟨ao, cap, hv, h1, h2, h3⟩, hlen⟩, hl, hP⟩ := h
  refine ⟨rows, ⟨⟨ao, cap, hv, h1, h2, fun hne => ?_⟩, hlen⟩, hl, fun i r x hr hx => hPr _ _ (hP i r x hr hx)⟩
  obtain ⟨A, hA, hc⟩ := h3 hne
  refine ⟨A, hA, hc.at hp hF ?_⟩
  intro e
  obtain ⟨r, rs, rfl⟩ : ∃ r rs, rows = r :: rs := by cases rows with | nil => exact absurd rfl hne | cons r rs => exact ⟨r, rs, rfl⟩
  have := hlen r (by simp)
  rw [List.flatten_cons] at e
  have : r = [] := List.append_eq_nil_iff.1 e |>.1
  subst this
  simp at this
  omega
theorem SlP.nil {α : Type} (F : List Nat) (w : World) (sz : Nat) (Pr : List Value → α → Prop) : SlP F w (.slice none 0 0) sz Pr [] :=
  ⟨[], ⟨⟨none, 0, rfl, by simp, by simp, by simp⟩, by simp⟩, rfl, by simp⟩
theorem SlP.sub {α : Type} {F : List Nat} {w : World} {v : Value} {sz : Nat} {Pr : List Value → α → Prop} {l : List α} (h : SlP F w v sz Pr l) (hsz : 0 < sz) {lo hi : Nat} (h1 : lo ≤ hi) (h2 : hi ≤ l.length) :
    ∀ ao cap, v = .slice ao l.length cap → SlP F w (.slice (if cap = lo then ao else ao.map (·.add (lo * sz))) (hi - lo) (cap - lo)) sz Pr ((l.take hi).drop lo) := by
  intro ao cap hv
  obtain ⟨rows, ⟨⟨ao', cap', hv', g1, g2, g3⟩, hlen⟩, hl, hP⟩ := h
  rw [hv] at hv'
  injection hv' with e1 e2 e3
  subst e1; subst e3
  refine ⟨(rows.take hi).drop lo, ⟨⟨if cap = lo then ao else ao.map (·.add (lo * sz)), cap - lo, ?_, ?_, ?_, ?_⟩, ?_⟩, ?_, ?_⟩
  · congr 1; simp; omega
  · simp; omega
  · omega
  · intro hne
    have hlt : lo < hi := by
      rcases Nat.lt_or_ge lo hi with h' | h'
      · exact h'
      · exact absurd (List.drop_eq_nil_of_le (by simp; omega)) hne
    obtain ⟨A, rfl, hc⟩ := g3 (by intro e; subst e; simp at hl; omega)
    have hcl : cap ≠ lo := by omega
    refine ⟨A.add (lo * sz), by simp [hcl], ?_⟩
    have := hc.sub (lo * sz)
    have hfl : ∀ (rows : List (List Value)) (k : Nat), (∀ r ∈ rows, r.length = sz) → k ≤ rows.length → rows.flatten.drop (k * sz) = (rows.drop k).flatten := by
      intro rows
      induction rows with
      | nil => intro k _ hk; simp at hk; subst hk; simp
      | cons r rs ih =>
        intro k hr hk
        cases k with
        | zero => simp
        | succ k =>
          have h0 : r.length = sz := hr r (by simp)
          rw [List.flatten_cons, Nat.succ_mul, Nat.add_comm, ← h0, ← List.drop_drop, List.drop_left, h0]
          simpa using ih k (fun r h => hr r (List.mem_cons_of_mem _ h)) (by simpa using hk)
    rw [hfl rows lo hlen (by omega)] at this
    have e : rows.drop lo = (rows.take hi).drop lo ++ rows.drop hi := by
      rw [← List.drop_append_of_le_length (by simp; omega), List.take_append_drop]
    rw [e, List.flatten_append] at this
    exact this.pre
  · intro r hr; exact hlen r (List.mem_of_mem_take (List.mem_of_mem_drop hr))
  · simp [hl]
  · intro i r x hr hx
    simp only [List.getElem?_drop, List.getElem?_take] at hr hx
    split at hr
    · rename_i hlt; simp only [hlt, if_true] at hx; exact hP _ _ _ hr hx
    · cases hr
end Sep

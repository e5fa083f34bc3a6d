/- A part of this claim's proof: models of functions, walks, plain laws. No conditions. -/
import Derived.Test.YtinchjigeakocaaZEnt
set_option linter.all false
namespace Sep
open Go Go.RowKit
set_option linter.unusedSectionVars false
/-! ### a range over a map -/
def y7R {κ R : Type} [DecidableEq R] (l : List κ) (z : Option R) (f : κ → List κ → Option R) : Option R :=
 match l with
 | [] => z
 | e :: t => if (List.range (t.length + 1)).all fun i => decide (((e :: t)[i]?.map fun x => f x ((e :: t).eraseIdx i)) = some (f e t)) then f e t else none
theorem y7S {κ R : Type} [DecidableEq R] {l : List κ} {z : Option R} {f : κ → List κ → Option R} {r : R} (h : y7R l z f = some r) :
  (l = [] → z = some r) ∧ ∀ (i : Nat) (x : κ) (m : List κ), l[i]? = some x → m = l.eraseIdx i → f x m = some r := by
 cases l with
 | nil => exact ⟨fun _ => h, fun i x m hx => (by simp at hx)⟩
 | cons e t =>
  refine ⟨fun hc => (by cases hc), fun i x m hx hm => ?_⟩
  subst hm
  simp only [y7R] at h
  split at h
  ·rename_i ha
   rw [List.all_eq_true] at ha
   have hi : i < t.length + 1 := by
    have := (List.getElem?_eq_some_iff.1 hx).1
    simpa using this
   have := of_decide_eq_true (ha i (List.mem_range.2 hi))
   rw [hx] at this
   simp only [Option.map_some, Option.some.injEq] at this
   rw [this]; exact h
  ·cases h
def y4k (es : List MapEntry) (seen : Array Nat) : List MapEntry := es.filter fun e => !seen.contains e.born
theorem y6Q {α β : Type} (f : α → β) (l : List α) (i : Nat) : (l.eraseIdx i).map f = (l.map f).eraseIdx i := by
 simp only [List.eraseIdx_eq_take_drop_succ, List.map_append, List.map_take, List.map_drop]
theorem y9y {l : List MapEntry} {i : Nat} {e : MapEntry} (hn : (l.map (·.born)).Nodup) (h : l[i]? = some e) : l.filter (fun q => q.born != e.born) = l.eraseIdx i := by
 induction l generalizing i with
 | nil => simp at h
 | cons a t ih =>
  simp only [List.map_cons, List.nodup_cons, List.mem_map, not_exists, not_and] at hn
  cases i with
  | zero =>
   simp only [List.getElem?_cons_zero, Option.some.injEq] at h
   subst h
   rw [List.filter_cons_of_neg (by simp), List.eraseIdx_cons_zero]
   exact List.filter_eq_self.2 fun q hq => bne_iff_ne.2 (hn.1 q hq)
  | succ i =>
   rw [List.getElem?_cons_succ] at h
   have hm : e ∈ t := List.mem_of_getElem? h
   rw [List.filter_cons_of_pos (by simpa using fun hc => hn.1 e hm hc.symm), ih hn.2 h, List.eraseIdx_cons_succ]
theorem y9z {es : List MapEntry} {seen : Array Nat} {i : Nat} {e : MapEntry} (hn : (es.map (·.born)).Nodup) (h : (y4k es seen)[i]? = some e) : y4k es (seen.push e.born) = (y4k es seen).eraseIdx i := by
 rw [← y9y (l := y4k es seen) (i := i) (List.Sublist.nodup (List.Sublist.map _ List.filter_sublist) hn) h]
 unfold y4k
 rw [List.filter_filter]
 congr 1; funext q
 rw [Array.contains_push, Bool.not_or, Bool.and_comm]
 simp [bne, Bool.beq_comm, BEq.comm]
theorem yam {l : List MapEntry} {e : MapEntry} (hn : (l.map (·.born)).Nodup) (h : e ∈ l) : l.find? (fun x => x.born == e.born) = some e := by
 induction l with
 | nil => simp at h
 | cons a t ih =>
  simp only [List.map_cons, List.nodup_cons, List.mem_map, not_exists, not_and] at hn
  rcases List.mem_cons.1 h with rfl | h
  ·simp
  ·rw [List.find?_cons_of_neg (by simpa using fun hc => hn.1 e h hc.symm)]; exact ih hn.2 h
section
variable {κ α : Type}
def y3H (r b : Nat) (ek : κ → Value) (ev : α → Value) (l rem : List (κ × α)) (cur : Option (κ × α)) : Asrt where
 fp := [r, b]
 ok w := r ≠ b ∧ ∃ es clock seen, w.heap[b]? = some (.map es clock) ∧ es.toList.map (fun e => (e.key, e.val)) = l.map (fun p => (ek p.1, ev p.2)) ∧ y3G es clock ∧ w.heap[r]? = some (.mapIter (some b) clock seen clock) ∧
  (y4k es.toList seen).map (fun e => (e.key, e.val)) = rem.map (fun p => (ek p.1, ev p.2)) ∧
  ∀ c, cur = some c → ∃ s e, seen.back? = some s ∧ es.find? (fun x => x.born == s) = some e ∧ e.key = ek c.1 ∧ e.val = ev c.2
 loc w w' h hl hk := by
  obtain ⟨h0, es, clock, seen, h1, h2, h3, h4, h5⟩ := hk
  exact ⟨h0, es, clock, seen, by rw [h b (by simp) (hl b (by simp))]; exact h1, h2, h3, by rw [h r (by simp) (hl r (by simp))]; exact h4, h5⟩
end
section
variable [Rnd]
variable {P : Program} {n : Nat} {F : List Nat} {w₀ : World} {env : List (Nat × Value)} {L R : List Asrt} {d : Option Tmp} {ty : TypeId} {pos : String} {after : Array Edge} {g : Option (Nat × Bool)} {x y z : Operand} {t kt e : TypeId}
 {κ α : Type} {ek : κ → Value} {ev : α → Value} {l rem : List (κ × α)} {cur : Option (κ × α)} {r b : Nat}
theorem e_range (ht : P.underlying t = some (.map kt e)) (hx : eo env x = some (.map (some b))) (hm : Pick L (yI b ek ev l) R) :
  Ef P n F w₀ env L ⟨d, .range t x, ty, pos, after, g⟩ (fun _ : Nat => True) (fun r => .pointer (some ⟨r, 0, none⟩)) (fun r => y3H r b ek ev l l none :: R) := by
 intro a w h
 obtain ⟨es, clock, hb, he, hst⟩ := h.hp.ok _ hm.mem
 have hbl : b < w.heap.size := (h.hp.front hm).lt _ (List.mem_cons_self ..) b (by simp [yI])
 refine ⟨w.heap.size, w.alloc (.mapIter (some b) clock #[] clock), ?_, trivial, ?_⟩
 ·simp [execOp, h.eval hx, Instr.range, Sem.run_bind, run_underlying ht, Result.andThen, MapKept.run_getObj_map hb]
 ·have h1 := (h.hp.front hm).alloc (.mapIter (some b) clock #[] clock)
  have hA := Ext.alloc w (.mapIter (some b) clock #[] clock)
  refine (h.hp.front hm).upd (x := yI b ek ev l) (y := y3H w.heap.size b ek ev l l none) .here hA.os hA.tape hA.output hA.size (fun k hk _ => hA.block k hk) ⟨by omega, es, clock, #[], ?_, he, hst, ?_, ?_, by simp⟩ ?_
  ·rw [hA.block b hbl]; exact hb
  ·exact heap_alloc_new w _
  ·unfold y4k; rw [List.filter_eq_self.2 (by simp)]; exact he
  ·intro q hq
   simp only [y3H, List.mem_cons, List.not_mem_nil, or_false] at hq
   rcases hq with rfl | rfl
   ·exact ⟨by simp, .inr (Nat.le_refl _)⟩
   ·exact ⟨Nat.lt_of_lt_of_le hbl hA.size, .inl (by simp [yI])⟩
theorem y7T {w : World} {m : Nat} (hm : 0 < m) : ∃ i N, i < m ∧ w.drawn ≤ N ∧ (Go.choose (.mapNext m)).run P w = .ok i { w with drawn := N } := by
 by_cases h : m ≤ 1
 ·exact ⟨0, w.drawn, by omega, Nat.le_refl _, by simp [Go.choose, Sem.run, Question.forced, h]⟩
 ·exact ⟨w.tape w.drawn (.mapNext m) % m, w.drawn + 1, Nat.mod_lt _ hm, Nat.le_succ _, by simp [-run_choose_drew, Go.choose, Sem.run, Question.forced, h, Question.cut]⟩
theorem e_nextM (hx : eo env x = some (.pointer (some ⟨r, 0, none⟩))) (hm : Pick L (y3H r b ek ev l rem cur) R) :
  Ef P n F w₀ env L ⟨d, .next x false, ty, pos, after, g⟩ (fun o : Option (Nat × (κ × α)) => match o with | none => rem = [] | some p => rem[p.1]? = some p.2)
   (fun o => match o with | none => .tuple #[.bool false] | some p => .tuple #[.bool true, ek p.2.1, ev p.2.2])
   (fun o => match o with | none => y3H r b ek ev l [] cur :: R | some p => y3H r b ek ev l (rem.eraseIdx p.1) (some p.2) :: R) := by
 intro a w h
 obtain ⟨hrb, es, clock, seen, hb, he, hst, hr, hl, hc⟩ := h.hp.ok _ hm.mem
 have hrl : r < w.heap.size := (h.hp.front hm).lt _ (List.mem_cons_self ..) r (by simp [y3H])
 have hbl : b < w.heap.size := (h.hp.front hm).lt _ (List.mem_cons_self ..) b (by simp [y3H])
 have hg1 : (getObj r).run P w = .ok (.mapIter (some b) clock seen clock) w := by simp [getObj, Sem.run, hr]
 have hg2 := MapKept.run_getObj_map (P := P) hb
 have hu : (!seen.isEmpty && !es.isEmpty && es.all (fun q => decide (q.born ≥ clock))) = false := by
  by_cases h0 : es.isEmpty = true
  ·simp [h0]
  ·have : es.all (fun q => decide (q.born ≥ clock)) = false := by
    rw [Bool.eq_false_iff]
    intro hc'
    rw [Array.all_eq_true_iff_forall_mem] at hc'
    have hs : 0 < es.size := by
     rw [Array.isEmpty_iff_size_eq_zero] at h0; omega
    have h1 := of_decide_eq_true (hc' es[0] (Array.getElem_mem hs))
    have h2 := hst.1 es[0] (by simp)
    omega
   simp [this]
 have hL : (es.filter fun q => !seen.contains q.born).toList = y4k es.toList seen := by unfold y4k; rw [Array.toList_filter]
 have hold : (es.filter fun q => !seen.contains q.born).filter (fun q => decide (q.born < clock)) = es.filter fun q => !seen.contains q.born := by
  apply Array.ext'
  rw [Array.toList_filter, List.filter_eq_self]
  intro q hq
  rw [hL] at hq
  exact decide_eq_true (hst.1 q (List.mem_filter.1 hq).1)
 have hnew : (es.filter fun q => !seen.contains q.born).filter (fun q => decide (q.born ≥ clock)) = #[] := by
  apply Array.ext'
  rw [Array.toList_filter, Array.toList_empty, List.filter_eq_nil_iff]
  intro q hq
  rw [hL] at hq
  have := hst.1 q (List.mem_filter.1 hq).1
  simp; omega
 have hlen : rem.length = (y4k es.toList seen).length := by simpa using (congrArg List.length hl).symm
 have hg3 : ∀ o N, (setObj r o).run P { w with drawn := N } = .ok () ({ w with drawn := N }.putObj r o) := fun o N => by
  simp [setObj, Sem.run, hr, World.putObj]
 generalize hLe : (es.filter fun q => !seen.contains q.born) = left at hL hold hnew
 have hrl' : rem.length = left.size := by rw [hlen, ← hL]; simp
 have hl' := hl
 rw [← hL] at hl
 by_cases h0 : left.size = 0
 ·have hl0 : left = #[] := Array.eq_empty_of_size_eq_zero h0
  obtain rfl : rem = [] := List.eq_nil_of_length_eq_zero (by omega)
  obtain ⟨i, N, hi, hN, hrun⟩ := y7T (P := P) (w := w) Nat.one_pos
  obtain rfl : i = 0 := by omega
  refine ⟨none, { w with drawn := N }, ?_, rfl, (h.hp.front hm).ext (Ext.y7t w N hN)⟩
  ·simp only [execOp, h.eval hx, Instr.next, Sem.run_bind, hg1, hg2, Result.andThen, hu, hLe, hl0, Bool.false_eq_true, if_false, Array.filter_empty, Array.isEmpty_empty, if_true, Array.append_empty, Array.map_empty]
   simp [-run_choose_drew, hrun, Sem.run_bind, Result.andThen, Sem.run, pure]
 ·obtain ⟨i, N, hi, hN, hrun⟩ := y7T (P := P) (w := w) (m := left.size) (by omega)
  have hir : i < rem.length := by omega
  have hE := h.hp.ext (Ext.y7t w N hN)
  have hli := congrArg (fun z => z[i]?) hl
  simp only [List.getElem?_map, Array.getElem?_toList, List.getElem?_eq_getElem hir, Array.getElem?_eq_getElem hi, Option.map_some, Option.some.injEq, Prod.mk.injEq] at hli
  have hold' : (left.filter fun q => decide (q.born < clock)) = left := hold
  have hne : left.isEmpty = false := by rw [Bool.eq_false_iff]; intro hc; exact h0 (Array.isEmpty_iff_size_eq_zero.1 hc)
  refine ⟨some (i, rem[i]), { w with drawn := N }.putObj r (.mapIter (some b) clock (seen.push left[i].born) clock), ?_, List.getElem?_eq_getElem hir, ?_⟩
  ·simp only [execOp, h.eval hx, Instr.next, Sem.run_bind, hg1, hg2, Result.andThen, hu, hLe, hold', hnew]
   simp [-run_choose_drew, hrun, Sem.run_bind, Result.andThen, Sem.run, pure, hne, hg3, hi, hli.1, hli.2]
  ·have hm' : (y4k es.toList seen)[i]? = some left[i] := by rw [← hL, Array.getElem?_toList, Array.getElem?_eq_getElem hi]
   have hme : left[i] ∈ es.toList := (List.mem_filter.1 (List.mem_of_getElem? hm')).1
   refine (hE.front hm).upd (x := y3H r b ek ev l rem cur) (y := y3H r b ek ev l (rem.eraseIdx i) (some rem[i])) (w' := { w with drawn := N }.putObj r (.mapIter (some b) clock (seen.push left[i].born) clock)) .here rfl ⟨rfl, Nat.le_refl _⟩ rfl (by rw [World.putObj_size]; exact Nat.le_refl _) (fun k _ hk => World.putObj_heap_other fun hc => hk (by simp [y3H, hc])) ⟨hrb, es, clock, seen.push left[i].born, ?_, he, hst, World.putObj_heap_same hrl, ?_, ?_⟩ fun q hq => ⟨by rw [World.putObj_size]; simp only [y3H, List.mem_cons, List.not_mem_nil, or_false] at hq; rcases hq with rfl | rfl <;> assumption, .inl hq⟩
   ·rw [World.putObj_heap_other (Ne.symm hrb)]; exact hb
   ·rw [y9z hst.2 hm', y6Q, hl', y6Q]
   ·rintro c hc'
    obtain rfl : rem[i] = c := Option.some.inj hc'
    refine ⟨left[i].born, left[i], by simp, ?_, hli.1, hli.2⟩
    rw [← Array.find?_toList]; exact yam hst.2 hme
theorem e_entry {c : κ × α} (hx : eo env x = some (.pointer (some ⟨r, 0, none⟩))) (hm : Pick L (y3H r b ek ev l rem (some c)) R) :
  Qt P n F w₀ env L ⟨d, .entry x, ty, pos, after, g⟩ (.tuple #[ek c.1, ev c.2]) := by
 intro a w h
 obtain ⟨hrb, es, clock, seen, hb, he, hst, hr, hl, hc⟩ := h.hp.ok _ hm.mem
 have hg1 : (getObj r).run P w = .ok (.mapIter (some b) clock seen clock) w := by simp [getObj, Sem.run, hr]
 have hg2 := MapKept.run_getObj_map (P := P) hb
 obtain ⟨s, e, h1, h2, h3, h4⟩ := hc c rfl
 simp [execOp, h.eval hx, Instr.entry, Sem.run_bind, hg1, hg2, Result.andThen, h1, h2, h3, h4, Sem.run, pure]
theorem Hp.yan {w : World} (hm : Pick L (y3H r b ek ev l rem cur) R) (h : Hp F w₀ w L) : Hp F w₀ w (yI b ek ev l :: R) := by
 have h1 := h.front hm
 obtain ⟨hrb, es, clock, seen, hb, he, hst, hr, hl, hc⟩ := h1.ok _ (List.mem_cons_self ..)
 refine h1.upd (x := y3H r b ek ev l rem cur) (y := yI b ek ev l) .here rfl (TD.refl _) rfl (Nat.le_refl _) (fun _ _ _ => rfl) ⟨es, clock, hb, he, hst⟩ fun q hq => ?_
 have hq' : q = b := by simpa [yI] using hq
 subst hq'
 exact ⟨h1.lt _ (List.mem_cons_self ..) _ (by simp [y3H]), .inl (by simp [y3H])⟩
theorem WL.nextM {dd : Nat} {ops : Array Oper} {Q : Exit → Act → World → Prop} {rest : List Oper} {o : Oper} (ho : o = ⟨some dd, .next x false, ty, pos, after, none⟩) (hdn : Nat.blt dd n = true) (hx : eo env x = some (.pointer (some ⟨r, 0, none⟩))) (hm : Pick L (y3H r b ek ev l rem cur) R)
  (k0 : rem = [] → WL P n F w₀ ops Q rest ((dd, .tuple #[.bool false]) :: env) (yI b ek ev l :: R))
  (k1 : ∀ (i : Nat) (y : κ × α) (m : List (κ × α)), rem[i]? = some y → m = rem.eraseIdx i → WL P n F w₀ ops Q rest ((dd, .tuple #[.bool true, ek y.1, ev y.2]) :: env) (y3H r b ek ev l m (some y) :: R)) : WL P n F w₀ ops Q (o :: rest) env L := by
 subst ho
 refine WL.eff rfl rfl hdn (e_nextM hx hm) fun g hg => ?_
 cases g with
 | none => exact WL.ghL (fun _ h => Hp.yan .here h) (k0 hg)
 | some p => exact k1 p.1 p.2 _ hg rfl
end
end Sep

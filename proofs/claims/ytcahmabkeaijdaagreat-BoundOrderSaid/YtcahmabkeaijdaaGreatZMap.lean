/- A part of this claim's proof: owned maps. No conditions. -/
import Derived.Test.YtcahmabkeaijdaaGreatZMidR
set_option linter.all false
namespace Sep
open Go Go.RowKit
set_option linter.unusedSectionVars false
/-! ### maps as lists of keys and values, in the order in which the keys came -/
def yp {κ α : Type} [DecidableEq κ] : List (κ × α) → κ → α → α
 | [], _, d => d
 | p :: l, k, d => if k = p.1 then p.2 else yp l k d
def y2w {κ α : Type} [DecidableEq κ] : List (κ × α) → κ → Bool
 | [], _ => false
 | p :: l, k => if k = p.1 then true else y2w l k
def yG {κ α : Type} [DecidableEq κ] : List (κ × α) → κ → α → List (κ × α)
 | [], k, v => [(k, v)]
 | p :: l, k, v => if k = p.1 then (p.1, v) :: l else p :: yG l k v
def y5G (es : Array MapEntry) (clock : Nat) : Prop := (∀ x ∈ es.toList, x.born < clock) ∧ (es.toList.map (·.born)).Nodup
theorem y5G.ycw : y5G #[] 0 := ⟨by simp, by simp⟩
theorem y5G.push {es : Array MapEntry} {clock : Nat} (h : y5G es clock) (k v : Value) : y5G (es.push { key := k, val := v, born := clock }) (clock + 1) := by
 refine ⟨?_, ?_⟩
 ·intro x hx
  simp only [Array.toList_push, List.mem_append, List.mem_singleton] at hx
  rcases hx with hx | rfl
  ·exact Nat.lt_succ_of_lt (h.1 x hx)
  ·exact Nat.lt_succ_self _
 ·simp only [Array.toList_push, List.map_append, List.map_cons, List.map_nil]
  refine List.nodup_append.2 ⟨h.2, by simp, ?_⟩
  intro a ha b hb
  obtain ⟨x, hx, rfl⟩ := List.mem_map.1 ha
  simp at hb
  have := h.1 x hx
  omega
theorem y5G.modify {es : Array MapEntry} {clock : Nat} (h : y5G es clock) (i : Nat) (f : MapEntry → MapEntry) (hf : ∀ e, (f e).born = e.born) : y5G (es.modify i f) clock := by
 have hm : (es.modify i f).toList.map (·.born) = es.toList.map (·.born) := by
  rw [Array.toList_modify]
  apply List.ext_getElem?
  intro j
  simp only [List.getElem?_map, List.getElem?_modify]
  cases es.toList[j]? with
  | none => simp
  | some e => by_cases hij : i = j <;> simp [hij, hf]
 refine ⟨?_, by rw [hm]; exact h.2⟩
 intro x hx
 have : x.born ∈ (es.modify i f).toList.map (·.born) := List.mem_map.2 ⟨x, hx, rfl⟩
 rw [hm] at this
 obtain ⟨y, hy, he⟩ := List.mem_map.1 this
 rw [← he]; exact h.1 y hy
def yr {κ α : Type} (b : Nat) (ek : κ → Value) (ev : α → Value) (l : List (κ × α)) : Asrt where
 fp := [b]
 ok w := ∃ es clock, w.heap[b]? = some (.map es clock) ∧ es.toList.map (fun e => (e.key, e.val)) = l.map (fun p => (ek p.1, ev p.2)) ∧ y5G es clock
 loc w w' h hl hk := by
  obtain ⟨es, clock, h1, h2⟩ := hk
  exact ⟨es, clock, by rw [h b (by simp) (hl b (by simp))]; exact h1, h2⟩
structure KeyT (P : Program) (kt : TypeId) {κ : Type} [DecidableEq κ] (ek : κ → Value) : Prop where
 chk : ∀ (b : Bool) (k : κ) (w : World), (Instr.checkKey b 10000 kt (ek k)).run P w = .ok () w
 find : ∀ (k : κ) (es : List MapEntry) (ks : List κ) (w : World), es.map (·.key) = ks.map ek →
  (Instr.findKey kt (ek k) es).run P w = .ok ((ks.findIdx? fun k' => decide (k = k')).map fun i => (i, ((es[i]?).map (·.val)).getD undef)) w
 stays : ∀ (k : κ) (w : World), (Instr.keyThatStays (ek k) (ek k)).run P w = .ok (ek k) w
section
variable {κ α : Type} [DecidableEq κ]
theorem yaW {kk : IntKind} (a : Int) : ∀ (es : List MapEntry) (ks : List Int) (i : Nat), es.map (·.key) = ks.map (Value.int kk) →
  Instr.findNow (.int kk) (.int kk a) es i = some ((ks.findIdx? fun k' => decide (a = k')).map fun j => (i + j, ((es[j]?).map (·.val)).getD undef))
 | [], [], i, _ => rfl
 | [], _ :: _, _, h => by simp at h
 | _ :: _, [], _, h => by simp at h
 | e :: es, k :: ks, i, h => by
  simp only [List.map_cons, List.cons.injEq] at h
  unfold Instr.findNow
  rw [h.1]
  simp only [Instr.sameNow, if_true]
  by_cases hk : a = k
  ·subst hk; simp [List.findIdx?_cons]
  ·have : (a == k) = false := by simp [hk]
   rw [this]
   simp only
   rw [yaW a es ks (i + 1) h.2, List.findIdx?_cons]
   simp only [hk, decide_false, Bool.false_eq_true, if_false]
   cases ks.findIdx? (fun k' => decide (a = k')) with
   | none => rfl
   | some j => simp; omega
theorem yaj (a b : ByteArray) : (a == b) = decide (a = b) := by
 rw [Bool.eq_iff_iff, MapKept.bytes_beq, decide_eq_true_eq]
theorem yaX (a : ByteArray) : ∀ (es : List MapEntry) (ks : List ByteArray) (i : Nat), es.map (·.key) = ks.map Value.string →
  Instr.findNow .string (.string a) es i = some ((ks.findIdx? fun k' => decide (a = k')).map fun j => (i + j, ((es[j]?).map (·.val)).getD undef))
 | [], [], i, _ => rfl
 | [], _ :: _, _, h => by simp at h
 | _ :: _, [], _, h => by simp at h
 | e :: es, k :: ks, i, h => by
  simp only [List.map_cons, List.cons.injEq] at h
  unfold Instr.findNow
  rw [h.1]
  simp only [Instr.sameNow]
  rw [yaj]
  by_cases hk : a = k
  ·subst hk; simp [List.findIdx?_cons]
  ·rw [decide_eq_false hk]
   simp only
   rw [yaX a es ks (i + 1) h.2, List.findIdx?_cons]
   simp only [hk, decide_false, Bool.false_eq_true, if_false]
   cases ks.findIdx? (fun k' => decide (a = k')) with
   | none => rfl
   | some j => simp; omega
theorem keyT_str {P : Program} {kt : TypeId} (h : P.underlying kt = some .string) : KeyT P kt Value.string where
 chk b k w := MapKept.run_checkKey h (by simp [MapKept.IsKey]) b 9999
 find k es ks w hk := by
  unfold Instr.findKey
  simp only [Sem.run_bind, run_underlying h, Result.andThen]
  rw [yaX k es ks 0 hk]
  simp
 stays k w := by simp [Instr.keyThatStays, Instr.sameBits, yaj]
theorem keyT_int {P : Program} {kt : TypeId} {kk : IntKind} (h : P.underlying kt = some (.int kk)) : KeyT P kt (Value.int kk) where
 chk b k w := MapKept.run_checkKey h (by simp [MapKept.IsKey]) b 9999
 find k es ks w hk := by
  unfold Instr.findKey
  simp only [Sem.run_bind, run_underlying h, Result.andThen]
  rw [yaW k es ks 0 hk]
  simp
 stays k w := by simp [Instr.keyThatStays, Instr.sameBits]
theorem y8S {ek : κ → Value} {ev : α → Value} {k : κ} {d : α} : ∀ (l : List (κ × α)) (es : List MapEntry), es.map (fun e => (e.key, e.val)) = l.map (fun p => (ek p.1, ev p.2)) →
  (match ((l.map (·.1)).findIdx? fun k' => decide (k = k')).map fun i => (i, ((es[i]?).map (·.val)).getD undef) with | some p => p.2 | none => ev d) = ev (yp l k d)
 | [], [], _ => rfl
 | [], _ :: _, h => by simp at h
 | _ :: _, [], h => by simp at h
 | p :: l, e :: es, h => by
  simp only [List.map_cons, List.cons.injEq, Prod.mk.injEq] at h
  rw [List.map_cons, List.findIdx?_cons]
  unfold yp
  by_cases hk : k = p.1
  ·simp [hk, h.1.2]
  ·simp only [hk, decide_false, Bool.false_eq_true, if_false]
   rw [← y8S l es h.2]
   cases (l.map (·.1)).findIdx? (fun k' => decide (k = k')) <;> simp
theorem yak {k : κ} : ∀ (l : List (κ × α)), ((l.map (·.1)).findIdx? fun k' => decide (k = k')).isSome = y2w l k
 | [] => rfl
 | p :: l => by
  rw [List.map_cons, List.findIdx?_cons]
  unfold y2w
  by_cases hk : k = p.1
  ·simp [hk]
  ·simp only [hk, decide_false, Bool.false_eq_true, if_false]
   rw [← yak l]
   cases (l.map (·.1)).findIdx? (fun k' => decide (k = k')) <;> simp
theorem y7M {ek : κ → Value} {ev : α → Value} {k : κ} {v : α} : ∀ (l : List (κ × α)) (es : List MapEntry) (i : Nat), es.map (fun e => (e.key, e.val)) = l.map (fun p => (ek p.1, ev p.2)) →
  ((l.map (·.1)).findIdx? fun k' => decide (k = k')) = some i →
  i < es.length ∧ ((es[i]?).map (·.key)).getD undef = ek k ∧ (es.modify i fun e => { e with key := ek k, val := ev v }).map (fun e => (e.key, e.val)) = (yG l k v).map (fun p => (ek p.1, ev p.2))
 | [], es, i, _, hf => by simp at hf
 | _ :: _, [], _, h, _ => by simp at h
 | p :: l, e :: es, i, h, hf => by
  simp only [List.map_cons, List.cons.injEq, Prod.mk.injEq] at h
  rw [List.map_cons, List.findIdx?_cons] at hf
  unfold yG
  by_cases hk : k = p.1
  ·subst hk
   simp at hf
   subst hf
   simp [h.1.1, h.2]
  ·simp only [hk, decide_false, Bool.false_eq_true, if_false] at hf
   rw [Option.map_eq_some_iff] at hf
   obtain ⟨j, hj, rfl⟩ := hf
   obtain ⟨h1, h2, h3⟩ := y7M (v := v) l es j h.2 hj
   refine ⟨by simp; omega, by simpa using h2, ?_⟩
   rw [if_neg hk, List.modify_succ_cons, List.map_cons, List.map_cons, h3, h.1.1, h.1.2]
theorem y7N {k : κ} {v : α} : ∀ (l : List (κ × α)), ((l.map (·.1)).findIdx? fun k' => decide (k = k')) = none → yG l k v = l ++ [(k, v)]
 | [], _ => rfl
 | p :: l, hf => by
  rw [List.map_cons, List.findIdx?_cons] at hf
  unfold yG
  by_cases hk : k = p.1
  ·simp [hk] at hf
  ·simp only [hk, decide_false, Bool.false_eq_true, if_false, Option.map_eq_none_iff] at hf
   rw [if_neg hk, y7N l hf]; rfl
theorem y9b {ek : κ → Value} {ev : α → Value} {l : List (κ × α)} {es : List MapEntry} (h : es.map (fun e => (e.key, e.val)) = l.map (fun p => (ek p.1, ev p.2))) : es.map (·.key) = (l.map (·.1)).map ek := by
 have := congrArg (List.map (·.1)) h
 rw [List.map_map, List.map_map] at this
 rw [List.map_map]
 exact this
end
section
variable [Rnd]
variable {P : Program} {n : Nat} {F : List Nat} {w₀ : World} {env : List (Nat × Value)} {L R : List Asrt} {d : Option Tmp} {ty : TypeId} {pos : String} {after : Array Edge} {g : Option (Nat × Bool)} {x y z : Operand} {t kt e : TypeId}
 {κ α : Type} [DecidableEq κ] {ek : κ → Value} {ev : α → Value} {l : List (κ × α)} {b : Nat} {k : κ} {v dflt : α} {zv : Value}
theorem y3e (ek : κ → Value) (ev : α → Value) : EfX P n F w₀ env L ⟨d, .makeMap t none, ty, pos, after, g⟩ (fun _ : Nat => True) (fun b => .map (some b)) (fun b => yr b ek ev [] :: L) := by
 intro a w h
 refine ⟨w.heap.size, w.alloc (.map #[] 0), ?_, trivial, ?_, .alloc _ _⟩
 ·simp [execOp, run_makeMap]
 ·exact Wk.hp (Wk.any (x := blk w.heap.size (.map #[] 0)) (y := yr w.heap.size ek ev []) rfl (fun w' hk => ⟨#[], 0, hk, rfl, y5G.ycw⟩) (Wk.refl L)) (h.hp.alloc _)
theorem ydT {w : World} (K : KeyT P kt ek) (ht : P.underlying t = some (.map kt e)) (hz : y2n P e zv) (hd : zv = ev dflt) (hp : Hp F w₀ w L) (hm : Pick L (yr b ek ev l) R) :
  (Instr.lookup t (.map (some b)) (ek k) false).run P w = .ok (ev (yp l k dflt)) w := by
 obtain ⟨es, clock, hb, he, hst⟩ := hp.ok _ hm.mem
 have h1 := K.find k es.toList (l.map (·.1)) w (y9b he)
 have h2 := y8S (ek := ek) (ev := ev) (k := k) (d := dflt) l es.toList he
 have hzw := congrFun hz w
 simp only [Instr.lookup, Sem.run_bind, run_underlying ht, Result.andThen, MapKept.run_getObj_map hb, K.chk]
 cases hf : (l.map (·.1)).findIdx? (fun k' => decide (k = k')) with
 | none => rw [hf] at h1 h2; simp only [Option.map_none] at h1 h2; simp [h1, hzw, hd, h2]
 | some i => rw [hf] at h1 h2; simp only [Option.map_some, Array.getElem?_toList] at h1 h2; simp [h1, h2]
theorem ydr {w : World} (K : KeyT P kt ek) (ht : P.underlying t = some (.map kt e)) (hz : y2n P e zv) (hd : zv = ev dflt) (hp : Hp F w₀ w L) (hm : Pick L (yr b ek ev l) R) :
  (Instr.lookup t (.map (some b)) (ek k) true).run P w = .ok (.tuple #[ev (yp l k dflt), .bool (y2w l k)]) w := by
 obtain ⟨es, clock, hb, he, hst⟩ := hp.ok _ hm.mem
 have h1 := K.find k es.toList (l.map (·.1)) w (y9b he)
 have h2 := y8S (ek := ek) (ev := ev) (k := k) (d := dflt) l es.toList he
 have h3 := yak (k := k) l
 have hzw := congrFun hz w
 simp only [Instr.lookup, Sem.run_bind, run_underlying ht, Result.andThen, MapKept.run_getObj_map hb, K.chk]
 cases hf : (l.map (·.1)).findIdx? (fun k' => decide (k = k')) with
 | none => rw [hf] at h1 h2 h3; simp only [Option.map_none] at h1 h2; rw [← h3]; simp [h1, hzw, hd, h2]
 | some i => rw [hf] at h1 h2 h3; simp only [Option.map_some, Array.getElem?_toList] at h1 h2; rw [← h3]; simp [h1, h2]
theorem y1J (K : KeyT P kt ek) (ht : P.underlying t = some (.map kt e)) (hz : y2n P e zv) (hd : zv = ev dflt) (hx : eo env x = some (.map (some b))) (hy : eo env y = some (ek k)) (hm : Pick L (yr b ek ev l) R) :
  Qt P n F w₀ env L ⟨d, .lookup t x y false, ty, pos, after, g⟩ (ev (yp l k dflt)) := by
 intro a w h
 simp [execOp, h.eval hx, h.eval hy, ydT K ht hz hd h.hp hm]
theorem yc3 (K : KeyT P kt ek) (ht : P.underlying t = some (.map kt e)) (hz : y2n P e zv) (hd : zv = ev dflt) (hx : eo env x = some (.map (some b))) (hy : eo env y = some (ek k)) (hm : Pick L (yr b ek ev l) R) :
  Qt P n F w₀ env L ⟨d, .lookup t x y true, ty, pos, after, g⟩ (.tuple #[ev (yp l k dflt), .bool (y2w l k)]) := by
 intro a w h
 simp [execOp, h.eval hx, h.eval hy, ydr K ht hz hd h.hp hm]
theorem q_lenM (ht : P.underlying t = some (.map kt e)) (hx : eo env x = some (.map (some b))) (hm : Pick L (yr b ek ev l) R) :
  Qt P n F w₀ env L ⟨d, .call ⟨.builtin .len, #[x], #[t]⟩, ty, pos, after, g⟩ (.int .i64 (l.length : Nat)) := by
 intro a w h
 obtain ⟨es, clock, hb, he, hst⟩ := h.hp.ok _ hm.mem
 have hl : es.size = l.length := by have := congrArg List.length he; simpa using this
 have ht' : P.underlying t = some (.map (P.mapKeyOf t) (P.mapElemOf t)) := by simp [Program.mapKeyOf, Program.mapElemOf, ht]
 simp [execOp, h.eval hx, resolve, invoke, builtin, run_len_map w t _ b es clock ht' hb, goInt, hl]
theorem Hp.setMap {w : World} {l' : List (κ × α)} {es' : Array MapEntry} {c' : Nat} (h : Hp F w₀ w L) (hm : Pick L (yr b ek ev l) R) (he : es'.toList.map (fun e => (e.key, e.val)) = l'.map (fun p => (ek p.1, ev p.2))) (hst : y5G es' c') :
  Hp F w₀ { w with heap := w.heap.setIfInBounds b (.map es' c') } (yr b ek ev l' :: R) := by
 have hlt : b < w.heap.size := (h.front hm).lt _ (List.mem_cons_self ..) b (by simp [yr])
 refine (h.front hm).upd (x := yr b ek ev l) (y := yr b ek ev l') .here rfl ⟨rfl, Nat.le_refl _⟩ rfl (by simp) (fun k _ hk' => ?_) ⟨es', c', by simp [hlt], he, hst⟩ ?_
 ·have : b ≠ k := fun e => hk' (by simp [yr, e])
  simp [Array.getElem?_setIfInBounds, this]
 ·intro b' hb'
  simp only [yr, List.mem_singleton] at hb'
  subst hb'
  exact ⟨by simpa using hlt, .inl (by simp [yr])⟩
theorem y3m {vv : Value} (K : KeyT P kt ek) (ht : P.underlying t = some (.map kt e)) (hx : eo env x = some (.map (some b))) (hy : eo env y = some (ek k)) (hv : eo env z = some vv) (hvv : vv = ev v) (hm : Pick L (yr b ek ev l) R) :
  Ef0 P n F w₀ env L ⟨none, .mapUpdate t x y z, ty, pos, after, g⟩ (yr b ek ev (yG l k v) :: R) := by
 intro a w h
 subst hvv
 obtain ⟨es, clock, hb, he, hst⟩ := h.hp.ok _ hm.mem
 have h1 := K.find k es.toList (l.map (·.1)) w (y9b he)
 cases hf : (l.map (·.1)).findIdx? (fun k' => decide (k = k')) with
 | none =>
  rw [hf] at h1
  refine ⟨{ w with heap := w.heap.setIfInBounds b (.map (es.push { key := ek k, val := ev v, born := clock }) (clock + 1)) }, .inl ?_, h.hp.setMap hm ?_ (hst.push _ _)⟩
  ·simp [execOp, h.eval hx, h.eval hy, h.eval hv, Instr.mapUpdate, Sem.run_bind, run_underlying ht, Result.andThen, MapKept.run_getObj_map hb, K.chk, h1, MapKept.run_setObj_map _ hb]
  ·rw [y7N l hf]; simp [he]
 | some i =>
  rw [hf] at h1
  obtain ⟨i1, i2, i3⟩ := y7M (v := v) l es.toList i he hf
  have i1' : i < es.size := by simpa using i1
  have i2' : ((es[i]?).map (·.key)).getD (ek k) = ek k := by
   have e : es[i]? = some es[i] := Array.getElem?_eq_getElem i1'
   rw [Array.getElem?_toList, e] at i2
   rw [e]; simpa using i2
  refine ⟨{ w with heap := w.heap.setIfInBounds b (.map (es.modify i fun e => { e with key := ek k, val := ev v }) clock) }, .inl ?_, h.hp.setMap hm ?_ (hst.modify _ _ (fun _ => rfl))⟩
  ·simp [execOp, h.eval hx, h.eval hy, h.eval hv, Instr.mapUpdate, Sem.run_bind, run_underlying ht, Result.andThen, MapKept.run_getObj_map hb, K.chk, h1, i2', K.stays, MapKept.run_setObj_map _ hb]
  ·rw [← i3, Array.toList_modify]
theorem y2W {vv : Value} (K : KeyT P kt ek) (ht : P.underlying t = some (.map kt e)) (hx : eo env x = some (.map (some b))) (hy : eo env y = some (ek k)) (hv : eo env z = some vv) (hvv : vv = ev v) (hm : Pick L (yr b ek ev l) R) :
  Ef0 P n F w₀ env L ⟨none, .insert t x y z, ty, pos, after, g⟩ (yr b ek ev (yG l k v) :: R) := by
 intro a w h
 subst hvv
 obtain ⟨es, clock, hb, he, hst⟩ := h.hp.ok _ hm.mem
 have h1 := K.find k es.toList (l.map (·.1)) w (y9b he)
 cases hf : (l.map (·.1)).findIdx? (fun k' => decide (k = k')) with
 | none =>
  rw [hf] at h1
  refine ⟨{ w with heap := w.heap.setIfInBounds b (.map (es.push { key := ek k, val := ev v, born := clock }) (clock + 1)) }, .inl ?_, h.hp.setMap hm ?_ (hst.push _ _)⟩
  ·simp [execOp, h.eval hx, h.eval hy, h.eval hv, Instr.mapUpdate, Sem.run_bind, run_underlying ht, Result.andThen, MapKept.run_getObj_map hb, K.chk, h1, MapKept.run_setObj_map _ hb]
  ·rw [y7N l hf]; simp [he]
 | some i =>
  rw [hf] at h1
  obtain ⟨i1, i2, i3⟩ := y7M (v := v) l es.toList i he hf
  have i1' : i < es.size := by simpa using i1
  have i2' : ((es[i]?).map (·.key)).getD (ek k) = ek k := by
   have e : es[i]? = some es[i] := Array.getElem?_eq_getElem i1'
   rw [Array.getElem?_toList, e] at i2
   rw [e]; simpa using i2
  refine ⟨{ w with heap := w.heap.setIfInBounds b (.map (es.modify i fun e => { e with key := ek k, val := ev v }) clock) }, .inl ?_, h.hp.setMap hm ?_ (hst.modify _ _ (fun _ => rfl))⟩
  ·simp [execOp, h.eval hx, h.eval hy, h.eval hv, Instr.mapUpdate, Sem.run_bind, run_underlying ht, Result.andThen, MapKept.run_getObj_map hb, K.chk, h1, i2', K.stays, MapKept.run_setObj_map _ hb]
  ·rw [← i3, Array.toList_modify]
theorem yaI {r : α} (K : KeyT P kt ek) (ht : P.underlying t = some (.map kt e)) (hz : y2n P e zv) (hd : zv = ev dflt) (hx : eo env x = some (.map (some b))) (hy : eo env y = some (ek k)) (hm : Pick L (yr b ek ev l) R) (hr : yp l k dflt = r) :
  Qt P n F w₀ env L ⟨d, .lookup t x y false, ty, pos, after, g⟩ (ev r) := hr ▸ y1J K ht hz hd hx hy hm
theorem q_seql {a b : ByteArray} (hx : eo env x = some (.string a)) (hy : eo env y = some (.string b)) {t' : TypeId} : Qt P n F w₀ env L ⟨d, .binOp .eql t x y t', ty, pos, after, g⟩ (.bool (decide (a = b))) := by
 intro a' w h
 simp [execOp, h.eval hx, h.eval hy, eqGuard_at_string, binOp_string_eql, ← beq_toListBytes, yaj]
theorem yaJ {a b : ByteArray} {r : Bool} (hr : decide (a = b) = r) (hx : eo env x = some (.string a)) (hy : eo env y = some (.string b)) {t' : TypeId} : Qt P n F w₀ env L ⟨d, .binOp .eql t x y t', ty, pos, after, g⟩ (.bool r) := hr ▸ q_seql hx hy
def fldT (P : Program) (t f off : Nat) (ft : TypeId) : Prop := ∃ fs fd, P.underlying t = some (.struct fs) ∧ fs[f]? = some fd ∧ fd.type = ft ∧ fd.offset = off
theorem fldT_of {P : Program} {t f off : Nat} {ft : TypeId} {fs : Array Field} {fd : Field} (h : P.underlying t = some (.struct fs)) (hf : fs[f]? = some fd) (ht : fd.type = ft) (ho : fd.offset = off) : fldT P t f off ft := ⟨fs, fd, h, hf, ht, ho⟩
theorem q_fieldA {f off s : Nat} {ft : TypeId} {cs cs' : Array Value} (hf : fldT P t f off ft) (h1 : y5r P ft s) (hx : eo env x = some (.agg cs)) (hv : cs.extract off (off + s) = cs') : Qt P n F w₀ env L ⟨d, .field t x f, ty, pos, after, g⟩ (.agg cs') := by
 intro a w h
 obtain ⟨fs, fd, e1, e2, rfl, rfl⟩ := hf
 have h2 := congrFun h1.1 w
 have h3 := congrFun h1.2 w
 simp [execOp, h.eval hx, Instr.field, run_underlying e1, e2, asAgg, part, h2, h3, hv]
end
end Sep

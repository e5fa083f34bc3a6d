/- A part of this claim's proof: models of functions, walks, plain laws. No conditions. -/
import Derived.Test.YtcahmabkeaijdaaGreatZPart
import Derived.Shelf.SlSortCmp.PdqK
namespace Sep
open Go Go.RowKit Go.Sort Go.Proofs
set_option linter.unusedSectionVars false
set_option linter.all false
section plain
variable {α : Type}
def cby (p : α → α → Option Int) (x y : α) : Int := (p x y).getD 0
def y9z (p : α → α → Option Int) (x : α) : List α → List α
 | [] => [x]
 | y :: l => if cby p x y ≤ 0 then x :: y :: l else y :: y9z p x l
def y1k (p : α → α → Option Int) : List α → List α
 | [] => []
 | x :: l => y9z p x (y1k p l)
theorem ybm (p : α → α → Option Int) (x : α) (l : List α) : (y9z p x l).Perm (x :: l) := by
 induction l with
 | nil => exact .refl _
 | cons y l ih =>
  unfold y9z
  split
  ·exact .refl _
  ·exact (ih.cons y).trans (.swap x y l)
theorem y50 (p : α → α → Option Int) (l : List α) : (y1k p l).Perm l := by
 induction l with
 | nil => exact .refl _
 | cons x l ih => exact (ybm p x _).trans (ih.cons x)
theorem ya0 (p : α → α → Option Int) (l : List α) : (y1k p l).length = l.length := (y50 p l).length_eq
def lstB [DecidableEq α] (p : α → α → Option Int) : List α → Bool
 | [] => true
 | x :: l => l.all (fun y => x == y || (decide (cby p x y < 0) && !decide (cby p y x < 0))) && lstB p l
def y7B [DecidableEq α] (p : α → α → Option Int) (r : List α) : Bool :=
 (r.all fun x => (r.all fun y => (p x y).isSome) && !decide (cby p x x < 0)) && lstB p r
theorem yba [DecidableEq α] (p : α → α → Option Int) (r : List α) : lstB p r = true ↔ r.Pairwise (fun x y => x = y ∨ (cby p x y < 0 ∧ ¬ cby p y x < 0)) := by
 induction r with
 | nil => simp [lstB]
 | cons x l ih => simp [lstB, ih, List.pairwise_cons]
theorem ybH [DecidableEq α] {p : α → α → Option Int} {r : List α} (h : y7B p r = true) {x y : α} (hx : x ∈ r) (hy : y ∈ r) : (cby p x y < 0) ↔ r.idxOf x < r.idxOf y := by
 simp only [y7B, Bool.and_eq_true, List.all_eq_true, Bool.not_eq_true', decide_eq_false_iff_not, yba] at h
 obtain ⟨h1, h2⟩ := h
 have ix := List.idxOf_lt_length_of_mem hx
 have iy := List.idxOf_lt_length_of_mem hy
 have gx : r[r.idxOf x] = x := List.getElem_idxOf ix
 have gy : r[r.idxOf y] = y := List.getElem_idxOf iy
 rw [List.pairwise_iff_getElem] at h2
 constructor
 ·intro hl
  rcases Nat.lt_trichotomy (r.idxOf x) (r.idxOf y) with h3 | h3 | h3
  ·exact h3
  ·exfalso
   have : x = y := by rw [← gx, ← gy]; simp only [h3]
   subst this
   exact (h1 x hx).2 hl
  ·exfalso
   rcases h2 _ _ iy ix h3 with h4 | ⟨_, h4⟩
   ·rw [gx, gy] at h4; subst h4; omega
   ·rw [gx, gy] at h4; exact h4 hl
 ·intro h3
  rcases h2 _ _ ix iy h3 with h4 | ⟨h4, _⟩
  ·rw [gx, gy] at h4; subst h4; omega
  ·rw [gx, gy] at h4; exact h4
theorem ydV [DecidableEq α] {p : α → α → Option Int} {r : List α} (h : y7B p r = true) {x y : α} (hx : x ∈ r) (hy : y ∈ r) : p x y = some (cby p x y) := by
 simp only [y7B, Bool.and_eq_true, List.all_eq_true] at h
 have := (h.1 x hx).1 y hy
 unfold cby
 cases hp : p x y with
 | none => rw [hp] at this; cases this
 | some v => rfl
end plain
theorem flatK_eq {α : Type} [Inhabited α] {enc : α → List Value} {k : Nat} (hk : ∀ x, (enc x).length = k) (h0 : 0 < k) (d : Array α) : flatK enc k d = (d.toList.flatMap enc).toArray := by
 have hs : (flatK enc k d).size = (d.toList.flatMap enc).toArray.size := by simp [y6S hk, -List.length_flatMap]
 apply Array.ext hs
 intro i h1 h2
 have hi : i < d.size * k := by simpa using h1
 have hd : i / k < d.size := (Nat.div_lt_iff_lt_mul h0).2 hi
 have hm : i % k < (enc d[i / k]!).length := by rw [hk]; exact Nat.mod_lt _ h0
 have e1 : (flatK enc k d)[i] = (flatK enc k d)[i]! := by rw [getElem!_pos _ i h1]
 have e2 : (d.toList.flatMap enc)[i]? = some (enc d[i / k]!)[i % k] := by
  rw [y87 hk h0]
  rw [List.getElem?_eq_getElem (by simpa using hd)]
  simp only [Option.bind_some, Array.getElem_toList]
  simp only [getElem!_pos d (i / k) hd] at hm ⊢
  exact List.getElem?_eq_getElem hm
 rw [e1, get_flatK _ _ _ _ hi, List.getElem_toArray]
 have e3 := List.getElem?_eq_some_iff.1 e2
 obtain ⟨_, e3⟩ := e3
 rw [e3, getElem!_pos (enc d[i / k]!) _ hm]
variable [Rnd]
theorem pv_heap {Z : Zp} {w w' : World} (h : ∀ p ∈ Z, w'.heap[p.1]? = w.heap[p.1]?) (hz : zok Z w) : zok Z w' := fun p hp => by rw [h p hp]; exact hz p hp
theorem Hp.asGrow {w w' : World} (h : Hp [] w w' []) : ∃ q os', w' = grow (w.drewN q) os' := by
 refine ⟨w'.drawn - w.drawn, w'.heap.extract w.heap.size w'.heap.size, ?_⟩
 have hd := h.tape.d
 have hheap : w'.heap = w.heap ++ w'.heap.extract w.heap.size w'.heap.size := by
  apply Array.ext_getElem?
  intro k
  rw [Array.getElem?_append]
  split
  ·rename_i hk
   exact h.block k hk (by simp)
  ·rename_i hk
   rw [Array.getElem?_extract]
   have := h.size
   by_cases h2 : k < w'.heap.size
   ·rw [if_pos (by omega), show w.heap.size + (k - w.heap.size) = k by omega]
   ·rw [if_neg (by omega), Array.getElem?_eq_none (by omega)]
 obtain ⟨hp, tp, dr, os, out⟩ := w'
 simp only [grow, World.drewN] at *
 have e1 := h.os; have e2 := h.tape.t; have e3 := h.output
 simp only at e1 e2 e3 hd
 rw [← hheap, e1, e2, e3]
 congr 1
 omega
theorem y7O {α : Type} [DecidableEq α] {P : Program} {f : FuncId} {e : TypeId} {k : Nat} {enc : α → List Value} (hk : ∀ x, (enc x).length = k) (h0 : 0 < k) (h1 : ∀ x, ∀ v ∈ enc x, v.oneCell' = true)
  (hS : ∀ (β : Type) [Inhabited β] (enc : β → List Value) (cf : β → β → Int) (g : Nat) (cb : Array Value) (_ : SWO (ltOf cf)) (blk off cap : Nat) (d0 : Array β) (w0 : World)
   (_ : ∀ args w, (callFunc g args).run P w = .ok (.enter g args) w) (_ : CmpLays P g cb enc k cf blk off d0.size w0) (_ : RowK enc k w0 blk off d0)
   (N a b limit : Nat) (d : Array β) (w : World), b - a < N → d0.size = d.size → SWK enc k w0 blk off d w → a ≤ b → b ≤ d.size → d.size < 4611686018427387904 → limit < 4611686018427387904 → Below (ltOf cf) a b d →
   Calls P f #[.slice (some ⟨blk, off, none⟩) d.size cap, .int .i64 a, .int .i64 b, .int .i64 limit, .func (.func g) #[] cb] w fun e w' => e = .returned (.tuple #[]) ∧ SWK enc k w0 blk off (pdq (ltOf cf) d a b limit true true) w')
  (hN : ∀ (p : Option Addr) (cap : Nat) (lim : Int) (fv : Value) (w : World), Calls P f #[.slice p 0 cap, .int .i64 0, .int .i64 0, .int .i64 lim, fv] w fun e w' => e = .returned (.tuple #[]) ∧ w' = w)
  {Z : Zp} {ao : Option Addr} {cap : Nat} {fid : FuncId} {caps : List Value} {l r : List α} {a b lim : Int} {p : α → α → Option Int} {w₀ : World}
  (hz : PZ (fps [row (.slice ao l.length cap) e k (l.flatMap enc)]) w₀ Z)
  (hcf : ∀ args w, (callFunc fid args).run P w = .ok (.enter fid args) w)
  (hf : ∀ w : World, PZ [] w Z → ∀ (x0 x1 : α) (r : Int), p x0 x1 = some r → Calls P fid (([.agg (enc x0).toArray, .agg (enc x1).toArray] : List Value) ++ caps).toArray w fun e w' => e = .returned (.int .i64 r) ∧ Hp [] w w' [])
  (hb : (a = 0 ∧ b = ((l.length : Nat) : Int)) ∧ (0 ≤ lim ∧ lim < 4611686018427387904 ∧ l.length < 4611686018427387904)) (ho : y7B p (y1k p l) = true) (hr : r = y1k p l)
  (hown : Hp (fps [row (.slice ao l.length cap) e k (l.flatMap enc)]) w₀ w₀ [row (.slice ao l.length cap) e k (l.flatMap enc)]) :
  Calls P f #[.slice ao l.length cap, .int .i64 a, .int .i64 b, .int .i64 lim, .func (.func fid) #[] caps.toArray] w₀ fun en w' => en = .returned (.tuple #[]) ∧ (r.length = l.length) ∧ Hp (fps [row (.slice ao l.length cap) e k (l.flatMap enc)]) w₀ w' [row (.slice ao r.length cap) e k (r.flatMap enc)] := by
 obtain ⟨⟨rfl, rfl⟩, hl1, hl2, hlen⟩ := hb
 have hrl : r.length = l.length := by rw [hr, ya0]
 by_cases hl0 : l.length = 0
 ·have : l = [] := List.eq_nil_of_length_eq_zero hl0
  subst this
  subst hr
  refine (hN ao cap lim _ w₀).mono ?_
  rintro en w' ⟨rfl, rfl⟩
  exact ⟨rfl, rfl, hown⟩
 obtain ⟨n, hcs, hv⟩ := hown.ok (row (.slice ao l.length cap) e k (l.flatMap enc)) (by simp)
 rcases hv with ⟨hv, hn⟩ | ⟨bb, cap', cur, hv, _, hh, hc1, hc2, hc3, hc4⟩
 ·injection hv with _ e2 _; omega
 injection hv with e1 e2 e3
 subst e1 e2 e3
 have hbk := hown.lt (row (.slice (some ⟨bb, 0, none⟩) l.length cap) e k (l.flatMap enc)) (by simp) bb (by simp [row, Value.ownBlock])
 -- the elements as a type of their own
 let β := {x : α // x ∈ l}
 haveI : Inhabited β := ⟨⟨l[0]'(by omega), List.getElem_mem _⟩⟩
 let encB : β → List Value := fun x => enc x.1
 let cf : β → β → Int := fun x y => cby p x.1 y.1
 have hmem : ∀ x : β, x.1 ∈ y1k p l := fun x => (y50 p l).mem_iff.2 x.2
 have hlt : ∀ x y : β, ltOf cf x y = true ↔ (y1k p l).idxOf x.1 < (y1k p l).idxOf y.1 := fun x y => by
  rw [← ybH ho (hmem x) (hmem y)]; simp [ltOf, cf]
 have hlf : ∀ x y : β, ltOf cf x y = false ↔ ¬ (y1k p l).idxOf x.1 < (y1k p l).idxOf y.1 := fun x y => by
  rw [← hlt x y]; cases ltOf cf x y <;> simp
 have hO : SWO (ltOf cf) := by
  refine ⟨fun x => ?_, fun x y z h1 h2 => ?_, fun x y z h1 h2 => ?_⟩
  ·rw [hlf]; omega
  ·rw [hlt] at h1 h2 ⊢; omega
  ·rw [hlf] at h1 h2 ⊢; omega
 have hU : ∀ x y : β, ltOf cf x y = false → ltOf cf y x = false → x = y := fun x y h1 h2 => by
  rw [hlf] at h1 h2
  have e1 : (y1k p l).idxOf x.1 = (y1k p l).idxOf y.1 := by omega
  apply Subtype.ext
  have ix := List.idxOf_lt_length_of_mem (hmem x)
  have iy := List.idxOf_lt_length_of_mem (hmem y)
  rw [← List.getElem_idxOf ix, ← List.getElem_idxOf iy]
  simp only [e1]
 let d : Array β := l.attach.toArray
 have hds : d.size = l.length := by show List.length l.attach = l.length; exact List.length_attach
 have hdl : d.toList.flatMap encB = l.flatMap enc := by
  show l.attach.flatMap (fun x => enc x.1) = _
  have h3 := congrArg (List.flatMap enc) (List.attach_map_subtype_val l)
  rw [List.flatMap_map] at h3
  exact h3
 have hfl : ∀ d : Array β, flatK encB k d = (d.toList.flatMap encB).toArray := fun d => flatK_eq (fun x => hk x.1) h0 d
 have hll : (l.flatMap enc).length = l.length * k := y6S hk l
 have hck : l.length * k ≤ cap * k := Nat.mul_le_mul_right k hc1
 have hcur : ∀ j, j < l.length * k → cur[j]? = (l.flatMap enc)[j]? := by
  intro j hj
  rw [← hc4, List.getElem?_take, if_pos (by omega)]
  simp
 have hH : HoldsK encB k w₀ bb 0 d := by
  intro j hj
  have hj' : j < l.length * k := by rw [size_flatK, hds] at hj; exact hj
  refine ⟨?_, ?_⟩
  ·rw [Nat.zero_add, cell_of_row w₀ bb j _ e (0, 0) hh, hcur j hj', getElem!_pos _ j hj]
   simp only [hfl, hdl, id, List.getElem_toArray]
   exact List.getElem?_eq_getElem (by omega)
  ·simp [World.frozen?, hh, Nat.zero_add]
 have hheap : ∀ (m : Nat) (os : Array Obj) (dk : Array β) (k' : Nat), (sortWorldK encB k w₀ bb 0 m dk os).heap[k']? = if k' = bb then some (.cells (putCells id 0 (flatK encB k dk) cur) e (0, 0)) else if k' < w₀.heap.size then w₀.heap[k']? else os[k' - w₀.heap.size]? := by
  intro m os dk k'
  simp only [sortWorldK, putRowK, grow, putRow, mapBlock, Sort.ahead, Array.getElem?_append, Array.size_modify, Array.getElem?_modify]
  by_cases hk : k' = bb
  ·subst hk
   have hh2 := (Array.getElem?_eq_some_iff.1 hh).2
   simp [hbk, hh2, onCells]
  ·have : ¬ bb = k' := fun h => hk h.symm
   simp [hk, this]
 have hsz : ∀ (m : Nat) (os : Array Obj) (dk : Array β), (sortWorldK encB k w₀ bb 0 m dk os).heap.size = w₀.heap.size + os.size := by
  intro m os dk
  simp [sortWorldK, putRowK, grow, putRow, mapBlock, Sort.ahead]
 have hZ : ∀ (m : Nat) (os : Array Obj) (dk : Array β), PZ [] (sortWorldK encB k w₀ bb 0 m dk os) Z := by
  intro m os dk
  refine ⟨pv_heap (w := w₀) (fun q hq => ?_) hz.1, fun _ _ => by simp⟩
  rw [hheap]
  have h3 : q.1 ≠ bb := by
   intro h4
   exact hz.2 q hq (by rw [h4]; simp [row, Value.ownBlock])
  rw [if_neg h3, if_pos (hz.1.lt q hq)]
 have hC : CmpLays P fid caps.toArray encB k cf bb 0 d.size w₀ := by
  intro m os dk hdk x y
  have h := hf _ (hZ m os dk) x.1 y.1 _ (ydV ho (hmem x) (hmem y))
  have ea : (([.agg (enc x.1).toArray, .agg (enc y.1).toArray] : List Value) ++ caps).toArray = #[.agg (encB x).toArray, .agg (encB y).toArray] ++ caps.toArray := by simp [encB]
  rw [ea] at h
  refine h.mono ?_
  rintro en w' ⟨rfl, hp⟩
  exact ⟨rfl, hp.asGrow⟩
 have hR : RowK encB k w₀ bb 0 d := ⟨fun x => hk x.1, fun x => h1 x.1, hH, hbk⟩
 have hlm : ((lim.toNat : Nat) : Int) = lim := Int.toNat_of_nonneg hl1
 have hc := hS β encB cf fid caps.toArray hO bb 0 cap d w₀ hcf hC hR (d.size + 1) 0 d.size lim.toNat d w₀ (by omega) rfl (SWK.start hH) (Nat.zero_le _) (Nat.le_refl _) (by omega) (by omega) (Or.inl rfl)
 rw [hlm, hds] at hc
 refine hc.mono ?_
 rintro en w' ⟨rfl, m, os, rfl⟩
 refine ⟨rfl, hrl, ?_⟩
 -- what the row holds now
 have hp := pdq_sorts (ltOf cf) hO d 0 d.size lim.toNat true true (Nat.zero_le _) (Nat.le_refl _) (Or.inl rfl)
 rw [hds] at hp
 generalize hd' : pdq (ltOf cf) d 0 l.length lim.toNat true true = d' at hp ⊢
 have hs' : d'.size = l.length := hp.1.1.trans hds
 have hu1 := sorted_unique_holds hO hU d d' (by rw [hds]; exact hp.1) (by rw [hds]; exact hp.2)
 have hperm : d'.toList.Perm l.attach := by rw [hu1]; exact (List.mergeSort_perm _ _)
 have hsorted : (d'.toList.map (·.1)) = r := by
  have hp1 : (d'.toList.map (·.1)).Perm (y1k p l) := by
   refine (hperm.map _).trans ?_
   rw [List.attach_map_subtype_val]
   exact (y50 p l).symm
  have hw1 : (d'.toList.map (·.1)).Pairwise fun x y => ¬ cby p y x < 0 := by
   rw [List.pairwise_map, List.pairwise_iff_getElem]
   intro i j hi hj hij
   have h3 := hp.2 i j (Nat.zero_le _) hij (by rw [← hs']; simpa using hj)
   rw [getElem!_pos d' j (by simpa using hj), getElem!_pos d' i (by simpa using hi)] at h3
   simpa [ltOf, cf] using h3
  have hw2 : (y1k p l).Pairwise fun x y => ¬ cby p y x < 0 := by
   have h3 := ho
   simp only [y7B, Bool.and_eq_true, List.all_eq_true, Bool.not_eq_true', decide_eq_false_iff_not, yba] at h3
   refine (List.Pairwise.imp_of_mem ?_ h3.2)
   intro x y hx hy hxy
   rcases hxy with rfl | hxy
   ·exact (h3.1 x hx).2
   ·exact hxy.2
  rw [hr]
  refine List.Perm.eq_of_pairwise (le := fun x y => ¬ cby p y x < 0) ?_ hw1 hw2 hp1
  intro x y hx hy h3 h4
  have hx' : x ∈ y1k p l := hp1.mem_iff.1 hx
  have hy' : y ∈ y1k p l := by first | exact hy | exact hp1.mem_iff.1 hy
  rw [ybH ho hy' hx'] at h3
  rw [ybH ho hx' hy'] at h4
  have ix := List.idxOf_lt_length_of_mem hx'
  have iy := List.idxOf_lt_length_of_mem hy'
  rw [← List.getElem_idxOf ix, ← List.getElem_idxOf iy]
  simp only [show (y1k p l).idxOf x = (y1k p l).idxOf y by omega]
 have hrf : flatK encB k d' = (r.flatMap enc).toArray := by
  rw [hfl, ← hsorted, List.flatMap_map]
 have hrk : r.length * k = l.length * k := by rw [hrl]
 have hrlen : (r.flatMap enc).length = r.length * k := y6S hk r
 refine ⟨rfl, ⟨rfl, by simp [sortWorldK, putRowK, grow, putRow, mapBlock, Sort.ahead]⟩, rfl, by rw [hsz]; omega, ?_, ?_, ?_, ?_, by simp⟩
 ·intro k' hk' hf
  rw [hheap]
  have : k' ≠ bb := by rintro rfl; exact hf (by simp [row, Value.ownBlock])
  simp [this, hk']
 ·intro x hx
  simp only [List.mem_singleton] at hx; subst hx
  refine ⟨r.length, hrlen, .inr ⟨bb, cap, putCells id 0 (flatK encB k d') cur, rfl, Nat.zero_le _, by rw [hheap]; simp, by omega, hc2, by simp [putCells]; omega, ?_⟩⟩
  apply List.ext_getElem?
  intro j
  rw [List.getElem?_take, hrf]
  by_cases hj : j < r.length * k
  ·rw [if_pos hj]
   have hjc : j < cur.size := by omega
   simp only [putCells, Array.getElem?_toList, Array.getElem?_mapIdx, Array.getElem?_eq_getElem hjc, Option.map_some]
   rw [if_pos ⟨Nat.zero_le _, by simp only [List.size_toArray]; omega⟩, Nat.sub_zero, getElem!_pos _ j (by simp only [List.size_toArray]; omega)]
   simp only [id, List.getElem_toArray]
   exact (List.getElem?_eq_getElem (by omega)).symm
  ·rw [if_neg hj, List.getElem?_eq_none (by omega)]
 ·intro x hx b' hb'
  simp only [List.mem_singleton] at hx; subst hx
  simp [row, Value.ownBlock] at hb'
  subst hb'
  rw [hsz]; omega
 ·intro x hx b' hb'
  simp only [List.mem_singleton] at hx; subst hx
  simp [row, Value.ownBlock] at hb'
  subst hb'
  exact .inl (by simp [row, Value.ownBlock])
end Sep

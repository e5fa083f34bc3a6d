/- A part of this claim's proof: owned slices as lists of data. No conditions. -/
import Derived.Test.YtcahmabkeaijdaaGreatSepMore
set_option linter.all false
set_option linter.unusedSectionVars false
namespace Sep
open Go Go.RowKit
variable [Rnd]
theorem y3z {b k : Nat} : (⟨b, 0, none⟩ : Addr).add k = ⟨b, k, none⟩ := by rw [Addr.add_lit, Nat.zero_add]
theorem yab {α : Type} {enc : α → List Value} {sz : Nat} (hl : ∀ x, (enc x).length = sz) : ∀ (l : List α) (i : Nat), i ≤ l.length → (l.flatMap enc).drop (i * sz) = (l.drop i).flatMap enc
 | _, 0, _ => by simp
 | [], i + 1, h => by simp at h
 | x :: l, i + 1, h => by
  rw [List.flatMap_cons, Nat.succ_mul, Nat.add_comm, ← hl x, ← List.drop_drop, List.drop_left, hl x]
  simpa using yab hl l i (by simpa using h)
theorem y8Q {α : Type} {enc : α → List Value} {sz : Nat} (hl : ∀ x, (enc x).length = sz) : ∀ (l : List α) (i : Nat), i ≤ l.length → (l.flatMap enc).take (i * sz) = (l.take i).flatMap enc
 | _, 0, _ => by simp
 | [], i + 1, h => by simp at h
 | x :: l, i + 1, h => by
  rw [List.flatMap_cons, Nat.succ_mul, Nat.add_comm, ← hl x, List.take_length_add_append, hl x, y8Q hl l i (by simpa using h)]
  simp
theorem y6S {α : Type} {enc : α → List Value} {sz : Nat} (hl : ∀ x, (enc x).length = sz) (l : List α) : (l.flatMap enc).length = l.length * sz := by
 induction l with
 | nil => simp
 | cons x l ih => rw [List.flatMap_cons, List.length_append, hl, ih, List.length_cons, Nat.succ_mul, Nat.add_comm]
theorem y2Q {α : Type} [Inhabited α] {enc : α → List Value} {sz : Nat} (hl : ∀ x, (enc x).length = sz) {l : List α} {i : Int} (h0 : 0 ≤ i) (h1 : i < l.length) :
  ∀ (j : Nat) (u : Value), (enc (nth l i))[j]? = some u → (l.flatMap enc)[i.toNat * sz + j]? = some u := by
 intro j u hu
 have hi : i.toNat < l.length := by omega
 rw [← List.getElem?_drop, yab hl l i.toNat (by omega), List.drop_eq_getElem_cons hi, List.flatMap_cons, y66 h0 h1]
 rw [List.getElem?_append_left (List.getElem?_eq_some_iff.1 hu).1]
 exact hu
theorem flat_put {α : Type} [Inhabited α] {enc : α → List Value} {sz : Nat} (hl : ∀ x, (enc x).length = sz) {l : List α} {i : Int} {y : α} {k : Nat} {vs : List Value} (h0 : 0 ≤ i) (h1 : i < l.length)
  (hy : y5b (enc (nth l i)) k vs = enc y) (hk : k + vs.length ≤ sz) : y5b (l.flatMap enc) (i.toNat * sz + k) vs = (l.set i.toNat y).flatMap enc := by
 have hi : i.toNat < l.length := by omega
 obtain ⟨m, rfl⟩ : ∃ m : Nat, i = m := ⟨i.toNat, by omega⟩
 simp only [Int.toNat_natCast] at *
 have e1 : l = l.take m ++ nth l (m : Int) :: l.drop (m + 1) := by
  rw [← y66 (Int.natCast_nonneg m) h1]
  simp
 have hlen : (l.take m).length = m := by simp; omega
 have e2 : l.set m y = l.take m ++ y :: l.drop (m + 1) := by
  rw [List.set_eq_take_append_cons_drop, if_pos hi]
 have e3 : ((l.take m).flatMap enc).length = m * sz := by rw [y6S hl, hlen]
 rw [e2, List.flatMap_append, List.flatMap_cons, ← hy]
 have e4 : l.flatMap enc = (l.take m).flatMap enc ++ (enc (nth l (m : Int)) ++ (l.drop (m + 1)).flatMap enc) := by
  conv => lhs; rw [e1, List.flatMap_append, List.flatMap_cons]
 rw [e4]
 unfold y5b
 have hz : (enc (nth l (m : Int))).length = sz := hl _
 rw [← e3, List.take_length_add_append, List.take_append_of_le_length (by omega), Nat.add_assoc, List.drop_length_add_append, List.drop_append_of_le_length (by omega)]
 simp [List.append_assoc]
def Keep (F : List Nat) (w w' : World) : Prop := w.heap.size ≤ w'.heap.size ∧ ∀ k, k < w.heap.size → k ∉ F → w'.heap[k]? = w.heap[k]?
theorem Keep.refl (F : List Nat) (w : World) : Keep F w w := ⟨Nat.le_refl _, fun _ _ _ => rfl⟩
theorem Keep.trans {F : List Nat} {a b c : World} (h : Keep F a b) (k : Keep [] b c) : Keep F a c :=
 ⟨Nat.le_trans h.1 k.1, fun i hi hf => (k.2 i (Nat.lt_of_lt_of_le hi h.1) (by simp)).trans (h.2 i hi hf)⟩
theorem y1L.keep {F : List Nat} {w w' : World} {A : Addr} {cs : List Value} (h : y1L F w A cs) (k : Keep F w w') : y1L [] w' A cs := by
 refine ⟨by simp, fun j u hu => ?_⟩
 have h1 := h.2 j u hu
 rw [← h1]
 refine World.cell?_of_block (k.2 _ (block_lt_of_cell h1) ?_)
 rw [Addr.y6h]; exact h.1
section
variable {P : Program} {n : Nat} {F : List Nat} {w₀ : World} {env : List (Nat × Value)} {L Lc Lr R : List Asrt} {ops : Array Oper} {Q : Exit → Act → World → Prop} {rest l : List Oper}
 {dd : Nat} {d : Option Tmp} {ty : TypeId} {pos : String} {after : Array Edge} {g : Option (Nat × Bool)} {x y : Operand} {v u : Value} {t e T : TypeId} {sz by_ : Nat}
theorem Hp.y2H {w : World} {ao : Option Addr} {m cap : Nat} {cs : List Value} (hm : Pick L (row (.slice ao m cap) e sz cs) R) (h : Hp F w₀ w L) (hne : m ≠ 0) : ∃ b, ao = some ⟨b, 0, none⟩ := by
 rcases (h.rowShape hm).2.2.2 with ⟨_, h0, _⟩ | h0
 ·exact absurd h0 hne
 ·exact h0
theorem yaV {b m cap i c : Nat} {ao : Option Addr} {cs ds : List Value} {z : Value} (ht : elT P t e sz by_) (hz : y2n P e z) (hx : eo env x = some (.slice ao (m - i) c))
  (hao : ao = (if cap = i then some ⟨b, 0, none⟩ else (some ⟨b, 0, none⟩ : Option Addr).map (·.add (i * sz)))) (hi : i ≤ m)
  (h1 : ∀ u ∈ (Builtin.zeroCells z.cells (m - i)).toList, u.oneCell' = true)
  (hm : Pick L (row (.slice (some ⟨b, 0, none⟩) m cap) e sz cs) R) (hds : cs.take (i * sz) ++ (Builtin.zeroCells z.cells (m - i)).toList = ds) :
  Ef0 P n F w₀ env L ⟨none, .call ⟨.builtin .clear, #[x], #[t]⟩, ty, pos, after, g⟩ (row (.slice (some ⟨b, 0, none⟩) m cap) e sz ds :: R) := by
 intro a w h
 obtain ⟨hcl, hmc, _, _⟩ := h.hp.rowShape hm
 obtain ⟨inf, z', hinf, hz', hsz, _, hzs⟩ := ht.inf
 have hzz : z = z' := by
  have := congrFun hz w
  simp [zeroValue, typeInfo, hinf, hz'] at this
  exact this.symm
 have hzl : (Builtin.zeroCells z.cells (m - i)).toList.length = (m - i) * sz := by rw [hzz]; simp [size_zeroCells, hzs]
 have hmi : m * sz = i * sz + (m - i) * sz := by rw [← Nat.add_mul]; congr 1; omega
 by_cases h0 : m - i = 0
 ·refine ⟨w, .inr ⟨.tuple #[], ?_⟩, ?_⟩
  ·have hx' : eo env x = some (.slice ao 0 c) := by rw [hx, h0]
   cases ao <;> simp [execOp, h.eval hx', resolve, invoke, builtin, Builtin.clear_, run_underlying ht.sl]
  ·have : ds = cs := by
    rw [← hds, h0]
    have : m = i := by omega
    subst this
    simp [Builtin.zeroCells, ← hcl]
   rw [this]; exact h.hp.front hm
 ·have hne : cap ≠ i := by omega
  simp only [hne, if_false, Option.map_some, y3z] at hao
  subst hao
  obtain ⟨w', hst, hp⟩ := h.hp.rowPut (P := P) (vs := (Builtin.zeroCells z.cells (m - i)).toList) (off := i * sz) h1 hm (by omega)
  refine ⟨w', .inr ⟨.tuple #[], ?_⟩, ?_⟩
  ·have hzr := congrFun hz w
   obtain ⟨j, hj⟩ : ∃ j, m - i = j + 1 := ⟨m - i - 1, by omega⟩
   rw [hj] at hx hst
   simp [execOp, h.eval hx, resolve, invoke, builtin, Builtin.clear_, run_underlying ht.sl, hzr, hst]
  ·have : y5b cs (i * sz) (Builtin.zeroCells z.cells (m - i)).toList = ds := by
    rw [← hds, y5b, List.drop_eq_nil_of_le (by omega), List.append_nil]
   rw [← this]; exact hp
theorem WL.rowHi {b m cap i : Nat} {hx' : Operand} {kk : IntKind} {q : Int} {cs : List Value} (hg : gd env ops ⟨some dd, .slice t x none (some hx') none, ty, pos, after, g⟩ = some true) (hdn : Nat.blt dd n = true)
  (ht : elT P t e sz by_) (hx : eo env x = some (.slice (some ⟨b, 0, none⟩) m cap)) (hh : eo env hx' = some (.int kk q)) (hm : Pick L (row (.slice (some ⟨b, 0, none⟩) m cap) e sz cs) R) (hq : q = i) (hi : i ≤ m)
  (k : WL P n F w₀ ops Q rest ((dd, .slice (some ⟨b, 0, none⟩) i cap) :: env) (row (.slice (some ⟨b, 0, none⟩) i cap) e sz (cs.take (i * sz)) :: R)) :
  WL P n F w₀ ops Q (⟨some dd, .slice t x none (some hx') none, ty, pos, after, g⟩ :: rest) env L := by
 refine WL.know (fun w h => h.rowShape hm) fun hs => ?_
 obtain ⟨hcl, hmc, hcm, _⟩ := hs
 have hv : (if cap = 0 then (some ⟨b, 0, none⟩ : Option Addr) else (some ⟨b, 0, none⟩ : Option Addr).map (·.add (0 * sz))) = some ⟨b, 0, none⟩ := by split <;> simp [Addr.add]
 refine WL.a hg rfl hdn (y6j (lo := 0) (hi := i) ht hx (lv := none) (hv := some (.int kk q)) (fun _ _ _ => rfl) (fun a w h => by rw [Option.map_some, h.eval hh]) rfl hq (by omega) (by omega) (by simp)) ?_
 rw [hv, Nat.sub_zero, Nat.sub_zero]
 intro a w h
 refine k a w (h.world ((h.hp.front hm).upd (x := row (.slice (some ⟨b, 0, none⟩) m cap) e sz cs) (y := row (.slice (some ⟨b, 0, none⟩) i cap) e sz (cs.take (i * sz))) .here rfl ⟨rfl, Nat.le_refl _⟩ rfl (Nat.le_refl _) (fun _ _ _ => rfl) ?_ ?_))
 ·obtain ⟨m', hown⟩ := h.hp.ok _ hm.mem
  rcases hown.2 with ⟨hv', _⟩ | ⟨b0, cap', cur, hv', hb0, hh', hc1, hc2, hc3, hc4⟩
  ·cases hv'
  injection hv' with e1 e2 e3
  injection e1 with e1
  injection e1 with e1
  subst e1 e2 e3
  have hmi : i * sz ≤ m * sz := Nat.mul_le_mul_right _ hi
  refine ⟨i, by simp; omega, .inr ⟨b, cap, cur, rfl, hb0, hh', by omega, hc2, hc3, ?_⟩⟩
  rw [← hc4, List.take_take]; congr 1; omega
 ·intro b' hb'
  simp [row, Value.ownBlock] at hb'
  subst hb'
  have := h.hp.lt _ hm.mem b' (by simp [row, Value.ownBlock])
  exact ⟨this, .inl (by simp [row, Value.ownBlock])⟩
end
end Sep

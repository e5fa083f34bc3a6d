/- A part of this claim's proof: models of functions, walks, plain laws. No conditions. -/
import Derived.Test.YtjdnejbngloieaaDoorZObj
namespace Sep
open Go Go.RowKit
set_option linter.all false
/-! ### 'm[k] op= v': the entry is made sure of, and stored to by its stamp -/
section ent
variable {κ α : Type} [DecidableEq κ]
variable [Rnd]
variable {P : Program} {n : Nat} {F : List Nat} {w₀ : World} {env : List (Nat × Value)} {L R : List Asrt} {d : Option Tmp} {ty : TypeId} {pos : String} {after : Array Edge} {g : Option (Nat × Bool)} {x y z : Operand} {t kt e : TypeId}
 {ek : κ → Value} {ev : α → Value} {l : List (κ × α)} {b : Nat} {k : κ} {v dflt : α} {zv : Value}
end ent
section app
variable [Rnd] {F : List Nat} {w₀ : World} {L : List Asrt} {Z : Zp}
theorem ZS.news {α : Type} {Pr : List Value → α → Prop} {sz : Nat} {ao : Option Addr} {cap : Nat} {l : List α} (h : ZS Z sz Pr ao cap l) :
  ∃ cs, RR sz Pr cs l ∧ ∀ L F w₀, PV F w₀ L Z → ∀ w, Hp F w₀ w L → cs ≠ [] → ∃ A, ao = some A ∧ ∀ j u, cs[j]? = some u → w.cell? (A.add j) = some u := by
 obtain ⟨h1, h2, cs, h3, h4⟩ := h
 refine ⟨cs, h3, fun L F w₀ pv w hw hne => ?_⟩
 obtain ⟨A, hA, hc⟩ := h4 (by
  rintro rfl
  have := h3.len
  simp only [List.length_nil, Nat.zero_mul] at this
  exact hne (List.eq_nil_of_length_eq_zero this))
 exact ⟨A, hA, hc w (pv w hw)⟩
theorem RR.store {α : Type} [Inhabited α] {Pr : List Value → α → Prop} {sz : Nat} {cs r tl vs : List Value} {l : List α} {i : Int} {y : α} {k : Nat} (h : RR sz Pr cs l) (h0 : 0 ≤ i) (h1 : i < l.length) (hd : cs.drop (i.toNat * sz) = r ++ tl) (hr : r.length = sz)
  (hk : k + vs.length ≤ sz) (hP : Pr (y1V r k vs) y) : RR sz Pr (y1V cs (i.toNat * sz + k) vs) (l.set i.toNat y) ∧ i.toNat * sz + k + vs.length ≤ cs.length := by
 have hlen := h.len
 have hi : i.toNat < l.length := by omega
 have hle : (i.toNat + 1) * sz ≤ l.length * sz := Nat.mul_le_mul_right _ (by omega)
 rw [Nat.succ_mul] at hle
 obtain ⟨rows, a1, a2, a3, a4⟩ := h
 have hfit : i.toNat * sz + k + vs.length ≤ cs.length := by omega
 refine ⟨⟨rows.set i.toNat (y1V r k vs), ?_, ?_, by simp [a3], ?_⟩, hfit⟩
 ·have hir : i.toNat < rows.length := by omega
  have e1 : rows = rows.take i.toNat ++ rows[i.toNat] :: rows.drop (i.toNat + 1) := by
   rw [List.getElem_cons_drop, List.take_append_drop]
  have e2 : (rows.take i.toNat).flatten.length = i.toNat * sz := by
   have : ∀ (rs : List (List Value)), (∀ r ∈ rs, r.length = sz) → rs.flatten.length = rs.length * sz := by
    intro rs
    induction rs with
    | nil => simp
    | cons r rs ih => intro hh; rw [List.flatten_cons, List.length_append, hh r (by simp), ih (fun r hr => hh r (List.mem_cons_of_mem _ hr)), List.length_cons, Nat.succ_mul, Nat.add_comm]
   rw [this _ (fun r hr => a2 r (List.mem_of_mem_take hr)), List.length_take, Nat.min_eq_left (by omega)]
  have e3 : cs = (rows.take i.toNat).flatten ++ (rows[i.toNat] ++ (rows.drop (i.toNat + 1)).flatten) := by
   rw [← a1]
   have := congrArg List.flatten e1
   rw [List.flatten_append, List.flatten_cons] at this
   exact this
  have e4 : cs.drop (i.toNat * sz) = rows[i.toNat] ++ (rows.drop (i.toNat + 1)).flatten := by
   rw [e3, ← e2, List.drop_left]
  rw [e4] at hd
  have e5 : rows[i.toNat] = r ∧ (rows.drop (i.toNat + 1)).flatten = tl := List.append_inj hd (by rw [a2 _ (List.getElem_mem hir), hr])
  rw [List.set_eq_take_append_cons_drop, if_pos hir, List.flatten_append, List.flatten_cons]
  rw [e3, e5.1]
  unfold y1V
  rw [← e2]
  generalize (rows.take i.toNat).flatten = A
  generalize (rows.drop (i.toNat + 1)).flatten = B
  have t1 : (A ++ (r ++ B)).take (A.length + k) = A ++ r.take k := by
   rw [List.take_length_add_append, List.take_append_of_le_length (by omega)]
  have t2 : (A ++ (r ++ B)).drop (A.length + k + vs.length) = r.drop (k + vs.length) ++ B := by
   rw [Nat.add_assoc, List.drop_length_add_append, List.drop_append_of_le_length (by omega)]
  rw [t1, t2]
  simp only [List.append_assoc]
 ·intro r' hr'
  rcases List.mem_or_eq_of_mem_set hr' with h' | rfl
  ·exact a2 _ h'
  ·unfold y1V; simp; omega
 ·intro j r' x hr' hx
  rw [List.getElem?_set] at hr' hx
  by_cases hj : i.toNat = j
  ·subst hj
   rw [if_pos rfl] at hr' hx
   rw [if_pos (by omega)] at hr' hx
   simp at hr' hx
   subst hr' hx
   exact hP
  ·rw [if_neg hj] at hr' hx
   exact a4 _ _ _ hr' hx
end app
end Sep

/- A part of this claim's proof: models of functions, walks, plain laws. No conditions. -/
import Derived.Test.YtjdnejbngloieaaDoorZScope
namespace Sep
open Go Go.RowKit
set_option linter.all false
/-! ### arrays at an index that is not known; tables of functions; strings -/
def sw {R : Type} : List (Int × Option R) → Int → Option R
 | [], _ => none
 | p :: l, i => if i = p.1 then p.2 else sw l i
theorem yL {R : Type} {k : Int} {t : Option R} {l : List (Int × Option R)} {i : Int} {r : R} (h : sw ((k, t) :: l) i = some r) : (i = k ∧ t = some r) ∨ sw l i = some r := by
 unfold sw at h
 by_cases e : i = k
 ·rw [if_pos e] at h; exact .inl ⟨e, h⟩
 ·rw [if_neg e] at h; exact .inr h
def y35 (s : ByteArray) (i : Int) : Int := ((s[i.toNat]?.getD 0).toNat : Int)
structure arT (P : Program) (t e : TypeId) (len sz : Nat) : Prop where
 un : P.underlying t = some (.array len e)
 sz : ∀ w, (Go.sizeOf e).run P w = .ok sz w
theorem y6g {P : Program} {t e : TypeId} {len sz : Nat} {inf : TypeInfo} (h : P.underlying t = some (.array len e)) (hi : P.info? e = some inf) (hz : inf.zero.isSome = true) (hs : inf.size = sz) : arT P t e len sz :=
 ⟨h, fun w => by
  obtain ⟨z, hz⟩ := Option.isSome_iff_exists.1 hz
  simp [Go.sizeOf, typeInfo, hi, hs]⟩
theorem map_nth {α β : Type} [Inhabited α] {l : List α} {n : Nat} (f : α → β) (h : l.length = n) : l.map f = (List.range n).map fun j : Nat => f (nth l (j : Int)) := by
 subst h
 apply List.ext_getElem
 ·simp
 ·intro i h1 h2
  rw [List.getElem_map, List.getElem_map, List.getElem_range]
  congr 1
  have : i < l.length := by simpa using h1
  rw [← y23 (l := l) (i := (i : Int)) (by omega) (by omega)]
  simp
section
variable [Rnd]
variable {P : Program} {n : Nat} {F : List Nat} {w₀ : World} {env : List (Nat × Value)} {L R : List Asrt} {ops : Array Oper} {Q : Exit → Act → World → Prop} {rest : List Oper}
 {dd : Nat} {d : Option Tmp} {ty : TypeId} {pos : String} {after : Array Edge} {g : Option (Nat × Bool)} {x y c : Operand} {v u : Value} {t e T : TypeId} {sz len : Nat} {Z : Zp}
theorem y4m {A A' : Addr} {k : IntKind} {i : Int} (ht : arT P t e len sz) (hx : eo env x = some (.pointer (some A))) (hy : eo env y = some (.int k i)) (h0 : 0 ≤ i ∧ i < (len : Int)) (hA : A.add (i.toNat * sz) = A') :
  Qt P n F w₀ env L ⟨d, .indexAddr t x y, ty, pos, after, g⟩ (.pointer (some A')) := by
 intro a w h
 subst hA
 simp [execOp, h.eval hx, h.eval hy, Instr.indexAt, run_underlying ht.un, asIntOf, Instr.sureAddr, h0.1, h0.2, ht.sz]
theorem add_base {b k m : Nat} : (⟨b, k, none⟩ : Addr).add m = (⟨b, 0, none⟩ : Addr).add (k + m) := by rw [Addr.add_lit, Addr.add_lit, Nat.zero_add]
theorem y87 {b k m : Nat} : (⟨b, k, none⟩ : Addr).add (m * 1) = (⟨b, 0, none⟩ : Addr).add (k + m) := by rw [Nat.mul_one]; exact add_base
theorem add_z1 {A : Addr} {k m : Nat} : (A.add k).add (m * 1) = A.add (k + m) := by rw [Nat.mul_one, Addr.y3y]
theorem get_arr {α : Type} [Inhabited α] {cs : List Value} {l : List α} {f : α → Value} {i : Int} {k m : Nat} (hcs : cs = cs.take k ++ (l.map f ++ cs.drop m)) (hk : (cs.take k).length = k) (h0 : 0 ≤ i ∧ i < (l.length : Int)) : cs[k + i.toNat]? = some (f (nth l i)) := by
 rw [hcs, List.getElem?_append_right (by omega), hk, Nat.add_sub_cancel_left, List.getElem?_append_left (by rw [List.length_map]; omega), List.getElem?_map, List.getElem?_eq_getElem (by omega), y23 h0.1 h0.2]
 rfl
theorem y1Q {α : Type} [Inhabited α] {b : Nat} {cs : List Value} {l : List α} {f : α → Value} {i : Int} {k m : Nat} (hm : Pick L (stb b T cs) R) (hcs : cs = cs.take k ++ (l.map f ++ cs.drop m)) (hk : (cs.take k).length = k) (h0 : 0 ≤ i ∧ i < (l.length : Int)) :
  ∀ w, Hp F w₀ w L → w.cell? ((⟨b, 0, none⟩ : Addr).add (k + i.toNat)) = some (f (nth l i)) := by
 intro w h
 rw [Addr.add_lit, Nat.zero_add]
 exact yi hm (get_arr hcs hk h0) w h
theorem putL_arr {A B l : List Value} {u : Value} {i : Nat} (hi : i < l.length) : y1V (A ++ (l ++ B)) (A.length + i) [u] = A ++ (l.set i u ++ B) := by
 unfold y1V
 rw [List.take_length_add_append, List.take_append_of_le_length (by omega)]
 have : A.length + i + [u].length = A.length + (i + 1) := by simp only [List.length_singleton]; omega
 rw [this, List.drop_length_add_append, List.drop_append_of_le_length (by omega), List.set_eq_take_append_cons_drop, if_pos hi]
 simp
theorem y3B {α : Type} [Inhabited α] {b : Nat} {cs ds : List Value} {l : List α} {f : α → Value} {u : α} {i : Int} {k m j : Nat} (hT : y3x P t 1) (hx : eo env x = some (.pointer (some ((⟨b, 0, none⟩ : Addr).add (k + i.toNat))))) (hy : eo env y = some (f u)) (hv : (f u).cells = #[f u])
  (h1 : (f u).oneCell' = true) (hm : Pick L (stb b T cs) R) (hcs : cs = cs.take k ++ (l.map f ++ cs.drop m)) (hk : (cs.take k).length = k) (h0 : 0 ≤ i ∧ i < (l.length : Int)) (hj : l.length = j)
  (hds : ds = cs.take k ++ ((List.range j).map (fun q : Nat => f (nth (l.set i.toNat u) (q : Int))) ++ cs.drop m)) :
  Ef0 P n F w₀ env L ⟨none, .store t x y, ty, pos, after, g⟩ (stb b T ds :: R) := by
 rw [Addr.add_lit, Nat.zero_add] at hx
 refine y6q (vs := [f u]) hT hx hy (by rw [hv]) rfl (fun q hq => by rw [List.mem_singleton.1 hq]; exact h1) hm ?_ ?_
 ·have : cs.length = k + (l.length + (cs.drop m).length) := by
   conv => lhs; rw [hcs]
   rw [List.length_append, List.length_append, List.length_map, hk]
  omega
 ·rw [hds, ← map_nth f (by rw [List.length_set]; exact hj), List.map_set]
  have := putL_arr (A := cs.take k) (B := cs.drop m) (l := l.map f) (u := f u) (i := i.toNat) (by rw [List.length_map]; omega)
  rw [← hcs, hk] at this
  exact this
theorem WL.gnth {α : Type} [Inhabited α] {Pr : List Value → α → Prop} {ls : List α} {A0 : Addr} {cap : Nat} {kk : IntKind} {i : Int} (hg : gd env ops ⟨some dd, .indexAddr t x y, ty, pos, after, g⟩ = some true) (hdn : Nat.blt dd n = true)
  (ht : arT P t e ls.length sz) (hx : eo env x = some (.pointer (some A0))) (hy : eo env y = some (.int kk i)) (hs : ZS Z sz Pr (some A0) cap ls) (h01 : 0 ≤ i ∧ i < ls.length)
  (k : ∀ A r, ZC Z A r → r.length = sz → Pr r (Sep.nth ls i) → WL P n F w₀ ops Q rest ((dd, .pointer (some A)) :: env) L) :
  WL P n F w₀ ops Q (⟨some dd, .indexAddr t x y, ty, pos, after, g⟩ :: rest) env L := by
 obtain ⟨A, r, hA, hc, hl, hp⟩ := hs.elem h01.1 h01.2
 cases hA
 exact WL.a hg rfl hdn (y4m ht hx hy h01 rfl) (k _ r hc hl hp)
theorem y14 {A : Addr} {cs : List Value} {i : Int} {k : Int} (pv : PV F w₀ L Z) (hc : ZC Z A cs) (he : i = k) (hv : cs[k.toNat]? = some v) : ∀ w, Hp F w₀ w L → w.cell? (A.add (i.toNat * 1)) = some v := by
 subst he
 rw [Nat.mul_one]
 exact y3z pv hc hv
end
end Sep

/- A part of this claim's proof: models of functions, walks, plain laws. No conditions. -/
import Derived.Test.YtjdnejbngloieaaDoorZArr
namespace Sep
open Go Go.RowKit
set_option linter.all false
section
variable {P : Program} {n : Nat} {F : List Nat} {w₀ : World} {env : List (Nat × Value)} {L R : List Asrt} {Q : Exit → Act → World → Prop} {ops : Array Oper} {rest : List Oper}
 {dd : Nat} {d : Option Tmp} {ty : TypeId} {pos : String} {after : Array Edge} {g : Option (Nat × Bool)} {x y : Operand} {t e : TypeId} {sz by_ : Nat} {Z : Zp}
theorem q_lenStr {s : ByteArray} (ht : P.underlying t = some .string) (hx : eo env x = some (.string s)) :
  Qt P n F w₀ env L ⟨d, .call ⟨.builtin .len, #[x], #[t]⟩, ty, pos, after, g⟩ (.int .i64 ((s.size : Nat) : Int)) := by
 intro a w h
 simp [execOp, h.eval hx, resolve, invoke, builtin, Builtin.len_, run_underlying ht, goInt]
theorem y7Q {s : ByteArray} {kk : IntKind} {i : Int} (ht : P.underlying t = some .string) (hx : eo env x = some (.string s)) (hy : eo env y = some (.int kk i)) (h0 : 0 ≤ i ∧ i < ((s.size : Nat) : Int)) :
  Qt P n F w₀ env L ⟨d, .index t x y, ty, pos, after, g⟩ (.int .u8 (y35 s i)) := by
 intro a w h
 have hn : i.toNat < s.size := by omega
 simp [execOp, h.eval hx, h.eval hy, Instr.index, run_underlying ht, asIntOf, h0.1, hn, y35]
theorem y78 {ao : Option Addr} {m cap k : Nat} {kk : IntKind} {i : Int} (ht : elT P t e sz by_) (hx : eo env x = some (.slice ao m cap)) (hy : eo env y = some (.int kk i)) (hi : i = (k : Int)) (hc : k ≤ cap) :
  Qt P n F w₀ env L ⟨d, .slice t x none (some y) none, ty, pos, after, g⟩ (.slice ao k cap) := by
 have h := y3H (P := P) (n := n) (F := F) (w₀ := w₀) (env := env) (L := L) (d := d) (ty := ty) (pos := pos) (after := after) (g := g) (t := t) (x := x) (lx := none) (hx' := some y) (lo := 0) (hi := k) ht hx (lv := none) (hv := some (.int kk i)) (fun _ _ _ => rfl) (fun a w h => by rw [Option.map_some, h.eval hy]) rfl hi (Nat.zero_le _) hc (fun h => by cases h)
 have e1 : (if cap = 0 then ao else ao.map (·.add (0 * sz))) = ao := by
  split
  ·rfl
  ·cases ao <;> simp [Addr.add]
 rw [e1] at h
 simpa using h
theorem y7R {α : Type} {i : Int} {l : List α} (h : 0 ≤ i ∧ i ≤ ((l.length : Nat) : Int)) : i = (((l.take i.toNat).length : Nat) : Int) := by rw [List.length_take]; omega
theorem WL.capOf {l : List Oper} {ao : Option Addr} {m cap : Nat} {cs : List Value} (hm : Pick L (row (.slice ao m cap) e sz cs) R) (k : m ≤ cap → WL P n F w₀ ops Q l env L) : WL P n F w₀ ops Q l env L :=
 WL.know (fun w h => h.rowShape hm) fun hs => k hs.2.1
theorem ZS.takeK {α : Type} {Pr : List Value → α → Prop} {ao : Option Addr} {cap : Nat} {l : List α} (h : ZS Z sz Pr ao cap l) (k : Nat) : ZS Z sz Pr ao cap (l.take k) := by
 obtain ⟨h1, h2, cs, ⟨rows, hr, h3, h4, h5⟩, h6⟩ := h
 refine ⟨by rw [List.length_take]; omega, h2, (rows.take k).flatten, ⟨rows.take k, rfl, fun r hr => h3 r (List.mem_of_mem_take hr), by simp [h4], fun i r x hi hx => ?_⟩, fun hne => ?_⟩
 ·rw [List.getElem?_take] at hi hx
  split at hi
  ·rename_i hlt; rw [if_pos hlt] at hx; exact h5 i r x hi hx
  ·cases hi
 ·obtain ⟨A, hA, hc⟩ := h6 (by rintro rfl; simp at hne)
  refine ⟨A, hA, fun w hw j u hu => hc w hw j u ?_⟩
  rw [← hr]
  have : rows.flatten = (rows.take k).flatten ++ (rows.drop k).flatten := by rw [← List.flatten_append, List.take_append_drop]
  rw [this, List.getElem?_append_left (List.getElem?_eq_some_iff.1 hu).1]
  exact hu
end
end Sep

/- A part of this claim's proof: models of functions, walks, plain laws. No conditions. -/
import Derived.Test.YtcahmabkeaijdaaGreatZMap
import Derived.Lib.AppendZeros
namespace Sep
open Go Go.RowKit
set_option linter.all false
variable [Rnd] {P : Program} {n : Nat} {F : List Nat} {w₀ : World} {env : List (Nat × Value)} {L Lc Lr R : List Asrt} {ops : Array Oper} {Q : Exit → Act → World → Prop} {rest l : List Oper}
 {dd : Nat} {d : Option Tmp} {ty : TypeId} {pos : String} {after : Array Edge} {g : Option (Nat × Bool)} {x y : Operand} {v u : Value} {t e T : TypeId} {sz by_ : Nat}
theorem yb8 {b sz : Nat} {o j : Int} (h0 : 0 ≤ o) (h1 : 0 ≤ j) : (⟨b, o.toNat * sz, none⟩ : Addr).add (j.toNat * sz) = ⟨b, (o + j).toNat * sz, none⟩ := by
 rw [Addr.add_lit, ← Nat.add_mul, Int.toNat_add h0 h1]
theorem WL.ydU {α : Type} {ls : List α} {b : Nat} {cs : List Value} {cap : Nat} {i : Int} {lx : Operand} {kk : IntKind} (hg : gd env ops ⟨some dd, .slice t x (some lx) none none, ty, pos, after, g⟩ = some true) (hdn : Nat.blt dd n = true)
  (ht : elT P t e sz by_) (hx : eo env x = some (.slice (some ⟨b, 0, none⟩) ls.length cap)) (hh : eo env lx = some (.int kk i)) (hm : Pick L (row (.slice (some ⟨b, 0, none⟩) ls.length cap) e sz cs) R) (hi : 0 ≤ i ∧ i < ls.length)
  (k : WL P n F w₀ ops Q rest ((dd, .slice (some ⟨b, i.toNat * sz, none⟩) (ls.length - i.toNat) (cap - i.toNat)) :: env) L) :
  WL P n F w₀ ops Q (⟨some dd, .slice t x (some lx) none none, ty, pos, after, g⟩ :: rest) env L := by
 refine WL.know (fun w h => h.rowShape hm) fun hs => ?_
 obtain ⟨hcl, hmc, hcm, _⟩ := hs
 refine WL.a (n := n) hg rfl hdn (y6j (lo := i.toNat) (hi := ls.length) ht hx (lv := some (.int kk i)) (hv := none) (fun a w h => by rw [Option.map_some, h.eval hh]) (fun _ _ _ => rfl) (show i = ((i.toNat : Nat) : Int) by omega) rfl (by omega) hmc (fun _ => hmc)) ?_
 rw [if_neg (by omega), Option.map_some, Addr.add_lit, Nat.zero_add]
 exact k
end Sep

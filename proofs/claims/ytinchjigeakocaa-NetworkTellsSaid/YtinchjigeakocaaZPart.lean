/- A part of this claim's proof: models of functions, walks, plain laws. No conditions. -/
import Derived.Test.YtinchjigeakocaaZMap
import Derived.Lib.AppendZeros
namespace Sep
open Go Go.RowKit
set_option linter.all false
variable [Rnd] {P : Program} {n : Nat} {F : List Nat} {w₀ : World} {env : List (Nat × Value)} {L Lc Lr R : List Asrt} {ops : Array Oper} {Q : Exit → Act → World → Prop} {rest l : List Oper}
 {dd : Nat} {d : Option Tmp} {ty : TypeId} {pos : String} {after : Array Edge} {g : Option (Nat × Bool)} {x y : Operand} {v u : Value} {t e T : TypeId} {sz by_ : Nat}
theorem rd_rowp {b len cap off k s : Nat} {cs r ds : List Value} (hm : Pick L (row (.slice (some ⟨b, 0, none⟩) len cap) e sz cs) R) (hv : ∀ j u, r[j]? = some u → cs[off + j]? = some u) (hd : (r.drop k).take s = ds) :
  ∀ w, Hp F w₀ w L → ∀ j u, ds[j]? = some u → w.cell? ((⟨b, off + k, none⟩ : Addr).add j) = some u := by
 subst hd
 refine y1U hm (fun j u hu => ?_)
 rw [List.getElem?_take] at hu
 split at hu
 ·rw [List.getElem?_drop] at hu
  have := hv _ u hu
  rwa [← Nat.add_assoc] at this
 ·cases hu
end Sep

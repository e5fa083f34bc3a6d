/- A part of this claim's proof: what quiet operations yield. No conditions. -/
import Derived.Test.YtcahmabkeaijdaaGreatSepDraw
set_option linter.all false
set_option linter.unusedSectionVars false
namespace Sep
open Go Go.RowKit
variable [Rnd]
def Qt (P : Program) (n : Nat) (F : List Nat) (w₀ : World) (env : List (Nat × Value)) (L : List Asrt) (o : Oper) (v : Value) : Prop :=
 ∀ a w, SS n F w₀ env L a w → (execOp a.eval o).run P w = .ok (.value v) w
section
variable {P : Program} {n : Nat} {F : List Nat} {w₀ : World} {env : List (Nat × Value)} {L : List Asrt}
 {d : Option Tmp} {ty : TypeId} {pos : String} {after : Array Edge} {g : Option (Nat × Bool)} {x y c : Operand} {v u : Value}
theorem q_m (hx : eo env x = some v) : Qt P n F w₀ env L ⟨d, .move x, ty, pos, after, g⟩ v := by
 intro a w h; simp [execOp, h.eval hx]
theorem q_z (hx : eo env x = some v) : Qt P n F w₀ env L ⟨d, .assign x, ty, pos, after, g⟩ v := by
 intro a w h; simp [execOp, h.eval hx]
theorem y2y (hc : eo env c = some (.bool true)) (hx : eo env x = some v) : Qt P n F w₀ env L ⟨d, .pick c x y, ty, pos, after, g⟩ v := by
 intro a w h; simp [execOp, h.eval hc, h.eval hx, asBool]
theorem y2z (hc : eo env c = some (.bool false)) (hy : eo env y = some v) : Qt P n F w₀ env L ⟨d, .pick c x y, ty, pos, after, g⟩ v := by
 intro a w h; simp [execOp, h.eval hc, h.eval hy, asBool]
theorem yV {p : Addr} (hx : eo env x = some (.pointer (some p))) : Qt P n F w₀ env L ⟨d, .nilCheck x, ty, pos, after, g⟩ (.pointer (some p)) := by
 intro a w h; simp [execOp, h.eval hx]
theorem y70 {i : Nat} {vs : List Value} (hx : eo env x = some (.tuple vs.toArray)) (hi : vs[i]? = some v) : Qt P n F w₀ env L ⟨d, .extract x i, ty, pos, after, g⟩ v := by
 intro a w h; simp [execOp, h.eval hx, Instr.extract, hi]
/-! integers -/
variable {k k' : IntKind} {p q r : Int} {t t' : TypeId}
theorem yaF (hx : eo env x = some (.int k p)) (hy : eo env y = some (.int k q)) (hw : k.wrap (p + q) = r) : Qt P n F w₀ env L ⟨d, .binOp .add t x y t', ty, pos, after, g⟩ (.int k r) := by
 intro a w h; simp [execOp, h.eval hx, h.eval hy, binOp_add, eqGuard_add, Op.intArith, hw]
theorem ybj (hx : eo env x = some (.int k p)) (hy : eo env y = some (.int k q)) (hw : k.wrap (p - q) = r) : Qt P n F w₀ env L ⟨d, .binOp .sub t x y t', ty, pos, after, g⟩ (.int k r) := by
 intro a w h; simp [execOp, h.eval hx, h.eval hy, binOp_sub, eqGuard_sub, Op.intArith, hw]
theorem y6g (hx : eo env x = some (.int k p)) (hy : eo env y = some (.int k q)) (hw : k.wrap (p * q) = r) : Qt P n F w₀ env L ⟨d, .binOp .mul t x y t', ty, pos, after, g⟩ (.int k r) := by
 intro a w h; simp [execOp, h.eval hx, h.eval hy, binOp_mul, eqGuard_mul, Op.intArith, hw]
theorem q_quo (hx : eo env x = some (.int k p)) (hy : eo env y = some (.int k q)) (h0 : q ≠ 0) (hw : k.wrap (p.tdiv q) = r) : Qt P n F w₀ env L ⟨d, .binOp .quo t x y t', ty, pos, after, g⟩ (.int k r) := by
 intro a w h; simp [execOp, h.eval hx, h.eval hy, binOp_quo, eqGuard_quo, Op.intDiv, hw, h0]
theorem q_rem (hx : eo env x = some (.int k p)) (hy : eo env y = some (.int k q)) (h0 : q ≠ 0) (hw : p.tmod q = r) : Qt P n F w₀ env L ⟨d, .binOp .rem t x y t', ty, pos, after, g⟩ (.int k r) := by
 intro a w h; simp [execOp, h.eval hx, h.eval hy, binOp_rem, eqGuard_rem, Op.intDiv, hw, h0]
theorem q_lss (hx : eo env x = some (.int k p)) (hy : eo env y = some (.int k q)) : Qt P n F w₀ env L ⟨d, .binOp .lss t x y t', ty, pos, after, g⟩ (.bool (decide (p < q))) := by
 intro a w h; simp [execOp, h.eval hx, h.eval hy, binOp_lss, eqGuard_lss]
theorem q_leq (hx : eo env x = some (.int k p)) (hy : eo env y = some (.int k q)) : Qt P n F w₀ env L ⟨d, .binOp .leq t x y t', ty, pos, after, g⟩ (.bool (decide (p ≤ q))) := by
 intro a w h; simp [execOp, h.eval hx, h.eval hy, binOp_leq, eqGuard_leq]
theorem yaG (hx : eo env x = some (.int k p)) (hy : eo env y = some (.int k q)) : Qt P n F w₀ env L ⟨d, .binOp .gtr t x y t', ty, pos, after, g⟩ (.bool (decide (p > q))) := by
 intro a w h; simp [execOp, h.eval hx, h.eval hy, binOp_gtr, eqGuard_gtr]
theorem q_geq (hx : eo env x = some (.int k p)) (hy : eo env y = some (.int k q)) : Qt P n F w₀ env L ⟨d, .binOp .geq t x y t', ty, pos, after, g⟩ (.bool (decide (p ≥ q))) := by
 intro a w h; simp [execOp, h.eval hx, h.eval hy, binOp_geq, eqGuard_geq]
theorem y8e (hx : eo env x = some (.int k p)) (hy : eo env y = some (.int k q)) : Qt P n F w₀ env L ⟨d, .binOp .eql t x y t', ty, pos, after, g⟩ (.bool (decide (p = q))) := by
 intro a w h; simp only [execOp, h.eval hx, h.eval hy, binOp_eql, eqGuard_at_int]; rw [show (p == q) = decide (p = q) from by by_cases e : p = q <;> simp [e]]; simp
theorem q_neq (hx : eo env x = some (.int k p)) (hy : eo env y = some (.int k q)) : Qt P n F w₀ env L ⟨d, .binOp .neq t x y t', ty, pos, after, g⟩ (.bool (decide (p ≠ q))) := by
 intro a w h; simp only [execOp, h.eval hx, h.eval hy, binOp_neq, eqGuard_at_int]; rw [show (p != q) = decide (p ≠ q) from by by_cases e : p = q <;> simp [e]]; simp
theorem q_neg (hx : eo env x = some (.int k p)) (hw : k.wrap (0 - p) = r) : Qt P n F w₀ env L ⟨d, .unOp .neg t x, ty, pos, after, g⟩ (.int k r) := by
 intro a w h
 have : k.wrap (-p) = r := by rw [← hw]; congr 1; omega
 simp [execOp, h.eval hx, Op.unary, Op.intArith, this]
theorem q_not {b : Bool} (hx : eo env x = some (.bool b)) : Qt P n F w₀ env L ⟨d, .unOp .not t x, ty, pos, after, g⟩ (.bool (!b)) := by
 intro a w h; simp [execOp, h.eval hx, Op.unary]
theorem y7f {dd : TypeDesc} (hs : P.underlying t = some dd) (hd : P.underlying t' = some (.int k')) (hx : eo env x = some (.int k p)) (hw : k'.wrap p = r) : Qt P n F w₀ env L ⟨d, .convert t t' x, ty, pos, after, g⟩ (.int k' r) := by
 intro a w h; simp [execOp, h.eval hx, hw, convert, run_underlying hs, run_underlying hd, Conv.intToInt]
theorem q_max {at_ : Array TypeId} (hx : eo env x = some (.int k p)) (hy : eo env y = some (.int k q)) (hw : max p q = r) : Qt P n F w₀ env L ⟨d, .call ⟨.builtin .max, #[x, y], at_⟩, ty, pos, after, g⟩ (.int k r) := by
 intro a w h
 have : (if q > p then q else p) = r := by subst hw; simp only [Int.max_def]; split <;> split <;> omega
 simp [execOp, h.eval hx, h.eval hy, resolve, invoke, builtin, run_max_int2, this]
/-! pointers -/
theorem yX {fn : Fn} {caps : Array Operand} {vs : Array Value} (hc : ∀ a w, SS n F w₀ env L a w → caps.map a.eval = vs) : Qt P n F w₀ env L ⟨d, .makeFunc fn #[] caps, ty, pos, after, g⟩ (.func fn #[] vs) := by
 intro a w h; simp [execOp, Instr.makeFunc, hc a w h]
end
end Sep

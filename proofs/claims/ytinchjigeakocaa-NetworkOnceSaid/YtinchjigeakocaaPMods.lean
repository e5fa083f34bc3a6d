/- A part of this claim's proof: models of functions, walks, plain laws. No conditions. -/
import Derived.Test.YtinchjigeakocaaP31i
namespace Go.Proofs.Ytinchjigeakocaa
open Go Go.RowKit Sep
set_option linter.all false
def y1d (c : Cf) (r : List Hop) : List Int := (r.filter fun h => decide (h.fNext < nM c)).map fun h => h.fNext
theorem y5v {c : Cf} {r : List Hop} {k : List Int → Option (List Int)} (hr : r.length ≤ 1000) : ∀ (n : Nat) (o : List Int) (v : Int), 0 ≤ v → v ≤ r.length → r.length < n + v → o.length ≤ v →
  y2c r c k n o v = k (o ++ y1d c (r.drop v.toNat))
 | 0, o, v, h0, h1, h2, h3 => by omega
 | n + 1, o, v, h0, h1, h2, h3 => by
  rw [y2c]
  by_cases h : v < r.length
  ·rw [if_pos (decide_eq_true h)]
   refine y1i (P := fun x => x = k (o ++ y1d c (r.drop v.toNat))) fun k1 hk1 => ?_
   rw [yp ⟨h0, h⟩, y4f h0 h, yn (x := v + 1) (by omega)] at *
   have e1 : (v + 1).toNat = v.toNat + 1 := by omega
   by_cases q : (nth r v).fNext < nM c
   ·rw [if_pos (decide_eq_true (by exact q)), yp (by simp; omega), hk1, y5v hr n _ (v + 1) (by omega) (by omega) (by omega) (by simp; omega), e1]
    congr 1
    unfold y1d
    rw [List.filter_cons, if_pos (decide_eq_true q)]; simp
   ·rw [if_neg (by rw [decide_eq_true_eq]; exact q), hk1, y5v hr n _ (v + 1) (by omega) (by omega) (by omega) (by omega), e1]
    congr 1
    unfold y1d
    rw [List.filter_cons, if_neg (by simpa using q)]
  ·rw [if_neg (by simpa using h), List.drop_eq_nil_of_le (by omega)]
   simp [y1d]
theorem y9O {c : Cf} {r : List Hop} (hr : r.length ≤ 1000) : y3t c r = some (y1d c r) := by
 unfold y3t
 refine y1i (P := fun x => x = some (y1d c r)) fun k hk => ?_
 rw [y5v hr yt [] 0 (by omega) (by omega) (by rw [y1k]; omega) (by simp), hk]
 simp
end Go.Proofs.Ytinchjigeakocaa

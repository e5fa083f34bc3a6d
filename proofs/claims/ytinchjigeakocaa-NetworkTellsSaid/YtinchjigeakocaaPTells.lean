/- A part of this claim's proof: models of functions, walks, plain laws. No conditions. -/
import Derived.Test.YtinchjigeakocaaP31n
import Derived.Test.YtinchjigeakocaaWNetworkTells
namespace Go.Proofs.Ytinchjigeakocaa
open Go Go.RowKit Sep
set_option linter.all false
theorem ybf {c : Cf} (h : Small c) (n : Int) : ∃ s, y20 c n = some s := by
 have h1 := h.m; have h2 := h.s
 by_cases hb : -1000000 ≤ n ∧ n ≤ 1000000
 ·exact ⟨_, yaC h n hb⟩
 ·unfold y20
  rw [y5v h]
  unfold nN
  by_cases h3 : n < 0
  ·rw [if_pos (decide_eq_true h3)]; exact ⟨_, rfl⟩
  ·rw [if_neg (by rw [decide_eq_true_eq]; exact h3)]
   simp only [Option.bind_some]
   rw [if_pos (by rw [decide_eq_true_eq]; omega)]
   exact ⟨_, rfl⟩
section
variable {c : Cf} {net : Int} {rs : List (List Hop)} {sent : List Snt}
theorem ref_L6 (g : Sg c net rs sent) {K : List Ev → Option (List Cm × List Cm × Int)} : ∀ (n : Nat) (v : Int), 0 ≤ v → v ≤ sent.length → sent.length < n + v →
  y36 sent rs K n ((List.range v.toNat).flatMap (y2Y rs sent)) v = K (ag0 rs sent)
 | 0, v, h0, h1, h2 => by omega
 | n + 1, v, h0, h1, h2 => by
  rw [y36]
  have h40 := g.fr.len
  by_cases h : v < sent.length
  ·rw [if_pos (decide_eq_true h)]
   refine y1h (P := fun o => o = K (ag0 rs sent)) fun k hk => ?_
   have hvl := g.vl ⟨h0, h⟩
   have hvr := g.route ⟨h0, h⟩
   have e1 : (v + 1).toNat = v.toNat + 1 := by omega
   have e2 : ((v.toNat : Nat) : Int) = v := Int.toNat_of_nonneg h0
   have ih := ref_L6 g (K := K) n (v + 1) (by omega) (by omega) (by omega)
   rw [e1, y8h v.toNat (by omega)] at ih
   have hlen : ((List.range v.toNat).flatMap (y2Y rs sent)).length ≤ 1280 := by
    have h5 := y5y (f := y2Y rs sent) (m := 32) (List.range v.toNat) (fun i hi => by
     have hi' := List.mem_range.1 hi
     unfold y2Y news
     rw [List.length_map]
     exact Nat.le_trans (List.length_filter_le _ _) (g.route ⟨by omega, by omega⟩).len)
    rw [List.length_range] at h5
    omega
   have hfl : (y2Y rs sent v.toNat).length ≤ 32 := by
    unfold y2Y news
    rw [List.length_map]
    exact Nat.le_trans (List.length_filter_le _ _) (g.route ⟨by omega, by omega⟩).len
   rw [yf ⟨h0, h⟩, yf hvl]
   by_cases hr : (((nth rs ((nth sent v).fVL)).length : Nat) : Int) > 0
   ·rw [if_pos (decide_eq_true hr), yf ⟨h0, h⟩, yf hvl, yf ⟨by omega, hr⟩, y9o ⟨h0, h⟩ hvl (Nat.le_trans hvr.len (by omega))]
    simp only [Option.bind_some]
    have hz : news rs sent (nth (nth rs (nth sent v).fVL) 0).fNode (nth sent v).fTime (-1) v = y2Y rs sent v.toNat := by unfold y2Y route; rw [e2]
    rw [hz, yf (by rw [List.length_append]; omega), hk, yo (x := v + 1) (by omega)]
    exact ih
   ·rw [if_neg (by rw [decide_eq_true_eq]; exact hr), hk, yo (x := v + 1) (by omega)]
    have hz : y2Y rs sent v.toNat = [] := by
     unfold y2Y news
     rw [e2, List.eq_nil_of_length_eq_zero (l := nth rs (nth sent v).fVL) (by omega)]; rfl
    rw [hz, List.append_nil] at ih
    exact ih
  ·rw [if_neg (by rw [decide_eq_true_eq]; exact h)]
   have : v.toNat = sent.length := by omega
   rw [this]; rfl
theorem ref_run (g : Sg c net rs sent) : ∃ a b, RunsTo c rs sent a b ∧ y3x c net rs sent = some (a, b, 0) := by
 unfold y3x
 obtain ⟨q1, v1, v2⟩ := y9q g.small (net := net) (rs := rs)
 rw [v1, v2.2 g.va]
 simp only [Option.bind_some, Bool.not_true, Bool.false_eq_true, if_false]
 obtain ⟨q2, f1, f2⟩ := y8J (c := c) (l := sent)
 have h40 := g.fr.len
 rw [f1, f2.2 ⟨g.fr.each, by omega⟩]
 simp only [Option.bind_some, Bool.not_true, Bool.false_eq_true, if_false]
 have hF := y1k
 generalize yw = N at hF ⊢
 refine y1h (P := fun o => ∃ a b, RunsTo c rs sent a b ∧ o = some (a, b, 0)) fun k hk => ?_
 have h6 := ref_L6 g (K := k) N 0 (by omega) (by omega) (by omega)
 rw [show ((List.range (0 : Int).toNat).flatMap (y2Y rs sent)) = [] from rfl] at h6
 rw [h6, hk]
 refine y44 (P := fun o => ∃ a b, RunsTo c rs sent a b ∧ o = some (a, b, 0)) fun k2 hk2 => ?_
 obtain ⟨m, F, cm, lo, r1, r2, r3, r4, r5, r6⟩ := ref_L7 g (K := k2) N [] (ag0 rs sent) [] [] [] (y1l c) (y6U g) .nil .nil (fun q => rfl) (by simp) (by simp; omega)
 rw [r6, hk2]
 obtain ⟨D, hD⟩ := r1.iv g (y6U g)
 have hcl := hD.cl
 have hlen := hD.len g
 exact ⟨cm, lo, ⟨⟨m, F, r1, r2, r3⟩, r4, r5, by rw [r2.length_eq, r3.length_eq]; omega⟩, rfl⟩
theorem y8l {node : Int} (hs : (sent.length : Int) ≤ 9223372036854775807) (hn : -9223372036854775808 ≤ node ∧ node ≤ 9223372036854775807) : y3u c net rs sent node = some true := by
 unfold y3u
 obtain ⟨b, h1, h2⟩ := Few_eq c rs sent
 rw [h1]
 simp only [Option.bind_some]
 cases b with
 | false => rw [if_pos (by rfl), y8G]; rfl
 | true =>
  have hf := h2.1 rfl
  have hsm := hf.small
  rw [if_neg (by simp)]
  obtain ⟨v, v1, v2⟩ := y9T hsm (net := net) (rs := rs) (fun r hr => by have := hf.e r hr; omega) (by have := hf.r; omega)
  obtain ⟨w, w1, w2⟩ := y9q hsm (net := net) (rs := rs)
  have hvw : v = w := by rw [Bool.eq_iff_iff, v2, w2]
  subst hvw
  -- the two runs
  have runs : ∃ a b e, a.length ≤ 1280 ∧ b.length ≤ 1280 ∧ y2m c net rs sent = some (a, b, e) ∧ y3x c net rs sent = some (a, b, e) := by
   by_cases hv : v = true
   ·obtain ⟨f, f1, f2⟩ := y9h (c := c) (l := sent) hs
    obtain ⟨f', f1', f2'⟩ := y8J (c := c) (l := sent)
    have hff : f = f' := by rw [Bool.eq_iff_iff, f2, f2']
    subst hff
    by_cases hfr : f = true
    ·have h4 := f2.1 hfr
     have g : Sg c net rs sent := ⟨hsm, v2.1 hv, ⟨h4.each, by have := h4.len; have := hf.f; omega⟩⟩
     obtain ⟨a, b, r1, e1⟩ := Run_eq g
     obtain ⟨a', b', r2, e2⟩ := ref_run g
     obtain ⟨rfl, rfl⟩ := r1.unique g r2
     have := r1.len
     exact ⟨a, b, 0, by omega, by omega, e1, e2⟩
    ·have hfr' : f = false := by simpa using hfr
     refine ⟨[], [], 311, by simp, by simp, ?_, ?_⟩
     ·unfold y2m
      rw [v1, hv]
      simp only [Option.bind_some, Bool.not_true, Bool.false_eq_true, if_false]
      rw [f1, hfr']; rfl
     ·unfold y3x
      rw [w1, hv]
      simp only [Option.bind_some, Bool.not_true, Bool.false_eq_true, if_false]
      rw [f1', hfr']; rfl
   ·have hv' : v = false := by simpa using hv
    refine ⟨[], [], 310, by simp, by simp, ?_, ?_⟩
    ·unfold y2m; rw [v1, hv']; rfl
    ·unfold y3x; rw [w1, hv']; rfl
  obtain ⟨a, b, e, la, lb, e1, e2⟩ := runs
  rw [e1, Option.bind_some, e2, Option.bind_some, yaK (a := a) (by omega), yaK (a := b) (by omega), v1, w1, y5v hsm, ya2 hsm hn]
  obtain ⟨s, hs'⟩ := ybf hsm node
  rw [hs', y8G]
  have hnn : nN c = i64 ((c.fModules.length : Int) + c.fSwitches.length) := by
   have := hsm.m; have := hsm.s
   unfold nN; rw [yo (by omega)]
  simp [hnn]
end
end Go.Proofs.Ytinchjigeakocaa

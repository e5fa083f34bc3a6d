/- A part of this claim's proof: models of the functions that the law reaches, with the proof that the functions compute them; plain laws about the models. No conditions beyond those in each theorem's statement. -/
import Derived.Test.YtbihfglmcjkdhaaP02e
import Derived.Test.YtbihfglmcjkdhaaP02w
import Derived.Test.YtbihfglmcjkdhaaWCurveSum
namespace Go.Proofs.Ytbihfglmcjkdhaa
open Go Go.RowKit Sep
set_option linter.all false
theorem SC.norm {c : List B} (h : SC c) : SC (NORM c) :=
  ⟨(VC_len (VC_NORM h.VC)).1, by have := NORM_len c; have := h.2.1; omega, fun b hb => h.2.2 b (NORM_sub hb)⟩
theorem SC.sfit {a b : List B} (ha : SC a) (hb : SC b) : (prod a b).all sfit = true := by
  rw [List.all_eq_true]
  intro p hp
  have hm := prod_mem.1 hp
  have h1 := ha.2.2 _ hm.1; have h2 := hb.2.2 _ hm.2
  unfold Ytbihfglmcjkdhaa.sfit
  rw [Bool.and_eq_true]
  exact ⟨(h1.2.1.add (by omega) h2.2.1).fits (by omega) (by omega) (by omega), (h1.2.2.add (by omega) h2.2.2).fits (by omega) (by omega) (by omega)⟩
theorem SC.mul {a b : List B} (ha : SC a) (hb : SC b) : (NORM a).length * (NORM b).length ≤ 16 := by
  have h1 := ha.norm.2.1; have h2 := hb.norm.2.1
  exact Nat.le_trans (Nat.mul_le_mul h1 h2) (by omega)
theorem SC.sum {a b : List B} (ha : SC a) (hb : SC b) : m_curve_Sum a b = some (NORM (SUM (NORM a) (NORM b)), 0) := by
  rw [Sum_eq ha.VC hb.VC, if_neg (by have := ha.mul hb; omega), if_pos (ha.norm.sfit hb.norm)]
theorem SC.min {a b : List B} (ha : SC a) (hb : SC b) : m_curve_Min a b = some (NORM (a ++ b), 0) := by
  rw [Min_eq ha.VC hb.VC, if_neg]
  have := NORM_len (a ++ b); rw [List.length_append] at this
  have := ha.2.1; have := hb.2.1; omega
theorem SC.vfit {a : List B} {m : Nat} {t : Rat} (ha : SC a) (hm : m ≤ 1000000) (ht : G m 4 t) : a.all (vfit t) = true := List.all_eq_true.2 fun b hb => (ha.2.2 b hb).fit hm ht
theorem SC.shift {a : List B} {m : Nat} {t : R} (ha : SC a) (hm : m ≤ 1000000) (h0 : GR t = true) (ht : G m 4 (val t)) : m_curve_Shift a t = some (NORM (a.map (sh1 (val t))), 0) := by
  rw [Shift_eq ha.VC h0, if_pos (ha.vfit hm ht)]
theorem SC.normE {a : List B} (ha : SC a) : m_curve_Norm a = some (NORM a, 0) := by rw [Norm_eq, ha.VC]; rfl
theorem SUM_ne {a b : List B} (ha : a ≠ []) (hb : b ≠ []) : SUM a b ≠ [] := by
  obtain ⟨x, hx⟩ := List.exists_mem_of_ne_nil a ha
  obtain ⟨z, hz⟩ := List.exists_mem_of_ne_nil b hb
  exact List.ne_nil_of_mem (List.mem_map_of_mem (prod_mem.2 ⟨hx, hz⟩ : (x, z) ∈ prod a b))
/-- values of a list whose values are on a grid -/
theorem law_at_grid {c : List B} {t : R} (hc : VC c = true) (ht : GR t = true) {m k k' : Nat} (hk : 0 < k) (hk2 : k ≤ 1073741824) (hm : m * k ≤ 1073741824) (hk' : 0 < k') (hk2' : k' ≤ 1073741824) (hm' : m * k' ≤ 1073741824) (hf : ∀ b ∈ c, G m k' (rq b * val t) ∧ G m k (vq (val t) b)) : m_law02_at c t = some (ofQ (AT c (val t)), true) := by
  refine law_at_ok hc ht fun b hb => ?_
  unfold Ytbihfglmcjkdhaa.vfit
  rw [Bool.and_eq_true]
  exact ⟨(hf b hb).1.fits hk' hk2' hm', (hf b hb).2.fits hk hk2 hm⟩
theorem SC.all_app {a b : List B} (ha : SC a) (hb : SC b) : ∀ x ∈ a ++ b, SB x := fun x hx => (List.mem_append.1 hx).elim (ha.2.2 x) (hb.2.2 x)
theorem curveSum_true {m n : List Int} {t u : Int} (hm : ∀ x ∈ m, 0 ≤ x ∧ x ≤ 255) (hn : ∀ x ∈ n, 0 ≤ x ∧ x ≤ 255) (ht : 0 ≤ t ∧ t ≤ 65535) (hu : 0 ≤ u ∧ u ≤ 65535) : m_law02_CurveSum m n t u = some true := by
  obtain ⟨a, e1, ha⟩ := small_eq hm
  obtain ⟨b, e2, hb⟩ := small_eq hn
  obtain ⟨x, e3, hx, gx⟩ := point_eq ht
  obtain ⟨y, e4, hy, gy⟩ := point_eq hu
  have px := GR_pos hx; have py := GR_pos hy
  have gl := gx.add (by omega) gy
  have hl := GR_of (Rat.add_nonneg px py) (gl.fits (by omega) (by omega) (by omega))
  have fl := gl.fits (by omega) (by omega) (by omega)
  have el : val (ofQ (val x + val y)) = val x + val y := val_ofQ _
  unfold m_law02_CurveSum
  rw [e1, Option.bind_some, e2, Option.bind_some, e3, Option.bind_some, e4, Option.bind_some, add_eq (GR_V hx) (GR_V hy), mk_fits fl, Option.bind_some]
  rw [ha.sum hb, Option.bind_some, ha.min hb, Option.bind_some, ha.shift (by omega) hy gy, Option.bind_some, ha.normE, Option.bind_some]
  have i0 : i64 (i64 (i64 (i64 (0 + 0) + 0) + 0) + 0) = 0 := by decide
  simp only [i0]
  rw [if_neg (by decide)]
  rw [ha.law_at (by omega) hx gx, Option.bind_some, hb.law_at (by omega) hx gx, Option.bind_some]
  have hap : ∀ z ∈ a ++ b, GB z = true := fun z hz => (ha.all_app hb z hz).1
  have ane : a ++ b ≠ [] := by simp [ha.ne]
  have vmin : VC (NORM (a ++ b)) = true := VC_of (NORM_all hap) (NORM_ne hap ane) (by
    have := NORM_len (a ++ b); rw [List.length_append] at this
    have := ha.2.1; have := hb.2.1; omega)
  have gS := SUM_all ha.norm.all hb.norm.all (ha.norm.sfit hb.norm)
  have sne := SUM_ne ha.norm.ne hb.norm.ne
  have vsum : VC (NORM (SUM (NORM a) (NORM b))) = true := VC_of (NORM_all gS) (NORM_ne gS sne) (by
    have := NORM_len (SUM (NORM a) (NORM b))
    have h2 : (SUM (NORM a) (NORM b)).length = (NORM a).length * (NORM b).length := by unfold SUM; rw [List.length_map, prod_length]
    have := ha.mul hb; omega)
  have hsh : ∀ z ∈ a.map (sh1 (val y)), GB z = true := fun z hz => by
    obtain ⟨w, hw, rfl⟩ := List.mem_map.1 hz
    exact sh1_GB (ha.all w hw) py ((ha.2.2 w hw).fit (by omega) gy)
  have shne : a.map (sh1 (val y)) ≠ [] := by simp [ha.ne]
  have vsh : VC (NORM (a.map (sh1 (val y)))) = true := VC_of (NORM_all hsh) (NORM_ne hsh shne) (by
    have := NORM_len (a.map (sh1 (val y))); rw [List.length_map] at this
    have := ha.2.1; omega)
  rw [law_at_grid vsum hx (m := 20000) (k := 32) (k' := 32) (by omega) (by omega) (by omega) (by omega) (by omega) (by omega) (fun z hz => by
    obtain ⟨p, hp, rfl⟩ := List.mem_map.1 (NORM_sub hz)
    have hpm := prod_mem.1 hp
    have h1 := (ha.norm.2.2 _ hpm.1).val gx; have h2 := (hb.norm.2.2 _ hpm.2).val gx
    rw [sB_vq, sB_rq, Rat.add_mul]
    exact ⟨(h1.1.add (by omega) h2.1).le (by omega), (h1.2.add (by omega) h2.2).le (by omega)⟩), Option.bind_some]
  rw [law_at_grid vmin hx (m := 20000) (k := 32) (k' := 32) (by omega) (by omega) (by omega) (by omega) (by omega) (by omega) (fun z hz => by
    have h1 := (ha.all_app hb z (NORM_sub hz)).val gx
    exact ⟨h1.1.le (by omega), h1.2.le (by omega)⟩), Option.bind_some]
  rw [law_at_grid vsh hx (m := 20000) (k := 32) (k' := 32) (by omega) (by omega) (by omega) (by omega) (by omega) (by omega) (fun z hz => by
    obtain ⟨w, hw, rfl⟩ := List.mem_map.1 (NORM_sub hz)
    have h1 := (ha.2.2 w hw).val gx; have h2 := (ha.2.2 w hw).val gl
    rw [sh1_vq, sh1_rq]
    exact ⟨h1.1.le (by omega), h2.2.le (by omega)⟩), Option.bind_some]
  rw [ha.law_at (m := 1000 + 1000) (by omega) hl (by rw [el]; exact gl), Option.bind_some, el]
  rw [ha.norm.law_at (by omega) hx gx, Option.bind_some]
  have ga := ha.at gx; have gb := hb.at gx
  have fa := ga.fits (by omega) (by omega) (by omega)
  have fb := gb.fits (by omega) (by omega) (by omega)
  have fab := (ga.add (by omega) gb).fits (by omega) (by omega) (by omega)
  simp only []
  rw [add_eq (V_ofQ fa) (V_ofQ fb), val_ofQ, val_ofQ, mk_fits fab, Option.bind_some]
  rw [AT_NORM gS sne px, AT_SUM ha.norm.ne hb.norm.ne, AT_NORM ha.all ha.ne px, AT_NORM hb.all hb.ne px, AT_NORM hap ane px, AT_app ha.ne hb.ne, AT_NORM hsh shne px, AT_shift]
  refine jp2_ex (P := fun o => o = _) fun k hk => ?_
  rw [cmp_eq (V_ofQ fb) (V_ofQ fa), val_ofQ, val_ofQ, Option.bind_some]
  by_cases h : AT b (val x) < AT a (val x)
  · rw [if_pos (decide_eq_true (cmpQ_lt.2 h)), hk, if_pos h]
    simp [awake_eq]
  · rw [if_neg (fun h' => h (cmpQ_lt.1 (of_decide_eq_true h'))), hk, if_neg h]
    simp [awake_eq]
end Go.Proofs.Ytbihfglmcjkdhaa

/- A part of this claim's proof: models of functions, walks, plain laws. No conditions. -/
import Derived.Test.YtbihfglmcjkdhaaP02e
import Derived.Test.YtbihfglmcjkdhaaP02w
import Derived.Test.YtbihfglmcjkdhaaWCurveAlgebra
namespace Go.Proofs.Ytbihfglmcjkdhaa
open Go Go.RowKit Sep
set_option linter.all false
namespace Alg
theorem normSC {c : List B} (h : SC c) : SC (NORM c) :=
  ⟨(VC_len (VC_NORM h.VC)).1, by have := NORM_len c; have := h.2.1; omega, fun b hb => h.2.2 b (NORM_sub hb)⟩
theorem sfitSC {a b : List B} (ha : SC a) (hb : SC b) : (prod a b).all sfit = true := by
  rw [List.all_eq_true]
  intro p hp
  have hm := prod_mem.1 hp
  have h1 := ha.2.2 _ hm.1; have h2 := hb.2.2 _ hm.2
  unfold sfit
  rw [Bool.and_eq_true]
  exact ⟨(h1.2.1.add (by omega) h2.2.1).fits (by omega) (by omega) (by omega), (h1.2.2.add (by omega) h2.2.2).fits (by omega) (by omega) (by omega)⟩
theorem mulSC {a b : List B} (ha : SC a) (hb : SC b) : (NORM a).length * (NORM b).length ≤ 16 := by
  have h1 := (normSC ha).2.1; have h2 := (normSC hb).2.1
  exact Nat.le_trans (Nat.mul_le_mul h1 h2) (by omega)
theorem sumSC {a b : List B} (ha : SC a) (hb : SC b) : m_curve_Sum a b = some (NORM (SUM (NORM a) (NORM b)), 0) := by
  rw [Sum_eq ha.VC hb.VC, if_neg (by have := mulSC ha hb; omega), if_pos (sfitSC (normSC ha) (normSC hb))]
theorem minSC {a b : List B} (ha : SC a) (hb : SC b) : m_curve_Min a b = some (NORM (a ++ b), 0) := by
  rw [Min_eq ha.VC hb.VC, if_neg]
  have := NORM_len (a ++ b); rw [List.length_append] at this
  have := ha.2.1; have := hb.2.1; omega
theorem vfitSC {a : List B} {m : Nat} {t : Rat} (ha : SC a) (hm : m ≤ 1000000) (ht : G m 4 t) : a.all (vfit t) = true := List.all_eq_true.2 fun b hb => (ha.2.2 b hb).fit hm ht
theorem shiftSC {a : List B} {m : Nat} {t : R} (ha : SC a) (hm : m ≤ 1000000) (h0 : GR t = true) (ht : G m 4 (val t)) : m_curve_Shift a t = some (NORM (a.map (sh1 (val t))), 0) := by
  rw [Shift_eq ha.VC h0, if_pos (vfitSC ha hm ht)]
theorem normESC {a : List B} (ha : SC a) : m_curve_Norm a = some (NORM a, 0) := by rw [Norm_eq, ha.VC]; rfl
theorem equal_loop {a : List B} {k : Option Bool} (hs : (a.length : Int) ≤ 1000000) : ∀ (n : Nat) (v : Int), 0 ≤ v → v ≤ a.length → a.length < n + v → m_law02_equal_L2 a a k n v = k
  | 0, v, h0, h1, h2 => by omega
  | n + 1, v, h0, h1, h2 => by
    rw [m_law02_equal_L2]
    by_cases h : v < a.length
    · rw [if_pos (decide_eq_true h), chk_pos ⟨h0, h⟩, chk_pos ⟨h0, h⟩, if_neg (by simp), i64_id (by omega), equal_loop hs n (v + 1) (by omega) (by omega) (by omega)]
    · rw [if_neg (by simpa using h)]
theorem equal_self {a : List B} (hs : (a.length : Int) ≤ 1000000) : m_law02_equal a a = some true := by
  unfold m_law02_equal
  rw [if_neg (by simp)]
  exact equal_loop hs FUEL 0 (by omega) (by omega) (by rw [FUEL_eq]; omega)
theorem sB_comm (x z : B) : sB (x, z) = sB (z, x) := by
  unfold sB
  rw [Rat.add_comm (bq x), Rat.add_comm (rq x)]
theorem SUM_comm {a b : List B} (hg : ∀ x ∈ SUM a b, GB x = true) : NORM (SUM a b) = NORM (SUM b a) := by
  refine NORM_mems hg fun v => ?_
  have : ∀ {a b : List B}, v ∈ SUM a b → v ∈ SUM b a := by
    intro a b hv
    obtain ⟨p, hp, rfl⟩ := List.mem_map.1 hv
    have hm := prod_mem.1 hp
    exact List.mem_map.2 ⟨(p.2, p.1), prod_mem.2 ⟨hm.2, hm.1⟩, sB_comm _ _⟩
  exact ⟨this, this⟩
theorem sh1_zero {b : B} (hb : GB b = true) : sh1 0 b = b := by
  unfold sh1 vq
  rw [Rat.mul_zero, Rat.add_zero, bq, ofQ_val (GR_V (GB_b hb))]
theorem sh1_sh1 (x y : Rat) (b : B) : sh1 y (sh1 x b) = sh1 (x + y) b := by
  unfold sh1
  have := sh1_vq x y b
  unfold sh1 at this
  rw [this, Rat.add_comm]
theorem rev_loop {a : List B} {k : List B → Option Bool} (hs : (a.length : Int) ≤ 1000000) : ∀ (n : Nat) (o : List B) (v : Int), 0 ≤ v → v ≤ a.length → a.length < n + v → (o.length : Int) = v → (∀ x ∈ o, x ∈ a) → (∀ i : Int, a.length - v ≤ i → i < a.length → nth a i ∈ o) →
    ∃ d, m_law02_CurveAlgebra_L2 a k n o v = k d ∧ (∀ x ∈ d, x ∈ a) ∧ (∀ x ∈ a, x ∈ d) ∧ d.length = a.length
  | 0, o, v, h0, h1, h2, h3, h4, h5 => by omega
  | n + 1, o, v, h0, h1, h2, h3, h4, h5 => by
    rw [m_law02_CurveAlgebra_L2]
    by_cases h : v < a.length
    · rw [if_pos (decide_eq_true h), i64_id (x := (a.length : Int) - 1) (by omega), i64_id (x := (a.length : Int) - 1 - v) (by omega), chk_pos (by omega)]
      rw [chk_pos (by simp only [List.length_append, List.length_cons, List.length_nil]; omega), i64_id (by omega)]
      have hm := nth_mem (l := a) (i := (a.length : Int) - 1 - v) (by omega) (by omega)
      refine rev_loop hs n (o ++ [nth a ((a.length : Int) - 1 - v)]) (v + 1) (by omega) (by omega) (by omega) (by simp; omega) ?_ ?_
      · intro x hx
        rcases List.mem_append.1 hx with h | h
        · exact h4 x h
        · obtain rfl := List.mem_singleton.1 h
          exact hm
      · intro i hi hi2
        by_cases e : i = (a.length : Int) - 1 - v
        · subst e; simp
        · exact List.mem_append_left _ (h5 i (by omega) hi2)
    · rw [if_neg (by simpa using h)]
      refine ⟨o, rfl, h4, fun x hx => ?_, by omega⟩
      obtain ⟨i, hi, rfl⟩ := List.mem_iff_getElem.1 hx
      have := h5 i (by omega) (by omega)
      rwa [← nth_lt (by omega) (by omega)] at this
end Alg
open Alg
theorem curveAlgebra_true {m n : List Int} {t u : Int} (hm : ∀ x ∈ m, 0 ≤ x ∧ x ≤ 255) (hn : ∀ x ∈ n, 0 ≤ x ∧ x ≤ 255) (ht : 0 ≤ t ∧ t ≤ 65535) (hu : 0 ≤ u ∧ u ≤ 65535) : m_law02_CurveAlgebra m n t u = some true := by
  obtain ⟨a, e1, ha⟩ := small_eq hm
  obtain ⟨b, e2, hb⟩ := small_eq hn
  obtain ⟨x, e3, hx, gx⟩ := point_eq ht
  obtain ⟨y, e4, hy, gy⟩ := point_eq hu
  have px := GR_pos hx; have py := GR_pos hy
  have gl := gx.add (by omega) gy
  have hl := GR_of (Rat.add_nonneg px py) (gl.fits (by omega) (by omega) (by omega))
  have fl := gl.fits (by omega) (by omega) (by omega)
  have el : val (ofQ (val x + val y)) = val x + val y := val_ofQ _
  have h4 := ha.2.1; have h4b := hb.2.1
  unfold m_law02_CurveAlgebra
  rw [e1, Option.bind_some, e2, Option.bind_some, e3, Option.bind_some, e4, Option.bind_some]
  rw [sumSC ha hb, Option.bind_some, sumSC hb ha, Option.bind_some, minSC ha hb, Option.bind_some, minSC hb ha, Option.bind_some, normESC ha, Option.bind_some]
  have z0 : GR ⟨0, 1⟩ = true := by decide +kernel
  have v0 : val ⟨0, 1⟩ = 0 := by decide +kernel
  unfold m_law02_num
  rw [Option.bind_some, shiftSC (m := 0) ha (by omega) z0 ⟨0, by simp, by rw [v0]; decide +kernel⟩, Option.bind_some, v0]
  have ez : a.map (sh1 0) = a := by
    conv => rhs; rw [← List.map_id a]
    exact List.map_congr_left fun w hw => sh1_zero (ha.all w hw)
  rw [ez, shiftSC ha (by omega) hx gx, Option.bind_some]
  simp only []
  have hsh : ∀ z ∈ a.map (sh1 (val x)), GB z = true := fun z hz => by
    obtain ⟨w, hw, rfl⟩ := List.mem_map.1 hz
    exact sh1_GB (ha.all w hw) px ((ha.2.2 w hw).fit (by omega) gx)
  have shne : a.map (sh1 (val x)) ≠ [] := by simp [ha.ne]
  have vsh : VC (NORM (a.map (sh1 (val x)))) = true := VC_of (NORM_all hsh) (NORM_ne hsh shne) (by
    have := NORM_len (a.map (sh1 (val x))); rw [List.length_map] at this
    omega)
  have fsh : ∀ z ∈ a.map (sh1 (val x)), vfit (val y) z = true := by
    intro z hz
    obtain ⟨w, hw, rfl⟩ := List.mem_map.1 hz
    have h1 := (ha.2.2 w hw).val gy; have h2 := (ha.2.2 w hw).val (gy.add (by omega) gx)
    unfold vfit
    rw [sh1_vq, sh1_rq, Bool.and_eq_true]
    exact ⟨h1.1.fits (by omega) (by omega) (by omega), h2.2.fits (by omega) (by omega) (by omega)⟩
  rw [Shift_eq vsh hy, if_pos (List.all_eq_true.2 fun z hz => fsh z (NORM_sub hz)), Option.bind_some]
  rw [add_eq (GR_V hx) (GR_V hy), mk_fits fl, Option.bind_some]
  rw [shiftSC (m := 1000 + 1000) ha (by omega) hl (by rw [el]; exact gl), Option.bind_some, el]
  have gAll : ∀ z ∈ a.map (sh1 (val x + val y)), GB z = true := fun z hz => by
    obtain ⟨w, hw, rfl⟩ := List.mem_map.1 hz
    exact sh1_GB (ha.all w hw) (Rat.add_nonneg px py) ((ha.2.2 w hw).fit (m := 1000 + 1000) (by omega) gl)
  have gN : ∀ z ∈ (NORM (a.map (sh1 (val x)))).map (sh1 (val y)), GB z = true := fun z hz => by
    obtain ⟨w, hw, rfl⟩ := List.mem_map.1 hz
    exact sh1_GB (NORM_all hsh w hw) py (fsh w (NORM_sub hw))
  have eS : NORM ((NORM (a.map (sh1 (val x)))).map (sh1 (val y))) = NORM (a.map (sh1 (val x + val y))) := by
    refine NORM_congr gN gAll (fun v hv => ?_) (fun v hv => ?_)
    · obtain ⟨w, hw, rfl⟩ := List.mem_map.1 hv
      obtain ⟨z, hz, rfl⟩ := List.mem_map.1 (NORM_sub hw)
      exact ⟨_, List.mem_map_of_mem hz, by rw [sh1_sh1]; exact le2_refl _⟩
    · obtain ⟨w, hw, rfl⟩ := List.mem_map.1 hv
      obtain ⟨z, hz, hle⟩ := NORM_cover hsh (List.mem_map_of_mem hw : sh1 (val x) w ∈ _)
      refine ⟨_, List.mem_map_of_mem hz, ?_⟩
      rw [← sh1_sh1]
      exact ⟨by rw [sh1_bq, sh1_bq]; exact vq_le hle py, hle.2⟩
  have gS := SUM_all (normSC ha).all (normSC hb).all (sfitSC (normSC ha) (normSC hb))
  have gM : ∀ z ∈ a ++ b, GB z = true := fun z hz => (List.mem_append.1 hz).elim (ha.all z) (hb.all z)
  refine jp1_ex (P := fun o => o = _) fun k hk => ?_
  obtain ⟨d, ed, d1, d2, d3⟩ := rev_loop (a := a) (k := k) (by omega) FUEL [] 0 (by omega) (by omega) (by rw [FUEL_eq]; omega) rfl (by simp) (fun i h1 h2 => by omega)
  have hd : SC d := ⟨by have := ha.1; omega, by omega, fun w hw => ha.2.2 w (d1 w hw)⟩
  have eR : NORM a = NORM d := NORM_mems ha.all fun v => ⟨d2 v, d1 v⟩
  rw [ed, hk, normESC hd, Option.bind_some, ← SUM_comm gS, ← NORM_mems gM (d := b ++ a) (fun v => by simp [or_comm]), eS, ← eR]
  have i0 : i64 (i64 (i64 (i64 (i64 (i64 (i64 (i64 (i64 (i64 (0 + 0) + 0) + 0) + 0) + 0) + 0) + 0) + 0) + 0) + 0) = 0 := by decide
  simp only [i0]
  have hp := prod_length (NORM a) (NORM b)
  have l1 := NORM_len (SUM (NORM a) (NORM b)); have l2 := NORM_len (a ++ b); have l3 := NORM_len a; have l4 := NORM_len (a.map (sh1 (val x + val y)))
  unfold SUM at l1
  rw [List.length_map, hp] at l1
  rw [List.length_append] at l2
  rw [List.length_map] at l4
  have := mulSC ha hb
  rw [equal_self (a := NORM (SUM (NORM a) (NORM b))) (by unfold SUM; omega), equal_self (a := NORM (a ++ b)) (by omega), equal_self (a := NORM a) (by omega), equal_self (a := NORM (a.map (sh1 (val x + val y)))) (by omega)]
  simp [awake_eq]
end Go.Proofs.Ytbihfglmcjkdhaa

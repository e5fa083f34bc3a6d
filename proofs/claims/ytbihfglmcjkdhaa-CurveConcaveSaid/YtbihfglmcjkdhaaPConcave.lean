/- A part of this claim's proof: models of the functions that the law reaches, with the proof that the functions compute them; plain laws about the models. No conditions beyond those in each theorem's statement. -/
import Derived.Test.YtbihfglmcjkdhaaP02c
import Derived.Test.YtbihfglmcjkdhaaP02w
import Derived.Test.YtbihfglmcjkdhaaWCurveConcave
namespace Go.Proofs.Ytbihfglmcjkdhaa
open Go Go.RowKit Sep
set_option linter.all false
theorem AT_mem {c : List B} {t : Rat} (h : c ≠ []) : ∃ b ∈ c, AT c t = vq t b := by
  obtain ⟨b, hb, e⟩ := List.mem_map.1 (AT_is (t := t) h).1
  exact ⟨b, hb, e.symm⟩
theorem AT_le {c : List B} {t : Rat} {b : B} (hb : b ∈ c) : AT c t ≤ vq t b := (AT_is (t := t) (List.ne_nil_of_mem hb)).2 _ (List.mem_map_of_mem hb)
theorem vq_add {b : B} {t d : Rat} : vq (t + d) b = vq t b + rq b * d := by unfold vq; rw [Rat.mul_add, Rat.add_assoc]
theorem GR_ofQ_of {q : Rat} {m k : Nat} (h0 : 0 ≤ q) (h : G m k q) (hk : 0 < k) (hk2 : k ≤ 1073741824) (hm : m * k ≤ 1073741824) : GR (ofQ q) = true := GR_of h0 (h.fits hk hk2 hm)
theorem concave_true {m : List Int} {t u : Int} (hm : ∀ x ∈ m, 0 ≤ x ∧ x ≤ 255) (ht : 0 ≤ t ∧ t ≤ 65535) (hu : 0 ≤ u ∧ u ≤ 65535) : m_law02_CurveConcave m t u = some true := by
  obtain ⟨c, e1, hc⟩ := small_eq hm
  obtain ⟨x, e2, hx, gx⟩ := point_eq ht
  obtain ⟨d, e3, hd, gd⟩ := point_eq hu
  have px := GR_pos hx; have pd := GR_pos hd
  have gy := gx.add (by omega) gd
  have gz := gy.add (by omega) gd
  have hy := GR_ofQ_of (Rat.add_nonneg px pd) gy (by omega) (by omega) (by omega)
  have hz := GR_ofQ_of (Rat.add_nonneg (Rat.add_nonneg px pd) pd) gz (by omega) (by omega) (by omega)
  have fy := gy.fits (by omega) (by omega) (by omega)
  have fz := gz.fits (by omega) (by omega) (by omega)
  have ga := hc.at gx; have gb := hc.at gy; have gk := hc.at gz
  have f1 := (gb.sub (by omega) ga).fits (by omega) (by omega) (by omega)
  have f2 := (gk.sub (by omega) gb).fits (by omega) (by omega) (by omega)
  have va := V_ofQ (ga.fits (by omega) (by omega) (by omega))
  have vb := V_ofQ (gb.fits (by omega) (by omega) (by omega))
  have vk := V_ofQ (gk.fits (by omega) (by omega) (by omega))
  obtain ⟨r, e4, hr, hle⟩ := rate_ok hc.VC
  have gl := (hc.2.2 r hr).2.2.mul gd
  have f3 := gl.fits (by omega) (by omega) (by omega)
  have ey : val (ofQ (val x + val d)) = val x + val d := val_ofQ _
  have ez : val (ofQ (val x + val d + val d)) = val x + val d + val d := val_ofQ _
  unfold m_law02_CurveConcave
  rw [e1, Option.bind_some, e2, Option.bind_some, e3, Option.bind_some, add_eq (GR_V hx) (GR_V hd), mk_fits fy, Option.bind_some]
  show Option.bind (m_rat_Add (ofQ (val x + val d)) d) _ = _
  rw [add_eq (GR_V hy) (GR_V hd), ey, mk_fits fz, Option.bind_some, hc.law_at (by omega) hx gx, Option.bind_some]
  show Option.bind (m_law02_at c (ofQ (val x + val d))) _ = _
  rw [hc.law_at (m := 1000 + 1000) (by omega) hy (by rw [ey]; exact gy), Option.bind_some, ey]
  show Option.bind (m_law02_at c (ofQ (val x + val d + val d))) _ = _
  rw [hc.law_at (m := 1000 + 1000 + 1000) (by omega) hz (by rw [ez]; exact gz), Option.bind_some, ez]
  show Option.bind (m_rat_Sub (ofQ (AT c (val x + val d))) (ofQ (AT c (val x)))) _ = _
  rw [sub_eq vb va, val_ofQ, val_ofQ, mk_fits f1, Option.bind_some]
  show Option.bind (m_rat_Sub (ofQ (AT c (val x + val d + val d))) (ofQ (AT c (val x + val d)))) _ = _
  rw [sub_eq vk vb, val_ofQ, val_ofQ, mk_fits f2, Option.bind_some, e4, Option.bind_some]
  show Option.bind (m_rat_Mul r.fRate d) _ = _
  rw [mul_eq (GR_V (GB_r (hc.all r hr))) (GR_V hd)]
  have el : val r.fRate * val d = rq r * val d := rfl
  rw [el, mk_fits f3, Option.bind_some]
  obtain ⟨b, hb, eb⟩ := AT_mem (c := c) (t := val x + val d) hc.ne
  have h1 := AT_le (t := val x) hb
  have h2 := AT_le (t := val x + val d + val d) hb
  rw [vq_add] at h2
  rw [vq_add] at eb h2
  have p1 : 0 ≤ rq b * val d := Rat.mul_nonneg (hc.2.2 b hb).pos.2 pd
  have p2 : rq r * val d ≤ rq b * val d := Rat.mul_le_mul_of_nonneg_right (hle b hb) pd
  have q1 : (0 : Rat) ≤ AT c (val x + val d) - AT c (val x) := by grind
  have q2 : AT c (val x + val d + val d) - AT c (val x + val d) ≤ AT c (val x + val d) - AT c (val x) := by grind
  have q3 : rq r * val d ≤ AT c (val x + val d) - AT c (val x) := by grind
  have c2 := cmp_eq (V_ofQ f2) (V_ofQ f1)
  have c3 := cmp_eq (V_ofQ f1) (V_ofQ f3)
  rw [val_ofQ, val_ofQ] at c2 c3
  have n1 : (ofQ (AT c (val x + val d) - AT c (val x))).fN ≥ 0 := Rat.num_nonneg.2 q1
  have i0 : i64 (i64 (i64 (i64 (i64 (0 + 0) + 0) + 0) + 0) + 0) = 0 := by decide
  have t2 : cmpQ (AT c (val x + val d + val d) - AT c (val x + val d)) (AT c (val x + val d) - AT c (val x)) ≤ 0 := cmpQ_le.2 q2
  have t3 : cmpQ (AT c (val x + val d) - AT c (val x)) (rq r * val d) ≥ 0 := by unfold cmpQ; grind
  simp only [i0, n1, c2, c3, Option.bind_some, t2, t3, awake_eq, decide_true, Bool.and_self, if_true]
end Go.Proofs.Ytbihfglmcjkdhaa

/- A part of this claim's proof: models of functions, walks, plain laws. No conditions. -/
import Derived.Test.YtakfmdiiehcbdaaPAd
import Derived.Test.YtakfmdiiehcbdaaP03w
import Derived.Test.YtakfmdiiehcbdaaWCalculusAbove
namespace Go.Proofs.Ytakfmdiiehcbdaa
open Go Go.RowKit Sep Ab
set_option linter.all false
def SRV (s : SV) (q : Rat) : Rat := RS s * (if q - LS s < 0 then 0 else q - LS s)
theorem y8I {s : SV} {y : R} (hs : VS s = true) (hy : V y = true) (f1 : fits (val y - LS s) = true) (f2 : fits (SRV s (val y)) = true) : y1Q y s s.fR = some (ofQ (SRV s (val y)), true) := by
 obtain ⟨v1, v2, v3, v4⟩ := VS_r hs
 unfold y1Q
 have e : val y - val s.fLatency = val y - LS s := rfl
 rw [y6P hy v3, e, y31 f1, Option.bind_some]
 refine y5p (P := fun o => o = _) fun k hk => ?_
 unfold y16
 by_cases h : val y - LS s < 0
 ·have hn : (ofQ (val y - LS s)).fN < 0 := by
   show (val y - LS s).num < 0
   refine Int.not_le.1 fun h' => ?_
   have := Rat.num_nonneg.1 h'
   grind
  rw [if_pos (by simp [hn]), Option.bind_some, hk]
  have e2 : SRV s (val y) = val s.fR * val ⟨0, 1⟩ := by unfold SRV; rw [if_pos h, y74]; rfl
  rw [e2] at f2
  show Option.bind (y2B s.fR ⟨0, 1⟩) _ = _
  rw [y8a v1 y8h, y31 f2, e2]
  rfl
 ·have hn : ¬ (ofQ (val y - LS s)).fN < 0 := by
   show ¬ (val y - LS s).num < 0
   have := Rat.num_nonneg.2 (Rat.not_lt.1 h)
   omega
  rw [if_neg (by simp [hn]), hk]
  have e2 : SRV s (val y) = val s.fR * val (ofQ (val y - LS s)) := by unfold SRV; rw [if_neg h, yQ]; rfl
  rw [e2] at f2
  show Option.bind (y2B s.fR (ofQ (val y - LS s))) _ = _
  rw [y8a v1 (y1z f1), y31 f2, e2]
  rfl
theorem ya0 {n : Int} (h : 0 ≤ n ∧ n ≤ 4000) : y20 n 1 = some (⟨n, 1⟩, 0) := by
 rw [y4M (by decide) (by omega), y31 (y2P (by decide) (by omega))]
 have : ofQ (Rat.divInt n 1) = ⟨n, 1⟩ := y5Z (y1G (y5Q h))
 rw [this]
theorem y7x {m n : List Int} {r d t : Int} (hm : ∀ x ∈ m, 0 ≤ x ∧ x ≤ 255) (hn : ∀ x ∈ n, 0 ≤ x ∧ x ≤ 255) (hr : 0 ≤ r ∧ r ≤ 255) (hd : 0 ≤ d ∧ d ≤ 255) (ht : 0 ≤ t ∧ t ≤ 65535) : y2X m n r d t = some true := by
 obtain ⟨a, ea, ha⟩ := y9e hm
 obtain ⟨b, eb, hb⟩ := y9e hn
 have er := rate_ok8 hr
 have ed : Int.tmod (i64 d) 101 = d % 101 := by rw [yv (x := d) (by omega), y6O hd.1]
 have et : Int.tmod (i64 t) 4001 = t % 4001 := by rw [yv (x := t) (by omega), y6O ht.1]
 have hL : 0 ≤ d % 101 ∧ d % 101 ≤ 100 := by omega
 have hx : 0 ≤ t % 4001 ∧ t % 4001 ≤ 4000 := by omega
 have hj : 1 ≤ 1 + r % 160 ∧ 1 + r % 160 ≤ 160 := by omega
 obtain ⟨d1, e1, g1, l1⟩ := y9F ha.VC
 obtain ⟨d2, e2, g2, l2⟩ := y9F hb.VC
 unfold y2X
 rw [ea, Option.bind_some, eb, Option.bind_some, er, Option.bind_some, ed, et]
 unfold y16
 rw [Option.bind_some, ya0 hx, Option.bind_some]
 simp only []
 generalize hSv : (⟨ofQ (Rat.divInt (1 + r % 160) 8), ⟨d % 101, 1⟩⟩ : SV) = s
 have hS : SJ s (1 + r % 160) (d % 101) := ⟨hSv.symm, hj, hL⟩
 have hSr : ofQ (Rat.divInt (1 + r % 160) 8) = s.fR := by rw [← hSv]
 rw [hSr]
 generalize t % 4001 = x at *
 generalize 1 + r % 160 = j at *
 generalize d % 101 = L at *
 have hvs := hS.vs.1
 have eRS := hS.vs.2.1
 have eLS := hS.vs.2.2
 have pR := RS_pos hvs
 have s1 := ha.2.2 d1 g1; have s2 := hb.2.2 d2 g2
 have n0 : nth ([a, b] : List (List B)) 0 = a := rfl
 have n1 : nth ([a, b] : List (List B)) 1 = b := rfl
 have fr : fits (rq d1 + rq d2) = true := (s1.2.2.add (by omega) s2.2.2).fits (by omega) (by omega) (by omega)
 have eadd : y15 d1.fR d2.fR = some (ofQ (rq d1 + rq d2), 0) := by
  rw [y3R (y1G (y35 s1.1)) (y1G (y35 s2.1))]
  have : val d1.fR + val d2.fR = rq d1 + rq d2 := rfl
  rw [this, y31 fr]
 have ecmp : yO (ofQ (rq d1 + rq d2)) s.fR = some (y2C (rq d1 + rq d2) (RS s)) := by
  rw [y34 (y1z fr) (VS_r hvs).1, yQ]; rfl
 rcases Delay_ab ha hb hS e1 e2 g1 g2 with ⟨c1, D⟩ | ⟨c1, P, M, D, fM, P0, P1, Pa, Pb, _, ⟨p1, hp1, em1⟩, hmax⟩
 ·rcases y8i ha hb hS e1 e2 g1 g2 with ⟨_, D'⟩ | ⟨c2, _⟩
  ·rw [D, Option.bind_some, D', Option.bind_some, if_neg (by simp), yq (by simp), n0, e1, Option.bind_some, yq (by simp), n1, e2, Option.bind_some]
   simp only []
   rw [eadd, Option.bind_some, if_neg (by simp; decide), ecmp, Option.bind_some, Option.bind_some]
   have hc : decide (y2C (rq d1 + rq d2) (RS s) > 0) = true := decide_eq_true (y3X.2 c1)
   rw [hc]
   simp [y9m]
  ·exact absurd c1 c2
 ·rcases y8i ha hb hS e1 e2 g1 g2 with ⟨c2, _⟩ | ⟨_, Q, N, D', fN, Q0, Q1, Qa, Qb, Qm, ⟨p2, hp2, em2⟩, hmax2⟩
  ·exact absurd c2 c1
  ·rw [D, Option.bind_some, D', Option.bind_some, if_neg (by simp), yq (by simp), n0, e1, Option.bind_some, yq (by simp), n1, e2, Option.bind_some]
   simp only []
   rw [eadd, Option.bind_some, if_neg (by simp; decide), ecmp, Option.bind_some, Option.bind_some]
   have hc : decide (y2C (rq d1 + rq d2) (RS s) > 0) = false := decide_eq_false (fun h => c1 (y3X.1 h))
   rw [hc, if_neg (by simp), if_neg (by simp), yq (by simp), at_sc ha hx, Option.bind_some, yq (by simp), at_sc hb hx, Option.bind_some]
   simp only []
   have gW : G 4000 1 (WZ x) := y59 (by omega)
   have fA := (ha.atG gW).fits (by omega) (by omega) (by omega)
   have fB := (hb.atG gW).fits (by omega) (by omega) (by omega)
   have fT := (TT_G ha hb gW).fits (by omega) (by omega) (by omega)
   have eT : AT a (WZ x) + AT b (WZ x) = TT a b (WZ x) := rfl
   rw [y3R (y1z fA) (y1z fB), yQ, yQ, eT, y31 fT, Option.bind_some, if_neg (by simp; decide)]
   -- the later point
   have hP1 := P1 p1 hp1
   obtain ⟨k1, k2, k3⟩ := phi1_G ha hb hS hP1
   have gx := WZ_Gk (p := x) (M := 4000) (show 0 < j.toNat by omega) (by omega)
   have hM : M = y4X a b s p1 := em1
   have fl : fits (WZ x + M) = true := by rw [hM]; exact jb (gx.add (by omega) k3) (by omega) (by omega)
   have eW : val (⟨x, 1⟩ : R) = WZ x := rfl
   rw [y3R (y1G (y5Q hx)) (y1z fM), eW, yQ, y31 fl, Option.bind_some]
   simp only []
   -- the two laws of the curves
   obtain ⟨b1', hb1, le1⟩ := y5P ha.all g1
   obtain ⟨b2', hb2, le2'⟩ := y5P hb.all g2
   have hrates : ∃ b1 ∈ y1c a, ∃ b2 ∈ y1c b, rq b1 + rq b2 ≤ RS s := ⟨b1', hb1, b2', hb2, by
    have := le1.2; have := le2'.2; have := Rat.not_lt.1 c1; grind⟩
   have tP : 0 ≤ TT a b (WZ x) := Rat.add_nonneg (ha.at_pos (y3D hx.1)) (hb.at_pos (y3D hx.1))
   have hdel : TT a b (WZ x) / RS s ≤ WZ x + M - LS s := by
    obtain ⟨p, hp, hle⟩ := y7a ha hb P0 (fun p hp => (P1 p hp).1) Pa Pb (y8M (P := P) (RS s)) hrates hx.1
    have hle : TT a b (WZ x) - RS s * WZ x ≤ TT a b (WZ p) - RS s * WZ p := hle
    have h1 := hmax p hp
    have h1 : TT a b (WZ p) / RS s - WZ p + LS s ≤ M := h1
    have h2 := div_le hle pR
    have ex : ∀ q : Rat, ∀ T : Rat, (T - RS s * q) / RS s = T / RS s - q := by
     intro q T
     have hne : RS s ≠ 0 := by grind
     rw [Rat.div_def, Rat.div_def, Rat.sub_eq_add_neg, Rat.add_mul, Rat.neg_mul, Rat.mul_comm (RS s) q, Rat.mul_assoc, Rat.mul_inv_cancel _ hne, Rat.mul_one, ← Rat.sub_eq_add_neg]
    rw [ex, ex] at h2
    grind
   have hz0 : 0 ≤ WZ x + M - LS s := Rat.le_trans (y9Z tP pR) hdel
   have ez : WZ x + M - LS s = WZ x + (TT a b (WZ p1) / RS s - WZ p1) := by rw [hM]; unfold y4X; grind
   have fz : fits (val (ofQ (WZ x + M)) - LS s) = true := by
    rw [yQ, ez]; exact jb (gx.add (by omega) k2) (by omega) (by omega)
   have hne : RS s ≠ 0 := by grind
   have eu : SRV s (val (ofQ (WZ x + M))) = TT a b (WZ p1) + RS s * (WZ x - WZ p1) := by
    unfold SRV
    rw [yQ, if_neg (Rat.not_lt.2 hz0), ez]
    have h3 : TT a b (WZ p1) / RS s * RS s = TT a b (WZ p1) := Rat.div_mul_cancel hne
    grind
   have fu : fits (SRV s (val (ofQ (WZ x + M)))) = true := by
    rw [eu, y6R]
    exact ((TT_G ha hb (y59 (p := p1) (M := 4000) (by omega))).add (by omega) ((RS_G hS).mul (y59 (p := x - p1) (M := 4000) (by omega)))).fits (by omega) (by omega) (by omega)
   rw [y8I hvs (y1z fl) fz fu, Option.bind_some]
   -- what is served at x
   have eS2 : SRV s (val ⟨x, 1⟩) = y36 (RS s) L (WZ x) := by
    unfold SRV y36
    rw [eW, eLS]
    by_cases hc : WZ x ≤ WZ L
    ·rw [if_pos hc]
     by_cases h4 : WZ x - WZ L < 0
     ·rw [if_pos h4, Rat.mul_zero]
     ·rw [if_neg h4]
      have : WZ x - WZ L = 0 := by grind
      rw [this, Rat.mul_zero]
    ·rw [if_neg hc, if_neg (by grind)]
   have fx : fits (val (⟨x, 1⟩ : R) - LS s) = true := by
    rw [eW, eLS, y6R]; exact (y59 (p := x - L) (M := 4000) (by omega)).fits (by omega) (by omega) (by omega)
   have gB := bey_G hS hx
   have fB2 : fits (SRV s (val ⟨x, 1⟩)) = true := by rw [eS2]; exact gB.fits (by omega) (by omega) (by omega)
   rw [y8I hvs (y1G (y5Q hx)) fx fB2, Option.bind_some]
   simp only []
   have hN : N = y4b a b s L p2 := em2
   have gN := phi2_G ha hb hS (Q1 p2 hp2)
   have fq : fits (SRV s (val ⟨x, 1⟩) + N) = true := by rw [eS2, hN]; exact (gB.add (by omega) gN).fits (by omega) (by omega) (by omega)
   rw [y3R (y1z fB2) (y1z fN), yQ, yQ, y31 fq, Option.bind_some]
   have hLQ : L ∈ Q := by
    obtain ⟨⟨f, hf, f1, f2⟩, _⟩ := Qm s.fLatency (by simp)
    have eLv : val s.fLatency = WZ L := eLS
    rw [eLv] at f1 f2
    have h5 : L < f + 1 := y75 f2
    have h6 : ¬ L < f := fun h => by have := y6A h; grind
    have : f = L := by omega
    rw [← this]; exact hf
   have hback : TT a b (WZ x) ≤ SRV s (val ⟨x, 1⟩) + N := by
    obtain ⟨p, hp, hle⟩ := y7a ha hb Q0 (fun p hp => (Q1 p hp).1) Qa Qb (y81 (P := Q) (RS s) hLQ) hrates hx.1
    have hle : TT a b (WZ x) - y36 (RS s) L (WZ x) ≤ y4b a b s L p := hle
    have h1 := hmax2 p hp
    have h1 : y4b a b s L p ≤ N := h1
    rw [eS2]
    grind
   have hserv : TT a b (WZ x) ≤ SRV s (val (ofQ (WZ x + M))) := by
    unfold SRV
    rw [yQ, if_neg (Rat.not_lt.2 hz0)]
    have h1 := Rat.mul_le_mul_of_nonneg_right hdel (Rat.le_of_lt pR)
    rw [Rat.div_mul_cancel hne] at h1
    grind
   rw [if_pos (by simp), y34 (y1z fT) (y1z fu), yQ, yQ, Option.bind_some, Option.bind_some, if_pos (decide_eq_true (y4N.2 hserv))]
   rw [y34 (y1z fT) (y1z fq), yQ, yQ, Option.bind_some, Option.bind_some, if_pos (decide_eq_true (y4N.2 hback)), y9m]
   rfl
end Go.Proofs.Ytakfmdiiehcbdaa

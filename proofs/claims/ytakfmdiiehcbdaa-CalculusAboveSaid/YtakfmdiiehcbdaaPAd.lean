/- A part of this claim's proof: models of functions, walks, plain laws. No conditions. -/
import Derived.Test.YtakfmdiiehcbdaaPAc
namespace Go.Proofs.Ytakfmdiiehcbdaa
open Go Go.RowKit Sep
set_option linter.all false
namespace Ab
theorem div_le {a b q : Rat} (h : a ≤ b) (hq : 0 < q) : a / q ≤ b / q := by
  refine Rat.not_lt.1 fun hlt => ?_
  have h1 := Rat.mul_lt_mul_of_pos_right hlt hq
  rw [Rat.div_mul_cancel (by grind), Rat.div_mul_cancel (by grind)] at h1
  grind
theorem y9Z {a q : Rat} (h : 0 ≤ a) (hq : 0 < q) : 0 ≤ a / q := by
  have := div_le h hq
  rwa [Rat.div_def, Rat.zero_mul] at this
theorem y9k {n : Int} (h : 0 ≤ n ∧ n ≤ 1073741824) : GR ⟨n, 1⟩ = true := by
  unfold GR V
  rw [Bool.and_eq_true, decide_eq_true_eq, decide_eq_true_eq]
  exact ⟨⟨by show (1 : Int) ≤ 1; omega, by show (1 : Int) ≤ 1073741824; omega, by show -1073741824 ≤ n; omega, by show n ≤ 1073741824; omega, Nat.gcd_one_right _⟩, h.1⟩
def SS2 (s : SV) (j d : Int) : Prop := VS s = true ∧ RS s = Rat.divInt j 8 ∧ LS s = Rat.divInt d 1
theorem rate_ok8 {r : Int} (hr : 0 ≤ r ∧ r ≤ 255) : y20 (i64 (1 + (Int.tmod (i64 r) 160))) 8 = some (ofQ (Rat.divInt (1 + r % 160) 8), 0) := by
  rw [yv (x := r) (by omega), y6O hr.1, yv (by omega), y4M (by decide) (by omega), y31 (y2P (by decide) (by omega))]
theorem yan {j d : Int} (hj : 1 ≤ j ∧ j ≤ 160) (hd : 0 ≤ d ∧ d ≤ 510) : SS2 ⟨ofQ (Rat.divInt j 8), ⟨d, 1⟩⟩ j d := by
  have f := y2P (n := j) (d := 8) (by decide) (by omega)
  have g := y9k (n := d) (by omega)
  refine ⟨?_, yQ _, rfl⟩
  unfold VS
  simp only [Bool.and_eq_true, decide_eq_true_eq]
  refine ⟨⟨⟨y1z f, ?_⟩, y1G g⟩, hd.1⟩
  show 0 < (Rat.divInt j 8).num
  rw [Rat.num_divInt, show (8 : Int).sign = 1 from rfl, Int.one_mul]
  have h1 : (Int.gcd 8 j : Int) ∣ j := Int.gcd_dvd_right ..
  have h2 : 0 < Int.gcd 8 j := Int.gcd_pos_of_ne_zero_left _ (by decide)
  exact Int.ediv_pos_of_pos_of_dvd (by omega) (by omega) h1
end Ab
open Ab
/-! ### total of two curves -/
def TT (a b : List B) (q : Rat) : Rat := AT a q + AT b q
theorem y59 {p : Int} {M : Nat} (h : p.natAbs ≤ M) : G M 1 (WZ p) := ⟨p, by omega, rfl⟩
theorem SC.fitk {c : List B} {M : Nat} {t : Rat} (h : SC c) (hM : M ≤ 4000) (ht : G M 1 t) : ∀ x ∈ c, y6j t x = true := by
  intro x hx
  obtain ⟨h1, h2⟩ := (h.2.2 x hx).valk (by omega) ht
  unfold y6j
  rw [Bool.and_eq_true]
  exact ⟨h1.fits (by omega) (by omega) (by omega), h2.fits (by omega) (by omega) (by omega)⟩
theorem SC.atG {c : List B} {M : Nat} {t : Rat} (h : SC c) (ht : G M 1 t) : G (100 + 5 * M) 8 (AT c t) := by
  obtain ⟨x, hx, e⟩ := AT_ex h.ne t
  rw [e]
  exact ((h.2.2 x hx).valk (by omega) ht).2
theorem SC.at_pos {c : List B} {t : Rat} (h : SC c) (ht : 0 ≤ t) : 0 ≤ AT c t := by
  obtain ⟨x, hx, e⟩ := AT_ex h.ne t
  rw [e]
  exact vq_pos (h.all x hx) ht
theorem TT_G {a b : List B} {M : Nat} {t : Rat} (ha : SC a) (hb : SC b) (ht : G M 1 t) : G (200 + 10 * M) 8 (TT a b t) := ((ha.atG ht).add (by omega) (hb.atG ht)).le (by omega)
theorem y5Q {p : Int} (h : 0 ≤ p ∧ p ≤ 4000) : GR ⟨p, 1⟩ = true := y9k (by omega)
theorem at_sc {c : List B} {p : Int} (hc : SC c) (hp : 0 ≤ p ∧ p ≤ 4000) : y2N c ⟨p, 1⟩ = some (ofQ (AT c (WZ p)), 0) :=
  at_ok hc.VC (y5Q hp) (hc.fitk (M := 4000) (by omega) (show G 4000 1 (WZ p) from y59 (p := p) (by omega)))
theorem y9l {a b : List B} {p : Int} (ha : SC a) (hb : SC b) (hp : 0 ≤ p ∧ p ≤ 4000) : y22 ⟨0⟩ [a, b] ⟨p, 1⟩ = some (ofQ (TT a b (WZ p)), ⟨0⟩) := by
  have gW : G 4000 1 (WZ p) := y59 (by omega)
  have q1 := (ha.atG gW).fits (by omega) (by omega) (by omega)
  have q2 := (hb.atG gW).fits (by omega) (by omega) (by omega)
  have f3 := (TT_G ha hb gW).fits (by omega) (by omega) (by omega)
  unfold y22
  have hF : 3 ≤ yw := by rw [y2g]; omega
  rw [y60, Option.bind_some]
  refine y9i (P := fun o => o = _) fun k hk => ?_
  have step : ∀ n : Nat, y19 [a, b] ⟨p, 1⟩ k (n + 3) 0 0 0 1 = k (ofQ (TT a b (WZ p))).fN (ofQ (TT a b (WZ p))).fD 0 := by
    intro n
    have n0 : nth ([a, b] : List (List B)) 0 = a := rfl
    have n1 : nth ([a, b] : List (List B)) 1 = b := rfl
    rw [y19, if_pos (by simp), yq (by simp), n0, at_sc ha hp, Option.bind_some]
    refine y2E (P := fun o => o = _) fun k1 hk1 => ?_
    rw [if_pos (by simp), hk1]
    have a1 := y3S (f := fun y0 y1 => y15 y0 y1) (y3R y8h (y1z q1))
    rw [y74, yQ, Rat.zero_add, q1, if_pos rfl] at a1
    rw [a1, Option.bind_some, yv (x := 0 + 1) (by omega), show (0 : Int) + 1 = 1 from rfl]
    rw [y19, if_pos (by simp), yq (by simp), n1, at_sc hb hp, Option.bind_some]
    refine y2E (P := fun o => o = _) fun k2 hk2 => ?_
    rw [if_pos (by simp), hk2]
    have a2 := y3S (f := fun y0 y1 => y15 y0 y1) (y3R (y1z q1) (y1z q2))
    have e2 : val (ofQ (AT a (WZ p))) + val (ofQ (AT b (WZ p))) = TT a b (WZ p) := by rw [yQ, yQ]; rfl
    rw [e2, f3, if_pos rfl] at a2
    refine (congrArg (fun o => Option.bind o _) a2).trans ?_
    rw [Option.bind_some, yv (x := 1 + 1) (by omega), y19, if_neg (by simp)]
  obtain ⟨n, hn⟩ : ∃ n, yw = n + 3 := ⟨yw - 3, by omega⟩
  rw [hn]
  refine (step n).trans ?_
  rw [hk]
def SJ (s : SV) (j L : Int) : Prop := s = ⟨ofQ (Rat.divInt j 8), ⟨L, 1⟩⟩ ∧ (1 ≤ j ∧ j ≤ 160) ∧ 0 ≤ L ∧ L ≤ 100
theorem SJ.vs {s : SV} {j L : Int} (h : SJ s j L) : VS s = true ∧ RS s = Rat.divInt j 8 ∧ LS s = WZ L := by
  obtain ⟨e, h1, h2⟩ := h
  rw [e]
  exact yan h1 (by omega)
theorem RS_G {s : SV} {j L : Int} (h : SJ s j L) : G 20 8 (RS s) := ⟨j, by have := h.2.1; omega, h.vs.2.1⟩
theorem over_G {s : SV} {j L : Int} (h : SJ s j L) {m : Nat} {q : Rat} (hq : G m 8 q) : G (m * 8) j.toNat (q / RS s) := by
  obtain ⟨n, hn, e⟩ := hq
  have hj := h.2.1
  refine ⟨n, ?_, ?_⟩
  · have : m * 8 * 1 ≤ m * 8 * j.toNat := Nat.mul_le_mul_left _ (by omega)
    omega
  · rw [e, h.vs.2.1, Rat.div_def, Rat.inv_divInt, Rat.divInt_mul_divInt, show ((j.toNat : Nat) : Int) = j by omega]
    rw [show n * 8 = n * (8 : Int) from rfl, show ((8 : Nat) : Int) * j = j * 8 by omega, Rat.divInt_mul_right (by decide)]
theorem WZ_Gk {p : Int} {M k : Nat} (hk : 0 < k) (h : p.natAbs ≤ M) : G M k (WZ p) := by
  have := (y59 h).fine k hk
  rwa [Nat.one_mul] at this
def y4X (a b : List B) (s : SV) (p : Int) : Rat := TT a b (WZ p) / RS s - WZ p + LS s
def y4b (a b : List B) (s : SV) (L : Int) (p : Int) : Rat := TT a b (WZ p) - y36 (RS s) L (WZ p)
theorem phi1_G {a b : List B} {s : SV} {j L p : Int} (ha : SC a) (hb : SC b) (h : SJ s j L) (hp : 0 ≤ p ∧ p ≤ 4000) : G (40200 * 8) j.toNat (TT a b (WZ p) / RS s) ∧ G (40200 * 8 + 4000) j.toNat (TT a b (WZ p) / RS s - WZ p) ∧ G (40200 * 8 + 4000 + 100) j.toNat (y4X a b s p) := by
  have hj := h.2.1; have hL := h.2.2
  have g1 := over_G h ((TT_G ha hb (y59 (p := p) (M := 4000) (by omega))).le (show 200 + 10 * 4000 ≤ 40200 by omega))
  have g2 := g1.sub (by omega) (WZ_Gk (p := p) (M := 4000) (show 0 < j.toNat by omega) (by omega))
  refine ⟨g1, g2, ?_⟩
  unfold y4X
  rw [h.vs.2.2]
  exact g2.add (by omega) (WZ_Gk (by omega) (by omega))
theorem jb {m k : Nat} {q : Rat} (h : G m k q) (hk : 1 ≤ k ∧ k ≤ 160) (hm : m ≤ 6000000) : fits q = true := by
  refine h.fits (by omega) (by omega) ?_
  exact Nat.le_trans (Nat.mul_le_mul hm hk.2) (by omega)
theorem value1 {a b : List B} {s : SV} {j L p : Int} (ha : SC a) (hb : SC b) (h : SJ s j L) (hp : 0 ≤ p ∧ p ≤ 4000) : y2R ⟨0⟩ ⟨p, 1⟩ [a, b] s = some (ofQ (y4X a b s p), ⟨0⟩) ∧ fits (y4X a b s p) = true := by
  obtain ⟨v1, v2, v3, v4⟩ := VS_r h.vs.1
  have hj := h.2.1
  obtain ⟨g1, g2, g3⟩ := phi1_G ha hb h hp
  have f1 := jb g1 (by omega) (by omega)
  have f2 := jb g2 (by omega) (by omega)
  have f3 := jb g3 (by omega) (by omega)
  have fT := (TT_G ha hb (y59 (p := p) (M := 4000) (by omega))).fits (by omega) (by omega) (by omega)
  refine ⟨?_, f3⟩
  unfold y2R
  rw [y9l ha hb hp, Option.bind_some]
  simp only []
  have a1 := y3S (f := fun y0 y1 => y2Q y0 y1) (y99 (y1z fT) v1 (RS_ne h.vs.1))
  have e1 : val (ofQ (TT a b (WZ p))) / val s.fR = TT a b (WZ p) / RS s := by rw [yQ]; rfl
  rw [e1, f1, if_pos rfl] at a1
  rw [a1, Option.bind_some]
  simp only []
  have a2 := y3S (f := fun y0 y1 => y1x y0 y1) (y6P (y1z f1) (y1G (y5Q hp)))
  have e2 : val (ofQ (TT a b (WZ p) / RS s)) - val ⟨p, 1⟩ = TT a b (WZ p) / RS s - WZ p := by rw [yQ]; rfl
  rw [e2, f2, if_pos rfl] at a2
  rw [a2, Option.bind_some]
  simp only []
  have a3 := y3S (f := fun y0 y1 => y15 y0 y1) (y3R (y1z f2) v3)
  have e3 : val (ofQ (TT a b (WZ p) / RS s - WZ p)) + val s.fLatency = y4X a b s p := by rw [yQ]; rfl
  rw [e3, f3, if_pos rfl] at a3
  rw [a3, Option.bind_some]
theorem bey_G {s : SV} {j L p : Int} (h : SJ s j L) (hp : 0 ≤ p ∧ p ≤ 4000) : G (20 * 4000) 8 (y36 (RS s) L (WZ p)) := by
  have hL := h.2.2
  unfold y36
  by_cases hc : WZ p ≤ WZ L
  · rw [if_pos hc]; exact ⟨0, by omega, by rw [Rat.zero_divInt]⟩
  · rw [if_neg hc, y6R]
    have hp' : L ≤ p := by
      rcases Int.lt_or_le p L with h1 | h1
      · exact absurd (y4W (show p ≤ L by omega)) hc
      · exact h1
    exact (RS_G h).mul (y59 (by omega))
theorem phi2_G {a b : List B} {s : SV} {j L p : Int} (ha : SC a) (hb : SC b) (h : SJ s j L) (hp : 0 ≤ p ∧ p ≤ 4000) : G (40200 + 20 * 4000) 8 (y4b a b s L p) :=
  ((TT_G ha hb (y59 (p := p) (M := 4000) (by omega))).le (show 200 + 10 * 4000 ≤ 40200 by omega)).sub (by omega) (bey_G h hp)
theorem value2 {a b : List B} {s : SV} {j L p : Int} (ha : SC a) (hb : SC b) (h : SJ s j L) (hp : 0 ≤ p ∧ p ≤ 4000) : y2y ⟨0⟩ ⟨p, 1⟩ [a, b] s = some (ofQ (y4b a b s L p), ⟨0⟩) ∧ fits (y4b a b s L p) = true := by
  obtain ⟨v1, v2, v3, v4⟩ := VS_r h.vs.1
  have hL := h.2.2
  have f3 := (phi2_G ha hb h hp).fits (by omega) (by omega) (by omega)
  have fT := (TT_G ha hb (y59 (p := p) (M := 4000) (by omega))).fits (by omega) (by omega) (by omega)
  refine ⟨?_, f3⟩
  unfold y2y
  have eW : val ⟨p, 1⟩ = WZ p := rfl
  have eL : val s.fLatency = WZ L := h.vs.2.2
  rw [y9l ha hb hp, Option.bind_some, y34 (y1G (y5Q hp)) v3, eW, eL, Option.bind_some]
  by_cases hc : WZ p ≤ WZ L
  · rw [if_pos (decide_eq_true (y4N.2 hc))]
    have e : y4b a b s L p = TT a b (WZ p) := by unfold y4b y36; rw [if_pos hc]; grind
    rw [e]
  · rw [if_neg (fun h' => hc (y4N.1 (of_decide_eq_true h')))]
    have hp' : L ≤ p := by
      rcases Int.lt_or_le p L with h1 | h1
      · exact absurd (y4W (show p ≤ L by omega)) hc
      · exact h1
    have gS : G 4000 1 (WZ p - WZ L) := by rw [y6R]; exact y59 (by omega)
    have fS := gS.fits (by omega) (by omega) (by omega)
    have fM := ((RS_G h).mul gS).fits (by omega) (by omega) (by omega)
    simp only []
    have a1 := y3S (f := fun y0 y1 => y1x y0 y1) (y6P (y1G (y5Q hp)) v3)
    rw [eW, eL, fS, if_pos rfl] at a1
    rw [a1, Option.bind_some]
    simp only []
    have a2 := y3S (f := fun y0 y1 => y2B y0 y1) (y8a v1 (y1z fS))
    have e2 : val s.fR * val (ofQ (WZ p - WZ L)) = RS s * (WZ p - WZ L) := by rw [yQ]; rfl
    rw [e2, fM, if_pos rfl] at a2
    rw [a2, Option.bind_some]
    simp only []
    have a3 := y3S (f := fun y0 y1 => y1x y0 y1) (y6P (y1z fT) (y1z fM))
    have e3 : val (ofQ (TT a b (WZ p))) - val (ofQ (RS s * (WZ p - WZ L))) = y4b a b s L p := by
      rw [yQ, yQ]; unfold y4b y36; rw [if_neg hc]
    rw [e3, f3, if_pos rfl] at a3
    rw [a3, Option.bind_some]
/-! ### the greatest -/
def encQ : Option Rat → Nat × List R × Int
  | none => (0, [], 0)
  | some m => (0, [ofQ m], 0)
def stQ (φ : Int → Rat) : Option Rat → Int → Option Rat
  | none, p => some (φ p)
  | some m, p => if m < φ p then some (φ p) else some m
def IQ (s : Option Rat) : Prop := ∀ m, s = some m → fits m = true
theorem y82 (φ : Int → Rat) : ∀ (P : List Int) (s : Option Rat), (s.isSome = true ∨ P ≠ []) → ∃ m, P.foldl (stQ φ) s = some m ∧ (s = some m ∨ ∃ p ∈ P, m = φ p) ∧ (∀ m0, s = some m0 → m0 ≤ m) ∧ ∀ p ∈ P, φ p ≤ m
  | [], s, h => by
    cases s with
    | none => simp at h
    | some m => exact ⟨m, rfl, .inl rfl, fun m0 h => by cases h; exact Rat.le_refl, by simp⟩
  | p :: P, s, h => by
    have hs : (stQ φ s p).isSome = true := by
      cases s with
      | none => rfl
      | some m => simp only [stQ]; split <;> rfl
    obtain ⟨m, e, h1, h2, h3⟩ := y82 φ P (stQ φ s p) (.inl hs)
    refine ⟨m, e, ?_, ?_, ?_⟩
    · rcases h1 with h1 | ⟨q, hq, h1⟩
      · cases s with
        | none => exact .inr ⟨p, by simp, by have : some (φ p) = some m := h1; cases this; rfl⟩
        | some m0 =>
          simp only [stQ] at h1
          split at h1
          · cases h1; exact .inr ⟨p, by simp, rfl⟩
          · exact .inl h1
      · exact .inr ⟨q, List.mem_cons_of_mem _ hq, h1⟩
    · intro m0 hm
      subst hm
      simp only [stQ] at h2
      split at h2
      · rename_i hlt
        have := h2 _ rfl; grind
      · exact h2 _ rfl
    · intro q hq
      rcases List.mem_cons.1 hq with rfl | hq
      · cases s with
        | none => exact h2 _ rfl
        | some m0 =>
          simp only [stQ] at h2
          split at h2
          · exact h2 _ rfl
          · rename_i hlt
            have := h2 _ rfl
            have := Rat.not_lt.1 hlt
            grind
      · exact h3 q hq
/-! ### breakpoints of small curves -/
theorem yao {f N D : Int} (hD : 0 < D) (h : f * D < N) : WZ f < Rat.divInt N D := by
  have h1 : (0 : Rat) < Rat.divInt (N - f * D) D := y6F (by omega) hD
  have h2 : Rat.divInt N D - WZ f = Rat.divInt (N - f * D) D := by
    unfold WZ
    rw [Rat.divInt_sub_divInt _ _ (by omega) (by decide)]
    congr 1 <;> omega
  grind
theorem y2S {c : List B} (hc : SC c) : ∃ r, y1f c = some (r, 0) ∧ BR 4000 r ∧ ∀ P : List Int, (∀ q ∈ r, y14 P (val q)) → ∀ q, isBp c q → y14 P q := by
  obtain ⟨r, e, hi, hr, hV, hl⟩ := hc.breaks
  refine ⟨r, e, ⟨by omega, fun v hv => ?_⟩, fun P hP q hq => ?_⟩
  · have hVv := hV v hv
    obtain ⟨p, hp, hb, ev⟩ := (hr v).1 hv
    have hlt : bq p.1 < bq p.2 := of_decide_eq_true hb
    have hro := y6y y3Y hp.1 hp.2 hlt
    have hD : 0 < bpD p := by unfold bpD; grind
    have s1 := hc.2.2 _ (y6k hp.1); have s2 := hc.2.2 _ (y6k hp.2)
    have h0 : 0 < bp p := bp_gt hD (by unfold vq; grind)
    have em := y7v hD
    -- the difference of rates is at least 1/8, the bursts are at most 100
    have hd8 : Rat.divInt 1 8 ≤ bpD p := by
      obtain ⟨j, hj, ej⟩ := s1.2.2.sub (by omega) s2.2.2
      have ej : bpD p = Rat.divInt j 8 := ej
      have hj1 : 1 ≤ j := by
        refine Int.not_lt.1 fun h => ?_
        have : (0 : Rat) ≤ Rat.divInt (-j) 8 := Rat.divInt_nonneg (by omega) (by decide)
        rw [← Rat.neg_divInt, ← ej] at this
        grind
      have h1 : (0 : Rat) ≤ Rat.divInt (j - 1) 8 := Rat.divInt_nonneg (by omega) (by decide)
      have h2 : Rat.divInt j 8 = Rat.divInt 1 8 + Rat.divInt (j - 1) 8 := by
        rw [Rat.divInt_add_divInt _ _ (by decide) (by decide), show 1 * 8 + (j - 1) * 8 = j * (8 : Int) by omega, Rat.divInt_mul_right (by decide)]
      rw [ej, h2]; grind
    have hA : bpA p ≤ WZ 100 := by
      obtain ⟨n, hn, en⟩ := s2.2.1
      have h1 := s1.pos.1
      have h2 : bq p.2 ≤ WZ 100 := by
        have : bq p.2 = WZ n := en
        rw [this]; exact y4W (by omega)
      unfold bpA; grind
    have h800 : bp p ≤ WZ 800 := by
      refine Rat.not_lt.1 fun h => ?_
      have m1 := Rat.mul_lt_mul_of_pos_right h hD
      have m2 := Rat.mul_le_mul_of_nonneg_left hd8 (y3D (n := 800) (by omega))
      have e8 : WZ 800 * Rat.divInt 1 8 = WZ 100 := by decide +kernel
      rw [e8] at m2
      rw [em] at m1
      grind
    have hval : val v = bp p := by rw [ev, yQ]
    have hv' := hVv
    simp only [V, decide_eq_true_eq] at hv'
    refine ⟨hVv, ?_, ?_⟩
    · have : 0 ≤ (val v).num := Rat.num_nonneg.2 (by rw [hval]; exact Rat.le_of_lt h0)
      rwa [(y5M hVv).1] at this
    · refine Int.not_lt.1 fun h => ?_
      have h1 : WZ 4000 < val v := yao (by omega) h
      have h2 := y4W (show (800 : Int) ≤ 4000 by omega)
      rw [hval] at h1
      grind
  · obtain ⟨p, h1, h2, h3, rfl⟩ := hq
    have := hP (ofQ (bp p)) ((hr _).2 ⟨p, ⟨h1, h2⟩, decide_eq_true h3, rfl⟩)
    rwa [yQ] at this
theorem cy {a b : List B} {s : SV} {j L : Int} (ha : SC a) (hb : SC b) (h : SJ s j L) : CY (fun (x : R) (s' : Nat × List R × Int) => chk (s'.1 = 0) (y1a [a, b] s x s'.2.1 s'.2.2)) encQ (stQ (y4X a b s)) IQ 4000 := by
  intro p h0 h1 st hI
  obtain ⟨ev, ef⟩ := value1 (p := p) ha hb h ⟨h0, h1⟩
  cases st with
  | none =>
    refine ⟨?_, fun m hm => ?_⟩
    · refine Eq.trans (yq (show (encQ none).1 = 0 from rfl)) ?_
      show y1a [a, b] s ⟨p, 1⟩ [] 0 = _
      unfold y1a
      rw [ev, Option.bind_some, if_pos (by simp), Option.bind_some, if_pos rfl]
      rfl
    · have : some ((y4X a b s) p) = some m := hm
      cases this; exact ef
  | some m0 =>
    have f0 := hI m0 rfl
    refine ⟨?_, fun m hm => ?_⟩
    · refine Eq.trans (yq (show (encQ (some m0)).1 = 0 from rfl)) ?_
      show y1a [a, b] s ⟨p, 1⟩ [ofQ m0] 0 = _
      unfold y1a
      rw [ev, Option.bind_some, if_neg (by simp), yq (by simp)]
      show Option.bind (Option.bind (yO (ofQ ((y4X a b s) p)) (ofQ m0)) _) _ = _
      rw [y34 (y1z ef) (y1z f0), yQ, yQ, Option.bind_some, Option.bind_some]
      simp only [stQ]
      by_cases hlt : m0 < (y4X a b s) p
      · rw [if_pos (decide_eq_true (y3X.2 hlt)), if_pos hlt]; rfl
      · rw [if_neg (fun h => hlt (y3X.1 (of_decide_eq_true h))), if_neg hlt]; rfl
    · simp only [stQ] at hm
      split at hm
      · cases hm; exact ef
      · exact hI m hm
theorem check_ab {a b : List B} {s : SV} {c : List (List B)} {t : SV} {m : List R} {d1 d2 : B} (ha : SC a) (hb : SC b) (hs : VS s = true) (e1 : y1m a = some (d1.fR, 0)) (e2 : y1m b = some (d2.fR, 0)) (g1 : d1 ∈ a) (g2 : d2 ∈ b) :
    y2b [a, b] s c t m = some (if RS s < rq d1 + rq d2 then 6 else 0) := by
  obtain ⟨r1, b1, _⟩ := y2S ha
  obtain ⟨r2, b2, _⟩ := y2S hb
  have s1 := ha.2.2 d1 g1; have s2 := hb.2.2 d2 g2
  have h1 := s1.1; have h2 := s2.1
  have hf : fits (rq d1 + rq d2) = true := (s1.2.2.add (by omega) s2.2.2).fits (by omega) (by omega) (by omega)
  unfold y2b
  have hF : 3 ≤ yw := by rw [y2g]; omega
  have q1 : yP [a, b] (fun y0 => yB y0) = some ([a, b].any fun c => !VC c) :=
    y4A (y5C (L := fun k => yA [a, b] (fun y0 => yB y0) k) (fun _ _ _ => rfl) (fun x _ => by unfold yB; rw [y4z]; rfl) (by simp))
  have q2 : ([a, b].any fun c => !VC c) = false := by simp [ha.VC, hb.VC]
  rw [if_neg (by simp), q1, q2, y8H, hs, y60]
  simp only [Option.bind_some, Bool.not_true, Bool.false_eq_true, if_false]
  refine y9i (P := fun o => o = _) fun k hk => ?_
  have e0 : val ⟨0, 1⟩ + val d1.fR = rq d1 := by rw [y74, Rat.zero_add]; rfl
  have e12 : val d1.fR + val d2.fR = rq d1 + rq d2 := rfl
  have step : ∀ n : Nat, yZ [a, b] k (n + 3) 0 0 0 1 = k 0 (ofQ (rq d1 + rq d2)).fN (ofQ (rq d1 + rq d2)).fD := by
    intro n
    have n0 : nth ([a, b] : List (List B)) 0 = a := rfl
    have n1 : nth ([a, b] : List (List B)) 1 = b := rfl
    rw [yZ, if_pos (by simp), yq (by simp), n0, b1, Option.bind_some, if_neg (by simp), e1, Option.bind_some]
    simp only []
    have a1 := y3S (f := fun y0 y1 => y15 y0 y1) (y3R y8h (y1G (y35 h1)))
    rw [e0, show fits (rq d1) = true from y98 (y1G (y35 h1)), if_pos rfl, show ofQ (rq d1) = d1.fR from y5Z (y1G (y35 h1))] at a1
    rw [a1, Option.bind_some, yv (x := 0 + 1) (by omega), show (0 : Int) + 1 = 1 from rfl]
    rw [yZ, if_pos (by simp), yq (by simp), n1, b2, Option.bind_some, if_neg (by simp), e2, Option.bind_some]
    simp only []
    have a2 := y3S (f := fun y0 y1 => y15 y0 y1) (y3R (y1G (y35 h1)) (y1G (y35 h2)))
    rw [e12, hf, if_pos rfl] at a2
    refine (congrArg (fun o => Option.bind o _) a2).trans ?_
    rw [Option.bind_some, yv (x := 1 + 1) (by omega), yZ, if_neg (by simp)]
  obtain ⟨n, hn⟩ : ∃ n, yw = n + 3 := ⟨yw - 3, by omega⟩
  rw [hn, step n, hk, if_pos (by simp)]
  show Option.bind (Option.bind (yO (ofQ (rq d1 + rq d2)) s.fR) _) _ = _
  rw [y34 (y1z hf) (VS_r hs).1, yQ, Option.bind_some, Option.bind_some]
  have ec : y2C (rq d1 + rq d2) (val s.fR) = y2C (rq d1 + rq d2) (RS s) := rfl
  rw [ec]
  by_cases h : RS s < rq d1 + rq d2
  · rw [if_pos h, if_pos (decide_eq_true (y3X.2 h))]
  · rw [if_neg h, if_neg (fun h' => h (y3X.1 (of_decide_eq_true h')))]
theorem Delay_ab {a b : List B} {s : SV} {j L : Int} {d1 d2 : B} (ha : SC a) (hb : SC b) (h : SJ s j L) (e1 : y1m a = some (d1.fR, 0)) (e2 : y1m b = some (d2.fR, 0)) (g1 : d1 ∈ a) (g2 : d2 ∈ b) :
    (RS s < rq d1 + rq d2 ∧ y25 [a, b] s = some (⟨0, 0⟩, 6)) ∨ (¬ RS s < rq d1 + rq d2 ∧ ∃ (P : List Int) (m : Rat), y25 [a, b] s = some (ofQ m, 0) ∧ fits m = true ∧ 0 ∈ P ∧ (∀ p ∈ P, 0 ≤ p ∧ p ≤ 4000) ∧ (∀ q, isBp a q → y14 P q) ∧ (∀ q, isBp b q → y14 P q) ∧ (∀ q ∈ ([] : List R), y14 P (val q)) ∧ (∃ p ∈ P, m = (y4X a b s) p) ∧ ∀ p ∈ P, (y4X a b s) p ≤ m) := by
  obtain ⟨ra, ba, ca, ka⟩ := y2S ha
  obtain ⟨rb, bb, cb, kb⟩ := y2S hb
  unfold y25 y2W
  rw [check_ab ha hb h.vs.1 e1 e2 g1 g2, Option.bind_some]
  by_cases hc : RS s < rq d1 + rq d2
  · left
    rw [if_pos hc, if_pos (by decide)]
    exact ⟨hc, rfl⟩
  · right
    refine ⟨hc, ?_⟩
    rw [if_neg hc, if_neg (by decide)]
    have hmore : BR 4000 ([] : List R) := by
      refine ⟨by simp, fun x hx => ?_⟩
      have hL := h.2.2
      have eL : s.fLatency = ⟨L, 1⟩ := by rw [h.1]
      first
        | (simp at hx; done)
        | (simp at hx
           rw [hx, eL]
           exact ⟨y1G (y5Q (by omega)), hL.1, by show L ≤ 4000 * 1; omega⟩)
    have I0 : IQ none := fun m hm => by cases hm
    have hkey : ∀ (o : Option (R × Int)) (x : R × Int), o = some x → (o.bind fun y => some (y.1, y.2)) = some x := by
      intro o x h; rw [h]; rfl
    unfold y2x
    obtain ⟨P, eP, p0, p1, pa, pb, pm⟩ := pts_all (t := ⟨⟨s.fR.fN, s.fR.fD⟩, ⟨s.fLatency.fN, s.fLatency.fD⟩⟩) (t' := s) (c := [a, b]) (cy ha hb h) ba bb ca cb hmore (by omega) I0
    obtain ⟨m, em, m1, _, m2⟩ := y82 (y4X a b s) P none (.inr (List.ne_nil_of_mem p0))
    have fm := y6m (cy ha hb h) P none p1 I0 m em
    refine ⟨P, m, ?_, fm, p0, p1, ka P pa, kb P pb, pm, ?_, m2⟩
    · apply hkey
      refine y5p (P := fun o => o = _) fun k hk => ?_
      rw [Option.bind_some]
      refine (congrArg (fun o => Option.bind o _) eP).trans ?_
      rw [em, Option.bind_some, hk]
      show (if decide ((0 : Int) ≠ 0) then _ else chk ((0 : Int) ≤ 0 ∧ 0 < ((([ofQ m] : List R).length : Nat) : Int)) _) = _
      rw [if_neg (by simp), yq (by simp)]
      rfl
    · rcases m1 with h | h
      · cases h
      · exact h
theorem cyb {a b : List B} {s : SV} {j L : Int} (ha : SC a) (hb : SC b) (h : SJ s j L) : CY (fun (x : R) (s' : Nat × List R × Int) => chk (s'.1 = 0) (y13 [a, b] s x s'.2.1 s'.2.2)) encQ (stQ (y4b a b s L)) IQ 4000 := by
  intro p h0 h1 st hI
  obtain ⟨ev, ef⟩ := value2 (p := p) ha hb h ⟨h0, h1⟩
  cases st with
  | none =>
    refine ⟨?_, fun m hm => ?_⟩
    · refine Eq.trans (yq (show (encQ none).1 = 0 from rfl)) ?_
      show y13 [a, b] s ⟨p, 1⟩ [] 0 = _
      unfold y13
      rw [ev, Option.bind_some, if_pos (by simp), Option.bind_some, if_pos rfl]
      rfl
    · have : some ((y4b a b s L) p) = some m := hm
      cases this; exact ef
  | some m0 =>
    have f0 := hI m0 rfl
    refine ⟨?_, fun m hm => ?_⟩
    · refine Eq.trans (yq (show (encQ (some m0)).1 = 0 from rfl)) ?_
      show y13 [a, b] s ⟨p, 1⟩ [ofQ m0] 0 = _
      unfold y13
      rw [ev, Option.bind_some, if_neg (by simp), yq (by simp)]
      show Option.bind (Option.bind (yO (ofQ ((y4b a b s L) p)) (ofQ m0)) _) _ = _
      rw [y34 (y1z ef) (y1z f0), yQ, yQ, Option.bind_some, Option.bind_some]
      simp only [stQ]
      by_cases hlt : m0 < (y4b a b s L) p
      · rw [if_pos (decide_eq_true (y3X.2 hlt)), if_pos hlt]; rfl
      · rw [if_neg (fun h => hlt (y3X.1 (of_decide_eq_true h))), if_neg hlt]; rfl
    · simp only [stQ] at hm
      split at hm
      · cases hm; exact ef
      · exact hI m hm
theorem yap {a b : List B} {s : SV} {c : List (List B)} {t : SV} {m : List R} {d1 d2 : B} (ha : SC a) (hb : SC b) (hs : VS s = true) (e1 : y1m a = some (d1.fR, 0)) (e2 : y1m b = some (d2.fR, 0)) (g1 : d1 ∈ a) (g2 : d2 ∈ b) :
    y26 [a, b] s c t m = some (if RS s < rq d1 + rq d2 then 6 else 0) := by
  obtain ⟨r1, b1, _⟩ := y2S ha
  obtain ⟨r2, b2, _⟩ := y2S hb
  have s1 := ha.2.2 d1 g1; have s2 := hb.2.2 d2 g2
  have h1 := s1.1; have h2 := s2.1
  have hf : fits (rq d1 + rq d2) = true := (s1.2.2.add (by omega) s2.2.2).fits (by omega) (by omega) (by omega)
  unfold y26
  have hF : 3 ≤ yw := by rw [y2g]; omega
  have q1 : yP [a, b] (fun y0 => yB y0) = some ([a, b].any fun c => !VC c) :=
    y4A (y5C (L := fun k => yA [a, b] (fun y0 => yB y0) k) (fun _ _ _ => rfl) (fun x _ => by unfold yB; rw [y4z]; rfl) (by simp))
  have q2 : ([a, b].any fun c => !VC c) = false := by simp [ha.VC, hb.VC]
  rw [if_neg (by simp), q1, q2, y8H, hs, y60]
  simp only [Option.bind_some, Bool.not_true, Bool.false_eq_true, if_false]
  refine y9i (P := fun o => o = _) fun k hk => ?_
  have e0 : val ⟨0, 1⟩ + val d1.fR = rq d1 := by rw [y74, Rat.zero_add]; rfl
  have e12 : val d1.fR + val d2.fR = rq d1 + rq d2 := rfl
  have step : ∀ n : Nat, yW [a, b] k (n + 3) 0 0 0 1 = k 0 (ofQ (rq d1 + rq d2)).fN (ofQ (rq d1 + rq d2)).fD := by
    intro n
    have n0 : nth ([a, b] : List (List B)) 0 = a := rfl
    have n1 : nth ([a, b] : List (List B)) 1 = b := rfl
    rw [yW, if_pos (by simp), yq (by simp), n0, b1, Option.bind_some, if_neg (by simp), e1, Option.bind_some]
    simp only []
    have a1 := y3S (f := fun y0 y1 => y15 y0 y1) (y3R y8h (y1G (y35 h1)))
    rw [e0, show fits (rq d1) = true from y98 (y1G (y35 h1)), if_pos rfl, show ofQ (rq d1) = d1.fR from y5Z (y1G (y35 h1))] at a1
    rw [a1, Option.bind_some, yv (x := 0 + 1) (by omega), show (0 : Int) + 1 = 1 from rfl]
    rw [yW, if_pos (by simp), yq (by simp), n1, b2, Option.bind_some, if_neg (by simp), e2, Option.bind_some]
    simp only []
    have a2 := y3S (f := fun y0 y1 => y15 y0 y1) (y3R (y1G (y35 h1)) (y1G (y35 h2)))
    rw [e12, hf, if_pos rfl] at a2
    refine (congrArg (fun o => Option.bind o _) a2).trans ?_
    rw [Option.bind_some, yv (x := 1 + 1) (by omega), yW, if_neg (by simp)]
  obtain ⟨n, hn⟩ : ∃ n, yw = n + 3 := ⟨yw - 3, by omega⟩
  rw [hn, step n, hk, if_pos (by simp)]
  show Option.bind (Option.bind (yO (ofQ (rq d1 + rq d2)) s.fR) _) _ = _
  rw [y34 (y1z hf) (VS_r hs).1, yQ, Option.bind_some, Option.bind_some]
  have ec : y2C (rq d1 + rq d2) (val s.fR) = y2C (rq d1 + rq d2) (RS s) := rfl
  rw [ec]
  by_cases h : RS s < rq d1 + rq d2
  · rw [if_pos h, if_pos (decide_eq_true (y3X.2 h))]
  · rw [if_neg h, if_neg (fun h' => h (y3X.1 (of_decide_eq_true h')))]
theorem y8i {a b : List B} {s : SV} {j L : Int} {d1 d2 : B} (ha : SC a) (hb : SC b) (h : SJ s j L) (e1 : y1m a = some (d1.fR, 0)) (e2 : y1m b = some (d2.fR, 0)) (g1 : d1 ∈ a) (g2 : d2 ∈ b) :
    (RS s < rq d1 + rq d2 ∧ y27 [a, b] s = some (⟨0, 0⟩, 6)) ∨ (¬ RS s < rq d1 + rq d2 ∧ ∃ (P : List Int) (m : Rat), y27 [a, b] s = some (ofQ m, 0) ∧ fits m = true ∧ 0 ∈ P ∧ (∀ p ∈ P, 0 ≤ p ∧ p ≤ 4000) ∧ (∀ q, isBp a q → y14 P q) ∧ (∀ q, isBp b q → y14 P q) ∧ (∀ q ∈ ([s.fLatency] : List R), y14 P (val q)) ∧ (∃ p ∈ P, m = (y4b a b s L) p) ∧ ∀ p ∈ P, (y4b a b s L) p ≤ m) := by
  obtain ⟨ra, ba, ca, ka⟩ := y2S ha
  obtain ⟨rb, bb, cb, kb⟩ := y2S hb
  unfold y27 y2O
  rw [yap ha hb h.vs.1 e1 e2 g1 g2, Option.bind_some]
  by_cases hc : RS s < rq d1 + rq d2
  · left
    rw [if_pos hc, if_pos (by decide)]
    exact ⟨hc, rfl⟩
  · right
    refine ⟨hc, ?_⟩
    rw [if_neg hc, if_neg (by decide)]
    have hmore : BR 4000 ([s.fLatency] : List R) := by
      refine ⟨by simp, fun x hx => ?_⟩
      have hL := h.2.2
      have eL : s.fLatency = ⟨L, 1⟩ := by rw [h.1]
      first
        | (simp at hx; done)
        | (simp at hx
           rw [hx, eL]
           exact ⟨y1G (y5Q (by omega)), hL.1, by show L ≤ 4000 * 1; omega⟩)
    have I0 : IQ none := fun m hm => by cases hm
    have hkey : ∀ (o : Option (R × Int)) (x : R × Int), o = some x → (o.bind fun y => some (y.1, y.2)) = some x := by
      intro o x h; rw [h]; rfl
    unfold y2r
    obtain ⟨P, eP, p0, p1, pa, pb, pm⟩ := pts_allb (t := ⟨⟨s.fR.fN, s.fR.fD⟩, ⟨s.fLatency.fN, s.fLatency.fD⟩⟩) (t' := s) (c := [a, b]) (cyb ha hb h) ba bb ca cb hmore (by omega) I0
    obtain ⟨m, em, m1, _, m2⟩ := y82 (y4b a b s L) P none (.inr (List.ne_nil_of_mem p0))
    have fm := y6m (cyb ha hb h) P none p1 I0 m em
    refine ⟨P, m, ?_, fm, p0, p1, ka P pa, kb P pb, pm, ?_, m2⟩
    · apply hkey
      refine y5p (P := fun o => o = _) fun k hk => ?_
      rw [Option.bind_some]
      refine (congrArg (fun o => Option.bind o _) eP).trans ?_
      rw [em, Option.bind_some, hk]
      show (if decide ((0 : Int) ≠ 0) then _ else chk ((0 : Int) ≤ 0 ∧ 0 < ((([ofQ m] : List R).length : Nat) : Int)) _) = _
      rw [if_neg (by simp), yq (by simp)]
      rfl
    · rcases m1 with h | h
      · cases h
      · exact h
end Go.Proofs.Ytakfmdiiehcbdaa

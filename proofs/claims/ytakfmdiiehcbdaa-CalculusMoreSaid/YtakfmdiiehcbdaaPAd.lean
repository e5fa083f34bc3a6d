/- A part of this claim's proof: models of functions, walks, plain laws. No conditions. -/
import Derived.Test.YtakfmdiiehcbdaaPAc
namespace Go.Proofs.Ytakfmdiiehcbdaa
open Go Go.RowKit Sep
set_option linter.all false
namespace Ab
theorem y8A {a b q : Rat} (h : a ≤ b) (hq : 0 < q) : a / q ≤ b / q := by
 refine Rat.not_lt.1 fun hlt => ?_
 have h1 := Rat.mul_lt_mul_of_pos_right hlt hq
 rw [Rat.div_mul_cancel (by grind), Rat.div_mul_cancel (by grind)] at h1
 grind
theorem yaA {a q : Rat} (h : 0 ≤ a) (hq : 0 < q) : 0 ≤ a / q := by
 have := y8A h hq
 rwa [Rat.div_def, Rat.zero_mul] at this
theorem y8g {n : Int} (h : 0 ≤ n ∧ n ≤ 1073741824) : GR ⟨n, 1⟩ = true := by
 unfold GR V
 rw [Bool.and_eq_true, decide_eq_true_eq, decide_eq_true_eq]
 exact ⟨⟨by show (1 : Int) ≤ 1; omega, by show (1 : Int) ≤ 1073741824; omega, by show -1073741824 ≤ n; omega, by show n ≤ 1073741824; omega, Nat.gcd_one_right _⟩, h.1⟩
def SS2 (s : SV) (j d : Int) : Prop := VS s = true ∧ RS s = Rat.divInt j 8 ∧ LS s = Rat.divInt d 1
theorem rate_ok8 {r : Int} (hr : 0 ≤ r ∧ r ≤ 255) : y1U (i64 (1 + (Int.tmod (i64 r) 160))) 8 = some (ofQ (Rat.divInt (1 + r % 160) 8), 0) := by
 rw [yr (x := r) (by omega), y6P hr.1, yr (by omega), y4G (by decide) (by omega), y5U (y2r (by decide) (by omega))]
theorem yaY {j d : Int} (hj : 1 ≤ j ∧ j ≤ 160) (hd : 0 ≤ d ∧ d ≤ 510) : SS2 ⟨ofQ (Rat.divInt j 8), ⟨d, 1⟩⟩ j d := by
 have f := y2r (n := j) (d := 8) (by decide) (by omega)
 have g := y8g (n := d) (by omega)
 refine ⟨?_, y12 _, rfl⟩
 unfold VS
 simp only [Bool.and_eq_true, decide_eq_true_eq]
 refine ⟨⟨⟨y1G f, ?_⟩, y2j g⟩, hd.1⟩
 show 0 < (Rat.divInt j 8).num
 rw [Rat.num_divInt, show (8 : Int).sign = 1 from rfl, Int.one_mul]
 have h1 : (Int.gcd 8 j : Int) ∣ j := Int.gcd_dvd_right ..
 have h2 : 0 < Int.gcd 8 j := Int.gcd_pos_of_ne_zero_left _ (by decide)
 exact Int.ediv_pos_of_pos_of_dvd (by omega) (by omega) h1
end Ab
open Ab
/-! ### total of two curves -/
theorem WZ_G {p : Int} {M : Nat} (h : p.natAbs ≤ M) : G M 1 (WZ p) := ⟨p, by omega, rfl⟩
theorem SC.fitk {c : List B} {M : Nat} {t : Rat} (h : SC c) (hM : M ≤ 4000) (ht : G M 1 t) : ∀ x ∈ c, y6g t x = true := by
 intro x hx
 obtain ⟨h1, h2⟩ := (h.2.2 x hx).valk (by omega) ht
 unfold y6g
 rw [Bool.and_eq_true]
 exact ⟨h1.fits (by omega) (by omega) (by omega), h2.fits (by omega) (by omega) (by omega)⟩
theorem SC.atG {c : List B} {M : Nat} {t : Rat} (h : SC c) (ht : G M 1 t) : G (100 + 5 * M) 8 (AT c t) := by
 obtain ⟨x, hx, e⟩ := AT_ex h.ne t
 rw [e]
 exact ((h.2.2 x hx).valk (by omega) ht).2
theorem SC.at_pos {c : List B} {t : Rat} (h : SC c) (ht : 0 ≤ t) : 0 ≤ AT c t := by
 obtain ⟨x, hx, e⟩ := AT_ex h.ne t
 rw [e]
 exact vq_pos (h.all x hx) ht
theorem y7S {p : Int} (h : 0 ≤ p ∧ p ≤ 4000) : GR ⟨p, 1⟩ = true := y8g (by omega)
theorem at_sc {c : List B} {p : Int} (hc : SC c) (hp : 0 ≤ p ∧ p ≤ 4000) : y3i c ⟨p, 1⟩ = some (ofQ (AT c (WZ p)), 0) :=
 at_ok hc.VC (y7S hp) (hc.fitk (M := 4000) (by omega) (show G 4000 1 (WZ p) from WZ_G (p := p) (by omega)))
def SJ (s : SV) (j L : Int) : Prop := s = ⟨ofQ (Rat.divInt j 8), ⟨L, 1⟩⟩ ∧ (1 ≤ j ∧ j ≤ 160) ∧ 0 ≤ L ∧ L ≤ 100
theorem SJ.vs {s : SV} {j L : Int} (h : SJ s j L) : VS s = true ∧ RS s = Rat.divInt j 8 ∧ LS s = WZ L := by
 obtain ⟨e, h1, h2⟩ := h
 rw [e]
 exact yaY h1 (by omega)
theorem WZ_Gk {p : Int} {M k : Nat} (hk : 0 < k) (h : p.natAbs ≤ M) : G M k (WZ p) := by
 have := (WZ_G h).fine k hk
 rwa [Nat.one_mul] at this
/-! ### the greatest -/
def encQ : Option Rat → Nat × List R × Int
 | none => (0, [], 0)
 | some m => (0, [ofQ m], 0)
def stQ (φ : Int → Rat) : Option Rat → Int → Option Rat
 | none, p => some (φ p)
 | some m, p => if m < φ p then some (φ p) else some m
def IQ (s : Option Rat) : Prop := ∀ m, s = some m → fits m = true
theorem y8h (φ : Int → Rat) : ∀ (P : List Int) (s : Option Rat), (s.isSome = true ∨ P ≠ []) → ∃ m, P.foldl (stQ φ) s = some m ∧ (s = some m ∨ ∃ p ∈ P, m = φ p) ∧ (∀ m0, s = some m0 → m0 ≤ m) ∧ ∀ p ∈ P, φ p ≤ m
 | [], s, h => by
  cases s with
  | none => simp at h
  | some m => exact ⟨m, rfl, .inl rfl, fun m0 h => by cases h; exact Rat.le_refl, by simp⟩
 | p :: P, s, h => by
  have hs : (stQ φ s p).isSome = true := by
   cases s with
   | none => rfl
   | some m => simp only [stQ]; split <;> rfl
  obtain ⟨m, e, h1, h2, h3⟩ := y8h φ P (stQ φ s p) (.inl hs)
  refine ⟨m, e, ?_, ?_, ?_⟩
  ·rcases h1 with h1 | ⟨q, hq, h1⟩
   ·cases s with
    | none => exact .inr ⟨p, by simp, by have : some (φ p) = some m := h1; cases this; rfl⟩
    | some m0 =>
     simp only [stQ] at h1
     split at h1
     ·cases h1; exact .inr ⟨p, by simp, rfl⟩
     ·exact .inl h1
   ·exact .inr ⟨q, List.mem_cons_of_mem _ hq, h1⟩
  ·intro m0 hm
   subst hm
   simp only [stQ] at h2
   split at h2
   ·rename_i hlt
    have := h2 _ rfl; grind
   ·exact h2 _ rfl
  ·intro q hq
   rcases List.mem_cons.1 hq with rfl | hq
   ·cases s with
    | none => exact h2 _ rfl
    | some m0 =>
     simp only [stQ] at h2
     split at h2
     ·exact h2 _ rfl
     ·rename_i hlt
      have := h2 _ rfl
      have := Rat.not_lt.1 hlt
      grind
   ·exact h3 q hq
/-! ### breakpoints of small curves -/
theorem yaZ {f N D : Int} (hD : 0 < D) (h : f * D < N) : WZ f < Rat.divInt N D := by
 have h1 : (0 : Rat) < Rat.divInt (N - f * D) D := y6G (by omega) hD
 have h2 : Rat.divInt N D - WZ f = Rat.divInt (N - f * D) D := by
  unfold WZ
  rw [Rat.divInt_sub_divInt _ _ (by omega) (by decide)]
  congr 1 <;> omega
 grind
theorem y3y {c : List B} (hc : SC c) : ∃ r, yB c = some (r, 0) ∧ BR 4000 r ∧ ∀ P : List Int, (∀ q ∈ r, y18 P (val q)) → ∀ q, y6j c q → y18 P q := by
 obtain ⟨r, e, hi, hr, hV, hl⟩ := hc.breaks
 refine ⟨r, e, ⟨by omega, fun v hv => ?_⟩, fun P hP q hq => ?_⟩
 ·have hVv := hV v hv
  obtain ⟨p, hp, hb, ev⟩ := (hr v).1 hv
  have hlt : bq p.1 < bq p.2 := of_decide_eq_true hb
  have hro := y6x y3O hp.1 hp.2 hlt
  have hD : 0 < bpD p := by unfold bpD; grind
  have s1 := hc.2.2 _ (y6h hp.1); have s2 := hc.2.2 _ (y6h hp.2)
  have h0 : 0 < bp p := bp_gt hD (by unfold vq; grind)
  have em := y7B hD
  -- the difference of rates is at least 1/8, the bursts are at most 100
  have hd8 : Rat.divInt 1 8 ≤ bpD p := by
   obtain ⟨j, hj, ej⟩ := s1.2.2.sub (by omega) s2.2.2
   have ej : bpD p = Rat.divInt j 8 := ej
   have hj1 : 1 ≤ j := by
    refine Int.not_lt.1 fun h => ?_
    have : (0 : Rat) ≤ Rat.divInt (-j) 8 := Rat.divInt_nonneg (by omega) (by decide)
    rw [← Rat.neg_divInt, ← ej] at this
    grind
   have h1 : (0 : Rat) ≤ Rat.divInt (j - 1) 8 := Rat.divInt_nonneg (by omega) (by decide)
   have h2 : Rat.divInt j 8 = Rat.divInt 1 8 + Rat.divInt (j - 1) 8 := by
    rw [Rat.divInt_add_divInt _ _ (by decide) (by decide), show 1 * 8 + (j - 1) * 8 = j * (8 : Int) by omega, Rat.divInt_mul_right (by decide)]
   rw [ej, h2]; grind
  have hA : bpA p ≤ WZ 100 := by
   obtain ⟨n, hn, en⟩ := s2.2.1
   have h1 := s1.pos.1
   have h2 : bq p.2 ≤ WZ 100 := by
    have : bq p.2 = WZ n := en
    rw [this]; exact y4d (by omega)
   unfold bpA; grind
  have h800 : bp p ≤ WZ 800 := by
   refine Rat.not_lt.1 fun h => ?_
   have m1 := Rat.mul_lt_mul_of_pos_right h hD
   have m2 := Rat.mul_le_mul_of_nonneg_left hd8 (y3z (n := 800) (by omega))
   have e8 : WZ 800 * Rat.divInt 1 8 = WZ 100 := by decide +kernel
   rw [e8] at m2
   rw [em] at m1
   grind
  have hval : val v = bp p := by rw [ev, y12]
  have hv' := hVv
  simp only [V, decide_eq_true_eq] at hv'
  refine ⟨hVv, ?_, ?_⟩
  ·have : 0 ≤ (val v).num := Rat.num_nonneg.2 (by rw [hval]; exact Rat.le_of_lt h0)
   rwa [(y5J hVv).1] at this
  ·refine Int.not_lt.1 fun h => ?_
   have h1 : WZ 4000 < val v := yaZ (by omega) h
   have h2 := y4d (show (800 : Int) ≤ 4000 by omega)
   rw [hval] at h1
   grind
 ·obtain ⟨p, h1, h2, h3, rfl⟩ := hq
  have := hP (ofQ (bp p)) ((hr _).2 ⟨p, ⟨h1, h2⟩, decide_eq_true h3, rfl⟩)
  rwa [y12] at this
end Go.Proofs.Ytakfmdiiehcbdaa

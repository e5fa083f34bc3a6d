/- A part of this claim's proof: models of functions, walks, plain laws. No conditions. -/
import Derived.Test.YtakfmdiiehcbdaaPAb
namespace Go.Proofs.Ytakfmdiiehcbdaa
open Go Go.RowKit Sep
set_option linter.all false
theorem SB.valk {b : B} {m k : Nat} (hk : 0 < k) {t : Rat} (h : SB b) (ht : G m k t) : G (5 * m) (8 * k) (rq b * t) ∧ G (100 + 5 * m) (8 * k) (vq t b) := by
 have h1 := h.2.2.mul ht
 refine ⟨h1, ?_⟩
 have h2 := h.2.1.fine (8 * k) (by omega)
 rw [Nat.one_mul] at h2
 exact h2.add (by omega) h1
theorem y6G {n d : Int} (hn : 0 < n) (hd : 0 < d) : (0 : Rat) < Rat.divInt n d := by
 have h0 : (0 : Rat) ≤ Rat.divInt n d := Rat.divInt_nonneg (by omega) (by omega)
 refine Rat.not_le.1 fun h => ?_
 have e : Rat.divInt n d = Rat.divInt 0 d := by rw [Rat.zero_divInt]; exact Rat.le_antisymm h h0
 have := (Rat.divInt_eq_divInt_iff (by omega) (by omega)).1 e
 rw [Int.zero_mul] at this
 have := Int.mul_pos hn hd
 omega
theorem yaW {f N D : Int} (hD : 0 < D) (h : f * D ≤ N) : WZ f ≤ Rat.divInt N D := by
 have h1 : (0 : Rat) ≤ Rat.divInt (N - f * D) D := Rat.divInt_nonneg (by omega) (by omega)
 have h2 : Rat.divInt N D - WZ f = Rat.divInt (N - f * D) D := by
  unfold WZ
  rw [Rat.divInt_sub_divInt _ _ (by omega) (by decide)]
  congr 1 <;> omega
 grind
theorem yaX {f N D : Int} (hD : 0 < D) (h : N < f * D) : Rat.divInt N D < WZ f := by
 have h1 : (0 : Rat) < Rat.divInt (f * D - N) D := y6G (by omega) hD
 have h2 : WZ f - Rat.divInt N D = Rat.divInt (f * D - N) D := by
  unfold WZ
  rw [Rat.divInt_sub_divInt _ _ (by decide) (by omega)]
  congr 1 <;> omega
 grind
theorem yaz {N D : Int} (hD : 0 < D) : ∃ f : Int, (f = if Int.tmod N D < 0 then Int.tdiv N D - 1 else Int.tdiv N D) ∧ f * D ≤ N ∧ N < (f + 1) * D := by
 have h1 := Int.mul_tdiv_add_tmod N D
 have h2 : Int.tmod N D < D := Int.tmod_lt_of_pos N hD
 have h3 : -D < Int.tmod N D := by
  have h4 := Int.tmod_lt_of_pos (-N) hD
  rw [Int.neg_tmod] at h4
  omega
 by_cases h : Int.tmod N D < 0
 ·refine ⟨_, rfl, ?_⟩
  rw [if_pos h]
  have e1 : (Int.tdiv N D - 1) * D = D * Int.tdiv N D - D := by rw [Int.sub_mul, Int.one_mul, Int.mul_comm]
  have e2 : (Int.tdiv N D - 1 + 1) * D = D * Int.tdiv N D := by rw [Int.sub_add_cancel, Int.mul_comm]
  rw [e1, e2]
  omega
 ·refine ⟨_, rfl, ?_⟩
  rw [if_neg h]
  have e1 : Int.tdiv N D * D = D * Int.tdiv N D := Int.mul_comm _ _
  have e2 : (Int.tdiv N D + 1) * D = D * Int.tdiv N D + D := by rw [Int.add_mul, Int.one_mul, Int.mul_comm]
  rw [e1, e2]
  omega
theorem fl_bd {f N D : Int} (hD : 1 ≤ D) (hN : -1073741824 ≤ N ∧ N ≤ 1073741824) (h1 : f * D ≤ N) (h2 : N < (f + 1) * D) : -1073741824 ≤ f ∧ f ≤ 1073741824 := by
 constructor
 ·refine Int.not_lt.1 fun h => ?_
  have := Int.mul_le_mul_of_nonneg_left hD (show 0 ≤ -(f + 1) by omega)
  have e : -(f + 1) * D = -((f + 1) * D) := Int.neg_mul _ _
  omega
 ·refine Int.not_lt.1 fun h => ?_
  have := Int.mul_le_mul_of_nonneg_left hD (show 0 ≤ f by omega)
  omega
theorem y9L {x : R} (hx : V x = true) : ∃ f : Int, y1F x = some f ∧ f * x.fD ≤ x.fN ∧ x.fN < (f + 1) * x.fD ∧ -1073741824 ≤ f ∧ f ≤ 1073741824 := by
 have hv := hx
 simp only [V, decide_eq_true_eq] at hv
 obtain ⟨f, hf, h1, h2⟩ := yaz (N := x.fN) (D := x.fD) (by omega)
 have hb := fl_bd hv.1 (by omega) h1 h2
 refine ⟨f, ?_, h1, h2, hb⟩
 unfold y1F
 rw [y2i, hx, Option.bind_some, if_neg (by simp), yn (by omega)]
 simp only [jp1]
 rw [yn (by omega)]
 have hq : -1073741824 ≤ Int.tdiv x.fN x.fD ∧ Int.tdiv x.fN x.fD ≤ 1073741825 := by
  by_cases h : Int.tmod x.fN x.fD < 0
  ·rw [if_pos h] at hf; omega
  ·rw [if_neg h] at hf; omega
 by_cases h : Int.tmod x.fN x.fD < 0
 ·rw [if_pos (decide_eq_true h), yr (x := Int.tdiv x.fN x.fD) (by omega), yr (by omega), hf, if_pos h]
 ·rw [if_neg (by simpa using h), yr (by omega), hf, if_neg h]
theorem ceil_eq {x : R} (hx : V x = true) : ∃ e : Int, y27 x = some e ∧ (e - 1) * x.fD < x.fN ∧ x.fN ≤ e * x.fD ∧ -1073741824 ≤ e ∧ e ≤ 1073741824 := by
 have hv := hx
 simp only [V, decide_eq_true_eq] at hv
 have hn : V ⟨-x.fN, x.fD⟩ = true := by
  unfold V
  rw [decide_eq_true_eq]
  refine ⟨hv.1, hv.2.1, by show -1073741824 ≤ -x.fN; omega, by show -x.fN ≤ 1073741824; omega, ?_⟩
  show Nat.gcd (-x.fN).natAbs x.fD.natAbs = 1
  rw [Int.natAbs_neg]; exact hv.2.2.2.2
 obtain ⟨f, ef, f1, f2, f3, f4⟩ := y9L hn
 have f1 : f * x.fD ≤ -x.fN := f1
 have f2 : -x.fN < (f + 1) * x.fD := f2
 refine ⟨-f, ?_, ?_, ?_, by omega, by omega⟩
 ·unfold y27
  rw [y2i, hx, Option.bind_some, if_neg (by simp), yr (x := 0 - x.fN) (by omega), show (0 : Int) - x.fN = -x.fN by omega, ef, Option.bind_some, yr (by omega)]
  congr 1; omega
 ·have e : (-f - 1) * x.fD = -((f + 1) * x.fD) := by rw [show -f - 1 = -(f + 1) by omega, Int.neg_mul]
  rw [e]; omega
 ·rw [Int.neg_mul]; omega
theorem y6A {x : R} (hx : V x = true) : ∃ f e : Int, y1F x = some f ∧ y27 x = some e ∧ y18 [f, e] (val x) ∧ f ≤ e ∧ (0 ≤ x.fN → 0 ≤ f) ∧ ∀ M : Int, x.fN ≤ M * x.fD → e ≤ M := by
 have hv := hx
 simp only [V, decide_eq_true_eq] at hv
 have hD : 0 < x.fD := by omega
 obtain ⟨f, ef, f1, f2, _⟩ := y9L hx
 obtain ⟨e, ee, e1, e2, _⟩ := ceil_eq hx
 refine ⟨f, e, ef, ee, ⟨⟨f, by simp, yaW hD f1, yaX hD f2⟩, ⟨e, by simp, ?_, ?_⟩⟩, ?_, fun h => ?_, fun M h => ?_⟩
 ·have h1 : (0 : Rat) < Rat.divInt (x.fN - (e - 1) * x.fD) x.fD := y6G (by omega) hD
  have h2 : val x - WZ (e - 1) = Rat.divInt (x.fN - (e - 1) * x.fD) x.fD := by
   unfold WZ val
   rw [Rat.divInt_sub_divInt _ _ (by omega) (by decide)]
   congr 1 <;> omega
  grind
 ·have h1 : (0 : Rat) ≤ Rat.divInt (e * x.fD - x.fN) x.fD := Rat.divInt_nonneg (by omega) (by omega)
  have h2 : WZ e - val x = Rat.divInt (e * x.fD - x.fN) x.fD := by
   unfold WZ val
   rw [Rat.divInt_sub_divInt _ _ (by decide) (by omega)]
   congr 1 <;> omega
  grind
 ·refine Int.not_lt.1 fun h => ?_
  have := Int.mul_le_mul_of_nonneg_right (show e + 1 ≤ f by omega) (show 0 ≤ x.fD by omega)
  have e3 : (e + 1) * x.fD = e * x.fD + x.fD := by rw [Int.add_mul, Int.one_mul]
  omega
 ·refine Int.not_lt.1 fun h' => ?_
  have := Int.mul_le_mul_of_nonneg_right (show f + 1 ≤ 0 by omega) (show 0 ≤ x.fD by omega)
  rw [Int.zero_mul] at this
  omega
 ·refine Int.not_lt.1 fun h' => ?_
  have := Int.mul_le_mul_of_nonneg_right (show M ≤ e - 1 by omega) (show 0 ≤ x.fD by omega)
  omega
theorem y1u {P Q : List Int} {q : Rat} (h : ∀ p ∈ P, p ∈ Q) (hb : y18 P q) : y18 Q q := by
 obtain ⟨⟨f, hf, f1⟩, ⟨e, he, e1⟩⟩ := hb
 exact ⟨⟨f, h f hf, f1⟩, ⟨e, h e he, e1⟩⟩
section pts
variable {Sg σ : Type} {y : R → Sg → Option (Bool × Sg)} {enc : σ → Sg} {st : σ → Int → σ} {I : σ → Prop} {M : Int}
def CY (y : R → Sg → Option (Bool × Sg)) (enc : σ → Sg) (st : σ → Int → σ) (I : σ → Prop) (M : Int) : Prop := ∀ p : Int, 0 ≤ p → p ≤ M → ∀ s, I s → y ⟨p, 1⟩ (enc s) = some (true, enc (st s p)) ∧ I (st s p)
def BR (M : Int) (r : List R) : Prop := (r.length : Int) ≤ 100000 ∧ ∀ x ∈ r, V x = true ∧ 0 ≤ x.fN ∧ x.fN ≤ M * x.fD
theorem y6k (hy : CY y enc st I M) : ∀ (P : List Int) (s : σ), (∀ p ∈ P, 0 ≤ p ∧ p ≤ M) → I s → I (P.foldl st s)
 | [], s, _, h => h
 | p :: P, s, hp, h => y6k hy P (st s p) (fun q hq => hp q (List.mem_cons_of_mem _ hq)) (hy p (hp p (by simp)).1 (hp p (by simp)).2 s h).2
theorem pts5k (hy : CY y enc st I M) {r : List R} (hr : BR M r) : ∀ (n : Nat) (v : Int) (s : σ), 0 ≤ v → v ≤ r.length → r.length < n + v → I s →
  ∃ P : List Int, (∀ k : Sg → Option Sg, yJ Sg (r, 0) y k n v (enc s) = k (enc (P.foldl st s))) ∧ (∀ p ∈ P, 0 ≤ p ∧ p ≤ M) ∧ ∀ q ∈ r.drop v.toNat, y18 P (val q)
 | 0, v, s, h0, h1, h2, hI => by omega
 | n + 1, v, s, h0, h1, h2, hI => by
  have hl := hr.1
  by_cases h : v < r.length
  ·obtain ⟨g1, g2, g3⟩ := hr.2 _ (y2A h0 h)
   obtain ⟨f, e, ef, ee, hb, hfe, hf0, hM⟩ := y6A g1
   have f0 := hf0 g2
   have eM := hM M g3
   obtain ⟨y1, i1⟩ := hy f f0 (by omega) s hI
   obtain ⟨y2, i2⟩ := hy e (by omega) eM _ i1
   obtain ⟨P, eP, p1, p2⟩ := pts5k hy hr n (v + 1) _ (by omega) (by omega) (by omega) i2
   refine ⟨f :: e :: P, fun k => ?_, fun p hp => ?_, fun q hq => ?_⟩
   ·rw [yJ, if_pos (decide_eq_true h), yn ⟨h0, h⟩]
    show Option.bind (y1F (nth r v)) _ = _
    rw [ef, Option.bind_some]
    unfold yW
    rw [Option.bind_some, y1, Option.bind_some, if_neg (by simp)]
    have e2 : (y27 (⟨(nth r v).fN, (nth r v).fD⟩ : R)) = some e := ee
    rw [e2, Option.bind_some, Option.bind_some, y2, Option.bind_some, Option.bind_some, if_neg (by simp), yr (by omega)]
    exact eP k
   ·rcases List.mem_cons.1 hp with rfl | hp
    ·omega
    ·rcases List.mem_cons.1 hp with rfl | hp
     ·omega
     ·exact p1 p hp
   ·rw [y3c h0 h] at hq
    rcases List.mem_cons.1 hq with rfl | hq
    ·exact y1u (fun p hp => by simp at hp; rcases hp with rfl | rfl <;> simp) hb
    ·exact y1u (fun p hp => by simp [hp]) (p2 q hq)
  ·refine ⟨[], fun k => ?_, by simp, ?_⟩
   ·rw [yJ, if_neg (by simpa using h)]; rfl
   ·rw [y3C h]; simp
theorem pts6k (hy : CY y enc st I M) {r : List R} (hr : BR M r) : ∀ (n : Nat) (v : Int) (s : σ), 0 ≤ v → v ≤ r.length → r.length < n + v → I s →
  ∃ P : List Int, (∀ k : Sg → Option Sg, yK Sg r y k n v (enc s) = k (enc (P.foldl st s))) ∧ (∀ p ∈ P, 0 ≤ p ∧ p ≤ M) ∧ ∀ q ∈ r.drop v.toNat, y18 P (val q)
 | 0, v, s, h0, h1, h2, hI => by omega
 | n + 1, v, s, h0, h1, h2, hI => by
  have hl := hr.1
  by_cases h : v < r.length
  ·obtain ⟨g1, g2, g3⟩ := hr.2 _ (y2A h0 h)
   obtain ⟨f, e, ef, ee, hb, hfe, hf0, hM⟩ := y6A g1
   have f0 := hf0 g2
   have eM := hM M g3
   obtain ⟨y1, i1⟩ := hy f f0 (by omega) s hI
   obtain ⟨y2, i2⟩ := hy e (by omega) eM _ i1
   obtain ⟨P, eP, p1, p2⟩ := pts6k hy hr n (v + 1) _ (by omega) (by omega) (by omega) i2
   refine ⟨f :: e :: P, fun k => ?_, fun p hp => ?_, fun q hq => ?_⟩
   ·rw [yK, if_pos (decide_eq_true h), yn ⟨h0, h⟩]
    show Option.bind (y1F (nth r v)) _ = _
    rw [ef, Option.bind_some]
    unfold yW
    rw [Option.bind_some, y1, Option.bind_some, if_neg (by simp)]
    have e2 : (y27 (⟨(nth r v).fN, (nth r v).fD⟩ : R)) = some e := ee
    rw [e2, Option.bind_some, Option.bind_some, y2, Option.bind_some, Option.bind_some, if_neg (by simp), yr (by omega)]
    exact eP k
   ·rcases List.mem_cons.1 hp with rfl | hp
    ·omega
    ·rcases List.mem_cons.1 hp with rfl | hp
     ·omega
     ·exact p1 p hp
   ·rw [y3c h0 h] at hq
    rcases List.mem_cons.1 hq with rfl | hq
    ·exact y1u (fun p hp => by simp at hp; rcases hp with rfl | rfl <;> simp) hb
    ·exact y1u (fun p hp => by simp [hp]) (p2 q hq)
  ·refine ⟨[], fun k => ?_, by simp, ?_⟩
   ·rw [yK, if_neg (by simpa using h)]; rfl
   ·rw [y3C h]; simp
theorem pts_ex (hy : CY y enc st I M) {r : List R} (hr : BR M r) {s : σ} (hI : I s) {N : Nat} (hN : 200000 ≤ N) : ∃ P : List Int, (∀ k : Sg → Option Sg, yJ Sg (r, 0) y k N 0 (enc s) = k (enc (P.foldl st s))) ∧ (∀ p ∈ P, 0 ≤ p ∧ p ≤ M) ∧ ∀ q ∈ r, y18 P (val q) := by
 have hl := hr.1
 exact pts5k hy hr N 0 s (by omega) (by omega) (by omega) hI
theorem pts_exm (hy : CY y enc st I M) {r : List R} (hr : BR M r) {s : σ} (hI : I s) {N : Nat} (hN : 200000 ≤ N) : ∃ P : List Int, (∀ k : Sg → Option Sg, yK Sg r y k N 0 (enc s) = k (enc (P.foldl st s))) ∧ (∀ p ∈ P, 0 ≤ p ∧ p ≤ M) ∧ ∀ q ∈ r, y18 P (val q) := by
 have hl := hr.1
 exact pts6k hy hr N 0 s (by omega) (by omega) (by omega) hI
theorem pts5kb (hy : CY y enc st I M) {r : List R} (hr : BR M r) : ∀ (n : Nat) (v : Int) (s : σ), 0 ≤ v → v ≤ r.length → r.length < n + v → I s →
  ∃ P : List Int, (∀ k : Sg → Option Sg, yD Sg (r, 0) y k n v (enc s) = k (enc (P.foldl st s))) ∧ (∀ p ∈ P, 0 ≤ p ∧ p ≤ M) ∧ ∀ q ∈ r.drop v.toNat, y18 P (val q)
 | 0, v, s, h0, h1, h2, hI => by omega
 | n + 1, v, s, h0, h1, h2, hI => by
  have hl := hr.1
  by_cases h : v < r.length
  ·obtain ⟨g1, g2, g3⟩ := hr.2 _ (y2A h0 h)
   obtain ⟨f, e, ef, ee, hb, hfe, hf0, hM⟩ := y6A g1
   have f0 := hf0 g2
   have eM := hM M g3
   obtain ⟨y1, i1⟩ := hy f f0 (by omega) s hI
   obtain ⟨y2, i2⟩ := hy e (by omega) eM _ i1
   obtain ⟨P, eP, p1, p2⟩ := pts5kb hy hr n (v + 1) _ (by omega) (by omega) (by omega) i2
   refine ⟨f :: e :: P, fun k => ?_, fun p hp => ?_, fun q hq => ?_⟩
   ·rw [yD, if_pos (decide_eq_true h), yn ⟨h0, h⟩]
    show Option.bind (y1F (nth r v)) _ = _
    rw [ef, Option.bind_some]
    unfold yW
    rw [Option.bind_some, y1, Option.bind_some, if_neg (by simp)]
    have e2 : (y27 (⟨(nth r v).fN, (nth r v).fD⟩ : R)) = some e := ee
    rw [e2, Option.bind_some, Option.bind_some, y2, Option.bind_some, Option.bind_some, if_neg (by simp), yr (by omega)]
    exact eP k
   ·rcases List.mem_cons.1 hp with rfl | hp
    ·omega
    ·rcases List.mem_cons.1 hp with rfl | hp
     ·omega
     ·exact p1 p hp
   ·rw [y3c h0 h] at hq
    rcases List.mem_cons.1 hq with rfl | hq
    ·exact y1u (fun p hp => by simp at hp; rcases hp with rfl | rfl <;> simp) hb
    ·exact y1u (fun p hp => by simp [hp]) (p2 q hq)
  ·refine ⟨[], fun k => ?_, by simp, ?_⟩
   ·rw [yD, if_neg (by simpa using h)]; rfl
   ·rw [y3C h]; simp
theorem pts6kb (hy : CY y enc st I M) {r : List R} (hr : BR M r) : ∀ (n : Nat) (v : Int) (s : σ), 0 ≤ v → v ≤ r.length → r.length < n + v → I s →
  ∃ P : List Int, (∀ k : Sg → Option Sg, yE Sg r y k n v (enc s) = k (enc (P.foldl st s))) ∧ (∀ p ∈ P, 0 ≤ p ∧ p ≤ M) ∧ ∀ q ∈ r.drop v.toNat, y18 P (val q)
 | 0, v, s, h0, h1, h2, hI => by omega
 | n + 1, v, s, h0, h1, h2, hI => by
  have hl := hr.1
  by_cases h : v < r.length
  ·obtain ⟨g1, g2, g3⟩ := hr.2 _ (y2A h0 h)
   obtain ⟨f, e, ef, ee, hb, hfe, hf0, hM⟩ := y6A g1
   have f0 := hf0 g2
   have eM := hM M g3
   obtain ⟨y1, i1⟩ := hy f f0 (by omega) s hI
   obtain ⟨y2, i2⟩ := hy e (by omega) eM _ i1
   obtain ⟨P, eP, p1, p2⟩ := pts6kb hy hr n (v + 1) _ (by omega) (by omega) (by omega) i2
   refine ⟨f :: e :: P, fun k => ?_, fun p hp => ?_, fun q hq => ?_⟩
   ·rw [yE, if_pos (decide_eq_true h), yn ⟨h0, h⟩]
    show Option.bind (y1F (nth r v)) _ = _
    rw [ef, Option.bind_some]
    unfold yW
    rw [Option.bind_some, y1, Option.bind_some, if_neg (by simp)]
    have e2 : (y27 (⟨(nth r v).fN, (nth r v).fD⟩ : R)) = some e := ee
    rw [e2, Option.bind_some, Option.bind_some, y2, Option.bind_some, Option.bind_some, if_neg (by simp), yr (by omega)]
    exact eP k
   ·rcases List.mem_cons.1 hp with rfl | hp
    ·omega
    ·rcases List.mem_cons.1 hp with rfl | hp
     ·omega
     ·exact p1 p hp
   ·rw [y3c h0 h] at hq
    rcases List.mem_cons.1 hq with rfl | hq
    ·exact y1u (fun p hp => by simp at hp; rcases hp with rfl | rfl <;> simp) hb
    ·exact y1u (fun p hp => by simp [hp]) (p2 q hq)
  ·refine ⟨[], fun k => ?_, by simp, ?_⟩
   ·rw [yE, if_neg (by simpa using h)]; rfl
   ·rw [y3C h]; simp
theorem pts_exb (hy : CY y enc st I M) {r : List R} (hr : BR M r) {s : σ} (hI : I s) {N : Nat} (hN : 200000 ≤ N) : ∃ P : List Int, (∀ k : Sg → Option Sg, yD Sg (r, 0) y k N 0 (enc s) = k (enc (P.foldl st s))) ∧ (∀ p ∈ P, 0 ≤ p ∧ p ≤ M) ∧ ∀ q ∈ r, y18 P (val q) := by
 have hl := hr.1
 exact pts5kb hy hr N 0 s (by omega) (by omega) (by omega) hI
theorem pts_exmb (hy : CY y enc st I M) {r : List R} (hr : BR M r) {s : σ} (hI : I s) {N : Nat} (hN : 200000 ≤ N) : ∃ P : List Int, (∀ k : Sg → Option Sg, yE Sg r y k N 0 (enc s) = k (enc (P.foldl st s))) ∧ (∀ p ∈ P, 0 ≤ p ∧ p ≤ M) ∧ ∀ q ∈ r, y18 P (val q) := by
 have hl := hr.1
 exact pts6kb hy hr N 0 s (by omega) (by omega) (by omega) hI
end pts
end Go.Proofs.Ytakfmdiiehcbdaa

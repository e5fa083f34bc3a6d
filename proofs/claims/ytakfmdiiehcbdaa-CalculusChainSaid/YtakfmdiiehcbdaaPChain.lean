/- A part of this claim's proof: models of functions, walks, plain laws. No conditions. -/
import Derived.Test.YtakfmdiiehcbdaaPDel
import Derived.Test.YtakfmdiiehcbdaaP03w
import Derived.Test.YtakfmdiiehcbdaaWCalculusChain
namespace Go.Proofs.Ytakfmdiiehcbdaa
open Go Go.RowKit Sep
set_option linter.all false
theorem div_le {a b q : Rat} (h : a ≤ b) (hq : 0 < q) : a / q ≤ b / q := by
 refine Rat.not_lt.1 fun hlt => ?_
 have h1 := Rat.mul_lt_mul_of_pos_right hlt hq
 rw [Rat.div_mul_cancel (by grind), Rat.div_mul_cancel (by grind)] at h1
 grind
theorem div_nonneg {a q : Rat} (h : 0 ≤ a) (hq : 0 < q) : 0 ≤ a / q := by
 have := div_le h hq
 rwa [Rat.div_def, Rat.zero_mul] at this
theorem add_bad {x y : R} (h : V y = false) (hx : V x = true) : m_rat_Add x y = some (⟨0, 0⟩, 2) := by
 unfold m_rat_Add m_rat_doc
 rw [valid_eq, valid_eq, h, hx]
 rfl
theorem V_none : V ⟨0, 0⟩ = false := by decide +kernel
theorem NORM_one (b : B) (hb : GB b = true) : NORM [b] = [b] := by
 have h1 := NORM_len [b]
 have h2 := NORM_ne (c := [b]) (fun x hx => by rw [List.mem_singleton.1 hx]; exact hb) (by simp)
 match h : NORM [b], h1, h2 with
 | [x], _, _ =>
  have hx : x ∈ NORM [b] := by rw [h]; simp
  rw [List.mem_singleton.1 (NORM_sub hx)]
 | [], _, h2 => exact absurd rfl h2
 | x :: y :: l, h1, _ => simp at h1
theorem whole_GR {n : Int} (h : 0 ≤ n ∧ n ≤ 1073741824) : GR ⟨n, 1⟩ = true := by
 unfold GR V
 rw [Bool.and_eq_true, decide_eq_true_eq, decide_eq_true_eq]
 exact ⟨⟨by show (1 : Int) ≤ 1; omega, by show (1 : Int) ≤ 1073741824; omega, by show -1073741824 ≤ n; omega, by show n ≤ 1073741824; omega, Nat.gcd_one_right _⟩, h.1⟩
theorem divInt_one_add (d v : Int) : Rat.divInt d 1 + Rat.divInt v 1 = Rat.divInt (d + v) 1 := by
 rw [Rat.divInt_add_divInt _ _ (by decide) (by decide)]; simp
def SS2 (s : SV) (j d : Int) : Prop := VS s = true ∧ RS s = Rat.divInt j 8 ∧ LS s = Rat.divInt d 1
theorem D1_eq {b : B} {s : SV} {n j d : Int} (hn : bq b = Rat.divInt n 1) (hs : SS2 s j d) (hj : 0 < j) : bq b / RS s = Rat.divInt (8 * n) j ∧ D1 b s = Rat.divInt (8 * n + d * j) j := by
 have e1 : bq b / RS s = Rat.divInt (8 * n) j := by
  rw [hn, hs.2.1, Rat.div_def, Rat.inv_divInt, Rat.divInt_mul_divInt]
  congr 1 <;> omega
 refine ⟨e1, ?_⟩
 unfold D1
 rw [e1, hs.2.2, Rat.divInt_add_divInt _ _ (by omega) (by decide)]
 congr 1 <;> simp
theorem mulr {a b x y : Int} (ha : 0 ≤ a ∧ a ≤ x) (hb : 0 ≤ b ∧ b ≤ y) : 0 ≤ a * b ∧ a * b ≤ x * y :=
 ⟨Int.mul_nonneg ha.1 hb.1, Int.mul_le_mul ha.2 hb.2 hb.1 (by omega)⟩
theorem d1fit_ok {b : B} {s : SV} {n j d : Int} (hn : bq b = Rat.divInt n 1) (hs : SS2 s j d) (hj : 1 ≤ j ∧ j ≤ 160) (h0 : 0 ≤ n ∧ n ≤ 100) (hd : 0 ≤ d ∧ d ≤ 510) : d1fit b s = true := by
 obtain ⟨e1, e2⟩ := D1_eq hn hs (by omega)
 have hm := mulr hd (show 0 ≤ j ∧ j ≤ 160 by omega)
 unfold d1fit
 rw [e1, e2, Bool.and_eq_true]
 exact ⟨fits_divInt (by omega) (by omega), fits_divInt (by omega) (by omega)⟩
theorem SB.nk {b : B} (h : SB b) : ∃ n k : Int, (0 ≤ n ∧ n ≤ 100) ∧ (0 ≤ k ∧ k ≤ 40) ∧ bq b = Rat.divInt n 1 ∧ rq b = Rat.divInt k 8 := by
 obtain ⟨n, hn, en⟩ := h.2.1
 obtain ⟨k, hk, ek⟩ := h.2.2
 have p1 := h.pos.1; have p2 := h.pos.2
 have nn : 0 ≤ n := by
  rcases Int.lt_or_le n 0 with h0 | h0
  ·exfalso
   have : (0 : Rat) ≤ Rat.divInt (-n) ((1 : Nat) : Int) := Rat.divInt_nonneg (by omega) (by decide)
   rw [← Rat.neg_divInt, ← en] at this
   have e0 : bq b = 0 := by grind
   rw [e0] at en
   have := Rat.num_divInt n ((1 : Nat) : Int)
   rw [← en] at this
   simp at this
   omega
  ·exact h0
 have kk : 0 ≤ k := by
  rcases Int.lt_or_le k 0 with h0 | h0
  ·exfalso
   have h3 : (0 : Rat) ≤ Rat.divInt (-k) ((8 : Nat) : Int) := Rat.divInt_nonneg (by omega) (by decide)
   rw [← Rat.neg_divInt, ← ek] at h3
   have e0 : rq b = 0 := by grind
   rw [e0] at ek
   have e1 : Rat.divInt k ((8 : Nat) : Int) = Rat.divInt 0 ((8 : Nat) : Int) := by rw [← ek, Rat.zero_divInt]
   have := (Rat.divInt_eq_divInt_iff (by decide) (by decide)).1 e1
   omega
  ·exact h0
 exact ⟨n, k, by omega, by omega, by simpa using en, by simpa using ek⟩
theorem rate_ok8 {r : Int} (hr : 0 ≤ r ∧ r ≤ 255) : m_rat_Make (i64 (1 + (Int.tmod (i64 r) 160))) 8 = some (ofQ (Rat.divInt (1 + r % 160) 8), 0) := by
 rw [i64_id (x := r) (by omega), tmod_id hr.1, i64_id (by omega), make_eq (by decide) (by omega), mk_fits (fits_divInt (by decide) (by omega))]
theorem server_ok {j d : Int} (hj : 1 ≤ j ∧ j ≤ 160) (hd : 0 ≤ d ∧ d ≤ 510) : SS2 ⟨ofQ (Rat.divInt j 8), ⟨d, 1⟩⟩ j d := by
 have f := fits_divInt (n := j) (d := 8) (by decide) (by omega)
 have g := whole_GR (n := d) (by omega)
 refine ⟨?_, val_ofQ _, rfl⟩
 unfold VS
 simp only [Bool.and_eq_true, decide_eq_true_eq]
 refine ⟨⟨⟨V_ofQ f, ?_⟩, GR_V g⟩, hd.1⟩
 show 0 < (Rat.divInt j 8).num
 rw [Rat.num_divInt, show (8 : Int).sign = 1 from rfl, Int.one_mul]
 have h1 : (Int.gcd 8 j : Int) ∣ j := Int.gcd_dvd_right ..
 have h2 : 0 < Int.gcd 8 j := Int.gcd_pos_of_ne_zero_left _ (by decide)
 exact Int.ediv_pos_of_pos_of_dvd (by omega) (by omega) h1
theorem chain_ok {s t : SV} {j d u v : Int} (hs : SS2 s j d) (ht : SS2 t u v) (hj : 1 ≤ j ∧ j ≤ 160) (hu : 1 ≤ u ∧ u ≤ 160) (hd : 0 ≤ d ∧ d ≤ 255) (hv : 0 ≤ v ∧ v ≤ 255) :
  ∃ x, m_calculus_Chain s t = some (x, 0) ∧ (SS2 x j (d + v) ∨ SS2 x u (d + v)) ∧ RS x ≤ RS s ∧ RS x ≤ RS t ∧ (RS x = RS s ∨ RS x = RS t) := by
 obtain ⟨s1, s2, s3, s4⟩ := VS_r hs.1
 obtain ⟨t1, t2, t3, t4⟩ := VS_r ht.1
 have e : val s.fLatency + val t.fLatency = Rat.divInt (d + v) 1 := by
  have h1 : val s.fLatency = Rat.divInt d 1 := hs.2.2
  have h2 : val t.fLatency = Rat.divInt v 1 := ht.2.2
  rw [h1, h2, divInt_one_add]
 have f := fits_divInt (n := d + v) (d := 1) (by decide) (by omega)
 have hmin := minQ_is [val s.fRate, val t.fRate] (by simp)
 unfold m_calculus_Chain
 rw [cvalid_eq, cvalid_eq, hs.1, ht.1]
 simp only [Option.bind_some, Bool.not_true, Bool.false_eq_true, if_false]
 rw [add_eq s3 t3, e, mk_fits f, Option.bind_some, if_neg (by simp)]
 rw [minR_eq (l := [s.fRate, t.fRate]) (by simp [s1, t1]) (by simp) (by simp), Option.bind_some]
 refine ⟨_, rfl, ?_⟩
 have hm1 : minQ [val s.fRate, val t.fRate] = RS s ∨ minQ [val s.fRate, val t.fRate] = RS t := by
  have := hmin.1; simp at this; exact this
 have hr : val (ofQ (minQ [val s.fRate, val t.fRate])) = minQ [val s.fRate, val t.fRate] := val_ofQ _
 have hl1 : minQ [val s.fRate, val t.fRate] ≤ RS s := hmin.2 _ (by simp [RS])
 have hl2 : minQ [val s.fRate, val t.fRate] ≤ RS t := hmin.2 _ (by simp [RS])
 have fin : ∀ j', 1 ≤ j' ∧ j' ≤ 160 → minQ [val s.fRate, val t.fRate] = Rat.divInt j' 8 → SS2 ⟨ofQ (minQ (List.map val [s.fRate, t.fRate])), ofQ (Rat.divInt (d + v) 1)⟩ j' (d + v) := by
  intro j' hj' e2
  have so := server_ok (j := j') (d := d + v) hj' (by omega)
  have e3 : ofQ (Rat.divInt (d + v) 1) = ⟨d + v, 1⟩ := ofQ_val (GR_V (whole_GR (n := d + v) (by omega)))
  have e4 : minQ (List.map val [s.fRate, t.fRate]) = Rat.divInt j' 8 := e2
  rw [e3, e4]
  exact so
 refine ⟨?_, ?_, ?_, ?_⟩
 ·rcases hm1 with h | h
  ·exact .inl (fin j hj (h.trans hs.2.1))
  ·exact .inr (fin u hu (h.trans ht.2.1))
 ·show val (ofQ (minQ [val s.fRate, val t.fRate])) ≤ _; rw [hr]; exact hl1
 ·show val (ofQ (minQ [val s.fRate, val t.fRate])) ≤ _; rw [hr]; exact hl2
 ·show val (ofQ (minQ [val s.fRate, val t.fRate])) = _ ∨ val (ofQ (minQ [val s.fRate, val t.fRate])) = _; rw [hr]; exact hm1
theorem ar1 {A D L M X : Rat} (h2 : D = A + L) (h : 0 ≤ X) : A + (L + M) ≤ D + (X + M) := by grind
theorem ar2 {A D L M X Y : Rat} (h1 : A ≤ X) (h2 : D = Y + L) (h3 : 0 ≤ Y) : A + (L + M) ≤ D + (X + M) := by grind
theorem calculusChain_true {m : List Int} {r d u v : Int} (hm : ∀ x ∈ m, 0 ≤ x ∧ x ≤ 255) (hr : 0 ≤ r ∧ r ≤ 255) (hd : 0 ≤ d ∧ d ≤ 255) (hu : 0 ≤ u ∧ u ≤ 255) (hv : 0 ≤ v ∧ v ≤ 255) : m_law03_CalculusChain m r d u v = some true := by
 obtain ⟨c, e1, hc⟩ := small_eq hm
 have hl := hc.1
 obtain ⟨b, rest, hcb⟩ : ∃ b rest, c = b :: rest := by
  cases c with
  | nil => simp at hl
  | cons b rest => exact ⟨b, rest, rfl⟩
 have hSB := hc.2.2 b (by rw [hcb]; simp)
 have hb := hSB.1
 have htake : c.take (1 : Int).toNat = [b] := by rw [hcb]; rfl
 have hs := server_ok (j := 1 + r % 160) (d := d) (by omega) (by omega)
 have ht := server_ok (j := 1 + u % 160) (d := v) (by omega) (by omega)
 obtain ⟨w, e2, hw, w1, w2, w3⟩ := chain_ok hs ht (by omega) (by omega) hd hv
 obtain ⟨n, k, hn, hk, en, ek⟩ := hSB.nk
 have hwV : VS w = true := hw.elim (fun h => h.1) (fun h => h.1)
 have fw : d1fit b w = true := hw.elim (fun h => d1fit_ok en h (by omega) hn (by omega)) (fun h => d1fit_ok en h (by omega) hn (by omega))
 have fs := d1fit_ok en hs (by omega) hn (by omega)
 have hwL : LS w = LS (⟨ofQ (Rat.divInt (1 + r % 160) 8), ⟨d, 1⟩⟩ : SV) + LS (⟨ofQ (Rat.divInt (1 + u % 160) 8), ⟨v, 1⟩⟩ : SV) := by
  rw [hs.2.2, ht.2.2, divInt_one_add]
  exact hw.elim (fun h => h.2.2) (fun h => h.2.2)
 generalize hS : (⟨ofQ (Rat.divInt (1 + r % 160) 8), ⟨d, 1⟩⟩ : SV) = S at *
 generalize hT : (⟨ofQ (Rat.divInt (1 + u % 160) 8), ⟨v, 1⟩⟩ : SV) = T at *
 unfold m_law03_CalculusChain
 rw [e1, Option.bind_some, chk_pos (by omega), rate_ok8 hr, Option.bind_some, rate_ok8 hu, Option.bind_some, i64_id (x := d) (by omega), i64_id (x := v) (by omega)]
 unfold m_law03_num
 rw [Option.bind_some, Option.bind_some, htake]
 simp only []
 rw [hS, hT, e2, Option.bind_some]
 simp only []
 rw [delay_one hb hwV, Option.bind_some, delay_one hb hs.1, Option.bind_some, if_neg (by simp)]
 by_cases h6 : RS w < rq b
 ·rw [if_pos h6]
  rw [if_pos (by simp)]
  simp [awake_eq]
 have h6s : ¬ RS S < rq b := by grind
 have h6t : ¬ RS T < rq b := by grind
 rw [if_neg h6, if_neg h6s, fw, fs, if_pos rfl, if_pos rfl, if_neg (by simp)]
 simp only []
 have pS := RS_pos hs.1; have pT := RS_pos ht.1; have pW := RS_pos hwV
 have pb := hSB.pos.1; have pr := hSB.pos.2
 have lS := LS_nonneg hs.1; have lT := LS_nonneg ht.1
 have fD1 : fits (D1 b S) = true := by unfold d1fit at fs; rw [Bool.and_eq_true] at fs; exact fs.2
 have pD : 0 ≤ D1 b S := Rat.add_nonneg (div_nonneg pb pS) lS
 have gD : GR (ofQ (D1 b S)) = true := GR_of pD fD1
 obtain ⟨_, eD⟩ := D1_eq en hs (by omega)
 have hmj := mulr (show 0 ≤ d ∧ d ≤ 255 by omega) (show 0 ≤ 1 + r % 160 ∧ 1 + r % 160 ≤ 160 by omega)
 have hk2 := mulr hk (show 0 ≤ 8 * n + d * (1 + r % 160) ∧ 8 * n + d * (1 + r % 160) ≤ 41600 by omega)
 have hvf : vfit (D1 b S) b = true := by
  have e3 : rq b * D1 b S = Rat.divInt (k * (8 * n + d * (1 + r % 160))) (8 * (1 + r % 160)) := by
   rw [ek, eD, Rat.divInt_mul_divInt]
  have hn8 := mulr hn (show 0 ≤ 8 * (1 + r % 160) ∧ 8 * (1 + r % 160) ≤ 1280 by omega)
  unfold vfit vq
  rw [e3, en, Rat.divInt_add_divInt _ _ (by decide) (by omega), Bool.and_eq_true]
  refine ⟨fits_divInt (by omega) (by omega), fits_divInt (by omega) ?_⟩
  constructor
  ·generalize n * (8 * (1 + r % 160)) = X at *
   generalize k * (8 * n + d * (1 + r % 160)) = Y at *
   omega
  ·omega
 have eDD : val (ofQ (D1 b S)) = D1 b S := val_ofQ _
 rw [Shift_eq (VC_one hb) gD, eDD, if_pos (by simp [hvf]), Option.bind_some]
 have gb2 := sh1_GB hb pD hvf
 have eN : NORM (List.map (sh1 (D1 b S)) [b]) = [sh1 (D1 b S) b] := NORM_one _ gb2
 rw [eN]
 simp only []
 rw [delay_one gb2 ht.1, if_neg (show ¬ RS T < rq (sh1 (D1 b S) b) from h6t), Option.bind_some]
 cases f2 : d1fit (sh1 (D1 b S) b) T with
 | false =>
  simp only [Bool.false_eq_true, if_false]
  rw [add_bad V_none (GR_V gD), Option.bind_some]
  simp [awake_eq]
 | true =>
  simp only [if_true]
  have fD2 : fits (D1 (sh1 (D1 b S) b) T) = true := by unfold d1fit at f2; rw [Bool.and_eq_true] at f2; exact f2.2
  rw [add_eq (GR_V gD) (V_ofQ fD2), val_ofQ, val_ofQ, Option.bind_some]
  cases f3 : fits (D1 b S + D1 (sh1 (D1 b S) b) T) with
  | false =>
   unfold mk
   rw [f3]
   simp [awake_eq]
  | true =>
   rw [mk_fits f3]
   rw [if_neg (by simp)]
   simp only []
   have fDw : fits (D1 b w) = true := by unfold d1fit at fw; rw [Bool.and_eq_true] at fw; exact fw.2
   rw [cmp_eq (V_ofQ fDw) (V_ofQ f3), val_ofQ, val_ofQ, Option.bind_some]
   have hle : D1 b w ≤ D1 b S + D1 (sh1 (D1 b S) b) T := by
    have e2 : bq (sh1 (D1 b S) b) = bq b + rq b * D1 b S := sh1_bq _ _
    have q1 : 0 ≤ rq b * D1 b S := Rat.mul_nonneg pr pD
    have q2 : bq b / RS T ≤ (bq b + rq b * D1 b S) / RS T := div_le (by grind) pT
    have q3 : 0 ≤ (bq b + rq b * D1 b S) / RS T := div_nonneg (by grind) pT
    have q4 : 0 ≤ bq b / RS S := div_nonneg pb pS
    have x1 : D1 b w = bq b / RS w + (LS S + LS T) := by unfold D1; rw [hwL]
    have x2 : D1 b S = bq b / RS S + LS S := rfl
    have x3 : D1 (sh1 (D1 b S) b) T = (bq b + rq b * D1 b S) / RS T + LS T := by
     show bq (sh1 (D1 b S) b) / RS T + LS T = _
     rw [e2]
    rw [x1, x3]
    rcases w3 with h | h
    ·rw [h]; exact ar1 x2 q3
    ·rw [h]; exact ar2 q2 x2 q4
   rw [if_pos (decide_eq_true (cmpQ_le.2 hle))]
   simp [awake_eq]
end Go.Proofs.Ytakfmdiiehcbdaa

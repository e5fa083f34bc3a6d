/- A part of this claim's proof: models of the functions that the law reaches, with the proof that the functions compute them; plain laws about the models. No conditions beyond those in each theorem's statement. -/
import Derived.Test.YtbihfglmcjkdhaaP02d
import Derived.Test.YtbihfglmcjkdhaaP02w
import Derived.Test.YtbihfglmcjkdhaaWCurveNorm
namespace Go.Proofs.Ytbihfglmcjkdhaa
open Go Go.RowKit Sep
set_option linter.all false
theorem jp0_ex {R : Type} {K : Option R} {F : Option R → Option R} {P : Option R → Prop} (h : ∀ k : Option R, k = K → P (F k)) : P (jp0 K F) := h K rfl
theorem nl10 {c : List B} {y : List B × Int} {v : Int} {k : Bool → Option Bool} (hs : (c.length : Int) ≤ 1000000) :
    ∀ (n : Nat) (f : Bool) (i : Int), 0 ≤ i → i ≤ c.length → c.length < n + i → m_law02_CurveNorm_L10 c y v k n f i = k (f || (c.drop i.toNat).any fun z => decide (z = nth y.1 v))
  | 0, f, i, h0, h1, h2 => by omega
  | n + 1, f, i, h0, h1, h2 => by
    rw [m_law02_CurveNorm_L10]
    by_cases h : i < c.length
    · rw [if_pos (decide_eq_true h), chk_pos ⟨h0, h⟩, i64_id (by omega), nl10 hs n _ (i + 1) (by omega) (by omega) (by omega), drop_cons h0 h, List.any_cons, ← Bool.or_assoc]
    · rw [if_neg (by simpa using h), drop_end h, List.any_nil, Bool.or_false]
theorem nl9 {c nn : List B} {k : Option Bool} (hc : (c.length : Int) ≤ 1000000) (hn : (nn.length : Int) ≤ 1000000) (hg : ∀ b ∈ nn, GB b = true) (hsub : ∀ b ∈ nn, b ∈ c) (hs : nn.Pairwise fun x y => bq x < bq y ∧ rq y < rq x) :
    ∀ (n : Nat) (v : Int), 0 ≤ v → v ≤ nn.length → nn.length < n + v → m_law02_CurveNorm_L9 (nn, 0) (nn, 0) c k n v = k
  | 0, v, h0, h1, h2 => by omega
  | n + 1, v, h0, h1, h2 => by
    rw [m_law02_CurveNorm_L9]
    by_cases h : v < nn.length
    · rw [if_pos (decide_eq_true h)]
      refine jp0_ex (P := fun o => o = _) fun k1 hk1 => ?_
      rw [chk_pos ⟨h0, h⟩, chk_pos ⟨h0, h⟩]
      rw [i64_id (x := v + 1) (by omega), nl9 hc hn hg hsub hs n (v + 1) (by omega) (by omega) (by omega)] at hk1
      have hm := nth_mem h0 h
      rw [if_neg (by simp)]
      have hcond : (if decide (v > 0) then chk ((0 : Int) ≤ (i64 (v - 1)) ∧ (i64 (v - 1)) < ((nn.length : Nat) : Int)) ((m_rat_Cmp (⟨(((nth nn (i64 (v - 1))).fBurst).fN), (((nth nn (i64 (v - 1))).fBurst).fD)⟩ : Sapi_Rat) (⟨(((nth nn v).fBurst).fN), (((nth nn v).fBurst).fD)⟩ : Sapi_Rat)).bind fun x_27584 => (if decide (x_27584 ≥ 0) then some true else chk ((0 : Int) ≤ (i64 (v - 1)) ∧ (i64 (v - 1)) < ((nn.length : Nat) : Int)) ((m_rat_Cmp (⟨(((nth nn (i64 (v - 1))).fRate).fN), (((nth nn (i64 (v - 1))).fRate).fD)⟩ : Sapi_Rat) (⟨(((nth nn v).fRate).fN), (((nth nn v).fRate).fD)⟩ : Sapi_Rat)).bind fun x_27587 => some (decide (x_27587 ≤ 0)))).bind fun b_27589 => some b_27589) else some false) = some false := by
        by_cases hv : v > 0
        · rw [if_pos (decide_eq_true hv), i64_id (by omega), chk_pos (by omega), chk_pos (by omega)]
          have hm' := nth_mem (l := nn) (i := v - 1) (by omega) (by omega)
          have hlt : bq (nth nn (v - 1)) < bq (nth nn v) ∧ rq (nth nn v) < rq (nth nn (v - 1)) := by
            have := List.pairwise_iff_getElem.1 hs (v - 1).toNat v.toNat (by omega) (by omega) (by omega)
            rw [nth_lt (by omega) (by omega), nth_lt (by omega) (by omega)] at this
            exact this
          have c1 := cmpb (hg _ hm') (hg _ hm)
          have c2 := cmpr (hg _ hm') (hg _ hm)
          show Option.bind (m_rat_Cmp (nth nn (v - 1)).fBurst (nth nn v).fBurst) _ = _
          rw [c1, Option.bind_some]
          have h1 : cmpQ (bq (nth nn (v - 1))) (bq (nth nn v)) < 0 := cmpQ_lt.2 hlt.1
          rw [if_neg (by simpa using by omega)]
          show Option.bind (Option.bind (m_rat_Cmp (nth nn (v - 1)).fRate (nth nn v).fRate) _) _ = _
          rw [c2, Option.bind_some, Option.bind_some]
          have h2 : 0 < cmpQ (rq (nth nn (v - 1))) (rq (nth nn v)) := cmpQ_gt.2 hlt.2
          congr 1
          exact decide_eq_false (by omega)
        · rw [if_neg (by simpa using hv)]
      refine (congrArg (fun o => Option.bind (Option.bind o _) _) hcond).trans ?_
      rw [Option.bind_some, Option.bind_some, if_neg Bool.false_ne_true]
      refine jp1_ex (P := fun o => o = _) fun k2 hk2 => ?_
      rw [nl10 hc FUEL false 0 (by omega) (by omega) (by rw [FUEL_eq]; omega), hk2, Int.toNat_zero, List.drop_zero, Bool.false_or]
      have : (c.any fun z => decide (z = nth nn v)) = true := List.any_eq_true.2 ⟨_, hsub _ hm, decide_eq_true rfl⟩
      show (if !(c.any fun z => decide (z = nth nn v)) then _ else _) = _
      rw [this, hk1]; rfl
    · rw [if_neg (by simpa using h)]
theorem nl12 {nn : List B} {e : Int} {c : List B} {v : Int} {k : Bool → Option Bool} (hs : (nn.length : Int) ≤ 1000000) (hg : ∀ b ∈ nn, GB b = true) (hv : GB (nth c v) = true) :
    ∀ (n : Nat) (f : Bool) (i : Int), 0 ≤ i → i ≤ nn.length → nn.length < n + i → m_law02_CurveNorm_L12 (nn, e) c v k n f i = k (f || (nn.drop i.toNat).any fun z => decide (le2 z (nth c v)))
  | 0, f, i, h0, h1, h2 => by omega
  | n + 1, f, i, h0, h1, h2 => by
    rw [m_law02_CurveNorm_L12]
    by_cases h : i < nn.length
    · rw [if_pos (decide_eq_true h), chk_pos ⟨h0, h⟩, i64_id (by omega), drop_cons h0 h, List.any_cons]
      have hm := nth_mem h0 h
      have c1 := cmpb (hg _ hm) hv
      have c2 := cmpr (hg _ hm) hv
      have hcond : (if f then some true else (m_rat_Cmp (nth nn i).fBurst (nth c v).fBurst).bind fun x_30173 => (if decide (x_30173 ≤ 0) then (m_rat_Cmp (nth nn i).fRate (nth c v).fRate).bind fun x_30175 => some (decide (x_30175 ≤ 0)) else some false).bind fun b_30177 => some b_30177) = some (f || decide (le2 (nth nn i) (nth c v))) := by
        cases f with
        | true => simp
        | false =>
          rw [if_neg Bool.false_ne_true, c1, c2, Option.bind_some, Bool.false_or]
          by_cases h1 : bq (nth nn i) ≤ bq (nth c v)
          · rw [if_pos (decide_eq_true (cmpQ_le.2 h1)), Option.bind_some, Option.bind_some]
            congr 1
            rw [decide_eq_decide]
            exact ⟨fun h => ⟨h1, cmpQ_le.1 h⟩, fun h => cmpQ_le.2 h.2⟩
          · rw [if_neg (fun h => h1 (cmpQ_le.1 (of_decide_eq_true h))), Option.bind_some]
            congr 1
            symm
            exact decide_eq_false fun h => h1 h.1
      refine (congrArg (fun o => Option.bind o _) hcond).trans ?_
      rw [Option.bind_some, nl12 hs hg hv n _ (i + 1) (by omega) (by omega) (by omega), Bool.or_assoc]
    · rw [if_neg (by simpa using h), drop_end h, List.any_nil, Bool.or_false]
theorem nl11 {c nn : List B} {e : Int} {k : Option Bool} (hc : (c.length : Int) ≤ 1000000) (hn : (nn.length : Int) ≤ 1000000) (hg : ∀ b ∈ nn, GB b = true) (hgc : ∀ b ∈ c, GB b = true) (hcov : ∀ v ∈ c, ∃ a ∈ nn, le2 a v) :
    ∀ (n : Nat) (v : Int), 0 ≤ v → v ≤ c.length → c.length < n + v → m_law02_CurveNorm_L11 c (nn, e) k n v = k
  | 0, v, h0, h1, h2 => by omega
  | n + 1, v, h0, h1, h2 => by
    rw [m_law02_CurveNorm_L11]
    by_cases h : v < c.length
    · rw [if_pos (decide_eq_true h)]
      refine jp0_ex (P := fun o => o = _) fun k1 hk1 => ?_
      rw [chk_pos ⟨h0, h⟩]
      rw [i64_id (x := v + 1) (by omega), nl11 hc hn hg hgc hcov n (v + 1) (by omega) (by omega) (by omega)] at hk1
      refine jp1_ex (P := fun o => o = _) fun k2 hk2 => ?_
      have hm := nth_mem h0 h
      rw [nl12 hn hg (hgc _ hm) FUEL false 0 (by omega) (by omega) (by rw [FUEL_eq]; omega), hk2, Int.toNat_zero, List.drop_zero, Bool.false_or]
      obtain ⟨a, ha, hle⟩ := hcov _ hm
      have : (nn.any fun z => decide (le2 z (nth c v))) = true := List.any_eq_true.2 ⟨a, ha, decide_eq_true hle⟩
      rw [this, hk1]; rfl
    · rw [if_neg (by simpa using h)]
theorem curveNorm_true {m : List Int} (hm : ∀ x ∈ m, 0 ≤ x ∧ x ≤ 255) : m_law02_CurveNorm m = some true := by
  obtain ⟨c, e1, hc⟩ := small_eq hm
  have h4 := hc.2.1; have hN := NORM_len c
  have vn := VC_NORM hc.VC
  have ln := VC_len vn
  unfold m_law02_CurveNorm
  rw [e1, Option.bind_some, Norm_eq, hc.VC, if_pos rfl, Option.bind_some]
  simp only []
  rw [Norm_eq, vn, if_pos rfl, NORM_idem hc.all, Option.bind_some]
  rw [if_neg (by simp; exact NORM_ne hc.all hc.ne)]
  refine jp0_ex (P := fun o => o = _) fun k hk => ?_
  rw [nl9 (by omega) (by omega) (NORM_all hc.all) (fun b hb => NORM_sub hb) NORM_sorted FUEL 0 (by omega) (by omega) (by rw [FUEL_eq]; omega), hk]
  refine jp0_ex (P := fun o => o = _) fun k hk => ?_
  rw [nl11 (by omega) (by omega) (NORM_all hc.all) hc.all (fun v hv => NORM_cover hc.all hv) FUEL 0 (by omega) (by omega) (by rw [FUEL_eq]; omega), hk, awake_eq]
  rfl
end Go.Proofs.Ytbihfglmcjkdhaa

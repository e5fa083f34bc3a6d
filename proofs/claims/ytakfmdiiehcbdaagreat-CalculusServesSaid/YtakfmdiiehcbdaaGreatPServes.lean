/- A part of this claim's proof: models of functions, walks, plain laws. No conditions. -/
import Derived.Test.YtakfmdiiehcbdaaGreatPZt
import Derived.Test.YtakfmdiiehcbdaaGreatPZw
import Derived.Test.YtakfmdiiehcbdaaGreatWCalculusServes
namespace Go.Proofs.YtakfmdiiehcbdaaGreat
open Go Go.RowKit Sep
set_option linter.all false
def WH (n : Int) : Rat := val ⟨n, 1⟩
theorem V_whole {n : Int} (h : -1073741824 ≤ n ∧ n ≤ 1073741824) : V ⟨n, 1⟩ = true := by
 unfold V
 rw [decide_eq_true_eq]
 exact ⟨by show (1 : Int) ≤ 1; omega, by show (1 : Int) ≤ 1073741824; omega, by show -1073741824 ≤ n; omega, by show n ≤ 1073741824; omega, Nat.gcd_one_right _⟩
theorem GR_whole {n : Int} (h : 0 ≤ n ∧ n ≤ 1073741824) : GR ⟨n, 1⟩ = true := by
 unfold GR
 rw [V_whole (by omega), Bool.true_and, decide_eq_true_eq]
 exact h.1
theorem AT_V {c : List B} {t : Rat} (hne : c ≠ []) (h : c.all (vfit t) = true) : V (ofQ (AT c t)) = true := by
 obtain ⟨b, hb, e⟩ := List.mem_map.1 (AT_is (t := t) hne).1
 have := List.all_eq_true.1 h b hb
 unfold vfit at this
 rw [Bool.and_eq_true] at this
 rw [← e]
 exact V_ofQ this.2
def cin (c : List B) (t0 : Int) : List SE → Int → Bool → Option Bool
 | [], _, f => some f
 | x :: r, s, f => if c.all (vfit (WH (x.fTime - t0))) then cin c t0 r (s + x.fSize) (f && decide (WH (s + x.fSize) ≤ AT c (WH (x.fTime - t0)))) else none
def cout (c : List B) : List SE → Bool → Option Bool
 | [], f => some f
 | x :: r, f => (cin c x.fTime (x :: r) 0 f).bind (cout c r)
def fin3 (k : Bool → Option (Bool × Int)) : Option Bool → Option (Bool × Int)
 | some f => k f
 | none => some (false, 3)
theorem FRP.mono {l : List SE} (h : FRP l) : ∀ (n : Nat) (i : Int), 0 ≤ i → i + n < l.length → (nth l i).fTime ≤ (nth l (i + n)).fTime
 | 0, i, _, _ => by rw [show i + (0 : Nat) = i by omega]; omega
 | n + 1, i, h0, h1 => by
  have ih := FRP.mono h n i h0 (by omega)
  have := (h.1 (i + (n + 1 : Nat)) (by omega) h1).2.2.2.2 (by omega)
  rw [show i + ((n + 1 : Nat) : Int) - 1 = i + n by omega] at this
  omega
theorem step_at {c : List B} (hc : VC c = true) {d : Int} (hd : 0 ≤ d ∧ d ≤ 1073741824) : m_curve_At c ⟨d, 1⟩ = some (if c.all (vfit (WH d)) then (ofQ (AT c (WH d)), 0) else (⟨0, 0⟩, 3)) := at_eq hc (GR_whole hd)
theorem con4 {c : List B} {l : List SE} {v : Int} {k : Bool → Option (Bool × Int)} (hc : VC c = true) (hl : FRP l) (hv : 0 ≤ v ∧ v < l.length) :
  ∀ (n : Nat) (f : Bool) (s i : Int), 0 ≤ i → v + i ≤ l.length → l.length - v < n + i → 0 ≤ s → s ≤ 72 * i → m_calculus_Conforms_L4 l v c k n f s i = fin3 k (cin c (nth l v).fTime (l.drop (v + i).toNat) s f)
 | 0, f, s, i, h0, h1, h2, h3, h4 => by omega
 | n + 1, f, s, i, h0, h1, h2, h3, h4 => by
  rw [m_calculus_Conforms_L4]
  have h5 := hl.2
  have hld : ((l.drop v.toNat).length : Int) = l.length - v := by rw [List.length_drop]; omega
  by_cases h : i < ((l.drop v.toNat).length : Int)
  ·have hn : nth (l.drop v.toNat) i = nth l (v + i) := by
    rw [← nth_lt h0 (by omega), ← nth_lt (by omega) (by omega), List.getElem_drop]
    congr 1; omega
   rw [if_pos (decide_eq_true h), chk_pos ⟨h0, h⟩, chk_pos hv, hn, drop_cons (i := v + i) (by omega) (by omega)]
   have g1 := hl.1 (v + i) (by omega) (by omega)
   have g0 := hl.1 v hv.1 hv.2
   have gm := hl.mono i.toNat v hv.1 (by omega)
   rw [show v + ((i.toNat : Nat) : Int) = v + i by omega] at gm
   have g2 := g1.1; have g3 := g1.2.1; have g4 := g1.2.2.1; have g6 := g1.2.2.2.1
   have g7 := g0.1
   rw [i64_id (x := (nth l (v + i)).fTime - _) (by omega), i64_id (x := s + _) (by omega), i64_id (x := i + 1) (by omega)]
   rw [step_at hc (by omega), Option.bind_some, cin]
   cases ha : c.all (vfit (WH ((nth l (v + i)).fTime - (nth l v).fTime))) with
   | false => simp [fin3]
   | true =>
    rw [if_pos rfl, if_pos rfl, if_neg (by simp)]
    simp only []
    rw [cmp_eq (V_whole (by omega)) (AT_V (VC_ne hc) ha), val_ofQ]
    have hb : (if f then (some (cmpQ (val ⟨s + (nth l (v + i)).fSize, 1⟩) (AT c (WH ((nth l (v + i)).fTime - (nth l v).fTime))))).bind fun zBY => some (decide (zBY ≤ 0)) else some false) = some (f && decide (WH (s + (nth l (v + i)).fSize) ≤ AT c (WH ((nth l (v + i)).fTime - (nth l v).fTime)))) := by
     cases f with
     | false => rfl
     | true =>
      rw [if_pos rfl, Option.bind_some, Bool.true_and]
      congr 1
      rw [decide_eq_decide]
      exact cmpQ_le
    rw [hb, Option.bind_some, con4 hc hl hv n _ _ (i + 1) (by omega) (by omega) (by omega) (by omega) (by omega), show v + (i + 1) = v + i + 1 by omega]
  ·rw [if_neg (by simpa using h), drop_end (by omega)]
   rfl
theorem rcon4 {c : List B} {l : List SE} {v : Int} {k : Bool → Option (Bool × Int)} (hc : VC c = true) (hl : FRP l) (hv : 0 ≤ v ∧ v < l.length) :
  ∀ (n : Nat) (f : Bool) (s j : Int), v ≤ j → j ≤ l.length → l.length < n + j → 0 ≤ s → s ≤ 72 * (j - v) → m_ref03_Conforms_L4 l v c k n f s j = fin3 k (cin c (nth l v).fTime (l.drop j.toNat) s f)
 | 0, f, s, j, h0, h1, h2, h3, h4 => by omega
 | n + 1, f, s, j, h0, h1, h2, h3, h4 => by
  rw [m_ref03_Conforms_L4]
  have h5 := hl.2
  by_cases h : j < l.length
  ·have cj : (0 : Int) ≤ j ∧ j < l.length := ⟨by omega, h⟩
   rw [if_pos (decide_eq_true h)]
   refine jp1_ex (P := fun o => o = _) fun k1 hk1 => ?_
   rw [chk_pos cj, chk_pos cj, chk_pos hv, drop_cons (i := j) (by omega) h]
   have g1 := hl.1 j (by omega) h
   have g0 := hl.1 v hv.1 hv.2
   have gm := hl.mono (j - v).toNat v hv.1 (by omega)
   rw [show v + (((j - v).toNat : Nat) : Int) = j by omega] at gm
   have g2 := g1.1; have g3 := g1.2.1; have g4 := g1.2.2.1; have g6 := g1.2.2.2.1
   have g7 := g0.1
   have hk1' : ∀ f', k1 f' = m_ref03_Conforms_L4 l v c k n f' (s + (nth l j).fSize) (j + 1) := fun f' => by
    rw [hk1, i64_id (x := s + _) (by omega), i64_id (x := j + 1) (by omega)]
   rw [i64_id (x := (nth l j).fTime - _) (by omega), i64_id (x := s + _) (by omega)]
   rw [rat_eq, step_at hc (by omega), Option.bind_some, cin]
   cases ha : c.all (vfit (WH ((nth l j).fTime - (nth l v).fTime))) with
   | false => simp [fin3]
   | true =>
    rw [if_pos rfl, if_pos rfl, if_neg (by simp)]
    simp only []
    rw [rcmp_eq (V_whole (by omega)) (AT_V (VC_ne hc) ha), val_ofQ, Option.bind_some]
    have eW : val ⟨s + (nth l j).fSize, 1⟩ = WH (s + (nth l j).fSize) := rfl
    rw [eW]
    by_cases hgt : AT c (WH ((nth l j).fTime - (nth l v).fTime)) < WH (s + (nth l j).fSize)
    ·rw [if_pos (decide_eq_true (cmpQ_gt.2 hgt)), hk1', decide_eq_false (Rat.not_le.2 hgt), Bool.and_false]
     exact rcon4 hc hl hv n _ _ (j + 1) (by omega) (by omega) (by omega) (by omega) (by omega)
    ·rw [if_neg (fun h => hgt (cmpQ_gt.1 (of_decide_eq_true h))), hk1', decide_eq_true (Rat.not_lt.1 hgt), Bool.and_true]
     exact rcon4 hc hl hv n _ _ (j + 1) (by omega) (by omega) (by omega) (by omega) (by omega)
  ·rw [if_neg (by simpa using h), drop_end (by omega)]
   rfl
theorem con3 {c : List B} {l : List SE} {k : Bool → Option (Bool × Int)} (hc : VC c = true) (hl : FRP l) :
  ∀ (n : Nat) (f : Bool) (v : Int), 0 ≤ v → v ≤ l.length → l.length < n + v → m_calculus_Conforms_L3 l c k n f v = fin3 k (cout c (l.drop v.toNat) f)
 | 0, f, v, h0, h1, h2 => by omega
 | n + 1, f, v, h0, h1, h2 => by
  rw [m_calculus_Conforms_L3]
  have h5 := hl.2
  by_cases h : v < l.length
  ·rw [if_pos (decide_eq_true h)]
   refine jp1_ex (P := fun o => o = _) fun k1 hk1 => ?_
   rw [chk_pos (by omega)]
   refine jp1_ex (P := fun o => o = _) fun k2 hk2 => ?_
   rw [con4 hc hl ⟨h0, h⟩ FUEL f 0 0 (by omega) (by omega) (by rw [FUEL_eq]; omega) (by omega) (by omega), show v + 0 = v by omega, drop_cons h0 h, cout]
   cases cin c (nth l v).fTime (nth l v :: l.drop (v + 1).toNat) 0 f with
   | none => rfl
   | some f' =>
    show k2 f' = fin3 k (cout c (l.drop (v + 1).toNat) f')
    rw [hk2, hk1, i64_id (by omega), con3 hc hl n f' (v + 1) (by omega) (by omega) (by omega)]
  ·rw [if_neg (by simpa using h), drop_end h]
   rfl
theorem rcon3 {c : List B} {l : List SE} {k : Bool → Option (Bool × Int)} (hc : VC c = true) (hl : FRP l) :
  ∀ (n : Nat) (f : Bool) (v : Int), 0 ≤ v → v ≤ l.length → l.length < n + v → m_ref03_Conforms_L3 l c k n f v = fin3 k (cout c (l.drop v.toNat) f)
 | 0, f, v, h0, h1, h2 => by omega
 | n + 1, f, v, h0, h1, h2 => by
  rw [m_ref03_Conforms_L3]
  have h5 := hl.2
  by_cases h : v < l.length
  ·rw [if_pos (decide_eq_true h)]
   refine jp1_ex (P := fun o => o = _) fun k1 hk1 => ?_
   refine jp1_ex (P := fun o => o = _) fun k2 hk2 => ?_
   rw [rcon4 hc hl ⟨h0, h⟩ FUEL f 0 v (by omega) (by omega) (by rw [FUEL_eq]; omega) (by omega) (by omega), drop_cons h0 h, cout]
   cases cin c (nth l v).fTime (nth l v :: l.drop (v + 1).toNat) 0 f with
   | none => rfl
   | some f' =>
    show k2 f' = fin3 k (cout c (l.drop (v + 1).toNat) f')
    rw [hk2, hk1, i64_id (by omega), rcon3 hc hl n f' (v + 1) (by omega) (by omega) (by omega)]
  ·rw [if_neg (by simpa using h), drop_end h]
   rfl
theorem conforms_eq {c : List B} {l : List SE} (hs : (l.length : Int) ≤ 9223372036854775807) : ∃ x, m_calculus_Conforms c l = some x ∧ m_ref03_Conforms c l = some x := by
 obtain ⟨r, e, hr⟩ := rframes_eq hs
 obtain ⟨r', e', hr'⟩ := frames_eq (l := l) hs
 have er : r = r' := by
  cases r <;> cases r' <;> simp_all
 subst er
 unfold m_calculus_Conforms m_ref03_Conforms
 rw [curve_valid, rvc_eq, e, e', Option.bind_some, Option.bind_some, Option.bind_some]
 cases hc : VC c with
 | false => exact ⟨(false, 2), rfl, rfl⟩
 | true =>
  cases hb : r with
  | false => exact ⟨(false, 2), rfl, rfl⟩
  | true =>
   have hl := hr.1 hb
   have h5 := hl.2
   simp only [Bool.not_true, Bool.false_eq_true, if_false, Option.bind_some]
   refine jp1_ex (P := fun o => ∃ x, o = some x ∧ _ = some x) fun k hk => ?_
   rw [con3 hc hl FUEL true 0 (by omega) (by omega) (by rw [FUEL_eq]; omega)]
   have : ∀ y : Option Bool, ∃ x, fin3 k y = some x ∧ fin3 (fun f => some (f, (0 : Int))) y = some x := by
    intro y
    cases y with
    | none => exact ⟨_, rfl, rfl⟩
    | some f => exact ⟨(f, 0), hk f, rfl⟩
   obtain ⟨x, h1, h2⟩ := this (cout c (l.drop (0 : Int).toNat) true)
   refine ⟨x, h1, ?_⟩
   refine jp1_ex (P := fun o => o = some x) fun k' hk' => ?_
   rw [rcon3 hc hl FUEL true 0 (by omega) (by omega) (by rw [FUEL_eq]; omega), ← h2]
   congr 1
   funext f
   exact hk' f
theorem ints_loop {a : List Int} {k : Option Bool} (hs : (a.length : Int) ≤ 1000000) : ∀ (n : Nat) (v : Int), 0 ≤ v → v ≤ a.length → a.length < n + v → m_law03_Ints_L2 a a k n v = k
 | 0, v, h0, h1, h2 => by omega
 | n + 1, v, h0, h1, h2 => by
  rw [m_law03_Ints_L2]
  by_cases h : v < a.length
  ·rw [if_pos (decide_eq_true h), chk_pos ⟨h0, h⟩, chk_pos ⟨h0, h⟩, if_neg (by simp), i64_id (by omega), ints_loop hs n (v + 1) (by omega) (by omega) (by omega)]
  ·rw [if_neg (by simpa using h)]
theorem ints_self {a : List Int} (hs : (a.length : Int) ≤ 1000000) : m_law03_Ints a a = some true := by
 unfold m_law03_Ints
 rw [if_neg (by simp)]
 refine jp0_ex (P := fun o => o = _) fun k hk => ?_
 rw [ints_loop hs FUEL 0 (by omega) (by omega) (by rw [FUEL_eq]; omega), hk]
theorem calculusServes_true {c : List B} {l : List SE} {slow delay : Int} (hs : (l.length : Int) ≤ 9223372036854775807) : m_law03_CalculusServes c l slow delay = some true := by
 unfold m_law03_CalculusServes
 by_cases h : ((decide (((c.length : Nat) : Int) > 40)) || ((decide (((l.length : Nat) : Int) > 60)) && (decide (((l.length : Nat) : Int) ≤ 4000)))) = true
 ·rw [if_pos h, awake_eq]; rfl
 ·obtain ⟨x, h1, h2⟩ := conforms_eq (c := c) hs
  obtain ⟨y, h3, h4, h5⟩ := serves_eq (slow := slow) (delay := delay) hs
  rw [if_neg h, h1, Option.bind_some, h2, Option.bind_some, h3, Option.bind_some, h4, Option.bind_some, ints_self (by omega), awake_eq]
  simp
end Go.Proofs.YtakfmdiiehcbdaaGreat

/- A part of this claim's proof: models of functions, walks, plain laws. No conditions. -/
import Derived.Test.YtakfmdiiehcbdaaPQa
import Derived.Test.YtakfmdiiehcbdaaPDel
namespace Go.Proofs.Ytakfmdiiehcbdaa
open Go Go.RowKit Sep
set_option linter.all false
def WH (n : Int) : Rat := val ⟨n, 1⟩
theorem y5X {n : Int} (h : -1073741824 ≤ n ∧ n ≤ 1073741824) : V ⟨n, 1⟩ = true := by
 unfold V
 rw [decide_eq_true_eq]
 exact ⟨by show (1 : Int) ≤ 1; omega, by show (1 : Int) ≤ 1073741824; omega, by show -1073741824 ≤ n; omega, by show n ≤ 1073741824; omega, Nat.gcd_one_right _⟩
theorem y9l {n : Int} (h : 0 ≤ n ∧ n ≤ 1073741824) : GR ⟨n, 1⟩ = true := by
 unfold GR
 rw [y5X (by omega), Bool.true_and, decide_eq_true_eq]
 exact h.1
theorem AT_V {c : List B} {t : Rat} (hne : c ≠ []) (h : c.all (y3r t) = true) : V (ofQ (AT c t)) = true := by
 obtain ⟨b, hb, e⟩ := List.mem_map.1 (AT_is (t := t) hne).1
 have := List.all_eq_true.1 h b hb
 unfold y3r at this
 rw [Bool.and_eq_true] at this
 rw [← e]
 exact y2H this.2
def cin (c : List B) (t0 : Int) : List SE → Int → Bool → Option Bool
 | [], _, f => some f
 | x :: r, s, f => if c.all (y3r (WH (x.fTime - t0))) then cin c t0 r (s + x.fSize) (f && decide (WH (s + x.fSize) ≤ AT c (WH (x.fTime - t0)))) else none
def cout (c : List B) : List SE → Bool → Option Bool
 | [], f => some f
 | x :: r, f => (cin c x.fTime (x :: r) 0 f).bind (cout c r)
def fin3 (k : Bool → Option (Bool × Int)) : Option Bool → Option (Bool × Int)
 | some f => k f
 | none => some (false, 3)
theorem FRP.mono {l : List SE} (h : FRP l) : ∀ (n : Nat) (i : Int), 0 ≤ i → i + n < l.length → (nth l i).fTime ≤ (nth l (i + n)).fTime
 | 0, i, _, _ => by rw [show i + (0 : Nat) = i by omega]; omega
 | n + 1, i, h0, h1 => by
  have ih := FRP.mono h n i h0 (by omega)
  have := (h.1 (i + (n + 1 : Nat)) (by omega) h1).2.2.2.2 (by omega)
  rw [show i + ((n + 1 : Nat) : Int) - 1 = i + n by omega] at this
  omega
theorem step_at {c : List B} (hc : VC c = true) {d : Int} (hd : 0 ≤ d ∧ d ≤ 1073741824) : y35 c ⟨d, 1⟩ = some (if c.all (y3r (WH d)) then (ofQ (AT c (WH d)), 0) else (⟨0, 0⟩, 3)) := at_eq hc (y9l hd)
theorem con4 {c : List B} {l : List SE} {v : Int} {k : Bool → Option (Bool × Int)} (hc : VC c = true) (hl : FRP l) (hv : 0 ≤ v ∧ v < l.length) :
  ∀ (n : Nat) (f : Bool) (s i : Int), 0 ≤ i → v + i ≤ l.length → l.length - v < n + i → 0 ≤ s → s ≤ 72 * i → y1H l v c k n f s i = fin3 k (cin c (nth l v).fTime (l.drop (v + i).toNat) s f)
 | 0, f, s, i, h0, h1, h2, h3, h4 => by omega
 | n + 1, f, s, i, h0, h1, h2, h3, h4 => by
  rw [y1H]
  have h5 := hl.2
  have hld : ((l.drop v.toNat).length : Int) = l.length - v := by rw [List.length_drop]; omega
  by_cases h : i < ((l.drop v.toNat).length : Int)
  ·have hn : nth (l.drop v.toNat) i = nth l (v + i) := by
    rw [← y2e h0 (by omega), ← y2e (by omega) (by omega), List.getElem_drop]
    congr 1; omega
   rw [if_pos (decide_eq_true h), yj ⟨h0, h⟩, yj hv, hn, y3E (i := v + i) (by omega) (by omega)]
   have g1 := hl.1 (v + i) (by omega) (by omega)
   have g0 := hl.1 v hv.1 hv.2
   have gm := hl.mono i.toNat v hv.1 (by omega)
   rw [show v + ((i.toNat : Nat) : Int) = v + i by omega] at gm
   have g2 := g1.1; have g3 := g1.2.1; have g4 := g1.2.2.1; have g6 := g1.2.2.2.1
   have g7 := g0.1
   rw [yn (x := (nth l (v + i)).fTime - _) (by omega), yn (x := s + _) (by omega), yn (x := i + 1) (by omega)]
   rw [step_at hc (by omega), Option.bind_some, cin]
   cases ha : c.all (y3r (WH ((nth l (v + i)).fTime - (nth l v).fTime))) with
   | false => simp [fin3]
   | true =>
    rw [if_pos rfl, if_pos rfl, if_neg (by simp)]
    simp only []
    rw [y3c (y5X (by omega)) (AT_V (VC_ne hc) ha), y20]
    have hb : (if f then (some (y2X (val ⟨s + (nth l (v + i)).fSize, 1⟩) (AT c (WH ((nth l (v + i)).fTime - (nth l v).fTime))))).bind fun zgG => some (decide (zgG ≤ 0)) else some false) = some (f && decide (WH (s + (nth l (v + i)).fSize) ≤ AT c (WH ((nth l (v + i)).fTime - (nth l v).fTime)))) := by
     cases f with
     | false => rfl
     | true =>
      rw [if_pos rfl, Option.bind_some, Bool.true_and]
      congr 1
      rw [decide_eq_decide]
      exact y5e
    rw [hb, Option.bind_some, con4 hc hl hv n _ _ (i + 1) (by omega) (by omega) (by omega) (by omega) (by omega), show v + (i + 1) = v + i + 1 by omega]
  ·rw [if_neg (by simpa using h), y4d (by omega)]
   rfl
theorem con3 {c : List B} {l : List SE} {k : Bool → Option (Bool × Int)} (hc : VC c = true) (hl : FRP l) :
  ∀ (n : Nat) (f : Bool) (v : Int), 0 ≤ v → v ≤ l.length → l.length < n + v → y1I l c k n f v = fin3 k (cout c (l.drop v.toNat) f)
 | 0, f, v, h0, h1, h2 => by omega
 | n + 1, f, v, h0, h1, h2 => by
  rw [y1I]
  have h5 := hl.2
  by_cases h : v < l.length
  ·rw [if_pos (decide_eq_true h)]
   refine y1P (P := fun o => o = _) fun k1 hk1 => ?_
   rw [yj (by omega)]
   refine y1P (P := fun o => o = _) fun k2 hk2 => ?_
   rw [con4 hc hl ⟨h0, h⟩ yu f 0 0 (by omega) (by omega) (by rw [y1C]; omega) (by omega) (by omega), show v + 0 = v by omega, y3E h0 h, cout]
   cases cin c (nth l v).fTime (nth l v :: l.drop (v + 1).toNat) 0 f with
   | none => rfl
   | some f' =>
    show k2 f' = fin3 k (cout c (l.drop (v + 1).toNat) f')
    rw [hk2, hk1, yn (by omega), con3 hc hl n f' (v + 1) (by omega) (by omega) (by omega)]
  ·rw [if_neg (by simpa using h), y4d h]
   rfl
theorem WH_eq (n : Int) : WH n = Rat.divInt n 1 := rfl
theorem y7M {c : List B} {l : List SE} (hc : VC c = true) (hl : FRP l) (h : cout c l true = some true) : y13 c l = some (true, 0) := by
 unfold y13
 rw [y3Z, y8y hl, hc]
 simp only [Option.bind_some, Bool.not_true, Bool.false_eq_true, if_false]
 refine y1P (P := fun o => o = _) fun k hk => ?_
 have h5 := hl.2
 rw [con3 hc hl yu true 0 (by omega) (by omega) (by rw [y1C]; omega), Int.toNat_zero, List.drop_zero, h]
 exact hk true
def FB (b : B) (gap : Int) : Prop := GB b = true ∧ bq b = Rat.divInt 72 1 ∧ rq b = Rat.divInt 72 gap
theorem FB_vq {b : B} {gap : Int} (hb : FB b gap) (hg : 150 ≤ gap ∧ gap ≤ 650) (x : Int) : rq b * Rat.divInt x 1 = Rat.divInt (72 * x) gap ∧ vq (Rat.divInt x 1) b = Rat.divInt (72 * gap + 72 * x) gap := by
 have e : rq b * Rat.divInt x 1 = Rat.divInt (72 * x) gap := by
  rw [hb.2.2, Rat.divInt_mul_divInt, Int.mul_one]
 refine ⟨e, ?_⟩
 unfold vq
 rw [e, hb.2.1, Rat.divInt_add_divInt _ _ (by decide) (by omega)]
 congr 1 <;> omega
theorem y9m {b : B} {gap : Int} (hb : FB b gap) (hg : 150 ≤ gap ∧ gap ≤ 650) {x : Int} (hx : 0 ≤ x ∧ x ≤ 20000) : y3r (Rat.divInt x 1) b = true := by
 obtain ⟨e1, e2⟩ := FB_vq hb hg x
 unfold y3r
 rw [e1, e2, Bool.and_eq_true]
 exact ⟨y2a (by omega) (by omega), y2a (by omega) (by omega)⟩
theorem AT_one (b : B) (t : Rat) : AT [b] t = vq t b := rfl
theorem y7r {n A g : Int} (hg : 0 < g) (h : n * g ≤ A) : Rat.divInt n 1 ≤ Rat.divInt A g := by
 have h1 : (0 : Rat) ≤ Rat.divInt (A - n * g) g := Rat.divInt_nonneg (by omega) (by omega)
 have h2 : Rat.divInt A g - Rat.divInt n 1 = Rat.divInt (A - n * g) g := by
  rw [Rat.divInt_sub_divInt _ _ (by omega) (by decide)]
  congr 1 <;> omega
 grind
theorem cin_ok {b : B} {gap t0 : Int} (hb : FB b gap) (hg : 150 ≤ gap ∧ gap ≤ 650) (ht0 : 0 ≤ t0) : ∀ (r : List SE) (s c : Int), 0 ≤ c → 0 ≤ s → s * gap ≤ 72 * c → (∀ f ∈ r, t0 + c ≤ f.fTime ∧ f.fTime ≤ 20000 ∧ 1 ≤ f.fSize ∧ f.fSize ≤ 72) → r.Pairwise (fun f f' => f.fTime + gap ≤ f'.fTime) → cin [b] t0 r s true = some true
 | [], s, c, _, _, _, _, _ => rfl
 | y :: r, s, c, h0, h1, h2, h3, h4 => by
  obtain ⟨h5, h6⟩ := List.pairwise_cons.1 h4
  have hy := h3 y (by simp)
  rw [cin, WH_eq, WH_eq, AT_one, if_pos (by simp [y9m hb hg (x := y.fTime - t0) (by omega)]), (FB_vq hb hg (y.fTime - t0)).2]
  have e1 : (s + y.fSize) * gap = s * gap + y.fSize * gap := Int.add_mul _ _ _
  have e2 : y.fSize * gap ≤ 72 * gap := Int.mul_le_mul_of_nonneg_right (by omega) (by omega)
  have hle : Rat.divInt (s + y.fSize) 1 ≤ Rat.divInt (72 * gap + 72 * (y.fTime - t0)) gap := by
   exact y7r (by omega) (by omega)
  rw [decide_eq_true hle]
  refine cin_ok hb hg ht0 r (s + y.fSize) (y.fTime - t0 + gap) (by omega) (by omega) (by omega) (fun f hf => ?_) h6
  have a := h3 f (List.mem_cons_of_mem _ hf)
  have b' := h5 f hf
  omega
theorem y8o {b : B} {gap : Int} (hb : FB b gap) (hg : 150 ≤ gap ∧ gap ≤ 650) : ∀ (l : List SE), (∀ f ∈ l, 0 ≤ f.fTime ∧ f.fTime ≤ 20000 ∧ 1 ≤ f.fSize ∧ f.fSize ≤ 72) → l.Pairwise (fun f f' => f.fTime + gap ≤ f'.fTime) → cout [b] l true = some true
 | [], _, _ => rfl
 | x :: r, h1, h2 => by
  obtain ⟨h5, h6⟩ := List.pairwise_cons.1 h2
  have hx := h1 x (by simp)
  rw [cout, cin_ok hb hg hx.1 (x :: r) 0 0 (by omega) (by omega) (by omega) (fun f hf => ?_) h2]
  ·exact y8o hb hg r (fun f hf => h1 f (List.mem_cons_of_mem _ hf)) h6
  ·have a := h1 f hf
   rcases List.mem_cons.1 hf with rfl | hf
   ·omega
   ·have := h5 f hf; omega
/-! ### Merge -/
set_option maxRecDepth 20000
theorem y55 {k : List SE → Option (List SE)} : ∀ (n : Nat) (a b out : List SE), a.length + b.length < n → (out.length : Int) + a.length + b.length ≤ 1000 → (∀ f ∈ a, f.fVL = 0) → (∀ f ∈ b, f.fVL = 1) → a.Pairwise (fun f f' => f.fTime ≤ f'.fTime) → b.Pairwise (fun f f' => f.fTime ≤ f'.fTime) →
  ∃ d, yZ k n a b out = k (out ++ d) ∧ d.filter (fun f => decide (f.fVL = 0)) = a ∧ d.filter (fun f => decide (f.fVL = 1)) = b ∧ (∀ f ∈ d, f ∈ a ∨ f ∈ b) ∧ d.Pairwise (fun f f' => f.fTime ≤ f'.fTime) ∧ d.length = a.length + b.length
 | 0, a, b, out, h, _, _, _, _, _ => by omega
 | n + 1, [], [], out, h, _, _, _, _, _ => by
  rw [yZ, if_neg (by decide)]
  exact ⟨[], by rw [List.append_nil], rfl, rfl, by simp, .nil, rfl⟩
 | n + 1, [], y :: b, out, h, hb, ha0, hb0, ha, hbs => by
  simp only [List.length_cons, List.length_nil] at h hb
  have hn : nth (y :: b) 0 = y := rfl
  rw [yZ, yn (by simp only [List.length_cons, List.length_nil]; omega), if_pos (by simp only [List.length_cons, List.length_nil, decide_eq_true_eq]; omega)]
  rw [yj (by simp), yj (by first | (simp; done) | (simp; omega)), if_neg (by first | (simp; done) | (simp; omega)), yj (by first | (simp; done) | (simp; omega)), yj (by simp only [List.length_append, List.length_cons, List.length_nil]; omega), yj (by first | (simp; done) | (simp; omega))]
  obtain ⟨h5, h6⟩ := List.pairwise_cons.1 hbs
  obtain ⟨d, e, d1, d2, d3, d4, d5⟩ := y55 (k := k) n [] b (out ++ [y]) (by first | (simp; done) | (simp; omega)) (by first | (simp; done) | (simp; omega)) ha0 (fun f hf => hb0 f (List.mem_cons_of_mem _ hf)) ha h6
  have hy := hb0 y (by simp)
  refine ⟨y :: d, ?_, ?_, ?_, fun f hf => ?_, ?_, by simp [d5]⟩
  ·refine Eq.trans (show _ = yZ k n [] b (out ++ [y]) from rfl) (e.trans ?_)
   rw [List.append_assoc]; rfl
  ·rw [List.filter_cons, hy]; simpa using d1
  ·rw [List.filter_cons, hy]; simpa using d2
  ·rcases List.mem_cons.1 hf with rfl | hf
   ·right; simp
   ·rcases d3 f hf with h | h
    ·left; exact h
    ·right; exact List.mem_cons_of_mem _ h
  ·refine List.pairwise_cons.2 ⟨fun f hf => ?_, d4⟩
   rcases d3 f hf with h | h
   ·simp at h
   ·exact h5 f h
 | n + 1, x :: a, [], out, h, hb, ha0, hb0, ha, hbs => by
  simp only [List.length_cons, List.length_nil] at h hb
  rw [yZ, yn (by simp only [List.length_cons, List.length_nil]; omega), if_pos (by simp only [List.length_cons, List.length_nil, decide_eq_true_eq]; omega)]
  rw [yj (by simp), yj (by simp), if_pos (by simp), yj (by first | (simp; done) | (simp; omega)), yj (by simp only [List.length_append, List.length_cons, List.length_nil]; omega), yj (by first | (simp; done) | (simp; omega))]
  obtain ⟨h5, h6⟩ := List.pairwise_cons.1 ha
  obtain ⟨d, e, d1, d2, d3, d4, d5⟩ := y55 (k := k) n a [] (out ++ [x]) (by first | (simp; done) | (simp; omega)) (by first | (simp; done) | (simp; omega)) (fun f hf => ha0 f (List.mem_cons_of_mem _ hf)) hb0 h6 hbs
  have hx := ha0 x (by simp)
  refine ⟨x :: d, ?_, ?_, ?_, fun f hf => ?_, ?_, by simp [d5]⟩
  ·refine Eq.trans (show _ = yZ k n a [] (out ++ [x]) from rfl) (e.trans ?_)
   rw [List.append_assoc]; rfl
  ·rw [List.filter_cons, hx]; simpa using d1
  ·rw [List.filter_cons, hx]; simpa using d2
  ·rcases List.mem_cons.1 hf with rfl | hf
   ·left; simp
   ·rcases d3 f hf with h | h
    ·left; exact List.mem_cons_of_mem _ h
    ·simp at h
  ·refine List.pairwise_cons.2 ⟨fun f hf => ?_, d4⟩
   rcases d3 f hf with h | h
   ·exact h5 f h
   ·simp at h
 | n + 1, x :: a, y :: b, out, h, hb, ha0, hb0, ha, hbs => by
  simp only [List.length_cons] at h hb
  rw [yZ, yn (by simp only [List.length_cons]; omega), if_pos (by simp only [List.length_cons, decide_eq_true_eq]; omega)]
  rw [yj (by first | (simp; done) | (simp; omega)), yj (by first | (simp; done) | (simp; omega))]
  obtain ⟨h5, h6⟩ := List.pairwise_cons.1 ha
  obtain ⟨h7, h8⟩ := List.pairwise_cons.1 hbs
  have hx := ha0 x (by simp)
  have hy := hb0 y (by simp)
  have nx : nth (x :: a) 0 = x := rfl
  have ny : nth (y :: b) 0 = y := rfl
  by_cases hc : x.fTime ≤ y.fTime
  ·rw [if_pos (by rw [nx, ny]; first | (simp [hc]; done) | (simp [hc]; omega)), yj (by first | (simp; done) | (simp; omega)), yj (by simp only [List.length_append, List.length_cons, List.length_nil]; omega), yj (by first | (simp; done) | (simp; omega))]
   obtain ⟨d, e, d1, d2, d3, d4, d5⟩ := y55 (k := k) n a (y :: b) (out ++ [x]) (by first | (simp; done) | (simp; omega)) (by first | (simp; done) | (simp; omega)) (fun f hf => ha0 f (List.mem_cons_of_mem _ hf)) hb0 h6 hbs
   refine ⟨x :: d, ?_, ?_, ?_, fun f hf => ?_, ?_, by first | (simp [d5]; done) | (simp [d5]; omega)⟩
   ·refine Eq.trans (show _ = yZ k n a (y :: b) (out ++ [x]) from rfl) (e.trans ?_)
    rw [List.append_assoc]; rfl
   ·rw [List.filter_cons, hx]; simpa using d1
   ·rw [List.filter_cons, hx]; simpa using d2
   ·rcases List.mem_cons.1 hf with rfl | hf
    ·left; simp
    ·rcases d3 f hf with h | h
     ·left; exact List.mem_cons_of_mem _ h
     ·right; exact h
   ·refine List.pairwise_cons.2 ⟨fun f hf => ?_, d4⟩
    rcases d3 f hf with h | h
    ·exact h5 f h
    ·rcases List.mem_cons.1 h with rfl | h
     ·exact hc
     ·have := h7 f h; omega
  ·rw [if_neg (by rw [nx, ny]; first | (simp [hc]; done) | (simp [hc]; omega)), yj (by first | (simp; done) | (simp; omega)), yj (by simp only [List.length_append, List.length_cons, List.length_nil]; omega), yj (by first | (simp; done) | (simp; omega))]
   obtain ⟨d, e, d1, d2, d3, d4, d5⟩ := y55 (k := k) n (x :: a) b (out ++ [y]) (by first | (simp; done) | (simp; omega)) (by first | (simp; done) | (simp; omega)) ha0 (fun f hf => hb0 f (List.mem_cons_of_mem _ hf)) ha h8
   refine ⟨y :: d, ?_, ?_, ?_, fun f hf => ?_, ?_, by first | (simp [d5]; done) | (simp [d5]; omega)⟩
   ·refine Eq.trans (show _ = yZ k n (x :: a) b (out ++ [y]) from rfl) (e.trans ?_)
    rw [List.append_assoc]; rfl
   ·rw [List.filter_cons, hy]; simpa using d1
   ·rw [List.filter_cons, hy]; simpa using d2
   ·rcases List.mem_cons.1 hf with rfl | hf
    ·right; simp
    ·rcases d3 f hf with h | h
     ·left; exact h
     ·right; exact List.mem_cons_of_mem _ h
   ·refine List.pairwise_cons.2 ⟨fun f hf => ?_, d4⟩
    rcases d3 f hf with h | h
    ·rcases List.mem_cons.1 h with rfl | h
     ·omega
     ·have := h5 f h; omega
    ·exact h7 f h
end Go.Proofs.Ytakfmdiiehcbdaa

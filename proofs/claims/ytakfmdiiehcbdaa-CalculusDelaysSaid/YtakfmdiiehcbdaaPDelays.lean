/- A part of this claim's proof: models of functions, walks, plain laws. No conditions. -/
import Derived.Test.YtakfmdiiehcbdaaPQb
import Derived.Test.YtakfmdiiehcbdaaPQc
import Derived.Test.YtakfmdiiehcbdaaP03w
import Derived.Test.YtakfmdiiehcbdaaWCalculusDelays
namespace Go.Proofs.Ytakfmdiiehcbdaa
open Go Go.RowKit Sep
set_option linter.all false
theorem yaa {n d : Int} (hn : 0 < n) (hd : 0 < d) : (0 : Rat) < Rat.divInt n d := by
 have h0 : (0 : Rat) ≤ Rat.divInt n d := Rat.divInt_nonneg (by omega) (by omega)
 refine Rat.not_le.1 fun h => ?_
 have e : Rat.divInt n d = Rat.divInt 0 d := by rw [Rat.zero_divInt]; exact Rat.le_antisymm h h0
 have := (Rat.divInt_eq_divInt_iff (by omega) (by omega)).1 e
 rw [Int.zero_mul] at this
 have := Int.mul_pos hn hd
 omega
theorem rate_le {A G k : Int} (hG : 0 < G) (hk : 0 < k) : Rat.divInt 1 k < Rat.divInt A G ↔ G < A * k := by
 have e : Rat.divInt A G - Rat.divInt 1 k = Rat.divInt (A * k - 1 * G) (G * k) := Rat.divInt_sub_divInt _ _ (by omega) (by omega)
 have hGk := Int.mul_pos hG hk
 constructor
 ·intro h
  rcases Int.lt_or_le G (A * k) with h1 | h1
  ·exact h1
  ·exfalso
   have e2 : Rat.divInt 1 k - Rat.divInt A G = Rat.divInt (1 * G - A * k) (k * G) := Rat.divInt_sub_divInt _ _ (by omega) (by omega)
   have h2 : (0 : Rat) ≤ Rat.divInt (1 * G - A * k) (k * G) := Rat.divInt_nonneg (by omega) (by rw [Int.mul_comm]; omega)
   grind
 ·intro h
  have h2 : (0 : Rat) < Rat.divInt (A * k - 1 * G) (G * k) := yaa (by omega) hGk
  grind
theorem y8H {gap : Int} (hg : 150 ≤ gap ∧ gap ≤ 650) : FB ⟨⟨72, 1⟩, ofQ (Rat.divInt 72 gap)⟩ gap := by
 refine ⟨?_, rfl, y20 _⟩
 unfold GB
 rw [Bool.and_eq_true]
 exact ⟨by show GR ⟨72, 1⟩ = true; decide +kernel, GR_of (Rat.divInt_nonneg (by omega) (by omega)) (y2a (by omega) (by omega))⟩
theorem gh_bd {g h : Int} (hg : 150 ≤ g ∧ g ≤ 650) (hh : 150 ≤ h ∧ h ≤ 650) : 22500 ≤ g * h ∧ g * h ≤ 422500 :=
 ⟨Int.le_trans (by omega) (Int.mul_le_mul hg.1 hh.1 (by omega) (by omega)), Int.le_trans (Int.mul_le_mul hg.2 hh.2 (by omega) (by omega)) (by omega)⟩
theorem T2_eq {b1 b2 : B} {g h : Int} (h1 : FB b1 g) (h2 : FB b2 h) (hg : 150 ≤ g ∧ g ≤ 650) (hh : 150 ≤ h ∧ h ≤ 650) (x : Int) : T2 b1 b2 (Rat.divInt x 1) = Rat.divInt (144 * (g * h) + 72 * ((g + h) * x)) (g * h) := by
 unfold T2
 rw [(FB_vq h1 hg x).2, (FB_vq h2 hh x).2, Rat.divInt_add_divInt _ _ (by omega) (by omega)]
 congr 1
 grind
theorem y9T {b1 b2 : B} {g h : Int} (h1 : FB b1 g) (h2 : FB b2 h) (hg : 150 ≤ g ∧ g ≤ 650) (hh : 150 ≤ h ∧ h ≤ 650) {x : Int} (hx : 0 ≤ x ∧ x ≤ 255) : tfit b1 b2 (Rat.divInt x 1) := by
 refine ⟨y9m h1 hg (by omega), y9m h2 hh (by omega), ?_⟩
 rw [T2_eq h1 h2 hg hh]
 have hP := gh_bd hg hh
 have hQ : 0 ≤ (g + h) * x ∧ (g + h) * x ≤ 1300 * 255 := mulr (show 0 ≤ g + h ∧ g + h ≤ 1300 by omega) hx
 exact y2a (by omega) (by omega)
where mulr {a b x y : Int} (ha : 0 ≤ a ∧ a ≤ x) (hb : 0 ≤ b ∧ b ≤ y) : 0 ≤ a * b ∧ a * b ≤ x * y :=
 ⟨Int.mul_nonneg ha.1 hb.1, Int.mul_le_mul ha.2 hb.2 hb.1 (by omega)⟩
theorem mulr {a b x y : Int} (ha : 0 ≤ a ∧ a ≤ x) (hb : 0 ≤ b ∧ b ≤ y) : 0 ≤ a * b ∧ a * b ≤ x * y :=
 ⟨Int.mul_nonneg ha.1 hb.1, Int.mul_le_mul ha.2 hb.2 hb.1 (by omega)⟩
theorem rates_eq {b1 b2 : B} {g h : Int} (h1 : FB b1 g) (h2 : FB b2 h) (hg : 150 ≤ g ∧ g ≤ 650) (hh : 150 ≤ h ∧ h ≤ 650) : rq b1 + rq b2 = Rat.divInt (72 * (g + h)) (g * h) ∧ fits (rq b1 + rq b2) = true := by
 have e : rq b1 + rq b2 = Rat.divInt (72 * (g + h)) (g * h) := by
  rw [h1.2.2, h2.2.2, Rat.divInt_add_divInt _ _ (by omega) (by omega)]
  congr 1
  grind
 refine ⟨e, ?_⟩
 rw [e]
 have hP := gh_bd hg hh
 exact y2a (by omega) (by omega)
theorem y8p {l : List SE} {e : List Int} {T : Int} (hl : FRP l) : ∀ (n : Nat), (n : Int) ≤ l.length → 0 ≤ y2E l e T n ∧ y2E l e T n ≤ 72 * n
 | 0, _ => by simp [y2E]
 | n + 1, h => by
  have ih := y8p hl n (by omega) (e := e) (T := T)
  obtain ⟨_, _, z3, z4, _⟩ := hl.1 (n : Int) (by omega) (by omega)
  rw [y2E]
  split <;> omega
theorem del6 {l : List SE} {es : List Int} {e v : Int} {k : Int → Option Bool} (hl : FRP l) (hel : es.length = l.length) (h0 : 0 ≤ v) (hv : v < l.length) : ∀ (n : Nat) (i : Nat), (i : Int) ≤ v + 1 → v + 1 < n + (i : Int) → y1p v (es, e) l k n (y2E l es (nth l v).fTime i) i = k (y2E l es (nth l v).fTime (v + 1).toNat)
 | 0, i, h1, h2 => by omega
 | n + 1, i, h1, h2 => by
  rw [y1p]
  have h4 := hl.2
  rw [yn (x := v + 1) (by omega)]
  by_cases h : (i : Int) < v + 1
  ·rw [if_pos (decide_eq_true h)]
   refine y1P (P := fun o => o = _) fun k1 hk1 => ?_
   have hb := y8p hl i (by omega) (e := es) (T := (nth l v).fTime)
   obtain ⟨_, _, z3, z4, _⟩ := hl.1 (i : Int) (by omega) (by omega)
   have go := del6 (k := k) hl hel h0 hv (e := e) n (i + 1) (by omega) (by omega)
   rw [show ((i + 1 : Nat) : Int) = (i : Int) + 1 by omega] at go
   simp only []
   rw [yj (by omega)]
   by_cases hc : nth es i > (nth l v).fTime
   ·rw [if_pos (decide_eq_true hc), yj (by omega), hk1, yn (x := y2E l es _ i + _) (by omega), yn (x := (i : Int) + 1) (by omega)]
    rw [y2E, if_pos hc] at go
    exact go
   ·rw [if_neg (by simpa using hc), hk1, yn (x := (i : Int) + 1) (by omega)]
    rw [y2E, if_neg hc, Int.add_zero] at go
    exact go
  ·rw [if_neg (by simpa using h), show (v + 1).toNat = i by omega]
theorem del5 {l : List SE} {g h kk d e5 e6 e7 : Int} {bound store : Rat} {k : Option Bool} (hl : FRP l) (ht : ∀ f ∈ l, 0 ≤ f.fTime ∧ f.fTime ≤ 20000) (hlen : (l.length : Int) ≤ 24) (hm : MG2 l g h) (hg : 150 ≤ g ∧ g ≤ 650) (hh : 150 ≤ h ∧ h ≤ 650) (hk : 1 ≤ kk ∧ kk ≤ 2) (hd : 0 ≤ d ∧ d ≤ 255) (h2 : 72 * kk * (g + h) ≤ g * h)
  (eb : bound = Rat.divInt (144 * (g * h) * kk + d * (g * h)) (g * h)) (es : store = Rat.divInt (144 * (g * h) + 72 * ((g + h) * d)) (g * h)) :
  ∀ (n : Nat) (v : Int), 0 ≤ v → v ≤ l.length → l.length < n + v → y1q l (SVE kk d l 0, e5) (ofQ bound, e6) (ofQ store, e7) k n v = k
 | 0, v, h0, h1, h3 => by omega
 | n + 1, v, h0, h1, h3 => by
  rw [y1q]
  have h4 := hl.2
  have hP := gh_bd hg hh
  have hPp : 0 < g * h := by omega
  have hQ := mulr (show 0 ≤ g + h ∧ g + h ≤ 1300 by omega) hd
  have hPk := mulr (show 0 ≤ 144 * (g * h) ∧ 144 * (g * h) ≤ 60840000 by omega) (show 0 ≤ kk ∧ kk ≤ 2 by omega)
  have hPd := mulr hd (show 0 ≤ g * h ∧ g * h ≤ 422500 by omega)
  by_cases hv : v < l.length
  ·rw [if_pos (decide_eq_true hv)]
   refine y96 (P := fun o => o = _) fun k1 hk1 => ?_
   have hel := y4q (slow := kk) (delay := d) l 0
   rw [yn (x := v + 1) (by omega), del5 hl ht hlen hm hg hh hk hd h2 eb es n (v + 1) (by omega) (by omega) (by omega)] at hk1
   simp only []
   rw [yj ⟨h0, hv⟩, yj (by rw [hel]; exact ⟨h0, hv⟩)]
   have db := y9z (k := kk) (d := d) hl hm (by omega) (by omega) (by omega) hd.1 h2 h0 hv
   have hat := y9k (slow := kk) (delay := d) h0 hv
   obtain ⟨f1, f2, f3, f4, _⟩ := hl.1 v h0 hv
   have htv := ht _ (y2Y h0 hv)
   have hsk := mulr (show 0 ≤ (nth l v).fSize ∧ (nth l v).fSize ≤ 72 by omega) (show 0 ≤ kk ∧ kk ≤ 2 by omega)
   have hge : 0 ≤ nth (SVE kk d l 0) v - (nth l v).fTime := by omega
   have hfb : fits bound = true := by rw [eb]; exact y2a hPp (by omega)
   have hfs : fits store = true := by rw [es]; exact y2a hPp (by omega)
   rw [yn (x := nth (SVE kk d l 0) v - _) (by omega)]
   unfold yG
   rw [Option.bind_some, y3c (y5X (by omega)) (y2H hfb), y20, Option.bind_some]
   have c1 : val ⟨nth (SVE kk d l 0) v - (nth l v).fTime, 1⟩ ≤ bound := by
    show WH _ ≤ _
    rw [WH_eq, eb]
    refine y7r hPp ?_
    have := Int.mul_le_mul_of_nonneg_right db (show 0 ≤ g * h by omega)
    have e1 : (144 * kk + d) * (g * h) = 144 * (g * h) * kk + d * (g * h) := by grind
    omega
   rw [if_neg (fun hc => absurd (y4T.1 (of_decide_eq_true hc)) (Rat.not_lt.2 c1))]
   refine y1P (P := fun o => o = _) fun k2 hk2 => ?_
   have h6 := del6 (k := k2) (e := e5) hl hel h0 hv yu 0 (by omega) (by rw [y1C]; omega)
   have hh0 : y2E l (SVE kk d l 0) (nth l v).fTime 0 = 0 := rfl
   rw [hh0, show ((0 : Nat) : Int) = 0 from rfl] at h6
   rw [h6, hk2]
   have hb := ya7 (k := kk) (d := d) hl hm (by omega) (by omega) (by omega) hd.1 h2 h0 hv
   have hbb := y8p hl (v + 1).toNat (by omega) (e := SVE kk d l 0) (T := (nth l v).fTime)
   generalize y2E l (SVE kk d l 0) (nth l v).fTime (v + 1).toNat = H at *
   have e72 : store + val ⟨72, 1⟩ = Rat.divInt (216 * (g * h) + 72 * ((g + h) * d)) (g * h) := by
    have : val ⟨72, 1⟩ = Rat.divInt 72 1 := rfl
    rw [this, es, Rat.divInt_add_divInt _ _ (by omega) (by decide)]
    congr 1 <;> omega
   have hf2 : fits (Rat.divInt (216 * (g * h) + 72 * ((g + h) * d)) (g * h)) = true := y2a hPp (by omega)
   rw [Option.bind_some, y52 (y2H hfs) (y5X (by omega)), y20, e72, y7D hf2, Option.bind_some, if_neg (by simp), Option.bind_some]
   simp only []
   rw [y3c (y5X (by omega)) (y2H hf2), y20, Option.bind_some, Option.bind_some]
   have c2 : val ⟨H, 1⟩ ≤ Rat.divInt (216 * (g * h) + 72 * ((g + h) * d)) (g * h) := by
    show WH _ ≤ _
    rw [WH_eq]
    refine y7r hPp ?_
    have : H * (g * h) = g * h * H := Int.mul_comm _ _
    omega
   rw [if_neg (fun hc => absurd (y4T.1 (of_decide_eq_true hc)) (Rat.not_lt.2 c2)), hk1]
  ·rw [if_neg (by simpa using hv)]
theorem make72 {gap : Int} (hg : 150 ≤ gap ∧ gap ≤ 650) : y2Q 72 gap = some (ofQ (Rat.divInt 72 gap), 0) := by
 rw [y6K (by omega) (by omega), y7D (y2a (by omega) (by omega))]
def BK (gap : Int) : B := ⟨⟨72, 1⟩, ofQ (Rat.divInt 72 gap)⟩
theorem del4 {a b : List SE} {g h : Int} {k : List SE → List SE → List (List B) → Option Bool} (hg : 0 ≤ g ∧ g ≤ 65535) (hh : 0 ≤ h ∧ h ≤ 65535)
  (ca : y13 [BK (150 + g % 501)] a = some (true, 0)) (cb : y13 [BK (150 + h % 501)] b = some (true, 0)) (n : Nat) :
  yR a g b h k (n + 3) [] ([(⟨a, i64 (150 + (Int.tmod (i64 g) 501))⟩ : S27), (⟨b, i64 (150 + (Int.tmod (i64 h) 501))⟩ : S27)] : List S27) 0 = k a b [[BK (150 + g % 501)], [BK (150 + h % 501)]] := by
 have eg : i64 (150 + (Int.tmod (i64 g) 501)) = 150 + g % 501 := by rw [yn (x := g) (by omega), y5V hg.1, yn (by omega)]
 have eh : i64 (150 + (Int.tmod (i64 h) 501)) = 150 + h % 501 := by rw [yn (x := h) (by omega), y5V hh.1, yn (by omega)]
 have step : ∀ (m : Nat) (l : List (List B)) (v : Int) (s : S27) (gap : Int), 0 ≤ v → v < 2 → (l.length : Int) = v → nth ([(⟨a, 150 + g % 501⟩ : S27), (⟨b, 150 + h % 501⟩ : S27)] : List S27) v = s → s.fGap = gap → 150 ≤ gap ∧ gap ≤ 650 → y13 [BK gap] s.fF = some (true, 0) →
   yR a g b h k (m + 1) l ([(⟨a, 150 + g % 501⟩ : S27), (⟨b, 150 + h % 501⟩ : S27)] : List S27) v = yR a g b h k m (l ++ [[BK gap]]) ([(⟨a, 150 + g % 501⟩ : S27), (⟨b, 150 + h % 501⟩ : S27)] : List S27) (v + 1) := by
  intro m l v s gap h0 h1 h2 h3 h4 h5 h6
  rw [yR, if_pos (by simp; omega), yj (by simp; omega), h3, h4, make72 h5, Option.bind_some]
  unfold yG y2b
  rw [Option.bind_some, Option.bind_some]
  refine (congrArg (fun o => Option.bind o _) h6).trans ?_
  rw [Option.bind_some, if_neg (by simp), yj (by simp only [List.length_append, List.length_cons, List.length_nil]; omega), yn (by omega)]
  rfl
 rw [eg, eh]
 rw [step (n + 2) [] 0 ⟨a, 150 + g % 501⟩ (150 + g % 501) (by omega) (by omega) rfl rfl rfl (by omega) ca]
 rw [step (n + 1) _ (0 + 1) ⟨b, 150 + h % 501⟩ (150 + h % 501) (by omega) (by omega) rfl rfl rfl (by omega) cb]
 rw [yR, if_neg (by simp)]
 rfl
theorem srt_of {d : List SE} {gap : Int} (hg : 0 ≤ gap) (h : d.Pairwise (fun f g => f.fTime + gap ≤ g.fTime)) : d.Pairwise (fun f f' => f.fTime ≤ f'.fTime) :=
 h.imp fun h => by omega
theorem y77 {m n p q : List Int} {g h slow delay : Int} (hm : ∀ x ∈ m, 0 ≤ x ∧ x ≤ 255) (hn : ∀ x ∈ n, 0 ≤ x ∧ x ≤ 255) (hp : ∀ x ∈ p, 0 ≤ x ∧ x ≤ 255) (hq : ∀ x ∈ q, 0 ≤ x ∧ x ≤ 255) (hg : 0 ≤ g ∧ g ≤ 65535) (hh : 0 ≤ h ∧ h ≤ 65535) (hs : 0 ≤ slow ∧ slow ≤ 255) (hd : 0 ≤ delay ∧ delay ≤ 255) : y2T m n p q g h slow delay = some true := by
 have eg : i64 (150 + (Int.tmod (i64 g) 501)) = 150 + g % 501 := by rw [yn (x := g) (by omega), y5V hg.1, yn (by omega)]
 have eh : i64 (150 + (Int.tmod (i64 h) 501)) = 150 + h % 501 := by rw [yn (x := h) (by omega), y5V hh.1, yn (by omega)]
 have ek : i64 (1 + (Int.tmod (i64 slow) 2)) = 1 + slow % 2 := by rw [yn (x := slow) (by omega), y5V hs.1, yn (by omega)]
 have hG : 150 ≤ 150 + g % 501 ∧ 150 + g % 501 ≤ 650 := by omega
 have hH : 150 ≤ 150 + h % 501 ∧ 150 + h % 501 ≤ 650 := by omega
 have hK : 1 ≤ 1 + slow % 2 ∧ 1 + slow % 2 ≤ 2 := by omega
 obtain ⟨a, ea, a1, a2, a3⟩ := y9L (vl := 0) (gap := 150 + g % 501) hm hp (by omega)
 obtain ⟨b, eb, b1, b2, b3⟩ := y9L (vl := 1) (gap := 150 + h % 501) hn hq (by omega)
 have fa := y97 (by omega) a1 a2 a3
 have fb := y97 (by omega) b1 b2 b3
 have FA : FB (BK (150 + g % 501)) (150 + g % 501) := y8H hG
 have FB' : FB (BK (150 + h % 501)) (150 + h % 501) := y8H hH
 have ca : y13 [BK (150 + g % 501)] a = some (true, 0) := y7M (y54 FA.1) fa (y8o FA hG a (fun f hf => by have := a1 f hf; omega) a2)
 have cb : y13 [BK (150 + h % 501)] b = some (true, 0) := y7M (y54 FB'.1) fb (y8o FB' hH b (fun f hf => by have := b1 f hf; omega) b2)
 unfold y2T
 have hF : 1000 ≤ yu := by rw [y1C]; omega
 generalize hN : yu = N at hF ⊢
 have ea' : y2U m p 0 (i64 (150 + (Int.tmod (i64 g) 501))) = some a := by rw [eg]; exact ea
 have eb' : y2U n q 1 (i64 (150 + (Int.tmod (i64 h) 501))) = some b := by rw [eh]; exact eb
 rw [ea', Option.bind_some, eb', Option.bind_some]
 refine y8b (P := fun o => o = _) fun k hk => ?_
 obtain ⟨N', hN'⟩ : ∃ N', N = N' + 3 := ⟨N - 3, by omega⟩
 rw [hN', del4 hg hh ca cb, hk, ek, eg, eh, yn (x := delay) (by omega)]
 unfold yG
 rw [Option.bind_some, Option.bind_some]
 -- the merged frames
 have hM : ∃ l, y3V a b = some l ∧ l.filter (fun f => decide (f.fVL = 0)) = a ∧ l.filter (fun f => decide (f.fVL = 1)) = b ∧ (∀ f ∈ l, f ∈ a ∨ f ∈ b) ∧ l.Pairwise (fun f f' => f.fTime ≤ f'.fTime) ∧ l.length = a.length + b.length := by
  unfold y3V
  refine y1P (P := fun o => ∃ l : List SE, o = some l ∧ l.filter (fun f => decide (f.fVL = 0)) = a ∧ l.filter (fun f => decide (f.fVL = 1)) = b ∧ (∀ f ∈ l, f ∈ a ∨ f ∈ b) ∧ l.Pairwise (fun f f' => f.fTime ≤ f'.fTime) ∧ l.length = a.length + b.length) fun k hk => ?_
  obtain ⟨d, e, r⟩ := y55 (k := k) yu a b [] (by rw [y1C]; omega) (by simp; omega) (fun f hf => (a1 f hf).2.2.2.2) (fun f hf => (b1 f hf).2.2.2.2) (srt_of (by omega) a2) (srt_of (by omega) b2)
  exact ⟨d, by rw [e, hk]; rfl, r⟩
 obtain ⟨l, el, l1, l2, l3, l4, l5⟩ := hM
 have lall : ∀ f ∈ l, (0 ≤ f.fTime ∧ f.fTime ≤ 20000 ∧ 1 ≤ f.fSize ∧ f.fSize ≤ 72) ∧ (f.fVL = 0 ∨ f.fVL = 1) := by
  intro f hf
  rcases l3 f hf with h | h
  ·have := a1 f h; exact ⟨by omega, .inl this.2.2.2.2⟩
  ·have := b1 f h; exact ⟨by omega, .inr this.2.2.2.2⟩
 have fl : FRP l := by
  refine ⟨fun x x0 x1 => ?_, by omega⟩
  have := (lall _ (y2Y x0 x1)).1
  refine ⟨by omega, by omega, by omega, by omega, fun hx => ?_⟩
  have := List.pairwise_iff_getElem.1 l4 (x - 1).toNat x.toNat (by omega) (by omega) (by omega)
  rwa [y2e (by omega) (by omega), y2e (by omega) (by omega)] at this
 have ml : MG2 l (150 + g % 501) (150 + h % 501) := ⟨fun f hf => (lall f hf).2, by rw [l1]; exact a2, by rw [l2]; exact b2⟩
 rw [el, Option.bind_some, serve_eq fl (by omega) (by omega), Option.bind_some]
 -- the server
 generalize hS : (⟨⟨1, 1 + slow % 2⟩, ⟨delay, 1⟩⟩ : SV) = S
 have V1 : V ⟨1, 1 + slow % 2⟩ = true := by
  unfold V
  rw [decide_eq_true_eq]
  exact ⟨by show 1 ≤ 1 + slow % 2; omega, by show 1 + slow % 2 ≤ _; omega, by show (-1073741824 : Int) ≤ 1; omega, by show (1 : Int) ≤ 1073741824; omega, Nat.gcd_one_left _⟩
 have GD : GR ⟨delay, 1⟩ = true := y9l (by omega)
 have VSS : VS S = true := by
  rw [← hS]
  unfold VS
  simp only [Bool.and_eq_true, decide_eq_true_eq]
  exact ⟨⟨⟨V1, by show (0 : Int) < 1; omega⟩, y2m GD⟩, hd.1⟩
 have eR : RS S = Rat.divInt 1 (1 + slow % 2) := by rw [← hS]; rfl
 have eL : LS S = Rat.divInt delay 1 := by rw [← hS]; rfl
 have hP := gh_bd hG hH
 have z0 : (0 : Rat) = Rat.divInt 0 1 := by rw [Rat.zero_divInt]
 obtain ⟨er, fr⟩ := rates_eq FA FB' hG hH
 have t0 : tfit (BK (150 + g % 501)) (BK (150 + h % 501)) 0 := by rw [z0]; exact y9T FA FB' hG hH (by omega)
 have tL : tfit (BK (150 + g % 501)) (BK (150 + h % 501)) (LS S) := by rw [eL]; exact y9T FA FB' hG hH (by omega)
 have eT0 : T2 (BK (150 + g % 501)) (BK (150 + h % 501)) 0 = Rat.divInt (144 * ((150 + g % 501) * (150 + h % 501))) ((150 + g % 501) * (150 + h % 501)) := by
  rw [z0]
  refine (T2_eq FA FB' hG hH 0).trans ?_
  congr 1
  rw [Int.mul_zero, Int.mul_zero, Int.add_zero]
 have eTL : T2 (BK (150 + g % 501)) (BK (150 + h % 501)) (LS S) = Rat.divInt (144 * ((150 + g % 501) * (150 + h % 501)) + 72 * (((150 + g % 501) + (150 + h % 501)) * delay)) ((150 + g % 501) * (150 + h % 501)) := by
  rw [eL]
  exact T2_eq FA FB' hG hH delay
 generalize hGv : 150 + g % 501 = G at *
 generalize hHv : 150 + h % 501 = H at *
 generalize hKv : 1 + slow % 2 = K at *
 have hPK := mulr (show 0 ≤ 144 * (G * H) ∧ 144 * (G * H) ≤ 60840000 by omega) (show 0 ≤ K ∧ K ≤ 2 by omega)
 have hPd := mulr hd (show 0 ≤ G * H ∧ G * H ≤ 422500 by omega)
 have hQd := mulr (show 0 ≤ G + H ∧ G + H ≤ 1300 by omega) hd
 have eq1 : T2 (BK G) (BK H) 0 / RS S = Rat.divInt (144 * (G * H) * K) (G * H) := by
  rw [eT0, eR, Rat.div_def, Rat.inv_divInt, Rat.divInt_mul_divInt, Int.mul_one]
 have eq2 : T2 (BK G) (BK H) 0 / RS S + LS S = Rat.divInt (144 * (G * H) * K + delay * (G * H)) (G * H) := by
  rw [eq1, eL, Rat.divInt_add_divInt _ _ (by omega) (by decide), Int.mul_one, Int.mul_one]
 have fq1 : fits (T2 (BK G) (BK H) 0 / RS S) = true := by rw [eq1]; exact y2a (by omega) (by omega)
 have fq2 : fits (T2 (BK G) (BK H) 0 / RS S + LS S) = true := by rw [eq2]; exact y2a (by omega) (by omega)
 have hle : T2 (BK G) (BK H) 0 ≤ T2 (BK G) (BK H) (LS S) := by
  have pL := y8E VSS
  unfold T2 vq
  have q1 : 0 ≤ rq (BK G) * LS S := Rat.mul_nonneg (y87 (y3B FA.1)) pL
  have q2 : 0 ≤ rq (BK H) * LS S := Rat.mul_nonneg (y87 (y3B FB'.1)) pL
  rw [Rat.mul_zero, Rat.mul_zero]
  grind
 rw [yay FA.1 FB'.1 VSS fr t0 fq1 fq2, Option.bind_some]
 rw [y9B FA.1 FB'.1 VSS (by rw [← hS]) (by omega) GD (y5X (by omega)) fr t0 tL hle, Option.bind_some]
 have hiff : RS S < rq (BK G) + rq (BK H) ↔ G * H < 72 * (G + H) * K := by
  rw [eR]
  have : rq (BK G) + rq (BK H) = Rat.divInt (72 * (G + H)) (G * H) := er
  rw [this]
  exact rate_le (by omega) (by omega)
 have hQK := mulr (show 0 ≤ G + H ∧ G + H ≤ 1300 by omega) (show 0 ≤ K ∧ K ≤ 2 by omega)
 have e72 : 72 * (G + H) * K = 72 * ((G + H) * K) := by rw [Int.mul_assoc]
 have e73 : 72 * K * (G + H) = 72 * ((G + H) * K) := by rw [Int.mul_assoc, Int.mul_comm K]
 by_cases h6 : RS S < rq (BK G) + rq (BK H)
 ·have h7 := hiff.1 h6
  rw [if_pos h6, if_pos h6, if_pos (by simp)]
  rw [yn (x := 72 * K) (by omega), yn (x := G + H) (by omega), yn (x := 72 * K * (G + H)) (by omega), yn (x := G * H) (by omega)]
  rw [if_pos (by simp; omega), y9o]
  rfl
 ·have h7 : 72 * K * (G + H) ≤ G * H := by
   rcases Int.lt_or_le (G * H) (72 * (G + H) * K) with h | h
   ·exact absurd (hiff.2 h) h6
   ·omega
  rw [if_neg h6, if_neg h6, if_neg (by simp), if_neg (by simp [y4q])]
  refine y96 (P := fun o => o = _) fun k1 hk1 => ?_
  rw [del5 fl (fun f hf => by have := lall f hf; omega) (by omega) ml hG hH hK hd h7 eq2 eTL N 0 (by omega) (by omega) (by omega), hk1, y9o]
  rfl
end Go.Proofs.Ytakfmdiiehcbdaa

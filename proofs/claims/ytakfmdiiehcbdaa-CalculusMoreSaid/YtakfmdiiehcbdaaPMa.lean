/- A part of this claim's proof: models of functions, walks, plain laws. No conditions. -/
import Derived.Test.YtakfmdiiehcbdaaPAd
namespace Go.Proofs.Ytakfmdiiehcbdaa
open Go Go.RowKit Sep
set_option linter.all false
open Ab
theorem y6R {α : Type} [Inhabited α] (p : List α) (c : α) (r : List α) : nth (p ++ c :: r) (p.length : Int) = c := by simp [nth]
def TL : List (List B) → Rat → Rat
  | [], _ => 0
  | c :: l, q => AT c q + TL l q
def rr (c : List B) : Rat := val ((y2J c).getD (⟨0, 1⟩, 0)).1
def RT : List (List B) → Rat
  | [] => 0
  | c :: l => rr c + RT l
theorem y77 {c : List B} (h : SC c) : y2J c = some (ofQ (rr c), 0) ∧ G 5 8 (rr c) ∧ 0 ≤ rr c ∧ fits (rr c) = true ∧ ∃ d ∈ c, rr c = rq d := by
  obtain ⟨d, e, g, l⟩ := rate_ok h.VC
  have hd := h.2.2 d g
  have er : rr c = rq d := by unfold rr; rw [e]; rfl
  refine ⟨?_, er ▸ hd.2.2, er ▸ hd.pos.2, ?_, d, g, er⟩
  · rw [e, er, show ofQ (rq d) = d.fR from y7O (y2j (y55 hd.1))]
  · rw [er]; exact fits_val (y2j (y55 hd.1))
theorem TL_G {p : Int} (hp : 0 ≤ p ∧ p ≤ 4000) : ∀ {l : List (List B)}, (∀ c ∈ l, SC c) → G (20100 * l.length) 8 (TL l (WZ p))
  | [], _ => ⟨0, by simp, by rw [Rat.zero_divInt]; rfl⟩
  | c :: l, h => by
    have g1 := (h c (by simp)).atG (WZ_G (p := p) (M := 4000) (by omega))
    have g2 := TL_G hp (l := l) fun x hx => h x (by simp [hx])
    refine (g1.add (by omega) g2).le ?_
    simp only [List.length_cons]; omega
theorem y8B {p : Int} (hp : 0 ≤ p ∧ p ≤ 4000) {k : Int → Int → Int → Option (R × zX)} : ∀ (r pre : List (List B)) (S : Rat) (n : Nat), (∀ c ∈ r, SC c) → G (20100 * pre.length) 8 S → pre.length + r.length ≤ 2 → r.length < n →
    y1i (pre ++ r) ⟨p, 1⟩ k n pre.length 0 (ofQ S).fN (ofQ S).fD = k (ofQ (S + TL r (WZ p))).fN (ofQ (S + TL r (WZ p))).fD 0
  | [], pre, S, 0, _, _, _, hn => absurd hn (by simp)
  | [], pre, S, n + 1, _, _, _, _ => by
    rw [y1i, if_neg (by simp), show S + TL [] (WZ p) = S from Rat.add_zero S]
  | c :: r, pre, S, 0, _, _, _, hn => absurd hn (by simp)
  | c :: r, pre, S, n + 1, h, hS, hl, hn => by
    have hc := h c (by simp)
    have gA := hc.atG (WZ_G (p := p) (M := 4000) (by omega))
    simp only [List.length_cons] at hl hn
    have gT : G (20100 * (pre ++ [c]).length) 8 (S + AT c (WZ p)) := (hS.add (by omega) gA).le (by simp only [List.length_append, List.length_cons, List.length_nil]; omega)
    have fS := hS.fits (by omega) (by omega) (by omega)
    have fA := gA.fits (by omega) (by omega) (by omega)
    have fT := gT.fits (by omega) (by omega) (by simp only [List.length_append, List.length_cons, List.length_nil]; omega)
    have ih := y8B hp (k := k) r (pre ++ [c]) (S + AT c (WZ p)) n (fun x hx => h x (by simp [hx])) gT (by simp only [List.length_append, List.length_cons, List.length_nil]; omega) (by omega)
    rw [y1i, if_pos (by simp; omega), yn (by simp; omega), y6R, at_sc hc hp, Option.bind_some]
    refine y3v (P := fun o => o = _) fun k1 hk1 => ?_
    rw [if_pos (by simp), hk1]
    have a1 := y4S (f := fun y0 y1 => y1C y0 y1) (y7w (y1G fS) (y1G fA))
    rw [y12, y12, fT, if_pos rfl] at a1
    refine (congrArg (fun o => Option.bind o _) a1).trans ?_
    rw [Option.bind_some, yr (x := (pre.length : Int) + 1) (by omega)]
    have e : pre ++ c :: r = (pre ++ [c]) ++ r := by simp
    have el : (pre.length : Int) + 1 = ((pre ++ [c]).length : Int) := by simp
    rw [e, el]
    refine ih.trans ?_
    have : S + TL (c :: r) (WZ p) = S + AT c (WZ p) + TL r (WZ p) := (Rat.add_assoc _ _ _).symm
    rw [this]
def CL (l : List (List B)) : Prop := l.length ≤ 2 ∧ ∀ c ∈ l, SC c
theorem yaf {l : List (List B)} {p : Int} (h : CL l) (hp : 0 ≤ p ∧ p ≤ 4000) : y1X ⟨0⟩ l ⟨p, 1⟩ = some (ofQ (TL l (WZ p)), ⟨0⟩) := by
  unfold y1X
  rw [y5W, Option.bind_some]
  refine y9K (P := fun o => o = _) fun k hk => ?_
  have := y8B hp (k := k) l [] 0 ys h.2 ⟨0, by simp, by rw [Rat.zero_divInt]⟩ (by simpa using h.1) (by rw [y1V]; have := h.1; omega)
  refine Eq.trans this ?_
  rw [hk, show (0 : Rat) + TL l (WZ p) = TL l (WZ p) from Rat.zero_add _]
theorem CL.G {l : List (List B)} {p : Int} (h : CL l) (hp : 0 ≤ p ∧ p ≤ 4000) : G 40200 8 (TL l (WZ p)) := (TL_G hp h.2).le (by have := h.1; omega)
def SK (s : SV) (j k L : Int) : Prop := s = ⟨ofQ (Rat.divInt j k), ⟨L, 1⟩⟩ ∧ (1 ≤ j ∧ j ≤ 160) ∧ (8 ≤ k ∧ k ≤ 15) ∧ 0 ≤ L ∧ L ≤ 510
theorem server_k {j k d : Int} (hj : 1 ≤ j ∧ j ≤ 160) (hk : 8 ≤ k ∧ k ≤ 15) (hd : 0 ≤ d ∧ d ≤ 510) : VS ⟨ofQ (Rat.divInt j k), ⟨d, 1⟩⟩ = true := by
  have f := y2r (n := j) (d := k) (by omega) (by omega)
  have g := y8g (n := d) (by omega)
  unfold VS
  simp only [Bool.and_eq_true, decide_eq_true_eq]
  refine ⟨⟨⟨y1G f, ?_⟩, y2j g⟩, hd.1⟩
  show 0 < (Rat.divInt j k).num
  rw [Rat.num_divInt, Int.sign_eq_one_of_pos (by omega), Int.one_mul]
  have h1 : (Int.gcd k j : Int) ∣ j := Int.gcd_dvd_right ..
  have h2 : 0 < Int.gcd k j := Int.gcd_pos_of_ne_zero_left _ (by omega)
  exact Int.ediv_pos_of_pos_of_dvd (by omega) (by omega) h1
theorem SK.vs {s : SV} {j k L : Int} (h : SK s j k L) : VS s = true ∧ RS s = Rat.divInt j k ∧ LS s = WZ L := by
  obtain ⟨e, h1, h2, h3⟩ := h
  rw [e]
  exact ⟨server_k h1 h2 h3, y12 _, rfl⟩
theorem SK.rG {s : SV} {j k L : Int} (h : SK s j k L) : G 20 k.toNat (RS s) := ⟨j, by have := h.2.1; have := h.2.2.1; omega, by rw [h.vs.2.1, show ((k.toNat : Nat) : Int) = k by have := h.2.2.1; omega]⟩
theorem SK.over {s : SV} {j k L : Int} (h : SK s j k L) {m : Nat} {q : Rat} (hq : G m 8 q) : G (m * 15) (8 * j.toNat) (q / RS s) := by
  obtain ⟨n, hn, e⟩ := hq
  have hj := h.2.1; have hk := h.2.2.1
  refine ⟨n * k, ?_, ?_⟩
  · rw [Int.natAbs_mul]
    have h1 : n.natAbs * k.natAbs ≤ (m * 8) * 15 := Nat.mul_le_mul hn (by omega)
    have h2 : m * 15 * (8 * 1) ≤ m * 15 * (8 * j.toNat) := Nat.mul_le_mul_left _ (by omega)
    omega
  · rw [e, h.vs.2.1, Rat.div_def, Rat.inv_divInt, Rat.divInt_mul_divInt, show ((8 * j.toNat : Nat) : Int) = 8 * j by omega]
    rfl
def y4y (l : List (List B)) (s : SV) (p : Int) : Rat := TL l (WZ p) / RS s - WZ p + LS s
def y42 (l : List (List B)) (s : SV) (L : Int) (p : Int) : Rat := TL l (WZ p) - y2Y (RS s) L (WZ p)
theorem psi1_G {l : List (List B)} {s : SV} {j k L p : Int} (hl : CL l) (h : SK s j k L) (hp : 0 ≤ p ∧ p ≤ 4000) : G (40200 * 15) (8 * j.toNat) (TL l (WZ p) / RS s) ∧ G (40200 * 15 + 4000) (8 * j.toNat) (TL l (WZ p) / RS s - WZ p) ∧ G (40200 * 15 + 4000 + 510) (8 * j.toNat) (y4y l s p) := by
  have hj := h.2.1; have hL := h.2.2.2
  have g1 := h.over (hl.G hp)
  have g2 := g1.sub (by omega) (WZ_Gk (p := p) (M := 4000) (show 0 < 8 * j.toNat by omega) (by omega))
  refine ⟨g1, g2, ?_⟩
  unfold y4y
  rw [h.vs.2.2]
  exact g2.add (by omega) (WZ_Gk (by omega) (by omega))
theorem jc {m : Nat} {j : Int} {q : Rat} (h : G m (8 * j.toNat) q) (hk : 1 ≤ j ∧ j ≤ 160) (hm : m ≤ 800000) : fits q = true := by
  refine h.fits (by omega) (by omega) ?_
  exact Nat.le_trans (Nat.mul_le_mul hm (show 8 * j.toNat ≤ 1280 by omega)) (by omega)
theorem valu1 {l : List (List B)} {s : SV} {j k L p : Int} (hl : CL l) (h : SK s j k L) (hp : 0 ≤ p ∧ p ≤ 4000) : y2K ⟨0⟩ ⟨p, 1⟩ l s = some (ofQ (y4y l s p), ⟨0⟩) ∧ fits (y4y l s p) = true := by
  obtain ⟨v1, v2, v3, v4⟩ := VS_r h.vs.1
  have hj := h.2.1
  obtain ⟨g1, g2, g3⟩ := psi1_G hl h hp
  have f1 := jc g1 hj (by omega)
  have f2 := jc g2 hj (by omega)
  have f3 := jc g3 hj (by omega)
  have fT := (hl.G hp).fits (by omega) (by omega) (by omega)
  refine ⟨?_, f3⟩
  unfold y2K
  rw [yaf hl hp, Option.bind_some]
  simp only []
  have a1 := y4S (f := fun y0 y1 => y2I y0 y1) (y9B (y1G fT) v1 (RS_ne h.vs.1))
  have e1 : val (ofQ (TL l (WZ p))) / val s.fR = TL l (WZ p) / RS s := by rw [y12]; rfl
  rw [e1, f1, if_pos rfl] at a1
  rw [a1, Option.bind_some]
  simp only []
  have a2 := y4S (f := fun y0 y1 => y1y y0 y1) (y7x (y1G f1) (y2j (y7S hp)))
  have e2 : val (ofQ (TL l (WZ p) / RS s)) - val ⟨p, 1⟩ = TL l (WZ p) / RS s - WZ p := by rw [y12]; rfl
  rw [e2, f2, if_pos rfl] at a2
  rw [a2, Option.bind_some]
  simp only []
  have a3 := y4S (f := fun y0 y1 => y1C y0 y1) (y7w (y1G f2) v3)
  have e3 : val (ofQ (TL l (WZ p) / RS s - WZ p)) + val s.fLatency = y4y l s p := by rw [y12]; rfl
  rw [e3, f3, if_pos rfl] at a3
  rw [a3, Option.bind_some]
theorem beyk_G {s : SV} {j k L p : Int} (h : SK s j k L) (hp : 0 ≤ p ∧ p ≤ 4000) : G (20 * 4000) (8 * k.toNat) (y2Y (RS s) L (WZ p)) := by
  have hL := h.2.2.2; have hk := h.2.2.1
  unfold y2Y
  by_cases hc : WZ p ≤ WZ L
  · rw [if_pos hc]; exact ⟨0, by omega, by rw [Rat.zero_divInt]⟩
  · rw [if_neg hc, y8z]
    have hp' : L ≤ p := by
      rcases Int.lt_or_le p L with h1 | h1
      · exact absurd (y4d (show p ≤ L by omega)) hc
      · exact h1
    have := (h.rG.mul (WZ_G (p := p - L) (M := 4000) (by omega))).fine 8 (by omega)
    rwa [Nat.mul_one, Nat.mul_comm k.toNat 8] at this
theorem psi2_G {l : List (List B)} {s : SV} {j k L p : Int} (hl : CL l) (h : SK s j k L) (hp : 0 ≤ p ∧ p ≤ 4000) : G (40200 + 20 * 4000) (8 * k.toNat) (y42 l s L p) := by
  have hk := h.2.2.1
  exact ((hl.G hp).fine k.toNat (by omega)).sub (by omega) (beyk_G h hp)
theorem valu2 {l : List (List B)} {s : SV} {j k L p : Int} (hl : CL l) (h : SK s j k L) (hp : 0 ≤ p ∧ p ≤ 4000) : y2w ⟨0⟩ ⟨p, 1⟩ l s = some (ofQ (y42 l s L p), ⟨0⟩) ∧ fits (y42 l s L p) = true := by
  obtain ⟨v1, v2, v3, v4⟩ := VS_r h.vs.1
  have hL := h.2.2.2; have hk := h.2.2.1
  have f3 := (psi2_G hl h hp).fits (by omega) (by omega) (by omega)
  have fT := (hl.G hp).fits (by omega) (by omega) (by omega)
  refine ⟨?_, f3⟩
  unfold y2w
  have eW : val ⟨p, 1⟩ = WZ p := rfl
  have eL : val s.fLatency = WZ L := h.vs.2.2
  rw [yaf hl hp, Option.bind_some, y3k (y2j (y7S hp)) v3, eW, eL, Option.bind_some]
  by_cases hc : WZ p ≤ WZ L
  · rw [if_pos (decide_eq_true (y5T.2 hc))]
    have e : y42 l s L p = TL l (WZ p) := by unfold y42 y2Y; rw [if_pos hc]; grind
    rw [e]
  · rw [if_neg (fun h' => hc (y5T.1 (of_decide_eq_true h')))]
    have hp' : L ≤ p := by
      rcases Int.lt_or_le p L with h1 | h1
      · exact absurd (y4d (show p ≤ L by omega)) hc
      · exact h1
    have gS : G 4000 1 (WZ p - WZ L) := by rw [y8z]; exact WZ_G (by omega)
    have fS := gS.fits (by omega) (by omega) (by omega)
    have fM := (h.rG.mul gS).fits (by omega) (by omega) (by omega)
    simp only []
    have a1 := y4S (f := fun y0 y1 => y1y y0 y1) (y7x (y2j (y7S hp)) v3)
    rw [eW, eL, fS, if_pos rfl] at a1
    rw [a1, Option.bind_some]
    simp only []
    have a2 := y4S (f := fun y0 y1 => y3h y0 y1) (mul_eq v1 (y1G fS))
    have e2 : val s.fR * val (ofQ (WZ p - WZ L)) = RS s * (WZ p - WZ L) := by rw [y12]; rfl
    rw [e2, fM, if_pos rfl] at a2
    rw [a2, Option.bind_some]
    simp only []
    have a3 := y4S (f := fun y0 y1 => y1y y0 y1) (y7x (y1G fT) (y1G fM))
    have e3 : val (ofQ (TL l (WZ p))) - val (ofQ (RS s * (WZ p - WZ L))) = y42 l s L p := by
      rw [y12, y12]; unfold y42 y2Y; rw [if_neg hc]
    rw [e3, f3, if_pos rfl] at a3
    rw [a3, Option.bind_some]
theorem y8C {k : Int → Int → Int → Option Int} : ∀ (r pre : List (List B)) (S : Rat) (n : Nat), (∀ c ∈ r, SC c) → G (5 * pre.length) 8 S → pre.length + r.length ≤ 2 → r.length < n →
    y17 (pre ++ r) k n pre.length 0 (ofQ S).fN (ofQ S).fD = k 0 (ofQ (S + RT r)).fN (ofQ (S + RT r)).fD
  | [], pre, S, 0, _, _, _, hn => absurd hn (by simp)
  | [], pre, S, n + 1, _, _, _, _ => by
    rw [y17, if_neg (by simp), show S + RT [] = S from Rat.add_zero S]
  | c :: r, pre, S, 0, _, _, _, hn => absurd hn (by simp)
  | c :: r, pre, S, n + 1, h, hS, hl, hn => by
    have hc := h c (by simp)
    obtain ⟨rc, bc, _⟩ := y3y hc
    obtain ⟨er, gA, _, fA, _⟩ := y77 hc
    simp only [List.length_cons] at hl hn
    have gT : G (5 * (pre ++ [c]).length) 8 (S + rr c) := (hS.add (by omega) gA).le (by simp only [List.length_append, List.length_cons, List.length_nil]; omega)
    have fS := hS.fits (by omega) (by omega) (by omega)
    have fT := gT.fits (by omega) (by omega) (by simp only [List.length_append, List.length_cons, List.length_nil]; omega)
    have ih := y8C (k := k) r (pre ++ [c]) (S + rr c) n (fun x hx => h x (by simp [hx])) gT (by simp only [List.length_append, List.length_cons, List.length_nil]; omega) (by omega)
    rw [y17, if_pos (by simp; omega), yn (by simp; omega), y6R, bc, Option.bind_some, if_neg (by simp), er, Option.bind_some]
    simp only []
    have a1 := y4S (f := fun y0 y1 => y1C y0 y1) (y7w (y1G fS) (y1G fA))
    rw [y12, y12, fT, if_pos rfl] at a1
    refine (congrArg (fun o => Option.bind o _) a1).trans ?_
    rw [Option.bind_some, yr (x := (pre.length : Int) + 1) (by omega)]
    have e : pre ++ c :: r = (pre ++ [c]) ++ r := by simp
    have el : (pre.length : Int) + 1 = ((pre ++ [c]).length : Int) := by simp
    rw [e, el]
    refine ih.trans ?_
    have : S + RT (c :: r) = S + rr c + RT r := (Rat.add_assoc _ _ _).symm
    rw [this]
theorem check_l {l : List (List B)} {s : SV} {c : List (List B)} {t : SV} {m : List R} (hl : CL l) (hs : VS s = true) : y28 l s c t m = some (if RS s < RT l then 6 else 0) := by
  have h2 := hl.1
  have hf : fits (RT l) = true := by
    have : ∀ {l : List (List B)}, (∀ c ∈ l, SC c) → G (5 * l.length) 8 (RT l) := by
      intro l
      induction l with
      | nil => intro _; exact ⟨0, by simp, by rw [Rat.zero_divInt]; rfl⟩
      | cons c l ih =>
        intro h
        refine ((y77 (h c (by simp))).2.1.add (by omega) (ih fun x hx => h x (by simp [hx]))).le ?_
        simp only [List.length_cons]; omega
    exact (this hl.2).fits (by omega) (by omega) (by omega)
  unfold y28
  have q1 : yM l (fun y0 => yx y0) = some (l.any fun c => !VC c) :=
    y4n (y5A (L := fun k => yw l (fun y0 => yx y0) k) (fun _ _ _ => rfl) (fun x _ => by unfold yx; rw [y4m]; rfl) (by omega))
  have q2 : (l.any fun c => !VC c) = false := by
    rw [List.any_eq_false]; intro c hc; simp [(hl.2 c hc).VC]
  rw [if_neg (by simp; omega), q1, q2, y96, hs, y5W]
  simp only [Option.bind_some, Bool.not_true, Bool.false_eq_true, if_false]
  refine y9K (P := fun o => o = _) fun k hk => ?_
  have := y8C (k := k) l [] 0 ys hl.2 ⟨0, by simp, by rw [Rat.zero_divInt]⟩ (by simpa using hl.1) (by rw [y1V]; omega)
  refine Eq.trans this ?_
  rw [hk, if_pos (by simp), show (0 : Rat) + RT l = RT l from Rat.zero_add _]
  show Option.bind (Option.bind (yQ (ofQ (RT l)) s.fR) _) _ = _
  rw [y3k (y1G hf) (VS_r hs).1, y12, Option.bind_some, Option.bind_some]
  have ec : y2F (RT l) (val s.fR) = y2F (RT l) (RS s) := rfl
  rw [ec]
  by_cases h : RS s < RT l
  · rw [if_pos h, if_pos (decide_eq_true (y4H.2 h))]
  · rw [if_neg h, if_neg (fun h' => h (y4H.1 (of_decide_eq_true h')))]
section ptsl
variable {Sg σ : Type} {y : R → Sg → Option (Bool × Sg)} {enc : σ → Sg} {st : σ → Int → σ} {I : σ → Prop} {M : Int}
theorem pts4 (hy : CY y enc st I M) {k : Sg → Option Sg} : ∀ (r pre : List (List B)) (s : σ) (n : Nat), (∀ c ∈ r, ∃ rc, yB c = some (rc, 0) ∧ BR M rc) → pre.length + r.length ≤ 100 → r.length < n → I s →
    ∃ P : List Int, yU Sg (pre ++ r) y k n pre.length (enc s) = k (enc (P.foldl st s)) ∧ (∀ p ∈ P, 0 ≤ p ∧ p ≤ M) ∧ (∀ c ∈ r, ∀ rc, yB c = some (rc, 0) → ∀ q ∈ rc, y18 P (val q))
  | [], pre, s, 0, _, _, hn, _ => absurd hn (by simp)
  | [], pre, s, n + 1, _, _, _, _ => ⟨[], by rw [yU, if_neg (by simp)]; rfl, by simp, by simp⟩
  | c :: r, pre, s, 0, _, _, hn, _ => absurd hn (by simp)
  | c :: r, pre, s, n + 1, h, hl, hn, hI => by
    obtain ⟨rc, ec, hb⟩ := h c (by simp)
    simp only [List.length_cons] at hl hn
    obtain ⟨P1, e1, p1, q1⟩ := pts_ex hy hb hI (show 200000 ≤ ys by rw [y1V]; omega)
    have i1 := y6k hy P1 s p1 hI
    obtain ⟨P2, e2, p2, q2⟩ := pts4 hy (k := k) r (pre ++ [c]) (P1.foldl st s) n (fun x hx => h x (by simp [hx])) (by simp only [List.length_append, List.length_cons, List.length_nil]; omega) (by omega) i1
    refine ⟨P1 ++ P2, ?_, fun p hp => ?_, fun x hx rx ex q hq => ?_⟩
    · rw [yU, if_pos (by simp; omega)]
      refine y3v (P := fun o => o = _) fun k1 hk1 => ?_
      rw [yn (by simp; omega), y6R, ec, Option.bind_some]
      refine y3v (P := fun o => o = _) fun k2 hk2 => ?_
      rw [e1 k2, hk2, hk1, yr (x := (pre.length : Int) + 1) (by omega)]
      have e : pre ++ c :: r = (pre ++ [c]) ++ r := by simp
      have el : (pre.length : Int) + 1 = ((pre ++ [c]).length : Int) := by simp
      rw [e, el]
      refine e2.trans ?_
      rw [List.foldl_append]
    · rcases List.mem_append.1 hp with hp | hp
      · exact p1 p hp
      · exact p2 p hp
    · rcases List.mem_cons.1 hx with rfl | hx
      · rw [ec] at ex; cases ex
        exact y1u (fun p hp => by simp [hp]) (q1 q hq)
      · exact y1u (fun p hp => by simp [hp]) (q2 x hx rx ex q hq)
theorem pts_l (hy : CY y enc st I M) {l : List (List B)} {more : List R} {t t' : SV} {c : List (List B)} (hl : ∀ c ∈ l, ∃ rc, yB c = some (rc, 0) ∧ BR M rc) (h2 : l.length ≤ 2) (hm : BR M more) (hM : 0 ≤ M) {s : σ} (hI : I s) :
    ∃ P : List Int, y1O Sg y (enc s) l t c t' more = some (enc (P.foldl st s)) ∧ 0 ∈ P ∧ (∀ p ∈ P, 0 ≤ p ∧ p ≤ M) ∧ (∀ c ∈ l, ∀ rc, yB c = some (rc, 0) → ∀ q ∈ rc, y18 P (val q)) ∧ ∀ q ∈ more, y18 P (val q) := by
  obtain ⟨y0, i0⟩ := hy 0 (by omega) hM s hI
  have hF : 1000000 ≤ ys := by rw [y1V]; omega
  unfold y1O
  generalize ys = N at hF ⊢
  rw [y5W, Option.bind_some, y0, Option.bind_some, if_neg (by simp)]
  refine y3v (P := fun o => ∃ P : List Int, o = some (enc (P.foldl st s)) ∧ 0 ∈ P ∧ (∀ p ∈ P, 0 ≤ p ∧ p ≤ M) ∧ (∀ c ∈ l, ∀ rc, yB c = some (rc, 0) → ∀ q ∈ rc, y18 P (val q)) ∧ ∀ q ∈ more, y18 P (val q)) fun k hk => ?_
  obtain ⟨P1, e1, p1, q1⟩ := pts4 hy (k := k) l [] (st s 0) N hl (by simp; omega) (by omega) i0
  have i1 := y6k hy P1 (st s 0) p1 i0
  obtain ⟨P3, e3, p3, q3⟩ := pts_exm hy hm i1 (show 200000 ≤ N by omega)
  refine ⟨0 :: (P1 ++ P3), ?_, by simp, fun p hp => ?_, fun c hc rc ec q hq => ?_, fun q hq => ?_⟩
  · refine Eq.trans e1 ?_
    rw [hk]
    refine y3v (P := fun o => o = _) fun k3 hk3 => ?_
    rw [e3 k3, hk3, List.foldl_cons, List.foldl_append]
  · rcases List.mem_cons.1 hp with rfl | hp
    · omega
    · rcases List.mem_append.1 hp with hp | hp
      · exact p1 p hp
      · exact p3 p hp
  · exact y1u (fun p hp => by simp [hp]) (q1 c hc rc ec q hq)
  · exact y1u (fun p hp => by simp [hp]) (q3 q hq)
end ptsl
theorem cyl {l : List (List B)} {s : SV} {j k L : Int} (hl : CL l) (h : SK s j k L) : CY (fun (x : R) (s' : Nat × List R × Int) => chk (s'.1 = 0) (y15 l s x s'.2.1 s'.2.2)) encQ (stQ (y4y l s)) IQ 4000 := by
  intro p h0 h1 st hI
  obtain ⟨ev, ef⟩ := valu1 (p := p) hl h ⟨h0, h1⟩
  cases st with
  | none =>
    refine ⟨?_, fun m hm => ?_⟩
    · refine Eq.trans (yn (show (encQ none).1 = 0 from rfl)) ?_
      show y15 l s ⟨p, 1⟩ [] 0 = _
      unfold y15
      rw [ev, Option.bind_some, if_pos (by simp), Option.bind_some, if_pos rfl]
      rfl
    · have : some ((y4y l s) p) = some m := hm
      cases this; exact ef
  | some m0 =>
    have f0 := hI m0 rfl
    refine ⟨?_, fun m hm => ?_⟩
    · refine Eq.trans (yn (show (encQ (some m0)).1 = 0 from rfl)) ?_
      show y15 l s ⟨p, 1⟩ [ofQ m0] 0 = _
      unfold y15
      rw [ev, Option.bind_some, if_neg (by simp), yn (by simp)]
      show Option.bind (Option.bind (yQ (ofQ ((y4y l s) p)) (ofQ m0)) _) _ = _
      rw [y3k (y1G ef) (y1G f0), y12, y12, Option.bind_some, Option.bind_some]
      simp only [stQ]
      by_cases hlt : m0 < (y4y l s) p
      · rw [if_pos (decide_eq_true (y4H.2 hlt)), if_pos hlt]; rfl
      · rw [if_neg (fun h => hlt (y4H.1 (of_decide_eq_true h))), if_neg hlt]; rfl
    · simp only [stQ] at hm
      split at hm
      · cases hm; exact ef
      · exact hI m hm
theorem y7T {l : List (List B)} {s : SV} {j k L : Int} (hl : CL l) (h : SK s j k L) :
    (RS s < RT l ∧ yL l s = some (⟨0, 0⟩, 6)) ∨ (¬ RS s < RT l ∧ ∃ (P : List Int) (m : Rat), yL l s = some (ofQ m, 0) ∧ fits m = true ∧ 0 ∈ P ∧ (∀ p ∈ P, 0 ≤ p ∧ p ≤ 4000) ∧ (∀ c ∈ l, ∀ q, y6j c q → y18 P q) ∧ (∀ q ∈ ([] : List R), y18 P (val q)) ∧ (∃ p ∈ P, m = (y4y l s) p) ∧ ∀ p ∈ P, (y4y l s) p ≤ m) := by
  unfold yL y2O
  rw [check_l hl h.vs.1, Option.bind_some]
  by_cases hc : RS s < RT l
  · left
    rw [if_pos hc, if_pos (by decide)]
    exact ⟨hc, rfl⟩
  · right
    refine ⟨hc, ?_⟩
    rw [if_neg hc, if_neg (by decide)]
    have hmore : BR 4000 ([] : List R) := by
      refine ⟨by simp, fun x hx => ?_⟩
      have hL := h.2.2.2
      have eL : s.fLatency = ⟨L, 1⟩ := by rw [h.1]
      first
        | (simp at hx; done)
        | (simp at hx
           rw [hx, eL]
           exact ⟨y2j (y7S (by omega)), hL.1, by show L ≤ 4000 * 1; omega⟩)
    have I0 : IQ none := fun m hm => by cases hm
    have hkey : ∀ (o : Option (R × Int)) (x : R × Int), o = some x → (o.bind fun y => some (y.1, y.2)) = some x := by
      intro o x h; rw [h]; rfl
    unfold y2v
    obtain ⟨P, eP, p0, p1, pa, pm⟩ := pts_l (t := ⟨⟨s.fR.fN, s.fR.fD⟩, ⟨s.fLatency.fN, s.fLatency.fD⟩⟩) (t' := s) (c := l) (cyl hl h) (fun c hc => (by obtain ⟨r, e, b, _⟩ := y3y (hl.2 c hc); exact ⟨r, e, b⟩)) hl.1 hmore (by omega) I0
    obtain ⟨m, em, m1, _, m2⟩ := y8h (y4y l s) P none (.inr (List.ne_nil_of_mem p0))
    have fm := y6k (cyl hl h) P none p1 I0 m em
    refine ⟨P, m, ?_, fm, p0, p1, ?_, pm, ?_, m2⟩
    · apply hkey
      refine y5o (P := fun o => o = _) fun k hk => ?_
      rw [Option.bind_some]
      refine (congrArg (fun o => Option.bind o _) eP).trans ?_
      rw [em, Option.bind_some, hk]
      show (if decide ((0 : Int) ≠ 0) then _ else chk ((0 : Int) ≤ 0 ∧ 0 < ((([ofQ m] : List R).length : Nat) : Int)) _) = _
      rw [if_neg (by simp), yn (by simp)]
      rfl
    · intro c hc
      obtain ⟨r, e, _, hk⟩ := y3y (hl.2 c hc)
      exact hk P (pa c hc r e)
    · rcases m1 with h | h
      · cases h
      · exact h
theorem y81 {k : Int → Int → Int → Option Int} : ∀ (r pre : List (List B)) (S : Rat) (n : Nat), (∀ c ∈ r, SC c) → G (5 * pre.length) 8 S → pre.length + r.length ≤ 2 → r.length < n →
    y13 (pre ++ r) k n pre.length 0 (ofQ S).fN (ofQ S).fD = k 0 (ofQ (S + RT r)).fN (ofQ (S + RT r)).fD
  | [], pre, S, 0, _, _, _, hn => absurd hn (by simp)
  | [], pre, S, n + 1, _, _, _, _ => by
    rw [y13, if_neg (by simp), show S + RT [] = S from Rat.add_zero S]
  | c :: r, pre, S, 0, _, _, _, hn => absurd hn (by simp)
  | c :: r, pre, S, n + 1, h, hS, hl, hn => by
    have hc := h c (by simp)
    obtain ⟨rc, bc, _⟩ := y3y hc
    obtain ⟨er, gA, _, fA, _⟩ := y77 hc
    simp only [List.length_cons] at hl hn
    have gT : G (5 * (pre ++ [c]).length) 8 (S + rr c) := (hS.add (by omega) gA).le (by simp only [List.length_append, List.length_cons, List.length_nil]; omega)
    have fS := hS.fits (by omega) (by omega) (by omega)
    have fT := gT.fits (by omega) (by omega) (by simp only [List.length_append, List.length_cons, List.length_nil]; omega)
    have ih := y81 (k := k) r (pre ++ [c]) (S + rr c) n (fun x hx => h x (by simp [hx])) gT (by simp only [List.length_append, List.length_cons, List.length_nil]; omega) (by omega)
    rw [y13, if_pos (by simp; omega), yn (by simp; omega), y6R, bc, Option.bind_some, if_neg (by simp), er, Option.bind_some]
    simp only []
    have a1 := y4S (f := fun y0 y1 => y1C y0 y1) (y7w (y1G fS) (y1G fA))
    rw [y12, y12, fT, if_pos rfl] at a1
    refine (congrArg (fun o => Option.bind o _) a1).trans ?_
    rw [Option.bind_some, yr (x := (pre.length : Int) + 1) (by omega)]
    have e : pre ++ c :: r = (pre ++ [c]) ++ r := by simp
    have el : (pre.length : Int) + 1 = ((pre ++ [c]).length : Int) := by simp
    rw [e, el]
    refine ih.trans ?_
    have : S + RT (c :: r) = S + rr c + RT r := (Rat.add_assoc _ _ _).symm
    rw [this]
theorem check_lb {l : List (List B)} {s : SV} {c : List (List B)} {t : SV} {m : List R} (hl : CL l) (hs : VS s = true) : y21 l s c t m = some (if RS s < RT l then 6 else 0) := by
  have h2 := hl.1
  have hf : fits (RT l) = true := by
    have : ∀ {l : List (List B)}, (∀ c ∈ l, SC c) → G (5 * l.length) 8 (RT l) := by
      intro l
      induction l with
      | nil => intro _; exact ⟨0, by simp, by rw [Rat.zero_divInt]; rfl⟩
      | cons c l ih =>
        intro h
        refine ((y77 (h c (by simp))).2.1.add (by omega) (ih fun x hx => h x (by simp [hx]))).le ?_
        simp only [List.length_cons]; omega
    exact (this hl.2).fits (by omega) (by omega) (by omega)
  unfold y21
  have q1 : yM l (fun y0 => yx y0) = some (l.any fun c => !VC c) :=
    y4n (y5A (L := fun k => yw l (fun y0 => yx y0) k) (fun _ _ _ => rfl) (fun x _ => by unfold yx; rw [y4m]; rfl) (by omega))
  have q2 : (l.any fun c => !VC c) = false := by
    rw [List.any_eq_false]; intro c hc; simp [(hl.2 c hc).VC]
  rw [if_neg (by simp; omega), q1, q2, y96, hs, y5W]
  simp only [Option.bind_some, Bool.not_true, Bool.false_eq_true, if_false]
  refine y9K (P := fun o => o = _) fun k hk => ?_
  have := y81 (k := k) l [] 0 ys hl.2 ⟨0, by simp, by rw [Rat.zero_divInt]⟩ (by simpa using hl.1) (by rw [y1V]; omega)
  refine Eq.trans this ?_
  rw [hk, if_pos (by simp), show (0 : Rat) + RT l = RT l from Rat.zero_add _]
  show Option.bind (Option.bind (yQ (ofQ (RT l)) s.fR) _) _ = _
  rw [y3k (y1G hf) (VS_r hs).1, y12, Option.bind_some, Option.bind_some]
  have ec : y2F (RT l) (val s.fR) = y2F (RT l) (RS s) := rfl
  rw [ec]
  by_cases h : RS s < RT l
  · rw [if_pos h, if_pos (decide_eq_true (y4H.2 h))]
  · rw [if_neg h, if_neg (fun h' => h (y4H.1 (of_decide_eq_true h')))]
section ptsl
variable {Sg σ : Type} {y : R → Sg → Option (Bool × Sg)} {enc : σ → Sg} {st : σ → Int → σ} {I : σ → Prop} {M : Int}
theorem pts4b (hy : CY y enc st I M) {k : Sg → Option Sg} : ∀ (r pre : List (List B)) (s : σ) (n : Nat), (∀ c ∈ r, ∃ rc, yB c = some (rc, 0) ∧ BR M rc) → pre.length + r.length ≤ 100 → r.length < n → I s →
    ∃ P : List Int, yR Sg (pre ++ r) y k n pre.length (enc s) = k (enc (P.foldl st s)) ∧ (∀ p ∈ P, 0 ≤ p ∧ p ≤ M) ∧ (∀ c ∈ r, ∀ rc, yB c = some (rc, 0) → ∀ q ∈ rc, y18 P (val q))
  | [], pre, s, 0, _, _, hn, _ => absurd hn (by simp)
  | [], pre, s, n + 1, _, _, _, _ => ⟨[], by rw [yR, if_neg (by simp)]; rfl, by simp, by simp⟩
  | c :: r, pre, s, 0, _, _, hn, _ => absurd hn (by simp)
  | c :: r, pre, s, n + 1, h, hl, hn, hI => by
    obtain ⟨rc, ec, hb⟩ := h c (by simp)
    simp only [List.length_cons] at hl hn
    obtain ⟨P1, e1, p1, q1⟩ := pts_exb hy hb hI (show 200000 ≤ ys by rw [y1V]; omega)
    have i1 := y6k hy P1 s p1 hI
    obtain ⟨P2, e2, p2, q2⟩ := pts4b hy (k := k) r (pre ++ [c]) (P1.foldl st s) n (fun x hx => h x (by simp [hx])) (by simp only [List.length_append, List.length_cons, List.length_nil]; omega) (by omega) i1
    refine ⟨P1 ++ P2, ?_, fun p hp => ?_, fun x hx rx ex q hq => ?_⟩
    · rw [yR, if_pos (by simp; omega)]
      refine y3v (P := fun o => o = _) fun k1 hk1 => ?_
      rw [yn (by simp; omega), y6R, ec, Option.bind_some]
      refine y3v (P := fun o => o = _) fun k2 hk2 => ?_
      rw [e1 k2, hk2, hk1, yr (x := (pre.length : Int) + 1) (by omega)]
      have e : pre ++ c :: r = (pre ++ [c]) ++ r := by simp
      have el : (pre.length : Int) + 1 = ((pre ++ [c]).length : Int) := by simp
      rw [e, el]
      refine e2.trans ?_
      rw [List.foldl_append]
    · rcases List.mem_append.1 hp with hp | hp
      · exact p1 p hp
      · exact p2 p hp
    · rcases List.mem_cons.1 hx with rfl | hx
      · rw [ec] at ex; cases ex
        exact y1u (fun p hp => by simp [hp]) (q1 q hq)
      · exact y1u (fun p hp => by simp [hp]) (q2 x hx rx ex q hq)
theorem pts_lb (hy : CY y enc st I M) {l : List (List B)} {more : List R} {t t' : SV} {c : List (List B)} (hl : ∀ c ∈ l, ∃ rc, yB c = some (rc, 0) ∧ BR M rc) (h2 : l.length ≤ 2) (hm : BR M more) (hM : 0 ≤ M) {s : σ} (hI : I s) :
    ∃ P : List Int, y1J Sg y (enc s) l t c t' more = some (enc (P.foldl st s)) ∧ 0 ∈ P ∧ (∀ p ∈ P, 0 ≤ p ∧ p ≤ M) ∧ (∀ c ∈ l, ∀ rc, yB c = some (rc, 0) → ∀ q ∈ rc, y18 P (val q)) ∧ ∀ q ∈ more, y18 P (val q) := by
  obtain ⟨y0, i0⟩ := hy 0 (by omega) hM s hI
  have hF : 1000000 ≤ ys := by rw [y1V]; omega
  unfold y1J
  generalize ys = N at hF ⊢
  rw [y5W, Option.bind_some, y0, Option.bind_some, if_neg (by simp)]
  refine y3v (P := fun o => ∃ P : List Int, o = some (enc (P.foldl st s)) ∧ 0 ∈ P ∧ (∀ p ∈ P, 0 ≤ p ∧ p ≤ M) ∧ (∀ c ∈ l, ∀ rc, yB c = some (rc, 0) → ∀ q ∈ rc, y18 P (val q)) ∧ ∀ q ∈ more, y18 P (val q)) fun k hk => ?_
  obtain ⟨P1, e1, p1, q1⟩ := pts4b hy (k := k) l [] (st s 0) N hl (by simp; omega) (by omega) i0
  have i1 := y6k hy P1 (st s 0) p1 i0
  obtain ⟨P3, e3, p3, q3⟩ := pts_exmb hy hm i1 (show 200000 ≤ N by omega)
  refine ⟨0 :: (P1 ++ P3), ?_, by simp, fun p hp => ?_, fun c hc rc ec q hq => ?_, fun q hq => ?_⟩
  · refine Eq.trans e1 ?_
    rw [hk]
    refine y3v (P := fun o => o = _) fun k3 hk3 => ?_
    rw [e3 k3, hk3, List.foldl_cons, List.foldl_append]
  · rcases List.mem_cons.1 hp with rfl | hp
    · omega
    · rcases List.mem_append.1 hp with hp | hp
      · exact p1 p hp
      · exact p3 p hp
  · exact y1u (fun p hp => by simp [hp]) (q1 c hc rc ec q hq)
  · exact y1u (fun p hp => by simp [hp]) (q3 q hq)
end ptsl
theorem cylb {l : List (List B)} {s : SV} {j k L : Int} (hl : CL l) (h : SK s j k L) : CY (fun (x : R) (s' : Nat × List R × Int) => chk (s'.1 = 0) (y11 l s x s'.2.1 s'.2.2)) encQ (stQ (y42 l s L)) IQ 4000 := by
  intro p h0 h1 st hI
  obtain ⟨ev, ef⟩ := valu2 (p := p) hl h ⟨h0, h1⟩
  cases st with
  | none =>
    refine ⟨?_, fun m hm => ?_⟩
    · refine Eq.trans (yn (show (encQ none).1 = 0 from rfl)) ?_
      show y11 l s ⟨p, 1⟩ [] 0 = _
      unfold y11
      rw [ev, Option.bind_some, if_pos (by simp), Option.bind_some, if_pos rfl]
      rfl
    · have : some ((y42 l s L) p) = some m := hm
      cases this; exact ef
  | some m0 =>
    have f0 := hI m0 rfl
    refine ⟨?_, fun m hm => ?_⟩
    · refine Eq.trans (yn (show (encQ (some m0)).1 = 0 from rfl)) ?_
      show y11 l s ⟨p, 1⟩ [ofQ m0] 0 = _
      unfold y11
      rw [ev, Option.bind_some, if_neg (by simp), yn (by simp)]
      show Option.bind (Option.bind (yQ (ofQ ((y42 l s L) p)) (ofQ m0)) _) _ = _
      rw [y3k (y1G ef) (y1G f0), y12, y12, Option.bind_some, Option.bind_some]
      simp only [stQ]
      by_cases hlt : m0 < (y42 l s L) p
      · rw [if_pos (decide_eq_true (y4H.2 hlt)), if_pos hlt]; rfl
      · rw [if_neg (fun h => hlt (y4H.1 (of_decide_eq_true h))), if_neg hlt]; rfl
    · simp only [stQ] at hm
      split at hm
      · cases hm; exact ef
      · exact hI m hm
theorem y6B {l : List (List B)} {s : SV} {j k L : Int} (hl : CL l) (h : SK s j k L) :
    (RS s < RT l ∧ yC l s = some (⟨0, 0⟩, 6)) ∨ (¬ RS s < RT l ∧ ∃ (P : List Int) (m : Rat), yC l s = some (ofQ m, 0) ∧ fits m = true ∧ 0 ∈ P ∧ (∀ p ∈ P, 0 ≤ p ∧ p ≤ 4000) ∧ (∀ c ∈ l, ∀ q, y6j c q → y18 P q) ∧ (∀ q ∈ ([s.fLatency] : List R), y18 P (val q)) ∧ (∃ p ∈ P, m = (y42 l s L) p) ∧ ∀ p ∈ P, (y42 l s L) p ≤ m) := by
  unfold yC y2H
  rw [check_lb hl h.vs.1, Option.bind_some]
  by_cases hc : RS s < RT l
  · left
    rw [if_pos hc, if_pos (by decide)]
    exact ⟨hc, rfl⟩
  · right
    refine ⟨hc, ?_⟩
    rw [if_neg hc, if_neg (by decide)]
    have hmore : BR 4000 ([s.fLatency] : List R) := by
      refine ⟨by simp, fun x hx => ?_⟩
      have hL := h.2.2.2
      have eL : s.fLatency = ⟨L, 1⟩ := by rw [h.1]
      first
        | (simp at hx; done)
        | (simp at hx
           rw [hx, eL]
           exact ⟨y2j (y7S (by omega)), hL.1, by show L ≤ 4000 * 1; omega⟩)
    have I0 : IQ none := fun m hm => by cases hm
    have hkey : ∀ (o : Option (R × Int)) (x : R × Int), o = some x → (o.bind fun y => some (y.1, y.2)) = some x := by
      intro o x h; rw [h]; rfl
    unfold y2o
    obtain ⟨P, eP, p0, p1, pa, pm⟩ := pts_lb (t := ⟨⟨s.fR.fN, s.fR.fD⟩, ⟨s.fLatency.fN, s.fLatency.fD⟩⟩) (t' := s) (c := l) (cylb hl h) (fun c hc => (by obtain ⟨r, e, b, _⟩ := y3y (hl.2 c hc); exact ⟨r, e, b⟩)) hl.1 hmore (by omega) I0
    obtain ⟨m, em, m1, _, m2⟩ := y8h (y42 l s L) P none (.inr (List.ne_nil_of_mem p0))
    have fm := y6k (cylb hl h) P none p1 I0 m em
    refine ⟨P, m, ?_, fm, p0, p1, ?_, pm, ?_, m2⟩
    · apply hkey
      refine y5o (P := fun o => o = _) fun k hk => ?_
      rw [Option.bind_some]
      refine (congrArg (fun o => Option.bind o _) eP).trans ?_
      rw [em, Option.bind_some, hk]
      show (if decide ((0 : Int) ≠ 0) then _ else chk ((0 : Int) ≤ 0 ∧ 0 < ((([ofQ m] : List R).length : Nat) : Int)) _) = _
      rw [if_neg (by simp), yn (by simp)]
      rfl
    · intro c hc
      obtain ⟨r, e, _, hk⟩ := y3y (hl.2 c hc)
      exact hk P (pa c hc r e)
    · rcases m1 with h | h
      · cases h
      · exact h
end Go.Proofs.Ytakfmdiiehcbdaa

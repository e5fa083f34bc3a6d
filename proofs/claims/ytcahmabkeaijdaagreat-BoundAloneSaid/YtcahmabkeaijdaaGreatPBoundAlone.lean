/- A part of this claim's proof: models of functions, walks, plain laws. No conditions. -/
import Derived.Test.YtcahmabkeaijdaaGreatP35f
import Derived.Test.YtcahmabkeaijdaaGreatWBoundAlone
set_option linter.all false
namespace Go.Proofs.YtcahmabkeaijdaaGreat
open Go Go.RowKit Sep
theorem ycs : y4y = some true := by kernel_rfl
theorem yb2 {α : Type} {f : α → Int → α} {k : Int} (hf : ∀ s x, x ≠ k → f s x = s) : ∀ (n : Nat) (v : Int) (s : α), (y3r v n).foldl f s = if v ≤ k ∧ k < v + n then f s k else s
 | 0, v, s => by rw [if_neg (by omega)]; rfl
 | n + 1, v, s => by
  rw [y3r, List.foldl_cons, yb2 hf n (v + 1)]
  by_cases h : v = k
  ·subst h
   rw [if_neg (by omega), if_pos (by omega)]
  ·rw [hf s v h]
   by_cases h2 : v + 1 ≤ k ∧ k < v + 1 + n
   ·rw [if_pos h2, if_pos (by omega)]
   ·rw [if_neg h2, if_neg (by omega)]
theorem nth_set {α : Type} [Inhabited α] {l : List α} {k j : Int} {x : α} (h0 : 0 ≤ k ∧ k < l.length) (h1 : 0 ≤ j ∧ j < l.length) : nth (l.set k.toNat x) j = if j = k then x else nth l j := by
 rw [yaa (l := l.set k.toNat x) (by rw [List.length_set]; exact h1), List.getElem_set]
 by_cases h : j = k
 ·subst h; rw [if_pos rfl, if_pos rfl]
 ·rw [if_neg (by omega), if_neg h, yaa h1]
/-! ### one virtual link alone -/
structure AL (c : Cf) (rs : List (List Hop)) (k : Int) : Prop where
 k0 : 0 ≤ k
 k1 : k < rs.length
 no : ∀ v : Int, 0 ≤ v → v < rs.length → v ≠ k → nth rs v = []
def DK (c : Cf) (k : Int) (p : Pl) : Int := mx c k * (nth c.fLinks p.fLink).fSlow + lat c p
structure KI (c : Cf) (k : Int) (ps : List Pl) (s : WS) : Prop where
 e : s.e = 0
 bu : ∀ q ∈ ps, V (yn s.bu ⟨k, q⟩ ⟨0, 0⟩) = true ∧ WZ (mx c k) ≤ val (yn s.bu ⟨k, q⟩ ⟨0, 0⟩)
 de : ∀ q ∈ ps, yn s.de q 0 = DK c k q
 out : ∀ b ∈ s.out, b.fDelay = DK c k (pbk b)
theorem er_0 {x : Int} (h : er x = 0) : x = 0 := by unfold er at h; split at h <;> omega
theorem fe_0 {e a b : Int} (h : fe e a b = 0) : e = 0 ∧ a = 0 ∧ b = 0 := by
 unfold fe at h
 by_cases he : e = 0
 ·rw [if_pos he] at h
  by_cases ha : er a = 0
  ·rw [if_pos ha] at h; exact ⟨he, er_0 ha, er_0 h⟩
  ·rw [if_neg ha] at h; exact absurd h ha
 ·rw [if_neg he, if_neg he] at h; exact absurd h he
theorem RT_V {c : Cf} {v : Int} (hv : VLs c) (h : 0 ≤ v ∧ v < c.fVLs.length) : V (RT c v) = true ∧ 0 ≤ val (RT c v) := by
 obtain ⟨⟨h1, h2⟩, h3, h4⟩ := hv _ (y1B h.1 h.2)
 have hf : fits (Rat.divInt (mx c v) (nth c.fVLs v).fBag) = true := ybz (by omega) ⟨by unfold mx; omega, by omega⟩
 unfold RT
 rw [ycS hf]
 exact ⟨y6S hf, by rw [y5c]; exact divInt_nonneg (by unfold mx; omega) (by omega)⟩
theorem CU_one {c : Cf} {net : Int} {rs : List (List Hop)} {k : Int} {bu : BM} {de : DM} {p : Pl} (hv : VA c net rs) (hS : Small c) (ha : AL c rs k) (hvo : VLs c) (hu : uses p (nth rs k) = true) (he : (CU c rs bu de 0 p).2.2.1 = 0) {ps : List Pl} {s : WS} (hk : KI c k ps s) (hbu : s.bu = bu) (hde : s.de = de)
  (hpre : (y2I (nth rs k) p.fNode).2 = true → pk (y2I (nth rs k) p.fNode).1 ∈ ps) (hD : ∀ q ∈ ps, 0 ≤ DK c k q) (hp : PI c p) (hsl : (y2I (nth rs k) p.fNode).2 = true → (nth c.fLinks (y2I (nth rs k) p.fNode).1.fLink).fSlow = (nth c.fLinks p.fLink).fSlow ∧ 0 ≤ (y2I (nth rs k) p.fNode).1.fLink ∧ (y2I (nth rs k) p.fNode).1.fLink < c.fLinks.length) (h16 : 1 ≤ (nth c.fLinks p.fLink).fSlow ∧ (nth c.fLinks p.fLink).fSlow ≤ 16) :
  ∃ cc : List B, (CU c rs bu de 0 p).1 = [cc] ∧ ((DL [cc] (srv c p)).2 = 0 → flr (DL [cc] (srv c p)).1 = DK c k p) ∧ ∃ b : R, V b = true ∧ WZ (mx c k) ≤ val b ∧ (CU c rs bu de 0 p).2.2.2 = yJ bu ⟨k, p⟩ b := by
 have hkl : 0 ≤ k ∧ k < (c.fVLs.length : Int) := ⟨ha.k0, by have := ha.k1; have := hv.len; omega⟩
 have hmx := hvo _ (y1B hkl.1 hkl.2)
 obtain ⟨r1, r2⟩ := RT_V hvo hkl
 have hid : ∀ (s : CS) (x : Int), x ≠ k → x ∈ y3r 0 rs.length → cst c rs de p s x = s := by
  intro s x hx hm
  have : ∀ (n : Nat) (v x : Int), x ∈ y3r v n → v ≤ x ∧ x < v + n := by
   intro n
   induction n with
   | zero => intro v x h; simp [y3r] at h
   | succ n ih =>
    intro v x h
    rw [y3r] at h
    rcases List.mem_cons.1 h with rfl | h
    ·omega
    ·have := ih _ _ h; omega
  have hb := this _ _ _ hm
  unfold cst
  rw [ha.no x (by omega) (by omega) hx]
  rfl
 have hfold : ∀ s : CS, (y3r 0 rs.length).foldl (cst c rs de p) s = cst c rs de p s k := by
  intro s
  -- outside the range the step is taken to do nothing
  have h1 : ∀ (l : List Int) (s : CS), (∀ x ∈ l, x ∈ y3r 0 rs.length) → l.foldl (cst c rs de p) s = l.foldl (fun s x => if x = k then cst c rs de p s x else s) s := by
   intro l
   induction l with
   | nil => intro s _; rfl
   | cons x l ih =>
    intro s hl
    rw [List.foldl_cons, List.foldl_cons, ih _ fun y hy => hl y (List.mem_cons_of_mem _ hy)]
    congr 1
    by_cases hx : x = k
    ·rw [if_pos hx]
    ·rw [if_neg hx, hid s x hx (hl x (by simp))]
  rw [h1 _ _ fun x hx => hx, yb2 (k := k) (f := fun s x => if x = k then cst c rs de p s x else s) (fun s x hx => if_neg hx), if_pos (by have := ha.k0; have := ha.k1; omega), if_pos rfl]
 unfold CU at he ⊢
 simp only at he ⊢
 rw [hfold] at he ⊢
 unfold cst at he ⊢
 simp only [hu, if_true] at he ⊢
 cases hg : (y2I (nth rs k) p.fNode).2 with
 | false =>
  simp only [hg, Bool.false_eq_true, if_false] at he ⊢
  have hnone : ∀ (l : List Int) (s : List (List B) × Int) (bu : BM), l.foldl (lst c [] bu p) s = s := by
   intro l
   induction l with
   | nil => intro s bu; rfl
   | cons x l ih => intro s bu; rw [List.foldl_cons]; unfold lst; rw [if_pos (by rfl)]; exact ih s bu
  rw [hnone] at he ⊢
  refine ⟨[⟨⟨mx c k, 1⟩, RT c k⟩], rfl, fun hd => ?_, ⟨mx c k, 1⟩, ?_, ?_, rfl⟩
  ·have hvq : ∀ t, AT [(⟨⟨mx c k, 1⟩, RT c k⟩ : B)] t = WZ (mx c k) + val (RT c k) * t := fun t => by
    obtain ⟨b, hb, e⟩ := AT_ex (c := [(⟨⟨mx c k, 1⟩, RT c k⟩ : B)]) (by simp) t
    rw [e, List.mem_singleton.1 hb]; rfl
   obtain ⟨f1, _⟩ := DL_0 hd
   have hr : val (RT c k) ≤ val ⟨1, (nth c.fLinks p.fLink).fSlow⟩ := by
    have h1 := f1.rate
    obtain ⟨⟨d, hd, e⟩, _⟩ := rr_ex (f1.vc [⟨⟨mx c k, 1⟩, RT c k⟩] (by simp))
    unfold RQ RQ at h1
    rw [e, List.mem_singleton.1 hd, Rat.add_zero] at h1
    exact h1
   exact yfb (s := srv c p) (w := (nth c.fLinks p.fLink).fSlow) (m := mx c k) (L := lat c p) rfl h16 hd (by rw [hvq, Rat.mul_zero, Rat.add_zero]) (fun t ht => by
    rw [hvq]
    have := Rat.mul_le_mul_of_nonneg_right hr ht
    grind) rfl
  ·exact y5M (x := ⟨mx c k, 1⟩) (by
    unfold GR V mx
    rw [Bool.and_eq_true, decide_eq_true_eq, decide_eq_true_eq]
    exact ⟨⟨by show (1 : Int) ≤ 1; omega, by show (1 : Int) ≤ 1073741824; omega, by show -1073741824 ≤ (nth c.fVLs k).fMax; omega, by show (nth c.fVLs k).fMax ≤ 1073741824; omega, Nat.gcd_one_right _⟩, by show 0 ≤ (nth c.fVLs k).fMax; omega⟩)
  ·exact Rat.le_refl
 | true =>
  simp only [hg, if_true] at he ⊢
  obtain ⟨g1, g2, g3⟩ := hsl hg
  have hq := hpre hg
  generalize y2I (nth rs k) p.fNode = gg at *
  -- only the link over which it comes has a group
  have hlk : ∀ q : Int, yn (yJ ([] : List (Int × List Int)) gg.1.fLink (yn ([] : List (Int × List Int)) gg.1.fLink [] ++ [k])) q [] = if q = gg.1.fLink then [k] else [] := fun q => by
   rw [y7i]; rfl
  have hone : ∀ (s : List (List B) × Int) (bu' : BM), (y3r 0 c.fLinks.length).foldl (lst c (yJ ([] : List (Int × List Int)) gg.1.fLink (yn ([] : List (Int × List Int)) gg.1.fLink [] ++ [k])) bu' p) s = lst c (yJ ([] : List (Int × List Int)) gg.1.fLink (yn ([] : List (Int × List Int)) gg.1.fLink [] ++ [k])) bu' p s gg.1.fLink := by
   intro s bu'
   rw [yb2 (k := gg.1.fLink) (fun s x hx => by unfold lst; rw [hlk, if_neg hx, if_pos rfl]), if_pos (by omega)]
  rw [hone] at he ⊢
  unfold lst at he ⊢
  rw [hlk, if_pos rfl, if_neg (by simp)] at he ⊢
  simp only [List.foldl_cons, List.foldl_nil] at he ⊢
  unfold gst at he ⊢
  simp only [y7i, if_true] at he ⊢
  -- no error anywhere
  obtain ⟨y1, y2, y3⟩ := DO_0 he
  obtain ⟨x1, x2, x3⟩ := DO_0 y1
  obtain ⟨b1, b2, b3⟩ := DO_0 x1
  obtain ⟨a1, a2, a3⟩ := DO_0 b1
  obtain ⟨ma, mb, mc⟩ := MUL_0 a2
  rw [a3] at b2
  conv at b3 => rhs; rw [a3]
  rw [b3] at x2
  obtain ⟨na, nb, nc⟩ := ybk b2
  obtain ⟨oa, ob, oc⟩ := ybk x2
  obtain ⟨pa, pb, pc⟩ := ybk y2
  have e0 : (⟨0, 1⟩ : R) = Z1 := rfl
  have z1 : val (⟨0, 1⟩ : R) = 0 := by decide +kernel
  obtain ⟨q1, q2⟩ := hk.bu _ hq
  rw [hbu] at q1 q2
  have hde0 := hk.de _ hq
  rw [hde] at hde0
  have hDq := hD _ hq
  have hbu2 : WZ (mx c k) ≤ val (ADD (yn bu ⟨k, pk gg.1⟩ ⟨0, 0⟩) (MUL (RT c k) ⟨yn de (pk gg.1) 0, 1⟩).1).1 := by
   rw [nc, mc, hde0, val_w]
   have h1 := Rat.mul_nonneg r2 (ydj hDq)
   grind
  refine ⟨_, rfl, fun hd => ?_, _, ?_, ?_, rfl⟩
  ·rw [x3, y3, b3] at hd ⊢
   rw [z1, Rat.zero_add] at oc pc
   generalize hsb : (ADD (⟨0, 1⟩ : R) (ADD (yn bu ⟨k, pk gg.1⟩ ⟨0, 0⟩) (MUL (RT c k) ⟨yn de (pk gg.1) 0, 1⟩).1).1).1 = sb at *
   have hsb2 : WZ (mx c k) ≤ val sb := by rw [oc]; exact hbu2
   have hmax : max 0 (mx c k) = mx c k := by unfold mx; omega
   rw [hmax, g1] at hd ⊢
   refine yfb (s := srv c p) (w := (nth c.fLinks p.fLink).fSlow) (m := mx c k) (L := lat c p) rfl h16 hd ?_ (fun t ht => ?_) rfl
   ·obtain ⟨b, hb, e⟩ := AT_ex (c := [(⟨sb, (ADD (⟨0, 1⟩ : R) (RT c k)).1⟩ : B), ⟨⟨mx c k, 1⟩, ⟨1, (nth c.fLinks p.fLink).fSlow⟩⟩]) (by simp) 0
    have hlow := AT_low (c := [(⟨sb, (ADD (⟨0, 1⟩ : R) (RT c k)).1⟩ : B), ⟨⟨mx c k, 1⟩, ⟨1, (nth c.fLinks p.fLink).fSlow⟩⟩]) (t := 0) (b := ⟨⟨mx c k, 1⟩, ⟨1, (nth c.fLinks p.fLink).fSlow⟩⟩) (by simp)
    have hv2 : vq 0 (⟨⟨mx c k, 1⟩, ⟨1, (nth c.fLinks p.fLink).fSlow⟩⟩ : B) = WZ (mx c k) := by
     show WZ (mx c k) + _ * 0 = _
     rw [Rat.mul_zero, Rat.add_zero]
    rw [hv2] at hlow
    refine Rat.le_antisymm hlow ?_
    rw [e]
    simp only [List.mem_cons, List.not_mem_nil, or_false] at hb
    rcases hb with rfl | rfl
    ·show WZ (mx c k) ≤ val sb + _ * 0
     rw [Rat.mul_zero, Rat.add_zero]; exact hsb2
    ·rw [hv2]; exact Rat.le_refl
   ·exact AT_low (c := [(⟨sb, (ADD (⟨0, 1⟩ : R) (RT c k)).1⟩ : B), ⟨⟨mx c k, 1⟩, ⟨1, (nth c.fLinks p.fLink).fSlow⟩⟩]) (t := t) (b := ⟨⟨mx c k, 1⟩, ⟨1, (nth c.fLinks p.fLink).fSlow⟩⟩) (by simp)
  ·rw [b3]; exact nb
  ·rw [b3]; exact hbu2
theorem VA.hop {c : Cf} {net : Int} {rs : List (List Hop)} (hS : Small c) (hv : VA c net rs) {r : List Hop} (hr : r ∈ rs) {h : Hop} (hh : h ∈ r) :
  (0 ≤ h.fLink ∧ h.fLink < c.fLinks.length) ∧ (1 ≤ (nth c.fLinks h.fLink).fSlow ∧ (nth c.fLinks h.fLink).fSlow ≤ 16) ∧ 0 ≤ lat c (pk h) ∧ lat c (pk h) ≤ 1000 := by
 obtain ⟨i, i0, i1, rfl⟩ := y7Z hh
 obtain ⟨_, _, _, j0, j1, _, js1, js2, _, jf1, jf2, jj⟩ := (hv.each r hr).cond i i0 i1
 have hfin : y9j c net (nth r i).fNode := by
  rcases jj with ⟨e, _⟩ | ⟨_, e⟩
  ·rw [← e]; exact jf1
  ·rw [← e]; exact jf2
 refine ⟨⟨j0, j1⟩, ⟨js1, js2⟩, ?_⟩
 unfold lat pk
 simp only
 by_cases hn : (nth r i).fNode - nM c ≥ 0
 ·rw [if_pos hn]
  rcases hfin.2 with h1 | ⟨_, h2, h3, _⟩
  ·omega
  ·exact ⟨h2, h3⟩
 ·rw [if_neg hn]; omega
theorem KI.step {c : Cf} {net : Int} {rs : List (List Hop)} {k slow : Int} {ps : List Pl} {s : WS} {p : Pl} (hv : VA c net rs) (hS : Small c) (ha : AL c rs k) (hvo : VLs c) (hsame : ∀ q : Int, 0 ≤ q → q < c.fLinks.length → 1 ≤ (nth c.fLinks q).fSlow → (nth c.fLinks q).fSlow = slow)
  (hk : KI c k ps s) (hps : ∀ q ∈ ps, q ∈ PS rs) (hp : p ∈ PS rs) (hpre : ∀ q, Pred rs p q → q ∈ ps) (he : (wst c rs s p).e = 0) : KI c k (ps ++ [p]) (wst c rs s p) := by
 obtain ⟨r, hr, h, hh, rfl⟩ := (y91 rs p).1 hp
 have hrk : r = nth rs k := by
  obtain ⟨i, i0, i1, rfl⟩ := y7Z hr
  by_cases e : i = k
  ·rw [e]
  ·rw [ha.no i i0 i1 e] at hh; simp at hh
 subst hrk
 have hin : nth rs k ∈ rs := y1B ha.k0 ha.k1
 obtain ⟨⟨l0, l1⟩, hslow, lt0, lt1⟩ := VA.hop hS hv hin hh
 have hD : ∀ q ∈ PS rs, 0 ≤ DK c k q := by
  intro q hq
  obtain ⟨r', hr', h', hh', rfl⟩ := (y91 rs q).1 hq
  obtain ⟨_, w1, w2, _⟩ := VA.hop hS hv hr' hh'
  have hmx := hvo _ (y1B ha.k0 (show k < (c.fVLs.length : Int) by have := ha.k1; have := hv.len; omega))
  unfold DK mx
  have h1 := Int.mul_nonneg (show 0 ≤ (nth c.fVLs k).fMax by omega) (show 0 ≤ (nth c.fLinks (pk h').fLink).fSlow by show 0 ≤ (nth c.fLinks h'.fLink).fSlow; omega)
  omega
 have he2 : fe (CU c rs s.bu s.de s.e (pk h)).2.2.1 (DL (CU c rs s.bu s.de s.e (pk h)).1 (srv c (pk h))).2 (BL (CU c rs s.bu s.de s.e (pk h)).1 (srv c (pk h))).2 = 0 := he
 obtain ⟨e1, e2, _⟩ := fe_0 he2
 have hse := hk.e
 rw [hse] at e1 e2
 obtain ⟨cc, c1, c2, b, b1, b2, b3⟩ := CU_one (s := s) (ps := ps) (bu := s.bu) (de := s.de) hv hS ha hvo (by unfold uses; rw [List.any_eq_true]; exact ⟨h, hh, by simp⟩) e1 hk rfl rfl (fun hg => hpre _ ⟨_, hin, h, hh, rfl, hg, rfl⟩) (fun q hq => hD q (hps q hq)) (hv.pi hS hp)
  (fun hg => by
   obtain ⟨g1, _⟩ := ybd hg
   obtain ⟨⟨a0, a1⟩, ⟨a2, _⟩, _⟩ := VA.hop hS hv hin g1
   exact ⟨(hsame _ a0 a1 a2).trans (hsame _ l0 l1 hslow.1).symm, a0, a1⟩) hslow
 rw [c1] at e2
 have e3 := c2 e2
 have hx : ∀ x, x = PO c rs s.bu s.de s.e (pk h) → x.1.fDelay = DK c k (pk h) ∧ pbk x.1 = pk h ∧ x.2.2.1 = yJ s.bu ⟨k, pk h⟩ b ∧ x.2.2.2 = yJ s.de (pk h) (DK c k (pk h)) := by
  rintro x rfl
  unfold PO
  simp only [hse, c1, e3, b3]
  exact ⟨trivial, rfl, trivial, trivial⟩
 obtain ⟨x1, x2, x3, x4⟩ := hx _ rfl
 refine ⟨he, fun q hq => ?_, fun q hq => ?_, fun o ho => ?_⟩
 ·show V (yn (PO c rs s.bu s.de s.e (pk h)).2.2.1 ⟨k, q⟩ ⟨0, 0⟩) = true ∧ WZ (mx c k) ≤ val (yn (PO c rs s.bu s.de s.e (pk h)).2.2.1 ⟨k, q⟩ ⟨0, 0⟩)
  rw [x3, y7i]
  by_cases e : q = pk h
  ·subst e; rw [if_pos rfl]; exact ⟨b1, b2⟩
  ·rw [if_neg (fun hc => e (by injection hc))]
   rcases List.mem_append.1 hq with hq | hq
   ·exact hk.bu q hq
   ·exact absurd (List.mem_singleton.1 hq) e
 ·show yn (PO c rs s.bu s.de s.e (pk h)).2.2.2 q 0 = DK c k q
  rw [x4, y7i]
  by_cases e : q = pk h
  ·subst e; rw [if_pos rfl]
  ·rw [if_neg e]
   rcases List.mem_append.1 hq with hq | hq
   ·exact hk.de q hq
   ·exact absurd (List.mem_singleton.1 hq) e
 ·have ho : o ∈ s.out ++ [(PO c rs s.bu s.de s.e (pk h)).1] := ho
  rcases List.mem_append.1 ho with ho | ho
  ·exact hk.out o ho
  ·rw [List.mem_singleton.1 ho, x1, x2]
theorem KI.run {c : Cf} {net : Int} {rs : List (List Hop)} {k slow : Int} (hv : VA c net rs) (hS : Small c) (ha : AL c rs k) (hvo : VLs c) (hsame : ∀ q : Int, 0 ≤ q → q < c.fLinks.length → 1 ≤ (nth c.fLinks q).fSlow → (nth c.fLinks q).fSlow = slow) :
  ∀ (l ps : List Pl) (s t : WS), KI c k ps s → y6R rs (ps ++ l) → (∀ q ∈ ps ++ l, q ∈ PS rs) → y8p c rs l s = .inl t → KI c k (ps ++ l) t
 | [], ps, s, t, hk, _, _, h => by injection h with h; subst h; simpa using hk
 | p :: l, ps, s, t, hk, ho, hm, h => by
  rw [y8p] at h
  split at h
  ·cases h
  ·rename_i he
   have h1 := hk.step (p := p) hv hS ha hvo hsame (fun q hq => hm q (by simp [hq])) (hm p (by simp)) (fun q hq => ho ps p l rfl q hq) (by simpa using he)
   have := KI.run hv hS ha hvo hsame l (ps ++ [p]) _ t h1 (by rw [List.append_assoc]; exact ho) (by rw [List.append_assoc]; exact hm) h
   rw [List.append_assoc] at this
   exact this
/-! ### the law -/
theorem ydk {c : Cf} {k : Int → Option Bool} (hl : c.fLinks.length ≤ 1000) : ∀ (n : Nat) (w v : Int), 0 ≤ v → v ≤ c.fLinks.length → c.fLinks.length < n + v → (∀ q : Int, 0 ≤ q → q < v → (nth c.fLinks q).fSlow ≠ 0 → (nth c.fLinks q).fSlow = w) →
  y25 c k n w v = some true ∨ ∃ w', (∀ q : Int, 0 ≤ q → q < c.fLinks.length → (nth c.fLinks q).fSlow ≠ 0 → (nth c.fLinks q).fSlow = w') ∧ y25 c k n w v = k w'
 | 0, w, v, h0, h1, h2, h3 => by omega
 | n + 1, w, v, h0, h1, h2, h3 => by
  rw [y25]
  by_cases h : v < c.fLinks.length
  ·rw [if_pos (decide_eq_true h), yr ⟨h0, h⟩]
   by_cases hc : ((decide (w ≠ 0)) && (decide (((nth c.fLinks v).fSlow) ≠ w))) = true
   ·rw [if_pos hc, ycs]; exact .inl rfl
   ·rw [if_neg hc, yD (x := v + 1) (by omega)]
    simp only [Bool.and_eq_true, decide_eq_true_eq, not_and, Decidable.not_not] at hc
    refine ydk hl n _ (v + 1) (by omega) (by omega) (by omega) fun q q0 q1 q2 => ?_
    by_cases e : q = v
    ·rw [e]
    ·have h4 := h3 q q0 (by omega) q2
     by_cases hw : w = 0
     ·rw [hw] at h4; exact absurd h4 q2
     ·rw [h4]; exact (hc hw).symm
  ·rw [if_neg (by simpa using h)]
   exact .inr ⟨w, fun q q0 q1 => h3 q q0 (by omega), rfl⟩
theorem yct {c : Cf} {x : S37 × Int} {which slow q : Int} {k : Option Bool} (hw : 0 ≤ which ∧ which ≤ 255) (hq : Int.tmod which ((c.fVLs.length : Nat) : Int) = q) (hq2 : 0 ≤ q ∧ q < c.fVLs.length) (hS : Small c) (hl : x.1.fPorts.length ≤ 1000000)
  (hm : 1 ≤ mx c q ∧ mx c q ≤ 72) (hsl : x.1.fPorts ≠ [] → 1 ≤ slow ∧ slow ≤ 16)
  (hp : ∀ b ∈ x.1.fPorts, b.fDelay = mx c q * slow + lat c (pbk b) ∧ (0 ≤ b.fNode ∧ b.fNode < nN c) ∧ 0 ≤ lat c (pbk b) ∧ lat c (pbk b) ≤ 1000) :
  ∀ (n : Nat) (v : Int), 0 ≤ v → v ≤ x.1.fPorts.length → x.1.fPorts.length < n + v → y2y x which c slow k n v = k
 | 0, v, h0, h1, h2 => by omega
 | n + 1, v, h0, h1, h2 => by
  rw [y2y]
  by_cases h : v < x.1.fPorts.length
  ·have hmem := y1B h0 h
   obtain ⟨p1, ⟨p2, p3⟩, p4, p5⟩ := hp _ hmem
   have hs := hsl (List.ne_nil_of_mem hmem)
   rw [if_pos (decide_eq_true h), yr ⟨h0, h⟩, yD (x := which) (by omega), hq, yr hq2]
   refine y2h (P := fun o => o = k) fun k1 hk1 => ?_
   have hM := hS.m; have hSw := hS.s
   unfold nN at p3
   have hmul : 0 ≤ mx c q * slow ∧ mx c q * slow ≤ 72 * 16 := ⟨Int.mul_nonneg (by omega) (by omega), Int.mul_le_mul (by omega) (by omega) (by omega) (by omega)⟩
   have e1 : i64 ((nth c.fVLs q).fMax * slow) = mx c q * slow := by
    show i64 (mx c q * slow) = _
    rw [yD (by omega)]
   have hgo : ∀ w, w = mx c q * slow + lat c (pbk (nth x.1.fPorts v)) → k1 w = k := by
    rintro w rfl
    rw [hk1, if_neg (by rw [p1]; simp), yD (x := v + 1) (by omega)]
    exact yct hw hq hq2 hS hl hm hsl hp n (v + 1) (by omega) (by omega) (by omega)
   rw [yD (x := (nth x.1.fPorts v).fNode - ((c.fModules.length : Nat) : Int)) (by omega), e1]
   unfold lat pbk nM at hgo p4 p5
   simp only at hgo p4 p5
   by_cases hn : (nth x.1.fPorts v).fNode - ((c.fModules.length : Nat) : Int) ≥ 0
   ·rw [if_pos hn] at hgo p4 p5
    rw [if_pos (decide_eq_true hn), yr ⟨hn, by omega⟩, yD (by omega)]
    exact hgo _ rfl
   ·rw [if_neg hn] at hgo
    rw [if_neg (by simpa using hn)]
    exact hgo _ (by omega)
  ·rw [if_neg (by simpa using h)]
theorem law (c : Cf) (net : Int) (rs : List (List Hop)) (which : Int) (hw : 0 ≤ which ∧ which ≤ 255) : y5s c net rs which = some true := by
 unfold y5s
 rw [ycs]
 obtain ⟨b1, q1, q2⟩ := Few_eq c rs
 rw [q1, Option.bind_some]
 cases b1 with
 | false => rfl
 | true =>
 have hf := q2.1 rfl
 obtain ⟨b2, r1, r2⟩ := ydV hf.small (net := net) (rs := rs) (fun r hr => by have := hf.e r hr; omega) (by have := hf.r; omega)
 rw [if_neg (by simp), r1, Option.bind_some, Option.bind_some]
 cases b2 with
 | false => rfl
 | true =>
 have hv := r2.1 rfl
 by_cases hz : c.fVLs.length = 0
 ·rw [if_pos (by simp [hz])]; rfl
 rw [if_neg (by simp [hz])]
 have hlen := hv.len
 have hrs := hf.r
 have hS := hf.small
 have hk : 0 ≤ Int.tmod which ((c.fVLs.length : Nat) : Int) ∧ Int.tmod which ((c.fVLs.length : Nat) : Int) < ((c.fVLs.length : Nat) : Int) := by
  rw [Int.tmod_eq_emod_of_nonneg hw.1]
  exact ⟨Int.emod_nonneg _ (by omega), Int.emod_lt_of_pos _ (by omega)⟩
 rw [yD (x := which) (by omega)]
 generalize hq : Int.tmod which ((c.fVLs.length : Nat) : Int) = q at hk
 rw [yr (by omega), yr (by omega), yr (by omega), yr (by rw [List.length_replicate]; omega)]
 generalize hal : (List.replicate (((rs.length : Nat) : Int) : Int).toNat ([] : List Hop)).set q.toNat (nth rs q) = al
 have hal1 : al.length = rs.length := by rw [← hal, List.length_set, List.length_replicate]; omega
 have hal2 : ∀ v : Int, 0 ≤ v → v < rs.length → nth al v = if v = q then nth rs q else [] := by
  intro v v0 v1
  rw [← hal, nth_set (by rw [List.length_replicate]; omega) (by rw [List.length_replicate]; omega)]
  by_cases e : v = q
  ·rw [if_pos e, if_pos e]
  ·rw [if_neg e, if_neg e, yaa (by rw [List.length_replicate]; omega), List.getElem_replicate]
 have hfa : FewP c al := ⟨hf.m, hf.s, hf.l, hf.v, by omega, fun r hr => by
  obtain ⟨i, i0, i1, rfl⟩ := y7Z hr
  rw [hal2 i i0 (by omega)]
  split
  ·exact hf.e _ (y1B hk.1 (by omega))
  ·simp⟩
 obtain ⟨x, x1, x2⟩ := yfC (net := net) hfa
 rw [x1, Option.bind_some]
 by_cases hx : x.2 ≠ 0
 ·rw [if_pos (by simpa using hx)]; rfl
 rw [if_neg (by simpa using hx)]
 refine y2h (P := fun o => o = some true) fun k1 hk1 => ?_
 rcases ydk (c := c) (k := k1) (by have := hf.l; omega) yz 0 0 (by omega) (by omega) (by rw [yU]; have := hf.l; omega) (fun q h1 h2 => by omega) with h3 | ⟨w, h3, h4⟩
 ·exact h3
 rw [h4, hk1]
 refine y50 (P := fun o => o = some true) fun k2 hk2 => ?_
 cases x2 with
 | route _ => exact absurd (by decide) hx
 | vl _ _ => exact absurd (by decide) hx
 | cycle _ _ _ _ => exact absurd (by decide) hx
 | err _ _ _ _ _ _ _ a => exact absurd a hx
 | ok l t va vo lp lo hrun =>
  have ha : AL c al q := ⟨hk.1, by omega, fun v v0 v1 hne => by rw [hal2 v v0 (by omega), if_neg hne]⟩
  have hsame : ∀ q : Int, 0 ≤ q → q < c.fLinks.length → 1 ≤ (nth c.fLinks q).fSlow → (nth c.fLinks q).fSlow = w := fun q a b h => h3 q a b (by omega)
  have hki : KI c q l t := by
   have := KI.run va hS ha vo.vls hsame l [] w0 t ⟨rfl, by simp, by simp, by simp [w0]⟩ lo (fun p hp => lp.subset hp) hrun
   simpa using this
  obtain ⟨o1, o2, o3⟩ := ybU l w0 t hrun
  have hmap : t.out.map pbk = l := by rw [o1]; simp [w0]
  have hol : t.out.length = l.length := by rw [o2]; simp [w0]
  have hps := ye1 hfa.e
  have h40 : al.length * 40 ≤ 20 * 40 := Nat.mul_le_mul_right _ hfa.r
  have hll := lp.length_eq
  have hin : ∀ b ∈ yS y13 t.out, pbk b ∈ PS al ∧ b.fDelay = DK c q (pbk b) := fun b hb => by
   have h5 := (y3x _ _).mem_iff.1 hb
   exact ⟨lp.subset (by rw [← hmap]; exact List.mem_map_of_mem h5), hki.out b h5⟩
  have hslow : ∀ b ∈ yS y13 t.out, ((1 ≤ w ∧ w ≤ 16) ∧ (nth c.fLinks b.fLink).fSlow = w) ∧ 0 ≤ lat c (pbk b) ∧ lat c (pbk b) ≤ 1000 := fun b hb => by
   obtain ⟨r, hr, h, hh, e⟩ := (y91 al _).1 (hin b hb).1
   obtain ⟨⟨a0, a1⟩, ⟨a2, a3⟩, a4, a5⟩ := VA.hop hS va hr hh
   have e1 : h.fLink = b.fLink := congrArg Sbound_place.fLink e
   rw [e] at a4 a5
   rw [e1] at a0 a1 a2 a3
   have := hsame _ a0 a1 a2
   exact ⟨⟨by omega, this⟩, a4, a5⟩
  have hmx := vo.vls _ (y1B hk.1 hk.2)
  rw [yct (q := q) (slow := w) hw hq hk hS (by show (yS y13 t.out).length ≤ _; rw [y5b]; omega) (by unfold mx; omega) (fun hne => ?_) (fun b hb => ?_) yz 0 (by omega) (by omega) (by rw [yU]; show (((yS y13 t.out).length : Nat) : Int) < _; rw [y5b]; omega), hk2]
  ·rfl
  ·have hne : yS y13 t.out ≠ [] := hne
   obtain ⟨b, hb⟩ := List.exists_mem_of_ne_nil _ hne
   exact (hslow b hb).1.1
  ·have hpi := va.pi hS (hin b hb).1
   obtain ⟨⟨_, w2⟩, w3, w4⟩ := hslow b hb
   refine ⟨?_, ⟨hpi.n0, hpi.n1⟩, w3, w4⟩
   rw [(hin b hb).2]
   unfold DK
   show mx c q * (nth c.fLinks b.fLink).fSlow + _ = _
   rw [w2]
end Go.Proofs.YtcahmabkeaijdaaGreat

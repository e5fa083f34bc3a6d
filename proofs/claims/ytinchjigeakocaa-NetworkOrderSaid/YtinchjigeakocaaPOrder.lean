/- A part of this claim's proof: models of functions, walks, plain laws. No conditions. -/
import Derived.Test.YtinchjigeakocaaP31w
import Derived.Test.YtinchjigeakocaaWNetworkOrder
namespace Go.Proofs.Ytinchjigeakocaa
open Go Go.RowKit Sep
set_option linter.all false
section
variable {c : Cf} {net : Int} {rs : List (List Hop)} {sent : List Snt}
theorem cost_eq (s : Int) (h : Hop) : y3T c sent s h = (nth sent s).fSize * (nth c.fLinks h.fLink).fSlow + if nM c ≤ h.fNode then (sw c h.fNode).fDelay else 0 := by
 unfold y3T y25 yy
 simp only
 omega
theorem cost_le (g : Sg c net rs sent) {s : Int} {h : Hop} (hs : 0 ≤ s ∧ s < sent.length) (hh : h ∈ route rs sent s) : y3T c sent s h ≤ 2152 := by
 have hp := y6b g (k := yy h) ⟨s, h, hs, hh, rfl⟩
 have hsz := (g.fr.each s hs.1 hs.2).2.2.2.2
 have hm := y5d (a := (nth sent s).fSize) (b := (y25 c (yy h)).fNumbers.fSlow) ⟨hsz.1, hsz.2.1⟩ hp.slow
 have := hp.delay
 unfold y3T; omega
theorem or_L4 (g : Sg c net rs sent) {X : List Cm × List Cm × Int} {v : Int} {k : Int → Option Bool} {s : Int} (hs : 0 ≤ s ∧ s < sent.length) (he : (nth X.1 v).fSent = s) : ∀ (n : Nat) (m : Nat) (l a : Int), m ≤ (route rs sent s).length → m < n → 0 ≤ l → l ≤ 1000000000 + 2152 * (100 - m) →
  y1f rs sent X v c k n l a ((m : Int) - 1) = k (l + bk (route rs sent s) (y3T c sent s) m a)
 | 0, m, l, a, h0, h1, h2, h3 => by omega
 | n + 1, 0, l, a, h0, h1, h2, h3 => by
  rw [y1f, if_neg (by simp)]
  simp [bk]
 | n + 1, m + 1, l, a, h0, h1, h2, h3 => by
  have hlen := (g.route hs).len
  have hm : nth (route rs sent s) (m : Int) ∈ route rs sent s := y3e (by omega) (by omega)
  have hh := (g.route hs).hv _ hm
  have hcl := cost_le g hs hm
  have hcp := cost_pos g hs hm
  rw [y1f, he, show (((m + 1 : Nat) : Int) - 1) = (m : Int) by omega, if_pos (decide_eq_true (by omega))]
  show jp2 _ _ = _
  refine y4u (P := fun o => o = k (l + bk (route rs sent s) (y3T c sent s) (m + 1) a)) fun k1 hk1 => ?_
  have q : (0 : Int) ≤ (m : Int) ∧ (m : Int) < (((nth rs ((nth sent s).fVL)).length : Nat) : Int) := ⟨by omega, by have : m + 1 ≤ (nth rs ((nth sent s).fVL)).length := h0; omega⟩
  rw [yo q, bk]
  by_cases e : (nth (route rs sent s) (m : Int)).fNext = a
  ·rw [if_pos (decide_eq_true (by exact e)), if_pos e, yo q, yo q, yo ⟨hh.1, hh.2.1⟩]
   have hce := cost_eq (c := c) (sent := sent) s (nth (route rs sent s) (m : Int))
   have hp := y6b g (k := yy (nth (route rs sent s) (m : Int))) ⟨s, _, hs, hm, rfl⟩
   have hsz := (g.fr.each s hs.1 hs.2).2.2.2.2
   have hmb : 1 ≤ (nth sent s).fSize * (nth c.fLinks (nth (route rs sent s) (m : Int)).fLink).fSlow ∧ (nth sent s).fSize * (nth c.fLinks (nth (route rs sent s) (m : Int)).fLink).fSlow ≤ 1152 := y5d ⟨hsz.1, hsz.2.1⟩ hp.slow
   have hnode := hh.node g.small
   unfold route at hmb hce hnode hcl hcp ⊢
   by_cases hn : nM c ≤ (nth (nth rs (nth sent s).fVL) (m : Int)).fNode
   ·have hin : (0 : Int) ≤ (nth (nth rs (nth sent s).fVL) (m : Int)).fNode - c.fModules.length ∧ (nth (nth rs (nth sent s).fVL) (m : Int)).fNode - c.fModules.length < c.fSwitches.length := by
     have := hnode.2.1; unfold nN at this; unfold nM at hn; omega
    have hsm := g.small.s
    rw [if_pos hn] at hce
    rw [if_pos (decide_eq_true (by exact hn)), yk (x := (nth (nth rs (nth sent s).fVL) (m : Int)).fNode - c.fModules.length) (by omega), yo hin, yk (x := (nth sent s).fSize * (nth c.fLinks (nth (nth rs (nth sent s).fVL) (m : Int)).fLink).fSlow) (by omega), yk (x := l + _) (by omega)]
    have hsw : (nth c.fSwitches ((nth (nth rs (nth sent s).fVL) (m : Int)).fNode - c.fModules.length)).fDelay = (sw c (nth (nth rs (nth sent s).fVL) (m : Int)).fNode).fDelay := rfl
    rw [hsw, yk (x := _ + (sw c _).fDelay) (by omega), hk1, yk (x := (m : Int) - 1) (by omega)]
    have := or_L4 (k := k) g hs he n m (l + y3T c sent s (nth (nth rs (nth sent s).fVL) (m : Int))) (nth (nth rs (nth sent s).fVL) (m : Int)).fNode (by omega) (by omega) (by omega) (by omega)
    rw [hce] at this ⊢
    rw [show l + (nth sent s).fSize * (nth c.fLinks (nth (nth rs (nth sent s).fVL) (m : Int)).fLink).fSlow + (sw c (nth (nth rs (nth sent s).fVL) (m : Int)).fNode).fDelay = l + ((nth sent s).fSize * (nth c.fLinks (nth (nth rs (nth sent s).fVL) (m : Int)).fLink).fSlow + (sw c (nth (nth rs (nth sent s).fVL) (m : Int)).fNode).fDelay) by omega, this]
    unfold route
    congr 1; omega
   ·rw [if_neg hn] at hce
    rw [if_neg (by rw [decide_eq_true_eq]; exact hn), yk (x := (nth sent s).fSize * (nth c.fLinks (nth (nth rs (nth sent s).fVL) (m : Int)).fLink).fSlow) (by omega), yk (x := l + _) (by omega), hk1, yk (x := (m : Int) - 1) (by omega)]
    have := or_L4 (k := k) g hs he n m (l + y3T c sent s (nth (nth rs (nth sent s).fVL) (m : Int))) (nth (nth rs (nth sent s).fVL) (m : Int)).fNode (by omega) (by omega) (by omega) (by omega)
    rw [hce] at this ⊢
    rw [show (nth sent s).fSize * (nth c.fLinks (nth (nth rs (nth sent s).fVL) (m : Int)).fLink).fSlow + 0 = (nth sent s).fSize * (nth c.fLinks (nth (nth rs (nth sent s).fVL) (m : Int)).fLink).fSlow by omega] at this ⊢
    rw [this]
    unfold route
    congr 1; omega
  ·rw [if_neg (by rw [decide_eq_true_eq]; exact e), if_neg e, hk1, yk (x := (m : Int) - 1) (by omega)]
   exact or_L4 g hs he n m l a (by omega) (by omega) h2 (by omega)
theorem y99 {κ γ : Type} [DecidableEq κ] {k k' : κ} {u : γ} (h : k' ≠ k) : ∀ (l : List (κ × γ)), y1o (yU l k u) k' = y1o l k'
 | [] => by simp [yU, y1o, h]
 | p :: l => by
  by_cases hk : k = p.1
  ·subst hk
   simp [yU, y1o, h]
  ·have ih := y99 (u := u) h l
   simp only [yU, if_neg hk]
   simp only [y1o, ih]
def keyO (sent : List Snt) (x : Cm) : S51 := ⟨(nth sent x.fSent).fVL, x.fNode⟩
theorem or_L3 (g : Sg c net rs sent) {X : List Cm × List Cm × Int} {k : Option Bool} {F : St} {H : List Rc} (h : JV c net rs sent F H) (hp : X.1.Perm (H.filterMap (y4U c))) (hs : Srt clt X.1) (hl : X.1.length ≤ 1280) : ∀ (n : Nat) (v : Int) (mp : List (S51 × Cm)), 0 ≤ v → v ≤ X.1.length → X.1.length < n + v →
  (∀ q, y1o mp q = true → ∃ j : Int, 0 ≤ j ∧ j < v ∧ yr mp q (⟨0, 0, 0⟩ : Cm) = nth X.1 j ∧ q = keyO sent (nth X.1 j)) →
  y1v X sent rs c k n v mp = k
 | 0, v, mp, h0, h1, h2, h3 => by omega
 | n + 1, v, mp, h0, h1, h2, h3 => by
  rw [y1v]
  by_cases hv : v < X.1.length
  ·rw [if_pos (decide_eq_true hv)]
   refine y3O (P := fun o => o = k) fun k1 hk1 => ?_
   have hx : nth X.1 v ∈ X.1 := y3e h0 hv
   obtain ⟨b, hb, b1, b2, b3, b4⟩ := y8E hp hx
   have kb := h.ok b hb
   have hsv : 0 ≤ (nth X.1 v).fSent ∧ (nth X.1 v).fSent < sent.length := by rw [← b1]; exact kb.s
   have i1 : i64 (v - 1) = v - 1 := yk (by omega)
   rw [yo ⟨h0, hv⟩, i1, yo (fun hc => by have := of_decide_eq_true hc; omega), yo (fun hc _ => by have := of_decide_eq_true hc; omega), yo (fun hc _ _ => by have := of_decide_eq_true hc; omega)]
   -- in order
   have hord : ∀ j : Int, 0 ≤ j → j < v → ¬ clt (nth X.1 v) (nth X.1 j) := by
    intro j j0 j1
    unfold Srt at hs
    rw [List.pairwise_iff_getElem] at hs
    rw [y2e ⟨h0, hv⟩, y2e ⟨j0, by omega⟩]
    exact hs j.toNat v.toNat (by omega) (by omega) (by omega)
   rw [if_neg (by
    simp only [Bool.or_eq_true, Bool.and_eq_true, decide_eq_true_eq]
    rintro ((⟨hc, hc2⟩ | hc) | hc)
    ·have := hord (v - 1) (by omega) (by omega)
     unfold clt at this; omega
    ·omega
    ·omega), yo hsv, yo (g.vl hsv)]
   refine y1I (P := fun o => o = k) fun k2 hk2 => ?_
   have hlen := (g.route hsv).len
   have htm := (g.fr.each _ hsv.1 hsv.2)
   rw [yk (x := (((nth rs (nth sent (nth X.1 v).fSent).fVL).length : Nat) : Int) - 1) (by unfold route at hlen; omega)]
   have hL := or_L4 (X := X) (v := v) (k := k2) g hsv rfl yA (route rs sent (nth X.1 v).fSent).length (nth sent (nth X.1 v).fSent).fTime (nth X.1 v).fNode (Nat.le_refl _) (by rw [y1A]; omega) htm.1 (by have := htm.2.1; omega)
   rw [show (((nth rs (nth sent (nth X.1 v).fSent).fVL).length : Nat) : Int) - 1 = (((route rs sent (nth X.1 v).fSent).length : Nat) : Int) - 1 from rfl, hL, hk2]
   -- not too early
   have hbm : b.ev.fHop ∈ route rs sent (nth X.1 v).fSent := by rw [← b1]; exact kb.h
   obtain ⟨w, hw, hwe⟩ := idx_of hbm
   have hlst := (least g h _ hsv w hw b hb b1 hwe.symm).2 _ b3
   rw [hwe, b2] at hlst
   have hbk := (g.route hsv).bk_next (w := y3T c sent (nth X.1 v).fSent) hw (Nat.le_refl _) (by omega)
   have hbk2 := (g.route hsv).bk_next (w := y3T c sent (nth X.1 v).fSent) hw (show w + 1 ≤ (route rs sent (nth X.1 v).fSent).length by omega) (Nat.le_refl _)
   rw [hwe, b2] at hbk hbk2
   rw [hbk, ← hbk2] at hlst
   -- the frames before it
   have hfif : ∀ j : Int, 0 ≤ j → j < v → keyO sent (nth X.1 v) = keyO sent (nth X.1 j) → (nth X.1 j).fSent < (nth X.1 v).fSent ∧ (nth X.1 j).fTime < (nth X.1 v).fTime := by
    intro j j0 j1 hkey
    have hk1 := congrArg S51.a0 hkey
    have hk2 := congrArg S51.a1 hkey
    simp only [keyO] at hk1 hk2
    have hy : nth X.1 j ∈ X.1 := y3e j0 (by omega)
    obtain ⟨a, ha, a1, a2, a3, a4⟩ := y8E hp hy
    have ka := h.ok a ha
    have hsj : 0 ≤ (nth X.1 j).fSent ∧ (nth X.1 j).fSent < sent.length := by rw [← a1]; exact ka.s
    have hrr : route rs sent (nth X.1 j).fSent = route rs sent (nth X.1 v).fSent := by unfold route; rw [hk1]
    have ham : a.ev.fHop ∈ route rs sent (nth X.1 v).fSent := by rw [← hrr, ← a1]; exact ka.h
    have hhop : a.ev.fHop = b.ev.fHop := (g.route hsv).next_inj ham hbm (by rw [a2, b2, hk2])
    have hne : (nth X.1 j).fSent ≠ (nth X.1 v).fSent := by
     intro e
     have hon := y9w g h hp
     rw [List.pairwise_iff_getElem] at hon
     have := hon j.toNat v.toNat (by omega) (by omega) (by omega)
     rw [← y2e ⟨j0, by omega⟩, ← y2e ⟨h0, hv⟩] at this
     exact this ⟨e, hk2.symm⟩
    have hnc := hord j j0 j1
    rcases Int.lt_trichotomy (nth X.1 j).fSent (nth X.1 v).fSent with q | q | q
    ·refine ⟨q, ?_⟩
     exact fifo g h _ _ hsj.1 q hsv.2 hk1.symm w (by rw [hrr]; exact hw) a ha b hb a1 b1 (by rw [hrr, hwe, hhop]) (by rw [hrr, hwe]) _ _ a3 b3
    ·exact absurd q hne
    ·exfalso
     have := fifo g h _ _ hsv.1 q hsj.2 hk1 w hw b hb a ha b1 a1 hwe.symm (by rw [hwe, hhop]) _ _ b3 a3
     unfold clt at hnc; omega
   rw [if_neg (by
    simp only [Bool.or_eq_true, Bool.and_eq_true, decide_eq_true_eq]
    rintro (hc | ⟨hc, hc2⟩)
    ·omega
    ·obtain ⟨j, j0, j1, j2, j3⟩ := h3 _ hc
     rw [j2] at hc2
     have := hfif j j0 j1 j3
     omega), hk1, yk (x := v + 1) (by omega)]
   refine or_L3 g h hp hs hl n (v + 1) _ (by omega) (by omega) (by omega) ?_
   intro q hq
   by_cases e : q = keyO sent (nth X.1 v)
   ·subst e
    exact ⟨v, h0, by omega, y4Z _, rfl⟩
   ·obtain ⟨j, j0, j1, j2, j3⟩ := h3 q ((y99 (u := (⟨(nth X.1 v).fSent, (nth X.1 v).fNode, (nth X.1 v).fTime⟩ : Cm)) e mp).symm.trans hq)
    exact ⟨j, j0, by omega, by rw [← j2]; exact y4Y e mp, j3⟩
  ·rw [if_neg (by simpa using hv)]
theorem y7e (hs : (sent.length : Int) ≤ 9223372036854775807) : y2S c net rs sent = some true := by
 unfold y2S
 obtain ⟨b, h1, h2⟩ := lfine_eq (c := c) (net := net) (rs := rs) hs
 rw [h1]
 simp only [Option.bind_some]
 cases b with
 | false => rw [if_pos (by rfl), y7w]; rfl
 | true =>
  obtain ⟨hf, g⟩ := h2.1 rfl
  rw [if_neg (by simp)]
  obtain ⟨a, b, r1, e1⟩ := Run_eq g
  rw [e1, Option.bind_some, if_neg (by simp)]
  obtain ⟨F, H, f1, f2, f3, f4⟩ := r1.hist g
  refine y3O (P := fun o => o = some true) fun k hk => ?_
  have hlen := r1.len
  rw [or_L3 g f2 (X := (a, b, 0)) f3 r1.sc (by show a.length ≤ _; omega) yA 0 [] (by omega) (by simp) (by rw [y1A]; simp; omega) (by simp [y1o]), hk, y7w]
  rfl
end
end Go.Proofs.Ytinchjigeakocaa

/- A part of this claim's proof: models of functions, walks, plain laws. No conditions. -/
import Derived.Test.YtinchjigeakocaaP31c
namespace Go.Proofs.Ytinchjigeakocaa
open Go Go.RowKit Sep
set_option linter.all false
abbrev Ex := Snetwork_exit
def yv (h : Hop) : Ex := ⟨h.fNode, h.fLink⟩
def y2D (c : Cf) (k : Ex) : Pt := ⟨⟨(nth c.fLinks k.fLink).fSlow, if nM c ≤ k.fNode then (sw c k.fNode).fDelay else 0, if nM c ≤ k.fNode then (sw c k.fNode).fStore else 1073741824⟩, 0, 0, []⟩
def y34 (c : Cf) (mp : List (Ex × Pt)) : Ex → Pt := fun k => yp mp k (y2D c k)
def HV (c : Cf) (net : Int) (h : Hop) : Prop := JN c net h.fLink h.fNode h.fNext
theorem HV.node {c : Cf} {net : Int} {h : Hop} (hs : Small c) (hv : HV c net h) : y53 c net h.fNode ∧ h.fNode < nN c ∧ y53 c net h.fNext ∧ h.fNext < nN c := by
 obtain ⟨_, _, _, _, _, _, h7, h8, h9⟩ := hv
 have ha := fA_eq hs h.fLink
 have hb := fB_eq hs h.fLink
 rcases h9 with ⟨e1, e2⟩ | ⟨e1, e2⟩
 ·rw [e1] at h7 ha; rw [e2] at h8 hb; exact ⟨h7, ha.2.2, h8, hb.2.2⟩
 ·rw [e1] at h7 ha; rw [e2] at h8 hb; exact ⟨h8, hb.2.2, h7, ha.2.2⟩
theorem fresh_PI {c : Cf} {net : Int} {h : Hop} (hs : Small c) (hv : HV c net h) : PI (y2D c (yv h)) := by
 obtain ⟨⟨n1, n2⟩, n3, _⟩ := hv.node hs
 have hsl : 1 ≤ (nth c.fLinks h.fLink).fSlow ∧ (nth c.fLinks h.fLink).fSlow ≤ 16 := ⟨hv.2.2.2.1, hv.2.2.2.2.1⟩
 refine ⟨hsl, ?_, ?_, Int.le_refl _, ⟨Int.le_refl _, by show (0 : Int) ≤ _; omega⟩, fun x hx => by simp [y2D] at hx, by simp [y2D]⟩
 ·show 0 ≤ (if nM c ≤ h.fNode then (sw c h.fNode).fDelay else 0) ∧ (if nM c ≤ h.fNode then (sw c h.fNode).fDelay else 0) ≤ 1000
  split
  ·rcases n2 with n2 | ⟨_, a, b, _⟩
   ·omega
   ·exact ⟨a, b⟩
  ·omega
 ·show 0 ≤ (if nM c ≤ h.fNode then (sw c h.fNode).fStore else 1073741824) ∧ (if nM c ≤ h.fNode then (sw c h.fNode).fStore else 1073741824) ≤ 1073741824
  split
  ·rcases n2 with n2 | ⟨_, _, _, a, b⟩
   ·omega
   ·exact ⟨a, b⟩
  ·omega
def atS (c : Cf) (mp : List (Ex × Pt)) (k : Ex) : List (Ex × Pt) := if y2b mp k = true then mp else yE mp k (y2D c k)
theorem y8K {κ γ : Type} [DecidableEq κ] {k : κ} {u : γ} : ∀ (l : List (κ × γ)), y2b (yE l k u) k = true
 | [] => by simp [yE, y2b]
 | p :: l => by
  by_cases hk : k = p.1
  ·subst hk; simp [yE, y2b]
  ·simp only [yE, hk, if_false, y2b]; exact y8K l
theorem y9i {κ γ : Type} [DecidableEq κ] {k : κ} {d d' : γ} : ∀ {l : List (κ × γ)}, y2b l k = true → yp l k d = yp l k d'
 | [], h => by simp [y2b] at h
 | p :: l, h => by
  unfold y2b at h
  unfold yp
  by_cases hk : k = p.1
  ·simp [hk]
  ·simp only [hk, if_false] at h ⊢; exact y9i h
theorem y8L {κ γ : Type} [DecidableEq κ] {k : κ} {d : γ} : ∀ {l : List (κ × γ)}, y2b l k = false → yp l k d = d
 | [], h => rfl
 | p :: l, h => by
  unfold y2b at h
  unfold yp
  by_cases hk : k = p.1
  ·simp [hk] at h
  ·simp only [hk, if_false] at h ⊢; exact y8L h
theorem y9W (c : Cf) (mp : List (Ex × Pt)) (k : Ex) : y2b (atS c mp k) k = true := by
 unfold atS
 split
 ·assumption
 ·exact y8K _
theorem y9j (c : Cf) (mp : List (Ex × Pt)) (k : Ex) : y34 c (atS c mp k) = y34 c mp := by
 unfold atS
 split
 ·rfl
 ·rename_i h
  funext k'
  unfold y34
  by_cases e : k' = k
  ·subst e; rw [y5o, y8L (by simpa using h)]
  ·rw [y5n e]
theorem atS_get (c : Cf) (mp : List (Ex × Pt)) (k : Ex) : yp (atS c mp k) k default = y34 c mp k := by
 rw [← y9j c mp k]; exact y9i (y9W c mp k)
def upd (pf : Ex → Pt) (k : Ex) (p : Pt) : Ex → Pt := fun k' => if k' = k then p else pf k'
theorem y9X (c : Cf) (mp : List (Ex × Pt)) (k : Ex) (p : Pt) : y34 c (yE mp k p) = upd (y34 c mp) k p := by
 funext k'
 unfold y34 upd
 by_cases e : k' = k
 ·subst e; rw [y5o, if_pos rfl]
 ·rw [y5n e, if_neg e]
theorem at_eq {c : Cf} {net : Int} (hs : Small c) {rs : List (List Hop)} {sent : List Snt} {mp : List (Ex × Pt)} {ag : List Ev} {come lost : List Cm} {h : Hop} (hv : HV c net h) :
  y3j c rs sent mp ag come lost h = some (atS c mp (yv h)) := by
 unfold y3j
 have hl := hv.1
 have hl2 := hv.2.1
 obtain ⟨⟨n1, n2⟩, n3, _⟩ := hv.node hs
 have hm := hs.m
 have hsw := hs.s
 have hN : nN c = nM c + c.fSwitches.length := rfl
 have hMM : nM c = c.fModules.length := rfl
 refine y1H (P := fun o => o = some (atS c mp (yv h))) fun k hk => ?_
 show (if (!y2b mp (yv h)) = true then _ else _) = _
 unfold atS
 cases hh : y2b mp (yv h) with
 | true => simp only [Bool.not_true, Bool.false_eq_true, if_false, if_true]; rw [hk]
 | false =>
  simp only [Bool.not_false, if_true, Bool.false_eq_true, if_false]
  refine y3y (P := fun o => o = some (yE mp (yv h) (y2D c (yv h)))) fun kk hkk => ?_
  have hnew : ∀ d st, 0 ≤ d → d ≤ 1000 → 0 ≤ st → st ≤ 1073741824 → kk d st = k (yE mp (yv h) (⟨⟨(nth c.fLinks h.fLink).fSlow, d, st⟩, 0, 0, []⟩ : Pt)) := by
   intro d st d1 d2 s1 s2
   rw [hkk, yn ⟨hl, hl2⟩]
   unfold y5e
   have := hv.2.2.2.1
   have := hv.2.2.2.2.1
   rw [if_neg (by simp only [Bool.or_eq_true, decide_eq_true_eq]; omega)]
   rfl
  rw [ym (by omega)]
  by_cases hg : nM c ≤ h.fNode
  ·rw [if_pos (by rw [decide_eq_true_eq]; omega), yn ⟨by omega, by omega⟩]
   have hf : y53 c net h.fNode := ⟨n1, n2⟩
   rcases n2 with n2 | ⟨_, a, b, d, e⟩
   ·omega
   ·have := hnew _ _ a b d e
    unfold sw nM at this
    rw [this, hk]
    have hfr : y2D c (yv h) = ⟨⟨(nth c.fLinks h.fLink).fSlow, (sw c h.fNode).fDelay, (sw c h.fNode).fStore⟩, 0, 0, []⟩ := by
     unfold y2D yv; simp only [if_pos hg]
    rw [hfr]; rfl
  ·rw [if_neg (by rw [decide_eq_true_eq]; omega), hnew 0 1073741824 (by omega) (by omega) (by omega) (by omega), hk]
   have hfr : y2D c (yv h) = ⟨⟨(nth c.fLinks h.fLink).fSlow, 0, 1073741824⟩, 0, 0, []⟩ := by
    unfold y2D yv; simp only [if_neg hg]
   rw [hfr]
/-! ### reach -/
def news (rs : List (List Hop)) (sent : List Snt) (node t i s : Int) : List Ev := ((nth rs (nth sent s).fVL).filter fun h => decide (h.fNode = node)).map fun h => ⟨t, i, (nth sent s).fVL, s, h⟩
theorem y6F {rs : List (List Hop)} {sent : List Snt} {s node t i : Int} {k : List Ev → Option (List Ev)} (hr : (nth rs (nth sent s).fVL).length ≤ 1000) :
  ∀ (n : Nat) (v : Int) (ag : List Ev), 0 ≤ v → v ≤ (nth rs (nth sent s).fVL).length → (nth rs (nth sent s).fVL).length < n + v → HP ag ag.length → (ag.length : Int) + 1000 < 100000000 + v →
  ∃ ag', y1G rs sent s node t i k n v ag = k ag' ∧ ag'.Perm ((((nth rs (nth sent s).fVL).drop v.toNat).filter fun h => decide (h.fNode = node)).map (fun h => (⟨t, i, (nth sent s).fVL, s, h⟩ : Ev)) ++ ag) ∧ HP ag' ag'.length
 | 0, v, ag, h0, h1, h2, h3, h4 => by omega
 | n + 1, v, ag, h0, h1, h2, h3, h4 => by
  rw [y1G]
  by_cases h : v < (nth rs (nth sent s).fVL).length
  ·rw [if_pos (decide_eq_true h)]
   have hd := y3n (l := nth rs (nth sent s).fVL) (v := v) h0 h
   have e1 : (v + 1).toNat = v.toNat + 1 := by omega
   rw [hd, List.filter_cons]
   refine y1H (P := fun o => ∃ ag', o = k ag' ∧ ag'.Perm _ ∧ HP ag' ag'.length) fun kk hkk => ?_
   rw [yn ⟨h0, h⟩]
   by_cases hn : (nth (nth rs (nth sent s).fVL) v).fNode = node
   ·rw [if_pos (decide_eq_true hn)]
    obtain ⟨a1, p1, p2, p3⟩ := push_eq (l := ag) (x := (⟨t, i, (nth sent s).fVL, s, nth (nth rs (nth sent s).fVL) v⟩ : Ev)) (by omega) h3
    show ∃ ag', ((y22 ag (⟨t, i, (nth sent s).fVL, s, nth (nth rs (nth sent s).fVL) v⟩ : Ev)).bind fun x => kk x) = k ag' ∧ _
    rw [p1]
    simp only [Option.bind_some]
    rw [hkk, ym (x := v + 1) (by omega)]
    have hlen := p2.length_eq
    obtain ⟨a2, q1, q2, q3⟩ := y6F (t := t) (i := i) (node := node) (k := k) hr n (v + 1) a1 (by omega) (by omega) (by omega) p3 (by rw [hlen, List.length_cons]; omega)
    refine ⟨a2, q1, q2.trans ?_, q3⟩
    rw [e1, if_pos (decide_eq_true hn), List.map_cons, List.cons_append]
    exact (List.Perm.append_left _ p2).trans List.perm_middle
   ·rw [if_neg (by simpa using hn), hkk, ym (x := v + 1) (by omega)]
    obtain ⟨a2, q1, q2, q3⟩ := y6F (t := t) (i := i) (node := node) (k := k) hr n (v + 1) ag (by omega) (by omega) (by omega) h3 (by omega)
    refine ⟨a2, q1, ?_, q3⟩
    rw [if_neg (by simpa using hn), ← e1]; exact q2
  ·rw [if_neg (by simpa using h), List.drop_eq_nil_of_le (by omega)]
   exact ⟨ag, rfl, .refl _, h3⟩
theorem y9k {c : Cf} {rs : List (List Hop)} {sent : List Snt} {mp : List (Ex × Pt)} {ag : List Ev} {come lost : List Cm} {node t i s : Int} (hs : 0 ≤ s ∧ s < sent.length) (hv : 0 ≤ (nth sent s).fVL ∧ (nth sent s).fVL < rs.length)
  (hr : (nth rs (nth sent s).fVL).length ≤ 1000) (h3 : HP ag ag.length) (h4 : (ag.length : Int) < 90000000) :
  ∃ ag', y2l c rs sent mp ag come lost node t i s = some ag' ∧ ag'.Perm (news rs sent node t i s ++ ag) ∧ HP ag' ag'.length := by
 unfold y2l
 rw [yn hs, yn hv]
 have hF := y1d
 generalize ys = N at hF ⊢
 refine y1H (P := fun o => ∃ ag', o = some ag' ∧ ag'.Perm (news rs sent node t i s ++ ag) ∧ HP ag' ag'.length) fun k hk => ?_
 obtain ⟨a2, q1, q2, q3⟩ := y6F (s := s) (t := t) (i := i) (node := node) (k := k) hr N 0 ag (by omega) (by omega) (by omega) h3 (by omega)
 exact ⟨a2, q1.trans (hk _), by simpa [news] using q2, q3⟩
/-! ### a step -/
structure St where
 ag : List Ev
 come : List Cm
 lost : List Cm
 pf : Ex → Pt
def y1a (c : Cf) (rs : List (List Hop)) (sent : List Snt) (e : Ev) (rest : List Ev) (S : St) : St :=
 if (y1I (S.pf (yv e.fHop)) e.fTime (nth sent e.fSent).fSize).2.1 ≠ 0 then
  ⟨rest, S.come, S.lost ++ [⟨e.fSent, e.fHop.fNode, e.fTime⟩], upd S.pf (yv e.fHop) (y1I (S.pf (yv e.fHop)) e.fTime (nth sent e.fSent).fSize).2.2⟩
 else ⟨news rs sent e.fHop.fNext (y1I (S.pf (yv e.fHop)) e.fTime (nth sent e.fSent).fSize).1 e.fHop.fLink e.fSent ++ rest,
  if e.fHop.fNext < nM c then S.come ++ [⟨e.fSent, e.fHop.fNext, (y1I (S.pf (yv e.fHop)) e.fTime (nth sent e.fSent).fSize).1⟩] else S.come, S.lost, upd S.pf (yv e.fHop) (y1I (S.pf (yv e.fHop)) e.fTime (nth sent e.fSent).fSize).2.2⟩
structure EC (c : Cf) (net : Int) (rs : List (List Hop)) (sent : List Snt) (e : Ev) : Prop where
 hop : HV c net e.fHop
 s : 0 ≤ e.fSent ∧ e.fSent < sent.length
 v : 0 ≤ (nth sent e.fSent).fVL ∧ (nth sent e.fSent).fVL < rs.length
theorem step_eq {c : Cf} {net : Int} (hs : Small c) {rs : List (List Hop)} {sent : List Snt} {mp : List (Ex × Pt)} {ag : List Ev} {come lost : List Cm}
  (h0 : ag ≠ []) (hp : HP ag ag.length) (ha : (ag.length : Int) < 80000000) (hc : come.length < 80000000) (hl : lost.length < 80000000)
  (he : ∀ e ∈ ag, EC c net rs sent e) (hP : ∀ e ∈ ag, PI (y34 c mp (yv e.fHop))) (hr : ∀ r ∈ rs, r.length ≤ 1000) :
  ∃ e rest ag' mp', (e :: rest).Perm ag ∧ (∀ x ∈ ag, kle e x) ∧ y2T c rs sent mp ag come lost = some (ag', (y1a c rs sent e rest ⟨ag, come, lost, y34 c mp⟩).come, (y1a c rs sent e rest ⟨ag, come, lost, y34 c mp⟩).lost, mp') ∧
   ag'.Perm (y1a c rs sent e rest ⟨ag, come, lost, y34 c mp⟩).ag ∧ HP ag' ag'.length ∧ y34 c mp' = (y1a c rs sent e rest ⟨ag, come, lost, y34 c mp⟩).pf := by
 obtain ⟨e, rest, p1, p2, p3, p4⟩ := pop_eq h0 (by omega) hp
 have hem : e ∈ ag := p2.mem_iff.1 (by simp)
 have hE := he e hem
 have hlen := p2.length_eq
 rw [List.length_cons] at hlen
 refine ⟨e, rest, ?_⟩
 unfold y2T
 rw [p1]
 simp only [Option.bind_some]
 rw [at_eq hs hE.hop]
 simp only [Option.bind_some]
 rw [yn hE.s, yn (show y2b (atS c mp (yv e.fHop)) (⟨e.fHop.fNode, e.fHop.fLink⟩ : Ex) = true from y9W _ _ _)]
 have hput : y2B (yp (atS c mp (yv e.fHop)) (yv e.fHop) default) e.fTime (nth sent e.fSent).fSize = some (y1I (y34 c mp (yv e.fHop)) e.fTime (nth sent e.fSent).fSize) := by
  rw [atS_get]; exact put_eq (hP e hem)
 show ∃ ag' mp', _ ∧ _ ∧ ((y2B (yp (atS c mp (yv e.fHop)) (yv e.fHop) default) e.fTime (nth sent e.fSent).fSize).bind _) = _ ∧ _
 rw [hput]
 simp only [Option.bind_some]
 unfold y1a
 simp only
 generalize y1I (y34 c mp (yv e.fHop)) e.fTime (nth sent e.fSent).fSize = R
 by_cases hR : R.2.1 ≠ 0
 ·rw [if_pos (decide_eq_true hR), if_pos hR, yn (by simp; omega)]
  refine ⟨rest, _, p2, p4, rfl, .refl _, p3, ?_⟩
  show y34 c (yE (atS c mp (yv e.fHop)) (yv e.fHop) R.2.2) = _
  rw [y9X, y9j]
 ·rw [if_neg (by simpa using hR), if_neg hR]
  have hrr : (nth rs (nth sent e.fSent).fVL).length ≤ 1000 := hr _ (y48 hE.v.1 hE.v.2)
  obtain ⟨a1, q1, q2, q3⟩ := y9k (c := c) (mp := yE (atS c mp (yv e.fHop)) (yv e.fHop) R.2.2) (ag := rest) (come := if e.fHop.fNext < nM c then come ++ [⟨e.fSent, e.fHop.fNext, R.1⟩] else come) (lost := lost) (node := e.fHop.fNext) (t := R.1) (i := e.fHop.fLink) hE.s hE.v hrr p3 (by omega)
  refine ⟨a1, yE (atS c mp (yv e.fHop)) (yv e.fHop) R.2.2, p2, p4, ?_, q2, q3, ?_⟩
  ·refine y1H (P := fun o => o = _) fun k hk => ?_
   unfold nM at q1 ⊢
   by_cases hn : e.fHop.fNext < c.fModules.length
   ·rw [if_pos (decide_eq_true hn), yn (by simp; omega), hk]
    rw [if_pos hn] at q1 ⊢
    rw [show (⟨e.fHop.fNode, e.fHop.fLink⟩ : Ex) = yv e.fHop from rfl, q1]; rfl
   ·rw [if_neg (by simpa using hn), hk]
    rw [if_neg hn] at q1 ⊢
    rw [show (⟨e.fHop.fNode, e.fHop.fLink⟩ : Ex) = yv e.fHop from rfl, q1]; rfl
  ·rw [y9X, y9j]
end Go.Proofs.Ytinchjigeakocaa

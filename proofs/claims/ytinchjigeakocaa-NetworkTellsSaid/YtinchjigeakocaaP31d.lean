/- A part of this claim's proof: models of functions, walks, plain laws. No conditions. -/
import Derived.Test.YtinchjigeakocaaP31c
namespace Go.Proofs.Ytinchjigeakocaa
open Go Go.RowKit Sep
set_option linter.all false
abbrev Ex := Snetwork_exit
def yK (h : Hop) : Ex := ⟨h.fNode, h.fLink⟩
def y1l (c : Cf) (k : Ex) : Pt := ⟨⟨(nth c.fLinks k.fLink).fSlow, if nM c ≤ k.fNode then (sw c k.fNode).fDelay else 0, if nM c ≤ k.fNode then (sw c k.fNode).fStore else 1073741824⟩, 0, 0, []⟩
def y3t (c : Cf) (mp : List (Ex × Pt)) : Ex → Pt := fun k => yE mp k (y1l c k)
def HV (c : Cf) (net : Int) (h : Hop) : Prop := JN c net h.fLink h.fNode h.fNext
theorem HV.node {c : Cf} {net : Int} {h : Hop} (hs : Small c) (hv : HV c net h) : y4N c net h.fNode ∧ h.fNode < nN c ∧ y4N c net h.fNext ∧ h.fNext < nN c := by
 obtain ⟨_, _, _, _, _, _, h7, h8, h9⟩ := hv
 have ha := fA_eq hs h.fLink
 have hb := fB_eq hs h.fLink
 rcases h9 with ⟨e1, e2⟩ | ⟨e1, e2⟩
 ·rw [e1] at h7 ha; rw [e2] at h8 hb; exact ⟨h7, ha.2.2, h8, hb.2.2⟩
 ·rw [e1] at h7 ha; rw [e2] at h8 hb; exact ⟨h8, hb.2.2, h7, ha.2.2⟩
theorem fresh_PI {c : Cf} {net : Int} {h : Hop} (hs : Small c) (hv : HV c net h) : PI (y1l c (yK h)) := by
 obtain ⟨⟨n1, n2⟩, n3, _⟩ := hv.node hs
 have hsl : 1 ≤ (nth c.fLinks h.fLink).fSlow ∧ (nth c.fLinks h.fLink).fSlow ≤ 16 := ⟨hv.2.2.2.1, hv.2.2.2.2.1⟩
 refine ⟨hsl, ?_, ?_, Int.le_refl _, ⟨Int.le_refl _, by show (0 : Int) ≤ _; omega⟩, fun x hx => by simp [y1l] at hx, by simp [y1l]⟩
 ·show 0 ≤ (if nM c ≤ h.fNode then (sw c h.fNode).fDelay else 0) ∧ (if nM c ≤ h.fNode then (sw c h.fNode).fDelay else 0) ≤ 1000
  split
  ·rcases n2 with n2 | ⟨_, a, b, _⟩
   ·omega
   ·exact ⟨a, b⟩
  ·omega
 ·show 0 ≤ (if nM c ≤ h.fNode then (sw c h.fNode).fStore else 1073741824) ∧ (if nM c ≤ h.fNode then (sw c h.fNode).fStore else 1073741824) ≤ 1073741824
  split
  ·rcases n2 with n2 | ⟨_, _, _, a, b⟩
   ·omega
   ·exact ⟨a, b⟩
  ·omega
def atS (c : Cf) (mp : List (Ex × Pt)) (k : Ex) : List (Ex × Pt) := if y2t mp k = true then mp else y1b mp k (y1l c k)
theorem y9i {κ γ : Type} [DecidableEq κ] {k : κ} {u : γ} : ∀ (l : List (κ × γ)), y2t (y1b l k u) k = true
 | [] => by simp [y1b, y2t]
 | p :: l => by
  by_cases hk : k = p.1
  ·subst hk; simp [y1b, y2t]
  ·simp only [y1b, hk, if_false, y2t]; exact y9i l
theorem y9U {κ γ : Type} [DecidableEq κ] {k : κ} {d d' : γ} : ∀ {l : List (κ × γ)}, y2t l k = true → yE l k d = yE l k d'
 | [], h => by simp [y2t] at h
 | p :: l, h => by
  unfold y2t at h
  unfold yE
  by_cases hk : k = p.1
  ·simp [hk]
  ·simp only [hk, if_false] at h ⊢; exact y9U h
theorem y9j {κ γ : Type} [DecidableEq κ] {k : κ} {d : γ} : ∀ {l : List (κ × γ)}, y2t l k = false → yE l k d = d
 | [], h => rfl
 | p :: l, h => by
  unfold y2t at h
  unfold yE
  by_cases hk : k = p.1
  ·simp [hk] at h
  ·simp only [hk, if_false] at h ⊢; exact y9j h
theorem yaF (c : Cf) (mp : List (Ex × Pt)) (k : Ex) : y2t (atS c mp k) k = true := by
 unfold atS
 split
 ·assumption
 ·exact y9i _
theorem y9V (c : Cf) (mp : List (Ex × Pt)) (k : Ex) : y3t c (atS c mp k) = y3t c mp := by
 unfold atS
 split
 ·rfl
 ·rename_i h
  funext k'
  unfold y3t
  by_cases e : k' = k
  ·subst e; rw [y6S, y9j (by simpa using h)]
  ·rw [y6R e]
theorem atS_get (c : Cf) (mp : List (Ex × Pt)) (k : Ex) : yE (atS c mp k) k default = y3t c mp k := by
 rw [← y9V c mp k]; exact y9U (yaF c mp k)
def upd (pf : Ex → Pt) (k : Ex) (p : Pt) : Ex → Pt := fun k' => if k' = k then p else pf k'
theorem yaG (c : Cf) (mp : List (Ex × Pt)) (k : Ex) (p : Pt) : y3t c (y1b mp k p) = upd (y3t c mp) k p := by
 funext k'
 unfold y3t upd
 by_cases e : k' = k
 ·subst e; rw [y6S, if_pos rfl]
 ·rw [y6R e, if_neg e]
theorem at_eq {c : Cf} {net : Int} (hs : Small c) {rs : List (List Hop)} {sent : List Snt} {mp : List (Ex × Pt)} {ag : List Ev} {come lost : List Cm} {h : Hop} (hv : HV c net h) :
  y3K c rs sent mp ag come lost h = some (atS c mp (yK h)) := by
 unfold y3K
 have hl := hv.1
 have hl2 := hv.2.1
 obtain ⟨⟨n1, n2⟩, n3, _⟩ := hv.node hs
 have hm := hs.m
 have hsw := hs.s
 have hN : nN c = nM c + c.fSwitches.length := rfl
 have hMM : nM c = c.fModules.length := rfl
 refine y1h (P := fun o => o = some (atS c mp (yK h))) fun k hk => ?_
 show (if (!y2t mp (yK h)) = true then _ else _) = _
 unfold atS
 cases hh : y2t mp (yK h) with
 | true => simp only [Bool.not_true, Bool.false_eq_true, if_false, if_true]; rw [hk]
 | false =>
  simp only [Bool.not_false, if_true, Bool.false_eq_true, if_false]
  refine y44 (P := fun o => o = some (y1b mp (yK h) (y1l c (yK h)))) fun kk hkk => ?_
  have hnew : ∀ d st, 0 ≤ d → d ≤ 1000 → 0 ≤ st → st ≤ 1073741824 → kk d st = k (y1b mp (yK h) (⟨⟨(nth c.fLinks h.fLink).fSlow, d, st⟩, 0, 0, []⟩ : Pt)) := by
   intro d st d1 d2 s1 s2
   rw [hkk, yf ⟨hl, hl2⟩]
   unfold y5H
   have := hv.2.2.2.1
   have := hv.2.2.2.2.1
   rw [if_neg (by simp only [Bool.or_eq_true, decide_eq_true_eq]; omega)]
   rfl
  rw [yo (by omega)]
  by_cases hg : nM c ≤ h.fNode
  ·rw [if_pos (by rw [decide_eq_true_eq]; omega), yf ⟨by omega, by omega⟩]
   have hf : y4N c net h.fNode := ⟨n1, n2⟩
   rcases n2 with n2 | ⟨_, a, b, d, e⟩
   ·omega
   ·have := hnew _ _ a b d e
    unfold sw nM at this
    rw [this, hk]
    have hfr : y1l c (yK h) = ⟨⟨(nth c.fLinks h.fLink).fSlow, (sw c h.fNode).fDelay, (sw c h.fNode).fStore⟩, 0, 0, []⟩ := by
     unfold y1l yK; simp only [if_pos hg]
    rw [hfr]; rfl
  ·rw [if_neg (by rw [decide_eq_true_eq]; omega), hnew 0 1073741824 (by omega) (by omega) (by omega) (by omega), hk]
   have hfr : y1l c (yK h) = ⟨⟨(nth c.fLinks h.fLink).fSlow, 0, 1073741824⟩, 0, 0, []⟩ := by
    unfold y1l yK; simp only [if_neg hg]
   rw [hfr]
/-! ### reach -/
def news (rs : List (List Hop)) (sent : List Snt) (node t i s : Int) : List Ev := ((nth rs (nth sent s).fVL).filter fun h => decide (h.fNode = node)).map fun h => ⟨t, i, (nth sent s).fVL, s, h⟩
theorem y7d {rs : List (List Hop)} {sent : List Snt} {s node t i : Int} {k : List Ev → Option (List Ev)} (hr : (nth rs (nth sent s).fVL).length ≤ 1000) :
  ∀ (n : Nat) (v : Int) (ag : List Ev), 0 ≤ v → v ≤ (nth rs (nth sent s).fVL).length → (nth rs (nth sent s).fVL).length < n + v → HP ag ag.length → (ag.length : Int) + 1000 < 100000000 + v →
  ∃ ag', y1T rs sent s node t i k n v ag = k ag' ∧ ag'.Perm ((((nth rs (nth sent s).fVL).drop v.toNat).filter fun h => decide (h.fNode = node)).map (fun h => (⟨t, i, (nth sent s).fVL, s, h⟩ : Ev)) ++ ag) ∧ HP ag' ag'.length
 | 0, v, ag, h0, h1, h2, h3, h4 => by omega
 | n + 1, v, ag, h0, h1, h2, h3, h4 => by
  rw [y1T]
  by_cases h : v < (nth rs (nth sent s).fVL).length
  ·rw [if_pos (decide_eq_true h)]
   have hd := y39 (l := nth rs (nth sent s).fVL) (v := v) h0 h
   have e1 : (v + 1).toNat = v.toNat + 1 := by omega
   rw [hd, List.filter_cons]
   refine y1h (P := fun o => ∃ ag', o = k ag' ∧ ag'.Perm _ ∧ HP ag' ag'.length) fun kk hkk => ?_
   rw [yf ⟨h0, h⟩]
   by_cases hn : (nth (nth rs (nth sent s).fVL) v).fNode = node
   ·rw [if_pos (decide_eq_true hn)]
    obtain ⟨a1, p1, p2, p3⟩ := push_eq (l := ag) (x := (⟨t, i, (nth sent s).fVL, s, nth (nth rs (nth sent s).fVL) v⟩ : Ev)) (by omega) h3
    show ∃ ag', ((y2b ag (⟨t, i, (nth sent s).fVL, s, nth (nth rs (nth sent s).fVL) v⟩ : Ev)).bind fun x => kk x) = k ag' ∧ _
    rw [p1]
    simp only [Option.bind_some]
    rw [hkk, yo (x := v + 1) (by omega)]
    have hlen := p2.length_eq
    obtain ⟨a2, q1, q2, q3⟩ := y7d (t := t) (i := i) (node := node) (k := k) hr n (v + 1) a1 (by omega) (by omega) (by omega) p3 (by rw [hlen, List.length_cons]; omega)
    refine ⟨a2, q1, q2.trans ?_, q3⟩
    rw [e1, if_pos (decide_eq_true hn), List.map_cons, List.cons_append]
    exact (List.Perm.append_left _ p2).trans List.perm_middle
   ·rw [if_neg (by simpa using hn), hkk, yo (x := v + 1) (by omega)]
    obtain ⟨a2, q1, q2, q3⟩ := y7d (t := t) (i := i) (node := node) (k := k) hr n (v + 1) ag (by omega) (by omega) (by omega) h3 (by omega)
    refine ⟨a2, q1, ?_, q3⟩
    rw [if_neg (by simpa using hn), ← e1]; exact q2
  ·rw [if_neg (by simpa using h), List.drop_eq_nil_of_le (by omega)]
   exact ⟨ag, rfl, .refl _, h3⟩
theorem y9W {c : Cf} {rs : List (List Hop)} {sent : List Snt} {mp : List (Ex × Pt)} {ag : List Ev} {come lost : List Cm} {node t i s : Int} (hs : 0 ≤ s ∧ s < sent.length) (hv : 0 ≤ (nth sent s).fVL ∧ (nth sent s).fVL < rs.length)
  (hr : (nth rs (nth sent s).fVL).length ≤ 1000) (h3 : HP ag ag.length) (h4 : (ag.length : Int) < 90000000) :
  ∃ ag', y2z c rs sent mp ag come lost node t i s = some ag' ∧ ag'.Perm (news rs sent node t i s ++ ag) ∧ HP ag' ag'.length := by
 unfold y2z
 rw [yf hs, yf hv]
 have hF := y1k
 generalize yw = N at hF ⊢
 refine y1h (P := fun o => ∃ ag', o = some ag' ∧ ag'.Perm (news rs sent node t i s ++ ag) ∧ HP ag' ag'.length) fun k hk => ?_
 obtain ⟨a2, q1, q2, q3⟩ := y7d (s := s) (t := t) (i := i) (node := node) (k := k) hr N 0 ag (by omega) (by omega) (by omega) h3 (by omega)
 exact ⟨a2, q1.trans (hk _), by simpa [news] using q2, q3⟩
/-! ### a step -/
structure St where
 ag : List Ev
 come : List Cm
 lost : List Cm
 pf : Ex → Pt
def y1r (c : Cf) (rs : List (List Hop)) (sent : List Snt) (e : Ev) (rest : List Ev) (S : St) : St :=
 if (y1S (S.pf (yK e.fHop)) e.fTime (nth sent e.fSent).fSize).2.1 ≠ 0 then
  ⟨rest, S.come, S.lost ++ [⟨e.fSent, e.fHop.fNode, e.fTime⟩], upd S.pf (yK e.fHop) (y1S (S.pf (yK e.fHop)) e.fTime (nth sent e.fSent).fSize).2.2⟩
 else ⟨news rs sent e.fHop.fNext (y1S (S.pf (yK e.fHop)) e.fTime (nth sent e.fSent).fSize).1 e.fHop.fLink e.fSent ++ rest,
  if e.fHop.fNext < nM c then S.come ++ [⟨e.fSent, e.fHop.fNext, (y1S (S.pf (yK e.fHop)) e.fTime (nth sent e.fSent).fSize).1⟩] else S.come, S.lost, upd S.pf (yK e.fHop) (y1S (S.pf (yK e.fHop)) e.fTime (nth sent e.fSent).fSize).2.2⟩
structure EC (c : Cf) (net : Int) (rs : List (List Hop)) (sent : List Snt) (e : Ev) : Prop where
 hop : HV c net e.fHop
 s : 0 ≤ e.fSent ∧ e.fSent < sent.length
 v : 0 ≤ (nth sent e.fSent).fVL ∧ (nth sent e.fSent).fVL < rs.length
theorem step_eq {c : Cf} {net : Int} (hs : Small c) {rs : List (List Hop)} {sent : List Snt} {mp : List (Ex × Pt)} {ag : List Ev} {come lost : List Cm}
  (h0 : ag ≠ []) (hp : HP ag ag.length) (ha : (ag.length : Int) < 80000000) (hc : come.length < 80000000) (hl : lost.length < 80000000)
  (he : ∀ e ∈ ag, EC c net rs sent e) (hP : ∀ e ∈ ag, PI (y3t c mp (yK e.fHop))) (hr : ∀ r ∈ rs, r.length ≤ 1000) :
  ∃ e rest ag' mp', (e :: rest).Perm ag ∧ (∀ x ∈ ag, kle e x) ∧ y3d c rs sent mp ag come lost = some (ag', (y1r c rs sent e rest ⟨ag, come, lost, y3t c mp⟩).come, (y1r c rs sent e rest ⟨ag, come, lost, y3t c mp⟩).lost, mp') ∧
   ag'.Perm (y1r c rs sent e rest ⟨ag, come, lost, y3t c mp⟩).ag ∧ HP ag' ag'.length ∧ y3t c mp' = (y1r c rs sent e rest ⟨ag, come, lost, y3t c mp⟩).pf := by
 obtain ⟨e, rest, p1, p2, p3, p4⟩ := pop_eq h0 (by omega) hp
 have hem : e ∈ ag := p2.mem_iff.1 (by simp)
 have hE := he e hem
 have hlen := p2.length_eq
 rw [List.length_cons] at hlen
 refine ⟨e, rest, ?_⟩
 unfold y3d
 rw [p1]
 simp only [Option.bind_some]
 rw [at_eq hs hE.hop]
 simp only [Option.bind_some]
 rw [yf hE.s, yf (show y2t (atS c mp (yK e.fHop)) (⟨e.fHop.fNode, e.fHop.fLink⟩ : Ex) = true from yaF _ _ _)]
 have hput : y2W (yE (atS c mp (yK e.fHop)) (yK e.fHop) default) e.fTime (nth sent e.fSent).fSize = some (y1S (y3t c mp (yK e.fHop)) e.fTime (nth sent e.fSent).fSize) := by
  rw [atS_get]; exact put_eq (hP e hem)
 show ∃ ag' mp', _ ∧ _ ∧ ((y2W (yE (atS c mp (yK e.fHop)) (yK e.fHop) default) e.fTime (nth sent e.fSent).fSize).bind _) = _ ∧ _
 rw [hput]
 simp only [Option.bind_some]
 unfold y1r
 simp only
 generalize y1S (y3t c mp (yK e.fHop)) e.fTime (nth sent e.fSent).fSize = R
 by_cases hR : R.2.1 ≠ 0
 ·rw [if_pos (decide_eq_true hR), if_pos hR, yf (by simp; omega)]
  refine ⟨rest, _, p2, p4, rfl, .refl _, p3, ?_⟩
  show y3t c (y1b (atS c mp (yK e.fHop)) (yK e.fHop) R.2.2) = _
  rw [yaG, y9V]
 ·rw [if_neg (by simpa using hR), if_neg hR]
  have hrr : (nth rs (nth sent e.fSent).fVL).length ≤ 1000 := hr _ (y4V hE.v.1 hE.v.2)
  obtain ⟨a1, q1, q2, q3⟩ := y9W (c := c) (mp := y1b (atS c mp (yK e.fHop)) (yK e.fHop) R.2.2) (ag := rest) (come := if e.fHop.fNext < nM c then come ++ [⟨e.fSent, e.fHop.fNext, R.1⟩] else come) (lost := lost) (node := e.fHop.fNext) (t := R.1) (i := e.fHop.fLink) hE.s hE.v hrr p3 (by omega)
  refine ⟨a1, y1b (atS c mp (yK e.fHop)) (yK e.fHop) R.2.2, p2, p4, ?_, q2, q3, ?_⟩
  ·refine y1h (P := fun o => o = _) fun k hk => ?_
   unfold nM at q1 ⊢
   by_cases hn : e.fHop.fNext < c.fModules.length
   ·rw [if_pos (decide_eq_true hn), yf (by simp; omega), hk]
    rw [if_pos hn] at q1 ⊢
    rw [show (⟨e.fHop.fNode, e.fHop.fLink⟩ : Ex) = yK e.fHop from rfl, q1]; rfl
   ·rw [if_neg (by simpa using hn), hk]
    rw [if_neg hn] at q1 ⊢
    rw [show (⟨e.fHop.fNode, e.fHop.fLink⟩ : Ex) = yK e.fHop from rfl, q1]; rfl
  ·rw [yaG, y9V]
end Go.Proofs.Ytinchjigeakocaa

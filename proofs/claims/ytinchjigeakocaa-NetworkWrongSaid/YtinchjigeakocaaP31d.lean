/- A part of this claim's proof: models of functions, walks, plain laws. No conditions. -/
import Derived.Test.YtinchjigeakocaaP31c
namespace Go.Proofs.Ytinchjigeakocaa
open Go Go.RowKit Sep
set_option linter.all false
abbrev Ex := Snetwork_exit
def exOf (h : Hop) : Ex := ⟨h.fNode, h.fLink⟩
def freshP (c : Cf) (k : Ex) : Pt := ⟨⟨(nth c.fLinks k.fLink).fSlow, if nM c ≤ k.fNode then (sw c k.fNode).fDelay else 0, if nM c ≤ k.fNode then (sw c k.fNode).fStore else 1073741824⟩, 0, 0, []⟩
def HV (c : Cf) (net : Int) (h : Hop) : Prop := JN c net h.fLink h.fNode h.fNext
theorem HV.node {c : Cf} {net : Int} {h : Hop} (hs : Small c) (hv : HV c net h) : y4H c net h.fNode ∧ h.fNode < nN c ∧ y4H c net h.fNext ∧ h.fNext < nN c := by
 obtain ⟨_, _, _, _, _, _, h7, h8, h9⟩ := hv
 have ha := fA_eq hs h.fLink
 have hb := fB_eq hs h.fLink
 rcases h9 with ⟨e1, e2⟩ | ⟨e1, e2⟩
 ·rw [e1] at h7 ha; rw [e2] at h8 hb; exact ⟨h7, ha.2.2, h8, hb.2.2⟩
 ·rw [e1] at h7 ha; rw [e2] at h8 hb; exact ⟨h8, hb.2.2, h7, ha.2.2⟩
def upd (pf : Ex → Pt) (k : Ex) (p : Pt) : Ex → Pt := fun k' => if k' = k then p else pf k'
/-! ### reach -/
def news (rs : List (List Hop)) (sent : List Snt) (node t i s : Int) : List Ev := ((nth rs (nth sent s).fVL).filter fun h => decide (h.fNode = node)).map fun h => ⟨t, i, (nth sent s).fVL, s, h⟩
/-! ### a step -/
structure St where
 ag : List Ev
 come : List Cm
 lost : List Cm
 pf : Ex → Pt
def stepF (c : Cf) (rs : List (List Hop)) (sent : List Snt) (e : Ev) (rest : List Ev) (S : St) : St :=
 if (putS (S.pf (exOf e.fHop)) e.fTime (nth sent e.fSent).fSize).2.1 ≠ 0 then
  ⟨rest, S.come, S.lost ++ [⟨e.fSent, e.fHop.fNode, e.fTime⟩], upd S.pf (exOf e.fHop) (putS (S.pf (exOf e.fHop)) e.fTime (nth sent e.fSent).fSize).2.2⟩
 else ⟨news rs sent e.fHop.fNext (putS (S.pf (exOf e.fHop)) e.fTime (nth sent e.fSent).fSize).1 e.fHop.fLink e.fSent ++ rest,
  if e.fHop.fNext < nM c then S.come ++ [⟨e.fSent, e.fHop.fNext, (putS (S.pf (exOf e.fHop)) e.fTime (nth sent e.fSent).fSize).1⟩] else S.come, S.lost, upd S.pf (exOf e.fHop) (putS (S.pf (exOf e.fHop)) e.fTime (nth sent e.fSent).fSize).2.2⟩
structure EC (c : Cf) (net : Int) (rs : List (List Hop)) (sent : List Snt) (e : Ev) : Prop where
 hop : HV c net e.fHop
 s : 0 ≤ e.fSent ∧ e.fSent < sent.length
 v : 0 ≤ (nth sent e.fSent).fVL ∧ (nth sent e.fSent).fVL < rs.length
end Go.Proofs.Ytinchjigeakocaa

/- A part of this claim's proof: models of functions, walks, plain laws. No conditions. -/
import Derived.Test.YtinchjigeakocaaP31h
namespace Go.Proofs.Ytinchjigeakocaa
open Go Go.RowKit Sep
set_option linter.all false
/-! ### the history of a run -/
structure Rc where
 ev : Ev
 out : Option Int
def Rc.id (r : Rc) : Id := y1m r.ev
def comeR (c : Cf) (r : Rc) : Option Cm := r.out.bind fun t => if r.ev.fHop.fNext < nM c then some ⟨r.ev.fSent, r.ev.fHop.fNext, t⟩ else none
def lostR (r : Rc) : Option Cm := if r.out = none then some ⟨r.ev.fSent, r.ev.fHop.fNode, r.ev.fTime⟩ else none
def root (rs : List (List Hop)) (sent : List Snt) (s : Int) : Int := (nth (route rs sent s) 0).fNode
def cost (c : Cf) (sent : List Snt) (s : Int) (h : Hop) : Int := (y1l c (yK h)).fNumbers.fDelay + (nth sent s).fSize * (y1l c (yK h)).fNumbers.fSlow
section
variable {c : Cf} {net : Int} {rs : List (List Hop)} {sent : List Snt}
structure JV (c : Cf) (net : Int) (rs : List (List Hop)) (sent : List Snt) (S : St) (H : List Rc) : Prop where
 iv : IV c net rs sent S (H.map Rc.id)
 come : S.come.Perm (H.filterMap (comeR c))
 lost : S.lost.Perm (H.filterMap lostR)
 ok : ∀ r ∈ H, EOK rs sent r.ev
 root : ∀ s h, (0 ≤ s ∧ s < (sent.length : Int)) → h ∈ route rs sent s → h.fNode = root rs sent s → (s, h) ∈ H.map Rc.id ++ S.ag.map y1m
 nxt : ∀ r ∈ H, ∀ t, r.out = some t → ∀ y ∈ route rs sent r.ev.fSent, y.fNode = r.ev.fHop.fNext → (r.ev.fSent, y) ∈ H.map Rc.id ++ S.ag.map y1m
 src : ∀ e, (e ∈ S.ag ∨ ∃ r ∈ H, r.ev = e) → (e.fHop.fNode = Go.Proofs.Ytinchjigeakocaa.root rs sent e.fSent ∧ e.fTime = (nth sent e.fSent).fTime ∧ e.fIn_ = -1) ∨ ∃ r ∈ H, r.ev.fSent = e.fSent ∧ r.ev.fHop.fNext = e.fHop.fNode ∧ r.out = some e.fTime
 out : ∀ r ∈ H, ∀ t, r.out = some t → r.ev.fTime + cost c sent r.ev.fSent r.ev.fHop ≤ t ∧ t ≤ (S.pf (yK r.ev.fHop)).fLast
 ord : H.Pairwise fun a b => kle b.ev a.ev ∧ (yK a.ev.fHop = yK b.ev.fHop → ∀ t u, a.out = some t → b.out = some u → u < t)
 late : ∀ e ∈ S.ag, ∀ r ∈ H, kle r.ev e
 frs : ∀ k, (S.pf k).fFrames.length ≤ (H.filter fun r => decide (yK r.ev.fHop = k)).length
theorem JV.eq {S T : St} {H : List Rc} (h : JV c net rs sent S H) (q : EQ S T) : JV c net rs sent T H := by
 have hm : ∀ x, x ∈ S.ag.map y1m ↔ x ∈ T.ag.map y1m := fun x => (q.ag.map y1m).mem_iff
 refine ⟨h.iv.eq q, q.come.symm.trans h.come, q.lost.symm.trans h.lost, h.ok, ?_, ?_, ?_, ?_, h.ord, fun e he => h.late e (q.ag.mem_iff.2 he), fun k => by rw [← q.pf]; exact h.frs k⟩
 ·intro s x h1 h2 h3
  have := h.root s x h1 h2 h3
  rw [List.mem_append] at this ⊢
  rwa [← hm]
 ·intro r hr t ht y h1 h2
  have := h.nxt r hr t ht y h1 h2
  rw [List.mem_append] at this ⊢
  rwa [← hm]
 ·intro e he
  exact h.src e (he.imp q.ag.mem_iff.2 fun a => a)
 ·rw [← q.pf]; exact h.out
end
end Go.Proofs.Ytinchjigeakocaa

/- A part of this claim's proof: models of functions, walks, plain laws. No conditions. -/
import Derived.Test.YtinchjigeakocaaP31h
namespace Go.Proofs.Ytinchjigeakocaa
open Go Go.RowKit Sep
set_option linter.all false
/-! ### the history of a run -/
structure Rc where
 ev : Ev
 out : Option Int
def Rc.id (r : Rc) : Id := y19 r.ev
def y89 (c : Cf) (r : Rc) : Option Cm := r.out.bind fun t => if r.ev.fHop.fNext < nM c then some ⟨r.ev.fSent, r.ev.fHop.fNext, t⟩ else none
def y7j (r : Rc) : Option Cm := if r.out = none then some ⟨r.ev.fSent, r.ev.fHop.fNode, r.ev.fTime⟩ else none
def root (rs : List (List Hop)) (sent : List Snt) (s : Int) : Int := (nth (route rs sent s) 0).fNode
def cost (c : Cf) (sent : List Snt) (s : Int) (h : Hop) : Int := (y2D c (yv h)).fNumbers.fDelay + (nth sent s).fSize * (y2D c (yv h)).fNumbers.fSlow
section
variable {c : Cf} {net : Int} {rs : List (List Hop)} {sent : List Snt}
structure JV (c : Cf) (net : Int) (rs : List (List Hop)) (sent : List Snt) (S : St) (H : List Rc) : Prop where
 iv : IV c net rs sent S (H.map Rc.id)
 come : S.come.Perm (H.filterMap (y89 c))
 lost : S.lost.Perm (H.filterMap y7j)
 ok : ∀ r ∈ H, EOK rs sent r.ev
 root : ∀ s h, (0 ≤ s ∧ s < (sent.length : Int)) → h ∈ route rs sent s → h.fNode = root rs sent s → (s, h) ∈ H.map Rc.id ++ S.ag.map y19
 nxt : ∀ r ∈ H, ∀ t, r.out = some t → ∀ y ∈ route rs sent r.ev.fSent, y.fNode = r.ev.fHop.fNext → (r.ev.fSent, y) ∈ H.map Rc.id ++ S.ag.map y19
 src : ∀ e, (e ∈ S.ag ∨ ∃ r ∈ H, r.ev = e) → (e.fHop.fNode = Go.Proofs.Ytinchjigeakocaa.root rs sent e.fSent ∧ e.fTime = (nth sent e.fSent).fTime ∧ e.fIn_ = -1) ∨ ∃ r ∈ H, r.ev.fSent = e.fSent ∧ r.ev.fHop.fNext = e.fHop.fNode ∧ r.out = some e.fTime
 out : ∀ r ∈ H, ∀ t, r.out = some t → r.ev.fTime + cost c sent r.ev.fSent r.ev.fHop ≤ t ∧ t ≤ (S.pf (yv r.ev.fHop)).fLast
 ord : H.Pairwise fun a b => kle b.ev a.ev ∧ (yv a.ev.fHop = yv b.ev.fHop → ∀ t u, a.out = some t → b.out = some u → u < t)
 late : ∀ e ∈ S.ag, ∀ r ∈ H, kle r.ev e
 frs : ∀ k, (S.pf k).fFrames.length ≤ (H.filter fun r => decide (yv r.ev.fHop = k)).length
theorem JV.eq {S T : St} {H : List Rc} (h : JV c net rs sent S H) (q : EQ S T) : JV c net rs sent T H := by
 have hm : ∀ x, x ∈ S.ag.map y19 ↔ x ∈ T.ag.map y19 := fun x => (q.ag.map y19).mem_iff
 refine ⟨h.iv.eq q, q.come.symm.trans h.come, q.lost.symm.trans h.lost, h.ok, ?_, ?_, ?_, ?_, h.ord, fun e he => h.late e (q.ag.mem_iff.2 he), fun k => by rw [← q.pf]; exact h.frs k⟩
 ·intro s x h1 h2 h3
  have := h.root s x h1 h2 h3
  rw [List.mem_append] at this ⊢
  rwa [← hm]
 ·intro r hr t ht y h1 h2
  have := h.nxt r hr t ht y h1 h2
  rw [List.mem_append] at this ⊢
  rwa [← hm]
 ·intro e he
  exact h.src e (he.imp q.ag.mem_iff.2 fun a => a)
 ·rw [← q.pf]; exact h.out
theorem init_jv (g : Sg c net rs sent) : JV c net rs sent (init c rs sent) [] := by
 refine ⟨y5p g, .refl _, .refl _, by simp, ?_, by simp, ?_, by simp, .nil, by simp, by simp [init, y2D]⟩
 ·intro s h h1 h2 h3
  rw [List.map_nil, List.nil_append]
  refine List.mem_map.2 ⟨⟨(nth sent s).fTime, -1, (nth sent s).fVL, s, h⟩, y8r.2 ⟨s.toNat, by omega, h, ?_, ?_, ?_⟩, rfl⟩
  all_goals rw [Int.toNat_of_nonneg h1.1]
  ·exact h2
  ·exact h3
 ·intro e he
  rcases he with he | ⟨r, hr, _⟩
  ·obtain ⟨i, hi, h, h1, h2, rfl⟩ := y8r.1 he
   exact .inl ⟨h2, rfl, rfl⟩
  ·simp at hr
theorem y9C {p : Pt} {t size : Int} : (y1I p t size).2.2.fFrames.length ≤ p.fFrames.length + 1 := by
 unfold y1I
 have := y5D (t := t) (l := p.fFrames)
 split
 ·show p.fFrames.length ≤ _; omega
 ·split <;> simp <;> omega
theorem step_jv (g : Sg c net rs sent) {S : St} {H : List Rc} (h : JV c net rs sent S H) {e : Ev} {rest : List Ev} (hp : (e :: rest).Perm S.ag) (hmin : ∀ x ∈ S.ag, kle e x) :
  ∃ o, JV c net rs sent (y1a c rs sent e rest S) (⟨e, o⟩ :: H) := by
 have hem : e ∈ S.ag := hp.mem_iff.1 (by simp)
 have hrm : ∀ x ∈ rest, x ∈ S.ag := fun x hx => hp.mem_iff.1 (List.mem_cons_of_mem _ hx)
 have hid : ∀ x ∈ S.ag.map y19, x = y19 e ∨ x ∈ rest.map y19 := by
  intro x hx
  obtain ⟨y, hy, rfl⟩ := List.mem_map.1 hx
  rcases List.mem_cons.1 (hp.mem_iff.2 hy) with rfl | hy
  ·exact .inl rfl
  ·exact .inr (List.mem_map.2 ⟨y, hy, rfl⟩)
 have he := h.iv.ev e hem
 have hlen := h.iv.len g
 have ht := h.iv.tm e hem
 have hpl := hp.length_eq
 rw [List.length_cons] at hpl
 have hk : UK rs sent (yv e.fHop) := ⟨e.fSent, e.fHop, he.s, he.h, rfl⟩
 obtain ⟨p1, p2, p3⟩ := h.iv.pi _ hk
 have hsz := (g.fr.each e.fSent he.s.1 he.s.2).2.2.2.2
 have hc := y7c p1 (size := (nth sent e.fSent).fSize) ⟨hsz.1, hsz.2.1⟩ (t := e.fTime) ⟨h.iv.now _ hk e hem, by omega⟩
 have hiv := y4F g h.iv hp hmin
 have hnum := h.iv.num (yv e.fHop)
 have hcost : e.fTime + cost c sent e.fSent e.fHop ≤ y2P (S.pf (yv e.fHop)) e.fTime (nth sent e.fSent).fSize ∧ (S.pf (yv e.fHop)).fLast < y2P (S.pf (yv e.fHop)) e.fTime (nth sent e.fSent).fSize := by
  have hm := y83 (a := (nth sent e.fSent).fSize) (b := (S.pf (yv e.fHop)).fNumbers.fSlow) ⟨hsz.1, hsz.2.1⟩ p1.slow
  unfold y2P cost
  rw [← hnum]
  omega
 have hfr : ∀ o : Option Int, ∀ k, (upd S.pf (yv e.fHop) (y1I (S.pf (yv e.fHop)) e.fTime (nth sent e.fSent).fSize).2.2 k).fFrames.length ≤ (((⟨e, o⟩ : Rc) :: H).filter fun r => decide (yv r.ev.fHop = k)).length := by
  intro o k
  have := h.frs k
  rw [List.filter_cons]
  unfold upd
  by_cases q : k = yv e.fHop
  ·subst q
   rw [if_pos rfl, if_pos (by simp), List.length_cons]
   have := y9C (p := S.pf (yv e.fHop)) (t := e.fTime) (size := (nth sent e.fSent).fSize)
   omega
  ·rw [if_neg q, if_neg (by simp; exact fun hc => q hc.symm)]; exact this
 have hok : ∀ o : Option Int, ∀ r ∈ (⟨e, o⟩ : Rc) :: H, EOK rs sent r.ev := by
  intro o r hr
  rcases List.mem_cons.1 hr with rfl | hr
  ·exact he
  ·exact h.ok r hr
 have hsrc : ∀ o : Option Int, ∀ x, (x ∈ rest ∨ ∃ r ∈ (⟨e, o⟩ : Rc) :: H, r.ev = x) → (x.fHop.fNode = root rs sent x.fSent ∧ x.fTime = (nth sent x.fSent).fTime ∧ x.fIn_ = -1) ∨ ∃ r ∈ (⟨e, o⟩ : Rc) :: H, r.ev.fSent = x.fSent ∧ r.ev.fHop.fNext = x.fHop.fNode ∧ r.out = some x.fTime := by
  intro o x hx
  have : x ∈ S.ag ∨ ∃ r ∈ H, r.ev = x := by
   rcases hx with hx | ⟨r, hr, rfl⟩
   ·exact .inl (hrm x hx)
   ·rcases List.mem_cons.1 hr with rfl | hr
    ·exact .inl hem
    ·exact .inr ⟨r, hr, rfl⟩
  rcases h.src x this with a | ⟨r, hr, a⟩
  ·exact .inl a
  ·exact .inr ⟨r, List.mem_cons_of_mem _ hr, a⟩
 have hlate : ∀ o : Option Int, ∀ x ∈ rest, ∀ r ∈ (⟨e, o⟩ : Rc) :: H, kle r.ev x := by
  intro o x hx r hr
  rcases List.mem_cons.1 hr with rfl | hr
  ·exact hmin x (hrm x hx)
  ·exact h.late x (hrm x hx) r hr
 have hroot : ∀ (o : Option Int) (ag : List Ev), (∀ x ∈ rest, x ∈ ag) → ∀ s y, (0 ≤ s ∧ s < (sent.length : Int)) → y ∈ route rs sent s → y.fNode = root rs sent s → (s, y) ∈ ((⟨e, o⟩ : Rc) :: H).map Rc.id ++ ag.map y19 := by
  intro o ag hag s y h1 h2 h3
  rcases List.mem_append.1 (h.root s y h1 h2 h3) with a | a
  ·exact List.mem_append_left _ (List.mem_cons_of_mem _ a)
  ·rcases hid _ a with a | a
   ·exact List.mem_append_left _ (by rw [List.map_cons]; exact List.mem_cons.2 (.inl a))
   ·obtain ⟨z, hz, hz2⟩ := List.mem_map.1 a
    exact List.mem_append_right _ (List.mem_map.2 ⟨z, hag z hz, hz2⟩)
 have hnxt : ∀ (o : Option Int) (ag : List Ev), (∀ x ∈ rest, x ∈ ag) → ∀ r ∈ H, ∀ t, r.out = some t → ∀ y ∈ route rs sent r.ev.fSent, y.fNode = r.ev.fHop.fNext → (r.ev.fSent, y) ∈ ((⟨e, o⟩ : Rc) :: H).map Rc.id ++ ag.map y19 := by
  intro o ag hag r hr t ht y h1 h2
  rcases List.mem_append.1 (h.nxt r hr t ht y h1 h2) with a | a
  ·exact List.mem_append_left _ (List.mem_cons_of_mem _ a)
  ·rcases hid _ a with a | a
   ·exact List.mem_append_left _ (by rw [List.map_cons]; exact List.mem_cons.2 (.inl a))
   ·obtain ⟨z, hz, hz2⟩ := List.mem_map.1 a
    exact List.mem_append_right _ (List.mem_map.2 ⟨z, hag z hz, hz2⟩)
 have hord : ∀ o : Option Int, (∀ t, o = some t → (S.pf (yv e.fHop)).fLast < t) → ((⟨e, o⟩ : Rc) :: H).Pairwise fun a b => kle b.ev a.ev ∧ (yv a.ev.fHop = yv b.ev.fHop → ∀ t u, a.out = some t → b.out = some u → u < t) := by
  intro o ho
  refine List.pairwise_cons.2 ⟨fun b hb => ⟨h.late e hem b hb, fun hx t u h1 h2 => ?_⟩, h.ord⟩
  have := (h.out b hb u h2).2
  rw [← hx] at this
  exact Int.lt_of_le_of_lt this (ho t h1)
 revert hiv
 unfold y1a
 by_cases hR : (y1I (S.pf (yv e.fHop)) e.fTime (nth sent e.fSent).fSize).2.1 ≠ 0
 ·rw [if_pos hR]
  intro hiv
  have hl : (y1I (S.pf (yv e.fHop)) e.fTime (nth sent e.fSent).fSize).2.2.fLast = (S.pf (yv e.fHop)).fLast := by
   rcases hc.2.2.2.1 with a | a
   ·exact a.2
   ·exact absurd a.1 hR
  refine ⟨none, hiv, h.come, ?_, hok _, hroot _ _ (fun _ a => a), ?_, hsrc _, ?_, hord _ (by simp), hlate _, hfr _⟩
  ·rw [List.filterMap_cons]
   simp only [y7j, if_true]
   exact (List.perm_append_comm (l₂ := [_])).trans (h.lost.cons _)
  ·intro r hr t ht
   rcases List.mem_cons.1 hr with rfl | hr
   ·simp at ht
   ·exact hnxt _ _ (fun _ a => a) r hr t ht
  ·intro r hr t ht
   rcases List.mem_cons.1 hr with rfl | hr
   ·simp at ht
   ·have := h.out r hr t ht
    refine ⟨this.1, ?_⟩
    simp only [upd]
    split
    ·rename_i q; rw [hl, ← q]; exact this.2
    ·exact this.2
 ·rw [if_neg hR]
  intro hiv
  have hl : (y1I (S.pf (yv e.fHop)) e.fTime (nth sent e.fSent).fSize).1 = y2P (S.pf (yv e.fHop)) e.fTime (nth sent e.fSent).fSize ∧ (y1I (S.pf (yv e.fHop)) e.fTime (nth sent e.fSent).fSize).2.2.fLast = y2P (S.pf (yv e.fHop)) e.fTime (nth sent e.fSent).fSize := by
   rcases hc.2.2.2.1 with a | a
   ·exact absurd (by rw [a.1]; decide) hR
   ·exact a.2
  rw [hl.1] at hiv ⊢
  refine ⟨some (y2P (S.pf (yv e.fHop)) e.fTime (nth sent e.fSent).fSize), hiv, ?_, ?_, hok _, hroot _ _ (fun _ a => List.mem_append_right _ a), ?_, ?_, ?_, hord _ (by intro t ht; cases ht; exact hcost.2), ?_, hfr _⟩
  ·rw [List.filterMap_cons]
   simp only [y89, Option.bind_some]
   by_cases q2 : e.fHop.fNext < nM c
   ·simp only [if_pos q2]
    exact (List.perm_append_comm (l₂ := [_])).trans (h.come.cons _)
   ·simp only [if_neg q2]
    exact h.come
  ·rw [List.filterMap_cons]
   simp only [y7j]
   exact h.lost
  ·intro r hr t ht y h1 h2
   rcases List.mem_cons.1 hr with rfl | hr
   ·refine List.mem_append_right _ (List.mem_map.2 ⟨⟨y2P (S.pf (yv e.fHop)) e.fTime (nth sent e.fSent).fSize, e.fHop.fLink, (nth sent e.fSent).fVL, e.fSent, y⟩, List.mem_append_left _ (y4m.2 ⟨y, h1, h2, rfl⟩), rfl⟩)
   ·exact hnxt _ _ (fun _ a => List.mem_append_right _ a) r hr t ht y h1 h2
  ·intro x hx
   have : (x ∈ news rs sent e.fHop.fNext (y2P (S.pf (yv e.fHop)) e.fTime (nth sent e.fSent).fSize) e.fHop.fLink e.fSent) ∨ (x ∈ rest ∨ ∃ r ∈ (⟨e, some (y2P (S.pf (yv e.fHop)) e.fTime (nth sent e.fSent).fSize)⟩ : Rc) :: H, r.ev = x) := by
    rcases hx with hx | hx
    ·rcases List.mem_append.1 hx with hx | hx
     ·exact .inl hx
     ·exact .inr (.inl hx)
    ·exact .inr (.inr hx)
   rcases this with hx | hx
   ·obtain ⟨y, h1, h2, rfl⟩ := y4m.1 hx
    exact .inr ⟨_, List.mem_cons_self .., rfl, h2.symm, rfl⟩
   ·exact hsrc _ x hx
  ·intro r hr t ht
   rcases List.mem_cons.1 hr with rfl | hr
   ·cases ht
    refine ⟨hcost.1, ?_⟩
    simp only [upd, if_true]
    rw [hl.2]; exact Int.le_refl _
   ·have := h.out r hr t ht
    refine ⟨this.1, ?_⟩
    simp only [upd]
    split
    ·rename_i q; rw [hl.2]; rw [q] at this; omega
    ·exact this.2
  ·intro x hx r hr
   rcases List.mem_append.1 hx with hx | hx
   ·obtain ⟨y, h1, h2, rfl⟩ := y4m.1 hx
    refine y60 ?_
    show r.ev.fTime < y2P _ _ _
    rcases List.mem_cons.1 hr with rfl | hr
    ·show e.fTime < _; omega
    ·have := y7H (h.late e hem r hr); omega
   ·exact hlate _ x hx r hr
theorem Runs.jv (g : Sg c net rs sent) : ∀ {n : Nat} {S F : St}, Runs c rs sent n S F → ∀ {H : List Rc}, JV c net rs sent S H → ∃ H', JV c net rs sent F H'
 | _, _, _, .done _ k, H, h => ⟨H, h.eq k⟩
 | _, _, _, .step e rest hp hm he hr, H, h => by
  obtain ⟨o, ho⟩ := step_jv g h hp hm
  exact Runs.jv g hr (ho.eq he)
theorem RunsTo.hist (g : Sg c net rs sent) {come lost : List Cm} (h : RunsTo c rs sent come lost) : ∃ F H, F.ag = [] ∧ JV c net rs sent F H ∧ come.Perm (H.filterMap (y89 c)) ∧ lost.Perm (H.filterMap y7j) := by
 obtain ⟨n, F, h1, h2, h3⟩ := h.run
 obtain ⟨H, hH⟩ := h1.jv g (init_jv g)
 exact ⟨F, H, h1.fin, hH, h2.trans hH.come, h3.trans hH.lost⟩
end
end Go.Proofs.Ytinchjigeakocaa

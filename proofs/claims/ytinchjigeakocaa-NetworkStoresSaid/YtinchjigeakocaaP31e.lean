/- A part of this claim's proof: models of functions, walks, plain laws. No conditions. -/
import Derived.Test.YtinchjigeakocaaP31d
namespace Go.Proofs.Ytinchjigeakocaa
open Go Go.RowKit Sep
set_option linter.all false
/-! ### valid routes, by their members -/
theorem RK.mono {r : List Hop} {v w k : Int} (h : RK r v k) (hv : v ≤ w) : RK r w k := by
 rcases h with h | ⟨q, a, b, e⟩
 ·exact .inl h
 ·exact .inr ⟨q, a, by omega, e⟩
theorem VR.hv {c : Cf} {net : Int} {r : List Hop} (h : VR c net r) : ∀ x ∈ r, HV c net x := by
 intro x hx
 obtain ⟨i, hi, rfl⟩ := List.getElem_of_mem hx
 have := (h.cond (i : Int) (by omega) (by omega)).2.2.2
 rw [y2N ⟨by omega, by omega⟩] at this
 unfold HV
 simpa using this
theorem VR.next_ne {c : Cf} {net : Int} {r : List Hop} (h : VR c net r) : ∀ x ∈ r, x.fNext ≠ (nth r 0).fNode := by
 intro x hx
 obtain ⟨i, hi, rfl⟩ := List.getElem_of_mem hx
 have := (h.cond (i : Int) (by omega) (by omega)).2.1
 rw [y2N (i := (i : Int)) ⟨by omega, by omega⟩] at this
 simp only [Int.toNat_natCast] at this
 exact fun e => this (.inl e)
theorem VR.idx {c : Cf} {net : Int} {r : List Hop} (h : VR c net r) {i j : Nat} (hi : i < r.length) (hj : j < r.length) (hij : i < j) : r[i].fNext ≠ r[j].fNext ∧ ¬ (r[i].fLink = r[j].fLink) := by
 have cj := h.cond (j : Int) (by omega) (by omega)
 have ci := h.cond (i : Int) (by omega) (by omega)
 have ei : nth r (i : Int) = r[i] := by rw [y2N ⟨by omega, by omega⟩]; simp
 have ej : nth r (j : Int) = r[j] := by rw [y2N ⟨by omega, by omega⟩]; simp
 have hn : r[i].fNext ≠ r[j].fNext := by
  intro e
  have := cj.2.1
  rw [ej] at this
  exact this (.inr ⟨i, by omega, by omega, by rw [ei]; exact e⟩)
 refine ⟨hn, fun e => ?_⟩
 have ji := ci.2.2.2
 have jj := cj.2.2.2
 rw [ei] at ji; rw [ej] at jj
 obtain ⟨_, _, _, _, _, _, _, _, a⟩ := ji
 obtain ⟨_, _, _, _, _, _, _, _, b⟩ := jj
 rw [← e] at b
 have hx : r[j].fNext = r[i].fNode := by
  rcases a with ⟨a1, a2⟩ | ⟨a1, a2⟩ <;> rcases b with ⟨b1, b2⟩ | ⟨b1, b2⟩
  ·exact absurd (a2.symm.trans b2) hn
  ·exact b1.symm.trans a1
  ·exact b2.symm.trans a2
  ·exact absurd (a1.symm.trans b1) hn
 have := cj.2.1
 rw [ej, hx] at this
 have hk := ci.1
 rw [ei] at hk
 exact this (hk.mono (by omega))
theorem VR.next_inj {c : Cf} {net : Int} {r : List Hop} (h : VR c net r) {x y : Hop} (hx : x ∈ r) (hy : y ∈ r) (e : x.fNext = y.fNext) : x = y := by
 obtain ⟨i, hi, rfl⟩ := List.getElem_of_mem hx
 obtain ⟨j, hj, rfl⟩ := List.getElem_of_mem hy
 rcases Nat.lt_trichotomy i j with hij | hij | hij
 ·exact absurd e (h.idx hi hj hij).1
 ·subst hij; rfl
 ·exact absurd e.symm (h.idx hj hi hij).1
theorem VR.link_inj {c : Cf} {net : Int} {r : List Hop} (h : VR c net r) {x y : Hop} (hx : x ∈ r) (hy : y ∈ r) (e : x.fLink = y.fLink) : x = y := by
 obtain ⟨i, hi, rfl⟩ := List.getElem_of_mem hx
 obtain ⟨j, hj, rfl⟩ := List.getElem_of_mem hy
 rcases Nat.lt_trichotomy i j with hij | hij | hij
 ·exact absurd e (h.idx hi hj hij).2
 ·subst hij; rfl
 ·exact absurd e.symm (h.idx hj hi hij).2
theorem VR.nodup {c : Cf} {net : Int} {r : List Hop} (h : VR c net r) : r.Nodup := by
 rw [List.nodup_iff_pairwise_ne, List.pairwise_iff_getElem]
 intro i j hi hj hij e
 exact (h.idx hi hj hij).1 (by rw [e])
/-! ### the setting -/
structure Sg (c : Cf) (net : Int) (rs : List (List Hop)) (sent : List Snt) : Prop where
 small : Small c
 va : VA c net rs
 fr : FRm c 40 sent
abbrev Id := Int × Hop
def y15 (e : Ev) : Id := (e.fSent, e.fHop)
def route (rs : List (List Hop)) (sent : List Snt) (s : Int) : List Hop := nth rs (nth sent s).fVL
section
variable {c : Cf} {net : Int} {rs : List (List Hop)} {sent : List Snt}
theorem Sg.vl (g : Sg c net rs sent) {s : Int} (h : 0 ≤ s ∧ s < sent.length) : 0 ≤ (nth sent s).fVL ∧ (nth sent s).fVL < rs.length := by
 have := g.fr.each s h.1 h.2
 have hl := g.va.len
 exact ⟨this.2.2.1, by have := this.2.2.2.1; omega⟩
theorem Sg.route (g : Sg c net rs sent) {s : Int} (h : 0 ≤ s ∧ s < sent.length) : VR c net (route rs sent s) := g.va.each _ (y4H (g.vl h).1 (g.vl h).2)
def y4a (rs : List (List Hop)) (sent : List Snt) : List Id := (List.range sent.length).flatMap fun i : Nat => (route rs sent (i : Int)).map fun h => ((i : Int), h)
theorem y6o {x : Id} : x ∈ y4a rs sent ↔ (0 ≤ x.1 ∧ x.1 < sent.length) ∧ x.2 ∈ route rs sent x.1 := by
 unfold y4a
 simp only [List.mem_flatMap, List.mem_range, List.mem_map]
 constructor
 ·rintro ⟨i, hi, h, hh, rfl⟩; exact ⟨⟨by simp, by simp; omega⟩, hh⟩
 ·rintro ⟨⟨h1, h2⟩, h3⟩
  exact ⟨x.1.toNat, by omega, x.2, by rw [Int.toNat_of_nonneg h1]; exact h3, by rw [Int.toNat_of_nonneg h1]⟩
theorem y5D {α β : Type} {f : α → List β} {m : Nat} : ∀ (l : List α), (∀ x ∈ l, (f x).length ≤ m) → (l.flatMap f).length ≤ l.length * m
 | [], _ => by simp
 | x :: l, h => by
  rw [List.flatMap_cons, List.length_append, List.length_cons, Nat.succ_mul]
  have h1 := h x (by simp)
  have h2 := y5D l (fun y hy => h y (List.mem_cons_of_mem _ hy))
  omega
theorem Sg.ids_len (g : Sg c net rs sent) : (y4a rs sent).length ≤ 1280 := by
 have h1 := y5D (f := fun i : Nat => (Go.Proofs.Ytinchjigeakocaa.route rs sent (i : Int)).map fun h => ((i : Int), h)) (m := 32) (List.range sent.length) (fun i hi => by
  rw [List.length_map]
  exact (g.route ⟨by omega, by have := List.mem_range.1 hi; omega⟩).len)
 rw [List.length_range] at h1
 have := g.fr.len
 unfold y4a; omega
theorem y6N {α : Type} [DecidableEq α] : ∀ (l m : List α), l.Nodup → (∀ x ∈ l, x ∈ m) → l.length ≤ m.length
 | [], m, _, _ => by simp
 | x :: l, m, h, hm => by
  have hx := hm x (by simp)
  rw [List.nodup_cons] at h
  have := y6N l (m.erase x) h.2 (fun y hy => (List.mem_erase_of_ne (fun e => h.1 (by rw [← e]; exact hy))).2 (hm y (List.mem_cons_of_mem _ hy)))
  rw [List.length_erase_of_mem hx] at this
  have hp : 0 < m.length := List.length_pos_of_mem hx
  rw [List.length_cons]; omega
def UK (rs : List (List Hop)) (sent : List Snt) (k : Ex) : Prop := ∃ s h, (0 ≤ s ∧ s < (sent.length : Int)) ∧ h ∈ route rs sent s ∧ yq h = k
structure EOK (rs : List (List Hop)) (sent : List Snt) (e : Ev) : Prop where
 s : 0 ≤ e.fSent ∧ e.fSent < sent.length
 v : e.fVl = (nth sent e.fSent).fVL
 h : e.fHop ∈ route rs sent e.fSent
 t : 0 ≤ e.fTime
structure IV (c : Cf) (net : Int) (rs : List (List Hop)) (sent : List Snt) (S : St) (D : List Id) : Prop where
 ev : ∀ e ∈ S.ag, EOK rs sent e
 tm : ∀ e ∈ S.ag, e.fTime ≤ 536870912 + 2200 * D.length
 nd : (D ++ S.ag.map y15).Nodup
 mem : ∀ d ∈ D, d ∈ y4a rs sent
 par : ∀ x ∈ D ++ S.ag.map y15, x.2.fNode = (nth (route rs sent x.1) 0).fNode ∨ ∃ y ∈ route rs sent x.1, y.fNext = x.2.fNode ∧ (x.1, y) ∈ D
 pi : ∀ k, UK rs sent k → PI (S.pf k) ∧ (S.pf k).fLast ≤ 536870912 + 2200 * D.length ∧ (S.pf k).fFrames.length ≤ D.length
 now : ∀ k, UK rs sent k → ∀ e ∈ S.ag, (S.pf k).fNow ≤ e.fTime
 num : ∀ k, (S.pf k).fNumbers = (y21 c k).fNumbers
 cl : S.come.length + S.lost.length ≤ D.length
structure EQ (S T : St) : Prop where
 ag : S.ag.Perm T.ag
 come : S.come.Perm T.come
 lost : S.lost.Perm T.lost
 pf : S.pf = T.pf
theorem EQ.refl (S : St) : EQ S S := ⟨.refl _, .refl _, .refl _, rfl⟩
theorem EQ.symm {S T : St} (h : EQ S T) : EQ T S := ⟨h.ag.symm, h.come.symm, h.lost.symm, h.pf.symm⟩
theorem EQ.trans {S T U : St} (h : EQ S T) (k : EQ T U) : EQ S U := ⟨h.ag.trans k.ag, h.come.trans k.come, h.lost.trans k.lost, h.pf.trans k.pf⟩
theorem IV.eq {S T : St} {D : List Id} (h : IV c net rs sent S D) (k : EQ S T) : IV c net rs sent T D := by
 have hm : ∀ e, e ∈ T.ag → e ∈ S.ag := fun e he => k.ag.mem_iff.2 he
 have hp : (D ++ S.ag.map y15).Perm (D ++ T.ag.map y15) := (k.ag.map y15).append_left D
 refine ⟨fun e he => h.ev e (hm e he), fun e he => h.tm e (hm e he), (hp.nodup_iff).1 h.nd, h.mem, fun x hx => h.par x (hp.mem_iff.2 hx), ?_, ?_, ?_, ?_⟩
 ·intro q hq; rw [← k.pf]; exact h.pi q hq
 ·intro q hq e he; rw [← k.pf]; exact h.now q hq e (hm e he)
 ·intro q; rw [← k.pf]; exact h.num q
 ·rw [← k.come.length_eq, ← k.lost.length_eq]; exact h.cl
theorem IV.len (g : Sg c net rs sent) {S : St} {D : List Id} (h : IV c net rs sent S D) : D.length + S.ag.length ≤ 1280 := by
 have := y6N _ (y4a rs sent) h.nd (fun x hx => by
  rcases List.mem_append.1 hx with hx | hx
  ·exact h.mem x hx
  ·obtain ⟨e, he, rfl⟩ := List.mem_map.1 hx
   have := h.ev e he
   exact y6o.2 ⟨this.s, this.h⟩)
 rw [List.length_append, List.length_map] at this
 exact Nat.le_trans this g.ids_len
theorem y6O {p : Pt} {t size : Int} (h : PI p) (h1 : 1 ≤ size ∧ size ≤ 72) (ht : p.fNow ≤ t ∧ t ≤ 1073741824) :
  (y1G p t size).2.2.fNow = t ∧ (y1G p t size).2.2.fNumbers = p.fNumbers ∧ (y1G p t size).2.2.fFrames.length ≤ p.fFrames.length + 1 ∧
  ((y1G p t size).2.1 = 4 ∧ (y1G p t size).2.2.fLast = p.fLast ∨ (y1G p t size).2.1 = 0 ∧ (y1G p t size).1 = y2f p t size ∧ (y1G p t size).2.2.fLast = y2f p t size) ∧ t + 1 ≤ y2f p t size ∧ y2f p t size ≤ max t p.fLast + 2152 := by
 have hm := y7E (a := size) (b := p.fNumbers.fSlow) h1 h.slow
 have hd := h.delay
 have hw := y4N (t := t) (l := p.fFrames)
 have he : t + 1 ≤ y2f p t size ∧ y2f p t size ≤ max t p.fLast + 2152 := by unfold y2f; omega
 unfold y1G
 rw [if_neg (by omega)]
 split
 ·exact ⟨rfl, rfl, by simp only; omega, .inl ⟨rfl, rfl⟩, he⟩
 ·exact ⟨rfl, rfl, by simp only [List.length_append, List.length_singleton]; omega, .inr ⟨rfl, rfl, rfl⟩, he⟩
theorem y4O {e : Ev} {node t i s : Int} : e ∈ news rs sent node t i s ↔ ∃ h ∈ route rs sent s, h.fNode = node ∧ e = ⟨t, i, (nth sent s).fVL, s, h⟩ := by
 unfold news route
 simp only [List.mem_map, List.mem_filter, decide_eq_true_eq]
 constructor
 ·rintro ⟨h, ⟨h1, h2⟩, rfl⟩; exact ⟨h, h1, h2, rfl⟩
 ·rintro ⟨h, h1, h2, rfl⟩; exact ⟨h, ⟨h1, h2⟩, rfl⟩
theorem y7o {a b : Ev} (h : kle a b) : a.fTime ≤ b.fTime := by unfold kle klt at h; omega
theorem y63 (g : Sg c net rs sent) {S : St} {D : List Id} (h : IV c net rs sent S D) {e : Ev} {rest : List Ev} (hp : (e :: rest).Perm S.ag) (hmin : ∀ x ∈ S.ag, kle e x) : IV c net rs sent (y18 c rs sent e rest S) (y15 e :: D) := by
 have hlen := h.len g
 have hem : e ∈ S.ag := hp.mem_iff.1 (by simp)
 have hpl := hp.length_eq
 rw [List.length_cons] at hpl
 have he := h.ev e hem
 have ht := h.tm e hem
 have hrm : ∀ x ∈ rest, x ∈ S.ag := fun x hx => hp.mem_iff.1 (List.mem_cons_of_mem _ hx)
 have hk : UK rs sent (yq e.fHop) := ⟨e.fSent, e.fHop, he.s, he.h, rfl⟩
 obtain ⟨p1, p2, p3⟩ := h.pi _ hk
 have hsz := (g.fr.each e.fSent he.s.1 he.s.2).2.2.2.2
 have hc := y6O p1 (size := (nth sent e.fSent).fSize) ⟨hsz.1, hsz.2.1⟩ (t := e.fTime) ⟨h.now _ hk e hem, by omega⟩
 have hPI := putS_PI (size := (nth sent e.fSent).fSize) p1 he.t (by omega) (by omega)
 have hnd' : (D ++ (y15 e :: rest.map y15)).Nodup := by
  have : (D ++ S.ag.map y15).Perm (D ++ (y15 e :: rest.map y15)) := (by simpa using hp.symm.map y15 : (S.ag.map y15).Perm (y15 e :: rest.map y15)).append_left D
  exact this.nodup_iff.1 h.nd
 have hnd1 : ((y15 e :: D) ++ rest.map y15).Nodup := (List.perm_middle (l₁ := D) (a := y15 e) (l₂ := rest.map y15)).nodup_iff.1 hnd'
 have hmemD : ∀ d ∈ y15 e :: D, d ∈ y4a rs sent := fun d hd => by
  rcases List.mem_cons.1 hd with rfl | hd
  ·exact y6o.2 ⟨he.s, he.h⟩
  ·exact h.mem d hd
 have hpar1 : ∀ x ∈ (y15 e :: D) ++ rest.map y15, x.2.fNode = (nth (route rs sent x.1) 0).fNode ∨ ∃ y ∈ route rs sent x.1, y.fNext = x.2.fNode ∧ (x.1, y) ∈ y15 e :: D := by
  intro x hx
  have hx' : x ∈ D ++ S.ag.map y15 := by
   rcases List.mem_append.1 hx with hx | hx
   ·rcases List.mem_cons.1 hx with rfl | hx
    ·exact List.mem_append_right _ (List.mem_map.2 ⟨e, hem, rfl⟩)
    ·exact List.mem_append_left _ hx
   ·obtain ⟨y, hy, rfl⟩ := List.mem_map.1 hx
    exact List.mem_append_right _ (List.mem_map.2 ⟨y, hrm y hy, rfl⟩)
  rcases h.par x hx' with a | ⟨y, a, b, d⟩
  ·exact .inl a
  ·exact .inr ⟨y, a, b, List.mem_cons_of_mem _ d⟩
 have hpi' : ∀ k, UK rs sent k → PI (upd S.pf (yq e.fHop) (y1G (S.pf (yq e.fHop)) e.fTime (nth sent e.fSent).fSize).2.2 k) ∧ (upd S.pf (yq e.fHop) (y1G (S.pf (yq e.fHop)) e.fTime (nth sent e.fSent).fSize).2.2 k).fLast ≤ 536870912 + 2200 * (y15 e :: D).length ∧ (upd S.pf (yq e.fHop) (y1G (S.pf (yq e.fHop)) e.fTime (nth sent e.fSent).fSize).2.2 k).fFrames.length ≤ (y15 e :: D).length := by
  intro k hk'
  unfold upd
  rw [List.length_cons]
  split
  ·refine ⟨hPI, ?_, ?_⟩
   ·rcases hc.2.2.2.1 with ⟨_, a⟩ | ⟨_, _, a⟩ <;> rw [a] <;> omega
   ·omega
  ·obtain ⟨a, b, d⟩ := h.pi k hk'
   exact ⟨a, by omega, by omega⟩
 have hnow' : ∀ k, UK rs sent k → ∀ x : Ev, e.fTime ≤ x.fTime → (x ∈ rest ∨ e.fTime < x.fTime) → (upd S.pf (yq e.fHop) (y1G (S.pf (yq e.fHop)) e.fTime (nth sent e.fSent).fSize).2.2 k).fNow ≤ x.fTime := by
  intro k hk' x hx _
  unfold upd
  split
  ·rw [hc.1]; exact hx
  ·exact Int.le_trans (h.now k hk' e hem) hx
 have hnum' : ∀ k, (upd S.pf (yq e.fHop) (y1G (S.pf (yq e.fHop)) e.fTime (nth sent e.fSent).fSize).2.2 k).fNumbers = (y21 c k).fNumbers := by
  intro k
  unfold upd
  split
  ·rename_i hk'; rw [hc.2.1, hk']; exact h.num _
  ·exact h.num k
 have hcl := h.cl
 unfold y18
 by_cases hR : (y1G (S.pf (yq e.fHop)) e.fTime (nth sent e.fSent).fSize).2.1 ≠ 0
 ·rw [if_pos hR]
  refine ⟨fun x hx => h.ev x (hrm x hx), fun x hx => ?_, hnd1, hmemD, hpar1, hpi', fun k hk' x hx => hnow' k hk' x (y7o (hmin x (hrm x hx))) (.inl hx), hnum', ?_⟩
  ·have := h.tm x (hrm x hx); rw [List.length_cons]; omega
  ·simp only [List.length_append, List.length_cons, List.length_nil]; omega
 ·rw [if_neg hR]
  have hend : (y1G (S.pf (yq e.fHop)) e.fTime (nth sent e.fSent).fSize).1 = y2f (S.pf (yq e.fHop)) e.fTime (nth sent e.fSent).fSize := by
   rcases hc.2.2.2.1 with ⟨a, _⟩ | ⟨_, a, _⟩
   ·exact absurd (by rw [a]; decide) hR
   ·exact a
  have hvr := g.route he.s
  have hnm : ∀ x, x ∈ news rs sent e.fHop.fNext (y1G (S.pf (yq e.fHop)) e.fTime (nth sent e.fSent).fSize).1 e.fHop.fLink e.fSent → ∃ y ∈ route rs sent e.fSent, y.fNode = e.fHop.fNext ∧ x = ⟨y2f (S.pf (yq e.fHop)) e.fTime (nth sent e.fSent).fSize, e.fHop.fLink, (nth sent e.fSent).fVL, e.fSent, y⟩ := by
   intro x hx
   rw [hend] at hx
   exact y4O.1 hx
  refine ⟨fun x hx => ?_, fun x hx => ?_, ?_, hmemD, fun x hx => ?_, hpi', fun k hk' x hx => ?_, hnum', ?_⟩
  ·rcases List.mem_append.1 hx with hx | hx
   ·obtain ⟨y, y1, y2, rfl⟩ := hnm x hx
    exact ⟨he.s, rfl, y1, by have := he.t; show 0 ≤ y2f _ _ _; omega⟩
   ·exact h.ev x (hrm x hx)
  ·rw [List.length_cons]
   rcases List.mem_append.1 hx with hx | hx
   ·obtain ⟨y, y1, y2, rfl⟩ := hnm x hx
    show y2f _ _ _ ≤ _; omega
   ·have := h.tm x (hrm x hx); omega
  ·-- no frame comes to a hop twice
   rw [List.map_append]
   have hnn : ((news rs sent e.fHop.fNext (y1G (S.pf (yq e.fHop)) e.fTime (nth sent e.fSent).fSize).1 e.fHop.fLink e.fSent).map y15).Nodup := by
    unfold news
    rw [List.map_map]
    refine List.Pairwise.map _ (R := fun a b => a ≠ b) (fun a b hab hc' => hab (by simpa [y15] using hc')) ?_
    exact (hvr.nodup).filter _
   have hdis : ∀ x ∈ (news rs sent e.fHop.fNext (y1G (S.pf (yq e.fHop)) e.fTime (nth sent e.fSent).fSize).1 e.fHop.fLink e.fSent).map y15, x ∉ (y15 e :: D) ++ rest.map y15 := by
    intro x hx hx2
    obtain ⟨z, hz, rfl⟩ := List.mem_map.1 hx
    obtain ⟨y, y1, y2, rfl⟩ := hnm z hz
    have hx3 : ((e.fSent, y) : Id) ∈ D ++ S.ag.map y15 := by
     rcases List.mem_append.1 hx2 with hq | hq
     ·rcases List.mem_cons.1 hq with hq | hq
      ·exact List.mem_append_right _ (List.mem_map.2 ⟨e, hem, hq.symm⟩)
      ·exact List.mem_append_left _ hq
     ·obtain ⟨w, hw, hw2⟩ := List.mem_map.1 hq
      exact List.mem_append_right _ (List.mem_map.2 ⟨w, hrm w hw, hw2⟩)
    rcases h.par _ hx3 with a | ⟨q, q1, q2, q3⟩
    ·exact hvr.next_ne _ he.h (y2 ▸ a)
    ·have : q = e.fHop := hvr.next_inj q1 he.h (q2.trans y2)
     subst this
     have := (List.nodup_append.1 h.nd).2.2 _ q3 _ (List.mem_map.2 ⟨e, hem, rfl⟩)
     exact this rfl
   have hperm : ((y15 e :: D) ++ ((news rs sent e.fHop.fNext (y1G (S.pf (yq e.fHop)) e.fTime (nth sent e.fSent).fSize).1 e.fHop.fLink e.fSent).map y15 ++ rest.map y15)).Perm ((news rs sent e.fHop.fNext (y1G (S.pf (yq e.fHop)) e.fTime (nth sent e.fSent).fSize).1 e.fHop.fLink e.fSent).map y15 ++ ((y15 e :: D) ++ rest.map y15)) := by
    rw [← List.append_assoc, ← List.append_assoc]
    exact List.perm_append_comm.append_right _
   exact hperm.nodup_iff.2 (List.nodup_append.2 ⟨hnn, hnd1, fun a ha b hb hab => hdis a ha (hab ▸ hb)⟩)
  ·rcases List.mem_append.1 hx with hx | hx
   ·exact hpar1 x (List.mem_append_left _ hx)
   ·rw [List.map_append] at hx
    rcases List.mem_append.1 hx with hx | hx
    ·obtain ⟨z, hz, rfl⟩ := List.mem_map.1 hx
     obtain ⟨y, y1, y2, rfl⟩ := hnm z hz
     exact .inr ⟨e.fHop, he.h, y2.symm, List.mem_cons_self ..⟩
    ·exact hpar1 x (List.mem_append_right _ hx)
  ·rcases List.mem_append.1 hx with hx | hx
   ·obtain ⟨y, y1, y2, rfl⟩ := hnm x hx
    exact hnow' k hk' _ (by show _ ≤ y2f _ _ _; omega) (.inr (by show _ < y2f _ _ _; omega))
   ·exact hnow' k hk' x (y7o (hmin x (hrm x hx))) (.inl hx)
  ·simp only [List.length_cons]
   split
   ·simp only [List.length_append, List.length_cons, List.length_nil]; omega
   ·omega
end
end Go.Proofs.Ytinchjigeakocaa

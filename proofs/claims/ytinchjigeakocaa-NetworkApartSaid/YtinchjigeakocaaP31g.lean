/- A part of this claim's proof: models of functions, walks, plain laws. No conditions. -/
import Derived.Test.YtinchjigeakocaaP31d
namespace Go.Proofs.Ytinchjigeakocaa
open Go Go.RowKit Sep
set_option linter.all false
/-! ### valid routes, by their members -/
theorem RK.mono {r : List Hop} {v w k : Int} (h : RK r v k) (hv : v ≤ w) : RK r w k := by
 rcases h with h | ⟨q, a, b, e⟩
 ·exact .inl h
 ·exact .inr ⟨q, a, by omega, e⟩
theorem VR.hv {c : Cf} {net : Int} {r : List Hop} (h : VR c net r) : ∀ x ∈ r, HV c net x := by
 intro x hx
 obtain ⟨i, hi, rfl⟩ := List.getElem_of_mem hx
 have := (h.cond (i : Int) (by omega) (by omega)).2.2.2
 rw [y2x ⟨by omega, by omega⟩] at this
 unfold HV
 simpa using this
theorem VR.next_ne {c : Cf} {net : Int} {r : List Hop} (h : VR c net r) : ∀ x ∈ r, x.fNext ≠ (nth r 0).fNode := by
 intro x hx
 obtain ⟨i, hi, rfl⟩ := List.getElem_of_mem hx
 have := (h.cond (i : Int) (by omega) (by omega)).2.1
 rw [y2x (i := (i : Int)) ⟨by omega, by omega⟩] at this
 simp only [Int.toNat_natCast] at this
 exact fun e => this (.inl e)
theorem VR.idx {c : Cf} {net : Int} {r : List Hop} (h : VR c net r) {i j : Nat} (hi : i < r.length) (hj : j < r.length) (hij : i < j) : r[i].fNext ≠ r[j].fNext ∧ ¬ (r[i].fLink = r[j].fLink) := by
 have cj := h.cond (j : Int) (by omega) (by omega)
 have ci := h.cond (i : Int) (by omega) (by omega)
 have ei : nth r (i : Int) = r[i] := by rw [y2x ⟨by omega, by omega⟩]; simp
 have ej : nth r (j : Int) = r[j] := by rw [y2x ⟨by omega, by omega⟩]; simp
 have hn : r[i].fNext ≠ r[j].fNext := by
  intro e
  have := cj.2.1
  rw [ej] at this
  exact this (.inr ⟨i, by omega, by omega, by rw [ei]; exact e⟩)
 refine ⟨hn, fun e => ?_⟩
 have ji := ci.2.2.2
 have jj := cj.2.2.2
 rw [ei] at ji; rw [ej] at jj
 obtain ⟨_, _, _, _, _, _, _, _, a⟩ := ji
 obtain ⟨_, _, _, _, _, _, _, _, b⟩ := jj
 rw [← e] at b
 have hx : r[j].fNext = r[i].fNode := by
  rcases a with ⟨a1, a2⟩ | ⟨a1, a2⟩ <;> rcases b with ⟨b1, b2⟩ | ⟨b1, b2⟩
  ·exact absurd (a2.symm.trans b2) hn
  ·exact b1.symm.trans a1
  ·exact b2.symm.trans a2
  ·exact absurd (a1.symm.trans b1) hn
 have := cj.2.1
 rw [ej, hx] at this
 have hk := ci.1
 rw [ei] at hk
 exact this (hk.mono (by omega))
theorem VR.next_inj {c : Cf} {net : Int} {r : List Hop} (h : VR c net r) {x y : Hop} (hx : x ∈ r) (hy : y ∈ r) (e : x.fNext = y.fNext) : x = y := by
 obtain ⟨i, hi, rfl⟩ := List.getElem_of_mem hx
 obtain ⟨j, hj, rfl⟩ := List.getElem_of_mem hy
 rcases Nat.lt_trichotomy i j with hij | hij | hij
 ·exact absurd e (h.idx hi hj hij).1
 ·subst hij; rfl
 ·exact absurd e.symm (h.idx hj hi hij).1
theorem VR.link_inj {c : Cf} {net : Int} {r : List Hop} (h : VR c net r) {x y : Hop} (hx : x ∈ r) (hy : y ∈ r) (e : x.fLink = y.fLink) : x = y := by
 obtain ⟨i, hi, rfl⟩ := List.getElem_of_mem hx
 obtain ⟨j, hj, rfl⟩ := List.getElem_of_mem hy
 rcases Nat.lt_trichotomy i j with hij | hij | hij
 ·exact absurd e (h.idx hi hj hij).2
 ·subst hij; rfl
 ·exact absurd e.symm (h.idx hj hi hij).2
theorem VR.nodup {c : Cf} {net : Int} {r : List Hop} (h : VR c net r) : r.Nodup := by
 rw [List.nodup_iff_pairwise_ne, List.pairwise_iff_getElem]
 intro i j hi hj hij e
 exact (h.idx hi hj hij).1 (by rw [e])
/-! ### the setting -/
structure Sg (c : Cf) (net : Int) (rs : List (List Hop)) (sent : List Snt) : Prop where
 small : Small c
 va : VA c net rs
 fr : FRm c 40 sent
abbrev Id := Int × Hop
def y19 (e : Ev) : Id := (e.fSent, e.fHop)
def route (rs : List (List Hop)) (sent : List Snt) (s : Int) : List Hop := nth rs (nth sent s).fVL
section
variable {c : Cf} {net : Int} {rs : List (List Hop)} {sent : List Snt}
theorem Sg.vl (g : Sg c net rs sent) {s : Int} (h : 0 ≤ s ∧ s < sent.length) : 0 ≤ (nth sent s).fVL ∧ (nth sent s).fVL < rs.length := by
 have := g.fr.each s h.1 h.2
 have hl := g.va.len
 exact ⟨this.2.2.1, by have := this.2.2.2.1; omega⟩
theorem Sg.route (g : Sg c net rs sent) {s : Int} (h : 0 ≤ s ∧ s < sent.length) : VR c net (route rs sent s) := g.va.each _ (y48 (g.vl h).1 (g.vl h).2)
def y5E (rs : List (List Hop)) (sent : List Snt) : List Id := (List.range sent.length).flatMap fun i : Nat => (route rs sent (i : Int)).map fun h => ((i : Int), h)
theorem y86 {x : Id} : x ∈ y5E rs sent ↔ (0 ≤ x.1 ∧ x.1 < sent.length) ∧ x.2 ∈ route rs sent x.1 := by
 unfold y5E
 simp only [List.mem_flatMap, List.mem_range, List.mem_map]
 constructor
 ·rintro ⟨i, hi, h, hh, rfl⟩; exact ⟨⟨by simp, by simp; omega⟩, hh⟩
 ·rintro ⟨⟨h1, h2⟩, h3⟩
  exact ⟨x.1.toNat, by omega, x.2, by rw [Int.toNat_of_nonneg h1]; exact h3, by rw [Int.toNat_of_nonneg h1]⟩
theorem y5Z {α β : Type} {f : α → List β} {m : Nat} : ∀ (l : List α), (∀ x ∈ l, (f x).length ≤ m) → (l.flatMap f).length ≤ l.length * m
 | [], _ => by simp
 | x :: l, h => by
  rw [List.flatMap_cons, List.length_append, List.length_cons, Nat.succ_mul]
  have h1 := h x (by simp)
  have h2 := y5Z l (fun y hy => h y (List.mem_cons_of_mem _ hy))
  omega
theorem Sg.ids_len (g : Sg c net rs sent) : (y5E rs sent).length ≤ 1280 := by
 have h1 := y5Z (f := fun i : Nat => (Go.Proofs.Ytinchjigeakocaa.route rs sent (i : Int)).map fun h => ((i : Int), h)) (m := 32) (List.range sent.length) (fun i hi => by
  rw [List.length_map]
  exact (g.route ⟨by omega, by have := List.mem_range.1 hi; omega⟩).len)
 rw [List.length_range] at h1
 have := g.fr.len
 unfold y5E; omega
theorem y8M {α : Type} [DecidableEq α] : ∀ (l m : List α), l.Nodup → (∀ x ∈ l, x ∈ m) → l.length ≤ m.length
 | [], m, _, _ => by simp
 | x :: l, m, h, hm => by
  have hx := hm x (by simp)
  rw [List.nodup_cons] at h
  have := y8M l (m.erase x) h.2 (fun y hy => (List.mem_erase_of_ne (fun e => h.1 (by rw [← e]; exact hy))).2 (hm y (List.mem_cons_of_mem _ hy)))
  rw [List.length_erase_of_mem hx] at this
  have hp : 0 < m.length := List.length_pos_of_mem hx
  rw [List.length_cons]; omega
def UK (rs : List (List Hop)) (sent : List Snt) (k : Ex) : Prop := ∃ s h, (0 ≤ s ∧ s < (sent.length : Int)) ∧ h ∈ route rs sent s ∧ yv h = k
structure EOK (rs : List (List Hop)) (sent : List Snt) (e : Ev) : Prop where
 s : 0 ≤ e.fSent ∧ e.fSent < sent.length
 v : e.fVl = (nth sent e.fSent).fVL
 h : e.fHop ∈ route rs sent e.fSent
 t : 0 ≤ e.fTime
structure IV (c : Cf) (net : Int) (rs : List (List Hop)) (sent : List Snt) (S : St) (D : List Id) : Prop where
 ev : ∀ e ∈ S.ag, EOK rs sent e
 tm : ∀ e ∈ S.ag, e.fTime ≤ 536870912 + 2200 * D.length
 nd : (D ++ S.ag.map y19).Nodup
 mem : ∀ d ∈ D, d ∈ y5E rs sent
 par : ∀ x ∈ D ++ S.ag.map y19, x.2.fNode = (nth (route rs sent x.1) 0).fNode ∨ ∃ y ∈ route rs sent x.1, y.fNext = x.2.fNode ∧ (x.1, y) ∈ D
 pi : ∀ k, UK rs sent k → PI (S.pf k) ∧ (S.pf k).fLast ≤ 536870912 + 2200 * D.length ∧ (S.pf k).fFrames.length ≤ D.length
 now : ∀ k, UK rs sent k → ∀ e ∈ S.ag, (S.pf k).fNow ≤ e.fTime
 num : ∀ k, (S.pf k).fNumbers = (y2D c k).fNumbers
 cl : S.come.length + S.lost.length ≤ D.length
structure EQ (S T : St) : Prop where
 ag : S.ag.Perm T.ag
 come : S.come.Perm T.come
 lost : S.lost.Perm T.lost
 pf : S.pf = T.pf
theorem EQ.refl (S : St) : EQ S S := ⟨.refl _, .refl _, .refl _, rfl⟩
theorem EQ.symm {S T : St} (h : EQ S T) : EQ T S := ⟨h.ag.symm, h.come.symm, h.lost.symm, h.pf.symm⟩
theorem EQ.trans {S T U : St} (h : EQ S T) (k : EQ T U) : EQ S U := ⟨h.ag.trans k.ag, h.come.trans k.come, h.lost.trans k.lost, h.pf.trans k.pf⟩
theorem IV.eq {S T : St} {D : List Id} (h : IV c net rs sent S D) (k : EQ S T) : IV c net rs sent T D := by
 have hm : ∀ e, e ∈ T.ag → e ∈ S.ag := fun e he => k.ag.mem_iff.2 he
 have hp : (D ++ S.ag.map y19).Perm (D ++ T.ag.map y19) := (k.ag.map y19).append_left D
 refine ⟨fun e he => h.ev e (hm e he), fun e he => h.tm e (hm e he), (hp.nodup_iff).1 h.nd, h.mem, fun x hx => h.par x (hp.mem_iff.2 hx), ?_, ?_, ?_, ?_⟩
 ·intro q hq; rw [← k.pf]; exact h.pi q hq
 ·intro q hq e he; rw [← k.pf]; exact h.now q hq e (hm e he)
 ·intro q; rw [← k.pf]; exact h.num q
 ·rw [← k.come.length_eq, ← k.lost.length_eq]; exact h.cl
theorem IV.len (g : Sg c net rs sent) {S : St} {D : List Id} (h : IV c net rs sent S D) : D.length + S.ag.length ≤ 1280 := by
 have := y8M _ (y5E rs sent) h.nd (fun x hx => by
  rcases List.mem_append.1 hx with hx | hx
  ·exact h.mem x hx
  ·obtain ⟨e, he, rfl⟩ := List.mem_map.1 hx
   have := h.ev e he
   exact y86.2 ⟨this.s, this.h⟩)
 rw [List.length_append, List.length_map] at this
 exact Nat.le_trans this g.ids_len
theorem y7c {p : Pt} {t size : Int} (h : PI p) (h1 : 1 ≤ size ∧ size ≤ 72) (ht : p.fNow ≤ t ∧ t ≤ 1073741824) :
  (y1I p t size).2.2.fNow = t ∧ (y1I p t size).2.2.fNumbers = p.fNumbers ∧ (y1I p t size).2.2.fFrames.length ≤ p.fFrames.length + 1 ∧
  ((y1I p t size).2.1 = 4 ∧ (y1I p t size).2.2.fLast = p.fLast ∨ (y1I p t size).2.1 = 0 ∧ (y1I p t size).1 = y2P p t size ∧ (y1I p t size).2.2.fLast = y2P p t size) ∧ t + 1 ≤ y2P p t size ∧ y2P p t size ≤ max t p.fLast + 2152 := by
 have hm := y83 (a := size) (b := p.fNumbers.fSlow) h1 h.slow
 have hd := h.delay
 have hw := y5D (t := t) (l := p.fFrames)
 have he : t + 1 ≤ y2P p t size ∧ y2P p t size ≤ max t p.fLast + 2152 := by unfold y2P; omega
 unfold y1I
 rw [if_neg (by omega)]
 split
 ·exact ⟨rfl, rfl, by simp only; omega, .inl ⟨rfl, rfl⟩, he⟩
 ·exact ⟨rfl, rfl, by simp only [List.length_append, List.length_singleton]; omega, .inr ⟨rfl, rfl, rfl⟩, he⟩
theorem y4m {e : Ev} {node t i s : Int} : e ∈ news rs sent node t i s ↔ ∃ h ∈ route rs sent s, h.fNode = node ∧ e = ⟨t, i, (nth sent s).fVL, s, h⟩ := by
 unfold news route
 simp only [List.mem_map, List.mem_filter, decide_eq_true_eq]
 constructor
 ·rintro ⟨h, ⟨h1, h2⟩, rfl⟩; exact ⟨h, h1, h2, rfl⟩
 ·rintro ⟨h, h1, h2, rfl⟩; exact ⟨h, ⟨h1, h2⟩, rfl⟩
theorem y7H {a b : Ev} (h : kle a b) : a.fTime ≤ b.fTime := by unfold kle klt at h; omega
theorem y4F (g : Sg c net rs sent) {S : St} {D : List Id} (h : IV c net rs sent S D) {e : Ev} {rest : List Ev} (hp : (e :: rest).Perm S.ag) (hmin : ∀ x ∈ S.ag, kle e x) : IV c net rs sent (y1a c rs sent e rest S) (y19 e :: D) := by
 have hlen := h.len g
 have hem : e ∈ S.ag := hp.mem_iff.1 (by simp)
 have hpl := hp.length_eq
 rw [List.length_cons] at hpl
 have he := h.ev e hem
 have ht := h.tm e hem
 have hrm : ∀ x ∈ rest, x ∈ S.ag := fun x hx => hp.mem_iff.1 (List.mem_cons_of_mem _ hx)
 have hk : UK rs sent (yv e.fHop) := ⟨e.fSent, e.fHop, he.s, he.h, rfl⟩
 obtain ⟨p1, p2, p3⟩ := h.pi _ hk
 have hsz := (g.fr.each e.fSent he.s.1 he.s.2).2.2.2.2
 have hc := y7c p1 (size := (nth sent e.fSent).fSize) ⟨hsz.1, hsz.2.1⟩ (t := e.fTime) ⟨h.now _ hk e hem, by omega⟩
 have hPI := putS_PI (size := (nth sent e.fSent).fSize) p1 he.t (by omega) (by omega)
 have hnd' : (D ++ (y19 e :: rest.map y19)).Nodup := by
  have : (D ++ S.ag.map y19).Perm (D ++ (y19 e :: rest.map y19)) := (by simpa using hp.symm.map y19 : (S.ag.map y19).Perm (y19 e :: rest.map y19)).append_left D
  exact this.nodup_iff.1 h.nd
 have hnd1 : ((y19 e :: D) ++ rest.map y19).Nodup := (List.perm_middle (l₁ := D) (a := y19 e) (l₂ := rest.map y19)).nodup_iff.1 hnd'
 have hmemD : ∀ d ∈ y19 e :: D, d ∈ y5E rs sent := fun d hd => by
  rcases List.mem_cons.1 hd with rfl | hd
  ·exact y86.2 ⟨he.s, he.h⟩
  ·exact h.mem d hd
 have hpar1 : ∀ x ∈ (y19 e :: D) ++ rest.map y19, x.2.fNode = (nth (route rs sent x.1) 0).fNode ∨ ∃ y ∈ route rs sent x.1, y.fNext = x.2.fNode ∧ (x.1, y) ∈ y19 e :: D := by
  intro x hx
  have hx' : x ∈ D ++ S.ag.map y19 := by
   rcases List.mem_append.1 hx with hx | hx
   ·rcases List.mem_cons.1 hx with rfl | hx
    ·exact List.mem_append_right _ (List.mem_map.2 ⟨e, hem, rfl⟩)
    ·exact List.mem_append_left _ hx
   ·obtain ⟨y, hy, rfl⟩ := List.mem_map.1 hx
    exact List.mem_append_right _ (List.mem_map.2 ⟨y, hrm y hy, rfl⟩)
  rcases h.par x hx' with a | ⟨y, a, b, d⟩
  ·exact .inl a
  ·exact .inr ⟨y, a, b, List.mem_cons_of_mem _ d⟩
 have hpi' : ∀ k, UK rs sent k → PI (upd S.pf (yv e.fHop) (y1I (S.pf (yv e.fHop)) e.fTime (nth sent e.fSent).fSize).2.2 k) ∧ (upd S.pf (yv e.fHop) (y1I (S.pf (yv e.fHop)) e.fTime (nth sent e.fSent).fSize).2.2 k).fLast ≤ 536870912 + 2200 * (y19 e :: D).length ∧ (upd S.pf (yv e.fHop) (y1I (S.pf (yv e.fHop)) e.fTime (nth sent e.fSent).fSize).2.2 k).fFrames.length ≤ (y19 e :: D).length := by
  intro k hk'
  unfold upd
  rw [List.length_cons]
  split
  ·refine ⟨hPI, ?_, ?_⟩
   ·rcases hc.2.2.2.1 with ⟨_, a⟩ | ⟨_, _, a⟩ <;> rw [a] <;> omega
   ·omega
  ·obtain ⟨a, b, d⟩ := h.pi k hk'
   exact ⟨a, by omega, by omega⟩
 have hnow' : ∀ k, UK rs sent k → ∀ x : Ev, e.fTime ≤ x.fTime → (x ∈ rest ∨ e.fTime < x.fTime) → (upd S.pf (yv e.fHop) (y1I (S.pf (yv e.fHop)) e.fTime (nth sent e.fSent).fSize).2.2 k).fNow ≤ x.fTime := by
  intro k hk' x hx _
  unfold upd
  split
  ·rw [hc.1]; exact hx
  ·exact Int.le_trans (h.now k hk' e hem) hx
 have hnum' : ∀ k, (upd S.pf (yv e.fHop) (y1I (S.pf (yv e.fHop)) e.fTime (nth sent e.fSent).fSize).2.2 k).fNumbers = (y2D c k).fNumbers := by
  intro k
  unfold upd
  split
  ·rename_i hk'; rw [hc.2.1, hk']; exact h.num _
  ·exact h.num k
 have hcl := h.cl
 unfold y1a
 by_cases hR : (y1I (S.pf (yv e.fHop)) e.fTime (nth sent e.fSent).fSize).2.1 ≠ 0
 ·rw [if_pos hR]
  refine ⟨fun x hx => h.ev x (hrm x hx), fun x hx => ?_, hnd1, hmemD, hpar1, hpi', fun k hk' x hx => hnow' k hk' x (y7H (hmin x (hrm x hx))) (.inl hx), hnum', ?_⟩
  ·have := h.tm x (hrm x hx); rw [List.length_cons]; omega
  ·simp only [List.length_append, List.length_cons, List.length_nil]; omega
 ·rw [if_neg hR]
  have hend : (y1I (S.pf (yv e.fHop)) e.fTime (nth sent e.fSent).fSize).1 = y2P (S.pf (yv e.fHop)) e.fTime (nth sent e.fSent).fSize := by
   rcases hc.2.2.2.1 with ⟨a, _⟩ | ⟨_, a, _⟩
   ·exact absurd (by rw [a]; decide) hR
   ·exact a
  have hvr := g.route he.s
  have hnm : ∀ x, x ∈ news rs sent e.fHop.fNext (y1I (S.pf (yv e.fHop)) e.fTime (nth sent e.fSent).fSize).1 e.fHop.fLink e.fSent → ∃ y ∈ route rs sent e.fSent, y.fNode = e.fHop.fNext ∧ x = ⟨y2P (S.pf (yv e.fHop)) e.fTime (nth sent e.fSent).fSize, e.fHop.fLink, (nth sent e.fSent).fVL, e.fSent, y⟩ := by
   intro x hx
   rw [hend] at hx
   exact y4m.1 hx
  refine ⟨fun x hx => ?_, fun x hx => ?_, ?_, hmemD, fun x hx => ?_, hpi', fun k hk' x hx => ?_, hnum', ?_⟩
  ·rcases List.mem_append.1 hx with hx | hx
   ·obtain ⟨y, y1, y2, rfl⟩ := hnm x hx
    exact ⟨he.s, rfl, y1, by have := he.t; show 0 ≤ y2P _ _ _; omega⟩
   ·exact h.ev x (hrm x hx)
  ·rw [List.length_cons]
   rcases List.mem_append.1 hx with hx | hx
   ·obtain ⟨y, y1, y2, rfl⟩ := hnm x hx
    show y2P _ _ _ ≤ _; omega
   ·have := h.tm x (hrm x hx); omega
  ·-- no frame comes to a hop twice
   rw [List.map_append]
   have hnn : ((news rs sent e.fHop.fNext (y1I (S.pf (yv e.fHop)) e.fTime (nth sent e.fSent).fSize).1 e.fHop.fLink e.fSent).map y19).Nodup := by
    unfold news
    rw [List.map_map]
    refine List.Pairwise.map _ (R := fun a b => a ≠ b) (fun a b hab hc' => hab (by simpa [y19] using hc')) ?_
    exact (hvr.nodup).filter _
   have hdis : ∀ x ∈ (news rs sent e.fHop.fNext (y1I (S.pf (yv e.fHop)) e.fTime (nth sent e.fSent).fSize).1 e.fHop.fLink e.fSent).map y19, x ∉ (y19 e :: D) ++ rest.map y19 := by
    intro x hx hx2
    obtain ⟨z, hz, rfl⟩ := List.mem_map.1 hx
    obtain ⟨y, y1, y2, rfl⟩ := hnm z hz
    have hx3 : ((e.fSent, y) : Id) ∈ D ++ S.ag.map y19 := by
     rcases List.mem_append.1 hx2 with hq | hq
     ·rcases List.mem_cons.1 hq with hq | hq
      ·exact List.mem_append_right _ (List.mem_map.2 ⟨e, hem, hq.symm⟩)
      ·exact List.mem_append_left _ hq
     ·obtain ⟨w, hw, hw2⟩ := List.mem_map.1 hq
      exact List.mem_append_right _ (List.mem_map.2 ⟨w, hrm w hw, hw2⟩)
    rcases h.par _ hx3 with a | ⟨q, q1, q2, q3⟩
    ·exact hvr.next_ne _ he.h (y2 ▸ a)
    ·have : q = e.fHop := hvr.next_inj q1 he.h (q2.trans y2)
     subst this
     have := (List.nodup_append.1 h.nd).2.2 _ q3 _ (List.mem_map.2 ⟨e, hem, rfl⟩)
     exact this rfl
   have hperm : ((y19 e :: D) ++ ((news rs sent e.fHop.fNext (y1I (S.pf (yv e.fHop)) e.fTime (nth sent e.fSent).fSize).1 e.fHop.fLink e.fSent).map y19 ++ rest.map y19)).Perm ((news rs sent e.fHop.fNext (y1I (S.pf (yv e.fHop)) e.fTime (nth sent e.fSent).fSize).1 e.fHop.fLink e.fSent).map y19 ++ ((y19 e :: D) ++ rest.map y19)) := by
    rw [← List.append_assoc, ← List.append_assoc]
    exact List.perm_append_comm.append_right _
   exact hperm.nodup_iff.2 (List.nodup_append.2 ⟨hnn, hnd1, fun a ha b hb hab => hdis a ha (hab ▸ hb)⟩)
  ·rcases List.mem_append.1 hx with hx | hx
   ·exact hpar1 x (List.mem_append_left _ hx)
   ·rw [List.map_append] at hx
    rcases List.mem_append.1 hx with hx | hx
    ·obtain ⟨z, hz, rfl⟩ := List.mem_map.1 hx
     obtain ⟨y, y1, y2, rfl⟩ := hnm z hz
     exact .inr ⟨e.fHop, he.h, y2.symm, List.mem_cons_self ..⟩
    ·exact hpar1 x (List.mem_append_right _ hx)
  ·rcases List.mem_append.1 hx with hx | hx
   ·obtain ⟨y, y1, y2, rfl⟩ := hnm x hx
    exact hnow' k hk' _ (by show _ ≤ y2P _ _ _; omega) (.inr (by show _ < y2P _ _ _; omega))
   ·exact hnow' k hk' x (y7H (hmin x (hrm x hx))) (.inl hx)
  ·simp only [List.length_cons]
   split
   ·simp only [List.length_append, List.length_cons, List.length_nil]; omega
   ·omega
end
end Go.Proofs.Ytinchjigeakocaa
namespace Go.Proofs.Ytinchjigeakocaa
open Go Go.RowKit Sep
set_option linter.all false
section
variable {c : Cf} {net : Int} {rs : List (List Hop)} {sent : List Snt}
inductive Runs (c : Cf) (rs : List (List Hop)) (sent : List Snt) : Nat → St → St → Prop
 | done {S T : St} (h : S.ag = []) (k : EQ S T) : Runs c rs sent 0 S T
 | step {S S' T : St} {n : Nat} (e : Ev) (rest : List Ev) (hp : (e :: rest).Perm S.ag) (hmin : ∀ x ∈ S.ag, kle e x) (heq : EQ (y1a c rs sent e rest S) S') (hr : Runs c rs sent n S' T) : Runs c rs sent (n + 1) S T
theorem y5F {S T : St} (h : EQ S T) {e : Ev} {r1 r2 : List Ev} (hr : r1.Perm r2) : EQ (y1a c rs sent e r1 S) (y1a c rs sent e r2 T) := by
 unfold y1a
 rw [h.pf]
 split
 ·exact ⟨hr, h.come, h.lost.append_right _, rfl⟩
 ·refine ⟨hr.append_left _, ?_, h.lost, rfl⟩
  show (if _ then _ else _ : List Cm).Perm (if _ then _ else _)
  split
  ·exact h.come.append_right _
  ·exact h.come
theorem y8N {α : Type} [DecidableEq α] {e : α} {r1 r2 l m : List α} (h1 : (e :: r1).Perm l) (h2 : (e :: r2).Perm m) (h : l.Perm m) : r1.Perm r2 :=
 ((h1.trans h).trans h2.symm).cons_inv
theorem Runs.trans_eq : ∀ {n : Nat} {S T F : St}, Runs c rs sent n S F → EQ S T → ∃ F', Runs c rs sent n T F' ∧ EQ F F'
 | _, S, T, F, .done h k, q => ⟨T, .done (by have := q.ag; rw [h] at this; exact List.perm_nil.1 this.symm) (EQ.refl _), k.symm.trans q⟩
 | _, S, T, F, .step e rest hp hmin heq hr, q => by
  refine ⟨F, .step e rest (hp.trans q.ag) (fun x hx => hmin x (q.ag.mem_iff.2 hx)) ((y5F q (.refl rest)).symm.trans heq) hr, EQ.refl _⟩
theorem Runs.fin {n : Nat} {S F : St} (h : Runs c rs sent n S F) : F.ag = [] := by
 induction h with
 | done h k => have := k.ag; rw [h] at this; exact List.perm_nil.1 this.symm
 | step _ _ _ _ _ _ ih => exact ih
theorem idOf_inj (g : Sg c net rs sent) {S : St} {D : List Id} (h : IV c net rs sent S D) {a b : Ev} (ha : a ∈ S.ag) (hb : b ∈ S.ag) (e : y19 a = y19 b) : a = b := by
 have hn := (List.nodup_append.1 h.nd).2.1
 obtain ⟨i, hi, rfl⟩ := List.getElem_of_mem ha
 obtain ⟨j, hj, rfl⟩ := List.getElem_of_mem hb
 rw [List.nodup_iff_pairwise_ne, List.pairwise_iff_getElem] at hn
 rcases Nat.lt_trichotomy i j with hij | hij | hij
 ·exact absurd (show (S.ag.map y19)[i]'(by simpa using hi) = (S.ag.map y19)[j]'(by simpa using hj) by rw [List.getElem_map, List.getElem_map]; exact e) (hn i j (by simpa using hi) (by simpa using hj) hij)
 ·subst hij; rfl
 ·exact absurd (by rw [List.getElem_map, List.getElem_map]; exact e.symm) (hn j i (by simpa using hj) (by simpa using hi) hij)
theorem kle_tie {a b : Ev} (h : kle a b) (k : kle b a) : a.fTime = b.fTime ∧ a.fSent = b.fSent := by unfold kle klt at *; omega
theorem y60 {a b : Ev} (h : a.fTime < b.fTime) : kle a b := by unfold kle klt; omega
def ans (c : Cf) (sent : List Snt) (S : St) (e : Ev) : Int × Int × Pt := y1I (S.pf (yv e.fHop)) e.fTime (nth sent e.fSent).fSize
theorem upd_comm {pf : Ex → Pt} {k1 k2 : Ex} {p1 p2 : Pt} (h : k1 ≠ k2) : upd (upd pf k1 p1) k2 p2 = upd (upd pf k2 p2) k1 p1 := by
 funext k
 unfold upd
 by_cases e1 : k = k1
 ·subst e1; simp [h]
 ·by_cases e2 : k = k2
  ·subst e2; simp [e1]
  ·simp [e1, e2]
theorem y9l {pf : Ex → Pt} {k1 k2 : Ex} {p1 : Pt} (h : k2 ≠ k1) : upd pf k1 p1 k2 = pf k2 := by unfold upd; rw [if_neg h]
theorem y9m {α : Type} (l : List α) (a b : List α) : (l ++ a ++ b).Perm (l ++ b ++ a) := by
 rw [List.append_assoc, List.append_assoc]
 exact (List.perm_append_comm).append_left l
theorem y9Y (g : Sg c net rs sent) {S : St} {D : List Id} (h : IV c net rs sent S D) {e1 e2 : Ev} {r1 r2 : List Ev} (hp1 : (e1 :: r1).Perm S.ag) (hp2 : (e2 :: r2).Perm S.ag) (hm1 : ∀ x ∈ S.ag, kle e1 x) (hm2 : ∀ x ∈ S.ag, kle e2 x) (hne : e1 ≠ e2) :
  ∃ q1 q2, (e2 :: q1).Perm (y1a c rs sent e1 r1 S).ag ∧ (∀ x ∈ (y1a c rs sent e1 r1 S).ag, kle e2 x) ∧ (e1 :: q2).Perm (y1a c rs sent e2 r2 S).ag ∧ (∀ x ∈ (y1a c rs sent e2 r2 S).ag, kle e1 x) ∧
   EQ (y1a c rs sent e2 q1 (y1a c rs sent e1 r1 S)) (y1a c rs sent e1 q2 (y1a c rs sent e2 r2 S)) := by
 have a1 : e1 ∈ S.ag := hp1.mem_iff.1 (by simp)
 have a2 : e2 ∈ S.ag := hp2.mem_iff.1 (by simp)
 have tie := kle_tie (hm1 e2 a2) (hm2 e1 a1)
 have o1 := h.ev e1 a1
 have o2 := h.ev e2 a2
 have hk : yv e1.fHop ≠ yv e2.fHop := by
  intro hk
  have hl : e1.fHop.fLink = e2.fHop.fLink := by have := congrArg Snetwork_exit.fLink hk; exact this
  have := (g.route o1.s).link_inj o1.h (by rw [tie.2]; exact o2.h) hl
  exact hne (idOf_inj g h a1 a2 (by unfold y19; rw [tie.2, this]))
 -- the rest without both
 have b2 : e2 ∈ r1 := by
  rcases List.mem_cons.1 (hp1.mem_iff.2 a2) with e | e
  ·exact absurd e.symm hne
  ·exact e
 have b1 : e1 ∈ r2 := by
  rcases List.mem_cons.1 (hp2.mem_iff.2 a1) with e | e
  ·exact absurd e hne
  ·exact e
 have d1 : (e2 :: r1.erase e2).Perm r1 := (List.perm_cons_erase b2).symm
 have d2 : (e1 :: r2.erase e1).Perm r2 := (List.perm_cons_erase b1).symm
 have d3 : (r1.erase e2).Perm (r2.erase e1) := by
  have x1 : (e1 :: e2 :: r1.erase e2).Perm S.ag := (d1.cons e1).trans hp1
  have x2 : (e2 :: e1 :: r2.erase e1).Perm S.ag := (d2.cons e2).trans hp2
  exact ((x1.trans x2.symm).trans (List.Perm.swap e1 e2 _)).cons_inv.cons_inv
 have hend : ∀ e ∈ S.ag, ∀ x ∈ news rs sent e.fHop.fNext (ans c sent S e).1 e.fHop.fLink e.fSent, (ans c sent S e).2.1 = 0 → e.fTime < x.fTime := by
  intro e he x hx h0
  have o := h.ev e he
  have uk : UK rs sent (yv e.fHop) := ⟨e.fSent, e.fHop, o.s, o.h, rfl⟩
  obtain ⟨p1, p2, p3⟩ := h.pi _ uk
  have hsz := (g.fr.each e.fSent o.s.1 o.s.2).2.2.2.2
  have hlen := h.len g
  have ht := h.tm e he
  have hc := y7c p1 (size := (nth sent e.fSent).fSize) ⟨hsz.1, hsz.2.1⟩ (t := e.fTime) ⟨h.now _ uk e he, by omega⟩
  obtain ⟨y, _, _, rfl⟩ := y4m.1 hx
  show e.fTime < (ans c sent S e).1
  rcases hc.2.2.2.1 with ⟨q, _⟩ | ⟨_, q, _⟩
  ·unfold ans at h0; rw [q] at h0; cases h0
  ·unfold ans; rw [q]; omega
 have hz : ∀ e ∈ S.ag, ¬ ((ans c sent S e).2.1 ≠ 0) → (ans c sent S e).2.1 = 0 := fun e he hn => Classical.byContradiction hn
 have pf12 : ∀ r, (y1a c rs sent e1 r S).pf = upd S.pf (yv e1.fHop) (ans c sent S e1).2.2 := fun r => by unfold y1a ans; split <;> rfl
 have pf21 : ∀ r, (y1a c rs sent e2 r S).pf = upd S.pf (yv e2.fHop) (ans c sent S e2).2.2 := fun r => by unfold y1a ans; split <;> rfl
 have ans2 : ∀ r, ans c sent (y1a c rs sent e1 r S) e2 = ans c sent S e2 := fun r => by unfold ans; rw [pf12, y9l hk.symm]
 have ans1 : ∀ r, ans c sent (y1a c rs sent e2 r S) e1 = ans c sent S e1 := fun r => by unfold ans; rw [pf21, y9l hk]
 -- a step, by its answer
 have sF : ∀ (S' : St) (e : Ev) (r : List Ev), y1a c rs sent e r S' = if (ans c sent S' e).2.1 ≠ 0 then ⟨r, S'.come, S'.lost ++ [⟨e.fSent, e.fHop.fNode, e.fTime⟩], upd S'.pf (yv e.fHop) (ans c sent S' e).2.2⟩
   else ⟨news rs sent e.fHop.fNext (ans c sent S' e).1 e.fHop.fLink e.fSent ++ r, if e.fHop.fNext < nM c then S'.come ++ [⟨e.fSent, e.fHop.fNext, (ans c sent S' e).1⟩] else S'.come, S'.lost, upd S'.pf (yv e.fHop) (ans c sent S' e).2.2⟩ := fun S' e r => rfl
 let A1 : List Ev := if (ans c sent S e1).2.1 ≠ 0 then [] else news rs sent e1.fHop.fNext (ans c sent S e1).1 e1.fHop.fLink e1.fSent
 let A2 : List Ev := if (ans c sent S e2).2.1 ≠ 0 then [] else news rs sent e2.fHop.fNext (ans c sent S e2).1 e2.fHop.fLink e2.fSent
 have ag1 : ∀ r, (y1a c rs sent e1 r S).ag = A1 ++ r := fun r => by rw [sF]; show (if _ then _ else _ : St).ag = (if _ then _ else _ : List Ev) ++ r; split <;> simp
 have ag2 : ∀ r, (y1a c rs sent e2 r S).ag = A2 ++ r := fun r => by rw [sF]; show (if _ then _ else _ : St).ag = (if _ then _ else _ : List Ev) ++ r; split <;> simp
 have lt1 : ∀ x ∈ A1, e1.fTime < x.fTime := by
  intro x hx
  by_cases hq : (ans c sent S e1).2.1 ≠ 0
  ·have : A1 = [] := if_pos hq
   rw [this] at hx; cases hx
  ·have : A1 = news rs sent e1.fHop.fNext (ans c sent S e1).1 e1.fHop.fLink e1.fSent := if_neg hq
   rw [this] at hx; exact hend e1 a1 x hx (hz e1 a1 hq)
 have lt2 : ∀ x ∈ A2, e2.fTime < x.fTime := by
  intro x hx
  by_cases hq : (ans c sent S e2).2.1 ≠ 0
  ·have : A2 = [] := if_pos hq
   rw [this] at hx; cases hx
  ·have : A2 = news rs sent e2.fHop.fNext (ans c sent S e2).1 e2.fHop.fLink e2.fSent := if_neg hq
   rw [this] at hx; exact hend e2 a2 x hx (hz e2 a2 hq)
 refine ⟨A1 ++ r1.erase e2, A2 ++ r2.erase e1, ?_, ?_, ?_, ?_, ?_⟩
 ·rw [ag1]
  exact (List.perm_middle (l₁ := A1) (a := e2) (l₂ := r1.erase e2)).symm.trans (d1.append_left A1)
 ·rw [ag1]
  intro x hx
  rcases List.mem_append.1 hx with hx | hx
  ·exact y60 (by have := lt1 x hx; omega)
  ·exact hm2 x (hp1.mem_iff.1 (List.mem_cons_of_mem _ hx))
 ·rw [ag2]
  exact (List.perm_middle (l₁ := A2) (a := e1) (l₂ := r2.erase e1)).symm.trans (d2.append_left A2)
 ·rw [ag2]
  intro x hx
  rcases List.mem_append.1 hx with hx | hx
  ·exact y60 (by have := lt2 x hx; omega)
  ·exact hm1 x (hp2.mem_iff.1 (List.mem_cons_of_mem _ hx))
 ·rw [sF (y1a c rs sent e1 r1 S) e2, sF (y1a c rs sent e2 r2 S) e1, ans2, ans1, pf12, pf21]
  have c1 : (y1a c rs sent e1 r1 S).come = (if (ans c sent S e1).2.1 ≠ 0 then S.come else if e1.fHop.fNext < nM c then S.come ++ [⟨e1.fSent, e1.fHop.fNext, (ans c sent S e1).1⟩] else S.come) := by rw [sF]; split <;> rfl
  have c2 : (y1a c rs sent e2 r2 S).come = (if (ans c sent S e2).2.1 ≠ 0 then S.come else if e2.fHop.fNext < nM c then S.come ++ [⟨e2.fSent, e2.fHop.fNext, (ans c sent S e2).1⟩] else S.come) := by rw [sF]; split <;> rfl
  have l1 : (y1a c rs sent e1 r1 S).lost = (if (ans c sent S e1).2.1 ≠ 0 then S.lost ++ [⟨e1.fSent, e1.fHop.fNode, e1.fTime⟩] else S.lost) := by rw [sF]; split <;> rfl
  have l2 : (y1a c rs sent e2 r2 S).lost = (if (ans c sent S e2).2.1 ≠ 0 then S.lost ++ [⟨e2.fSent, e2.fHop.fNode, e2.fTime⟩] else S.lost) := by rw [sF]; split <;> rfl
  rw [c1, c2, l1, l2]
  have pfc := upd_comm (pf := S.pf) (p1 := (ans c sent S e1).2.2) (p2 := (ans c sent S e2).2.2) hk
  have agp : (A2 ++ (A1 ++ r1.erase e2)).Perm (A1 ++ (A2 ++ r2.erase e1)) := by
   rw [← List.append_assoc, ← List.append_assoc]
   exact (List.perm_append_comm.append_right _).trans (d3.append_left _)
  by_cases q1 : (ans c sent S e1).2.1 ≠ 0
  ·have hA1 : A1 = [] := if_pos q1
   by_cases q2 : (ans c sent S e2).2.1 ≠ 0
   ·have hA2 : A2 = [] := if_pos q2
    rw [if_pos q2, if_pos q1, if_pos q1, if_pos q1, if_pos q2, if_pos q2]
    refine ⟨?_, .refl _, y9m _ _ _, pfc⟩
    show (A1 ++ r1.erase e2).Perm (A2 ++ r2.erase e1)
    rw [hA1, hA2] at agp ⊢
    simpa using agp
   ·have hA2 : A2 = news rs sent e2.fHop.fNext (ans c sent S e2).1 e2.fHop.fLink e2.fSent := if_neg q2
    rw [if_neg q2, if_pos q1, if_pos q1, if_pos q1, if_neg q2, if_neg q2]
    refine ⟨?_, .refl _, .refl _, pfc⟩
    show (news rs sent e2.fHop.fNext (ans c sent S e2).1 e2.fHop.fLink e2.fSent ++ (A1 ++ r1.erase e2)).Perm (A2 ++ r2.erase e1)
    rw [← hA2]
    rw [hA1] at agp ⊢
    simpa using agp
  ·have hA1 : A1 = news rs sent e1.fHop.fNext (ans c sent S e1).1 e1.fHop.fLink e1.fSent := if_neg q1
   by_cases q2 : (ans c sent S e2).2.1 ≠ 0
   ·have hA2 : A2 = [] := if_pos q2
    rw [if_pos q2, if_neg q1, if_neg q1, if_neg q1, if_pos q2, if_pos q2]
    refine ⟨?_, .refl _, .refl _, pfc⟩
    show (A1 ++ r1.erase e2).Perm (news rs sent e1.fHop.fNext (ans c sent S e1).1 e1.fHop.fLink e1.fSent ++ (A2 ++ r2.erase e1))
    rw [← hA1]
    rw [hA2] at agp ⊢
    simpa using agp
   ·have hA2 : A2 = news rs sent e2.fHop.fNext (ans c sent S e2).1 e2.fHop.fLink e2.fSent := if_neg q2
    rw [if_neg q2, if_neg q1, if_neg q1, if_neg q1, if_neg q2, if_neg q2]
    refine ⟨?_, ?_, .refl _, pfc⟩
    ·show (news rs sent e2.fHop.fNext (ans c sent S e2).1 e2.fHop.fLink e2.fSent ++ (A1 ++ r1.erase e2)).Perm (news rs sent e1.fHop.fNext (ans c sent S e1).1 e1.fHop.fLink e1.fSent ++ (A2 ++ r2.erase e1))
     rw [← hA2, ← hA1]
     exact agp
    ·show (if _ then (if _ then _ else _) ++ _ else (if _ then _ else _) : List Cm).Perm (if _ then (if _ then _ else _) ++ _ else (if _ then _ else _))
     by_cases n1 : e1.fHop.fNext < nM c
     ·by_cases n2 : e2.fHop.fNext < nM c
      ·simp only [n1, n2, if_true]; exact y9m _ _ _
      ·simp only [n1, n2, if_true, if_false]; exact .refl _
     ·by_cases n2 : e2.fHop.fNext < nM c
      ·simp only [n1, n2, if_true, if_false]; exact .refl _
      ·simp only [n1, n2, if_false]; exact .refl _
theorem uniq (g : Sg c net rs sent) : ∀ (n : Nat) {S F : St} {D : List Id}, IV c net rs sent S D → Runs c rs sent (n + 1) S F → ∀ (e : Ev) (rest : List Ev), (e :: rest).Perm S.ag → (∀ x ∈ S.ag, kle e x) →
  ∃ F', Runs c rs sent n (y1a c rs sent e rest S) F' ∧ EQ F F' := by
 intro n
 induction n with
 | zero =>
  intro S F D h hr e rest hp hmin
  cases hr with
  | step e1 r1 hp1 hm1 heq hr1 =>
   by_cases he : e1 = e
   ·subst he
    exact hr1.trans_eq (heq.symm.trans (y5F (EQ.refl S) (y8N hp1 hp (.refl _))))
   ·exfalso
    obtain ⟨q1, q2, x1, _⟩ := y9Y g h hp1 hp hm1 hmin he
    cases hr1 with
    | done h0 _ =>
     have := heq.ag; rw [h0] at this
     have := (x1.trans this).length_eq
     simp at this
 | succ n ih =>
  intro S F D h hr e rest hp hmin
  cases hr with
  | step e1 r1 hp1 hm1 heq hr1 =>
   by_cases he : e1 = e
   ·subst he
    exact hr1.trans_eq (heq.symm.trans (y5F (EQ.refl S) (y8N hp1 hp (.refl _))))
   ·obtain ⟨q1, q2, x1, x2, x3, x4, x5⟩ := y9Y g h hp1 hp hm1 hmin he
    obtain ⟨F0, hr0, hf0⟩ := hr1.trans_eq heq.symm
    obtain ⟨F1, hr2, hf1⟩ := ih (y4F g h hp1 hm1) hr0 e q1 x1 x2
    obtain ⟨F2, hr3, hf2⟩ := hr2.trans_eq x5
    exact ⟨F2, .step e1 q2 x3 x4 (EQ.refl _) hr3, (hf0.trans hf1).trans hf2⟩
theorem confl (g : Sg c net rs sent) : ∀ {m : Nat} {T F' : St}, Runs c rs sent m T F' → ∀ {n : Nat} {S F : St} {D : List Id}, IV c net rs sent S D → Runs c rs sent n S F → EQ S T → n = m ∧ EQ F F' := by
 intro m T F' hr
 induction hr with
 | @done T F' h0 k =>
  intro n S F D h hs q
  have hn : S.ag = [] := by have := q.ag; rw [h0] at this; exact List.perm_nil.1 this
  cases hs with
  | done _ k2 => exact ⟨rfl, (k2.symm.trans q).trans k⟩
  | step e r hp _ _ _ => rw [hn] at hp; have := hp.length_eq; simp at this
 | @step T T' F' m e rest hp hmin heq hr ih =>
  intro n S F D h hs q
  cases n with
  | zero =>
   cases hs with
   | done h0 _ =>
    have := q.ag; rw [h0] at this
    have := (hp.trans this.symm).length_eq; simp at this
  | succ n =>
   have hp' : (e :: rest).Perm S.ag := hp.trans q.ag.symm
   have hmin' : ∀ x ∈ S.ag, kle e x := fun x hx => hmin x (q.ag.mem_iff.1 hx)
   obtain ⟨F1, hr1, hf⟩ := uniq g n h hs e rest hp' hmin'
   obtain ⟨e1, e2⟩ := ih (y4F g h hp' hmin') hr1 ((y5F q (.refl rest)).trans heq)
   exact ⟨by omega, hf.trans e2⟩
end
end Go.Proofs.Ytinchjigeakocaa
namespace Go.Proofs.Ytinchjigeakocaa
open Go Go.RowKit Sep
set_option linter.all false
section
variable {c : Cf} {net : Int} {rs : List (List Hop)} {sent : List Snt}
def y3z (rs : List (List Hop)) (sent : List Snt) (i : Nat) : List Ev := news rs sent (nth (route rs sent (i : Int)) 0).fNode (nth sent (i : Int)).fTime (-1) (i : Int)
def ag0 (rs : List (List Hop)) (sent : List Snt) : List Ev := (List.range sent.length).flatMap (y3z rs sent)
def init (c : Cf) (rs : List (List Hop)) (sent : List Snt) : St := ⟨ag0 rs sent, [], [], y2D c⟩
theorem y5R {i : Nat} {e : Ev} : e ∈ y3z rs sent i ↔ ∃ h ∈ route rs sent (i : Int), h.fNode = (nth (route rs sent (i : Int)) 0).fNode ∧ e = ⟨(nth sent (i : Int)).fTime, -1, (nth sent (i : Int)).fVL, (i : Int), h⟩ := y4m
theorem y8r {e : Ev} : e ∈ ag0 rs sent ↔ ∃ i : Nat, i < sent.length ∧ ∃ h ∈ route rs sent (i : Int), h.fNode = (nth (route rs sent (i : Int)) 0).fNode ∧ e = ⟨(nth sent (i : Int)).fTime, -1, (nth sent (i : Int)).fVL, (i : Int), h⟩ := by
 unfold ag0
 rw [List.mem_flatMap]
 constructor
 ·rintro ⟨i, hi, he⟩; exact ⟨i, List.mem_range.1 hi, y5R.1 he⟩
 ·rintro ⟨i, hi, he⟩; exact ⟨i, List.mem_range.2 hi, y5R.2 he⟩
theorem uk_fresh (g : Sg c net rs sent) {k : Ex} (h : UK rs sent k) : PI (y2D c k) := by
 obtain ⟨s, x, hs, hx, rfl⟩ := h
 exact fresh_PI g.small ((g.route hs).hv x hx)
theorem y5p (g : Sg c net rs sent) : IV c net rs sent (init c rs sent) [] := by
 have hm : ∀ e ∈ (init c rs sent).ag, ∃ i : Nat, i < sent.length ∧ ∃ h ∈ route rs sent (i : Int), h.fNode = (nth (route rs sent (i : Int)) 0).fNode ∧ e = ⟨(nth sent (i : Int)).fTime, -1, (nth sent (i : Int)).fVL, (i : Int), h⟩ := fun e he => y8r.1 he
 have hev : ∀ e ∈ (init c rs sent).ag, EOK rs sent e ∧ e.fTime ≤ 536870912 := by
  intro e he
  obtain ⟨i, hi, h, h1, h2, rfl⟩ := hm e he
  have hf := g.fr.each (i : Int) (by omega) (by omega)
  exact ⟨⟨⟨by simp, by simp; omega⟩, rfl, h1, hf.1⟩, hf.2.1⟩
 refine ⟨fun e he => (hev e he).1, fun e he => by simpa using (hev e he).2, ?_, by simp, ?_, ?_, ?_, fun k => rfl, by simp [init]⟩
 ·rw [List.nil_append]
  show ((ag0 rs sent).map y19).Nodup
  unfold ag0
  rw [List.map_flatMap, List.nodup_iff_pairwise_ne, List.pairwise_flatMap]
  constructor
  ·intro i hi
   unfold y3z news
   rw [List.map_map]
   refine List.Pairwise.map _ (R := fun a b => a ≠ b) (fun a b hab hc' => hab (by simpa [y19] using hc')) ?_
   exact ((g.route ⟨by omega, by have := List.mem_range.1 hi; omega⟩).nodup).filter _
  ·refine (List.nodup_iff_pairwise_ne.1 List.nodup_range).imp_of_mem ?_
   intro i j hi hj hij x hx y hy hxy
   obtain ⟨a, ha, rfl⟩ := List.mem_map.1 hx
   obtain ⟨b, hb, rfl⟩ := List.mem_map.1 hy
   obtain ⟨h, _, _, rfl⟩ := y5R.1 ha
   obtain ⟨h', _, _, rfl⟩ := y5R.1 hb
   have := congrArg Prod.fst hxy
   simp [y19] at this
   omega
 ·intro x hx
  rw [List.nil_append] at hx
  obtain ⟨e, he, rfl⟩ := List.mem_map.1 hx
  obtain ⟨i, hi, h, h1, h2, rfl⟩ := hm e he
  exact .inl h2
 ·intro k hk
  have := uk_fresh g hk
  exact ⟨this, by simp [init, y2D], by simp [init, y2D]⟩
 ·intro k hk e he
  exact (hev e he).1.t
theorem y9n (v : Nat) (h : v < sent.length) : ((List.range (v + 1)).flatMap (y3z rs sent)) = (List.range v).flatMap (y3z rs sent) ++ y3z rs sent v := by
 rw [List.range_succ, List.flatMap_append]; simp
theorem y8s (g : Sg c net rs sent) {k : List Ev → Option (List Cm × List Cm × Int)} : ∀ (n : Nat) (v : Int) (ag : List Ev), 0 ≤ v → v ≤ sent.length → sent.length < n + v → HP ag ag.length → ag.Perm ((List.range v.toNat).flatMap (y3z rs sent)) →
  ∃ ag', y2s sent rs c k n v ag = k ag' ∧ ag'.Perm (ag0 rs sent) ∧ HP ag' ag'.length
 | 0, v, ag, h0, h1, h2, h3, h4 => by omega
 | n + 1, v, ag, h0, h1, h2, h3, h4 => by
  rw [y2s]
  by_cases h : v < sent.length
  ·rw [if_pos (decide_eq_true h)]
   have hl40 := g.fr.len
   refine y1H (P := fun o => ∃ ag', o = k ag' ∧ ag'.Perm (ag0 rs sent) ∧ HP ag' ag'.length) fun kk hkk => ?_
   have hvl := g.vl ⟨h0, h⟩
   have hvr := g.route ⟨h0, h⟩
   have e1 : (v + 1).toNat = v.toNat + 1 := by omega
   have e2 : ((v.toNat : Nat) : Int) = v := Int.toNat_of_nonneg h0
   rw [yn ⟨h0, h⟩, yn hvl]
   have hlen : ag.length ≤ 1280 := by
    rw [h4.length_eq]
    have h5 := y5Z (f := y3z rs sent) (m := 32) (List.range v.toNat) (fun i hi => by
     have hi' := List.mem_range.1 hi
     unfold y3z news
     rw [List.length_map]
     exact Nat.le_trans (List.length_filter_le _ _) (g.route ⟨by omega, by omega⟩).len)
    rw [List.length_range] at h5
    have := g.fr.len
    omega
   by_cases hr : (((nth rs ((nth sent v).fVL)).length : Nat) : Int) > 0
   ·rw [if_pos (decide_eq_true hr), yn ⟨by omega, hr⟩]
    obtain ⟨a1, q1, q2, q3⟩ := y9k (c := c) (mp := ([] : List (Ex × Pt))) (come := []) (lost := []) (node := (nth (nth rs ((nth sent v).fVL)) 0).fNode) (t := (nth sent v).fTime) (i := -1) ⟨h0, h⟩ hvl (Nat.le_trans hvr.len (by omega)) h3 (by omega)
    rw [q1]
    simp only [Option.bind_some]
    rw [hkk, ym (x := v + 1) (by omega)]
    refine y8s g n (v + 1) a1 (by omega) (by omega) (by omega) q3 ?_
    rw [e1, y9n v.toNat (by omega)]
    refine q2.trans (List.perm_append_comm.trans (h4.append_right _).symm.symm |>.trans ?_)
    unfold y3z route
    rw [e2]
   ·rw [if_neg (by simpa using hr), hkk, ym (x := v + 1) (by omega)]
    refine y8s g n (v + 1) ag (by omega) (by omega) (by omega) h3 ?_
    rw [e1, y9n v.toNat (by omega)]
    have hz : y3z rs sent v.toNat = [] := by
     unfold y3z news
     rw [e2, List.eq_nil_of_length_eq_zero (l := nth rs (nth sent v).fVL) (by omega)]; rfl
    rw [hz, List.append_nil]; exact h4
  ·rw [if_neg (by simpa using h)]
   refine ⟨ag, rfl, ?_, h3⟩
   have : v.toNat = sent.length := by omega
   rw [this] at h4; exact h4
theorem EOK.ec (g : Sg c net rs sent) {e : Ev} (h : EOK rs sent e) : EC c net rs sent e := ⟨(g.route h.s).hv _ h.h, h.s, g.vl h.s⟩
theorem y9Z (g : Sg c net rs sent) {k : List Ev → List Cm → List Cm → List (Ex × Pt) → Option (List Cm × List Cm × Int)} : ∀ (N : Nat) (D : List Id) (ag : List Ev) (come lost : List Cm) (mp : List (Ex × Pt)),
  IV c net rs sent ⟨ag, come, lost, y34 c mp⟩ D → HP ag ag.length → 1281 ≤ N + D.length →
  ∃ n F mp', Runs c rs sent n ⟨ag, come, lost, y34 c mp⟩ F ∧ y2t c rs sent k N ag come lost mp = k [] F.come F.lost mp'
 | 0, D, ag, come, lost, mp, h, hp, hN => by have := h.len g; omega
 | N + 1, D, ag, come, lost, mp, h, hp, hN => by
  have hlen := h.len g
  have hcl := h.cl
  rw [y2t]
  by_cases h0 : ag = []
  ·subst h0
   rw [if_neg (by simp)]
   exact ⟨0, ⟨[], come, lost, y34 c mp⟩, mp, .done rfl (EQ.refl _), rfl⟩
  ·have hpos : (((ag.length : Nat) : Int) > 0) := by cases ag with | nil => exact absurd rfl h0 | cons => simp
   rw [if_pos (decide_eq_true hpos)]
   simp only at hlen hcl
   obtain ⟨e, rest, ag', mp', p1, p2, p3, p4, p5, p6⟩ := step_eq (c := c) (net := net) (rs := rs) (sent := sent) (mp := mp) (come := come) (lost := lost) g.small h0 hp (by omega) (by omega) (by omega) (fun e he => (h.ev e he).ec g)
    (fun e he => (h.pi _ ⟨e.fSent, e.fHop, (h.ev e he).s, (h.ev e he).h, rfl⟩).1) (fun r hr => Nat.le_trans (g.va.each r hr).len (by omega))
   rw [p3]
   simp only [Option.bind_some]
   have heq : EQ (y1a c rs sent e rest ⟨ag, come, lost, y34 c mp⟩) ⟨ag', (y1a c rs sent e rest ⟨ag, come, lost, y34 c mp⟩).come, (y1a c rs sent e rest ⟨ag, come, lost, y34 c mp⟩).lost, y34 c mp'⟩ := ⟨p4.symm, .refl _, .refl _, p6.symm⟩
   have hiv := (y4F g h p1 p2).eq heq
   obtain ⟨n, F, mp'', r1, r2⟩ := y9Z g (k := k) N (y19 e :: D) ag' _ _ mp' hiv p5 (by rw [List.length_cons]; omega)
   exact ⟨n + 1, F, mp'', .step e rest p1 p2 heq r1, r2⟩
theorem jp4_ex {R A0 A1 A2 A3 : Type} {K : A0 → A1 → A2 → A3 → Option R} {F : (A0 → A1 → A2 → A3 → Option R) → Option R} {P : Option R → Prop} (h : ∀ k : A0 → A1 → A2 → A3 → Option R, (∀ x0 x1 x2 x3, k x0 x1 x2 x3 = K x0 x1 x2 x3) → P (F k)) : P (jp4 K F) := h K fun _ _ _ _ => rfl
theorem Run_eq0 (g : Sg c net rs sent) : ∃ n F, Runs c rs sent n (init c rs sent) F ∧ y2H c net rs sent = (y1i F.come).bind fun a => (y1i F.lost).bind fun b => some (a, b, 0) := by
 unfold y2H
 obtain ⟨b, hb1, hb2⟩ := y9h g.small (net := net) (rs := rs) (fun r hr => by have := (g.va.each r hr).len; omega) (by have := g.va.most; omega)
 rw [hb1, hb2.2 g.va]
 simp only [Option.bind_some, Bool.not_true, Bool.false_eq_true, if_false]
 obtain ⟨r, hr1, hr2⟩ := yap (c := c) (l := sent) (by have := g.fr.len; omega)
 rw [hr1, hr2.2 ⟨g.fr.each, by have := g.fr.len; omega⟩]
 simp only [Option.bind_some, Bool.not_true, Bool.false_eq_true, if_false]
 have hF := y1d
 generalize ys = N at hF ⊢
 have hsl := g.fr.len
 refine y1H (P := fun o => ∃ n F, Runs c rs sent n (init c rs sent) F ∧ o = (y1i F.come).bind fun a => (y1i F.lost).bind fun b => some (a, b, 0)) fun k hk => ?_
 obtain ⟨ag, q1, q2, q3⟩ := y8s g (k := k) N 0 [] (by omega) (by omega) (by omega) (fun x hx hn => by simp at hn; omega) (by simp)
 rw [q1, hk]
 refine jp4_ex (P := fun o => ∃ n F, Runs c rs sent n (init c rs sent) F ∧ o = (y1i F.come).bind fun a => (y1i F.lost).bind fun b => some (a, b, 0)) fun k4 hk4 => ?_
 have heq : EQ (init c rs sent) ⟨ag, [], [], y34 c []⟩ := ⟨q2.symm, .refl _, .refl _, rfl⟩
 obtain ⟨n, F, mp', r1, r2⟩ := y9Z g (k := k4) N [] ag [] [] [] ((y5p g).eq heq) q3 (by simp; omega)
 obtain ⟨F', r3, r4⟩ := r1.trans_eq heq.symm
 rw [r2, hk4]
 -- the run from the start, with the code's own lists at its end
 exact ⟨n, F, by
  cases r1 with
  | done h0 k0 => exact .done (by have := heq.ag; rw [h0] at this; exact List.perm_nil.1 this) (heq.trans k0)
  | step e rest hp hmin he hr => exact .step e rest (hp.trans heq.ag.symm) (fun x hx => hmin x (heq.ag.mem_iff.1 hx)) ((y5F heq (.refl rest)).trans he) hr, rfl⟩
end
end Go.Proofs.Ytinchjigeakocaa

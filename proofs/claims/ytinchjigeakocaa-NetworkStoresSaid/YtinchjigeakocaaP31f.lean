/- A part of this claim's proof: models of functions, walks, plain laws. No conditions. -/
import Derived.Test.YtinchjigeakocaaP31e
namespace Go.Proofs.Ytinchjigeakocaa
open Go Go.RowKit Sep
set_option linter.all false
section
variable {c : Cf} {net : Int} {rs : List (List Hop)} {sent : List Snt}
inductive Runs (c : Cf) (rs : List (List Hop)) (sent : List Snt) : Nat → St → St → Prop
 | done {S T : St} (h : S.ag = []) (k : EQ S T) : Runs c rs sent 0 S T
 | step {S S' T : St} {n : Nat} (e : Ev) (rest : List Ev) (hp : (e :: rest).Perm S.ag) (hmin : ∀ x ∈ S.ag, kle e x) (heq : EQ (y18 c rs sent e rest S) S') (hr : Runs c rs sent n S' T) : Runs c rs sent (n + 1) S T
theorem y5l {S T : St} (h : EQ S T) {e : Ev} {r1 r2 : List Ev} (hr : r1.Perm r2) : EQ (y18 c rs sent e r1 S) (y18 c rs sent e r2 T) := by
 unfold y18
 rw [h.pf]
 split
 ·exact ⟨hr, h.come, h.lost.append_right _, rfl⟩
 ·refine ⟨hr.append_left _, ?_, h.lost, rfl⟩
  show (if _ then _ else _ : List Cm).Perm (if _ then _ else _)
  split
  ·exact h.come.append_right _
  ·exact h.come
theorem y8o {α : Type} [DecidableEq α] {e : α} {r1 r2 l m : List α} (h1 : (e :: r1).Perm l) (h2 : (e :: r2).Perm m) (h : l.Perm m) : r1.Perm r2 :=
 ((h1.trans h).trans h2.symm).cons_inv
theorem Runs.trans_eq : ∀ {n : Nat} {S T F : St}, Runs c rs sent n S F → EQ S T → ∃ F', Runs c rs sent n T F' ∧ EQ F F'
 | _, S, T, F, .done h k, q => ⟨T, .done (by have := q.ag; rw [h] at this; exact List.perm_nil.1 this.symm) (EQ.refl _), k.symm.trans q⟩
 | _, S, T, F, .step e rest hp hmin heq hr, q => by
  refine ⟨F, .step e rest (hp.trans q.ag) (fun x hx => hmin x (q.ag.mem_iff.2 hx)) ((y5l q (.refl rest)).symm.trans heq) hr, EQ.refl _⟩
theorem Runs.fin {n : Nat} {S F : St} (h : Runs c rs sent n S F) : F.ag = [] := by
 induction h with
 | done h k => have := k.ag; rw [h] at this; exact List.perm_nil.1 this.symm
 | step _ _ _ _ _ _ ih => exact ih
theorem idOf_inj (g : Sg c net rs sent) {S : St} {D : List Id} (h : IV c net rs sent S D) {a b : Ev} (ha : a ∈ S.ag) (hb : b ∈ S.ag) (e : y15 a = y15 b) : a = b := by
 have hn := (List.nodup_append.1 h.nd).2.1
 obtain ⟨i, hi, rfl⟩ := List.getElem_of_mem ha
 obtain ⟨j, hj, rfl⟩ := List.getElem_of_mem hb
 rw [List.nodup_iff_pairwise_ne, List.pairwise_iff_getElem] at hn
 rcases Nat.lt_trichotomy i j with hij | hij | hij
 ·exact absurd (show (S.ag.map y15)[i]'(by simpa using hi) = (S.ag.map y15)[j]'(by simpa using hj) by rw [List.getElem_map, List.getElem_map]; exact e) (hn i j (by simpa using hi) (by simpa using hj) hij)
 ·subst hij; rfl
 ·exact absurd (by rw [List.getElem_map, List.getElem_map]; exact e.symm) (hn j i (by simpa using hj) (by simpa using hi) hij)
theorem kle_tie {a b : Ev} (h : kle a b) (k : kle b a) : a.fTime = b.fTime ∧ a.fSent = b.fSent := by unfold kle klt at *; omega
theorem y5E {a b : Ev} (h : a.fTime < b.fTime) : kle a b := by unfold kle klt; omega
def ans (c : Cf) (sent : List Snt) (S : St) (e : Ev) : Int × Int × Pt := y1G (S.pf (yq e.fHop)) e.fTime (nth sent e.fSent).fSize
theorem upd_comm {pf : Ex → Pt} {k1 k2 : Ex} {p1 p2 : Pt} (h : k1 ≠ k2) : upd (upd pf k1 p1) k2 p2 = upd (upd pf k2 p2) k1 p1 := by
 funext k
 unfold upd
 by_cases e1 : k = k1
 ·subst e1; simp [h]
 ·by_cases e2 : k = k2
  ·subst e2; simp [e1]
  ·simp [e1, e2]
theorem upd_ne {pf : Ex → Pt} {k1 k2 : Ex} {p1 : Pt} (h : k2 ≠ k1) : upd pf k1 p1 k2 = pf k2 := by unfold upd; rw [if_neg h]
theorem y8V {α : Type} (l : List α) (a b : List α) : (l ++ a ++ b).Perm (l ++ b ++ a) := by
 rw [List.append_assoc, List.append_assoc]
 exact (List.perm_append_comm).append_left l
theorem y9w (g : Sg c net rs sent) {S : St} {D : List Id} (h : IV c net rs sent S D) {e1 e2 : Ev} {r1 r2 : List Ev} (hp1 : (e1 :: r1).Perm S.ag) (hp2 : (e2 :: r2).Perm S.ag) (hm1 : ∀ x ∈ S.ag, kle e1 x) (hm2 : ∀ x ∈ S.ag, kle e2 x) (hne : e1 ≠ e2) :
  ∃ q1 q2, (e2 :: q1).Perm (y18 c rs sent e1 r1 S).ag ∧ (∀ x ∈ (y18 c rs sent e1 r1 S).ag, kle e2 x) ∧ (e1 :: q2).Perm (y18 c rs sent e2 r2 S).ag ∧ (∀ x ∈ (y18 c rs sent e2 r2 S).ag, kle e1 x) ∧
   EQ (y18 c rs sent e2 q1 (y18 c rs sent e1 r1 S)) (y18 c rs sent e1 q2 (y18 c rs sent e2 r2 S)) := by
 have a1 : e1 ∈ S.ag := hp1.mem_iff.1 (by simp)
 have a2 : e2 ∈ S.ag := hp2.mem_iff.1 (by simp)
 have tie := kle_tie (hm1 e2 a2) (hm2 e1 a1)
 have o1 := h.ev e1 a1
 have o2 := h.ev e2 a2
 have hk : yq e1.fHop ≠ yq e2.fHop := by
  intro hk
  have hl : e1.fHop.fLink = e2.fHop.fLink := by have := congrArg Snetwork_exit.fLink hk; exact this
  have := (g.route o1.s).link_inj o1.h (by rw [tie.2]; exact o2.h) hl
  exact hne (idOf_inj g h a1 a2 (by unfold y15; rw [tie.2, this]))
 -- the rest without both
 have b2 : e2 ∈ r1 := by
  rcases List.mem_cons.1 (hp1.mem_iff.2 a2) with e | e
  ·exact absurd e.symm hne
  ·exact e
 have b1 : e1 ∈ r2 := by
  rcases List.mem_cons.1 (hp2.mem_iff.2 a1) with e | e
  ·exact absurd e hne
  ·exact e
 have d1 : (e2 :: r1.erase e2).Perm r1 := (List.perm_cons_erase b2).symm
 have d2 : (e1 :: r2.erase e1).Perm r2 := (List.perm_cons_erase b1).symm
 have d3 : (r1.erase e2).Perm (r2.erase e1) := by
  have x1 : (e1 :: e2 :: r1.erase e2).Perm S.ag := (d1.cons e1).trans hp1
  have x2 : (e2 :: e1 :: r2.erase e1).Perm S.ag := (d2.cons e2).trans hp2
  exact ((x1.trans x2.symm).trans (List.Perm.swap e1 e2 _)).cons_inv.cons_inv
 have hend : ∀ e ∈ S.ag, ∀ x ∈ news rs sent e.fHop.fNext (ans c sent S e).1 e.fHop.fLink e.fSent, (ans c sent S e).2.1 = 0 → e.fTime < x.fTime := by
  intro e he x hx h0
  have o := h.ev e he
  have uk : UK rs sent (yq e.fHop) := ⟨e.fSent, e.fHop, o.s, o.h, rfl⟩
  obtain ⟨p1, p2, p3⟩ := h.pi _ uk
  have hsz := (g.fr.each e.fSent o.s.1 o.s.2).2.2.2.2
  have hlen := h.len g
  have ht := h.tm e he
  have hc := y6O p1 (size := (nth sent e.fSent).fSize) ⟨hsz.1, hsz.2.1⟩ (t := e.fTime) ⟨h.now _ uk e he, by omega⟩
  obtain ⟨y, _, _, rfl⟩ := y4O.1 hx
  show e.fTime < (ans c sent S e).1
  rcases hc.2.2.2.1 with ⟨q, _⟩ | ⟨_, q, _⟩
  ·unfold ans at h0; rw [q] at h0; cases h0
  ·unfold ans; rw [q]; omega
 have hz : ∀ e ∈ S.ag, ¬ ((ans c sent S e).2.1 ≠ 0) → (ans c sent S e).2.1 = 0 := fun e he hn => Classical.byContradiction hn
 have pf12 : ∀ r, (y18 c rs sent e1 r S).pf = upd S.pf (yq e1.fHop) (ans c sent S e1).2.2 := fun r => by unfold y18 ans; split <;> rfl
 have pf21 : ∀ r, (y18 c rs sent e2 r S).pf = upd S.pf (yq e2.fHop) (ans c sent S e2).2.2 := fun r => by unfold y18 ans; split <;> rfl
 have ans2 : ∀ r, ans c sent (y18 c rs sent e1 r S) e2 = ans c sent S e2 := fun r => by unfold ans; rw [pf12, upd_ne hk.symm]
 have ans1 : ∀ r, ans c sent (y18 c rs sent e2 r S) e1 = ans c sent S e1 := fun r => by unfold ans; rw [pf21, upd_ne hk]
 -- a step, by its answer
 have sF : ∀ (S' : St) (e : Ev) (r : List Ev), y18 c rs sent e r S' = if (ans c sent S' e).2.1 ≠ 0 then ⟨r, S'.come, S'.lost ++ [⟨e.fSent, e.fHop.fNode, e.fTime⟩], upd S'.pf (yq e.fHop) (ans c sent S' e).2.2⟩
   else ⟨news rs sent e.fHop.fNext (ans c sent S' e).1 e.fHop.fLink e.fSent ++ r, if e.fHop.fNext < nM c then S'.come ++ [⟨e.fSent, e.fHop.fNext, (ans c sent S' e).1⟩] else S'.come, S'.lost, upd S'.pf (yq e.fHop) (ans c sent S' e).2.2⟩ := fun S' e r => rfl
 let A1 : List Ev := if (ans c sent S e1).2.1 ≠ 0 then [] else news rs sent e1.fHop.fNext (ans c sent S e1).1 e1.fHop.fLink e1.fSent
 let A2 : List Ev := if (ans c sent S e2).2.1 ≠ 0 then [] else news rs sent e2.fHop.fNext (ans c sent S e2).1 e2.fHop.fLink e2.fSent
 have ag1 : ∀ r, (y18 c rs sent e1 r S).ag = A1 ++ r := fun r => by rw [sF]; show (if _ then _ else _ : St).ag = (if _ then _ else _ : List Ev) ++ r; split <;> simp
 have ag2 : ∀ r, (y18 c rs sent e2 r S).ag = A2 ++ r := fun r => by rw [sF]; show (if _ then _ else _ : St).ag = (if _ then _ else _ : List Ev) ++ r; split <;> simp
 have lt1 : ∀ x ∈ A1, e1.fTime < x.fTime := by
  intro x hx
  by_cases hq : (ans c sent S e1).2.1 ≠ 0
  ·have : A1 = [] := if_pos hq
   rw [this] at hx; cases hx
  ·have : A1 = news rs sent e1.fHop.fNext (ans c sent S e1).1 e1.fHop.fLink e1.fSent := if_neg hq
   rw [this] at hx; exact hend e1 a1 x hx (hz e1 a1 hq)
 have lt2 : ∀ x ∈ A2, e2.fTime < x.fTime := by
  intro x hx
  by_cases hq : (ans c sent S e2).2.1 ≠ 0
  ·have : A2 = [] := if_pos hq
   rw [this] at hx; cases hx
  ·have : A2 = news rs sent e2.fHop.fNext (ans c sent S e2).1 e2.fHop.fLink e2.fSent := if_neg hq
   rw [this] at hx; exact hend e2 a2 x hx (hz e2 a2 hq)
 refine ⟨A1 ++ r1.erase e2, A2 ++ r2.erase e1, ?_, ?_, ?_, ?_, ?_⟩
 ·rw [ag1]
  exact (List.perm_middle (l₁ := A1) (a := e2) (l₂ := r1.erase e2)).symm.trans (d1.append_left A1)
 ·rw [ag1]
  intro x hx
  rcases List.mem_append.1 hx with hx | hx
  ·exact y5E (by have := lt1 x hx; omega)
  ·exact hm2 x (hp1.mem_iff.1 (List.mem_cons_of_mem _ hx))
 ·rw [ag2]
  exact (List.perm_middle (l₁ := A2) (a := e1) (l₂ := r2.erase e1)).symm.trans (d2.append_left A2)
 ·rw [ag2]
  intro x hx
  rcases List.mem_append.1 hx with hx | hx
  ·exact y5E (by have := lt2 x hx; omega)
  ·exact hm1 x (hp2.mem_iff.1 (List.mem_cons_of_mem _ hx))
 ·rw [sF (y18 c rs sent e1 r1 S) e2, sF (y18 c rs sent e2 r2 S) e1, ans2, ans1, pf12, pf21]
  have c1 : (y18 c rs sent e1 r1 S).come = (if (ans c sent S e1).2.1 ≠ 0 then S.come else if e1.fHop.fNext < nM c then S.come ++ [⟨e1.fSent, e1.fHop.fNext, (ans c sent S e1).1⟩] else S.come) := by rw [sF]; split <;> rfl
  have c2 : (y18 c rs sent e2 r2 S).come = (if (ans c sent S e2).2.1 ≠ 0 then S.come else if e2.fHop.fNext < nM c then S.come ++ [⟨e2.fSent, e2.fHop.fNext, (ans c sent S e2).1⟩] else S.come) := by rw [sF]; split <;> rfl
  have l1 : (y18 c rs sent e1 r1 S).lost = (if (ans c sent S e1).2.1 ≠ 0 then S.lost ++ [⟨e1.fSent, e1.fHop.fNode, e1.fTime⟩] else S.lost) := by rw [sF]; split <;> rfl
  have l2 : (y18 c rs sent e2 r2 S).lost = (if (ans c sent S e2).2.1 ≠ 0 then S.lost ++ [⟨e2.fSent, e2.fHop.fNode, e2.fTime⟩] else S.lost) := by rw [sF]; split <;> rfl
  rw [c1, c2, l1, l2]
  have pfc := upd_comm (pf := S.pf) (p1 := (ans c sent S e1).2.2) (p2 := (ans c sent S e2).2.2) hk
  have agp : (A2 ++ (A1 ++ r1.erase e2)).Perm (A1 ++ (A2 ++ r2.erase e1)) := by
   rw [← List.append_assoc, ← List.append_assoc]
   exact (List.perm_append_comm.append_right _).trans (d3.append_left _)
  by_cases q1 : (ans c sent S e1).2.1 ≠ 0
  ·have hA1 : A1 = [] := if_pos q1
   by_cases q2 : (ans c sent S e2).2.1 ≠ 0
   ·have hA2 : A2 = [] := if_pos q2
    rw [if_pos q2, if_pos q1, if_pos q1, if_pos q1, if_pos q2, if_pos q2]
    refine ⟨?_, .refl _, y8V _ _ _, pfc⟩
    show (A1 ++ r1.erase e2).Perm (A2 ++ r2.erase e1)
    rw [hA1, hA2] at agp ⊢
    simpa using agp
   ·have hA2 : A2 = news rs sent e2.fHop.fNext (ans c sent S e2).1 e2.fHop.fLink e2.fSent := if_neg q2
    rw [if_neg q2, if_pos q1, if_pos q1, if_pos q1, if_neg q2, if_neg q2]
    refine ⟨?_, .refl _, .refl _, pfc⟩
    show (news rs sent e2.fHop.fNext (ans c sent S e2).1 e2.fHop.fLink e2.fSent ++ (A1 ++ r1.erase e2)).Perm (A2 ++ r2.erase e1)
    rw [← hA2]
    rw [hA1] at agp ⊢
    simpa using agp
  ·have hA1 : A1 = news rs sent e1.fHop.fNext (ans c sent S e1).1 e1.fHop.fLink e1.fSent := if_neg q1
   by_cases q2 : (ans c sent S e2).2.1 ≠ 0
   ·have hA2 : A2 = [] := if_pos q2
    rw [if_pos q2, if_neg q1, if_neg q1, if_neg q1, if_pos q2, if_pos q2]
    refine ⟨?_, .refl _, .refl _, pfc⟩
    show (A1 ++ r1.erase e2).Perm (news rs sent e1.fHop.fNext (ans c sent S e1).1 e1.fHop.fLink e1.fSent ++ (A2 ++ r2.erase e1))
    rw [← hA1]
    rw [hA2] at agp ⊢
    simpa using agp
   ·have hA2 : A2 = news rs sent e2.fHop.fNext (ans c sent S e2).1 e2.fHop.fLink e2.fSent := if_neg q2
    rw [if_neg q2, if_neg q1, if_neg q1, if_neg q1, if_neg q2, if_neg q2]
    refine ⟨?_, ?_, .refl _, pfc⟩
    ·show (news rs sent e2.fHop.fNext (ans c sent S e2).1 e2.fHop.fLink e2.fSent ++ (A1 ++ r1.erase e2)).Perm (news rs sent e1.fHop.fNext (ans c sent S e1).1 e1.fHop.fLink e1.fSent ++ (A2 ++ r2.erase e1))
     rw [← hA2, ← hA1]
     exact agp
    ·show (if _ then (if _ then _ else _) ++ _ else (if _ then _ else _) : List Cm).Perm (if _ then (if _ then _ else _) ++ _ else (if _ then _ else _))
     by_cases n1 : e1.fHop.fNext < nM c
     ·by_cases n2 : e2.fHop.fNext < nM c
      ·simp only [n1, n2, if_true]; exact y8V _ _ _
      ·simp only [n1, n2, if_true, if_false]; exact .refl _
     ·by_cases n2 : e2.fHop.fNext < nM c
      ·simp only [n1, n2, if_true, if_false]; exact .refl _
      ·simp only [n1, n2, if_false]; exact .refl _
theorem uniq (g : Sg c net rs sent) : ∀ (n : Nat) {S F : St} {D : List Id}, IV c net rs sent S D → Runs c rs sent (n + 1) S F → ∀ (e : Ev) (rest : List Ev), (e :: rest).Perm S.ag → (∀ x ∈ S.ag, kle e x) →
  ∃ F', Runs c rs sent n (y18 c rs sent e rest S) F' ∧ EQ F F' := by
 intro n
 induction n with
 | zero =>
  intro S F D h hr e rest hp hmin
  cases hr with
  | step e1 r1 hp1 hm1 heq hr1 =>
   by_cases he : e1 = e
   ·subst he
    exact hr1.trans_eq (heq.symm.trans (y5l (EQ.refl S) (y8o hp1 hp (.refl _))))
   ·exfalso
    obtain ⟨q1, q2, x1, _⟩ := y9w g h hp1 hp hm1 hmin he
    cases hr1 with
    | done h0 _ =>
     have := heq.ag; rw [h0] at this
     have := (x1.trans this).length_eq
     simp at this
 | succ n ih =>
  intro S F D h hr e rest hp hmin
  cases hr with
  | step e1 r1 hp1 hm1 heq hr1 =>
   by_cases he : e1 = e
   ·subst he
    exact hr1.trans_eq (heq.symm.trans (y5l (EQ.refl S) (y8o hp1 hp (.refl _))))
   ·obtain ⟨q1, q2, x1, x2, x3, x4, x5⟩ := y9w g h hp1 hp hm1 hmin he
    obtain ⟨F0, hr0, hf0⟩ := hr1.trans_eq heq.symm
    obtain ⟨F1, hr2, hf1⟩ := ih (y63 g h hp1 hm1) hr0 e q1 x1 x2
    obtain ⟨F2, hr3, hf2⟩ := hr2.trans_eq x5
    exact ⟨F2, .step e1 q2 x3 x4 (EQ.refl _) hr3, (hf0.trans hf1).trans hf2⟩
theorem confl (g : Sg c net rs sent) : ∀ {m : Nat} {T F' : St}, Runs c rs sent m T F' → ∀ {n : Nat} {S F : St} {D : List Id}, IV c net rs sent S D → Runs c rs sent n S F → EQ S T → n = m ∧ EQ F F' := by
 intro m T F' hr
 induction hr with
 | @done T F' h0 k =>
  intro n S F D h hs q
  have hn : S.ag = [] := by have := q.ag; rw [h0] at this; exact List.perm_nil.1 this
  cases hs with
  | done _ k2 => exact ⟨rfl, (k2.symm.trans q).trans k⟩
  | step e r hp _ _ _ => rw [hn] at hp; have := hp.length_eq; simp at this
 | @step T T' F' m e rest hp hmin heq hr ih =>
  intro n S F D h hs q
  cases n with
  | zero =>
   cases hs with
   | done h0 _ =>
    have := q.ag; rw [h0] at this
    have := (hp.trans this.symm).length_eq; simp at this
  | succ n =>
   have hp' : (e :: rest).Perm S.ag := hp.trans q.ag.symm
   have hmin' : ∀ x ∈ S.ag, kle e x := fun x hx => hmin x (q.ag.mem_iff.1 hx)
   obtain ⟨F1, hr1, hf⟩ := uniq g n h hs e rest hp' hmin'
   obtain ⟨e1, e2⟩ := ih (y63 g h hp' hmin') hr1 ((y5l q (.refl rest)).trans heq)
   exact ⟨by omega, hf.trans e2⟩
end
end Go.Proofs.Ytinchjigeakocaa

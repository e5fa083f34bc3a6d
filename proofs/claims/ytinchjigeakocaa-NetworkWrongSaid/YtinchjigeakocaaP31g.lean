/- A part of this claim's proof: models of functions, walks, plain laws. No conditions. -/
import Derived.Test.YtinchjigeakocaaP31d
namespace Go.Proofs.Ytinchjigeakocaa
open Go Go.RowKit Sep
set_option linter.all false
/-! ### valid routes, by their members -/
theorem RK.mono {r : List Hop} {v w k : Int} (h : RK r v k) (hv : v ≤ w) : RK r w k := by
 rcases h with h | ⟨q, a, b, e⟩
 ·exact .inl h
 ·exact .inr ⟨q, a, by omega, e⟩
theorem VR.hv {c : Cf} {net : Int} {r : List Hop} (h : VR c net r) : ∀ x ∈ r, HV c net x := by
 intro x hx
 obtain ⟨i, hi, rfl⟩ := List.getElem_of_mem hx
 have := (h.cond (i : Int) (by omega) (by omega)).2.2.2
 rw [y6P ⟨by omega, by omega⟩] at this
 unfold HV
 simpa using this
/-! ### the setting -/
structure Sg (c : Cf) (net : Int) (rs : List (List Hop)) (sent : List Snt) : Prop where
 small : Small c
 va : VA c net rs
 fr : FRm c 40 sent
abbrev Id := Int × Hop
def idOf (e : Ev) : Id := (e.fSent, e.fHop)
def route (rs : List (List Hop)) (sent : List Snt) (s : Int) : List Hop := nth rs (nth sent s).fVL
section
variable {c : Cf} {net : Int} {rs : List (List Hop)} {sent : List Snt}
theorem Sg.vl (g : Sg c net rs sent) {s : Int} (h : 0 ≤ s ∧ s < sent.length) : 0 ≤ (nth sent s).fVL ∧ (nth sent s).fVL < rs.length := by
 have := g.fr.each s h.1 h.2
 have hl := g.va.len
 exact ⟨this.2.2.1, by have := this.2.2.2.1; omega⟩
theorem Sg.route (g : Sg c net rs sent) {s : Int} (h : 0 ≤ s ∧ s < sent.length) : VR c net (route rs sent s) := g.va.each _ (y6f (g.vl h).1 (g.vl h).2)
def y5A (rs : List (List Hop)) (sent : List Snt) : List Id := (List.range sent.length).flatMap fun i : Nat => (route rs sent (i : Int)).map fun h => ((i : Int), h)
theorem y8h {x : Id} : x ∈ y5A rs sent ↔ (0 ≤ x.1 ∧ x.1 < sent.length) ∧ x.2 ∈ route rs sent x.1 := by
 unfold y5A
 simp only [List.mem_flatMap, List.mem_range, List.mem_map]
 constructor
 ·rintro ⟨i, hi, h, hh, rfl⟩; exact ⟨⟨by simp, by simp; omega⟩, hh⟩
 ·rintro ⟨⟨h1, h2⟩, h3⟩
  exact ⟨x.1.toNat, by omega, x.2, by rw [Int.toNat_of_nonneg h1]; exact h3, by rw [Int.toNat_of_nonneg h1]⟩
theorem y6r {α β : Type} {f : α → List β} {m : Nat} : ∀ (l : List α), (∀ x ∈ l, (f x).length ≤ m) → (l.flatMap f).length ≤ l.length * m
 | [], _ => by simp
 | x :: l, h => by
  rw [List.flatMap_cons, List.length_append, List.length_cons, Nat.succ_mul]
  have h1 := h x (by simp)
  have h2 := y6r l (fun y hy => h y (List.mem_cons_of_mem _ hy))
  omega
theorem Sg.ids_len (g : Sg c net rs sent) : (y5A rs sent).length ≤ 1280 := by
 have h1 := y6r (f := fun i : Nat => (Go.Proofs.Ytinchjigeakocaa.route rs sent (i : Int)).map fun h => ((i : Int), h)) (m := 32) (List.range sent.length) (fun i hi => by
  rw [List.length_map]
  exact (g.route ⟨by omega, by have := List.mem_range.1 hi; omega⟩).len)
 rw [List.length_range] at h1
 have := g.fr.len
 unfold y5A; omega
theorem y7l {α : Type} [DecidableEq α] : ∀ (l m : List α), l.Nodup → (∀ x ∈ l, x ∈ m) → l.length ≤ m.length
 | [], m, _, _ => by simp
 | x :: l, m, h, hm => by
  have hx := hm x (by simp)
  rw [List.nodup_cons] at h
  have := y7l l (m.erase x) h.2 (fun y hy => (List.mem_erase_of_ne (fun e => h.1 (by rw [← e]; exact hy))).2 (hm y (List.mem_cons_of_mem _ hy)))
  rw [List.length_erase_of_mem hx] at this
  have hp : 0 < m.length := List.length_pos_of_mem hx
  rw [List.length_cons]; omega
def UK (rs : List (List Hop)) (sent : List Snt) (k : Ex) : Prop := ∃ s h, (0 ≤ s ∧ s < (sent.length : Int)) ∧ h ∈ route rs sent s ∧ exOf h = k
structure EOK (rs : List (List Hop)) (sent : List Snt) (e : Ev) : Prop where
 s : 0 ≤ e.fSent ∧ e.fSent < sent.length
 v : e.fVl = (nth sent e.fSent).fVL
 h : e.fHop ∈ route rs sent e.fSent
 t : 0 ≤ e.fTime
structure IV (c : Cf) (net : Int) (rs : List (List Hop)) (sent : List Snt) (S : St) (D : List Id) : Prop where
 ev : ∀ e ∈ S.ag, EOK rs sent e
 tm : ∀ e ∈ S.ag, e.fTime ≤ 536870912 + 2200 * D.length
 nd : (D ++ S.ag.map idOf).Nodup
 mem : ∀ d ∈ D, d ∈ y5A rs sent
 par : ∀ x ∈ D ++ S.ag.map idOf, x.2.fNode = (nth (route rs sent x.1) 0).fNode ∨ ∃ y ∈ route rs sent x.1, y.fNext = x.2.fNode ∧ (x.1, y) ∈ D
 pi : ∀ k, UK rs sent k → PI (S.pf k) ∧ (S.pf k).fLast ≤ 536870912 + 2200 * D.length ∧ (S.pf k).fFrames.length ≤ D.length
 now : ∀ k, UK rs sent k → ∀ e ∈ S.ag, (S.pf k).fNow ≤ e.fTime
 num : ∀ k, (S.pf k).fNumbers = (freshP c k).fNumbers
 cl : S.come.length + S.lost.length ≤ D.length
structure EQ (S T : St) : Prop where
 ag : S.ag.Perm T.ag
 come : S.come.Perm T.come
 lost : S.lost.Perm T.lost
 pf : S.pf = T.pf
theorem EQ.refl (S : St) : EQ S S := ⟨.refl _, .refl _, .refl _, rfl⟩
theorem EQ.symm {S T : St} (h : EQ S T) : EQ T S := ⟨h.ag.symm, h.come.symm, h.lost.symm, h.pf.symm⟩
theorem EQ.trans {S T U : St} (h : EQ S T) (k : EQ T U) : EQ S U := ⟨h.ag.trans k.ag, h.come.trans k.come, h.lost.trans k.lost, h.pf.trans k.pf⟩
theorem IV.eq {S T : St} {D : List Id} (h : IV c net rs sent S D) (k : EQ S T) : IV c net rs sent T D := by
 have hm : ∀ e, e ∈ T.ag → e ∈ S.ag := fun e he => k.ag.mem_iff.2 he
 have hp : (D ++ S.ag.map idOf).Perm (D ++ T.ag.map idOf) := (k.ag.map idOf).append_left D
 refine ⟨fun e he => h.ev e (hm e he), fun e he => h.tm e (hm e he), (hp.nodup_iff).1 h.nd, h.mem, fun x hx => h.par x (hp.mem_iff.2 hx), ?_, ?_, ?_, ?_⟩
 ·intro q hq; rw [← k.pf]; exact h.pi q hq
 ·intro q hq e he; rw [← k.pf]; exact h.now q hq e (hm e he)
 ·intro q; rw [← k.pf]; exact h.num q
 ·rw [← k.come.length_eq, ← k.lost.length_eq]; exact h.cl
theorem IV.len (g : Sg c net rs sent) {S : St} {D : List Id} (h : IV c net rs sent S D) : D.length + S.ag.length ≤ 1280 := by
 have := y7l _ (y5A rs sent) h.nd (fun x hx => by
  rcases List.mem_append.1 hx with hx | hx
  ·exact h.mem x hx
  ·obtain ⟨e, he, rfl⟩ := List.mem_map.1 hx
   have := h.ev e he
   exact y8h.2 ⟨this.s, this.h⟩)
 rw [List.length_append, List.length_map] at this
 exact Nat.le_trans this g.ids_len
end
end Go.Proofs.Ytinchjigeakocaa
namespace Go.Proofs.Ytinchjigeakocaa
open Go Go.RowKit Sep
set_option linter.all false
section
variable {c : Cf} {net : Int} {rs : List (List Hop)} {sent : List Snt}
inductive Runs (c : Cf) (rs : List (List Hop)) (sent : List Snt) : Nat → St → St → Prop
 | done {S T : St} (h : S.ag = []) (k : EQ S T) : Runs c rs sent 0 S T
 | step {S S' T : St} {n : Nat} (e : Ev) (rest : List Ev) (hp : (e :: rest).Perm S.ag) (hmin : ∀ x ∈ S.ag, kle e x) (heq : EQ (stepF c rs sent e rest S) S') (hr : Runs c rs sent n S' T) : Runs c rs sent (n + 1) S T
theorem Runs.fin {n : Nat} {S F : St} (h : Runs c rs sent n S F) : F.ag = [] := by
 induction h with
 | done h k => have := k.ag; rw [h] at this; exact List.perm_nil.1 this.symm
 | step _ _ _ _ _ _ ih => exact ih
end
end Go.Proofs.Ytinchjigeakocaa
namespace Go.Proofs.Ytinchjigeakocaa
open Go Go.RowKit Sep
set_option linter.all false
section
variable {c : Cf} {net : Int} {rs : List (List Hop)} {sent : List Snt}
def fstEv (rs : List (List Hop)) (sent : List Snt) (i : Nat) : List Ev := news rs sent (nth (route rs sent (i : Int)) 0).fNode (nth sent (i : Int)).fTime (-1) (i : Int)
def ag0 (rs : List (List Hop)) (sent : List Snt) : List Ev := (List.range sent.length).flatMap (fstEv rs sent)
def init (c : Cf) (rs : List (List Hop)) (sent : List Snt) : St := ⟨ag0 rs sent, [], [], freshP c⟩
end
end Go.Proofs.Ytinchjigeakocaa

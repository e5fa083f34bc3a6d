/- A part of this claim's proof: models of functions, walks, plain laws. No conditions. -/
import Derived.Test.YtinchjigeakocaaP31f
namespace Go.Proofs.Ytinchjigeakocaa
open Go Go.RowKit Sep
set_option linter.all false
section
variable {c : Cf} {net : Int} {rs : List (List Hop)} {sent : List Snt}
def y4n (rs : List (List Hop)) (sent : List Snt) (i : Nat) : List Ev := news rs sent (nth (route rs sent (i : Int)) 0).fNode (nth sent (i : Int)).fTime (-1) (i : Int)
def ag0 (rs : List (List Hop)) (sent : List Snt) : List Ev := (List.range sent.length).flatMap (y4n rs sent)
def init (c : Cf) (rs : List (List Hop)) (sent : List Snt) : St := ⟨ag0 rs sent, [], [], y21 c⟩
theorem y5v {i : Nat} {e : Ev} : e ∈ y4n rs sent i ↔ ∃ h ∈ route rs sent (i : Int), h.fNode = (nth (route rs sent (i : Int)) 0).fNode ∧ e = ⟨(nth sent (i : Int)).fTime, -1, (nth sent (i : Int)).fVL, (i : Int), h⟩ := y4O
theorem y7Y {e : Ev} : e ∈ ag0 rs sent ↔ ∃ i : Nat, i < sent.length ∧ ∃ h ∈ route rs sent (i : Int), h.fNode = (nth (route rs sent (i : Int)) 0).fNode ∧ e = ⟨(nth sent (i : Int)).fTime, -1, (nth sent (i : Int)).fVL, (i : Int), h⟩ := by
 unfold ag0
 rw [List.mem_flatMap]
 constructor
 ·rintro ⟨i, hi, he⟩; exact ⟨i, List.mem_range.1 hi, y5v.1 he⟩
 ·rintro ⟨i, hi, he⟩; exact ⟨i, List.mem_range.2 hi, y5v.2 he⟩
theorem uk_fresh (g : Sg c net rs sent) {k : Ex} (h : UK rs sent k) : PI (y21 c k) := by
 obtain ⟨s, x, hs, hx, rfl⟩ := h
 exact fresh_PI g.small ((g.route hs).hv x hx)
theorem y6Y (g : Sg c net rs sent) : IV c net rs sent (init c rs sent) [] := by
 have hm : ∀ e ∈ (init c rs sent).ag, ∃ i : Nat, i < sent.length ∧ ∃ h ∈ route rs sent (i : Int), h.fNode = (nth (route rs sent (i : Int)) 0).fNode ∧ e = ⟨(nth sent (i : Int)).fTime, -1, (nth sent (i : Int)).fVL, (i : Int), h⟩ := fun e he => y7Y.1 he
 have hev : ∀ e ∈ (init c rs sent).ag, EOK rs sent e ∧ e.fTime ≤ 536870912 := by
  intro e he
  obtain ⟨i, hi, h, h1, h2, rfl⟩ := hm e he
  have hf := g.fr.each (i : Int) (by omega) (by omega)
  exact ⟨⟨⟨by simp, by simp; omega⟩, rfl, h1, hf.1⟩, hf.2.1⟩
 refine ⟨fun e he => (hev e he).1, fun e he => by simpa using (hev e he).2, ?_, by simp, ?_, ?_, ?_, fun k => rfl, by simp [init]⟩
 ·rw [List.nil_append]
  show ((ag0 rs sent).map y15).Nodup
  unfold ag0
  rw [List.map_flatMap, List.nodup_iff_pairwise_ne, List.pairwise_flatMap]
  constructor
  ·intro i hi
   unfold y4n news
   rw [List.map_map]
   refine List.Pairwise.map _ (R := fun a b => a ≠ b) (fun a b hab hc' => hab (by simpa [y15] using hc')) ?_
   exact ((g.route ⟨by omega, by have := List.mem_range.1 hi; omega⟩).nodup).filter _
  ·refine (List.nodup_iff_pairwise_ne.1 List.nodup_range).imp_of_mem ?_
   intro i j hi hj hij x hx y hy hxy
   obtain ⟨a, ha, rfl⟩ := List.mem_map.1 hx
   obtain ⟨b, hb, rfl⟩ := List.mem_map.1 hy
   obtain ⟨h, _, _, rfl⟩ := y5v.1 ha
   obtain ⟨h', _, _, rfl⟩ := y5v.1 hb
   have := congrArg Prod.fst hxy
   simp [y15] at this
   omega
 ·intro x hx
  rw [List.nil_append] at hx
  obtain ⟨e, he, rfl⟩ := List.mem_map.1 hx
  obtain ⟨i, hi, h, h1, h2, rfl⟩ := hm e he
  exact .inl h2
 ·intro k hk
  have := uk_fresh g hk
  exact ⟨this, by simp [init, y21], by simp [init, y21]⟩
 ·intro k hk e he
  exact (hev e he).1.t
theorem y8W (v : Nat) (h : v < sent.length) : ((List.range (v + 1)).flatMap (y4n rs sent)) = (List.range v).flatMap (y4n rs sent) ++ y4n rs sent v := by
 rw [List.range_succ, List.flatMap_append]; simp
theorem y7Z (g : Sg c net rs sent) {k : List Ev → Option (List Cm × List Cm × Int)} : ∀ (n : Nat) (v : Int) (ag : List Ev), 0 ≤ v → v ≤ sent.length → sent.length < n + v → HP ag ag.length → ag.Perm ((List.range v.toNat).flatMap (y4n rs sent)) →
  ∃ ag', y2n sent rs c k n v ag = k ag' ∧ ag'.Perm (ag0 rs sent) ∧ HP ag' ag'.length
 | 0, v, ag, h0, h1, h2, h3, h4 => by omega
 | n + 1, v, ag, h0, h1, h2, h3, h4 => by
  rw [y2n]
  by_cases h : v < sent.length
  ·rw [if_pos (decide_eq_true h)]
   have hl40 := g.fr.len
   refine y1E (P := fun o => ∃ ag', o = k ag' ∧ ag'.Perm (ag0 rs sent) ∧ HP ag' ag'.length) fun kk hkk => ?_
   have hvl := g.vl ⟨h0, h⟩
   have hvr := g.route ⟨h0, h⟩
   have e1 : (v + 1).toNat = v.toNat + 1 := by omega
   have e2 : ((v.toNat : Nat) : Int) = v := Int.toNat_of_nonneg h0
   rw [yo ⟨h0, h⟩, yo hvl]
   have hlen : ag.length ≤ 1280 := by
    rw [h4.length_eq]
    have h5 := y5D (f := y4n rs sent) (m := 32) (List.range v.toNat) (fun i hi => by
     have hi' := List.mem_range.1 hi
     unfold y4n news
     rw [List.length_map]
     exact Nat.le_trans (List.length_filter_le _ _) (g.route ⟨by omega, by omega⟩).len)
    rw [List.length_range] at h5
    have := g.fr.len
    omega
   by_cases hr : (((nth rs ((nth sent v).fVL)).length : Nat) : Int) > 0
   ·rw [if_pos (decide_eq_true hr), yo ⟨by omega, hr⟩]
    obtain ⟨a1, q1, q2, q3⟩ := y8U (c := c) (mp := ([] : List (Ex × Pt))) (come := []) (lost := []) (node := (nth (nth rs ((nth sent v).fVL)) 0).fNode) (t := (nth sent v).fTime) (i := -1) ⟨h0, h⟩ hvl (Nat.le_trans hvr.len (by omega)) h3 (by omega)
    rw [q1]
    simp only [Option.bind_some]
    rw [hkk, yn (x := v + 1) (by omega)]
    refine y7Z g n (v + 1) a1 (by omega) (by omega) (by omega) q3 ?_
    rw [e1, y8W v.toNat (by omega)]
    refine q2.trans (List.perm_append_comm.trans (h4.append_right _).symm.symm |>.trans ?_)
    unfold y4n route
    rw [e2]
   ·rw [if_neg (by simpa using hr), hkk, yn (x := v + 1) (by omega)]
    refine y7Z g n (v + 1) ag (by omega) (by omega) (by omega) h3 ?_
    rw [e1, y8W v.toNat (by omega)]
    have hz : y4n rs sent v.toNat = [] := by
     unfold y4n news
     rw [e2, List.eq_nil_of_length_eq_zero (l := nth rs (nth sent v).fVL) (by omega)]; rfl
    rw [hz, List.append_nil]; exact h4
  ·rw [if_neg (by simpa using h)]
   refine ⟨ag, rfl, ?_, h3⟩
   have : v.toNat = sent.length := by omega
   rw [this] at h4; exact h4
theorem EOK.ec (g : Sg c net rs sent) {e : Ev} (h : EOK rs sent e) : EC c net rs sent e := ⟨(g.route h.s).hv _ h.h, h.s, g.vl h.s⟩
theorem y9x (g : Sg c net rs sent) {k : List Ev → List Cm → List Cm → List (Ex × Pt) → Option (List Cm × List Cm × Int)} : ∀ (N : Nat) (D : List Id) (ag : List Ev) (come lost : List Cm) (mp : List (Ex × Pt)),
  IV c net rs sent ⟨ag, come, lost, y32 c mp⟩ D → HP ag ag.length → 1281 ≤ N + D.length →
  ∃ n F mp', Runs c rs sent n ⟨ag, come, lost, y32 c mp⟩ F ∧ y2o c rs sent k N ag come lost mp = k [] F.come F.lost mp'
 | 0, D, ag, come, lost, mp, h, hp, hN => by have := h.len g; omega
 | N + 1, D, ag, come, lost, mp, h, hp, hN => by
  have hlen := h.len g
  have hcl := h.cl
  rw [y2o]
  by_cases h0 : ag = []
  ·subst h0
   rw [if_neg (by simp)]
   exact ⟨0, ⟨[], come, lost, y32 c mp⟩, mp, .done rfl (EQ.refl _), rfl⟩
  ·have hpos : (((ag.length : Nat) : Int) > 0) := by cases ag with | nil => exact absurd rfl h0 | cons => simp
   rw [if_pos (decide_eq_true hpos)]
   simp only at hlen hcl
   obtain ⟨e, rest, ag', mp', p1, p2, p3, p4, p5, p6⟩ := step_eq (c := c) (net := net) (rs := rs) (sent := sent) (mp := mp) (come := come) (lost := lost) g.small h0 hp (by omega) (by omega) (by omega) (fun e he => (h.ev e he).ec g)
    (fun e he => (h.pi _ ⟨e.fSent, e.fHop, (h.ev e he).s, (h.ev e he).h, rfl⟩).1) (fun r hr => Nat.le_trans (g.va.each r hr).len (by omega))
   rw [p3]
   simp only [Option.bind_some]
   have heq : EQ (y18 c rs sent e rest ⟨ag, come, lost, y32 c mp⟩) ⟨ag', (y18 c rs sent e rest ⟨ag, come, lost, y32 c mp⟩).come, (y18 c rs sent e rest ⟨ag, come, lost, y32 c mp⟩).lost, y32 c mp'⟩ := ⟨p4.symm, .refl _, .refl _, p6.symm⟩
   have hiv := (y63 g h p1 p2).eq heq
   obtain ⟨n, F, mp'', r1, r2⟩ := y9x g (k := k) N (y15 e :: D) ag' _ _ mp' hiv p5 (by rw [List.length_cons]; omega)
   exact ⟨n + 1, F, mp'', .step e rest p1 p2 heq r1, r2⟩
theorem jp4_ex {R A0 A1 A2 A3 : Type} {K : A0 → A1 → A2 → A3 → Option R} {F : (A0 → A1 → A2 → A3 → Option R) → Option R} {P : Option R → Prop} (h : ∀ k : A0 → A1 → A2 → A3 → Option R, (∀ x0 x1 x2 x3, k x0 x1 x2 x3 = K x0 x1 x2 x3) → P (F k)) : P (jp4 K F) := h K fun _ _ _ _ => rfl
theorem Run_eq0 (g : Sg c net rs sent) : ∃ n F, Runs c rs sent n (init c rs sent) F ∧ y27 c net rs sent = (y1f F.come).bind fun a => (y1f F.lost).bind fun b => some (a, b, 0) := by
 unfold y27
 obtain ⟨b, hb1, hb2⟩ := y8R g.small (net := net) (rs := rs) (fun r hr => by have := (g.va.each r hr).len; omega) (by have := g.va.most; omega)
 rw [hb1, hb2.2 g.va]
 simp only [Option.bind_some, Bool.not_true, Bool.false_eq_true, if_false]
 obtain ⟨r, hr1, hr2⟩ := y9T (c := c) (l := sent) (by have := g.fr.len; omega)
 rw [hr1, hr2.2 ⟨g.fr.each, by have := g.fr.len; omega⟩]
 simp only [Option.bind_some, Bool.not_true, Bool.false_eq_true, if_false]
 have hF := y1s
 generalize yz = N at hF ⊢
 have hsl := g.fr.len
 refine y1E (P := fun o => ∃ n F, Runs c rs sent n (init c rs sent) F ∧ o = (y1f F.come).bind fun a => (y1f F.lost).bind fun b => some (a, b, 0)) fun k hk => ?_
 obtain ⟨ag, q1, q2, q3⟩ := y7Z g (k := k) N 0 [] (by omega) (by omega) (by omega) (fun x hx hn => by simp at hn; omega) (by simp)
 rw [q1, hk]
 refine jp4_ex (P := fun o => ∃ n F, Runs c rs sent n (init c rs sent) F ∧ o = (y1f F.come).bind fun a => (y1f F.lost).bind fun b => some (a, b, 0)) fun k4 hk4 => ?_
 have heq : EQ (init c rs sent) ⟨ag, [], [], y32 c []⟩ := ⟨q2.symm, .refl _, .refl _, rfl⟩
 obtain ⟨n, F, mp', r1, r2⟩ := y9x g (k := k4) N [] ag [] [] [] ((y6Y g).eq heq) q3 (by simp; omega)
 obtain ⟨F', r3, r4⟩ := r1.trans_eq heq.symm
 rw [r2, hk4]
 -- the run from the start, with the code's own lists at its end
 exact ⟨n, F, by
  cases r1 with
  | done h0 k0 => exact .done (by have := heq.ag; rw [h0] at this; exact List.perm_nil.1 this) (heq.trans k0)
  | step e rest hp hmin he hr => exact .step e rest (hp.trans heq.ag.symm) (fun x hx => hmin x (heq.ag.mem_iff.1 hx)) ((y5l heq (.refl rest)).trans he) hr, rfl⟩
end
end Go.Proofs.Ytinchjigeakocaa

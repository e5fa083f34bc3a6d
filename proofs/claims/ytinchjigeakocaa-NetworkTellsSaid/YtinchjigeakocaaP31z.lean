/- A part of this claim's proof: models of functions, walks, plain laws. No conditions. -/
import Derived.Test.YtinchjigeakocaaP31y
namespace Go.Proofs.Ytinchjigeakocaa
open Go Go.RowKit Sep
set_option linter.all false
section
variable {c : Cf} {net : Int} {rs : List (List Hop)} {sent : List Snt}
theorem ref_L7 (g : Sg c net rs sent) {K : List Cm → List Cm → Option (List Cm × List Cm × Int)} : ∀ (n : Nat) (D : List Id) (todo : List Ev) (come lost : List Cm) (ex : List S92) (pf : Ex → Pt),
  IV c net rs sent ⟨todo, come, lost, pf⟩ D → Srt clt come → Srt clt lost → ExR c D.length ex pf → ex.length ≤ D.length → 1281 ≤ n + D.length →
  ∃ m F cm lo, Runs c rs sent m ⟨todo, come, lost, pf⟩ F ∧ cm.Perm F.come ∧ lo.Perm F.lost ∧ Srt clt cm ∧ Srt clt lo ∧ y38 sent rs c K n todo come lost ex = K cm lo
 | 0, D, todo, come, lost, ex, pf, h, sc, sl, hx, hxl, hN => by have := h.len g; omega
 | n + 1, D, todo, come, lost, ex, pf, h, sc, sl, hx, hxl, hN => by
  have hlen := h.len g
  have hcl := h.cl
  simp only at hlen hcl
  rw [y38]
  have hF := y1k
  generalize yw = FU at hF ⊢
  by_cases h0 : todo = []
  ·subst h0
   rw [if_neg (by simp)]
   exact ⟨0, ⟨[], come, lost, pf⟩, come, lost, .done rfl (EQ.refl _), .refl _, .refl _, sc, sl, rfl⟩
  ·have hpos : (((todo.length : Nat) : Int) > 0) := by cases todo with | nil => exact absurd rfl h0 | cons => simp
   rw [if_pos (decide_eq_true hpos)]
   refine jp4_ex (P := fun o => ∃ m F cm lo, Runs c rs sent m ⟨todo, come, lost, pf⟩ F ∧ cm.Perm F.come ∧ lo.Perm F.lost ∧ Srt clt cm ∧ Srt clt lo ∧ o = K cm lo) fun k4 hk4 => ?_
   refine y44 (P := fun o => ∃ m F cm lo, Runs c rs sent m ⟨todo, come, lost, pf⟩ F ∧ cm.Perm F.come ∧ lo.Perm F.lost ∧ Srt clt cm ∧ Srt clt lo ∧ o = K cm lo) fun k2 hk2 => ?_
   obtain ⟨b, b0, b1, b2, b3⟩ := y8k (todo := todo) (K := k2) (ex := ex) (by omega) FU 0 1 (by omega) (by omega) (by omega) (by omega) (fun j j0 j1 => by rw [show j = 0 by omega]; exact y5u _)
   rw [b3, hk2]
   -- the event
   have hb : (todo.take b.toNat ++ nth todo b :: todo.drop (b.toNat + 1)) = todo := by
    rw [← y39 (l := todo) b0 b1, List.take_append_drop]
   have hp : (nth todo b :: (todo.take b.toNat ++ todo.drop (b.toNat + 1))).Perm todo := by
    have := (List.perm_middle (l₁ := todo.take b.toNat) (a := nth todo b) (l₂ := todo.drop (b.toNat + 1))).symm
    rw [hb] at this; exact this
   have hmin : ∀ x ∈ todo, kle (nth todo b) x := by
    intro x hx
    obtain ⟨i, hi, rfl⟩ := List.getElem_of_mem hx
    have := b2 (i : Int) (by omega) (by omega)
    rw [y30 (i := (i : Int)) ⟨by omega, by omega⟩] at this
    simpa using this
   have hem : nth todo b ∈ todo := y4V b0 b1
   have hiv := y6T g h hp hmin
   have hok := h.ev _ hem
   have htm := h.tm _ hem
   have hk : UK rs sent (yK (nth todo b).fHop) := ⟨_, _, hok.s, hok.h, rfl⟩
   obtain ⟨p1, p2, p3⟩ := h.pi _ hk
   have hnow := h.now _ hk _ hem
   simp only at p1 p2 p3 hnow
   have hsz := (g.fr.each _ hok.s.1 hok.s.2).2.2.2.2
   have hvr := g.route hok.s
   have hbb : i64 (b + 1) = b + 1 := yo (by omega)
   have hbn : (b + 1).toNat = b.toNat + 1 := by omega
   rw [hbb, hbn, yf ⟨b0, b1⟩, yf (by omega), yf (by simp; omega), yf (by omega), yf (by simp; omega)]
   simp only [List.nil_append]
   -- what comes next
   have next : ∀ (todo' : List Ev) (come' lost' : List Cm) (ex' : List S92) (pf' : Ex → Pt), EQ (y1r c rs sent (nth todo b) (todo.take b.toNat ++ todo.drop (b.toNat + 1)) ⟨todo, come, lost, pf⟩) ⟨todo', come', lost', pf'⟩ → Srt clt come' → Srt clt lost' → ExR c (D.length + 1) ex' pf' → ex'.length ≤ D.length + 1 →
     ∃ m F cm lo, Runs c rs sent m ⟨todo, come, lost, pf⟩ F ∧ cm.Perm F.come ∧ lo.Perm F.lost ∧ Srt clt cm ∧ Srt clt lo ∧ k4 todo' come' lost' ex' = K cm lo := by
    intro todo' come' lost' ex' pf' q1 q2 q3 q4 q5
    obtain ⟨m, F, cm, lo, r1, r2, r3, r4, r5, r6⟩ := ref_L7 g (K := K) n (y1m (nth todo b) :: D) todo' come' lost' ex' pf' (hiv.eq q1) q2 q3 q4 q5 (by rw [List.length_cons]; omega)
    exact ⟨m + 1, F, cm, lo, .step (nth todo b) _ hp hmin q1 r1, r2, r3, r4, r5, by rw [hk4]; exact r6⟩
   refine y1h (P := fun o => ∃ m F cm lo, Runs c rs sent m ⟨todo, come, lost, pf⟩ F ∧ cm.Perm F.come ∧ lo.Perm F.lost ∧ Srt clt cm ∧ Srt clt lo ∧ o = K cm lo) fun k1 hk1 => ?_
   obtain ⟨A, B, a1, a2, a3, a4⟩ := ref_at (todo := todo) (b := b) (K := k1) (ex := ex) (by omega) FU [] ex rfl (by omega) (by simp)
   have a4' : y2Q ex todo b k1 FU 0 = k1 (A.length : Int) := a4
   rw [a4', hk1]
   refine y1h (P := fun o => ∃ m F cm lo, Runs c rs sent m ⟨todo, come, lost, pf⟩ F ∧ cm.Perm F.come ∧ lo.Perm F.lost ∧ Srt clt cm ∧ Srt clt lo ∧ o = K cm lo) fun k0 hk0 => ?_
   -- with the port in its place
   have main : ∀ (z : S92) (B' : List S92), y4w z = yK (nth todo b).fHop → ExR c D.length (A ++ z :: B') pf → (A ++ z :: B').length ≤ D.length + 1 →
     ∃ m F cm lo, Runs c rs sent m ⟨todo, come, lost, pf⟩ F ∧ cm.Perm F.come ∧ lo.Perm F.lost ∧ Srt clt cm ∧ Srt clt lo ∧ k0 (A ++ z :: B') = K cm lo := by
    intro z B' hz hE hEl
    have hnz : nth (A ++ z :: B') (A.length : Int) = z := y5w rfl
    have hRP := hE.at_ a2 hz
    obtain ⟨q', u1, u2, u3, u4⟩ := ref_put (t := (nth todo b).fTime) (size := (nth sent (nth todo b).fSent).fSize) hRP.1 p1 hRP.2.1 (by have := hRP.2.2; omega) hok.t ⟨hsz.1, hsz.2.1⟩ ⟨hnow, by omega⟩
    have hup := ExR.upd_ (z' := ⟨z.fNode, z.fLink, q'⟩) hE a2 hz hz (p := (y1S (pf (yK (nth todo b).fHop)) (nth todo b).fTime (nth sent (nth todo b).fSent).fSize).2.2) ⟨u2, u3, by have := hRP.2.2; show q'.fEnd.length ≤ _; omega⟩
    have hset : ∀ z' : S92, (A ++ z :: B').set (A.length : Int).toNat z' = A ++ z' :: B' := fun z' => y6b rfl
    have hcp := y7J p1 (size := (nth sent (nth todo b).fSent).fSize) ⟨hsz.1, hsz.2.1⟩ (t := (nth todo b).fTime) ⟨hnow, by omega⟩
    rw [hk0, hnz, yf ⟨by omega, by simp; omega⟩, yf hok.s]
    simp only [eta90]
    rw [u1]
    simp only [Option.bind_some]
    rw [yf ⟨by omega, by simp; omega⟩, hset]
    by_cases hR : (y1S (pf (yK (nth todo b).fHop)) (nth todo b).fTime (nth sent (nth todo b).fSent).fSize).2.1 ≠ 0
    ·rw [if_pos (decide_eq_true hR)]
     obtain ⟨l', v1, v2, v3⟩ := y8H (l := lost) (x := ⟨(nth todo b).fSent, (nth todo b).fHop.fNode, (nth todo b).fTime⟩) (by omega) sl
     rw [v1]
     simp only [Option.bind_some]
     refine next _ _ _ _ (upd pf (yK (nth todo b).fHop) (y1S (pf (yK (nth todo b).fHop)) (nth todo b).fTime (nth sent (nth todo b).fSent).fSize).2.2) ?_ sc v3 hup (by simpa using hEl)
     unfold y1r
     rw [if_pos hR]
     exact ⟨.refl _, .refl _, v2.symm, rfl⟩
    ·rw [if_neg (by rw [decide_eq_true_eq]; exact hR)]
     refine y44 (P := fun o => ∃ m F cm lo, Runs c rs sent m ⟨todo, come, lost, pf⟩ F ∧ cm.Perm F.come ∧ lo.Perm F.lost ∧ Srt clt cm ∧ Srt clt lo ∧ o = K cm lo) fun kk hkk => ?_
     have hnl : (news rs sent (nth todo b).fHop.fNext (y1S (pf (yK (nth todo b).fHop)) (nth todo b).fTime (nth sent (nth todo b).fSent).fSize).1 (nth todo b).fHop.fLink (nth todo b).fSent).length ≤ 32 := by
      unfold news; rw [List.length_map]
      exact Nat.le_trans (List.length_filter_le _ _) hvr.len
     have last : ∀ come', Srt clt come' → come'.Perm (if (nth todo b).fHop.fNext < nM c then come ++ [⟨(nth todo b).fSent, (nth todo b).fHop.fNext, (y1S (pf (yK (nth todo b).fHop)) (nth todo b).fTime (nth sent (nth todo b).fSent).fSize).1⟩] else come) →
       ∃ m F cm lo, Runs c rs sent m ⟨todo, come, lost, pf⟩ F ∧ cm.Perm F.come ∧ lo.Perm F.lost ∧ Srt clt cm ∧ Srt clt lo ∧ kk come' (A ++ ⟨z.fNode, z.fLink, q'⟩ :: B') = K cm lo := by
      intro come' w1 w2
      rw [hkk, y9o hok.s (g.vl hok.s) (Nat.le_trans hvr.len (by omega))]
      simp only [Option.bind_some]
      rw [yf (by simp; omega)]
      refine next _ _ _ _ (upd pf (yK (nth todo b).fHop) (y1S (pf (yK (nth todo b).fHop)) (nth todo b).fTime (nth sent (nth todo b).fSent).fSize).2.2) ?_ w1 sl hup (by simpa using hEl)
      unfold y1r
      rw [if_neg hR]
      exact ⟨List.perm_append_comm, w2.symm, .refl _, rfl⟩
     by_cases hn : (nth todo b).fHop.fNext < nM c
     ·rw [if_pos (decide_eq_true (by exact hn))]
      obtain ⟨l', v1, v2, v3⟩ := y8H (l := come) (x := ⟨(nth todo b).fSent, (nth todo b).fHop.fNext, (y1S (pf (yK (nth todo b).fHop)) (nth todo b).fTime (nth sent (nth todo b).fSent).fSize).1⟩) (by omega) sc
      rw [v1]
      simp only [Option.bind_some]
      exact last l' v3 (by rw [if_pos hn]; exact v2)
     ·rw [if_neg (by rw [decide_eq_true_eq]; exact hn)]
      exact last come sc (by rw [if_neg hn])
   rcases a3 with a3 | ⟨z, B', a3, a5⟩
   ·-- a new port
    subst a3
    rw [List.append_nil] at a1
    subst a1
    rw [if_pos (by simp)]
    have hfp := ExR.none hx a2
    have hPI := y9Z g hk
    have hh := hvr.hv _ hok.h
    refine y44 (P := fun o => ∃ m F cm lo, Runs c rs sent m ⟨todo, come, lost, pf⟩ F ∧ cm.Perm F.come ∧ lo.Perm F.lost ∧ Srt clt cm ∧ Srt clt lo ∧ o = K cm lo) fun kn hkn => ?_
    have mk : ∀ d s : Int, d = (y1l c (yK (nth todo b).fHop)).fNumbers.fDelay → s = (y1l c (yK (nth todo b).fHop)).fNumbers.fStore → ∃ m F cm lo, Runs c rs sent m ⟨todo, come, lost, pf⟩ F ∧ cm.Perm F.come ∧ lo.Perm F.lost ∧ Srt clt cm ∧ Srt clt lo ∧ kn d s = K cm lo := by
     intro d s hd hs
     have hnew := ref_new (net := net) hPI
     rw [hkn, yf ⟨hh.1, hh.2.1⟩, hd, hs]
     rw [show (nth c.fLinks (nth todo b).fHop.fLink).fSlow = (y1l c (yK (nth todo b).fHop)).fNumbers.fSlow from rfl, hnew]
     simp only [Option.bind_some]
     rw [yf (by simp; omega)]
     exact main _ [] rfl (ExR.new_ hx a2 rfl ⟨fresh_RP c _, by simp, by simp⟩) (by simp; omega)
    by_cases hn : nM c ≤ (nth todo b).fHop.fNode
    ·have hnode := hh.node g.small
     have hin : (0 : Int) ≤ (nth todo b).fHop.fNode - c.fModules.length ∧ (nth todo b).fHop.fNode - c.fModules.length < c.fSwitches.length := by
      have := hnode.2.1; unfold nN at this; unfold nM at hn; omega
     have hsm := g.small.s
     rw [if_pos (decide_eq_true (by exact hn)), yo (x := (nth todo b).fHop.fNode - c.fModules.length) (by omega), yf hin]
     refine mk _ _ ?_ ?_
     ·show _ = if nM c ≤ (nth todo b).fHop.fNode then (sw c (nth todo b).fHop.fNode).fDelay else 0
      rw [if_pos hn]; rfl
     ·show _ = if nM c ≤ (nth todo b).fHop.fNode then (sw c (nth todo b).fHop.fNode).fStore else 1073741824
      rw [if_pos hn]; rfl
    ·rw [if_neg (by rw [decide_eq_true_eq]; exact hn)]
     refine mk _ _ ?_ ?_
     ·show _ = if nM c ≤ (nth todo b).fHop.fNode then (sw c (nth todo b).fHop.fNode).fDelay else 0
      rw [if_neg hn]
     ·show _ = if nM c ≤ (nth todo b).fHop.fNode then (sw c (nth todo b).fHop.fNode).fStore else 1073741824
      rw [if_neg hn]
   ·subst a3
    subst a1
    rw [if_neg (by simp; omega)]
    exact main z B' a5 hx (by omega)
end
end Go.Proofs.Ytinchjigeakocaa

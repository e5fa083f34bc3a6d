/- A part of this claim's proof: models of functions, walks, plain laws. No conditions. -/
import Derived.Test.YtinchjigeakocaaP31w
namespace Go.Proofs.Ytinchjigeakocaa
open Go Go.RowKit Sep
set_option linter.all false
/-! ### a part of the frames -/
def y5b (b : Int → Bool) (sent : List Snt) (v : Nat) : List Int := ((List.range v).filter fun i : Nat => b (nth sent (i : Int)).fVL).map fun i : Nat => (i : Int)
def y1e (b : Int → Bool) (l : List Snt) : List Snt := l.filter fun x => b x.fVL
def bkS (b : Int → Bool) (sent : List Snt) : List Int := y5b b sent sent.length
theorem yad (sent : List Snt) : sent = (List.range sent.length).map fun i : Nat => nth sent (i : Int) := by
 apply List.ext_getElem
 ·simp
 ·intro i h1 h2
  rw [List.getElem_map, List.getElem_range, y2x ⟨by omega, by omega⟩]; simp
theorem ya1 (b : Int → Bool) (sent : List Snt) : y1e b sent = (bkS b sent).map fun i => nth sent i := by
 unfold y1e bkS y5b
 rw [List.map_map]
 conv => lhs; rw [yad sent, List.filter_map]
 rfl
theorem y6H (b : Int → Bool) (sent : List Snt) : (y1e b sent).length = (bkS b sent).length := by rw [ya1, List.length_map]
theorem bk_range (b : Int → Bool) (sent : List Snt) {i : Int} (h : i ∈ bkS b sent) : 0 ≤ i ∧ i < sent.length ∧ b (nth sent i).fVL = true := by
 unfold bkS y5b at h
 obtain ⟨j, hj, rfl⟩ := List.mem_map.1 h
 obtain ⟨h1, h2⟩ := List.mem_filter.1 hj
 have := List.mem_range.1 h1
 exact ⟨by omega, by omega, h2⟩
theorem bk_lt (b : Int → Bool) (sent : List Snt) : (bkS b sent).Pairwise (· < ·) := by
 unfold bkS y5b
 rw [List.pairwise_map]
 refine (List.Pairwise.filter _ List.pairwise_lt_range).imp fun h => ?_
 omega
section
variable {b : Int → Bool} {sent : List Snt}
theorem y6I {j : Int} (h : 0 ≤ j ∧ j < (y1e b sent).length) : 0 ≤ nth (bkS b sent) j ∧ nth (bkS b sent) j < sent.length ∧ b (nth sent (nth (bkS b sent) j)).fVL = true ∧ nth (y1e b sent) j = nth sent (nth (bkS b sent) j) := by
 have h' : 0 ≤ j ∧ j < (bkS b sent).length := by rw [← y6H]; exact h
 have hm := y48 h'.1 h'.2
 have := bk_range b sent hm
 refine ⟨this.1, this.2.1, this.2.2, ?_⟩
 rw [y2x h, y2x h']
 simp only [ya1, List.getElem_map]
theorem y8t {i j : Int} (hi : 0 ≤ i ∧ i < (y1e b sent).length) (hj : 0 ≤ j ∧ j < (y1e b sent).length) : (nth (bkS b sent) i < nth (bkS b sent) j ↔ i < j) ∧ (nth (bkS b sent) i = nth (bkS b sent) j ↔ i = j) := by
 rw [y6H] at hi hj
 have hl := bk_lt b sent
 rw [List.pairwise_iff_getElem] at hl
 rw [y2x hi, y2x hj]
 rcases Int.lt_trichotomy i j with h | h | h
 ·have := hl i.toNat j.toNat (by omega) (by omega) (by omega); omega
 ·subst h; omega
 ·have := hl j.toNat i.toNat (by omega) (by omega) (by omega); omega
def mvE (B : List Int) (e : Ev) : Ev := ⟨e.fTime, e.fIn_, e.fVl, nth B e.fSent, e.fHop⟩
def mvC (B : List Int) (x : Cm) : Cm := ⟨nth B x.fSent, x.fNode, x.fTime⟩
def onC (b : Int → Bool) (sent : List Snt) (x : Cm) : Bool := b (nth sent x.fSent).fVL
variable {c : Cf} {net : Int} {rs : List (List Hop)}
theorem Sg.part (g : Sg c net rs sent) (b : Int → Bool) : Sg c net rs (y1e b sent) := by
 refine ⟨g.small, g.va, ⟨fun q h0 h1 => ?_, Nat.le_trans (List.length_filter_le _ _) g.fr.len⟩⟩
 have h := y6I (b := b) (sent := sent) ⟨h0, h1⟩
 have f := g.fr.each _ h.1 h.2.1
 unfold FG at f ⊢
 rw [h.2.2.2]
 refine ⟨f.1, f.2.1, f.2.2.1, f.2.2.2.1, f.2.2.2.2.1, f.2.2.2.2.2.1, fun hq => ?_⟩
 have h' := y6I (b := b) (sent := sent) (j := q - 1) ⟨by omega, by omega⟩
 rw [h'.2.2.2]
 have hlt := (y8t (b := b) (sent := sent) (i := q - 1) (j := q) ⟨by omega, by omega⟩ ⟨h0, h1⟩).1.2 (by omega)
 -- times are in order
 have ord : ∀ (d : Nat) (i : Int), 0 ≤ i → i + d < sent.length → (nth sent i).fTime ≤ (nth sent (i + d)).fTime := by
  intro d
  induction d with
  | zero => intro i _ _; simp
  | succ d ih =>
   intro i h2 h3
   have h4 := ih i h2 (by omega)
   have h5 := (g.fr.each (i + (d + 1 : Nat)) (by omega) (by omega)).2.2.2.2.2.2 (by omega)
   rw [show i + ((d + 1 : Nat) : Int) - 1 = i + d by omega] at h5
   omega
 have := ord (nth (bkS b sent) q - nth (bkS b sent) (q - 1)).toNat (nth (bkS b sent) (q - 1)) h'.1 (by omega)
 rw [show nth (bkS b sent) (q - 1) + ((nth (bkS b sent) q - nth (bkS b sent) (q - 1)).toNat : Int) = nth (bkS b sent) q by omega] at this
 exact this
theorem y8a {j : Int} (h : 0 ≤ j ∧ j < (y1e b sent).length) : route rs (y1e b sent) j = route rs sent (nth (bkS b sent) j) := by
 unfold route; rw [(y6I h).2.2.2]
theorem y8Q {j : Int} (h : 0 ≤ j ∧ j < (y1e b sent).length) (node t i : Int) : news rs sent node t i (nth (bkS b sent) j) = (news rs (y1e b sent) node t i j).map (mvE (bkS b sent)) := by
 unfold news
 rw [(y6I h).2.2.2, List.map_map]; rfl
theorem kle_mv {x y : Ev} (hx : 0 ≤ x.fSent ∧ x.fSent < (y1e b sent).length) (hy : 0 ≤ y.fSent ∧ y.fSent < (y1e b sent).length) : kle (mvE (bkS b sent) x) (mvE (bkS b sent) y) ↔ kle x y := by
 have h1 := y8t (b := b) (sent := sent) hy hx
 unfold kle klt mvE
 simp only
 rw [h1.1]
theorem clt_mv {x y : Cm} (hx : 0 ≤ x.fSent ∧ x.fSent < (y1e b sent).length) (hy : 0 ≤ y.fSent ∧ y.fSent < (y1e b sent).length) : clt (mvC (bkS b sent) x) (mvC (bkS b sent) y) ↔ clt x y := by
 have h1 := y8t (b := b) (sent := sent) hx hy
 unfold clt mvC
 simp only
 rw [h1.1, h1.2]
structure Part (b : Int → Bool) (rs : List (List Hop)) (sent : List Snt) (S T : St) : Prop where
 ag : (S.ag.filter fun e => b e.fVl).Perm (T.ag.map (mvE (bkS b sent)))
 come : (S.come.filter (onC b sent)).Perm (T.come.map (mvC (bkS b sent)))
 lost : (S.lost.filter (onC b sent)).Perm (T.lost.map (mvC (bkS b sent)))
 pf : ∀ k, UK rs (y1e b sent) k → S.pf k = T.pf k
theorem ya2 {node t i s : Int} (h : b (nth sent s).fVL = true) : (news rs sent node t i s).filter (fun e => b e.fVl) = news rs sent node t i s := by
 refine List.filter_eq_self.2 fun e he => ?_
 obtain ⟨_, _, _, rfl⟩ := y4m.1 he
 exact h
theorem y9q {node t i s : Int} (h : ¬ b (nth sent s).fVL = true) : (news rs sent node t i s).filter (fun e => b e.fVl) = [] := by
 refine List.filter_eq_nil_iff.2 fun e he => ?_
 obtain ⟨_, _, _, rfl⟩ := y4m.1 he
 exact h
theorem yas : Part b rs sent (init c rs sent) (init c rs (y1e b sent)) := by
 refine ⟨?_, .refl _, .refl _, fun k _ => rfl⟩
 show ((ag0 rs sent).filter fun e => b e.fVl).Perm ((ag0 rs (y1e b sent)).map (mvE (bkS b sent)))
 have h1 : (ag0 rs sent).filter (fun e => b e.fVl) = (bkS b sent).flatMap fun i => y3z rs sent i.toNat := by
  unfold ag0 bkS y5b
  rw [List.filter_flatMap, List.flatMap_map]
  generalize List.range sent.length = l
  induction l with
  | nil => rfl
  | cons i l ih =>
   rw [List.flatMap_cons, List.filter_cons, ih]
   by_cases hb : b (nth sent (i : Int)).fVL = true
   ·rw [if_pos hb, List.flatMap_cons]
    unfold y3z at *
    rw [ya2 hb]; simp
   ·rw [if_neg hb]
    unfold y3z at *
    rw [y9q hb]; simp
 have h2 : (ag0 rs (y1e b sent)).map (mvE (bkS b sent)) = (bkS b sent).flatMap fun i => y3z rs sent i.toNat := by
  unfold ag0
  rw [List.map_flatMap]
  have h3 : bkS b sent = (List.range (y1e b sent).length).map fun j : Nat => nth (bkS b sent) (j : Int) := by
   apply List.ext_getElem
   ·rw [List.length_map, List.length_range, y6H]
   ·intro i h1 h2
    rw [List.getElem_map, List.getElem_range, y2x ⟨by omega, by omega⟩]; simp
  conv => rhs; rw [h3, List.flatMap_map]
  rw [List.flatMap_def, List.flatMap_def]
  congr 1
  refine List.map_congr_left fun j hj => ?_
  have hj' := List.mem_range.1 hj
  have hr : 0 ≤ (j : Int) ∧ (j : Int) < (y1e b sent).length := by omega
  have ha := y6I hr
  unfold y3z
  rw [Int.toNat_of_nonneg ha.1, y8Q hr, y8a hr, ha.2.2.2]
 rw [h1, h2]
theorem y7J (g : Sg c net rs sent) (hdis : ∀ k, UK rs (y1e b sent) k → ∀ s h, (0 ≤ s ∧ s < (sent.length : Int)) → ¬ b (nth sent s).fVL = true → h ∈ route rs sent s → yv h ≠ k) : ∀ {n : Nat} {S F : St}, Runs c rs sent n S F → ∀ {T : St} {D D2 : List Id}, IV c net rs sent S D → IV c net rs (y1e b sent) T D2 → Part b rs sent S T →
  ∃ m F', Runs c rs (y1e b sent) m T F' ∧ (F.come.filter (onC b sent)).Perm (F'.come.map (mvC (bkS b sent))) ∧ (F.lost.filter (onC b sent)).Perm (F'.lost.map (mvC (bkS b sent)))
 | _, S, F, .done h k, T, D, D2, j1, j2, q => by
  refine ⟨0, T, .done ?_ (EQ.refl _), (k.come.filter _).symm.trans q.come, (k.lost.filter _).symm.trans q.lost⟩
  have := q.ag
  rw [h, List.filter_nil] at this
  exact List.map_eq_nil_iff.1 (List.nil_perm.1 this)
 | _, S, F, .step (S' := S') e rest hp hm he hr, T, D, D2, j1, j2, q => by
  have hem : e ∈ S.ag := hp.mem_iff.1 (by simp)
  have hok := j1.ev e hem
  have tr : ∀ {T' : St}, Part b rs sent (y1a c rs sent e rest S) T' → Part b rs sent S' T' := fun k => ⟨(he.ag.filter _).symm.trans k.ag, (he.come.filter _).symm.trans k.come, (he.lost.filter _).symm.trans k.lost, fun x hx => by rw [← he.pf]; exact k.pf x hx⟩
  have hfl : ((e :: rest).filter fun e => b e.fVl).Perm (T.ag.map (mvE (bkS b sent))) := (hp.filter _).trans q.ag
  by_cases hb : b e.fVl = true
  ·have hbv : b (nth sent e.fSent).fVL = true := by rw [← hok.v]; exact hb
   rw [List.filter_cons, if_pos hb] at hfl
   obtain ⟨e', he', hee⟩ := List.mem_map.1 (hfl.mem_iff.1 (List.mem_cons_self ..))
   have hok' := j2.ev e' he'
   have hp2 : (e' :: T.ag.erase e').Perm T.ag := (List.perm_cons_erase he').symm
   have hm2 : ∀ x ∈ T.ag, kle e' x := by
    intro x hx
    have hx' := j2.ev x hx
    have : mvE (bkS b sent) x ∈ S.ag := by
     have := q.ag.mem_iff.2 (List.mem_map.2 ⟨x, hx, rfl⟩)
     exact (List.mem_filter.1 this).1
    have h1 := hm _ this
    rw [← hee] at h1
    exact (kle_mv hok'.s hx'.s).1 h1
   have hrest : (rest.filter fun e => b e.fVl).Perm ((T.ag.erase e').map (mvE (bkS b sent))) := by
    have h1 := (hp2.map (mvE (bkS b sent))).symm
    rw [List.map_cons, hee] at h1
    exact (hfl.trans h1).cons_inv
   have hs : nth (bkS b sent) e'.fSent = e.fSent := by rw [← hee]; rfl
   have ht : e'.fTime = e.fTime := by rw [← hee]; rfl
   have hh : e'.fHop = e.fHop := by rw [← hee]; rfl
   have hat := (y6I hok'.s).2.2.2
   rw [hs] at hat
   have hk : UK rs (y1e b sent) (yv e.fHop) := ⟨e'.fSent, e'.fHop, hok'.s, hok'.h, by rw [hh]⟩
   have hpk := q.pf _ hk
   have hstep : Part b rs sent (y1a c rs sent e rest S) (y1a c rs (y1e b sent) e' (T.ag.erase e') T) := by
    unfold y1a
    rw [hh, ht, hat, ← hpk]
    generalize y1I (S.pf (yv e.fHop)) e.fTime (nth sent e.fSent).fSize = R
    have hup : ∀ k, UK rs (y1e b sent) k → upd S.pf (yv e.fHop) R.2.2 k = upd T.pf (yv e.fHop) R.2.2 k := by
     intro k hk
     unfold upd
     split
     ·rfl
     ·exact q.pf k hk
    by_cases hR : R.2.1 ≠ 0
    ·rw [if_pos hR, if_pos hR]
     refine ⟨hrest, q.come, ?_, hup⟩
     simp only [List.filter_append, List.map_append]
     refine q.lost.append ?_
     rw [List.filter_cons, if_pos (by exact hbv)]
     show List.Perm _ [mvC (bkS b sent) ⟨e'.fSent, e.fHop.fNode, e.fTime⟩]
     unfold mvC
     rw [hs]; exact .refl _
    ·rw [if_neg hR, if_neg hR]
     refine ⟨?_, ?_, q.lost, hup⟩
     ·simp only [List.filter_append, List.map_append]
      refine List.Perm.append ?_ hrest
      rw [ya2 hbv, ← hs, y8Q hok'.s]
     ·simp only
      split
      ·simp only [List.filter_append, List.map_append]
       refine q.come.append ?_
       rw [List.filter_cons, if_pos (by exact hbv)]
       show List.Perm _ [mvC (bkS b sent) ⟨e'.fSent, e.fHop.fNext, R.1⟩]
       unfold mvC
       rw [hs]; exact .refl _
      ·exact q.come
   obtain ⟨m, F', r1, r2, r3⟩ := y7J g hdis hr ((y4F g j1 hp hm).eq he) (y4F (g.part b) j2 hp2 hm2) (tr hstep)
   exact ⟨m + 1, F', .step e' (T.ag.erase e') hp2 hm2 (EQ.refl _) r1, r2, r3⟩
  ·have hbv : ¬ b (nth sent e.fSent).fVL = true := by rw [← hok.v]; exact hb
   rw [List.filter_cons, if_neg hb] at hfl
   have hstep : Part b rs sent (y1a c rs sent e rest S) T := by
    unfold y1a
    generalize y1I (S.pf (yv e.fHop)) e.fTime (nth sent e.fSent).fSize = R
    have hup : ∀ k, UK rs (y1e b sent) k → upd S.pf (yv e.fHop) R.2.2 k = T.pf k := by
     intro k hk
     rw [y9l (fun h => hdis k hk e.fSent e.fHop hok.s hbv hok.h h.symm)]
     exact q.pf k hk
    by_cases hR : R.2.1 ≠ 0
    ·rw [if_pos hR]
     refine ⟨hfl, q.come, ?_, hup⟩
     simp only [List.filter_append]
     rw [List.filter_cons, if_neg (by exact hbv), List.filter_nil, List.append_nil]
     exact q.lost
    ·rw [if_neg hR]
     refine ⟨?_, ?_, q.lost, hup⟩
     ·simp only [List.filter_append]
      rw [y9q hbv, List.nil_append]; exact hfl
     ·simp only
      split
      ·simp only [List.filter_append]
       rw [List.filter_cons, if_neg (by exact hbv), List.filter_nil, List.append_nil]
       exact q.come
      ·exact q.come
   exact y7J g hdis hr ((y4F g j1 hp hm).eq he) j2 (tr hstep)
theorem RunsTo.sents (g : Sg c net rs sent) {x y : List Cm} (h : RunsTo c rs sent x y) : (∀ z ∈ x, 0 ≤ z.fSent ∧ z.fSent < (sent.length : Int)) ∧ ∀ z ∈ y, 0 ≤ z.fSent ∧ z.fSent < (sent.length : Int) := by
 obtain ⟨F, H, h1, h2, h3, h4⟩ := h.hist g
 constructor
 ·intro z hz
  obtain ⟨r, hr, e1, _⟩ := come_rec h3 hz
  rw [← e1]; exact (h2.ok r hr).s
 ·intro z hz
  obtain ⟨r, hr, e1, _⟩ := lost_rec h4 hz
  rw [← e1]; exact (h2.ok r hr).s
theorem yat (g : Sg c net rs sent) (hdis : ∀ k, UK rs (y1e b sent) k → ∀ s h, (0 ≤ s ∧ s < (sent.length : Int)) → ¬ b (nth sent s).fVL = true → h ∈ route rs sent s → yv h ≠ k) {a l x y : List Cm} (h : RunsTo c rs sent a l) (k : RunsTo c rs (y1e b sent) x y) :
  a.filter (onC b sent) = x.map (mvC (bkS b sent)) ∧ l.filter (onC b sent) = y.map (mvC (bkS b sent)) := by
 obtain ⟨n, F, h1, h2, h3⟩ := h.run
 obtain ⟨m, G, k1, k2, k3⟩ := k.run
 have g' := g.part b
 obtain ⟨m', F', r1, r2, r3⟩ := y7J g hdis h1 (y5p g) (y5p g') yas
 have hc := (confl g' r1 (y5p g') k1 (EQ.refl _)).2
 obtain ⟨s1, s2⟩ := k.sents g'
 have hs : ∀ z : List Cm, (∀ q ∈ z, 0 ≤ q.fSent ∧ q.fSent < ((y1e b sent).length : Int)) → Srt clt z → Srt clt (z.map (mvC (bkS b sent))) := fun z hz hl => by
  refine List.pairwise_map.2 (List.Pairwise.imp_of_mem (fun {p q} hp hq hpq => ?_) hl)
  rwa [clt_mv (hz _ hq) (hz _ hp)]
 refine ⟨y88 (List.Pairwise.filter _ h.sc) (hs x s1 k.sc) ?_, y88 (List.Pairwise.filter _ h.sl) (hs y s2 k.sl) ?_⟩
 ·exact (h2.filter _).trans (r2.trans ((hc.come.symm.map _).trans (k2.map _).symm))
 ·exact (h3.filter _).trans (r3.trans ((hc.lost.symm.map _).trans (k3.map _).symm))
end
end Go.Proofs.Ytinchjigeakocaa

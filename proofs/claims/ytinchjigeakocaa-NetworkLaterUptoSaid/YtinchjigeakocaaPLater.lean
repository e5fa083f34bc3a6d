/- A part of this claim's proof: models of functions, walks, plain laws. No conditions. -/
import Derived.Test.YtinchjigeakocaaP31w
import Derived.Test.YtinchjigeakocaaWNetworkLater
namespace Go.Proofs.Ytinchjigeakocaa
open Go Go.RowKit Sep
set_option linter.all false
/-! ### a run that is later -/
def shE (d : Int) (e : Ev) : Ev := ⟨e.fTime + d, e.fIn_, e.fVl, e.fSent, e.fHop⟩
def shC (d : Int) (x : Cm) : Cm := ⟨x.fSent, x.fNode, x.fTime + d⟩
def shF (d : Int) (x : Fr) : Fr := ⟨x.fSize, x.fFin + d⟩
def shS (d : Int) (x : Snt) : Snt := ⟨x.fTime + d, x.fVL, x.fSize⟩
structure ShP (d : Int) (p q : Pt) : Prop where
 num : q.fNumbers = p.fNumbers
 now : q.fNow = p.fNow + d ∨ p.fNow = 0 ∧ q.fNow = 0
 last : q.fLast = p.fLast + d ∨ p.fLast = 0 ∧ q.fLast = 0
 fr : q.fFrames = p.fFrames.map (shF d)
theorem y8I (d : Int) : ∀ l : List Fr, y2V (l.map (shF d)) = y2V l
 | [] => rfl
 | x :: l => by rw [List.map_cons, y2V, y2V, y8I d l]; rfl
theorem wait_sh (d t : Int) (l : List Fr) : y3L (t + d) (l.map (shF d)) = (y3L t l).map (shF d) := by
 unfold y3L
 rw [List.filter_map]
 congr 1
 refine List.filter_congr fun x _ => ?_
 show decide (x.fFin + d > t + d) = decide (x.fFin > t)
 rw [Bool.eq_iff_iff, decide_eq_true_iff, decide_eq_true_iff]; omega
theorem end_sh {d : Int} {p q : Pt} (h : ShP d p q) (hp : 0 ≤ p.fNumbers.fDelay) {t size : Int} (ht : 0 ≤ t) (hd : 0 ≤ d) : y2o q (t + d) size = y2o p t size + d := by
 unfold y2o
 rw [h.num]
 rcases h.last with h1 | ⟨h1, h2⟩
 ·rw [h1]; omega
 ·rw [h1, h2]; omega
theorem put_sh {d : Int} {p q : Pt} (h : ShP d p q) (hp : PI p) {t size : Int} (ht : 0 ≤ t) (hd : 0 ≤ d) (hs : 1 ≤ size ∧ size ≤ 72) (h1 : p.fNow ≤ t ∧ t ≤ 1073741824) (h2 : q.fNow ≤ t + d ∧ t + d ≤ 1073741824) :
  (y1a q (t + d) size).2.1 = (y1a p t size).2.1 ∧ ((y1a p t size).2.1 = 0 → (y1a q (t + d) size).1 = (y1a p t size).1 + d) ∧ ShP d (y1a p t size).2.2 (y1a q (t + d) size).2.2 := by
 have he := end_sh h hp.delay.1 (size := size) ht hd
 unfold y1a
 rw [if_neg (c := size < 1 ∨ size > 72 ∨ t + d < q.fNow ∨ t + d > 1073741824) (by omega), if_neg (c := size < 1 ∨ size > 72 ∨ t < p.fNow ∨ t > 1073741824) (by omega), h.fr, wait_sh, y8I, h.num]
 split
 ·exact ⟨rfl, fun hc => by simp at hc, ⟨rfl, .inl rfl, h.last, rfl⟩⟩
 ·refine ⟨rfl, fun _ => he, ⟨rfl, .inl rfl, .inl he, ?_⟩⟩
  simp only [List.map_append, List.map_cons, List.map_nil, he]
  rfl
theorem kle_sh {d : Int} {a b : Ev} : kle (shE d a) (shE d b) ↔ kle a b := by unfold kle klt shE; simp only; omega
theorem clt_sh {d : Int} {a b : Cm} : clt (shC d a) (shC d b) ↔ clt a b := by unfold clt shC; simp only; omega
theorem nthm {α β γ : Type} [Inhabited α] [Inhabited β] {f : α → β} {q : α → γ} {q' : β → γ} (h : ∀ x, q' (f x) = q x) (hd : q' default = q default) (l : List α) (i : Int) : q' (nth (l.map f) i) = q (nth l i) := by
 unfold nth
 simp only [List.getD_eq_getElem?_getD, List.getElem?_map]
 cases l[i.toNat]? with
 | none => exact hd
 | some x => exact h x
theorem vl_sh (d : Int) (sent : List Snt) (i : Int) : (nth (sent.map (shS d)) i).fVL = (nth sent i).fVL := nthm (f := shS d) (q := zSt.fVL) (q' := zSt.fVL) (fun _ => rfl) rfl sent i
theorem size_sh (d : Int) (sent : List Snt) (i : Int) : (nth (sent.map (shS d)) i).fSize = (nth sent i).fSize := nthm (f := shS d) (q := zSt.fSize) (q' := zSt.fSize) (fun _ => rfl) rfl sent i
theorem time_sh (d : Int) (sent : List Snt) {i : Int} (h : 0 ≤ i ∧ i < sent.length) : (nth (sent.map (shS d)) i).fTime = (nth sent i).fTime + d := by
 rw [y2F (by rw [List.length_map]; exact h), y2F h, List.getElem_map]; rfl
theorem route_sh (d : Int) (rs : List (List Hop)) (sent : List Snt) (i : Int) : route rs (sent.map (shS d)) i = route rs sent i := by unfold route; rw [vl_sh]
theorem y9h (d : Int) (rs : List (List Hop)) (sent : List Snt) (n t i s : Int) : news rs (sent.map (shS d)) n (t + d) i s = (news rs sent n t i s).map (shE d) := by
 unfold news
 rw [vl_sh, List.map_map]
 rfl
section
variable {c : Cf} {net : Int} {rs : List (List Hop)} {sent : List Snt}
structure Later (d : Int) (S T : St) : Prop where
 ag : T.ag.Perm (S.ag.map (shE d))
 come : T.come.Perm (S.come.map (shC d))
 lost : T.lost.Perm (S.lost.map (shC d))
 pf : ∀ k, ShP d (S.pf k) (T.pf k)
theorem init_sh (d : Int) : Later d (init c rs sent) (init c rs (sent.map (shS d))) := by
 refine ⟨?_, .refl _, .refl _, fun k => ⟨rfl, .inr ⟨rfl, rfl⟩, .inr ⟨rfl, rfl⟩, rfl⟩⟩
 show (ag0 rs (sent.map (shS d))).Perm ((ag0 rs sent).map (shE d))
 unfold ag0
 rw [List.length_map, List.map_flatMap]
 rw [show (List.range sent.length).flatMap (y3M rs (sent.map (shS d))) = (List.range sent.length).flatMap fun i => (y3M rs sent i).map (shE d) from ?_]
 rw [List.flatMap_def, List.flatMap_def]
 congr 1
 refine List.map_congr_left fun i hi => ?_
 have hi' := List.mem_range.1 hi
 unfold y3M
 rw [route_sh, time_sh d sent ⟨by omega, by omega⟩, y9h]
theorem y8d (g : Sg c net rs sent) {d : Int} (hd : 0 ≤ d) (g' : Sg c net rs (sent.map (shS d))) : ∀ {n : Nat} {S F : St}, Runs c rs sent n S F → ∀ {T : St} {D D2 : List Id}, IV c net rs sent S D → IV c net rs (sent.map (shS d)) T D2 → Later d S T →
  ∃ F', Runs c rs (sent.map (shS d)) n T F' ∧ F'.come.Perm (F.come.map (shC d)) ∧ F'.lost.Perm (F.lost.map (shC d))
 | _, S, F, .done h k, T, D, D2, j1, j2, q => ⟨T, .done (by have := q.ag; rw [h] at this; exact List.perm_nil.1 this) (EQ.refl _), q.come.trans (k.come.map _), q.lost.trans (k.lost.map _)⟩
 | _, S, F, .step (S' := S') e rest hp hm he hr, T, D, D2, j1, j2, q => by
  have hem : e ∈ S.ag := hp.mem_iff.1 (by simp)
  have hp2 : (shE d e :: rest.map (shE d)).Perm T.ag := (hp.map (shE d)).trans q.ag.symm
  have hm2 : ∀ x ∈ T.ag, kle (shE d e) x := by
   intro x hx
   obtain ⟨y, hy, rfl⟩ := List.mem_map.1 (q.ag.mem_iff.1 hx)
   exact kle_sh.2 (hm y hy)
  have hem2 : shE d e ∈ T.ag := hp2.mem_iff.1 (by simp)
  have hok := j1.ev e hem
  have hok2 := j2.ev _ hem2
  have l1 := j1.len g
  have l2 := j2.len g'
  have t1 := j1.tm e hem
  have t2 := j2.tm _ hem2
  have pos1 : 0 < S.ag.length := List.length_pos_of_mem hem
  have pos2 : 0 < T.ag.length := List.length_pos_of_mem hem2
  have hk : UK rs sent (yq e.fHop) := ⟨e.fSent, e.fHop, hok.s, hok.h, rfl⟩
  have hk2 : UK rs (sent.map (shS d)) (yq e.fHop) := ⟨e.fSent, e.fHop, hok2.s, hok2.h, rfl⟩
  have hsz := (g.fr.each e.fSent hok.s.1 hok.s.2).2.2.2.2
  have hput := put_sh (q.pf (yq e.fHop)) (j1.pi _ hk).1 (t := e.fTime) (size := (nth sent e.fSent).fSize) hok.t hd ⟨hsz.1, hsz.2.1⟩ ⟨j1.now _ hk e hem, by omega⟩ ⟨j2.now _ hk2 _ hem2, by have : (shE d e).fTime = e.fTime + d := rfl; omega⟩
  obtain ⟨u1, u2, u3⟩ := hput
  have hstep : Later d (y1d c rs sent e rest S) (y1d c rs (sent.map (shS d)) (shE d e) (rest.map (shE d)) T) := by
   unfold y1d
   show Later d _ (if (y1a (T.pf (yq e.fHop)) (e.fTime + d) (nth (sent.map (shS d)) e.fSent).fSize).2.1 ≠ 0 then ⟨rest.map (shE d), T.come, T.lost ++ [⟨e.fSent, e.fHop.fNode, e.fTime + d⟩], upd T.pf (yq e.fHop) (y1a (T.pf (yq e.fHop)) (e.fTime + d) (nth (sent.map (shS d)) e.fSent).fSize).2.2⟩
    else ⟨news rs (sent.map (shS d)) e.fHop.fNext (y1a (T.pf (yq e.fHop)) (e.fTime + d) (nth (sent.map (shS d)) e.fSent).fSize).1 e.fHop.fLink e.fSent ++ rest.map (shE d), if e.fHop.fNext < nM c then T.come ++ [⟨e.fSent, e.fHop.fNext, (y1a (T.pf (yq e.fHop)) (e.fTime + d) (nth (sent.map (shS d)) e.fSent).fSize).1⟩] else T.come, T.lost, upd T.pf (yq e.fHop) (y1a (T.pf (yq e.fHop)) (e.fTime + d) (nth (sent.map (shS d)) e.fSent).fSize).2.2⟩)
   rw [size_sh, u1]
   have hup : ∀ k, ShP d (upd S.pf (yq e.fHop) (y1a (S.pf (yq e.fHop)) e.fTime (nth sent e.fSent).fSize).2.2 k) (upd T.pf (yq e.fHop) (y1a (T.pf (yq e.fHop)) (e.fTime + d) (nth sent e.fSent).fSize).2.2 k) := by
    intro k
    unfold upd
    split
    ·exact u3
    ·exact q.pf k
   by_cases hR : (y1a (S.pf (yq e.fHop)) e.fTime (nth sent e.fSent).fSize).2.1 ≠ 0
   ·rw [if_pos hR, if_pos hR]
    refine ⟨.refl _, q.come, ?_, hup⟩
    simp only [List.map_append, List.map_cons, List.map_nil]
    exact q.lost.append_right _
   ·rw [if_neg hR, if_neg hR]
    have hz : (y1a (S.pf (yq e.fHop)) e.fTime (nth sent e.fSent).fSize).2.1 = 0 := by simpa using hR
    rw [u2 hz, y9h]
    refine ⟨by rw [List.map_append], ?_, q.lost, hup⟩
    simp only
    split
    ·rw [List.map_append]
     exact q.come.append_right _
    ·exact q.come
  have hl : Later d S' (y1d c rs (sent.map (shS d)) (shE d e) (rest.map (shE d)) T) := ⟨hstep.ag.trans (he.ag.map _), hstep.come.trans (he.come.map _), hstep.lost.trans (he.lost.map _), fun k => by rw [← he.pf]; exact hstep.pf k⟩
  obtain ⟨F', r1, r2, r3⟩ := y8d g hd g' hr ((y4y g j1 hp hm).eq he) (y4y g' j2 hp2 hm2) hl
  exact ⟨F', .step (shE d e) (rest.map (shE d)) hp2 hm2 (EQ.refl _) r1, r2, r3⟩
theorem y9p (g : Sg c net rs sent) {d : Int} (hd : 0 ≤ d) (g' : Sg c net rs (sent.map (shS d))) {a b x y : List Cm} (h : RunsTo c rs sent a b) (k : RunsTo c rs (sent.map (shS d)) x y) : x = a.map (shC d) ∧ y = b.map (shC d) := by
 obtain ⟨n, F, h1, h2, h3⟩ := h.run
 obtain ⟨m, G, k1, k2, k3⟩ := k.run
 obtain ⟨F', r1, r2, r3⟩ := y8d g hd g' h1 (y52 g) (y52 g') (init_sh d)
 have hc := (confl g' r1 (y52 g') k1 (EQ.refl _)).2
 have hs : ∀ l : List Cm, Srt clt l → Srt clt (l.map (shC d)) := fun l hl => List.pairwise_map.2 (hl.imp fun h => fun hc => h (clt_sh.1 hc))
 exact ⟨y7A k.sc (hs _ h.sc) (k2.trans (hc.come.trans (r2.trans (h2.map _).symm))), y7A k.sl (hs _ h.sl) (k3.trans (hc.lost.trans (r3.trans (h3.map _).symm)))⟩
theorem times_bd (g : Sg c net rs sent) {F : St} {H : List Rc} (h : JV c net rs sent F H) {come lost : List Cm} (hpc : come.Perm (H.filterMap (y6U c))) (hpl : lost.Perm (H.filterMap y6e)) : (∀ x ∈ come, 0 ≤ x.fTime ∧ x.fTime ≤ 1073741824) ∧ (∀ x ∈ lost, 0 ≤ x.fTime ∧ x.fTime ≤ 1073741824) := by
 have hlen := h.iv.len g
 have ho : ∀ r ∈ H, ∀ t, r.out = some t → 0 ≤ t ∧ t ≤ 1073741824 := by
  intro r hr t ht
  have kr := h.ok r hr
  have h1 := h.out r hr t ht
  have h2 := (h.iv.pi _ ⟨r.ev.fSent, r.ev.fHop, kr.s, kr.h, rfl⟩).2.1
  have h3 := cost_pos g kr.s kr.h
  have h4 := kr.t
  omega
 constructor
 ·intro x hx
  obtain ⟨r, hr, _, _, r3, _⟩ := come_rec hpc hx
  exact ho r hr _ r3
 ·intro x hx
  obtain ⟨r, hr, _, _, r3⟩ := lost_rec hpl hx
  have kr := h.ok r hr
  rw [← r3]
  refine ⟨kr.t, ?_⟩
  rcases h.src r.ev (.inr ⟨r, hr, rfl⟩) with ⟨_, a, _⟩ | ⟨r', hr', _, _, a⟩
  ·have := (g.fr.each _ kr.s.1 kr.s.2).2.1
   omega
  ·exact (ho r' hr' _ a).2
end
theorem la_L5 {sent : List Snt} {b : Int} {k : List Snt → Option Bool} (hl : sent.length ≤ 5000000) : ∀ (n : Nat) (o : List Snt) (v : Int), 0 ≤ v → v ≤ sent.length → sent.length < n + v → o.length ≤ v →
  y1t sent b k n o v = k (o ++ (sent.drop v.toNat).map fun f => ⟨i64 (f.fTime + i64 (Int.tmod b 1048576)), f.fVL, f.fSize⟩)
 | 0, o, v, h0, h1, h2, h3 => by omega
 | n + 1, o, v, h0, h1, h2, h3 => by
  rw [y1t]
  by_cases h : v < sent.length
  ·rw [if_pos (decide_eq_true h), yp ⟨h0, h⟩, yp (by simp; omega), yk (x := v + 1) (by omega), la_L5 hl n _ (v + 1) (by omega) (by omega) (by omega) (by simp; omega), y3d h0 h, show (v + 1).toNat = v.toNat + 1 by omega]
   simp
  ·rw [if_neg (by simpa using h), List.drop_eq_nil_of_le (by omega)]
   simp
theorem la_L6 {X : List Cm × List Cm × Int} {b : Int} {k : List Cm → Option Bool} (hl : X.1.length ≤ 1280) : ∀ (n : Nat) (v : Int), 0 ≤ v → v ≤ X.1.length → X.1.length < n + v →
  y1u X b k n ((X.1.take v.toNat).map (fun x => ⟨x.fSent, x.fNode, i64 (x.fTime + i64 (Int.tmod b 1048576))⟩) ++ X.1.drop v.toNat) v = k (X.1.map fun x => ⟨x.fSent, x.fNode, i64 (x.fTime + i64 (Int.tmod b 1048576))⟩)
 | 0, v, h0, h1, h2 => by omega
 | n + 1, v, h0, h1, h2 => by
  rw [y1u]
  by_cases h : v < X.1.length
  ·have ih := la_L6 (b := b) (k := k) hl n (v + 1) (by omega) (by omega) (by omega)
   have l1 : v = ((X.1.take v.toNat).map (fun x : Cm => (⟨x.fSent, x.fNode, i64 (x.fTime + i64 (Int.tmod b 1048576))⟩ : Cm))).length := by simp; omega
   rw [y6v X.1 h0 h, show (v + 1).toNat = v.toNat + 1 by omega] at ih
   simp only [List.map_append, List.map_cons, List.map_nil, List.append_assoc, List.cons_append, List.nil_append] at ih
   rw [if_pos (decide_eq_true h), yp (by simp; omega), y3d h0 h, y4O l1, y4P l1, yk (x := v + 1) (by omega)]
   exact ih
  ·rw [if_neg (by simpa using h), List.drop_eq_nil_of_le (by omega), List.take_of_length_le (by omega)]
   simp
theorem la_L7 {X : List Cm × List Cm × Int} {b : Int} {k : List Cm → Option Bool} (hl : X.2.1.length ≤ 1280) : ∀ (n : Nat) (v : Int), 0 ≤ v → v ≤ X.2.1.length → X.2.1.length < n + v →
  y1v X b k n ((X.2.1.take v.toNat).map (fun x => ⟨x.fSent, x.fNode, i64 (x.fTime + i64 (Int.tmod b 1048576))⟩) ++ X.2.1.drop v.toNat) v = k (X.2.1.map fun x => ⟨x.fSent, x.fNode, i64 (x.fTime + i64 (Int.tmod b 1048576))⟩)
 | 0, v, h0, h1, h2 => by omega
 | n + 1, v, h0, h1, h2 => by
  rw [y1v]
  by_cases h : v < X.2.1.length
  ·have ih := la_L7 (b := b) (k := k) hl n (v + 1) (by omega) (by omega) (by omega)
   have l1 : v = ((X.2.1.take v.toNat).map (fun x : Cm => (⟨x.fSent, x.fNode, i64 (x.fTime + i64 (Int.tmod b 1048576))⟩ : Cm))).length := by simp; omega
   rw [y6v X.2.1 h0 h, show (v + 1).toNat = v.toNat + 1 by omega] at ih
   simp only [List.map_append, List.map_cons, List.map_nil, List.append_assoc, List.cons_append, List.nil_append] at ih
   rw [if_pos (decide_eq_true h), yp (by simp; omega), y3d h0 h, y4O l1, y4P l1, yk (x := v + 1) (by omega)]
   exact ih
  ·rw [if_neg (by simpa using h), List.drop_eq_nil_of_le (by omega), List.take_of_length_le (by omega)]
   simp
theorem y7h {c : Cf} {net : Int} {rs : List (List Hop)} {sent : List Snt} {b : Int} (hs : sent.length ≤ 5000000) (hb : 0 ≤ b ∧ b ≤ 4294967295) : y2X c net rs sent b = some true := by
 unfold y2X
 have hF := y1k
 have hd : i64 (Int.tmod b 1048576) = Int.tmod b 1048576 ∧ 0 ≤ Int.tmod b 1048576 ∧ Int.tmod b 1048576 < 1048576 := by
  rw [Int.tmod_eq_emod_of_nonneg hb.1]
  have := Int.emod_nonneg b (b := 1048576) (by omega)
  have := Int.emod_lt_of_pos b (b := 1048576) (by omega)
  exact ⟨yk (by omega), by omega, by omega⟩
 generalize hdd : Int.tmod b 1048576 = d at hd
 refine y1D (P := fun o => o = some true) fun k hk => ?_
 have h5 := la_L5 (b := b) (k := k) hs yz [] 0 (by omega) (by omega) (by rw [y1k]; omega) (by simp)
 rw [h5, hk]
 simp only [Int.toNat_zero, List.drop_zero, List.nil_append, hdd, hd.1]
 obtain ⟨q, h1, h2⟩ := lfine_eq (c := c) (net := net) (rs := rs) (sent := sent) (by omega)
 rw [h1]
 simp only [Option.bind_some]
 cases q with
 | false => rw [if_pos (by rfl)]; simp only [Option.bind_some, if_true]; rw [y6d]; rfl
 | true =>
  obtain ⟨hf, g⟩ := h2.1 rfl
  rw [if_neg (by simp)]
  have hmv : (sent.map fun f => (⟨i64 (f.fTime + d), f.fVL, f.fSize⟩ : Snt)) = sent.map (shS d) := by
   refine List.map_congr_left fun f hf => ?_
   obtain ⟨i, hi, rfl⟩ := List.getElem_of_mem hf
   have := g.fr.each (i : Int) (by omega) (by omega)
   unfold FG at this
   rw [y2F (i := (i : Int)) ⟨by omega, by omega⟩] at this
   simp only [Int.toNat_natCast] at this
   rw [yk (x := sent[i].fTime + d) (by omega)]; rfl
  rw [hmv]
  obtain ⟨q2, k1, k2⟩ := y7x (c := c) (l := sent.map (shS d)) (by rw [List.length_map]; omega)
  rw [k1]
  simp only [Option.bind_some]
  cases q2 with
  | false => rw [if_pos (by rfl), y6d]; rfl
  | true =>
   have g' : Sg c net rs (sent.map (shS d)) := ⟨g.small, g.va, k2.1 rfl⟩
   rw [if_neg (by simp)]
   obtain ⟨a, b', r1, e1⟩ := Run_eq g
   obtain ⟨x, y, r2, e2⟩ := Run_eq g'
   rw [e1, Option.bind_some, e2, Option.bind_some]
   obtain ⟨hx, hy⟩ := y9p g hd.2.1 g' r1 r2
   obtain ⟨F, H, f1, f2, f3, f4⟩ := r1.hist g
   obtain ⟨t1, t2⟩ := times_bd g f2 f3 f4
   have hlen := r1.len
   subst hx hy
   rw [if_neg (by simp)]
   refine y1D (P := fun o => o = some true) fun k6 hk6 => ?_
   have h6 := la_L6 (X := (a, b', 0)) (b := b) (k := k6) (by show a.length ≤ _; omega) yz 0 (by omega) (by simp) (by rw [y1k]; show (a.length : Int) < _; omega)
   simp only [Int.toNat_zero, List.take_zero, List.map_nil, List.nil_append, List.drop_zero, hdd, hd.1] at h6
   rw [h6, hk6]
   refine y1D (P := fun o => o = some true) fun k7 hk7 => ?_
   have h7 := la_L7 (X := (a, b', 0)) (b := b) (k := k7) (by show b'.length ≤ _; omega) yz 0 (by omega) (by simp) (by rw [y1k]; show (b'.length : Int) < _; omega)
   simp only [Int.toNat_zero, List.take_zero, List.map_nil, List.nil_append, List.drop_zero, hdd, hd.1] at h7
   rw [h7, hk7]
   have ea : (a.map fun x => (⟨x.fSent, x.fNode, i64 (x.fTime + d)⟩ : Cm)) = a.map (shC d) := List.map_congr_left fun x hx => by have := t1 x hx; rw [yk (x := x.fTime + d) (by omega)]; rfl
   have eb : (b'.map fun x => (⟨x.fSent, x.fNode, i64 (x.fTime + d)⟩ : Cm)) = b'.map (shC d) := List.map_congr_left fun x hx => by have := t2 x hx; rw [yk (x := x.fTime + d) (by omega)]; rfl
   rw [ea, eb, y9g (by rw [List.length_map]; omega), y9g (by rw [List.length_map]; omega), y6d]
   simp
end Go.Proofs.Ytinchjigeakocaa

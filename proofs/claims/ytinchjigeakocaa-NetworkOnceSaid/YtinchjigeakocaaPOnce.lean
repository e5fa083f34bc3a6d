/- A part of this claim's proof: models of functions, walks, plain laws. No conditions. -/
import Derived.Test.YtinchjigeakocaaP31w
import Derived.Test.YtinchjigeakocaaPMods
import Derived.Test.YtinchjigeakocaaWNetworkOnce
namespace Go.Proofs.Ytinchjigeakocaa
open Go Go.RowKit Sep
set_option linter.all false
def y2V (x : Cm) : S51 := ⟨x.fSent, x.fNode⟩
def y1A (l : List Cm) (q : S51) : Int := ((l.filter fun x => decide (y2V x = q)).length : Int)
theorem y4Q (l : List Cm) (q : S51) : 0 ≤ y1A l q ∧ y1A l q ≤ l.length := by
 unfold y1A
 have := List.length_filter_le (fun x => decide (y2V x = q)) l
 omega
theorem cntC_app (l : List Cm) (x : Cm) (q : S51) : y1A (l ++ [x]) q = y1A l q + if y2V x = q then 1 else 0 := by
 unfold y1A
 rw [List.filter_append, List.length_append]
 by_cases h : y2V x = q
 ·rw [if_pos h, List.filter_cons, if_pos (decide_eq_true h)]; simp
 ·rw [if_neg h, List.filter_cons, if_neg (by simpa using h)]; simp
theorem y99 {l : List Cm} {x : Cm} (h : x ∈ l) : 1 ≤ y1A l (y2V x) := by
 unfold y1A
 have : 0 < (l.filter fun y => decide (y2V y = y2V x)).length := List.length_pos_of_mem (List.mem_filter.2 ⟨h, by simp⟩)
 omega
theorem y9F {l : List Cm} {x : Cm} {mp : List (S51 × Int)} (h : ∀ q, yk mp q 0 = y1A l q) (hl : l.length ≤ 1280) (q : S51) : yk (yI mp (y2V x) (i64 (yk mp (y2V x) 0 + 1))) q 0 = y1A (l ++ [x]) q := by
 rw [cntC_app, h]
 have := y4Q l (y2V x)
 rw [yn (by omega)]
 by_cases e : q = y2V x
 ·subst e; rw [y5e, if_pos rfl]
 ·rw [y5d e, h, if_neg (fun hc => e hc.symm)]; omega
section
variable {c : Cf} {net : Int} {rs : List (List Hop)} {sent : List Snt}
theorem on_L6 {X : List Cm × List Cm × Int} {k : List (S51 × Int) → Option Bool} (hx : ∀ x ∈ X.1, 0 ≤ x.fSent ∧ x.fSent < sent.length) (hl : X.1.length ≤ 1280) : ∀ (n : Nat) (v : Int) (mp : List (S51 × Int)), 0 ≤ v → v ≤ X.1.length → X.1.length < n + v → (∀ q, yk mp q 0 = y1A (X.1.take v.toNat) q) →
  ∃ mp', (∀ q, yk mp' q 0 = y1A X.1 q) ∧ y1E X sent k n v mp = k mp'
 | 0, v, mp, h0, h1, h2, h3 => by omega
 | n + 1, v, mp, h0, h1, h2, h3 => by
  rw [y1E]
  by_cases h : v < X.1.length
  ·have := hx _ (y35 h0 h)
   rw [if_pos (decide_eq_true h), yp ⟨h0, h⟩, if_neg (by simp only [Bool.or_eq_true, decide_eq_true_eq]; omega), yn (x := v + 1) (by omega)]
   refine on_L6 hx hl n (v + 1) _ (by omega) (by omega) (by omega) fun q => ?_
   rw [y6K X.1 h0 h]
   exact y9F (x := nth X.1 v) h3 (by rw [List.length_take]; omega) q
  ·rw [if_neg (by simpa using h)]
   exact ⟨mp, fun q => by rw [h3, List.take_of_length_le (by omega)], rfl⟩
theorem on_L7 {X : List Cm × List Cm × Int} {k : List (S51 × Int) → Option Bool} (hx : ∀ x ∈ X.2.1, (0 ≤ x.fSent ∧ x.fSent < sent.length) ∧ (nth sent x.fSent).fTime ≤ x.fTime) (hl : X.2.1.length ≤ 1280) : ∀ (n : Nat) (v : Int) (mp : List (S51 × Int)), 0 ≤ v → v ≤ X.2.1.length → X.2.1.length < n + v → (∀ q, yk mp q 0 = y1A (X.2.1.take v.toNat) q) →
  ∃ mp', (∀ q, yk mp' q 0 = y1A X.2.1 q) ∧ y1F X sent k n v mp = k mp'
 | 0, v, mp, h0, h1, h2, h3 => by omega
 | n + 1, v, mp, h0, h1, h2, h3 => by
  rw [y1F]
  by_cases h : v < X.2.1.length
  ·have := hx _ (y35 h0 h)
   rw [if_pos (decide_eq_true h), yp ⟨h0, h⟩, yp (fun _ => this.1), if_neg (by simp only [Bool.or_eq_true, decide_eq_true_eq]; omega), yn (x := v + 1) (by omega)]
   refine on_L7 hx hl n (v + 1) _ (by omega) (by omega) (by omega) fun q => ?_
   rw [y6K X.2.1 h0 h]
   exact y9F (x := nth X.2.1 v) h3 (by rw [List.length_take]; omega) q
  ·rw [if_neg (by simpa using h)]
   exact ⟨mp, fun q => by rw [h3, List.take_of_length_le (by omega)], rfl⟩
theorem y9a (g : Sg c net rs sent) {lost : List Cm} {mp : List (S51 × Int)} (hm : ∀ q, yk mp q 0 = y1A lost q) (hl : lost.length ≤ 1280) {k : Int → Option Bool} {s : Int} (hs : 0 ≤ s ∧ s < sent.length) : ∀ (n : Nat) (m : Nat) (l a : Int), m ≤ (route rs sent s).length → m < n → 0 ≤ l → l ≤ 1280 * (100 - m) →
  y1f rs sent s mp k n l a ((m : Int) - 1) = k (l + bk (route rs sent s) (fun h => y1A lost ⟨s, h.fNode⟩) m a)
 | 0, m, l, a, h0, h1, h2, h3 => by omega
 | n + 1, 0, l, a, h0, h1, h2, h3 => by
  rw [y1f, if_neg (by simp)]
  simp [bk]
 | n + 1, m + 1, l, a, h0, h1, h2, h3 => by
  have hlen := (g.route hs).len
  rw [y1f, show (((m + 1 : Nat) : Int) - 1) = (m : Int) by omega, if_pos (decide_eq_true (by omega))]
  refine y4G (P := fun o => o = k (l + bk (route rs sent s) (fun h => y1A lost ⟨s, h.fNode⟩) (m + 1) a)) fun k1 hk1 => ?_
  have q : (0 : Int) ≤ (m : Int) ∧ (m : Int) < (((nth rs ((nth sent s).fVL)).length : Nat) : Int) := ⟨by omega, by have : m + 1 ≤ (nth rs ((nth sent s).fVL)).length := h0; omega⟩
  rw [yp q, bk]
  by_cases e : (nth (route rs sent s) (m : Int)).fNext = a
  ·have hb := y4Q lost ⟨s, (nth (nth rs (nth sent s).fVL) (m : Int)).fNode⟩
   rw [if_pos (decide_eq_true (by exact e)), if_pos e, yp q, hm, hk1, yn (x := l + _) (by omega), yn (x := (m : Int) - 1) (by omega)]
   rw [y9a g hm hl hs n m _ _ (by omega) (by omega) (by omega) (by omega)]
   unfold route
   congr 1; omega
  ·rw [if_neg (by rw [decide_eq_true_eq]; exact e), if_neg e, hk1, yn (x := (m : Int) - 1) (by omega)]
   exact y9a g hm hl hs n m l a (by omega) (by omega) h2 (by omega)
theorem on_way (g : Sg c net rs sent) {F : St} {H : List Rc} (h : JV c net rs sent F H) (hF : F.ag = []) {lost : List Cm} (hp : lost.Perm (H.filterMap y4H)) {s : Int} (hs : 0 ≤ s ∧ s < sent.length) : ∀ (v : Nat), v < (route rs sent s).length →
  (∃ r ∈ H, r.id = (s, nth (route rs sent s) (v : Int)) ∧ r.out ≠ none) ∨ 1 ≤ bk (route rs sent s) (fun h => y1A lost ⟨s, h.fNode⟩) (v + 1) (nth (route rs sent s) (v : Int)).fNext := by
 intro v
 induction v using Nat.strongRecOn with
 | _ v ih =>
  intro hv
  have hvr := g.route hs
  have hm : nth (route rs sent s) (v : Int) ∈ route rs sent s := y35 (by omega) (by omega)
  rw [hvr.bk_next hv (Nat.le_refl _) (by omega)]
  have hw : ∀ x ∈ route rs sent s, 0 ≤ (fun h : Hop => y1A lost ⟨s, h.fNode⟩) x := fun x _ => (y4Q lost _).1
  have hnn := y5I hw v (nth (route rs sent s) (v : Int)).fNode (by omega)
  have hcn := (y4Q lost ⟨s, (nth (route rs sent s) (v : Int)).fNode⟩).1
  by_cases hin : (s, nth (route rs sent s) (v : Int)) ∈ H.map Rc.id
  ·obtain ⟨r, hr, he⟩ := List.mem_map.1 hin
   cases ho : r.out with
   | some t => exact .inl ⟨r, hr, he, by rw [ho]; simp⟩
   | none =>
    have := y99 (rec_lost hp hr ho)
    have e1 : r.ev.fSent = s := congrArg Prod.fst he
    have e2 : r.ev.fHop = nth (route rs sent s) (v : Int) := congrArg Prod.snd he
    unfold y2V at this
    simp only [e1, e2] at this
    exact .inr (by omega)
  ·right
   rcases hvr.prev hv with q | ⟨q, q1, q2⟩
   ·have := h.root s _ hs hm q
    rw [hF] at this; exact absurd (by simpa using this) hin
   ·have hsk : bk (route rs sent s) (fun h => y1A lost ⟨s, h.fNode⟩) v (nth (route rs sent s) (v : Int)).fNode = bk (route rs sent s) (fun h => y1A lost ⟨s, h.fNode⟩) (q + 1) (nth (route rs sent s) (q : Int)).fNext := by
     rw [← q2]; exact y69 (q + 1) v (by omega) fun j h1 h2 => hvr.next_ne' (by omega) (by omega) (by omega)
    rcases ih q q1 (by omega) with ⟨r, hr, he, ho⟩ | hb
    ·cases ho' : r.out with
     | none => exact absurd ho' ho
     | some t =>
      have e1 : r.ev.fSent = s := congrArg Prod.fst he
      have e2 : r.ev.fHop = nth (route rs sent s) (q : Int) := congrArg Prod.snd he
      have := h.nxt r hr t ho' _ (by rw [e1]; exact hm) (by rw [e2]; exact q2.symm)
      rw [hF, e1] at this
      exact absurd (by simpa using this) hin
    ·rw [hsk]; omega
theorem y8y {r : List Hop} {a : Int} : a ∈ y1d c r ↔ ∃ h ∈ r, h.fNext = a ∧ a < nM c := by
 unfold y1d
 simp only [List.mem_map, List.mem_filter, decide_eq_true_eq]
 constructor
 ·rintro ⟨h, ⟨h1, h2⟩, rfl⟩; exact ⟨h, h1, rfl, h2⟩
 ·rintro ⟨h, h1, rfl, h2⟩; exact ⟨h, ⟨h1, h2⟩, rfl⟩
theorem y7O {α : Type} {f : α → Int} {m : Int} : ∀ (l : List α), (∀ x ∈ l, 0 ≤ f x ∧ f x ≤ m) → 0 ≤ (l.map f).sum ∧ (l.map f).sum ≤ m * l.length
 | [], _ => by simp
 | x :: l, h => by
  have h1 := h x (by simp)
  have h2 := y7O l fun y hy => h y (List.mem_cons_of_mem _ hy)
  rw [List.map_cons, List.sum_cons, List.length_cons]
  have : m * ((l.length + 1 : Nat) : Int) = m * l.length + m := by rw [Int.natCast_add, Int.mul_add]; simp
  omega
theorem on_L9 (g : Sg c net rs sent) {F : St} {H : List Rc} (h : JV c net rs sent F H) (hF : F.ag = []) {come lost : List Cm} (hpc : come.Perm (H.filterMap (y4m c))) (hpl : lost.Perm (H.filterMap y4H)) {mc ml : List (S51 × Int)} (hmc : ∀ q, yk mc q 0 = y1A come q) (hml : ∀ q, yk ml q 0 = y1A lost q) (hlc : come.length ≤ 1280) (hll : lost.length ≤ 1280)
  {k : Int → Option Bool} {s : Int} (hs : 0 ≤ s ∧ s < sent.length) : ∀ (n : Nat) (v t : Int), 0 ≤ v → v ≤ (y1d c (route rs sent s)).length → (y1d c (route rs sent s)).length < n + v → 0 ≤ t → t ≤ 100000 + 1280 * v →
  y1n (y1d c (route rs sent s)) mc s rs sent ml k n t v = k (t + (((y1d c (route rs sent s)).drop v.toNat).map fun a => y1A come ⟨s, a⟩).sum)
 | 0, v, t, h0, h1, h2, h3, h4 => by omega
 | n + 1, v, t, h0, h1, h2, h3, h4 => by
  have hdl : (y1d c (route rs sent s)).length ≤ 32 := by
   unfold y1d; rw [List.length_map]
   exact Nat.le_trans (List.length_filter_le _ _) (g.route hs).len
  rw [y1n]
  by_cases hv : v < (y1d c (route rs sent s)).length
  ·rw [if_pos (decide_eq_true hv)]
   refine y4e (P := fun o => o = _) fun k0 hk0 => ?_
   rw [yp ⟨h0, hv⟩]
   refine y1i (P := fun o => o = _) fun k1 hk1 => ?_
   have hlen := (g.route hs).len
   rw [yn (x := (((nth rs (nth sent s).fVL).length : Nat) : Int) - 1) (by unfold route at hlen; omega)]
   have hL := y9a g hml hll (k := k1) hs yt (route rs sent s).length 0 (nth (y1d c (route rs sent s)) v) (Nat.le_refl _) (by rw [y1k]; omega) (by omega) (by omega)
   rw [show (((nth rs (nth sent s).fVL).length : Nat) : Int) - 1 = (((route rs sent s).length : Nat) : Int) - 1 from rfl, hL, hk1, hmc]
   obtain ⟨x, hx, hx2, hx3⟩ := y8y.1 (y35 (l := y1d c (route rs sent s)) h0 hv)
   obtain ⟨w, hw, hwe⟩ := idx_of hx
   have hcb := y4Q come ⟨s, nth (y1d c (route rs sent s)) v⟩
   -- at most once
   have hone : y1A come ⟨s, nth (y1d c (route rs sent s)) v⟩ ≤ 1 := by
    unfold y1A
    have hon := (ya3 g h hpc).filter (fun x => decide (y2V x = ⟨s, nth (y1d c (route rs sent s)) v⟩))
    cases hq : come.filter (fun x => decide (y2V x = ⟨s, nth (y1d c (route rs sent s)) v⟩)) with
    | nil => simp
    | cons y ys =>
     cases ys with
     | nil => simp
     | cons z zs =>
      exfalso
      rw [hq] at hon
      have hy : y ∈ come.filter (fun x => decide (y2V x = ⟨s, nth (y1d c (route rs sent s)) v⟩)) := by rw [hq]; simp
      have hz : z ∈ come.filter (fun x => decide (y2V x = ⟨s, nth (y1d c (route rs sent s)) v⟩)) := by rw [hq]; simp
      have e1 : y2V y = ⟨s, nth (y1d c (route rs sent s)) v⟩ := of_decide_eq_true (List.mem_filter.1 hy).2
      have e2 : y2V z = ⟨s, nth (y1d c (route rs sent s)) v⟩ := of_decide_eq_true (List.mem_filter.1 hz).2
      have e3 := e1.trans e2.symm
      exact (List.pairwise_cons.1 hon).1 z (by simp) ⟨congrArg S51.a0 e3, congrArg S51.a1 e3⟩
   -- reached, or lost
   have hsome : y1A come ⟨s, nth (y1d c (route rs sent s)) v⟩ = 0 → ¬ (0 + bk (route rs sent s) (fun h => y1A lost ⟨s, h.fNode⟩) (route rs sent s).length (nth (y1d c (route rs sent s)) v) = 0) := by
    intro hz hb
    rcases on_way g h hF hpl hs w hw with ⟨r, hr, he, ho⟩ | hbk
    ·cases ho' : r.out with
     | none => exact absurd ho' ho
     | some u =>
      have e1 : r.ev.fSent = s := congrArg Prod.fst he
      have e2 : r.ev.fHop = x := (congrArg Prod.snd he).trans hwe
      have := y99 (rec_come hpc hr ho' (by rw [e2, hx2]; exact hx3))
      unfold y2V at this
      simp only [e1, e2, hx2] at this
      omega
    ·have e1 := (g.route hs).bk_next (w := fun h => y1A lost ⟨s, h.fNode⟩) hw (Nat.le_refl _) (by omega)
     have e2 := (g.route hs).bk_next (w := fun h => y1A lost ⟨s, h.fNode⟩) hw (show w + 1 ≤ (route rs sent s).length by omega) (Nat.le_refl _)
     have e3 := Int.le_trans hbk (Int.le_of_eq (e1.trans e2.symm))
     rw [hwe, hx2] at e3
     omega
   rw [if_neg (by
    simp only [Bool.or_eq_true, Bool.and_eq_true, decide_eq_true_eq]
    rintro (hc | ⟨hc, hc2⟩)
    ·omega
    ·exact hsome hc hc2), hk0, hmc, yn (x := t + _) (by omega), yn (x := v + 1) (by omega), on_L9 g h hF hpc hpl hmc hml hlc hll hs n (v + 1) _ (by omega) (by omega) (by omega) (by omega) (by omega)]
   rw [y4f (l := y1d c (route rs sent s)) h0 hv, List.map_cons, List.sum_cons, show (v + 1).toNat = v.toNat + 1 by omega]
   congr 1; omega
  ·rw [if_neg (by simpa using hv), List.drop_eq_nil_of_le (by omega)]
   simp
theorem on_L8 (g : Sg c net rs sent) {F : St} {H : List Rc} (h : JV c net rs sent F H) (hF : F.ag = []) {come lost : List Cm} (hpc : come.Perm (H.filterMap (y4m c))) (hpl : lost.Perm (H.filterMap y4H)) {mc ml : List (S51 × Int)} (hmc : ∀ q, yk mc q 0 = y1A come q) (hml : ∀ q, yk ml q 0 = y1A lost q) (hlc : come.length ≤ 1280) (hll : lost.length ≤ 1280)
  {k : Int → Option Bool} (hT : ∀ v : Int, 0 ≤ v → v ≤ sent.length → True) : ∀ (n : Nat) (t v : Int), 0 ≤ v → v ≤ sent.length → sent.length < n + v → 0 ≤ t → t ≤ 100000 →
  (t + (((List.range sent.length).drop v.toNat).map fun i : Nat => ((y1d c (route rs sent (i : Int))).map fun a => y1A come ⟨(i : Int), a⟩).sum).sum ≤ 100000) →
  y1G sent rs c mc ml k n t v = k (t + (((List.range sent.length).drop v.toNat).map fun i : Nat => ((y1d c (route rs sent (i : Int))).map fun a => y1A come ⟨(i : Int), a⟩).sum).sum)
 | 0, t, v, h0, h1, h2, h3, h4, h5 => by omega
 | n + 1, t, v, h0, h1, h2, h3, h4, h5 => by
  rw [y1G]
  have h40 := g.fr.len
  by_cases hv : v < sent.length
  ·rw [if_pos (decide_eq_true hv)]
   refine y1i (P := fun o => o = _) fun k0 hk0 => ?_
   have hs : 0 ≤ v ∧ v < sent.length := ⟨h0, hv⟩
   have hr := (g.route hs).len
   rw [yp hs, yp (g.vl hs), y9O (r := nth rs (nth sent v).fVL) (Nat.le_trans hr (by omega))]
   simp only [Option.bind_some]
   refine y1i (P := fun o => o = _) fun k1 hk1 => ?_
   have hdl : (y1d c (route rs sent v)).length ≤ 32 := by
    unfold y1d; rw [List.length_map]
    exact Nat.le_trans (List.length_filter_le _ _) hr
   have hL := on_L9 g h hF hpc hpl hmc hml hlc hll (k := k1) hs yt 0 t (by omega) (by omega) (by rw [y1k]; omega) h3 (by omega)
   have e : (List.range sent.length).drop v.toNat = v.toNat :: (List.range sent.length).drop (v + 1).toNat := by
    rw [show (v + 1).toNat = v.toNat + 1 by omega, ← List.getElem_cons_drop (i := v.toNat) (by simp; omega)]
    simp
   rw [e, List.map_cons, List.sum_cons, Int.toNat_of_nonneg h0] at h5 ⊢
   have hnn := (y7O (f := fun a => y1A come ⟨v, a⟩) (m := 1280) (y1d c (route rs sent v)) fun a _ => by have := y4Q come ⟨v, a⟩; omega).1
   have hnn2 := (y7O (f := fun i : Nat => ((y1d c (route rs sent (i : Int))).map fun a => y1A come ⟨(i : Int), a⟩).sum) (m := 1280 * 100000) ((List.range sent.length).drop (v + 1).toNat) fun i hi => by
    have hi' := List.mem_range.1 (List.mem_of_mem_drop hi)
    have := y7O (f := fun a => y1A come ⟨(i : Int), a⟩) (m := 1280) (y1d c (route rs sent (i : Int))) fun a _ => by have := y4Q come ⟨(i : Int), a⟩; omega
    have hdl' : (y1d c (route rs sent (i : Int))).length ≤ 32 := by
     unfold y1d; rw [List.length_map]
     exact Nat.le_trans (List.length_filter_le _ _) (g.route ⟨by omega, by omega⟩).len
    omega).1
   show y1n (y1d c (route rs sent v)) mc v rs sent ml k1 yt t 0 = _
   rw [hL, hk1, hk0, Int.toNat_zero, List.drop_zero, yn (x := v + 1) (by omega), on_L8 g h hF hpc hpl hmc hml hlc hll hT n _ (v + 1) (by omega) (by omega) (by omega) (by omega) (by omega) (by omega)]
   congr 1; omega
  ·rw [if_neg (by simpa using hv), List.drop_eq_nil_of_le (by simp; omega)]
   simp
theorem y9P {l : List Cm} {K : List S51} (hK : K.Nodup) (hl : ∀ x ∈ l, y2V x ∈ K) : (K.map fun q => y1A l q).sum = l.length := by
 induction l with
 | nil =>
  have : ∀ K : List S51, (K.map fun q => y1A [] q).sum = 0 := by
   intro K; induction K with
   | nil => rfl
   | cons q K ih => rw [List.map_cons, List.sum_cons, ih]; rfl
  rw [this]; rfl
 | cons x l ih =>
  have h1 := ih fun y hy => hl y (List.mem_cons_of_mem _ hy)
  have h2 : ∀ K : List S51, K.Nodup → (K.map fun q => y1A (x :: l) q).sum = (K.map fun q => y1A l q).sum + if y2V x ∈ K then 1 else 0 := by
   intro K hn
   induction K with
   | nil => simp
   | cons q K ihk =>
    rw [List.nodup_cons] at hn
    rw [List.map_cons, List.sum_cons, List.map_cons, List.sum_cons, ihk hn.2]
    have : y1A (x :: l) q = y1A l q + if y2V x = q then 1 else 0 := by
     unfold y1A
     rw [List.filter_cons]
     by_cases e : y2V x = q
     ·rw [if_pos (decide_eq_true e), if_pos e]; simp
     ·rw [if_neg (by simpa using e), if_neg e]; simp
    rw [this]
    by_cases e : y2V x = q
    ·subst e
     rw [if_pos rfl, if_neg hn.1, if_pos (List.mem_cons_self ..)]; omega
    ·rw [if_neg e]
     by_cases e2 : y2V x ∈ K
     ·rw [if_pos e2, if_pos (List.mem_cons_of_mem _ e2)]; omega
     ·rw [if_neg e2, if_neg (by rw [List.mem_cons]; exact fun hc => hc.elim e e2)]; omega
  rw [h2 K hK, h1, if_pos (hl x (by simp))]
  simp
theorem y9b {α β : Type} {f : β → Int} {q : α → List β} : ∀ (l : List α), ((l.flatMap q).map f).sum = (l.map fun x => ((q x).map f).sum).sum
 | [] => rfl
 | x :: l => by rw [List.flatMap_cons, List.map_append, List.sum_append, List.map_cons, List.sum_cons, y9b l]
theorem y9Q (g : Sg c net rs sent) {F : St} {H : List Rc} (h : JV c net rs sent F H) {come : List Cm} (hpc : come.Perm (H.filterMap (y4m c))) : (((List.range sent.length)).map fun i : Nat => ((y1d c (route rs sent (i : Int))).map fun a => y1A come ⟨(i : Int), a⟩).sum).sum = come.length := by
 rw [← y9P (l := come) (K := (List.range sent.length).flatMap fun i : Nat => (y1d c (route rs sent (i : Int))).map fun a => (⟨(i : Int), a⟩ : S51))]
 ·rw [y9b]
  congr 1
  refine List.map_congr_left fun i _ => ?_
  rw [List.map_map]; rfl
 ·rw [List.nodup_iff_pairwise_ne, List.pairwise_flatMap]
  constructor
  ·intro i hi
   refine List.Pairwise.map _ (R := fun a b => a ≠ b) (fun a b hab hc' => hab (congrArg S51.a1 hc')) ?_
   unfold y1d
   rw [List.pairwise_map]
   have hvr := g.route (s := (i : Int)) ⟨by omega, by have := List.mem_range.1 hi; omega⟩
   refine (((List.nodup_iff_pairwise_ne.1 hvr.nodup)).filter _).imp_of_mem fun {a b} ha hb hab e => hab ?_
   exact hvr.next_inj (List.mem_filter.1 ha).1 (List.mem_filter.1 hb).1 e
  ·refine (List.nodup_iff_pairwise_ne.1 List.nodup_range).imp_of_mem ?_
   intro i j hi hj hij x hx y hy hxy
   obtain ⟨a, ha, rfl⟩ := List.mem_map.1 hx
   obtain ⟨b, hb, rfl⟩ := List.mem_map.1 hy
   have := congrArg S51.a0 hxy
   simp only at this
   omega
 ·intro x hx
  obtain ⟨r, hr, r1, r2, r3, r4⟩ := y98 hpc hx
  have kr := h.ok r hr
  rw [List.mem_flatMap]
  refine ⟨x.fSent.toNat, List.mem_range.2 (by have := kr.s; omega), ?_⟩
  have e : ((x.fSent.toNat : Nat) : Int) = x.fSent := by have := kr.s; omega
  rw [e]
  refine List.mem_map.2 ⟨x.fNode, y8y.2 ⟨r.ev.fHop, by rw [← r1]; exact kr.h, r2, r4⟩, rfl⟩
theorem y7P (hs : (sent.length : Int) ≤ 9223372036854775807) : y3j c net rs sent = some true := by
 unfold y3j
 obtain ⟨b, h1, h2⟩ := lfine_eq (c := c) (net := net) (rs := rs) hs
 rw [h1]
 simp only [Option.bind_some]
 cases b with
 | false => rw [if_pos (by rfl), y7N]; rfl
 | true =>
  obtain ⟨hf, g⟩ := h2.1 rfl
  rw [if_neg (by simp)]
  obtain ⟨a, b, r1, e1⟩ := Run_eq g
  rw [e1, Option.bind_some, if_neg (by simp)]
  obtain ⟨F, H, f1, f2, f3, f4⟩ := r1.hist g
  have hlen := r1.len
  refine y1i (P := fun o => o = some true) fun k1 hk1 => ?_
  obtain ⟨mc, m1, m2⟩ := on_L6 (X := (a, b, 0)) (sent := sent) (k := k1) (fun x hx => by
   obtain ⟨r, hr, q1, _⟩ := y98 f3 hx
   rw [← q1]; exact (f2.ok r hr).s) (by show a.length ≤ _; omega) yt 0 [] (by omega) (by simp) (by rw [y1k]; show (a.length : Int) < _; omega) (fun q => rfl)
  rw [m2, hk1]
  refine y1i (P := fun o => o = some true) fun k2 hk2 => ?_
  obtain ⟨ml, n1, n2⟩ := on_L7 (X := (a, b, 0)) (sent := sent) (k := k2) (fun x hx => by
   obtain ⟨r, hr, q1, q2, q3⟩ := lost_rec f4 hx
   have kr := f2.ok r hr
   rw [← q1, ← q3]
   refine ⟨kr.s, ?_⟩
   obtain ⟨w, hw, hwe⟩ := idx_of kr.h
   have := (least g f2 _ kr.s w hw r hr rfl hwe.symm).1
   have hb := y5I (w := cost c sent r.ev.fSent) (fun h hh => cost_pos g kr.s hh) w (nth (route rs sent r.ev.fSent) (w : Int)).fNode (by omega)
   omega) (by show b.length ≤ _; omega) yt 0 [] (by omega) (by simp) (by rw [y1k]; show (b.length : Int) < _; omega) (fun q => rfl)
  rw [n2, hk2]
  refine y1i (P := fun o => o = some true) fun k3 hk3 => ?_
  have ht := y9Q g f2 f3
  have hL := on_L8 g f2 f1 f3 f4 m1 n1 (by omega) (by omega) (k := k3) (fun _ _ _ => trivial) yt 0 0 (by omega) (by omega) (by rw [y1k]; have := g.fr.len; omega) (by omega) (by omega) (by rw [Int.toNat_zero, List.drop_zero, ht]; omega)
  rw [hL, Int.toNat_zero, List.drop_zero, ht, hk3, if_pos (by simp), y7N]
  rfl
end
end Go.Proofs.Ytinchjigeakocaa

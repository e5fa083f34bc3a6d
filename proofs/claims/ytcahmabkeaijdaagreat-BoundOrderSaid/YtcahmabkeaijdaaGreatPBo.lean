/- A part of this claim's proof: models of functions, walks, plain laws. No conditions. -/
import Derived.Test.YtcahmabkeaijdaaGreatP35d
import Derived.Test.YtcahmabkeaijdaaGreatWBoundOrder
namespace Go.Proofs.YtcahmabkeaijdaaGreat
open Go Go.RowKit Sep
set_option linter.all false
abbrev K6 := S60
def k6 (p : Pl) : K6 := ⟨p.fNode, p.fLink⟩
theorem ycU {p q : Pl} (h : k6 p = k6 q) : p = q := by
 obtain ⟨a, b⟩ := p; obtain ⟨c, d⟩ := q
 unfold k6 at h; injection h with h1 h2; simp only at h1 h2; subst_vars; rfl
/-! ### bound.Order -/
theorem y9X {l : List Pl × Int} {k : List Sapi_PortBound → Option (List Sapi_PortBound × Int)} (hl : l.1.length ≤ 1000000) : ∀ (n : Nat) (o : List Sapi_PortBound) (v : Int), 0 ≤ v → v ≤ l.1.length → l.1.length < n + v → o.length = v →
  y3a l k n o v = k (o ++ (l.1.drop v.toNat).map fun p => ⟨p.fNode, p.fLink, 0, 0⟩)
 | 0, o, v, h0, h1, h2, h3 => by omega
 | n + 1, o, v, h0, h1, h2, h3 => by
  rw [y3a]
  by_cases h : v < l.1.length
  ·rw [if_pos (decide_eq_true h), y1c ⟨h0, h⟩, y1c (by simp; omega), y3b h0 h, y1H (x := v + 1) (by omega)]
   rw [y9X hl n _ (v + 1) (by omega) (by omega) (by omega) (by simp; omega), show (v + 1).toNat = v.toNat + 1 by omega]
   simp
  ·rw [if_neg (by simpa using h), List.drop_eq_nil_of_le (by omega)]; simp
/-! ### the numbers of the list -/
def kb (b : Sapi_PortBound) : K6 := ⟨b.fNode, b.fLink⟩
theorem ybY {l : List Sapi_PortBound × Int} {k : List (K6 × Int) → Option Bool} (hl : l.1.length ≤ 1000000) (hn : (l.1.map kb).Nodup) : ∀ (n : Nat) (v : Int) (mp : List (K6 × Int)), 0 ≤ v → v ≤ l.1.length → l.1.length < n + v →
  (∀ x, y2w mp x = decide (x ∈ (l.1.take v.toNat).map kb)) → (∀ x ∈ (l.1.take v.toNat).map kb, yp mp x 0 = (((l.1.map kb).idxOf x : Nat) : Int)) →
  ∃ mp' : List (K6 × Int), (∀ x ∈ l.1.map kb, yp mp' x 0 = (((l.1.map kb).idxOf x : Nat) : Int)) ∧ y1U l k n v mp = k mp'
 | 0, v, mp, h0, h1, h2, h3, h4 => by omega
 | n + 1, v, mp, h0, h1, h2, h3, h4 => by
  rw [y1U]
  by_cases h : v < l.1.length
  ·rw [if_pos (decide_eq_true h), y1c ⟨h0, h⟩]
   have e : (⟨((nth l.1 v).fNode), ((nth l.1 v).fLink)⟩ : S60) = kb (nth l.1 v) := rfl
   have hv : v.toNat < (l.1.map kb).length := by simp; omega
   have e2 : (l.1.map kb)[v.toNat] = kb (nth l.1 v) := by
    rw [List.getElem_map]; congr 1; exact y66 h0 h
   have hnot : kb (nth l.1 v) ∉ (l.1.take v.toNat).map kb := by
    rw [List.map_take, ← e2]
    intro hc
    obtain ⟨j, hj, hje⟩ := List.getElem_of_mem hc
    rw [List.getElem_take] at hje
    have hjl : j < v.toNat := by simp at hj; omega
    have := (List.getElem_inj (h₀ := by simp at hj ⊢; omega) (h₁ := hv) hn).1 hje
    omega
   have htk : (l.1.take (v + 1).toNat).map kb = (l.1.take v.toNat).map kb ++ [kb (nth l.1 v)] := by
    rw [show (v + 1).toNat = v.toNat + 1 by omega, List.map_take, List.map_take, List.take_succ, List.getElem?_eq_getElem hv, e2]; rfl
   rw [e, h3, if_neg (by simpa using hnot), y1H (x := v + 1) (by omega)]
   refine ybY hl hn n (v + 1) _ (by omega) (by omega) (by omega) ?_ ?_
   ·intro x
    rw [ycP, h3, htk]
    by_cases hx : x = kb (nth l.1 v) <;> simp [hx]
   ·intro x hx
    rw [htk] at hx
    rw [y8H]
    rcases List.mem_append.1 hx with hx | hx
    ·rw [if_neg (fun e : x = kb (nth l.1 v) => hnot (by rw [← e]; exact hx)), h4 x hx]
    ·rw [List.mem_singleton] at hx
     rw [if_pos hx, hx, ← e2, List.Nodup.idxOf_getElem hn]
     omega
  ·rw [if_neg (by simpa using h)]
   refine ⟨mp, fun x hx => h4 x ?_, rfl⟩
   rw [List.take_of_length_le (by omega)]; exact hx
/-! ### the lengths at the start -/
theorem len_in {rs : List (List Hop)} {v : Int} {k : List (K6 × Int) → Option Bool} (hr : (nth rs v).length ≤ 1000000) : ∀ (n : Nat) (i : Int) (mp : List (K6 × Int)), 0 ≤ i → i ≤ (nth rs v).length → (nth rs v).length < n + i →
  y1V rs v k n i mp = k (((nth rs v).drop i.toNat).foldl (fun mp h => yG mp (k6 (pk h)) 1) mp)
 | 0, i, mp, a0, a1, a2 => by omega
 | n + 1, i, mp, a0, a1, a2 => by
  rw [y1V]
  by_cases h : i < (nth rs v).length
  ·rw [if_pos (decide_eq_true h), y3b a0 h, List.foldl_cons, y1c ⟨a0, h⟩, y1H (x := i + 1) (by omega), len_in hr n (i + 1) _ (by omega) (by omega) (by omega), show (i + 1).toNat = i.toNat + 1 by omega]
   rfl
  ·rw [if_neg (by simpa using h), List.drop_eq_nil_of_le (by omega)]; rfl
theorem ybZ {rs : List (List Hop)} {k : List (K6 × Int) → Option Bool} (hr : ∀ r ∈ rs, r.length ≤ 1000000) (hl : rs.length ≤ 1000000) : ∀ (n : Nat) (v : Int) (mp : List (K6 × Int)), 0 ≤ v → v ≤ rs.length → rs.length < n + v →
  y1W rs k n v mp = k ((y6Z (rs.drop v.toNat)).foldl (fun mp h => yG mp (k6 (pk h)) 1) mp)
 | 0, v, mp, a0, a1, a2 => by omega
 | n + 1, v, mp, a0, a1, a2 => by
  rw [y1W]
  by_cases h : v < rs.length
  ·have hrl := hr _ (y5c a0 h)
   rw [if_pos (decide_eq_true h), y3b a0 h]
   unfold y6Z
   rw [List.flatten_cons, List.foldl_append]
   refine y4Y (P := fun x => x = _) fun kk hkk => ?_
   rw [y1c ⟨a0, h⟩]
   refine y4Y (P := fun x => x = _) fun k2 hk2 => ?_
   rw [len_in hrl yB 0 mp (by omega) (by omega) (by rw [y2f]; omega)]
   simp only [Int.toNat_zero, List.drop_zero]
   rw [hk2, hkk, y1H (x := v + 1) (by omega), ybZ hr hl n (v + 1) _ (by omega) (by omega) (by omega), show (v + 1).toNat = v.toNat + 1 by omega]
   rfl
  ·rw [if_neg (by simpa using h), List.drop_eq_nil_of_le (by omega)]; rfl
def KM (rs : List (List Hop)) (mp : List (K6 × Int)) : Prop := (mp.map (·.1)).Nodup ∧ ∀ x, x ∈ mp.map (·.1) ↔ ∃ p ∈ PS rs, k6 p = x
theorem KM.put {rs : List (List Hop)} {mp : List (K6 × Int)} (h : KM rs mp) {p : Pl} (hp : p ∈ PS rs) (v : Int) : KM rs (yG mp (k6 p) v) := by
 have hm : k6 p ∈ mp.map (·.1) := (h.2 _).2 ⟨p, hp, rfl⟩
 unfold KM
 rw [y9V, if_pos hm]; exact h
theorem KM.len {rs : List (List Hop)} {mp : List (K6 × Int)} (h : KM rs mp) : mp.length = (PS rs).length := by
 have h1 : ((PS rs).map k6).Nodup := List.Pairwise.map _ (fun a b hab e => hab (ycU e)) (y9W rs)
 have h2 : (mp.map (·.1)).Perm ((PS rs).map k6) := (List.perm_ext_iff_of_nodup h.1 h1).2 fun x => by rw [h.2, List.mem_map]
 have := h2.length_eq
 simpa using this
theorem ydI (hs : List Hop) : ∀ (mp : List (K6 × Int)), (mp.map (·.1)).Nodup → (∀ x ∈ mp.map (·.1), yp mp x 0 = 1) →
  ((hs.foldl (fun mp h => yG mp (k6 (pk h)) 1) mp).map (·.1)).Nodup ∧ (∀ x, x ∈ (hs.foldl (fun mp h => yG mp (k6 (pk h)) 1) mp).map (·.1) ↔ x ∈ mp.map (·.1) ∨ ∃ h ∈ hs, k6 (pk h) = x) ∧
   ∀ x ∈ (hs.foldl (fun mp h => yG mp (k6 (pk h)) 1) mp).map (·.1), yp (hs.foldl (fun mp h => yG mp (k6 (pk h)) 1) mp) x 0 = 1 := by
 induction hs with
 | nil => intro mp h1 h2; exact ⟨h1, fun x => by simp, h2⟩
 | cons h hs ih =>
  intro mp h1 h2
  rw [List.foldl_cons]
  have hk := y9V (k := k6 (pk h)) (u := (1 : Int)) mp
  have hmem : ∀ x, x ∈ (yG mp (k6 (pk h)) (1 : Int)).map (·.1) ↔ x ∈ mp.map (·.1) ∨ k6 (pk h) = x := by
   intro x; rw [hk]
   split
   ·rename_i hc
    exact ⟨.inl, fun hx => hx.elim id fun e => e ▸ hc⟩
   ·simp [eq_comm]
  have hnd : ((yG mp (k6 (pk h)) (1 : Int)).map (·.1)).Nodup := by
   rw [hk]; split
   ·exact h1
   ·rename_i hc
    refine List.nodup_append.2 ⟨h1, by simp, fun a ha b hb => ?_⟩
    rw [List.mem_singleton] at hb; subst hb
    exact fun e => hc (e ▸ ha)
  obtain ⟨i1, i2, i3⟩ := ih (yG mp (k6 (pk h)) (1 : Int)) hnd (fun x hx => by
   rw [y8H]; split
   ·rfl
   ·rename_i hne
    rcases (hmem x).1 hx with hx | hx
    ·exact h2 x hx
    ·exact absurd hx.symm hne)
  refine ⟨i1, fun x => ?_, i3⟩
  rw [i2, hmem]
  simp only [List.mem_cons, exists_eq_or_imp, or_assoc]
/-! ### the longest chains -/
abbrev BS := Bool × Bool × List (K6 × Int)
def stp (s : BS) (g h : Hop) : BS :=
 if (decide (g.fNext = h.fNode)) && (decide (yp s.2.2 (k6 (pk h)) 0 ≤ yp s.2.2 (k6 (pk g)) 0)) then
  (s.1 || decide (yp (yG s.2.2 (k6 (pk h)) (i64 (yp s.2.2 (k6 (pk g)) 0 + 1))) (k6 (pk h)) 0 > (((yG s.2.2 (k6 (pk h)) (i64 (yp s.2.2 (k6 (pk g)) 0 + 1))).length : Nat) : Int)), true, yG s.2.2 (k6 (pk h)) (i64 (yp s.2.2 (k6 (pk g)) 0 + 1)))
 else s
theorem bf_in {rs : List (List Hop)} {v w : Int} {k : Bool → Bool → List (K6 × Int) → Option Bool} (hr : (nth rs v).length ≤ 1000000) (hw : 0 ≤ w ∧ w < (nth rs v).length) : ∀ (n : Nat) (i : Int) (s : BS), 0 ≤ i → i ≤ (nth rs v).length → (nth rs v).length < n + i →
  y1X rs v w k n s.1 s.2.1 i s.2.2 = (fun t : BS => k t.1 t.2.1 t.2.2) (((nth rs v).drop i.toNat).foldl (fun s g => stp s g (nth (nth rs v) w)) s)
 | 0, i, s, a0, a1, a2 => by omega
 | n + 1, i, s, a0, a1, a2 => by
  rw [y1X]
  by_cases h : i < (nth rs v).length
  ·rw [if_pos (decide_eq_true h), y3b a0 h, List.foldl_cons]
   refine y7a (P := fun x => x = _) fun kk hkk => ?_
   rw [y1c ⟨a0, h⟩]
   have hgo : ∀ t : BS, kk t.1 t.2.1 t.2.2 = (fun t : BS => k t.1 t.2.1 t.2.2) (((nth rs v).drop (i.toNat + 1)).foldl (fun s g => stp s g (nth (nth rs v) w)) t) := fun t => by
    rw [hkk, y1H (x := i + 1) (by omega), bf_in hr hw n (i + 1) t (by omega) (by omega) (by omega), show (i + 1).toNat = i.toNat + 1 by omega]
   rw [← hgo]
   unfold stp
   have hu : ∀ h : Hop, (⟨h.fNode, h.fLink⟩ : S60) = k6 (pk h) := fun _ => rfl
   rw [hu (nth (nth rs v) w), hu (nth (nth rs v) i)]
   by_cases hc : (decide ((nth (nth rs v) i).fNext = (nth (nth rs v) w).fNode) && decide (yp s.2.2 (k6 (pk (nth (nth rs v) w))) 0 ≤ yp s.2.2 (k6 (pk (nth (nth rs v) i))) 0)) = true
   ·rw [if_pos hc, if_pos hc]
   ·rw [if_neg hc, if_neg hc]
  ·rw [if_neg (by simpa using h), List.drop_eq_nil_of_le (by omega)]; rfl
theorem bf_mid {rs : List (List Hop)} {v : Int} {k : Bool → Bool → List (K6 × Int) → Option Bool} (hr : (nth rs v).length ≤ 1000000) : ∀ (n : Nat) (i : Int) (s : BS), 0 ≤ i → i ≤ (nth rs v).length → (nth rs v).length < n + i →
  y1Y rs v k n s.1 s.2.1 i s.2.2 = (fun t : BS => k t.1 t.2.1 t.2.2) (((nth rs v).drop i.toNat).foldl (fun s h => (nth rs v).foldl (fun s g => stp s g h) s) s)
 | 0, i, s, a0, a1, a2 => by omega
 | n + 1, i, s, a0, a1, a2 => by
  rw [y1Y]
  by_cases h : i < (nth rs v).length
  ·rw [if_pos (decide_eq_true h), y3b a0 h, List.foldl_cons]
   refine y7a (P := fun x => x = _) fun kk hkk => ?_
   rw [y1c ⟨a0, h⟩]
   refine y7a (P := fun x => x = _) fun k2 hk2 => ?_
   rw [bf_in hr ⟨a0, h⟩ yB 0 s (by omega) (by omega) (by rw [y2f]; omega)]
   simp only [Int.toNat_zero, List.drop_zero]
   rw [hk2, hkk, y1H (x := i + 1) (by omega), bf_mid hr n (i + 1) _ (by omega) (by omega) (by omega), show (i + 1).toNat = i.toNat + 1 by omega]
  ·rw [if_neg (by simpa using h), List.drop_eq_nil_of_le (by omega)]; rfl
def rnd1 (s : BS) (r : List Hop) : BS := r.foldl (fun s h => r.foldl (fun s g => stp s g h) s) s
theorem bf_out {rs : List (List Hop)} {k : Bool → Bool → List (K6 × Int) → Option Bool} (hr : ∀ r ∈ rs, r.length ≤ 1000000) (hl : rs.length ≤ 1000000) : ∀ (n : Nat) (v : Int) (s : BS), 0 ≤ v → v ≤ rs.length → rs.length < n + v →
  y1Z rs k n s.1 s.2.1 v s.2.2 = (fun t : BS => k t.1 t.2.1 t.2.2) ((rs.drop v.toNat).foldl rnd1 s)
 | 0, i, s, a0, a1, a2 => by omega
 | n + 1, v, s, a0, a1, a2 => by
  rw [y1Z]
  by_cases h : v < rs.length
  ·have hrl := hr _ (y5c a0 h)
   rw [if_pos (decide_eq_true h), y3b a0 h, List.foldl_cons]
   refine y7a (P := fun x => x = _) fun kk hkk => ?_
   rw [y1c ⟨a0, h⟩]
   refine y7a (P := fun x => x = _) fun k2 hk2 => ?_
   rw [bf_mid hrl yB 0 s (by omega) (by omega) (by rw [y2f]; omega)]
   simp only [Int.toNat_zero, List.drop_zero]
   rw [hk2, hkk, y1H (x := v + 1) (by omega), bf_out hr hl n (v + 1) _ (by omega) (by omega) (by omega), show (v + 1).toNat = v.toNat + 1 by omega]
   rfl
  ·rw [if_neg (by simpa using h), List.drop_eq_nil_of_le (by omega)]; rfl
end Go.Proofs.YtcahmabkeaijdaaGreat

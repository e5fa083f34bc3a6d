/- A part of this claim's proof: models of functions, walks, plain laws. No conditions. -/
import Derived.Test.YtcahmabkeaijdaaGreatP35a
namespace Go.Proofs.YtcahmabkeaijdaaGreat
open Go Go.RowKit Sep
set_option linter.all false
theorem y7a {RR A0 A1 A2 : Type} {K : A0 → A1 → A2 → Option RR} {F : (A0 → A1 → A2 → Option RR) → Option RR} {P : Option RR → Prop} (h : ∀ k : A0 → A1 → A2 → Option RR, (∀ x0 x1 x2, k x0 x1 x2 = K x0 x1 x2) → P (F k)) : P (jp3 K F) := h K fun _ _ _ => rfl
/-! ### maps -/
theorem ycP {κ γ : Type} [DecidableEq κ] {k k' : κ} {u : γ} : ∀ l : List (κ × γ), y2w (yG l k u) k' = (decide (k' = k) || y2w l k')
 | [] => by simp [yG, y2w]
 | p :: l => by
  by_cases hk : k = p.1
  ·subst hk
   by_cases h2 : k' = p.1 <;> simp [yG, y2w, h2]
  ·simp only [yG, hk, if_false, y2w, ycP l]
   by_cases h2 : k' = p.1
   ·simp [h2]
   ·simp [h2]
theorem y9V {κ γ : Type} [DecidableEq κ] {k : κ} {u : γ} : ∀ l : List (κ × γ), (yG l k u).map (·.1) = if k ∈ l.map (·.1) then l.map (·.1) else l.map (·.1) ++ [k]
 | [] => by simp [yG]
 | p :: l => by
  by_cases hk : k = p.1
  ·subst hk; simp [yG]
  ·simp only [yG, hk, if_false, List.map_cons, y9V l, List.mem_cons, false_or]
   by_cases h : k ∈ l.map (·.1) <;> simp [h]
theorem y8H {κ γ : Type} [DecidableEq κ] {k k' : κ} {u d : γ} (l : List (κ × γ)) : yp (yG l k u) k' d = if k' = k then u else yp l k' d := by
 by_cases h : k' = k
 ·subst h; rw [yaO, if_pos rfl]
 ·rw [yaN h, if_neg h]
/-! ### sorting by a strict order -/
theorem yaD {α : Type} {p : α → α → Option Int} {lt : α → α → Prop} {l0 : List α} (hp : ∀ x ∈ l0, ∀ y ∈ l0, (cby p x y ≤ 0 ↔ ¬ lt y x)) (hasym : ∀ x y, lt x y → ¬ lt y x) (htr : ∀ x y z, ¬ lt y x → ¬ lt z y → ¬ lt z x) {x : α} (hx : x ∈ l0) : ∀ l : List α, (∀ y ∈ l, y ∈ l0) → (l.Pairwise fun a b => ¬ lt b a) → (y9z p x l).Pairwise fun a b => ¬ lt b a
 | [], _, _ => by simp [y9z]
 | y :: l, hl, h => by
  obtain ⟨h1, h2⟩ := List.pairwise_cons.1 h
  unfold y9z
  split
  ·rename_i hxy
   have hxy := (hp x hx y (hl y (by simp))).1 hxy
   refine List.pairwise_cons.2 ⟨fun z hz => ?_, h⟩
   rcases List.mem_cons.1 hz with rfl | hz
   ·exact hxy
   ·exact htr _ _ _ hxy (h1 z hz)
  ·rename_i hxy
   have hyx : lt y x := by
    by_cases hc : lt y x
    ·exact hc
    ·exact absurd ((hp x hx y (hl y (by simp))).2 hc) hxy
   refine List.pairwise_cons.2 ⟨fun z hz => ?_, yaD hp hasym htr hx l (fun z hz => hl z (List.mem_cons_of_mem _ hz)) h2⟩
   rcases List.mem_cons.1 ((ybm _ x l).mem_iff.1 hz) with rfl | hz
   ·exact hasym _ _ hyx
   ·exact h1 z hz
theorem ya4 {α : Type} {p : α → α → Option Int} {lt : α → α → Prop} {l0 : List α} (hp : ∀ x ∈ l0, ∀ y ∈ l0, (cby p x y ≤ 0 ↔ ¬ lt y x)) (hasym : ∀ x y, lt x y → ¬ lt y x) (htr : ∀ x y z, ¬ lt y x → ¬ lt z y → ¬ lt z x) : ∀ l : List α, (∀ y ∈ l, y ∈ l0) → (y1k p l).Pairwise fun a b => ¬ lt b a
 | [], _ => by simp [y1k]
 | x :: l, hl => by
  unfold y1k
  exact yaD hp hasym htr (hl x (by simp)) _ (fun y hy => hl y (List.mem_cons_of_mem _ ((y50 p l).mem_iff.1 hy))) (ya4 hp hasym htr l fun y hy => hl y (List.mem_cons_of_mem _ hy))
theorem ordB_of {α : Type} [DecidableEq α] {p : α → α → Option Int} {lt : α → α → Prop} {l : List α} (hp : ∀ x ∈ l, ∀ y ∈ l, ∃ v, p x y = some v ∧ (v < 0 ↔ lt x y) ∧ (v ≤ 0 ↔ ¬ lt y x)) (hasym : ∀ x y, lt x y → ¬ lt y x) (htr : ∀ x y z, ¬ lt y x → ¬ lt z y → ¬ lt z x)
  (heq : ∀ x ∈ l, ∀ y ∈ l, ¬ lt x y → ¬ lt y x → x = y) : y7B p (y1k p l) = true ∧ (y1k p l).Pairwise fun a b => ¬ lt b a := by
 have hc : ∀ x ∈ l, ∀ y ∈ l, p x y = some (cby p x y) ∧ (cby p x y < 0 ↔ lt x y) ∧ (cby p x y ≤ 0 ↔ ¬ lt y x) := fun x hx y hy => by
  obtain ⟨v, h1, h2, h3⟩ := hp x hx y hy
  unfold cby; rw [h1]; exact ⟨rfl, h2, h3⟩
 have hm : ∀ x ∈ y1k p l, x ∈ l := fun x hx => (y50 p l).mem_iff.1 hx
 have hs := ya4 (fun x hx y hy => (hc x hx y hy).2.2) hasym htr l (fun y hy => hy)
 refine ⟨?_, hs⟩
 simp only [y7B, Bool.and_eq_true, List.all_eq_true, Bool.not_eq_true', decide_eq_false_iff_not, yba]
 refine ⟨fun x hx => ⟨fun y hy => by rw [(hc x (hm x hx) y (hm y hy)).1]; rfl, fun h => ?_⟩, ?_⟩
 ·have := ((hc x (hm x hx) x (hm x hx)).2.1).1 h; exact hasym _ _ this this
 ·refine List.Pairwise.imp_of_mem ?_ hs
  intro x y hx hy hxy
  rw [(hc x (hm x hx) y (hm y hy)).2.1, (hc y (hm y hy) x (hm x hx)).2.1]
  by_cases h : lt x y
  ·exact .inr ⟨h, hxy⟩
  ·exact .inl (heq x (hm x hx) y (hm y hy) h hxy)
theorem bitlen62 (n : Nat) (h : n < 4611686018427387904) : Go.Lib.bitLen n ≤ 62 := Go.Lib.bitLen_le n 62 (by omega) (by omega)
theorem u64_id' {x : Int} (h : 0 ≤ x ∧ x ≤ 18446744073709551615) : u64 x = x := by
 unfold u64 IntKind.wrap; simp [IntKind.signed, IntKind.bits]; omega
/-! ### places -/
abbrev Pl := Sbound_place
def pk (h : Hop) : Pl := ⟨h.fNode, h.fLink⟩
theorem of_eq (h : Hop) : y3o h = some (pk h) := rfl
def plt (a b : Pl) : Prop := a.fNode < b.fNode ∨ a.fNode = b.fNode ∧ a.fLink < b.fLink
theorem ydG (a b : Pl) : ∃ v, yZ a b = some v ∧ (v < 0 ↔ plt a b) ∧ (v ≤ 0 ↔ ¬ plt b a) := by
 unfold yZ
 simp only [ydF, Option.bind_some]
 rw [or_eq (by simp)]
 refine ⟨_, rfl, ?_⟩
 unfold orI orI orI cmpI plt
 repeat' split
 all_goals first | omega | (constructor <;> omega)
theorem plt_asym (x y : Pl) : plt x y → ¬ plt y x := by unfold plt; omega
theorem plt_tr (x y z : Pl) : ¬ plt y x → ¬ plt z y → ¬ plt z x := by unfold plt; omega
theorem plt_eq (x y : Pl) (h1 : ¬ plt x y) (h2 : ¬ plt y x) : x = y := by
 unfold plt at h1 h2
 obtain ⟨a, b⟩ := x; obtain ⟨c, d⟩ := y
 simp only at h1 h2
 have : a = c := by omega
 have : b = d := by omega
 subst_vars; rfl
theorem sortP_eq {l : List Pl} (hs : l.length ≤ 1000000) :
  y1a l (fun y0 y1 => yZ y0 y1) = some (y1k yZ l) ∧ (y1k yZ l).Pairwise fun a b => ¬ plt b a := by
 obtain ⟨ho, hsrt⟩ := ordB_of (p := yZ) (l := l) (fun x _ y _ => ydG x y) plt_asym plt_tr (fun x _ y _ => plt_eq x y)
 refine ⟨?_, hsrt⟩
 unfold y1a y5w y2S
 rw [u64_id' (by omega), y1c (by omega), Option.bind_some]
 have hb := bitlen62 l.length (by omega)
 rw [Int.toNat_natCast, y1c ⟨⟨rfl, rfl⟩, by omega, by omega, by omega⟩, y1c ho, Option.bind_some]
theorem yb1 {l : List Pl} {v : Pl} {k : Option Int} (hl : l.length < 1000000000) : ∀ (n : Nat) (i : Int), 0 ≤ i → i ≤ l.length → l.length < n + i →
  (v ∈ l.drop i.toNat ∧ ∃ j : Int, 0 ≤ j ∧ yN l v k n i = some j) ∨ (v ∉ l.drop i.toNat ∧ yN l v k n i = k)
 | 0, i, h0, h1, h2 => by omega
 | n + 1, i, h0, h1, h2 => by
  rw [yN]
  by_cases h : i < l.length
  ·rw [if_pos (decide_eq_true h), y1c ⟨h0, h⟩, y3b h0 h]
   have e : (⟨((nth l i).fNode), ((nth l i).fLink)⟩ : Sbound_place) = nth l i := rfl
   rw [e]
   by_cases hv : v = nth l i
   ·rw [if_pos (decide_eq_true hv)]
    exact .inl ⟨by rw [hv]; simp, i, h0, rfl⟩
   ·rw [if_neg (by simpa using hv), y1H (x := i + 1) (by omega)]
    have e2 : (i + 1).toNat = i.toNat + 1 := by omega
    rcases yb1 hl n (i + 1) (by omega) (by omega) (by omega) (v := v) (k := k) with ⟨h3, h4⟩ | ⟨h3, h4⟩
    ·rw [e2] at h3; exact .inl ⟨List.mem_cons_of_mem _ h3, h4⟩
    ·rw [e2] at h3
     refine .inr ⟨fun hc => ?_, h4⟩
     rcases List.mem_cons.1 hc with hc | hc
     ·exact hv hc
     ·exact h3 hc
  ·rw [if_neg (by simpa using h), List.drop_eq_nil_of_le (by omega)]
   exact .inr ⟨by simp, rfl⟩
theorem ycQ {l : List Pl} {v : Pl} (hl : l.length < 1000000000) : y19 l v = some (decide (v ∈ l)) := by
 unfold y19 y1F
 have hF := y2f
 generalize yB = N at hF ⊢
 refine y4r (P := fun o => (o.bind fun x => some (decide (x ≥ 0))) = some (decide (v ∈ l))) fun k hk => ?_
 rcases yb1 hl N 0 (by omega) (by omega) (by omega) (v := v) (k := k) with ⟨h1, j, h2, h3⟩ | ⟨h1, h2⟩
 ·rw [h3]; simp only [Int.toNat_zero, List.drop_zero] at h1
  simp [h1, h2]
 ·rw [h2, hk]; simp only [Int.toNat_zero, List.drop_zero] at h1
  simp [h1]
def y5F (l : List Pl) (h : Hop) : List Pl := if pk h ∈ l then l else l ++ [pk h]
theorem ybh (hs : List Hop) (l : List Pl) : (hs.foldl y5F l).length ≤ l.length + hs.length := by
 induction hs generalizing l with
 | nil => simp
 | cons h hs ih =>
  have := ih (y5F l h)
  have h2 : (y5F l h).length ≤ l.length + 1 := by unfold y5F; split <;> simp
  simp only [List.foldl_cons, List.length_cons]; omega
theorem yce (hs : List Hop) (l : List Pl) (hn : l.Nodup) : (hs.foldl y5F l).Nodup ∧ ∀ p, p ∈ hs.foldl y5F l ↔ p ∈ l ∨ ∃ h ∈ hs, pk h = p := by
 induction hs generalizing l with
 | nil => simp [hn]
 | cons h hs ih =>
  have h2 : (y5F l h).Nodup ∧ ∀ p, p ∈ y5F l h ↔ p ∈ l ∨ pk h = p := by
   unfold y5F
   split
   ·rename_i hc
    refine ⟨hn, fun p => ⟨.inl, ?_⟩⟩
    rintro (h | rfl)
    ·exact h
    ·exact hc
   ·rename_i hc
    refine ⟨List.nodup_append.2 ⟨hn, by simp, fun a ha b hb => ?_⟩, fun p => by simp [eq_comm]⟩
    simp at hb; subst hb; exact fun e => hc (e ▸ ha)
  obtain ⟨i1, i2⟩ := ih _ h2.1
  refine ⟨i1, fun p => ?_⟩
  rw [List.foldl_cons, i2, h2.2]
  simp only [List.mem_cons, exists_eq_or_imp, or_assoc]
theorem ycf {rs : List (List Hop)} {v : Int} {k : List Pl → Option (List Pl)} (hr : (nth rs v).length ≤ 1000) (h0 : 0 ≤ v) (hv : v < rs.length) : ∀ (n : Nat) (o : List Pl) (i : Int), 0 ≤ i → i ≤ (nth rs v).length → (nth rs v).length < n + i → (o.length : Int) + ((nth rs v).length - i) ≤ 1000000 →
  y2X rs v k n o i = k (((nth rs v).drop i.toNat).foldl y5F o)
 | 0, o, i, a0, a1, a2, a3 => by omega
 | n + 1, o, i, a0, a1, a2, a3 => by
  rw [y2X]
  by_cases h : i < (nth rs v).length
  ·rw [if_pos (decide_eq_true h), y3b a0 h, List.foldl_cons]
   refine y4Y (P := fun x => x = _) fun kk hkk => ?_
   rw [y1c ⟨a0, h⟩]
   have e : (⟨((nth (nth rs v) i).fNode), ((nth (nth rs v) i).fNext), ((nth (nth rs v) i).fLink)⟩ : Sapi_Hop) = nth (nth rs v) i := rfl
   rw [e, of_eq, Option.bind_some, ycQ (by omega), Option.bind_some]
   have e2 : (i + 1).toNat = i.toNat + 1 := by omega
   have hlen : (y5F o (nth (nth rs v) i)).length ≤ o.length + 1 := by unfold y5F; split <;> simp
   have hgo : kk (y5F o (nth (nth rs v) i)) = k (((nth rs v).drop (i.toNat + 1)).foldl y5F (y5F o (nth (nth rs v) i))) := by
    rw [hkk, y1H (x := i + 1) (by omega), ycf hr h0 hv n _ (i + 1) (by omega) (by omega) (by omega) (by omega), e2]
   by_cases hc : pk (nth (nth rs v) i) ∈ o
   ·rw [if_neg (by simpa using hc), ← hgo]
    unfold y5F; rw [if_pos hc]
   ·rw [if_pos (by simpa using hc), Option.bind_some, y1c (by simp; omega), ← hgo]
    unfold y5F; rw [if_neg hc]
  ·rw [if_neg (by simpa using h), List.drop_eq_nil_of_le (by omega)]; rfl
def y6Z (rs : List (List Hop)) : List Hop := rs.flatten
theorem ybB {rs : List (List Hop)} {k : List Pl → Option (List Pl)} (hr : ∀ r ∈ rs, r.length ≤ 1000) (hl : rs.length ≤ 100) : ∀ (n : Nat) (o : List Pl) (v : Int), 0 ≤ v → v ≤ rs.length → rs.length < n + v → (o.length : Int) + 1000 * (rs.length - v) ≤ 1000000 →
  y2Y rs k n o v = k ((y6Z (rs.drop v.toNat)).foldl y5F o)
 | 0, o, i, a0, a1, a2, a3 => by omega
 | n + 1, o, v, a0, a1, a2, a3 => by
  rw [y2Y]
  by_cases h : v < rs.length
  ·have hrl := hr _ (y5c a0 h)
   rw [if_pos (decide_eq_true h), y3b a0 h]
   unfold y6Z
   rw [List.flatten_cons, List.foldl_append]
   refine y4Y (P := fun x => x = _) fun kk hkk => ?_
   rw [y1c ⟨a0, h⟩]
   refine y4Y (P := fun x => x = _) fun k2 hk2 => ?_
   rw [ycf hrl a0 h yB o 0 (by omega) (by omega) (by rw [y2f]; omega) (by omega)]
   simp only [Int.toNat_zero, List.drop_zero]
   have := ybh (nth rs v) o
   rw [hk2, hkk, y1H (x := v + 1) (by omega), ybB hr hl n _ (v + 1) (by omega) (by omega) (by omega) (by omega), show (v + 1).toNat = v.toNat + 1 by omega]
   rfl
  ·rw [if_neg (by simpa using h), List.drop_eq_nil_of_le (by omega)]; rfl
def PS (rs : List (List Hop)) : List Pl := y1k yZ ((y6Z rs).foldl y5F [])
theorem y9W (rs : List (List Hop)) : (PS rs).Nodup := (y50 _ _).nodup_iff.2 (yce _ [] (by simp)).1
theorem y8I (rs : List (List Hop)) (p : Pl) : p ∈ PS rs ↔ ∃ r ∈ rs, ∃ h ∈ r, pk h = p := by
 unfold PS
 rw [(y50 _ _).mem_iff, (yce _ [] (by simp)).2]
 unfold y6Z
 simp only [List.not_mem_nil, false_or, List.mem_flatten]
 exact ⟨fun ⟨h, ⟨r, hr, hh⟩, e⟩ => ⟨r, hr, h, hh, e⟩, fun ⟨r, hr, h, hh, e⟩ => ⟨h, ⟨r, hr, hh⟩, e⟩⟩
theorem ycR {rs : List (List Hop)} {m : Nat} (hr : ∀ r ∈ rs, r.length ≤ m) : (y6Z rs).length ≤ rs.length * m := by
 unfold y6Z
 induction rs with
 | nil => simp
 | cons r rs ih =>
  have := ih fun r h => hr r (List.mem_cons_of_mem _ h)
  have h1 := hr r (by simp)
  rw [List.flatten_cons, List.length_append, List.length_cons, Nat.succ_mul]; omega
theorem ycS {rs : List (List Hop)} {m : Nat} (hr : ∀ r ∈ rs, r.length ≤ m) : (PS rs).length ≤ rs.length * m := by
 unfold PS
 rw [ya0]
 have := ybh (y6Z rs) []
 have := ycR hr
 simp at *; omega
theorem ye3 {rs : List (List Hop)} (hr : ∀ r ∈ rs, r.length ≤ 1000) (hl : rs.length ≤ 100) : y5i rs = some (PS rs) := by
 unfold y5i
 refine y4Y (P := fun o => o = some (PS rs)) fun k hk => ?_
 rw [ybB hr hl yB [] 0 (by omega) (by omega) (by rw [y2f]; omega) (by simp; omega), hk]
 simp only [Int.toNat_zero, List.drop_zero]
 have h1 := ybh (y6Z rs) []
 have h2 := ycR hr
 have h3 : rs.length * 1000 ≤ 100 * 1000 := Nat.mul_le_mul_right _ hl
 rw [(sortP_eq (by simp at h1; omega)).1]
 rfl
/-! ### the hop by which a node is reached -/
def y5Z (r : List Hop) (n : Int) : Hop × Bool := match r.find? (fun h => decide (h.fNext = n)) with | some h => (h, true) | none => (⟨0, 0, 0⟩, false)
theorem ybW {r : List Hop} {n : Int} (h : (y5Z r n).2 = true) : (y5Z r n).1 ∈ r ∧ (y5Z r n).1.fNext = n := by
 unfold y5Z at *
 split at h
 ·rename_i x hx
  simp only [hx]
  exact ⟨List.mem_of_find?_eq_some hx, by simpa using List.find?_some hx⟩
 ·cases h
theorem intoF_of {r : List Hop} {g : Hop} (h : g ∈ r) : (y5Z r g.fNext).2 = true := by
 unfold y5Z
 split
 ·rfl
 ·rename_i hx
  have := List.find?_eq_none.1 hx g h
  simp at this
theorem yb2 {r : List Hop} {f : Hop → Option Bool} {p : Hop → Bool} {k : Option Int} (hf : ∀ h ∈ r, f h = some (p h)) (hl : r.length < 1000000000) : ∀ (n : Nat) (i : Int), 0 ≤ i → i ≤ r.length → r.length < n + i →
  (∃ j : Int, 0 ≤ j ∧ j < r.length ∧ (r.drop i.toNat).find? p = some (nth r j) ∧ yR r f k n i = some j) ∨ ((r.drop i.toNat).find? p = none ∧ yR r f k n i = k)
 | 0, i, h0, h1, h2 => by omega
 | n + 1, i, h0, h1, h2 => by
  rw [yR]
  by_cases h : i < r.length
  ·rw [if_pos (decide_eq_true h), y1c ⟨h0, h⟩, y3b h0 h]
   have e : (⟨((nth r i).fNode), ((nth r i).fNext), ((nth r i).fLink)⟩ : Sapi_Hop) = nth r i := rfl
   rw [e, hf _ (y5c h0 h), Option.bind_some]
   by_cases hp : p (nth r i) = true
   ·rw [if_pos hp, List.find?_cons_of_pos hp]; exact .inl ⟨i, h0, h, rfl, rfl⟩
   ·rw [if_neg hp, List.find?_cons_of_neg hp, y1H (x := i + 1) (by omega)]
    have e2 : (i + 1).toNat = i.toNat + 1 := by omega
    rw [← e2]
    exact yb2 hf hl n (i + 1) (by omega) (by omega) (by omega)
  ·rw [if_neg (by simpa using h), List.drop_eq_nil_of_le (by omega)]
   exact .inr ⟨rfl, rfl⟩
theorem ye4 {r : List Hop} {f : Hop → Option Bool} {p : Hop → Bool} (hf : ∀ h ∈ r, f h = some (p h)) (hl : r.length < 1000000000) :
  (∃ j : Int, 0 ≤ j ∧ j < r.length ∧ r.find? p = some (nth r j) ∧ yW r f = some j) ∨ (r.find? p = none ∧ yW r f = some (-1)) := by
 unfold yW
 have hF := y2f
 generalize yB = N at hF ⊢
 refine y4r (P := fun o => (∃ j : Int, 0 ≤ j ∧ j < r.length ∧ r.find? p = some (nth r j) ∧ o = some j) ∨ (r.find? p = none ∧ o = some (-1))) fun k hk => ?_
 have := yb2 hf hl N 0 (by omega) (by omega) (by omega) (k := k)
 simp only [Int.toNat_zero, List.drop_zero] at this
 rw [hk] at this ⊢
 exact this
theorem into_eq {r : List Hop} {n : Int} (hl : r.length < 1000000000) : y4o r n = some (y5Z r n) := by
 unfold y4o y5Z
 rcases ye4 (r := r) (f := fun y0 => y5j y0 n) (p := fun h => decide (h.fNext = n)) (fun h _ => rfl) hl with ⟨j, j0, j1, j2, j3⟩ | ⟨j2, j3⟩
 ·rw [j3, j2, Option.bind_some, if_neg (by simpa using j0), y1c ⟨j0, j1⟩]
 ·rw [j3, j2, Option.bind_some]; rfl
end Go.Proofs.YtcahmabkeaijdaaGreat

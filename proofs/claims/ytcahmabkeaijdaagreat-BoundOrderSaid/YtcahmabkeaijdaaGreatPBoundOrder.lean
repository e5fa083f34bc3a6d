/- A part of this claim's proof: models of functions, walks, plain laws. No conditions. -/
import Derived.Test.YtcahmabkeaijdaaGreatPBp
namespace Go.Proofs.YtcahmabkeaijdaaGreat
open Go Go.RowKit Sep
set_option linter.all false
theorem ydl {RR A0 A1 : Type} {K : A0 → A1 → Option RR} {F : (A0 → A1 → Option RR) → Option RR} {P : Option RR → Prop} (h : ∀ k : A0 → A1 → Option RR, (∀ x0 x1, k x0 x1 = K x0 x1) → P (F k)) : P (jp2 K F) := h K fun _ _ => rfl
theorem yc0 {rs : List (List Hop)} {ρ : Pl → Int} {hρ : Prop} {k : Bool → List (K6 × Int) → Option Bool} (hr : ∀ r ∈ rs, r.length ≤ 100) (hl : rs.length ≤ 100) (hN : (PS rs).length ≤ 10000)
  (hrk : hρ → (∀ x ∈ EL rs, x.1.fNext = x.2.fNode → ρ (pk x.1) < ρ (pk x.2)) ∧ ∀ p ∈ PS rs, ρ p ≤ (PS rs).length) : ∀ (n : Nat) (s : BS), KM rs s.2.2 → (∀ p ∈ PS rs, 0 ≤ vl s p) → (s.1 = false → ∀ p ∈ PS rs, vl s p ≤ (PS rs).length) →
  (s.2.1 = false → ∀ x ∈ EL rs, x.1.fNext = x.2.fNode → vl s (pk x.1) < vl s (pk x.2)) → (hρ → (∀ p ∈ PS rs, vl s p ≤ ρ p) ∧ s.1 = false) → (PS rs).length * (PS rs).length + 2 ≤ n + sm (vl s) (PS rs) → 1 ≤ n →
  ∃ t : BS, KM rs t.2.2 ∧ (hρ → t.1 = false) ∧ (t.1 = false → (∀ p ∈ PS rs, 0 ≤ vl t p) ∧ ∀ x ∈ EL rs, x.1.fNext = x.2.fNode → vl t (pk x.1) < vl t (pk x.2)) ∧ y1e rs k n s.1 s.2.1 s.2.2 = k t.1 t.2.2
 | 0, s, _, _, _, _, _, _, h => by omega
 | n + 1, s, h1, h2, h3, h4, h5, h6, _ => by
  rw [y1e]
  by_cases hc : (s.2.1 && !s.1) = true
  ·rw [if_pos hc]
   simp only [Bool.and_eq_true, Bool.not_eq_true'] at hc
   refine y7a (P := fun o => ∃ t : BS, KM rs t.2.2 ∧ (hρ → t.1 = false) ∧ (t.1 = false → (∀ p ∈ PS rs, 0 ≤ vl t p) ∧ ∀ x ∈ EL rs, x.1.fNext = x.2.fNode → vl t (pk x.1) < vl t (pk x.2)) ∧ o = k t.1 t.2.2) fun k1 hk1 => ?_
   refine y7a (P := fun o => ∃ t : BS, KM rs t.2.2 ∧ (hρ → t.1 = false) ∧ (t.1 = false → (∀ p ∈ PS rs, 0 ≤ vl t p) ∧ ∀ x ∈ EL rs, x.1.fNext = x.2.fNode → vl t (pk x.1) < vl t (pk x.2)) ∧ o = k t.1 t.2.2) fun k2 hk2 => ?_
   have hgo := bf_out (k := k2) (fun r h => by have := hr r h; omega) (by omega) yB 0 (s.1, false, s.2.2) (by omega) (by omega) (by rw [y2f]; omega)
   simp only [Int.toNat_zero, List.drop_zero] at hgo
   rw [hgo, hk2, hk1, EL_fold]
   have hlim := h3 hc.2
   have hE := EL_len hr hl
   obtain ⟨a1, a2⟩ := RI.fold (rs := rs) (ρ := ρ) (hρ := hρ) (EL rs) (s.1, false, s.2.2) h1 (fun x hx => by
    obtain ⟨r, q1, q2, q3⟩ := ycV.1 hx
    exact ⟨(y8I rs _).2 ⟨r, q1, _, q2, rfl⟩, (y8I rs _).2 ⟨r, q1, _, q3, rfl⟩⟩) (fun p hp => by
     have := h2 p hp; have := hlim p hp; show 0 ≤ vl s p ∧ vl s p + _ ≤ _; omega) hrk
   generalize ht : (EL rs).foldl (fun s x => stp s x.1 x.2) (s.1, false, s.2.2) = t at a1 a2 ⊢
   have hup : ∀ p ∈ PS rs, vl s p ≤ vl t p := a1.up
   have hlt : t.1 = false → ∀ p ∈ PS rs, vl t p ≤ (PS rs).length := fun e => a1.lim e hlim
   have hrk' : hρ → (∀ p ∈ PS rs, vl t p ≤ ρ p) ∧ t.1 = false := fun e => by
    obtain ⟨b1, b2⟩ := a1.rk e (h5 e).1
    exact ⟨b1, b2.trans (h5 e).2⟩
   have h40 : t.2.1 = false → ∀ x ∈ EL rs, x.1.fNext = x.2.fNode → vl t (pk x.1) < vl t (pk x.2) := fun e x hx hx2 => by
    have e1 := a2 e x hx hx2
    rw [a1.no e]; exact e1
   have h20 : ∀ p ∈ PS rs, 0 ≤ vl t p := fun p hp => Int.le_trans (h2 p hp) (hup p hp)
   by_cases hd : t.2.1 = true ∧ t.1 = false
   ·rcases a1.su hd.1 with e | e
    ·cases e
    ·have e : sm (vl s) (PS rs) < sm (vl t) (PS rs) := e
     have hbd := sm_bd (f := vl t) (hlt hd.2)
     have h60 : ((PS rs).length : Int) * (PS rs).length + 2 ≤ (n : Int) + sm (vl t) (PS rs) := by omega
     exact yc0 hr hl hN hrk n t a1.km h20 hlt h40 hrk' (by omega) (by omega)
   ·-- one more look at the condition
    have hn1 : 1 ≤ n := by
     have := sm_bd (f := vl s) hlim
     omega
    obtain ⟨m, rfl⟩ : ∃ m, n = m + 1 := ⟨n - 1, by omega⟩
    rw [y1e]
    have hf : (t.2.1 && !t.1) = false := by
     cases e1 : t.2.1 <;> cases e2 : t.1 <;> simp_all
    rw [if_neg (by simpa using hf)]
    refine ⟨t, a1.km, fun e => (hrk' e).2, fun e => ⟨h20, h40 ?_⟩, rfl⟩
    cases e1 : t.2.1 with
    | false => rfl
    | true => exact absurd ⟨e1, e⟩ hd
  ·rw [if_neg hc]
   refine ⟨s, h1, fun e => (h5 e).2, fun e => ⟨h2, h4 ?_⟩, rfl⟩
   cases e1 : s.2.1 with
   | false => rfl
   | true => exact absurd (by simp [e1, e]) hc
/-! ### the last look -/
theorem ck_in {rs : List (List Hop)} {v w : Int} {mp : List (K6 × Int)} {k : Option Bool} (hr : (nth rs v).length ≤ 1000000) (hw : 0 ≤ w ∧ w < (nth rs v).length)
  (hm : ∀ g ∈ nth rs v, g.fNext = (nth (nth rs v) w).fNode → yp mp (k6 (pk g)) 0 < yp mp (k6 (pk (nth (nth rs v) w))) 0) : ∀ (n : Nat) (i : Int), 0 ≤ i → i ≤ (nth rs v).length → (nth rs v).length < n + i →
  y20 rs v w mp k n i = k
 | 0, i, a0, a1, a2 => by omega
 | n + 1, i, a0, a1, a2 => by
  rw [y20]
  by_cases h : i < (nth rs v).length
  ·have hu : ∀ h : Hop, (⟨h.fNode, h.fLink⟩ : S60) = k6 (pk h) := fun _ => rfl
   rw [if_pos (decide_eq_true h), y1c ⟨a0, h⟩, hu (nth (nth rs v) w), hu (nth (nth rs v) i), if_neg, y1H (x := i + 1) (by omega)]
   ·exact ck_in hr hw hm n (i + 1) (by omega) (by omega) (by omega)
   ·simp only [Bool.and_eq_true, decide_eq_true_eq]
    rintro ⟨e1, e2⟩
    have := hm _ (y5c a0 h) e1
    omega
  ·rw [if_neg (by simpa using h)]
theorem ck_mid {rs : List (List Hop)} {v : Int} {mp : List (K6 × Int)} {k : Option Bool} (hr : (nth rs v).length ≤ 1000000)
  (hm : ∀ g ∈ nth rs v, ∀ h ∈ nth rs v, g.fNext = h.fNode → yp mp (k6 (pk g)) 0 < yp mp (k6 (pk h)) 0) : ∀ (n : Nat) (i : Int), 0 ≤ i → i ≤ (nth rs v).length → (nth rs v).length < n + i →
  y21 rs v mp k n i = k
 | 0, i, a0, a1, a2 => by omega
 | n + 1, i, a0, a1, a2 => by
  rw [y21]
  by_cases h : i < (nth rs v).length
  ·rw [if_pos (decide_eq_true h)]
   refine y4r (P := fun x => x = k) fun k1 hk1 => ?_
   rw [y1c ⟨a0, h⟩]
   refine y4r (P := fun x => x = k) fun k2 hk2 => ?_
   rw [ck_in hr ⟨a0, h⟩ (fun g hg e => hm g hg _ (y5c a0 h) e) yB 0 (by omega) (by omega) (by rw [y2f]; omega), hk2, hk1, y1H (x := i + 1) (by omega)]
   exact ck_mid hr hm n (i + 1) (by omega) (by omega) (by omega)
  ·rw [if_neg (by simpa using h)]
theorem ck_out {rs : List (List Hop)} {mp : List (K6 × Int)} {k : Option Bool} (hr : ∀ r ∈ rs, r.length ≤ 1000000) (hl : rs.length ≤ 1000000)
  (hm : ∀ r ∈ rs, ∀ g ∈ r, ∀ h ∈ r, g.fNext = h.fNode → yp mp (k6 (pk g)) 0 < yp mp (k6 (pk h)) 0) : ∀ (n : Nat) (i : Int), 0 ≤ i → i ≤ rs.length → rs.length < n + i →
  y22 rs mp k n i = k
 | 0, i, a0, a1, a2 => by omega
 | n + 1, i, a0, a1, a2 => by
  rw [y22]
  by_cases h : i < rs.length
  ·rw [if_pos (decide_eq_true h)]
   refine y4r (P := fun x => x = k) fun k1 hk1 => ?_
   rw [y1c ⟨a0, h⟩]
   refine y4r (P := fun x => x = k) fun k2 hk2 => ?_
   have hrl := hr _ (y5c a0 h)
   rw [ck_mid hrl (hm _ (y5c a0 h)) yB 0 (by omega) (by omega) (by rw [y2f]; omega), hk2, hk1, y1H (x := i + 1) (by omega)]
   exact ck_out hr hl hm n (i + 1) (by omega) (by omega) (by omega)
  ·rw [if_neg (by simpa using h)]
theorem ydJ : y4E = some true := by kernel_rfl
theorem ydm {rs : List (List Hop)} {a b : Pl} : Edg rs a b ↔ ∃ x ∈ EL rs, x.1.fNext = x.2.fNode ∧ pk x.1 = a ∧ pk x.2 = b := by
 constructor
 ·rintro ⟨r, hr, g, hg, h, hh, e, e1, e2⟩; exact ⟨(g, h), ycV.2 ⟨r, hr, hg, hh⟩, e, e1, e2⟩
 ·rintro ⟨⟨g, h⟩, hx, e, e1, e2⟩
  obtain ⟨r, hr, hg, hh⟩ := ycV.1 hx
  exact ⟨r, hr, g, hg, h, hh, e, e1, e2⟩
theorem Order_eq {c : Cf} {net : Int} {rs : List (List Hop)} (hf : FewP c rs) (hv : VA c net rs) :
  (∃ l, l.Perm (PS rs) ∧ y5m rs l ∧ y40 c net rs = some (l.map fun p => ⟨p.fNode, p.fLink, 0, 0⟩, 0)) ∨ (∃ s, y8k rs s ∧ y40 c net rs = some ([], 351)) := by
 unfold y40
 obtain ⟨b, q1, q2⟩ := ycN hf.small (net := net) (rs := rs) (fun r hr => by have := hf.e r hr; omega) (by have := hf.r; omega)
 rw [q1, q2.2 hv, Option.bind_some, if_neg (by simp)]
 have hps := ycS hf.e
 have hr := hf.r
 have h3 : rs.length * 40 ≤ 20 * 40 := Nat.mul_le_mul_right _ hr
 rcases order_eq (rs := rs) (fun r h => by have := hf.e r h; omega) (by omega) with ⟨l, e1, e2, e3⟩ | ⟨s, e1, e2⟩
 ·rw [e3, Option.bind_some]
  have hlen := e1.length_eq
  refine .inl ⟨l, e1, e2, ?_⟩
  refine y4Y (P := fun o => o = _) fun k hk => ?_
  rw [y9X (l := (l, 0)) (by show l.length ≤ _; omega) yB [] 0 (by omega) (by omega) (by rw [y2f]; show ((l.length : Nat) : Int) < _; omega) rfl, hk]
  simp
 ·rw [e2, Option.bind_some]
  refine .inr ⟨s, e1, ?_⟩
  refine y4Y (P := fun o => o = _) fun k hk => ?_
  rw [y9X (l := ([], 351)) (by simp) yB [] 0 (by omega) (by simp) (by rw [y2f]; simp) rfl, hk]
  simp
theorem law (c : Cf) (net : Int) (rs : List (List Hop)) : y4Z c net rs = some true := by
 unfold y4Z
 rw [ydJ]
 obtain ⟨b1, q1, q2⟩ := Few_eq c rs
 rw [q1, Option.bind_some]
 cases b1 with
 | false => rfl
 | true =>
 have hf := q2.1 rfl
 obtain ⟨b2, r1, r2⟩ := ycN hf.small (net := net) (rs := rs) (fun r hr => by have := hf.e r hr; omega) (by have := hf.r; omega)
 rw [if_neg (by simp), r1, Option.bind_some, Option.bind_some]
 cases b2 with
 | false => rfl
 | true =>
 have hv := r2.1 rfl
 rw [if_neg (by simp)]
 have hps := ycS hf.e
 have hr := hf.r
 have he := hf.e
 have h3 : rs.length * 40 ≤ 20 * 40 := Nat.mul_le_mul_right _ hr
 have hF : yB = 18446744073709551616 := y2f
 -- the start of the chains
 obtain ⟨s1, s2, s3⟩ := ydI (y6Z rs) ([] : List (K6 × Int)) (by simp) (by simp)
 have hkm : KM rs ((y6Z rs).foldl (fun mp h => yG mp (k6 (pk h)) 1) ([] : List (K6 × Int))) := by
  refine ⟨s1, fun x => ?_⟩
  rw [s2]
  simp only [List.map_nil, List.not_mem_nil, false_or]
  unfold y6Z
  constructor
  ·rintro ⟨h, hh, rfl⟩
   obtain ⟨r, hr, hh⟩ := List.mem_flatten.1 hh
   exact ⟨pk h, (y8I rs _).2 ⟨r, hr, h, hh, rfl⟩, rfl⟩
  ·rintro ⟨p, hp, rfl⟩
   obtain ⟨r, hr, h, hh, rfl⟩ := (y8I rs _).1 hp
   exact ⟨h, List.mem_flatten.2 ⟨r, hr, hh⟩, rfl⟩
 have hone : ∀ p ∈ PS rs, yp ((y6Z rs).foldl (fun mp h => yG mp (k6 (pk h)) 1) ([] : List (K6 × Int))) (k6 p) 0 = 1 := fun p hp => s3 _ ((hkm.2 _).2 ⟨p, hp, rfl⟩)
 generalize hmp0 : (y6Z rs).foldl (fun mp h => yG mp (k6 (pk h)) 1) ([] : List (K6 × Int)) = mp0 at hkm hone s1 s2 s3
 have hu0 : ∀ r ∈ rs, r.length ≤ 100 := fun r h => by have := he r h; omega
 have hsm : 0 ≤ sm (vl (false, true, mp0)) (PS rs) := by
  have h := ybE (f := fun _ => 0) (g := vl (false, true, mp0)) (l := PS rs) fun p hp => by show 0 ≤ yp mp0 (k6 p) 0; rw [hone p hp]; omega
  have : sm (fun _ => 0) (PS rs) = 0 := by unfold sm; induction PS rs with
   | nil => rfl
   | cons p l ih => simpa using ih
  omega
 have hP1 : ∀ p ∈ PS rs, 1 ≤ (PS rs).length := fun p hp => by
  cases h : PS rs with
  | nil => rw [h] at hp; simp at hp
  | cons q l => simp
 have hNN : (PS rs).length * (PS rs).length ≤ 1000 * 1000 := Nat.mul_le_mul (by omega) (by omega)
 rcases Order_eq hf hv with ⟨l, e1, e2, e3⟩ | ⟨s, e1, e2⟩
 ·rw [e3, Option.bind_some]
  have hlen := e1.length_eq
  have hnd : l.Nodup := e1.nodup_iff.2 (y9W rs)
  refine y4Y (P := fun o => o = some true) fun k1 hk1 => ?_
  have hkb : (l.map fun p => (⟨p.fNode, p.fLink, 0, 0⟩ : Sapi_PortBound)).map kb = l.map k6 := by rw [List.map_map]; rfl
  have hndk : (l.map k6).Nodup := List.Pairwise.map _ (fun a b hab e => hab (ycU e)) hnd
  obtain ⟨mpa, a1, a2⟩ := ybY (l := (l.map fun p => (⟨p.fNode, p.fLink, 0, 0⟩ : Sapi_PortBound), 0)) (k := k1) (by simp; omega) (by rw [hkb]; exact hndk) yB 0 [] (by omega) (by simp) (by rw [hF]; simp; omega) (fun x => by simp [y2w]) (by simp)
  rw [a2, hk1]
  refine y4Y (P := fun o => o = some true) fun k2 hk2 => ?_
  have h12 := ybZ (k := k2) (rs := rs) (fun r h => by have := he r h; omega) (by omega) yB 0 [] (by omega) (by omega) (by rw [hF]; omega)
  simp only [Int.toNat_zero, List.drop_zero] at h12
  rw [hmp0] at h12
  rw [h12, hk2]
  refine ydl (P := fun o => o = some true) fun k3 hk3 => ?_
  obtain ⟨t, b1, b2, b3, b4⟩ := yc0 (rs := rs) (ρ := fun p => ((l.idxOf p : Nat) : Int) + 1) (hρ := True) (k := k3) hu0 (by omega) (by omega) (fun _ => ⟨fun x hx e => by
    have := y5m.idx hv e2 e1 (ydm.2 ⟨x, hx, e, rfl, rfl⟩)
    show ((l.idxOf (pk x.1) : Nat) : Int) + 1 < ((l.idxOf (pk x.2) : Nat) : Int) + 1
    omega, fun p hp => by
    have := List.idxOf_lt_length_of_mem (e1.symm.subset hp)
    show ((l.idxOf p : Nat) : Int) + 1 ≤ _
    omega⟩) yB (false, true, mp0) hkm (fun p hp => by show 0 ≤ yp mp0 (k6 p) 0; rw [hone p hp]; omega) (fun _ p hp => by show yp mp0 (k6 p) 0 ≤ _; rw [hone p hp]; have := hP1 p hp; omega)
   (fun e => by cases e) (fun _ => ⟨fun p hp => by show yp mp0 (k6 p) 0 ≤ ((l.idxOf p : Nat) : Int) + 1; rw [hone p hp]; omega, rfl⟩) (by rw [hF]; omega) (by rw [hF]; omega)
  have b4 : y1e rs k3 yB false true mp0 = k3 t.1 t.2.2 := b4
  have ht := b2 trivial
  rw [b4, hk3, if_neg (by simp [ht])]
  have hmp := b1.len
  rw [if_neg (by simp [hmp, hlen])]
  refine y4r (P := fun o => o = some true) fun k4 hk4 => ?_
  rw [ck_out (fun r h => by have := he r h; omega) (by omega) (fun r hr g hg h hh e => ?_) yB 0 (by omega) (by omega) (by rw [hF]; omega), hk4]
  ·rfl
  ·have hE : Edg rs (pk g) (pk h) := ⟨r, hr, g, hg, h, hh, e, rfl, rfl⟩
   have hlt := y5m.idx hv e2 e1 hE
   have hidx : ∀ p ∈ l, yp mpa (k6 p) 0 = ((l.idxOf p : Nat) : Int) := fun p hp => by
    rw [a1 (k6 p) (by rw [hkb]; exact List.mem_map.2 ⟨p, hp, rfl⟩), hkb]
    congr 1
    have hi := List.idxOf_lt_length_of_mem hp
    have h1 : (l.map k6)[l.idxOf p]'(by simpa using hi) = k6 p := by rw [List.getElem_map, List.getElem_idxOf]
    rw [← h1, List.Nodup.idxOf_getElem hndk]
   rw [hidx _ (e1.symm.subset hE.left), hidx _ (e1.symm.subset hE.right)]
   omega
 ·rw [e2, Option.bind_some]
  refine y4Y (P := fun o => o = some true) fun k1 hk1 => ?_
  obtain ⟨mpa, a1, a2⟩ := ybY (l := (([] : List Sapi_PortBound), 351)) (k := k1) (by simp) (by simp) yB 0 [] (by omega) (by simp) (by rw [hF]; simp) (fun x => by simp [y2w]) (by simp)
  rw [a2, hk1]
  refine y4Y (P := fun o => o = some true) fun k2 hk2 => ?_
  have h12 := ybZ (k := k2) (rs := rs) (fun r h => by have := he r h; omega) (by omega) yB 0 [] (by omega) (by omega) (by rw [hF]; omega)
  simp only [Int.toNat_zero, List.drop_zero] at h12
  rw [hmp0] at h12
  rw [h12, hk2]
  refine ydl (P := fun o => o = some true) fun k3 hk3 => ?_
  obtain ⟨t, b1, b2, b3, b4⟩ := yc0 (rs := rs) (ρ := fun p => 0) (hρ := False) (k := k3) hu0 (by omega) (by omega) (fun h => h.elim) yB (false, true, mp0) hkm (fun p hp => by show 0 ≤ yp mp0 (k6 p) 0; rw [hone p hp]; omega) (fun _ p hp => by show yp mp0 (k6 p) 0 ≤ _; rw [hone p hp]; have := hP1 p hp; omega)
   (fun e => by cases e) (fun h => h.elim) (by rw [hF]; omega) (by rw [hF]; omega)
  have b4 : y1e rs k3 yB false true mp0 = k3 t.1 t.2.2 := b4
  have ht : t.1 = true := by
   cases h : t.1 with
   | true => rfl
   | false =>
    obtain ⟨c1, c2⟩ := b3 h
    exact absurd (y8k.no hv e1 (vl t) c1 fun a b hab => by
     obtain ⟨x, hx, e, rfl, rfl⟩ := ydm.1 hab
     exact c2 x hx e) id
  rw [b4, hk3, if_pos ht]
  rfl
end Go.Proofs.YtcahmabkeaijdaaGreat

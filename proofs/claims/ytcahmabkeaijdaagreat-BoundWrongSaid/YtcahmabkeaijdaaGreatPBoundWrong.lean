/- A part of this claim's proof: models of functions, walks, plain laws. No conditions. -/
import Derived.Test.YtcahmabkeaijdaaGreatP35f
import Derived.Test.YtcahmabkeaijdaaGreatWBoundWrong
set_option linter.all false
namespace Go.Proofs.YtcahmabkeaijdaaGreat
open Go Go.RowKit Sep
theorem yfa : y4D = some true := by kernel_rfl
theorem yar {c : Cf} {net : Int} {rs : List (List Hop)} (hf : FewP c rs) (h : ¬ VA c net rs) : y23 c net rs = some (⟨[], []⟩, 310) := by
 obtain ⟨x, h1, h2⟩ := yak (net := net) hf
 rw [h1]
 cases h2 with
 | route _ => rfl
 | vl a _ => exact absurd a h
 | cycle _ a _ _ => exact absurd a h
 | err _ _ a _ _ _ _ _ => exact absurd a h
 | ok _ _ a _ _ _ _ => exact absurd a h
theorem yfb {c : Cf} {net : Int} {rs : List (List Hop)} (hf : FewP c rs) (h : VA c net rs) (hv : ¬ VOK c) : y23 c net rs = some (⟨[], []⟩, 350) := by
 obtain ⟨x, h1, h2⟩ := yak (net := net) hf
 rw [h1]
 cases h2 with
 | route a => exact absurd h a
 | vl _ _ => rfl
 | cycle _ _ a _ => exact absurd a hv
 | err _ _ _ a _ _ _ _ => exact absurd a hv
 | ok _ _ _ a _ _ _ => exact absurd a hv
/-! ### other virtual links -/
structure SN (c d : Cf) : Prop where
 m : d.fModules = c.fModules
 s : d.fSwitches = c.fSwitches
 l : d.fLinks = c.fLinks
theorem SN.find {c d : Cf} (h : SN c d) (nm : ByteArray) : y20 d nm = y20 c nm := by
 have h1 : ∀ i, y3K d i = y3K c i := fun i => by
  unfold y3K y3u; rw [h.m, h.s]
 have h2 : ∀ (k : Option Int) (x : Int) (n : Nat) (v : Int), y1K x d nm k n v = y1K x c nm k n v := by
  intro k x n
  induction n with
  | zero => intro v; rfl
  | succ n ih => intro v; rw [y1K, y1K, h1]; simp only [ih]
 unfold y20 y3u
 rw [h.m, h.s]
 simp only [Option.bind_some]
 unfold jp0
 exact h2 _ _ _ _
theorem SN.vr {c d : Cf} (h : SN c d) {net : Int} {r : List Hop} (hv : VR c net r) : VR d net r := by
 refine ⟨hv.len, fun v h0 h1 => ?_⟩
 have hc := hv.cond v h0 h1
 unfold y9h JN y9g sw nM fA fB at hc ⊢
 simp only [h.find, h.m, h.s, h.l]
 exact hc
theorem ycn {rs : List (List Hop)} {c : List Sapi_VL} {k : Bool → List Sapi_VL → Option Bool} (hl : rs.length ≤ 1000000) : ∀ (n : Nat) (v : Int) (e : Bool), 0 ≤ v → v ≤ rs.length → rs.length < n + v →
  y2D rs k n e v c = k (e && (rs.drop v.toNat).all fun r => decide (r.length = 0)) c
 | 0, v, e, h0, h1, h2 => by omega
 | n + 1, v, e, h0, h1, h2 => by
  rw [y2D]
  by_cases h : v < rs.length
  ·rw [if_pos (decide_eq_true h), yr ⟨h0, h⟩, yD (x := v + 1) (by omega), ycn hl n (v + 1) _ (by omega) (by omega) (by omega), y4l h0 h, List.all_cons, show (v + 1).toNat = v.toNat + 1 by omega, Bool.and_assoc]
   congr 2
   by_cases hz : (nth rs v).length = 0 <;> simp [hz]
  ·rw [if_neg (by simpa using h), List.drop_eq_nil_of_le (by omega)]; simp
theorem law (c : Cf) (net : Int) (rs : List (List Hop)) (which way : Int) (hw : 0 ≤ which ∧ which ≤ 255) (hy : 0 ≤ way ∧ way ≤ 255) : y5x c net rs which way = some true := by
 unfold y5x
 rw [yfa]
 obtain ⟨b1, q1, q2⟩ := Few_eq c rs
 rw [q1, Option.bind_some]
 cases b1 with
 | false => rfl
 | true =>
 have hf := q2.1 rfl
 by_cases hz : c.fVLs.length = 0
 ·rw [if_pos (by simp [hz])]; rfl
 rw [if_neg (by simp [hz])]
 obtain ⟨x, x1, x2⟩ := yak (net := net) hf
 rw [x1, Option.bind_some]
 by_cases hx : x.2 ≠ 0
 ·rw [if_pos (by simpa using hx)]; rfl
 rw [if_neg (by simpa using hx)]
 have hgood : VA c net rs ∧ VOK c := by
  cases x2 with
  | route _ => exact absurd (by decide) hx
  | vl _ _ => exact absurd (by decide) hx
  | cycle _ _ _ _ => exact absurd (by decide) hx
  | err _ _ _ _ _ _ _ a => exact absurd a hx
  | ok _ _ a b _ _ _ => exact ⟨a, b⟩
 obtain ⟨hv, hvo⟩ := hgood
 clear x1 x2 hx
 have hfv := hf.v
 rw [yr (by omega), yr (by simp; omega), yD (x := which) (by omega)]
 simp only [List.nil_append]
 have hk : 0 ≤ Int.tmod which ((c.fVLs.length : Nat) : Int) ∧ Int.tmod which ((c.fVLs.length : Nat) : Int) < ((c.fVLs.length : Nat) : Int) := by
  rw [Int.tmod_eq_emod_of_nonneg hw.1]
  exact ⟨Int.emod_nonneg _ (by omega), Int.emod_lt_of_pos _ (by omega)⟩
 generalize Int.tmod which ((c.fVLs.length : Nat) : Int) = q at hk
 have hty : Int.tmod way 6 = 0 ∨ Int.tmod way 6 = 1 ∨ Int.tmod way 6 = 2 ∨ Int.tmod way 6 = 3 ∨ Int.tmod way 6 = 4 ∨ Int.tmod way 6 = 5 := by
  rw [Int.tmod_eq_emod_of_nonneg hy.1]; omega
 generalize Int.tmod way 6 = y at hty
 refine jp4_ex (P := fun o => o = some true) fun k hkk => ?_
 -- what a rejection leads to
 have key : ∀ (net' : Int) (rs' : List (List Hop)) (want : Int) (vls : List Sapi_VL), y23 (⟨c.fModules, c.fChannels, c.fSwitches, c.fLinks, vls, c.fHealth, c.fCauses, c.fVersions⟩ : Sapi_Config) net' rs' = some (⟨[], []⟩, want) → k net' rs' want vls = some true := by
  intro net' rs' want vls h
  rw [hkk, h, Option.bind_some]
  have hz : i64 ((((([] : List Sapi_PortBound)).length : Nat) : Int) + (((([] : List Sapi_End)).length : Nat) : Int)) = 0 := by decide +kernel
  rw [if_neg (by simp only [hz]; simp)]
  clear h hkk hz
  show _ = some true
  kernel_rfl
 have hSN : ∀ vls : List Sapi_VL, SN c (⟨c.fModules, c.fChannels, c.fSwitches, c.fLinks, vls, c.fHealth, c.fCauses, c.fVersions⟩ : Sapi_Config) := fun _ => ⟨rfl, rfl, rfl⟩
 have hFew : ∀ vls : List Sapi_VL, vls.length = c.fVLs.length → FewP (⟨c.fModules, c.fChannels, c.fSwitches, c.fLinks, vls, c.fHealth, c.fCauses, c.fVersions⟩ : Sapi_Config) rs := fun vls h => ⟨hf.m, hf.s, hf.l, by show vls.length ≤ 20; omega, hf.r, hf.e⟩
 have hVA : ∀ vls : List Sapi_VL, vls.length = c.fVLs.length → VA (⟨c.fModules, c.fChannels, c.fSwitches, c.fLinks, vls, c.fHealth, c.fCauses, c.fVersions⟩ : Sapi_Config) net rs := fun vls h => ⟨hv.nt, by show rs.length = vls.length; rw [h]; exact hv.len, hv.most, fun r hr => (hSN vls).vr (hv.each r hr)⟩
 -- a virtual link that is not valid
 have bad : ∀ (vls : List Sapi_VL) (u : Sapi_VL), ¬ vok u → vls.length = c.fVLs.length → k net rs 350 (vls.set q.toNat u) = some true := by
  intro vls u hu hl
  refine key _ _ _ _ (yfb (hFew _ (by rw [List.length_set]; exact hl)) (hVA _ (by rw [List.length_set]; exact hl)) fun h => hu (h u ?_))
  show u ∈ vls.set q.toNat u
  exact List.mem_set (by omega) u
 rcases hty with rfl | rfl | rfl | rfl | rfl | rfl
 ·rw [if_pos (by decide), yr hk]
  exact bad _ _ (by unfold vok gapL; simp) rfl
 ·rw [if_neg (by decide), if_pos (by decide), yr hk]
  exact bad _ _ (by unfold vok gapL; simp) rfl
 ·rw [if_neg (by decide), if_neg (by decide), if_pos (by decide), yr hk]
  exact bad _ _ (by unfold vok; simp) rfl
 ·rw [if_neg (by decide), if_neg (by decide), if_neg (by decide), if_pos (by decide), yr hk, yr (by rw [List.length_set]; exact hk)]
  exact bad _ _ (by unfold vok gapL; simp) (by rw [List.length_set])
 ·rw [if_neg (by decide), if_neg (by decide), if_neg (by decide), if_neg (by decide), if_pos (by decide)]
  have hrl := hv.len
  rw [yr ⟨by omega, by omega, by omega⟩]
  refine key _ _ _ _ (yar ⟨hf.m, hf.s, hf.l, hf.v, ?_, ?_⟩ fun h => ?_)
  ·rw [List.length_drop]; have := hf.r; omega
  ·exact fun r hr => hf.e r (List.mem_of_mem_drop hr)
  ·have h1 := h.len
   rw [List.length_drop] at h1
   have h1 : rs.length - 1 = c.fVLs.length := h1
   omega
 ·rw [if_neg (by decide), if_neg (by decide), if_neg (by decide), if_neg (by decide), if_neg (by decide), if_pos (by decide)]
  refine y9Q (P := fun o => o = some true) fun k2 hk2 => ?_
  have hrs := hf.r
  rw [ycn (by omega) yz 0 true (by omega) (by omega) (by rw [yW]; omega), hk2]
  simp only [Int.toNat_zero, List.drop_zero, Bool.true_and]
  by_cases he : (rs.all fun r => decide (r.length = 0)) = true
  ·rw [if_pos he]; rfl
  ·rw [if_neg he]
   have hnt := hv.nt
   rw [yD (x := 1 - net) (by omega)]
   refine key _ _ _ _ (yar ⟨hf.m, hf.s, hf.l, hf.v, hf.r, hf.e⟩ fun h => he ?_)
   rw [List.all_eq_true]
   intro r hr
   rw [decide_eq_true_iff]
   refine Nat.eq_zero_of_not_pos fun hp => ?_
   obtain ⟨_, _, _, _, _, n1, _⟩ := (hv.each r hr).cond 0 (by omega) (by omega)
   obtain ⟨_, _, _, _, _, n2, _⟩ := (h.each r hr).cond 0 (by omega) (by omega)
   have n2 : (nth c.fLinks (nth r 0).fLink).fNet = 1 - net := n2
   omega
end Go.Proofs.YtcahmabkeaijdaaGreat

/- A part of this claim's proof: models of functions, walks, plain laws. No conditions. -/
import Derived.Test.YtjdnejbngloieaaDoorP26d
namespace Go.Proofs.YtjdnejbngloieaaDoor
open Go Go.RowKit Sep
set_option linter.all false
inductive R1 (code : List Sapi_Ins) : Int → Int → Prop
 | one {i s : Int} (h : s ∈ yT code i) : R1 code i s
 | step {i j s : Int} (h : R1 code i j) (hs : s ∈ yT code j) : R1 code i s
theorem R1.trans {code : List Sapi_Ins} {i j k : Int} (h : R1 code i j) (h2 : R1 code j k) : R1 code i k := by
 induction h2 with
 | one hs => exact .step h hs
 | step _ hs ih => exact .step ih hs
def Acyc (code : List Sapi_Ins) (i : Int) : Prop := ∀ j, (j = i ∨ R1 code i j) → ¬ R1 code j j
theorem Acyc.next {code : List Sapi_Ins} {i s : Int} (h : Acyc code i) (hs : s ∈ yT code i) : Acyc code s := fun j hj => by
 rcases hj with rfl | hj
 ·exact h _ (.inr (.one hs))
 ·exact h _ (.inr ((R1.one hs).trans hj))
structure Cert (code : List Sapi_Ins) (val : Int → Option Int) : Prop where
 zero : val code.length = some 0
 node : ∀ i v, val i = some v → i ≠ code.length → 0 ≤ i ∧ i < code.length ∧ (∀ s ∈ yT code i, ∃ w, val s = some w) ∧ v = own code i + (yT code i).foldl (fun b s => max b ((val s).getD 0)) 0
theorem Cert.lt {code : List Sapi_Ins} {val : Int → Option Int} (hV : y2K code = true) (h : Cert code val) {i v s w : Int} (hi : val i = some v) (hn : i ≠ code.length) (hs : s ∈ yT code i) (hw : val s = some w) : w < v := by
 obtain ⟨a, b, _, e⟩ := h.node i v hi hn
 have ho := y5N hV a b
 have h2 := (y4X (fun s => (val s).getD 0) (yT code i) 0).2 s hs
 simp only [hw, Option.getD_some] at h2
 omega
theorem Cert.nonneg {code : List Sapi_Ins} {val : Int → Option Int} (hV : y2K code = true) (h : Cert code val) {i v : Int} (hi : val i = some v) : 0 ≤ v := by
 by_cases hn : i = code.length
 ·subst hn; rw [h.zero] at hi; have := Option.some.inj hi; omega
 ·obtain ⟨a, b, _, e⟩ := h.node i v hi hn
  have ho := y5N hV a b
  have := (y4X (fun s => (val s).getD 0) (yT code i) 0).1
  omega
theorem Cert.y6J {code : List Sapi_Ins} {val val' : Int → Option Int} (hV : y2K code = true) (h : Cert code val) (h' : Cert code val') : ∀ (n : Nat) (i v v' : Int), v < n → val i = some v → val' i = some v' → v = v'
 | 0, i, v, v', hn, hi, _ => by have := h.nonneg hV hi; omega
 | n + 1, i, v, v', hn, hi, hi' => by
  by_cases hx : i = code.length
  ·subst hx
   rw [h.zero] at hi; rw [h'.zero] at hi'
   exact (Option.some.inj hi).symm.trans (Option.some.inj hi')
  ·obtain ⟨_, _, c, e⟩ := h.node i v hi hx
   obtain ⟨_, _, c', e'⟩ := h'.node i v' hi' hx
   rw [e, e']
   congr 1
   refine y4Y _ _ fun s hs => ?_
   obtain ⟨w, hw⟩ := c s hs
   obtain ⟨w', hw'⟩ := c' s hs
   have := h.lt hV hi hx hs hw
   rw [hw, hw', Cert.y6J hV h h' n s w w' (by omega) hw hw']
def cv (m : MM) (j : Int) : Option Int := match lk m j with | some v => if v = -1 then none else some v | none => none
theorem y4Z {m : MM} {j v : Int} : cv m j = some v ↔ fin m j v := by
 unfold cv fin
 cases lk m j with
 | none => simp
 | some x =>
  by_cases h : x = -1
  ·simp only [h, if_true]; constructor
   ·intro h; cases h
   ·rintro ⟨a, b⟩; exact absurd (Option.some.inj a).symm b
  ·simp only [h, if_false]; constructor
   ·intro e; have := Option.some.inj e; subst this; exact ⟨rfl, h⟩
   ·exact fun a => a.1
theorem Inv.cert {code : List Sapi_Ins} {m : MM} {d : Nat} (h : Inv code m d) : Cert code (cv m) := by
 refine ⟨y4Z.2 ⟨h.zero, by omega⟩, fun i v hi hn => ?_⟩
 obtain ⟨a, b, c, e⟩ := h.eq i v (y4Z.1 hi) hn
 refine ⟨a, b, fun s hs => let ⟨w, hw⟩ := c s hs; ⟨w, y4Z.2 hw⟩, ?_⟩
 rw [e]
 congr 1
 refine y4Y _ _ fun s hs => ?_
 obtain ⟨w, hw⟩ := c s hs
 unfold y3i
 rw [hw.1, y4Z.2 hw]
theorem old.trans {a b c : MM} (h : old a b) (k : old b c) : old a c := fun j hj => h j (k j hj)
theorem ext.trans {a b c : MM} (h : ext a b) (k : ext b c) : ext a c := fun j x hj => k j x (h j x hj)
section
variable {code : List Sapi_Ins} (hc : code.length ≤ 24) (hV : y2K code = true)
theorem y6K {x : List Int} {rc : Int → MM → List Sapi_Ins → Option (Bool × MM)} {k : Int → MM → Option (Bool × MM)} {d R : Nat} {m0 : MM} {C : Prop} (hx : ∀ s ∈ x, 0 ≤ s ∧ s ≤ code.length) (hxl : x.length ≤ 2)
  (hrc : ∀ s m1, Inv code m1 d → rem code.length m1 ≤ R → s ∈ x → old m0 m1 → ∃ b m', rc s m1 code = some (b, m') ∧ (b = true → Inv code m' d ∧ ext m1 m' ∧ old m1 m' ∧ ∃ v, fin m' s v) ∧ (C → b = true)) :
  ∀ (n : Nat) (best v : Int) (mp : MM), 0 ≤ v → v ≤ x.length → x.length < n + v → Inv code mp d → rem code.length mp ≤ R → old m0 mp → (∀ s ∈ x.take v.toNat, ∃ w, fin mp s w) → best = mx mp (x.take v.toNat) →
   (∃ m', yV x rc code k n best v mp = k (mx m' x) m' ∧ Inv code m' d ∧ ext mp m' ∧ old mp m' ∧ ∀ s ∈ x, ∃ w, fin m' s w) ∨ (¬ C ∧ ∃ m', yV x rc code k n best v mp = some (false, m'))
 | 0, best, v, mp, h0, h1, hn, _, _, _, _, _ => by omega
 | n + 1, best, v, mp, h0, h1, hn, hI, hR, ho, ht, hb => by
  rw [yV]
  by_cases h : v < x.length
  ·have hm := y4E h0 h
   have htk := y5E x h0 h
   rw [if_pos (decide_eq_true h), yv ⟨h0, h⟩]
   obtain ⟨b, m', e, hb1, hC⟩ := hrc (nth x v) mp hI hR hm ho
   rw [e]
   simp only [Option.bind_some]
   cases b with
   | false =>
    refine .inr ⟨(fun c => by have := hC c; cases this), m', ?_⟩
    rw [if_pos (by rfl)]
   | true =>
    obtain ⟨i1, i2, i3, w, hw⟩ := hb1 rfl
    rw [if_neg (by simp), yU (by omega), y68]
    have hft : ∀ s ∈ x.take (v + 1).toNat, ∃ w, fin m' s w := fun s hs => by
     rw [htk] at hs
     rcases List.mem_append.1 hs with hs | hs
     ·obtain ⟨w, hw⟩ := ht s hs; exact ⟨w, i2 _ _ hw.1, hw.2⟩
     ·simp at hs; subst hs; exact ⟨w, hw⟩
    rcases y6K (C := C) hx hxl hrc n (max best (y3i m' (nth x v))) (v + 1) m' (by omega) (by omega) (by omega) i1 (Nat.le_trans (rem_ext i2) hR) (ho.trans i3) hft (by
     rw [htk, hb, ← mx_ext i2 ht]
     unfold mx
     rw [List.foldl_append]; rfl) with ⟨m2, e2, j1, j2, j3, j4⟩ | ⟨c, m2, e2⟩
    ·exact .inl ⟨m2, e2, j1, i2.trans j2, i3.trans j3, j4⟩
    ·exact .inr ⟨c, m2, e2⟩
  ·rw [if_neg (by simpa using h)]
   have e : x.take v.toNat = x := List.take_of_length_le (by omega)
   rw [e] at ht hb
   exact .inl ⟨mp, by rw [hb], hI, fun _ _ h => h, fun _ h => h, ht⟩
include hc hV in
theorem y7f : ∀ (n : Nat) (i : Int) (m : MM) (d : Nat), rem code.length m < n → 0 ≤ i → i ≤ code.length → Inv code m d →
  ∃ b m', yQ n i m code = some (b, m') ∧ (b = true → Inv code m' d ∧ ext m m' ∧ old m m' ∧ ∃ v, fin m' i v) ∧
   (((∃ val v, Cert code val ∧ val i = some v ∧ ∀ j, lk m j = some (-1) → ∃ w, val j = some w ∧ v < w) ∨ (Acyc code i ∧ ∀ j, lk m j = some (-1) → R1 code j i)) → b = true)
 | 0, i, m, d, hn, _, _, _ => by omega
 | n + 1, i, m, d, hn, h0, h1, hI => by
  rw [yQ]
  by_cases hh : y46 m i = true
  ·have hl : lk m i = some (y28 m i 0) := by unfold lk; rw [if_pos hh]
   rw [if_pos hh]
   refine ⟨_, m, rfl, fun hb => ⟨hI, fun _ _ h => h, fun _ h => h, y28 m i 0, hl, by simpa using hb⟩, ?_⟩
   intro hor
   by_cases e : y28 m i 0 = -1
   ·exfalso
    rcases hor with ⟨val, v, hcv, hv, hj⟩ | ⟨ha, hj⟩
    ·obtain ⟨w, hw, hlt⟩ := hj i (by rw [hl, e])
     rw [hv] at hw
     have := Option.some.inj hw; omega
    ·exact ha i (.inl rfl) (hj i (by rw [hl, e]))
   ·simpa using e
  ·have hl : lk m i = none := by unfold lk; rw [if_neg hh]
   rw [if_neg hh]
   have hne : i ≠ code.length := by rintro rfl; rw [hI.zero] at hl; cases hl
   have hi : i < code.length := by omega
   have hO := hI.open h0 hi hl
   have hp : ∀ j, lk (y19 m i (-1)) j = if j = i then some (-1) else lk m j := fun j => y4b _ _ _ _
   have hr := y7E hp h0 hi hl
   unfold jp2
   dsimp only
   rw [y7D (by omega), Option.bind_some]
   rcases y6K (code := code) (x := yT code i) (rc := yQ n) (k := fun zd2 zgI => jp1 (fun (zrt : List (Int × Int)) => some (true, zrt)) fun zgJ => chk ((0 : Int) ≤ i ∧ i < ((code.length : Nat) : Int)) (if decide (((nth code i).fOp) = 1) then chk ((0 : Int) ≤ i ∧ i < ((code.length : Nat) : Int)) (zgJ (y19 (y19 zgI i (i64 (zd2 + 1))) i (i64 (zd2 + ((nth code i).fA))))) else zgJ (y19 zgI i (i64 (zd2 + 1)))))
    (d := d + 1) (R := rem code.length (y19 m i (-1))) (m0 := y19 m i (-1)) (C := (∃ val v, Cert code val ∧ val i = some v ∧ ∀ j, lk m j = some (-1) → ∃ w, val j = some w ∧ v < w) ∨ (Acyc code i ∧ ∀ j, lk m j = some (-1) → R1 code j i))
    (fun s hs => (y1w hs).2.2) (y3q _ _) (fun s m1 hI1 hR1 hs ho => by
     obtain ⟨b, m', e, e1, e2⟩ := y7f n s m1 (d + 1) (by omega) (y1w hs).2.2.1 (y1w hs).2.2.2 hI1
     refine ⟨b, m', e, e1, fun hor => e2 ?_⟩
     rcases hor with ⟨val, v, hcv, hv, hj⟩ | ⟨ha, hj⟩
     ·left
      obtain ⟨_, _, hcs, _⟩ := hcv.node i v hv hne
      obtain ⟨w, hw⟩ := hcs s hs
      have hlt := hcv.lt hV hv hne hs hw
      refine ⟨val, w, hcv, hw, fun j hj1 => ?_⟩
      have h2 := ho j hj1
      rw [hp] at h2
      by_cases ej : j = i
      ·subst ej; exact ⟨v, hv, hlt⟩
      ·rw [if_neg ej] at h2
       obtain ⟨u, hu, hlu⟩ := hj j h2
       exact ⟨u, hu, by omega⟩
     ·right
      refine ⟨ha.next hs, fun j hj1 => ?_⟩
      have h2 := ho j hj1
      rw [hp] at h2
      by_cases ej : j = i
      ·subst ej; exact .one hs
      ·rw [if_neg ej] at h2
       exact .step (hj j h2) hs) yB 0 0 (y19 m i (-1)) (by omega) (by omega) (by have := y3q code i; rw [y1D]; omega) hO (Nat.le_refl _) (fun _ h => h) (by simp) (by simp [mx]) with ⟨m2, e, j1, j2, j3, j4⟩ | ⟨hnc, m2, e⟩
   ·rw [e]
    have hmi : lk m2 i = some (-1) := j2 i _ (by rw [hp, if_pos rfl])
    have ho := y5N hV h0 hi
    have hmx : 0 ≤ mx m2 (yT code i) := (y4X _ _ _).1
    have hmb : mx m2 (yT code i) ≤ 48000 := y6C _ _ _ (by omega) fun s hs => by
     obtain ⟨w, hw⟩ := j4 s hs
     have := (j1.bd s w hw).2
     unfold y3i; rw [hw.1]; simp only [Option.getD_some]; omega
    unfold jp1
    dsimp only
    rw [yv ⟨h0, hi⟩]
    have fin' : ∀ m3 : MM, (∀ j, lk m3 j = if j = i then some (own code i + mx m2 (yT code i)) else lk m2 j) → (Inv code m3 d ∧ ext m m3 ∧ old m m3 ∧ ∃ v, fin m3 i v) := fun m3 h3 => by
     obtain ⟨k1, k2, k3⟩ := j1.close hV h0 hi hmi h3 j4 rfl
     refine ⟨k1, fun j y hj => ?_, fun j hj => ?_, _, k2⟩
     ·have hji : j ≠ i := by rintro rfl; rw [hl] at hj; cases hj
      rw [h3, if_neg hji]
      exact j2 j y (by rw [hp, if_neg hji]; exact hj)
     ·by_cases hji : j = i
      ·subst hji; exact absurd (Option.some.inj (hj.symm.trans k2.1)).symm k2.2
      ·rw [h3, if_neg hji] at hj
       have := j3 j hj
       rwa [hp, if_neg hji] at this
    by_cases h1' : (nth code i).fOp = 1
    ·rw [if_pos (decide_eq_true h1'), yv ⟨h0, hi⟩]
     have eo : own code i = (nth code i).fA := by unfold own; rw [if_pos h1']
     refine ⟨true, _, rfl, fun _ => fin' _ fun j => ?_, fun _ => rfl⟩
     rw [y4b, y4b, yU (x := mx m2 (yT code i) + (nth code i).fA) (by omega)]
     by_cases hji : j = i
     ·rw [if_pos hji, if_pos hji, eo, Int.add_comm]
     ·rw [if_neg hji, if_neg hji, if_neg hji]
    ·rw [if_neg (by simpa using h1')]
     have eo : own code i = 1 := by unfold own; rw [if_neg h1']
     refine ⟨true, _, rfl, fun _ => fin' _ fun j => ?_, fun _ => rfl⟩
     rw [y4b, yU (by omega)]
     by_cases hji : j = i
     ·rw [if_pos hji, if_pos hji, eo, Int.add_comm]
     ·rw [if_neg hji, if_neg hji]
   ·rw [e]
    exact ⟨false, m2, rfl, (fun h => by cases h), fun c => absurd c hnc⟩
include hc in
theorem y5O (i : Int) : ∃ v b, y1k code i = some (v, b) ∧ (0 ≤ v ∧ v ≤ 48000) ∧ (b = false → v = 0) ∧ (b = true → y2K code = true ∧ 0 ≤ i ∧ i ≤ code.length ∧ ∃ val, Cert code val ∧ val i = some v) ∧
  (y2K code = true → ∀ val w, Cert code val → 0 ≤ i → i ≤ code.length → val i = some w → v = w ∧ b = true) ∧ (y2K code = true → 0 ≤ i → i ≤ code.length → Acyc code i → b = true) := by
 unfold y1k
 rw [y7e (by omega), Option.bind_some]
 by_cases hV : y2K code = true
 ·by_cases hi : 0 ≤ i ∧ i ≤ code.length
  ·rw [if_neg (by simp [hV]; omega)]
   have hp : ∀ j, lk (y19 ([] : MM) code.length 0) j = if j = code.length then some 0 else none := fun j => by rw [y4b]; rfl
   have hI : Inv code (y19 ([] : MM) code.length 0) 0 := by
    refine ⟨by rw [hp, if_pos rfl], fun j v hf hj => ?_, fun j v hf => ?_⟩
    ·have := hf.1; rw [hp, if_neg hj] at this; cases this
    ·have := hf.1
     rw [hp] at this
     by_cases e : j = code.length
     ·rw [if_pos e] at this
      have := Option.some.inj this
      have := rem_le code.length (y19 ([] : MM) code.length 0)
      omega
     ·rw [if_neg e] at this; cases this
   obtain ⟨b, m', e, h1, h2⟩ := y7f hc hV yB i _ 0 (by have := rem_le code.length (y19 ([] : MM) code.length 0); rw [y1D]; omega) hi.1 hi.2 hI
   unfold y3p
   rw [e, Option.bind_some]
   cases b with
   | false =>
    refine ⟨0, false, by rfl, by omega, fun _ => rfl, (fun h => by cases h), fun _ val w hcv _ _ hw => ?_, fun _ _ _ ha => ?_⟩
    ·have := h2 (.inl ⟨val, w, hcv, hw, fun j hj => by rw [hp] at hj; split at hj <;> cases hj⟩)
     cases this
    ·have := h2 (.inr ⟨ha, fun j hj => by rw [hp] at hj; split at hj <;> cases hj⟩)
     cases this
   | true =>
    obtain ⟨i1, i2, i3, v, hv⟩ := h1 rfl
    rw [if_neg (by simp)]
    have ev : y28 m' i 0 = v := by rw [y68]; unfold y3i; rw [hv.1]; rfl
    have hbd := i1.bd i v hv
    refine ⟨v, true, by simp [ev], by omega, (fun h => (by cases h)), fun _ => ⟨hV, hi.1, hi.2, cv m', i1.cert, y4Z.2 hv⟩, fun _ val w hcv _ _ hw => ⟨?_, rfl⟩, fun _ _ _ _ => rfl⟩
    exact Cert.y6J hV i1.cert hcv (v.toNat + 1) i v w (by omega) (y4Z.2 hv) hw
  ·rw [if_pos (by simp [hV]; omega)]
   exact ⟨0, false, rfl, by omega, fun _ => rfl, (fun h => by cases h), fun _ _ _ _ h0 h1 _ => absurd ⟨h0, h1⟩ hi, fun _ h0 h1 _ => absurd ⟨h0, h1⟩ hi⟩
 ·have hV' : y2K code = false := by simpa using hV
  rw [if_pos (by simp [hV'])]
  exact ⟨0, false, rfl, by omega, fun _ => rfl, (fun h => by cases h), fun h => absurd h hV, fun h => absurd h hV⟩
end
end Go.Proofs.YtjdnejbngloieaaDoor

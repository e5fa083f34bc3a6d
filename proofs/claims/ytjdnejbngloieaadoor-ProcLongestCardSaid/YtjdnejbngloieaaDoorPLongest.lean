/- A part of this claim's proof: models of functions, walks, plain laws. No conditions. -/
import Derived.Test.YtjdnejbngloieaaDoorWProcLongest
import Derived.Test.YtjdnejbngloieaaDoorP26g
namespace Go.Proofs.YtjdnejbngloieaaDoor
open Go Go.RowKit Sep
set_option linter.all false
theorem jp7_ex {R A0 A1 A2 A3 A4 A5 A6 : Type} {K : A0 → A1 → A2 → A3 → A4 → A5 → A6 → Option R} {F : (A0 → A1 → A2 → A3 → A4 → A5 → A6 → Option R) → Option R} {P : Option R → Prop} (h : ∀ k : A0 → A1 → A2 → A3 → A4 → A5 → A6 → Option R, (∀ x0 x1 x2 x3 x4 x5 x6, k x0 x1 x2 x3 x4 x5 x6 = K x0 x1 x2 x3 x4 x5 x6) → P (F k)) : P (jp7 K F) := h K fun _ _ _ _ _ _ _ => rfl
theorem jp4_ex {R A0 A1 A2 A3 : Type} {K : A0 → A1 → A2 → A3 → Option R} {F : (A0 → A1 → A2 → A3 → Option R) → Option R} {P : Option R → Prop} (h : ∀ k : A0 → A1 → A2 → A3 → Option R, (∀ x0 x1 x2 x3, k x0 x1 x2 x3 = K x0 x1 x2 x3) → P (F k)) : P (jp4 K F) := h K fun _ _ _ _ => rfl
section
variable {code : List Sapi_Ins}
theorem y7N {s : Sproc_State} {data : List Int} (hc : code.length ≤ 200) (hr : RB s.fRegs) (hd : ∀ y ∈ data, 0 ≤ y ∧ y ≤ 255) : ∃ s', y37 code s data = some s' ∧ s'.fPc = s.fPc ∧ s'.fLeft = s.fLeft ∧ RB s'.fRegs := by
  unfold y37
  rw [at_eq hc, Option.bind_some]
  unfold atP
  by_cases hk : y2a code (i64 (s.fPc - 1)) = true
  · have h := hk
    unfold y2a at h
    simp only [Bool.and_eq_true] at h
    have hv := h.2
    simp only [hk, if_true]
    generalize nth code (i64 (s.fPc - 1)) = x at hv ⊢
    by_cases ho : x.fOp = 8 ∨ x.fOp = 15 ∨ x.fOp = 17
    · have hB := vB hv (by omega)
      rw [if_neg (by simp; omega), yv hB]
      have hr0 := y6d (i := x.fB) (v := 0) hr hB (by omega)
      change ∃ s', jp4 _ _ = some s' ∧ _
      refine jp4_ex (P := fun o => ∃ s' : Sproc_State, o = some s' ∧ s'.fPc = s.fPc ∧ s'.fLeft = s.fLeft ∧ RB s'.fRegs) fun k hk2 => ?_
      have fin : ∀ r : S34, RB r → ∃ s', k r.a0 r.a1 r.a2 r.a3 = some s' ∧ s'.fPc = s.fPc ∧ s'.fLeft = s.fLeft ∧ RB s'.fRegs := fun r hr' => by
        rw [hk2]
        refine jp4_ex (P := fun o => ∃ s' : Sproc_State, o = some s' ∧ s'.fPc = s.fPc ∧ s'.fLeft = s.fLeft ∧ RB s'.fRegs) fun k3 hk3 => ?_
        by_cases h8 : x.fOp = 8
        · have hC := vC hv (by omega)
          rw [if_pos (decide_eq_true h8), yv hC, hk3]
          exact ⟨_, rfl, rfl, rfl, y6d (r := r) (i := x.fC) (v := u8 data.length) hr' hC (y6c _)⟩
        · rw [if_neg (by simpa using h8), hk3]
          exact ⟨_, rfl, rfl, rfl, hr'⟩
      by_cases hl : (data.length : Int) > 0
      · rw [if_pos (decide_eq_true hl), yv (by omega), yv hB]
        exact fin (y3S (y3S s.fRegs x.fB 0) x.fB (nth data 0)) (y6d hr0 hB (hd _ (y50 (by omega) hl)))
      · rw [if_neg (by simpa using hl)]
        exact fin (y3S s.fRegs x.fB 0) hr0
    · rw [if_pos (by simp; omega)]
      exact ⟨s, rfl, rfl, rfl, hr⟩
  · have h' : y2a code (i64 (s.fPc - 1)) = false := by simpa using hk
    simp only [h', Bool.false_eq_true, if_false, Bool.not_false, Bool.true_or, if_true]
    exact ⟨s, rfl, rfl, rfl, hr⟩
theorem y6F {i : Int} {x : Sapi_Ins} (hk : y2a code i = true) (hx : nth code i = x) (h : x.fOp ≠ 19 ∧ x.fOp ≠ 25 ∧ x.fOp ≠ 20 ∧ x.fOp ≠ 21 ∧ x.fOp ≠ 22) : y19 code i = [i + 1] := by
  unfold y19
  rw [if_pos hk, hx, if_neg (by omega), if_neg h.2.2.1, if_neg h.2.2.2.1, if_neg h.2.2.2.2]
theorem y7O (a b : Int) : a ∈ y3b a b := by
  unfold y3b
  split
  · simp
  · split <;> simp
theorem y7P (a b : Int) : b ∈ y3b a b := by
  unfold y3b
  split
  · rename_i e; simp [e]
  · split <;> simp
theorem y8j {s : Sproc_State} {m : List Int} {x : Sapi_Ins} (hc : code.length ≤ 200) (hk : y2a code s.fPc = true) (hx : nth code s.fPc = x) (hv : y1h x code.length = true) (h1 : x.fOp ≠ 1) (h19 : x.fOp ≠ 19) (h25 : x.fOp ≠ 25) :
    (yD x s m).1.fLeft = s.fLeft ∧ (yD x s m).1.fPc ∈ y19 code s.fPc := by
  have hp : 0 ≤ s.fPc ∧ s.fPc < code.length := by
    unfold y2a at hk; simp only [Bool.and_eq_true, decide_eq_true_eq] at hk; exact hk.1
  have e1 : i64 (s.fPc + 1) = s.fPc + 1 := y1f (by omega)
  by_cases h20 : x.fOp = 20
  · have hs : y19 code s.fPc = [x.fA] := by unfold y19; rw [if_pos hk, hx, if_neg (by omega), if_pos h20]
    unfold yD; simp [h20, hs]
  by_cases h21 : x.fOp = 21
  · have hs : y19 code s.fPc = y3b (s.fPc + 1) x.fB := by unfold y19; rw [if_pos hk, hx, if_neg (by omega), if_neg h20, if_pos h21]
    unfold yD
    simp only [h21, Int.reduceEq, if_false, if_true, Int.reduceLE, hs, e1]
    refine ⟨trivial, ?_⟩
    split
    · exact y7P _ _
    · exact y7O _ _
  by_cases h22 : x.fOp = 22
  · have hs : y19 code s.fPc = y3b (s.fPc + 1) x.fC := by unfold y19; rw [if_pos hk, hx, if_neg (by omega), if_neg h20, if_neg h21, if_pos h22]
    unfold yD
    simp only [h22, Int.reduceEq, if_false, if_true, Int.reduceLE, hs, e1]
    refine ⟨trivial, ?_⟩
    split
    · exact y7P _ _
    · exact y7O _ _
  rw [y6F hk hx ⟨h19, h25, h20, h21, h22⟩]
  rcases ops25 (vop hv) with e | e | e | e | e | e | e | e | e | e | e | e | e | e | e | e | e | e | e | e | e | e | e | e | e
  all_goals first
    | (exfalso; omega)
    | (unfold yD
       simp only [e, Int.reduceEq, if_false, if_true, Int.reduceLE, e1]
       try split
       all_goals simp)
theorem y8k {s : Sproc_State} {m : List Int} {x : Sapi_Ins} (h1 : x.fOp = 1) (hp : 0 ≤ s.fPc ∧ s.fPc ≤ 200) {c : Int} (hcc : (if s.fLeft = 0 then x.fA else s.fLeft) = c) (hb : 1 ≤ c ∧ c ≤ 2000) :
    yD x s m = (⟨if c = 1 then s.fPc + 1 else s.fPc, c - 1, s.fRegs⟩, ⟨0, 0, 0, []⟩) := by
  unfold yD
  simp only [h1, if_true, hcc]
  rw [y1f (x := s.fPc + 1) (by omega), y1f (x := c - 1) (by omega), show s.fPc + 1 - 1 = s.fPc by omega, y1f (x := s.fPc) (by omega)]
  by_cases h : c = 1
  · subst h; simp
  · rw [if_pos (by omega), if_neg h]
def Pot (code : List Sapi_Ins) (val : Int → Option Int) (pc left p : Int) : Prop :=
  (left = 0 ∧ val pc = some p) ∨ (1 ≤ left ∧ left ≤ 2000 ∧ 0 ≤ pc ∧ pc < code.length ∧ (nth code pc).fOp = 1 ∧ ∃ w, val (pc + 1) = some w ∧ p = left + w)
theorem Pot.step {val : Int → Option Int} {s : Sproc_State} {m : List Int} {p : Int} (hc : code.length ≤ 200) (hV : y3H code = true) (hC : Cert code val) (h : Pot code val s.fPc s.fLeft p) (hne : s.fPc ≠ code.length) :
    y2a code s.fPc = true ∧ 1 ≤ p ∧ ((yD (nth code s.fPc) s m).2.fKind ≠ 14 → (yD (nth code s.fPc) s m).2.fKind ≠ 16 → ∃ p', Pot code val (yD (nth code s.fPc) s m).1.fPc (yD (nth code s.fPc) s m).1.fLeft p' ∧ p' ≤ p - 1) := by
  have hin : 0 ≤ s.fPc ∧ s.fPc < code.length := by
    rcases h with ⟨_, h⟩ | ⟨_, _, h1, h2, _⟩
    · obtain ⟨a, b, _⟩ := hC.node _ _ h hne; exact ⟨a, b⟩
    · exact ⟨h1, h2⟩
  have hk := y7K hV hin.1 hin.2
  have hv : y1h (nth code s.fPc) code.length = true := by
    have h' := hk; unfold y2a at h'; simp only [Bool.and_eq_true] at h'; exact h'.2
  have ho := y63 hV hin.1 hin.2
  have p1 : 1 ≤ p := by
    rcases h with ⟨_, h⟩ | ⟨a, _, _, _, _, w, hw, e⟩
    · obtain ⟨_, _, _, e⟩ := hC.node _ _ h hne
      have := (y4c (fun s => (val s).getD 0) (y19 code s.fPc) 0).1
      omega
    · have := hC.nonneg hV hw; omega
  refine ⟨hk, p1, fun k14 k16 => ?_⟩
  by_cases h1 : (nth code s.fPc).fOp = 1
  · have hA := vW hv h1
    have hs := y6F hk rfl (show (nth code s.fPc).fOp ≠ 19 ∧ (nth code s.fPc).fOp ≠ 25 ∧ (nth code s.fPc).fOp ≠ 20 ∧ (nth code s.fPc).fOp ≠ 21 ∧ (nth code s.fPc).fOp ≠ 22 by omega)
    obtain ⟨c, hcc, hcb, w, hw, hp⟩ : ∃ c, (if s.fLeft = 0 then (nth code s.fPc).fA else s.fLeft) = c ∧ (1 ≤ c ∧ c ≤ 2000) ∧ ∃ w, val (s.fPc + 1) = some w ∧ p = c + w := by
      rcases h with ⟨hl, h⟩ | ⟨a, b, _, _, _, w, hw, e⟩
      · obtain ⟨_, _, cs, e⟩ := hC.node _ _ h hne
        rw [hs] at cs e
        obtain ⟨w, hw⟩ := cs (s.fPc + 1) (by simp)
        have := hC.nonneg hV hw
        refine ⟨_, rfl, by rw [if_pos hl]; exact hA, w, hw, ?_⟩
        rw [if_pos hl, e]
        simp only [List.foldl_cons, List.foldl_nil, hw, Option.getD_some]
        unfold own; rw [if_pos h1]; omega
      · exact ⟨s.fLeft, by rw [if_neg (by omega)], ⟨a, b⟩, w, hw, e⟩
    rw [y8k h1 (by omega) hcc hcb]
    dsimp only
    by_cases e : c = 1
    · rw [if_pos e]
      exact ⟨w, .inl ⟨by omega, hw⟩, by omega⟩
    · rw [if_neg e]
      exact ⟨c - 1 + w, .inr ⟨by omega, by omega, hin.1, hin.2, h1, w, hw, rfl⟩, by omega⟩
  · have h19 : (nth code s.fPc).fOp ≠ 19 := fun e => by
      apply k14; unfold yD; simp [e]
    have h25 : (nth code s.fPc).fOp ≠ 25 := fun e => by
      apply k16; unfold yD; simp [e]
    obtain ⟨hl, hs⟩ := y8j (m := m) hc hk rfl hv h1 h19 h25
    rcases h with ⟨hl0, h⟩ | ⟨_, _, _, _, e, _⟩
    · obtain ⟨_, _, cs, _⟩ := hC.node _ _ h hne
      obtain ⟨w, hw⟩ := cs _ hs
      have := hC.lt hV h hne hs hw
      exact ⟨w, .inl ⟨by rw [hl, hl0], hw⟩, by omega⟩
    · exact absurd e h1
theorem y6Z {most : Int} {data : List Int} {k : Option Int} {val : Int → Option Int} (hc : code.length ≤ 200) (hV : y3H code = true) (hC : Cert code val) (hm0 : most ≤ 60000) (hd : ∀ y ∈ data, 0 ≤ y ∧ y ≤ 255) (hdl : data.length ≤ 9223372036854775807) :
    ∀ (f : Nat) (n p : Int) (s : Sproc_State) (m : List Int), 0 ≤ n → Pot code val s.fPc s.fLeft p → p ≤ most - n → most + 1 - n < f → RB s.fRegs → m.length ≤ 5000 → (∀ y ∈ m, 0 ≤ y ∧ y ≤ 255) →
      ∃ r, y1o most code data k f m n s.fPc s.fLeft s.fRegs.a0 s.fRegs.a1 s.fRegs.a2 s.fRegs.a3 = some r ∧ 0 ≤ r ∧ r ≤ most
  | 0, n, p, s, m, h0, hp, h1, h2, _, _, _ => by
    have : 0 ≤ p := by
      rcases hp with ⟨_, h⟩ | ⟨a, _, _, _, _, w, hw, e⟩
      · exact hC.nonneg hV h
      · have := hC.nonneg hV hw; omega
    omega
  | f + 1, n, p, s, m, h0, hp, h1, h2, hr, hm, hb => by
    have hp0 : 0 ≤ p := by
      rcases hp with ⟨_, h⟩ | ⟨a, _, _, _, _, w, hw, e⟩
      · exact hC.nonneg hV h
      · have := hC.nonneg hV hw; omega
    rw [y1o, if_pos (decide_eq_true (show n ≤ most by omega))]
    refine jp7_ex (P := fun o => ∃ r, o = some r ∧ 0 ≤ r ∧ r ≤ most) fun k' hk' => ?_
    by_cases hne : s.fPc = code.length
    · rw [if_pos (decide_eq_true hne)]
      exact ⟨n, rfl, h0, by omega⟩
    · rw [if_neg (by simpa using hne), show (⟨s.fPc, s.fLeft, ⟨s.fRegs.a0, s.fRegs.a1, s.fRegs.a2, s.fRegs.a3⟩⟩ : Sproc_State) = s from rfl, Stepb_eq hc hm (rg_bd hr), Option.bind_some]
      obtain ⟨hk, p1, hstep⟩ := hp.step (m := m) hc hV hC hne
      have hF := st_fm (code := code) hr hm hb
      unfold st at hF
      simp only [if_pos hk] at hF ⊢
      generalize yD (nth code s.fPc) s m = x at hF hstep ⊢
      have e1 : i64 (n + 1) = n + 1 := y1f (by omega)
      refine jp1_ex (P := fun o => ∃ r, o = some r ∧ 0 ≤ r ∧ r ≤ most) fun k2 hk2 => ?_
      by_cases q14 : x.2.fKind = 14
      · rw [if_pos (decide_eq_true q14), hk2, if_pos (decide_eq_true q14), e1]
        exact ⟨n + 1, rfl, by omega, by omega⟩
      rw [if_neg (by simpa using q14), hk2]
      by_cases q16 : x.2.fKind = 16
      · rw [if_pos (decide_eq_true q16), e1]
        exact ⟨n + 1, rfl, by omega, by omega⟩
      rw [if_neg (by simpa using q16)]
      obtain ⟨p', hp', hle⟩ := hstep q14 q16
      have next : ∀ (s' : Sproc_State) (m' : List Int), s'.fPc = x.1.fPc → s'.fLeft = x.1.fLeft → RB s'.fRegs → m'.length ≤ 5000 → (∀ y ∈ m', 0 ≤ y ∧ y ≤ 255) →
          ∃ r, k' m' s'.fPc s'.fLeft s'.fRegs.a0 s'.fRegs.a1 s'.fRegs.a2 s'.fRegs.a3 = some r ∧ 0 ≤ r ∧ r ≤ most := fun s' m' a b c d e => by
        rw [hk', e1]
        exact y6Z hc hV hC hm0 hd hdl f (n + 1) p' s' m' (by omega) (by rw [a, b]; exact hp') (by omega) (by omega) c d e
      by_cases q1 : x.2.fKind = 1
      · obtain ⟨hA, hB⟩ := hF.store q1
        rw [if_pos (decide_eq_true q1), yv hA]
        exact next x.1 _ rfl rfl (hF.rb hr) (by simpa using hm) (y8i hb _ _)
      rw [if_neg (by simpa using q1)]
      refine jp1_ex (P := fun o => ∃ r, o = some r ∧ 0 ≤ r ∧ r ≤ most) fun k3 hk3 => ?_
      have both : ∀ v : Bool, ∃ r, k3 v = some r ∧ 0 ≤ r ∧ r ≤ most := fun v => by
        rw [hk3]
        cases v with
        | false => rw [if_neg (by simp)]; exact next x.1 m rfl rfl (hF.rb hr) hm hb
        | true =>
          rw [if_pos rfl]
          by_cases hz : (data.length : Int) = 0
          · obtain ⟨s', e, a, b, c⟩ := y7N (code := code) (s := x.1) (data := []) hc (hF.rb hr) (by simp)
            rw [if_pos (decide_eq_true hz), e, Option.bind_some]
            exact next s' m a b c hm hb
          · rw [if_neg (by simpa using hz), yv hz, Int.tmod_eq_emod_of_nonneg h0, Int.tmod_eq_emod_of_nonneg h0]
            have t1 := Int.emod_nonneg n hz
            have t2 := Int.emod_lt_of_pos n (show 0 < (data.length : Int) by omega)
            have t3 : n % (data.length : Int) ≤ n := by
              by_cases hlt : n < data.length
              · rw [Int.emod_eq_of_lt h0 hlt]; omega
              · omega
            rw [y1f (x := n % (data.length : Int) + 1) (by omega), y1f (x := n % (data.length : Int) + 1 + n % 2) (by omega), yv (by omega)]
            obtain ⟨s', e, a, b, c⟩ := y7N (code := code) (s := x.1) (data := (data.take (min (n % (data.length : Int) + 1 + n % 2) (data.length : Int)).toNat).drop (n % (data.length : Int)).toNat) hc (hF.rb hr) (fun y hy => hd y (List.mem_of_mem_take (List.mem_of_mem_drop hy)))
            rw [e, Option.bind_some]
            exact next s' m a b c hm hb
      by_cases q3 : x.2.fKind = 3
      · rw [if_pos (decide_eq_true q3)]; exact both _
      · rw [if_neg (by simpa using q3)]
        by_cases q10 : x.2.fKind = 10
        · rw [if_pos (decide_eq_true q10)]; exact both _
        · rw [if_neg (by simpa using q10)]; exact both _
end
theorem y6G {code : List Sapi_Ins} {i : Int} {regs : S34} {mem data : List Int} (hr : RB regs) (hb : ∀ x ∈ mem, 0 ≤ x ∧ x ≤ 255) (hd : ∀ x ∈ data, 0 ≤ x ∧ x ≤ 255) (hdl : data.length ≤ 9223372036854775807) : y2l code i regs mem data = some true := by
  unfold y2l
  rw [awake_eq, Option.bind_some, if_neg (by simp)]
  by_cases hl : code.length ≤ 24 ∧ mem.length ≤ 5000
  · obtain ⟨hc, hm⟩ := hl
    rw [if_neg (by simp; omega)]
    obtain ⟨v, b, e, hvb, h1, h2, h3⟩ := y7t hc i
    rw [e, Option.bind_some]
    cases b with
    | false => simp [h1 rfl]
    | true =>
      obtain ⟨hV, hi0, hi1, val, hC, hv⟩ := h2 rfl
      rw [if_neg (by simp), if_neg (by simp; omega)]
      unfold y3R
      rw [List.nil_append, yv (by omega)]
      obtain ⟨r, er, r0, r1⟩ := y6Z (most := v) (data := data) (k := some (-1)) (by omega) hV hC (by omega) hd hdl y1K 0 v ⟨i, 0, regs⟩ mem (by omega) (.inl ⟨rfl, hv⟩) (by omega) (by rw [y48]; omega) hr hm hb
      rw [show (jp0 (some (-1)) fun z7h => y1o v code data z7h y1K mem 0 i 0 regs.a0 regs.a1 regs.a2 regs.a3) = some r from er, Option.bind_some, y7q (by omega), Option.bind_some, hV]
      simp
      omega
  · rw [if_pos (by simp; omega)]
end Go.Proofs.YtjdnejbngloieaaDoor

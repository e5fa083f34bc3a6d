/- A part of this claim's proof: models of functions, walks, plain laws. No conditions. -/
import Derived.Test.YtjdnejbngloieaaDoorWProcLocal
import Derived.Test.YtjdnejbngloieaaDoorP26w
namespace Go.Proofs.YtjdnejbngloieaaDoor
open Go Go.RowKit Sep
set_option linter.all false
theorem setr_c {r : S34} {i v : Int} (h : 0 ≤ i ∧ i < 4) : y3u r i v = ⟨v, r.a1, r.a2, r.a3⟩ ∨ y3u r i v = ⟨r.a0, v, r.a2, r.a3⟩ ∨ y3u r i v = ⟨r.a0, r.a1, v, r.a3⟩ ∨ y3u r i v = ⟨r.a0, r.a1, r.a2, v⟩ := by
  have : i = 0 ∨ i = 1 ∨ i = 2 ∨ i = 3 := by omega
  rcases this with rfl | rfl | rfl | rfl
  · exact .inl rfl
  · exact .inr (.inl rfl)
  · exact .inr (.inr (.inl rfl))
  · exact .inr (.inr (.inr rfl))
theorem y5c (x : Int) : 0 ≤ u8 x ∧ u8 x ≤ 255 := by
  simp only [u8, IntKind.wrap, IntKind.signed, IntKind.bits]
  simp
  omega
theorem y6f (a n : Int) : (cnt a n).length = n.toNat := by simp [cnt]
theorem ops25 {x : Sapi_Ins} (ho : 1 ≤ x.fOp ∧ x.fOp ≤ 25) : x.fOp = 1 ∨ x.fOp = 2 ∨ x.fOp = 3 ∨ x.fOp = 4 ∨ x.fOp = 5 ∨ x.fOp = 6 ∨ x.fOp = 7 ∨ x.fOp = 8 ∨ x.fOp = 9 ∨ x.fOp = 10 ∨ x.fOp = 11 ∨ x.fOp = 12 ∨ x.fOp = 13 ∨ x.fOp = 14 ∨ x.fOp = 15 ∨ x.fOp = 16 ∨ x.fOp = 17 ∨ x.fOp = 18 ∨ x.fOp = 19 ∨ x.fOp = 20 ∨ x.fOp = 21 ∨ x.fOp = 22 ∨ x.fOp = 23 ∨ x.fOp = 24 ∨ x.fOp = 25 := by omega
structure Fm (s : Sproc_State) (mem : List Int) (r : Sproc_State × Sproc_Act) : Prop where
  regs : r.1.fRegs = s.fRegs ∨ ∃ i v, (0 ≤ i ∧ i < 4) ∧ (0 ≤ v ∧ v ≤ 255) ∧ r.1.fRegs = y3u s.fRegs i v ∧ r.2.fKind = 0
  kind : 0 ≤ r.2.fKind ∧ r.2.fKind ≤ 16
  fault : r.2.fKind = 15 → 2 ≤ r.2.fA ∧ r.2.fA ≤ 5
  store : r.2.fKind = 1 → (0 ≤ r.2.fA ∧ r.2.fA < mem.length) ∧ 0 ≤ r.2.fB ∧ r.2.fB ≤ 255
  send : r.2.fKind = 2 → 1 ≤ r.2.fData.length ∧ r.2.fData.length ≤ 64
  len : r.2.fData.length ≤ 64
theorem stepS_fm {x : Sapi_Ins} {size : Int} {s : Sproc_State} {mem : List Int} (hv : y19 x size = true) (hr : RB s.fRegs) (hm : mem.length ≤ 5000) (hb : ∀ y ∈ mem, 0 ≤ y ∧ y ≤ 255) : Fm s mem (yy x s mem) := by
  have hR := rg_bd hr
  rcases ops25 (vop hv) with e | e | e | e | e | e | e | e | e | e | e | e | e | e | e | e | e | e | e | e | e | e | e | e | e
  · unfold yy
    simp only [e, if_true]
    generalize (if s.fLeft = 0 then x.fA else s.fLeft) = c
    split <;> exact ⟨.inl rfl, by simp, by simp, by simp, by simp, by simp⟩
  · unfold yy
    simp only [e, if_true, Int.reduceEq, if_false]
    exact ⟨.inr ⟨_, _, vA hv (by omega), y5c _, rfl, rfl⟩, by simp, by simp, by simp, by simp, by simp⟩
  · unfold yy
    simp only [e, if_true, Int.reduceEq, if_false]
    exact ⟨.inr ⟨_, _, vA hv (by omega), y5c _, rfl, rfl⟩, by simp, by simp, by simp, by simp, by simp⟩
  · unfold yy
    simp only [e, if_true, Int.reduceEq, if_false]
    exact ⟨.inr ⟨_, _, vA hv (by omega), y5c _, rfl, rfl⟩, by simp, by simp, by simp, by simp, by simp⟩
  · have hM := vM hv (by omega)
    have hC := hR x.fC
    unfold yy
    simp only [e, if_true, Int.reduceEq, if_false]
    rw [y14 (x := rg s.fRegs x.fC) (by omega), y14 (by omega)]
    split
    · exact ⟨.inl rfl, by simp, by simp, by simp, by simp, by simp⟩
    · exact ⟨.inr ⟨_, _, vA hv (by omega), hb _ (y65 (by omega) (by omega)), rfl, rfl⟩, by simp, by simp, by simp, by simp, by simp⟩
  · have hM := vM hv (by omega)
    have hC := hR x.fC
    have hA := hR x.fA
    unfold yy
    simp only [e, if_true, Int.reduceEq, if_false]
    rw [y14 (x := rg s.fRegs x.fC) (by omega), y14 (by omega), y14 (x := rg s.fRegs x.fA) (by omega)]
    split
    · exact ⟨.inl rfl, by simp, by simp, by simp, by simp, by simp⟩
    · exact ⟨.inl rfl, by simp, by simp, fun _ => ⟨⟨by dsimp only; omega, by dsimp only; omega⟩, hA⟩, by simp, by simp⟩
  · have hN := vN hv (by omega)
    unfold yy
    simp only [e, if_true, Int.reduceEq, if_false]
    exact ⟨.inl rfl, by simp, by simp, by simp, fun _ => by simp only [y6f]; omega, by simp only [y6f]; omega⟩
  all_goals
    unfold yy
    simp only [e, if_true, Int.reduceEq, if_false, Int.reduceLE]
    try split
    all_goals first
      | exact ⟨.inl rfl, by simp, by simp, by simp, by simp, by simp⟩
      | exact ⟨.inr ⟨_, _, vA hv (by omega), y5c _, rfl, rfl⟩, by simp, by simp, by simp, by simp, by simp⟩
def chg (a b : S34) : Int := (if a.a0 ≠ b.a0 then 1 else 0) + (if a.a1 ≠ b.a1 then 1 else 0) + (if a.a2 ≠ b.a2 then 1 else 0) + (if a.a3 ≠ b.a3 then 1 else 0)
theorem chg_loop {x : Sproc_State × Sproc_Act} {s : Sproc_State} {k : Int → Option Bool} {n : Nat} : yR x s k (n + 5) 0 0 = k (chg x.1.fRegs s.fRegs) := by
  have a0 : ∀ c : Int, 0 ≤ c ∧ c ≤ 8 → i64 (c + 1) = c + 1 := fun c h => y14 (by omega)
  simp only [yR, jp1]
  rw [if_pos (by decide), yt (by omega)]
  unfold chg
  by_cases h0 : x.1.fRegs.a0 = s.fRegs.a0 <;> by_cases h1 : x.1.fRegs.a1 = s.fRegs.a1 <;> by_cases h2 : x.1.fRegs.a2 = s.fRegs.a2 <;> by_cases h3 : x.1.fRegs.a3 = s.fRegs.a3 <;>
    simp [h0, h1, h2, h3, nth, chk, show i64 1 = 1 from y14 (by omega), show i64 2 = 2 from y14 (by omega), show i64 3 = 3 from y14 (by omega), show i64 4 = 4 from y14 (by omega), show i64 (1 + 1) = 2 from y14 (by omega), show i64 (2 + 1) = 3 from y14 (by omega), show i64 (3 + 1) = 4 from y14 (by omega)]
theorem y5T {mem : List Int} {k : List Int → Option Bool} (hm : mem.length ≤ 5000) : ∀ (n : Nat) (o : List Int) (i : Int), 0 ≤ i → i ≤ mem.length → mem.length < n + i → o.length = mem.length → (∀ y ∈ o, 0 ≤ y ∧ y ≤ 255) →
    ∃ o', yS mem k n o i = k o' ∧ o'.length = mem.length ∧ ∀ y ∈ o', 0 ≤ y ∧ y ≤ 255
  | 0, o, i, h0, h1, h2, _, _ => by omega
  | n + 1, o, i, h0, h1, h2, h3, h4 => by
    rw [yS]
    by_cases h : i < mem.length
    · rw [if_pos (decide_eq_true h), yt ⟨h0, h⟩, yt ⟨h0, by omega⟩, y14 (by omega)]
      refine y5T hm n _ (i + 1) (by omega) (by omega) (by omega) (by simp [h3]) fun y hy => ?_
      rcases List.mem_or_eq_of_mem_set hy with hy | rfl
      · exact h4 y hy
      · exact y5c _
    · rw [if_neg (by simpa using h)]
      exact ⟨o, rfl, h3, h4⟩
theorem y6F {x : Sapi_Ins} {s : Sproc_State} {mem o : List Int} (hl : o.length = mem.length) (h5 : x.fOp ≠ 5) : yy x s o = yy x s mem := by
  unfold yy
  simp only [h5, if_false, hl]
theorem chg_le {a b : S34} (h : a = b ∨ ∃ i v, (0 ≤ i ∧ i < 4) ∧ a = y3u b i v) : 0 ≤ chg a b ∧ chg a b ≤ 1 ∧ (a = b → chg a b = 0) := by
  refine ⟨by unfold chg; repeat' split
             all_goals omega, ?_, fun e => by subst e; simp [chg]⟩
  rcases h with rfl | ⟨i, v, hi, rfl⟩
  · simp [chg]
  · rcases setr_c (r := b) (v := v) hi with e | e | e | e <;> rw [e] <;> simp only [chg, ne_eq, not_true_eq_false, if_false] <;> split <;> omega
theorem y5A {code : List Sapi_Ins} {s : Sproc_State} {mem : List Int} (hr : RB s.fRegs) (hb : ∀ x ∈ mem, 0 ≤ x ∧ x ≤ 255) : y27 code s mem = some true := by
  unfold y27
  have hN0 := y4I
  generalize y1M = N at hN0 ⊢
  obtain ⟨n, rfl⟩ : ∃ n, N = n + 5 := ⟨N - 5, by omega⟩
  rw [awake_eq, Option.bind_some, if_neg (by simp)]
  by_cases hl : code.length ≤ 200 ∧ mem.length ≤ 5000
  · obtain ⟨hc, hm⟩ := hl
    rw [if_neg (by simp; omega), y6b hc hm (rg_bd hr), Option.bind_some]
    have hF : Fm s mem (if y2h code s.fPc then yy (nth code s.fPc) s mem else (s, ⟨15, 5, 0, []⟩)) := by
      by_cases hk : y2h code s.fPc = true
      · rw [if_pos hk]
        have h := hk
        unfold y2h at h
        simp only [Bool.and_eq_true] at h
        exact stepS_fm h.2 hr hm hb
      · rw [if_neg hk]
        exact ⟨.inl rfl, by simp, by simp, by simp, by simp, by simp⟩
    have hS : ∀ o : List Int, o.length = mem.length → (nth code s.fPc).fOp ≠ 5 ∨ y2h code s.fPc = false → (if y2h code s.fPc then yy (nth code s.fPc) s o else (s, ⟨15, 5, 0, []⟩)) = (if y2h code s.fPc then yy (nth code s.fPc) s mem else (s, ⟨15, 5, 0, []⟩)) := fun o ho h => by
      rcases h with h | h
      · rw [y6F ho h]
      · simp [h]
    generalize hx : (if y2h code s.fPc then yy (nth code s.fPc) s mem else (s, ⟨15, 5, 0, []⟩)) = x at hF hS
    unfold jp1
    dsimp only
    rw [chg_loop]
    obtain ⟨c0, c1, c2⟩ := chg_le (a := x.1.fRegs) (b := s.fRegs) (by
      rcases hF.regs with h | ⟨i, v, h1, _, h2, _⟩
      · exact .inl h
      · exact .inr ⟨i, v, h1, h2⟩)
    have hck : x.2.fKind ≠ 0 → chg x.1.fRegs s.fRegs = 0 := fun h => by
      rcases hF.regs with h' | ⟨_, _, _, _, _, h'⟩
      · exact c2 h'
      · exact absurd h' h
    generalize chg x.1.fRegs s.fRegs = c at c0 c1 hck
    have q1 : ((((decide (c > 1)) || ((decide (x.2.fKind ≠ 0)) && (decide (c > 0)))) || (decide (x.2.fKind > 16))) || ((decide (x.2.fKind = 15)) && ((decide (x.2.fA < 2)) || (decide (x.2.fA > 5))))) = false := by
      have h1 := hF.kind
      have h2 := hF.fault
      simp only [Bool.or_eq_false_iff, Bool.and_eq_false_iff, decide_eq_false_iff_not]
      omega
    have q2 : (((decide (x.2.fKind = 1)) && ((((decide (x.2.fA < 0)) || (decide (x.2.fA ≥ ((mem.length : Nat) : Int)))) || (decide (x.2.fB < 0))) || (decide (x.2.fB > 255)))) || ((decide (x.2.fKind = 2)) && ((decide (((x.2.fData.length : Nat) : Int) < 1)) || (decide (((x.2.fData.length : Nat) : Int) > 64))))) = false := by
      have h1 := hF.store
      have h2 := hF.send
      simp only [Bool.or_eq_false_iff, Bool.and_eq_false_iff, decide_eq_false_iff_not]
      omega
    rw [if_neg (by rw [q1]; simp), if_neg (by rw [q2]; simp), yt (by first | (simp; done) | (simp; omega))]
    by_cases h5 : (0 ≤ s.fPc ∧ s.fPc < code.length) ∧ (nth code s.fPc).fOp = 5
    · rw [if_pos (by simp; omega)]
    · rw [if_neg (by simp; omega), yt (by omega)]
      obtain ⟨o', e, hl', hb'⟩ := y5T (mem := mem) (k := fun (z2s : List Int) => (y12 code s z2s).bind fun z5n => (if decide (x.1 = z5n.1) then (yM x.2 z5n.2).bind fun z7S => some z7S else some false).bind fun z7i => some z7i) hm (n + 5) (List.replicate ((mem.length : Nat) : Int).toNat 0) 0 (by omega) (by omega) (by omega) (by simp) (by simp)
      rw [e, y6b hc (by omega) (rg_bd hr), hS o' hl' (by
        by_cases hp : 0 ≤ s.fPc ∧ s.fPc < code.length
        · exact .inl fun h => h5 ⟨hp, h⟩
        · right; unfold y2h; rw [decide_eq_false hp]; rfl)]
      simp only [Option.bind_some, decide_true, if_true]
      have := hF.len
      rw [y6o (by omega)]
      simp
  · rw [if_pos (by simp; omega)]
end Go.Proofs.YtjdnejbngloieaaDoor

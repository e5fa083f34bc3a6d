/- A part of this claim's proof: models of functions, walks, plain laws. No conditions. -/
import Derived.Test.YtjdnejbngloieaaDoorWProcPieces
import Derived.Test.YtjdnejbngloieaaDoorP26g
namespace Go.Proofs.YtjdnejbngloieaaDoor
open Go Go.RowKit Sep
set_option linter.all false
abbrev RunR := Sproc_State × Sproc_Act × List Int × Int
def yL (code : List Sapi_Ins) : Nat → Sproc_State → List Int → RunR
 | 0, s, m => (s, ⟨0, 0, 0, []⟩, m, 0)
 | n + 1, s, m =>
  if (st code s m).2.fKind = 0 then ((yL code n (st code s m).1 m).1, (yL code n (st code s m).1 m).2.1, (yL code n (st code s m).1 m).2.2.1, (yL code n (st code s m).1 m).2.2.2 + 1)
  else if (st code s m).2.fKind = 1 then ((yL code n (st code s m).1 (m.set (st code s m).2.fA.toNat (u8 (st code s m).2.fB))).1, (yL code n (st code s m).1 (m.set (st code s m).2.fA.toNat (u8 (st code s m).2.fB))).2.1, (yL code n (st code s m).1 (m.set (st code s m).2.fA.toNat (u8 (st code s m).2.fB))).2.2.1, (yL code n (st code s m).1 (m.set (st code s m).2.fA.toNat (u8 (st code s m).2.fB))).2.2.2 + 1)
  else ((st code s m).1, (st code s m).2, m, 1)
section
variable {code : List Sapi_Ins}
theorem y5e : ∀ (n : Nat) (s : Sproc_State) (m : List Int), RB s.fRegs → m.length ≤ 5000 → (∀ y ∈ m, 0 ≤ y ∧ y ≤ 255) →
  RB (yL code n s m).1.fRegs ∧ (yL code n s m).2.1.fData.length ≤ 64 ∧ (yL code n s m).2.2.1.length = m.length ∧ (∀ y ∈ (yL code n s m).2.2.1, 0 ≤ y ∧ y ≤ 255) ∧ 0 ≤ (yL code n s m).2.2.2 ∧ (yL code n s m).2.2.2 ≤ n ∧ ((yL code n s m).2.1.fKind = 0 → (yL code n s m).2.2.2 = n)
 | 0, s, m, hr, hm, hb => ⟨hr, by simp [yL], rfl, hb, by simp [yL], by simp [yL], fun _ => rfl⟩
 | n + 1, s, m, hr, hm, hb => by
  have hF := st_fm (code := code) hr hm hb
  unfold yL
  by_cases h0 : (st code s m).2.fKind = 0
  ·rw [if_pos h0]
   obtain ⟨a, b, c, d, e, f, g⟩ := y5e n (st code s m).1 m (hF.rb hr) hm hb
   exact ⟨a, b, c, d, by dsimp only; omega, by dsimp only; omega, fun h => by have := g h; dsimp only; omega⟩
  ·rw [if_neg h0]
   by_cases h1 : (st code s m).2.fKind = 1
   ·rw [if_pos h1]
    obtain ⟨a, b, c, d, e, f, g⟩ := y5e n (st code s m).1 (m.set (st code s m).2.fA.toNat (u8 (st code s m).2.fB)) (hF.rb hr) (by simpa using hm) (y6L hb _ _)
    exact ⟨a, b, by simpa using c, d, by dsimp only; omega, by dsimp only; omega, fun h => by have := g h; dsimp only; omega⟩
   ·rw [if_neg h1]
    exact ⟨hF.rb hr, hF.len, rfl, hb, by simp, by dsimp only; omega, fun h => absurd h h0⟩
theorem y6h : ∀ (a b : Nat) (s : Sproc_State) (m : List Int),
  yL code (a + b) s m = if (yL code a s m).2.1.fKind ≠ 0 then yL code a s m else ((yL code b (yL code a s m).1 (yL code a s m).2.2.1).1, (yL code b (yL code a s m).1 (yL code a s m).2.2.1).2.1, (yL code b (yL code a s m).1 (yL code a s m).2.2.1).2.2.1, (yL code a s m).2.2.2 + (yL code b (yL code a s m).1 (yL code a s m).2.2.1).2.2.2)
 | 0, b, s, m => by simp [yL]
 | a + 1, b, s, m => by
  rw [show a + 1 + b = (a + b) + 1 by omega]
  simp only [yL]
  by_cases h0 : (st code s m).2.fKind = 0
  ·simp only [h0, if_true]
   rw [y6h a b]
   by_cases h : (yL code a (st code s m).1 m).2.1.fKind ≠ 0
   ·rw [if_pos h]; exact (if_pos h).symm
   ·rw [if_neg h]
    refine Eq.trans ?_ (if_neg h).symm
    refine Prod.ext rfl (Prod.ext rfl (Prod.ext rfl ?_))
    dsimp only; omega
  ·by_cases h1 : (st code s m).2.fKind = 1
   ·simp only [h1, Int.reduceEq, if_true, if_false]
    rw [y6h a b]
    by_cases h : (yL code a (st code s m).1 (m.set (st code s m).2.fA.toNat (u8 (st code s m).2.fB))).2.1.fKind ≠ 0
    ·rw [if_pos h]; exact (if_pos h).symm
    ·rw [if_neg h]
     refine Eq.trans ?_ (if_neg h).symm
     refine Prod.ext rfl (Prod.ext rfl (Prod.ext rfl ?_))
     dsimp only; omega
   ·simp only [h0, h1, if_false, ne_eq, not_false_eq_true, if_true]
theorem y6i {most : Int} {k : List Int → Int → Int → Int → Int → Int → Int → Option RunR} (hc : code.length ≤ 200) (hm0 : 0 ≤ most ∧ most ≤ 1000)
  (hk : ∀ m p l a b c d, k m p l a b c d = some (⟨p, l, ⟨a, b, c, d⟩⟩, ⟨0, 0, 0, []⟩, m, max most 0)) : ∀ (n : Nat) (v : Int) (s : Sproc_State) (m : List Int), 0 ≤ v → v ≤ most → most < n + v → RB s.fRegs → m.length ≤ 5000 → (∀ y ∈ m, 0 ≤ y ∧ y ≤ 255) →
  y2a most code k n m v s.fPc s.fLeft s.fRegs.a0 s.fRegs.a1 s.fRegs.a2 s.fRegs.a3 = some ((yL code (most - v).toNat s m).1, (yL code (most - v).toNat s m).2.1, (yL code (most - v).toNat s m).2.2.1, v + (yL code (most - v).toNat s m).2.2.2)
 | 0, v, s, m, h0, h1, h2, _, _, _ => by omega
 | n + 1, v, s, m, h0, h1, h2, hr, hm, hb => by
  rw [y2a]
  have hF := st_fm (code := code) hr hm hb
  by_cases h : v < max most 0
  ·rw [if_pos (decide_eq_true h)]
   refine y7p fun k' hk' => ?_
   have e1 : (most - v).toNat = (most - (v + 1)).toNat + 1 := by omega
   rw [show (⟨s.fPc, s.fLeft, ⟨s.fRegs.a0, s.fRegs.a1, s.fRegs.a2, s.fRegs.a3⟩⟩ : Sproc_State) = s from rfl, Stepb_eq hc hm (rg_bd hr), Option.bind_some, e1]
   change (if decide ((st code s m).2.fKind = 0) = true then _ else _) = _
   unfold yL
   by_cases q0 : (st code s m).2.fKind = 0
   ·rw [if_pos (decide_eq_true q0), if_pos q0, hk', y1p (by omega)]
    refine (y6i hc hm0 hk n (v + 1) (st code s m).1 m (by omega) (by omega) (by omega) (hF.rb hr) hm hb).trans ?_
    congr 1
    refine Prod.ext rfl (Prod.ext rfl (Prod.ext rfl ?_))
    dsimp only; omega
   ·rw [if_neg (by simpa using q0), if_neg q0]
    by_cases q1 : (st code s m).2.fKind = 1
    ·obtain ⟨hA, hB⟩ := hF.store q1
     rw [if_pos q1]
     change (if decide ((st code s m).2.fKind = 1) = true then chk (0 ≤ (st code s m).2.fA ∧ (st code s m).2.fA < m.length) (k' (m.set (st code s m).2.fA.toNat (u8 (st code s m).2.fB)) (st code s m).1.fPc (st code s m).1.fLeft (st code s m).1.fRegs.a0 (st code s m).1.fRegs.a1 (st code s m).1.fRegs.a2 (st code s m).1.fRegs.a3) else _) = _
     rw [if_pos (decide_eq_true q1), yJ hA, hk', y1p (by omega)]
     refine (y6i hc hm0 hk n (v + 1) (st code s m).1 (m.set (st code s m).2.fA.toNat (u8 (st code s m).2.fB)) (by omega) (by omega) (by omega) (hF.rb hr) (by simpa using hm) (y6L hb _ _)).trans ?_
     congr 1
     refine Prod.ext rfl (Prod.ext rfl (Prod.ext rfl ?_))
     dsimp only; omega
    ·rw [if_neg q1]
     change (if decide ((st code s m).2.fKind = 1) = true then _ else some ((st code s m).1, (st code s m).2, m, i64 (v + 1))) = _
     rw [if_neg (by simpa using q1), y1p (by omega)]
  ·have e : v = most := by omega
   subst e
   rw [if_neg (by simpa using h), hk, Int.sub_self]
   simp only [Int.toNat_zero, yL]
   congr 1
   refine Prod.ext rfl (Prod.ext rfl (Prod.ext rfl ?_))
   dsimp only; omega
theorem y7c {s : Sproc_State} {m : List Int} {most : Int} (hc : code.length ≤ 200) (hm0 : 0 ≤ most ∧ most ≤ 1000) (hr : RB s.fRegs) (hm : m.length ≤ 5000) (hb : ∀ y ∈ m, 0 ≤ y ∧ y ≤ 255) :
  y2Y code s m most = some (yL code most.toNat s m) := by
 unfold y2Y y2d
 rw [yJ (by omega), Option.bind_some]
 refine y7p fun k hk => ?_
 rw [y6i hc hm0 hk y2g 0 s m (by omega) (by omega) (by rw [y5W]; omega) hr hm hb, Int.sub_zero]
 congr 1
 refine Prod.ext rfl (Prod.ext rfl (Prod.ext rfl ?_))
 dsimp only; omega
end
theorem y6F {code : List Sapi_Ins} {s : Sproc_State} {mem : List Int} {a b : Int} (hr : RB s.fRegs) (hb : ∀ x ∈ mem, 0 ≤ x ∧ x ≤ 255) (ha : 0 ≤ a ∧ a ≤ 255) (hb2 : 0 ≤ b ∧ b ≤ 255) : y2p code s mem a b = some true := by
 unfold y2p
 rw [awake_eq, Option.bind_some, if_neg (by simp)]
 by_cases hl : code.length ≤ 200 ∧ mem.length ≤ 2000
 ·obtain ⟨hc, hm⟩ := hl
  have ea : i64 (Int.tmod a 101) = a % 101 := by rw [Int.tmod_eq_emod_of_nonneg ha.1]; exact y1p (by omega)
  have eb : i64 (Int.tmod b 101) = b % 101 := by rw [Int.tmod_eq_emod_of_nonneg hb2.1]; exact y1p (by omega)
  have eab : i64 (a % 101 + b % 101) = a % 101 + b % 101 := y1p (by omega)
  rw [if_neg (by simp; omega), ea, eb, eab, y7c hc (by omega) hr (by omega) hb, Option.bind_some, y7c hc (by omega) hr (by omega) hb, Option.bind_some]
  have ha' : 0 ≤ a % 101 ∧ a % 101 ≤ 100 := by omega
  have hb' : 0 ≤ b % 101 ∧ b % 101 ≤ 100 := by omega
  generalize a % 101 = p at ha' ⊢
  generalize b % 101 = q at hb' ⊢
  have hadd := y6h (code := code) p.toNat q.toNat s mem
  obtain ⟨a1, a2, a3, a4, a5, a6, a7⟩ := y5e (code := code) p.toNat s mem hr (by omega) hb
  rw [show (p + q).toNat = p.toNat + q.toNat by omega]
  obtain ⟨b1, b2, b3, b4, b5, b6, b7⟩ := y5e (code := code) (p.toNat + q.toNat) s mem hr (by omega) hb
  rw [if_neg (by simp; omega)]
  by_cases hk : (yL code p.toNat s mem).2.1.fKind = 0
  ·rw [if_neg (by simpa using hk), y7c hc (by omega) a1 (by omega) a4, Option.bind_some]
   rw [if_neg (by simpa using hk)] at hadd
   have e7 := a7 hk
   obtain ⟨c1, c2, c3, c4, c5, c6, c7⟩ := y5e (code := code) q.toNat (yL code p.toNat s mem).1 (yL code p.toNat s mem).2.2.1 a1 (by omega) a4
   rw [hadd]
   generalize yL code q.toNat (yL code p.toNat s mem).1 (yL code p.toNat s mem).2.2.1 = z at c1 c2 c3 c4 c5 c6 c7
   generalize yL code p.toNat s mem = y at e7 a3 c3
   dsimp only
   rw [if_pos (by simp; omega), y6t (by omega)]
   simp only [Option.bind_some, decide_true, if_true]
   rw [y4i (by omega), y1p (by omega)]
   simp
   omega
  ·rw [if_pos (by simpa using hk)]
   rw [if_pos (by simpa using hk)] at hadd
   rw [hadd]
   generalize yL code p.toNat s mem = y at a1 a2 a3
   simp only [decide_true, if_true]
   rw [y6t (by omega)]
   simp only [Option.bind_some, decide_true, if_true]
   rw [y4i (by omega)]
   simp
 ·rw [if_pos (by simp; omega)]
end Go.Proofs.YtjdnejbngloieaaDoor

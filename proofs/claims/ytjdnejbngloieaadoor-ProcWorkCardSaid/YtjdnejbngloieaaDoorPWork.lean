/- A part of this claim's proof: models of functions, walks, plain laws. No conditions. -/
import Derived.Test.YtjdnejbngloieaaDoorWProcWork
import Derived.Test.YtjdnejbngloieaaDoorP26w
namespace Go.Proofs.YtjdnejbngloieaaDoor
open Go Go.RowKit Sep
set_option linter.all false
def y1i (t : Int) : List Sapi_Ins := [⟨1, t, 0, 0⟩, ⟨19, 0, 0, 0⟩]
theorem wok0 {t : Int} (h : 1 ≤ t ∧ t ≤ 2000) : y2i (y1i t) 0 = true := by
 simp [y2i, y1i, y12, yP, nth, fits, y2h]; omega
theorem wok1 (t : Int) : y2i (y1i t) 1 = true := by simp [y2i, y1i, y12, yP, nth, fits, y2h]
theorem wallV {t : Int} (h : 1 ≤ t ∧ t ≤ 2000) : y2L (y1i t) = true := by
 simp [y2L, y1i, y12, yP, nth, fits, y2h]; omega
theorem wsucc0 {t : Int} (h : 1 ≤ t ∧ t ≤ 2000) : y1c (y1i t) 0 = [1] := by
 unfold y1c; rw [if_pos (wok0 h)]; simp [y1i, nth]
theorem wsucc1 (t : Int) : y1c (y1i t) 1 = [] := by
 unfold y1c; rw [if_pos (wok1 t)]; simp [y1i, nth]
theorem wlongest {t : Int} (h : 1 ≤ t ∧ t ≤ 2000) : y1a (y1i t) 0 = some (t + 1, true) := by
 obtain ⟨v, b, e, _, _, h3⟩ := y64 (code := y1i t) (by simp [y1i]) 0
 obtain ⟨rfl, rfl⟩ := h3 (wallV h) (fun j => if j = 0 then some (t + 1) else if j = 1 then some 1 else if j = 2 then some 0 else none) (t + 1) ⟨by simp [y1i], fun i v hi hn => by
  have hl : ((y1i t).length : Int) = 2 := rfl
  rw [hl] at hn
  by_cases h0 : i = 0
  ·subst h0
   rw [if_pos rfl] at hi
   obtain rfl := Option.some.inj hi
   rw [wsucc0 h]
   refine ⟨by omega, by omega, fun s hs => by simp at hs; subst hs; exact ⟨1, by simp⟩, ?_⟩
   simp [own, y1i, nth]
   try omega
  ·by_cases h1 : i = 1
   ·subst h1
    simp at hi
    subst hi
    rw [wsucc1]
    refine ⟨by omega, by omega, by simp, by simp [own, y1i, nth]⟩
   ·rw [if_neg h0, if_neg h1, if_neg hn] at hi; cases hi⟩ (by omega) (by simp [y1i]) (by simp)
 exact e
theorem y4M {y : Int} {mem : List Int} {regs : S34} {k : (List Sapi_Ins) → Int → Int → Int → Int → Int → Int → Option Bool} (hy : 0 ≤ y ∧ y < 2000) (hm : mem.length ≤ 5000) (hr : RB regs) : ∀ (n : Nat) (i pc left : Int), 1 ≤ i → i ≤ 2 + y → 2 + y < n + i →
  (i ≤ 1 + y → pc = 0 ∧ (if left = 0 then 1 + y else left) = 2 + y - i) → (1 + y < i → pc = 1 ∧ left = 0) →
  yZ y mem regs k n (y1i (1 + y)) i pc left regs.a0 regs.a1 regs.a2 regs.a3 = k (y1i (1 + y)) 1 0 regs.a0 regs.a1 regs.a2 regs.a3
 | 0, i, pc, left, h1, h2, h3, _, _ => by omega
 | n + 1, i, pc, left, h1, h2, h3, h4, h5 => by
  rw [yZ, y10 (x := 1 + y) (by omega)]
  by_cases h : i ≤ 1 + y
  ·obtain ⟨rfl, hl⟩ := h4 h
   rw [if_pos (decide_eq_true h), show (⟨regs.a0, regs.a1, regs.a2, regs.a3⟩ : S34) = regs from rfl, Step_at (by simp [y1i]) hm hr (wok0 (by omega)), Option.bind_some]
   have hx : nth (y1i (1 + y)) 0 = ⟨1, 1 + y, 0, 0⟩ := rfl
   simp only [hx]
   have hs : y13 ⟨1, 1 + y, 0, 0⟩ ⟨0, left, regs⟩ mem = (⟨if 1 + y - i ≠ 0 then 0 else 1, 1 + y - i, regs⟩, ⟨0, 0, 0, []⟩) := by
    unfold y13
    simp only [if_true]
    rw [hl, y10 (x := 2 + y - i - 1) (by omega), show 2 + y - i - 1 = 1 + y - i by omega, show i64 (0 + 1) = 1 from y10 (by omega), m64_1]
    split <;> rfl
   rw [hs, y6D (by simp)]
   simp only [Option.bind_some, decide_true]
   by_cases hz : 1 + y - i = 0
   ·have e : i = 1 + y := by omega
    subst e
    rw [show i64 (1 + y - (1 + y)) = 0 from by rw [Int.sub_self]; rfl]
    simp only [Int.sub_self, ne_eq, not_true_eq_false, if_false, if_true, decide_true, decide_false, Bool.not_true, Bool.or_self, bne_self_eq_false, Bool.false_and, Bool.false_or, Bool.false_eq_true]
    rw [y10 (by omega)]
    exact y4M hy hm hr n (1 + y + 1) 1 0 (by omega) (by omega) (by omega) (by omega) (fun _ => ⟨rfl, rfl⟩)
   ·have e : i ≠ 1 + y := by omega
    rw [y10 (x := 1 + y - i) (by omega)]
    simp only [hz, ne_eq, not_false_eq_true, if_true, not_true_eq_false, decide_false, e, Bool.not_true, Bool.or_self, Int.reduceEq, bne_self_eq_false, decide_true, Bool.true_and, Bool.false_eq_true, if_false]
    rw [y10 (by omega)]
    exact y4M hy hm hr n (i + 1) 0 (1 + y - i) (by omega) (by omega) (by omega) (fun _ => ⟨rfl, by rw [if_neg hz]; omega⟩) (by omega)
  ·obtain ⟨rfl, rfl⟩ := h5 (by omega)
   rw [if_neg (by simpa using h)]
theorem y66 {ticks : Int} {regs : S34} {mem : List Int} (hb : -9223372036854775808 ≤ ticks ∧ ticks ≤ 9223372036854775807) (hr : RB regs) (hm : ∀ x ∈ mem, 0 ≤ x ∧ x ≤ 255) : y2j ticks regs mem = some true := by
 unfold y2j
 rw [awake_eq, Option.bind_some, if_neg (by simp)]
 by_cases hl : (mem.length : Int) > 5000
 ·rw [if_pos (decide_eq_true hl)]
 rw [if_neg (by simpa using hl)]
 obtain ⟨y, hy, h0, h1⟩ := Pick_eq hb (n := 2000) (by omega)
 have e1 : yB 1 [i64 (1 + y)] = some ⟨1, 1 + y, 0, 0⟩ := by
  rw [y10 (by omega)]; simp [yB, chk, nth]
 have e2 : yB 19 [] = some ⟨19, 0, 0, 0⟩ := by simp [yB, chk, nth]
 rw [hy, Option.bind_some, e1, Option.bind_some, e2, Option.bind_some]
 unfold jp7
 dsimp only
 rw [show ([⟨1, 1 + y, 0, 0⟩, ⟨19, 0, 0, 0⟩] : List Sapi_Ins) = y1i (1 + y) from rfl,
  y4M ⟨h0, h1⟩ (by omega) hr y1o 1 0 0 (by omega) (by omega) (by rw [y36]; omega) (fun _ => ⟨rfl, by rw [if_pos rfl]; omega⟩) (by omega)]
 rw [wlongest (by omega), Option.bind_some, y10 (x := 1 + y) (by omega), y10 (by omega)]
 simp
end Go.Proofs.YtjdnejbngloieaaDoor

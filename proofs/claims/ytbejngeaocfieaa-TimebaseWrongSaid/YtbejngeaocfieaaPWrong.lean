/- A part of this claim's proof: models of the functions that the law reaches, with the proof that the functions compute them; plain laws about the models. No conditions beyond those in each theorem's statement. -/
import Derived.Test.YtbejngeaocfieaaWTimebaseWrong
import Derived.Test.YtbejngeaocfieaaPG
set_option linter.all false
namespace Go.Proofs.Ytbejngeaocfieaa
open Go Go.RowKit Sep
theorem nth_last {l : List Int} {x : Int} : nth (l ++ [x]) l.length = x := by
  have h := nth_lt (l := l ++ [x]) (i := (l.length : Int)) (by omega) (by simp; omega)
  rw [← h]; simp
theorem wrong_true {s : Su} {way : Int} (hw : 0 ≤ way ∧ way ≤ 255) : m_law34_TimebaseWrong s way = some true := by
  unfold m_law34_TimebaseWrong
  refine head_eq s _ (by rw [if_pos rfl, awake_true]; rfl) fun hs => ?_
  simp only [Bool.false_eq_true, if_false]
  have n1 := hs.n1
  have n13 := hs.n13
  have dl := hs.dl
  have f0 := hs.f0
  have f3 := hs.f3
  have fl := hs.fl
  have e0 := hs.e0
  have e1 := hs.e1
  have el := hs.el
  refine jp7_use fun k hk => ?_
  have fin : ∀ (a b c : List Int) (d e : Int) (f g : List Int), ¬ Vl ⟨a, b, c, d, e, f, g⟩ → (a.length : Int) ≤ 1000000 → k a b c d e f g = some true := by
    intro a b c d e f g hv ha
    rw [hk, run_eq, if_neg (fun h => hv h.1), Option.bind_some, Reads_eq ha, if_neg (fun h => hv h.1.1), Option.bind_some, skew_eq ha, if_neg (fun h => hv h.1), Option.bind_some, bound_eq, if_neg hv, Option.bind_some, valid_no hv, Option.bind_some, awake_true]
    rfl
  have t0 := Int.tmod_nonneg 8 hw.1
  have t1 := Int.tmod_lt_of_pos way (show (0 : Int) < 8 by decide)
  by_cases h : Int.tmod way 8 = 0
  · rw [if_pos (by simpa using h)]
    refine fin _ _ _ _ _ _ _ (fun v => ?_) (by omega)
    have := v.f3
    rw [i64_id (x := (s.fStart.length : Int) + 2) (by omega), tdivp (by omega), i64_id (by omega)] at this
    dsimp only at this
    omega
  rw [if_neg (by simpa using h)]
  by_cases h : Int.tmod way 8 = 1
  · rw [if_pos (by simpa using h), chk_pos (by omega)]
    refine fin _ _ _ _ _ _ _ (fun v => ?_) (by omega)
    have := v.dl
    simp at this
    omega
  rw [if_neg (by simpa using h)]
  by_cases h : Int.tmod way 8 = 2
  · rw [if_pos (by simpa using h), List.nil_append, chk_pos (by omega), chk_pos (by simp; omega)]
    refine fin _ _ _ _ _ _ _ (fun v => ?_) (by omega)
    have := v.go s.fFaulty.length (by omega) (by simp; omega)
    unfold good at this
    dsimp only at this
    rw [nth_last] at this
    omega
  rw [if_neg (by simpa using h)]
  by_cases h : Int.tmod way 8 = 3
  · rw [if_pos (by simpa using h)]
    refine fin _ _ _ _ _ _ _ (fun v => ?_) (by omega)
    have := v.e0
    dsimp only at this
    omega
  rw [if_neg (by simpa using h)]
  by_cases h : Int.tmod way 8 = 4
  · rw [if_pos (by simpa using h), i64_id (x := s.fE + 1) (by omega), chk_pos (by simp; omega)]
    refine fin _ _ _ _ _ _ _ (fun v => ?_) (by omega)
    have := v.er (s.fE + 1) (by simp)
    dsimp only at this
    omega
  rw [if_neg (by simpa using h)]
  by_cases h : Int.tmod way 8 = 5
  · rw [if_pos (by simpa using h), chk_pos (by omega)]
    refine fin _ _ _ _ _ _ _ (fun v => ?_) (by omega)
    have := v.ll
    rw [List.length_replicate] at this
    omega
  rw [if_neg (by simpa using h)]
  by_cases h : Int.tmod way 8 = 6
  · rw [if_pos (by simpa using h), List.nil_append, chk_pos (by omega), chk_pos (by omega)]
    refine fin _ _ _ _ _ _ _ (fun v => ?_) (by simp; omega)
    have := v.st 1048577 (by
      have e := nth_set (l := s.fStart) (i := 0) (x := 1048577) (by omega) (by omega)
      have m := nth_mem (l := s.fStart.set (0 : Int).toNat 1048577) (i := 0) (by omega) (by simp; omega)
      rw [e] at m
      exact m)
    omega
  rw [if_neg (by simpa using h), if_pos (by simp; omega)]
  refine fin _ _ _ _ _ _ _ (fun v => ?_) (by simp)
  have := v.n1
  simp at this
end Go.Proofs.Ytbejngeaocfieaa

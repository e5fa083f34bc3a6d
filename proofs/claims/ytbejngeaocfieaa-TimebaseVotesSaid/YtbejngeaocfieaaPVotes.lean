/- A part of this claim's proof: models of the functions that the law reaches, with the proof that the functions compute them; plain laws about the models. No conditions beyond those in each theorem's statement. -/
import Derived.Test.YtbejngeaocfieaaWTimebaseVotes
import Derived.Test.YtbejngeaocfieaaPD
set_option linter.all false
namespace Go.Proofs.Ytbejngeaocfieaa
open Go Go.RowKit Sep
theorem awake_true : m_law34_awake = some true := by kernel_rfl
theorem votes_loop {l : List (List Int)} {k : Option Bool} (hl : (l.length : Int) ≤ 20) (hk : (∀ x ∈ l, (x.length : Int) ≤ 20) → k = some true) :
    ∀ (m : Nat) (i : Int), 0 ≤ i → i ≤ l.length → l.length - i < m → (∀ x ∈ l.take i.toNat, (x.length : Int) ≤ 20) → m_law34_TimebaseVotes_L2 l k m i = some true := by
  intro m
  induction m with
  | zero => intro i; omega
  | succ m ih =>
    intro i h0 h1 h2 h3
    rw [m_law34_TimebaseVotes_L2]
    by_cases hi : i < l.length
    · rw [if_pos (by simpa using hi), chk_pos ⟨h0, hi⟩]
      by_cases he : ((nth l i).length : Int) > 20
      · rw [if_pos (by simpa using he), awake_true]; rfl
      · rw [if_neg (by simpa using he), step64 h0 hi (by omega)]
        refine ih (i + 1) (by omega) (by omega) (by omega) ?_
        rw [take_succ l h0 hi]
        intro x hx
        rcases List.mem_append.1 hx with hx | hx
        · exact h3 x hx
        · rw [List.mem_singleton.1 hx]; omega
    · rw [if_neg (by simpa using hi)]
      rw [List.take_of_length_le (by omega)] at h3
      exact hk h3
theorem rndV_len {l : List (List Int)} {f : Int} : ((rndV l f).1.length : Int) ≤ l.length := by
  unfold rndV
  split <;> simp
theorem votes_true {l : List (List Int)} {f : Int} : m_law34_TimebaseVotes l f = some true := by
  unfold m_law34_TimebaseVotes
  by_cases h : (l.length : Int) > 20
  · rw [if_pos (by simpa using h), awake_true]; rfl
  · rw [if_neg (by simpa using h)]
    refine jp0_use fun k hk => ?_
    refine votes_loop (by omega) (fun hr => ?_) FUEL 0 (by omega) (by omega) (by rw [FUEL_eq]; omega) (by simp)
    rw [hk, round_eq (by omega) (fun x hx => by have := hr x hx; omega), rround_eq (by omega) (fun x hx => by have := hr x hx; omega), Option.bind_some, Option.bind_some, ints_eq (by have := rndV_len (l := l) (f := f); omega), Option.bind_some]
    simp [awake_true]
end Go.Proofs.Ytbejngeaocfieaa

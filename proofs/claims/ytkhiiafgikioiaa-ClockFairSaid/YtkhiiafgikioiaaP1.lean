/- A part of this claim's proof: models of the functions that the law reaches, with the proof that the functions compute them; plain laws about the models. No conditions beyond those in each theorem's statement. -/
import Derived.Test.YtkhiiafgikioiaaW33b
import Derived.Test.YtkhiiafgikioiaaZLoops
set_option linter.all false
namespace Go.Proofs.Ytkhiiafgikioiaa
open Go Go.RowKit Sep
theorem awake_true : m_law33_awake = some true := by kernel_rfl

def inT (t : Int) : Bool := decide (-1073741824 ≤ t ∧ t ≤ 1073741824)
abbrev okN (n f : Int) : Prop := 1 ≤ n ∧ n ≤ 16 ∧ 0 ≤ f ∧ 2 * f + 1 ≤ n
theorem in_eq (t : Int) : m_clock_in t = some (inT t) := by
  unfold m_clock_in inT; congr 1; rw [Bool.eq_iff_iff]; simp
theorem rin_eq (t : Int) : m_ref33_In t = some (inT t) := by
  unfold m_ref33_In inT; congr 1; rw [Bool.eq_iff_iff]; simp
theorem fits_eq {n f : Int} (h0 : 0 ≤ n) (hn : n ≤ 9223372036854775807) : m_clock_fits n f = some (decide (okN n f)) := by
  unfold m_clock_fits
  congr 1
  rw [Bool.eq_iff_iff]
  simp only [Bool.and_eq_true, decide_eq_true_eq]
  by_cases h1 : 1 ≤ n
  · have hd := Int.ediv_nonneg (a := n - 1) (b := 2) (by omega) (by omega)
    rw [i64_id (x := n - 1) (by omega), tdivp (by omega), i64_id (by omega)]
    omega
  · omega
theorem rfits_eq {n f : Int} : m_ref33_Fits n f = some (decide (okN n f)) := by
  unfold m_ref33_Fits
  congr 1
  rw [Bool.eq_iff_iff]
  simp only [Bool.and_eq_true, decide_eq_true_eq]
  by_cases h1 : 0 ≤ f ∧ f ≤ 16
  · rw [i64_id (x := 2 * f) (by omega), i64_id (by omega)]; omega
  · omega
theorem each_int {l : List Int} {f : Int → Option Int} {g : Int → Int} (hf : ∀ x ∈ l, f x = some (g x)) (h0 : 0 < l.length) (hs : (l.length : Int) ≤ 1000000) : m_clock_each_int l f = some (isort (l.map g)) := by
  unfold m_clock_each_int
  simp only [jp1]
  rw [each_loop (by_ := 8) (L := m_clock_each_int_L2 l f _) (fun _ _ _ => rfl) hf (by omega) (by omega) FUEL [] 0 (by omega) (by omega) (by rw [FUEL_eq]; omega) rfl]
  simp only [Int.toNat_zero, List.drop_zero, List.nil_append, m_slices_Sort]
  rw [chk_pos (by simp; omega), Option.bind_some]
theorem each_span {l : List Sapi_Span} {f : Sapi_Span → Option Int} {g : Sapi_Span → Int} (hf : ∀ x ∈ l, f x = some (g x)) (h0 : 0 < l.length) (hs : (l.length : Int) ≤ 1000000) : m_clock_each_api_Span l f = some (isort (l.map g)) := by
  unfold m_clock_each_api_Span
  simp only [jp1]
  rw [each_loop (by_ := 8) (L := m_clock_each_api_Span_L2 l f _) (fun _ _ _ => rfl) hf (by omega) (by omega) FUEL [] 0 (by omega) (by omega) (by rw [FUEL_eq]; omega) rfl]
  simp only [Int.toNat_zero, List.drop_zero, List.nil_append, m_slices_Sort]
  rw [chk_pos (by simp; omega), Option.bind_some]
theorem idx_int {s : List Int} {f : Int → Option Bool} {p : Int → Bool} (hf : ∀ x ∈ s, f x = some (p x)) (hs : (s.length : Int) ≤ 4611686018427387000) :
    m_slices_IndexFunc_int_int s f = some (match s.findIdx? p with | some j => (j : Int) | none => -1) := index_func (L := m_slices_IndexFunc_int_int_L2 s f) (fun _ _ _ => rfl) hf hs
theorem idx_span {s : List Sapi_Span} {f : Sapi_Span → Option Bool} {p : Sapi_Span → Bool} (hf : ∀ x ∈ s, f x = some (p x)) (hs : (s.length : Int) ≤ 4611686018427387000) :
    m_slices_IndexFunc_api_Span_api_Span s f = some (match s.findIdx? p with | some j => (j : Int) | none => -1) := index_func (L := m_slices_IndexFunc_api_Span_api_Span_L2 s f) (fun _ _ _ => rfl) hf hs
theorem any_int {s : List Int} {f : Int → Option Bool} {p : Int → Bool} (hf : ∀ x ∈ s, f x = some (p x)) (hs : (s.length : Int) ≤ 4611686018427387000) : m_slices_ContainsFunc_int_int s f = some (s.any p) := contains_func (idx_int hf hs)
theorem any_span {s : List Sapi_Span} {f : Sapi_Span → Option Bool} {p : Sapi_Span → Bool} (hf : ∀ x ∈ s, f x = some (p x)) (hs : (s.length : Int) ≤ 4611686018427387000) : m_slices_ContainsFunc_api_Span_api_Span s f = some (s.any p) := contains_func (idx_span hf hs)
theorem del_int {l : List Int} {f : Int → Option Bool} {p : Int → Bool} (hf : ∀ x ∈ l, f x = some (p x)) (hs : (l.length : Int) ≤ 4611686018427387000) : m_slices_DeleteFunc_int_int l f = some (l.filter fun x => !p x) :=
  delete_func (L := fun k => m_slices_DeleteFunc_int_int_L2 f k) (idx_int hf hs) (fun _ _ _ _ _ => rfl) hf hs

/-- the midpoint, as it is said -/
def mid (l : List Int) (f : Int) : Int := (stat l f + stat l (l.length - 1 - f)) / 2
def midOk (l : List Int) (f : Int) : Bool := decide (okN l.length f) && l.all inT
theorem midpoint_eq {l : List Int} {f : Int} (hl : (l.length : Int) ≤ 1000000) : m_clock_Midpoint l f = some (if midOk l f = true then (mid l f, 0) else (0, 2)) := by
  unfold m_clock_Midpoint midOk
  rw [fits_eq (by omega) (by omega), Option.bind_some]
  rw [any_int (p := fun t => !inT t) (fun x _ => by unfold m_clock_Midpoint_1; rw [in_eq]; rfl) (by omega)]
  by_cases hok : okN l.length f
  · have hok' := hok
    rw [decide_eq_true hok]
    simp only [Bool.not_true, Bool.false_eq_true, if_false, Option.bind_some, Bool.true_and]
    have han : l.any (fun t => !inT t) = !l.all inT := by rw [List.all_eq_not_any_not]; simp
    rw [han]
    cases hin : l.all inT
    · simp
    · simp only [Bool.not_true, Bool.false_eq_true, if_false, if_true]
      rw [each_int (f := fun y0 => m_clock_Midpoint_2 y0) (g := fun t => t) (fun _ _ => rfl) (by have := hok'.1; omega) hl, Option.bind_some, List.map_id']
      rw [isort_length, i64_id (x := (l.length : Int) - 1) (by omega), i64_id (x := (l.length : Int) - 1 - f) (by omega)]
      rw [chk_pos ⟨by omega, by omega⟩, chk_pos ⟨by omega, by omega⟩]
      have h1 := stat_mem (l := l) (k := f) (by omega) (by omega)
      have h2 := stat_mem (l := l) (k := l.length - 1 - f) (by omega) (by omega)
      have ha := List.all_eq_true.1 hin
      have b1 := ha _ h1
      have b2 := ha _ h2
      simp only [inT, decide_eq_true_eq] at b1 b2
      unfold stat at b1 b2
      rw [i64_id (by omega)]
      rfl
  · rw [decide_eq_false hok]; rfl
end Go.Proofs.Ytkhiiafgikioiaa

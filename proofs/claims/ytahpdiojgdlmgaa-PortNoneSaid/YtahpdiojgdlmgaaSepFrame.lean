/- A part of this claim's proof: from a walk to a given statement: arguments opened, the state behind the call. No conditions. -/
import Derived.Test.YtahpdiojgdlmgaaSepTail
import Derived.WalkKit
import Derived.ProofKit
import Derived.OpenShut
set_option linter.all false
set_option linter.unusedSectionVars false
namespace Sep
open Go Go.RowKit Go.ChangeShapes Go.WideShapes Go.ChangeAt
variable [Rnd]
section
variable {H : Type} {enc : TypeId × Value → H} {P : Program}
theorem y1N (hl : laidOutB P = true) {W W' : World} (hb : Below W.heap.size W W') : ∀ {ts : List TypeId} {vs : List Value} {ds : List (DataW H)} {p : List MemPlace},
  (∀ t ∈ ts, P.readableRec t = true ∧ t < P.types.size) → DataW.TrodAll enc P W 0 (fun _ => true) true ts vs ds p → (∀ x ∈ p, x.block < W.heap.size) →
  DataW.TrodAll enc P W' 0 (fun b => decide (b < W.heap.size)) true ts vs ds p
 | [], _, _, _, _, h, _ => by obtain ⟨rfl, rfl, rfl⟩ := trodAll_nil h; exact trodAll_mk0
 | t :: ts, _, _, _, hr, h, hlt => by
  obtain ⟨v, vs', d, ds', p, q, rfl, rfl, rfl, h1, h2⟩ := trodAll_cons h
  have ht := hr t (by simp)
  exact trodAll_cons_mk (Below.trod hl ht.1 ht.2 h1 hb (fun x hx => hlt x (List.mem_append_left _ hx)))
   (y1N hl hb (fun t' h' => hr t' (List.mem_cons_of_mem _ h')) h2 (fun x hx => hlt x (List.mem_append_right _ hx)))
theorem y35 {f : Func} {s : ChangeSpec} {fresh : Bool} {W W' : World} {args : Array Value} {ds gs : List (DataW H)} {before : List MemPlace} {tb : TypeId}
  (hl : laidOutB P = true) (hp0 : (f.params.toList.all fun t => P.readableRec t && decide (t < P.types.size)) = true) (hv : s.vars = []) (hrt : f.resultTypes = #[tb]) (hub : P.underlying tb = some .bool)
  (hW : DataW.Whole enc P f.params.toList s.vars false W args.toList ds gs before)
  (hres : gs = [] → (s.fn H (ds ++ gs)).results = [.lit (.bool true)] ∧ (s.fn H (ds ++ gs)).args = ds ∧ (s.fn H (ds ++ gs)).vars = []) (hb : Below W.heap.size W W') :
  s.post enc P f false fresh false false W args (.bool true) W' := by
 have hp : ∀ t ∈ f.params.toList, P.readableRec t = true ∧ t < P.types.size := by
  intro t ht
  have := List.all_eq_true.1 hp0 t ht
  simpa using this
 have hW' := hW
 obtain ⟨p, q, hA, hV, hpq, hfz, hnd⟩ := hW
 have hlt := hW'.lt
 rw [hv] at hV
 obtain ⟨rfl, rfl⟩ := trodVars_none hV
 obtain ⟨h1, h2, h3⟩ := hres rfl
 have hbp : before = p := by simpa using hpq
 subst hbp
 refine ⟨ds, [], before, [], before, [], hW', ?_, ?_, ?_, ?_, fun h => by cases h⟩
 ·rw [h1]
  rw [show f.resultTypes.toList = [tb] by rw [hrt], show (Value.bool true).resultList f.resultTypes.size = [Value.bool true] by rw [hrt]; rfl]
  exact trodAll_mk1 (shut_bool hub _)
 ·rw [h2]; exact y1N hl hb hp hA hlt
 ·rw [h3, hv]; rfl
 ·exact hb.frame _
theorem SlP.all {α : Type} {F : List Nat} {w : World} {v : Value} {sz : Nat} {Pr : List Value → α → Prop} {l : List α} {q : α → Prop} (h : SlP F w v sz Pr l) (hq : ∀ r x, Pr r x → q x) : ∀ x ∈ l, q x := by
 obtain ⟨rows, _, hl, hP⟩ := h
 intro x hx
 obtain ⟨i, hi, rfl⟩ := List.getElem_of_mem hx
 exact hq _ _ (hP i rows[i] l[i] (by simp) (by simp))
end
end Sep

/- A part of this claim's proof: more rules. No conditions. -/
import Derived.Test.YtcahmabkeaijdaaGreatSepOrder
set_option linter.all false
set_option linter.unusedSectionVars false
namespace Sep
open Go Go.RowKit
variable [Rnd]
theorem oc_nil : ∀ u ∈ ([] : List Value), u.oneCell' = true := by simp
theorem yd4 {v : Value} {vs : List Value} (h : v.oneCell' = true) (t : ∀ u ∈ vs, u.oneCell' = true) : ∀ u ∈ v :: vs, u.oneCell' = true := by
 intro u hu
 rcases List.mem_cons.1 hu with rfl | hu
 ·exact h
 ·exact t u hu
theorem y4C {α : Type} {enc : α → List Value} (h : ∀ x, ∀ u ∈ enc x, u.oneCell' = true) (l : List α) : ∀ u ∈ l.flatMap enc, u.oneCell' = true := by
 intro u hu
 obtain ⟨x, _, hx⟩ := List.mem_flatMap.1 hu
 exact h x u hx
section
variable {P : Program} {n : Nat} {F : List Nat} {w₀ : World} {env : List (Nat × Value)} {L Lc Lr R : List Asrt} {ops : Array Oper} {Q : Exit → Act → World → Prop} {rest l : List Oper}
 {dd : Nat} {d : Option Tmp} {ty : TypeId} {pos : String} {after : Array Edge} {g : Option (Nat × Bool)} {x y : Operand} {v u : Value} {t e T : TypeId} {sz by_ : Nat}
theorem y3C {bo : Option Addr} {k capk : Nat} {news : List Value} {sz' : Nat} (hm : Pick L (row (.slice bo k capk) e sz' news) R) : ∀ w, Hp F w₀ w L → news ≠ [] → ∃ A, bo = some A ∧ ∀ j u, news[j]? = some u → w.cell? (A.add j) = some u := by
 intro w h hne
 obtain ⟨b, hb, hc⟩ := h.cellsRow .nil hm hne
 exact ⟨_, hb, hc.2⟩
theorem SlP.cells {α : Type} {enc : α → List Value} {ls : List α} {sz : Nat} {ao : Option Addr} {k cap : Nat} (h : SlP F w₀ (.slice ao k cap) sz (fun r x => r = enc x) ls) (hne : ls.flatMap enc ≠ []) : ∃ A, ao = some A ∧ y1L F w₀ A (ls.flatMap enc) := by
 obtain ⟨rows, ⟨⟨ao', cap', hv, h1, h2, h3⟩, hlen⟩, hl, hP⟩ := h
 injection hv with e1 e2 e3
 subst e1
 have hr : rows = ls.map enc := by
  apply List.ext_getElem? 
  intro i
  rw [List.getElem?_map]
  cases hx : ls[i]? with
  | none =>
   have : rows[i]? = none := by rw [List.getElem?_eq_none_iff] at hx ⊢; omega
   simp [this]
  | some x =>
   have hlt : i < rows.length := by have := (List.getElem?_eq_some_iff.1 hx).1; omega
   have := hP i _ x (List.getElem?_eq_getElem hlt) hx
   rw [List.getElem?_eq_getElem hlt, this]; rfl
 rw [List.flatMap_def, ← hr] at hne ⊢
 exact h3 (by rintro rfl; simp at hne)
theorem WD.nilRow {tl : Nat → Bool} {Ls : List Asrt} {fuel : Nat} {listed : Array Bool} {QD : Act → World → Prop} (e : TypeId) (sz : Nat) (k : WD P n F w₀ ops tl Ls QD fuel listed env (row (.slice none 0 0) e sz [] :: L)) : WD P n F w₀ ops tl Ls QD fuel listed env L := fun a w h => k a w (h.world (h.hp.nilRow e sz))
theorem y2G {b off s : Nat} {cs ds : List Value} (hm : Pick L (stb b T cs) R) (hd : (cs.drop off).take s = ds) : ∀ w, Hp F w₀ w L → ∀ j u, ds[j]? = some u → w.cell? ((⟨b, off, none⟩ : Addr).add j) = some u := by
 subst hd
 refine yd2 hm (fun j u hu => ?_)
 rw [List.getElem?_take] at hu
 split at hu
 ·simpa using hu
 ·cases hu
theorem y6j {ao : Option Addr} {m cap lo hi : Nat} {lx hx' : Option Operand} {lv hv : Option Value} (ht : elT P t e sz by_) (hx : eo env x = some (.slice ao m cap))
  (hl : ∀ a w, SS n F w₀ env L a w → lx.map a.eval = lv) (hh : ∀ a w, SS n F w₀ env L a w → hx'.map a.eval = hv)
  (hlv : match lv with | none => lo = 0 | some (.int _ q) => q = lo | _ => False) (hhv : match hv with | none => hi = m | some (.int _ q) => q = hi | _ => False) (h1 : lo ≤ hi) (h2 : hi ≤ cap) (h3 : hv = none → m ≤ cap) :
  Qt P n F w₀ env L ⟨d, .slice t x lx hx' none, ty, pos, after, g⟩ (.slice (if cap = lo then ao else ao.map (·.add (lo * sz))) (hi - lo) (cap - lo)) := by
 intro a w h
 obtain ⟨inf, z, hi', hz, hsz, _, _⟩ := ht.inf
 have ht' : P.underlying t = some (.slice (P.elem t)) := by simp [Program.elem, ht.sl]
 have e1 : P.elem t = e := by simp [Program.elem, ht.sl]
 have hs : (Go.sizeOf (P.elem t)).run P w = .ok sz w := by simp [Go.sizeOf, typeInfo, e1, hi', hsz]
 simp only [execOp, h.eval hx, hl a w h, hh a w h, Option.map_none]
 rw [Sem.run_bind, run_sliceAt_slice w t _ _ _ _ ht']
 cases lv with
 | none =>
  subst hlv
  cases hv with
  | none => subst hhv; rw [run_slice_all w t ao hi cap ht', hs]; simp [sliced]
  | some q =>
   cases q <;> simp only at hhv
   case int k q => subst hhv; rw [run_slice_h w t ao m cap ht' k _ (by omega) (by omega), hs]; simp [sliced]
 | some p =>
  cases p <;> simp only at hlv
  case int k p =>
   subst hlv
   cases hv with
   | none => subst hhv; rw [run_slice_l w t ao hi cap ht' k _ (by omega) (by omega), hs]; simp [sliced]
   | some q =>
    cases q <;> simp only at hhv
    case int k' q => subst hhv; rw [run_slice_lh w t ao m cap ht' k k' _ _ (by omega) (by omega) (by omega), hs]; simp [sliced]
theorem y1L.call {w : World} {A : Addr} {cs : List Value} (h : y1L F w₀ A cs) (hp : Hp F w₀ w L) (hs : Sel L Lc Lr) (hne : cs ≠ []) : y1L (fps Lc) w A cs := h.at hp hs.fps hne
theorem Hp.keep {w : World} (h : Hp F w₀ w L) : w₀.heap.size ≤ w.heap.size ∧ ∀ k, k < w₀.heap.size → k ∉ F → w.heap[k]? = w₀.heap[k]? := ⟨h.size, h.block⟩
end
end Sep

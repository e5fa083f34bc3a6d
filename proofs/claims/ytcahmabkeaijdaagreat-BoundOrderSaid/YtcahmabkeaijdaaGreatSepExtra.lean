/- A part of this claim's proof: more rules. No conditions. -/
import Derived.Test.YtcahmabkeaijdaaGreatSepCall
set_option linter.all false
set_option linter.unusedSectionVars false
namespace Sep
open Go Go.RowKit
variable [Rnd]
def nth {α : Type} [Inhabited α] (l : List α) (i : Int) : α := l.getD i.toNat default
theorem y66 {α : Type} [Inhabited α] {l : List α} {i : Int} (_h0 : 0 ≤ i) (h : i < l.length) : l[i.toNat]'(by omega) = nth l i := by
 unfold nth; rw [List.getD_eq_getElem?_getD, List.getElem?_eq_getElem (by omega)]; rfl
theorem w64 {m : Int} (h : -9223372036854775808 ≤ m ∧ m ≤ 9223372036854775807) : IntKind.wrap .i64 m = m := by
 rw [IntKind.wrap_i64]; omega
theorem zx {c d : Bool} (h : c = d) : some (Value.bool c) = some (Value.bool d) := by rw [h]
theorem yD {v u : Value} (h : v = u) : Ending.returned (retV [v]) = .returned u := by rw [h]; rfl
theorem y1z {v v' u u' : Value} (h : v = u) (h' : v' = u') : Ending.returned (retV [v, v']) = .returned (.tuple #[u, u']) := by rw [h, h']; rfl
theorem y6Q : Ending.returned (retV []) = .returned (.tuple #[]) := rfl
section
variable {P : Program} {n : Nat} {F : List Nat} {w₀ : World} {env : List (Nat × Value)} {L Lc Lr R : List Asrt} {ops : Array Oper} {Q : Exit → Act → World → Prop} {rest : List Oper}
 {dd : Nat} {d : Option Tmp} {ty : TypeId} {pos : String} {after : Array Edge} {g : Option (Nat × Bool)} {x y : Operand} {v u : Value} {t e T : TypeId} {sz by_ : Nat}
theorem WL.nth {α : Type} [Inhabited α] {Pr : List Value → α → Prop} {l : List α} {ao : Option Addr} {m cap : Nat} {kk : IntKind} {i : Int} (hg : gd env ops ⟨some dd, .indexAddr t x y, ty, pos, after, g⟩ = some true) (hdn : Nat.blt dd n = true)
  (ht : elT P t e sz by_) (hx : eo env x = some (.slice ao m cap)) (hy : eo env y = some (.int kk i)) (hs : SlP F w₀ (.slice ao m cap) sz Pr l) (h0 : 0 ≤ i) (h1 : i < l.length)
  (k : ∀ A r, y1L F w₀ A r → r.length = sz → Pr r (nth l i) → WL P n F w₀ ops Q rest ((dd, .pointer (some A)) :: env) L) :
  WL P n F w₀ ops Q (⟨some dd, .indexAddr t x y, ty, pos, after, g⟩ :: rest) env L := by
 have hl := hs.len
 subst hl
 exact WL.slIndex hg hdn ht hx hy hs h0 (by omega) fun A r h1' h2 h3 => k A r h1' h2 (by rw [← y66 h0 h1]; exact h3)
theorem WD.nth {tl : Nat → Bool} {Ls : List Asrt} {fuel : Nat} {listed : Array Bool} {QD : Act → World → Prop} {j : Nat} {α : Type} [Inhabited α] {Pr : List Value → α → Prop} {l : List α} {ao : Option Addr} {m cap : Nat} {kk : IntKind} {i : Int}
  (hns : y56 ops = true) (hi : ops[j]? = some ⟨some dd, .indexAddr t x y, ty, pos, after, g⟩) (hr : (Region.ready .any ops listed).contains j = true) (hf : y45 ops tl listed j = true)
  (hg : gd env ops ⟨some dd, .indexAddr t x y, ty, pos, after, g⟩ = some true) (hdn : Nat.blt dd n = true)
  (ht : elT P t e sz by_) (hx : eo env x = some (.slice ao m cap)) (hy : eo env y = some (.int kk i)) (hs : SlP F w₀ (.slice ao m cap) sz Pr l) (h0 : 0 ≤ i) (h1 : i < l.length)
  (k : ∀ A r, y1L F w₀ A r → r.length = sz → Pr r (nth l i) → WD P n F w₀ ops tl Ls QD fuel (listed.setIfInBounds j true) ((dd, .pointer (some A)) :: env) L) :
  WD P n F w₀ ops tl Ls QD (fuel + 1) listed env L := by
 have hl := hs.len
 subst hl
 exact WD.slIndex hns hi hr hf hg hdn ht hx hy hs h0 (by omega) fun A r h1' h2 h3 => k A r h1' h2 (by rw [← y66 h0 h1]; exact h3)
theorem WL.cut {G : Type} (φ : G → Prop) (envI : G → List (Nat × Value)) (LI : G → List Asrt) (k : Nat) {l : List Oper}
  (k1 : WL P n F w₀ ops (Exit.then (fun a w => ∃ g, φ g ∧ SS n F w₀ (envI g) (LI g) a w) Q) (l.take k) env L)
  (k2 : ∀ g, φ g → WL P n F w₀ ops Q (l.drop k) (envI g) (LI g)) : WL P n F w₀ ops Q l env L := by
 intro a w h
 have gen : ∀ (l1 l2 : List Oper) (Q' : Exit → Act → World → Prop) a w, (∀ a w, Q' .normal a w → wpListIn FN 0 P ops Q l2 a w) → (∀ e a w, e ≠ .normal → Q' e a w → Q e a w) → wpListIn FN 0 P ops Q' l1 a w → wpListIn FN 0 P ops Q (l1 ++ l2) a w := by
  intro l1
  induction l1 with
  | nil => intro l2 Q' a w h1 _ h; exact h1 a w h
  | cons o l1 ih =>
   intro l2 Q' a w h1 h2 h
   rw [List.cons_append]
   unfold wpListIn at h ⊢
   split
   ·rename_i hw
    simp only [hw, if_true] at h
    refine ⟨h.1, ?_⟩
    have h := h.2
    generalize (o.semAt FN.round a.eval).run P w = r at h ⊢
    cases r with
    | ok x w' =>
     cases x <;> simp only [Oper.uponIn] at h ⊢
     case enter f args =>
      refine ⟨h.1, CallsIn.mono h.2 ?_⟩
      intro e w'' he
      cases e with
      | returned v => exact ih l2 Q' _ _ h1 h2 he
      | panicked c => exact h2 _ _ _ (by simp) he
      | outgrown => obtain ⟨a', w', hq⟩ := he; exact ⟨a', w', h2 _ _ _ (by simp) hq⟩
     case round l f tmps as bo =>
      refine ⟨h.1, RoundIn.mono h.2 ?_⟩
      intro e w'' he
      cases e with
      | returned v => exact ih l2 Q' _ _ h1 h2 he
      | panicked c => exact h2 _ _ _ (by simp) he
      | outgrown => obtain ⟨a', w', hq⟩ := he; exact ⟨a', w', h2 _ _ _ (by simp) hq⟩
     case row r args => exact ⟨h.1, RowsIn.mono h.2 (fun _ _ he => ih l2 Q' _ _ h1 h2 he)⟩
     all_goals exact ih l2 Q' _ _ h1 h2 h
    | halt x w' => cases x <;> simp only [Oper.uponIn] at h ⊢ <;> exact h2 _ _ _ (by simp) h
   ·rename_i hw
    simp only [hw] at h
    exact ⟨h.1, ih l2 Q' _ _ h1 h2 h.2⟩
 have := gen (l.take k) (l.drop k) _ a w (fun a w ⟨g, hφ, hs⟩ => k2 g hφ a w hs) (fun e a w he hq => by cases e <;> first | exact absurd rfl he | exact hq) (k1 a w h)
 rwa [List.take_append_drop] at this
theorem WL.y4d {G : Type} {φ : G → Prop} {envI : G → List (Nat × Value)} {LI : G → List Asrt} {M : List Asrt} (g : G) (hφ : φ g) (hr : Restr env (envI g)) (hL : Sel L (LI g) M) :
  WL P n F w₀ ops (Exit.then (fun a w => ∃ g, φ g ∧ SS n F w₀ (envI g) (LI g) a w) Q) [] env L :=
 fun _ _ h => ⟨g, hφ, (h.restr hr).drop hL⟩
def y29 (n : Nat) (done : List Nat) : Array Bool := done.foldr (fun i a => a.setIfInBounds i true) (Array.replicate n false)
theorem WD.mid {tl : Nat → Bool} {Ls : List Asrt} {fuel fuel' : Nat} {listed : Array Bool} {QD : Act → World → Prop} (env' : List (Nat × Value)) (listed' : Array Bool) (k2 : WD P n F w₀ ops tl Ls QD fuel' listed' env' L)
  (k1 : WD P n F w₀ ops tl Ls QD fuel' listed' env' L → WD P n F w₀ ops tl Ls QD fuel listed env L) : WD P n F w₀ ops tl Ls QD fuel listed env L := k1 k2
/-! rules in the form that the printer uses -/
theorem WL.new {G : Type} {φ : G → Prop} {val : G → Value} {L' : G → List Asrt} {o : Oper} (hg : gd env ops o = some true) (hd : o.dst = some dd) (hdn : Nat.blt dd n = true)
  (hq : EfX P n F w₀ env L o φ val L') (k : ∀ g, φ g → WL P n F w₀ ops Q rest ((dd, val g) :: env) (L' g)) : WL P n F w₀ ops Q (o :: rest) env L := WL.eff hg hd hdn hq.ef k
theorem WD.new {G : Type} {φ : G → Prop} {val : G → Value} {L' : G → List Asrt} {o : Oper} {tl : Nat → Bool} {Ls : List Asrt} {fuel : Nat} {listed : Array Bool} {QD : Act → World → Prop} {i : Nat} (hi : ops[i]? = some o) (hr : Region.ready .any ops listed = [i])
  (hg : gd env ops o = some true) (hd : o.dst = some dd) (hdn : Nat.blt dd n = true)
  (hq : EfX P n F w₀ env L o φ val L') (hst : tl i = true → ∀ g, Sin (L' g) Ls) (k : ∀ g, φ g → WD P n F w₀ ops tl Ls QD fuel (listed.setIfInBounds i true) ((dd, val g) :: env) (L' g)) : WD P n F w₀ ops tl Ls QD (fuel + 1) listed env L :=
 WD.forced hi hr hg hd hdn (fun a w h => let ⟨g, w', h1, h2, h3, h4⟩ := hq a w h; ⟨g, w', h1, h2, h3, fun _ => h4⟩) hst k
theorem WD.old {G : Type} {φ : G → Prop} {val : G → Value} {L' : G → List Asrt} {o : Oper} {tl : Nat → Bool} {Ls : List Asrt} {fuel : Nat} {listed : Array Bool} {QD : Act → World → Prop} {i : Nat} (hi : ops[i]? = some o) (hr : Region.ready .any ops listed = [i])
  (hg : gd env ops o = some true) (hd : o.dst = some dd) (hdn : Nat.blt dd n = true) (ht : tl i = true) (hst : ∀ g, Sin (L' g) Ls)
  (hq : Ef P n F w₀ env L o φ val L') (k : ∀ g, φ g → WD P n F w₀ ops tl Ls QD fuel (listed.setIfInBounds i true) ((dd, val g) :: env) (L' g)) : WD P n F w₀ ops tl Ls QD (fuel + 1) listed env L :=
 WD.forced hi hr hg hd hdn (fun a w h => let ⟨g, w', h1, h2, h3⟩ := hq a w h; ⟨g, w', h1, h2, h3, fun hf => by rw [ht] at hf; cases hf⟩) (fun _ => hst) k
theorem Eos.parts {l : List Operand} {vs : List Value} (he : Eos env l vs) (is : List Nat) : ∀ a w, SS n F w₀ env L a w → ((is.zip l).toArray.map fun (i, x) => (i, a.eval x)) = (is.zip vs).toArray := by
 intro a w h
 simp only [List.map_toArray]
 congr 1
 induction he generalizing is with
 | nil => simp
 | cons hx _ ih =>
  cases is with
  | nil => simp
  | cons i is => simp only [List.zip_cons_cons, List.map_cons, h.eval hx, ih is]
theorem Eos.caps {l : List Operand} {vs : List Value} (he : Eos env l vs) : ∀ a w, SS n F w₀ env L a w → l.toArray.map a.eval = vs.toArray := by
 intro a w h
 rw [List.map_toArray, he.map h]
end
end Sep

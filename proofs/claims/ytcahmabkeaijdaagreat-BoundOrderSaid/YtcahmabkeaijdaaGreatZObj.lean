/- A part of this claim's proof: models of functions, walks, plain laws. No conditions. -/
import Derived.Test.YtcahmabkeaijdaaGreatZKey
import Derived.Test.YtcahmabkeaijdaaGreatZVar
namespace Sep
open Go Go.RowKit
set_option linter.all false
/-! ### maps of owned objects: the map holds pointers, the objects lie beside it -/
section y4w
variable {κ β α γ : Type} [DecidableEq κ]
def dat (lg : List (κ × ((Nat × β) × α))) : List (κ × α) := lg.map fun p => (p.1, p.2.2)
def y7h (k : κ) : List (κ × γ) → List (κ × γ)
 | [] => []
 | p :: l => if k = p.1 then l else p :: y7h k l
def y4w (els : Nat × β → α → List Asrt) (lg : List (κ × ((Nat × β) × α))) : Asrt := y1G (lg.flatMap fun p => els p.2.1 p.2.2)
theorem yc4 (k : κ) (v : γ) : ∀ lg : List (κ × γ), (yG lg k v).Perm ((k, v) :: y7h k lg)
 | [] => .refl _
 | p :: l => by
  unfold yG y7h
  by_cases hk : k = p.1
  ·subst hk; simp only [if_true]; exact .refl _
  ·simp only [hk, if_false]
   exact ((yc4 k v l).cons p).trans (.swap _ _ _)
theorem yan (k : κ) : ∀ lg : List (κ × γ), y2w lg k = true → ∃ v, (∀ d, yp lg k d = v) ∧ lg.Perm ((k, v) :: y7h k lg)
 | [], h => by simp [y2w] at h
 | p :: l, h => by
  unfold y2w at h
  unfold y7h
  by_cases hk : k = p.1
  ·subst hk; exact ⟨p.2, fun d => by simp [yp], by simp⟩
  ·simp only [hk, if_false] at h ⊢
   obtain ⟨v, h1, h2⟩ := yan k l h
   exact ⟨v, fun d => by unfold yp; simp [hk, h1 d], (h2.cons p).trans (.swap _ _ _)⟩
theorem dat_mput {lg : List (κ × ((Nat × β) × α))} {l : List (κ × α)} (h : dat lg = l) (k : κ) (g : Nat × β) (x : α) : dat (yG lg k (g, x)) = yG l k x := by
 subst h
 induction lg with
 | nil => rfl
 | cons p l ih =>
  unfold dat at ih ⊢
  rw [List.map_cons]
  unfold yG
  by_cases hk : k = p.1
  ·simp [hk]
  ·simp only [hk, if_false, List.map_cons, ih]
theorem mget_dat {lg : List (κ × ((Nat × β) × α))} (k : κ) (d : α) (g : Nat × β) : yp (dat lg) k d = (yp lg k (g, d)).2 := by
 induction lg with
 | nil => rfl
 | cons p l ih => unfold dat at ih ⊢; rw [List.map_cons]; unfold yp; by_cases hk : k = p.1 <;> simp [hk, ih]
section hp
variable {F : List Nat} {w₀ w : World} {L R R' : List Asrt} {els : Nat × β → α → List Asrt} {lg : List (κ × ((Nat × β) × α))} {l : List (κ × α)}
theorem Hp.ydt (els : Nat × β → α → List Asrt) (h : Hp F w₀ w L) : Hp F w₀ w (y4w (κ := κ) els [] :: L) := Hp.y8R (M := []) h
theorem yao {δ : Type} {f : δ → List Asrt} {a b : List δ} (h : a.Perm b) : (a.flatMap f).Perm (b.flatMap f) := List.Perm.flatMap_right f h
theorem Hp.yap {k : κ} {b : Nat} {g : β} {x : α} (hs : Sel L (els (b, g) x ++ [y4w els (y7h k lg)]) R) (h : Hp F w₀ w L) : Hp F w₀ w (y4w els (yG lg k ((b, g), x)) :: R) := by
 have h1 := (h.selAll hs).open_
 have h2 : Hp F w₀ w (y4w els (y7h k lg) :: (els (b, g) x ++ R)) := h1.perm (by
  rw [List.append_assoc]; exact List.perm_middle)
 have h3 := Hp.open_ h2
 refine Hp.y8R (h3.perm ?_)
 refine List.Perm.trans ?_ ((yao (f := fun p : κ × ((Nat × β) × α) => els p.2.1 p.2.2) (yc4 k ((b, g), x) lg).symm).append_right R)
 rw [List.flatMap_cons, List.append_assoc]
 rw [← List.append_assoc, ← List.append_assoc]
 exact List.perm_append_comm.append_right R
end hp
end y4w
theorem yaq {κ γ : Type} [DecidableEq κ] {k : κ} {v d : γ} : ∀ {l : List (κ × γ)}, y2w l k = true → yp l k d = v → yG l k v = l
 | [], h, _ => by simp [y2w] at h
 | p :: l, h, hv => by
  unfold y2w at h
  unfold yp at hv
  unfold yG
  by_cases hk : k = p.1
  ·subst hk; simp only [if_true] at hv ⊢; subst hv; rfl
  ·simp only [hk, if_false] at h hv ⊢; rw [yaq h hv]
theorem Hp.reMap {κ α : Type} {F : List Nat} {w₀ w : World} {L R : List Asrt} {b : Nat} {ek : κ → Value} {ev : α → Value} {l l' : List (κ × α)} (hm : Pick L (yr b ek ev l) R) (he : l = l') (h : Hp F w₀ w L) : Hp F w₀ w (yr b ek ev l' :: R) := by
 subst he; exact h.front hm
section gh
variable [Rnd]
variable {P : Program} {n : Nat} {F : List Nat} {w₀ : World} {env : List (Nat × Value)} {L R : List Asrt} {ops : Array Oper} {Q : Exit → Act → World → Prop} {l : List Oper} {G : Type} {φ : G → Prop} {L' : G → List Asrt} {M : List Asrt}
theorem WL.gh (h : ∀ w, Hp F w₀ w L → ∃ g, φ g ∧ Hp F w₀ w (L' g)) (k : ∀ g, φ g → WL P n F w₀ ops Q l env (L' g)) : WL P n F w₀ ops Q l env L := fun a w hs => by
 obtain ⟨g, h1, h2⟩ := h w hs.hp; exact k g h1 a w (hs.world h2)
theorem WL.ghL (h : ∀ w, Hp F w₀ w L → Hp F w₀ w M) (k : WL P n F w₀ ops Q l env M) : WL P n F w₀ ops Q l env L := fun a w hs => k a w (hs.world (h w hs.hp))
theorem WC.ghL {c : Code} (h : ∀ w, Hp F w₀ w L → Hp F w₀ w M) (k : WC P n F w₀ Q c env M) : WC P n F w₀ Q c env L := fun a w hs => k a w (hs.world (h w hs.hp))
theorem WX.ghL {e : Exit} (h : ∀ w, Hp F w₀ w L → Hp F w₀ w M) (k : WX n F w₀ Q e env M) : WX n F w₀ Q e env L := fun a w hs => k a w (hs.world (h w hs.hp))
variable {tl : Nat → Bool} {Ls : List Asrt} {fuel : Nat} {listed : Array Bool} {QD : Act → World → Prop}
theorem WD.gh (h : ∀ w, Hp F w₀ w L → ∃ g, φ g ∧ Hp F w₀ w (L' g)) (k : ∀ g, φ g → WD P n F w₀ ops tl Ls QD fuel listed env (L' g)) : WD P n F w₀ ops tl Ls QD fuel listed env L := fun a w hs => by
 obtain ⟨g, h1, h2⟩ := h w hs.hp; exact k g h1 a w (hs.world h2)
theorem WD.ghL (h : ∀ w, Hp F w₀ w L → Hp F w₀ w M) (k : WD P n F w₀ ops tl Ls QD fuel listed env M) : WD P n F w₀ ops tl Ls QD fuel listed env L := fun a w hs => k a w (hs.world (h w hs.hp))
end gh
/-! ### interface values -/
section ifc
variable [Rnd]
variable {P : Program} {n : Nat} {F : List Nat} {w₀ : World} {env : List (Nat × Value)} {L R : List Asrt} {d : Option Tmp} {ty : TypeId} {pos : String} {after : Array Edge} {g : Option (Nat × Bool)} {x y : Operand} {v : Value} {t e T : TypeId}
end ifc
end Sep

/- A part of this claim's proof: models of functions, walks, plain laws. No conditions. -/
import Derived.Test.YtcahmabkeaijdaaGreatZObj
namespace Sep
open Go Go.RowKit
set_option linter.all false
/-! ### maps of slices that are appended to: each value owns its row -/
section
variable {κ α : Type} [DecidableEq κ]
def slv (p : (Option Addr × Nat) × List α) : Value := .slice p.1.1 p.2.length p.1.2
def y5O (lg : List (κ × ((Nat × (Option Addr × Nat)) × List α))) : List (κ × ((Option Addr × Nat) × List α)) := lg.map fun p => (p.1, (p.2.1.2, p.2.2))
def y4x (e : TypeId) (sz : Nat) (enc : α → List Value) (g : Nat × (Option Addr × Nat)) (x : List α) : List Asrt := [row (.slice g.2.1 x.length g.2.2) e sz (x.flatMap enc)]
variable {lg : List (κ × ((Nat × (Option Addr × Nat)) × List α))} {l : List (κ × List α)}
theorem yc8 (k : κ) (g : Nat × (Option Addr × Nat)) (x : List α) : ∀ lg : List (κ × ((Nat × (Option Addr × Nat)) × List α)), y5O (yG lg k (g, x)) = yG (y5O lg) k (g.2, x)
 | [] => rfl
 | p :: lg => by
  unfold yG y5O
  by_cases h : k = p.1
  ·simp [h]
  ·have := yc8 k g x lg
   unfold y5O at this
   simp [h, this]
theorem yar (k : κ) : ∀ lg : List (κ × ((Nat × (Option Addr × Nat)) × List α)), yp (y5O lg) k ((none, 0), []) = ((yp lg k ((0, (none, 0)), [])).1.2, (yp lg k ((0, (none, 0)), [])).2)
 | [] => rfl
 | p :: lg => by
  have ih := yar k lg
  unfold y5O at ih ⊢
  rw [List.map_cons]
  unfold yp
  by_cases h : k = p.1
  ·simp [h]
  ·simp only [h, if_false]; exact ih
theorem ybI {γ : Type} {k : κ} {d : γ} : ∀ {lg : List (κ × γ)}, y2w lg k = false → yp lg k d = d ∧ y7h k lg = lg
 | [], _ => ⟨rfl, rfl⟩
 | p :: lg, h => by
  unfold y2w at h
  by_cases e : k = p.1
  ·simp [e] at h
  ·simp only [e, if_false] at h
   obtain ⟨h1, h2⟩ := ybI (d := d) h
   unfold yp y7h
   simp only [e, if_false]
   exact ⟨h1, by rw [h2]⟩
variable {F : List Nat} {w₀ w : World} {L R R' : List Asrt} {e : TypeId} {sz : Nat} {enc : α → List Value}
theorem Hp.yas (k : κ) (hm : dat lg = l) (hp : Pick L (y4w (y4x e sz enc) lg) R) (h : Hp F w₀ w L) :
  ∃ g : Option Addr × Nat, yp (y5O lg) k ((none, 0), []) = (g, yp l k []) ∧ Hp F w₀ w (row (.slice g.1 (yp l k []).length g.2) e sz ((yp l k []).flatMap enc) :: y4w (y4x e sz enc) (y7h k lg) :: R) := by
 subst hm
 rw [yar, mget_dat k [] (0, (none, 0))]
 refine ⟨(yp lg k ((0, (none, 0)), [])).1.2, rfl, ?_⟩
 by_cases hk : y2w lg k = true
 ·obtain ⟨v, h1, h2⟩ := yan k lg hk
  rw [h1]
  have h4 := h.pickAll hp
  have h5 := h4.perm ((yao (f := fun p : κ × ((Nat × (Option Addr × Nat)) × List α) => y4x e sz enc p.2.1 p.2.2) h2).append_right R)
  rw [List.flatMap_cons, List.append_assoc] at h5
  have h6 : Hp F w₀ w (((y7h k lg).flatMap fun p => y4x e sz enc p.2.1 p.2.2) ++ (y4x e sz enc v.1 v.2 ++ R)) := h5.perm (by
   rw [← List.append_assoc, ← List.append_assoc]; exact List.perm_append_comm.append_right R)
  have h7 := Hp.y8R h6
  exact h7.perm List.perm_middle.symm
 ·have hk' : y2w lg k = false := by simpa using hk
  obtain ⟨h1, h2⟩ := ybI (d := (((0, (none, 0)), []) : (Nat × (Option Addr × Nat)) × List α)) hk'
  rw [h1, h2]
  exact (h.nilRow e sz).perm (((hp.perm).cons _))
theorem Hp.ydw {k : κ} {ao : Option Addr} {cap : Nat} {x : List α} (hs : Sel L [row (.slice ao x.length cap) e sz (x.flatMap enc), y4w (y4x e sz enc) (y7h k lg)] R) (h : Hp F w₀ w L) :
  Hp F w₀ w (y4w (y4x e sz enc) (yG lg k ((0, (ao, cap)), x)) :: R) :=
 Hp.yap (els := y4x e sz enc) (b := 0) (g := (ao, cap)) hs h
theorem Sel.skip {β : Type} {y : β} : ∀ {L L' M : List β}, Sel L L' M → Sel (y :: L) L' (y :: M)
 | _, _, _, .nil => .nil
 | _, _, _, .cons h t => .cons (.there h) (Sel.skip t)
theorem Hp.yc9 {k : κ} {g : Option Addr × Nat} (hm : dat lg = l) (hp : yp (y5O lg) k ((none, 0), []) = (g, yp l k [])) (hs : Sel L [row (.slice g.1 (yp l k []).length g.2) e sz ((yp l k []).flatMap enc), y4w (y4x e sz enc) (y7h k lg)] R) (h : Hp F w₀ w L) :
  Hp F w₀ w (y4w (y4x e sz enc) lg :: R) := by
 by_cases hk : y2w lg k = true
 ·obtain ⟨v, h1, h2⟩ := yan k lg hk
  rw [yar, h1] at hp
  have e1 : v.1.2 = g := congrArg Prod.fst hp
  have e2 : v.2 = yp l k [] := congrArg Prod.snd hp
  have h3 := Hp.yap (lg := lg) (k := k) (els := y4x e sz enc) (b := v.1.1) (g := g) (x := yp l k []) hs h
  rwa [show yG lg k ((v.1.1, g), yp l k []) = lg from yaq (d := v) hk (by rw [h1, ← e1, ← e2])] at h3
 ·have hk' : y2w lg k = false := by simpa using hk
  rw [(ybI (d := (((0, (none, 0)), []) : (Nat × (Option Addr × Nat)) × List α)) hk').2] at hs
  have h1 := Hp.open_ (h.selAll hs)
  exact h1.sub (.cons (.there .here) (Sel.skip .all))
end
section
variable [Rnd] {P : Program} {n : Nat} {F : List Nat} {w₀ : World} {ops : Array Oper} {tl : Nat → Bool} {Ls : List Asrt} {fuel : Nat} {listed : Array Bool} {Q : Act → World → Prop} {env : List (Nat × Value)} {L L' : List Asrt} {o : Oper}
theorem WD.ydx {i : Nat} (hi : ops[i]? = some o) (hr : Region.ready .any ops listed = [i]) (hg : gd env ops o = some true) (hd : o.dst = none) (ht : tl i = true) (hst : Sin L' Ls) (hq : Ef0 P n F w₀ env L o L')
  (k : WD P n F w₀ ops tl Ls Q fuel (listed.setIfInBounds i true) env L') : WD P n F w₀ ops tl Ls Q (fuel + 1) listed env L := WD.forced0 hi hr hg hd ht hst hq k
end
theorem y9A {F : List Nat} {w₀ : World} {L R : List Asrt} {b off : Nat} {T : TypeId} {ks : List (Nat × Value)} {u v : Value} (hm : Pick L (y6D b T ks) R) (hu : (off, u) ∈ ks) (hv : (off + 1, v) ∈ ks) :
  ∀ w, Hp F w₀ w L → ∀ j x, [u, v][j]? = some x → w.cell? (Addr.add ⟨b, off, none⟩ j) = some x := by
 intro w h j x hx
 match j, hx with
 | 0, hx =>
  have e : Addr.add ⟨b, off, none⟩ 0 = ⟨b, off, none⟩ := by simp [Addr.add]
  rw [e, y4g hm hu w h]; simpa using hx
 | 1, hx =>
  have e : Addr.add ⟨b, off, none⟩ 1 = ⟨b, off + 1, none⟩ := by simp [Addr.add]
  rw [e, y4g hm hv w h]; simpa using hx
 | j + 2, hx => simp at hx
end Sep

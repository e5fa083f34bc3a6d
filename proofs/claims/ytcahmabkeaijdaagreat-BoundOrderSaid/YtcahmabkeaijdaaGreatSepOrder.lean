/- A part of this claim's proof: several operations of a region that could come next. No conditions. -/
import Derived.Test.YtcahmabkeaijdaaGreatSepVarB
set_option linter.all false
set_option linter.unusedSectionVars false
namespace Sep
open Go Go.RowKit
variable [Rnd]
def WDo (P : Program) (n : Nat) (F : List Nat) (w₀ : World) (ops : Array Oper) (tl : Nat → Bool) (Ls : List Asrt) (Q : Act → World → Prop) (fuel : Nat) (listed : Array Bool)
  (env : List (Nat × Value)) (L : List Asrt) (i : Nat) : Prop :=
 ∀ a w, SS n F w₀ env L a w → ∀ w', Ext w w' → opN P ops i (fun a' w'' => ((tl i = false → Ext w' w'') ∧ (finB ops i = false → Hp F w₀ w' Ls → Hp F w₀ w'' Ls)) ∧ y41 P ops tl (fun w => Hp F w₀ w Ls) Q fuel (listed.setIfInBounds i true) a' w'') a w'
section
variable {P : Program} {n : Nat} {F : List Nat} {w₀ : World} {ops : Array Oper} {tl : Nat → Bool} {Ls : List Asrt} {fuel : Nat} {listed : Array Bool}
 {env : List (Nat × Value)} {L Lc Lr R : List Asrt} {o : Oper} {Q : Act → World → Prop} {dd : Nat}
theorem WDo.nil : ∀ i ∈ ([] : List Nat), WDo P n F w₀ ops tl Ls Q fuel listed env L i := fun _ h => (by cases h)
theorem WDo.cons {j : Nat} {is : List Nat} (h : WDo P n F w₀ ops tl Ls Q fuel listed env L j) (hs : ∀ i ∈ is, WDo P n F w₀ ops tl Ls Q fuel listed env L i) : ∀ i ∈ j :: is, WDo P n F w₀ ops tl Ls Q fuel listed env L i := by
 intro i hi
 rcases List.mem_cons.1 hi with rfl | hi
 ·exact h
 ·exact hs i hi
theorem WD.choose (is : List Nat) (hr : Region.ready .any ops listed = is) (hne : is.isEmpty = false) (k : ∀ i ∈ is, WDo P n F w₀ ops tl Ls Q fuel listed env L i) : WD P n F w₀ ops tl Ls Q (fuel + 1) listed env L := by
 intro a w h w' e
 rw [hr]
 refine ⟨fun h0 => (by rw [h0] at hne; cases hne), fun j hj => k j hj a w h w' e⟩
theorem WDo.forced {G : Type} {φ : G → Prop} {val : G → Value} {L' : G → List Asrt} {d i : Nat} (hi : ops[i]? = some o)
  (hg : gd env ops o = some true) (hd : o.dst = some d) (hdn : Nat.blt d n = true)
  (hq : ∀ a w, SS n F w₀ env L a w → ∃ g w', (execOp a.eval o).run P w = .ok (.value (val g)) w' ∧ φ g ∧ Hp F w₀ w' (L' g) ∧ (tl i = false → Ext w w'))
  (hst : tl i = true → ∀ g, Sin (L' g) Ls)
  (k : ∀ g, φ g → WD P n F w₀ ops tl Ls Q fuel (listed.setIfInBounds i true) ((d, val g) :: env) (L' g)) : WDo P n F w₀ ops tl Ls Q fuel listed env L i := by
 intro a w h w' e
 have h' := h.world (h.hp.ext e)
 obtain ⟨g, w'', hrun, hφ, hp, hx⟩ := hq a w' h'
 unfold opN
 simp only [hi, y2o h' hg, if_true, hrun, Oper.y1f, hd]
 refine ⟨⟨hx, fun _ h0 => ?_⟩, k g hφ _ _ (h'.put hdn _ hp)⟩
 cases ht : tl i with
 | false => exact h0.ext (hx ht)
 | true => exact (hst ht g).hp hp
theorem WDo.forced0 {L' : List Asrt} {i : Nat} (hi : ops[i]? = some o)
  (hg : gd env ops o = some true) (hd : o.dst = none) (ht : tl i = true) (hst : Sin L' Ls)
  (hq : ∀ a w, SS n F w₀ env L a w → ∃ w', y93 P o a w w' ∧ Hp F w₀ w' L')
  (k : WD P n F w₀ ops tl Ls Q fuel (listed.setIfInBounds i true) env L') : WDo P n F w₀ ops tl Ls Q fuel listed env L i := by
 intro a w h w' e
 have h' := h.world (h.hp.ext e)
 obtain ⟨w'', hrun, hp⟩ := hq a w' h'
 unfold opN
 rcases hrun with hrun | ⟨v, hrun⟩
 ·simp only [hi, y2o h' hg, if_true, hrun, Oper.y1f, hd]
  exact ⟨⟨fun hf => (by rw [ht] at hf; cases hf), fun _ _ => hst.hp hp⟩, k _ _ (h'.world hp)⟩
 ·simp only [hi, y2o h' hg, if_true, hrun, Oper.y1f, hd]
  exact ⟨⟨fun hf => (by rw [ht] at hf; cases hf), fun _ _ => hst.hp hp⟩, k _ _ (h'.world hp)⟩
theorem WDo.forcedCall {G : Type} {φ : G → Prop} {val : G → Value} {M : G → List Asrt} {f : FuncId} {vs : Array Value} {Lc Lr : List Asrt} {d i : Nat} (hi : ops[i]? = some o)
  (hg : gd env ops o = some true) (hd : o.dst = some d) (hdn : Nat.blt d n = true) (ht : (tl i = true ∧ ∀ g, Sin (M g ++ Lr) Ls) ∨ Lc = [])
  (hrun : ∀ a w, SS n F w₀ env L a w → (execOp a.eval o).run P w = .ok (.enter f vs) w)
  (hs : Sel L Lc Lr)
  (hc : ∀ w, Hp F w₀ w L → Calls P f vs w fun e w' => ∃ g, e = .returned (val g) ∧ φ g ∧ Hp (Lc.flatMap (·.fp)) w w' (M g))
  (k : ∀ g, φ g → WD P n F w₀ ops tl Ls Q fuel (listed.setIfInBounds i true) ((d, val g) :: env) (M g ++ Lr)) : WDo P n F w₀ ops tl Ls Q fuel listed env L i := by
 intro a w h w' e
 have h' := h.world (h.hp.ext e)
 unfold opN
 simp only [hi, y2o h' hg, if_true, hrun a w' h', Oper.y1f, hd]
 refine (hc w' h'.hp).mono ?_
 rintro e' w'' ⟨g, rfl, hφ, hp⟩
 have hnew := h'.hp.call hs hp
 refine ⟨_, rfl, ⟨fun hf => ?_, fun _ h0 => ?_⟩, k g hφ _ _ (h'.put hdn _ hnew)⟩
 ·rcases ht with ht | rfl
  ·rw [ht.1] at hf; cases hf
  ·exact hp.toExt
 ·rcases ht with ht | rfl
  ·exact (ht.2 g).hp hnew
  ·exact h0.ext hp.toExt
theorem WDo.new {G : Type} {φ : G → Prop} {val : G → Value} {L' : G → List Asrt} {o : Oper} {tl : Nat → Bool} {Ls : List Asrt} {fuel : Nat} {listed : Array Bool} {QD : Act → World → Prop} {i : Nat} (hi : ops[i]? = some o)
  (hg : gd env ops o = some true) (hd : o.dst = some dd) (hdn : Nat.blt dd n = true)
  (hq : EfX P n F w₀ env L o φ val L') (hst : tl i = true → ∀ g, Sin (L' g) Ls) (k : ∀ g, φ g → WD P n F w₀ ops tl Ls QD fuel (listed.setIfInBounds i true) ((dd, val g) :: env) (L' g)) : WDo P n F w₀ ops tl Ls QD fuel listed env L i :=
 WDo.forced hi hg hd hdn (fun a w h => let ⟨g, w', h1, h2, h3, h4⟩ := hq a w h; ⟨g, w', h1, h2, h3, fun _ => h4⟩) hst k
theorem WDo.old {G : Type} {φ : G → Prop} {val : G → Value} {L' : G → List Asrt} {o : Oper} {tl : Nat → Bool} {Ls : List Asrt} {fuel : Nat} {listed : Array Bool} {QD : Act → World → Prop} {i : Nat} (hi : ops[i]? = some o)
  (hg : gd env ops o = some true) (hd : o.dst = some dd) (hdn : Nat.blt dd n = true) (ht : tl i = true) (hst : ∀ g, Sin (L' g) Ls)
  (hq : Ef P n F w₀ env L o φ val L') (k : ∀ g, φ g → WD P n F w₀ ops tl Ls QD fuel (listed.setIfInBounds i true) ((dd, val g) :: env) (L' g)) : WDo P n F w₀ ops tl Ls QD fuel listed env L i :=
 WDo.forced hi hg hd hdn (fun a w h => let ⟨g, w', h1, h2, h3⟩ := hq a w h; ⟨g, w', h1, h2, h3, fun hf => by rw [ht] at hf; cases hf⟩) (fun _ => hst) k
theorem WDo.call0 {o : Oper} {tl : Nat → Bool} {Ls : List Asrt} {fuel : Nat} {listed : Array Bool} {QD : Act → World → Prop} {i : Nat} {φ : Prop} {val : Value} {M : List Asrt} {f : FuncId} {vs : Array Value}
  (hi : ops[i]? = some o) (hg : gd env ops o = some true) (hd : o.dst = some dd) (hdn : Nat.blt dd n = true) (ht : (tl i = true ∧ (Sin (M ++ Lr) Ls)) ∨ Lc = [])
  (hrun : ∀ a w, SS n F w₀ env L a w → (execOp a.eval o).run P w = .ok (.enter f vs) w) (hs : Sel L Lc Lr)
  (hc : ∀ w, Hp F w₀ w L → Calls P f vs w fun e w' => e = .returned val ∧ φ ∧ Hp (fps Lc) w w' M)
  (k : φ → WD P n F w₀ ops tl Ls QD fuel (listed.setIfInBounds i true) ((dd, val) :: env) (M ++ Lr)) : WDo P n F w₀ ops tl Ls QD fuel listed env L i :=
 WDo.forcedCall (G := Unit) (φ := fun _ => φ) (val := fun _ => val) (M := fun _ => M) hi hg hd hdn (ht.imp (fun h => ⟨h.1, fun _ => h.2⟩) id) hrun hs
  (fun w h => (hc w h).mono fun e w' => by rintro ⟨h1, h2, h3⟩; exact ⟨(), h1, h2, h3⟩) (fun _ h => k  h)
theorem WDo.call1 {A0 : Type} {o : Oper} {tl : Nat → Bool} {Ls : List Asrt} {fuel : Nat} {listed : Array Bool} {QD : Act → World → Prop} {i : Nat} {φ : A0 → Prop} {val : A0 → Value} {M : A0 → List Asrt} {f : FuncId} {vs : Array Value}
  (hi : ops[i]? = some o) (hg : gd env ops o = some true) (hd : o.dst = some dd) (hdn : Nat.blt dd n = true) (ht : (tl i = true ∧ (∀ x0, Sin ((M x0) ++ Lr) Ls)) ∨ Lc = [])
  (hrun : ∀ a w, SS n F w₀ env L a w → (execOp a.eval o).run P w = .ok (.enter f vs) w) (hs : Sel L Lc Lr)
  (hc : ∀ w, Hp F w₀ w L → Calls P f vs w fun e w' => ∃ x0, e = .returned (val x0) ∧ (φ x0) ∧ Hp (fps Lc) w w' (M x0))
  (k : ∀ x0, (φ x0) → WD P n F w₀ ops tl Ls QD fuel (listed.setIfInBounds i true) ((dd, (val x0)) :: env) ((M x0) ++ Lr)) : WDo P n F w₀ ops tl Ls QD fuel listed env L i :=
 WDo.forcedCall (G := A0) (φ := fun g => (φ g)) (val := fun g => (val g)) (M := fun g => (M g)) hi hg hd hdn (ht.imp (fun h => ⟨h.1, fun g => h.2 g⟩) id) hrun hs
  (fun w h => (hc w h).mono fun e w' => by rintro ⟨x0, h1, h2, h3⟩; exact ⟨x0, h1, h2, h3⟩) (fun g h => k g h)
theorem WDo.call2 {A0 A1 : Type} {o : Oper} {tl : Nat → Bool} {Ls : List Asrt} {fuel : Nat} {listed : Array Bool} {QD : Act → World → Prop} {i : Nat} {φ : A0 → A1 → Prop} {val : A0 → A1 → Value} {M : A0 → A1 → List Asrt} {f : FuncId} {vs : Array Value}
  (hi : ops[i]? = some o) (hg : gd env ops o = some true) (hd : o.dst = some dd) (hdn : Nat.blt dd n = true) (ht : (tl i = true ∧ (∀ x0 x1, Sin ((M x0 x1) ++ Lr) Ls)) ∨ Lc = [])
  (hrun : ∀ a w, SS n F w₀ env L a w → (execOp a.eval o).run P w = .ok (.enter f vs) w) (hs : Sel L Lc Lr)
  (hc : ∀ w, Hp F w₀ w L → Calls P f vs w fun e w' => ∃ x0 x1, e = .returned (val x0 x1) ∧ (φ x0 x1) ∧ Hp (fps Lc) w w' (M x0 x1))
  (k : ∀ x0 x1, (φ x0 x1) → WD P n F w₀ ops tl Ls QD fuel (listed.setIfInBounds i true) ((dd, (val x0 x1)) :: env) ((M x0 x1) ++ Lr)) : WDo P n F w₀ ops tl Ls QD fuel listed env L i :=
 WDo.forcedCall (G := A0 × A1) (φ := fun g => (φ g.1 g.2)) (val := fun g => (val g.1 g.2)) (M := fun g => (M g.1 g.2)) hi hg hd hdn (ht.imp (fun h => ⟨h.1, fun g => h.2 g.1 g.2⟩) id) hrun hs
  (fun w h => (hc w h).mono fun e w' => by rintro ⟨x0, x1, h1, h2, h3⟩; exact ⟨⟨x0, x1⟩, h1, h2, h3⟩) (fun g h => k g.1 g.2 h)
theorem WD.reL {L' M : List Asrt} {env' : List (Nat × Value)} (hs : Sel L L' M) (hr : Restr env env') (k : WD P n F w₀ ops tl Ls Q fuel listed env' L') : WD P n F w₀ ops tl Ls Q fuel listed env L :=
 fun a w h => k a w ((h.restr hr).drop hs)
theorem WD.ycr {A0 : Type} {fuel' : Nat} (env1 : A0 → List (Nat × Value)) (L1 : A0 → List Asrt) (φ : A0 → Prop) (listed' : Array Bool) (k2 : ∀ x0, (φ x0) → WD P n F w₀ ops tl Ls Q fuel' listed' (env1 x0) (L1 x0))
  (k1 : (∀ x0, (φ x0) → WD P n F w₀ ops tl Ls Q fuel' listed' (env1 x0) (L1 x0)) → WD P n F w₀ ops tl Ls Q fuel listed env L) : WD P n F w₀ ops tl Ls Q fuel listed env L := k1 k2
theorem WD.yb5 {A0 A1 : Type} {fuel' : Nat} (env1 : A0 → A1 → List (Nat × Value)) (L1 : A0 → A1 → List Asrt) (φ : A0 → A1 → Prop) (listed' : Array Bool) (k2 : ∀ x0 x1, (φ x0 x1) → WD P n F w₀ ops tl Ls Q fuel' listed' (env1 x0 x1) (L1 x0 x1))
  (k1 : (∀ x0 x1, (φ x0 x1) → WD P n F w₀ ops tl Ls Q fuel' listed' (env1 x0 x1) (L1 x0 x1)) → WD P n F w₀ ops tl Ls Q fuel listed env L) : WD P n F w₀ ops tl Ls Q fuel listed env L := k1 k2
end
end Sep

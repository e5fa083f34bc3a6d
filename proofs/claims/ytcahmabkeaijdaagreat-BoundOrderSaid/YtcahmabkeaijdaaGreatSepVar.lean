/- A part of this claim's proof: the rules at up to ten ghosts. No conditions. -/
import Derived.Test.YtcahmabkeaijdaaGreatSepExtra
set_option linter.all false
set_option linter.unusedSectionVars false
namespace Sep
open Go Go.RowKit
variable [Rnd]
theorem y67 {b c : Bool} (h : b = true) : true = (b || c) := by rw [h]; rfl
theorem y68 {b c : Bool} (h : b = false) : c = (b || c) := by rw [h]; rfl
theorem y2b {b c : Bool} (h : b = false) : false = (b && c) := by rw [h]; rfl
theorem y2c {b c : Bool} (h : b = true) : c = (b && c) := by rw [h]; rfl
section
variable {P : Program} {n : Nat} {F : List Nat} {w₀ : World} {env : List (Nat × Value)} {L Lc Lr R : List Asrt} {ops : Array Oper} {Q : Exit → Act → World → Prop} {rest : List Oper} {dd : Nat}
theorem WC.y1g (φ : Prop) (envI : List (Nat × Value)) (LI : List Asrt) {x y : Code}
  (k1 : WC P n F w₀ (Exit.then (fun a w => ∃ _g : Unit, φ ∧ SS n F w₀ envI LI a w) Q) x env L)
  (k2 : φ → WC P n F w₀ Q y envI LI) : WC P n F w₀ Q (.seq x y) env L :=
 WC.y64 (G := Unit) (fun _ => φ) (fun _ => envI) (fun _ => LI) k1 (fun _ h => k2  h)
theorem WL.y4e {o : Oper} {φ : Prop} {val : Value} {M : List Asrt} {f : FuncId} {vs : Array Value}
  (hg : gd env ops o = some true) (hd : o.dst = some dd) (hdn : Nat.blt dd n = true)
  (hrun : ∀ a w, SS n F w₀ env L a w → (execOp a.eval o).run P w = .ok (.enter f vs) w) (hs : Sel L Lc Lr)
  (hc : ∀ w, Hp F w₀ w L → Calls P f vs w fun e w' => e = .returned val ∧ φ ∧ Hp (fps Lc) w w' M)
  (k : φ → WL P n F w₀ ops Q rest ((dd, val) :: env) (M ++ Lr)) : WL P n F w₀ ops Q (o :: rest) env L :=
 WL.enter (G := Unit) (φ := fun _ => φ) (val := fun _ => val) (M := fun _ => M) hg hd hdn hrun hs
  (fun w h => (hc w h).mono fun e w' => by rintro ⟨h1, h2, h3⟩; exact ⟨(), h1, h2, h3⟩) (fun _ h => k  h)
theorem WD.call0 {o : Oper} {tl : Nat → Bool} {Ls : List Asrt} {fuel : Nat} {listed : Array Bool} {QD : Act → World → Prop} {i : Nat} {φ : Prop} {val : Value} {M : List Asrt} {f : FuncId} {vs : Array Value}
  (hi : ops[i]? = some o) (hr : Region.ready .any ops listed = [i]) (hg : gd env ops o = some true) (hd : o.dst = some dd) (hdn : Nat.blt dd n = true) (ht : (tl i = true ∧ (Sin (M ++ Lr) Ls)) ∨ Lc = [])
  (hrun : ∀ a w, SS n F w₀ env L a w → (execOp a.eval o).run P w = .ok (.enter f vs) w) (hs : Sel L Lc Lr)
  (hc : ∀ w, Hp F w₀ w L → Calls P f vs w fun e w' => e = .returned val ∧ φ ∧ Hp (fps Lc) w w' M)
  (k : φ → WD P n F w₀ ops tl Ls QD fuel (listed.setIfInBounds i true) ((dd, val) :: env) (M ++ Lr)) : WD P n F w₀ ops tl Ls QD (fuel + 1) listed env L :=
 WD.forcedCall (G := Unit) (φ := fun _ => φ) (val := fun _ => val) (M := fun _ => M) hi hr hg hd hdn (ht.imp (fun h => ⟨h.1, fun _ => h.2⟩) id) hrun hs
  (fun w h => (hc w h).mono fun e w' => by rintro ⟨h1, h2, h3⟩; exact ⟨(), h1, h2, h3⟩) (fun _ h => k  h)
theorem WL.y96 {A0 : Type} (φ : A0 → Prop) (envI : A0 → List (Nat × Value)) (LI : A0 → List Asrt) (j : Nat) {l : List Oper}
  (k1 : WL P n F w₀ ops (Exit.then (fun a w => ∃ g : A0, (φ g) ∧ SS n F w₀ (envI g) (LI g) a w) Q) (l.take j) env L)
  (k2 : ∀ x0, (φ x0) → WL P n F w₀ ops Q (l.drop j) (envI x0) (LI x0)) : WL P n F w₀ ops Q l env L :=
 WL.cut (G := A0) (fun g => (φ g)) (fun g => (envI g)) (fun g => (LI g)) j k1 (fun g h => k2 g h)
theorem WC.y2P {A0 : Type} (φ : A0 → Prop) (envI : A0 → List (Nat × Value)) (LI : A0 → List Asrt) {x y : Code}
  (k1 : WC P n F w₀ (Exit.then (fun a w => ∃ g : A0, (φ g) ∧ SS n F w₀ (envI g) (LI g) a w) Q) x env L)
  (k2 : ∀ x0, (φ x0) → WC P n F w₀ Q y (envI x0) (LI x0)) : WC P n F w₀ Q (.seq x y) env L :=
 WC.y64 (G := A0) (fun g => (φ g)) (fun g => (envI g)) (fun g => (LI g)) k1 (fun g h => k2 g h)
theorem WL.y3I {A0 : Type} {o : Oper} {φ : A0 → Prop} {val : A0 → Value} {M : A0 → List Asrt} {f : FuncId} {vs : Array Value}
  (hg : gd env ops o = some true) (hd : o.dst = some dd) (hdn : Nat.blt dd n = true)
  (hrun : ∀ a w, SS n F w₀ env L a w → (execOp a.eval o).run P w = .ok (.enter f vs) w) (hs : Sel L Lc Lr)
  (hc : ∀ w, Hp F w₀ w L → Calls P f vs w fun e w' => ∃ x0, e = .returned (val x0) ∧ (φ x0) ∧ Hp (fps Lc) w w' (M x0))
  (k : ∀ x0, (φ x0) → WL P n F w₀ ops Q rest ((dd, (val x0)) :: env) ((M x0) ++ Lr)) : WL P n F w₀ ops Q (o :: rest) env L :=
 WL.enter (G := A0) (φ := fun g => (φ g)) (val := fun g => (val g)) (M := fun g => (M g)) hg hd hdn hrun hs
  (fun w h => (hc w h).mono fun e w' => by rintro ⟨x0, h1, h2, h3⟩; exact ⟨x0, h1, h2, h3⟩) (fun g h => k g h)
theorem WD.call1 {A0 : Type} {o : Oper} {tl : Nat → Bool} {Ls : List Asrt} {fuel : Nat} {listed : Array Bool} {QD : Act → World → Prop} {i : Nat} {φ : A0 → Prop} {val : A0 → Value} {M : A0 → List Asrt} {f : FuncId} {vs : Array Value}
  (hi : ops[i]? = some o) (hr : Region.ready .any ops listed = [i]) (hg : gd env ops o = some true) (hd : o.dst = some dd) (hdn : Nat.blt dd n = true) (ht : (tl i = true ∧ (∀ x0, Sin ((M x0) ++ Lr) Ls)) ∨ Lc = [])
  (hrun : ∀ a w, SS n F w₀ env L a w → (execOp a.eval o).run P w = .ok (.enter f vs) w) (hs : Sel L Lc Lr)
  (hc : ∀ w, Hp F w₀ w L → Calls P f vs w fun e w' => ∃ x0, e = .returned (val x0) ∧ (φ x0) ∧ Hp (fps Lc) w w' (M x0))
  (k : ∀ x0, (φ x0) → WD P n F w₀ ops tl Ls QD fuel (listed.setIfInBounds i true) ((dd, (val x0)) :: env) ((M x0) ++ Lr)) : WD P n F w₀ ops tl Ls QD (fuel + 1) listed env L :=
 WD.forcedCall (G := A0) (φ := fun g => (φ g)) (val := fun g => (val g)) (M := fun g => (M g)) hi hr hg hd hdn (ht.imp (fun h => ⟨h.1, fun g => h.2 g⟩) id) hrun hs
  (fun w h => (hc w h).mono fun e w' => by rintro ⟨x0, h1, h2, h3⟩; exact ⟨x0, h1, h2, h3⟩) (fun g h => k g h)
theorem WC.y6i {A0 A1 : Type} (φ : A0 → A1 → Prop) (envI : A0 → A1 → List (Nat × Value)) (LI : A0 → A1 → List Asrt) {x y : Code}
  (k1 : WC P n F w₀ (Exit.then (fun a w => ∃ g : A0 × A1, (φ g.1 g.2) ∧ SS n F w₀ (envI g.1 g.2) (LI g.1 g.2) a w) Q) x env L)
  (k2 : ∀ x0 x1, (φ x0 x1) → WC P n F w₀ Q y (envI x0 x1) (LI x0 x1)) : WC P n F w₀ Q (.seq x y) env L :=
 WC.y64 (G := A0 × A1) (fun g => (φ g.1 g.2)) (fun g => (envI g.1 g.2)) (fun g => (LI g.1 g.2)) k1 (fun g h => k2 g.1 g.2 h)
theorem WC.y1S {A0 A1 : Type} (φ : A0 → A1 → Prop) (envI : A0 → A1 → List (Nat × Value)) (LI : A0 → A1 → List Asrt) (μ : A0 → A1 → Nat) {c : Code} (g₀ : A0 × A1) (h0 : ((fun g => (φ g.1 g.2)) : A0 × A1 → Prop) g₀)
  (hr : Restr env (((fun g => (envI g.1 g.2)) : A0 × A1 → _) g₀)) {M : List Asrt} (hL : Sel L (((fun g => (LI g.1 g.2)) : A0 × A1 → _) g₀) M)
  (round : ∀ x0 x1, (φ x0 x1) → WC P n F w₀ (Exit.then (fun a w => ∃ g' : A0 × A1, (((fun g => (φ g.1 g.2)) : A0 × A1 → Prop) g' ∧ ((fun g => (μ g.1 g.2)) : A0 × A1 → Nat) g' < (μ x0 x1)) ∧ SS n F w₀ (((fun g => (envI g.1 g.2)) : A0 × A1 → _) g') (((fun g => (LI g.1 g.2)) : A0 × A1 → _) g') a w) Q) c (envI x0 x1) (LI x0 x1)) :
  WC P n F w₀ Q (.loop c) env L :=
 WC.loop (G := A0 × A1) (fun g => (φ g.1 g.2)) (fun g => (envI g.1 g.2)) (fun g => (LI g.1 g.2)) (fun g => (μ g.1 g.2)) g₀ h0 hr hL (fun g h => round g.1 g.2 h)
theorem WL.y4F {A0 A1 : Type} {o : Oper} {φ : A0 → A1 → Prop} {val : A0 → A1 → Value} {M : A0 → A1 → List Asrt} {f : FuncId} {vs : Array Value}
  (hg : gd env ops o = some true) (hd : o.dst = some dd) (hdn : Nat.blt dd n = true)
  (hrun : ∀ a w, SS n F w₀ env L a w → (execOp a.eval o).run P w = .ok (.enter f vs) w) (hs : Sel L Lc Lr)
  (hc : ∀ w, Hp F w₀ w L → Calls P f vs w fun e w' => ∃ x0 x1, e = .returned (val x0 x1) ∧ (φ x0 x1) ∧ Hp (fps Lc) w w' (M x0 x1))
  (k : ∀ x0 x1, (φ x0 x1) → WL P n F w₀ ops Q rest ((dd, (val x0 x1)) :: env) ((M x0 x1) ++ Lr)) : WL P n F w₀ ops Q (o :: rest) env L :=
 WL.enter (G := A0 × A1) (φ := fun g => (φ g.1 g.2)) (val := fun g => (val g.1 g.2)) (M := fun g => (M g.1 g.2)) hg hd hdn hrun hs
  (fun w h => (hc w h).mono fun e w' => by rintro ⟨x0, x1, h1, h2, h3⟩; exact ⟨⟨x0, x1⟩, h1, h2, h3⟩) (fun g h => k g.1 g.2 h)
theorem WD.call2 {A0 A1 : Type} {o : Oper} {tl : Nat → Bool} {Ls : List Asrt} {fuel : Nat} {listed : Array Bool} {QD : Act → World → Prop} {i : Nat} {φ : A0 → A1 → Prop} {val : A0 → A1 → Value} {M : A0 → A1 → List Asrt} {f : FuncId} {vs : Array Value}
  (hi : ops[i]? = some o) (hr : Region.ready .any ops listed = [i]) (hg : gd env ops o = some true) (hd : o.dst = some dd) (hdn : Nat.blt dd n = true) (ht : (tl i = true ∧ (∀ x0 x1, Sin ((M x0 x1) ++ Lr) Ls)) ∨ Lc = [])
  (hrun : ∀ a w, SS n F w₀ env L a w → (execOp a.eval o).run P w = .ok (.enter f vs) w) (hs : Sel L Lc Lr)
  (hc : ∀ w, Hp F w₀ w L → Calls P f vs w fun e w' => ∃ x0 x1, e = .returned (val x0 x1) ∧ (φ x0 x1) ∧ Hp (fps Lc) w w' (M x0 x1))
  (k : ∀ x0 x1, (φ x0 x1) → WD P n F w₀ ops tl Ls QD fuel (listed.setIfInBounds i true) ((dd, (val x0 x1)) :: env) ((M x0 x1) ++ Lr)) : WD P n F w₀ ops tl Ls QD (fuel + 1) listed env L :=
 WD.forcedCall (G := A0 × A1) (φ := fun g => (φ g.1 g.2)) (val := fun g => (val g.1 g.2)) (M := fun g => (M g.1 g.2)) hi hr hg hd hdn (ht.imp (fun h => ⟨h.1, fun g => h.2 g.1 g.2⟩) id) hrun hs
  (fun w h => (hc w h).mono fun e w' => by rintro ⟨x0, x1, h1, h2, h3⟩; exact ⟨⟨x0, x1⟩, h1, h2, h3⟩) (fun g h => k g.1 g.2 h)
theorem WC.y1x {A0 A1 A2 : Type} (φ : A0 → A1 → A2 → Prop) (envI : A0 → A1 → A2 → List (Nat × Value)) (LI : A0 → A1 → A2 → List Asrt) {x y : Code}
  (k1 : WC P n F w₀ (Exit.then (fun a w => ∃ g : A0 × A1 × A2, (φ g.1 g.2.1 g.2.2) ∧ SS n F w₀ (envI g.1 g.2.1 g.2.2) (LI g.1 g.2.1 g.2.2) a w) Q) x env L)
  (k2 : ∀ x0 x1 x2, (φ x0 x1 x2) → WC P n F w₀ Q y (envI x0 x1 x2) (LI x0 x1 x2)) : WC P n F w₀ Q (.seq x y) env L :=
 WC.y64 (G := A0 × A1 × A2) (fun g => (φ g.1 g.2.1 g.2.2)) (fun g => (envI g.1 g.2.1 g.2.2)) (fun g => (LI g.1 g.2.1 g.2.2)) k1 (fun g h => k2 g.1 g.2.1 g.2.2 h)
theorem WC.y6R {A0 A1 A2 : Type} (φ : A0 → A1 → A2 → Prop) (envI : A0 → A1 → A2 → List (Nat × Value)) (LI : A0 → A1 → A2 → List Asrt) (μ : A0 → A1 → A2 → Nat) {c : Code} (g₀ : A0 × A1 × A2) (h0 : ((fun g => (φ g.1 g.2.1 g.2.2)) : A0 × A1 × A2 → Prop) g₀)
  (hr : Restr env (((fun g => (envI g.1 g.2.1 g.2.2)) : A0 × A1 × A2 → _) g₀)) {M : List Asrt} (hL : Sel L (((fun g => (LI g.1 g.2.1 g.2.2)) : A0 × A1 × A2 → _) g₀) M)
  (round : ∀ x0 x1 x2, (φ x0 x1 x2) → WC P n F w₀ (Exit.then (fun a w => ∃ g' : A0 × A1 × A2, (((fun g => (φ g.1 g.2.1 g.2.2)) : A0 × A1 × A2 → Prop) g' ∧ ((fun g => (μ g.1 g.2.1 g.2.2)) : A0 × A1 × A2 → Nat) g' < (μ x0 x1 x2)) ∧ SS n F w₀ (((fun g => (envI g.1 g.2.1 g.2.2)) : A0 × A1 × A2 → _) g') (((fun g => (LI g.1 g.2.1 g.2.2)) : A0 × A1 × A2 → _) g') a w) Q) c (envI x0 x1 x2) (LI x0 x1 x2)) :
  WC P n F w₀ Q (.loop c) env L :=
 WC.loop (G := A0 × A1 × A2) (fun g => (φ g.1 g.2.1 g.2.2)) (fun g => (envI g.1 g.2.1 g.2.2)) (fun g => (LI g.1 g.2.1 g.2.2)) (fun g => (μ g.1 g.2.1 g.2.2)) g₀ h0 hr hL (fun g h => round g.1 g.2.1 g.2.2 h)
theorem WL.y8P {A0 A1 A2 : Type} {o : Oper} {φ : A0 → A1 → A2 → Prop} {val : A0 → A1 → A2 → Value} {M : A0 → A1 → A2 → List Asrt} {f : FuncId} {vs : Array Value}
  (hg : gd env ops o = some true) (hd : o.dst = some dd) (hdn : Nat.blt dd n = true)
  (hrun : ∀ a w, SS n F w₀ env L a w → (execOp a.eval o).run P w = .ok (.enter f vs) w) (hs : Sel L Lc Lr)
  (hc : ∀ w, Hp F w₀ w L → Calls P f vs w fun e w' => ∃ x0 x1 x2, e = .returned (val x0 x1 x2) ∧ (φ x0 x1 x2) ∧ Hp (fps Lc) w w' (M x0 x1 x2))
  (k : ∀ x0 x1 x2, (φ x0 x1 x2) → WL P n F w₀ ops Q rest ((dd, (val x0 x1 x2)) :: env) ((M x0 x1 x2) ++ Lr)) : WL P n F w₀ ops Q (o :: rest) env L :=
 WL.enter (G := A0 × A1 × A2) (φ := fun g => (φ g.1 g.2.1 g.2.2)) (val := fun g => (val g.1 g.2.1 g.2.2)) (M := fun g => (M g.1 g.2.1 g.2.2)) hg hd hdn hrun hs
  (fun w h => (hc w h).mono fun e w' => by rintro ⟨x0, x1, x2, h1, h2, h3⟩; exact ⟨⟨x0, x1, x2⟩, h1, h2, h3⟩) (fun g h => k g.1 g.2.1 g.2.2 h)
theorem WC.y5s {A0 A1 A2 A3 : Type} (φ : A0 → A1 → A2 → A3 → Prop) (envI : A0 → A1 → A2 → A3 → List (Nat × Value)) (LI : A0 → A1 → A2 → A3 → List Asrt) {x y : Code}
  (k1 : WC P n F w₀ (Exit.then (fun a w => ∃ g : A0 × A1 × A2 × A3, (φ g.1 g.2.1 g.2.2.1 g.2.2.2) ∧ SS n F w₀ (envI g.1 g.2.1 g.2.2.1 g.2.2.2) (LI g.1 g.2.1 g.2.2.1 g.2.2.2) a w) Q) x env L)
  (k2 : ∀ x0 x1 x2 x3, (φ x0 x1 x2 x3) → WC P n F w₀ Q y (envI x0 x1 x2 x3) (LI x0 x1 x2 x3)) : WC P n F w₀ Q (.seq x y) env L :=
 WC.y64 (G := A0 × A1 × A2 × A3) (fun g => (φ g.1 g.2.1 g.2.2.1 g.2.2.2)) (fun g => (envI g.1 g.2.1 g.2.2.1 g.2.2.2)) (fun g => (LI g.1 g.2.1 g.2.2.1 g.2.2.2)) k1 (fun g h => k2 g.1 g.2.1 g.2.2.1 g.2.2.2 h)
theorem WC.y5t {A0 A1 A2 A3 : Type} (φ : A0 → A1 → A2 → A3 → Prop) (envI : A0 → A1 → A2 → A3 → List (Nat × Value)) (LI : A0 → A1 → A2 → A3 → List Asrt) (μ : A0 → A1 → A2 → A3 → Nat) {c : Code} (g₀ : A0 × A1 × A2 × A3) (h0 : ((fun g => (φ g.1 g.2.1 g.2.2.1 g.2.2.2)) : A0 × A1 × A2 × A3 → Prop) g₀)
  (hr : Restr env (((fun g => (envI g.1 g.2.1 g.2.2.1 g.2.2.2)) : A0 × A1 × A2 × A3 → _) g₀)) {M : List Asrt} (hL : Sel L (((fun g => (LI g.1 g.2.1 g.2.2.1 g.2.2.2)) : A0 × A1 × A2 × A3 → _) g₀) M)
  (round : ∀ x0 x1 x2 x3, (φ x0 x1 x2 x3) → WC P n F w₀ (Exit.then (fun a w => ∃ g' : A0 × A1 × A2 × A3, (((fun g => (φ g.1 g.2.1 g.2.2.1 g.2.2.2)) : A0 × A1 × A2 × A3 → Prop) g' ∧ ((fun g => (μ g.1 g.2.1 g.2.2.1 g.2.2.2)) : A0 × A1 × A2 × A3 → Nat) g' < (μ x0 x1 x2 x3)) ∧ SS n F w₀ (((fun g => (envI g.1 g.2.1 g.2.2.1 g.2.2.2)) : A0 × A1 × A2 × A3 → _) g') (((fun g => (LI g.1 g.2.1 g.2.2.1 g.2.2.2)) : A0 × A1 × A2 × A3 → _) g') a w) Q) c (envI x0 x1 x2 x3) (LI x0 x1 x2 x3)) :
  WC P n F w₀ Q (.loop c) env L :=
 WC.loop (G := A0 × A1 × A2 × A3) (fun g => (φ g.1 g.2.1 g.2.2.1 g.2.2.2)) (fun g => (envI g.1 g.2.1 g.2.2.1 g.2.2.2)) (fun g => (LI g.1 g.2.1 g.2.2.1 g.2.2.2)) (fun g => (μ g.1 g.2.1 g.2.2.1 g.2.2.2)) g₀ h0 hr hL (fun g h => round g.1 g.2.1 g.2.2.1 g.2.2.2 h)
theorem WL.ydM {A0 A1 A2 A3 : Type} {o : Oper} {φ : A0 → A1 → A2 → A3 → Prop} {val : A0 → A1 → A2 → A3 → Value} {M : A0 → A1 → A2 → A3 → List Asrt} {f : FuncId} {vs : Array Value}
  (hg : gd env ops o = some true) (hd : o.dst = some dd) (hdn : Nat.blt dd n = true)
  (hrun : ∀ a w, SS n F w₀ env L a w → (execOp a.eval o).run P w = .ok (.enter f vs) w) (hs : Sel L Lc Lr)
  (hc : ∀ w, Hp F w₀ w L → Calls P f vs w fun e w' => ∃ x0 x1 x2 x3, e = .returned (val x0 x1 x2 x3) ∧ (φ x0 x1 x2 x3) ∧ Hp (fps Lc) w w' (M x0 x1 x2 x3))
  (k : ∀ x0 x1 x2 x3, (φ x0 x1 x2 x3) → WL P n F w₀ ops Q rest ((dd, (val x0 x1 x2 x3)) :: env) ((M x0 x1 x2 x3) ++ Lr)) : WL P n F w₀ ops Q (o :: rest) env L :=
 WL.enter (G := A0 × A1 × A2 × A3) (φ := fun g => (φ g.1 g.2.1 g.2.2.1 g.2.2.2)) (val := fun g => (val g.1 g.2.1 g.2.2.1 g.2.2.2)) (M := fun g => (M g.1 g.2.1 g.2.2.1 g.2.2.2)) hg hd hdn hrun hs
  (fun w h => (hc w h).mono fun e w' => by rintro ⟨x0, x1, x2, x3, h1, h2, h3⟩; exact ⟨⟨x0, x1, x2, x3⟩, h1, h2, h3⟩) (fun g h => k g.1 g.2.1 g.2.2.1 g.2.2.2 h)
theorem WC.y4k {A0 A1 A2 A3 A4 : Type} (φ : A0 → A1 → A2 → A3 → A4 → Prop) (envI : A0 → A1 → A2 → A3 → A4 → List (Nat × Value)) (LI : A0 → A1 → A2 → A3 → A4 → List Asrt) (μ : A0 → A1 → A2 → A3 → A4 → Nat) {c : Code} (g₀ : A0 × A1 × A2 × A3 × A4) (h0 : ((fun g => (φ g.1 g.2.1 g.2.2.1 g.2.2.2.1 g.2.2.2.2)) : A0 × A1 × A2 × A3 × A4 → Prop) g₀)
  (hr : Restr env (((fun g => (envI g.1 g.2.1 g.2.2.1 g.2.2.2.1 g.2.2.2.2)) : A0 × A1 × A2 × A3 × A4 → _) g₀)) {M : List Asrt} (hL : Sel L (((fun g => (LI g.1 g.2.1 g.2.2.1 g.2.2.2.1 g.2.2.2.2)) : A0 × A1 × A2 × A3 × A4 → _) g₀) M)
  (round : ∀ x0 x1 x2 x3 x4, (φ x0 x1 x2 x3 x4) → WC P n F w₀ (Exit.then (fun a w => ∃ g' : A0 × A1 × A2 × A3 × A4, (((fun g => (φ g.1 g.2.1 g.2.2.1 g.2.2.2.1 g.2.2.2.2)) : A0 × A1 × A2 × A3 × A4 → Prop) g' ∧ ((fun g => (μ g.1 g.2.1 g.2.2.1 g.2.2.2.1 g.2.2.2.2)) : A0 × A1 × A2 × A3 × A4 → Nat) g' < (μ x0 x1 x2 x3 x4)) ∧ SS n F w₀ (((fun g => (envI g.1 g.2.1 g.2.2.1 g.2.2.2.1 g.2.2.2.2)) : A0 × A1 × A2 × A3 × A4 → _) g') (((fun g => (LI g.1 g.2.1 g.2.2.1 g.2.2.2.1 g.2.2.2.2)) : A0 × A1 × A2 × A3 × A4 → _) g') a w) Q) c (envI x0 x1 x2 x3 x4) (LI x0 x1 x2 x3 x4)) :
  WC P n F w₀ Q (.loop c) env L :=
 WC.loop (G := A0 × A1 × A2 × A3 × A4) (fun g => (φ g.1 g.2.1 g.2.2.1 g.2.2.2.1 g.2.2.2.2)) (fun g => (envI g.1 g.2.1 g.2.2.1 g.2.2.2.1 g.2.2.2.2)) (fun g => (LI g.1 g.2.1 g.2.2.1 g.2.2.2.1 g.2.2.2.2)) (fun g => (μ g.1 g.2.1 g.2.2.1 g.2.2.2.1 g.2.2.2.2)) g₀ h0 hr hL (fun g h => round g.1 g.2.1 g.2.2.1 g.2.2.2.1 g.2.2.2.2 h)
theorem WL.ydN {A0 A1 A2 A3 A4 : Type} {o : Oper} {φ : A0 → A1 → A2 → A3 → A4 → Prop} {val : A0 → A1 → A2 → A3 → A4 → Value} {M : A0 → A1 → A2 → A3 → A4 → List Asrt} {f : FuncId} {vs : Array Value}
  (hg : gd env ops o = some true) (hd : o.dst = some dd) (hdn : Nat.blt dd n = true)
  (hrun : ∀ a w, SS n F w₀ env L a w → (execOp a.eval o).run P w = .ok (.enter f vs) w) (hs : Sel L Lc Lr)
  (hc : ∀ w, Hp F w₀ w L → Calls P f vs w fun e w' => ∃ x0 x1 x2 x3 x4, e = .returned (val x0 x1 x2 x3 x4) ∧ (φ x0 x1 x2 x3 x4) ∧ Hp (fps Lc) w w' (M x0 x1 x2 x3 x4))
  (k : ∀ x0 x1 x2 x3 x4, (φ x0 x1 x2 x3 x4) → WL P n F w₀ ops Q rest ((dd, (val x0 x1 x2 x3 x4)) :: env) ((M x0 x1 x2 x3 x4) ++ Lr)) : WL P n F w₀ ops Q (o :: rest) env L :=
 WL.enter (G := A0 × A1 × A2 × A3 × A4) (φ := fun g => (φ g.1 g.2.1 g.2.2.1 g.2.2.2.1 g.2.2.2.2)) (val := fun g => (val g.1 g.2.1 g.2.2.1 g.2.2.2.1 g.2.2.2.2)) (M := fun g => (M g.1 g.2.1 g.2.2.1 g.2.2.2.1 g.2.2.2.2)) hg hd hdn hrun hs
  (fun w h => (hc w h).mono fun e w' => by rintro ⟨x0, x1, x2, x3, x4, h1, h2, h3⟩; exact ⟨⟨x0, x1, x2, x3, x4⟩, h1, h2, h3⟩) (fun g h => k g.1 g.2.1 g.2.2.1 g.2.2.2.1 g.2.2.2.2 h)
theorem WC.y9v {A0 A1 A2 A3 A4 A5 : Type} (φ : A0 → A1 → A2 → A3 → A4 → A5 → Prop) (envI : A0 → A1 → A2 → A3 → A4 → A5 → List (Nat × Value)) (LI : A0 → A1 → A2 → A3 → A4 → A5 → List Asrt) {x y : Code}
  (k1 : WC P n F w₀ (Exit.then (fun a w => ∃ g : A0 × A1 × A2 × A3 × A4 × A5, (φ g.1 g.2.1 g.2.2.1 g.2.2.2.1 g.2.2.2.2.1 g.2.2.2.2.2) ∧ SS n F w₀ (envI g.1 g.2.1 g.2.2.1 g.2.2.2.1 g.2.2.2.2.1 g.2.2.2.2.2) (LI g.1 g.2.1 g.2.2.1 g.2.2.2.1 g.2.2.2.2.1 g.2.2.2.2.2) a w) Q) x env L)
  (k2 : ∀ x0 x1 x2 x3 x4 x5, (φ x0 x1 x2 x3 x4 x5) → WC P n F w₀ Q y (envI x0 x1 x2 x3 x4 x5) (LI x0 x1 x2 x3 x4 x5)) : WC P n F w₀ Q (.seq x y) env L :=
 WC.y64 (G := A0 × A1 × A2 × A3 × A4 × A5) (fun g => (φ g.1 g.2.1 g.2.2.1 g.2.2.2.1 g.2.2.2.2.1 g.2.2.2.2.2)) (fun g => (envI g.1 g.2.1 g.2.2.1 g.2.2.2.1 g.2.2.2.2.1 g.2.2.2.2.2)) (fun g => (LI g.1 g.2.1 g.2.2.1 g.2.2.2.1 g.2.2.2.2.1 g.2.2.2.2.2)) k1 (fun g h => k2 g.1 g.2.1 g.2.2.1 g.2.2.2.1 g.2.2.2.2.1 g.2.2.2.2.2 h)
theorem WC.y8t {A0 A1 A2 A3 A4 A5 : Type} (φ : A0 → A1 → A2 → A3 → A4 → A5 → Prop) (envI : A0 → A1 → A2 → A3 → A4 → A5 → List (Nat × Value)) (LI : A0 → A1 → A2 → A3 → A4 → A5 → List Asrt) (μ : A0 → A1 → A2 → A3 → A4 → A5 → Nat) {c : Code} (g₀ : A0 × A1 × A2 × A3 × A4 × A5) (h0 : ((fun g => (φ g.1 g.2.1 g.2.2.1 g.2.2.2.1 g.2.2.2.2.1 g.2.2.2.2.2)) : A0 × A1 × A2 × A3 × A4 × A5 → Prop) g₀)
  (hr : Restr env (((fun g => (envI g.1 g.2.1 g.2.2.1 g.2.2.2.1 g.2.2.2.2.1 g.2.2.2.2.2)) : A0 × A1 × A2 × A3 × A4 × A5 → _) g₀)) {M : List Asrt} (hL : Sel L (((fun g => (LI g.1 g.2.1 g.2.2.1 g.2.2.2.1 g.2.2.2.2.1 g.2.2.2.2.2)) : A0 × A1 × A2 × A3 × A4 × A5 → _) g₀) M)
  (round : ∀ x0 x1 x2 x3 x4 x5, (φ x0 x1 x2 x3 x4 x5) → WC P n F w₀ (Exit.then (fun a w => ∃ g' : A0 × A1 × A2 × A3 × A4 × A5, (((fun g => (φ g.1 g.2.1 g.2.2.1 g.2.2.2.1 g.2.2.2.2.1 g.2.2.2.2.2)) : A0 × A1 × A2 × A3 × A4 × A5 → Prop) g' ∧ ((fun g => (μ g.1 g.2.1 g.2.2.1 g.2.2.2.1 g.2.2.2.2.1 g.2.2.2.2.2)) : A0 × A1 × A2 × A3 × A4 × A5 → Nat) g' < (μ x0 x1 x2 x3 x4 x5)) ∧ SS n F w₀ (((fun g => (envI g.1 g.2.1 g.2.2.1 g.2.2.2.1 g.2.2.2.2.1 g.2.2.2.2.2)) : A0 × A1 × A2 × A3 × A4 × A5 → _) g') (((fun g => (LI g.1 g.2.1 g.2.2.1 g.2.2.2.1 g.2.2.2.2.1 g.2.2.2.2.2)) : A0 × A1 × A2 × A3 × A4 × A5 → _) g') a w) Q) c (envI x0 x1 x2 x3 x4 x5) (LI x0 x1 x2 x3 x4 x5)) :
  WC P n F w₀ Q (.loop c) env L :=
 WC.loop (G := A0 × A1 × A2 × A3 × A4 × A5) (fun g => (φ g.1 g.2.1 g.2.2.1 g.2.2.2.1 g.2.2.2.2.1 g.2.2.2.2.2)) (fun g => (envI g.1 g.2.1 g.2.2.1 g.2.2.2.1 g.2.2.2.2.1 g.2.2.2.2.2)) (fun g => (LI g.1 g.2.1 g.2.2.1 g.2.2.2.1 g.2.2.2.2.1 g.2.2.2.2.2)) (fun g => (μ g.1 g.2.1 g.2.2.1 g.2.2.2.1 g.2.2.2.2.1 g.2.2.2.2.2)) g₀ h0 hr hL (fun g h => round g.1 g.2.1 g.2.2.1 g.2.2.2.1 g.2.2.2.2.1 g.2.2.2.2.2 h)
theorem WL.ydO {A0 A1 A2 A3 A4 A5 : Type} {o : Oper} {φ : A0 → A1 → A2 → A3 → A4 → A5 → Prop} {val : A0 → A1 → A2 → A3 → A4 → A5 → Value} {M : A0 → A1 → A2 → A3 → A4 → A5 → List Asrt} {f : FuncId} {vs : Array Value}
  (hg : gd env ops o = some true) (hd : o.dst = some dd) (hdn : Nat.blt dd n = true)
  (hrun : ∀ a w, SS n F w₀ env L a w → (execOp a.eval o).run P w = .ok (.enter f vs) w) (hs : Sel L Lc Lr)
  (hc : ∀ w, Hp F w₀ w L → Calls P f vs w fun e w' => ∃ x0 x1 x2 x3 x4 x5, e = .returned (val x0 x1 x2 x3 x4 x5) ∧ (φ x0 x1 x2 x3 x4 x5) ∧ Hp (fps Lc) w w' (M x0 x1 x2 x3 x4 x5))
  (k : ∀ x0 x1 x2 x3 x4 x5, (φ x0 x1 x2 x3 x4 x5) → WL P n F w₀ ops Q rest ((dd, (val x0 x1 x2 x3 x4 x5)) :: env) ((M x0 x1 x2 x3 x4 x5) ++ Lr)) : WL P n F w₀ ops Q (o :: rest) env L :=
 WL.enter (G := A0 × A1 × A2 × A3 × A4 × A5) (φ := fun g => (φ g.1 g.2.1 g.2.2.1 g.2.2.2.1 g.2.2.2.2.1 g.2.2.2.2.2)) (val := fun g => (val g.1 g.2.1 g.2.2.1 g.2.2.2.1 g.2.2.2.2.1 g.2.2.2.2.2)) (M := fun g => (M g.1 g.2.1 g.2.2.1 g.2.2.2.1 g.2.2.2.2.1 g.2.2.2.2.2)) hg hd hdn hrun hs
  (fun w h => (hc w h).mono fun e w' => by rintro ⟨x0, x1, x2, x3, x4, x5, h1, h2, h3⟩; exact ⟨⟨x0, x1, x2, x3, x4, x5⟩, h1, h2, h3⟩) (fun g h => k g.1 g.2.1 g.2.2.1 g.2.2.2.1 g.2.2.2.2.1 g.2.2.2.2.2 h)
theorem WC.yb4 {A0 A1 A2 A3 A4 A5 A6 A7 : Type} (φ : A0 → A1 → A2 → A3 → A4 → A5 → A6 → A7 → Prop) (envI : A0 → A1 → A2 → A3 → A4 → A5 → A6 → A7 → List (Nat × Value)) (LI : A0 → A1 → A2 → A3 → A4 → A5 → A6 → A7 → List Asrt) (μ : A0 → A1 → A2 → A3 → A4 → A5 → A6 → A7 → Nat) {c : Code} (g₀ : A0 × A1 × A2 × A3 × A4 × A5 × A6 × A7) (h0 : ((fun g => (φ g.1 g.2.1 g.2.2.1 g.2.2.2.1 g.2.2.2.2.1 g.2.2.2.2.2.1 g.2.2.2.2.2.2.1 g.2.2.2.2.2.2.2)) : A0 × A1 × A2 × A3 × A4 × A5 × A6 × A7 → Prop) g₀)
  (hr : Restr env (((fun g => (envI g.1 g.2.1 g.2.2.1 g.2.2.2.1 g.2.2.2.2.1 g.2.2.2.2.2.1 g.2.2.2.2.2.2.1 g.2.2.2.2.2.2.2)) : A0 × A1 × A2 × A3 × A4 × A5 × A6 × A7 → _) g₀)) {M : List Asrt} (hL : Sel L (((fun g => (LI g.1 g.2.1 g.2.2.1 g.2.2.2.1 g.2.2.2.2.1 g.2.2.2.2.2.1 g.2.2.2.2.2.2.1 g.2.2.2.2.2.2.2)) : A0 × A1 × A2 × A3 × A4 × A5 × A6 × A7 → _) g₀) M)
  (round : ∀ x0 x1 x2 x3 x4 x5 x6 x7, (φ x0 x1 x2 x3 x4 x5 x6 x7) → WC P n F w₀ (Exit.then (fun a w => ∃ g' : A0 × A1 × A2 × A3 × A4 × A5 × A6 × A7, (((fun g => (φ g.1 g.2.1 g.2.2.1 g.2.2.2.1 g.2.2.2.2.1 g.2.2.2.2.2.1 g.2.2.2.2.2.2.1 g.2.2.2.2.2.2.2)) : A0 × A1 × A2 × A3 × A4 × A5 × A6 × A7 → Prop) g' ∧ ((fun g => (μ g.1 g.2.1 g.2.2.1 g.2.2.2.1 g.2.2.2.2.1 g.2.2.2.2.2.1 g.2.2.2.2.2.2.1 g.2.2.2.2.2.2.2)) : A0 × A1 × A2 × A3 × A4 × A5 × A6 × A7 → Nat) g' < (μ x0 x1 x2 x3 x4 x5 x6 x7)) ∧ SS n F w₀ (((fun g => (envI g.1 g.2.1 g.2.2.1 g.2.2.2.1 g.2.2.2.2.1 g.2.2.2.2.2.1 g.2.2.2.2.2.2.1 g.2.2.2.2.2.2.2)) : A0 × A1 × A2 × A3 × A4 × A5 × A6 × A7 → _) g') (((fun g => (LI g.1 g.2.1 g.2.2.1 g.2.2.2.1 g.2.2.2.2.1 g.2.2.2.2.2.1 g.2.2.2.2.2.2.1 g.2.2.2.2.2.2.2)) : A0 × A1 × A2 × A3 × A4 × A5 × A6 × A7 → _) g') a w) Q) c (envI x0 x1 x2 x3 x4 x5 x6 x7) (LI x0 x1 x2 x3 x4 x5 x6 x7)) :
  WC P n F w₀ Q (.loop c) env L :=
 WC.loop (G := A0 × A1 × A2 × A3 × A4 × A5 × A6 × A7) (fun g => (φ g.1 g.2.1 g.2.2.1 g.2.2.2.1 g.2.2.2.2.1 g.2.2.2.2.2.1 g.2.2.2.2.2.2.1 g.2.2.2.2.2.2.2)) (fun g => (envI g.1 g.2.1 g.2.2.1 g.2.2.2.1 g.2.2.2.2.1 g.2.2.2.2.2.1 g.2.2.2.2.2.2.1 g.2.2.2.2.2.2.2)) (fun g => (LI g.1 g.2.1 g.2.2.1 g.2.2.2.1 g.2.2.2.2.1 g.2.2.2.2.2.1 g.2.2.2.2.2.2.1 g.2.2.2.2.2.2.2)) (fun g => (μ g.1 g.2.1 g.2.2.1 g.2.2.2.1 g.2.2.2.2.1 g.2.2.2.2.2.1 g.2.2.2.2.2.2.1 g.2.2.2.2.2.2.2)) g₀ h0 hr hL (fun g h => round g.1 g.2.1 g.2.2.1 g.2.2.2.1 g.2.2.2.2.1 g.2.2.2.2.2.1 g.2.2.2.2.2.2.1 g.2.2.2.2.2.2.2 h)
theorem WC.loop9 {A0 A1 A2 A3 A4 A5 A6 A7 A8 : Type} (φ : A0 → A1 → A2 → A3 → A4 → A5 → A6 → A7 → A8 → Prop) (envI : A0 → A1 → A2 → A3 → A4 → A5 → A6 → A7 → A8 → List (Nat × Value)) (LI : A0 → A1 → A2 → A3 → A4 → A5 → A6 → A7 → A8 → List Asrt) (μ : A0 → A1 → A2 → A3 → A4 → A5 → A6 → A7 → A8 → Nat) {c : Code} (g₀ : A0 × A1 × A2 × A3 × A4 × A5 × A6 × A7 × A8) (h0 : ((fun g => (φ g.1 g.2.1 g.2.2.1 g.2.2.2.1 g.2.2.2.2.1 g.2.2.2.2.2.1 g.2.2.2.2.2.2.1 g.2.2.2.2.2.2.2.1 g.2.2.2.2.2.2.2.2)) : A0 × A1 × A2 × A3 × A4 × A5 × A6 × A7 × A8 → Prop) g₀)
  (hr : Restr env (((fun g => (envI g.1 g.2.1 g.2.2.1 g.2.2.2.1 g.2.2.2.2.1 g.2.2.2.2.2.1 g.2.2.2.2.2.2.1 g.2.2.2.2.2.2.2.1 g.2.2.2.2.2.2.2.2)) : A0 × A1 × A2 × A3 × A4 × A5 × A6 × A7 × A8 → _) g₀)) {M : List Asrt} (hL : Sel L (((fun g => (LI g.1 g.2.1 g.2.2.1 g.2.2.2.1 g.2.2.2.2.1 g.2.2.2.2.2.1 g.2.2.2.2.2.2.1 g.2.2.2.2.2.2.2.1 g.2.2.2.2.2.2.2.2)) : A0 × A1 × A2 × A3 × A4 × A5 × A6 × A7 × A8 → _) g₀) M)
  (round : ∀ x0 x1 x2 x3 x4 x5 x6 x7 x8, (φ x0 x1 x2 x3 x4 x5 x6 x7 x8) → WC P n F w₀ (Exit.then (fun a w => ∃ g' : A0 × A1 × A2 × A3 × A4 × A5 × A6 × A7 × A8, (((fun g => (φ g.1 g.2.1 g.2.2.1 g.2.2.2.1 g.2.2.2.2.1 g.2.2.2.2.2.1 g.2.2.2.2.2.2.1 g.2.2.2.2.2.2.2.1 g.2.2.2.2.2.2.2.2)) : A0 × A1 × A2 × A3 × A4 × A5 × A6 × A7 × A8 → Prop) g' ∧ ((fun g => (μ g.1 g.2.1 g.2.2.1 g.2.2.2.1 g.2.2.2.2.1 g.2.2.2.2.2.1 g.2.2.2.2.2.2.1 g.2.2.2.2.2.2.2.1 g.2.2.2.2.2.2.2.2)) : A0 × A1 × A2 × A3 × A4 × A5 × A6 × A7 × A8 → Nat) g' < (μ x0 x1 x2 x3 x4 x5 x6 x7 x8)) ∧ SS n F w₀ (((fun g => (envI g.1 g.2.1 g.2.2.1 g.2.2.2.1 g.2.2.2.2.1 g.2.2.2.2.2.1 g.2.2.2.2.2.2.1 g.2.2.2.2.2.2.2.1 g.2.2.2.2.2.2.2.2)) : A0 × A1 × A2 × A3 × A4 × A5 × A6 × A7 × A8 → _) g') (((fun g => (LI g.1 g.2.1 g.2.2.1 g.2.2.2.1 g.2.2.2.2.1 g.2.2.2.2.2.1 g.2.2.2.2.2.2.1 g.2.2.2.2.2.2.2.1 g.2.2.2.2.2.2.2.2)) : A0 × A1 × A2 × A3 × A4 × A5 × A6 × A7 × A8 → _) g') a w) Q) c (envI x0 x1 x2 x3 x4 x5 x6 x7 x8) (LI x0 x1 x2 x3 x4 x5 x6 x7 x8)) :
  WC P n F w₀ Q (.loop c) env L :=
 WC.loop (G := A0 × A1 × A2 × A3 × A4 × A5 × A6 × A7 × A8) (fun g => (φ g.1 g.2.1 g.2.2.1 g.2.2.2.1 g.2.2.2.2.1 g.2.2.2.2.2.1 g.2.2.2.2.2.2.1 g.2.2.2.2.2.2.2.1 g.2.2.2.2.2.2.2.2)) (fun g => (envI g.1 g.2.1 g.2.2.1 g.2.2.2.1 g.2.2.2.2.1 g.2.2.2.2.2.1 g.2.2.2.2.2.2.1 g.2.2.2.2.2.2.2.1 g.2.2.2.2.2.2.2.2)) (fun g => (LI g.1 g.2.1 g.2.2.1 g.2.2.2.1 g.2.2.2.2.1 g.2.2.2.2.2.1 g.2.2.2.2.2.2.1 g.2.2.2.2.2.2.2.1 g.2.2.2.2.2.2.2.2)) (fun g => (μ g.1 g.2.1 g.2.2.1 g.2.2.2.1 g.2.2.2.2.1 g.2.2.2.2.2.1 g.2.2.2.2.2.2.1 g.2.2.2.2.2.2.2.1 g.2.2.2.2.2.2.2.2)) g₀ h0 hr hL (fun g h => round g.1 g.2.1 g.2.2.1 g.2.2.2.1 g.2.2.2.2.1 g.2.2.2.2.2.1 g.2.2.2.2.2.2.1 g.2.2.2.2.2.2.2.1 g.2.2.2.2.2.2.2.2 h)
theorem WC.y8V {A0 A1 A2 A3 A4 A5 A6 A7 A8 A9 : Type} (φ : A0 → A1 → A2 → A3 → A4 → A5 → A6 → A7 → A8 → A9 → Prop) (envI : A0 → A1 → A2 → A3 → A4 → A5 → A6 → A7 → A8 → A9 → List (Nat × Value)) (LI : A0 → A1 → A2 → A3 → A4 → A5 → A6 → A7 → A8 → A9 → List Asrt) {x y : Code}
  (k1 : WC P n F w₀ (Exit.then (fun a w => ∃ g : A0 × A1 × A2 × A3 × A4 × A5 × A6 × A7 × A8 × A9, (φ g.1 g.2.1 g.2.2.1 g.2.2.2.1 g.2.2.2.2.1 g.2.2.2.2.2.1 g.2.2.2.2.2.2.1 g.2.2.2.2.2.2.2.1 g.2.2.2.2.2.2.2.2.1 g.2.2.2.2.2.2.2.2.2) ∧ SS n F w₀ (envI g.1 g.2.1 g.2.2.1 g.2.2.2.1 g.2.2.2.2.1 g.2.2.2.2.2.1 g.2.2.2.2.2.2.1 g.2.2.2.2.2.2.2.1 g.2.2.2.2.2.2.2.2.1 g.2.2.2.2.2.2.2.2.2) (LI g.1 g.2.1 g.2.2.1 g.2.2.2.1 g.2.2.2.2.1 g.2.2.2.2.2.1 g.2.2.2.2.2.2.1 g.2.2.2.2.2.2.2.1 g.2.2.2.2.2.2.2.2.1 g.2.2.2.2.2.2.2.2.2) a w) Q) x env L)
  (k2 : ∀ x0 x1 x2 x3 x4 x5 x6 x7 x8 x9, (φ x0 x1 x2 x3 x4 x5 x6 x7 x8 x9) → WC P n F w₀ Q y (envI x0 x1 x2 x3 x4 x5 x6 x7 x8 x9) (LI x0 x1 x2 x3 x4 x5 x6 x7 x8 x9)) : WC P n F w₀ Q (.seq x y) env L :=
 WC.y64 (G := A0 × A1 × A2 × A3 × A4 × A5 × A6 × A7 × A8 × A9) (fun g => (φ g.1 g.2.1 g.2.2.1 g.2.2.2.1 g.2.2.2.2.1 g.2.2.2.2.2.1 g.2.2.2.2.2.2.1 g.2.2.2.2.2.2.2.1 g.2.2.2.2.2.2.2.2.1 g.2.2.2.2.2.2.2.2.2)) (fun g => (envI g.1 g.2.1 g.2.2.1 g.2.2.2.1 g.2.2.2.2.1 g.2.2.2.2.2.1 g.2.2.2.2.2.2.1 g.2.2.2.2.2.2.2.1 g.2.2.2.2.2.2.2.2.1 g.2.2.2.2.2.2.2.2.2)) (fun g => (LI g.1 g.2.1 g.2.2.1 g.2.2.2.1 g.2.2.2.2.1 g.2.2.2.2.2.1 g.2.2.2.2.2.2.1 g.2.2.2.2.2.2.2.1 g.2.2.2.2.2.2.2.2.1 g.2.2.2.2.2.2.2.2.2)) k1 (fun g h => k2 g.1 g.2.1 g.2.2.1 g.2.2.2.1 g.2.2.2.2.1 g.2.2.2.2.2.1 g.2.2.2.2.2.2.1 g.2.2.2.2.2.2.2.1 g.2.2.2.2.2.2.2.2.1 g.2.2.2.2.2.2.2.2.2 h)
end
end Sep

/- A part of this claim's proof: regions that draw their order. No conditions. -/
import Derived.Test.YtcahmabkeaijdaaGreatSepCore
set_option linter.all false
set_option linter.unusedSectionVars false
namespace Sep
open Go Go.RowKit
variable [Rnd]
def Oper.y1f (P : Program) (o : Oper) (a : Act) (next : Act → World → Prop) : Result Next → Prop
 | .ok (.value v) w' => next (a.put o.dst v) w'
 | .ok .skip w' => next (a.put o.dst undef) w'
 | .ok (.enter f args) w' => Calls P f args w' fun e w'' => ∃ v, e = .returned v ∧ next (a.put o.dst v) w''
 | _ => False
def opN (P : Program) (ops : Array Oper) (i : Nat) (K : Act → World → Prop) (a : Act) (w : World) : Prop :=
 match ops[i]? with
 | none => K a w
 | some o => if Region.wanted o (yielded ops a.tmps) then Oper.y1f P o a K ((execOp a.eval o).run P w) else K (a.put o.dst undef) w
theorem Oper.ybi {P : Program} {o : Oper} {a : Act} {K K' : Act → World → Prop} (h : ∀ a w, K a w → K' a w) {r : Result Next}
  (hh : Oper.y1f P o a K r) : Oper.y1f P o a K' r := by
 cases r with
 | ok x w' =>
  cases x <;> simp only [Oper.y1f] at hh ⊢ <;> first
   | exact h _ _ hh
   | exact hh.mono fun e w'' ⟨v, he, hk⟩ => ⟨v, he, h _ _ hk⟩
 | halt x w' => exact hh
theorem ycW {P : Program} {ops : Array Oper} {Q : Exit → Act → World → Prop} {i : Nat} {K : Act → World → Prop} {a : Act} {w : World}
  (h : opN P ops i K a w) : wpOpIn FN 0 P ops Q i K a w := by
 unfold opN at h
 unfold wpOpIn
 cases ho : ops[i]? with
 | none => simpa [ho] using h
 | some o =>
  simp only [ho] at h ⊢
  split
  ·rename_i hw
   simp only [hw, if_true] at h
   generalize hr : (execOp a.eval o).run P w = r at h
   cases r with
   | ok x w' =>
    cases x <;> simp only [Oper.y1f] at h <;> first
     | exact y9t hr h
     | exact ycm hr h
     | exact ycn hr h
   | halt x w' => simp only [Oper.y1f] at h
  ·rename_i hw
   simp only [hw] at h
   exact ⟨fun _ _ => trivial, h⟩
theorem y9u {P : Program} {ops : Array Oper} {i : Nat} {K K' : Act → World → Prop} {a : Act} {w : World} (h : ∀ a w, K a w → K' a w)
  (hh : opN P ops i K a w) : opN P ops i K' a w := by
 unfold opN at hh ⊢
 cases ho : ops[i]? with
 | none => simp only [ho] at hh ⊢; exact h _ _ hh
 | some o =>
  simp only [ho] at hh ⊢
  split
  ·rename_i hw; simp only [hw, if_true] at hh; exact Oper.ybi h hh
  ·rename_i hw; simp only [hw] at hh; exact h _ _ hh
def y3B (ops : Array Oper) (i : Nat) : Array Bool :=
 ops.foldl (init := #[]) fun acc o => acc.push (o.after.any fun e => Region.binds .any e && (Nat.beq e.on i || acc.getD e.on false))
def finB (ops : Array Oper) (j : Nat) : Bool := (List.range ops.size).all fun k => Nat.beq k j || (y3B ops k).getD j false
theorem ydK {ops : Array Oper} {i j : Nat} {oi : Oper} (hi : ops[i]? = some oi) (h : finB ops j = true) (hji : j ≠ i) : (y3B ops i).getD j false = true := by
 unfold finB at h
 simp only [List.all_eq_true, List.mem_range, Bool.or_eq_true] at h
 obtain ⟨hlt, _⟩ := Array.getElem?_eq_some_iff.1 hi
 rcases h i hlt with h | h
 ·exact absurd (Nat.eq_of_beq_eq_true h).symm hji
 ·exact h
def y41 (P : Program) (ops : Array Oper) (tl : Nat → Bool) (St : World → Prop) (Q : Act → World → Prop) : Nat → Array Bool → Act → World → Prop
 | 0, listed, a, w => ∀ w', Ext w w' → Region.ready .any ops listed = [] ∧ Q a w'
 | fuel + 1, listed, a, w => ∀ w', Ext w w' → (Region.ready .any ops listed = [] → Q a w') ∧
   ∀ i ∈ Region.ready .any ops listed, opN P ops i (fun a' w'' => ((tl i = false → Ext w' w'') ∧ (finB ops i = false → St w' → St w'')) ∧ y41 P ops tl St Q fuel (listed.setIfInBounds i true) a' w'') a w'
section
variable {P : Program} {ops : Array Oper} {tl : Nat → Bool} {St : World → Prop} {Q : Act → World → Prop}
theorem y41.up : ∀ {fuel : Nat} {listed : Array Bool} {a : Act} {w w' : World}, y41 P ops tl St Q fuel listed a w → Ext w w' → y41 P ops tl St Q fuel listed a w'
 | 0, _, _, _, _, h, e => fun _ e' => h _ (e.trans e')
 | _ + 1, _, _, _, _, h, e => fun _ e' => h _ (e.trans e')
theorem y41.ya9 {Q' : Exit → Act → World → Prop} (hQ : ∀ a w, Q a w → Q' .normal a w) : ∀ {fuel : Nat} {listed : Array Bool} {a : Act} {w : World}, y41 P ops tl St Q fuel listed a w → wpAnyIn FN 0 P .any ops Q' fuel listed a w
 | 0, _, _, w, h => let ⟨h1, h2⟩ := h w (.refl w); ⟨h1, hQ _ _ h2⟩
 | _ + 1, _, _, w, h => let ⟨h1, h2⟩ := h w (.refl w)
  ⟨fun e => hQ _ _ (h1 e), fun i hi => ycW (y9u (fun _ _ hk => y41.ya9 hQ hk.2) (h2 i hi))⟩
def yco (P : Program) (w : World) (v : Value) : Result Next → Prop
 | .ok (.value u) w' => Ext w w' ∧ u = v
 | .ok (.enter f args) w' => Ext w w' ∧ Calls P f args w' fun e w'' => e = .returned v ∧ Ext w' w''
 | _ => False
def YE (P : Program) (ops : Array Oper) (o : Oper) (v : Value) (a : Act) (w : World) : Prop :=
 (Region.wanted o (yielded ops a.tmps) = true ∧ ∀ w', Ext w w' → yco P w' v ((execOp a.eval o).run P w')) ∨
 (Region.wanted o (yielded ops a.tmps) = false ∧ v = undef)
theorem YE.up {o : Oper} {v : Value} {a : Act} {w w' : World} (h : YE P ops o v a w) (e : Ext w w') : YE P ops o v a w' :=
 h.imp (fun h => ⟨h.1, fun w'' e' => h.2 w'' (e.trans e')⟩) id
theorem YE.same {o : Oper} {v : Value} {a a' : Act} {w : World} (hy : YE P ops o v a w) (he : execOp a'.eval o = execOp a.eval o)
  (hw : Region.wanted o (yielded ops a'.tmps) = Region.wanted o (yielded ops a.tmps)) : YE P ops o v a' w := by
 unfold YE at *
 rw [he, hw]
 exact hy
theorem YE.opN {i : Nat} {o : Oper} {v : Value} {a : Act} {w : World} (hi : ops[i]? = some o) (hy : YE P ops o v a w) {K : Act → World → Prop}
  (h : ∀ w', Ext w w' → K (a.put o.dst v) w') : opN P ops i K a w := by
 unfold Sep.opN
 simp only [hi]
 rcases hy with ⟨hw, hv⟩ | ⟨hw, rfl⟩
 ·simp only [hw, if_true]
  have := hv w (.refl w)
  generalize (execOp a.eval o).run P w = r at this
  cases r with
  | ok x w' =>
   cases x <;> simp only [yco] at this <;> simp only [Oper.y1f]
   case value u => obtain ⟨e, rfl⟩ := this; exact h _ e
   case enter f args =>
    obtain ⟨e, hc⟩ := this
    exact hc.mono fun e' w'' ⟨he, hx⟩ => ⟨v, he, h _ (e.trans hx)⟩
  | halt x w' => simp only [yco] at this
 ·simp only [hw, Bool.false_eq_true, if_false]
  exact h _ (.refl _)
theorem opN_put {j : Nat} {oi oj : Oper} {v : Value} (hj : ops[j]? = some oj) (hap : oi.apart ops oj = true)
  (hsi : ∀ cs b, oi.op ≠ .select cs b) (hsj : ∀ cs b, oj.op ≠ .select cs b) {K : Act → World → Prop} {a : Act} {w : World}
  (hy : YE P ops oi v a w) (h : opN P ops j K (a.put oi.dst v) w) :
  opN P ops j (fun a' w' => YE P ops oi v a' w ∧ K (a'.put oi.dst v) w') a w := by
 obtain ⟨h1, h2, h3⟩ := Oper.apart_spec hap
 have keep : ∀ u, YE P ops oi v (a.put oj.dst u) w := fun u =>
  hy.same (execOp_put oi hsi a oj.dst u h3) (wanted_put oi a oj.dst u h3)
 unfold opN at *
 simp only [hj] at *
 rw [wanted_put oj a oi.dst v h1, execOp_put oj hsj a oi.dst v h1] at h
 split
 ·rename_i hw
  simp only [hw, if_true] at h
  generalize (execOp a.eval oj).run P w = r at h ⊢
  cases r with
  | ok x w' =>
   cases x <;> simp only [Oper.y1f] at h ⊢
   case value u => exact ⟨keep u, by rw [← Act.put_comm a v u h2]; exact h⟩
   case skip => exact ⟨keep _, by rw [← Act.put_comm a v undef h2]; exact h⟩
   case enter f args => exact h.mono fun e w'' ⟨u, he, hk⟩ => ⟨u, he, keep u, by rw [← Act.put_comm a v u h2]; exact hk⟩
  | halt x w' => simp only [Oper.y1f] at h
 ·rename_i hw
  simp only [hw] at h
  exact ⟨keep _, by rw [← Act.put_comm a v undef h2]; exact h⟩
theorem opN_putP {j : Nat} {oi oj : Oper} {v : Value} (hj : ops[j]? = some oj) (hap : oi.apart ops oj = true)
  (hsi : ∀ cs b, oi.op ≠ .select cs b) (hsj : ∀ cs b, oj.op ≠ .select cs b) {K : Act → World → Prop} {a : Act} {w : World}
  (hy : ∀ w', YE P ops oi v a w') (h : opN P ops j K (a.put oi.dst v) w) :
  opN P ops j (fun a' w' => (∀ w', YE P ops oi v a' w') ∧ K (a'.put oi.dst v) w') a w := by
 obtain ⟨h1, h2, h3⟩ := Oper.apart_spec hap
 have keep : ∀ u, ∀ w', YE P ops oi v (a.put oj.dst u) w' := fun u w' =>
  (hy w').same (execOp_put oi hsi a oj.dst u h3) (wanted_put oi a oj.dst u h3)
 unfold opN at *
 simp only [hj] at *
 rw [wanted_put oj a oi.dst v h1, execOp_put oj hsj a oi.dst v h1] at h
 split
 ·rename_i hw
  simp only [hw, if_true] at h
  generalize (execOp a.eval oj).run P w = r at h ⊢
  cases r with
  | ok x w' =>
   cases x <;> simp only [Oper.y1f] at h ⊢
   case value u => exact ⟨keep u, by rw [← Act.put_comm a v u h2]; exact h⟩
   case skip => exact ⟨keep _, by rw [← Act.put_comm a v undef h2]; exact h⟩
   case enter f args => exact h.mono fun e w'' ⟨u, he, hk⟩ => ⟨u, he, keep u, by rw [← Act.put_comm a v u h2]; exact hk⟩
  | halt x w' => simp only [Oper.y1f] at h
 ·rename_i hw
  simp only [hw] at h
  exact ⟨keep _, by rw [← Act.put_comm a v undef h2]; exact h⟩
theorem opN_putS {j : Nat} {oi oj : Oper} {v : Value} (hj : ops[j]? = some oj) (hap : oi.apart ops oj = true)
  (hsi : ∀ cs b, oi.op ≠ .select cs b) (hsj : ∀ cs b, oj.op ≠ .select cs b) {K : Act → World → Prop} {a : Act} {w : World}
  (hst : St w) (hy : ∀ w', St w' → YE P ops oi v a w') (h : opN P ops j K (a.put oi.dst v) w) :
  opN P ops j (fun a' w' => (∀ w', St w' → YE P ops oi v a' w') ∧ K (a'.put oi.dst v) w') a w := by
 obtain ⟨h1, h2, h3⟩ := Oper.apart_spec hap
 have keep : ∀ u, ∀ w', St w' → YE P ops oi v (a.put oj.dst u) w' := fun u w' hs =>
  (hy w' hs).same (execOp_put oi hsi a oj.dst u h3) (wanted_put oi a oj.dst u h3)
 unfold opN at *
 simp only [hj] at *
 rw [wanted_put oj a oi.dst v h1, execOp_put oj hsj a oi.dst v h1] at h
 split
 ·rename_i hw
  simp only [hw, if_true] at h
  generalize (execOp a.eval oj).run P w = r at h ⊢
  cases r with
  | ok x w' =>
   cases x <;> simp only [Oper.y1f] at h ⊢
   case value u => exact ⟨keep u, by rw [← Act.put_comm a v u h2]; exact h⟩
   case skip => exact ⟨keep _, by rw [← Act.put_comm a v undef h2]; exact h⟩
   case enter f args => exact h.mono fun e w'' ⟨u, he, hk⟩ => ⟨u, he, keep u, by rw [← Act.put_comm a v u h2]; exact hk⟩
  | halt x w' => simp only [Oper.y1f] at h
 ·rename_i hw
  simp only [hw] at h
  exact ⟨keep _, by rw [← Act.put_comm a v undef h2]; exact h⟩
theorem yaa {i : Nat} {oi : Oper} {v : Value} {B : Nat → Bool} (hSt : ∀ w w', Ext w w' → St w → St w') (hi : ops[i]? = some oi) (hsel : ∀ (j : Nat) (o : Oper) cs b, ops[j]? = some o → o.op ≠ .select cs b)
  (hB : ∀ j oj, ops[j]? = some oj → B j = true → ∃ e ∈ oj.after, Region.binds .any e = true ∧ (e.on = i ∨ B e.on = true)) :
  ∀ (fuel : Nat) (listed : Array Bool) (a : Act) (w : World),
   (∀ j, B j = true → listed.getD j true = false) →
   (∀ j oj, ops[j]? = some oj → j ≠ i → listed.getD j true = false → B j = false → oi.apart ops oj = true ∧ tl j = false) →
   i ∈ Region.ready .any ops listed → YE P ops oi v a w →
   y41 P ops tl St Q fuel (listed.setIfInBounds i true) (a.put oi.dst v) w → y41 P ops tl St Q (fuel + 1) listed a w := by
 intro fuel
 induction fuel with
 | zero =>
  intro listed a w _ _ hr hy H w' hw'
  refine ⟨fun h => (by rw [h] at hr; cases hr), fun j hj => ?_⟩
  by_cases hji : j = i
  ·subst hji
   by_cases ht : tl j = false
   ·exact (hy.up hw').opN hi fun w'' e => ⟨⟨fun _ => e, fun _ => hSt _ _ e⟩, H.up (hw'.trans e)⟩
   ·exact (hy.up hw').opN hi fun w'' e => ⟨⟨fun h => absurd h ht, fun _ => hSt _ _ e⟩, H.up (hw'.trans e)⟩
  ·have := ready_mono hj hji
   rw [(H w' hw').1] at this
   cases this
 | succ fuel ih =>
  intro listed a w hBl hfree hr hy H w' hw'
  refine ⟨fun h => (by rw [h] at hr; cases hr), fun j hj => ?_⟩
  by_cases hji : j = i
  ·subst hji; exact (hy.up hw').opN hi fun w'' e => ⟨⟨fun _ => e, fun _ => hSt _ _ e⟩, H.up (hw'.trans e)⟩
  ·have h1 := (H w' hw').2 j (ready_mono hj hji)
   obtain ⟨hjun, oj, hoj, hall⟩ := mem_ready.1 hj
   have hcl : ∀ k, listed.getD k true = false → listed.getD k false = true → False := fun k h0 h1 => by
    rcases Nat.lt_or_ge k listed.size with h' | h'
    ·simp [h'] at h0 h1; rw [h0] at h1; cases h1
    ·simp [Array.getElem?_eq_none h'] at h1
   have hnot : B j = false := by
    cases hbj : B j with
    | false => rfl
    | true =>
     obtain ⟨e, he, hb, hon⟩ := hB j oj hoj hbj
     have h1 := hall e he hb
     rcases hon with hon | hon
     ·rw [hon] at h1; exact (hcl i (mem_ready.1 hr).1 h1).elim
     ·exact (hcl e.on (hBl _ hon) h1).elim
   obtain ⟨hap, htl⟩ := hfree j oj hoj hji hjun hnot
   have h2 := opN_put hoj hap (fun cs b => hsel i oi cs b hi) (fun cs b => hsel j oj cs b hoj) (hy.up hw') h1
   have hBl' : ∀ k, B k = true → (listed.setIfInBounds j true).getD k true = false := fun k hk => by
    have hjk : j ≠ k := fun e => by rw [← e, hnot] at hk; cases hk
    rw [getD_set_ne true hjk]; exact hBl k hk
   have hfree' : ∀ k ok, ops[k]? = some ok → k ≠ i → (listed.setIfInBounds j true).getD k true = false →
     B k = false → oi.apart ops ok = true ∧ tl k = false := fun k ok hk hki hun hno => by
    refine hfree k ok hk hki ?_ hno
    by_cases hjk : j = k
    ·subst hjk; exact hjun
    ·rw [getD_set_ne true hjk] at hun; exact hun
   refine y9u (fun a' w'' h3 => ⟨h3.2.1, ?_⟩) h2
   refine ih (listed.setIfInBounds j true) a' w'' hBl' hfree' (ready_mono hr (Ne.symm hji)) (h3.1.up (h3.2.1.1 htl)) ?_
   rw [Array.setIfInBounds_comm _ _ hji]
   exact h3.2.2
theorem y9Y {i : Nat} {oi : Oper} {v : Value} {B : Nat → Bool} (hSt : ∀ w w', Ext w w' → St w → St w') (hi : ops[i]? = some oi) (hsel : ∀ (j : Nat) (o : Oper) cs b, ops[j]? = some o → o.op ≠ .select cs b)
  (hB : ∀ j oj, ops[j]? = some oj → B j = true → ∃ e ∈ oj.after, Region.binds .any e = true ∧ (e.on = i ∨ B e.on = true)) :
  ∀ (fuel : Nat) (listed : Array Bool) (a : Act) (w : World),
   (∀ j, B j = true → listed.getD j true = false) →
   (∀ j oj, ops[j]? = some oj → j ≠ i → listed.getD j true = false → B j = false → oi.apart ops oj = true) →
   i ∈ Region.ready .any ops listed → (∀ w', YE P ops oi v a w') →
   y41 P ops tl St Q fuel (listed.setIfInBounds i true) (a.put oi.dst v) w → y41 P ops tl St Q (fuel + 1) listed a w := by
 intro fuel
 induction fuel with
 | zero =>
  intro listed a w _ _ hr hy H w' hw'
  refine ⟨fun h => (by rw [h] at hr; cases hr), fun j hj => ?_⟩
  by_cases hji : j = i
  ·subst hji
   by_cases ht : tl j = false
   ·exact (hy w').opN hi fun w'' e => ⟨⟨fun _ => e, fun _ => hSt _ _ e⟩, H.up (hw'.trans e)⟩
   ·exact (hy w').opN hi fun w'' e => ⟨⟨fun h => absurd h ht, fun _ => hSt _ _ e⟩, H.up (hw'.trans e)⟩
  ·have := ready_mono hj hji
   rw [(H w' hw').1] at this
   cases this
 | succ fuel ih =>
  intro listed a w hBl hfree hr hy H w' hw'
  refine ⟨fun h => (by rw [h] at hr; cases hr), fun j hj => ?_⟩
  by_cases hji : j = i
  ·subst hji; exact (hy w').opN hi fun w'' e => ⟨⟨fun _ => e, fun _ => hSt _ _ e⟩, H.up (hw'.trans e)⟩
  ·have h1 := (H w' hw').2 j (ready_mono hj hji)
   obtain ⟨hjun, oj, hoj, hall⟩ := mem_ready.1 hj
   have hcl : ∀ k, listed.getD k true = false → listed.getD k false = true → False := fun k h0 h1 => by
    rcases Nat.lt_or_ge k listed.size with h' | h'
    ·simp [h'] at h0 h1; rw [h0] at h1; cases h1
    ·simp [Array.getElem?_eq_none h'] at h1
   have hnot : B j = false := by
    cases hbj : B j with
    | false => rfl
    | true =>
     obtain ⟨e, he, hb, hon⟩ := hB j oj hoj hbj
     have h1 := hall e he hb
     rcases hon with hon | hon
     ·rw [hon] at h1; exact (hcl i (mem_ready.1 hr).1 h1).elim
     ·exact (hcl e.on (hBl _ hon) h1).elim
   have hap := hfree j oj hoj hji hjun hnot
   have h2 := opN_putP hoj hap (fun cs b => hsel i oi cs b hi) (fun cs b => hsel j oj cs b hoj) hy h1
   have hBl' : ∀ k, B k = true → (listed.setIfInBounds j true).getD k true = false := fun k hk => by
    have hjk : j ≠ k := fun e => by rw [← e, hnot] at hk; cases hk
    rw [getD_set_ne true hjk]; exact hBl k hk
   have hfree' : ∀ k ok, ops[k]? = some ok → k ≠ i → (listed.setIfInBounds j true).getD k true = false →
     B k = false → oi.apart ops ok = true := fun k ok hk hki hun hno => by
    refine hfree k ok hk hki ?_ hno
    by_cases hjk : j = k
    ·subst hjk; exact hjun
    ·rw [getD_set_ne true hjk] at hun; exact hun
   refine y9u (fun a' w'' h3 => ⟨h3.2.1, ?_⟩) h2
   refine ih (listed.setIfInBounds j true) a' w'' hBl' hfree' (ready_mono hr (Ne.symm hji)) h3.1 ?_
   rw [Array.setIfInBounds_comm _ _ hji]
   exact h3.2.2
theorem ych {i : Nat} {oi : Oper} {v : Value} {B : Nat → Bool} (hSt : ∀ w w', Ext w w' → St w → St w') (hi : ops[i]? = some oi) (hsel : ∀ (j : Nat) (o : Oper) cs b, ops[j]? = some o → o.op ≠ .select cs b) (hfin : ∀ j, finB ops j = true → j ≠ i → B j = true)
  (hB : ∀ j oj, ops[j]? = some oj → B j = true → ∃ e ∈ oj.after, Region.binds .any e = true ∧ (e.on = i ∨ B e.on = true)) :
  ∀ (fuel : Nat) (listed : Array Bool) (a : Act) (w : World),
   (∀ j, B j = true → listed.getD j true = false) →
   (∀ j oj, ops[j]? = some oj → j ≠ i → listed.getD j true = false → B j = false → oi.apart ops oj = true) →
   i ∈ Region.ready .any ops listed → St w → (∀ w', St w' → YE P ops oi v a w') →
   y41 P ops tl St Q fuel (listed.setIfInBounds i true) (a.put oi.dst v) w → y41 P ops tl St Q (fuel + 1) listed a w := by
 intro fuel
 induction fuel with
 | zero =>
  intro listed a w _ _ hr hst hy H w' hw'
  refine ⟨fun h => (by rw [h] at hr; cases hr), fun j hj => ?_⟩
  by_cases hji : j = i
  ·subst hji
   by_cases ht : tl j = false
   ·exact (hy w' (hSt _ _ hw' hst)).opN hi fun w'' e => ⟨⟨fun _ => e, fun _ => hSt _ _ e⟩, H.up (hw'.trans e)⟩
   ·exact (hy w' (hSt _ _ hw' hst)).opN hi fun w'' e => ⟨⟨fun h => absurd h ht, fun _ => hSt _ _ e⟩, H.up (hw'.trans e)⟩
  ·have := ready_mono hj hji
   rw [(H w' hw').1] at this
   cases this
 | succ fuel ih =>
  intro listed a w hBl hfree hr hst hy H w' hw'
  refine ⟨fun h => (by rw [h] at hr; cases hr), fun j hj => ?_⟩
  by_cases hji : j = i
  ·subst hji; exact (hy w' (hSt _ _ hw' hst)).opN hi fun w'' e => ⟨⟨fun _ => e, fun _ => hSt _ _ e⟩, H.up (hw'.trans e)⟩
  ·have h1 := (H w' hw').2 j (ready_mono hj hji)
   obtain ⟨hjun, oj, hoj, hall⟩ := mem_ready.1 hj
   have hcl : ∀ k, listed.getD k true = false → listed.getD k false = true → False := fun k h0 h1 => by
    rcases Nat.lt_or_ge k listed.size with h' | h'
    ·simp [h'] at h0 h1; rw [h0] at h1; cases h1
    ·simp [Array.getElem?_eq_none h'] at h1
   have hnot : B j = false := by
    cases hbj : B j with
    | false => rfl
    | true =>
     obtain ⟨e, he, hb, hon⟩ := hB j oj hoj hbj
     have h1 := hall e he hb
     rcases hon with hon | hon
     ·rw [hon] at h1; exact (hcl i (mem_ready.1 hr).1 h1).elim
     ·exact (hcl e.on (hBl _ hon) h1).elim
   have hap := hfree j oj hoj hji hjun hnot
   have h2 := opN_putS hoj hap (fun cs b => hsel i oi cs b hi) (fun cs b => hsel j oj cs b hoj) (hSt _ _ hw' hst) hy h1
   have hBl' : ∀ k, B k = true → (listed.setIfInBounds j true).getD k true = false := fun k hk => by
    have hjk : j ≠ k := fun e => by rw [← e, hnot] at hk; cases hk
    rw [getD_set_ne true hjk]; exact hBl k hk
   have hfree' : ∀ k ok, ops[k]? = some ok → k ≠ i → (listed.setIfInBounds j true).getD k true = false →
     B k = false → oi.apart ops ok = true := fun k ok hk hki hun hno => by
    refine hfree k ok hk hki ?_ hno
    by_cases hjk : j = k
    ·subst hjk; exact hjun
    ·rw [getD_set_ne true hjk] at hun; exact hun
   refine y9u (fun a' w'' h3 => ⟨h3.2.1, ?_⟩) h2
   refine ih (listed.setIfInBounds j true) a' w'' hBl' hfree' (ready_mono hr (Ne.symm hji)) (h3.2.1.2 (by cases hfb : finB ops j with | false => rfl | true => rw [hfin j hfb hji] at hnot; cases hnot) (hSt _ _ hw' hst)) h3.1 ?_
   rw [Array.setIfInBounds_comm _ _ hji]
   exact h3.2.2
end
def y45 (ops : Array Oper) (tl : Nat → Bool) (listed : Array Bool) (i : Nat) : Bool :=
 let B := y3B ops i
 match ops[i]? with
 | none => false
 | some oi => Nat.beq B.size ops.size && (List.range ops.size).all fun j =>
   (!B.getD j false || (!listed.getD j true && match ops[j]? with
    | none => false
    | some oj => oj.after.any fun e => Region.binds .any e && (Nat.beq e.on i || B.getD e.on false))) &&
   (Nat.beq j i || listed.getD j true || B.getD j false ||
   match ops[j]? with
   | none => true
   | some oj => oi.apart ops oj && !tl j)
theorem y2h {ops : Array Oper} {tl : Nat → Bool} {listed : Array Bool} {i : Nat} {oi : Oper} (hi : ops[i]? = some oi) (h : y45 ops tl listed i = true) :
  (∀ j oj, ops[j]? = some oj → (y3B ops i).getD j false = true → ∃ e ∈ oj.after, Region.binds .any e = true ∧ (e.on = i ∨ (y3B ops i).getD e.on false = true)) ∧
  (∀ j, (y3B ops i).getD j false = true → listed.getD j true = false) ∧
  (∀ j oj, ops[j]? = some oj → j ≠ i → listed.getD j true = false → (y3B ops i).getD j false = false → oi.apart ops oj = true ∧ tl j = false) := by
 unfold y45 at h
 simp only [hi, Bool.and_eq_true, List.all_eq_true, List.mem_range] at h
 obtain ⟨hsz, h⟩ := h
 have hsz' := Nat.eq_of_beq_eq_true hsz
 have hlt : ∀ j, (y3B ops i).getD j false = true → j < ops.size := fun j hj => by
  rcases Nat.lt_or_ge j ops.size with h' | h'
  ·exact h'
  ·simp [Array.getElem?_eq_none (show (y3B ops i).size ≤ j by omega)] at hj
 refine ⟨fun j oj hj hb => ?_, fun j hb => ?_, fun j oj hj hji hun hno => ?_⟩
 ·have := (h j (hlt j hb)).1
  rw [hb, hj] at this
  simp only [Bool.not_true, Bool.false_or, Bool.and_eq_true] at this
  obtain ⟨k, hk, he⟩ := Array.any_eq_true.1 this.2
  simp only [Bool.and_eq_true, Bool.or_eq_true] at he
  exact ⟨_, Array.getElem_mem hk, he.1, he.2.imp Nat.eq_of_beq_eq_true id⟩
 ·have := (h j (hlt j hb)).1
  rw [hb] at this
  simp only [Bool.not_true, Bool.false_or, Bool.and_eq_true, Bool.not_eq_true'] at this
  exact this.1
 ·have hl : j < ops.size := by
   rcases Nat.lt_or_ge j ops.size with h' | h'
   ·exact h'
   ·simp [Array.getElem?_eq_none h'] at hj
  have := (h j hl).2
  rw [hj, y63 hji, hun, hno] at this
  simpa using this
def y56 (ops : Array Oper) : Bool := ops.all fun o => match o.op with | .select .. => false | _ => true
theorem y7e {ops : Array Oper} (h : y56 ops = true) : ∀ (j : Nat) (o : Oper) cs b, ops[j]? = some o → o.op ≠ .select cs b := by
 intro j o cs b hj he
 unfold y56 at h
 rw [Array.all_eq_true] at h
 obtain ⟨hlt, hx⟩ := Array.getElem?_eq_some_iff.1 hj
 have := h j hlt
 rw [hx, he] at this
 cases this
def WD (P : Program) (n : Nat) (F : List Nat) (w₀ : World) (ops : Array Oper) (tl : Nat → Bool) (Ls : List Asrt) (Q : Act → World → Prop) (fuel : Nat) (listed : Array Bool)
  (env : List (Nat × Value)) (L : List Asrt) : Prop := ∀ a w, SS n F w₀ env L a w → y41 P ops tl (fun w => Hp F w₀ w Ls) Q fuel listed a w
inductive Wk : List Asrt → List Asrt → Prop
 | nil : Wk [] []
 | same {x : Asrt} {L M : List Asrt} (t : Wk L M) : Wk (x :: L) (x :: M)
 | any {x y : Asrt} {L M : List Asrt} (hf : y.fp = x.fp) (h : ∀ w, x.ok w → y.ok w) (t : Wk L M) : Wk (x :: L) (y :: M)
theorem Wk.refl : ∀ L : List Asrt, Wk L L
 | [] => .nil
 | _ :: L => .same (Wk.refl L)
theorem Wk.mem {L M : List Asrt} (h : Wk L M) : ∀ y ∈ M, ∃ x ∈ L, y.fp = x.fp ∧ ∀ w, x.ok w → y.ok w := by
 induction h with
 | nil => intro y hy; cases hy
 | @same x _ _ _ ih =>
  intro y hy
  rcases List.mem_cons.1 hy with rfl | hy
  ·exact ⟨_, List.mem_cons_self .., rfl, fun _ h => h⟩
  ·obtain ⟨x, hx, h⟩ := ih y hy; exact ⟨x, List.mem_cons_of_mem _ hx, h⟩
 | @any x y' _ _ hf hk _ ih =>
  intro y hy
  rcases List.mem_cons.1 hy with rfl | hy
  ·exact ⟨_, List.mem_cons_self .., hf, hk⟩
  ·obtain ⟨x, hx, h⟩ := ih y hy; exact ⟨x, List.mem_cons_of_mem _ hx, h⟩
theorem Wk.sep {L M : List Asrt} (h : Wk L M) (hs : L.Pairwise fun x y => ∀ b ∈ x.fp, b ∉ y.fp) : M.Pairwise fun x y => ∀ b ∈ x.fp, b ∉ y.fp := by
 induction h with
 | nil => exact .nil
 | same t ih =>
  rw [List.pairwise_cons] at hs ⊢
  refine ⟨fun y hy b hb => ?_, ih hs.2⟩
  obtain ⟨x, hx, hf, _⟩ := t.mem y hy
  rw [hf]; exact hs.1 x hx b hb
 | any hf _ t ih =>
  rw [List.pairwise_cons] at hs ⊢
  refine ⟨fun y hy b hb => ?_, ih hs.2⟩
  obtain ⟨x, hx, hf', _⟩ := t.mem y hy
  rw [hf']; exact hs.1 x hx b (hf ▸ hb)
theorem Wk.hp {F : List Nat} {w₀ w : World} {L M : List Asrt} (h : Wk L M) (hp : Hp F w₀ w L) : Hp F w₀ w M :=
 ⟨hp.os, hp.tape, hp.output, hp.size, hp.block, fun y hy => by obtain ⟨x, hx, _, hk⟩ := h.mem y hy; exact hk w (hp.ok x hx),
  fun y hy b hb => by obtain ⟨x, hx, hf, _⟩ := h.mem y hy; exact hp.lt x hx b (hf ▸ hb), fun y hy b hb => by obtain ⟨x, hx, hf, _⟩ := h.mem y hy; exact hp.ow x hx b (hf ▸ hb), h.sep hp.sep⟩
def Sin (L Ls : List Asrt) : Prop := ∃ L' M, Sel L L' M ∧ Wk L' Ls
theorem Sin.of {L Ls M : List Asrt} (h : Sel L Ls M) : Sin L Ls := ⟨Ls, M, h, Wk.refl _⟩
theorem Sin.wk {L L' Ls M : List Asrt} (h : Sel L L' M) (k : Wk L' Ls) : Sin L Ls := ⟨L', M, h, k⟩
theorem Sin.hp {F : List Nat} {w₀ w : World} {L Ls : List Asrt} (h : Sin L Ls) (hp : Hp F w₀ w L) : Hp F w₀ w Ls := by
 obtain ⟨L', M, hs, hk⟩ := h
 exact hk.hp (hp.sub hs)
section
variable {P : Program} {n : Nat} {F : List Nat} {w₀ : World} {ops : Array Oper} {tl : Nat → Bool} {Ls : List Asrt} {fuel : Nat} {listed : Array Bool}
 {env : List (Nat × Value)} {L : List Asrt} {o : Oper} {Q : Act → World → Prop}
theorem WD.e {v : Value} {d i : Nat} (hns : y56 ops = true) (hi : ops[i]? = some o) (hr : (Region.ready .any ops listed).contains i = true) (hf : y45 ops tl listed i = true)
  (hg : gd env ops o = some true) (hd : o.dst = some d) (hdn : Nat.blt d n = true)
  (hq : ∀ a w, SS n F w₀ env L a w → (execOp a.eval o).run P w = .ok (.value v) w)
  (k : WD P n F w₀ ops tl Ls Q fuel (listed.setIfInBounds i true) ((d, v) :: env) L) : WD P n F w₀ ops tl Ls Q (fuel + 1) listed env L := by
 intro a w h
 refine yaa (fun _ _ e h => h.ext e) hi (y7e hns) (y2h hi hf).1 fuel listed a w (y2h hi hf).2.1 (y2h hi hf).2.2 (by simpa using hr) (v := v) (.inl ⟨y2o h hg, fun w' e => ?_⟩) ?_
 ·rw [hq a w' (h.world (h.hp.ext e))]; exact ⟨.refl _, rfl⟩
 ·rw [hd]; exact k _ _ (h.put hdn v h.hp)
theorem WD.a {v : Value} {d i : Nat} (hns : y56 ops = true) (hi : ops[i]? = some o) (hr : (Region.ready .any ops listed).contains i = true) (hf : y45 ops (fun _ => false) listed i = true)
  (hg : gd env ops o = some true) (hd : o.dst = some d) (hdn : Nat.blt d n = true)
  (hq : ∀ w₀ a w, SS n [] w₀ env [] a w → (execOp a.eval o).run P w = .ok (.value v) w)
  (k : WD P n F w₀ ops tl Ls Q fuel (listed.setIfInBounds i true) ((d, v) :: env) L) : WD P n F w₀ ops tl Ls Q (fuel + 1) listed env L := by
 intro a w h
 refine y9Y (fun _ _ e h => h.ext e) hi (y7e hns) (y2h hi hf).1 fuel listed a w (y2h hi hf).2.1 (fun j oj h1 h2 h3 h4 => ((y2h hi hf).2.2 j oj h1 h2 h3 h4).1) (by simpa using hr) (v := v) (fun w1 => .inl ⟨y2o h hg, fun w' _ => ?_⟩) ?_
 ·rw [hq w' a w' ⟨h.defers, h.size, h.ev, .nil w' []⟩]; exact ⟨.refl _, rfl⟩
 ·rw [hd]; exact k _ _ (h.put hdn v h.hp)
theorem WD.ydL {v : Value} {d i : Nat} (hns : y56 ops = true) (hi : ops[i]? = some o) (hr : (Region.ready .any ops listed).contains i = true) (hf : y45 ops (fun _ => false) listed i = true)
  (hg : gd env ops o = some true) (hd : o.dst = some d) (hdn : Nat.blt d n = true) (hs : Sin L Ls)
  (hq : ∀ a w, SS n F w₀ env Ls a w → (execOp a.eval o).run P w = .ok (.value v) w)
  (k : WD P n F w₀ ops tl Ls Q fuel (listed.setIfInBounds i true) ((d, v) :: env) L) : WD P n F w₀ ops tl Ls Q (fuel + 1) listed env L := by
 intro a w h
 refine ych (fun _ _ e h => h.ext e) hi (y7e hns) (fun j h1 h2 => ydK hi h1 h2) (y2h hi hf).1 fuel listed a w (y2h hi hf).2.1 (fun j oj h1 h2 h3 h4 => ((y2h hi hf).2.2 j oj h1 h2 h3 h4).1) (by simpa using hr) (v := v) (hs.hp h.hp) (fun w1 hw1 => .inl ⟨y2o h hg, fun w' e => ?_⟩) ?_
 ·rw [hq a w' ⟨h.defers, h.size, h.ev, hw1.ext e⟩]; exact ⟨.refl _, rfl⟩
 ·rw [hd]; exact k _ _ (h.put hdn v h.hp)
theorem WD.c {v : Value} {d i : Nat} {f : FuncId} {vs : Array Value} (hns : y56 ops = true) (hi : ops[i]? = some o) (hr : (Region.ready .any ops listed).contains i = true) (hf : y45 ops tl listed i = true)
  (hg : gd env ops o = some true) (hd : o.dst = some d) (hdn : Nat.blt d n = true)
  (hrun : ∀ a w, SS n F w₀ env L a w → (execOp a.eval o).run P w = .ok (.enter f vs) w)
  (hc : ∀ w, Hp F w₀ w L → Calls P f vs w fun e w' => e = .returned v ∧ Hp [] w w' [])
  (k : WD P n F w₀ ops tl Ls Q fuel (listed.setIfInBounds i true) ((d, v) :: env) L) : WD P n F w₀ ops tl Ls Q (fuel + 1) listed env L := by
 intro a w h
 refine yaa (fun _ _ e h => h.ext e) hi (y7e hns) (y2h hi hf).1 fuel listed a w (y2h hi hf).2.1 (y2h hi hf).2.2 (by simpa using hr) (v := v) (.inl ⟨y2o h hg, fun w' e => ?_⟩) ?_
 ·have h' := h.world (h.hp.ext e)
  rw [hrun a w' h']
  exact ⟨.refl _, (hc w' h'.hp).mono fun e w'' ⟨he, hx⟩ => ⟨he, hx.toExt⟩⟩
 ·rw [hd]; exact k _ _ (h.put hdn v h.hp)
theorem WD.b {d i : Nat} (hns : y56 ops = true) (hi : ops[i]? = some o) (hr : (Region.ready .any ops listed).contains i = true) (hf : y45 ops (fun _ => false) listed i = true)
  (hg : gd env ops o = some false) (hd : o.dst = some d) (hdn : Nat.blt d n = true)
  (k : WD P n F w₀ ops tl Ls Q fuel (listed.setIfInBounds i true) ((d, undef) :: env) L) : WD P n F w₀ ops tl Ls Q (fuel + 1) listed env L := by
 intro a w h
 refine y9Y (fun _ _ e h => h.ext e) hi (y7e hns) (y2h hi hf).1 fuel listed a w (y2h hi hf).2.1 (fun j oj h1 h2 h3 h4 => ((y2h hi hf).2.2 j oj h1 h2 h3 h4).1) (by simpa using hr) (v := undef) (fun _ => .inr ⟨y2o h hg, rfl⟩) ?_
 rw [hd]; exact k _ _ (h.put hdn undef h.hp)
theorem WD.forced {G : Type} {φ : G → Prop} {val : G → Value} {L' : G → List Asrt} {d i : Nat} (hi : ops[i]? = some o) (hr : Region.ready .any ops listed = [i])
  (hg : gd env ops o = some true) (hd : o.dst = some d) (hdn : Nat.blt d n = true)
  (hq : ∀ a w, SS n F w₀ env L a w → ∃ g w', (execOp a.eval o).run P w = .ok (.value (val g)) w' ∧ φ g ∧ Hp F w₀ w' (L' g) ∧ (tl i = false → Ext w w'))
  (hst : tl i = true → ∀ g, Sin (L' g) Ls)
  (k : ∀ g, φ g → WD P n F w₀ ops tl Ls Q fuel (listed.setIfInBounds i true) ((d, val g) :: env) (L' g)) : WD P n F w₀ ops tl Ls Q (fuel + 1) listed env L := by
 intro a w h w' e
 have h' := h.world (h.hp.ext e)
 rw [hr]
 refine ⟨by simp, fun j hj => ?_⟩
 simp at hj; subst hj
 obtain ⟨g, w'', hrun, hφ, hp, hx⟩ := hq a w' h'
 unfold opN
 simp only [hi, y2o h' hg, if_true, hrun, Oper.y1f, hd]
 refine ⟨⟨hx, fun _ h0 => ?_⟩, k g hφ _ _ (h'.put hdn _ hp)⟩
 cases ht : tl j with
 | false => exact h0.ext (hx ht)
 | true => exact (hst ht g).hp hp
theorem WD.forced0 {L' : List Asrt} {i : Nat} (hi : ops[i]? = some o) (hr : Region.ready .any ops listed = [i])
  (hg : gd env ops o = some true) (hd : o.dst = none) (ht : tl i = true) (hst : Sin L' Ls)
  (hq : ∀ a w, SS n F w₀ env L a w → ∃ w', y93 P o a w w' ∧ Hp F w₀ w' L')
  (k : WD P n F w₀ ops tl Ls Q fuel (listed.setIfInBounds i true) env L') : WD P n F w₀ ops tl Ls Q (fuel + 1) listed env L := by
 intro a w h w' e
 have h' := h.world (h.hp.ext e)
 rw [hr]
 refine ⟨by simp, fun j hj => ?_⟩
 simp at hj; subst hj
 obtain ⟨w'', hrun, hp⟩ := hq a w' h'
 unfold opN
 rcases hrun with hrun | ⟨v, hrun⟩
 ·simp only [hi, y2o h' hg, if_true, hrun, Oper.y1f, hd]
  exact ⟨⟨fun hf => (by rw [ht] at hf; cases hf), fun _ _ => hst.hp hp⟩, k _ _ (h'.world hp)⟩
 ·simp only [hi, y2o h' hg, if_true, hrun, Oper.y1f, hd]
  exact ⟨⟨fun hf => (by rw [ht] at hf; cases hf), fun _ _ => hst.hp hp⟩, k _ _ (h'.world hp)⟩
theorem WD.y2F {L' : List Asrt} {i : Nat} (hi : ops[i]? = some o) (hr : Region.ready .any ops listed = [i])
  (hg : gd env ops o = some true) (hd : o.dst = none) (ht : tl i = true) (hst : finB ops i = true)
  (hq : ∀ a w, SS n F w₀ env L a w → ∃ w', y93 P o a w w' ∧ Hp F w₀ w' L')
  (k : WD P n F w₀ ops tl Ls Q fuel (listed.setIfInBounds i true) env L') : WD P n F w₀ ops tl Ls Q (fuel + 1) listed env L := by
 intro a w h w' e
 have h' := h.world (h.hp.ext e)
 rw [hr]
 refine ⟨by simp, fun j hj => ?_⟩
 simp at hj; subst hj
 obtain ⟨w'', hrun, hp⟩ := hq a w' h'
 unfold opN
 rcases hrun with hrun | ⟨v, hrun⟩
 ·simp only [hi, y2o h' hg, if_true, hrun, Oper.y1f, hd]
  exact ⟨⟨fun hf => (by rw [ht] at hf; cases hf), fun hf => by rw [hst] at hf; cases hf⟩, k _ _ (h'.world hp)⟩
 ·simp only [hi, y2o h' hg, if_true, hrun, Oper.y1f, hd]
  exact ⟨⟨fun hf => (by rw [ht] at hf; cases hf), fun hf => by rw [hst] at hf; cases hf⟩, k _ _ (h'.world hp)⟩
theorem WD.forcedCall {G : Type} {φ : G → Prop} {val : G → Value} {M : G → List Asrt} {f : FuncId} {vs : Array Value} {Lc Lr : List Asrt} {d i : Nat} (hi : ops[i]? = some o) (hr : Region.ready .any ops listed = [i])
  (hg : gd env ops o = some true) (hd : o.dst = some d) (hdn : Nat.blt d n = true) (ht : (tl i = true ∧ ∀ g, Sin (M g ++ Lr) Ls) ∨ Lc = [])
  (hrun : ∀ a w, SS n F w₀ env L a w → (execOp a.eval o).run P w = .ok (.enter f vs) w)
  (hs : Sel L Lc Lr)
  (hc : ∀ w, Hp F w₀ w L → Calls P f vs w fun e w' => ∃ g, e = .returned (val g) ∧ φ g ∧ Hp (Lc.flatMap (·.fp)) w w' (M g))
  (k : ∀ g, φ g → WD P n F w₀ ops tl Ls Q fuel (listed.setIfInBounds i true) ((d, val g) :: env) (M g ++ Lr)) : WD P n F w₀ ops tl Ls Q (fuel + 1) listed env L := by
 intro a w h w' e
 have h' := h.world (h.hp.ext e)
 rw [hr]
 refine ⟨by simp, fun j hj => ?_⟩
 simp at hj; subst hj
 unfold opN
 simp only [hi, y2o h' hg, if_true, hrun a w' h', Oper.y1f, hd]
 refine (hc w' h'.hp).mono ?_
 rintro e' w'' ⟨g, rfl, hφ, hp⟩
 have hnew := h'.hp.call hs hp
 refine ⟨_, rfl, ⟨fun hf => ?_, fun _ h0 => ?_⟩, k g hφ _ _ (h'.put hdn _ hnew)⟩
 ·rcases ht with ht | rfl
  ·rw [ht.1] at hf; cases hf
  ·exact hp.toExt
 ·rcases ht with ht | rfl
  ·exact (ht.2 g).hp hnew
  ·exact h0.ext hp.toExt
theorem WD.done (hr : Region.ready .any ops listed = []) {Q' : Exit → Act → World → Prop} (k : WX n F w₀ Q' .normal env L) : WD P n F w₀ ops tl Ls (Q' .normal) fuel listed env L := by
 intro a w h
 cases fuel with
 | zero => exact fun w' e => ⟨hr, k _ _ (h.world (h.hp.ext e))⟩
 | succ f => exact fun w' e => ⟨fun _ => k _ _ (h.world (h.hp.ext e)), fun i hi => by rw [hr] at hi; cases hi⟩
theorem WD.restr {env' : List (Nat × Value)} (hr : Restr env env') (k : WD P n F w₀ ops tl Ls Q fuel listed env' L) : WD P n F w₀ ops tl Ls Q fuel listed env L :=
 fun a w h => k a w (h.restr hr)
theorem WC.yL {Q : Exit → Act → World → Prop} {id : Nat} {l : List Oper} (tl : Nat → Bool) (Ls : List Asrt) (hm : P.follows .mixedOrders = true)
  (k : WD P n F w₀ l.toArray tl Ls (Q .normal) l.length (Array.replicate l.length false) env L) : WC P n F w₀ Q (.region id l.toArray true) env L := by
 intro a w h
 refine wpIn_region_any hm ?_
 have := k a _ (h.world (h.hp.ext (Ext.drew w (w.drawn + 1) (Nat.le_succ _))))
 simpa using y41.ya9 (Q' := Q) (fun _ _ h => h) this
end
end Sep

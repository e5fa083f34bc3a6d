/- A part of this claim's proof: models of functions, walks, plain laws. No conditions. -/
import Derived.Test.YtahpdiojgdlmgaaZFast
namespace Sep
open Go Go.RowKit
set_option linter.all false
section unroll
variable [Rnd] {P : Program} {n : Nat} {F : List Nat} {w₀ : World} {Q : Exit → Act → World → Prop} {env : List (Nat × Value)} {L : List Asrt} {c : Code}
def y1b (P : Program) (Q : Exit → Act → World → Prop) (c : Code) (a : Act) (w : World) : Prop :=
 ∀ (b : Frame) (k : List Item) (cs : List Frame), b.roundOf = FN.round → FN.fn b.fn → FN.room (cs.length + 1 + 0) →
  ∃ e a' w', Q e a' w' ∧ ArrivesIn (Machine.fenced P FN) P (lone (b.atR a (.code c :: .inLoop c :: k)) cs w) b k cs e a' w'
theorem y1b.of (h : WC P n F w₀ (Exit.then (y1b P Q c) Q) c env L) : ∀ a w, SS n F w₀ env L a w → y1b P Q c a w := by
 intro a w hs b k cs hro hb hrm
 obtain ⟨e, a₁, w₁, hq, harr⟩ := h a w hs b (.inLoop c :: k) cs hro hb hrm
 cases e with
 | normal =>
  have hq : y1b P Q c a₁ w₁ := hq
  obtain ⟨e₂, a₂, w₂, hq₂, harr₂⟩ := hq b k cs hro hb hrm
  exact ⟨e₂, a₂, w₂, hq₂, .of_steps (StepsIn.trans harr (.one (fenced_calm hb hrm rfl) stepR_inLoop)) harr₂⟩
 | exit id => exact ⟨_, a₁, w₁, hq, .pass (x := .inLoop c) rfl (fun _ _ => .inl (by simp)) harr⟩
 | goto l => exact ⟨_, a₁, w₁, hq, .pass (x := .inLoop c) rfl (fun _ _ => .inl (by simp)) harr⟩
 | ret => exact ⟨_, a₁, w₁, hq, .pass (x := .inLoop c) rfl (fun _ _ => .inl (by simp)) harr⟩
 | panic ch => exact ⟨_, a₁, w₁, hq, .pass (x := .inLoop c) rfl (fun _ _ => .inl (by simp)) harr⟩
 | outgrown => exact ⟨_, a₁, w₁, hq, .pass (x := .inLoop c) rfl (fun _ _ => .inl (by simp)) harr⟩
theorem WC.unroll (h : WC P n F w₀ (Exit.then (y1b P Q c) Q) c env L) : WC P n F w₀ Q (.loop c) env L := by
 intro a w hs b k cs hro hb hrm
 obtain ⟨e, a', w', hq, harr⟩ := y1b.of h a w hs b k cs hro hb hrm
 exact ⟨e, a', w', hq, .of_steps (.one (fenced_calm hb hrm rfl) stepR_loop) harr⟩
theorem WX.again (h : WC P n F w₀ (Exit.then (y1b P Q c) Q) c env L) : WX n F w₀ (Exit.then (y1b P Q c) Q) .normal env L :=
 fun a w hs => y1b.of h a w hs
def y1D (P : Program) (t : TypeId) (i : Int) (k : Nat) : Prop := ∀ (kk : IntKind) (a : Addr) (w : World), (Instr.indexAt t (.pointer (some a)) (.int kk i)).run P w = .ok (.pointer (some (a.add k))) w
theorem y1J {t e : TypeId} {m s : Nat} {i : Int} {inf : TypeInfo} (h : P.underlying t = some (.array m e)) (hi : P.info? e = some inf) (hs : inf.size = s) (h0 : 0 ≤ i) (h1 : i < m) {k : Nat} (hk : i.toNat * s = k) : y1D P t i k := by
 subst hs hk
 intro kk a w
 have he : P.elem t = e := by simp [Program.elem, h]
 have hl : P.arrayLen t = m := by simp [Program.arrayLen, h]
 rw [run_indexAt_array w t a kk i (by rw [he, hl]; exact h)]
 simp [h0, hl, h1, he, Go.sizeOf, typeInfo, hi]
theorem y1K {t : TypeId} {x y : Operand} {A A' : Addr} {kk : IntKind} {i : Int} {k : Nat} {d : Option Nat} {ty : TypeId} {pos after g} (ht : y1D P t i k) (hx : eo env x = some (.pointer (some A))) (hy : eo env y = some (.int kk i)) (hA : A.add k = A') :
  Qt P n F w₀ env L ⟨d, .indexAddr t x y, ty, pos, after, g⟩ (.pointer (some A')) := by
 intro a w h
 subst hA
 have := ht kk A w
 simp [execOp, h.eval hx, h.eval hy, this]
end unroll
end Sep

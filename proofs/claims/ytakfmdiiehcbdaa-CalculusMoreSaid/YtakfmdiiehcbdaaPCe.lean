/- A part of this claim's proof: models of functions, walks, plain laws. No conditions. -/
import Derived.Test.YtakfmdiiehcbdaaPCd
namespace Go.Proofs.Ytakfmdiiehcbdaa
open Go Go.RowKit Sep
set_option linter.all false
/-! ### a loop over a function's pairs -/
def y3w {β Sg : Type} (y : β → Sg → Option (Bool × Sg)) (k : Sg → Option Sg) : List β → Sg → Option Sg
 | [], s => k s
 | p :: l, s => (y p s).bind fun x => if !x.1 then some x.2 else y3w y k l x.2
theorem y7Y {β Sg : Type} {y : β → Sg → Option (Bool × Sg)} {k : Sg → Option Sg} {m : List β} : ∀ (l : List β) (s : Sg), y3w y k (l ++ m) s = y3w y (y3w y k m) l s
 | [], s => rfl
 | p :: l, s => by
  show Option.bind _ _ = Option.bind _ _
  congr 1
  funext x
  show (if _ then _ else y3w y k (l ++ m) x.2) = _
  rw [y7Y l]
theorem y75 {β Sg : Type} {y : β → Sg → Option (Bool × Sg)} {k k' : Sg → Option Sg} (h : ∀ s, k s = k' s) : ∀ (l : List β) (s : Sg), y3w y k l s = y3w y k' l s
 | [], s => h s
 | p :: l, s => by
  show Option.bind _ _ = Option.bind _ _
  congr 1
  funext x
  rw [y75 h l]
theorem y7Z {Sg : Type} {c d : List B} {y : B × B → Sg → Option (Bool × Sg)} {v : Int} {k : Sg → Option Sg} (hs : (d.length : Int) ≤ 1000000) :
  ∀ (n : Nat) (i : Int) (s : Sg), 0 ≤ i → i ≤ d.length → d.length < n + i → y1Z Sg d y c v k n i s = y3w y k ((d.drop i.toNat).map fun z => (nth c v, z)) s
 | 0, i, s, h0, h1, h2 => by omega
 | n + 1, i, s, h0, h1, h2 => by
  rw [y1Z]
  by_cases h : i < d.length
  ·rw [if_pos (decide_eq_true h), yn ⟨h0, h⟩, y3c h0 h, List.map_cons, y3w]
   show Option.bind (y (nth c v, nth d i) s) _ = _
   congr 1
   funext x
   rw [yr (by omega), y7Z hs n (i + 1) x.2 (by omega) (by omega) (by omega)]
  ·rw [if_neg (by simpa using h), y3C h]
   rfl
def y3x (a b : List B) : List (B × B) := a.flatMap fun x => b.map fun z => (x, z)
theorem y6i {a b : List B} {p : B × B} : p ∈ y3x a b ↔ p.1 ∈ a ∧ p.2 ∈ b := by
 unfold y3x
 simp only [List.mem_flatMap, List.mem_map]
 constructor
 ·rintro ⟨x, hx, z, hz, rfl⟩; exact ⟨hx, hz⟩
 ·intro h; exact ⟨p.1, h.1, p.2, h.2, rfl⟩
theorem y9U (a b : List B) : (y3x a b).length = a.length * b.length := by
 induction a with
 | nil => simp [y3x]
 | cons x a ih =>
  have : y3x (x :: a) b = b.map (fun z => (x, z)) ++ y3x a b := rfl
  rw [this, List.length_append, ih, List.length_map, List.length_cons, Nat.succ_mul]; omega
theorem y80 {Sg : Type} {c d : List B} {y : B × B → Sg → Option (Bool × Sg)} {k : Sg → Option Sg} (hs : (c.length : Int) ≤ 1000000) (hd : (d.length : Int) ≤ 1000000) :
  ∀ (n : Nat) (i : Int) (s : Sg), 0 ≤ i → i ≤ c.length → c.length < n + i → y20 Sg c d y k n i s = y3w y k (y3x (c.drop i.toNat) d) s
 | 0, i, s, h0, h1, h2 => by omega
 | n + 1, i, s, h0, h1, h2 => by
  rw [y20]
  by_cases h : i < c.length
  ·rw [if_pos (decide_eq_true h)]
   refine y3v (P := fun o => o = _) fun k1 hk1 => ?_
   rw [yn ⟨h0, h⟩]
   refine y3v (P := fun o => o = _) fun k2 hk2 => ?_
   rw [y7Z hd ys 0 s (by omega) (by omega) (by rw [y1V]; omega), y3c h0 h]
   show _ = y3w y k (((d.map fun z => (nth c i, z))) ++ y3x (c.drop (i + 1).toNat) d) s
   rw [y7Y, Int.toNat_zero, List.drop_zero]
   refine y75 (fun s' => ?_) _ _
   rw [hk2, hk1, yr (by omega), y80 hs hd n (i + 1) s' (by omega) (by omega) (by omega)]
  ·rw [if_neg (by simpa using h), y3C h]
   rfl
theorem pairs_eq {Sg : Type} {c d : List B} {y : B × B → Sg → Option (Bool × Sg)} {s : Sg} (hs : (c.length : Int) ≤ 1000000) (hd : (d.length : Int) ≤ 1000000) :
  y2N Sg y s c d = y3w y some (y3x c d) s := by
 unfold y2N
 refine y3v (P := fun o => o = _) fun k hk => ?_
 rw [y80 hs hd ys 0 s (by omega) (by omega) (by rw [y1V]; omega), Int.toNat_zero, List.drop_zero]
 exact y75 hk _ _
theorem yae {β γ : Type} {y : β → Nat × List γ × Int → Option (Bool × (Nat × List γ × Int))} {ok : β → Bool} {g : β → List γ} {N : Nat} :
  ∀ (l : List β) (out : List γ), out.length + l.length ≤ N →
   (∀ p ∈ l, (g p).length ≤ 1 ∧ ∀ out : List γ, out.length < N → (ok p = true → y p (0, out, 0) = some (true, (0, out ++ g p, 0))) ∧ (ok p = false → ∃ o, o.length ≤ out.length + 1 ∧ y p (0, out, 0) = some (true, (0, o, 3))) ∧ ∃ o, o.length ≤ out.length + 1 ∧ y p (0, out, 3) = some (true, (0, o, 3))) →
   (∃ out', y3w y some l (0, out, 3) = some (0, out', 3)) ∧ ∃ out', y3w y some l (0, out, 0) = some (0, if l.all ok then (out ++ l.flatMap g, 0) else (out', 3))
 | [], out, hl, h => ⟨⟨out, rfl⟩, ⟨out, by simp [y3w]⟩⟩
 | p :: l, out, hl, h => by
  simp only [List.length_cons] at hl
  obtain ⟨h1, hp⟩ := h p (by simp)
  obtain ⟨h2, h3, h4⟩ := hp out (by omega)
  have ih := fun o ho => yae l o ho fun q hq => h q (by simp [hq])
  constructor
  ·obtain ⟨o1, hl1, e1⟩ := h4
   obtain ⟨o, ho⟩ := (ih o1 (by omega)).1
   exact ⟨o, by rw [y3w, e1, Option.bind_some]; exact ho⟩
  ·cases hb : ok p with
   | true =>
    obtain ⟨o, ho⟩ := (ih (out ++ g p) (by rw [List.length_append]; omega)).2
    refine ⟨o, ?_⟩
    rw [y3w, h2 hb, Option.bind_some]
    refine Eq.trans (show _ = y3w y some l (0, out ++ g p, 0) from rfl) (ho.trans ?_)
    rw [List.all_cons, hb, Bool.true_and, List.flatMap_cons, List.append_assoc]
   | false =>
    obtain ⟨o1, hl1, e1⟩ := h3 hb
    obtain ⟨o, ho⟩ := (ih o1 (by omega)).1
    refine ⟨o, ?_⟩
    rw [y3w, e1, Option.bind_some]
    refine Eq.trans (show _ = y3w y some l (0, o1, 3) from rfl) (ho.trans ?_)
    rw [List.all_cons, hb, Bool.false_and, if_neg Bool.false_ne_true]
/-! ### Sum -/
theorem y6Q {e : Int} (he : e ≠ 0) {f : R → R → Option (R × Int)} {x y : R} : y1j ⟨e⟩ f x y = some (⟨0, 0⟩, ⟨e⟩) := by
 unfold y1j; rw [if_pos (by simpa using he)]
theorem do_ok {f : R → R → Option (R × Int)} {x y : R} {q : Rat} (h : f x y = some (mk q)) : y1j ⟨0⟩ f x y = some (if fits q then (ofQ q, ⟨0⟩) else (⟨0, 0⟩, ⟨3⟩)) := by
 unfold y1j
 rw [if_neg (by simp), h, Option.bind_some]
 unfold mk
 cases fits q <;> rfl
/-! ### Min -/
end Go.Proofs.Ytakfmdiiehcbdaa

/- A part of this claim's proof: models of functions, walks, plain laws. No conditions. -/
import Derived.Test.YtakfmdiiehcbdaaPCd
namespace Go.Proofs.Ytakfmdiiehcbdaa
open Go Go.RowKit Sep
set_option linter.all false
/-! ### a loop over a function's pairs -/
def y3C {β Sg : Type} (y : β → Sg → Option (Bool × Sg)) (k : Sg → Option Sg) : List β → Sg → Option Sg
 | [], s => k s
 | p :: l, s => (y p s).bind fun x => if !x.1 then some x.2 else y3C y k l x.2
theorem y7I {β Sg : Type} {y : β → Sg → Option (Bool × Sg)} {k : Sg → Option Sg} {m : List β} : ∀ (l : List β) (s : Sg), y3C y k (l ++ m) s = y3C y (y3C y k m) l s
 | [], s => rfl
 | p :: l, s => by
  show Option.bind _ _ = Option.bind _ _
  congr 1
  funext x
  show (if _ then _ else y3C y k (l ++ m) x.2) = _
  rw [y7I l]
theorem y72 {β Sg : Type} {y : β → Sg → Option (Bool × Sg)} {k k' : Sg → Option Sg} (h : ∀ s, k s = k' s) : ∀ (l : List β) (s : Sg), y3C y k l s = y3C y k' l s
 | [], s => h s
 | p :: l, s => by
  show Option.bind _ _ = Option.bind _ _
  congr 1
  funext x
  rw [y72 h l]
theorem y7J {Sg : Type} {c d : List B} {y : B × B → Sg → Option (Bool × Sg)} {v : Int} {k : Sg → Option Sg} (hs : (d.length : Int) ≤ 1000000) :
  ∀ (n : Nat) (i : Int) (s : Sg), 0 ≤ i → i ≤ d.length → d.length < n + i → y27 Sg d y c v k n i s = y3C y k ((d.drop i.toNat).map fun z => (nth c v, z)) s
 | 0, i, s, h0, h1, h2 => by omega
 | n + 1, i, s, h0, h1, h2 => by
  rw [y27]
  by_cases h : i < d.length
  ·rw [if_pos (decide_eq_true h), yj ⟨h0, h⟩, y3E h0 h, List.map_cons, y3C]
   show Option.bind (y (nth c v, nth d i) s) _ = _
   congr 1
   funext x
   rw [yn (by omega), y7J hs n (i + 1) x.2 (by omega) (by omega) (by omega)]
  ·rw [if_neg (by simpa using h), y4d h]
   rfl
def y3D (a b : List B) : List (B × B) := a.flatMap fun x => b.map fun z => (x, z)
theorem y6g {a b : List B} {p : B × B} : p ∈ y3D a b ↔ p.1 ∈ a ∧ p.2 ∈ b := by
 unfold y3D
 simp only [List.mem_flatMap, List.mem_map]
 constructor
 ·rintro ⟨x, hx, z, hz, rfl⟩; exact ⟨hx, hz⟩
 ·intro h; exact ⟨p.1, h.1, p.2, h.2, rfl⟩
theorem y9x (a b : List B) : (y3D a b).length = a.length * b.length := by
 induction a with
 | nil => simp [y3D]
 | cons x a ih =>
  have : y3D (x :: a) b = b.map (fun z => (x, z)) ++ y3D a b := rfl
  rw [this, List.length_append, ih, List.length_map, List.length_cons, Nat.succ_mul]; omega
theorem y7K {Sg : Type} {c d : List B} {y : B × B → Sg → Option (Bool × Sg)} {k : Sg → Option Sg} (hs : (c.length : Int) ≤ 1000000) (hd : (d.length : Int) ≤ 1000000) :
  ∀ (n : Nat) (i : Int) (s : Sg), 0 ≤ i → i ≤ c.length → c.length < n + i → y28 Sg c d y k n i s = y3C y k (y3D (c.drop i.toNat) d) s
 | 0, i, s, h0, h1, h2 => by omega
 | n + 1, i, s, h0, h1, h2 => by
  rw [y28]
  by_cases h : i < c.length
  ·rw [if_pos (decide_eq_true h)]
   refine y1P (P := fun o => o = _) fun k1 hk1 => ?_
   rw [yj ⟨h0, h⟩]
   refine y1P (P := fun o => o = _) fun k2 hk2 => ?_
   rw [y7J hd yu 0 s (by omega) (by omega) (by rw [y1C]; omega), y3E h0 h]
   show _ = y3C y k (((d.map fun z => (nth c i, z))) ++ y3D (c.drop (i + 1).toNat) d) s
   rw [y7I, Int.toNat_zero, List.drop_zero]
   refine y72 (fun s' => ?_) _ _
   rw [hk2, hk1, yn (by omega), y7K hs hd n (i + 1) s' (by omega) (by omega) (by omega)]
  ·rw [if_neg (by simpa using h), y4d h]
   rfl
theorem pairs_eq {Sg : Type} {c d : List B} {y : B × B → Sg → Option (Bool × Sg)} {s : Sg} (hs : (c.length : Int) ≤ 1000000) (hd : (d.length : Int) ≤ 1000000) :
  y30 Sg y s c d = y3C y some (y3D c d) s := by
 unfold y30
 refine y1P (P := fun o => o = _) fun k hk => ?_
 rw [y7K hs hd yu 0 s (by omega) (by omega) (by rw [y1C]; omega), Int.toNat_zero, List.drop_zero]
 exact y72 hk _ _
theorem y9O {β γ : Type} {y : β → Nat × List γ × Int → Option (Bool × (Nat × List γ × Int))} {ok : β → Bool} {g : β → List γ} {N : Nat} :
  ∀ (l : List β) (out : List γ), out.length + l.length ≤ N →
   (∀ p ∈ l, (g p).length ≤ 1 ∧ ∀ out : List γ, out.length < N → (ok p = true → y p (0, out, 0) = some (true, (0, out ++ g p, 0))) ∧ (ok p = false → ∃ o, o.length ≤ out.length + 1 ∧ y p (0, out, 0) = some (true, (0, o, 3))) ∧ ∃ o, o.length ≤ out.length + 1 ∧ y p (0, out, 3) = some (true, (0, o, 3))) →
   (∃ out', y3C y some l (0, out, 3) = some (0, out', 3)) ∧ ∃ out', y3C y some l (0, out, 0) = some (0, if l.all ok then (out ++ l.flatMap g, 0) else (out', 3))
 | [], out, hl, h => ⟨⟨out, rfl⟩, ⟨out, by simp [y3C]⟩⟩
 | p :: l, out, hl, h => by
  simp only [List.length_cons] at hl
  obtain ⟨h1, hp⟩ := h p (by simp)
  obtain ⟨h2, h3, h4⟩ := hp out (by omega)
  have ih := fun o ho => y9O l o ho fun q hq => h q (by simp [hq])
  constructor
  ·obtain ⟨o1, hl1, e1⟩ := h4
   obtain ⟨o, ho⟩ := (ih o1 (by omega)).1
   exact ⟨o, by rw [y3C, e1, Option.bind_some]; exact ho⟩
  ·cases hb : ok p with
   | true =>
    obtain ⟨o, ho⟩ := (ih (out ++ g p) (by rw [List.length_append]; omega)).2
    refine ⟨o, ?_⟩
    rw [y3C, h2 hb, Option.bind_some]
    refine Eq.trans (show _ = y3C y some l (0, out ++ g p, 0) from rfl) (ho.trans ?_)
    rw [List.all_cons, hb, Bool.true_and, List.flatMap_cons, List.append_assoc]
   | false =>
    obtain ⟨o1, hl1, e1⟩ := h3 hb
    obtain ⟨o, ho⟩ := (ih o1 (by omega)).1
    refine ⟨o, ?_⟩
    rw [y3C, e1, Option.bind_some]
    refine Eq.trans (show _ = y3C y some l (0, o1, 3) from rfl) (ho.trans ?_)
    rw [List.all_cons, hb, Bool.false_and, if_neg Bool.false_ne_true]
/-! ### Sum -/
theorem y6L {e : Int} (he : e ≠ 0) {f : R → R → Option (R × Int)} {x y : R} : y1j ⟨e⟩ f x y = some (⟨0, 0⟩, ⟨e⟩) := by
 unfold y1j; rw [if_pos (by simpa using he)]
theorem do_ok {f : R → R → Option (R × Int)} {x y : R} {q : Rat} (h : f x y = some (mk q)) : y1j ⟨0⟩ f x y = some (if fits q then (ofQ q, ⟨0⟩) else (⟨0, 0⟩, ⟨3⟩)) := by
 unfold y1j
 rw [if_neg (by simp), h, Option.bind_some]
 unfold mk
 cases fits q <;> rfl
/-! ### Min -/
end Go.Proofs.Ytakfmdiiehcbdaa

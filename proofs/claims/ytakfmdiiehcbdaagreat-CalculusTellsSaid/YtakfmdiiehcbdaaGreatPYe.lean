/- A part of this claim's proof: models of functions, walks, plain laws. No conditions. -/
import Derived.Test.YtakfmdiiehcbdaaGreatPYd
namespace Go.Proofs.YtakfmdiiehcbdaaGreat
open Go Go.RowKit Sep
set_option linter.all false
/-! ### a loop over a function's pairs -/
def y4w {β Sg : Type} (y : β → Sg → Option (Bool × Sg)) (k : Sg → Option Sg) : List β → Sg → Option Sg
 | [], s => k s
 | p :: l, s => (y p s).bind fun x => if !x.1 then some x.2 else y4w y k l x.2
theorem y98 {β Sg : Type} {y : β → Sg → Option (Bool × Sg)} {k : Sg → Option Sg} {m : List β} : ∀ (l : List β) (s : Sg), y4w y k (l ++ m) s = y4w y (y4w y k m) l s
 | [], s => rfl
 | p :: l, s => by
  show Option.bind _ _ = Option.bind _ _
  congr 1
  funext x
  show (if _ then _ else y4w y k (l ++ m) x.2) = _
  rw [y98 l]
theorem y8h {β Sg : Type} {y : β → Sg → Option (Bool × Sg)} {k k' : Sg → Option Sg} (h : ∀ s, k s = k' s) : ∀ (l : List β) (s : Sg), y4w y k l s = y4w y k' l s
 | [], s => h s
 | p :: l, s => by
  show Option.bind _ _ = Option.bind _ _
  congr 1
  funext x
  rw [y8h h l]
theorem y99 {Sg : Type} {c d : List B} {y : B × B → Sg → Option (Bool × Sg)} {v : Int} {k : Sg → Option Sg} (hs : (d.length : Int) ≤ 1000000) :
  ∀ (n : Nat) (i : Int) (s : Sg), 0 ≤ i → i ≤ d.length → d.length < n + i → y2e Sg d y c v k n i s = y4w y k ((d.drop i.toNat).map fun z => (nth c v, z)) s
 | 0, i, s, h0, h1, h2 => by omega
 | n + 1, i, s, h0, h1, h2 => by
  rw [y2e]
  by_cases h : i < d.length
  ·rw [if_pos (decide_eq_true h), ym ⟨h0, h⟩, y1n h0 h, List.map_cons, y4w]
   show Option.bind (y (nth c v, nth d i) s) _ = _
   congr 1
   funext x
   rw [yq (by omega), y99 hs n (i + 1) x.2 (by omega) (by omega) (by omega)]
  ·rw [if_neg (by simpa using h), y1y h]
   rfl
def y46 (a b : List B) : List (B × B) := a.flatMap fun x => b.map fun z => (x, z)
theorem y6l {a b : List B} {p : B × B} : p ∈ y46 a b ↔ p.1 ∈ a ∧ p.2 ∈ b := by
 unfold y46
 simp only [List.mem_flatMap, List.mem_map]
 constructor
 ·rintro ⟨x, hx, z, hz, rfl⟩; exact ⟨hx, hz⟩
 ·intro h; exact ⟨p.1, h.1, p.2, h.2, rfl⟩
theorem ybv (a b : List B) : (y46 a b).length = a.length * b.length := by
 induction a with
 | nil => simp [y46]
 | cons x a ih =>
  have : y46 (x :: a) b = b.map (fun z => (x, z)) ++ y46 a b := rfl
  rw [this, List.length_append, ih, List.length_map, List.length_cons, Nat.succ_mul]; omega
theorem y9a {Sg : Type} {c d : List B} {y : B × B → Sg → Option (Bool × Sg)} {k : Sg → Option Sg} (hs : (c.length : Int) ≤ 1000000) (hd : (d.length : Int) ≤ 1000000) :
  ∀ (n : Nat) (i : Int) (s : Sg), 0 ≤ i → i ≤ c.length → c.length < n + i → y2f Sg c d y k n i s = y4w y k (y46 (c.drop i.toNat) d) s
 | 0, i, s, h0, h1, h2 => by omega
 | n + 1, i, s, h0, h1, h2 => by
  rw [y2f]
  by_cases h : i < c.length
  ·rw [if_pos (decide_eq_true h)]
   refine y2p (P := fun o => o = _) fun k1 hk1 => ?_
   rw [ym ⟨h0, h⟩]
   refine y2p (P := fun o => o = _) fun k2 hk2 => ?_
   rw [y99 hd yu 0 s (by omega) (by omega) (by rw [yU]; omega), y1n h0 h]
   show _ = y4w y k (((d.map fun z => (nth c i, z))) ++ y46 (c.drop (i + 1).toNat) d) s
   rw [y98, Int.toNat_zero, List.drop_zero]
   refine y8h (fun s' => ?_) _ _
   rw [hk2, hk1, yq (by omega), y9a hs hd n (i + 1) s' (by omega) (by omega) (by omega)]
  ·rw [if_neg (by simpa using h), y1y h]
   rfl
theorem pairs_eq {Sg : Type} {c d : List B} {y : B × B → Sg → Option (Bool × Sg)} {s : Sg} (hs : (c.length : Int) ≤ 1000000) (hd : (d.length : Int) ≤ 1000000) :
  y3D Sg y s c d = y4w y some (y46 c d) s := by
 unfold y3D
 refine y2p (P := fun o => o = _) fun k hk => ?_
 rw [y9a hs hd yu 0 s (by omega) (by omega) (by rw [yU]; omega), Int.toNat_zero, List.drop_zero]
 exact y8h hk _ _
theorem ybL {β γ : Type} {y : β → Nat × List γ × Int → Option (Bool × (Nat × List γ × Int))} {ok : β → Bool} {g : β → List γ} {N : Nat} :
  ∀ (l : List β) (out : List γ), out.length + l.length ≤ N →
   (∀ p ∈ l, (g p).length ≤ 1 ∧ ∀ out : List γ, out.length < N → (ok p = true → y p (0, out, 0) = some (true, (0, out ++ g p, 0))) ∧ (ok p = false → ∃ o, o.length ≤ out.length + 1 ∧ y p (0, out, 0) = some (true, (0, o, 3))) ∧ ∃ o, o.length ≤ out.length + 1 ∧ y p (0, out, 3) = some (true, (0, o, 3))) →
   (∃ out', y4w y some l (0, out, 3) = some (0, out', 3)) ∧ ∃ out', y4w y some l (0, out, 0) = some (0, if l.all ok then (out ++ l.flatMap g, 0) else (out', 3))
 | [], out, hl, h => ⟨⟨out, rfl⟩, ⟨out, by simp [y4w]⟩⟩
 | p :: l, out, hl, h => by
  simp only [List.length_cons] at hl
  obtain ⟨h1, hp⟩ := h p (by simp)
  obtain ⟨h2, h3, h4⟩ := hp out (by omega)
  have ih := fun o ho => ybL l o ho fun q hq => h q (by simp [hq])
  constructor
  ·obtain ⟨o1, hl1, e1⟩ := h4
   obtain ⟨o, ho⟩ := (ih o1 (by omega)).1
   exact ⟨o, by rw [y4w, e1, Option.bind_some]; exact ho⟩
  ·cases hb : ok p with
   | true =>
    obtain ⟨o, ho⟩ := (ih (out ++ g p) (by rw [List.length_append]; omega)).2
    refine ⟨o, ?_⟩
    rw [y4w, h2 hb, Option.bind_some]
    refine Eq.trans (show _ = y4w y some l (0, out ++ g p, 0) from rfl) (ho.trans ?_)
    rw [List.all_cons, hb, Bool.true_and, List.flatMap_cons, List.append_assoc]
   | false =>
    obtain ⟨o1, hl1, e1⟩ := h3 hb
    obtain ⟨o, ho⟩ := (ih o1 (by omega)).1
    refine ⟨o, ?_⟩
    rw [y4w, e1, Option.bind_some]
    refine Eq.trans (show _ = y4w y some l (0, o1, 3) from rfl) (ho.trans ?_)
    rw [List.all_cons, hb, Bool.false_and, if_neg Bool.false_ne_true]
/-! ### Sum -/
theorem y7T {e : Int} (he : e ≠ 0) {f : R → R → Option (R × Int)} {x y : R} : y1r ⟨e⟩ f x y = some (⟨0, 0⟩, ⟨e⟩) := by
 unfold y1r; rw [if_pos (by simpa using he)]
theorem do_ok {f : R → R → Option (R × Int)} {x y : R} {q : Rat} (h : f x y = some (mk q)) : y1r ⟨0⟩ f x y = some (if fits q then (ofQ q, ⟨0⟩) else (⟨0, 0⟩, ⟨3⟩)) := by
 unfold y1r
 rw [if_neg (by simp), h, Option.bind_some]
 unfold mk
 cases fits q <;> rfl
/-! ### Min -/
end Go.Proofs.YtakfmdiiehcbdaaGreat

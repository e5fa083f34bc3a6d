/- A part of this claim's proof: memory that is never written again, as a pool of blocks. No conditions. -/
import Derived.Test.YtcahmabkeaijdaaGreatSepTail
set_option linter.all false
namespace Sep
open Go Go.RowKit
set_option linter.unusedSectionVars false
variable [Rnd]
/-! ### memory that is never written again: a pool of blocks -/
abbrev Zp := List (Nat × Obj)
def zok (Z : Zp) (w : World) : Prop := ∀ p ∈ Z, w.heap[p.1]? = some p.2
def PZ (F : List Nat) (w₀ : World) (Z : Zp) : Prop := zok Z w₀ ∧ ∀ p ∈ Z, p.1 ∉ F
def fz (Z : Zp) : Asrt where
 fp := Z.map (·.1)
 ok w := zok Z w
 loc w w' h hl hk := fun p hp => by rw [h p.1 (List.mem_map.2 ⟨p, hp, rfl⟩) (hl p.1 (List.mem_map.2 ⟨p, hp, rfl⟩))]; exact hk p hp
def ZC (Z : Zp) (A : Addr) (cs : List Value) : Prop := ∀ w, zok Z w → ∀ j u, cs[j]? = some u → w.cell? (A.add j) = some u
def Zle (Z Z' : Zp) : Prop := ∀ w, zok Z' w → zok Z w
def ZA (Z : Zp) (x : Asrt) : Prop := ∀ w, zok Z w → x.ok w
theorem Zle.refl (Z : Zp) : Zle Z Z := fun _ h => h
theorem Zle.trans {a b c : Zp} (h : Zle a b) (k : Zle b c) : Zle a c := fun w hw => h w (k w hw)
theorem Zle.left (a b : Zp) : Zle a (a ++ b) := fun _ h p hp => h p (List.mem_append_left _ hp)
theorem Zle.right (a b : Zp) : Zle b (a ++ b) := fun _ h p hp => h p (List.mem_append_right _ hp)
theorem zok.app {a b : Zp} {w : World} (h : zok a w) (k : zok b w) : zok (a ++ b) w := fun p hp => (List.mem_append.1 hp).elim (h p) (k p)
theorem zok.nil (w : World) : zok [] w := fun _ h => by cases h
theorem Zle.app {a b c : Zp} (h : Zle b c) : Zle (a ++ b) (a ++ c) := fun w hw => ((Zle.left a c) w hw).app (h w ((Zle.right a c) w hw))
theorem ZC.mono {Z Z' : Zp} {A : Addr} {cs : List Value} (h : ZC Z A cs) (k : Zle Z Z') : ZC Z' A cs := fun w hw => h w (k w hw)
theorem ZA.mono {Z Z' : Zp} {x : Asrt} (h : ZA Z x) (k : Zle Z Z') : ZA Z' x := fun w hw => h w (k w hw)
def PV (F : List Nat) (w₀ : World) (L : List Asrt) (Z : Zp) : Prop := ∀ w, Hp F w₀ w L → zok Z w
section
variable {F : List Nat} {w₀ : World} {L Lc Lr R R' : List Asrt} {Z Zn : Zp}
theorem zok.lt {w : World} (h : zok Z w) : ∀ p ∈ Z, p.1 < w.heap.size := fun p hp => (Array.getElem?_eq_some_iff.1 (h p hp)).1
theorem PZ.pv (h : PZ F w₀ Z) : PV F w₀ L Z := fun w hp p hpz => by
 rw [hp.block p.1 (h.1.lt p hpz) (h.2 p hpz)]; exact h.1 p hpz
theorem PZ.pv2 (h : PZ F w₀ Z) (hm : Pick L (fz Zn) R) : PV F w₀ L (Z ++ Zn) := fun w hp => (h.pv w hp).app (hp.ok _ hm.mem)
theorem PZ.call {w : World} (h : PZ F w₀ Z) (hp : Hp F w₀ w L) (hs : Sel L Lc Lr) : PZ (fps Lc) w Z :=
 ⟨h.pv w hp, fun p hpz hb => by
  obtain ⟨x, hx, hbx⟩ := hs.fps _ hb
  rcases hp.ow x hx _ hbx with h1 | h1
  ·exact h.2 p hpz h1
  ·have := h.1.lt p hpz; omega⟩
theorem Hp.apart {w : World} {x : Asrt} (hp : Hp F w₀ w L) (hs : Sel L Lc Lr) (hm : x ∈ Lr) : ∀ b ∈ x.fp, b ∉ fps Lc := by
 intro b hb hc
 obtain ⟨y, hy, hby⟩ := List.mem_flatMap.1 hc
 have h0 : (Lc ++ Lr).Pairwise fun x y => ∀ b ∈ x.fp, b ∉ y.fp :=
  (List.Perm.pairwise_iff (fun {x y} hxy b hb hc => hxy b hc hb) hs.perm).1 hp.sep
 exact (List.pairwise_append.1 h0).2.2 y hy _ hm b hby hb
theorem PZ.call2 {w : World} (h : PZ F w₀ Z) (hp : Hp F w₀ w L) (hs : Sel L Lc Lr) (hm : Pick Lr (fz Zn) R) : PZ (fps Lc) w (Z ++ Zn) := by
 have h1 := h.call hp hs
 refine ⟨h1.1.app (hp.ok _ (hs.memr hm.mem)), fun p hpz => ?_⟩
 rcases List.mem_append.1 hpz with hpz | hpz
 ·exact h1.2 p hpz
 ·exact hp.apart hs hm.mem _ (List.mem_map.2 ⟨p, hpz, rfl⟩)
def y88 (w : World) (bs : List Nat) : Zp := bs.filterMap fun b => (w.heap[b]?).map fun o => (b, o)
theorem ybG (w : World) (bs : List Nat) : zok (y88 w bs) w := by
 intro p hp
 obtain ⟨b, _, hb⟩ := List.mem_filterMap.1 hp
 simp only [Option.map_eq_some_iff] at hb
 obtain ⟨o, ho, rfl⟩ := hb
 exact ho
theorem y9w {w : World} {bs : List Nat} {p : Nat × Obj} (hp : p ∈ y88 w bs) : p.1 ∈ bs := by
 obtain ⟨b, hb, hq⟩ := List.mem_filterMap.1 hp
 simp only [Option.map_eq_some_iff] at hq
 obtain ⟨o, ho, rfl⟩ := hq
 exact hb
theorem y9x {w w' : World} {bs : List Nat} {b : Nat} (h : zok (y88 w bs) w') (hb : b ∈ bs) (hl : b < w.heap.size) : w'.heap[b]? = w.heap[b]? := by
 have h1 : w.heap[b]? = some w.heap[b] := Array.getElem?_eq_getElem hl
 rw [h1]
 exact h (b, w.heap[b]) (List.mem_filterMap.2 ⟨b, hb, by rw [h1]; rfl⟩)
theorem PZ.lend {w : World} {B : List Asrt} (h : PZ (fps Lc) w Z) (hp : Hp F w₀ w L) (hs : Sel L Lc Lr) (hb : ∀ x ∈ B, x ∈ Lr) : PZ (fps Lc) w (Z ++ y88 w (fps B)) := by
 refine ⟨h.1.app (ybG _ _), fun p hpz => ?_⟩
 rcases List.mem_append.1 hpz with hpz | hpz
 ·exact h.2 p hpz
 ·obtain ⟨x, hx, hbx⟩ := List.mem_flatMap.1 (y9w hpz)
  exact hp.apart hs (hb x hx) _ hbx
theorem Hp.lent {w : World} {B : List Asrt} {x : Asrt} (hp : Hp F w₀ w L) (hs : Sel L Lc Lr) (hb : ∀ x ∈ B, x ∈ Lr) (hx : x ∈ B) (Z : Zp) : ZA (Z ++ y88 w (fps B)) x := by
 intro w' hw'
 have h1 := (Zle.right Z _) w' hw'
 have hm := hs.memr (hb x hx)
 exact x.loc w w' (fun b hbx hl => y9x h1 (List.mem_flatMap.2 ⟨x, hx, hbx⟩) hl) (hp.lt x hm) (hp.ok x hm)
theorem Hp.pool {w : World} (h : Hp F w₀ w L) : Hp F w₀ w (fz [] :: L) :=
 h.add (zok.nil w) (by simp [fz]) (by simp [fz]) (by simp [fz])
theorem Sel.yac {α : Type} (x y : α) : ∀ R : List α, Sel (x :: y :: R) R [x, y]
 | [] => .nil
 | z :: R => .cons (.there (.there .here)) (Sel.yac x y R)
theorem Hp.freeze {w : World} {x : Asrt} (hm : Pick L x R) (hz : Pick R (fz Zn) R') (h : Hp F w₀ w L) : ∃ Zn', Zle Zn Zn' ∧ ZA Zn' x ∧ Hp F w₀ w (fz Zn' :: R') := by
 have h1 : Hp F w₀ w (x :: fz Zn :: R') := h.sub (.cons hm (.cons hz .all))
 have hx := h1.lt x (by simp)
 refine ⟨y88 w x.fp ++ Zn, Zle.right _ _, fun w' hw' => ?_, ?_⟩
 ·exact x.loc w w' (fun b hb hl => y9x ((Zle.left _ _) w' hw') hb hl) hx (h1.ok x (by simp))
 ·have hR := h1.sub (L' := R') (M := x :: fz Zn :: []) ?_
  ·refine hR.add (x := fz (y88 w x.fp ++ Zn)) ((ybG _ _).app (h1.ok (fz Zn) (by simp))) ?_ ?_ ?_
   all_goals
    simp only [fz, List.map_append, List.mem_append]
   ·rintro b (hb | hb)
    ·obtain ⟨p, hp, rfl⟩ := List.mem_map.1 hb
     exact hx _ (y9w hp)
    ·exact h1.lt (fz Zn) (by simp) b hb
   ·rintro b (hb | hb)
    ·obtain ⟨p, hp, rfl⟩ := List.mem_map.1 hb
     exact h1.ow x (by simp) _ (y9w hp)
    ·exact h1.ow (fz Zn) (by simp) b hb
   ·rintro y hy b (hb | hb) hc
    ·obtain ⟨p, hp, rfl⟩ := List.mem_map.1 hb
     exact (List.pairwise_cons.1 h1.sep).1 y (by simp [hy]) _ (y9w hp) hc
    ·exact (List.pairwise_cons.1 (List.pairwise_cons.1 h1.sep).2).1 y hy b hb hc
  ·exact Sel.yac x (fz Zn) R'
theorem Hp.merge {w : World} {Z1 Z2 : Zp} (hm : Pick L (fz Z1) R) (hz : Pick R (fz Z2) R') (h : Hp F w₀ w L) : Hp F w₀ w (fz (Z2 ++ Z1) :: R') := by
 have h1 : Hp F w₀ w (fz Z1 :: fz Z2 :: R') := h.sub (.cons hm (.cons hz .all))
 have hR := h1.sub (Sel.yac (fz Z1) (fz Z2) R')
 refine hR.add (x := fz (Z2 ++ Z1)) ((h1.ok (fz Z2) (by simp)).app (h1.ok (fz Z1) (by simp))) ?_ ?_ ?_
 all_goals simp only [fz, List.map_append, List.mem_append]
 ·rintro b (hb | hb)
  ·exact h1.lt (fz Z2) (by simp) b hb
  ·exact h1.lt (fz Z1) (by simp) b hb
 ·rintro b (hb | hb)
  ·exact h1.ow (fz Z2) (by simp) b hb
  ·exact h1.ow (fz Z1) (by simp) b hb
 ·rintro y hy b (hb | hb) hc
  ·exact (List.pairwise_cons.1 (List.pairwise_cons.1 h1.sep).2).1 y hy b hb hc
  ·exact (List.pairwise_cons.1 h1.sep).1 y (by simp [hy]) b hb hc
end
/-! ### reading -/
theorem ZC.sub {Z : Zp} {A : Addr} {cs : List Value} (h : ZC Z A cs) (k : Nat) : ZC Z (A.add k) (cs.drop k) :=
 fun w hw j u hu => by rw [Addr.y65]; exact h w hw _ _ (by simpa using hu)
theorem ZC.pre {Z : Zp} {A : Addr} {cs ds : List Value} (h : ZC Z A (cs ++ ds)) : ZC Z A cs :=
 fun w hw j u hu => h w hw j u (by
  have hj : j < cs.length := (List.getElem?_eq_some_iff.1 hu).1
  rw [List.getElem?_append_left hj]; exact hu)
theorem ZA.stb {Z : Zp} {b : Nat} {T : TypeId} {cs : List Value} (h : ZA Z (stb b T cs)) : ZC Z ⟨b, 0, none⟩ cs := by
 intro w hw j u hu
 have := y94.1 (h w hw)
 rw [Addr.add_lit, cell_of_row w b _ _ T (0, 0) this]
 simpa using hu
section
variable {F : List Nat} {w₀ : World} {L R : List Asrt} {Z : Zp} {v : Value}
theorem y48 {A : Addr} {cs : List Value} (pv : PV F w₀ L Z) (hc : ZC Z A cs) (hv : cs[0]? = some v) : ∀ w, Hp F w₀ w L → w.cell? A = some v := by
 intro w h
 have := hc w (pv w h) 0 v hv
 simpa [Addr.add] using this
theorem y11 {A : Addr} {k : Nat} {cs : List Value} (pv : PV F w₀ L Z) (hc : ZC Z A cs) (hv : cs[k]? = some v) : ∀ w, Hp F w₀ w L → w.cell? (A.add k) = some v :=
 fun w h => hc w (pv w h) k v hv
theorem y1A {A : Addr} {cs : List Value} (pv : PV F w₀ L Z) (hc : ZC Z A cs) : ∀ w, Hp F w₀ w L → ∀ j u, cs[j]? = some u → w.cell? (A.add j) = some u := fun w h => hc w (pv w h)
theorem y98 {A : Addr} {off s : Nat} {cs ds : List Value} (pv : PV F w₀ L Z) (hc : ZC Z A cs) (hd : (cs.drop off).take s = ds) : ∀ w, Hp F w₀ w L → ∀ j u, ds[j]? = some u → w.cell? ((A.add off).add j) = some u := by
 subst hd
 intro w h j u hu
 refine (hc.sub off) w (pv w h) j u ?_
 rw [List.getElem?_take] at hu
 split at hu
 ·exact hu
 ·cases hu
end
/-! ### slices in the pool -/
def RR {α : Type} (sz : Nat) (Pr : List Value → α → Prop) (cs : List Value) (l : List α) : Prop :=
 ∃ rows : List (List Value), rows.flatten = cs ∧ (∀ r ∈ rows, r.length = sz) ∧ rows.length = l.length ∧ ∀ (i : Nat) (r : List Value) (x : α), rows[i]? = some r → l[i]? = some x → Pr r x
def ZS {α : Type} (Z : Zp) (sz : Nat) (Pr : List Value → α → Prop) (ao : Option Addr) (cap : Nat) (l : List α) : Prop :=
 l.length ≤ cap ∧ cap ≤ maxLen ∧ ∃ cs, RR sz Pr cs l ∧ (l ≠ [] → ∃ A, ao = some A ∧ ZC Z A cs)
theorem ZS.nil {α : Type} (Z : Zp) (sz : Nat) (Pr : List Value → α → Prop) : ZS Z sz Pr none 0 [] :=
 ⟨by simp, by simp, [], ⟨[], rfl, by simp, rfl, by simp⟩, fun h => absurd rfl h⟩
theorem ZS.mono {α : Type} {Z Z' : Zp} {sz : Nat} {Pr : List Value → α → Prop} {ao : Option Addr} {cap : Nat} {l : List α} (h : ZS Z sz Pr ao cap l) (k : Zle Z Z') : ZS Z' sz Pr ao cap l := by
 obtain ⟨h1, h2, cs, h3, h4⟩ := h
 exact ⟨h1, h2, cs, h3, fun hne => let ⟨A, hA, hc⟩ := h4 hne; ⟨A, hA, hc.mono k⟩⟩
theorem RR.weak {α : Type} {sz : Nat} {Pr Pr' : List Value → α → Prop} {cs : List Value} {l : List α} (h : RR sz Pr cs l) (k : ∀ r x, Pr r x → Pr' r x) : RR sz Pr' cs l := by
 obtain ⟨rows, h1, h2, h3, h4⟩ := h
 exact ⟨rows, h1, h2, h3, fun i r x hr hx => k r x (h4 i r x hr hx)⟩
theorem ZS.weak {α : Type} {Z : Zp} {sz : Nat} {Pr Pr' : List Value → α → Prop} {ao : Option Addr} {cap : Nat} {l : List α} (h : ZS Z sz Pr ao cap l) (k : ∀ r x, Pr r x → Pr' r x) : ZS Z sz Pr' ao cap l := by
 obtain ⟨h1, h2, cs, h3, h4⟩ := h
 exact ⟨h1, h2, cs, h3.weak k, h4⟩
theorem RR.flat {α : Type} {enc : α → List Value} {sz : Nat} (hl : ∀ x, (enc x).length = sz) (l : List α) : RR sz (fun r x => r = enc x) (l.flatMap enc) l := by
 refine ⟨l.map enc, by rw [List.flatMap_def], ?_, by simp, ?_⟩
 ·intro r hr; obtain ⟨x, _, rfl⟩ := List.mem_map.1 hr; exact hl x
 ·intro i r x hr hx
  rw [List.getElem?_map, hx] at hr
  simpa using hr.symm
theorem RR.nil {α : Type} (sz : Nat) (Pr : List Value → α → Prop) : RR sz Pr [] [] := ⟨[], rfl, by simp, rfl, by simp⟩
theorem RR.one {α : Type} {sz : Nat} {Pr : List Value → α → Prop} {r : List Value} {x : α} (hl : r.length = sz) (h : Pr r x) : RR sz Pr r [x] :=
 ⟨[r], by simp, by simpa using hl, rfl, fun i r' x' hr hx => by
  cases i with
  | zero => simp at hr hx; subst hr hx; exact h
  | succ i => simp at hr⟩
theorem RR.cons {α : Type} {sz : Nat} {Pr : List Value → α → Prop} {r cs : List Value} {x : α} {l : List α} (hl : r.length = sz) (h : Pr r x) (t : RR sz Pr cs l) : RR sz Pr (r ++ cs) (x :: l) := by
 obtain ⟨rows, h1, h2, h3, h4⟩ := t
 refine ⟨r :: rows, by simp [h1], ?_, by simp [h3], ?_⟩
 ·intro r' hr; rcases List.mem_cons.1 hr with rfl | hr
  ·exact hl
  ·exact h2 r' hr
 ·intro i r' x' hr hx
  cases i with
  | zero => simp at hr hx; subst hr hx; exact h
  | succ i => exact h4 i r' x' (by simpa using hr) (by simpa using hx)
theorem RR.app {α : Type} {sz : Nat} {Pr : List Value → α → Prop} {cs ds : List Value} {l m : List α} (h : RR sz Pr cs l) (k : RR sz Pr ds m) : RR sz Pr (cs ++ ds) (l ++ m) := by
 obtain ⟨r1, a1, a2, a3, a4⟩ := h
 obtain ⟨r2, b1, b2, b3, b4⟩ := k
 refine ⟨r1 ++ r2, by simp [a1, b1], ?_, by simp [a3, b3], ?_⟩
 ·intro r hr; rcases List.mem_append.1 hr with hr | hr
  ·exact a2 r hr
  ·exact b2 r hr
 ·intro i r x hr hx
  by_cases hi : i < r1.length
  ·rw [List.getElem?_append_left hi] at hr
   rw [List.getElem?_append_left (by omega)] at hx
   exact a4 i r x hr hx
  ·rw [List.getElem?_append_right (by omega)] at hr
   rw [List.getElem?_append_right (by omega)] at hx
   exact b4 _ r x hr (by rw [a3]; exact hx)
theorem RR.len {α : Type} {sz : Nat} {Pr : List Value → α → Prop} {cs : List Value} {l : List α} (h : RR sz Pr cs l) : cs.length = l.length * sz := by
 obtain ⟨rows, h1, h2, h3, h4⟩ := h
 rw [← h1, ← h3]
 clear h1 h3 h4
 induction rows with
 | nil => simp
 | cons r rs ih => rw [List.flatten_cons, List.length_append, h2 r (by simp), ih (fun r hr => h2 r (List.mem_cons_of_mem _ hr)), List.length_cons, Nat.succ_mul, Nat.add_comm]
theorem RR.elem {α : Type} [Inhabited α] {sz : Nat} {Pr : List Value → α → Prop} {cs : List Value} {l : List α} (h : RR sz Pr cs l) {i : Int} (h0 : 0 ≤ i) (h1 : i < l.length) :
  ∃ r tl, r.length = sz ∧ cs.drop (i.toNat * sz) = r ++ tl ∧ Pr r (nth l i) := by
 obtain ⟨rows, a1, a2, a3, a4⟩ := h
 have hir : i.toNat < rows.length := by omega
 have hr : rows[i.toNat]? = some rows[i.toNat] := List.getElem?_eq_getElem hir
 obtain ⟨tl, ht⟩ := y8f a2 hr
 refine ⟨rows[i.toNat], tl, a2 _ (List.getElem_mem hir), by rw [← a1]; exact ht, ?_⟩
 rw [← y66 h0 h1]
 exact a4 _ _ _ hr (List.getElem?_eq_getElem (by omega))
theorem ZS.elem {α : Type} [Inhabited α] {Z : Zp} {sz : Nat} {Pr : List Value → α → Prop} {ao : Option Addr} {cap : Nat} {l : List α} (h : ZS Z sz Pr ao cap l) {i : Int} (h0 : 0 ≤ i) (h1 : i < l.length) :
  ∃ A r, ao = some A ∧ ZC Z (A.add (i.toNat * sz)) r ∧ r.length = sz ∧ Pr r (nth l i) := by
 obtain ⟨_, _, cs, h3, h4⟩ := h
 obtain ⟨A, hA, hc⟩ := h4 (by rintro rfl; simp at h1; omega)
 obtain ⟨r, tl, hr, hd, hP⟩ := h3.elem h0 h1
 have h5 := hc.sub (i.toNat * sz)
 rw [hd] at h5
 exact ⟨A, r, hA, h5.pre, hr, hP⟩
theorem yad {sz : Nat} : ∀ (rows : List (List Value)) (k : Nat), (∀ r ∈ rows, r.length = sz) → k ≤ rows.length → rows.flatten.drop (k * sz) = (rows.drop k).flatten
 | [], k, _, hk => by simp at hk; subst hk; simp
 | r :: rs, 0, _, _ => by simp
 | r :: rs, k + 1, hr, hk => by
  have h0 : r.length = sz := hr r (by simp)
  rw [List.flatten_cons, Nat.succ_mul, Nat.add_comm, ← h0, ← List.drop_drop, List.drop_left, h0]
  simpa using yad rs k (fun r h => hr r (List.mem_cons_of_mem _ h)) (by simpa using hk)
theorem ZS.sub {α : Type} {Z : Zp} {sz : Nat} {Pr : List Value → α → Prop} {ao : Option Addr} {cap : Nat} {l : List α} (h : ZS Z sz Pr ao cap l) {lo hi : Nat} (h1 : lo ≤ hi) (h2 : hi ≤ l.length) :
  ZS Z sz Pr (if cap = lo then ao else ao.map (·.add (lo * sz))) (cap - lo) ((l.take hi).drop lo) := by
 obtain ⟨g1, g2, cs, ⟨rows, a1, a2, a3, a4⟩, h4⟩ := h
 refine ⟨by simp; omega, by omega, ((rows.take hi).drop lo).flatten, ⟨(rows.take hi).drop lo, rfl, ?_, by simp [a3], ?_⟩, ?_⟩
 ·intro r hr; exact a2 r (List.mem_of_mem_take (List.mem_of_mem_drop hr))
 ·intro i r x hr hx
  simp only [List.getElem?_drop, List.getElem?_take] at hr hx
  split at hr
  ·rename_i hlt; simp only [hlt, if_true] at hx; exact a4 _ _ _ hr hx
  ·cases hr
 ·intro hne
  have hlt : lo < hi := by
   rcases Nat.lt_or_ge lo hi with h' | h'
   ·exact h'
   ·exact absurd (List.drop_eq_nil_of_le (by simp; omega)) hne
  obtain ⟨A, rfl, hc⟩ := h4 (by rintro rfl; simp at h2; omega)
  have hcl : cap ≠ lo := by omega
  refine ⟨A.add (lo * sz), by simp [hcl], ?_⟩
  have := hc.sub (lo * sz)
  rw [← a1, yad rows lo a2 (by omega)] at this
  have e : rows.drop lo = (rows.take hi).drop lo ++ rows.drop hi := by
   rw [← List.drop_append_of_le_length (by simp; omega), List.take_append_drop]
  rw [e, List.flatten_append] at this
  exact this.pre
theorem ZA.row {α : Type} {Z : Zp} {sz : Nat} {Pr : List Value → α → Prop} {ao : Option Addr} {cap : Nat} {e : TypeId} {cs : List Value} {l : List α} (h : ZA Z (row (.slice ao l.length cap) e sz cs)) (hr : RR sz Pr cs l) (hw : ∃ w, zok Z w) : ZS Z sz Pr ao cap l := by
 obtain ⟨w, hw⟩ := hw
 obtain ⟨n, h1, h2⟩ := h w hw
 rcases h2 with ⟨hv, hn⟩ | ⟨b, cap', cur, hv, _, hh, hc1, hc2, hc3, hc4⟩
 ·injection hv with e1 e2 e3
  subst e1 e3
  have hl : l = [] := List.eq_nil_of_length_eq_zero e2
  subst hl
  exact ⟨by simp, by simp, cs, hr, fun hne => absurd rfl hne⟩
 ·injection hv with e1 e2 e3
  subst e1 e3
  refine ⟨by omega, hc2, cs, hr, fun _ => ⟨_, rfl, ?_⟩⟩
  intro w' hw' j u hu
  obtain ⟨n', k1⟩ := h w' hw'
  exact World.ownsRow.cells (g := b) k1 rfl j u hu
end Sep

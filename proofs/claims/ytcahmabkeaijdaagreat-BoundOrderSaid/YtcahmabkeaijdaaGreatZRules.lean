/- A part of this claim's proof: rules over the pool, and the steps of a plain model. No conditions. -/
import Derived.Test.YtcahmabkeaijdaaGreatZMem
import Derived.Laws.MakeOwn
set_option linter.all false
namespace Sep
open Go Go.RowKit
set_option linter.unusedSectionVars false
variable [Rnd]
/-! ### the model's steps -/
def chk {R : Type} (p : Prop) [Decidable p] (k : Option R) : Option R := if p then k else none
theorem yq {R : Type} {p : Prop} [Decidable p] {k : Option R} {r : R} (h : chk p k = some r) : p ∧ k = some r := by
 unfold chk at h; split at h
 ·exact ⟨by assumption, h⟩
 ·cases h
theorem y1c {R : Type} {p : Prop} [Decidable p] {k : Option R} (h : p) : chk p k = k := if_pos h
theorem z7 {A R : Type} {o : Option A} {F : A → Option R} {r : R} (h : o.bind F = some r) : ∃ x, o = some x ∧ F x = some r := Option.bind_eq_some_iff.1 h
theorem yn {R : Type} {b : Bool} {x y : Option R} {r : R} (h : (if b = true then x else y) = some r) (hb : b = true) : x = some r := by rw [if_pos hb] at h; exact h
theorem yo {R : Type} {b : Bool} {x y : Option R} {r : R} (h : (if b = true then x else y) = some r) (hb : b = false) : y = some r := by rw [if_neg (by rw [hb]; exact Bool.false_ne_true)] at h; exact h
def jp0 {R : Type} (K : Option R) (F : Option R → Option R) : Option R := F K
theorem y1u {R : Type} {K : Option R} {F : Option R → Option R} {r : R} (h : jp0 K F = some r) : ∃ k, k = K ∧ F k = some r := ⟨K, rfl, h⟩
def jp1 {R A0 : Type} (K : A0 → Option R) (F : (A0 → Option R) → Option R) : Option R := F K
theorem yU {R A0 : Type} {K : A0 → Option R} {F : (A0 → Option R) → Option R} {r : R} (h : jp1 K F = some r) : ∃ k : A0 → Option R, (∀ x0, k x0 = K x0) ∧ F k = some r := ⟨K, fun _ => rfl, h⟩
def jp2 {R A0 A1 : Type} (K : A0 → A1 → Option R) (F : (A0 → A1 → Option R) → Option R) : Option R := F K
theorem y3D {R A0 A1 : Type} {K : A0 → A1 → Option R} {F : (A0 → A1 → Option R) → Option R} {r : R} (h : jp2 K F = some r) : ∃ k : A0 → A1 → Option R, (∀ x0 x1, k x0 x1 = K x0 x1) ∧ F k = some r := ⟨K, fun _ _ => rfl, h⟩
def jp3 {R A0 A1 A2 : Type} (K : A0 → A1 → A2 → Option R) (F : (A0 → A1 → A2 → Option R) → Option R) : Option R := F K
theorem y4l {R A0 A1 A2 : Type} {K : A0 → A1 → A2 → Option R} {F : (A0 → A1 → A2 → Option R) → Option R} {r : R} (h : jp3 K F = some r) : ∃ k : A0 → A1 → A2 → Option R, (∀ x0 x1 x2, k x0 x1 x2 = K x0 x1 x2) ∧ F k = some r := ⟨K, fun _ _ _ => rfl, h⟩
def jp4 {R A0 A1 A2 A3 : Type} (K : A0 → A1 → A2 → A3 → Option R) (F : (A0 → A1 → A2 → A3 → Option R) → Option R) : Option R := F K
theorem ycs {R A0 A1 A2 A3 : Type} {K : A0 → A1 → A2 → A3 → Option R} {F : (A0 → A1 → A2 → A3 → Option R) → Option R} {r : R} (h : jp4 K F = some r) : ∃ k : A0 → A1 → A2 → A3 → Option R, (∀ x0 x1 x2 x3, k x0 x1 x2 x3 = K x0 x1 x2 x3) ∧ F k = some r := ⟨K, fun _ _ _ _ => rfl, h⟩
def jp5 {R A0 A1 A2 A3 A4 : Type} (K : A0 → A1 → A2 → A3 → A4 → Option R) (F : (A0 → A1 → A2 → A3 → A4 → Option R) → Option R) : Option R := F K
theorem yb6 {R A0 A1 A2 A3 A4 : Type} {K : A0 → A1 → A2 → A3 → A4 → Option R} {F : (A0 → A1 → A2 → A3 → A4 → Option R) → Option R} {r : R} (h : jp5 K F = some r) : ∃ k : A0 → A1 → A2 → A3 → A4 → Option R, (∀ x0 x1 x2 x3 x4, k x0 x1 x2 x3 x4 = K x0 x1 x2 x3 x4) ∧ F k = some r := ⟨K, fun _ _ _ _ _ => rfl, h⟩
def jp6 {R A0 A1 A2 A3 A4 A5 : Type} (K : A0 → A1 → A2 → A3 → A4 → A5 → Option R) (F : (A0 → A1 → A2 → A3 → A4 → A5 → Option R) → Option R) : Option R := F K
theorem jp6_elim {R A0 A1 A2 A3 A4 A5 : Type} {K : A0 → A1 → A2 → A3 → A4 → A5 → Option R} {F : (A0 → A1 → A2 → A3 → A4 → A5 → Option R) → Option R} {r : R} (h : jp6 K F = some r) : ∃ k : A0 → A1 → A2 → A3 → A4 → A5 → Option R, (∀ x0 x1 x2 x3 x4 x5, k x0 x1 x2 x3 x4 x5 = K x0 x1 x2 x3 x4 x5) ∧ F k = some r := ⟨K, fun _ _ _ _ _ _ => rfl, h⟩
def yB : Nat := 18446744073709551616
theorem y2f : yB = 18446744073709551616 := rfl
def i64 (x : Int) : Int := IntKind.wrap .i64 x
def u64 (x : Int) : Int := IntKind.wrap .u64 x
def u8 (x : Int) : Int := IntKind.wrap .u8 x
theorem y1H {x : Int} (h : -9223372036854775808 ≤ x ∧ x ≤ 9223372036854775807) : i64 x = x := w64 h
section
variable {P : Program} {n : Nat} {F : List Nat} {w₀ : World} {env : List (Nat × Value)} {L Lc Lr R R' : List Asrt} {ops : Array Oper} {Q : Exit → Act → World → Prop} {rest l : List Oper}
 {dd : Nat} {d : Option Tmp} {ty : TypeId} {pos : String} {after : Array Edge} {g : Option (Nat × Bool)} {x y : Operand} {v u : Value} {t e T : TypeId} {sz by_ : Nat} {Z Zn : Zp}
 {tl : Nat → Bool} {Ls : List Asrt} {fuel : Nat} {listed : Array Bool} {QD : Act → World → Prop}
/-! ### elements of pool slices -/
theorem WL.znth {α : Type} [Inhabited α] {Pr : List Value → α → Prop} {ls : List α} {ao : Option Addr} {cap : Nat} {kk : IntKind} {i : Int} (hg : gd env ops ⟨some dd, .indexAddr t x y, ty, pos, after, g⟩ = some true) (hdn : Nat.blt dd n = true)
  (ht : elT P t e sz by_) (hx : eo env x = some (.slice ao ls.length cap)) (hy : eo env y = some (.int kk i)) (hs : ZS Z sz Pr ao cap ls) (h01 : 0 ≤ i ∧ i < ls.length)
  (k : ∀ A r, ZC Z A r → r.length = sz → Pr r (Sep.nth ls i) → WL P n F w₀ ops Q rest ((dd, .pointer (some A)) :: env) L) :
  WL P n F w₀ ops Q (⟨some dd, .indexAddr t x y, ty, pos, after, g⟩ :: rest) env L := by
 obtain ⟨A, r, rfl, hc, hl, hp⟩ := hs.elem h01.1 h01.2
 exact WL.a hg rfl hdn (yY ht hx hy h01.1 h01.2 rfl) (k _ r hc hl hp)
theorem WD.znth {j : Nat} {α : Type} [Inhabited α] {Pr : List Value → α → Prop} {ls : List α} {ao : Option Addr} {cap : Nat} {kk : IntKind} {i : Int}
  (hns : y56 ops = true) (hi : ops[j]? = some ⟨some dd, .indexAddr t x y, ty, pos, after, g⟩) (hr : (Region.ready .any ops listed).contains j = true) (hf : y45 ops (fun _ => false) listed j = true)
  (hg : gd env ops ⟨some dd, .indexAddr t x y, ty, pos, after, g⟩ = some true) (hdn : Nat.blt dd n = true)
  (ht : elT P t e sz by_) (hx : eo env x = some (.slice ao ls.length cap)) (hy : eo env y = some (.int kk i)) (hs : ZS Z sz Pr ao cap ls) (h01 : 0 ≤ i ∧ i < ls.length)
  (k : ∀ A r, ZC Z A r → r.length = sz → Pr r (Sep.nth ls i) → WD P n F w₀ ops tl Ls QD fuel (listed.setIfInBounds j true) ((dd, .pointer (some A)) :: env) L) :
  WD P n F w₀ ops tl Ls QD (fuel + 1) listed env L := by
 obtain ⟨A, r, rfl, hc, hl, hp⟩ := hs.elem h01.1 h01.2
 exact WD.a hns hi hr hf hg rfl hdn (fun _ => yY ht hx hy h01.1 h01.2 rfl) (k _ r hc hl hp)
/-! ### parts of pool slices -/
theorem WL.zsub {α : Type} {Pr : List Value → α → Prop} {ls ls' : List α} {ao : Option Addr} {cap : Nat} {lo hi : Int} {lx hx' : Option Operand} {lv hv : Option Value}
  (hg : gd env ops ⟨some dd, .slice t x lx hx' none, ty, pos, after, g⟩ = some true) (hdn : Nat.blt dd n = true)
  (ht : elT P t e sz by_) (hx : eo env x = some (.slice ao ls.length cap)) (hs : ZS Z sz Pr ao cap ls)
  (hl : ∀ a w, SS n F w₀ env L a w → lx.map a.eval = lv) (hh : ∀ a w, SS n F w₀ env L a w → hx'.map a.eval = hv)
  (hlv : match lv with | none => lo = 0 | some (.int _ q) => q = lo | _ => False) (hhv : match hv with | none => hi = ls.length | some (.int _ q) => q = hi | _ => False)
  (hb : 0 ≤ lo ∧ lo ≤ hi ∧ hi ≤ ls.length) (hls : ls' = (ls.take hi.toNat).drop lo.toNat)
  (k : ∀ ao' cap', ZS Z sz Pr ao' cap' ls' → WL P n F w₀ ops Q rest ((dd, .slice ao' ls'.length cap') :: env) L) :
  WL P n F w₀ ops Q (⟨some dd, .slice t x lx hx' none, ty, pos, after, g⟩ :: rest) env L := by
 subst hls
 obtain ⟨h0, h1, h2⟩ := hb
 have hc1 := hs.1
 refine WL.a hg rfl hdn (y6j (lo := lo.toNat) (hi := hi.toNat) ht hx (lv := lv) (hv := hv) hl hh ?_ ?_ (by omega) (by omega) (fun _ => hc1)) ?_
 ·split at hlv
  ·subst hlv; rfl
  ·subst hlv; simp; omega
  ·cases hlv
 ·split at hhv
  ·subst hhv; simp
  ·subst hhv; simp; omega
  ·cases hhv
 have h3 := hs.sub (lo := lo.toNat) (hi := hi.toNat) (by omega) (by omega)
 have h4 : hi.toNat - lo.toNat = ((ls.take hi.toNat).drop lo.toNat).length := by simp; omega
 rw [h4]
 exact k _ _ h3
theorem WD.zsub {j : Nat} {α : Type} {Pr : List Value → α → Prop} {ls ls' : List α} {ao : Option Addr} {cap : Nat} {lo hi : Int} {lx hx' : Option Operand} {lv hv : Option Value}
  (hns : y56 ops = true) (hi' : ops[j]? = some ⟨some dd, .slice t x lx hx' none, ty, pos, after, g⟩) (hr : (Region.ready .any ops listed).contains j = true) (hf : y45 ops (fun _ => false) listed j = true)
  (hg : gd env ops ⟨some dd, .slice t x lx hx' none, ty, pos, after, g⟩ = some true) (hdn : Nat.blt dd n = true)
  (ht : elT P t e sz by_) (hx : eo env x = some (.slice ao ls.length cap)) (hs : ZS Z sz Pr ao cap ls)
  (hl : ∀ w₀ a w, SS n [] w₀ env [] a w → lx.map a.eval = lv) (hh : ∀ w₀ a w, SS n [] w₀ env [] a w → hx'.map a.eval = hv)
  (hlv : match lv with | none => lo = 0 | some (.int _ q) => q = lo | _ => False) (hhv : match hv with | none => hi = ls.length | some (.int _ q) => q = hi | _ => False)
  (hb : 0 ≤ lo ∧ lo ≤ hi ∧ hi ≤ ls.length) (hls : ls' = (ls.take hi.toNat).drop lo.toNat)
  (k : ∀ ao' cap', ZS Z sz Pr ao' cap' ls' → WD P n F w₀ ops tl Ls QD fuel (listed.setIfInBounds j true) ((dd, .slice ao' ls'.length cap') :: env) L) :
  WD P n F w₀ ops tl Ls QD (fuel + 1) listed env L := by
 subst hls
 obtain ⟨h0, h1, h2⟩ := hb
 have hc1 := hs.1
 refine WD.a hns hi' hr hf hg rfl hdn (fun w₀ => y6j (lo := lo.toNat) (hi := hi.toNat) ht hx (lv := lv) (hv := hv) (hl w₀) (hh w₀) ?_ ?_ (by omega) (by omega) (fun _ => hc1)) ?_
 ·split at hlv
  ·subst hlv; rfl
  ·subst hlv; simp; omega
  ·cases hlv
 ·split at hhv
  ·subst hhv; simp
  ·subst hhv; simp; omega
  ·cases hhv
 have h3 := hs.sub (lo := lo.toNat) (hi := hi.toNat) (by omega) (by omega)
 have h4 : hi.toNat - lo.toNat = ((ls.take hi.toNat).drop lo.toNat).length := by simp; omega
 rw [h4]
 exact k _ _ h3
theorem ixo {z : Operand} (h : eo env z = some v) : ∀ a w, SS n F w₀ env L a w → (some z).map a.eval = some v := fun a w hs => by rw [Option.map_some, hs.eval h]
theorem ixn : ∀ a w, SS n F w₀ env L a w → (none : Option Operand).map a.eval = none := fun _ _ _ => rfl
/-! ### owned slices as lists of data -/
theorem y4f {α : Type} {enc : α → List Value} {ao bo : Option Addr} {cap capk : Nat} {l1 l2 : List α} {cs news : List Value} {dty : TypeId} (ht : elT P t e sz by_) (hx : eo env x = some (.slice ao l1.length cap)) (hy : eo env y = some (.slice bo l2.length capk))
  (hm : Pick L (row (.slice ao l1.length cap) e sz cs) R) (hlen : ∀ x, (enc x).length = sz) (hcs : cs = l1.flatMap enc) (hn : news = l2.flatMap enc)
  (hnews : ∀ w, Hp F w₀ w L → news ≠ [] → ∃ A, bo = some A ∧ ∀ j u, news[j]? = some u → w.cell? (A.add j) = some u) (h1 : ∀ u ∈ news, u.oneCell' = true)
  (hb : ((l1 ++ l2).length : Int) * by_ ≤ 140737488355328 ∧ ((l1 ++ l2).length : Int) ≤ 4611686018427387904) :
  Ef P n F w₀ env L ⟨d, .call ⟨.builtin .append, #[x, y], #[t, t]⟩, dty, pos, after, g⟩ (fun _ : Option Addr × Nat => True) (fun p => .slice p.1 (l1 ++ l2).length p.2) (fun p => row (.slice p.1 (l1 ++ l2).length p.2) e sz ((l1 ++ l2).flatMap enc) :: R) := by
 subst hcs hn
 have := ycq (n := n) (dty := dty) (d := d) (pos := pos) (after := after) (g := g) ht hx hy hm (by rw [y6S hlen]) hnews h1 (by simp [maxLen] at *; omega) (by rw [List.length_append] at hb; omega)
 rw [List.length_append, List.flatMap_append]
 exact this
theorem yae {α : Type} {Pr : List Value → α → Prop} {ao bo : Option Addr} {cap capk : Nat} {l1 l2 : List α} {cs news : List Value} {dty : TypeId} (ht : elT P t e sz by_) (hx : eo env x = some (.slice ao l1.length cap)) (hy : eo env y = some (.slice bo l2.length capk))
  (hm : Pick L (row (.slice ao l1.length cap) e sz cs) R) (hn : RR sz Pr news l2)
  (hnews : ∀ w, Hp F w₀ w L → news ≠ [] → ∃ A, bo = some A ∧ ∀ j u, news[j]? = some u → w.cell? (A.add j) = some u) (h1 : ∀ u ∈ news, u.oneCell' = true)
  (hb : ((l1 ++ l2).length : Int) * by_ ≤ 140737488355328 ∧ ((l1 ++ l2).length : Int) ≤ 4611686018427387904) :
  Ef P n F w₀ env L ⟨d, .call ⟨.builtin .append, #[x, y], #[t, t]⟩, dty, pos, after, g⟩ (fun _ : Option Addr × Nat => True) (fun p => .slice p.1 (l1 ++ l2).length p.2) (fun p => row (.slice p.1 (l1 ++ l2).length p.2) e sz (cs ++ news) :: R) := by
 have := ycq (n := n) (dty := dty) (d := d) (pos := pos) (after := after) (g := g) ht hx hy hm hn.len hnews h1 (by simp [maxLen] at *; omega) (by rw [List.length_append] at hb; omega)
 rw [List.length_append]
 exact this
theorem yaf {α : Type} {l : List α} {i : Int} {z0 : α} (h : 0 ≤ i ∧ i ≤ l.length) : (l.take i.toNat ++ List.replicate (l.length - i.toNat) z0).length = l.length := by
 simp; omega
theorem WL.ydR {α : Type} {enc : α → List Value} {ls : List α} {ao : Option Addr} {cap : Nat} {i : Int} {hx' : Operand} {kk : IntKind} (hg : gd env ops ⟨some dd, .slice t x none (some hx') none, ty, pos, after, g⟩ = some true) (hdn : Nat.blt dd n = true)
  (ht : elT P t e sz by_) (hx : eo env x = some (.slice ao ls.length cap)) (hh : eo env hx' = some (.int kk i)) (hm : Pick L (row (.slice ao ls.length cap) e sz (ls.flatMap enc)) R) (hl : ∀ x, (enc x).length = sz) (hi : 0 ≤ i ∧ i ≤ ls.length)
  (k : ∀ ao' cap', WL P n F w₀ ops Q rest ((dd, .slice ao' (ls.take i.toNat).length cap') :: env) (row (.slice ao' (ls.take i.toNat).length cap') e sz ((ls.take i.toNat).flatMap enc) :: R)) :
  WL P n F w₀ ops Q (⟨some dd, .slice t x none (some hx') none, ty, pos, after, g⟩ :: rest) env L := by
 have hlen : (ls.take i.toNat).length = i.toNat := by simp; omega
 refine WL.know (fun w h => h.rowShape hm) fun hs => ?_
 obtain ⟨hcl, hmc, hcm, hs | ⟨b, rfl⟩⟩ := hs
 ·obtain ⟨rfl, h0, rfl⟩ := hs
  have hnil : ls = [] := List.eq_nil_of_length_eq_zero h0
  subst hnil
  refine WL.a hg rfl hdn (y6j (lo := 0) (hi := 0) ht hx (lv := none) (hv := some (.int kk i)) (fun _ _ _ => rfl) (fun a w h => by rw [Option.map_some, h.eval hh]) rfl (by simp at hi; omega) (by omega) (by omega) (by simp)) ?_
  intro a w h
  have := k none 0 a w
  simp only [List.take_nil, List.length_nil, List.flatMap_nil] at this
  exact this (h.world (h.hp.front hm))
 ·refine WL.rowHi (i := i.toNat) hg hdn ht hx hh hm (by omega) (by omega) ?_
  rw [y8Q hl ls _ (by omega)]
  have := k (some ⟨b, 0, none⟩) cap
  rw [hlen] at this
  exact this
theorem WL.ydS {α : Type} {ls : List α} {ao : Option Addr} {cs : List Value} {cap : Nat} {i : Int} {lx : Operand} {kk : IntKind} (hg : gd env ops ⟨some dd, .slice t x (some lx) none none, ty, pos, after, g⟩ = some true) (hdn : Nat.blt dd n = true)
  (ht : elT P t e sz by_) (hx : eo env x = some (.slice ao ls.length cap)) (hh : eo env lx = some (.int kk i)) (hm : Pick L (row (.slice ao ls.length cap) e sz cs) R) (hi : 0 ≤ i ∧ i ≤ ls.length)
  (k : ∀ ao' c, ao' = (if cap = i.toNat then ao else ao.map (·.add (i.toNat * sz))) → WL P n F w₀ ops Q rest ((dd, .slice ao' (ls.length - i.toNat) c) :: env) L) :
  WL P n F w₀ ops Q (⟨some dd, .slice t x (some lx) none none, ty, pos, after, g⟩ :: rest) env L := by
 refine WL.know (fun w h => h.rowShape hm) fun hs => ?_
 obtain ⟨hcl, hmc, hcm, _⟩ := hs
 exact WL.a hg rfl hdn (y6j (lo := i.toNat) (hi := ls.length) ht hx (lv := some (.int kk i)) (hv := none) (fun a w h => by rw [Option.map_some, h.eval hh]) (fun _ _ _ => rfl) (by simp; omega) rfl (by omega) hmc (fun _ => hmc)) (k _ _ rfl)
theorem yct {α : Type} {enc : α → List Value} {z0 : α} {l : List α} {i : Int} {cap c : Nat} {ao ao' : Option Addr} {z : Value} (ht : elT P t e sz by_) (hz : y2n P e z) (hx : eo env x = some (.slice ao' (l.length - i.toNat) c))
  (hao : ao' = (if cap = i.toNat then ao else ao.map (·.add (i.toNat * sz)))) (hi : 0 ≤ i ∧ i ≤ l.length) (hl : ∀ x, (enc x).length = sz) (hsz : 0 < sz) (hzc : z.cells = (enc z0).toArray) (ho : ∀ x, ∀ u ∈ enc x, u.oneCell' = true)
  (hm : Pick L (row (.slice ao l.length cap) e sz (l.flatMap enc)) R) :
  Ef0 P n F w₀ env L ⟨none, .call ⟨.builtin .clear, #[x], #[t]⟩, ty, pos, after, g⟩ (row (.slice ao l.length cap) e sz ((l.take i.toNat ++ List.replicate (l.length - i.toNat) z0).flatMap enc) :: R) := by
 intro a w h
 obtain ⟨hcl, hmc, hcm, hs⟩ := h.hp.rowShape hm
 rcases hs with ⟨rfl, h0, rfl⟩ | ⟨b, rfl⟩
 ·have hnil : l = [] := List.eq_nil_of_length_eq_zero h0
  subst hnil
  have hx' : eo env x = some (.slice ao' 0 c) := by rw [hx]; simp
  refine ⟨w, .inr ⟨.tuple #[], ?_⟩, by simpa using h.hp.front hm⟩
  cases ao' <;> simp [execOp, h.eval hx', resolve, invoke, builtin, Builtin.clear_, run_underlying ht.sl]
 ·exact yaV ht hz hx hao (by omega) (yd5 hl hsz hzc ho) hm (ydp hl hsz hzc (by omega)) a w h
/-! ### the pool grows -/
theorem Hp.freezeS {w : World} {α : Type} {Pr : List Value → α → Prop} {ao : Option Addr} {cap : Nat} {cs : List Value} {ls : List α} (hm : Pick L (row (.slice ao ls.length cap) e sz cs) R) (hz : Pick R (fz Zn) R') (hp : PZ F w₀ Z) (hr : RR sz Pr cs ls) (h : Hp F w₀ w L) :
  ∃ Zn', Zle (Z ++ Zn) (Z ++ Zn') ∧ ZS (Z ++ Zn') sz Pr ao cap ls ∧ Hp F w₀ w (fz Zn' :: R') := by
 obtain ⟨Zn', h1, h2, h3⟩ := h.freeze hm hz
 refine ⟨Zn', h1.app, ?_, h3⟩
 exact ZA.row (h2.mono (Zle.right _ _)) hr ⟨w, (hp.pv w h3).app (h3.ok (fz Zn') (by simp))⟩
theorem Hp.freezeC {w : World} {b : Nat} {cs : List Value} (hm : Pick L (stb b T cs) R) (hz : Pick R (fz Zn) R') (h : Hp F w₀ w L) :
  ∃ Zn', Zle (Z ++ Zn) (Z ++ Zn') ∧ ZC (Z ++ Zn') ⟨b, 0, none⟩ cs ∧ Hp F w₀ w (fz Zn' :: R') := by
 obtain ⟨Zn', h1, h2, h3⟩ := h.freeze hm hz
 exact ⟨Zn', h1.app, (h2.mono (Zle.right _ _)).stb, h3⟩
theorem PZ.now {w : World} (h : PZ F w₀ Z) (hp : Hp F w₀ w L) : PZ [] w Z := ⟨h.pv w hp, by simp⟩
theorem PZ.le {w : World} {Z Z' : Zp} (h : PZ [] w Z') (k : Zle Z Z') : PZ [] w Z := ⟨k w h.1, by simp⟩
theorem ZC.part {Z : Zp} {A : Addr} {off s : Nat} {cs ds : List Value} (h : ZC Z A cs) (hd : (cs.drop off).take s = ds) : ZC Z (A.add off) ds := by
 subst hd
 intro w hw j u hu
 refine (h.sub off) w hw j u ?_
 rw [List.getElem?_take] at hu
 split at hu
 ·exact hu
 ·cases hu
theorem flat_fit {α : Type} {enc : α → List Value} {sz k s : Nat} (hl : ∀ x, (enc x).length = sz) {l : List α} {i : Int} (h0 : 0 ≤ i) (h1 : i < l.length) (hk : k + s ≤ sz) : i.toNat * sz + k + s ≤ (l.flatMap enc).length := by
 rw [y6S hl]
 have h2 : (i.toNat + 1) * sz ≤ l.length * sz := Nat.mul_le_mul_right _ (by omega)
 rw [Nat.succ_mul] at h2
 omega
theorem q_bneq {a b : Bool} {t t' : TypeId} (ht : P.underlying t = some .bool) (hx : eo env x = some (.bool a)) (hy : eo env y = some (.bool b)) : Qt P n F w₀ env L ⟨d, .binOp .neq t x y t', ty, pos, after, g⟩ (.bool (a != b)) := by
 intro a' w h; simp [execOp, h.eval hx, h.eval hy, eqGuard_at_bool, run_neq_bool w t a b ht]; cases a <;> cases b <;> rfl
structure EqT {α : Type} [DecidableEq α] (P : Program) (t : TypeId) (enc : α → List Value) : Prop where
 eq : ∀ (u v : α) (w : World), (Op.equalIn 10000 t (.agg (enc u).toArray) (.agg (enc v).toArray)).run P w = .ok (decide (u = v)) w
 guard : P.eqGuardType P.depth t = false
theorem y6T {α : Type} [DecidableEq α] {enc : α → List Value} {a b : α} {t t' : TypeId} (ht : EqT P t enc) (hx : eo env x = some (.agg (enc a).toArray)) (hy : eo env y = some (.agg (enc b).toArray)) : Qt P n F w₀ env L ⟨d, .binOp .eql t x y t', ty, pos, after, g⟩ (.bool (decide (a = b))) := by
 intro a' w h; simp [execOp, h.eval hx, h.eval hy, run_eqGuard_agg w .eql t x y _ _ ht.guard, run_eql_struct, ht.eq a b w]
theorem y9y {α : Type} [DecidableEq α] {enc : α → List Value} {a b : α} {t t' : TypeId} (ht : EqT P t enc) (hx : eo env x = some (.agg (enc a).toArray)) (hy : eo env y = some (.agg (enc b).toArray)) : Qt P n F w₀ env L ⟨d, .binOp .neq t x y t', ty, pos, after, g⟩ (.bool (decide (a ≠ b))) := by
 intro a' w h; simp [execOp, h.eval hx, h.eval hy, run_eqGuard_agg w .neq t x y _ _ ht.guard, run_neq_struct, ht.eq a b w]
theorem y89 {ao : Option Addr} {m m' cap : Nat} (h : m = m') : Value.slice ao m cap = .slice ao m' cap := by rw [h]
theorem Zle.yu (a b c : Zp) : Zle ((a ++ b) ++ c) (a ++ (b ++ c)) := by rw [List.append_assoc]; exact Zle.refl _
theorem WL.freezeS {l : List Oper} {α : Type} {Pr : List Value → α → Prop} {ao : Option Addr} {cap : Nat} {cs : List Value} {ls : List α} (hm : Pick L (row (.slice ao ls.length cap) e sz cs) R) (hz : Pick R (fz Zn) R') (hp : PZ F w₀ Z) (hr : RR sz Pr cs ls)
  (k : ∀ Zn', Zle (Z ++ Zn) (Z ++ Zn') → ZS (Z ++ Zn') sz Pr ao cap ls → WL P n F w₀ ops Q l env (fz Zn' :: R')) : WL P n F w₀ ops Q l env L := fun a w h => by
 obtain ⟨Zn', h1, h2, h3⟩ := h.hp.freezeS hm hz hp hr
 exact k Zn' h1 h2 a w (h.world h3)
theorem WL.freezeC {l : List Oper} {bb : Nat} {cs : List Value} (hm : Pick L (stb bb T cs) R) (hz : Pick R (fz Zn) R')
  (k : ∀ Zn', Zle (Z ++ Zn) (Z ++ Zn') → ZC (Z ++ Zn') ⟨bb, 0, none⟩ cs → WL P n F w₀ ops Q l env (fz Zn' :: R')) : WL P n F w₀ ops Q l env L := fun a w h => by
 obtain ⟨Zn', h1, h2, h3⟩ := h.hp.freezeC hm hz
 exact k Zn' h1 h2 a w (h.world h3)
theorem WL.pool {l : List Oper} (k : WL P n F w₀ ops Q l env (fz [] :: L)) : WL P n F w₀ ops Q l env L := fun a w h => k a w (h.world h.hp.pool)
theorem WL.merge {l : List Oper} {Z1 Z2 : Zp} (hm : Pick L (fz Z1) R) (hz : Pick R (fz Z2) R') (k : WL P n F w₀ ops Q l env (fz (Z2 ++ Z1) :: R')) : WL P n F w₀ ops Q l env L := fun a w h => k a w (h.world (h.hp.merge hm hz))
theorem WL.relen {l : List Oper} {cs : List Value} (hm : Pick L (row v e sz cs) R) (h : v = u) (k : WL P n F w₀ ops Q l env (row u e sz cs :: R)) : WL P n F w₀ ops Q l env L := by
 subst h
 exact fun a w hs => k a w (hs.world (hs.hp.front hm))
theorem WL.restb {l : List Oper} {bb : Nat} {cs cs' : List Value} (hm : Pick L (stb bb T cs) R) (h : cs = cs') (k : WL P n F w₀ ops Q l env (stb bb T cs' :: R)) : WL P n F w₀ ops Q l env L := by
 subst h
 exact fun a w hs => k a w (hs.world (hs.hp.front hm))
theorem WL.repin {l : List Oper} {i : Nat} (hv : lk env i = some v) (h : v = u) (k : WL P n F w₀ ops Q l ((i, u) :: env) L) : WL P n F w₀ ops Q l env L := by
 subst h
 refine fun a w hs => k a w ⟨hs.defers, hs.size, fun j x hx => ?_, hs.hp⟩
 simp only [lk] at hx
 by_cases hj : j = i
 ·subst hj; simp at hx; subst hx; exact hs.ev _ _ hv
 ·rw [y63 hj] at hx; exact hs.ev j x hx
theorem WC.freezeS {cc : Code} {α : Type} {Pr : List Value → α → Prop} {ao : Option Addr} {cap : Nat} {cs : List Value} {ls : List α} (hm : Pick L (row (.slice ao ls.length cap) e sz cs) R) (hz : Pick R (fz Zn) R') (hp : PZ F w₀ Z) (hr : RR sz Pr cs ls)
  (k : ∀ Zn', Zle (Z ++ Zn) (Z ++ Zn') → ZS (Z ++ Zn') sz Pr ao cap ls → WC P n F w₀ Q cc env (fz Zn' :: R')) : WC P n F w₀ Q cc env L := fun a w h => by
 obtain ⟨Zn', h1, h2, h3⟩ := h.hp.freezeS hm hz hp hr
 exact k Zn' h1 h2 a w (h.world h3)
theorem WC.freezeC {cc : Code} {bb : Nat} {cs : List Value} (hm : Pick L (stb bb T cs) R) (hz : Pick R (fz Zn) R')
  (k : ∀ Zn', Zle (Z ++ Zn) (Z ++ Zn') → ZC (Z ++ Zn') ⟨bb, 0, none⟩ cs → WC P n F w₀ Q cc env (fz Zn' :: R')) : WC P n F w₀ Q cc env L := fun a w h => by
 obtain ⟨Zn', h1, h2, h3⟩ := h.hp.freezeC hm hz
 exact k Zn' h1 h2 a w (h.world h3)
theorem WC.pool {cc : Code} (k : WC P n F w₀ Q cc env (fz [] :: L)) : WC P n F w₀ Q cc env L := fun a w h => k a w (h.world h.hp.pool)
theorem WC.merge {cc : Code} {Z1 Z2 : Zp} (hm : Pick L (fz Z1) R) (hz : Pick R (fz Z2) R') (k : WC P n F w₀ Q cc env (fz (Z2 ++ Z1) :: R')) : WC P n F w₀ Q cc env L := fun a w h => k a w (h.world (h.hp.merge hm hz))
theorem WC.relen {cc : Code} {cs : List Value} (hm : Pick L (row v e sz cs) R) (h : v = u) (k : WC P n F w₀ Q cc env (row u e sz cs :: R)) : WC P n F w₀ Q cc env L := by
 subst h
 exact fun a w hs => k a w (hs.world (hs.hp.front hm))
theorem WC.restb {cc : Code} {bb : Nat} {cs cs' : List Value} (hm : Pick L (stb bb T cs) R) (h : cs = cs') (k : WC P n F w₀ Q cc env (stb bb T cs' :: R)) : WC P n F w₀ Q cc env L := by
 subst h
 exact fun a w hs => k a w (hs.world (hs.hp.front hm))
theorem WC.repin {cc : Code} {i : Nat} (hv : lk env i = some v) (h : v = u) (k : WC P n F w₀ Q cc ((i, u) :: env) L) : WC P n F w₀ Q cc env L := by
 subst h
 refine fun a w hs => k a w ⟨hs.defers, hs.size, fun j x hx => ?_, hs.hp⟩
 simp only [lk] at hx
 by_cases hj : j = i
 ·subst hj; simp at hx; subst hx; exact hs.ev _ _ hv
 ·rw [y63 hj] at hx; exact hs.ev j x hx
theorem WX.freezeS {ex : Exit} {α : Type} {Pr : List Value → α → Prop} {ao : Option Addr} {cap : Nat} {cs : List Value} {ls : List α} (hm : Pick L (row (.slice ao ls.length cap) e sz cs) R) (hz : Pick R (fz Zn) R') (hp : PZ F w₀ Z) (hr : RR sz Pr cs ls)
  (k : ∀ Zn', Zle (Z ++ Zn) (Z ++ Zn') → ZS (Z ++ Zn') sz Pr ao cap ls → WX n F w₀ Q ex env (fz Zn' :: R')) : WX n F w₀ Q ex env L := fun a w h => by
 obtain ⟨Zn', h1, h2, h3⟩ := h.hp.freezeS hm hz hp hr
 exact k Zn' h1 h2 a w (h.world h3)
theorem WX.freezeC {ex : Exit} {bb : Nat} {cs : List Value} (hm : Pick L (stb bb T cs) R) (hz : Pick R (fz Zn) R')
  (k : ∀ Zn', Zle (Z ++ Zn) (Z ++ Zn') → ZC (Z ++ Zn') ⟨bb, 0, none⟩ cs → WX n F w₀ Q ex env (fz Zn' :: R')) : WX n F w₀ Q ex env L := fun a w h => by
 obtain ⟨Zn', h1, h2, h3⟩ := h.hp.freezeC hm hz
 exact k Zn' h1 h2 a w (h.world h3)
theorem WX.pool {ex : Exit} (k : WX n F w₀ Q ex env (fz [] :: L)) : WX n F w₀ Q ex env L := fun a w h => k a w (h.world h.hp.pool)
theorem WX.merge {ex : Exit} {Z1 Z2 : Zp} (hm : Pick L (fz Z1) R) (hz : Pick R (fz Z2) R') (k : WX n F w₀ Q ex env (fz (Z2 ++ Z1) :: R')) : WX n F w₀ Q ex env L := fun a w h => k a w (h.world (h.hp.merge hm hz))
theorem WX.relen {ex : Exit} {cs : List Value} (hm : Pick L (row v e sz cs) R) (h : v = u) (k : WX n F w₀ Q ex env (row u e sz cs :: R)) : WX n F w₀ Q ex env L := by
 subst h
 exact fun a w hs => k a w (hs.world (hs.hp.front hm))
theorem WX.restb {ex : Exit} {bb : Nat} {cs cs' : List Value} (hm : Pick L (stb bb T cs) R) (h : cs = cs') (k : WX n F w₀ Q ex env (stb bb T cs' :: R)) : WX n F w₀ Q ex env L := by
 subst h
 exact fun a w hs => k a w (hs.world (hs.hp.front hm))
theorem WX.repin {ex : Exit} {i : Nat} (hv : lk env i = some v) (h : v = u) (k : WX n F w₀ Q ex ((i, u) :: env) L) : WX n F w₀ Q ex env L := by
 subst h
 refine fun a w hs => k a w ⟨hs.defers, hs.size, fun j x hx => ?_, hs.hp⟩
 simp only [lk] at hx
 by_cases hj : j = i
 ·subst hj; simp at hx; subst hx; exact hs.ev _ _ hv
 ·rw [y63 hj] at hx; exact hs.ev j x hx
theorem WX.nilRow {ex : Exit} (e : TypeId) (sz : Nat) (k : WX n F w₀ Q ex env (row (.slice none 0 0) e sz [] :: L)) : WX n F w₀ Q ex env L := fun a w h => k a w (h.world (h.hp.nilRow e sz))
theorem WD.freezeS  {α : Type} {Pr : List Value → α → Prop} {ao : Option Addr} {cap : Nat} {cs : List Value} {ls : List α} (hm : Pick L (row (.slice ao ls.length cap) e sz cs) R) (hz : Pick R (fz Zn) R') (hp : PZ F w₀ Z) (hr : RR sz Pr cs ls)
  (k : ∀ Zn', Zle (Z ++ Zn) (Z ++ Zn') → ZS (Z ++ Zn') sz Pr ao cap ls → WD P n F w₀ ops tl Ls QD fuel listed env (fz Zn' :: R')) : WD P n F w₀ ops tl Ls QD fuel listed env L := fun a w h => by
 obtain ⟨Zn', h1, h2, h3⟩ := h.hp.freezeS hm hz hp hr
 exact k Zn' h1 h2 a w (h.world h3)
theorem WD.freezeC  {bb : Nat} {cs : List Value} (hm : Pick L (stb bb T cs) R) (hz : Pick R (fz Zn) R')
  (k : ∀ Zn', Zle (Z ++ Zn) (Z ++ Zn') → ZC (Z ++ Zn') ⟨bb, 0, none⟩ cs → WD P n F w₀ ops tl Ls QD fuel listed env (fz Zn' :: R')) : WD P n F w₀ ops tl Ls QD fuel listed env L := fun a w h => by
 obtain ⟨Zn', h1, h2, h3⟩ := h.hp.freezeC hm hz
 exact k Zn' h1 h2 a w (h.world h3)
theorem WD.pool  (k : WD P n F w₀ ops tl Ls QD fuel listed env (fz [] :: L)) : WD P n F w₀ ops tl Ls QD fuel listed env L := fun a w h => k a w (h.world h.hp.pool)
theorem WD.merge  {Z1 Z2 : Zp} (hm : Pick L (fz Z1) R) (hz : Pick R (fz Z2) R') (k : WD P n F w₀ ops tl Ls QD fuel listed env (fz (Z2 ++ Z1) :: R')) : WD P n F w₀ ops tl Ls QD fuel listed env L := fun a w h => k a w (h.world (h.hp.merge hm hz))
theorem WD.relen  {cs : List Value} (hm : Pick L (row v e sz cs) R) (h : v = u) (k : WD P n F w₀ ops tl Ls QD fuel listed env (row u e sz cs :: R)) : WD P n F w₀ ops tl Ls QD fuel listed env L := by
 subst h
 exact fun a w hs => k a w (hs.world (hs.hp.front hm))
theorem WD.restb  {bb : Nat} {cs cs' : List Value} (hm : Pick L (stb bb T cs) R) (h : cs = cs') (k : WD P n F w₀ ops tl Ls QD fuel listed env (stb bb T cs' :: R)) : WD P n F w₀ ops tl Ls QD fuel listed env L := by
 subst h
 exact fun a w hs => k a w (hs.world (hs.hp.front hm))
theorem WD.repin  {i : Nat} (hv : lk env i = some v) (h : v = u) (k : WD P n F w₀ ops tl Ls QD fuel listed ((i, u) :: env) L) : WD P n F w₀ ops tl Ls QD fuel listed env L := by
 subst h
 refine fun a w hs => k a w ⟨hs.defers, hs.size, fun j x hx => ?_, hs.hp⟩
 simp only [lk] at hx
 by_cases hj : j = i
 ·subst hj; simp at hx; subst hx; exact hs.ev _ _ hv
 ·rw [y63 hj] at hx; exact hs.ev j x hx
theorem WC.mid {G : Type} (φ : G → Prop) (envI : G → List (Nat × Value)) (LI : G → List Asrt) {c : Code}
  (k1 : WC P n F w₀ (Exit.then (fun a w => ∃ g, φ g ∧ SS n F w₀ (envI g) (LI g) a w) Q) c env L)
  (k2 : ∀ g, φ g → WX n F w₀ Q .normal (envI g) (LI g)) : WC P n F w₀ Q c env L := by
 intro a w h
 refine Go.wpIn_mono (k1 a w h) ?_
 intro e a' w' hq
 cases e with
 | normal => obtain ⟨g, hφ, hs⟩ := hq; exact k2 g hφ a' w' hs
 | _ => exact hq
theorem WC.yd6 (φ : Prop) (envI : List (Nat × Value)) (LI : List Asrt) {c : Code}
  (k1 : WC P n F w₀ (Exit.then (fun a w => ∃ _g : Unit, φ ∧ SS n F w₀ envI LI a w) Q) c env L)
  (k2 : φ → WX n F w₀ Q .normal envI LI) : WC P n F w₀ Q c env L :=
 WC.mid (G := Unit) (fun _ => φ) (fun _ => envI) (fun _ => LI) k1 (fun _ h => k2 h)
theorem WC.mid1 {A0 : Type} (φ : A0 → Prop) (envI : A0 → List (Nat × Value)) (LI : A0 → List Asrt) {c : Code}
  (k1 : WC P n F w₀ (Exit.then (fun a w => ∃ g : A0, (φ g) ∧ SS n F w₀ (envI g) (LI g) a w) Q) c env L)
  (k2 : ∀ x0, (φ x0) → WX n F w₀ Q .normal (envI x0) (LI x0)) : WC P n F w₀ Q c env L :=
 WC.mid (G := A0) (fun g => (φ g)) (fun g => (envI g)) (fun g => (LI g)) k1 (fun g h => k2 g h)
theorem WC.y8l {A0 A1 : Type} (φ : A0 → A1 → Prop) (envI : A0 → A1 → List (Nat × Value)) (LI : A0 → A1 → List Asrt) {c : Code}
  (k1 : WC P n F w₀ (Exit.then (fun a w => ∃ g : A0 × A1, (φ g.1 g.2) ∧ SS n F w₀ (envI g.1 g.2) (LI g.1 g.2) a w) Q) c env L)
  (k2 : ∀ x0 x1, (φ x0 x1) → WX n F w₀ Q .normal (envI x0 x1) (LI x0 x1)) : WC P n F w₀ Q c env L :=
 WC.mid (G := A0 × A1) (fun g => (φ g.1 g.2)) (fun g => (envI g.1 g.2)) (fun g => (LI g.1 g.2)) k1 (fun g h => k2 g.1 g.2 h)
theorem WC.y99 {A0 A1 A2 : Type} (φ : A0 → A1 → A2 → Prop) (envI : A0 → A1 → A2 → List (Nat × Value)) (LI : A0 → A1 → A2 → List Asrt) {c : Code}
  (k1 : WC P n F w₀ (Exit.then (fun a w => ∃ g : A0 × A1 × A2, (φ g.1 g.2.1 g.2.2) ∧ SS n F w₀ (envI g.1 g.2.1 g.2.2) (LI g.1 g.2.1 g.2.2) a w) Q) c env L)
  (k2 : ∀ x0 x1 x2, (φ x0 x1 x2) → WX n F w₀ Q .normal (envI x0 x1 x2) (LI x0 x1 x2)) : WC P n F w₀ Q c env L :=
 WC.mid (G := A0 × A1 × A2) (fun g => (φ g.1 g.2.1 g.2.2)) (fun g => (envI g.1 g.2.1 g.2.2)) (fun g => (LI g.1 g.2.1 g.2.2)) k1 (fun g h => k2 g.1 g.2.1 g.2.2 h)
theorem WC.mid7 {A0 A1 A2 A3 A4 A5 A6 : Type} (φ : A0 → A1 → A2 → A3 → A4 → A5 → A6 → Prop) (envI : A0 → A1 → A2 → A3 → A4 → A5 → A6 → List (Nat × Value)) (LI : A0 → A1 → A2 → A3 → A4 → A5 → A6 → List Asrt) {c : Code}
  (k1 : WC P n F w₀ (Exit.then (fun a w => ∃ g : A0 × A1 × A2 × A3 × A4 × A5 × A6, (φ g.1 g.2.1 g.2.2.1 g.2.2.2.1 g.2.2.2.2.1 g.2.2.2.2.2.1 g.2.2.2.2.2.2) ∧ SS n F w₀ (envI g.1 g.2.1 g.2.2.1 g.2.2.2.1 g.2.2.2.2.1 g.2.2.2.2.2.1 g.2.2.2.2.2.2) (LI g.1 g.2.1 g.2.2.1 g.2.2.2.1 g.2.2.2.2.1 g.2.2.2.2.2.1 g.2.2.2.2.2.2) a w) Q) c env L)
  (k2 : ∀ x0 x1 x2 x3 x4 x5 x6, (φ x0 x1 x2 x3 x4 x5 x6) → WX n F w₀ Q .normal (envI x0 x1 x2 x3 x4 x5 x6) (LI x0 x1 x2 x3 x4 x5 x6)) : WC P n F w₀ Q c env L :=
 WC.mid (G := A0 × A1 × A2 × A3 × A4 × A5 × A6) (fun g => (φ g.1 g.2.1 g.2.2.1 g.2.2.2.1 g.2.2.2.2.1 g.2.2.2.2.2.1 g.2.2.2.2.2.2)) (fun g => (envI g.1 g.2.1 g.2.2.1 g.2.2.2.1 g.2.2.2.2.1 g.2.2.2.2.2.1 g.2.2.2.2.2.2)) (fun g => (LI g.1 g.2.1 g.2.2.1 g.2.2.2.1 g.2.2.2.2.1 g.2.2.2.2.2.1 g.2.2.2.2.2.2)) k1 (fun g h => k2 g.1 g.2.1 g.2.2.1 g.2.2.2.1 g.2.2.2.2.1 g.2.2.2.2.2.1 g.2.2.2.2.2.2 h)
end
end Sep

/- A part of this claim's proof: rules over the pool, and the steps of a plain model. No conditions. -/
import Derived.Test.YtjdnejbngloieaaDoorZMem
import Derived.Laws.MakeOwn
set_option linter.all false
namespace Sep
open Go Go.RowKit
set_option linter.unusedSectionVars false
variable [Rnd]
/-! ### the model's steps -/
def chk {R : Type} (p : Prop) [Decidable p] (k : Option R) : Option R := if p then k else none
theorem yb {R : Type} {p : Prop} [Decidable p] {k : Option R} {r : R} (h : chk p k = some r) : p ∧ k = some r := by
 unfold chk at h; split at h
 ·exact ⟨by assumption, h⟩
 ·cases h
theorem yv {R : Type} {p : Prop} [Decidable p] {k : Option R} (h : p) : chk p k = k := if_pos h
theorem zd {A R : Type} {o : Option A} {F : A → Option R} {r : R} (h : o.bind F = some r) : ∃ x, o = some x ∧ F x = some r := Option.bind_eq_some_iff.1 h
theorem yc {R : Type} {b : Bool} {x y : Option R} {r : R} (h : (if b = true then x else y) = some r) (hb : b = true) : x = some r := by rw [if_pos hb] at h; exact h
theorem yd {R : Type} {b : Bool} {x y : Option R} {r : R} (h : (if b = true then x else y) = some r) (hb : b = false) : y = some r := by rw [if_neg (by rw [hb]; exact Bool.false_ne_true)] at h; exact h
def jp0 {R : Type} (K : Option R) (F : Option R → Option R) : Option R := F K
theorem y7t {R : Type} {K : Option R} {F : Option R → Option R} {o : Option R} (h : ∀ k, k = K → F k = o) : jp0 K F = o := h K rfl
theorem y27 {R : Type} {K : Option R} {F : Option R → Option R} {r : R} (h : jp0 K F = some r) : ∃ k, k = K ∧ F k = some r := ⟨K, rfl, h⟩
def jp1 {R A0 : Type} (K : A0 → Option R) (F : (A0 → Option R) → Option R) : Option R := F K
theorem yS {R A0 : Type} {K : A0 → Option R} {F : (A0 → Option R) → Option R} {r : R} (h : jp1 K F = some r) : ∃ k : A0 → Option R, (∀ x0, k x0 = K x0) ∧ F k = some r := ⟨K, fun _ => rfl, h⟩
theorem y3X {R A0 : Type} {K : A0 → Option R} {F : (A0 → Option R) → Option R} {o : Option R} (h : ∀ k : A0 → Option R, (∀ x0, k x0 = K x0) → F k = o) : jp1 K F = o := h K fun _ => rfl
def jp2 {R A0 A1 : Type} (K : A0 → A1 → Option R) (F : (A0 → A1 → Option R) → Option R) : Option R := F K
theorem y57 {R A0 A1 : Type} {K : A0 → A1 → Option R} {F : (A0 → A1 → Option R) → Option R} {r : R} (h : jp2 K F = some r) : ∃ k : A0 → A1 → Option R, (∀ x0 x1, k x0 x1 = K x0 x1) ∧ F k = some r := ⟨K, fun _ _ => rfl, h⟩
def jp8 {R A0 A1 A2 A3 A4 A5 A6 A7 : Type} (K : A0 → A1 → A2 → A3 → A4 → A5 → A6 → A7 → Option R) (F : (A0 → A1 → A2 → A3 → A4 → A5 → A6 → A7 → Option R) → Option R) : Option R := F K
theorem jp8_elim {R A0 A1 A2 A3 A4 A5 A6 A7 : Type} {K : A0 → A1 → A2 → A3 → A4 → A5 → A6 → A7 → Option R} {F : (A0 → A1 → A2 → A3 → A4 → A5 → A6 → A7 → Option R) → Option R} {r : R} (h : jp8 K F = some r) : ∃ k : A0 → A1 → A2 → A3 → A4 → A5 → A6 → A7 → Option R, (∀ x0 x1 x2 x3 x4 x5 x6 x7, k x0 x1 x2 x3 x4 x5 x6 x7 = K x0 x1 x2 x3 x4 x5 x6 x7) ∧ F k = some r := ⟨K, fun _ _ _ _ _ _ _ _ => rfl, h⟩
def jp15 {R A0 A1 A2 A3 A4 A5 A6 A7 A8 A9 A10 A11 A12 A13 A14 : Type} (K : A0 → A1 → A2 → A3 → A4 → A5 → A6 → A7 → A8 → A9 → A10 → A11 → A12 → A13 → A14 → Option R) (F : (A0 → A1 → A2 → A3 → A4 → A5 → A6 → A7 → A8 → A9 → A10 → A11 → A12 → A13 → A14 → Option R) → Option R) : Option R := F K
theorem y7Z {R A0 A1 A2 A3 A4 A5 A6 A7 A8 A9 A10 A11 A12 A13 A14 : Type} {K : A0 → A1 → A2 → A3 → A4 → A5 → A6 → A7 → A8 → A9 → A10 → A11 → A12 → A13 → A14 → Option R} {F : (A0 → A1 → A2 → A3 → A4 → A5 → A6 → A7 → A8 → A9 → A10 → A11 → A12 → A13 → A14 → Option R) → Option R} {r : R} (h : jp15 K F = some r) : ∃ k : A0 → A1 → A2 → A3 → A4 → A5 → A6 → A7 → A8 → A9 → A10 → A11 → A12 → A13 → A14 → Option R, (∀ x0 x1 x2 x3 x4 x5 x6 x7 x8 x9 x10 x11 x12 x13 x14, k x0 x1 x2 x3 x4 x5 x6 x7 x8 x9 x10 x11 x12 x13 x14 = K x0 x1 x2 x3 x4 x5 x6 x7 x8 x9 x10 x11 x12 x13 x14) ∧ F k = some r := ⟨K, fun _ _ _ _ _ _ _ _ _ _ _ _ _ _ _ => rfl, h⟩
def yB : Nat := 18446744073709551616
theorem y1D : yB = 18446744073709551616 := rfl
def i64 (x : Int) : Int := IntKind.wrap .i64 x
def u8 (x : Int) : Int := IntKind.wrap .u8 x
theorem yU {x : Int} (h : -9223372036854775808 ≤ x ∧ x ≤ 9223372036854775807) : i64 x = x := w64 h
section
variable {P : Program} {n : Nat} {F : List Nat} {w₀ : World} {env : List (Nat × Value)} {L Lc Lr R R' : List Asrt} {ops : Array Oper} {Q : Exit → Act → World → Prop} {rest l : List Oper}
 {dd : Nat} {d : Option Tmp} {ty : TypeId} {pos : String} {after : Array Edge} {g : Option (Nat × Bool)} {x y : Operand} {v u : Value} {t e T : TypeId} {sz by_ : Nat} {Z Zn : Zp}
 {tl : Nat → Bool} {Ls : List Asrt} {fuel : Nat} {listed : Array Bool} {QD : Act → World → Prop}
/-! ### elements of pool slices -/
theorem WL.znth {α : Type} [Inhabited α] {Pr : List Value → α → Prop} {ls : List α} {ao : Option Addr} {cap : Nat} {kk : IntKind} {i : Int} (hg : gd env ops ⟨some dd, .indexAddr t x y, ty, pos, after, g⟩ = some true) (hdn : Nat.blt dd n = true)
  (ht : elT P t e sz by_) (hx : eo env x = some (.slice ao ls.length cap)) (hy : eo env y = some (.int kk i)) (hs : ZS Z sz Pr ao cap ls) (h01 : 0 ≤ i ∧ i < ls.length)
  (k : ∀ A r, ZC Z A r → r.length = sz → Pr r (Sep.nth ls i) → WL P n F w₀ ops Q rest ((dd, .pointer (some A)) :: env) L) :
  WL P n F w₀ ops Q (⟨some dd, .indexAddr t x y, ty, pos, after, g⟩ :: rest) env L := by
 obtain ⟨A, r, rfl, hc, hl, hp⟩ := hs.elem h01.1 h01.2
 exact WL.a hg rfl hdn (yw ht hx hy h01.1 h01.2 rfl) (k _ r hc hl hp)
theorem WD.znth {j : Nat} {α : Type} [Inhabited α] {Pr : List Value → α → Prop} {ls : List α} {ao : Option Addr} {cap : Nat} {kk : IntKind} {i : Int}
  (hns : y3v ops = true) (hi : ops[j]? = some ⟨some dd, .indexAddr t x y, ty, pos, after, g⟩) (hr : (Region.ready .any ops listed).contains j = true) (hf : y2V ops (fun _ => false) listed j = true)
  (hg : gd env ops ⟨some dd, .indexAddr t x y, ty, pos, after, g⟩ = some true) (hdn : Nat.blt dd n = true)
  (ht : elT P t e sz by_) (hx : eo env x = some (.slice ao ls.length cap)) (hy : eo env y = some (.int kk i)) (hs : ZS Z sz Pr ao cap ls) (h01 : 0 ≤ i ∧ i < ls.length)
  (k : ∀ A r, ZC Z A r → r.length = sz → Pr r (Sep.nth ls i) → WD P n F w₀ ops tl Ls QD fuel (listed.setIfInBounds j true) ((dd, .pointer (some A)) :: env) L) :
  WD P n F w₀ ops tl Ls QD (fuel + 1) listed env L := by
 obtain ⟨A, r, rfl, hc, hl, hp⟩ := hs.elem h01.1 h01.2
 exact WD.a hns hi hr hf hg rfl hdn (fun _ => yw ht hx hy h01.1 h01.2 rfl) (k _ r hc hl hp)
/-! ### parts of pool slices -/
theorem WL.zsub {α : Type} {Pr : List Value → α → Prop} {ls ls' : List α} {ao : Option Addr} {cap : Nat} {lo hi : Int} {lx hx' : Option Operand} {lv hv : Option Value}
  (hg : gd env ops ⟨some dd, .slice t x lx hx' none, ty, pos, after, g⟩ = some true) (hdn : Nat.blt dd n = true)
  (ht : elT P t e sz by_) (hx : eo env x = some (.slice ao ls.length cap)) (hs : ZS Z sz Pr ao cap ls)
  (hl : ∀ a w, SS n F w₀ env L a w → lx.map a.eval = lv) (hh : ∀ a w, SS n F w₀ env L a w → hx'.map a.eval = hv)
  (hlv : match lv with | none => lo = 0 | some (.int _ q) => q = lo | _ => False) (hhv : match hv with | none => hi = ls.length | some (.int _ q) => q = hi | _ => False)
  (hb : 0 ≤ lo ∧ lo ≤ hi ∧ hi ≤ ls.length) (hls : ls' = (ls.take hi.toNat).drop lo.toNat)
  (k : ∀ ao' cap', ZS Z sz Pr ao' cap' ls' → WL P n F w₀ ops Q rest ((dd, .slice ao' ls'.length cap') :: env) L) :
  WL P n F w₀ ops Q (⟨some dd, .slice t x lx hx' none, ty, pos, after, g⟩ :: rest) env L := by
 subst hls
 obtain ⟨h0, h1, h2⟩ := hb
 have hc1 := hs.1
 refine WL.a hg rfl hdn (y3H (lo := lo.toNat) (hi := hi.toNat) ht hx (lv := lv) (hv := hv) hl hh ?_ ?_ (by omega) (by omega) (fun _ => hc1)) ?_
 ·split at hlv
  ·subst hlv; rfl
  ·subst hlv; simp; omega
  ·cases hlv
 ·split at hhv
  ·subst hhv; simp
  ·subst hhv; simp; omega
  ·cases hhv
 have h3 := hs.sub (lo := lo.toNat) (hi := hi.toNat) (by omega) (by omega)
 have h4 : hi.toNat - lo.toNat = ((ls.take hi.toNat).drop lo.toNat).length := by simp; omega
 rw [h4]
 exact k _ _ h3
theorem WD.zsub {j : Nat} {α : Type} {Pr : List Value → α → Prop} {ls ls' : List α} {ao : Option Addr} {cap : Nat} {lo hi : Int} {lx hx' : Option Operand} {lv hv : Option Value}
  (hns : y3v ops = true) (hi' : ops[j]? = some ⟨some dd, .slice t x lx hx' none, ty, pos, after, g⟩) (hr : (Region.ready .any ops listed).contains j = true) (hf : y2V ops (fun _ => false) listed j = true)
  (hg : gd env ops ⟨some dd, .slice t x lx hx' none, ty, pos, after, g⟩ = some true) (hdn : Nat.blt dd n = true)
  (ht : elT P t e sz by_) (hx : eo env x = some (.slice ao ls.length cap)) (hs : ZS Z sz Pr ao cap ls)
  (hl : ∀ w₀ a w, SS n [] w₀ env [] a w → lx.map a.eval = lv) (hh : ∀ w₀ a w, SS n [] w₀ env [] a w → hx'.map a.eval = hv)
  (hlv : match lv with | none => lo = 0 | some (.int _ q) => q = lo | _ => False) (hhv : match hv with | none => hi = ls.length | some (.int _ q) => q = hi | _ => False)
  (hb : 0 ≤ lo ∧ lo ≤ hi ∧ hi ≤ ls.length) (hls : ls' = (ls.take hi.toNat).drop lo.toNat)
  (k : ∀ ao' cap', ZS Z sz Pr ao' cap' ls' → WD P n F w₀ ops tl Ls QD fuel (listed.setIfInBounds j true) ((dd, .slice ao' ls'.length cap') :: env) L) :
  WD P n F w₀ ops tl Ls QD (fuel + 1) listed env L := by
 subst hls
 obtain ⟨h0, h1, h2⟩ := hb
 have hc1 := hs.1
 refine WD.a hns hi' hr hf hg rfl hdn (fun w₀ => y3H (lo := lo.toNat) (hi := hi.toNat) ht hx (lv := lv) (hv := hv) (hl w₀) (hh w₀) ?_ ?_ (by omega) (by omega) (fun _ => hc1)) ?_
 ·split at hlv
  ·subst hlv; rfl
  ·subst hlv; simp; omega
  ·cases hlv
 ·split at hhv
  ·subst hhv; simp
  ·subst hhv; simp; omega
  ·cases hhv
 have h3 := hs.sub (lo := lo.toNat) (hi := hi.toNat) (by omega) (by omega)
 have h4 : hi.toNat - lo.toNat = ((ls.take hi.toNat).drop lo.toNat).length := by simp; omega
 rw [h4]
 exact k _ _ h3
theorem ixo {z : Operand} (h : eo env z = some v) : ∀ a w, SS n F w₀ env L a w → (some z).map a.eval = some v := fun a w hs => by rw [Option.map_some, hs.eval h]
theorem ixn : ∀ a w, SS n F w₀ env L a w → (none : Option Operand).map a.eval = none := fun _ _ _ => rfl
/-! ### owned slices as lists of data -/
theorem news_z {α : Type} {enc : α → List Value} {ls : List α} {sz' : Nat} {bo : Option Addr} {capk : Nat} (pv : PV F w₀ L Z) (h : ZS Z sz' (fun r x => r = enc x) bo capk ls) :
  ∀ w, Hp F w₀ w L → ls.flatMap enc ≠ [] → ∃ A, bo = some A ∧ ∀ j u, (ls.flatMap enc)[j]? = some u → w.cell? (A.add j) = some u := by
 intro w hw hne
 obtain ⟨_, _, cs, h3, h4⟩ := h
 obtain ⟨A, hA, hc⟩ := h4 (by rintro rfl; simp at hne)
 rw [h3.toFlat] at hc
 exact ⟨A, hA, hc w (pv w hw)⟩
theorem y3s {α : Type} {enc : α → List Value} {ao bo : Option Addr} {cap capk : Nat} {l1 l2 : List α} {cs news : List Value} {dty : TypeId} (ht : elT P t e sz by_) (hx : eo env x = some (.slice ao l1.length cap)) (hy : eo env y = some (.slice bo l2.length capk))
  (hm : Pick L (row (.slice ao l1.length cap) e sz cs) R) (hlen : ∀ x, (enc x).length = sz) (hcs : cs = l1.flatMap enc) (hn : news = l2.flatMap enc)
  (hnews : ∀ w, Hp F w₀ w L → news ≠ [] → ∃ A, bo = some A ∧ ∀ j u, news[j]? = some u → w.cell? (A.add j) = some u) (h1 : ∀ u ∈ news, u.oneCell' = true)
  (hb : ((l1 ++ l2).length : Int) * by_ ≤ 140737488355328 ∧ ((l1 ++ l2).length : Int) ≤ 4611686018427387904) :
  Ef P n F w₀ env L ⟨d, .call ⟨.builtin .append, #[x, y], #[t, t]⟩, dty, pos, after, g⟩ (fun _ : Option Addr × Nat => True) (fun p => .slice p.1 (l1 ++ l2).length p.2) (fun p => row (.slice p.1 (l1 ++ l2).length p.2) e sz ((l1 ++ l2).flatMap enc) :: R) := by
 subst hcs hn
 have := e_append (n := n) (dty := dty) (d := d) (pos := pos) (after := after) (g := g) ht hx hy hm (by rw [y63 hlen]) hnews h1 (by simp [maxLen] at *; omega) (by rw [List.length_append] at hb; omega)
 rw [List.length_append, List.flatMap_append]
 exact this
theorem y5C {α : Type} {l : List α} {i : Int} {z0 : α} (h : 0 ≤ i ∧ i ≤ l.length) : (l.take i.toNat ++ List.replicate (l.length - i.toNat) z0).length = l.length := by
 simp; omega
theorem WL.y80 {α : Type} {enc : α → List Value} {ls : List α} {ao : Option Addr} {cap : Nat} {i : Int} {hx' : Operand} {kk : IntKind} (hg : gd env ops ⟨some dd, .slice t x none (some hx') none, ty, pos, after, g⟩ = some true) (hdn : Nat.blt dd n = true)
  (ht : elT P t e sz by_) (hx : eo env x = some (.slice ao ls.length cap)) (hh : eo env hx' = some (.int kk i)) (hm : Pick L (row (.slice ao ls.length cap) e sz (ls.flatMap enc)) R) (hl : ∀ x, (enc x).length = sz) (hi : 0 ≤ i ∧ i ≤ ls.length)
  (k : ∀ ao' cap', WL P n F w₀ ops Q rest ((dd, .slice ao' (ls.take i.toNat).length cap') :: env) (row (.slice ao' (ls.take i.toNat).length cap') e sz ((ls.take i.toNat).flatMap enc) :: R)) :
  WL P n F w₀ ops Q (⟨some dd, .slice t x none (some hx') none, ty, pos, after, g⟩ :: rest) env L := by
 have hlen : (ls.take i.toNat).length = i.toNat := by simp; omega
 refine WL.know (fun w h => h.rowShape hm) fun hs => ?_
 obtain ⟨hcl, hmc, hcm, hs | ⟨b, rfl⟩⟩ := hs
 ·obtain ⟨rfl, h0, rfl⟩ := hs
  have hnil : ls = [] := List.eq_nil_of_length_eq_zero h0
  subst hnil
  refine WL.a hg rfl hdn (y3H (lo := 0) (hi := 0) ht hx (lv := none) (hv := some (.int kk i)) (fun _ _ _ => rfl) (fun a w h => by rw [Option.map_some, h.eval hh]) rfl (by simp at hi; omega) (by omega) (by omega) (by simp)) ?_
  intro a w h
  have := k none 0 a w
  simp only [List.take_nil, List.length_nil, List.flatMap_nil] at this
  exact this (h.world (h.hp.front hm))
 ·refine WL.rowHi (i := i.toNat) hg hdn ht hx hh hm (by omega) (by omega) ?_
  rw [y5z hl ls _ (by omega)]
  have := k (some ⟨b, 0, none⟩) cap
  rw [hlen] at this
  exact this
theorem WL.y81 {α : Type} {ls : List α} {ao : Option Addr} {cs : List Value} {cap : Nat} {i : Int} {lx : Operand} {kk : IntKind} (hg : gd env ops ⟨some dd, .slice t x (some lx) none none, ty, pos, after, g⟩ = some true) (hdn : Nat.blt dd n = true)
  (ht : elT P t e sz by_) (hx : eo env x = some (.slice ao ls.length cap)) (hh : eo env lx = some (.int kk i)) (hm : Pick L (row (.slice ao ls.length cap) e sz cs) R) (hi : 0 ≤ i ∧ i ≤ ls.length)
  (k : ∀ ao' c, ao' = (if cap = i.toNat then ao else ao.map (·.add (i.toNat * sz))) → WL P n F w₀ ops Q rest ((dd, .slice ao' (ls.length - i.toNat) c) :: env) L) :
  WL P n F w₀ ops Q (⟨some dd, .slice t x (some lx) none none, ty, pos, after, g⟩ :: rest) env L := by
 refine WL.know (fun w h => h.rowShape hm) fun hs => ?_
 obtain ⟨hcl, hmc, hcm, _⟩ := hs
 exact WL.a hg rfl hdn (y3H (lo := i.toNat) (hi := ls.length) ht hx (lv := some (.int kk i)) (hv := none) (fun a w h => by rw [Option.map_some, h.eval hh]) (fun _ _ _ => rfl) (by simp; omega) rfl (by omega) hmc (fun _ => hmc)) (k _ _ rfl)
theorem y70 {α : Type} {enc : α → List Value} {z0 : α} {l : List α} {i : Int} {cap c : Nat} {ao ao' : Option Addr} {z : Value} (ht : elT P t e sz by_) (hz : y22 P e z) (hx : eo env x = some (.slice ao' (l.length - i.toNat) c))
  (hao : ao' = (if cap = i.toNat then ao else ao.map (·.add (i.toNat * sz)))) (hi : 0 ≤ i ∧ i ≤ l.length) (hl : ∀ x, (enc x).length = sz) (hsz : 0 < sz) (hzc : z.cells = (enc z0).toArray) (ho : ∀ x, ∀ u ∈ enc x, u.oneCell' = true)
  (hm : Pick L (row (.slice ao l.length cap) e sz (l.flatMap enc)) R) :
  Ef0 P n F w₀ env L ⟨none, .call ⟨.builtin .clear, #[x], #[t]⟩, ty, pos, after, g⟩ (row (.slice ao l.length cap) e sz ((l.take i.toNat ++ List.replicate (l.length - i.toNat) z0).flatMap enc) :: R) := by
 intro a w h
 obtain ⟨hcl, hmc, hcm, hs⟩ := h.hp.rowShape hm
 rcases hs with ⟨rfl, h0, rfl⟩ | ⟨b, rfl⟩
 ·have hnil : l = [] := List.eq_nil_of_length_eq_zero h0
  subst hnil
  have hx' : eo env x = some (.slice ao' 0 c) := by rw [hx]; simp
  refine ⟨w, .inr ⟨.tuple #[], ?_⟩, by simpa using h.hp.front hm⟩
  cases ao' <;> simp [execOp, h.eval hx', resolve, invoke, builtin, Builtin.clear_, run_underlying ht.sl]
 ·exact y7l ht hz hx hao (by omega) (oc_zero hl hsz hzc ho) hm (y7L hl hsz hzc (by omega)) a w h
theorem rep_take {α : Type} (r : List α) {sz : Nat} (hl : r.length = sz) (n m : Nat) (h : n ≤ m) : ((List.replicate m r).flatten).take (n * sz) = (List.replicate n r).flatten := by
 obtain ⟨d, rfl⟩ : ∃ d, m = n + d := ⟨m - n, by omega⟩
 rw [← List.replicate_append_replicate, List.flatten_append]
 have e : (List.replicate n r).flatten.length = n * sz := by simp [hl]
 rw [← e, List.take_left]
theorem y6O {r : List Value} {zc : Array Value} (hsz : 0 < r.length) (hz : zc = r.toArray) (k : Nat) : (Builtin.zeroCells zc k).toList = (List.replicate k r).flatten := by
 have h := y3c (α := Unit) (enc := fun _ => r) (sz := r.length) (z0 := ()) (zc := zc) (fun _ => rfl) hsz hz k
 rw [h]
 induction k with
 | zero => rfl
 | succ k ih => rw [List.replicate_succ, List.flatMap_cons, List.replicate_succ, List.flatten_cons]; congr 1; exact ih (y3c (α := Unit) (enc := fun _ => r) (sz := r.length) (z0 := ()) (zc := zc) (fun _ => rfl) hsz hz k)
theorem y2Q {α : Type} {r : List Value} {z0 : α} {z : Value} {kl kc : IntKind} {ln c : Int} {dty : TypeId} (ht : elT P t e sz by_) (hz : y22 P e z) (hx : eo env x = some (.int kl ln)) (hy : eo env y = some (.int kc c)) (hl : r.length = sz) (hzc : z.cells = r.toArray)
  (hb : 0 ≤ ln ∧ ln ≤ c ∧ c * by_ ≤ 140737488355328 ∧ c ≤ 4611686018427387904) :
  EfX P n F w₀ env L ⟨d, .makeSlice t x y, dty, pos, after, g⟩ (fun _ : Nat => True) (fun b => .slice (some ⟨b, 0, none⟩) (List.replicate ln.toNat z0).length c.toNat) (fun b => row (.slice (some ⟨b, 0, none⟩) (List.replicate ln.toNat z0).length c.toNat) e sz (List.replicate ln.toNat r).flatten :: L) := by
 intro a w h
 obtain ⟨h0, h1, h2, h3⟩ := hb
 obtain ⟨inf, z', hinf, hz', hsz, hby, hzs⟩ := ht.inf
 have hzz : z = z' := by
  have := congrFun hz w
  simp [zeroValue, typeInfo, hinf, hz'] at this
  exact this.symm
 subst hzz
 have hpos := ht.pos
 have hrun := run_make (P := P) w t e inf z ht.sl hinf hz' kl kc ln c h0 h1 (by rw [hby, Int.mul_comm]; omega) (by omega)
 have hcur : madeCells z.cells (c.toNat * inf.size) = Builtin.zeroCells z.cells c.toNat := by rw [hsz, ← hzs]; rfl
 refine ⟨w.heap.size, w.alloc (.cells (Builtin.zeroCells z.cells c.toNat) e), ?_, trivial, ?_, .alloc _ _⟩
 ·simp only [execOp, h.eval hx, h.eval hy]
  rw [hcur] at hrun
  simp [hrun, List.length_replicate]
 ·refine (h.hp.ext (.alloc w _)).add ?_ (by simp [row, Value.ownBlock]) (by simp [row, Value.ownBlock, h.hp.size]) ?_
  ·refine ⟨ln.toNat, by simp [hl], .inr ⟨w.heap.size, c.toNat, Builtin.zeroCells z.cells c.toNat, by simp, Nat.zero_le _, heap_alloc_new w _, by omega, by unfold maxLen; omega, by simp [Builtin.zeroCells, hzs], ?_⟩⟩
   rw [y6O (by omega) hzc, rep_take r hl _ _ (by omega)]
  ·intro y hy b hb hc
   simp [row, Value.ownBlock] at hb
   have := h.hp.lt y hy b hc
   omega
theorem y3I {α : Type} {enc : α → List Value} (x : α) (n : Nat) : (List.replicate n (enc x)).flatten = (List.replicate n x).flatMap enc := by
 rw [List.flatMap_def, List.map_replicate]
/-! ### the pool grows -/
theorem Hp.freezeS {w : World} {α : Type} {Pr : List Value → α → Prop} {ao : Option Addr} {cap : Nat} {cs : List Value} {ls : List α} (hm : Pick L (row (.slice ao ls.length cap) e sz cs) R) (hz : Pick R (fz Zn) R') (hp : PZ F w₀ Z) (hr : RR sz Pr cs ls) (h : Hp F w₀ w L) :
  ∃ Zn', Zle (Z ++ Zn) (Z ++ Zn') ∧ ZS (Z ++ Zn') sz Pr ao cap ls ∧ Hp F w₀ w (fz Zn' :: R') := by
 obtain ⟨Zn', h1, h2, h3⟩ := h.freeze hm hz
 refine ⟨Zn', h1.app, ?_, h3⟩
 exact ZA.row (h2.mono (Zle.right _ _)) hr ⟨w, (hp.pv w h3).app (h3.ok (fz Zn') (by simp))⟩
theorem PZ.now {w : World} (h : PZ F w₀ Z) (hp : Hp F w₀ w L) : PZ [] w Z := ⟨h.pv w hp, by simp⟩
theorem PZ.le {w : World} {Z Z' : Zp} (h : PZ [] w Z') (k : Zle Z Z') : PZ [] w Z := ⟨k w h.1, by simp⟩
theorem ZC.part {Z : Zp} {A : Addr} {off s : Nat} {cs ds : List Value} (h : ZC Z A cs) (hd : (cs.drop off).take s = ds) : ZC Z (A.add off) ds := by
 subst hd
 intro w hw j u hu
 refine (h.sub off) w hw j u ?_
 rw [List.getElem?_take] at hu
 split at hu
 ·exact hu
 ·cases hu
theorem y58 {α : Type} {enc : α → List Value} {sz k s : Nat} (hl : ∀ x, (enc x).length = sz) {l : List α} {i : Int} (h0 : 0 ≤ i) (h1 : i < l.length) (hk : k + s ≤ sz) : i.toNat * sz + k + s ≤ (l.flatMap enc).length := by
 rw [y63 hl]
 have h2 : (i.toNat + 1) * sz ≤ l.length * sz := Nat.mul_le_mul_right _ (by omega)
 rw [Nat.succ_mul] at h2
 omega
theorem q_beql {a b : Bool} {t t' : TypeId} (ht : P.underlying t = some .bool) (hx : eo env x = some (.bool a)) (hy : eo env y = some (.bool b)) : Qt P n F w₀ env L ⟨d, .binOp .eql t x y t', ty, pos, after, g⟩ (.bool (a == b)) := by
 intro a' w h; simp [execOp, h.eval hx, h.eval hy, eqGuard_at_bool, run_eql_bool w t a b ht]
structure EqT {α : Type} [DecidableEq α] (P : Program) (t : TypeId) (enc : α → List Value) : Prop where
 eq : ∀ (u v : α) (w : World), (Op.equalIn 10000 t (.agg (enc u).toArray) (.agg (enc v).toArray)).run P w = .ok (decide (u = v)) w
 guard : P.eqGuardType P.depth t = false
theorem y71 {α : Type} [DecidableEq α] {enc : α → List Value} {a b : α} {t t' : TypeId} (ht : EqT P t enc) (hx : eo env x = some (.agg (enc a).toArray)) (hy : eo env y = some (.agg (enc b).toArray)) : Qt P n F w₀ env L ⟨d, .binOp .eql t x y t', ty, pos, after, g⟩ (.bool (decide (a = b))) := by
 intro a' w h; simp [execOp, h.eval hx, h.eval hy, run_eqGuard_agg w .eql t x y _ _ ht.guard, run_eql_struct, ht.eq a b w]
theorem q_aggneq {α : Type} [DecidableEq α] {enc : α → List Value} {a b : α} {t t' : TypeId} (ht : EqT P t enc) (hx : eo env x = some (.agg (enc a).toArray)) (hy : eo env y = some (.agg (enc b).toArray)) : Qt P n F w₀ env L ⟨d, .binOp .neq t x y t', ty, pos, after, g⟩ (.bool (decide (a ≠ b))) := by
 intro a' w h; simp [execOp, h.eval hx, h.eval hy, run_eqGuard_agg w .neq t x y _ _ ht.guard, run_neq_struct, ht.eq a b w]
theorem y45 {ao : Option Addr} {m m' cap : Nat} (h : m = m') : Value.slice ao m cap = .slice ao m' cap := by rw [h]
theorem Zle.y5 (a b c : Zp) : Zle ((a ++ b) ++ c) (a ++ (b ++ c)) := by rw [List.append_assoc]; exact Zle.refl _
theorem WL.freezeS {l : List Oper} {α : Type} {Pr : List Value → α → Prop} {ao : Option Addr} {cap : Nat} {cs : List Value} {ls : List α} (hm : Pick L (row (.slice ao ls.length cap) e sz cs) R) (hz : Pick R (fz Zn) R') (hp : PZ F w₀ Z) (hr : RR sz Pr cs ls)
  (k : ∀ Zn', Zle (Z ++ Zn) (Z ++ Zn') → ZS (Z ++ Zn') sz Pr ao cap ls → WL P n F w₀ ops Q l env (fz Zn' :: R')) : WL P n F w₀ ops Q l env L := fun a w h => by
 obtain ⟨Zn', h1, h2, h3⟩ := h.hp.freezeS hm hz hp hr
 exact k Zn' h1 h2 a w (h.world h3)
theorem WL.pool {l : List Oper} (k : WL P n F w₀ ops Q l env (fz [] :: L)) : WL P n F w₀ ops Q l env L := fun a w h => k a w (h.world h.hp.pool)
theorem WL.merge {l : List Oper} {Z1 Z2 : Zp} (hm : Pick L (fz Z1) R) (hz : Pick R (fz Z2) R') (k : WL P n F w₀ ops Q l env (fz (Z2 ++ Z1) :: R')) : WL P n F w₀ ops Q l env L := fun a w h => k a w (h.world (h.hp.merge hm hz))
theorem WL.rowEqD {l : List Oper} {cs cs' : List Value} (hm : Pick L (row v e sz cs) R) (h : cs = cs') (k : WL P n F w₀ ops Q l env (row v e sz cs' :: R)) : WL P n F w₀ ops Q l env L := by
 subst h
 exact fun a w hs => k a w (hs.world (hs.hp.front hm))
theorem WL.relen {l : List Oper} {cs : List Value} (hm : Pick L (row v e sz cs) R) (h : v = u) (k : WL P n F w₀ ops Q l env (row u e sz cs :: R)) : WL P n F w₀ ops Q l env L := by
 subst h
 exact fun a w hs => k a w (hs.world (hs.hp.front hm))
theorem WL.repin {l : List Oper} {i : Nat} (hv : lk env i = some v) (h : v = u) (k : WL P n F w₀ ops Q l ((i, u) :: env) L) : WL P n F w₀ ops Q l env L := by
 subst h
 refine fun a w hs => k a w ⟨hs.defers, hs.size, fun j x hx => ?_, hs.hp⟩
 simp only [lk] at hx
 by_cases hj : j = i
 ·subst hj; simp at hx; subst hx; exact hs.ev _ _ hv
 ·rw [y2Z hj] at hx; exact hs.ev j x hx
theorem WC.freezeS {cc : Code} {α : Type} {Pr : List Value → α → Prop} {ao : Option Addr} {cap : Nat} {cs : List Value} {ls : List α} (hm : Pick L (row (.slice ao ls.length cap) e sz cs) R) (hz : Pick R (fz Zn) R') (hp : PZ F w₀ Z) (hr : RR sz Pr cs ls)
  (k : ∀ Zn', Zle (Z ++ Zn) (Z ++ Zn') → ZS (Z ++ Zn') sz Pr ao cap ls → WC P n F w₀ Q cc env (fz Zn' :: R')) : WC P n F w₀ Q cc env L := fun a w h => by
 obtain ⟨Zn', h1, h2, h3⟩ := h.hp.freezeS hm hz hp hr
 exact k Zn' h1 h2 a w (h.world h3)
theorem WC.pool {cc : Code} (k : WC P n F w₀ Q cc env (fz [] :: L)) : WC P n F w₀ Q cc env L := fun a w h => k a w (h.world h.hp.pool)
theorem WC.merge {cc : Code} {Z1 Z2 : Zp} (hm : Pick L (fz Z1) R) (hz : Pick R (fz Z2) R') (k : WC P n F w₀ Q cc env (fz (Z2 ++ Z1) :: R')) : WC P n F w₀ Q cc env L := fun a w h => k a w (h.world (h.hp.merge hm hz))
theorem WC.rowEqD {cc : Code} {cs cs' : List Value} (hm : Pick L (row v e sz cs) R) (h : cs = cs') (k : WC P n F w₀ Q cc env (row v e sz cs' :: R)) : WC P n F w₀ Q cc env L := by
 subst h
 exact fun a w hs => k a w (hs.world (hs.hp.front hm))
theorem WC.relen {cc : Code} {cs : List Value} (hm : Pick L (row v e sz cs) R) (h : v = u) (k : WC P n F w₀ Q cc env (row u e sz cs :: R)) : WC P n F w₀ Q cc env L := by
 subst h
 exact fun a w hs => k a w (hs.world (hs.hp.front hm))
theorem WC.repin {cc : Code} {i : Nat} (hv : lk env i = some v) (h : v = u) (k : WC P n F w₀ Q cc ((i, u) :: env) L) : WC P n F w₀ Q cc env L := by
 subst h
 refine fun a w hs => k a w ⟨hs.defers, hs.size, fun j x hx => ?_, hs.hp⟩
 simp only [lk] at hx
 by_cases hj : j = i
 ·subst hj; simp at hx; subst hx; exact hs.ev _ _ hv
 ·rw [y2Z hj] at hx; exact hs.ev j x hx
theorem WX.freezeS {ex : Exit} {α : Type} {Pr : List Value → α → Prop} {ao : Option Addr} {cap : Nat} {cs : List Value} {ls : List α} (hm : Pick L (row (.slice ao ls.length cap) e sz cs) R) (hz : Pick R (fz Zn) R') (hp : PZ F w₀ Z) (hr : RR sz Pr cs ls)
  (k : ∀ Zn', Zle (Z ++ Zn) (Z ++ Zn') → ZS (Z ++ Zn') sz Pr ao cap ls → WX n F w₀ Q ex env (fz Zn' :: R')) : WX n F w₀ Q ex env L := fun a w h => by
 obtain ⟨Zn', h1, h2, h3⟩ := h.hp.freezeS hm hz hp hr
 exact k Zn' h1 h2 a w (h.world h3)
theorem WX.pool {ex : Exit} (k : WX n F w₀ Q ex env (fz [] :: L)) : WX n F w₀ Q ex env L := fun a w h => k a w (h.world h.hp.pool)
theorem WX.merge {ex : Exit} {Z1 Z2 : Zp} (hm : Pick L (fz Z1) R) (hz : Pick R (fz Z2) R') (k : WX n F w₀ Q ex env (fz (Z2 ++ Z1) :: R')) : WX n F w₀ Q ex env L := fun a w h => k a w (h.world (h.hp.merge hm hz))
theorem WX.rowEqD {ex : Exit} {cs cs' : List Value} (hm : Pick L (row v e sz cs) R) (h : cs = cs') (k : WX n F w₀ Q ex env (row v e sz cs' :: R)) : WX n F w₀ Q ex env L := by
 subst h
 exact fun a w hs => k a w (hs.world (hs.hp.front hm))
theorem WX.relen {ex : Exit} {cs : List Value} (hm : Pick L (row v e sz cs) R) (h : v = u) (k : WX n F w₀ Q ex env (row u e sz cs :: R)) : WX n F w₀ Q ex env L := by
 subst h
 exact fun a w hs => k a w (hs.world (hs.hp.front hm))
theorem WX.repin {ex : Exit} {i : Nat} (hv : lk env i = some v) (h : v = u) (k : WX n F w₀ Q ex ((i, u) :: env) L) : WX n F w₀ Q ex env L := by
 subst h
 refine fun a w hs => k a w ⟨hs.defers, hs.size, fun j x hx => ?_, hs.hp⟩
 simp only [lk] at hx
 by_cases hj : j = i
 ·subst hj; simp at hx; subst hx; exact hs.ev _ _ hv
 ·rw [y2Z hj] at hx; exact hs.ev j x hx
theorem WX.nilRow {ex : Exit} (e : TypeId) (sz : Nat) (k : WX n F w₀ Q ex env (row (.slice none 0 0) e sz [] :: L)) : WX n F w₀ Q ex env L := fun a w h => k a w (h.world (h.hp.nilRow e sz))
theorem WD.freezeS  {α : Type} {Pr : List Value → α → Prop} {ao : Option Addr} {cap : Nat} {cs : List Value} {ls : List α} (hm : Pick L (row (.slice ao ls.length cap) e sz cs) R) (hz : Pick R (fz Zn) R') (hp : PZ F w₀ Z) (hr : RR sz Pr cs ls)
  (k : ∀ Zn', Zle (Z ++ Zn) (Z ++ Zn') → ZS (Z ++ Zn') sz Pr ao cap ls → WD P n F w₀ ops tl Ls QD fuel listed env (fz Zn' :: R')) : WD P n F w₀ ops tl Ls QD fuel listed env L := fun a w h => by
 obtain ⟨Zn', h1, h2, h3⟩ := h.hp.freezeS hm hz hp hr
 exact k Zn' h1 h2 a w (h.world h3)
theorem WD.pool  (k : WD P n F w₀ ops tl Ls QD fuel listed env (fz [] :: L)) : WD P n F w₀ ops tl Ls QD fuel listed env L := fun a w h => k a w (h.world h.hp.pool)
theorem WD.merge  {Z1 Z2 : Zp} (hm : Pick L (fz Z1) R) (hz : Pick R (fz Z2) R') (k : WD P n F w₀ ops tl Ls QD fuel listed env (fz (Z2 ++ Z1) :: R')) : WD P n F w₀ ops tl Ls QD fuel listed env L := fun a w h => k a w (h.world (h.hp.merge hm hz))
theorem WD.rowEqD  {cs cs' : List Value} (hm : Pick L (row v e sz cs) R) (h : cs = cs') (k : WD P n F w₀ ops tl Ls QD fuel listed env (row v e sz cs' :: R)) : WD P n F w₀ ops tl Ls QD fuel listed env L := by
 subst h
 exact fun a w hs => k a w (hs.world (hs.hp.front hm))
theorem WD.relen  {cs : List Value} (hm : Pick L (row v e sz cs) R) (h : v = u) (k : WD P n F w₀ ops tl Ls QD fuel listed env (row u e sz cs :: R)) : WD P n F w₀ ops tl Ls QD fuel listed env L := by
 subst h
 exact fun a w hs => k a w (hs.world (hs.hp.front hm))
theorem WD.repin  {i : Nat} (hv : lk env i = some v) (h : v = u) (k : WD P n F w₀ ops tl Ls QD fuel listed ((i, u) :: env) L) : WD P n F w₀ ops tl Ls QD fuel listed env L := by
 subst h
 refine fun a w hs => k a w ⟨hs.defers, hs.size, fun j x hx => ?_, hs.hp⟩
 simp only [lk] at hx
 by_cases hj : j = i
 ·subst hj; simp at hx; subst hx; exact hs.ev _ _ hv
 ·rw [y2Z hj] at hx; exact hs.ev j x hx
theorem WC.mid {G : Type} (φ : G → Prop) (envI : G → List (Nat × Value)) (LI : G → List Asrt) {c : Code}
  (k1 : WC P n F w₀ (Exit.then (fun a w => ∃ g, φ g ∧ SS n F w₀ (envI g) (LI g) a w) Q) c env L)
  (k2 : ∀ g, φ g → WX n F w₀ Q .normal (envI g) (LI g)) : WC P n F w₀ Q c env L := by
 intro a w h
 refine Go.wpIn_mono (k1 a w h) ?_
 intro e a' w' hq
 cases e with
 | normal => obtain ⟨g, hφ, hs⟩ := hq; exact k2 g hφ a' w' hs
 | _ => exact hq
theorem WC.y7u {A0 : Type} (φ : A0 → Prop) (envI : A0 → List (Nat × Value)) (LI : A0 → List Asrt) {c : Code}
  (k1 : WC P n F w₀ (Exit.then (fun a w => ∃ g : A0, (φ g) ∧ SS n F w₀ (envI g) (LI g) a w) Q) c env L)
  (k2 : ∀ x0, (φ x0) → WX n F w₀ Q .normal (envI x0) (LI x0)) : WC P n F w₀ Q c env L :=
 WC.mid (G := A0) (fun g => (φ g)) (fun g => (envI g)) (fun g => (LI g)) k1 (fun g h => k2 g h)
end
end Sep

/- A part of this claim's proof: models of functions, walks, plain laws. No conditions. -/
import Derived.Test.YtjdnejbngloieaaDoorZFrame
import Derived.Test.YtjdnejbngloieaaDoorZArr
import Derived.LaidMore
import Derived.Lib.LaidTab
import Derived.Deep.DeepHandedRow
import Derived.Deep.DeepWitnessRowRef
namespace Sep
open Go Go.RowKit
set_option linter.all false
variable [Rnd]
/-! ### package-level tables that a row lists -/
theorem RR_one {α : Type} {Pr : List Value → α → Prop} {cs : List Value} {l : List α} (hl : cs.length = l.length) (h : ∀ (i : Nat) v x, cs[i]? = some v → l[i]? = some x → Pr [v] x) : RR 1 Pr cs l := by
 refine ⟨cs.map fun v => [v], by simp [← List.flatMap_def], fun r hr => ?_, by simpa using hl, fun i r x hr hx => ?_⟩
 ·obtain ⟨v, _, rfl⟩ := List.mem_map.1 hr; rfl
 ·rw [List.getElem?_map] at hr
  cases hv : cs[i]? with
  | none => simp [hv] at hr
  | some v => simp [hv] at hr; subst hr; exact h i v x hv hx
def y59 (k : IntKind) : DataW Unit → Option (List Int)
 | .nil => some []
 | .slice es [] => es.mapM fun d => match d with
  | .lit (.int k' z) => if k' = k then some z else none
  | _ => none
 | _ => none
def y7w (k : IntKind) : DataW Unit → Option (List (List Int))
 | .agg ds => ds.mapM (y59 k)
 | _ => none
variable {P : Program} {W : World}
theorem y88 {te tk : TypeId} {k : IntKind} {fuel : Nat} {v : Value} {d : DataW Unit} {q : List MemPlace} {zs : List Int} (hte : P.underlying te = some (.slice tk)) (hk : P.underlying tk = some (.int k)) (hck : P.cellsOf tk = 1)
  (h : DataW.trod (fun _ => ()) P W 0 (fun _ => true) false fuel te [v] = some (d, q)) (hd : y59 k d = some zs) :
  ∃ (ao : Option Addr) (cap : Nat), [v] = [.slice ao zs.length cap] ∧ ZS (ZW W) 1 (fun r x => r = [.int k x]) ao cap zs := by
 rcases DataW.trod_slice hte h with ⟨h0, hx⟩ | ⟨a, len, cap, elems, rest, n, _, h0, hx, _, hle, hm, hlen, _, _⟩
 ·cases hx
  simp only [y59, Option.some.injEq] at hd
  subst hd
  exact ⟨none, 0, h0, ZS.nil _ _ _⟩
 ·obtain ⟨rfl, -⟩ : d = _ ∧ _ := Prod.mk.injEq .. ▸ hx
  unfold y59 at hd
  split at hd
  ·rename_i e; cases e
  ·rename_i es e
   have e1 := (DataW.slice.inj e).1
   have e2 := (DataW.slice.inj e).2
   rw [e1, e2] at h
   obtain ⟨a', cap', hcs, hle', hel⟩ := open_row hte hck h
   have hl := Lib.mapM_length hd
   rw [h0] at hcs
   injection hcs with hcs
   injection hcs with c1 c2 c3
   injection c1 with c1
   subst c1 c3
   have hz : len = zs.length := by rw [c2, hl]
   refine ⟨some a, cap, by rw [h0, hz], by omega, hm, zs.map fun z => .int k z, RR_one (by simp) fun i u x hu hx => by simp [hx] at hu; rw [hu], fun _ => ⟨a, rfl, ?_⟩⟩
   intro w hw j u hu
   rw [List.getElem?_map] at hu
   cases hj : zs[j]? with
   | none => simp [hj] at hu
   | some z =>
    rw [hj] at hu
    have hjl := (List.getElem?_eq_some_iff.1 hj).1
    obtain ⟨dj, hdj⟩ : ∃ dj, es[j]? = some dj := ⟨es[j]'(by omega), by simp⟩
    obtain ⟨v', n', q', hc, hr⟩ := hel j dj hdj
    obtain ⟨z', hz', hf⟩ := Lib.mapM_at hd j dj hdj
    rw [hj] at hz'
    obtain rfl := Option.some.inj hz'
    obtain ⟨y, hy, hyd, _⟩ := DataW.trod_int hk hr
    have e3 : dj = .lit (.int k y) := congrArg Prod.fst hyd
    subst e3
    simp only [if_true, Option.some.injEq] at hf
    subst hf
    injection hy with hy
    subst hy
    simp only [Option.map_some, Option.some.injEq] at hu
    subst hu
    exact y6t hw hc
  ·cases hd
theorem y6h {name : String} {g : Nat} {cs : Array Value} (hg : P.globalNamed name = some g) (hv : W.var? P name = some cs) : ZC (ZW W) ⟨g, 0, none⟩ cs.toList := by
 intro w hw j u hu
 have h := World.var?_cell hg hv j
 refine y6t hw ?_
 have e : Addr.add ⟨g, 0, none⟩ j = ⟨g, j, none⟩ := by simp [Addr.add]; omega
 rw [e, h]
 simpa using hu
theorem y89 {l : List (String × DataW Unit)} (h : laidMetH P l W) : laidMet P (l.filter fun x => x.2.handleName?.isNone) W := by
 unfold laidMetH at h
 generalize hfl : (l.filter fun x => x.2.handleName?.isSome) = fl at h
 cases fl with
 | nil =>
  have e : (l.filter fun x => x.2.handleName?.isNone) = l := by
   rw [List.filter_eq_self]
   intro x hx
   have := (List.filter_eq_nil_iff.1 hfl) x hx
   cases hn : x.2.handleName? with
   | none => rfl
   | some s => rw [hn] at this; exact absurd rfl this
  rw [e]; exact h
 | cons a as => exact h.1
theorem glob_tab {name : String} {d : DataW Unit} {rest l : List (String × DataW Unit)} {tab : List (List Int)} {g n : Nat} {t te tk : TypeId} {k : IntKind} (hl : laidMetH P l W)
  (hg : P.globalNamed name = some g) (hty : (P.globals[g]?).map (·.type) = some t) (ht : P.underlying t = some (.array n te)) (hte : P.underlying te = some (.slice tk)) (hk : P.underlying tk = some (.int k))
  (hck : P.cellsOf tk = 1) (hcte : P.cellsOf te = 1) (hct : P.cellsOf t = n) (hn : n ≤ maxLen)
  (hf : (l.filter fun x => x.2.handleName?.isNone) = (name, d) :: rest) (hd : y7w k d = some tab) :
  ZS (ZW W) 1 (fun r x => ∃ (ao : Option Addr) (cap : Nat), r = [.slice ao x.length cap] ∧ ZS (ZW W) 1 (fun r x => r = [.int k x]) ao cap x) (some ⟨g, 0, none⟩) n tab := by
 have h := y89 hl
 rw [hf] at h
 obtain ⟨ps, ⟨g', t', cs, fuel, p, q, hg', ht', hvar, hr, _, _⟩, _⟩ := h
 obtain rfl := Option.some.inj (hg.symm.trans hg')
 obtain rfl := Option.some.inj (hty.symm.trans ht')
 obtain ⟨xs, m, _, hx, hcl, hxl, hel⟩ := DataW.trod_array ht hr
 obtain ⟨rfl, -⟩ : d = _ ∧ _ := Prod.mk.injEq .. ▸ hx
 unfold y7w at hd
 have htl := Lib.mapM_length hd
 rw [hct] at hcl
 simp only [List.length_map, hxl] at htl
 refine ⟨by omega, hn, cs.toList, RR_one (by rw [hcl, htl]) fun i v x hv hxi => ?_, fun _ => ⟨_, rfl, y6h hg hvar⟩⟩
 have hi : i < n := by have := (List.getElem?_eq_some_iff.1 hxi).1; omega
 have h1 := hel i hi
 obtain ⟨y, hy⟩ : ∃ y, xs[i]? = some y := ⟨xs[i]'(by omega), by simp⟩
 rw [hcte, Nat.mul_one, hy] at h1
 have e1 : (cs.toList.drop i).take 1 = [v] := by
  have hlt := (List.getElem?_eq_some_iff.1 hv).1
  rw [List.drop_eq_getElem_cons hlt]
  have := (List.getElem?_eq_some_iff.1 hv).2
  simp [this]
 rw [e1] at h1
 obtain ⟨x', hx', hf'⟩ := Lib.mapM_at hd i y.1 (by simp [hy])
 rw [hxi] at hx'
 obtain rfl := Option.some.inj hx'
 exact y88 (d := y.1) (q := y.2) hte hk hck h1 hf'
def y7x (P : Program) : DataW (List UInt8) → Option (List Value)
 | .agg ds => ds.mapM fun d => match d with
  | .nil => some .nilFunc
  | .held (b :: r) => match (List.range P.funcs.size).filter fun f => (P.funcs[f]?).any (·.name.toUTF8.data.toList == b :: r) with
   | [f0] => some (.func (.func f0) #[] #[])
   | _ => none
  | _ => none
 | _ => none
theorem y7n {t : TypeId} {ps rs : Array TypeId} {va : Bool} {fuel : Nat} {v : Value} {q : List MemPlace} (ht : P.underlying t = some (.func ps rs va))
  (h : DataW.trod (funcToken P) P W 0 (fun _ => true) true fuel t [v] = some (.nil, q)) : v = .nilFunc := by
 cases fuel with
 | zero => simp [DataW.trod] at h
 | succ n => cases v <;> simp [DataW.trod, ht] at h <;> rfl
theorem y7S {name : String} {d : DataW Unit} {l : List (String × DataW Unit)} {tab : List Value} {g n : Nat} {t te : TypeId} {ps rs : Array TypeId} {va : Bool} (hl : laidMetH P l W) (hm : (name, DataW.iface "func table" d) ∈ l)
  (hg : P.globalNamed name = some g) (hty : (P.globals[g]?).map (·.type) = some t) (ht : P.underlying t = some (.array n te)) (hte : P.underlying te = some (.func ps rs va)) (hcte : P.cellsOf te = 1) (hct : P.cellsOf t = n)
  (hd : y7x P d.funcsOut = some tab) : ZC (ZW W) ⟨g, 0, none⟩ tab := by
 obtain ⟨g', t', cs, fuel, p, hg', ht', hvar, hr⟩ := hl.funcs hm
 obtain rfl := Option.some.inj (hg.symm.trans hg')
 obtain rfl := Option.some.inj (hty.symm.trans ht')
 obtain ⟨xs, m, _, hx, hcl, hxl, hel⟩ := DataW.trod_array ht hr
 have hx1 : d.funcsOut = .agg (xs.map (·.1)) := congrArg Prod.fst hx
 rw [hx1] at hd
 unfold y7x at hd
 have htl := Lib.mapM_length hd
 rw [hct] at hcl
 simp only [List.length_map, hxl] at htl
 have e : cs.toList = tab := by
  apply List.ext_getElem?
  intro i
  by_cases hi : i < n
  ·have h1 := hel i hi
   obtain ⟨y, hy⟩ : ∃ y, xs[i]? = some y := ⟨xs[i]'(by omega), by simp⟩
   obtain ⟨v, hv⟩ : ∃ v, cs.toList[i]? = some v := ⟨cs.toList[i]'(by omega), List.getElem?_eq_getElem _⟩
   rw [hcte, Nat.mul_one, hy] at h1
   have e1 : (cs.toList.drop i).take 1 = [v] := by
    have hlt := (List.getElem?_eq_some_iff.1 hv).1
    rw [List.drop_eq_getElem_cons hlt]
    have := (List.getElem?_eq_some_iff.1 hv).2
    simp [this]
   rw [e1] at h1
   obtain ⟨x', hx', hf'⟩ := Lib.mapM_at hd i y.1 (by simp [hy])
   rw [hv, hx']
   obtain ⟨y1, y2⟩ := y
   congr 1
   dsimp only at hf'
   split at hf'
   ·exact (y7n hte h1).trans (Option.some.inj hf')
   ·split at hf'
    ·rename_i hone
     exact (func_of_trod hte hone h1).trans (Option.some.inj hf')
    ·cases hf'
   ·cases hf'
  ·rw [List.getElem?_eq_none (by omega), List.getElem?_eq_none (by omega)]
 rw [← e]
 exact y6h hg hvar
section
variable {H : Type} {enc : TypeId × Value → H}
end
end Sep

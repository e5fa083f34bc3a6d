/- A part of this claim's proof: models of functions, walks, plain laws. No conditions. -/
import Derived.Test.YtcahmabkeaijdaaGreatZSeg
namespace Sep
open Go Go.RowKit
set_option linter.all false
def y5V (i : Nat) (acc : Array Bool) (o : Oper) : Array Bool := acc.push (o.after.any fun e => Region.binds .any e && (Nat.beq e.on i || acc.getD e.on false))
def goF (i : Nat) (oi : Oper) (ops : Array Oper) (tl : Nat → Bool) : List Oper → List Bool → Nat → Nat → Bool
 | [], [], _, _ => true
 | oj :: os, lj :: ls, j, W =>
  if (oj.after.any fun e => Region.binds .any e && (Nat.beq e.on i || Nat.testBit W e.on)) then !lj && goF i oi ops tl os ls (j + 1) (W ||| (1 <<< j))
  else (Nat.beq j i || lj || (oi.apart ops oj && !tl j)) && goF i oi ops tl os ls (j + 1) W
 | _, _, _, _ => false
def freeF (ops : Array Oper) (tl : Nat → Bool) (listed : Array Bool) (i : Nat) : Bool :=
 match ops[i]? with
 | none => false
 | some oi => goF i oi ops tl ops.toList listed.toList 0 0
theorem ycy {i : Nat} {oi : Oper} {ops : Array Oper} {tl : Nat → Bool} : ∀ (os : List Oper) (ls : List Bool) (j W : Nat) (acc : Array Bool), acc.size = j → (∀ k, acc.getD k false = W.testBit k) → goF i oi ops tl os ls j W = true →
  ls.length = os.length ∧ (os.foldl (y5V i) acc).size = j + os.length ∧ (∀ k, k < j → (os.foldl (y5V i) acc).getD k false = acc.getD k false) ∧
  ∀ (m : Nat) (oj : Oper) (lj : Bool), os[m]? = some oj → ls[m]? = some lj →
   ((os.foldl (y5V i) acc).getD (j + m) false = true → lj = false ∧ (oj.after.any fun e => Region.binds .any e && (Nat.beq e.on i || (os.foldl (y5V i) acc).getD e.on false)) = true) ∧
   ((os.foldl (y5V i) acc).getD (j + m) false = false → j + m = i ∨ lj = true ∨ (oi.apart ops oj = true ∧ tl (j + m) = false))
 | [], [], j, W, acc, hs, hW, h => ⟨rfl, hs, fun _ _ => rfl, fun m oj lj h1 _ => by simp at h1⟩
 | [], _ :: _, j, W, acc, hs, hW, h => by simp [goF] at h
 | _ :: _, [], j, W, acc, hs, hW, h => by simp [goF] at h
 | oj :: os, lj :: ls, j, W, acc, hs, hW, h => by
  rw [goF] at h
  have hfun : (fun e : Edge => Region.binds .any e && (Nat.beq e.on i || Nat.testBit W e.on)) = (fun e => Region.binds .any e && (Nat.beq e.on i || acc.getD e.on false)) := by
   funext e; rw [hW]
  rw [hfun] at h
  have hacc : ∀ (b : Bool) (k : Nat), (acc.push b).getD k false = if k = j then b else acc.getD k false := by
   intro b k
   by_cases hk : k = j
   ·subst hk; subst hs; simp
   ·rw [if_neg hk]
    rcases Nat.lt_or_ge k acc.size with h' | h'
    ·simp [Array.getD, h', Nat.lt_succ_of_lt h', Array.getElem_push_lt h']
    ·have h1 : ¬ k < acc.size := by omega
     have h2 : ¬ k < acc.size + 1 := by omega
     simp [Array.getD, h1, h2]
  have key : ∀ (b : Bool) (W' : Nat), y5V i acc oj = acc.push b → (∀ k, (acc.push b).getD k false = W'.testBit k) → goF i oi ops tl os ls (j + 1) W' = true →
    ((b = true → lj = false) ∧ (b = false → j = i ∨ lj = true ∨ (oi.apart ops oj = true ∧ tl j = false))) → (oj.after.any fun e => Region.binds .any e && (Nat.beq e.on i || acc.getD e.on false)) = b →
    (lj :: ls).length = (oj :: os).length ∧ ((oj :: os).foldl (y5V i) acc).size = j + (oj :: os).length ∧ (∀ k, k < j → ((oj :: os).foldl (y5V i) acc).getD k false = acc.getD k false) ∧
    ∀ (m : Nat) (oj' : Oper) (lj' : Bool), (oj :: os)[m]? = some oj' → (lj :: ls)[m]? = some lj' →
     (((oj :: os).foldl (y5V i) acc).getD (j + m) false = true → lj' = false ∧ (oj'.after.any fun e => Region.binds .any e && (Nat.beq e.on i || ((oj :: os).foldl (y5V i) acc).getD e.on false)) = true) ∧
     (((oj :: os).foldl (y5V i) acc).getD (j + m) false = false → j + m = i ∨ lj' = true ∨ (oi.apart ops oj' = true ∧ tl (j + m) = false)) := by
   intro b W' hb hW' hg hc hbe
   obtain ⟨i1, i2, i3, i4⟩ := ycy os ls (j + 1) W' (acc.push b) (by simp [hs]) hW' hg
   rw [List.foldl_cons, hb]
   have hj := i3 j (by omega)
   rw [hacc, if_pos rfl] at hj
   refine ⟨by simp [i1], by rw [i2]; simp; omega, fun k hk => ?_, fun m oj' lj' h1 h2 => ?_⟩
   ·rw [i3 k (by omega), hacc, if_neg (by omega)]
   ·cases m with
    | zero =>
     simp only [List.getElem?_cons_zero, Option.some.injEq] at h1 h2
     subst h1 h2
     rw [Nat.add_zero, hj]
     refine ⟨fun hbt => ⟨hc.1 hbt, ?_⟩, fun hbf => hc.2 hbf⟩
     rw [hbt] at hbe
     rw [Array.any_eq_true] at hbe ⊢
     obtain ⟨q, hq, he⟩ := hbe
     refine ⟨q, hq, ?_⟩
     simp only [Bool.and_eq_true, Bool.or_eq_true] at he ⊢
     refine ⟨he.1, he.2.imp id fun h4 => ?_⟩
     have h5 : oj.after[q].on < j := by
      rcases Nat.lt_or_ge oj.after[q].on j with h' | h'
      ·exact h'
      ·have h6 : ¬ oj.after[q].on < acc.size := by omega
       simp [Array.getD, h6] at h4
     rw [i3 _ (by omega), hacc, if_neg (by omega)]; exact h4
    | succ m =>
     simp only [List.getElem?_cons_succ] at h1 h2
     have := i4 m oj' lj' h1 h2
     rw [show j + 1 + m = j + (m + 1) by omega] at this
     exact this
  by_cases hb : (oj.after.any fun e => Region.binds .any e && (Nat.beq e.on i || acc.getD e.on false)) = true
  ·rw [if_pos hb] at h
   simp only [Bool.and_eq_true, Bool.not_eq_true'] at h
   refine key true _ (by unfold y5V; rw [hb]) (fun k => ?_) h.2 ⟨fun _ => h.1, fun h' => by cases h'⟩ hb
   rw [hacc, Nat.testBit_or, Nat.one_shiftLeft, Nat.testBit_two_pow, hW]
   by_cases hk : k = j
   ·subst hk; simp
   ·have : ¬ j = k := fun h => hk h.symm
    simp [hk, this]
  ·rw [if_neg hb] at h
   simp only [Bool.and_eq_true, Bool.or_eq_true, Bool.not_eq_true'] at h
   have hb' := Bool.eq_false_iff.2 hb
   refine key false _ (by unfold y5V; rw [hb']) (fun k => ?_) h.2 ⟨fun h' => (by cases h'), fun _ => ?_⟩ hb'
   ·rw [hacc]
    by_cases hk : k = j
    ·subst hk
     rw [if_pos rfl, ← hW]
     have h6 : ¬ k < acc.size := by omega
     simp [Array.getD, h6]
    ·rw [if_neg hk, hW]
   ·rcases h.1 with (h1 | h1) | h1
    ·exact .inl (Nat.eq_of_beq_eq_true h1)
    ·exact .inr (.inl h1)
    ·exact .inr (.inr h1)
theorem z2F {ops : Array Oper} {tl : Nat → Bool} {listed : Array Bool} {i : Nat} (h : freeF ops tl listed i = true := by kernel_rfl) : y45 ops tl listed i = true := by
 unfold freeF at h
 unfold y45
 cases hi : ops[i]? with
 | none => rw [hi] at h; cases h
 | some oi =>
  rw [hi] at h
  obtain ⟨i1, i2, i3, i4⟩ := ycy ops.toList listed.toList 0 0 #[] rfl (fun k => by simp [Array.getD]) h
  have hw : ops.toList.foldl (y5V i) #[] = y3B ops i := by unfold y3B; rw [← Array.foldl_toList]; rfl
  rw [hw] at i2 i3 i4
  have hls : listed.size = ops.size := by simpa using i1
  simp only [Bool.and_eq_true, List.all_eq_true, List.mem_range]
  have hsz : (y3B ops i).size = ops.size := by simpa using i2
  refine ⟨by rw [hsz]; exact Nat.beq_refl _, fun j hj => ?_⟩
  have h1 : ops.toList[j]? = some ops[j] := by simp [hj]
  have h2 : listed.toList[j]? = some (listed[j]'(by omega)) := by simp [hls, hj]
  have h3 := i4 j _ _ h1 h2
  rw [Nat.zero_add] at h3
  have h4 : ops[j]? = some ops[j] := Array.getElem?_eq_getElem hj
  have h5 : listed.getD j true = listed[j]'(by omega) := by simp [Array.getD, hls, hj]
  rw [h4, h5]
  cases hb : (y3B ops i).getD j false with
  | true =>
   have h6 := h3.1 hb
   simp only [h6.1, Bool.not_true, Bool.false_or, Bool.not_false, Bool.true_and, Bool.or_true, Bool.true_or, and_true]
   exact h6.2
  | false =>
   have h6 := h3.2 hb
   simp only [Bool.not_false, Bool.true_or, true_and, Bool.or_false]
   rcases h6 with h6 | h6 | h6
   ·subst h6; simp [Nat.beq_refl]
   ·rw [h6]; simp
   ·rw [h6.1, h6.2]; simp
def readyF (ops : Array Oper) (listed : Array Bool) (i : Nat) : Bool :=
 match ops[i]? with
 | none => false
 | some o => !listed.getD i true && o.after.all fun e => !Region.binds .any e || listed.getD e.on false
theorem z2E {ops : Array Oper} {listed : Array Bool} {i : Nat} (h : readyF ops listed i = true := by kernel_rfl) : (Region.ready .any ops listed).contains i = true := by
 unfold readyF at h
 cases hi : ops[i]? with
 | none => rw [hi] at h; cases h
 | some o =>
  rw [hi] at h
  simp only [Bool.and_eq_true, Bool.not_eq_true', Array.all_eq_true_iff_forall_mem, Bool.or_eq_true] at h
  have hm : i ∈ Region.ready .any ops listed := mem_ready.2 ⟨h.1, o, hi, fun e he hb => by
   rcases h.2 e he with h1 | h1
   ·rw [hb] at h1; cases h1
   ·exact h1⟩
  simpa using hm
section
variable [Rnd]
theorem WD.d {P : Program} {n : Nat} {F : List Nat} {w₀ : World} {env : List (Nat × Value)} {L : List Asrt} {ops : Array Oper} {tl : Nat → Bool} {Ls : List Asrt} {fuel : Nat} {listed : Array Bool} {Q : Act → World → Prop} (listed' : Array Bool)
  (h : listed = listed') (k : WD P n F w₀ ops tl Ls Q fuel listed' env L) : WD P n F w₀ ops tl Ls Q fuel listed env L := h ▸ k
end
section freezeo
variable [Rnd] {P : Program} {n : Nat} {F : List Nat} {w₀ : World} {ops : Array Oper} {tl : Nat → Bool} {Ls : List Asrt} {Q : Act → World → Prop} {fuel : Nat} {listed : Array Bool} {env : List (Nat × Value)} {L R R' : List Asrt} {Z Zn : Zp} {i : Nat} {e sz : Nat} {T : TypeId}
theorem WDo.freezeS {α : Type} {Pr : List Value → α → Prop} {ao : Option Addr} {cap : Nat} {cs : List Value} {ls : List α} (hm : Pick L (row (.slice ao ls.length cap) e sz cs) R) (hz : Pick R (fz Zn) R') (hp : PZ F w₀ Z) (hr : RR sz Pr cs ls)
  (k : ∀ Zn', Zle (Z ++ Zn) (Z ++ Zn') → ZS (Z ++ Zn') sz Pr ao cap ls → WDo P n F w₀ ops tl Ls Q fuel listed env (fz Zn' :: R') i) : WDo P n F w₀ ops tl Ls Q fuel listed env L i := fun a w h => by
 obtain ⟨Zn', h1, h2, h3⟩ := h.hp.freezeS hm hz hp hr
 exact k Zn' h1 h2 a w (h.world h3)
theorem WDo.freezeC {bb : Nat} {cs : List Value} (hm : Pick L (stb bb T cs) R) (hz : Pick R (fz Zn) R')
  (k : ∀ Zn', Zle (Z ++ Zn) (Z ++ Zn') → ZC (Z ++ Zn') ⟨bb, 0, none⟩ cs → WDo P n F w₀ ops tl Ls Q fuel listed env (fz Zn' :: R') i) : WDo P n F w₀ ops tl Ls Q fuel listed env L i := fun a w h => by
 obtain ⟨Zn', h1, h2, h3⟩ := h.hp.freezeC hm hz
 exact k Zn' h1 h2 a w (h.world h3)
end freezeo
/-! ### calls: what a callee is given, said once -/
section calls
variable [Rnd]
variable {P : Program} {F : List Nat} {w₀ : World} {L Lc Lr R R' B : List Asrt} {Z Zn : Zp} {f : FuncId} {vs : Array Value} {Q : World → Ending → World → Prop}
theorem cc (hz : PZ F w₀ Z) (hs : Sel L Lc Lr) (hc : ∀ w, PZ (fps Lc) w Z → Hp (fps Lc) w w Lc → Calls P f vs w (Q w)) : ∀ w, Hp F w₀ w L → Calls P f vs w (Q w) :=
 fun w hw => hc w (hz.call hw hs) (hw.owns hs)
theorem ccz (hz : PZ F w₀ Z) (hs : Sel L Lc Lr) (hm : Pick Lr (fz Zn) R) (hc : ∀ w, PZ (fps Lc) w (Z ++ Zn) → Hp (fps Lc) w w Lc → Calls P f vs w (Q w)) : ∀ w, Hp F w₀ w L → Calls P f vs w (Q w) :=
 fun w hw => hc w (hz.call2 hw hs hm) (hw.owns hs)
theorem ccl (hz : PZ F w₀ Z) (hs : Sel L Lc Lr) (hb : Sel Lr B R') (hc : ∀ w, PZ (fps Lc) w (Z ++ y88 w (fps B)) → Hp (fps Lc) w w Lc → (∀ x, x ∈ B → ∀ Z' : Zp, ZA (Z' ++ y88 w (fps B)) x) → Calls P f vs w (Q w)) : ∀ w, Hp F w₀ w L → Calls P f vs w (Q w) :=
 fun w hw => hc w ((hz.call hw hs).lend hw hs (fun _ hx' => hb.mem hx')) (hw.owns hs) (fun _ hx Z' => hw.lent hs (fun _ hx' => hb.mem hx') hx Z')
theorem cclz (hz : PZ F w₀ Z) (hs : Sel L Lc Lr) (hm : Pick Lr (fz Zn) R) (hb : Sel Lr B R') (hc : ∀ w, PZ (fps Lc) w ((Z ++ Zn) ++ y88 w (fps B)) → Hp (fps Lc) w w Lc → (∀ x, x ∈ B → ∀ Z' : Zp, ZA (Z' ++ y88 w (fps B)) x) → Calls P f vs w (Q w)) : ∀ w, Hp F w₀ w L → Calls P f vs w (Q w) :=
 fun w hw => hc w ((hz.call2 hw hs hm).lend hw hs (fun _ hx' => hb.mem hx')) (hw.owns hs) (fun _ hx Z' => hw.lent hs (fun _ hx' => hb.mem hx') hx Z')
end calls
end Sep

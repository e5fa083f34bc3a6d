/- A part of this claim's proof: models of functions, walks, plain laws. No conditions. -/
import Derived.Test.YtcahmabkeaijdaaGreatZSeg
namespace Sep
open Go Go.RowKit
set_option linter.all false
/-! ### keys that are structs or arrays of numbers -/
theorem ya1 {P : Program} {kt : TypeId} {κ : Type} [DecidableEq κ] {ek : κ → Value} (heq : ∀ u v w, (Op.equal kt (ek u) (ek v)).run P w = .ok (decide (u = v)) w) (k : κ) :
  ∀ (es : List MapEntry) (ks : List κ) (i : Nat) (w : World), es.map (·.key) = ks.map ek →
   (Instr.findAsking kt (ek k) es i).run P w = .ok ((ks.findIdx? fun k' => decide (k = k')).map fun j => (i + j, ((es[j]?).map (·.val)).getD undef)) w
 | [], [], i, w, _ => by simp [Instr.findAsking]
 | [], _ :: _, _, _, h => by simp at h
 | _ :: _, [], _, _, h => by simp at h
 | e :: es, k' :: ks, i, w, h => by
  simp only [List.map_cons, List.cons.injEq] at h
  unfold Instr.findAsking
  rw [h.1]
  simp only [Sem.run_bind, heq, Result.andThen_ok, List.findIdx?_cons]
  by_cases hk : k = k'
  ·subst hk; simp
  ·simp only [hk, decide_false, Bool.false_eq_true, if_false]
   rw [ya1 heq k es ks (i + 1) w h.2]
   cases ks.findIdx? (fun k' => decide (k = k')) with
   | none => rfl
   | some j => simp; omega
theorem ybb {P : Program} {kt : TypeId} {κ : Type} [DecidableEq κ] {enc : κ → List Value} {dd : TypeDesc} (hd : P.underlying kt = some dd) (hs : ∀ a b, Instr.sameNow dd (.agg a) (.agg b) = none)
  (hchk : ∀ b k w, (Instr.checkKey b 10000 kt (.agg (enc k).toArray)).run P w = .ok () w)
  (heq : ∀ u v w, (Op.equal kt (.agg (enc u).toArray) (.agg (enc v).toArray)).run P w = .ok (decide (u = v)) w)
  (hbits : ∀ k, Instr.sameBits 10000 (.agg (enc k).toArray) (.agg (enc k).toArray) = true) : KeyT P kt (fun x => .agg (enc x).toArray) where
 chk := hchk
 find k es ks w hk := by
  unfold Instr.findKey
  simp only [Sem.run_bind, run_underlying hd, Result.andThen_ok]
  cases es with
  | nil => cases ks with
   | nil => simp [Instr.findNow]
   | cons => simp at hk
  | cons e es => cases ks with
   | nil => simp at hk
   | cons k' ks =>
    have h0 : Instr.findNow dd (.agg (enc k).toArray) (e :: es) 0 = none := by
     unfold Instr.findNow
     simp only [List.map_cons, List.cons.injEq] at hk
     rw [hk.1, hs]
    rw [h0]
    have := ya1 (P := P) (kt := kt) (ek := fun x => Value.agg (enc x).toArray) heq k (e :: es) (k' :: ks) 0 w hk
    simpa using this
 stays k w := by simp [Instr.keyThatStays, hbits]
end Sep

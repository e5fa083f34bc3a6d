/- A part of this claim's proof: models of functions, walks, plain laws. No conditions. -/
import Derived.Test.YtcahmabkeaijdaaGreatZPart
import Derived.Test.YtcahmabkeaijdaaGreatZMap
namespace Sep
open Go Go.RowKit
set_option linter.all false
section seg
variable [Rnd]
variable {P : Program} {n : Nat} {F : List Nat} {w₀ : World} {env : List (Nat × Value)} {L Lc Lr R : List Asrt} {ops : Array Oper} {Q : Exit → Act → World → Prop} {rest : List Oper}
def ksIn (i : Nat) : List (Nat × Value) → Bool
 | [] => false
 | p :: r => bif Nat.beq i p.1 then true else ksIn i r
def yal : Nat → List (Nat × Value) → List (Nat × Value) → Bool
 | 0, _, _ => true
 | _ + 1, [], _ => true
 | k + 1, p :: r, e => bif ksIn p.1 e then false else yal k r e
theorem yd7 {i : Nat} : ∀ {e : List (Nat × Value)}, ksIn i e = false → lk e i = none
 | [], _ => rfl
 | (j, v) :: r, h => by
  simp only [ksIn] at h
  simp only [lk]
  cases hb : Nat.beq i j with
  | true => rw [hb] at h; simp at h
  | false => rw [hb] at h; simp at h ⊢; exact yd7 h
theorem yb9 : ∀ (k : Nat) {cur e : List (Nat × Value)}, yal k cur e = true → ∀ i v, lk e i = some v → lk (cur.drop k) i = some v → lk cur i = some v
 | 0, cur, e, _, i, v, _, h => by simpa using h
 | k + 1, [], e, _, i, v, _, h => by simp [lk] at h
 | k + 1, (j, u) :: r, e, hf, i, v, he, h => by
  simp only [yal] at hf
  cases hk : ksIn j e with
  | true => rw [hk] at hf; simp at hf
  | false =>
   rw [hk] at hf; simp at hf
   have hij : i ≠ j := fun hij => by subst hij; rw [yd7 hk] at he; cases he
   simp only [lk]; rw [y63 hij]; exact yb9 k hf i v he (by simpa using h)
theorem SS.of {env' : List (Nat × Value)} {a : Act} {w : World} (h : SS n F w₀ env L a w) (hr : ∀ i v, lk env' i = some v → lk env i = some v) : SS n F w₀ env' L a w :=
 ⟨h.defers, h.size, fun i v hv => h.ev i v (hr i v hv), h.hp⟩
def ybl (n : Nat) (ops : Array Oper) : List Oper → List (Nat × Value) → Option (List (Nat × Value))
 | [], e => some e
 | o :: l, e => match gd e ops o, o.dst with
  | some false, some d => bif Nat.blt d n then ybl n ops l ((d, undef) :: e) else none
  | _, _ => none
theorem WL.ycx : ∀ {l1 rest : List Oper} {env env' : List (Nat × Value)}, ybl n ops l1 env = some env' → WL P n F w₀ ops Q rest env' L → WL P n F w₀ ops Q (l1 ++ rest) env L
 | [], rest, env, env', h, k => by simp only [ybl, Option.some.injEq] at h; subst h; exact k
 | o :: l1, rest, env, env', h, k => by
  simp only [ybl] at h
  split at h
  ·rename_i d hg hd
   cases hn : Nat.blt d n with
   | false => rw [hn] at h; simp at h
   | true => rw [hn] at h; simp only [cond_true] at h; exact WL.e hg hd hn (WL.ycx h k)
  ·cases h
def pickE (n : Nat) (ops : Array Oper) (env : List (Nat × Value)) (o : Oper) : Option (Nat × Value) :=
 match gd env ops o, o.dst, o.op with
 | some true, some d, .pick c x y => bif Nat.blt d n then (match eo env c with
  | some (.bool b) => (eo env (bif b then x else y)).map fun v => (d, v)
  | _ => none) else none
 | _, _, _ => none
theorem WL.ycX {o : Oper} {d : Nat} {v : Value} (h : pickE n ops env o = some (d, v)) (k : WL P n F w₀ ops Q rest ((d, v) :: env) L) : WL P n F w₀ ops Q (o :: rest) env L := by
 obtain ⟨dst, op, ty, pos, after, g⟩ := o
 unfold Sep.pickE at h
 split at h
 ·rename_i d' c x y hg hd hop
  simp only at hd hop
  subst hd hop
  cases hn : Nat.blt d' n with
  | false => rw [hn] at h; simp at h
  | true =>
   rw [hn] at h; simp only [cond_true] at h
   split at h
   ·rename_i b hc
    rw [Option.map_eq_some_iff] at h
    obtain ⟨v', hv, he⟩ := h
    injection he with h1 h2; subst h1 h2
    cases b
    ·exact WL.a hg rfl hn (y2z hc hv) k
    ·exact WL.a hg rfl hn (y2y hc hv) k
   ·cases h
 ·cases h
theorem WL.yC {cur e : List (Nat × Value)} {pd : Nat} {y B : Bool} {M L' : List Asrt} (hB : y = B) (hk : yal (cur.length - e.length) cur e = true) (he : cur.drop (cur.length - e.length) = e) (hL : Sel L L' M) :
  WL P n F w₀ ops (Exit.then (fun a w => ∃ _g : Unit, True ∧ SS n F w₀ ((pd, .bool B) :: e) L' a w) Q) [] ((pd, .bool y) :: cur) L := by
 subst hB
 intro a w h
 refine ⟨(), trivial, (h.of (env' := (pd, .bool y) :: e) fun i v hv => ?_).drop hL⟩
 simp only [lk] at hv ⊢
 cases hb : Nat.beq i pd with
 | true => rw [hb] at hv; simpa using hv
 | false => rw [hb] at hv; simp only [cond_false] at hv ⊢; exact yb9 _ hk i v hv (by rw [he]; exact hv)
theorem WL.seg (want : Bool) (m sl : Nat) {pd : Nat} {b B : Bool} {l : List Oper} {e' : List (Nat × Value)} {o : Oper}
  (hlk : lk env sl = some (.bool b)) (hm : l[m]? = some o)
  (hsk : ybl n ops (l.take m) ((sl, .bool (!want)) :: env) = some e') (hpk : pickE n ops e' o = some (pd, .bool (!want)))
  (hf : yal (e'.length - env.length - 1) e' ((sl, .bool (!want)) :: env) = true) (he : e'.drop (e'.length - env.length - 1) = (sl, .bool (!want)) :: env)
  (hB : b = !want → B = !want)
  (k1 : ∀ Q', b = want → WL P n F w₀ ops (Exit.then (fun a w => ∃ _g : Unit, True ∧ SS n F w₀ ((pd, .bool B) :: (sl, .bool want) :: env) L a w) Q') (l.take (m + 1)) ((sl, .bool want) :: env) L)
  (k2 : WL P n F w₀ ops Q (l.drop (m + 1)) ((pd, .bool B) :: env) L) : WL P n F w₀ ops Q l env L := by
 have hsl : ∀ c, b = c → ∀ i v, lk env i = some v → lk ((sl, .bool c) :: env) i = some v := fun c hc i v hv => by
  simp only [lk]
  cases hb : Nat.beq i sl with
  | false => simpa using hv
  | true =>
   have : i = sl := Nat.eq_of_beq_eq_true hb
   subst this; rw [hlk] at hv; rw [← hc]; simpa using hv
 have hpd : ∀ c, b = c → ∀ i v, lk ((pd, .bool B) :: env) i = some v → lk ((pd, .bool B) :: (sl, .bool c) :: env) i = some v := fun c hc i v hv => by
  unfold lk at hv ⊢
  cases hb : Nat.beq i pd with
  | true => rw [hb] at hv; simpa using hv
  | false => rw [hb] at hv; simp only [cond_false] at hv ⊢; exact hsl c hc i v hv
 have hpin : ∀ c, b = c → ∀ a w, SS n F w₀ env L a w → SS n F w₀ ((sl, .bool c) :: env) L a w := fun c hc a w h => h.of fun i v hv => by
  simp only [lk] at hv
  cases hb : Nat.beq i sl with
  | false => rw [hb] at hv; simpa using hv
  | true =>
   have : i = sl := Nat.eq_of_beq_eq_true hb
   subst this; rw [hb] at hv; simp only [cond_true] at hv; rw [← hv, ← hc]; exact hlk
 refine WL.cut (G := Unit) (fun _ => True) (fun _ => (pd, .bool B) :: env) (fun _ => L) (m + 1) ?_ (fun _ _ => k2)
 by_cases hb : b = want
 ·refine WL.cut (G := Unit) (fun _ => True) (fun _ => (pd, .bool B) :: (sl, .bool want) :: env) (fun _ => L) (m + 1) ?_ (fun _ _ => ?_)
  ·rw [List.take_take, Nat.min_self]
   exact fun a w h => k1 _ hb a w (hpin want hb a w h)
  ·rw [List.drop_eq_nil_of_le (by simp; omega)]
   exact fun a w h => ⟨(), trivial, h.of (hpd want hb)⟩
 ·have hb' : b = !want := by cases b <;> cases want <;> simp_all
  have hm' : l.take (m + 1) = l.take m ++ [o] := by rw [List.take_add_one, hm]; rfl
  rw [hm']
  intro a w h
  refine (WL.ycx hsk (WL.ycX hpk ?_)) a w (hpin _ hb' a w h)
  intro a w h
  refine ⟨(), trivial, h.of fun i v hv => ?_⟩
  have h1 := hpd _ hb' i v hv
  rw [hB hb'] at h1
  simp only [lk] at h1 ⊢
  cases hbb : Nat.beq i pd with
  | true => rw [hbb] at h1; simpa using h1
  | false =>
   rw [hbb] at h1; simp only [cond_false] at h1 ⊢
   refine yb9 _ hf i v (by simpa only [lk] using h1) ?_
   rw [he]; simpa only [lk] using h1
end seg
/-! ### operations that compute alone -/
section pu
variable [Rnd]
variable {P : Program} {n : Nat} {F : List Nat} {w₀ : World} {env : List (Nat × Value)} {L Lc Lr R : List Asrt} {ops : Array Oper} {Q : Exit → Act → World → Prop} {rest : List Oper}
def intOp : BinOp → IntKind → Int → Int → Option Value
 | .add, k, p, q => some (.int k (k.wrap (p + q)))
 | .sub, k, p, q => some (.int k (k.wrap (p - q)))
 | .mul, k, p, q => some (.int k (k.wrap (p * q)))
 | .lss, _, p, q => some (.bool (decide (p < q)))
 | .leq, _, p, q => some (.bool (decide (p ≤ q)))
 | .gtr, _, p, q => some (.bool (decide (p > q)))
 | .geq, _, p, q => some (.bool (decide (p ≥ q)))
 | .eql, _, p, q => some (.bool (decide (p = q)))
 | .neq, _, p, q => some (.bool (decide (p ≠ q)))
 | _, _, _, _ => none
def puV (env : List (Nat × Value)) : Op → Option Value
 | .move x => eo env x
 | .assign x => eo env x
 | .pick c x y => match eo env c with
  | some (.bool true) => eo env x
  | some (.bool false) => eo env y
  | _ => none
 | .extract x i => match eo env x with
  | some (.tuple vs) => vs.toList[i]?
  | _ => none
 | .unOp .not _ x => match eo env x with
  | some (.bool b) => some (.bool (!b))
  | _ => none
 | .binOp op _ x y _ => match eo env x, eo env y with
  | some (.int k p), some (.int k' q) => if k = k' then intOp op k p q else none
  | _, _ => none
 | _ => none
def puE (n : Nat) (ops : Array Oper) (env : List (Nat × Value)) (o : Oper) : Option (Nat × Value) :=
 match gd env ops o, o.dst with
 | some true, some d => bif Nat.blt d n then (match puV env o.op with | some v => some (d, v) | none => none) else none
 | _, _ => none
theorem puV_q {op : Op} {v : Value} {d : Option Tmp} {ty : TypeId} {pos : String} {after : Array Edge} {g : Option (Nat × Bool)} (h : puV env op = some v) : Qt P n F w₀ env L ⟨d, op, ty, pos, after, g⟩ v := by
 cases op <;> simp only [puV] at h <;> try cases h
 case move x => exact q_m h
 case assign x => exact q_z h
 case pick c x y =>
  split at h
  ·rename_i hc; exact y2y hc h
  ·rename_i hc; exact y2z hc h
  ·cases h
 case extract x i =>
  split at h
  ·rename_i vs hx; exact y70 (vs := vs.toList) (by rw [hx]) h
  ·cases h
 case unOp o t x =>
  cases o <;> simp only [puV] at h <;> try cases h
  split at h
  ·rename_i b hx; injection h with h; subst h; exact q_not hx
  ·cases h
 case binOp o t x y t' =>
  split at h
  ·rename_i k p k' q hx hy
   split at h
   ·rename_i hk; subst hk
    cases o <;> simp only [intOp] at h <;> try cases h
    ·exact yaF hx hy rfl
    ·exact ybj hx hy rfl
    ·exact y6g hx hy rfl
    ·exact y8e hx hy
    ·exact q_neq hx hy
    ·exact q_lss hx hy
    ·exact q_leq hx hy
    ·exact yaG hx hy
    ·exact q_geq hx hy
   ·cases h
  ·cases h
theorem WL.pu {o : Oper} {d : Nat} {v : Value} (h : puE n ops env o = some (d, v)) (k : WL P n F w₀ ops Q rest ((d, v) :: env) L) : WL P n F w₀ ops Q (o :: rest) env L := by
 obtain ⟨dst, op, ty, pos, after, g⟩ := o
 cases hg : gd env ops ⟨dst, op, ty, pos, after, g⟩ with
 | none => simp [puE, hg] at h
 | some b =>
 cases b with
 | false => simp [puE, hg] at h
 | true =>
 cases dst with
 | none => simp [puE, hg] at h
 | some d' =>
  simp only [puE, hg] at h
  cases hn : Nat.blt d' n with
  | false => rw [hn] at h; simp at h
  | true =>
   rw [hn] at h; simp only [cond_true] at h
   split at h
   ·rename_i v' hv
    injection h with h; injection h with h1 h2; subst h1 h2
    exact WL.a hg rfl hn (puV_q hv) k
   ·cases h
end pu
theorem ocB {vs : List Value} (h : (vs.all fun u => u.oneCell') = true) : ∀ u ∈ vs, u.oneCell' = true := List.all_eq_true.1 h
section st
variable [Rnd]
variable {P : Program} {n : Nat} {F : List Nat} {w₀ : World} {env : List (Nat × Value)} {L Lc Lr R : List Asrt} {ops : Array Oper} {Q : Exit → Act → World → Prop} {rest : List Oper}
 {d : Option Tmp} {ty : TypeId} {pos : String} {after : Array Edge} {g : Option (Nat × Bool)} {v u : Value} {x y : Operand} {t T : TypeId}
theorem yl {b s : Nat} {cs vs : List Value} (hT : y46 P t s) (hx : eo env x = some (.pointer (some ⟨b, 0, none⟩))) (hy : eo env y = some v) (hv : v.cells = vs.toArray) (hm : Pick L (stb b T cs) R)
  (hl : Nat.beq cs.length vs.length = true) (hs : vs.length = s) (h1 : (vs.all fun u => u.oneCell') = true) :
  Ef0 P n F w₀ env L ⟨none, .store t x y, ty, pos, after, g⟩ (stb b T vs :: R) := by
 have hl' := Nat.eq_of_beq_eq_true hl
 refine yd3 hT hx hy hv hs (ocB h1) hm (by omega) ?_
 simp [y5b, ← hl']
theorem y5u {b off s : Nat} {cs vs ds : List Value} (hT : y46 P t s) (hx : eo env x = some (.pointer (some ⟨b, off, none⟩))) (hy : eo env y = some v) (hv : v.cells = vs.toArray)
  (hs : vs.length = s) (h1 : (vs.all fun u => u.oneCell') = true) (hm : Pick L (stb b T cs) R) (hfit : Nat.ble (off + s) cs.length = true) (hds : y5b cs off vs = ds) :
  Ef0 P n F w₀ env L ⟨none, .store t x y, ty, pos, after, g⟩ (stb b T ds :: R) := yd3 hT hx hy hv hs (ocB h1) hm (Nat.le_of_ble_eq_true hfit) hds
theorem yg {A : Addr} {cs : List Value} {s : Nat} (hT : y5r P t s) (hx : eo env x = some (.pointer (some A))) (hR : ∀ w, Hp F w₀ w L → ∀ j u, cs[j]? = some u → w.cell? (A.add j) = some u) (hl : cs.length = s) :
  Qt P n F w₀ env L ⟨d, .load t x, ty, pos, after, g⟩ (.agg cs.toArray) := yQ hT hx hl hR
end st
end Sep

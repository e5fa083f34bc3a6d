/- A part of this claim's proof: calls by contract. No conditions. -/
import Derived.Test.YtcahmabkeaijdaaGreatSepRules
set_option linter.all false
set_option linter.unusedSectionVars false
namespace Sep
open Go Go.RowKit
variable [Rnd]
abbrev fps (L : List Asrt) : List Nat := L.flatMap (·.fp)
def y7A : Nat → List Value → List (Nat × Value)
 | _, [] => []
 | k, v :: vs => (k, v) :: y7A (k + 1) vs
theorem ybF : ∀ (vs : List Value) (k i : Nat) (v : Value), lk (y7A k vs) i = some v → k ≤ i ∧ vs[i - k]? = some v
 | [], k, i, v, h => by simp [y7A, lk] at h
 | u :: vs, k, i, v, h => by
  simp only [y7A, lk] at h
  by_cases hi : i = k
  ·subst hi; simp at h; subst h; simp
  ·rw [y63 hi] at h
   obtain ⟨h1, h2⟩ := ybF vs (k + 1) i v h
   refine ⟨by omega, ?_⟩
   rw [show i - k = (i - (k + 1)) + 1 from by omega]
   simpa using h2
theorem Calls.y47 {P : Program} {f : FuncId} {fn : Func} {c : Code} {vs : List Value} {w : World} {R : Ending → World → Prop} {n : Nat} {pre : List Asrt} {env : List (Nat × Value)}
  (hf : P.funcs[f]? = some fn) (hb : fn.body = some c) (hn : fn.ntmps = n) (hsz : Nat.ble vs.length n = true) (hown : Hp (fps pre) w w pre) (he : y7A 0 vs = env)
  (k : @WC Rnd.base P n (fps pre) w (bodyPost P fn R) c env pre) : Calls P f vs.toArray w R := by
 subst he
 refine ycl (m := 0) (callsIn_of_wp (F := @FN Rnd.base) hf hb trivial (k _ _ (@SS.mk Rnd.base _ _ _ _ _ _ _ rfl ?_ ?_ hown)) rfl)
 ·have := Nat.le_of_ble_eq_true hsz
  simp [hn]; omega
 ·intro i v hv
  obtain ⟨_, h⟩ := ybF vs 0 i v hv
  have hlt : i < vs.length := by have := (List.getElem?_eq_some_iff.1 h).1; simpa using this
  rw [Array.getElem?_append_left (by simpa using hlt)]
  simpa using h
section
variable {P : Program} {n : Nat} {F : List Nat} {w₀ : World} {env : List (Nat × Value)} {L Lc Lr R : List Asrt} {ops : Array Oper} {Q : Exit → Act → World → Prop} {rest : List Oper}
 {dd : Nat} {d : Option Tmp} {ty : TypeId} {pos : String} {after : Array Edge} {g : Option (Nat × Bool)} {v u : Value} {t e T : TypeId} {sz by_ : Nat}
theorem Hp.owns {w : World} (h : Hp F w₀ w L) (hs : Sel L Lc Lr) : Hp (fps Lc) w w Lc := by
 have h' := h.sub hs
 exact ⟨rfl, ⟨rfl, Nat.le_refl _⟩, rfl, Nat.le_refl _, fun _ _ _ => rfl, h'.ok, h'.lt, fun x hx b hb => .inl (List.mem_flatMap.2 ⟨x, hx, hb⟩), h'.sep⟩
theorem Sel.mem {α : Type} {L L' M : List α} (h : Sel L L' M) {x : α} (hx : x ∈ L') : x ∈ L := h.perm.mem_iff.2 (List.mem_append_left _ hx)
theorem Sel.memr {α : Type} {L L' M : List α} (h : Sel L L' M) {x : α} (hx : x ∈ M) : x ∈ L := h.perm.mem_iff.2 (List.mem_append_right _ hx)
theorem Sel.fps (hs : Sel L Lc Lr) : ∀ b ∈ fps Lc, ∃ x ∈ L, b ∈ x.fp := fun b hb => by
 obtain ⟨x, hx, hbx⟩ := List.mem_flatMap.1 hb
 exact ⟨x, hs.mem hx, hbx⟩
theorem SlP.call {α : Type} {w : World} {Pr Pr' : List Value → α → Prop} {l : List α} (h : SlP F w₀ v sz Pr l) (hp : Hp F w₀ w L) (hs : Sel L Lc Lr) (hsz : 0 < sz) (hPr : ∀ r x, Pr r x → Pr' r x) : SlP (Sep.fps Lc) w v sz Pr' l :=
 h.at hp hs.fps hsz hPr
theorem SlP.call0 {α : Type} {w : World} {Pr : List Value → α → Prop} {l : List α} (h : SlP F w₀ v sz Pr l) (hp : Hp F w₀ w L) (hsz : 0 < sz) : SlP [] w v sz Pr l :=
 h.at hp (by simp) hsz (fun _ _ h => h)
theorem Hp.cellsRow {w : World} {ao : Option Addr} {m cap : Nat} {cs : List Value} (h : Hp F w₀ w L) (hs : Sel L Lc Lr) (hm : Pick Lr (row (.slice ao m cap) e sz cs) R) (hne : cs ≠ []) :
  ∃ b, ao = some ⟨b, 0, none⟩ ∧ y1L (fps Lc) w ⟨b, 0, none⟩ cs := by
 obtain ⟨m', hown⟩ := h.ok _ (hs.memr hm.mem)
 rcases hown.2 with ⟨hv, hn⟩ | ⟨b, cap', cur, hv, _, _⟩
 ·subst hn; exact absurd (List.eq_nil_of_length_eq_zero (by simpa using hown.1)) hne
 ·injection hv with e1 e2 e3
  subst e1
  refine ⟨b, rfl, fun hb => ?_, fun j u hu => hown.cells (g := b) rfl j u hu⟩
  obtain ⟨x, hx, hbx⟩ := List.mem_flatMap.1 hb
  have hp : (Lc ++ Lr).Pairwise fun x y => ∀ b ∈ x.fp, b ∉ y.fp :=
   (List.Perm.pairwise_iff (fun {x y} hxy b hb hc => hxy b hc hb) hs.perm).1 h.sep
  exact (List.pairwise_append.1 hp).2.2 x hx _ hm.mem b hbx (by simp [row, Value.ownBlock])
/-! ### calls -/
inductive Eos (env : List (Nat × Value)) : List Operand → List Value → Prop
 | nil : Eos env [] []
 | cons {x : Operand} {v : Value} {l : List Operand} {vs : List Value} (h : eo env x = some v) (t : Eos env l vs) : Eos env (x :: l) (v :: vs)
theorem Eos.map {a : Act} {w : World} {l : List Operand} {vs : List Value} (he : Eos env l vs) (h : SS n F w₀ env L a w) : l.map a.eval = vs := by
 induction he with
 | nil => rfl
 | cons hx _ ih => rw [List.map_cons, h.eval hx, ih]
theorem za {f : FuncId} {l : List Operand} {vs : List Value} {ats : Array TypeId} (hcall : ∀ args w, (callFunc f args).run P w = .ok (.enter f args) w) (he : Eos env l vs) :
  ∀ a w, SS n F w₀ env L a w → (execOp a.eval ⟨d, .call ⟨.value (.func f), l.toArray, ats⟩, ty, pos, after, g⟩).run P w = .ok (.enter f vs.toArray) w := by
 intro a w h
 have := he.map h
 simp [execOp, resolve, Act.eval, Deferred.ofValue, invoke, hcall, this]
theorem y27 {f : FuncId} {c : Operand} {l : List Operand} {vs caps : List Value} {ats : Array TypeId} (hcall : ∀ args w, (callFunc f args).run P w = .ok (.enter f args) w) (hc : eo env c = some (.func (.func f) #[] caps.toArray)) (he : Eos env l vs) :
  ∀ a w, SS n F w₀ env L a w → (execOp a.eval ⟨d, .call ⟨.value c, l.toArray, ats⟩, ty, pos, after, g⟩).run P w = .ok (.enter f (vs ++ caps).toArray) w := by
 intro a w h
 have := he.map h
 simp [execOp, resolve, h.eval hc, Deferred.ofValue, invoke, hcall, this]
theorem WL.b {o : Oper} {f : FuncId} {vs : Array Value} {M : List Asrt} (hg : gd env ops o = some true) (hd : o.dst = some dd) (hdn : Nat.blt dd n = true)
  (hrun : ∀ a w, SS n F w₀ env L a w → (execOp a.eval o).run P w = .ok (.enter f vs) w) (hs : Sel L Lc Lr)
  (hc : ∀ w, Hp F w₀ w L → Calls P f vs w fun e w' => e = .returned v ∧ Hp (fps Lc) w w' M)
  (k : WL P n F w₀ ops Q rest ((dd, v) :: env) (M ++ Lr)) : WL P n F w₀ ops Q (o :: rest) env L :=
 WL.enter (G := Unit) (φ := fun _ => True) (val := fun _ => v) (M := fun _ => M) hg hd hdn hrun hs (fun w h => (hc w h).mono fun _ _ ⟨h1, h2⟩ => ⟨(), h1, trivial, h2⟩) (fun _ _ => k)
/-! ### the end of a function -/
def retV : List Value → Value
 | [v] => v
 | vs => .tuple vs.toArray
theorem ydo {fn : Func} {tmps : Array Value} {w : World} {rs : List ResultVar} {vs : List Value} (hr : fn.results = rs.toArray)
  (h : ∀ (i : Nat) (r : ResultVar) (v : Value), rs[i]? = some r → vs[i]? = some v → (match r with | .tmp t => tmps.getD t undef = v | .cell a t => ((do loadVar t (← asAddr (tmps.getD a undef)) : Sem Value)).run P w = .ok v w)) (hl : rs.length = vs.length) :
  (results fn tmps).run P w = .ok (retV vs) w := by
 have hm : ∀ (rs : List ResultVar) (vs : List Value), rs.length = vs.length → (∀ (i : Nat) (r : ResultVar) (v : Value), rs[i]? = some r → vs[i]? = some v → (match r with | .tmp t => tmps.getD t undef = v | .cell a t => ((do loadVar t (← asAddr (tmps.getD a undef)) : Sem Value)).run P w = .ok v w)) →
   (rs.mapM fun (r : ResultVar) => match r with | .tmp t => (pure (tmps.getD t undef) : Sem Value) | .cell a t => do loadVar t (← asAddr (tmps.getD a undef))).run P w = .ok vs w := by
  intro rs
  induction rs with
  | nil => intro vs hl _; cases vs with | nil => simp | cons => simp at hl
  | cons r rs ih =>
   intro vs hl h
   cases vs with
   | nil => simp at hl
   | cons v vs =>
    have h0 := h 0 r v rfl rfl
    have h1 := ih vs (by simpa using hl) (fun i r v hr hv => h (i + 1) r v (by simpa using hr) (by simpa using hv))
    rw [List.mapM_cons]
    cases r with
    | tmp t =>
     simp only at h0
     simp only [Sem.run_bind, Sem.run_pure, Result.andThen_ok]
     rw [h1, h0]
     rfl
    | cell a t =>
     simp only at h0
     rw [Sem.run_bind, h0, Result.andThen_ok, Sem.run_bind, h1, Result.andThen_ok, Sem.run_pure]
 have := hm rs vs hl h
 unfold results
 rw [hr]
 rw [List.mapM_toArray, map_eq_pure_bind]
 simp only [Sem.run_bind]
 erw [this]
 simp only [Result.andThen_ok, Sem.run_pure]
 cases vs with
 | nil => rfl
 | cons v vs => cases vs with
  | nil => rfl
  | cons u us => simp [retV]
inductive ResV (P : Program) (F : List Nat) (w₀ : World) (env : List (Nat × Value)) (L : List Asrt) : List ResultVar → List Value → Prop
 | nil : ResV P F w₀ env L [] []
 | tmp {t : Nat} {v : Value} {rs : List ResultVar} {vs : List Value} (h : lk env t = some v) (r : ResV P F w₀ env L rs vs) : ResV P F w₀ env L (.tmp t :: rs) (v :: vs)
 | one {t ty : Nat} {A : Addr} {v : Value} {rs : List ResultVar} {vs : List Value} (h : lk env t = some (.pointer (some A))) (hT : y5a P ty) (hR : ∀ w, Hp F w₀ w L → w.cell? A = some v)
   (r : ResV P F w₀ env L rs vs) : ResV P F w₀ env L (.cell t ty :: rs) (v :: vs)
 | agg {t ty s : Nat} {A : Addr} {cs : List Value} {rs : List ResultVar} {vs : List Value} (h : lk env t = some (.pointer (some A))) (hT : y5r P ty s) (hl : cs.length = s) (hR : ∀ w, Hp F w₀ w L → ∀ j u, cs[j]? = some u → w.cell? (A.add j) = some u)
   (r : ResV P F w₀ env L rs vs) : ResV P F w₀ env L (.cell t ty :: rs) (.agg cs.toArray :: vs)
theorem ResV.run {fn : Func} {rs : List ResultVar} {vs : List Value} (hr : fn.results = rs.toArray) (h : ResV P F w₀ env L rs vs) {a : Act} {w : World} (hs : SS n F w₀ env L a w) :
  (results fn a.tmps).run P w = .ok (retV vs) w := by
 have := ydo (P := P) (tmps := a.tmps) (w := w) (vs := vs) hr ?_ ?_
 ·exact this
 ·clear hr
  induction h with
  | nil => intro i r v h; simp at h
  | tmp h _ ih =>
   intro i r v h1 h2
   cases i with
   | zero => simp at h1 h2; subst h1 h2; exact hs.get h
   | succ i => exact ih i r v (by simpa using h1) (by simpa using h2)
  | one h hT hR _ ih =>
   intro i r v h1 h2
   cases i with
   | zero =>
    simp at h1 h2; subst h1 h2
    have e1 := hs.get h
    have e2 := congrFun hT w
    simp only [e1]
    simp [asAddr, loadVar, e2, hR w hs.hp]
   | succ i => exact ih i r v (by simpa using h1) (by simpa using h2)
  | agg h hT hl hR _ ih =>
   intro i r v h1 h2
   cases i with
   | zero =>
    simp at h1 h2; subst h1 h2
    have e1 := hs.get h
    have e2 := congrFun hT.1 w
    have e3 := congrFun hT.2 w
    have e4 := run_loadCells_list (P := P) w _ _ (hR w hs.hp)
    rw [hl] at e4
    simp only [e1]
    simp [asAddr, loadVar, e2, e3, e4]
   | succ i => exact ih i r v (by simpa using h1) (by simpa using h2)
 ·clear hr
  induction h with
  | nil => rfl
  | tmp _ _ ih => simpa using ih
  | one _ _ _ _ ih => simpa using ih
  | agg _ _ _ _ _ ih => simpa using ih
omit [Rnd] in
theorem WX.ye {fn : Func} {rs : List ResultVar} {vs : List Value} {R : Ending → World → Prop} (hr : fn.results = rs.toArray) (hv : ResV P F w₀ env L rs vs) (k : ∀ w, Hp F w₀ w L → R (.returned (retV vs)) w) :
  @WX Rnd.base n F w₀ (bodyPost P fn R) .ret env L := fun _ w h => ⟨h.defers, _, hv.run hr h, k w h.hp⟩
omit [Rnd] in
theorem WX.y4c {fn : Func} {rs : List ResultVar} {vs : List Value} {R : Ending → World → Prop} (hr : fn.results = rs.toArray) (hv : ResV P F w₀ env L rs vs) (k : ∀ w, Hp F w₀ w L → R (.returned (retV vs)) w) :
  @WX Rnd.base n F w₀ (bodyPost P fn R) .normal env L := fun _ w h => ⟨h.defers, _, hv.run hr h, k w h.hp⟩
/-! pinning a Bool -/
theorem WL.pin {l : List Oper} {i : Nat} {b c : Bool} (hv : lk env i = some (.bool b)) (hb : b = c) (k : WL P n F w₀ ops Q l ((i, .bool c) :: env) L) : WL P n F w₀ ops Q l env L := by
 subst hb
 refine fun a w h => k a w ⟨h.defers, h.size, fun j u hu => ?_, h.hp⟩
 simp only [lk] at hu
 by_cases hj : j = i
 ·subst hj; simp at hu; subst hu; exact h.ev _ _ hv
 ·rw [y63 hj] at hu; exact h.ev j u hu
theorem WD.pin {tl : Nat → Bool} {Ls : List Asrt} {fuel : Nat} {listed : Array Bool} {QD : Act → World → Prop} {i : Nat} {b c : Bool} (hv : lk env i = some (.bool b)) (hb : b = c) (k : WD P n F w₀ ops tl Ls QD fuel listed ((i, .bool c) :: env) L) : WD P n F w₀ ops tl Ls QD fuel listed env L := by
 subst hb
 refine fun a w h => k a w ⟨h.defers, h.size, fun j u hu => ?_, h.hp⟩
 simp only [lk] at hu
 by_cases hj : j = i
 ·subst hj; simp at hu; subst hu; exact h.ev _ _ hv
 ·rw [y63 hj] at hu; exact h.ev j u hu
end
end Sep

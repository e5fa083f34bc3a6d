/- A part of this claim's proof: loops over functions. No conditions. -/
import Derived.Test.YtcahmabkeaijdaaGreatZLoops
import Derived.RangeFuncLeaves
set_option linter.all false
namespace Sep
open Go Go.RowKit
set_option linter.unusedSectionVars false
/-! ### many assertions as one -/
def y1G (L : List Asrt) : Asrt where
 fp := fps L
 ok w := (∀ x ∈ L, x.ok w) ∧ L.Pairwise (fun x y : Asrt => ∀ b ∈ x.fp, b ∉ y.fp)
 loc w w' h hl hk := ⟨fun x hx => x.loc w w' (fun b hb => h b (List.mem_flatMap.2 ⟨x, hx, hb⟩)) (fun b hb => hl b (List.mem_flatMap.2 ⟨x, hx, hb⟩)) (hk.1 x hx), hk.2⟩
section
variable {F : List Nat} {w₀ w w' : World} {L M R : List Asrt}
theorem Hp.open_ (h : Hp F w₀ w (y1G M :: R)) : Hp F w₀ w (M ++ R) := by
 have h0 := h.ok _ (List.mem_cons_self ..)
 have hs := List.pairwise_cons.1 h.sep
 refine ⟨h.os, h.tape, h.output, h.size, h.block, fun x hx => ?_, fun x hx b hb => ?_, fun x hx b hb => ?_, List.pairwise_append.2 ⟨h0.2, hs.2, fun x hx y hy b hb => ?_⟩⟩
 ·rcases List.mem_append.1 hx with hx | hx
  ·exact h0.1 x hx
  ·exact h.ok x (List.mem_cons_of_mem _ hx)
 ·rcases List.mem_append.1 hx with hx | hx
  ·exact h.lt _ (List.mem_cons_self ..) b (List.mem_flatMap.2 ⟨x, hx, hb⟩)
  ·exact h.lt x (List.mem_cons_of_mem _ hx) b hb
 ·rcases List.mem_append.1 hx with hx | hx
  ·exact h.ow _ (List.mem_cons_self ..) b (List.mem_flatMap.2 ⟨x, hx, hb⟩)
  ·exact h.ow x (List.mem_cons_of_mem _ hx) b hb
 ·exact hs.1 y hy b (List.mem_flatMap.2 ⟨x, hx, hb⟩)
theorem Hp.y8R (h : Hp F w₀ w (M ++ R)) : Hp F w₀ w (y1G M :: R) := by
 obtain ⟨h1, h2, h3⟩ := List.pairwise_append.1 h.sep
 have hb : ∀ b ∈ (y1G M).fp, ∃ x ∈ M, b ∈ x.fp := fun b hb => List.mem_flatMap.1 hb
 refine ⟨h.os, h.tape, h.output, h.size, h.block, fun x hx => ?_, fun x hx b hbx => ?_, fun x hx b hbx => ?_, List.pairwise_cons.2 ⟨fun y hy b hbx => ?_, h2⟩⟩
 ·rcases List.mem_cons.1 hx with rfl | hx
  ·exact ⟨fun y hy => h.ok y (List.mem_append_left _ hy), h1⟩
  ·exact h.ok x (List.mem_append_right _ hx)
 ·rcases List.mem_cons.1 hx with rfl | hx
  ·obtain ⟨y, hy, hby⟩ := hb b hbx; exact h.lt y (List.mem_append_left _ hy) b hby
  ·exact h.lt x (List.mem_append_right _ hx) b hbx
 ·rcases List.mem_cons.1 hx with rfl | hx
  ·obtain ⟨y, hy, hby⟩ := hb b hbx; exact h.ow y (List.mem_append_left _ hy) b hby
  ·exact h.ow x (List.mem_append_right _ hx) b hbx
 ·obtain ⟨x, hx, hby⟩ := hb b hbx; exact h3 x hx y hy b hby
theorem Hp.pickAll {R' : List Asrt} (h : Hp F w₀ w L) (hp : Pick L (y1G M) R') : Hp F w₀ w (M ++ R') := by
 refine Hp.open_ (h.sub (M := []) ?_)
 exact .cons hp Sel.all
theorem Hp.selAll (h : Hp F w₀ w L) (hs : Sel L M R) : Hp F w₀ w (y1G M :: R) := by
 refine Hp.y8R ?_
 have : ∀ {L M R : List Asrt}, Sel L M R → Sel L (M ++ R) [] := by
  intro L M R h
  induction h with
  | nil => exact Sel.all
  | cons h _ ih => exact .cons h ih
 exact h.sub (this hs)
theorem Hp.setBlk {b : Nat} {o o' : Obj} (h : Hp F w₀ w L) (hp : Pick L (blk b o) R) : Hp F w₀ (w.putObj b o') (blk b o' :: R) := by
 have h' : Hp F w₀ w (blk b o :: R) := h.sub (M := []) (.cons hp Sel.all)
 have hlt : b < w.heap.size := h'.lt _ (List.mem_cons_self ..) b (by simp [blk])
 have hb := (List.pairwise_cons.1 h'.sep).1
 have how := h'.ow _ (List.mem_cons_self ..) b (by simp [blk])
 have hoth : ∀ k, k ≠ b → (w.putObj b o').heap[k]? = w.heap[k]? := fun k hk => World.putObj_heap_other hk
 refine ⟨h'.os, ⟨h'.tape.t, h'.tape.d⟩, h'.output, by rw [World.putObj_size]; exact h'.size, fun k hk hf => ?_, fun x hx => ?_, fun x hx c hc => ?_, fun x hx c hc => ?_, List.pairwise_cons.2 ⟨fun y hy c hc => hb y hy c hc, (List.pairwise_cons.1 h'.sep).2⟩⟩
 ·rw [hoth k (fun e => by subst e; rcases how with h1 | h1; exact hf h1; omega)]; exact h'.block k hk hf
 ·rcases List.mem_cons.1 hx with rfl | hx
  ·exact World.putObj_heap_same hlt
  ·refine x.loc w _ (fun c hc _ => hoth c (fun e => ?_)) (fun c hc => h'.lt x (List.mem_cons_of_mem _ hx) c hc) (h'.ok x (List.mem_cons_of_mem _ hx))
   exact hb x hx b (by simp [blk]) (e ▸ hc)
 ·rw [World.putObj_size]
  rcases List.mem_cons.1 hx with rfl | hx
  ·simp [blk] at hc; subst hc; exact hlt
  ·exact h'.lt x (List.mem_cons_of_mem _ hx) c hc
 ·rcases List.mem_cons.1 hx with rfl | hx
  ·simp [blk] at hc; subst hc; exact how
  ·exact h'.ow x (List.mem_cons_of_mem _ hx) c hc
end
/-! ### a loop over a function -/
def y5d (fn : FuncId) (tmps : Array Value) (ps : List Tmp) (as bo : Code) (D : Nat) (st : LoopState) (pe : Option Code) : Obj :=
 .loop { state := st, pending := pe, fn := fn, tmps := tmps, params := ps.toArray, assign := as, body := bo, defers := D }
def rdy : Option Code → LoopState
 | none => .ready
 | some _ => .done
abbrev Rc := LoopState → Option Code → Obj
def pcs (cs : List Code) : Nat → Option Code
 | 0 => none
 | i + 1 => cs[i]?
abbrev inR (l : Nat) : Rnd := ⟨some l, []⟩
abbrev mk1 (D : Nat) : List Deferred := [{ target := .collected D, args := #[] }]
abbrev aft (D : Nat) : Rnd := ⟨none, mk1 D⟩
abbrev dfr (D : Nat) : Asrt := blk D (.deferred (some []))
def yag (P : Program) (Z : Zp) (l : Nat) {α σ G H : Type} (av : H → α → List Value) (ar : H → α → List Asrt) (Y : α → σ → Option (Bool × σ)) (J : G → σ → Asrt) (Φ : G → σ → Prop) : Prop :=
 ∀ (x : α) (h : H) (g : G) (s : σ) (b : Bool) (s' : σ) (w : World), Y x s = some (b, s') → Φ g s → Hp (fps (ar h x ++ [J g s])) w w (ar h x ++ [J g s]) → PZ (fps (ar h x ++ [J g s])) w Z →
  ∃ fn tmps as bo, (Instr.yield l (av h x).toArray).run P w = .ok (.round l fn tmps as bo) w ∧
   RoundIn Fence.wide 0 P l fn tmps as bo w fun e w' => ∃ g', e = .returned (.bool b) ∧ Φ g' s' ∧ Hp (fps (ar h x ++ [J g s])) w w' [J g' s']
def yaH : List Tmp → List Value → List (Nat × Value) → List (Nat × Value)
 | p :: ps, v :: vs, env => yaH ps vs ((p, v) :: env)
 | _, _, env => env
theorem Ev.fold : ∀ (ps : List Tmp) (vs : List Value) (env : List (Nat × Value)) (tmps : Array Value), Ev env tmps → (∀ p ∈ ps, p < tmps.size) →
  Ev (yaH ps vs env) ((ps.zip vs).foldl (fun t x => t.setIfInBounds x.1 x.2) tmps)
 | [], _, _, _, h, _ => by simpa [yaH] using h
 | _ :: _, [], _, _, h, _ => by simpa [yaH] using h
 | p :: ps, v :: vs, env, tmps, h, hp => by
  simp only [yaH, List.zip_cons_cons, List.foldl_cons]
  exact Ev.fold ps vs _ _ (h.put p v (hp p (List.mem_cons_self ..))) (fun q hq => by simpa using hp q (List.mem_cons_of_mem _ hq))
theorem yc2 : ∀ (ps : List (Tmp × Value)) (tmps : Array Value), (ps.foldl (fun t x => t.setIfInBounds x.1 x.2) tmps).size = tmps.size
 | [], _ => rfl
 | p :: ps, tmps => by rw [List.foldl_cons, yc2 ps]; simp
def ycu (P : Program) (l : Nat) (bo : Code) (R : Ending → World → Prop) : Exit → Act → World → Prop :=
 Exit.then (fun a₁ w₁ => ∃ w₂, (Instr.beginRound l).run P w₁ = .ok () w₂ ∧ bo.wpIn (@FN (inR l)) 0 P (roundPost P l R) a₁ w₂) (fun _ _ _ => False)
section
variable {P : Program} {n : Nat} {F : List Nat} {w₀ : World} {env : List (Nat × Value)} {L L' : List Asrt} {l D : Nat} {R : Ending → World → Prop} {fn : FuncId} {tmps : Array Value} {ps : List Tmp} {as bo : Code} {rc : Rc}
theorem yah {Z : Zp} {α σ G H : Type} {av : H → α → List Value} {ar : H → α → List Asrt} {Y : α → σ → Option (Bool × σ)} {LI : G → σ → List Asrt} {pc : σ → Option Code} {Φ : G → σ → Prop}
  (hrc : rc = y5d fn tmps ps as bo D) (hev : Ev env tmps) (hsz : tmps.size = n) (hl : ∀ h x, (av h x).length = ps.length) (hps : ∀ p ∈ ps, p < n)
  (k : ∀ x h g s b s' F w, Y x s = some (b, s') → Φ g s → PZ F w Z →
   @WC (inR l) P n F w (ycu P l bo fun e w' => ∃ g', e = .returned (.bool b) ∧ Φ g' s' ∧ Hp F w w' [y1G (LI g' s' ++ [blk l (rc (rdy (pc s')) (pc s'))])]) as (yaH ps (av h x) env)
    (ar h x ++ (LI g s ++ [blk l (rc (rdy (pc s)) (pc s))]))) :
  yag P Z l av ar Y (fun g s => y1G (LI g s ++ [blk l (rc (rdy (pc s)) (pc s))])) Φ := by
 subst hrc
 intro x h g s b s' w hY hφ hp hz
 have hop : Hp (fps (ar h x ++ [y1G (LI g s ++ [blk l (y5d fn tmps ps as bo D (rdy (pc s)) (pc s))])])) w w (ar h x ++ (LI g s ++ [blk l (y5d fn tmps ps as bo D (rdy (pc s)) (pc s))])) := by
  have hpk : Pick (ar h x ++ [y1G (LI g s ++ [blk l (y5d fn tmps ps as bo D (rdy (pc s)) (pc s))])]) (y1G (LI g s ++ [blk l (y5d fn tmps ps as bo D (rdy (pc s)) (pc s))])) (ar h x) := by
   generalize ar h x = A
   induction A with
   | nil => exact .here
   | cons a A ih => exact .there ih
  have := hp.pickAll hpk
  have hperm : ∀ (A B : List Asrt), Sel (A ++ B) (B ++ A) [] := by
   intro A B
   have h1 : ∀ (A B C : List Asrt), Sel (A ++ B) C [] → ∀ a, Sel (A ++ a :: B) (a :: C) [] := by
    intro A B C h a
    refine .cons ?_ h
    clear h
    induction A with
    | nil => exact .here
    | cons x A ih => exact .there ih
   induction B generalizing A with
   | nil => simpa using Sel.all
   | cons b B ih => simpa using h1 A B _ (by simpa using ih A) b
  exact this.sub (hperm _ _)
 have hb : w.heap[l]? = some (y5d fn tmps ps as bo D (rdy (pc s)) (pc s)) :=
  hop.ok (blk l (y5d fn tmps ps as bo D (rdy (pc s)) (pc s))) (by simp)
 refine ⟨_, _, _, _, run_yield hb (by simp [hl]), roundIn_of_wpIn (F := @FN (inR l)) (l := l) trivial ?_⟩
 refine k x h g s b s' _ w hY hφ hz _ w (@SS.mk (inR l) _ _ _ _ _ _ _ rfl ?_ ?_ hop)
 ·have hz := yc2 (ps.zip (av h x)) tmps
  simp only [← Array.foldl_toList, Array.toList_zip] at *
  simpa [hsz] using hz
 ·have hz := Ev.fold ps (av h x) env tmps hev (fun p hp => by rw [hsz]; exact hps p hp)
  simp only [← Array.foldl_toList, Array.toList_zip] at *
  simpa using hz
theorem WX.yb7 (hrc : rc = y5d fn tmps ps as bo D) (hp : Pick L (blk l (rc .ready none)) L')
  (k : @WC (inR l) P n F w₀ (roundPost P l R) bo env (blk l (rc .busy none) :: L')) :
  @WX (inR l) n F w₀ (ycu P l bo R) .normal env L := by
 subst hrc
 letI : Rnd := inR l
 intro a w h
 have hb : w.heap[l]? = some (y5d fn tmps ps as bo D .ready none) := h.hp.ok _ hp.mem
 exact ⟨_, run_beginRound hb rfl, k a _ (@SS.mk (inR l) _ _ _ _ _ _ _ h.defers h.size h.ev (h.hp.setBlk hp))⟩
theorem WX.y6k (hrc : rc = y5d fn tmps ps as bo D) (hp : Pick L (blk l (rc .busy none)) L')
  (k : ∀ w', Hp F w₀ w' (blk l (rc .ready none) :: L') → R (.returned (.bool true)) w') : @WX (inR l) n F w₀ (roundPost P l R) .normal env L := by
 subst hrc
 letI : Rnd := inR l
 intro a w h
 have hb : w.heap[l]? = some (y5d fn tmps ps as bo D .busy none) := h.hp.ok _ hp.mem
 exact ⟨_, _, run_endRound none hb, k _ (h.hp.setBlk hp)⟩
def WJ (P : Program) (n : Nat) (F : List Nat) (w₀ : World) (Q : Exit → Act → World → Prop) (D : Nat) (env : List (Nat × Value)) (L : List Asrt) : Option Code → Prop
 | none => @WX (aft D) n F w₀ Q .normal env L
 | some c => @WC (aft D) P n F w₀ Q c env L
theorem WC.rangeFunc {g : Operand} {f : FuncId} {caps : List Value} {Q : Exit → Act → World → Prop} (hg : eo env g = some (.func (.func f) #[] caps.toArray))
  (hcf : ∀ args w, (callFunc f args).run P w = .ok (.enter f args) w)
  (k : ∀ fn tmps l D (rc : Rc), rc = y5d fn tmps ps as bo D → Ev env tmps → tmps.size = n → ∀ w, Hp F w₀ w (blk l (rc .ready none) :: dfr D :: L) →
   Calls P f (.func (.yield l) #[] #[] :: caps).toArray w fun e w' => ∃ v pe L', e = .returned v ∧ Hp F w₀ w' (blk l (rc (rdy pe) pe) :: L') ∧ WJ P n F w₀ Q D env L' pe) :
  @WC Rnd.base P n F w₀ Q (.rangeFunc g ps.toArray as bo) env L := by
 intro a w h
 refine wpIn_rangeFunc fun fn _ => ?_
 have hp1 := (h.hp.alloc (.deferred (some []))).alloc (y5d fn a.tmps ps as bo w.heap.size .ready none)
 rw [World.size_alloc] at hp1
 refine ⟨w.heap.size + 1, mk1 w.heap.size, _, { target := .fn (.func f) caps.toArray, args := #[.func (.yield (w.heap.size + 1)) #[] #[]] }, (w.alloc (.deferred (some []))).alloc (y5d fn a.tmps ps as bo w.heap.size .ready none), f, (.func (.yield (w.heap.size + 1)) #[] #[] :: caps).toArray, (w.alloc (.deferred (some []))).alloc (y5d fn a.tmps ps as bo w.heap.size .ready none), run_enterLoop_outer .., ?_, fun _ _ => trivial, ?_, fun h => by simp [FN] at h, ?_⟩
 ·have he := h.eval hg
  simp only [resolve, rangeCall]
  rw [he]
  simp [Deferred.ofValue, Act.eval, y5d]
 ·simp [invoke, hcf]
 ·refine (yd1 (k fn a.tmps _ _ _ rfl h.ev h.size _ hp1)).mono ?_
  rintro e w' ⟨v, pe, L', rfl, hp, hj⟩
  have hb : w'.heap[w.heap.size + 1]? = some (y5d fn a.tmps ps as bo w.heap.size (rdy pe) pe) := hp.ok _ (List.mem_cons_self ..)
  have hp' : Hp F w₀ (w'.putObj (w.heap.size + 1) (y5d fn a.tmps ps as bo w.heap.size .exhausted pe)) L' :=
   (hp.setBlk (o' := y5d fn a.tmps ps as bo w.heap.size .exhausted pe) .here).sub (L' := L') (M := [blk (w.heap.size + 1) (y5d fn a.tmps ps as bo w.heap.size .exhausted pe)]) (by
    have : ∀ (x : Asrt) (L : List Asrt), Sel (x :: L) L [x] := by
     intro x L
     induction L with
     | nil => exact .nil
     | cons y L ih => exact .cons (.there .here) ih
    exact this _ _)
  refine ⟨pe, _, run_endLoop hb (by cases pe <;> simp [rdy]), ?_⟩
  have hd : a.defers = [] := h.defers
  cases pe with
  | none => exact hj _ _ (@SS.mk (aft w.heap.size) _ _ _ _ _ _ _ (by simp [hd]; rfl) h.size h.ev hp')
  | some c => exact hj _ _ (@SS.mk (aft w.heap.size) _ _ _ _ _ _ _ (by simp [hd]; rfl) h.size h.ev hp')
end
section
variable {P : Program} {n : Nat} {F : List Nat} {w₀ : World} {Q : Exit → Act → World → Prop} {D p i : Nat} {env : List (Nat × Value)} {L : List Asrt} {cs : List Code} {c : Code}
theorem wjN (k : @WX (aft D) n F w₀ Q .normal env L) : WJ P n F w₀ Q D env L (pcs [] p) := by
 cases p with
 | zero => exact k
 | succ p => simpa [pcs, WJ] using k
theorem y9a {α β : Type} {a b : α} {c d : β} (h : some (a, c) = some (b, d)) : a = b ∧ c = d := by simpa using h
theorem WC.eqL [Rnd] {c : Code} {L' : List Asrt} (h : L = L') (k : WC P n F w₀ Q c env L') : WC P n F w₀ Q c env L := h ▸ k
end
/-! the function's end, with the loop's mark -/
section
variable {P : Program} {n : Nat} {F : List Nat} {w₀ : World} {env : List (Nat × Value)} {L L' : List Asrt} {D : Nat} {R : Ending → World → Prop}
theorem Calls.y8W {f : FuncId} {fn : Func} {c : Code} {vs : List Value} {w : World} {n : Nat} {pre : List Asrt}
  (hf : P.funcs[f]? = some fn) (hb : fn.body = some c) (hn : fn.ntmps = n) (hsz : Nat.ble vs.length n = true) (hown : Hp (fps pre) w w pre) (he : y7A 0 vs = env)
  (k : @WC Rnd.base P n (fps pre) w (bodyPostM (@FN Rnd.base) 0 P fn R) c env pre) : Calls P f vs.toArray w R := by
 subst he
 refine ycl (m := 0) (callsIn_of_wp_marks (F := @FN Rnd.base) hf hb trivial (k _ _ (@SS.mk Rnd.base _ _ _ _ _ _ _ rfl ?_ ?_ hown)) rfl)
 ·have := Nat.le_of_ble_eq_true hsz
  simp [hn]; omega
 ·intro i v hv
  obtain ⟨_, h⟩ := ybF vs 0 i v hv
  have hlt : i < vs.length := by have := (List.getElem?_eq_some_iff.1 h).1; simpa using this
  rw [Array.getElem?_append_left (by simpa using hlt)]
  simpa using h
theorem WX.yai {fn : Func} {rs : List ResultVar} {vs : List Value} (hr : fn.results = rs.toArray) (hv : ResV P F w₀ env L rs vs) (k : ∀ w, Hp F w₀ w L → R (.returned (retV vs)) w) :
  @WX Rnd.base n F w₀ (bodyPostM (@FN Rnd.base) 0 P fn R) .ret env L := fun a w h => by
 have hd : a.defers = [] := h.defers
 show LeavesInM _ _ _ _ _ _ a.defers _ _
 rw [hd]; exact ⟨_, hv.run hr h, k w h.hp⟩
theorem WX.y71 {fn : Func} {rs : List ResultVar} {vs : List Value} (hp : Pick L (dfr D) L') (hr : fn.results = rs.toArray) (hv : ResV P F w₀ env (blk D (.deferred none) :: L') rs vs)
  (k : ∀ w, Hp F w₀ w (blk D (.deferred none) :: L') → R (.returned (retV vs)) w) :
  @WX (aft D) n F w₀ (bodyPostM (@FN Rnd.base) 0 P fn R) .ret env L := fun a w h => by
 letI : Rnd := aft D
 have hd : a.defers = mk1 D := h.defers
 have hb : w.heap[D]? = some (.deferred (some [])) := h.hp.ok _ hp.mem
 show LeavesInM _ _ _ _ _ _ a.defers _ _
 rw [hd]
 have hp' := h.hp.setBlk (o' := .deferred none) hp
 refine ⟨by simp, .inl ⟨D, _, rfl, run_takeDeferred hb, ?_⟩⟩
 exact ⟨_, hv.run hr (@SS.mk (aft D) _ _ _ _ _ _ _ h.defers h.size h.ev hp'), k _ hp'⟩
end
/-! the iterator's side -/
section
variable [Rnd] {P : Program} {n : Nat} {F : List Nat} {w₀ : World} {env : List (Nat × Value)} {L Lr : List Asrt} {ops : Array Oper} {Q : Exit → Act → World → Prop} {rest : List Oper}
 {dd : Nat} {ty : TypeId} {pos : String} {after : Array Edge} {gu : Option (Nat × Bool)}
theorem WL.yield {Z : Zp} {l : Nat} {α σ G H : Type} {av : H → α → List Value} {ar : H → α → List Asrt} {Y : α → σ → Option (Bool × σ)} {J : G → σ → Asrt} {Φ : G → σ → Prop}
  {c : Operand} {xs : List Operand} {ats : Array TypeId} {x : α} {h : H} {g : G} {s s' : σ} {b : Bool}
  (hY : yag P Z l av ar Y J Φ) (hg : gd env ops ⟨some dd, .call ⟨.value c, xs.toArray, ats⟩, ty, pos, after, gu⟩ = some true) (hdn : Nat.blt dd n = true)
  (hc : eo env c = some (.func (.yield l) #[] #[])) (he : Eos env xs (av h x)) (hs : Sel L (ar h x ++ [J g s]) Lr) (hb : Y x s = some (b, s')) (hφ : Φ g s)
  (hz : ∀ w, Hp F w₀ w L → PZ (fps (ar h x ++ [J g s])) w Z)
  (k : ∀ g', Φ g' s' → WL P n F w₀ ops Q rest ((dd, .bool b) :: env) ([J g' s'] ++ Lr)) :
  WL P n F w₀ ops Q (⟨some dd, .call ⟨.value c, xs.toArray, ats⟩, ty, pos, after, gu⟩ :: rest) env L := by
 intro a w hss
 refine y7L (y2o hss hg) ?_
 obtain ⟨fn, tmps, as, bo, hy, hr⟩ := hY x h g s b s' w hb hφ (hss.hp.owns hs) (hz w hss.hp)
 refine ⟨fun _ _ => trivial, ?_⟩
 have hm := he.map hss
 have hrun : (execOp a.eval ⟨some dd, .call ⟨.value c, xs.toArray, ats⟩, ty, pos, after, gu⟩).run P w = .ok (.round l fn tmps as bo) w := by
  simp [execOp, resolve, hss.eval hc, Deferred.ofValue, invoke, hm, hy]
 rw [y8O _ hrun (fun d e => by cases e), Oper.uponIn_round]
 refine ⟨fun h => by simp [FN] at h, RoundIn.mono (F := FN) (show RoundIn FN 0 P l fn tmps as bo w _ from hr) ?_⟩
 rintro e w' ⟨g', rfl, hφ', hp⟩
 exact k g' hφ' _ _ (hss.put hdn _ (hss.hp.call hs hp))
end
end Sep

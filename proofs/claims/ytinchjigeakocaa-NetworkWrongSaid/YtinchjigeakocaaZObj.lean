/- A part of this claim's proof: models of functions, walks, plain laws. No conditions. -/
import Derived.Test.YtinchjigeakocaaZKey
import Derived.Test.YtinchjigeakocaaZVar
namespace Sep
open Go Go.RowKit
set_option linter.all false
/-! ### maps of owned objects: the map holds pointers, the objects lie beside it -/
section y1m
variable {κ β α γ : Type} [DecidableEq κ]
def y1o (lg : List (κ × ((Nat × β) × α))) : List (κ × Option Addr) := lg.map fun p => (p.1, some ⟨p.2.1.1, 0, none⟩)
def dat (lg : List (κ × ((Nat × β) × α))) : List (κ × α) := lg.map fun p => (p.1, p.2.2)
def y40 (k : κ) : List (κ × γ) → List (κ × γ)
 | [] => []
 | p :: l => if k = p.1 then l else p :: y40 k l
def y1m (els : Nat × β → α → List Asrt) (lg : List (κ × ((Nat × β) × α))) : Asrt := allA (lg.flatMap fun p => els p.2.1 p.2.2)
theorem y7e (k : κ) (v : γ) : ∀ lg : List (κ × γ), (y1g lg k v).Perm ((k, v) :: y40 k lg)
 | [] => .refl _
 | p :: l => by
  unfold y1g y40
  by_cases hk : k = p.1
  ·subst hk; simp only [if_true]; exact .refl _
  ·simp only [hk, if_false]
   exact ((y7e k v l).cons p).trans (.swap _ _ _)
theorem y7f (k : κ) : ∀ lg : List (κ × γ), y3d lg k = true → ∃ v, (∀ d, yB lg k d = v) ∧ lg.Perm ((k, v) :: y40 k lg)
 | [], h => by simp [y3d] at h
 | p :: l, h => by
  unfold y3d at h
  unfold y40
  by_cases hk : k = p.1
  ·subst hk; exact ⟨p.2, fun d => by simp [yB], by simp⟩
  ·simp only [hk, if_false] at h ⊢
   obtain ⟨v, h1, h2⟩ := y7f k l h
   exact ⟨v, fun d => by unfold yB; simp [hk, h1 d], (h2.cons p).trans (.swap _ _ _)⟩
theorem y7y (k : κ) : ∀ lg : List (κ × γ), ∃ l1, lg.Perm (l1 ++ y40 k lg)
 | [] => ⟨[], .refl _⟩
 | p :: l => by
  unfold y40
  by_cases hk : k = p.1
  ·exact ⟨[p], by simp [hk]⟩
  ·obtain ⟨l1, h⟩ := y7y k l
   simp only [hk, if_false]
   exact ⟨l1, (h.cons p).trans List.perm_middle.symm⟩
theorem y7g (lg : List (κ × ((Nat × β) × α))) (k : κ) (b : Nat) (g : β) (x : α) : y1o (y1g lg k ((b, g), x)) = y1g (y1o lg) k (some ⟨b, 0, none⟩) := by
 induction lg with
 | nil => rfl
 | cons p l ih =>
  unfold y1o at ih ⊢
  rw [List.map_cons]
  unfold y1g
  by_cases hk : k = p.1
  ·simp [hk]
  ·simp only [hk, if_false, List.map_cons, ih]
theorem y5H {lg : List (κ × ((Nat × β) × α))} {l : List (κ × α)} (h : dat lg = l) (k : κ) (g : Nat × β) (x : α) : dat (y1g lg k (g, x)) = y1g l k x := by
 subst h
 induction lg with
 | nil => rfl
 | cons p l ih =>
  unfold dat at ih ⊢
  rw [List.map_cons]
  unfold y1g
  by_cases hk : k = p.1
  ·simp [hk]
  ·simp only [hk, if_false, List.map_cons, ih]
theorem mhas_dat {lg : List (κ × ((Nat × β) × α))} (k : κ) : y3d (dat lg) k = y3d lg k := by
 induction lg with
 | nil => rfl
 | cons p l ih => unfold dat at ih ⊢; rw [List.map_cons]; unfold y3d; by_cases hk : k = p.1 <;> simp [hk, ih]
theorem mget_dat {lg : List (κ × ((Nat × β) × α))} (k : κ) (d : α) (g : Nat × β) : yB (dat lg) k d = (yB lg k (g, d)).2 := by
 induction lg with
 | nil => rfl
 | cons p l ih => unfold dat at ih ⊢; rw [List.map_cons]; unfold yB; by_cases hk : k = p.1 <;> simp [hk, ih]
theorem y6n {lg : List (κ × ((Nat × β) × α))} {l : List (κ × α)} (h : dat lg = l) (k : κ) : (yB (y1o lg) k none).isNone = !y3d l k := by
 subst h
 induction lg with
 | nil => rfl
 | cons p l ih => unfold y1o dat at ih ⊢; rw [List.map_cons, List.map_cons]; unfold yB y3d; by_cases hk : k = p.1 <;> simp [hk, ih]
section hp
variable {F : List Nat} {w₀ w : World} {L R R' : List Asrt} {els : Nat × β → α → List Asrt} {lg : List (κ × ((Nat × β) × α))} {l : List (κ × α)}
theorem Hp.y8c (els : Nat × β → α → List Asrt) (h : Hp F w₀ w L) : Hp F w₀ w (y1m (κ := κ) els [] :: L) := Hp.y4D (M := []) h
theorem y4R {δ : Type} {f : δ → List Asrt} {a b : List δ} (h : a.Perm b) : (a.flatMap f).Perm (b.flatMap f) := List.Perm.flatMap_right f h
theorem Hp.y7P [Inhabited α] {k : κ} (hm : dat lg = l) (hk : y3d l k = true) (hp : Pick L (y1m els lg) R) (L' : Nat × β → List Asrt) (he : ∀ g, els g (yB l k default) ++ y1m els (y40 k lg) :: R = L' g)
  (h : Hp F w₀ w L) : ∃ g : Nat × β, yB (y1o lg) k none = some ⟨g.1, 0, none⟩ ∧ Hp F w₀ w (L' g) := by
 subst hm
 have hk' : y3d lg k = true := by rw [← mhas_dat]; exact hk
 obtain ⟨v, h1, h2⟩ := y7f k lg hk'
 refine ⟨v.1, ?_, ?_⟩
 ·have h3 := y6n (lg := lg) rfl k
  rw [hk] at h3
  clear h3 hk h2 hp h he
  induction lg with
  | nil => simp [y3d] at hk'
  | cons p l ih =>
   unfold y1o at ih ⊢
   rw [List.map_cons]
   unfold y3d at hk'
   have h1' := h1
   unfold yB at h1' ⊢
   by_cases hk : k = p.1
   ·simp only [hk, if_true] at h1' ⊢; rw [h1' p.2]
   ·simp only [hk, if_false] at h1' hk' ⊢; exact ih hk' (fun d => h1' d)
 ·rw [← he]
  have h3 : yB (dat lg) k default = v.2 := by rw [mget_dat k default v.1, h1]
  rw [h3]
  have h4 := h.pickAll hp
  have h5 := h4.perm ((y4R (f := fun p : κ × ((Nat × β) × α) => els p.2.1 p.2.2) h2).append_right R)
  rw [List.flatMap_cons, List.append_assoc] at h5
  have h6 : Hp F w₀ w (((y40 k lg).flatMap fun p => els p.2.1 p.2.2) ++ (els v.1 v.2 ++ R)) := h5.perm (by
   rw [← List.append_assoc, ← List.append_assoc]; exact List.perm_append_comm.append_right R)
  have h7 := Hp.y4D h6
  exact h7.perm List.perm_middle.symm
theorem Hp.objsClose {k : κ} {b : Nat} {g : β} {x : α} (hs : Sel L (els (b, g) x ++ [y1m els (y40 k lg)]) R) (h : Hp F w₀ w L) : Hp F w₀ w (y1m els (y1g lg k ((b, g), x)) :: R) := by
 have h1 := (h.selAll hs).open_
 have h2 : Hp F w₀ w (y1m els (y40 k lg) :: (els (b, g) x ++ R)) := h1.perm (by
  rw [List.append_assoc]; exact List.perm_middle)
 have h3 := Hp.open_ h2
 refine Hp.y4D (h3.perm ?_)
 refine List.Perm.trans ?_ ((y4R (f := fun p : κ × ((Nat × β) × α) => els p.2.1 p.2.2) (y7e k ((b, g), x) lg).symm).append_right R)
 rw [List.flatMap_cons, List.append_assoc]
 rw [← List.append_assoc, ← List.append_assoc]
 exact List.perm_append_comm.append_right R
theorem Hp.objsRem (k : κ) (hp : Pick L (y1m els lg) R) (h : Hp F w₀ w L) : Hp F w₀ w (y1m els (y40 k lg) :: R) := by
 obtain ⟨l1, h1⟩ := y7y k lg
 have h2 := (h.pickAll hp).perm ((y4R (f := fun p : κ × ((Nat × β) × α) => els p.2.1 p.2.2) h1).append_right R)
 rw [List.flatMap_append, List.append_assoc] at h2
 refine Hp.y4D ?_
 exact ⟨h2.os, h2.tape, h2.output, h2.size, h2.block, fun x hx => h2.ok x (List.mem_append_right _ hx), fun x hx => h2.lt x (List.mem_append_right _ hx), fun x hx => h2.ow x (List.mem_append_right _ hx), (List.pairwise_append.1 h2.sep).2.1⟩
theorem Hp.y8d {k : κ} {b : Nat} {g : β} {x : α} (hp : Pick L (y1m els lg) R') (hs : Sel R' (els (b, g) x) R) (h : Hp F w₀ w L) : Hp F w₀ w (y1m els (y1g lg k ((b, g), x)) :: R) := by
 have h1 := h.objsRem k hp
 have h2 : Hp F w₀ w (els (b, g) x ++ [y1m els (y40 k lg)] ++ R) := by
  have : (y1m els (y40 k lg) :: R').Perm (els (b, g) x ++ [y1m els (y40 k lg)] ++ R) := by
   rw [List.append_assoc]
   exact ((hs.perm).cons _).trans List.perm_middle.symm
  exact h1.perm this
 exact h2.objsClose (R := R) (by
  have : ∀ (A B : List Asrt), Sel (A ++ B) A B := by
   intro A B
   induction A with
   | nil => exact .nil
   | cons a A ih => exact .cons .here ih
  exact this _ _)
end hp
end y1m
theorem y7h {κ γ : Type} [DecidableEq κ] {k : κ} {v d : γ} : ∀ {l : List (κ × γ)}, y3d l k = true → yB l k d = v → y1g l k v = l
 | [], h, _ => by simp [y3d] at h
 | p :: l, h, hv => by
  unfold y3d at h
  unfold yB at hv
  unfold y1g
  by_cases hk : k = p.1
  ·subst hk; simp only [if_true] at hv ⊢; subst hv; rfl
  ·simp only [hk, if_false] at h hv ⊢; rw [y7h h hv]
theorem y8p {κ β α : Type} [DecidableEq κ] {lg : List (κ × ((Nat × β) × α))} {l : List (κ × α)} (h : dat lg = l) (k : κ) : y3d (y1o lg) k = y3d l k := by
 subst h
 induction lg with
 | nil => rfl
 | cons p l ih => unfold y1o dat at ih ⊢; rw [List.map_cons, List.map_cons]; unfold y3d; by_cases hk : k = p.1 <;> simp [hk, ih]
theorem y8e {κ β α : Type} [DecidableEq κ] {lg : List (κ × ((Nat × β) × α))} {l : List (κ × α)} {k : κ} {b : Nat} (hm : dat lg = l) (hk : y3d l k = true) (hp : yB (y1o lg) k none = some ⟨b, 0, none⟩) (g : β) (x : α) :
  y1o lg = y1o (y1g lg k ((b, g), x)) := by
 rw [y7g]; exact (y7h (by rw [y8p hm]; exact hk) hp).symm
theorem Hp.y7z {κ α : Type} {F : List Nat} {w₀ w : World} {L R : List Asrt} {b : Nat} {ek : κ → Value} {ev : α → Value} {l l' : List (κ × α)} (hm : Pick L (y1e b ek ev l) R) (he : l = l') (h : Hp F w₀ w L) : Hp F w₀ w (y1e b ek ev l' :: R) := by
 subst he; exact h.front hm
section gh
variable [Rnd]
variable {P : Program} {n : Nat} {F : List Nat} {w₀ : World} {env : List (Nat × Value)} {L R : List Asrt} {ops : Array Oper} {Q : Exit → Act → World → Prop} {l : List Oper} {G : Type} {φ : G → Prop} {L' : G → List Asrt} {M : List Asrt}
theorem WL.gh (h : ∀ w, Hp F w₀ w L → ∃ g, φ g ∧ Hp F w₀ w (L' g)) (k : ∀ g, φ g → WL P n F w₀ ops Q l env (L' g)) : WL P n F w₀ ops Q l env L := fun a w hs => by
 obtain ⟨g, h1, h2⟩ := h w hs.hp; exact k g h1 a w (hs.world h2)
theorem WL.ghL (h : ∀ w, Hp F w₀ w L → Hp F w₀ w M) (k : WL P n F w₀ ops Q l env M) : WL P n F w₀ ops Q l env L := fun a w hs => k a w (hs.world (h w hs.hp))
theorem WC.ghL {c : Code} (h : ∀ w, Hp F w₀ w L → Hp F w₀ w M) (k : WC P n F w₀ Q c env M) : WC P n F w₀ Q c env L := fun a w hs => k a w (hs.world (h w hs.hp))
theorem WX.ghL {e : Exit} (h : ∀ w, Hp F w₀ w L → Hp F w₀ w M) (k : WX n F w₀ Q e env M) : WX n F w₀ Q e env L := fun a w hs => k a w (hs.world (h w hs.hp))
variable {tl : Nat → Bool} {Ls : List Asrt} {fuel : Nat} {listed : Array Bool} {QD : Act → World → Prop}
theorem WD.gh (h : ∀ w, Hp F w₀ w L → ∃ g, φ g ∧ Hp F w₀ w (L' g)) (k : ∀ g, φ g → WD P n F w₀ ops tl Ls QD fuel listed env (L' g)) : WD P n F w₀ ops tl Ls QD fuel listed env L := fun a w hs => by
 obtain ⟨g, h1, h2⟩ := h w hs.hp; exact k g h1 a w (hs.world h2)
theorem WD.ghL (h : ∀ w, Hp F w₀ w L → Hp F w₀ w M) (k : WD P n F w₀ ops tl Ls QD fuel listed env M) : WD P n F w₀ ops tl Ls QD fuel listed env L := fun a w hs => k a w (hs.world (h w hs.hp))
end gh
/-! ### interface values -/
section ifc
variable [Rnd]
variable {P : Program} {n : Nat} {F : List Nat} {w₀ : World} {env : List (Nat × Value)} {L R : List Asrt} {d : Option Tmp} {ty : TypeId} {pos : String} {after : Array Edge} {g : Option (Nat × Bool)} {x y : Operand} {v : Value} {t e T : TypeId}
theorem y52 {dd : TypeDesc} (hu : P.underlying t = some dd) (hd : (match dd with | .interface _ => false | _ => true) = true) (hx : eo env x = some v) : Qt P n F w₀ env L ⟨d, .makeInterface t x, ty, pos, after, g⟩ (.iface t v) := by
 intro a w h
 cases dd <;> simp_all [execOp, h.eval hx, Instr.makeInterface, run_underlying hu]
theorem y7A {dd : TypeDesc} {t' : TypeId} (hu : P.underlying T = some dd) (hd : (match dd with | .interface _ => false | _ => true) = true) (hx : eo env x = some (.iface T v)) : Qt P n F w₀ env L ⟨d, .typeAssert x t' T false, ty, pos, after, g⟩ v := by
 intro a w h
 cases dd <;> simp_all [execOp, h.eval hx, Instr.typeAssert, run_underlying hu]
theorem y6H {f : FuncId} {name : String} {l : List Operand} {vs : List Value} {ats : Array TypeId} (hm : ∀ w, (method (P.types.size + Made.depth) T v name).run P w = .ok (f, v) w)
  (hcall : ∀ args w, (callFunc f args).run P w = .ok (.enter f args) w) (hx : eo env x = some (.iface T v)) (he : Eos env l vs) :
  ∀ a w, SS n F w₀ env L a w → (execOp a.eval ⟨d, .call ⟨.invoke x name, l.toArray, ats⟩, ty, pos, after, g⟩).run P w = .ok (.enter f (v :: vs).toArray) w := by
 intro a w h
 have h1 := he.map h
 have h2 : (Array.map a.eval l.toArray) = vs.toArray := by rw [← h1]; simp
 simp [execOp, resolve, invoke, h.eval hx, callMethod, run_program, hm w, hcall, h2]
theorem y2C {f : FuncId} {name : String} {l : List Operand} {vs : List Value} {ats : Array TypeId} {A : Addr} (hm : ∀ w, w.cell? A = some v → (method (P.types.size + Made.depth) T (.pointer (some A)) name).run P w = .ok (f, v) w)
  (hcall : ∀ args w, (callFunc f args).run P w = .ok (.enter f args) w) (hx : eo env x = some (.iface T (.pointer (some A)))) (hR : ∀ w, Hp F w₀ w L → w.cell? A = some v) (he : Eos env l vs) :
  ∀ a w, SS n F w₀ env L a w → (execOp a.eval ⟨d, .call ⟨.invoke x name, l.toArray, ats⟩, ty, pos, after, g⟩).run P w = .ok (.enter f (v :: vs).toArray) w := by
 intro a w h
 have h1 := he.map h
 have h2 : (Array.map a.eval l.toArray) = vs.toArray := by rw [← h1]; simp
 simp [execOp, resolve, invoke, h.eval hx, callMethod, run_program, hm w (hR w h.hp), hcall, h2]
theorem y5I {i : TypeInfo} {m : Method} {f fuel : Nat} {name : String} {A : Addr} {w : World} (hi : P.info? T = some i) (hf : i.methods.find? (·.name == name) = some m) (hp : m.path = #[]) (hfn : m.func = some (f, false))
  (hu : P.underlying T = some (.pointer e)) (he : y3M P e) (h : w.cell? A = some v) : (method (fuel + 1) T (.pointer (some A)) name).run P w = .ok (f, v) w := by
 have h1 := congrFun he w
 skip
 have hti : ∀ w, (typeInfo T).run P w = .ok i w := fun w => by simp [typeInfo, run_program, hi]
 have hw : ∀ x y : String, Builtin.ssaWrapNilChk_ #[T] T #[.pointer (some A), strVal x, strVal y] = pure (.pointer (some A)) := fun x y => rfl
 simp only [method, Sem.run_bind, hti, Result.andThen_ok, hf, hp, hfn, Array.isEmpty_empty, if_true]
 simp [follow, receiverAt, run_underlying hu, Place.get, hw, loadVar, h1, asAddr, h]
theorem q_eqlPN {κ β α : Type} [DecidableEq κ] {lg : List (κ × ((Nat × β) × α))} {l : List (κ × α)} {k : κ} {t' : TypeId} (hm : dat lg = l) (ht : P.underlying t = some (.pointer e)) (hx : eo env x = some (.pointer (yB (y1o lg) k none))) (hy : eo env y = some (.pointer none)) :
  Qt P n F w₀ env L ⟨d, .binOp .eql t x y t', ty, pos, after, g⟩ (.bool (!y3d l k)) := by
 rw [← y6n hm]
 exact y7q ht hx hy
end ifc
end Sep

/- A part of this claim's proof: slices of slices that are written in place. No conditions beyond those in each theorem's statement. -/
import Derived.Test.YtbejngeaocfieaaZRange
set_option linter.all false
namespace Sep
open Go Go.RowKit
set_option linter.unusedSectionVars false

/-! ### slices of slices that are written in place: the inner slices are owned too -/
abbrev MG (α : Type) := List ((Option Addr × Nat) × List α)
def em {α : Type} (p : (Option Addr × Nat) × List α) : List Value := [.slice p.1.1 p.2.length p.1.2]
theorem em_oc {α : Type} : ∀ x : (Option Addr × Nat) × List α, ∀ u ∈ em x, u.oneCell' = true := fun _ => oc_cons rfl oc_nil
def mrow (e : TypeId) (sz : Nat) {α : Type} (enc : α → List Value) (p : (Option Addr × Nat) × List α) : Asrt := row (.slice p.1.1 p.2.length p.1.2) e sz (p.2.flatMap enc)
def mat (e : TypeId) (sz : Nat) {α : Type} (enc : α → List Value) (m : MG α) : Asrt := allA (m.map (mrow e sz enc))
def matx (e : TypeId) (sz : Nat) {α : Type} (enc : α → List Value) (m : MG α) (i : Int) : Asrt := allA ((m.eraseIdx i.toNat).map (mrow e sz enc))

section
variable {F : List Nat} {w₀ w : World} {L R R' R'' : List Asrt} {e : TypeId} {sz : Nat} {α : Type} {enc : α → List Value} {m : MG α} {l : List (List α)} {i : Int} {Z Zn : Zp}
theorem Hp.perm {M : List Asrt} (h : Hp F w₀ w L) (p : L.Perm M) : Hp F w₀ w M :=
  ⟨h.os, h.tape, h.output, h.size, h.block, fun x hx => h.ok x (p.mem_iff.2 hx), fun x hx => h.lt x (p.mem_iff.2 hx), fun x hx => h.ow x (p.mem_iff.2 hx),
    (List.Perm.pairwise_iff (fun {x y} hxy b hb hc => hxy b hc hb) p).1 h.sep⟩
theorem PZ.left {a b : Zp} {w : World} (h : PZ F w (a ++ b)) : PZ F w a := ⟨fun p hp => h.1 p (List.mem_append_left _ hp), fun p hp => h.2 p (List.mem_append_left _ hp)⟩
theorem mlen (h : m.map (·.2) = l) : m.length = l.length := by rw [← h, List.length_map]
theorem mnth (h : m.map (·.2) = l) (hc : 0 ≤ i ∧ i < l.length) : (nth m i).2 = nth l i := by
  subst h
  have h1 : i < m.length := by simpa using hc.2
  have h2 : i.toNat < m.length := by omega
  have e1 := nth_lt (l := m) hc.1 h1
  have e2 := nth_lt (l := m.map (·.2)) hc.1 hc.2
  rw [List.getElem_map, e1] at e2
  exact e2
theorem mat_c (h : m.map (·.2) = l) (hc : 0 ≤ i ∧ i < l.length) : 0 ≤ i ∧ i < m.length := by rw [mlen h]; exact hc
theorem mat_rd (h : m.map (·.2) = l) (hc : 0 ≤ i ∧ i < l.length) : ∃ tl, (m.flatMap em).drop (i.toNat * 1) = [.slice (nth m i).1.1 (nth l i).length (nth m i).1.2] ++ tl := by
  have hc' := mat_c h hc
  have := RR.elem (RR.flat (enc := em (α := α)) (sz := 1) (fun _ => rfl) m) hc'.1 hc'.2
  obtain ⟨r, tl, _, h1, rfl⟩ := this
  refine ⟨tl, h1.trans ?_⟩
  simp only [em]
  rw [mnth h hc]
theorem mat_set (h : m.map (·.2) = l) (i : Int) (a : Option Addr × Nat) (d : List α) : (m.set i.toNat (a, d)).map (·.2) = l.set i.toNat d := by
  rw [List.map_set, h]
theorem mat_rep (n : Nat) : (List.replicate n [Value.slice none 0 0]).flatten = (List.replicate n ((none, 0), ([] : List α))).flatMap em := by
  induction n with
  | zero => rfl
  | succ n ih => rw [List.replicate_succ, List.replicate_succ, List.flatten_cons, List.flatMap_cons, ih]; rfl
theorem mat_repl (n : Nat) : (List.replicate n (((none : Option Addr), (0 : Nat)), ([] : List α))).map (·.2) = List.replicate n [] := by simp
theorem Hp.matNil (h : Hp F w₀ w L) (e : TypeId) (sz n : Nat) (enc : α → List Value) : Hp F w₀ w (mat e sz enc (List.replicate n ((none, 0), [])) :: L) := by
  refine Hp.close_ ?_
  induction n with
  | zero => exact h
  | succ n ih =>
    rw [List.replicate_succ, List.map_cons, List.cons_append]
    exact ih.nilRow e sz
theorem perm_eraseIdx {β : Type} : ∀ (l : List β) (k : Nat) (h : k < l.length), (l[k] :: l.eraseIdx k).Perm l
  | [], _, h => by cases h
  | x :: l, 0, _ => .refl _
  | x :: l, k + 1, h => by
    have := perm_eraseIdx l k (by simpa using h)
    rw [List.getElem_cons_succ, List.eraseIdx_cons_succ]
    exact (List.Perm.swap _ _ _).trans (this.cons x)
theorem mat_perm (hc : 0 ≤ i ∧ i < m.length) : (nth m i :: m.eraseIdx i.toNat).Perm m := by
  have h2 : i.toNat < m.length := by omega
  have e1 := nth_lt (l := m) hc.1 hc.2
  rw [← e1]
  exact perm_eraseIdx m _ h2
theorem mat_permSet (hc : 0 ≤ i ∧ i < m.length) (v : (Option Addr × Nat) × List α) : (v :: m.eraseIdx i.toNat).Perm (m.set i.toNat v) :=
  by
  have h2 : i.toNat < m.length := by omega
  have h3 : i.toNat < (m.set i.toNat v).length := by rw [List.length_set]; exact h2
  have := perm_eraseIdx _ _ h3
  rw [List.getElem_set_self, List.eraseIdx_set_eq] at this
  exact this
theorem Hp.matOpen (h : Hp F w₀ w L) (hp : Pick L (mat e sz enc m) R) (hl : m.map (·.2) = l) (hc : 0 ≤ i ∧ i < l.length) :
    Hp F w₀ w (row (.slice (nth m i).1.1 (nth l i).length (nth m i).1.2) e sz ((nth l i).flatMap enc) :: matx e sz enc m i :: R) := by
  have h1 := h.pickAll hp
  have h2 : Hp F w₀ w ((nth m i :: m.eraseIdx i.toNat).map (mrow e sz enc) ++ R) := h1.perm (((mat_perm (mat_c hl hc)).symm.map _).append_right R)
  rw [List.map_cons, List.cons_append] at h2
  have h3 : Hp F w₀ w ((m.eraseIdx i.toNat).map (mrow e sz enc) ++ (mrow e sz enc (nth m i) :: R)) := h2.perm List.perm_middle.symm
  have h4 := (Hp.close_ h3).perm (List.Perm.swap _ _ _)
  have h5 : mrow e sz enc (nth m i) = row (.slice (nth m i).1.1 (nth l i).length (nth m i).1.2) e sz ((nth l i).flatMap enc) := by
    unfold mrow; rw [mnth hl hc]
  rw [← h5]; exact h4
theorem Hp.matClose {ao : Option Addr} {cap : Nat} {d : List α} (h : Hp F w₀ w L) (hr : Pick L (row (.slice ao d.length cap) e sz (d.flatMap enc)) R) (hx : Pick R (matx e sz enc m i) R') (hl : m.map (·.2) = l) (hc : 0 ≤ i ∧ i < l.length) :
    Hp F w₀ w (mat e sz enc (m.set i.toNat ((ao, cap), d)) :: R') := by
  refine Hp.close_ ?_
  have h1 : Hp F w₀ w (row (.slice ao d.length cap) e sz (d.flatMap enc) :: matx e sz enc m i :: R') := h.sub (.cons hr (.cons hx .all))
  have h2 := Hp.open_ (h1.perm (List.Perm.swap _ _ _))
  have h3 : Hp F w₀ w (mrow e sz enc ((ao, cap), d) :: ((m.eraseIdx i.toNat).map (mrow e sz enc) ++ R')) := h2.perm List.perm_middle
  exact h3.perm (((mat_permSet (mat_c hl hc) _).map _).append_right R')
theorem ZA.mel {Z : Zp} (h : ZA Z (mat e sz enc m)) (hlen : ∀ x, (enc x).length = sz) (hl : m.map (·.2) = l) (hc : 0 ≤ i ∧ i < l.length) (hw : ∃ w, zok Z w) :
    ZS Z sz (fun r x => r = enc x) (Sep.nth m i).1.1 (Sep.nth m i).1.2 (Sep.nth l i) := by
  refine ZA.row (e := e) (cs := (Sep.nth l i).flatMap enc) ?_ (RR.flat hlen _) hw
  intro w hw
  have hc' := mat_c hl hc
  have h1 : (mrow e sz enc (Sep.nth m i)).ok w := (h w hw).1 _ (List.mem_map.2 ⟨_, (mat_perm hc').mem_iff.1 (List.mem_cons_self ..), rfl⟩)
  unfold mrow at h1
  rw [mnth hl hc] at h1
  exact h1
/-- the inner slices, once nobody writes them any more -/
theorem ZA.mat (h : ZA Z (mat e sz enc m)) (hlen : ∀ x, (enc x).length = sz) (hl : m.map (·.2) = l) (hw : ∃ w, zok Z w) :
    RR 1 (fun r x => ∃ (ao : Option Addr) (cap : Nat), r = [.slice ao x.length cap] ∧ ZS Z sz (fun r x => r = enc x) ao cap x) (m.flatMap em) l := by
  subst hl
  refine ⟨m.map em, by rw [List.flatMap_def], fun r hr => by obtain ⟨x, _, rfl⟩ := List.mem_map.1 hr; rfl, by simp, ?_⟩
  intro i r x hr hx
  rw [List.getElem?_map] at hr hx
  cases hm : m[i]? with
  | none => rw [hm] at hr; cases hr
  | some p =>
    rw [hm] at hr hx
    obtain rfl := Option.some.inj hr
    obtain rfl := Option.some.inj hx
    refine ⟨p.1.1, p.1.2, rfl, ZA.row (e := e) (cs := p.2.flatMap enc) ?_ (RR.flat hlen _) hw⟩
    intro w hw
    exact (h w hw).1 (mrow e sz enc p) (List.mem_map.2 ⟨p, List.mem_of_getElem? hm, rfl⟩)
theorem Hp.freezeM {ao : Option Addr} {cap : Nat} {oe : TypeId} (hr : Pick L (row (.slice ao l.length cap) oe 1 (m.flatMap em)) R) (hm : Pick R (mat e sz enc m) R') (hz : Pick R' (fz Zn) R'') (hp : PZ F w₀ Z) (hlen : ∀ x, (enc x).length = sz) (hl : m.map (·.2) = l) (h : Hp F w₀ w L) :
    ∃ Zn', Zle (Z ++ Zn) (Z ++ Zn') ∧ ZS (Z ++ Zn') 1 (fun r x => ∃ (ao : Option Addr) (cap : Nat), r = [.slice ao x.length cap] ∧ ZS (Z ++ Zn') sz (fun r x => r = enc x) ao cap x) ao cap l ∧ Hp F w₀ w (fz Zn' :: R'') := by
  have h0 : Hp F w₀ w (mat e sz enc m :: fz Zn :: row (.slice ao l.length cap) oe 1 (m.flatMap em) :: R'') := h.perm (hr.perm.trans ((hm.perm.cons _).trans ((List.Perm.swap _ _ _).trans (((hz.perm.cons _).trans (List.Perm.swap _ _ _)).cons _))))
  obtain ⟨Z1, h1, h2, h3⟩ := Hp.freeze (x := mat e sz enc m) .here .here h0
  have h3' := h3.perm (List.Perm.swap _ _ _)
  have hw1 : ∃ w, zok (Z ++ Z1) w := ⟨w, (hp.pv w h3).app (h3.ok (fz Z1) (by simp))⟩
  obtain ⟨Z2, h4, h5, h6⟩ := Hp.freezeS (Z := Z) .here .here hp (ZA.mat (h2.mono (Zle.right Z Z1)) hlen hl hw1) h3'
  refine ⟨Z2, h1.app.trans h4, h5.weak ?_, h6⟩
  rintro r x ⟨ao, cap, hr, hs⟩
  exact ⟨ao, cap, hr, hs.mono h4⟩
end

section
variable [Rnd]
variable {P : Program} {n : Nat} {F : List Nat} {w₀ : World} {env : List (Nat × Value)} {L R R' R'' : List Asrt} {ops : Array Oper} {Q : Exit → Act → World → Prop} {lo : List Oper} {cc : Code} {ex : Exit}
  {e oe : TypeId} {sz : Nat} {α : Type} {enc : α → List Value} {m : MG α} {l : List (List α)} {i : Int} {Z Zn : Zp} {tl : Nat → Bool} {Ls : List Asrt} {fuel : Nat} {listed : Array Bool} {QD : Act → World → Prop}
theorem WL.matNil (e : TypeId) (sz n' : Nat) (enc : α → List Value) (k : WL P n F w₀ ops Q lo env (mat e sz enc (List.replicate n' ((none, 0), [])) :: L)) : WL P n F w₀ ops Q lo env L := fun a w h => k a w (h.world (h.hp.matNil e sz n' enc))
theorem WD.matNil (e : TypeId) (sz n' : Nat) (enc : α → List Value) (k : WD P n F w₀ ops tl Ls QD fuel listed env (mat e sz enc (List.replicate n' ((none, 0), [])) :: L)) : WD P n F w₀ ops tl Ls QD fuel listed env L := fun a w h => k a w (h.world (h.hp.matNil e sz n' enc))
theorem WC.matNil (e : TypeId) (sz n' : Nat) (enc : α → List Value) (k : WC P n F w₀ Q cc env (mat e sz enc (List.replicate n' ((none, 0), [])) :: L)) : WC P n F w₀ Q cc env L := fun a w h => k a w (h.world (h.hp.matNil e sz n' enc))
theorem WX.matNil (e : TypeId) (sz n' : Nat) (enc : α → List Value) (k : WX n F w₀ Q ex env (mat e sz enc (List.replicate n' ((none, 0), [])) :: L)) : WX n F w₀ Q ex env L := fun a w h => k a w (h.world (h.hp.matNil e sz n' enc))
theorem WL.matOpen (hp : Pick L (mat e sz enc m) R) (hl : m.map (·.2) = l) (hc : 0 ≤ i ∧ i < l.length) (k : WL P n F w₀ ops Q lo env (row (.slice (Sep.nth m i).1.1 (Sep.nth l i).length (Sep.nth m i).1.2) e sz ((Sep.nth l i).flatMap enc) :: matx e sz enc m i :: R)) : WL P n F w₀ ops Q lo env L := fun a w h => k a w (h.world (h.hp.matOpen hp hl hc))
theorem WL.matClose {ao : Option Addr} {cap : Nat} {d : List α} (hr : Pick L (row (.slice ao d.length cap) e sz (d.flatMap enc)) R) (hx : Pick R (matx e sz enc m i) R') (hl : m.map (·.2) = l) (hc : 0 ≤ i ∧ i < l.length)
    (k : WL P n F w₀ ops Q lo env (mat e sz enc (m.set i.toNat ((ao, cap), d)) :: R')) : WL P n F w₀ ops Q lo env L := fun a w h => k a w (h.world (h.hp.matClose hr hx hl hc))
theorem WL.freezeM {ao : Option Addr} {cap : Nat} (hr : Pick L (row (.slice ao l.length cap) oe 1 (m.flatMap em)) R) (hm : Pick R (mat e sz enc m) R') (hz : Pick R' (fz Zn) R'') (hp : PZ F w₀ Z) (hlen : ∀ x, (enc x).length = sz) (hl : m.map (·.2) = l)
    (k : ∀ Zn', Zle (Z ++ Zn) (Z ++ Zn') → ZS (Z ++ Zn') 1 (fun r x => ∃ (ao : Option Addr) (cap : Nat), r = [.slice ao x.length cap] ∧ ZS (Z ++ Zn') sz (fun r x => r = enc x) ao cap x) ao cap l → WL P n F w₀ ops Q lo env (fz Zn' :: R'')) : WL P n F w₀ ops Q lo env L := fun a w h => by
  obtain ⟨Zn', h1, h2, h3⟩ := h.hp.freezeM hr hm hz hp hlen hl
  exact k Zn' h1 h2 a w (h.world h3)
theorem WC.freezeM {ao : Option Addr} {cap : Nat} (hr : Pick L (row (.slice ao l.length cap) oe 1 (m.flatMap em)) R) (hm : Pick R (mat e sz enc m) R') (hz : Pick R' (fz Zn) R'') (hp : PZ F w₀ Z) (hlen : ∀ x, (enc x).length = sz) (hl : m.map (·.2) = l)
    (k : ∀ Zn', Zle (Z ++ Zn) (Z ++ Zn') → ZS (Z ++ Zn') 1 (fun r x => ∃ (ao : Option Addr) (cap : Nat), r = [.slice ao x.length cap] ∧ ZS (Z ++ Zn') sz (fun r x => r = enc x) ao cap x) ao cap l → WC P n F w₀ Q cc env (fz Zn' :: R'')) : WC P n F w₀ Q cc env L := fun a w h => by
  obtain ⟨Zn', h1, h2, h3⟩ := h.hp.freezeM hr hm hz hp hlen hl
  exact k Zn' h1 h2 a w (h.world h3)
theorem WX.freezeM {ao : Option Addr} {cap : Nat} (hr : Pick L (row (.slice ao l.length cap) oe 1 (m.flatMap em)) R) (hm : Pick R (mat e sz enc m) R') (hz : Pick R' (fz Zn) R'') (hp : PZ F w₀ Z) (hlen : ∀ x, (enc x).length = sz) (hl : m.map (·.2) = l)
    (k : ∀ Zn', Zle (Z ++ Zn) (Z ++ Zn') → ZS (Z ++ Zn') 1 (fun r x => ∃ (ao : Option Addr) (cap : Nat), r = [.slice ao x.length cap] ∧ ZS (Z ++ Zn') sz (fun r x => r = enc x) ao cap x) ao cap l → WX n F w₀ Q ex env (fz Zn' :: R'')) : WX n F w₀ Q ex env L := fun a w h => by
  obtain ⟨Zn', h1, h2, h3⟩ := h.hp.freezeM hr hm hz hp hlen hl
  exact k Zn' h1 h2 a w (h.world h3)
theorem WD.freezeM {ao : Option Addr} {cap : Nat} (hr : Pick L (row (.slice ao l.length cap) oe 1 (m.flatMap em)) R) (hm : Pick R (mat e sz enc m) R') (hz : Pick R' (fz Zn) R'') (hp : PZ F w₀ Z) (hlen : ∀ x, (enc x).length = sz) (hl : m.map (·.2) = l)
    (k : ∀ Zn', Zle (Z ++ Zn) (Z ++ Zn') → ZS (Z ++ Zn') 1 (fun r x => ∃ (ao : Option Addr) (cap : Nat), r = [.slice ao x.length cap] ∧ ZS (Z ++ Zn') sz (fun r x => r = enc x) ao cap x) ao cap l → WD P n F w₀ ops tl Ls QD fuel listed env (fz Zn' :: R'')) : WD P n F w₀ ops tl Ls QD fuel listed env L := fun a w h => by
  obtain ⟨Zn', h1, h2, h3⟩ := h.hp.freezeM hr hm hz hp hlen hl
  exact k Zn' h1 h2 a w (h.world h3)
end
section
variable [Rnd]
variable {P : Program} {n : Nat} {F : List Nat} {w₀ : World} {env : List (Nat × Value)} {L : List Asrt} {d : Option Tmp} {ty : TypeId} {pos : String} {after : Array Edge} {g : Option (Nat × Bool)} {x y : Operand} {t t' e : TypeId}
theorem q_eqlSN {ao : Option Addr} {m c : Nat} (ht : P.underlying t = some (.slice e)) (hx : eo env x = some (.slice ao m c)) (hy : eo env y = some (.slice none 0 0)) : Qt P n F w₀ env L ⟨d, .binOp .eql t x y t', ty, pos, after, g⟩ (.bool ao.isNone) := by
  intro a w h
  simp [execOp, h.eval hx, h.eval hy, eqGuard_at_slice, Lib.run_eql_slice_nil w t e ao m c 0 0 ht]
theorem q_neqSN {ao : Option Addr} {m c : Nat} (ht : P.underlying t = some (.slice e)) (hx : eo env x = some (.slice ao m c)) (hy : eo env y = some (.slice none 0 0)) : Qt P n F w₀ env L ⟨d, .binOp .neq t x y t', ty, pos, after, g⟩ (.bool (!ao.isNone)) := by
  intro a w h
  simp [execOp, h.eval hx, h.eval hy, eqGuard_at_slice, run_neq_slice_nil_any w t e ao m c 0 0 ht]
end
/-! ### some cells of a block -/
inductive Ks (cs : List Value) : List (Nat × Value) → Prop
  | nil : Ks cs []
  | cons {k : Nat} {v : Value} {ks : List (Nat × Value)} (h : cs[k]? = some v) (t : Ks cs ks) : Ks cs ((k, v) :: ks)
theorem Ks.get {cs : List Value} {ks : List (Nat × Value)} (h : Ks cs ks) : ∀ p ∈ ks, cs[p.1]? = some p.2 := by
  induction h with
  | nil => intro p hp; cases hp
  | cons h _ ih =>
    intro p hp
    rcases List.mem_cons.1 hp with rfl | hp
    · exact h
    · exact ih p hp
def stbp (b : Nat) (T : TypeId) (ks : List (Nat × Value)) : Asrt where
  fp := [b]
  ok w := ∃ cs, (stb b T cs).ok w ∧ Ks cs ks
  loc w w' h hl hk := by
    obtain ⟨cs, h1, h2⟩ := hk
    exact ⟨cs, (stb b T cs).loc w w' (by simpa [stb_fp] using h) (by simpa [stb_fp] using hl) h1, h2⟩
theorem Wk.stb {b : Nat} {T : TypeId} {cs : List Value} {ks : List (Nat × Value)} {L M : List Asrt} (h : Ks cs ks) (t : Wk L M) : Wk (Sep.stb b T cs :: L) (stbp b T ks :: M) :=
  .any rfl (fun _ hk => ⟨cs, hk, h⟩) t
theorem rd_stbp {F : List Nat} {w₀ : World} {L R : List Asrt} {b off : Nat} {T : TypeId} {ks : List (Nat × Value)} {v : Value} (hm : Pick L (stbp b T ks) R) (hv : (off, v) ∈ ks) : ∀ w, Hp F w₀ w L → w.cell? ⟨b, off, none⟩ = some v := by
  intro w h
  obtain ⟨cs, h1, h2⟩ := h.ok _ hm.mem
  rw [cell_of_row w b off _ T (0, 0) (stb_ok.1 h1)]
  simpa using h2.get _ hv
theorem ZS.noneNil {α : Type} {Z : Zp} {sz cap : Nat} {Pr : List Value → α → Prop} {l : List α} (h : ZS Z sz Pr none cap l) : l = [] := by
  obtain ⟨_, _, cs, _, h4⟩ := h
  refine Classical.byContradiction fun hn => ?_
  obtain ⟨A, hA, _⟩ := h4 hn
  cases hA
end Sep

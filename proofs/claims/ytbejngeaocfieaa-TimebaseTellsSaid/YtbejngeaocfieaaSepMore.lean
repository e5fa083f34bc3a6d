/- A part of this claim's proof: more rules. No conditions beyond those in each theorem's statement. -/
import Derived.Test.YtbejngeaocfieaaSepOrder
set_option linter.all false
set_option linter.unusedSectionVars false
namespace Sep
open Go Go.RowKit
variable [Rnd]

theorem oc_nil : ∀ u ∈ ([] : List Value), u.oneCell' = true := by simp
theorem oc_cons {v : Value} {vs : List Value} (h : v.oneCell' = true) (t : ∀ u ∈ vs, u.oneCell' = true) : ∀ u ∈ v :: vs, u.oneCell' = true := by
  intro u hu
  rcases List.mem_cons.1 hu with rfl | hu
  · exact h
  · exact t u hu
theorem oc_flat {α : Type} {enc : α → List Value} (h : ∀ x, ∀ u ∈ enc x, u.oneCell' = true) (l : List α) : ∀ u ∈ l.flatMap enc, u.oneCell' = true := by
  intro u hu
  obtain ⟨x, _, hx⟩ := List.mem_flatMap.1 hu
  exact h x u hx
theorem tdivp {p q : Int} (h : 0 ≤ p) : p.tdiv q = p / q := by rw [Int.tdiv_eq_ediv_of_nonneg h]
theorem tmodp {p q : Int} (h : 0 ≤ p) : p.tmod q = p % q := by rw [Int.tmod_eq_emod_of_nonneg h]
theorem wtdiv {p q : Int} (h : 0 ≤ p) (h1 : p ≤ 9223372036854775807) (h2 : 0 < q) : IntKind.wrap .i64 (p.tdiv q) = p / q := by
  rw [tdivp h]
  have h3 : p / q ≤ p := Int.ediv_le_self _ h
  have h4 : 0 ≤ p / q := Int.ediv_nonneg h (by omega)
  exact w64 ⟨by omega, by omega⟩

section
variable {P : Program} {n : Nat} {F : List Nat} {w₀ : World} {env : List (Nat × Value)} {L Lc Lr R : List Asrt} {ops : Array Oper} {Q : Exit → Act → World → Prop} {rest l : List Oper}
  {dd : Nat} {d : Option Tmp} {ty : TypeId} {pos : String} {after : Array Edge} {g : Option (Nat × Bool)} {x y : Operand} {v u : Value} {t e T : TypeId} {sz by_ : Nat}

theorem news_row {bo : Option Addr} {k capk : Nat} {news : List Value} {sz' : Nat} (hm : Pick L (row (.slice bo k capk) e sz' news) R) : ∀ w, Hp F w₀ w L → news ≠ [] → ∃ A, bo = some A ∧ ∀ j u, news[j]? = some u → w.cell? (A.add j) = some u := by
  intro w h hne
  obtain ⟨b, hb, hc⟩ := h.cellsRow .nil hm hne
  exact ⟨_, hb, hc.2⟩
theorem news_nil {bo : Option Addr} : ∀ w, Hp F w₀ w L → ([] : List Value) ≠ [] → ∃ A, bo = some A ∧ ∀ (j : Nat) (u : Value), ([] : List Value)[j]? = some u → w.cell? (A.add j) = some u := fun _ _ h => absurd rfl h
theorem SlP.cells {α : Type} {enc : α → List Value} {ls : List α} {sz : Nat} {ao : Option Addr} {k cap : Nat} (h : SlP F w₀ (.slice ao k cap) sz (fun r x => r = enc x) ls) (hne : ls.flatMap enc ≠ []) : ∃ A, ao = some A ∧ CellsAt F w₀ A (ls.flatMap enc) := by
  obtain ⟨rows, ⟨⟨ao', cap', hv, h1, h2, h3⟩, hlen⟩, hl, hP⟩ := h
  injection hv with e1 e2 e3
  subst e1
  have hr : rows = ls.map enc := by
    apply List.ext_getElem? 
    intro i
    rw [List.getElem?_map]
    cases hx : ls[i]? with
    | none =>
      have : rows[i]? = none := by rw [List.getElem?_eq_none_iff] at hx ⊢; omega
      simp [this]
    | some x =>
      have hlt : i < rows.length := by have := (List.getElem?_eq_some_iff.1 hx).1; omega
      have := hP i _ x (List.getElem?_eq_getElem hlt) hx
      rw [List.getElem?_eq_getElem hlt, this]; rfl
  rw [List.flatMap_def, ← hr] at hne ⊢
  exact h3 (by rintro rfl; simp at hne)
theorem news_slp {α : Type} {enc : α → List Value} {ls : List α} {sz' : Nat} {ao : Option Addr} {k cap : Nat} (h : SlP F w₀ (.slice ao k cap) sz' (fun r x => r = enc x) ls) : ∀ w, Hp F w₀ w L → ls.flatMap enc ≠ [] → ∃ A, ao = some A ∧ ∀ j u, (ls.flatMap enc)[j]? = some u → w.cell? (A.add j) = some u := by
  intro w hw hne
  obtain ⟨A, hA, hc⟩ := h.cells hne
  exact ⟨A, hA, hc.now hw⟩

theorem WL.rowEq {cs cs' : List Value} (hm : Pick L (row v e sz cs) R) (h : cs = cs') (k : WL P n F w₀ ops Q l env (row v e sz cs' :: R)) : WL P n F w₀ ops Q l env L := by
  subst h
  exact fun a w hs => k a w (hs.world (hs.hp.front hm))
theorem WD.rowEq {tl : Nat → Bool} {Ls : List Asrt} {fuel : Nat} {listed : Array Bool} {QD : Act → World → Prop} {cs cs' : List Value} (hm : Pick L (row v e sz cs) R) (h : cs = cs') (k : WD P n F w₀ ops tl Ls QD fuel listed env (row v e sz cs' :: R)) : WD P n F w₀ ops tl Ls QD fuel listed env L := by
  subst h
  exact fun a w hs => k a w (hs.world (hs.hp.front hm))
theorem WD.nilRow {tl : Nat → Bool} {Ls : List Asrt} {fuel : Nat} {listed : Array Bool} {QD : Act → World → Prop} (e : TypeId) (sz : Nat) (k : WD P n F w₀ ops tl Ls QD fuel listed env (row (.slice none 0 0) e sz [] :: L)) : WD P n F w₀ ops tl Ls QD fuel listed env L := fun a w h => k a w (h.world (h.hp.nilRow e sz))

theorem rd_sub {b off s : Nat} {cs ds : List Value} (hm : Pick L (stb b T cs) R) (hd : (cs.drop off).take s = ds) : ∀ w, Hp F w₀ w L → ∀ j u, ds[j]? = some u → w.cell? ((⟨b, off, none⟩ : Addr).add j) = some u := by
  subst hd
  refine rd_stbs hm (fun j u hu => ?_)
  rw [List.getElem?_take] at hu
  split at hu
  · simpa using hu
  · cases hu

/-- a part of a slice that is only read -/
theorem q_slice {ao : Option Addr} {m cap lo hi : Nat} {lx hx' : Option Operand} {lv hv : Option Value} (ht : elT P t e sz by_) (hx : eo env x = some (.slice ao m cap))
    (hl : ∀ a w, SS n F w₀ env L a w → lx.map a.eval = lv) (hh : ∀ a w, SS n F w₀ env L a w → hx'.map a.eval = hv)
    (hlv : match lv with | none => lo = 0 | some (.int _ q) => q = lo | _ => False) (hhv : match hv with | none => hi = m | some (.int _ q) => q = hi | _ => False) (h1 : lo ≤ hi) (h2 : hi ≤ cap) (h3 : hv = none → m ≤ cap) :
    Qt P n F w₀ env L ⟨d, .slice t x lx hx' none, ty, pos, after, g⟩ (.slice (if cap = lo then ao else ao.map (·.add (lo * sz))) (hi - lo) (cap - lo)) := by
  intro a w h
  obtain ⟨inf, z, hi', hz, hsz, _, _⟩ := ht.inf
  have ht' : P.underlying t = some (.slice (P.elem t)) := by simp [Program.elem, ht.sl]
  have e1 : P.elem t = e := by simp [Program.elem, ht.sl]
  have hs : (Go.sizeOf (P.elem t)).run P w = .ok sz w := by simp [Go.sizeOf, typeInfo, e1, hi', hsz]
  simp only [execOp, h.eval hx, hl a w h, hh a w h, Option.map_none]
  rw [Sem.run_bind, run_sliceAt_slice w t _ _ _ _ ht']
  cases lv with
  | none =>
    subst hlv
    cases hv with
    | none => subst hhv; rw [run_slice_all w t ao hi cap ht', hs]; simp [sliced]
    | some q =>
      cases q <;> simp only at hhv
      case int k q => subst hhv; rw [run_slice_h w t ao m cap ht' k _ (by omega) (by omega), hs]; simp [sliced]
  | some p =>
    cases p <;> simp only at hlv
    case int k p =>
      subst hlv
      cases hv with
      | none => subst hhv; rw [run_slice_l w t ao hi cap ht' k _ (by omega) (by omega), hs]; simp [sliced]
      | some q =>
        cases q <;> simp only at hhv
        case int k' q => subst hhv; rw [run_slice_lh w t ao m cap ht' k k' _ _ (by omega) (by omega) (by omega), hs]; simp [sliced]

theorem WL.subHi {α : Type} {Pr : List Value → α → Prop} {ls : List α} {ao : Option Addr} {m cap hi : Nat} {hx' : Operand} {kk : IntKind} {q : Int} (hg : gd env ops ⟨some dd, .slice t x none (some hx') none, ty, pos, after, g⟩ = some true) (hdn : Nat.blt dd n = true)
    (ht : elT P t e sz by_) (hx : eo env x = some (.slice ao m cap)) (hh : eo env hx' = some (.int kk q)) (hs : SlP F w₀ (.slice ao m cap) sz Pr ls) (hq : q = hi) (h2 : hi ≤ ls.length)
    (k : ∀ ao' cap', SlP F w₀ (.slice ao' (ls.take hi).length cap') sz Pr (ls.take hi) → WL P n F w₀ ops Q rest ((dd, .slice ao' (ls.take hi).length cap') :: env) L) :
    WL P n F w₀ ops Q (⟨some dd, .slice t x none (some hx') none, ty, pos, after, g⟩ :: rest) env L := by
  have hlm := hs.len
  subst hlm
  have hcap := hs.shape
  obtain ⟨ao', cap', hv, hc1, _⟩ := hcap
  injection hv with e1 e2 e3
  subst e3
  refine WL.quiet hg rfl hdn (q_slice (lo := 0) (hi := hi) ht hx (lv := none) (hv := some (.int kk q)) (fun _ _ _ => rfl) (fun a w h => by rw [Option.map_some, h.eval hh]) rfl hq (by omega) (by omega) (by simp)) ?_
  have h3 := hs.sub ht.pos (Nat.zero_le hi) h2 ao cap rfl
  have h4 : hi - 0 = (ls.take hi).length := by simp; omega
  rw [List.drop_zero, h4] at h3
  rw [h4]
  exact k _ _ h3
theorem WL.subLo {α : Type} {Pr : List Value → α → Prop} {ls : List α} {ao : Option Addr} {m cap lo : Nat} {lx : Operand} {kk : IntKind} {q : Int} (hg : gd env ops ⟨some dd, .slice t x (some lx) none none, ty, pos, after, g⟩ = some true) (hdn : Nat.blt dd n = true)
    (ht : elT P t e sz by_) (hx : eo env x = some (.slice ao m cap)) (hh : eo env lx = some (.int kk q)) (hs : SlP F w₀ (.slice ao m cap) sz Pr ls) (hq : q = lo) (h2 : lo ≤ ls.length)
    (k : ∀ ao' cap', SlP F w₀ (.slice ao' (ls.drop lo).length cap') sz Pr (ls.drop lo) → WL P n F w₀ ops Q rest ((dd, .slice ao' (ls.drop lo).length cap') :: env) L) :
    WL P n F w₀ ops Q (⟨some dd, .slice t x (some lx) none none, ty, pos, after, g⟩ :: rest) env L := by
  have hlm := hs.len
  subst hlm
  obtain ⟨ao', cap', hv, hc1, _⟩ := hs.shape
  injection hv with e1 e2 e3
  subst e3
  refine WL.quiet hg rfl hdn (q_slice (lo := lo) (hi := ls.length) ht hx (lv := some (.int kk q)) (hv := none) (fun a w h => by rw [Option.map_some, h.eval hh]) (fun _ _ _ => rfl) hq rfl h2 hc1 (fun _ => hc1)) ?_
  have h3 := hs.sub ht.pos h2 (Nat.le_refl _) ao cap rfl
  have h4 : ls.length - lo = (ls.drop lo).length := by simp
  rw [List.take_length, h4] at h3
  rw [h4]
  exact k _ _ h3

theorem CellsAt.call {w : World} {A : Addr} {cs : List Value} (h : CellsAt F w₀ A cs) (hp : Hp F w₀ w L) (hs : Sel L Lc Lr) (hne : cs ≠ []) : CellsAt (fps Lc) w A cs := h.at hp hs.fps hne
theorem Hp.cellsStb {w : World} {b : Nat} {cs : List Value} (h : Hp F w₀ w L) (hs : Sel L Lc Lr) (hm : Pick Lr (stb b T cs) R) : CellsAt (fps Lc) w ⟨b, 0, none⟩ cs := by
  refine ⟨fun hb => ?_, fun j u hu => ?_⟩
  · obtain ⟨x, hx, hbx⟩ := List.mem_flatMap.1 hb
    have hp : (Lc ++ Lr).Pairwise fun x y => ∀ b ∈ x.fp, b ∉ y.fp :=
      (List.Perm.pairwise_iff (fun {x y} hxy b hb hc => hxy b hc hb) hs.perm).1 h.sep
    exact (List.pairwise_append.1 hp).2.2 x hx _ hm.mem b hbx (by simp [stb_fp])
  · have := stb_ok.1 (h.ok _ (hs.memr hm.mem))
    rw [Addr.add_lit, cell_of_row w b _ _ T (0, 0) this]
    simpa using hu
theorem Hp.slpRow' {α : Type} {w : World} {ao : Option Addr} {m cap : Nat} {enc : α → List Value} {ls : List α} (h : Hp F w₀ w L) (hs : Sel L Lc Lr) (hm : Pick Lr (row (.slice ao m cap) e sz (ls.flatMap enc)) R)
    (hlen : ∀ x ∈ ls, (enc x).length = sz) (hsz : 0 < sz) (hl : m = ls.length) : SlP (fps Lc) w (.slice ao ls.length cap) sz (fun r x => r = enc x) ls := by
  subst hl; exact h.slpRow hs hm hlen hsz

theorem Hp.keep {w : World} (h : Hp F w₀ w L) : w₀.heap.size ≤ w.heap.size ∧ ∀ k, k < w₀.heap.size → k ∉ F → w.heap[k]? = w₀.heap[k]? := ⟨h.size, h.block⟩
end
end Sep

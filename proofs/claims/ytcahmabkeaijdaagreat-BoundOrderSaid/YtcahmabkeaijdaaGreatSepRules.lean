/- A part of this claim's proof: the rules of the judgements. No conditions. -/
import Derived.Test.YtcahmabkeaijdaaGreatSepMem
set_option linter.all false
set_option linter.unusedSectionVars false
namespace Sep
open Go Go.RowKit
variable [Rnd]
def Ef {G : Type} (P : Program) (n : Nat) (F : List Nat) (w₀ : World) (env : List (Nat × Value)) (L : List Asrt) (o : Oper) (φ : G → Prop) (val : G → Value) (L' : G → List Asrt) : Prop :=
 ∀ a w, SS n F w₀ env L a w → ∃ g w', (execOp a.eval o).run P w = .ok (.value (val g)) w' ∧ φ g ∧ Hp F w₀ w' (L' g)
def EfX {G : Type} (P : Program) (n : Nat) (F : List Nat) (w₀ : World) (env : List (Nat × Value)) (L : List Asrt) (o : Oper) (φ : G → Prop) (val : G → Value) (L' : G → List Asrt) : Prop :=
 ∀ a w, SS n F w₀ env L a w → ∃ g w', (execOp a.eval o).run P w = .ok (.value (val g)) w' ∧ φ g ∧ Hp F w₀ w' (L' g) ∧ Ext w w'
def Ef0 (P : Program) (n : Nat) (F : List Nat) (w₀ : World) (env : List (Nat × Value)) (L : List Asrt) (o : Oper) (L' : List Asrt) : Prop :=
 ∀ a w, SS n F w₀ env L a w → ∃ w', y93 P o a w w' ∧ Hp F w₀ w' L'
theorem EfX.ef {G : Type} {P : Program} {n : Nat} {F : List Nat} {w₀ : World} {env : List (Nat × Value)} {L : List Asrt} {o : Oper} {φ : G → Prop} {val : G → Value} {L' : G → List Asrt}
  (h : EfX P n F w₀ env L o φ val L') : Ef P n F w₀ env L o φ val L' := fun a w hs => let ⟨g, w', h1, h2, h3, _⟩ := h a w hs; ⟨g, w', h1, h2, h3⟩
section
variable {P : Program} {n : Nat} {F : List Nat} {w₀ : World} {env : List (Nat × Value)} {L R : List Asrt} {ops : Array Oper} {Q : Exit → Act → World → Prop} {rest : List Oper}
 {dd : Nat} {d : Option Tmp} {ty : TypeId} {pos : String} {after : Array Edge} {g : Option (Nat × Bool)} {x y c : Operand} {v u : Value} {t e T : TypeId} {sz by_ : Nat}
theorem ya {f k : Nat} {A A' : Addr} (hf : yO P t f k) (hx : eo env x = some (.pointer (some A))) (hA : A.add k = A') : Qt P n F w₀ env L ⟨d, .fieldAddr t x f, ty, pos, after, g⟩ (.pointer (some A')) := by
 intro a w h; subst hA; simp [execOp, h.eval hx, hf A w]
theorem yc {A : Addr} (hT : y5a P t) (hx : eo env x = some (.pointer (some A))) (hR : ∀ w, Hp F w₀ w L → w.cell? A = some v) : Qt P n F w₀ env L ⟨d, .load t x, ty, pos, after, g⟩ v := by
 intro a w h
 have := congrFun hT w
 simp [execOp, h.eval hx, Instr.loadAt, Instr.sureAddr, loadVar, this, hR w h.hp]
theorem yQ {A : Addr} {cs : List Value} {s : Nat} (hT : y5r P t s) (hx : eo env x = some (.pointer (some A))) (hl : cs.length = s) (hR : ∀ w, Hp F w₀ w L → ∀ j u, cs[j]? = some u → w.cell? (A.add j) = some u) :
  Qt P n F w₀ env L ⟨d, .load t x, ty, pos, after, g⟩ (.agg cs.toArray) := by
 intro a w h
 have h1 := congrFun hT.1 w
 have h2 := congrFun hT.2 w
 have h3 := run_loadCells_list (P := P) w A cs (hR w h.hp)
 rw [hl] at h3
 simp [execOp, h.eval hx, Instr.loadAt, Instr.sureAddr, loadVar, h1, h2, h3]
/-! readers -/
theorem yk {b off : Nat} {cs : List Value} (hm : Pick L (stb b T cs) R) (hv : cs[off]? = some v) : ∀ w, Hp F w₀ w L → w.cell? ⟨b, off, none⟩ = some v := by
 intro w h
 have := y94.1 (h.ok _ hm.mem)
 rw [cell_of_row w b off _ T (0, 0) this]
 simpa using hv
theorem yd2 {b off : Nat} {cs ds : List Value} (hm : Pick L (stb b T cs) R) (hv : ∀ j u, ds[j]? = some u → cs[off + j]? = some u) : ∀ w, Hp F w₀ w L → ∀ j u, ds[j]? = some u → w.cell? ((⟨b, off, none⟩ : Addr).add j) = some u := by
 intro w h j u hu
 rw [Addr.add_lit]
 exact yk hm (hv j u hu) w h
theorem yh {b : Nat} {cs : List Value} (hm : Pick L (stb b T cs) R) : ∀ w, Hp F w₀ w L → ∀ j u, cs[j]? = some u → w.cell? ((⟨b, 0, none⟩ : Addr).add j) = some u :=
 yd2 hm (fun j u hu => by simpa using hu)
theorem ycp {b len cap off : Nat} {cs : List Value} (hm : Pick L (row (.slice (some ⟨b, 0, none⟩) len cap) e sz cs) R) (hv : cs[off]? = some v) : ∀ w, Hp F w₀ w L → w.cell? ⟨b, off, none⟩ = some v := by
 intro w h
 obtain ⟨m, hm⟩ := h.ok _ hm.mem
 have := hm.cells (g := b) rfl off v hv
 rwa [Addr.add_lit, Nat.zero_add] at this
theorem y3d {b len cap off : Nat} {cs ds : List Value} (hm : Pick L (row (.slice (some ⟨b, 0, none⟩) len cap) e sz cs) R) (hv : ∀ j u, ds[j]? = some u → cs[off + j]? = some u) :
  ∀ w, Hp F w₀ w L → ∀ j u, ds[j]? = some u → w.cell? ((⟨b, off, none⟩ : Addr).add j) = some u := by
 intro w h j u hu
 rw [Addr.add_lit]
 exact ycp hm (hv j u hu) w h
/-! making -/
theorem yH {cs : List Value} (hx : eo env x = some v) (hc : v.cells = cs.toArray) :
  EfX P n F w₀ env L ⟨d, .box T x, ty, pos, after, g⟩ (fun _ : Nat => True) (fun b => .pointer (some ⟨b, 0, none⟩)) (fun b => stb b T cs :: L) := by
 intro a w h
 refine ⟨w.heap.size, w.alloc (.cells cs.toArray T (0, 0)), ?_, trivial, h.hp.alloc _, .alloc _ _⟩
 simp [execOp, h.eval hx, Instr.box, newVar, newRow, newObj, Sem.run, hc]
theorem yv {cs : List Value} (hz : y2n P T v) (hc : v.cells = cs.toArray) :
  EfX P n F w₀ env L ⟨d, .alloc T, ty, pos, after, g⟩ (fun _ : Nat => True) (fun b => .pointer (some ⟨b, 0, none⟩)) (fun b => stb b T cs :: L) := by
 intro a w h
 have := congrFun hz w
 refine ⟨w.heap.size, w.alloc (.cells cs.toArray T (0, 0)), ?_, trivial, h.hp.alloc _, .alloc _ _⟩
 simp [execOp, Instr.alloc, this, newVar, newRow, newObj, Sem.run, hc]
def y5b (cs : List Value) (off : Nat) (vs : List Value) : List Value := cs.take off ++ vs ++ cs.drop (off + vs.length)
theorem Hp.front {w : World} {x : Asrt} (h : Hp F w₀ w L) (hm : Pick L x R) : Hp F w₀ w (x :: R) := h.sub (.cons hm .all)
theorem Hp.setRow {w : World} {b : Nat} {cs ds : List Value} (h : Hp F w₀ w L) (hm : Pick L (stb b T cs) R) : Hp F w₀ (w.setRow b ds.toArray) (stb b T ds :: R) := by
 have hk := y94.1 (h.ok _ hm.mem)
 refine (h.front hm).upd (x := stb b T cs) (y := stb b T ds) .here rfl ⟨rfl, Nat.le_refl _⟩ rfl (by simp) (fun k _ hk' => setRow_other w b k _ (by simpa [y95] using hk')) (y94.2 (setRow_heap w b _ _ _ _ hk)) ?_
 intro b' hb'
 simp only [y95, List.mem_singleton] at hb'
 subst hb'
 exact ⟨by simpa using h.lt _ hm.mem b' (by simp [y95]), .inl (by simp [y95])⟩
theorem yd3 {b off s : Nat} {cs vs ds : List Value} (hT : y46 P t s) (hx : eo env x = some (.pointer (some ⟨b, off, none⟩))) (hy : eo env y = some v) (hv : v.cells = vs.toArray)
  (hs : vs.length = s) (h1 : ∀ u ∈ vs, u.oneCell' = true) (hm : Pick L (stb b T cs) R) (hfit : off + s ≤ cs.length) (hds : y5b cs off vs = ds) :
  Ef0 P n F w₀ env L ⟨none, .store t x y, ty, pos, after, g⟩ (stb b T ds :: R) := by
 intro a w h
 subst hds
 have hk := y94.1 (h.hp.ok _ hm.mem)
 have hst := run_storeCells_at (P := P) b off T vs 0 cs.toArray w hk (by simp; omega) h1
 have h2 := congrFun hT w
 refine ⟨_, .inl ?_, h.hp.setRow hm (ds := y5b cs off vs)⟩
 simp only [Nat.add_zero] at hst
 simp [execOp, h.eval hx, h.eval hy, Instr.storeAt, Instr.sureAddr, storeVar, h2, hv, hs, hst, y5b]
/-! slices -/
theorem yE {ao : Option Addr} {m cap : Nat} (ht : P.underlying t = some (.slice e)) (hx : eo env x = some (.slice ao m cap)) : Qt P n F w₀ env L ⟨d, .call ⟨.builtin .len, #[x], #[t]⟩, ty, pos, after, g⟩ (.int .i64 m) := by
 intro a w h
 have ht' : P.underlying t = some (.slice (P.elem t)) := by simp [Program.elem, ht]
 simp [execOp, h.eval hx, resolve, invoke, builtin, run_len_slice w t _ ao m cap ht', goInt]
theorem yY {A A' : Addr} {m cap : Nat} {k : IntKind} {i : Int} (ht : elT P t e sz by_) (hx : eo env x = some (.slice (some A) m cap)) (hy : eo env y = some (.int k i)) (h0 : 0 ≤ i) (h1 : i < m)
  (hA : A.add (i.toNat * sz) = A') : Qt P n F w₀ env L ⟨d, .indexAddr t x y, ty, pos, after, g⟩ (.pointer (some A')) := by
 intro a w h
 subst hA
 obtain ⟨inf, z, hi, hz, hsz, _, _⟩ := ht.inf
 simp [execOp, h.eval hx, h.eval hy, Instr.indexAt, run_underlying ht.sl, asIntOf, h0, h1, Go.sizeOf, typeInfo, hi, hsz]
theorem WL.slIndex {α : Type} {Pr : List Value → α → Prop} {l : List α} {ao : Option Addr} {cap : Nat} {k : IntKind} {i : Int} (hg : gd env ops ⟨some dd, .indexAddr t x y, ty, pos, after, g⟩ = some true) (hdn : Nat.blt dd n = true)
  (ht : elT P t e sz by_) (hx : eo env x = some (.slice ao l.length cap)) (hy : eo env y = some (.int k i)) (hs : SlP F w₀ (.slice ao l.length cap) sz Pr l) (h0 : 0 ≤ i) (h1 : i.toNat < l.length)
  (k : ∀ A r, y1L F w₀ A r → r.length = sz → Pr r l[i.toNat] → WL P n F w₀ ops Q rest ((dd, .pointer (some A)) :: env) L) :
  WL P n F w₀ ops Q (⟨some dd, .indexAddr t x y, ty, pos, after, g⟩ :: rest) env L := by
 obtain ⟨A, cap', r, hv, hc, hl, hp⟩ := hs.elem h1
 injection hv with e1 _ e3
 subst e1
 exact WL.a hg rfl hdn (yY ht hx hy h0 (by omega) rfl) (k _ r hc hl hp)
theorem WD.slIndex {tl : Nat → Bool} {Ls : List Asrt} {fuel : Nat} {listed : Array Bool} {QD : Act → World → Prop} {j : Nat} {α : Type} {Pr : List Value → α → Prop} {l : List α} {ao : Option Addr} {cap : Nat} {k : IntKind} {i : Int}
  (hns : y56 ops = true) (hi : ops[j]? = some ⟨some dd, .indexAddr t x y, ty, pos, after, g⟩) (hr : (Region.ready .any ops listed).contains j = true) (hf : y45 ops tl listed j = true)
  (hg : gd env ops ⟨some dd, .indexAddr t x y, ty, pos, after, g⟩ = some true) (hdn : Nat.blt dd n = true)
  (ht : elT P t e sz by_) (hx : eo env x = some (.slice ao l.length cap)) (hy : eo env y = some (.int k i)) (hs : SlP F w₀ (.slice ao l.length cap) sz Pr l) (h0 : 0 ≤ i) (h1 : i.toNat < l.length)
  (k : ∀ A r, y1L F w₀ A r → r.length = sz → Pr r l[i.toNat] → WD P n F w₀ ops tl Ls QD fuel (listed.setIfInBounds j true) ((dd, .pointer (some A)) :: env) L) :
  WD P n F w₀ ops tl Ls QD (fuel + 1) listed env L := by
 obtain ⟨A, cap', r, hv, hc, hl, hp⟩ := hs.elem h1
 injection hv with e1 _ e3
 subst e1
 exact WD.e hns hi hr hf hg rfl hdn (yY ht hx hy h0 (by omega) rfl) (k _ r hc hl hp)
theorem Hp.rowShape {w : World} {ao : Option Addr} {m cap : Nat} {cs : List Value} (h : Hp F w₀ w L) (hm : Pick L (row (.slice ao m cap) e sz cs) R) :
  cs.length = m * sz ∧ m ≤ cap ∧ cap ≤ maxLen ∧ ((ao = none ∧ m = 0 ∧ cap = 0) ∨ ∃ b, ao = some ⟨b, 0, none⟩) := by
 obtain ⟨m', h1, h2⟩ := h.ok _ hm.mem
 rcases h2 with ⟨hv, hn⟩ | ⟨b, cap', cur, hv, _, hh, hc1, hc2, hc3, hc4⟩
 ·injection hv with e1 e2 e3; subst e1 e2 e3 hn; exact ⟨by simpa using h1, by simp, by simp, .inl ⟨rfl, rfl, rfl⟩⟩
 ·injection hv with e1 e2 e3; subst e1 e2 e3; exact ⟨h1, hc1, hc2, .inr ⟨b, rfl⟩⟩
theorem WL.know {p : Prop} {l : List Oper} (hk : ∀ w, Hp F w₀ w L → p) (k : p → WL P n F w₀ ops Q l env L) : WL P n F w₀ ops Q l env L := fun a w h => k (hk w h.hp) a w h
theorem WC.know {p : Prop} {cc : Code} (hk : ∀ w, Hp F w₀ w L → p) (k : p → WC P n F w₀ Q cc env L) : WC P n F w₀ Q cc env L := fun a w h => k (hk w h.hp) a w h
theorem WX.know {p : Prop} {ex : Exit} (hk : ∀ w, Hp F w₀ w L → p) (k : p → WX n F w₀ Q ex env L) : WX n F w₀ Q ex env L := fun a w h => k (hk w h.hp) a w h
theorem WD.know {tl : Nat → Bool} {Ls : List Asrt} {fuel : Nat} {listed : Array Bool} {QD : Act → World → Prop} {p : Prop} (hk : ∀ w, Hp F w₀ w L → p) (k : p → WD P n F w₀ ops tl Ls QD fuel listed env L) : WD P n F w₀ ops tl Ls QD fuel listed env L := fun a w h => k (hk w h.hp) a w h
theorem ycq {ao bo : Option Addr} {m cap k capk : Nat} {cs news : List Value} {dty : TypeId} (ht : elT P t e sz by_) (hx : eo env x = some (.slice ao m cap)) (hy : eo env y = some (.slice bo k capk))
  (hm : Pick L (row (.slice ao m cap) e sz cs) R) (hl : news.length = k * sz) (hnews : ∀ w, Hp F w₀ w L → news ≠ [] → ∃ A, bo = some A ∧ ∀ j u, news[j]? = some u → w.cell? (A.add j) = some u) (h1 : ∀ u ∈ news, u.oneCell' = true)
  (h63 : m + k ≤ maxLen) (hby : (m + k) * by_ ≤ 140737488355328) :
  Ef P n F w₀ env L ⟨d, .call ⟨.builtin .append, #[x, y], #[t, t]⟩, dty, pos, after, g⟩ (fun _ : Option Addr × Nat => True) (fun p => .slice p.1 (m + k) p.2) (fun p => row (.slice p.1 (m + k) p.2) e sz (cs ++ news) :: R) := by
 intro a w h
 obtain ⟨inf, z, hi, hz, hsz, hb, hzs⟩ := ht.inf
 obtain ⟨m', hown⟩ := h.hp.ok _ hm.mem
 have hmm : m' = m := by
  have hs := h.hp.rowShape hm
  have := hown.1.symm.trans hs.1
  exact Nat.eq_of_mul_eq_mul_right ht.pos this
 subst hmm
 subst hsz
 subst hb
 have hshape := h.hp.rowShape hm
 by_cases hk0 : k = 0
 ·subst hk0
  have hn : news = [] := List.eq_nil_of_length_eq_zero (by simpa using hl)
  subst hn
  refine ⟨(ao, cap), w, ?_, trivial, ?_⟩
  ·have hle : m' ≤ cap := hshape.2.1
   cases bo <;> cases ao <;> simp [execOp, h.eval hx, h.eval hy, resolve, invoke, builtin, Builtin.append_, run_underlying ht.sl, Go.sizeOf, typeInfo, hi, Builtin.lenOf, Builtin.firstCells, hle, loadCells, loadCellsFrom, storeCells]
  ·simpa using h.hp.front hm
 ·have hne : news ≠ [] := by
   intro e; subst e
   have : 0 = k * inf.size := by simpa using hl
   have := Nat.mul_pos (Nat.pos_of_ne_zero hk0) ht.pos
   omega
  obtain ⟨A, rfl, hA⟩ := hnews w h.hp hne
  have h63' : ((m' + k : Nat) : Int) ≤ 9223372036854775807 := by simp only [maxLen] at h63; omega
  obtain ⟨v', w', hr, ho, hgb, _⟩ := run_append_own (P := P) w 0 t dty e inf z inf.size inf.bytes ht.sl hi hz rfl rfl hzs ht.pos _ m' cs hown A k capk news hl hA h1 h63 hby (Nat.zero_le _)
  have hnew : ∀ b, v'.ownBlock = some b → (Value.slice ao m' cap).ownBlock = some b ∨ w.heap.size ≤ b := by
   rcases hown.2 with ⟨hv, hn⟩ | ⟨b0, cap', cur, hv, _, hh, hc1, hc2, hc3, hc4⟩
   ·injection hv with e1 e2 e3
    subst e1 e3 hn
    have hq := run_append_nil (P := P) w t dty e inf z ht.sl hi hz A k capk news hl hA (by omega) (by omega) (by simp only [Nat.zero_add] at hby; omega)
    rw [hr] at hq
    injection hq with e1 _
    subst e1
    intro b hb; simp [Value.ownBlock] at hb; exact .inr (by omega)
   ·injection hv with e1 e2 e3
    subst e1 e3
    by_cases hroom : m' + k ≤ cap
    ·have hfit : m' * inf.size + news.length ≤ cur.size := by rw [hl, hc3, ← Nat.add_mul]; exact Nat.mul_le_mul_right _ hroom
     have hq := run_append_room (P := P) w t dty e inf ht.sl hi b0 m' cap cur hh A k capk news hl hA h1 hroom hfit
     rw [hr] at hq
     injection hq with e1 _
     subst e1
     intro b hb; exact .inl hb
    ·have holds : ∀ j u, cs[j]? = some u → w.cell? ((⟨b0, 0, none⟩ : Addr).add j) = some u := hown.cells (g := b0) rfl
     have hq := run_append_grow (P := P) w t dty e inf z ht.sl hi hz ⟨b0, 0, none⟩ m' cap cs hown.1 holds A k capk news hl hA (by omega) (by omega) (growslice_fits (by omega) hby)
     rw [hr] at hq
     injection hq with e1 _
     subst e1
     intro b hb; simp [Value.ownBlock] at hb; exact .inr (by omega)
  have hdr : w.drawn ≤ w'.drawn := by
   rcases hown.2 with ⟨hv, hn⟩ | ⟨b0, cap', cur, hv, _, hh, hc1, hc2, hc3, hc4⟩
   ·injection hv with e1 e2 e3
    subst e1 e3 hn
    have hq := run_append_nil (P := P) w t dty e inf z ht.sl hi hz A k capk news hl hA (by omega) (by omega) (by simp only [Nat.zero_add] at hby; omega)
    rw [hr] at hq
    injection hq with _ e1
    rw [e1]; first | exact Nat.le_refl _ | exact Nat.le_add_right _ _
   ·injection hv with e1 e2 e3
    subst e1 e3
    by_cases hroom : m' + k ≤ cap
    ·have hfit : m' * inf.size + news.length ≤ cur.size := by rw [hl, hc3, ← Nat.add_mul]; exact Nat.mul_le_mul_right _ hroom
     have hq := run_append_room (P := P) w t dty e inf ht.sl hi b0 m' cap cur hh A k capk news hl hA h1 hroom hfit
     rw [hr] at hq
     injection hq with _ e1
     rw [e1]; first | exact Nat.le_refl _ | exact Nat.le_add_right _ _
    ·have holds : ∀ j u, cs[j]? = some u → w.cell? ((⟨b0, 0, none⟩ : Addr).add j) = some u := hown.cells (g := b0) rfl
     have hq := run_append_grow (P := P) w t dty e inf z ht.sl hi hz ⟨b0, 0, none⟩ m' cap cs hown.1 holds A k capk news hl hA (by omega) (by omega) (growslice_fits (by omega) hby)
     rw [hr] at hq
     injection hq with _ e1
     rw [e1]; first | exact Nat.le_refl _ | exact Nat.le_add_right _ _
  obtain ⟨p, rfl⟩ : ∃ p : Option Addr × Nat, v' = .slice p.1 (m' + k) p.2 := by
   rcases ho.2 with ⟨hv, hn⟩ | ⟨b, cap', cur, hv, _⟩
   ·exact ⟨(none, 0), by rw [hv, hn]⟩
   ·exact ⟨(some ⟨b, 0, none⟩, cap'), by rw [hv]⟩
  refine ⟨p, w', ?_, trivial, ?_⟩
  ·simp [execOp, h.eval hx, h.eval hy, resolve, invoke, builtin, hr]
  ·refine (h.hp.front hm).upd (x := row (.slice ao m' cap) e inf.size cs) (y := row (.slice p.1 (m' + k) p.2) e inf.size (cs ++ news)) .here hgb.os ⟨hgb.tape, hdr⟩ hgb.output hgb.size ?_ ⟨_, ho⟩ ?_
   ·intro j hj hj'
    refine hgb.block j hj (fun hc => hj' ?_)
    simp [row, ← hc]
   ·intro b hb
    have hb' : (Value.slice p.1 (m' + k) p.2).ownBlock = some b := by simpa [row] using hb
    refine ⟨(ho.lt b hb').2, ?_⟩
    rcases hnew b hb' with h2 | h2
    ·exact .inl (by simp [row, h2])
    ·exact .inr h2
theorem Hp.nilRow {w : World} (h : Hp F w₀ w L) (e : TypeId) (sz : Nat) : Hp F w₀ w (row (.slice none 0 0) e sz [] :: L) :=
 h.add (x := row (.slice none 0 0) e sz []) ⟨0, World.ownsRow_nil w 0 e sz⟩ (by simp [row, Value.ownBlock]) (by simp [row, Value.ownBlock]) (by simp [row, Value.ownBlock])
theorem WL.nilRow {l : List Oper} (e : TypeId) (sz : Nat) (k : WL P n F w₀ ops Q l env (row (.slice none 0 0) e sz [] :: L)) : WL P n F w₀ ops Q l env L := fun a w h => k a w (h.world (h.hp.nilRow e sz))
theorem WC.nilRow {cc : Code} (e : TypeId) (sz : Nat) (k : WC P n F w₀ Q cc env (row (.slice none 0 0) e sz [] :: L)) : WC P n F w₀ Q cc env L := fun a w h => k a w (h.world (h.hp.nilRow e sz))
theorem yS {m : Nat} {parts : Array (Nat × Operand)} {pv : Array (Nat × Value)} {cs : List Value} (ht : elT P t e sz by_) (hp : ∀ a w, SS n F w₀ env L a w → (parts.map fun (i, x) => (i, a.eval x)) = pv)
  (hr : ∀ w, (Instr.buildSlice t m pv).run P w = .ok (.slice (some ⟨w.heap.size, 0, none⟩) m m) (w.alloc (.cells cs.toArray e))) (hl : cs.length = m * sz) (hm : m ≤ maxLen) :
  EfX P n F w₀ env L ⟨d, .buildSlice t m parts, ty, pos, after, g⟩ (fun _ : Nat => True) (fun b => .slice (some ⟨b, 0, none⟩) m m) (fun b => row (.slice (some ⟨b, 0, none⟩) m m) e sz cs :: L) := by
 intro a w h
 refine ⟨w.heap.size, w.alloc (.cells cs.toArray e), ?_, trivial, ?_, .alloc _ _⟩
 ·simp only [execOp, hp a w h]
  simp [hr w]
 ·refine (h.hp.ext (.alloc w _)).add ?_ (by simp [row, Value.ownBlock]) (by simp [row, Value.ownBlock, h.hp.size]) ?_
  ·exact ⟨m, hl, .inr ⟨w.heap.size, m, cs.toArray, rfl, Nat.zero_le _, heap_alloc_new w _, Nat.le_refl _, hm, by simpa using hl, by simp [← hl]⟩⟩
  ·intro y hy b hb hc
   simp [row, Value.ownBlock] at hb
   have := h.hp.lt y hy b hc
   omega
theorem yI {parts : Array (Nat × Operand)} {pv : Array (Nat × Value)} (hp : ∀ a w, SS n F w₀ env L a w → (parts.map fun (i, x) => (i, a.eval x)) = pv)
  (hr : ∀ w, (Instr.build t pv).run P w = .ok v w) : Qt P n F w₀ env L ⟨d, .build t parts, ty, pos, after, g⟩ v := by
 intro a w h
 simp only [execOp, hp a w h]
 simp [hr w]
theorem Hp.rowPut {w : World} {b m cap off : Nat} {cs vs : List Value} (h : Hp F w₀ w L) (h1 : ∀ u ∈ vs, u.oneCell' = true) (hm : Pick L (row (.slice (some ⟨b, 0, none⟩) m cap) e sz cs) R) (hfit : off + vs.length ≤ cs.length) :
  ∃ w', (storeCells ⟨b, off, none⟩ vs).run P w = .ok () w' ∧ Hp F w₀ w' (row (.slice (some ⟨b, 0, none⟩) m cap) e sz (y5b cs off vs) :: R) := by
 obtain ⟨m', hown⟩ := h.ok _ hm.mem
 rcases hown.2 with ⟨hv', _⟩ | ⟨b0, cap', cur, hv', hb0, hh, hc1, hc2, hc3, hc4⟩
 ·cases hv'
 injection hv' with e1 e2 e3
 injection e1 with e1
 injection e1 with e1
 subst e1 e2 e3
 have hlc : cs.length ≤ cur.size := by rw [← hc4, List.length_take]; simp; omega
 have hst := run_storeCells_at (P := P) b off e vs 0 cur w hh (by omega) h1
 simp only [Nat.add_zero] at hst
 refine ⟨w.setRow b (List.take off cur.toList ++ vs ++ List.drop (off + vs.length) cur.toList).toArray, hst, (h.front hm).upd (x := row (.slice (some ⟨b, 0, none⟩) m cap) e sz cs) (y := row (.slice (some ⟨b, 0, none⟩) m cap) e sz (y5b cs off vs)) .here rfl ⟨rfl, Nat.le_refl _⟩ rfl (by simp) (fun k _ hk' => setRow_other w b k _ (by simpa [row, Value.ownBlock] using hk')) ?_ ?_⟩
 ·refine ⟨m, ?_, .inr ⟨b, cap, _, rfl, hb0, setRow_heap w b _ _ _ _ hh, hc1, hc2, ?_, ?_⟩⟩
  ·rw [← hown.1]; simp [y5b]; omega
  ·simp; omega
  ·have hcl : cs.length = m * sz := hown.1
   have hcs : cs = cur.toList.take (m * sz) := hc4.symm
   rw [← hcl]
   apply List.ext_getElem?
   intro j
   simp only [y5b]
   rw [List.getElem?_take]
   by_cases hj : j < cs.length
   ·simp only [hj, if_true]
    have e1 : cur.toList.take off = cs.take off := by rw [hcs, List.take_take]; congr 1; omega
    rw [e1]
    have e2 : (List.take off cs ++ vs).length = off + vs.length := by simp; omega
    by_cases hj1 : j < off + vs.length
    ·rw [List.getElem?_append_left (l₁ := List.take off cs ++ vs) (by omega)]
     rw [List.getElem?_append_left (l₁ := List.take off cs ++ vs) (by omega)]
    ·have e3 : cs[j]? = cur.toList[j]? := by
      have : (List.take (m * sz) cur.toList)[j]? = cur.toList[j]? := by rw [List.getElem?_take, if_pos (by omega)]
      rw [← this, ← hcs]
     rw [List.getElem?_append_right (by omega), List.getElem?_append_right (by omega), e2, List.getElem?_drop, List.getElem?_drop,
      show off + vs.length + (j - (off + vs.length)) = j from by omega, e3]
   ·simp only [hj, if_false]
    rw [List.getElem?_eq_none]
    simp; omega
 ·intro b' hb'
  simp [row, Value.ownBlock] at hb'
  subst hb'
  exact ⟨by simpa using (Array.getElem?_eq_some_iff.1 hh).1, .inl (by simp [row, Value.ownBlock])⟩
theorem ydn {b m cap off s : Nat} {cs vs ds : List Value} (hT : y46 P t s) (hx : eo env x = some (.pointer (some ⟨b, off, none⟩))) (hy : eo env y = some v) (hv : v.cells = vs.toArray)
  (hs : vs.length = s) (h1 : ∀ u ∈ vs, u.oneCell' = true) (hm : Pick L (row (.slice (some ⟨b, 0, none⟩) m cap) e sz cs) R) (hfit : off + s ≤ cs.length) (hds : y5b cs off vs = ds) :
  Ef0 P n F w₀ env L ⟨none, .store t x y, ty, pos, after, g⟩ (row (.slice (some ⟨b, 0, none⟩) m cap) e sz ds :: R) := by
 intro a w h
 subst hds
 obtain ⟨w', hst, hp⟩ := h.hp.rowPut (P := P) (off := off) h1 hm (by omega)
 have h2 := congrFun hT w
 refine ⟨w', .inl ?_, hp⟩
 simp [execOp, h.eval hx, h.eval hy, Instr.storeAt, Instr.sureAddr, storeVar, h2, hv, hs, hst]
end
end Sep

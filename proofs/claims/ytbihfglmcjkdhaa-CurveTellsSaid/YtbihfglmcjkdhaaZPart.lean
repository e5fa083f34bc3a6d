/- A part of this claim's proof: models of functions, walks, plain laws. No conditions. -/
import Derived.Test.YtbihfglmcjkdhaaZMap
import Derived.Lib.AppendZeros
namespace Sep
open Go Go.RowKit
set_option linter.all false
variable [Rnd] {P : Program} {n : Nat} {F : List Nat} {w₀ : World} {env : List (Nat × Value)} {L Lc Lr R : List Asrt} {ops : Array Oper} {Q : Exit → Act → World → Prop} {rest l : List Oper}
 {dd : Nat} {d : Option Tmp} {ty : TypeId} {pos : String} {after : Array Edge} {g : Option (Nat × Bool)} {x y : Operand} {v u : Value} {t e T : TypeId} {sz by_ : Nat}
theorem aliasAdd {b sz : Nat} {o j : Int} (h0 : 0 ≤ o) (h1 : 0 ≤ j) : (⟨b, o.toNat * sz, none⟩ : Addr).add (j.toNat * sz) = ⟨b, (o + j).toNat * sz, none⟩ := by
 rw [Addr.add_lit, ← Nat.add_mul, Int.toNat_add h0 h1]
theorem q_sliceNil {lx hx' : Option Operand} {lv hv : Option Value} {lo hi : Int} (ht : elT P t e sz by_) (hx : eo env x = some (.slice none 0 0))
  (hl : ∀ a w, SS n F w₀ env L a w → lx.map a.eval = lv) (hh : ∀ a w, SS n F w₀ env L a w → hx'.map a.eval = hv)
  (hb : 0 ≤ lo ∧ lo ≤ hi ∧ hi ≤ 0) (hlv : match lv with | none => lo = 0 | some (.int _ q) => q = lo | _ => False) (hhv : match hv with | none => hi = 0 | some (.int _ q) => q = hi | _ => False) :
  Qt P n F w₀ env L ⟨d, .slice t x lx hx' none, ty, pos, after, g⟩ (.slice none 0 0) := by
 obtain ⟨h0, h1, h2⟩ := hb
 have e1 : lo = 0 := by omega
 have e2 : hi = 0 := by omega
 subst e1 e2
 have := q_slice (P := P) (n := n) (F := F) (w₀ := w₀) (env := env) (L := L) (d := d) (ty := ty) (pos := pos) (after := after) (g := g) (lo := 0) (hi := 0) ht hx (lv := lv) (hv := hv) hl hh
  (by revert hlv; split <;> simp_all) (by revert hhv; split <;> simp_all) (Nat.le_refl _) (Nat.le_refl _) (fun _ => Nat.le_refl _)
 simpa using this
theorem q_cap {ao : Option Addr} {m cap : Nat} (ht : P.underlying t = some (.slice e)) (hx : eo env x = some (.slice ao m cap)) : Qt P n F w₀ env L ⟨d, .call ⟨.builtin .cap, #[x], #[t]⟩, ty, pos, after, g⟩ (.int .i64 cap) := by
 intro a w h
 have ht' : P.underlying t = some (.slice (P.elem t)) := by simp [Program.elem, ht]
 simp [execOp, h.eval hx, resolve, invoke, builtin, Builtin.cap_, run_underlying ht', goInt]
theorem WL.rowLoX {α : Type} {ls : List α} {b : Nat} {cs : List Value} {cap : Nat} {i : Int} {lx : Operand} {kk : IntKind} (hg : gd env ops ⟨some dd, .slice t x (some lx) none none, ty, pos, after, g⟩ = some true) (hdn : Nat.blt dd n = true)
  (ht : elT P t e sz by_) (hx : eo env x = some (.slice (some ⟨b, 0, none⟩) ls.length cap)) (hh : eo env lx = some (.int kk i)) (hm : Pick L (row (.slice (some ⟨b, 0, none⟩) ls.length cap) e sz cs) R) (hi : 0 ≤ i ∧ i < ls.length)
  (k : WL P n F w₀ ops Q rest ((dd, .slice (some ⟨b, i.toNat * sz, none⟩) (ls.length - i.toNat) (cap - i.toNat)) :: env) L) :
  WL P n F w₀ ops Q (⟨some dd, .slice t x (some lx) none none, ty, pos, after, g⟩ :: rest) env L := by
 refine WL.know (fun w h => h.rowShape hm) fun hs => ?_
 obtain ⟨hcl, hmc, hcm, _⟩ := hs
 refine WL.quiet (n := n) hg rfl hdn (q_slice (lo := i.toNat) (hi := ls.length) ht hx (lv := some (.int kk i)) (hv := none) (fun a w h => by rw [Option.map_some, h.eval hh]) (fun _ _ _ => rfl) (show i = ((i.toNat : Nat) : Int) by omega) rfl (by omega) hmc (fun _ => hmc)) ?_
 rw [if_neg (by omega), Option.map_some, Addr.add_lit, Nat.zero_add]
 exact k
theorem rd_rowp {b len cap off k s : Nat} {cs r ds : List Value} (hm : Pick L (row (.slice (some ⟨b, 0, none⟩) len cap) e sz cs) R) (hv : ∀ j u, r[j]? = some u → cs[off + j]? = some u) (hd : (r.drop k).take s = ds) :
  ∀ w, Hp F w₀ w L → ∀ j u, ds[j]? = some u → w.cell? ((⟨b, off + k, none⟩ : Addr).add j) = some u := by
 subst hd
 refine rd_rows hm (fun j u hu => ?_)
 rw [List.getElem?_take] at hu
 split at hu
 ·rw [List.getElem?_drop] at hu
  have := hv _ u hu
  rwa [← Nat.add_assoc] at this
 ·cases hu
theorem e_appendNilZ {α : Type} {enc : α → List Value} {r : List Value} {z0 : α} {z : Value} {kn k : IntKind} {c : Int} {tn dty : TypeId} (ht : elT P t e sz by_) (hz : zeroT P e z) (hn : P.underlying tn = some (.int kn)) (hx : eo env x = some (.slice none 0 0)) (hy : eo env y = some (.int k c)) (hl : r.length = sz) (hzc : z.cells = r.toArray) (hr : r = enc z0)
  (hb : 0 < c ∧ c * by_ ≤ 140737488355328 ∧ c ≤ 4611686018427387904) :
  Ef P n F w₀ env L ⟨d, .call ⟨.builtin .append, #[x, y], #[t, tn]⟩, dty, pos, after, g⟩ (fun _ : Option Addr × Nat => True) (fun p => .slice p.1 (List.replicate c.toNat z0).length p.2) (fun p => row (.slice p.1 (List.replicate c.toNat z0).length p.2) e sz ((List.replicate c.toNat z0).flatMap enc) :: L) := by
 intro a w h
 obtain ⟨h0, h1, h2⟩ := hb
 obtain ⟨inf, z', hinf, hz', hsz, hby, hzs⟩ := ht.inf
 have hzz : z = z' := by
  have := congrFun hz w
  simp [zeroValue, typeInfo, hinf, hz'] at this
  exact this.symm
 subst hzz
 have hpos := ht.pos
 have hc : ((c.toNat : Nat) : Int) = c := Int.toNat_of_nonneg (by omega)
 have hby' : c.toNat * inf.bytes ≤ 281474976710656 := by
  have h3 : ((c.toNat * inf.bytes : Nat) : Int) ≤ 281474976710656 := by rw [Int.natCast_mul, hc, hby]; omega
  omega
 have hrun := Go.Lib.run_append_nil_zeros (P := P) w t tn dty e inf z k kn ht.sl hn hinf hz' c.toNat (by omega) (by omega) (by omega) hby'
 rw [hc] at hrun
 have hge := grownCap_ge w c.toNat 0 e
 have hcm := grownCap_le_maxLen w c.toNat 0 e (by unfold maxLen; omega)
 refine ⟨(some ⟨w.heap.size, 0, none⟩, grownCap w c.toNat 0 e), w.drew.alloc (.cells (Builtin.zeroCells z.cells c.toNat ++ Builtin.zeroCells z.cells (grownCap w c.toNat 0 e - c.toNat)) e), ?_, trivial, ?_⟩
 ·simp [execOp, resolve, invoke, builtin, h.eval hx, h.eval hy, hrun, List.length_replicate]
 ·have hp1 : Hp F w₀ w.drew L := h.hp.ext ⟨rfl, ⟨rfl, Nat.le_succ _⟩, rfl, Nat.le_refl _, fun _ _ => rfl⟩
  subst hr
  rw [← rep_flat]
  refine (hp1.ext (.alloc w.drew _)).add ?_ (by simp [row, Value.ownBlock]) (by simp [row, Value.ownBlock, h.hp.size]) ?_
  ·have hzl : (enc z0).length = inf.size := by rw [hl, hsz]
   refine ⟨c.toNat, by simp [hl], .inr ⟨w.heap.size, _, _, by simp, Nat.zero_le _, heap_alloc_new w.drew _, hge, hcm, ?_, ?_⟩⟩
   ·simp only [Array.size_append, size_zeroCells, hzs, ← Nat.add_mul]; congr 1; omega
   ·rw [Array.toList_append, zeroCells_rep (by omega) hzc]
    have h3 : (List.replicate c.toNat (enc z0)).flatten.length = c.toNat * sz := by simp [hl]
    rw [← h3]; exact List.take_left
  ·intro y hy b hb hc
   simp [row, Value.ownBlock] at hb
   have := h.hp.lt y hy b hc
   omega
end Sep

/- A part of this claim's proof: models of functions, walks, plain laws. No conditions. -/
import Derived.Test.YtcahmabkeaijdaaGreatZMapS
namespace Sep
open Go Go.RowKit
set_option linter.all false
section
variable [Rnd] {P : Program} {n : Nat} {F : List Nat} {w₀ : World} {env : List (Nat × Value)} {L R : List Asrt} {d : Option Tmp} {ty : TypeId} {pos : String} {after : Array Edge} {g : Option (Nat × Bool)} {x y : Operand} {t e : TypeId} {sz by_ : Nat}
theorem ycY {ao bo : Option Addr} {m cap k capk : Nat} {cs news : List Value} {dty : TypeId} {a : Act} {w : World} (h : SS n F w₀ env L a w) (ht : elT P t e sz by_) (hx : eo env x = some (.slice ao m cap)) (hy : eo env y = some (.slice bo k capk))
  (hm : Pick L (row (.slice ao m cap) e sz cs) R) (hl : news.length = k * sz) (hnews : news ≠ [] → ∃ A, bo = some A ∧ ∀ j u, news[j]? = some u → w.cell? (A.add j) = some u) (h1 : ∀ u ∈ news, u.oneCell' = true)
  (h63 : m + k ≤ maxLen) (hby : (m + k) * by_ ≤ 140737488355328) :
  ∃ (p : Option Addr × Nat) (w' : World), (execOp a.eval ⟨d, .call ⟨.builtin .append, #[x, y], #[t, t]⟩, dty, pos, after, g⟩).run P w = .ok (.value (.slice p.1 (m + k) p.2)) w' ∧ True ∧ Hp F w₀ w' (row (.slice p.1 (m + k) p.2) e sz (cs ++ news) :: R) := by
 obtain ⟨inf, z, hi, hz, hsz, hb, hzs⟩ := ht.inf
 obtain ⟨m', hown⟩ := h.hp.ok _ hm.mem
 have hmm : m' = m := by
  have hs := h.hp.rowShape hm
  have := hown.1.symm.trans hs.1
  exact Nat.eq_of_mul_eq_mul_right ht.pos this
 subst hmm
 subst hsz
 subst hb
 have hshape := h.hp.rowShape hm
 by_cases hk0 : k = 0
 ·subst hk0
  have hn : news = [] := List.eq_nil_of_length_eq_zero (by simpa using hl)
  subst hn
  refine ⟨(ao, cap), w, ?_, trivial, ?_⟩
  ·have hle : m' ≤ cap := hshape.2.1
   cases bo <;> cases ao <;> simp [execOp, h.eval hx, h.eval hy, resolve, invoke, builtin, Builtin.append_, run_underlying ht.sl, Go.sizeOf, typeInfo, hi, Builtin.lenOf, Builtin.firstCells, hle, loadCells, loadCellsFrom, storeCells]
  ·simpa using h.hp.front hm
 ·have hne : news ≠ [] := by
   intro e; subst e
   have : 0 = k * inf.size := by simpa using hl
   have := Nat.mul_pos (Nat.pos_of_ne_zero hk0) ht.pos
   omega
  obtain ⟨A, rfl, hA⟩ := hnews hne
  have h63' : ((m' + k : Nat) : Int) ≤ 9223372036854775807 := by simp only [maxLen] at h63; omega
  obtain ⟨v', w', hr, ho, hgb, _⟩ := run_append_own (P := P) w 0 t dty e inf z inf.size inf.bytes ht.sl hi hz rfl rfl hzs ht.pos _ m' cs hown A k capk news hl hA h1 h63 hby (Nat.zero_le _)
  have hnew : ∀ b, v'.ownBlock = some b → (Value.slice ao m' cap).ownBlock = some b ∨ w.heap.size ≤ b := by
   rcases hown.2 with ⟨hv, hn⟩ | ⟨b0, cap', cur, hv, _, hh, hc1, hc2, hc3, hc4⟩
   ·injection hv with e1 e2 e3
    subst e1 e3 hn
    have hq := run_append_nil (P := P) w t dty e inf z ht.sl hi hz A k capk news hl hA (by omega) (by omega) (by simp only [Nat.zero_add] at hby; omega)
    rw [hr] at hq
    injection hq with e1 _
    subst e1
    intro b hb; simp [Value.ownBlock] at hb; exact .inr (by omega)
   ·injection hv with e1 e2 e3
    subst e1 e3
    by_cases hroom : m' + k ≤ cap
    ·have hfit : m' * inf.size + news.length ≤ cur.size := by rw [hl, hc3, ← Nat.add_mul]; exact Nat.mul_le_mul_right _ hroom
     have hq := run_append_room (P := P) w t dty e inf ht.sl hi b0 m' cap cur hh A k capk news hl hA h1 hroom hfit
     rw [hr] at hq
     injection hq with e1 _
     subst e1
     intro b hb; exact .inl hb
    ·have holds : ∀ j u, cs[j]? = some u → w.cell? ((⟨b0, 0, none⟩ : Addr).add j) = some u := hown.cells (g := b0) rfl
     have hq := run_append_grow (P := P) w t dty e inf z ht.sl hi hz ⟨b0, 0, none⟩ m' cap cs hown.1 holds A k capk news hl hA (by omega) (by omega) (growslice_fits (by omega) hby)
     rw [hr] at hq
     injection hq with e1 _
     subst e1
     intro b hb; simp [Value.ownBlock] at hb; exact .inr (by omega)
  have hdr : w.drawn ≤ w'.drawn := by
   rcases hown.2 with ⟨hv, hn⟩ | ⟨b0, cap', cur, hv, _, hh, hc1, hc2, hc3, hc4⟩
   ·injection hv with e1 e2 e3
    subst e1 e3 hn
    have hq := run_append_nil (P := P) w t dty e inf z ht.sl hi hz A k capk news hl hA (by omega) (by omega) (by simp only [Nat.zero_add] at hby; omega)
    rw [hr] at hq
    injection hq with _ e1
    rw [e1]; first | exact Nat.le_refl _ | exact Nat.le_add_right _ _
   ·injection hv with e1 e2 e3
    subst e1 e3
    by_cases hroom : m' + k ≤ cap
    ·have hfit : m' * inf.size + news.length ≤ cur.size := by rw [hl, hc3, ← Nat.add_mul]; exact Nat.mul_le_mul_right _ hroom
     have hq := run_append_room (P := P) w t dty e inf ht.sl hi b0 m' cap cur hh A k capk news hl hA h1 hroom hfit
     rw [hr] at hq
     injection hq with _ e1
     rw [e1]; first | exact Nat.le_refl _ | exact Nat.le_add_right _ _
    ·have holds : ∀ j u, cs[j]? = some u → w.cell? ((⟨b0, 0, none⟩ : Addr).add j) = some u := hown.cells (g := b0) rfl
     have hq := run_append_grow (P := P) w t dty e inf z ht.sl hi hz ⟨b0, 0, none⟩ m' cap cs hown.1 holds A k capk news hl hA (by omega) (by omega) (growslice_fits (by omega) hby)
     rw [hr] at hq
     injection hq with _ e1
     rw [e1]; first | exact Nat.le_refl _ | exact Nat.le_add_right _ _
  obtain ⟨p, rfl⟩ : ∃ p : Option Addr × Nat, v' = .slice p.1 (m' + k) p.2 := by
   rcases ho.2 with ⟨hv, hn⟩ | ⟨b, cap', cur, hv, _⟩
   ·exact ⟨(none, 0), by rw [hv, hn]⟩
   ·exact ⟨(some ⟨b, 0, none⟩, cap'), by rw [hv]⟩
  refine ⟨p, w', ?_, trivial, ?_⟩
  ·simp [execOp, h.eval hx, h.eval hy, resolve, invoke, builtin, hr]
  ·refine (h.hp.front hm).upd (x := row (.slice ao m' cap) e inf.size cs) (y := row (.slice p.1 (m' + k) p.2) e inf.size (cs ++ news)) .here hgb.os ⟨hgb.tape, hdr⟩ hgb.output hgb.size ?_ ⟨_, ho⟩ ?_
   ·intro j hj hj'
    refine hgb.block j hj (fun hc => hj' ?_)
    simp [row, ← hc]
   ·intro b hb
    have hb' : (Value.slice p.1 (m' + k) p.2).ownBlock = some b := by simpa [row] using hb
    refine ⟨(ho.lt b hb').2, ?_⟩
    rcases hnew b hb' with h2 | h2
    ·exact .inl (by simp [row, h2])
    ·exact .inr h2
theorem Hp.rowShort {b m cap i : Nat} {cs : List Value} {w : World} (hm : Pick L (row (.slice (some ⟨b, 0, none⟩) m cap) e sz cs) R) (hi : i ≤ m) (h : Hp F w₀ w L) : Hp F w₀ w (row (.slice (some ⟨b, 0, none⟩) i cap) e sz (cs.take (i * sz)) :: R) := by
 have hcl := (h.rowShape hm).1
 refine (h.front hm).upd (x := row (.slice (some ⟨b, 0, none⟩) m cap) e sz cs) (y := row (.slice (some ⟨b, 0, none⟩) i cap) e sz (cs.take (i * sz))) .here rfl ⟨rfl, Nat.le_refl _⟩ rfl (Nat.le_refl _) (fun _ _ _ => rfl) ?_ ?_
 ·obtain ⟨m', hown⟩ := h.ok _ hm.mem
  rcases hown.2 with ⟨hv', _⟩ | ⟨b0, cap', cur, hv', hb0, hh', hc1, hc2, hc3, hc4⟩
  ·cases hv'
  injection hv' with e1 e2 e3
  injection e1 with e1
  injection e1 with e1
  subst e1 e2 e3
  have hmi : i * sz ≤ m * sz := Nat.mul_le_mul_right _ hi
  refine ⟨i, by simp; omega, .inr ⟨b, cap, cur, rfl, hb0, hh', by omega, hc2, hc3, ?_⟩⟩
  rw [← hc4, List.take_take]; congr 1; omega
 ·intro b' hb'
  simp [row, Value.ownBlock] at hb'
  subst hb'
  have := h.lt _ hm.mem b' (by simp [row, Value.ownBlock])
  exact ⟨this, .inl (by simp [row, Value.ownBlock])⟩
theorem ycA {b m cap i j capk : Nat} {bo : Option Addr} {cs : List Value} {dty : TypeId} (ht : elT P t e sz by_) (hx : eo env x = some (.slice (some ⟨b, 0, none⟩) i cap)) (hy : eo env y = some (.slice bo (m - j) capk))
  (hbo : m - j ≠ 0 → bo = some (Addr.add ⟨b, 0, none⟩ (j * sz))) (hm : Pick L (row (.slice (some ⟨b, 0, none⟩) m cap) e sz cs) R) (hij : i ≤ j) (hjm : j ≤ m) (h1 : ∀ u ∈ cs, u.oneCell' = true) (hby : m * by_ ≤ 140737488355328) :
  Ef P n F w₀ env L ⟨d, .call ⟨.builtin .append, #[x, y], #[t, t]⟩, dty, pos, after, g⟩ (fun _ : Option Addr × Nat => True) (fun p => .slice p.1 (i + (m - j)) p.2) (fun p => row (.slice p.1 (i + (m - j)) p.2) e sz (cs.take (i * sz) ++ cs.drop (j * sz)) :: R) := by
 intro a w h
 obtain ⟨hcl, hmc, hcm, _⟩ := h.hp.rowShape hm
 have hs := h.world (h.hp.rowShort hm (show i ≤ m by omega))
 have hlen : (cs.drop (j * sz)).length = (m - j) * sz := by rw [List.length_drop, hcl, ← Nat.sub_mul]
 refine ycY hs ht hx hy .here hlen (fun hne => ?_) (fun u hu => h1 u (List.mem_of_mem_drop hu)) (by omega) (Nat.le_trans (Nat.mul_le_mul_right _ (by omega)) hby)
 have hk : m - j ≠ 0 := by
  intro hz; rw [hz, Nat.zero_mul] at hlen; exact hne (List.eq_nil_of_length_eq_zero hlen)
 refine ⟨_, hbo hk, fun q u hu => ?_⟩
 obtain ⟨m', hown⟩ := h.hp.ok _ hm.mem
 rw [Addr.y65]
 rw [List.getElem?_drop] at hu
 exact hown.cells (g := b) rfl _ _ hu
theorem Hp.rowLong {b len m cap : Nat} {cs : List Value} {w : World} (h1 : len ≤ m) (h2 : m ≤ cap) (h : Hp F w₀ w (row (.slice (some ⟨b, 0, none⟩) len cap) e sz cs :: R)) :
  ∃ tl : List Value, Hp F w₀ w (row (.slice (some ⟨b, 0, none⟩) m cap) e sz (cs ++ tl) :: R) := by
 have hm : Pick (row (.slice (some ⟨b, 0, none⟩) len cap) e sz cs :: R) (row (.slice (some ⟨b, 0, none⟩) len cap) e sz cs) R := .here
 have hcl := (h.rowShape hm).1
 obtain ⟨m', hown⟩ := h.ok _ hm.mem
 rcases hown.2 with ⟨hv', _⟩ | ⟨b0, cap', cur, hv', hb0, hh', hc1, hc2, hc3, hc4⟩
 ·cases hv'
 injection hv' with e1 e2 e3
 injection e1 with e1
 injection e1 with e1
 subst e1 e2 e3
 have h3 : len * sz ≤ m * sz := Nat.mul_le_mul_right _ h1
 have h4 : m * sz ≤ cap * sz := Nat.mul_le_mul_right _ h2
 have key : cs ++ (cur.toList.drop (len * sz)).take (m * sz - len * sz) = cur.toList.take (m * sz) := by
  rw [← hc4, ← List.take_add]; congr 1; omega
 refine ⟨(cur.toList.drop (len * sz)).take (m * sz - len * sz), ?_⟩
 refine (h.front hm).upd (x := row (.slice (some ⟨b, 0, none⟩) len cap) e sz cs) (y := row (.slice (some ⟨b, 0, none⟩) m cap) e sz _) .here rfl ⟨rfl, Nat.le_refl _⟩ rfl (Nat.le_refl _) (fun _ _ _ => rfl) ?_ ?_
 ·refine ⟨m, ?_, .inr ⟨b, cap, cur, rfl, hb0, hh', h2, hc2, hc3, key.symm⟩⟩
  rw [key, List.length_take, Array.length_toList, hc3]; omega
 ·intro b' hb'
  simp [row, Value.ownBlock] at hb'
  subst hb'
  have := h.lt _ hm.mem b' (by simp [row, Value.ownBlock])
  exact ⟨this, .inl (by simp [row, Value.ownBlock])⟩
theorem ydy {b m cap i j capk : Nat} {bo : Option Addr} {cs : List Value} {dty : TypeId} (ht : elT P t e sz by_) (hx : eo env x = some (.slice (some ⟨b, 0, none⟩) i cap)) (hy : eo env y = some (.slice bo (m - j) capk))
  (hbo : m - j ≠ 0 → bo = some (Addr.add ⟨b, 0, none⟩ (j * sz))) (hm : Pick L (row (.slice (some ⟨b, 0, none⟩) m cap) e sz cs) R) (hij : i ≤ j) (hjm : j ≤ m) (h1 : ∀ u ∈ cs, u.oneCell' = true) (hby : m * by_ ≤ 140737488355328) :
  Ef P n F w₀ env L ⟨d, .call ⟨.builtin .append, #[x, y], #[t, t]⟩, dty, pos, after, g⟩ (fun _ : List Value => True) (fun _ => .slice (some ⟨b, 0, none⟩) (i + (m - j)) cap)
   (fun tl => row (.slice (some ⟨b, 0, none⟩) m cap) e sz (cs.take (i * sz) ++ cs.drop (j * sz) ++ tl) :: R) := by
 intro a w h
 obtain ⟨hcl, hmc, hcm, _⟩ := h.hp.rowShape hm
 obtain ⟨p, w', hr, _, hp⟩ := ycA (d := d) (dty := dty) (pos := pos) (after := after) (g := g) ht hx hy hbo hm hij hjm h1 hby a w h
 have hlen : (cs.drop (j * sz)).length = (m - j) * sz := by rw [List.length_drop, hcl, ← Nat.sub_mul]
 obtain ⟨m', hown⟩ := h.hp.ok _ hm.mem
 have hcells := hown.cells (g := b) rfl
 obtain ⟨inf, z, hi', hz, hsz, hb, hzs⟩ := ht.inf
 have hrun : ∃ w'', (execOp a.eval ⟨d, .call ⟨.builtin .append, #[x, y], #[t, t]⟩, dty, pos, after, g⟩).run P w = .ok (.value (.slice (some ⟨b, 0, none⟩) (i + (m - j)) cap)) w'' := by
  by_cases hk : m - j = 0
  ·rw [hk] at hy ⊢
   have hle : i ≤ cap := by omega
   refine ⟨w, ?_⟩
   cases bo <;> simp [execOp, h.eval hx, h.eval hy, resolve, invoke, builtin, Builtin.append_, run_underlying ht.sl, Go.sizeOf, typeInfo, hi', Builtin.lenOf, Builtin.firstCells, hle, loadCells, loadCellsFrom, storeCells]
  ·rcases hown.2 with ⟨hv', _⟩ | ⟨b0, cap', cur, hv', hb0, hh', hc1, hc2, hc3, hc4⟩
   ·cases hv'
   injection hv' with e1 e2 e3
   injection e1 with e1
   injection e1 with e1
   subst e1 e2 e3
   have hbo' := hbo hk
   subst hbo'
   subst hsz
   have hfit : i * inf.size + (cs.drop (j * inf.size)).length ≤ cur.size := by rw [hlen, hc3, ← Nat.add_mul]; exact Nat.mul_le_mul_right _ (by omega)
   have hq := run_append_room (P := P) w t dty e inf ht.sl hi' b i cap cur hh' (Addr.add ⟨b, 0, none⟩ (j * inf.size)) (m - j) capk (cs.drop (j * inf.size)) hlen (fun q u hu => by
    rw [Addr.y65]
    rw [List.getElem?_drop] at hu
    exact hcells _ _ hu) (fun u hu => h1 u (List.mem_of_mem_drop hu)) (by omega) hfit
   obtain ⟨w2, hq2⟩ : ∃ w2, (Builtin.append_ #[t, t] dty #[.slice (some ⟨b, 0, none⟩) i cap, .slice (some (Addr.add ⟨b, 0, none⟩ (j * inf.size))) (m - j) capk]).run P w = .ok (.slice (some ⟨b, 0, none⟩) (i + (m - j)) cap) w2 := ⟨_, hq⟩
   exact ⟨w2, by simp [execOp, h.eval hx, h.eval hy, resolve, invoke, builtin, hq2]⟩
 obtain ⟨w'', hr2⟩ := hrun
 rw [hr] at hr2
 injection hr2 with e1 e2
 injection e1 with e1
 injection e1 with e3 _ e4
 dsimp only at hp hr
 rw [e3, e4] at hp hr
 obtain ⟨tl, htl⟩ := hp.rowLong (m := m) (by omega) hmc
 exact ⟨tl, w', hr, trivial, htl⟩
theorem q_slice3 {ao : Option Addr} {m cap : Nat} {k1 k2 k3 : IntKind} {lo hi mx : Int} {lx hx' mx' : Operand} (ht : elT P t e sz by_) (hx : eo env x = some (.slice ao m cap)) (hl : eo env lx = some (.int k1 lo)) (hh : eo env hx' = some (.int k2 hi)) (hm : eo env mx' = some (.int k3 mx))
  (h0 : 0 ≤ lo) (h1 : lo ≤ hi) (h2 : hi ≤ mx) (h3 : mx ≤ (cap : Int)) :
  Qt P n F w₀ env L ⟨d, .slice t x (some lx) (some hx') (some mx'), ty, pos, after, g⟩ (.slice (if mx.toNat = lo.toNat then ao else ao.map (·.add (lo.toNat * sz))) (hi.toNat - lo.toNat) (mx.toNat - lo.toNat)) := by
 intro a w h
 obtain ⟨inf, z, hi', hz, hsz, hb, hzs⟩ := ht.inf
 have q1 : hi ≤ ((mx.toNat : Nat) : Int) := by omega
 have q2 : lo ≤ ((hi.toNat : Nat) : Int) := by omega
 have q3 : 0 ≤ hi := by omega
 have q4 : 0 ≤ mx := by omega
 simp [execOp, h.eval hx, h.eval hl, h.eval hh, h.eval hm, Instr.sliceAt, Instr.slice, Instr.sliceBounds, Instr.sliceBound, run_underlying ht.sl, Go.sizeOf, typeInfo, hi', hsz, asIntOf, h0, h3, q1, q2, q3, q4]
 rw [if_pos (by omega), if_pos (by omega)]
end
end Sep

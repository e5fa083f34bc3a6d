/- A part of this claim's proof: models of functions, walks, plain laws. No conditions. -/
import Derived.Test.YtcahmabkeaijdaaGreatZObj
namespace Sep
open Go Go.RowKit
set_option linter.all false
/-! ### 'm[k] op= v': the entry is made sure of, and stored to by its stamp -/
section ent
variable {κ α : Type} [DecidableEq κ]
def mapE (b : Nat) (ek : κ → Value) (ev : α → Value) (l : List (κ × α)) (k : κ) (s : Nat) : Asrt where
 fp := [b]
 ok w := ∃ es clock i e, w.heap[b]? = some (.map es clock) ∧ es.toList.map (fun e => (e.key, e.val)) = l.map (fun p => (ek p.1, ev p.2)) ∧ y5G es clock ∧
  ((l.map (·.1)).findIdx? fun k' => decide (k = k')) = some i ∧ es[i]? = some e ∧ e.born = s
 loc w w' h hl hk := by
  obtain ⟨es, clock, i, e, h1, h2⟩ := hk
  exact ⟨es, clock, i, e, by rw [h b (by simp) (hl b (by simp))]; exact h1, h2⟩
variable [Rnd]
variable {P : Program} {n : Nat} {F : List Nat} {w₀ : World} {env : List (Nat × Value)} {L R : List Asrt} {d : Option Tmp} {ty : TypeId} {pos : String} {after : Array Edge} {g : Option (Nat × Bool)} {x y z : Operand} {t kt e : TypeId}
 {ek : κ → Value} {ev : α → Value} {l : List (κ × α)} {b : Nat} {k : κ} {v dflt : α} {zv : Value}
theorem Hp.setMapG {w : World} {X Y : Asrt} {o : Obj} (h : Hp F w₀ w L) (hm : Pick L X R) (hX : X.fp = [b]) (hY : Y.fp = [b]) (hok : ∀ w', w'.heap[b]? = some o → Y.ok w') :
  Hp F w₀ { w with heap := w.heap.setIfInBounds b o } (Y :: R) := by
 have hlt : b < w.heap.size := (h.front hm).lt _ (List.mem_cons_self ..) b (by simp [hX])
 refine (h.front hm).upd (x := X) (y := Y) .here rfl ⟨rfl, Nat.le_refl _⟩ rfl (by simp) (fun k _ hk' => ?_) (hok _ (by simp [hlt])) ?_
 ·have : b ≠ k := fun e => hk' (by simp [hX, e])
  simp [Array.getElem?_setIfInBounds, this]
 ·intro b' hb'
  rw [hY] at hb'
  simp only [List.mem_singleton] at hb'
  subst hb'
  exact ⟨by simpa using hlt, .inl (by simp [hX])⟩
theorem yc5 {γ : Type} {k : κ} {u v : γ} : ∀ {l : List (κ × γ)}, yG (yG l k u) k v = yG l k v
 | [] => by simp [yG]
 | p :: l => by
  by_cases hk : k = p.1
  ·subst hk; simp [yG]
  ·simp only [yG, hk, if_false]; rw [yc5]
theorem yaY {k : κ} : ∀ {l : List κ}, (l.findIdx? fun k' => decide (k = k')) = none → ((l ++ [k]).findIdx? fun k' => decide (k = k')) = some l.length
 | [], _ => by simp
 | a :: l, h => by
  rw [List.findIdx?_cons] at h
  rw [List.cons_append, List.findIdx?_cons]
  by_cases hk : k = a
  ·subst hk; simp at h
  ·simp only [hk, decide_false, Bool.false_eq_true, if_false, Option.map_eq_none_iff] at h ⊢
   rw [yaY h]; rfl
theorem ydu (K : KeyT P kt ek) (ht : P.underlying t = some (.map kt e)) (hz : y2n P e zv) (hd : zv = ev dflt) (hx : eo env x = some (.map (some b))) (hy : eo env y = some (ek k)) (hm : Pick L (yr b ek ev l) R) :
  Ef P n F w₀ env L ⟨d, .mapEntry t x y, ty, pos, after, g⟩ (fun _ : Nat => True) (fun s => .tuple #[ev (yp l k dflt), .int .i64 ((s : Nat) : Int)]) (fun s => mapE b ek ev (yG l k (yp l k dflt)) k s :: R) := by
 intro a w h
 obtain ⟨es, clock, hb, he, hst⟩ := h.hp.ok _ hm.mem
 have h1 := K.find k es.toList (l.map (·.1)) w (y9b he)
 have h2 := y8S (ek := ek) (ev := ev) (k := k) (d := dflt) l es.toList he
 have h3 := yak (k := k) l
 have hzw := congrFun hz w
 cases hf : (l.map (·.1)).findIdx? (fun k' => decide (k = k')) with
 | none =>
  rw [hf] at h1 h2 h3
  simp only [Option.map_none] at h1 h2
  refine ⟨clock, { w with heap := w.heap.setIfInBounds b (.map (es.push { key := ek k, val := ev dflt, born := clock }) (clock + 1)) }, ?_, trivial, ?_⟩
  ·simp [execOp, h.eval hx, h.eval hy, Instr.mapEntry, Sem.run_bind, run_underlying ht, Result.andThen, MapKept.run_getObj_map hb, K.chk, h1, hzw, hd, MapKept.run_setObj_map _ hb, goInt, ← h2]
  ·refine h.hp.setMapG (X := yr b ek ev l) hm rfl rfl (fun w' hw' => ⟨_, _, l.length, { key := ek k, val := ev dflt, born := clock }, hw', ?_, hst.push _ _, ?_, ?_, rfl⟩)
   ·rw [y7N l hf]
    have : ev (yp l k dflt) = ev dflt := h2.symm
    simp [he, this]
   ·rw [y7N l hf, List.map_append]
    simpa using yaY hf
   ·have hl : es.size = l.length := by have := congrArg List.length he; simpa using this
    rw [← hl]; simp
 | some i =>
  rw [hf] at h1 h2 h3
  obtain ⟨i1, i2, i3⟩ := y7M (v := yp l k dflt) l es.toList i he hf
  have i1' : i < es.size := by simpa using i1
  have e0 : es[i]? = some es[i] := Array.getElem?_eq_getElem i1'
  have hk0 : es[i].key = ek k := by
   rw [Array.getElem?_toList, e0] at i2; simpa using i2
  have hv0 : es[i].val = ev (yp l k dflt) := by
   simp only [Option.map_some] at h2
   rw [Array.getElem?_toList, e0] at h2; simpa using h2
  refine ⟨es[i].born, { w with heap := w.heap.setIfInBounds b (.map (es.modify i fun e => { e with key := ek k }) clock) }, ?_, trivial, ?_⟩
  ·simp [execOp, h.eval hx, h.eval hy, Instr.mapEntry, Sem.run_bind, run_underlying ht, Result.andThen, MapKept.run_getObj_map hb, K.chk, h1, e0, hk0, K.stays, MapKept.run_setObj_map _ hb, goInt, hv0]
  ·have hmod : (es.modify i fun e => { e with key := ek k }) = es := by
    apply Array.ext_getElem?
    intro j
    rw [Array.getElem?_modify]
    by_cases hij : i = j
    ·subst hij; rw [e0]; simp [← hk0]
    ·simp [hij]
   have hs : yG l k (yp l k dflt) = l := yaq (d := dflt) (by rw [← h3]; rfl) rfl
   rw [hmod, hs]
   exact h.hp.setMapG (X := yr b ek ev l) hm rfl rfl (fun w' hw' => ⟨es, clock, i, es[i], hw', he, hst, hf, e0, rfl⟩)
theorem ydY {es : Array MapEntry} {i : Nat} {e0 : MapEntry} (hn : (es.toList.map (·.born)).Nodup) (h : es[i]? = some e0) : es.findIdx? (fun e => ((e.born : Nat) : Int) == ((e0.born : Nat) : Int)) = some i := by
 rw [Array.findIdx?_eq_some_iff_getElem]
 obtain ⟨hi, h1⟩ := Array.getElem?_eq_some_iff.1 h
 refine ⟨hi, by simp [h1], ?_⟩
 intro j hj
 simp only [beq_iff_eq]
 intro hc
 have hji : j < es.size := by omega
 have hc' : es[j].born = e0.born := Int.ofNat.inj hc
 have h2 := (List.pairwise_iff_getElem.1 hn) j i (by simpa using hji) (by simpa using hi) hj
 apply h2
 simp [hc', h1]
theorem ycz {vv : Value} {s : Nat} (hx : eo env x = some (.map (some b))) (hy : eo env y = some (.int .i64 ((s : Nat) : Int))) (hv : eo env z = some vv) (hvv : vv = ev v) (hm : Pick L (mapE b ek ev l k s) R) :
  Ef0 P n F w₀ env L ⟨none, .entryStore t x y z, ty, pos, after, g⟩ (yr b ek ev (yG l k v) :: R) := by
 intro a w h
 subst hvv
 obtain ⟨es, clock, i, e0, hb, he, hst, hf, hi, rfl⟩ := h.hp.ok _ hm.mem
 have hfi := ydY hst.2 hi
 obtain ⟨i1, i2, i3⟩ := y7M (v := v) l es.toList i he hf
 have hk0 : e0.key = ek k := by rw [Array.getElem?_toList, hi] at i2; simpa using i2
 refine ⟨{ w with heap := w.heap.setIfInBounds b (.map (es.modify i fun e => { e with val := ev v }) clock) }, .inl ?_, ?_⟩
 ·simp [execOp, h.eval hx, h.eval hy, h.eval hv, Instr.entryStore, Sem.run_bind, Result.andThen, MapKept.run_getObj_map hb, asInt, asIntOf, hfi, MapKept.run_setObj_map _ hb]
 ·refine h.hp.setMapG (X := mapE b ek ev l k e0.born) hm rfl rfl (fun w' hw' => ⟨_, _, hw', ?_, hst.modify _ _ (fun _ => rfl)⟩)
  rw [← i3, Array.toList_modify]
  apply List.ext_getElem?
  intro j
  simp only [List.getElem?_map, List.getElem?_modify]
  by_cases hij : i = j
  ·subst hij
   rw [Array.getElem?_toList, hi]
   simp [hk0]
  ·simp [hij]
theorem yci {vv : Value} {s : Nat} {u : α} (hx : eo env x = some (.map (some b))) (hy : eo env y = some (.int .i64 ((s : Nat) : Int))) (hv : eo env z = some vv) (hvv : vv = ev v) (hm : Pick L (mapE b ek ev (yG l k u) k s) R) :
  Ef0 P n F w₀ env L ⟨none, .entryStore t x y z, ty, pos, after, g⟩ (yr b ek ev (yG l k v) :: R) := by
 have := ycz (P := P) (n := n) (F := F) (w₀ := w₀) (L := L) (env := env) (t := t) (ty := ty) (pos := pos) (after := after) (g := g) (v := v) hx hy hv hvv hm
 rwa [yc5] at this
def ybn (b : Nat) (ek : κ → Value) (ev : α → Value) (k : κ) (d v : α) : Asrt where
 fp := [b]
 ok w := ∃ l, (yr b ek ev l).ok w ∧ yp l k d = v
 loc w w' h hl hk := by
  obtain ⟨l, h1, h2⟩ := hk
  exact ⟨l, (yr b ek ev l).loc w w' h hl h1, h2⟩
theorem y69 {w : World} {d : α} (h : (yr b ek ev l).ok w) : (ybn b ek ev k d (yp l k d)).ok w := ⟨l, h, rfl⟩
theorem yc6 {γ : Type} {k : κ} {u d : γ} : ∀ {l : List (κ × γ)}, yp (yG l k u) k d = u
 | [] => by simp [yG, yp]
 | p :: l => by
  by_cases hk : k = p.1
  ·subst hk; simp [yG, yp]
  ·simp only [yG, hk, if_false, yp]; exact yc6
theorem ydZ {w : World} {d : α} {s : Nat} (h : (mapE b ek ev (yG l k (yp l k d)) k s).ok w) : (ybn b ek ev k d (yp l k d)).ok w := by
 obtain ⟨es, clock, i, e, h1, h2, h3, _⟩ := h
 exact ⟨_, ⟨es, clock, h1, h2, h3⟩, yc6⟩
theorem yc7 {u : α} (K : KeyT P kt ek) (ht : P.underlying t = some (.map kt e)) (hz : y2n P e zv) (hd : zv = ev dflt) (hx : eo env x = some (.map (some b))) (hy : eo env y = some (ek k)) (hm : Pick L (ybn b ek ev k dflt u) R) :
  Qt P n F w₀ env L ⟨d, .lookup t x y false, ty, pos, after, g⟩ (ev u) := by
 intro a w h
 obtain ⟨l, h1, h2⟩ := h.hp.ok _ hm.mem
 have hp' := h.hp.front hm
 have h3 : Hp F w₀ w (yr b ek ev l :: R) := by
  refine ⟨hp'.os, hp'.tape, hp'.output, hp'.size, hp'.block, fun y hy => ?_, fun y hy c hc => ?_, fun y hy c hc => ?_, List.pairwise_cons.2 (List.pairwise_cons.1 hp'.sep)⟩
  ·rcases List.mem_cons.1 hy with rfl | hy
   ·exact h1
   ·exact hp'.ok y (List.mem_cons_of_mem _ hy)
  ·rcases List.mem_cons.1 hy with rfl | hy
   ·exact hp'.lt _ (List.mem_cons_self ..) c hc
   ·exact hp'.lt y (List.mem_cons_of_mem _ hy) c hc
  ·rcases List.mem_cons.1 hy with rfl | hy
   ·exact hp'.ow _ (List.mem_cons_self ..) c hc
   ·exact hp'.ow y (List.mem_cons_of_mem _ hy) c hc
 subst h2
 exact y1J K ht hz hd hx hy .here a w (h.world h3)
end ent
theorem WD.oldQ [Rnd] {P : Program} {n dd : Nat} {F : List Nat} {w₀ : World} {env : List (Nat × Value)} {L : List Asrt} {ops : Array Oper} {G : Type} {φ : G → Prop} {val : G → Value} {L' : G → List Asrt} {o : Oper} {tl : Nat → Bool} {Ls : List Asrt} {fuel : Nat} {listed : Array Bool} {QD : Act → World → Prop} {i : Nat} (hi : ops[i]? = some o) (hr : Region.ready .any ops listed = [i])
  (hg : gd env ops o = some true) (hd : o.dst = some dd) (hdn : Nat.blt dd n = true) (ht : tl i = true)
  (hq : Ef P n F w₀ env L o φ val L') (hst : ∀ g, Sin (L' g) Ls) (k : ∀ g, φ g → WD P n F w₀ ops tl Ls QD fuel (listed.setIfInBounds i true) ((dd, val g) :: env) (L' g)) : WD P n F w₀ ops tl Ls QD (fuel + 1) listed env L :=
 WD.old hi hr hg hd hdn ht hst hq k
section app
variable [Rnd] {F : List Nat} {w₀ : World} {L : List Asrt} {Z : Zp}
theorem ZS.news {α : Type} {Pr : List Value → α → Prop} {sz : Nat} {ao : Option Addr} {cap : Nat} {l : List α} (h : ZS Z sz Pr ao cap l) :
  ∃ cs, RR sz Pr cs l ∧ ∀ L F w₀, PV F w₀ L Z → ∀ w, Hp F w₀ w L → cs ≠ [] → ∃ A, ao = some A ∧ ∀ j u, cs[j]? = some u → w.cell? (A.add j) = some u := by
 obtain ⟨h1, h2, cs, h3, h4⟩ := h
 refine ⟨cs, h3, fun L F w₀ pv w hw hne => ?_⟩
 obtain ⟨A, hA, hc⟩ := h4 (by
  rintro rfl
  have := h3.len
  simp only [List.length_nil, Nat.zero_mul] at this
  exact hne (List.eq_nil_of_length_eq_zero this))
 exact ⟨A, hA, hc w (pv w hw)⟩
theorem RR.oc {α : Type} {Pr : List Value → α → Prop} {sz : Nat} {cs : List Value} {l : List α} (h : RR sz Pr cs l) (hP : ∀ r x, Pr r x → ∀ u ∈ r, u.oneCell' = true) : ∀ u ∈ cs, u.oneCell' = true := by
 obtain ⟨rows, h1, h2, h3, h4⟩ := h
 intro u hu
 rw [← h1] at hu
 obtain ⟨r, hr, hur⟩ := List.mem_flatten.1 hu
 obtain ⟨i, hi, rfl⟩ := List.getElem_of_mem hr
 exact hP _ _ (h4 i rows[i] (l[i]'(by omega)) (List.getElem?_eq_getElem hi) (List.getElem?_eq_getElem (by omega))) u hur
theorem RR.store {α : Type} [Inhabited α] {Pr : List Value → α → Prop} {sz : Nat} {cs r tl vs : List Value} {l : List α} {i : Int} {y : α} {k : Nat} (h : RR sz Pr cs l) (h0 : 0 ≤ i) (h1 : i < l.length) (hd : cs.drop (i.toNat * sz) = r ++ tl) (hr : r.length = sz)
  (hk : k + vs.length ≤ sz) (hP : Pr (y5b r k vs) y) : RR sz Pr (y5b cs (i.toNat * sz + k) vs) (l.set i.toNat y) ∧ i.toNat * sz + k + vs.length ≤ cs.length := by
 have hlen := h.len
 have hi : i.toNat < l.length := by omega
 have hle : (i.toNat + 1) * sz ≤ l.length * sz := Nat.mul_le_mul_right _ (by omega)
 rw [Nat.succ_mul] at hle
 obtain ⟨rows, a1, a2, a3, a4⟩ := h
 have hfit : i.toNat * sz + k + vs.length ≤ cs.length := by omega
 refine ⟨⟨rows.set i.toNat (y5b r k vs), ?_, ?_, by simp [a3], ?_⟩, hfit⟩
 ·have hir : i.toNat < rows.length := by omega
  have e1 : rows = rows.take i.toNat ++ rows[i.toNat] :: rows.drop (i.toNat + 1) := by
   rw [List.getElem_cons_drop, List.take_append_drop]
  have e2 : (rows.take i.toNat).flatten.length = i.toNat * sz := by
   have : ∀ (rs : List (List Value)), (∀ r ∈ rs, r.length = sz) → rs.flatten.length = rs.length * sz := by
    intro rs
    induction rs with
    | nil => simp
    | cons r rs ih => intro hh; rw [List.flatten_cons, List.length_append, hh r (by simp), ih (fun r hr => hh r (List.mem_cons_of_mem _ hr)), List.length_cons, Nat.succ_mul, Nat.add_comm]
   rw [this _ (fun r hr => a2 r (List.mem_of_mem_take hr)), List.length_take, Nat.min_eq_left (by omega)]
  have e3 : cs = (rows.take i.toNat).flatten ++ (rows[i.toNat] ++ (rows.drop (i.toNat + 1)).flatten) := by
   rw [← a1]
   have := congrArg List.flatten e1
   rw [List.flatten_append, List.flatten_cons] at this
   exact this
  have e4 : cs.drop (i.toNat * sz) = rows[i.toNat] ++ (rows.drop (i.toNat + 1)).flatten := by
   rw [e3, ← e2, List.drop_left]
  rw [e4] at hd
  have e5 : rows[i.toNat] = r ∧ (rows.drop (i.toNat + 1)).flatten = tl := List.append_inj hd (by rw [a2 _ (List.getElem_mem hir), hr])
  rw [List.set_eq_take_append_cons_drop, if_pos hir, List.flatten_append, List.flatten_cons]
  rw [e3, e5.1]
  unfold y5b
  rw [← e2]
  generalize (rows.take i.toNat).flatten = A
  generalize (rows.drop (i.toNat + 1)).flatten = B
  have t1 : (A ++ (r ++ B)).take (A.length + k) = A ++ r.take k := by
   rw [List.take_length_add_append, List.take_append_of_le_length (by omega)]
  have t2 : (A ++ (r ++ B)).drop (A.length + k + vs.length) = r.drop (k + vs.length) ++ B := by
   rw [Nat.add_assoc, List.drop_length_add_append, List.drop_append_of_le_length (by omega)]
  rw [t1, t2]
  simp only [List.append_assoc]
 ·intro r' hr'
  rcases List.mem_or_eq_of_mem_set hr' with h' | rfl
  ·exact a2 _ h'
  ·unfold y5b; simp; omega
 ·intro j r' x hr' hx
  rw [List.getElem?_set] at hr' hx
  by_cases hj : i.toNat = j
  ·subst hj
   rw [if_pos rfl] at hr' hx
   rw [if_pos (by omega)] at hr' hx
   simp at hr' hx
   subst hr' hx
   exact hP
  ·rw [if_neg hj] at hr' hx
   exact a4 _ _ _ hr' hx
end app
end Sep

/- A part of this claim's proof: models of functions, walks, plain laws. No conditions. -/
import Derived.Test.YtinchjigeakocaaPMods
import Derived.Test.YtinchjigeakocaaWNetworkStores
namespace Go.Proofs.Ytinchjigeakocaa
open Go Go.RowKit Sep
set_option linter.all false
abbrev Sw := Sapi_Switch
def wid (net v : Int) (s : Sw) : Sw := if s.fNet = net then ⟨s.fName, s.fNet, s.fDelay, v⟩ else s
def setS (c : Cf) (l : List Sw) : Cf := ⟨c.fModules, c.fChannels, l, c.fLinks, c.fVLs, c.fHealth, c.fCauses, c.fVersions⟩
def y2C (net v : Int) (c : Cf) : Cf := setS c (c.fSwitches.map (wid net v))
theorem y6p {α β : Type} [Inhabited α] {f : α → α} {q : α → β} (h : ∀ x, q (f x) = q x) (l : List α) (i : Int) : q (nth (l.map f) i) = q (nth l i) := by
 unfold nth
 simp only [List.getD_eq_getElem?_getD, List.getElem?_map]
 cases l[i.toNat]? with
 | none => rfl
 | some x => exact h x
theorem wid_name {net v : Int} (s : Sw) : (wid net v s).fName = s.fName := by unfold wid; split <;> rfl
theorem wid_net {net v : Int} (s : Sw) : (wid net v s).fNet = s.fNet := by unfold wid; split <;> rfl
theorem y8r {net v : Int} (s : Sw) : (wid net v s).fDelay = s.fDelay := by unfold wid; split <;> rfl
theorem y9W (net v : Int) (c : Cf) (i : Int) : y29 (y2C net v c) i = y29 c i := by
 unfold y29 y1B y2C setS
 simp only [List.length_map, y6p (q := Sapi_Switch.fName) wid_name]
theorem y9J (net v : Int) (c : Cf) : y1B (y2C net v c) = y1B c := by unfold y1B y2C setS; simp only [List.length_map]
theorem y7J (net v : Int) (c : Cf) (x : Int) (nm : ByteArray) (k : Option Int) : ∀ (n : Nat) (i : Int), y10 x (y2C net v c) nm k n i = y10 x c nm k n i
 | 0, i => by rw [y10, y10]
 | n + 1, i => by
  rw [y10, y10]
  simp only [y9W, y7J net v c x nm k n]
theorem y8s (net v : Int) (c : Cf) (nm : ByteArray) : y1m (y2C net v c) nm = y1m c nm := by
 unfold y1m
 simp only [y9J, y7J]
section
variable {c : Cf} {net v : Int}
theorem y82 (l : Int) : fA (y2C net v c) l = fA c l := by unfold fA; rw [y8s]; rfl
theorem y83 (l : Int) : fB (y2C net v c) l = fB c l := by unfold fB; rw [y8s]; rfl
theorem y70 : nM (y2C net v c) = nM c := rfl
theorem y71 (n : Int) : sw (y2C net v c) n = nth (c.fSwitches.map (wid net v)) (n - nM c) := rfl
theorem y9X {net v : Int} (hv : 0 ≤ v ∧ v ≤ 1073741824) (s : Sw) (h : 0 ≤ s.fStore ∧ s.fStore ≤ 1073741824) : 0 ≤ (wid net v s).fStore ∧ (wid net v s).fStore ≤ 1073741824 := by
 unfold wid; split
 ·exact hv
 ·exact h
theorem y8v (hv : 0 ≤ v ∧ v ≤ 1073741824) {n : Int} (h : 0 ≤ (sw c n).fStore ∧ (sw c n).fStore ≤ 1073741824) : 0 ≤ (sw (y2C net v c) n).fStore ∧ (sw (y2C net v c) n).fStore ≤ 1073741824 := by
 rw [y71]
 unfold sw nth at h
 unfold nth
 simp only [List.getD_eq_getElem?_getD, List.getElem?_map] at h ⊢
 cases hq : c.fSwitches[(n - nM c).toNat]? with
 | none => rw [hq] at h; exact h
 | some x => rw [hq] at h; exact y9X hv x h
theorem y8t (hv : 0 ≤ v ∧ v ≤ 1073741824) {n : Int} (h : y4m c net n) : y4m (y2C net v c) net n := by
 obtain ⟨h0, h1⟩ := h
 refine ⟨h0, ?_⟩
 rcases h1 with h1 | ⟨a, b, d, e⟩
 ·exact .inl h1
 ·right
  rw [y71, y6p (q := Sapi_Switch.fNet) wid_net, y6p (q := Sapi_Switch.fDelay) y8r]
  exact ⟨a, b, d, y8v hv e⟩
theorem jn_wide (hv : 0 ≤ v ∧ v ≤ 1073741824) {l a b : Int} (h : JN c net l a b) : JN (y2C net v c) net l a b := by
 obtain ⟨h1, h2, h3, h4, h5, h6, h7, h8, h9⟩ := h
 refine ⟨h1, h2, h3, h4, h5, ?_, ?_, ?_, ?_⟩
 ·rw [y82, y83]; exact h6
 ·rw [y82]; exact y8t hv h7
 ·rw [y83]; exact y8t hv h8
 ·rw [y82, y83]; exact h9
theorem y72 (hv : 0 ≤ v ∧ v ≤ 1073741824) {rs : List (List Hop)} {sent : List Snt} (g : Sg c net rs sent) : Sg (y2C net v c) net rs sent := by
 refine ⟨⟨g.small.m, by show (c.fSwitches.map _).length ≤ _; rw [List.length_map]; exact g.small.s, g.small.l, g.small.v⟩, ⟨g.va.nt, g.va.len, g.va.most, fun r hr => ⟨(g.va.each r hr).len, fun q h1 h2 => ?_⟩⟩, ⟨g.fr.each, g.fr.len⟩⟩
 obtain ⟨a, b, d, e⟩ := (g.va.each r hr).cond q h1 h2
 exact ⟨a, b, d, jn_wide hv e⟩
def Alike (p q : Pt) : Prop := p.fNumbers.fSlow = q.fNumbers.fSlow ∧ p.fNumbers.fDelay = q.fNumbers.fDelay ∧ p.fNow = q.fNow ∧ p.fLast = q.fLast ∧ p.fFrames = q.fFrames
theorem y98 {v w : Int} (k : Ex) : Alike (y21 (y2C net v c) k) (y21 (y2C net w c) k) := by
 refine ⟨rfl, ?_, rfl, rfl, rfl⟩
 unfold y21
 simp only [y70, y71, y6p (q := Sapi_Switch.fDelay) y8r]
theorem y7K (hv : 2880 ≤ v ∧ v ≤ 1073741824) {rs : List (List Hop)} {sent : List Snt} (g : Sg c net rs sent) {k : Ex} (hk : UK rs sent k) : 2880 ≤ (y21 (y2C net v c) k).fNumbers.fStore := by
 obtain ⟨s, h, h1, h2, rfl⟩ := hk
 have hh := (g.route h1).hv h h2
 obtain ⟨⟨n1, n2⟩, n3, _⟩ := hh.node g.small
 show 2880 ≤ (if nM (y2C net v c) ≤ h.fNode then (sw (y2C net v c) h.fNode).fStore else 1073741824)
 rw [y70]
 split
 ·rename_i hn
  rcases n2 with n2 | ⟨a, _⟩
  ·omega
  ·rw [y71]
   unfold sw at a
   have hr : 0 ≤ h.fNode - nM c ∧ h.fNode - nM c < c.fSwitches.length := by unfold nN at n3; unfold nM at *; omega
   rw [y2N hr] at a
   rw [y2N (by rw [List.length_map]; exact hr), List.getElem_map]
   unfold wid
   rw [if_pos a]; exact hv.1
 ·omega
end
section
variable {c : Cf} {net : Int} {rs : List (List Hop)} {sent : List Snt}
theorem y8Z {α β : Type} {f : α → β} : ∀ {l : List α}, (l.map f).Nodup → l.Pairwise fun a b => f a ≠ f b
 | l, h => by rw [List.nodup_iff_pairwise_ne, List.pairwise_map] at h; exact h
theorem port_few (g : Sg c net rs sent) {S : St} {H : List Rc} (h : JV c net rs sent S H) {e : Ev} (he : e ∈ S.ag) : (H.filter fun r => decide (yq r.ev.fHop = yq e.fHop)).length + 1 ≤ sent.length := by
 have hok := h.iv.ev e he
 have hnd := h.iv.nd
 rw [List.nodup_append] at hnd
 have h1 : (e.fSent :: (H.filter fun r => decide (yq r.ev.fHop = yq e.fHop)).map fun r => r.ev.fSent).Nodup := by
  rw [List.nodup_cons]
  constructor
  ·intro hm
   obtain ⟨r, hr, hr2⟩ := List.mem_map.1 hm
   obtain ⟨hr3, hr4⟩ := List.mem_filter.1 hr
   have hr4 : yq r.ev.fHop = yq e.fHop := of_decide_eq_true hr4
   have hrk := h.ok r hr3
   have : r.ev.fHop = e.fHop := (g.route hok.s).link_inj (by rw [← hr2]; exact hrk.h) hok.h (congrArg Snetwork_exit.fLink hr4)
   exact hnd.2.2 (Rc.id r) (List.mem_map.2 ⟨r, hr3, rfl⟩) (y15 e) (List.mem_map.2 ⟨e, he, rfl⟩) (by unfold Rc.id y15; rw [hr2, this])
  ·rw [List.nodup_iff_pairwise_ne, List.pairwise_map]
   have hp := (y8Z hnd.1).filter (fun r => decide (yq r.ev.fHop = yq e.fHop))
   refine hp.imp_of_mem fun {a b} ha hb hab hc => hab ?_
   obtain ⟨a1, a2⟩ := List.mem_filter.1 ha
   obtain ⟨b1, b2⟩ := List.mem_filter.1 hb
   have a2 : yq a.ev.fHop = yq e.fHop := of_decide_eq_true a2
   have b2 : yq b.ev.fHop = yq e.fHop := of_decide_eq_true b2
   have ka := h.ok a a1
   have kb := h.ok b b1
   have : a.ev.fHop = b.ev.fHop := (g.route ka.s).link_inj ka.h (by rw [hc]; exact kb.h) (congrArg Snetwork_exit.fLink (a2.trans b2.symm))
   unfold Rc.id y15; rw [hc, this]
 have h2 := y6N _ ((List.range sent.length).map fun i : Nat => (i : Int)) h1 (by
  intro x hx
  have hx' : 0 ≤ x ∧ x < sent.length := by
   rcases List.mem_cons.1 hx with rfl | hx
   ·exact hok.s
   ·obtain ⟨r, hr, rfl⟩ := List.mem_map.1 hx
    exact (h.ok r (List.mem_filter.1 hr).1).s
  exact List.mem_map.2 ⟨x.toNat, List.mem_range.2 (by omega), by omega⟩)
 simp only [List.length_cons, List.length_map, List.length_range] at h2
 exact h2
theorem noloss (g : Sg c net rs sent) (hst : ∀ k, UK rs sent k → 2880 ≤ (y21 c k).fNumbers.fStore) {S : St} {H : List Rc} (h : JV c net rs sent S H) {e : Ev} (he : e ∈ S.ag) :
  y1G (S.pf (yq e.fHop)) e.fTime (nth sent e.fSent).fSize = (y2f (S.pf (yq e.fHop)) e.fTime (nth sent e.fSent).fSize, 0, ⟨(S.pf (yq e.fHop)).fNumbers, e.fTime, y2f (S.pf (yq e.fHop)) e.fTime (nth sent e.fSent).fSize, y3Z e.fTime (S.pf (yq e.fHop)).fFrames ++ [⟨(nth sent e.fSent).fSize, y2f (S.pf (yq e.fHop)) e.fTime (nth sent e.fSent).fSize⟩]⟩) := by
 have hok := h.iv.ev e he
 have hlen := h.iv.len g
 have ht := h.iv.tm e he
 have hk : UK rs sent (yq e.fHop) := ⟨e.fSent, e.fHop, hok.s, hok.h, rfl⟩
 obtain ⟨p1, p2, p3⟩ := h.iv.pi _ hk
 have hsz := (g.fr.each e.fSent hok.s.1 hok.s.2).2.2.2.2
 have hnow := h.iv.now _ hk e he
 have hf := h.frs (yq e.fHop)
 have hw := port_few g h he
 have hpos : 0 < S.ag.length := List.length_pos_of_mem he
 have h40 := g.fr.len
 have hs := (y8P (l := y3Z e.fTime (S.pf (yq e.fHop)).fFrames) fun x hx => p1.sz x (y6l x hx)).2
 have hwl := y4N (t := e.fTime) (l := (S.pf (yq e.fHop)).fFrames)
 have hstore := hst _ hk
 rw [← h.iv.num] at hstore
 unfold y1G
 rw [if_neg (by omega), if_neg (by omega)]
structure Like (S T : St) : Prop where
 ag : S.ag.Perm T.ag
 come : S.come.Perm T.come
 pf : ∀ k, Alike (S.pf k) (T.pf k)
theorem sim (g : Sg c net rs sent) {v w : Int} (hv : 2880 ≤ v ∧ v ≤ 1073741824) (hw : 2880 ≤ w ∧ w ≤ 1073741824) : ∀ {n : Nat} {S F : St}, Runs (y2C net v c) rs sent n S F → ∀ {T : St} {H H2 : List Rc}, JV (y2C net v c) net rs sent S H → JV (y2C net w c) net rs sent T H2 → Like S T →
  ∃ F', Runs (y2C net w c) rs sent n T F' ∧ F.come.Perm F'.come ∧ F.lost.Perm S.lost ∧ F'.lost.Perm T.lost
 | _, S, F, .done h k, T, H, H2, j1, j2, q => ⟨T, .done (by have := q.ag; rw [h] at this; exact List.perm_nil.1 this.symm) (EQ.refl _), k.come.symm.trans q.come, k.lost.symm, .refl _⟩
 | _, S, F, .step (S' := S') e rest hp hm he hr, T, H, H2, j1, j2, q => by
  have g1 := y72 (v := v) (by omega) g
  have g2 := y72 (v := w) (by omega) g
  have hem : e ∈ S.ag := hp.mem_iff.1 (by simp)
  have hp2 : (e :: rest).Perm T.ag := hp.trans q.ag
  have hm2 : ∀ x ∈ T.ag, kle e x := fun x hx => hm x (q.ag.mem_iff.2 hx)
  have e1 := noloss g1 (fun k hk => y7K hv g hk) j1 hem
  have e2 := noloss g2 (fun k hk => y7K hw g hk) j2 (q.ag.mem_iff.1 hem)
  obtain ⟨o1, k1⟩ := y81 g1 j1 hp hm
  obtain ⟨o2, k2⟩ := y81 g2 j2 hp2 hm2
  obtain ⟨a1, a2, a3, a4, a5⟩ := q.pf (yq e.fHop)
  have hend : y2f (T.pf (yq e.fHop)) e.fTime (nth sent e.fSent).fSize = y2f (S.pf (yq e.fHop)) e.fTime (nth sent e.fSent).fSize := by unfold y2f; rw [a1, a2, a4]
  have hl : Like S' (y18 (y2C net w c) rs sent e rest T) := by
   refine ⟨?_, ?_, ?_⟩
   ·refine he.ag.symm.trans ?_
    unfold y18
    rw [e1, e2, hend]
    exact .refl _
   ·refine he.come.symm.trans ?_
    unfold y18
    rw [e1, e2, hend, y70, y70]
    simp only [ne_eq, not_true_eq_false, if_false]
    split
    ·exact q.come.append_right _
    ·exact q.come
   ·intro k
    rw [← he.pf]
    unfold y18
    rw [e1, e2, hend]
    simp only [ne_eq, not_true_eq_false, if_false, upd]
    split
    ·exact ⟨a1, a2, rfl, rfl, by simp only [a5]⟩
    ·exact q.pf k
  obtain ⟨F', r1, r2, r3, r4⟩ := sim g hv hw hr (k1.eq he) k2 hl
  refine ⟨F', .step e rest hp2 hm2 (EQ.refl _) r1, r2, r3.trans ?_, r4.trans ?_⟩
  ·refine he.lost.symm.trans ?_
   unfold y18
   rw [e1]
   exact .refl _
  ·unfold y18
   rw [e2]
   exact .refl _
theorem all_done (g : Sg c net rs sent) {F : St} {H : List Rc} (h : JV c net rs sent F H) (hF : F.ag = []) (hl : ∀ r ∈ H, r.out ≠ none) : (H.map Rc.id).Perm (y4a rs sent) := by
 have hreach : ∀ (s : Int), (0 ≤ s ∧ s < (sent.length : Int)) → ∀ (n : Nat) (v : Int), v = n → v < (route rs sent s).length → (s, nth (route rs sent s) v) ∈ H.map Rc.id := by
  intro s hs n
  induction n using Nat.strongRecOn with
  | _ n ih =>
   intro v hv hvl
   have hm : nth (route rs sent s) v ∈ route rs sent s := y4H (by omega) hvl
   rcases ((g.route hs).cond v (by omega) hvl).1 with a | ⟨q, q1, q2, q3⟩
   ·have := h.root s _ hs hm a
    rw [hF] at this; simpa using this
   ·have := ih q.toNat (by omega) q (by omega) (by omega)
    obtain ⟨r, hr, hr2⟩ := List.mem_map.1 this
    cases ho : r.out with
    | none => exact absurd ho (hl r hr)
    | some t =>
     have e1 : r.ev.fSent = s := congrArg Prod.fst hr2
     have e2 : r.ev.fHop = nth (route rs sent s) q := congrArg Prod.snd hr2
     have := h.nxt r hr t ho (nth (route rs sent s) v) (by rw [e1]; exact hm) (by rw [e2]; exact q3.symm)
     rw [hF, e1] at this; simpa using this
 have hnd := h.iv.nd
 rw [hF, List.map_nil, List.append_nil] at hnd
 have hnd2 : (y4a rs sent).Nodup := by
  unfold y4a
  rw [List.nodup_iff_pairwise_ne, List.pairwise_flatMap]
  constructor
  ·intro i hi
   refine List.Pairwise.map _ (R := fun a b => a ≠ b) (fun a b hab hc' => hab (by simpa using hc')) ?_
   exact (g.route ⟨by omega, by have := List.mem_range.1 hi; omega⟩).nodup
  ·refine (List.nodup_iff_pairwise_ne.1 List.nodup_range).imp_of_mem ?_
   intro i j hi hj hij x hx y hy hxy
   obtain ⟨a, ha, rfl⟩ := List.mem_map.1 hx
   obtain ⟨b, hb, rfl⟩ := List.mem_map.1 hy
   have := congrArg Prod.fst hxy
   simp at this
   omega
 rw [List.perm_ext_iff_of_nodup hnd hnd2]
 intro x
 constructor
 ·exact h.iv.mem x
 ·intro hx
  obtain ⟨h1, h2⟩ := y6o.1 hx
  obtain ⟨i, hi, he⟩ := List.getElem_of_mem h2
  have := hreach x.1 h1 i i rfl (by omega)
  rw [y2N ⟨by omega, by omega⟩] at this
  simp only [Int.toNat_natCast] at this
  rw [he] at this; exact this
theorem y9Y {H : List Rc} (h : H.filterMap y6Z = []) : ∀ r ∈ H, r.out ≠ none := by
 intro r hr hn
 rw [List.filterMap_eq_nil_iff] at h
 have := h r hr
 simp [y6Z, hn] at this
theorem y9K (g : Sg c net rs sent) {F : St} {H : List Rc} (h : JV c net rs sent F H) (hF : F.ag = []) (hl : ∀ r ∈ H, r.out ≠ none) : (H.filterMap (y53 c)).length = ((List.range sent.length).map fun i : Nat => (y4g c (route rs sent (i : Int))).length).sum := by
 have h1 : ∀ K : List Rc, (∀ r ∈ K, r.out ≠ none) → (K.filterMap (y53 c)).length = ((K.map Rc.id).filter fun x => decide (x.2.fNext < nM c)).length := by
  intro K
  induction K with
  | nil => intro _; rfl
  | cons r K ih =>
   intro hk
   have := ih fun x hx => hk x (List.mem_cons_of_mem _ hx)
   cases ho : r.out with
   | none => exact absurd ho (hk r (by simp))
   | some t =>
    rw [List.filterMap_cons, List.map_cons, List.filter_cons]
    by_cases q : r.ev.fHop.fNext < nM c
    ·have e1 : y53 c r = some ⟨r.ev.fSent, r.ev.fHop.fNext, t⟩ := by unfold y53; rw [ho, Option.bind_some, if_pos q]
     rw [e1, if_pos (decide_eq_true (by exact q))]
     simp [this]
    ·have e1 : y53 c r = none := by unfold y53; rw [ho, Option.bind_some, if_neg q]
     rw [e1, if_neg (by rw [decide_eq_true_eq]; exact q)]
     exact this
 rw [h1 H hl, ((all_done g h hF hl).filter _).length_eq]
 unfold y4a
 rw [List.filter_flatMap, List.length_flatMap]
 congr 1
 refine List.map_congr_left fun i _ => ?_
 unfold y4g
 rw [List.filter_map, List.length_map, List.length_map]
 rfl
end
theorem st_L3 {c : Cf} {net : Int} {k : List Sw → List Sw → Option Bool} (hs : c.fSwitches.length ≤ 1000) : ∀ (n : Nat) (v : Int), 0 ≤ v → v ≤ c.fSwitches.length → c.fSwitches.length < n + v →
  y1o c net k n v ((c.fSwitches.take v.toNat).map (wid net 2880) ++ c.fSwitches.drop v.toNat) ((c.fSwitches.take v.toNat).map (wid net 1073741824) ++ c.fSwitches.drop v.toNat) = k (c.fSwitches.map (wid net 2880)) (c.fSwitches.map (wid net 1073741824))
 | 0, v, h0, h1, h2 => by omega
 | n + 1, v, h0, h1, h2 => by
  rw [y1o]
  by_cases h : v < c.fSwitches.length
  ·rw [if_pos (decide_eq_true h)]
   refine y4l (P := fun x => x = k (c.fSwitches.map (wid net 2880)) (c.fSwitches.map (wid net 1073741824))) fun k1 hk1 => ?_
   have ih := st_L3 (k := k) (net := net) hs n (v + 1) (by omega) (by omega) (by omega)
   have e1 : (v + 1).toNat = v.toNat + 1 := by omega
   have e2 := y3q (l := c.fSwitches) h0 h
   have e3 := y88 c.fSwitches h0 h
   rw [e3, e1] at ih
   simp only [List.map_append, List.map_cons, List.map_nil, List.append_assoc, List.cons_append, List.nil_append] at ih
   have l1 : ∀ w, v = ((c.fSwitches.take v.toNat).map (wid net w)).length := by intro w; simp; omega
   rw [yo ⟨h0, h⟩, e2]
   by_cases q : (nth c.fSwitches v).fNet = net
   ·rw [if_pos (decide_eq_true q), yo (by simp; omega), yo (by simp; omega), y4Y (l1 _), y4Y (l1 _), y4Z (l1 _), y4Z (l1 _), hk1, yn (x := v + 1) (by omega)]
    unfold wid at ih ⊢
    rw [if_pos q, if_pos q] at ih
    exact ih
   ·rw [if_neg (by simpa using q), hk1, yn (x := v + 1) (by omega)]
    unfold wid at ih ⊢
    rw [if_neg q, if_neg q] at ih
    exact ih
  ·rw [if_neg (by simpa using h), List.drop_eq_nil_of_le (by omega), List.take_of_length_le (by omega)]
   simp
theorem st_L4 {c : Cf} {net : Int} {rs : List (List Hop)} {sent : List Snt} (g : Sg c net rs sent) {k : Int → Option Bool} : ∀ (n : Nat) (w v : Int), 0 ≤ v → v ≤ sent.length → sent.length < n + v → 0 ≤ w → w ≤ 1000 * v →
  y1p sent rs c k n w v = k (w + (((List.range sent.length).drop v.toNat).map fun i : Nat => (y4g c (route rs sent (i : Int))).length).sum)
 | 0, w, v, h0, h1, h2, h3, h4 => by omega
 | n + 1, w, v, h0, h1, h2, h3, h4 => by
  rw [y1p]
  have h40 := g.fr.len
  by_cases h : v < sent.length
  ·have hr := (g.route ⟨h0, h⟩).len
   have hd : (y4g c (nth rs (nth sent v).fVL)).length ≤ 32 := by
    unfold y4g; rw [List.length_map]
    exact Nat.le_trans (List.length_filter_le _ _) hr
   rw [if_pos (decide_eq_true h), yo ⟨h0, h⟩, yo (g.vl ⟨h0, h⟩), y9I (r := nth rs (nth sent v).fVL) (Nat.le_trans hr (by omega))]
   simp only [Option.bind_some]
   rw [yn (x := w + _) (by omega), yn (x := v + 1) (by omega), st_L4 g n _ (v + 1) (by omega) (by omega) (by omega) (by omega) (by omega)]
   congr 1
   have e : (List.range sent.length).drop v.toNat = v.toNat :: (List.range sent.length).drop (v + 1).toNat := by
    rw [show (v + 1).toNat = v.toNat + 1 by omega, ← List.getElem_cons_drop (i := v.toNat) (by simp; omega)]
    simp
   rw [e, List.map_cons, List.sum_cons]
   rw [Int.toNat_of_nonneg h0]
   unfold route
   omega
  ·rw [if_neg (by simpa using h), List.drop_eq_nil_of_le (by simp; omega)]
   simp
theorem y75 {c : Cf} {net : Int} {rs : List (List Hop)} {sent : List Snt} (hs : (sent.length : Int) ≤ 9223372036854775807) : y2T c net rs sent = some true := by
 unfold y2T
 obtain ⟨b, h1, h2⟩ := lfine_eq (c := c) (net := net) (rs := rs) hs
 rw [h1]
 simp only [Option.bind_some]
 cases b with
 | false => rw [if_pos (by rfl), y7I]; rfl
 | true =>
  obtain ⟨hf, g⟩ := h2.1 rfl
  have hsw := hf.s
  rw [if_neg (by simp), yo (by simp; omega), yo (by simp; omega)]
  refine y4l (P := fun o => o = some true) fun k hk => ?_
  have hL := st_L3 (k := k) (net := net) (c := c) (by omega) yz 0 (by omega) (by omega) (by rw [y1s]; omega)
  simp only [Int.toNat_zero, List.take_zero, List.map_nil, List.nil_append, List.drop_zero] at hL
  rw [List.nil_append, hL, hk]
  have g1 := y72 (v := 2880) (by omega) g
  have g2 := y72 (v := 1073741824) (by omega) g
  obtain ⟨a, b, r1, e1⟩ := Run_eq g1
  obtain ⟨x, y, r2, e2⟩ := Run_eq g2
  show (y27 (y2C net 2880 c) net rs sent).bind _ = _
  rw [e1, Option.bind_some]
  show (y27 (y2C net 1073741824 c) net rs sent).bind _ = _
  rw [e2, Option.bind_some]
  obtain ⟨n, F, q1, q2, q3⟩ := r1.run
  obtain ⟨F', s1, s2, s3, s4⟩ := sim g (v := 2880) (w := 1073741824) (by omega) (by omega) q1 (y80 g1) (y80 g2) ⟨.refl _, .refl _, fun k => y98 k⟩
  obtain ⟨m, F2, t1, t2, t3⟩ := r2.run
  have hc := (confl g2 t1 (y6Y g2) s1 (EQ.refl _)).2
  have hb : b = [] := List.perm_nil.1 (q3.trans s3)
  have hy : y = [] := List.perm_nil.1 (t3.trans (hc.lost.symm.trans s4))
  have hax : a = x := y9H r1.sc r2.sc (q2.trans (s2.trans (hc.come.trans t2.symm)))
  subst hb hy hax
  obtain ⟨F3, H, f1, f2, f3, f4⟩ := r1.hist g1
  have hno := y9Y (List.nil_perm.1 f4)
  have hcnt := y9K g1 f2 f1 hno
  have hlen := r1.len
  refine y1E (P := fun o => o = some true) fun k4 hk4 => ?_
  rw [st_L4 g yz 0 0 (by omega) (by omega) (by rw [y1s]; omega) (by omega) (by omega), hk4]
  simp only [Int.toNat_zero, List.drop_zero, List.length_nil]
  rw [Same_eq (by omega)]
  have e3 : ((a.length : Nat) : Int) = 0 + ((((List.range sent.length).map fun i : Nat => (y4g c (route rs sent (i : Int))).length).sum : Nat) : Int) := by
   rw [f3.length_eq, hcnt]; simp; rfl
  rw [if_pos (by simp; rfl)]
  simp only [Option.bind_some, decide_true, Bool.true_and]
  rw [if_pos (decide_eq_true e3), y7I]
  rfl
end Go.Proofs.Ytinchjigeakocaa

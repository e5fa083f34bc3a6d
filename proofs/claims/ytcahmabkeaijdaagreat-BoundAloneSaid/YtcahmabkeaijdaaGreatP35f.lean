/- A part of this claim's proof: models of functions, walks, plain laws. No conditions. -/
import Derived.Test.YtcahmabkeaijdaaGreatP35a
set_option linter.all false
namespace Go.Proofs.YtcahmabkeaijdaaGreat
open Go Go.RowKit Sep
theorem ybj {RR A0 A1 : Type} {K : A0 → A1 → Option RR} {F : (A0 → A1 → Option RR) → Option RR} {P : Option RR → Prop} (h : ∀ k : A0 → A1 → Option RR, (∀ x0 x1, k x0 x1 = K x0 x1) → P (F k)) : P (jp2 K F) := h K fun _ _ => rfl
theorem yel {RR A0 A1 A2 A3 A4 : Type} {K : A0 → A1 → A2 → A3 → A4 → Option RR} {F : (A0 → A1 → A2 → A3 → A4 → Option RR) → Option RR} {P : Option RR → Prop} (h : ∀ k : A0 → A1 → A2 → A3 → A4 → Option RR, (∀ x0 x1 x2 x3 x4, k x0 x1 x2 x3 x4 = K x0 x1 x2 x3 x4) → P (F k)) : P (jp5 K F) := h K fun _ _ _ _ _ => rfl
theorem jp6_ex {RR A0 A1 A2 A3 A4 A5 : Type} {K : A0 → A1 → A2 → A3 → A4 → A5 → Option RR} {F : (A0 → A1 → A2 → A3 → A4 → A5 → Option RR) → Option RR} {P : Option RR → Prop} (h : ∀ k : A0 → A1 → A2 → A3 → A4 → A5 → Option RR, (∀ x0 x1 x2 x3 x4 x5, k x0 x1 x2 x3 x4 x5 = K x0 x1 x2 x3 x4 x5) → P (F k)) : P (jp6 K F) := h K fun _ _ _ _ _ _ => rfl
abbrev Flow := Sbound_flow
abbrev PB := Sapi_PortBound
abbrev BM := List (Flow × R)
abbrev DM := List (Pl × Int)
/-! ### the computation keeps its first error -/
def DO (e : Int) (r : R × Int) : R × Int := (if r.2 ≠ 0 then ⟨0, 1⟩ else r.1, if e = 0 then r.2 else e)
theorem do_eq {c : Cf} {rs : List (List Hop)} {bu : BM} {de : DM} {e : Int} {f : R → R → Option (R × Int)} {x y : R} {r : R × Int} (h : f x y = some r) : y3u c rs bu de e f x y = some (DO e r) := by
 unfold y3u DO y2c
 rw [h, Option.bind_some]
 refine y2h (P := fun o => o = _) fun k hk => ?_
 have e1 : (if decide (e = 0) = true then k r.2 else k e) = k (if e = 0 then r.2 else e) := by
  by_cases h : e = 0 <;> simp [h]
 rw [e1, hk]
 by_cases hr : r.2 ≠ 0
 ·rw [if_pos (by simpa using hr), if_pos hr]; rfl
 ·rw [if_neg (by simpa using hr), if_neg hr]
def VLs (c : Cf) : Prop := ∀ v ∈ c.fVLs, (100 ≤ v.fBag ∧ v.fBag ≤ 12800) ∧ 1 ≤ v.fMax ∧ v.fMax ≤ 72
def mx (c : Cf) (v : Int) : Int := (nth c.fVLs v).fMax
def RT (c : Cf) (v : Int) : R := (mk (Rat.divInt (mx c v) (nth c.fVLs v).fBag)).1
theorem ycW {c : Cf} {rs : List (List Hop)} {bu : BM} {de : DM} {e v : Int} (hv : VLs c) (h : 0 ≤ v ∧ v < c.fVLs.length) : y3p c rs bu de e v = some (RT c v) := by
 have h2 := hv _ (y1B h.1 h.2)
 unfold y3p RT mx
 rw [yr h, y9L (by omega) (by omega)]
 rfl
/-! ### the curves at a port -/
def uses (p : Pl) (r : List Hop) : Bool := r.any fun h => decide (pk h = p)
theorem uses_eq {r : List Hop} {p : Pl} (hl : r.length < 1000000000) : y19 r (fun y0 => y3J y0 p) = some (uses p r) :=
 ye3 (p := fun h => decide (pk h = p)) (fun h _ => rfl) hl
structure CS where
 own : List (List B)
 most : Int
 e : Int
 lk : List (Int × List Int)
 bu : BM
def cst (c : Cf) (rs : List (List Hop)) (de : DM) (p : Pl) (s : CS) (v : Int) : CS :=
 let r := nth rs v
 if uses p r then
  let g := y2I r p.fNode
  if g.2 then
   let a := DO s.e (MUL (RT c v) ⟨yn de (pk g.1) 0, 1⟩)
   let b := DO a.2 (ADD (yn s.bu ⟨v, pk g.1⟩ ⟨0, 0⟩) a.1)
   ⟨s.own, max s.most (mx c v), b.2, yJ s.lk g.1.fLink (yn s.lk g.1.fLink [] ++ [v]), yJ s.bu ⟨v, p⟩ b.1⟩
  else ⟨s.own ++ [[⟨⟨mx c v, 1⟩, RT c v⟩]], max s.most (mx c v), s.e, s.lk, yJ s.bu ⟨v, p⟩ ⟨mx c v, 1⟩⟩
 else s
def y3r (v : Int) : Nat → List Int
 | 0 => []
 | n + 1 => v :: y3r (v + 1) n
abbrev CR := List (List B) × Int × Int × BM
theorem ydf {c : Cf} {rs : List (List Hop)} {de : DM} {p : Pl} {s : CS} {v : Int} {n : Int} (h : (s.own.length : Int) ≤ n ∧ ∀ k, ((yn s.lk k []).length : Int) ≤ n) : ((cst c rs de p s v).own.length : Int) ≤ n + 1 ∧ ∀ k, ((yn (cst c rs de p s v).lk k []).length : Int) ≤ n + 1 := by
 unfold cst
 simp only
 split
 ·split
  ·refine ⟨by have := h.1; show (s.own.length : Int) ≤ _; omega, fun k => ?_⟩
   show ((yn (yJ s.lk _ _) k []).length : Int) ≤ _
   rw [y7i]
   split
   ·have := h.2 (y2I (nth rs v) p.fNode).1.fLink; simp; omega
   ·have := h.2 k; omega
  ·refine ⟨by have := h.1; simp; omega, fun k => by have := h.2 k; show ((yn s.lk k []).length : Int) ≤ _; omega⟩
 ·exact ⟨by have := h.1; omega, fun k => by have := h.2 k; omega⟩
theorem ydg {c : Cf} {rs : List (List Hop)} {de : DM} {p : Pl} {k : List (List B) → Int → Int → List (Int × List Int) → BM → Option CR} (hv : VLs c) (hl : rs.length = c.fVLs.length) (hr : ∀ r ∈ rs, r.length < 1000000000) (hs : rs.length ≤ 1000) :
  ∀ (n : Nat) (v : Int) (s : CS), 0 ≤ v → v ≤ rs.length → rs.length < n + v → ((s.own.length : Int) ≤ v ∧ ∀ k, ((yn s.lk k []).length : Int) ≤ v) →
   y2k rs p c de k n s.own s.most v s.e s.lk s.bu = (fun t : CS => k t.own t.most t.e t.lk t.bu) ((y3r v (rs.length - v.toNat)).foldl (cst c rs de p) s)
 | 0, v, s, h0, h1, h2, h3 => by omega
 | n + 1, v, s, h0, h1, h2, h3 => by
  rw [y2k]
  by_cases h : v < rs.length
  ·have hb : 0 ≤ v ∧ v < (c.fVLs.length : Int) := ⟨h0, by omega⟩
   rw [if_pos (decide_eq_true h), show rs.length - v.toNat = (rs.length - (v + 1).toNat) + 1 by omega, y3r, List.foldl_cons]
   refine yel (P := fun o => o = _) fun k1 hk1 => ?_
   have hgo : ∀ t : CS, t = cst c rs de p s v → k1 t.own t.most t.e t.lk t.bu = (fun t : CS => k t.own t.most t.e t.lk t.bu) ((y3r (v + 1) (rs.length - (v + 1).toNat)).foldl (cst c rs de p) (cst c rs de p s v)) := fun t ht => by
    subst ht
    rw [hk1, yD (x := v + 1) (by omega)]
    exact ydg hv hl hr hs n (v + 1) _ (by omega) (by omega) (by omega) (ydf h3)
   rw [yr ⟨h0, h⟩, uses_eq (hr _ (y1B h0 h)), Option.bind_some]
   cases hu : uses p (nth rs v) with
   | false =>
    rw [if_pos (by rfl)]
    refine hgo s ?_
    unfold cst; simp only [hu]; rfl
   | true =>
    rw [if_neg (by simp), yr hb, yr hb]
    unfold y2c
    rw [Option.bind_some]
    refine yel (P := fun o => o = _) fun k2 hk2 => ?_
    rw [ycO (hr _ (y1B h0 h)), Option.bind_some]
    cases hg : (y2I (nth rs v) p.fNode).2 with
    | true =>
     rw [if_pos rfl, ycg, Option.bind_some, ycW hv hb, Option.bind_some, Option.bind_some, Option.bind_some]
     rw [do_eq (f := fun y0 y1 => y3a y0 y1) (mul_s _ _).1, Option.bind_some]
     rw [do_eq (f := fun y0 y1 => y1d y0 y1) (yaf _ _).1, Option.bind_some]
     have := h3.2 (y2I (nth rs v) p.fNode).1.fLink
     rw [yr (by simp; omega), hk2]
     refine Eq.trans ?_ (hgo _ rfl)
     have e : cst c rs de p s v = cst c rs de p s v := rfl
     conv at e => rhs; unfold cst
     simp only [hu, hg, if_true, if_false, Bool.false_eq_true] at e
     rw [e]
     rfl
    | false =>
     rw [if_neg (by simp), ycW hv hb, Option.bind_some]
     have := h3.1
     rw [yr (by simp; omega), hk2]
     refine Eq.trans ?_ (hgo _ rfl)
     have e : cst c rs de p s v = cst c rs de p s v := rfl
     conv at e => rhs; unfold cst
     simp only [hu, hg, if_true, if_false, Bool.false_eq_true] at e
     rw [e]
     rfl
  ·rw [if_neg (by simpa using h), show rs.length - v.toNat = 0 by omega]; rfl
structure GS where
 wide : Int
 e : Int
 b : R
 r : R
def gst (c : Cf) (bu : BM) (p : Pl) (s : GS) (v : Int) : GS :=
 let x := DO s.e (ADD s.b (yn bu ⟨v, p⟩ ⟨0, 0⟩))
 let y := DO x.2 (ADD s.r (RT c v))
 ⟨max s.wide (mx c v), y.2, x.1, y.1⟩
theorem ycq {c : Cf} {rs : List (List Hop)} {lk : List (Int × List Int)} {q : Int} {bu : BM} {de : DM} {p : Pl} {k : Int → Int → Int → Int → Int → Int → Option CR} (hv : VLs c) (hl : ∀ v ∈ yn lk q [], 0 ≤ v ∧ v < c.fVLs.length) (hs : (yn lk q []).length ≤ 1000) :
  ∀ (n : Nat) (i : Int) (s : GS), 0 ≤ i → i ≤ (yn lk q []).length → (yn lk q []).length < n + i →
   y2l lk q c rs bu de p k n s.wide i s.e s.b.fN s.b.fD s.r.fN s.r.fD = (fun t : GS => k t.wide t.e t.b.fN t.b.fD t.r.fN t.r.fD) (((yn lk q []).drop i.toNat).foldl (gst c bu p) s)
 | 0, v, s, h0, h1, h2 => by omega
 | n + 1, i, s, h0, h1, h2 => by
  rw [y2l]
  by_cases h : i < (yn lk q []).length
  ·have hb := hl _ (y1B h0 h)
   rw [if_pos (decide_eq_true h), yr ⟨h0, h⟩, y4z h0 h, List.foldl_cons]
   rw [do_eq (f := fun y0 y1 => y1d y0 y1) (yaf _ _).1, Option.bind_some, ycW hv hb, Option.bind_some, do_eq (f := fun y0 y1 => y1d y0 y1) (yaf _ _).1, Option.bind_some, yr hb, yD (x := i + 1) (by omega)]
   have e2 : (i + 1).toNat = i.toNat + 1 := by omega
   have := ycq (rs := rs) (de := de) (bu := bu) (p := p) (k := k) hv hl hs n (i + 1) (gst c bu p s (nth (yn lk q []) i)) (by omega) (by omega) (by omega)
   rw [e2] at this
   exact this
  ·rw [if_neg (by simpa using h), List.drop_eq_nil_of_le (by omega)]; rfl
def lst (c : Cf) (lk : List (Int × List Int)) (bu : BM) (p : Pl) (s : List (List B) × Int) (q : Int) : List (List B) × Int :=
 if yn lk q [] = [] then s else
  let g := (yn lk q []).foldl (gst c bu p) ⟨0, s.2, ⟨0, 1⟩, ⟨0, 1⟩⟩
  (s.1 ++ [[⟨g.b, g.r⟩, ⟨⟨g.wide, 1⟩, ⟨1, (nth c.fLinks q).fSlow⟩⟩]], g.e)
theorem ydh {c : Cf} {rs : List (List Hop)} {lk : List (Int × List Int)} {bu : BM} {de : DM} {p : Pl} {k : List (List B) → Int → Option CR} (hv : VLs c) (hl : ∀ q, ∀ v ∈ yn lk q [], 0 ≤ v ∧ v < c.fVLs.length) (hs : ∀ q, (yn lk q []).length ≤ 1000) (hL : c.fLinks.length ≤ 1000) :
  ∀ (n : Nat) (q : Int) (s : List (List B) × Int), 0 ≤ q → q ≤ c.fLinks.length → c.fLinks.length < n + q → (s.1.length : Int) ≤ q →
   y2m c lk rs bu de p k n s.1 q s.2 = (fun t : List (List B) × Int => k t.1 t.2) ((y3r q (c.fLinks.length - q.toNat)).foldl (lst c lk bu p) s)
 | 0, v, s, h0, h1, h2, h3 => by omega
 | n + 1, q, s, h0, h1, h2, h3 => by
  rw [y2m]
  by_cases h : q < c.fLinks.length
  ·rw [if_pos (decide_eq_true h), show c.fLinks.length - q.toNat = (c.fLinks.length - (q + 1).toNat) + 1 by omega, y3r, List.foldl_cons]
   refine ybj (P := fun o => o = _) fun k1 hk1 => ?_
   have hlen : ((lst c lk bu p s q).1.length : Int) ≤ q + 1 := by
    unfold lst; split
    ·omega
    ·simp; omega
   have hgo : ∀ t : List (List B) × Int, t = lst c lk bu p s q → k1 t.1 t.2 = (fun t : List (List B) × Int => k t.1 t.2) ((y3r (q + 1) (c.fLinks.length - (q + 1).toNat)).foldl (lst c lk bu p) (lst c lk bu p s q)) := fun t ht => by
    subst ht
    rw [hk1, yD (x := q + 1) (by omega)]
    exact ydh hv hl hs hL n (q + 1) _ (by omega) (by omega) (by omega) hlen
   by_cases hz : yn lk q [] = []
   ·rw [if_pos (by simp [hz])]
    refine hgo s ?_
    unfold lst; rw [if_pos hz]
   ·rw [if_neg (by simpa using hz)]
    unfold y2c
    rw [Option.bind_some, Option.bind_some]
    refine jp6_ex (P := fun o => o = _) fun k2 hk2 => ?_
    have := ycq (rs := rs) (de := de) (k := k2) (bu := bu) (p := p) hv (hl q) (hs q) yz 0 ⟨0, s.2, ⟨0, 1⟩, ⟨0, 1⟩⟩ (by omega) (by omega) (by rw [yU]; have := hs q; omega)
    simp only [Int.toNat_zero, List.drop_zero] at this
    rw [this, hk2, Option.bind_some, yr ⟨h0, h⟩, yr (by simp; omega)]
    refine hgo (_, _) ?_
    unfold lst; rw [if_neg hz]
  ·rw [if_neg (by simpa using h), show c.fLinks.length - q.toNat = 0 by omega]; rfl
theorem cst_lk {c : Cf} {rs : List (List Hop)} {de : DM} {p : Pl} : ∀ (n : Nat) (v : Int) (s : CS), 0 ≤ v → ((s.own.length : Int) ≤ v ∧ ∀ k, ((yn s.lk k []).length : Int) ≤ v) → (∀ k, ∀ x ∈ yn s.lk k [], 0 ≤ x ∧ x < v) →
  (((y3r v n).foldl (cst c rs de p) s).own.length : Int) ≤ v + n ∧ (∀ k, ((yn ((y3r v n).foldl (cst c rs de p) s).lk k []).length : Int) ≤ v + n) ∧ ∀ k, ∀ x ∈ yn ((y3r v n).foldl (cst c rs de p) s).lk k [], 0 ≤ x ∧ x < v + n
 | 0, v, s, _, h, h2 => ⟨by have := h.1; show (s.own.length : Int) ≤ _; omega, fun k => by have := h.2 k; show ((yn s.lk k []).length : Int) ≤ _; omega, fun k x hx => by have := h2 k x hx; omega⟩
 | n + 1, v, s, h0, h, h2 => by
  rw [y3r, List.foldl_cons]
  obtain ⟨a1, a2, a3⟩ := cst_lk (c := c) (rs := rs) (de := de) (p := p) n (v + 1) (cst c rs de p s v) (by omega) (ydf h) (fun k x hx => by
   unfold cst at hx
   simp only at hx
   split at hx
   ·split at hx
    ·rw [show (CS.lk ⟨_, _, _, _, _⟩) = yJ s.lk _ _ from rfl, y7i] at hx
     split at hx
     ·rcases List.mem_append.1 hx with hx | hx
      ·have := h2 _ x hx; omega
      ·rw [List.mem_singleton] at hx; omega
     ·have := h2 k x hx; omega
    ·have := h2 k x hx; omega
   ·have := h2 k x hx; omega)
  exact ⟨by omega, fun k => by have := a2 k; omega, fun k x hx => by have := a3 k x hx; omega⟩
def CU (c : Cf) (rs : List (List Hop)) (bu : BM) (de : DM) (e : Int) (p : Pl) : CR :=
 let s := (y3r 0 rs.length).foldl (cst c rs de p) ⟨[], 0, e, [], bu⟩
 let g := (y3r 0 c.fLinks.length).foldl (lst c s.lk s.bu p) ([], s.e)
 (s.own ++ g.1, s.most, g.2, s.bu)
theorem yf8 {c : Cf} {lk : List (Int × List Int)} {bu : BM} {p : Pl} : ∀ (n : Nat) (q : Int) (s : List (List B) × Int), ((y3r q n).foldl (lst c lk bu p) s).1.length ≤ s.1.length + n
 | 0, q, s => by show s.1.length ≤ _; omega
 | n + 1, q, s => by
  rw [y3r, List.foldl_cons]
  have h1 := yf8 (c := c) (lk := lk) (bu := bu) (p := p) n (q + 1) (lst c lk bu p s q)
  have h2 : (lst c lk bu p s q).1.length ≤ s.1.length + 1 := by
   unfold lst; split
   ·omega
   ·simp
  omega
theorem yga {c : Cf} {rs : List (List Hop)} {bu : BM} {de : DM} {e : Int} {p : Pl} (hv : VLs c) (hl : rs.length = c.fVLs.length) (hr : ∀ r ∈ rs, r.length < 1000000000) (hs : rs.length ≤ 16) (hL : c.fLinks.length ≤ 20) :
  y4a c rs bu de e p = some (CU c rs bu de e p) ∧ (CU c rs bu de e p).1.length ≤ 36 := by
 obtain ⟨a1, a2, a3⟩ := cst_lk (c := c) (rs := rs) (de := de) (p := p) rs.length 0 ⟨[], 0, e, [], bu⟩ (by omega) ⟨by simp, fun k => by simp [yn]⟩ (fun k x hx => by simp [yn] at hx)
 have hlen : (CU c rs bu de e p).1.length ≤ 36 := by
  unfold CU
  simp only [List.length_append]
  have := yf8 (c := c) (lk := ((y3r 0 rs.length).foldl (cst c rs de p) ⟨[], 0, e, [], bu⟩).lk) (bu := ((y3r 0 rs.length).foldl (cst c rs de p) ⟨[], 0, e, [], bu⟩).bu) (p := p) c.fLinks.length 0 ([], ((y3r 0 rs.length).foldl (cst c rs de p) ⟨[], 0, e, [], bu⟩).e)
  simp only [List.length_nil, Nat.zero_add] at this
  omega
 refine ⟨?_, hlen⟩
 unfold y4a
 refine yel (P := fun o => o = _) fun k hk => ?_
 have h1 := ydg (k := k) (p := p) (de := de) hv hl hr (by omega) yz 0 ⟨[], 0, e, [], bu⟩ (by omega) (by omega) (by rw [yU]; omega) ⟨by simp, fun k => by simp [yn]⟩
 simp only [Int.toNat_zero, Nat.sub_zero] at h1
 rw [h1, hk]
 refine ybj (P := fun o => o = _) fun k2 hk2 => ?_
 have h2 := ydh (rs := rs) (de := de) (p := p) (k := k2) (bu := ((y3r 0 rs.length).foldl (cst c rs de p) ⟨[], 0, e, [], bu⟩).bu) hv (fun q v hx => by have := a3 q v hx; omega) (fun q => by have := a2 q; omega) (by omega) yz 0 ([], ((y3r 0 rs.length).foldl (cst c rs de p) ⟨[], 0, e, [], bu⟩).e) (by omega) (by omega) (by rw [yU]; omega) (by simp)
 simp only [Int.toNat_zero, Nat.sub_zero] at h2
 rw [h2, hk2]
 unfold CU at hlen
 simp only at hlen
 rw [yr (by omega)]
 rfl
end Go.Proofs.YtcahmabkeaijdaaGreat
namespace Go.Proofs.YtcahmabkeaijdaaGreat
open Go Go.RowKit Sep
/-! ### a port -/
def er (x : Int) : Int := if x = 6 then 352 else x
def fe (e a b : Int) : Int := if (if e = 0 then er a else e) = 0 then er b else (if e = 0 then er a else e)
theorem ygb {x y : R × Int} {k : Int → Option (PB × Int × BM × DM)} (e : Int) : y1J x y k yz 0 e = k (fe e x.2 y.2) := by
 have hF : yz = (yz - 3) + 3 := by rw [yU]
 rw [hF]
 generalize yz - 3 = N
 have hstep : ∀ (n : Nat) (v e a : Int), 0 ≤ v → v < 2 → nth ([x.2, y.2] : List Int) v = a → y1J x y k (n + 1) v e = y1J x y k n (v + 1) (if e = 0 then er a else e) := by
  intro n v e a h0 h1 ha
  rw [y1J, if_pos (by simp; omega)]
  refine y2h (P := fun o => o = _) fun k1 hk1 => ?_
  rw [yr (by simp; omega)]
  refine y2h (P := fun o => o = _) fun k2 hk2 => ?_
  rw [ha]
  have e1 : (if decide (a = 6) = true then k2 352 else k2 a) = k2 (er a) := by
   unfold er; by_cases h : a = 6 <;> simp [h]
  have e2 : (if decide (e = 0) = true then k1 (er a) else k1 e) = k1 (if e = 0 then er a else e) := by
   by_cases h : e = 0 <;> simp [h]
  rw [e1, hk2, e2, hk1, yD (x := v + 1) (by omega)]
 rw [hstep (N + 2) 0 e x.2 (by omega) (by omega) rfl, hstep (N + 1) (0 + 1) _ y.2 (by omega) (by omega) rfl, y1J, if_neg (by simp)]
 rfl
def DL (l : List (List B)) (s : SV) : R × Int := if CKF l s = 0 then mxv (dv l s) (PTS l []) else (⟨0, 0⟩, CKF l s)
def BL (l : List (List B)) (s : SV) : R × Int := if CKF l s = 0 then mxv (bv l s) (PTS l [s.fL]) else (⟨0, 0⟩, CKF l s)
theorem Delay_eq {l : List (List B)} {s : SV} (hl : l.length ≤ 40) : y4Y l s = some (DL l s) := by
 unfold y4Y DL
 rw [max_eq hl (by simp), Option.bind_some]
theorem yfB {l : List (List B)} {s : SV} (hl : l.length ≤ 40) : y4o l s = some (BL l s) := by
 unfold y4o BL
 rw [maxb_eq hl (by simp), Option.bind_some]
def lat (c : Cf) (p : Pl) : Int := if p.fNode - nM c ≥ 0 then (nth c.fSwitches (p.fNode - nM c)).fDelay else 0
def srv (c : Cf) (p : Pl) : SV := ⟨⟨1, (nth c.fLinks p.fLink).fSlow⟩, ⟨lat c p, 1⟩⟩
def PO (c : Cf) (rs : List (List Hop)) (bu : BM) (de : DM) (e : Int) (p : Pl) : PB × Int × BM × DM :=
 let u := CU c rs bu de e p
 let d := DL u.1 (srv c p)
 let b := BL u.1 (srv c p)
 (⟨p.fNode, p.fLink, flr d.1, i64 (flr b.1 + u.2.1)⟩, fe u.2.2.1 d.2 b.2, u.2.2.2, yJ de p (flr d.1))
structure PI (c : Cf) (p : Pl) : Prop where
 l0 : 0 ≤ p.fLink
 l1 : p.fLink < c.fLinks.length
 n0 : 0 ≤ p.fNode
 n1 : p.fNode < nN c
theorem port_eq {c : Cf} {rs : List (List Hop)} {bu : BM} {de : DM} {e : Int} {p : Pl} (hv : VLs c) (hl : rs.length = c.fVLs.length) (hr : ∀ r ∈ rs, r.length < 1000000000) (hs : rs.length ≤ 16) (hL : c.fLinks.length ≤ 20) (hS : Small c) (hp : PI c p) :
  y4D c rs bu de e p = some (PO c rs bu de e p) := by
 unfold y4D
 obtain ⟨a1, a2⟩ := yga (bu := bu) (de := de) (e := e) (p := p) hv hl hr hs hL
 have hn1 := hp.n1; have hn0 := hp.n0; have hm := hS.m; have hsw := hS.s
 unfold nN at hn1
 rw [a1, Option.bind_some]
 refine ybj (P := fun o => o = _) fun k hk => ?_
 have hlat : (if decide ((i64 (p.fNode - ((c.fModules.length : Nat) : Int))) ≥ 0) then chk ((0 : Int) ≤ (i64 (p.fNode - ((c.fModules.length : Nat) : Int))) ∧ (i64 (p.fNode - ((c.fModules.length : Nat) : Int))) < ((c.fSwitches.length : Nat) : Int)) (k (CU c rs bu de e p).1 ((nth c.fSwitches (i64 (p.fNode - ((c.fModules.length : Nat) : Int)))).fDelay)) else k (CU c rs bu de e p).1 0) = k (CU c rs bu de e p).1 (lat c p) := by
  rw [yD (x := p.fNode - ((c.fModules.length : Nat) : Int)) (by omega)]
  unfold lat nM
  by_cases h : p.fNode - ((c.fModules.length : Nat) : Int) ≥ 0
  ·rw [if_pos (decide_eq_true h), yr ⟨h, by omega⟩, if_pos h]
  ·rw [if_neg (by simpa using h), if_neg h]
 rw [hlat, hk, yr ⟨hp.l0, hp.l1⟩]
 unfold y2c
 rw [Option.bind_some, Delay_eq (by omega), Option.bind_some, yfB (by omega), Option.bind_some]
 refine y2h (P := fun o => o = _) fun k2 hk2 => ?_
 rw [ygb, hk2]
 rw [(ybi _).1, Option.bind_some, (ybi _).1, Option.bind_some, y9K]
 rfl
/-! ### all ports -/
structure WS where
 out : List PB
 e : Int
 bu : BM
 de : DM
def wst (c : Cf) (rs : List (List Hop)) (s : WS) (p : Pl) : WS := let x := PO c rs s.bu s.de s.e p; ⟨s.out ++ [x.1], x.2.1, x.2.2.1, x.2.2.2⟩
def y8p (c : Cf) (rs : List (List Hop)) : List Pl → WS → WS ⊕ Int
 | [], s => .inl s
 | p :: l, s => if (wst c rs s p).e ≠ 0 then .inr (wst c rs s p).e else y8p c rs l (wst c rs s p)
theorem ycr {c : Cf} {rs : List (List Hop)} {l : List Pl × Int} {k : List PB → Option (S37 × Int)} (hv : VLs c) (hl : rs.length = c.fVLs.length) (hr : ∀ r ∈ rs, r.length < 1000000000) (hs : rs.length ≤ 16) (hL : c.fLinks.length ≤ 20) (hS : Small c) (hp : ∀ p ∈ l.1, PI c p) (hle : l.1.length ≤ 100000) :
  ∀ (n : Nat) (v : Int) (s : WS), 0 ≤ v → v ≤ l.1.length → l.1.length < n + v → s.out.length = v →
   y2g l c rs k n v s.e s.out s.bu s.de = match y8p c rs (l.1.drop v.toNat) s with | .inl t => k t.out | .inr e => some (⟨[], []⟩, e)
 | 0, v, s, h0, h1, h2, h3 => by omega
 | n + 1, v, s, h0, h1, h2, h3 => by
  rw [y2g]
  by_cases h : v < l.1.length
  ·rw [if_pos (decide_eq_true h), yr ⟨h0, h⟩, y4z h0 h]
   have e : (⟨((nth l.1 v).fNode), ((nth l.1 v).fLink)⟩ : Sbound_place) = nth l.1 v := rfl
   rw [e, port_eq hv hl hr hs hL hS (hp _ (y1B h0 h)), Option.bind_some, yr (by simp; omega), y8p]
   by_cases he : (wst c rs s (nth l.1 v)).e ≠ 0
   ·rw [if_pos he, if_pos (by exact decide_eq_true he)]; rfl
   ·rw [if_neg he, if_neg (by rw [decide_eq_true_eq]; exact he), yD (x := v + 1) (by omega)]
    have := ycr (k := k) hv hl hr hs hL hS hp hle n (v + 1) (wst c rs s (nth l.1 v)) (by omega) (by omega) (by omega) (by simp [wst]; omega)
    rw [show (v + 1).toNat = v.toNat + 1 by omega] at this
    exact this
  ·rw [if_neg (by simpa using h), List.drop_eq_nil_of_le (by omega)]; rfl
/-! ### sorting -/
def pbk (b : PB) : Pl := ⟨b.fNode, b.fLink⟩
theorem ygc {l : List PB} (hn : (l.map pbk).Nodup) (hs : l.length ≤ 1000000) :
  y1f l (fun y0 y1 => y13 y0 y1) = some (yS y13 l) ∧ (yS y13 l).Pairwise fun a b => ¬ plt (pbk b) (pbk a) := by
 have hinj : ∀ x ∈ l, ∀ y ∈ l, pbk x = pbk y → x = y := by
  intro x hx y hy e
  obtain ⟨i, hi, rfl⟩ := List.getElem_of_mem hx
  obtain ⟨j, hj, rfl⟩ := List.getElem_of_mem hy
  have h1 : (l.map pbk)[i]'(by simpa using hi) = (l.map pbk)[j]'(by simpa using hj) := by simpa using e
  have := (List.getElem_inj (h₀ := by simpa using hi) (h₁ := by simpa using hj) hn).1 h1
  subst this; rfl
 obtain ⟨ho, hsrt⟩ := ycM (p := y13) (lt := fun a b => plt (pbk a) (pbk b)) (l := l) (fun x _ y _ => by
  obtain ⟨v, e1, e2⟩ := ych (pbk x) (pbk y)
  refine ⟨v, ?_, e2⟩
  unfold y13
  rw [show (⟨x.fNode, x.fLink⟩ : Sbound_place) = pbk x from rfl, show (⟨y.fNode, y.fLink⟩ : Sbound_place) = pbk y from rfl, e1]; rfl) (fun x y => ydX _ _) (fun x y z => plt_tr _ _ _) (fun x hx y hy h1 h2 => hinj x hx y hy (plt_eq _ _ h1 h2))
 refine ⟨?_, hsrt⟩
 unfold y1f y3W y2V
 rw [ycN (by omega), yr (by omega), Option.bind_some]
 have hb := ybN l.length (by omega)
 rw [Int.toNat_natCast, yr ⟨⟨rfl, rfl⟩, by omega, by omega, by omega⟩, yr ho, Option.bind_some]
/-! ### the ends -/
theorem ydi {r : List Hop} {k : Option Bool} (hl : r.length < 1000000000) : ∀ (n : Nat) (v : Int), 0 ≤ v → v ≤ r.length → r.length < n + v →
  ((∃ q : Int, v ≤ q ∧ q < r.length ∧ (y2I (r.take q.toNat) (nth r q).fNode).2 = false ∧ (nth r q).fNode ≠ (nth r 0).fNode) ∧ y3w r k n v = some false) ∨
  ((∀ q : Int, v ≤ q → q < r.length → (y2I (r.take q.toNat) (nth r q).fNode).2 = true ∨ (nth r q).fNode = (nth r 0).fNode) ∧ y3w r k n v = k)
 | 0, v, h0, h1, h2 => by omega
 | n + 1, v, h0, h1, h2 => by
  rw [y3w]
  by_cases h : v < r.length
  ·rw [if_pos (decide_eq_true h), yr ⟨h0, h⟩, yr ⟨by omega, h0, by omega⟩, ycO (by rw [List.length_take]; omega), Option.bind_some, yr (fun _ => ⟨by omega, by omega⟩)]
   by_cases hc : (!(y2I (r.take v.toNat) (nth r v).fNode).2 && decide ((nth r v).fNode ≠ (nth r 0).fNode)) = true
   ·rw [if_pos hc]
    simp only [Bool.and_eq_true, Bool.not_eq_true', decide_eq_true_eq] at hc
    exact .inl ⟨⟨v, by omega, h, hc.1, hc.2⟩, rfl⟩
   ·rw [if_neg hc, yD (x := v + 1) (by omega)]
    have hc2 : (y2I (r.take v.toNat) (nth r v).fNode).2 = true ∨ (nth r v).fNode = (nth r 0).fNode := by
     simp only [Bool.and_eq_true, Bool.not_eq_true', decide_eq_true_eq] at hc
     by_cases h5 : (nth r v).fNode = (nth r 0).fNode
     ·exact .inr h5
     ·refine .inl ?_
      cases h6 : (y2I (r.take v.toNat) (nth r v).fNode).2 with
      | true => rfl
      | false => exact absurd ⟨h6, h5⟩ hc
    rcases ydi hl n (v + 1) (by omega) (by omega) (by omega) (k := k) with ⟨⟨q, q1, q2⟩, h3⟩ | ⟨h3, h4⟩
    ·exact .inl ⟨⟨q, by omega, q2⟩, h3⟩
    ·refine .inr ⟨fun q q1 q2 => ?_, h4⟩
     by_cases e : q = v
     ·rw [e]; exact hc2
     ·exact h3 q (by omega) q2
  ·rw [if_neg (by simpa using h)]
   exact .inr ⟨fun q q1 q2 => by omega, rfl⟩
theorem VR.tree {c : Cf} {net : Int} {r : List Hop} (h : VR c net r) : y6z r = some true := by
 have hl := h.len
 unfold y6z
 have hF := yU
 generalize yz = N at hF ⊢
 refine y50 (P := fun o => o = some true) fun k hk => ?_
 rcases ydi (k := k) (by omega) N 0 (by omega) (by omega) (by omega) (r := r) with ⟨⟨q, q1, q2, q3, q4⟩, h5⟩ | ⟨h3, h4⟩
 ·exfalso
  have hc := (h.cond q q1 q2).1
  rcases hc with hc | ⟨j, j0, j1, j2⟩
  ·exact q4 hc
  ·have hm : nth r j ∈ r.take q.toNat := by
    rw [yaa ⟨j0, by omega⟩]
    have : (r.take q.toNat)[j.toNat]'(by simp; omega) = r[j.toNat]'(by omega) := List.getElem_take
    rw [← this]; exact List.getElem_mem _
   have := ye2 hm
   rw [j2, q3] at this; cases this
 ·rw [h4, hk]
abbrev SM := List (Int × Int)
structure ES where
 ends : List Sapi_End
 sum : SM
def est (c : Cf) (r : List Hop) (de : DM) (vl : Int) (s : ES) (h : Hop) : ES :=
 if y2J s.sum h.fNext || decide (h.fNext = (nth r 0).fNode) then s else
  let m := yJ s.sum h.fNext (i64 (yn s.sum h.fNode 0 + yn de (pk h) 0))
  ⟨if 0 ≤ h.fNext ∧ h.fNext < nM c then s.ends ++ [⟨vl, h.fNext, yn m h.fNext 0⟩] else s.ends, m⟩
theorem yem {c : Cf} {rs : List (List Hop)} {v : Int} {de : DM} {k : List Sapi_End → Option (List Sapi_End)} (h0v : 0 ≤ v ∧ v < rs.length) (hl : (nth rs v).length ≤ 1000) : ∀ (n : Nat) (i : Int) (s : ES), 0 ≤ i → i ≤ (nth rs v).length → (nth rs v).length < n + i → (s.ends.length : Int) ≤ i →
  y42 rs v c de k n s.ends i s.sum = k (((nth rs v).drop i.toNat).foldl (est c (nth rs v) de v) s).ends
 | 0, i, s, h0, h1, h2, h3 => by omega
 | n + 1, i, s, h0, h1, h2, h3 => by
  rw [y42]
  by_cases h : i < (nth rs v).length
  ·rw [if_pos (decide_eq_true h), y4z h0 h, List.foldl_cons]
   refine ybj (P := fun o => o = _) fun k1 hk1 => ?_
   have hlen : ((est c (nth rs v) de v s (nth (nth rs v) i)).ends.length : Int) ≤ i + 1 := by
    unfold est
    simp only
    split
    ·omega
    ·show (((if _ then _ else _ : List Sapi_End)).length : Int) ≤ _
     split
     ·simp; omega
     ·omega
   have hgo : ∀ t : ES, t = est c (nth rs v) de v s (nth (nth rs v) i) → k1 t.ends t.sum = k (((nth rs v).drop (i.toNat + 1)).foldl (est c (nth rs v) de v) (est c (nth rs v) de v s (nth (nth rs v) i))).ends := fun t ht => by
    subst ht
    rw [hk1, yD (x := i + 1) (by omega)]
    have := yem (k := k) (c := c) (de := de) h0v hl n (i + 1) (est c (nth rs v) de v s (nth (nth rs v) i)) (by omega) (by omega) (by omega) hlen
    rw [show (i + 1).toNat = i.toNat + 1 by omega] at this
    exact this
   rw [yr ⟨h0, h⟩, yr (fun _ => ⟨by omega, by omega⟩)]
   by_cases hc : (y2J s.sum ((nth (nth rs v) i).fNext) || decide ((nth (nth rs v) i).fNext = (nth (nth rs v) 0).fNode)) = true
   ·rw [if_pos hc]
    refine hgo s ?_
    unfold est; rw [if_pos hc]
   ·rw [if_neg hc, ycg, Option.bind_some]
    by_cases hn : 0 ≤ (nth (nth rs v) i).fNext ∧ (nth (nth rs v) i).fNext < nM c
    ·rw [if_pos (by have := hn.2; unfold nM at this; simp only [Bool.and_eq_true, decide_eq_true_eq]; exact ⟨hn.1, this⟩), yr (by simp; omega)]
     refine hgo ⟨_, _⟩ ?_
     unfold est; rw [if_neg hc]; simp only; rw [if_pos hn]
    ·rw [if_neg (by unfold nM at hn; simp only [Bool.and_eq_true, decide_eq_true_eq]; exact hn)]
     refine hgo ⟨s.ends, yJ s.sum (nth (nth rs v) i).fNext (i64 (yn s.sum (nth (nth rs v) i).fNode 0 + yn de (pk (nth (nth rs v) i)) 0))⟩ ?_
     unfold est; rw [if_neg hc]; simp only; rw [if_neg hn]
  ·rw [if_neg (by simpa using h), List.drop_eq_nil_of_le (by omega)]; rfl
structure EI (c : Cf) (vl : Int) (s : ES) : Prop where
 nd : (s.ends.map (·.fNode)).Nodup
 vl : ∀ x ∈ s.ends, x.fVL = vl ∧ 0 ≤ x.fNode ∧ x.fNode < nM c ∧ y2J s.sum x.fNode = true
theorem EI.step {c : Cf} {r : List Hop} {de : DM} {v : Int} {s : ES} {h : Hop} (hi : EI c v s) : EI c v (est c r de v s h) := by
 unfold est
 split
 ·exact hi
 ·rename_i hc
  simp only [Bool.or_eq_true, not_or, decide_eq_true_eq, Bool.not_eq_true] at hc
  simp only
  have hk : ∀ n, y2J s.sum n = true → y2J (yJ s.sum h.fNext (i64 (yn s.sum h.fNode 0 + yn de (pk h) 0))) n = true := fun n hn => by rw [ybM, hn]; simp
  split
  ·rename_i hn
   refine ⟨?_, fun x hx => ?_⟩
   ·rw [List.map_append]
    refine List.nodup_append.2 ⟨hi.nd, by simp, fun a ha b hb => ?_⟩
    simp at hb; subst hb
    rintro rfl
    obtain ⟨x, hx, e⟩ := List.mem_map.1 ha
    have := (hi.vl x hx).2.2.2
    rw [e, hc.1] at this; cases this
   ·rcases List.mem_append.1 hx with hx | hx
    ·obtain ⟨a1, a2, a3, a4⟩ := hi.vl x hx
     exact ⟨a1, a2, a3, hk _ a4⟩
    ·rw [List.mem_singleton] at hx; subst hx
     exact ⟨rfl, hn.1, hn.2, by show y2J (yJ _ _ _) h.fNext = true; rw [ybM]; simp⟩
  ·exact ⟨hi.nd, fun x hx => by obtain ⟨a1, a2, a3, a4⟩ := hi.vl x hx; exact ⟨a1, a2, a3, hk _ a4⟩⟩
theorem EI.fold {c : Cf} {r : List Hop} {de : DM} {v : Int} : ∀ (hs : List Hop) {s : ES}, EI c v s → EI c v (hs.foldl (est c r de v) s)
 | [], _, hi => hi
 | h :: hs, _, hi => by rw [List.foldl_cons]; exact EI.fold hs hi.step
def VE (c : Cf) (rs : List (List Hop)) (de : DM) (v : Int) : List Sapi_End := ((nth rs v).foldl (est c (nth rs v) de v) ⟨[], []⟩).ends
theorem VE_inv (c : Cf) (rs : List (List Hop)) (de : DM) (v : Int) : EI c v ((nth rs v).foldl (est c (nth rs v) de v) ⟨[], []⟩) := EI.fold _ ⟨by simp, by simp⟩
theorem VE_len {c : Cf} {rs : List (List Hop)} {de : DM} {v : Int} : (VE c rs de v).length ≤ (nth rs v).length := by
 unfold VE
 have : ∀ (hs : List Hop) (s : ES), (hs.foldl (est c (nth rs v) de v) s).ends.length ≤ s.ends.length + hs.length := by
  intro hs
  induction hs with
  | nil => intro s; simp
  | cons h hs ih =>
   intro s
   rw [List.foldl_cons]
   have h1 := ih (est c (nth rs v) de v s h)
   have h2 : (est c (nth rs v) de v s h).ends.length ≤ s.ends.length + 1 := by
    unfold est
    split
    ·omega
    ·simp only; split
     ·simp
     ·omega
   rw [List.length_cons]; omega
 have := this (nth rs v) ⟨[], []⟩
 simpa using this
def elt (a b : Sapi_End) : Prop := a.fNode < b.fNode
theorem sortE_eq {c : Cf} {v : Int} {l : List Sapi_End} (hS : Small c) (hn : (l.map (·.fNode)).Nodup) (hb : ∀ x ∈ l, x.fVL = v ∧ 0 ≤ x.fNode ∧ x.fNode < nM c) (hs : l.length ≤ 1000000) :
  y1T l (fun y0 y1 => y2Q y0 y1) = some (yS y2Q l) := by
 have hm := hS.m
 have hinj : ∀ x ∈ l, ∀ y ∈ l, x.fNode = y.fNode → x = y := by
  intro x hx y hy e
  obtain ⟨i, hi, rfl⟩ := List.getElem_of_mem hx
  obtain ⟨j, hj, rfl⟩ := List.getElem_of_mem hy
  have h1 : (l.map (·.fNode))[i]'(by simpa using hi) = (l.map (·.fNode))[j]'(by simpa using hj) := by simpa using e
  have := (List.getElem_inj (h₀ := by simpa using hi) (h₁ := by simpa using hj) hn).1 h1
  subst this; rfl
 obtain ⟨ho, _⟩ := ycM (p := y2Q) (lt := elt) (l := l) (fun x hx y hy => by
  have h1 := hb x hx; have h2 := hb y hy
  unfold nM at h1 h2
  refine ⟨_, rfl, ?_⟩
  rw [yD (by omega)]
  unfold elt
  omega) (fun x y => by unfold elt; omega) (fun x y z => by unfold elt; omega) (fun x hx y hy h1 h2 => hinj x hx y hy (by unfold elt at h1 h2; omega))
 unfold y1T y3W y3P
 rw [ycN (by omega), yr (by omega), Option.bind_some]
 have hb := ybN l.length (by omega)
 rw [Int.toNat_natCast, yr ⟨⟨rfl, rfl⟩, by omega, by omega, by omega⟩, yr ho, Option.bind_some]
theorem yf9 {c : Cf} {rs : List (List Hop)} {de : DM} {k : List Sapi_End → Option (List Sapi_End)} (hS : Small c) (hr : ∀ r ∈ rs, r.length ≤ 1000) (hl : rs.length ≤ 100) : ∀ (n : Nat) (v : Int) (o : List Sapi_End), 0 ≤ v → v ≤ rs.length → rs.length < n + v → (o.length : Int) ≤ 1000 * v →
  y43 rs c de k n o v = k (o ++ (y3r v (rs.length - v.toNat)).flatMap fun v => yS y2Q (VE c rs de v))
 | 0, v, o, h0, h1, h2, h3 => by omega
 | n + 1, v, o, h0, h1, h2, h3 => by
  rw [y43]
  by_cases h : v < rs.length
  ·have hrl := hr _ (y1B h0 h)
   rw [if_pos (decide_eq_true h), show rs.length - v.toNat = (rs.length - (v + 1).toNat) + 1 by omega, y3r, List.flatMap_cons]
   refine y2h (P := fun x => x = _) fun k1 hk1 => ?_
   rw [yr ⟨h0, h⟩]
   refine y2h (P := fun x => x = _) fun k2 hk2 => ?_
   have h4 := yem (k := k2) (c := c) (de := de) ⟨h0, h⟩ hrl yz 0 ⟨[], []⟩ (by omega) (by omega) (by rw [yU]; omega) (by simp)
   simp only [Int.toNat_zero, List.drop_zero] at h4
   have hi := VE_inv c rs de v
   have hlen := VE_len (c := c) (rs := rs) (de := de) (v := v)
   rw [h4, hk2]
   have hi1 : ((VE c rs de v).map (·.fNode)).Nodup := hi.nd
   have hi2 : ∀ x ∈ VE c rs de v, x.fVL = v ∧ 0 ≤ x.fNode ∧ x.fNode < nM c := fun x hx => by obtain ⟨a1, a2, a3, _⟩ := hi.vl x hx; exact ⟨a1, a2, a3⟩
   rw [show ((nth rs v).foldl (est c (nth rs v) de v) ⟨[], []⟩).ends = VE c rs de v from rfl]
   rw [sortE_eq (v := v) hS hi1 hi2 (by omega), Option.bind_some]
   have hsl := y5b y2Q (VE c rs de v)
   rw [yr (by rw [List.length_append]; omega), hk1, yD (x := v + 1) (by omega), yf9 hS hr hl n (v + 1) _ (by omega) (by omega) (by omega) (by rw [List.length_append]; omega), List.append_assoc]
  ·rw [if_neg (by simpa using h), show rs.length - v.toNat = 0 by omega]; simp [y3r]
def dem (l : List PB) : DM := l.foldr (fun b m => yJ m (pbk b) b.fDelay) []
theorem yen {l : List PB} {k : DM → Option (List Sapi_End)} (hl : l.length ≤ 1000000) : ∀ (n : Nat) (i : Int) (m : DM), -1 ≤ i → i < l.length → i + 1 < n → y41 l k n i m = k ((l.take (i + 1).toNat).foldr (fun b m => yJ m (pbk b) b.fDelay) m)
 | 0, i, m, h0, h1, h2 => by omega
 | n + 1, i, m, h0, h1, h2 => by
  rw [y41]
  by_cases h : i ≥ 0
  ·rw [if_pos (decide_eq_true h), yr ⟨h, h1⟩, yD (x := i - 1) (by omega), yen hl n (i - 1) _ (by omega) (by omega) (by omega)]
   congr 1
   have h3 : i.toNat < l.length := by omega
   rw [show (i + 1).toNat = i.toNat + 1 by omega, show (i - 1 + 1).toNat = i.toNat by omega, List.take_succ, List.getElem?_eq_getElem h3, List.foldr_append]
   rw [yaa ⟨h, h1⟩]
   rfl
  ·rw [if_neg (by simpa using h), show (i + 1).toNat = 0 by omega]; rfl
def EN (c : Cf) (rs : List (List Hop)) (ps : List PB) : List Sapi_End := (y3r 0 rs.length).flatMap fun v => yS y2Q (VE c rs (dem ps) v)
theorem ygd {rs : List (List Hop)} {c : Cf} {net : Int} (hv : ∀ r ∈ rs, VR c net r) (hl : rs.length < 1000000000) : yV rs (fun y0 => y3M y0) = some false := by
 unfold yV y1D
 have hF := yU
 generalize yz = N at hF ⊢
 have hf : ∀ y ∈ rs, y3M y = some false := fun y hy => by unfold y3M; rw [(hv y hy).tree]; rfl
 refine y50 (P := fun o => (o.bind fun x => some (decide (x ≥ 0))) = some false) fun k hk => ?_
 rcases y9r (f := fun y0 => y3M y0) (k := k) (fun y hy => ⟨false, hf y hy⟩) hl N 0 (by omega) (by omega) (by omega) with ⟨i, i1, i2, i3, i4⟩ | ⟨i1, i2⟩
 ·rw [hf _ (y1B i1 i2)] at i3; cases i3
 ·rw [i2, hk]; rfl
theorem Ends_eq {c : Cf} {net : Int} {rs : List (List Hop)} {ps : List PB} (hS : Small c) (hv : ∀ r ∈ rs, VR c net r) (hl : rs.length ≤ 100) (hp : ps.length ≤ 1000000) : y6A c rs ps = some (EN c rs ps) := by
 unfold y6A
 rw [ygd hv (by omega), Option.bind_some, if_neg (by simp)]
 refine y2h (P := fun o => o = _) fun k hk => ?_
 have h1 := yen (k := k) hp yz (((ps.length : Nat) : Int) - 1) [] (by omega) (by omega) (by rw [yU]; omega)
 rw [yD (x := ((ps.length : Nat) : Int) - 1) (by omega), h1, hk, show (((ps.length : Nat) : Int) - 1 + 1).toNat = ps.length by omega, List.take_length]
 refine y2h (P := fun o => o = _) fun k2 hk2 => ?_
 have h2 := yf9 (k := k2) (de := dem ps) hS (fun r hr => by have := (hv r hr).len; omega) hl yz 0 [] (by omega) (by omega) (by rw [yU]; omega) (by simp)
 simp only [Int.toNat_zero, Nat.sub_zero, List.nil_append] at h2
 rw [show (ps.foldr (fun b m => yJ m (pbk b) b.fDelay) ([] : DM)) = dem ps from rfl, h2, hk2]
 rfl
end Go.Proofs.YtcahmabkeaijdaaGreat
namespace Go.Proofs.YtcahmabkeaijdaaGreat
open Go Go.RowKit Sep
/-! ### virtual links -/
def gapL : List Int := [100, 200, 400, 800, 1600, 3200, 6400, 12800]
theorem gap_eq (b : Int) : y75 b = some (decide (b ∈ gapL)) := by
 unfold y75
 have hF : yz = (yz - 9) + 9 := by rw [yU]
 rw [hF]
 generalize yz - 9 = N
 refine y50 (P := fun o => o = _) fun k hk => ?_
 have hstep : ∀ (n : Nat) (x : Int), 0 ≤ x → x ≤ 12800 → y2P b k (n + 1) x = if x = b then some true else y2P b k n (2 * x) := fun n x h0 h1 => by
  rw [y2P, if_pos (decide_eq_true h1), yD (x := x * 2) (by omega), Int.mul_comm]
  by_cases h : x = b
  ·rw [if_pos (decide_eq_true h), if_pos h]
  ·rw [if_neg (by simpa using h), if_neg h]
 have hend : y2P b k (N + 1) (2 * 12800) = some false := by
  rw [y2P, if_neg (by decide), hk]
 rw [hstep _ 100 (by omega) (by omega), hstep _ (2 * 100) (by omega) (by omega), hstep _ (2 * (2 * 100)) (by omega) (by omega), hstep _ (2 * (2 * (2 * 100))) (by omega) (by omega), hstep _ (2 * (2 * (2 * (2 * 100)))) (by omega) (by omega), hstep _ (2 * (2 * (2 * (2 * (2 * 100))))) (by omega) (by omega), hstep _ (2 * (2 * (2 * (2 * (2 * (2 * 100)))))) (by omega) (by omega), hstep _ (2 * (2 * (2 * (2 * (2 * (2 * (2 * 100))))))) (by omega) (by omega)]
 have : (2 * (2 * (2 * (2 * (2 * (2 * (2 * (2 * 100)))))) ) : Int) = 2 * 12800 := by decide
 rw [this, hend]
 unfold gapL
 repeat' split
 all_goals
  simp only [Option.some.injEq]
  first
  | (symm; rw [decide_eq_true_iff]; simp only [List.mem_cons, List.not_mem_nil, or_false]; omega)
  | (symm; rw [decide_eq_false_iff_not]; simp only [List.mem_cons, List.not_mem_nil, or_false]; omega)
def vok (v : Sapi_VL) : Prop := v.fBag ∈ gapL ∧ 1 ≤ v.fMax ∧ v.fMax ≤ 72
instance (v : Sapi_VL) : Decidable (vok v) := inferInstanceAs (Decidable (_ ∧ _))
theorem vl1_eq (v : Sapi_VL) : y2t v = some (!decide (vok v)) := by
 unfold y2t vok
 rw [gap_eq, Option.bind_some]
 congr 1
 by_cases h1 : v.fBag ∈ gapL <;> by_cases h2 : 1 ≤ v.fMax <;> by_cases h3 : v.fMax ≤ 72 <;> simp [h1, h2, h3] <;> omega
theorem yb0 {l : List Sapi_VL} {k : Option Int} (hl : l.length < 1000000000) : ∀ (n : Nat) (v : Int), 0 ≤ v → v ≤ l.length → l.length < n + v →
  ((∃ i : Int, v ≤ i ∧ i < l.length ∧ ¬ vok (nth l i) ∧ yZ l (fun y0 => y2t y0) k n v = some i) ∨ ((∀ i : Int, v ≤ i → i < l.length → vok (nth l i)) ∧ yZ l (fun y0 => y2t y0) k n v = k))
 | 0, v, h0, h1, h2 => by omega
 | n + 1, v, h0, h1, h2 => by
  rw [yZ]
  by_cases h : v < l.length
  ·rw [if_pos (decide_eq_true h), yr ⟨h0, h⟩]
   have e : (⟨((nth l v).fName), (⟨(((nth l v).fFrom).fModule), (((nth l v).fFrom).fPart), (((nth l v).fFrom).fPort)⟩ : Sapi_Ref), ((nth l v).fBag), ((nth l v).fMax), ((nth l v).fTo)⟩ : Sapi_VL) = nth l v := rfl
   rw [e, vl1_eq, Option.bind_some]
   by_cases hv : vok (nth l v)
   ·rw [if_neg (by simpa using hv), yD (x := v + 1) (by omega)]
    rcases yb0 hl n (v + 1) (by omega) (by omega) (by omega) (k := k) with ⟨i, i1, i2, i3, i4⟩ | ⟨i1, i2⟩
    ·exact .inl ⟨i, by omega, i2, i3, i4⟩
    ·refine .inr ⟨fun i j1 j2 => ?_, i2⟩
     by_cases e : i = v
     ·rw [e]; exact hv
     ·exact i1 i (by omega) j2
   ·rw [if_pos (by simpa using hv)]
    exact .inl ⟨v, Int.le_refl _, h, hv, rfl⟩
  ·rw [if_neg (by simpa using h)]
   exact .inr ⟨fun i h1 h2 => by omega, rfl⟩
def VOK (c : Cf) : Prop := ∀ v ∈ c.fVLs, vok v
theorem vls_eq {c : Cf} (hl : c.fVLs.length < 1000000000) : ∃ b, y1M c.fVLs (fun y0 => y2t y0) = some b ∧ (b = false ↔ VOK c) := by
 unfold y1M y2G
 have hF := yU
 generalize yz = N at hF ⊢
 refine y50 (P := fun o => ∃ b, (o.bind fun x => some (decide (x ≥ 0))) = some b ∧ (b = false ↔ VOK c)) fun k hk => ?_
 rcases yb0 (k := k) hl N 0 (by omega) (by omega) (by omega) with ⟨i, i1, i2, i3, i4⟩ | ⟨i1, i2⟩
 ·refine ⟨true, by rw [i4]; simp [i1], ?_⟩
  simp only [Bool.true_eq_false, false_iff]
  exact fun h => i3 (h _ (y1B i1 i2))
 ·refine ⟨false, by rw [i2, hk]; rfl, ?_⟩
  simp only [true_iff]
  intro v hv
  obtain ⟨i, j0, j1, rfl⟩ := y7Z hv
  exact i1 i j0 j1
theorem VOK.vls {c : Cf} (h : VOK c) : VLs c := fun v hv => by
 obtain ⟨h1, h2, h3⟩ := h v hv
 refine ⟨?_, h2, h3⟩
 unfold gapL at h1
 simp only [List.mem_cons, List.not_mem_nil, or_false] at h1
 omega
/-! ### the whole computation -/
theorem VA.pi {c : Cf} {net : Int} {rs : List (List Hop)} (hS : Small c) (hv : VA c net rs) {p : Pl} (hp : p ∈ PS rs) : PI c p := by
 obtain ⟨r, hr, h, hh, rfl⟩ := (y91 rs p).1 hp
 obtain ⟨i, i0, i1, rfl⟩ := y7Z hh
 obtain ⟨_, _, _, j0, j1, _, _, _, _, jf1, jf2, jj⟩ := (hv.each r hr).cond i i0 i1
 have hA := (fA_eq hS (nth r i).fLink).2
 have hB := (fB_eq hS (nth r i).fLink).2
 refine ⟨j0, j1, ?_, ?_⟩
 ·have a1 := jf1.1; have a2 := jf2.1
  show 0 ≤ (nth r i).fNode
  rcases jj with ⟨e, _⟩ | ⟨_, e⟩ <;> omega
 ·show (nth r i).fNode < nN c
  rcases jj with ⟨e, _⟩ | ⟨_, e⟩ <;> omega
def w0 : WS := ⟨[], 0, [], []⟩
theorem ybU {c : Cf} {rs : List (List Hop)} : ∀ (l : List Pl) (s t : WS), y8p c rs l s = .inl t → t.out.map pbk = s.out.map pbk ++ l ∧ t.out.length = s.out.length + l.length ∧ (s.e = 0 → t.e = 0)
 | [], s, t, h => by injection h with h; subst h; simp
 | p :: l, s, t, h => by
  rw [y8p] at h
  split at h
  ·cases h
  ·rename_i he
   obtain ⟨h1, h2, h3⟩ := ybU l _ t h
   have e : (wst c rs s p).out = s.out ++ [(PO c rs s.bu s.de s.e p).1] := rfl
   rw [e] at h1 h2
   refine ⟨?_, ?_, fun _ => h3 (by simpa using he)⟩
   ·rw [h1, List.map_append, List.append_assoc]; rfl
   ·rw [h2]; simp; omega
inductive CP (c : Cf) (net : Int) (rs : List (List Hop)) : S37 × Int → Prop
 | route : ¬ VA c net rs → CP c net rs (⟨[], []⟩, 310)
 | vl : VA c net rs → ¬ VOK c → CP c net rs (⟨[], []⟩, 350)
 | cycle (s : List Pl) : VA c net rs → VOK c → y9k rs s → CP c net rs (⟨[], []⟩, 351)
 | err (l : List Pl) (e : Int) : VA c net rs → VOK c → l.Perm (PS rs) → y6R rs l → y8p c rs l w0 = .inr e → e ≠ 0 → CP c net rs (⟨[], []⟩, e)
 | ok (l : List Pl) (t : WS) : VA c net rs → VOK c → l.Perm (PS rs) → y6R rs l → y8p c rs l w0 = .inl t → CP c net rs (⟨yS y13 t.out, EN c rs (yS y13 t.out)⟩, 0)
theorem yeo {c : Cf} {rs : List (List Hop)} : ∀ (l : List Pl) (s : WS) (e : Int), y8p c rs l s = .inr e → e ≠ 0
 | [], s, e, h => by cases h
 | p :: l, s, e, h => by
  rw [y8p] at h
  split at h
  ·rename_i he
   injection h with h; subst h; exact he
  ·exact yeo l _ e h
theorem yfC {c : Cf} {net : Int} {rs : List (List Hop)} (hf : FewP c rs) : ∃ x, y4s c net rs = some x ∧ CP c net rs x := by
 have hS := hf.small
 have hr1 : ∀ r ∈ rs, r.length < 1000000000 := fun r hr => by have := hf.e r hr; omega
 have hrs := hf.r
 obtain ⟨b, q1, q2⟩ := ydV hS (net := net) (rs := rs) hr1 (by omega)
 unfold y4s
 rw [q1, Option.bind_some]
 cases b with
 | false =>
  rw [if_pos (by rfl)]
  exact ⟨_, rfl, .route fun h => by have := q2.2 h; cases this⟩
 | true =>
 have hv := q2.1 rfl
 rw [if_neg (by simp)]
 obtain ⟨b, r1, r2⟩ := vls_eq (c := c) (by have := hf.v; omega)
 rw [r1, Option.bind_some]
 cases b with
 | true =>
  rw [if_pos rfl]
  exact ⟨_, rfl, .vl hv fun h => by have := r2.2 h; cases this⟩
 | false =>
 have hvo := r2.1 rfl
 rw [if_neg (by simp)]
 have hps := ye1 hf.e
 have h3 : rs.length * 40 ≤ 20 * 40 := Nat.mul_le_mul_right _ hrs
 rcases order_eq (rs := rs) (fun r h => by have := hf.e r h; omega) (by omega) with ⟨l, e1, e2, e3⟩ | ⟨s, e1, e2⟩
 ·rw [e3, Option.bind_some, if_neg (by simp)]
  have hlen := e1.length_eq
  refine y2h (P := fun o => ∃ x, o = some x ∧ CP c net rs x) fun k hk => ?_
  have hL := ycr (l := (l, 0)) (k := k) (rs := rs) hvo.vls hv.len hr1 hv.most hf.l hS (fun p hp => hv.pi hS (e1.subset hp)) (by show l.length ≤ _; omega) yz 0 w0 (by omega) (by simp) (by rw [yU]; show ((l.length : Nat) : Int) < _; omega) rfl
  simp only [Int.toNat_zero, List.drop_zero] at hL
  rw [show (0 : Int) = w0.e from rfl, show ([] : List PB) = w0.out from rfl, show ([] : BM) = w0.bu from rfl, show ([] : DM) = w0.de from rfl]
  rw [show y2g (l, w0.e) c rs k yz w0.e w0.e w0.out w0.bu w0.de = y2g (l, 0) c rs k yz 0 w0.e w0.out w0.bu w0.de from rfl, hL]
  cases hrun : y8p c rs l w0 with
  | inr e => exact ⟨_, rfl, .err l e hv hvo e1 e2 hrun (yeo _ _ _ hrun)⟩
  | inl t =>
   obtain ⟨o1, o2, o3⟩ := ybU l w0 t hrun
   have hol : t.out.length = l.length := by rw [o2]; simp [w0]
   have hmap : t.out.map pbk = l := by rw [o1]; simp [w0]
   simp only
   rw [hk, (ygc (by rw [hmap]; exact e1.nodup_iff.2 (ydZ rs)) (by omega)).1, Option.bind_some]
   rw [Ends_eq (net := net) hS hv.each (by omega) (by rw [y5b]; omega), Option.bind_some]
   exact ⟨_, rfl, .ok l t hv hvo e1 e2 hrun⟩
 ·rw [e2, Option.bind_some, if_pos (by simp)]
  exact ⟨_, rfl, .cycle s hv hvo e1⟩
end Go.Proofs.YtcahmabkeaijdaaGreat
namespace Go.Proofs.YtcahmabkeaijdaaGreat
open Go Go.RowKit Sep
/-! ### results without an error -/
theorem mk_0 {q : Rat} (h : (mk q).2 = 0) : fits q = true ∧ (mk q).1 = ofQ q := by
 unfold mk at *
 split at h
 ·rename_i hf; rw [if_pos hf]; exact ⟨hf, rfl⟩
 ·cases h
theorem ybk {x y : R} (h : (ADD x y).2 = 0) : (V x = true ∧ V y = true) ∧ V (ADD x y).1 = true ∧ val (ADD x y).1 = val x + val y := by
 by_cases hv : V x = true ∧ V y = true
 ·unfold ADD at *
  rw [ye7 hv.1 hv.2] at *
  obtain ⟨h1, h2⟩ := mk_0 (show (mk (val x + val y)).2 = 0 from h)
  refine ⟨hv, ?_⟩
  show V (mk (val x + val y)).1 = true ∧ val (mk (val x + val y)).1 = _
  rw [h2]; exact ⟨y6S h1, y5c _⟩
 ·unfold ADD at h; rw [yf2 hv] at h; cases h
theorem SUB_0 {x y : R} (h : (SUB x y).2 = 0) : (V x = true ∧ V y = true) ∧ V (SUB x y).1 = true ∧ val (SUB x y).1 = val x - val y := by
 by_cases hv : V x = true ∧ V y = true
 ·unfold SUB at *
  rw [yck hv.1 hv.2] at *
  obtain ⟨h1, h2⟩ := mk_0 (show (mk (val x - val y)).2 = 0 from h)
  refine ⟨hv, ?_⟩
  show V (mk (val x - val y)).1 = true ∧ val (mk (val x - val y)).1 = _
  rw [h2]; exact ⟨y6S h1, y5c _⟩
 ·unfold SUB at h; rw [yf3 hv] at h; cases h
theorem MUL_0 {x y : R} (h : (MUL x y).2 = 0) : (V x = true ∧ V y = true) ∧ V (MUL x y).1 = true ∧ val (MUL x y).1 = val x * val y := by
 by_cases hv : V x = true ∧ V y = true
 ·unfold MUL at *
  rw [ye8 hv.1 hv.2] at *
  obtain ⟨h1, h2⟩ := mk_0 (show (mk (val x * val y)).2 = 0 from h)
  refine ⟨hv, ?_⟩
  show V (mk (val x * val y)).1 = true ∧ val (mk (val x * val y)).1 = _
  rw [h2]; exact ⟨y6S h1, y5c _⟩
 ·unfold MUL at h; rw [yf4 hv] at h; cases h
theorem DIV_0 {x y : R} (h0 : y.fN ≠ 0) (h : (DIV x y).2 = 0) : (V x = true ∧ V y = true) ∧ V (DIV x y).1 = true ∧ val (DIV x y).1 = val x / val y := by
 by_cases hv : V x = true ∧ V y = true
 ·unfold DIV at *
  rw [ycl hv.1 hv.2 h0] at *
  obtain ⟨h1, h2⟩ := mk_0 (show (mk (val x / val y)).2 = 0 from h)
  refine ⟨hv, ?_⟩
  show V (mk (val x / val y)).1 = true ∧ val (mk (val x / val y)).1 = _
  rw [h2]; exact ⟨y6S h1, y5c _⟩
 ·unfold DIV at h; rw [yf5 hv] at h; cases h
theorem CD_0 {e : Int} {r : R × Int} (h : (CD e r).2 = 0) : e = 0 ∧ r.2 = 0 ∧ CD e r = r := by
 by_cases he : e = 0
 ·subst he
  by_cases hr : r.2 = 0
  ·exact ⟨rfl, hr, CD_zero hr⟩
  ·rw [CD_bad hr] at h; exact absurd h hr
 ·rw [yeh he] at h; exact absurd h he
theorem DO_0 {e : Int} {r : R × Int} (h : (DO e r).2 = 0) : e = 0 ∧ r.2 = 0 ∧ (DO e r).1 = r.1 := by
 unfold DO at *
 simp only at h
 by_cases he : e = 0
 ·rw [if_pos he] at h
  refine ⟨he, h, ?_⟩
  simp [h]
 ·rw [if_neg he] at h; exact absurd h he
theorem CM_V {x y : R} (hx : V x = true) (hy : V y = true) : CM x y = y59 (val x) (val y) := by
 unfold CM; rw [y7G hx hy]; rfl
/-! ### values of curves -/
theorem yge {t : Rat} {b : B} (h : y95 t b = true) : fits (vq t b) = true := by
 unfold y95 at h; simp only [Bool.and_eq_true] at h; exact h.2
theorem AT_ex {c : List B} (h : c ≠ []) (t : Rat) : ∃ b ∈ c, AT c t = vq t b := by
 obtain ⟨b, hb, e⟩ := List.mem_map.1 (AT_is (t := t) h).1
 exact ⟨b, hb, e.symm⟩
theorem AT_low {c : List B} {t : Rat} {b : B} (hb : b ∈ c) : AT c t ≤ vq t b := (AT_is (t := t) (List.ne_nil_of_mem hb)).2 _ (List.mem_map_of_mem hb)
theorem ATF_0 {c : List B} {t : R} (h : (ATF c t).2 = 0) : VC c = true ∧ GR t = true ∧ V (ATF c t).1 = true ∧ val (ATF c t).1 = AT c (val t) := by
 unfold ATF at *
 by_cases hc : VC c = true ∧ GR t = true
 ·rw [at_eq hc.1 hc.2] at *
  by_cases hf : c.all (y95 (val t)) = true
  ·refine ⟨hc.1, hc.2, ?_⟩
   rw [if_pos hf]
   obtain ⟨b, hb, e⟩ := AT_ex (VC_ne hc.1) (val t)
   have h1 := yge (List.all_eq_true.1 hf b hb)
   rw [← e] at h1
   exact ⟨y6S h1, y5c _⟩
  ·rw [if_neg hf] at h; cases h
 ·rw [at_bad hc] at h; cases h
def TQ : List (List B) → Rat → Rat
 | [], _ => 0
 | c :: l, t => AT c t + TQ l t
theorem tot_0 {t : R} : ∀ (l : List (List B)) (a : R × Int), (tot t l a).2 = 0 → (a.2 = 0 ∧ (∀ c ∈ l, (ATF c t).2 = 0)) ∧ (V a.1 = true → V (tot t l a).1 = true ∧ val (tot t l a).1 = val a.1 + TQ l (val t))
 | [], a, h => ⟨⟨h, by simp⟩, fun hv => ⟨hv, by show val a.1 = _; simp [TQ, Rat.add_zero]⟩⟩
 | c :: l, a, h => by
  rw [tot] at h ⊢
  obtain ⟨⟨h1, h2⟩, h3⟩ := tot_0 l _ h
  obtain ⟨e1, e2, e3⟩ := CD_0 h1
  have ha : a.2 = 0 := by
   by_cases hz : a.2 = 0
   ·exact hz
   ·rw [if_neg hz] at e1; exact absurd e1 hz
  rw [if_pos ha] at e1
  refine ⟨⟨ha, fun d hd => ?_⟩, fun hv => ?_⟩
  ·rcases List.mem_cons.1 hd with rfl | hd
   ·exact e1
   ·exact h2 d hd
  ·obtain ⟨q1, q2, q3⟩ := ybk e2
   obtain ⟨c1, c2, c3, c4⟩ := ATF_0 e1
   rw [e3] at h3
   obtain ⟨r1, r2⟩ := h3 q2
   rw [e3]
   refine ⟨r1, ?_⟩
   rw [r2, q3, c4, TQ, Rat.add_assoc]
def RS (s : SV) : Rat := val s.fRate
def LS (s : SV) : Rat := val s.fL
def phi (l : List (List B)) (s : SV) (t : Rat) : Rat := TQ l t / RS s - t + LS s
theorem dv_0 {l : List (List B)} {s : SV} {t : R} (hs : VS s = true) (h : (dv l s 0 t).2 = 0) : (∀ c ∈ l, VC c = true ∧ GR t = true) ∧ V t = true ∧ V (dv l s 0 t).1 = true ∧ val (dv l s 0 t).1 = phi l s (val t) := by
 have h0 := (VS_r hs).2.1
 unfold dv at h ⊢
 simp only at h ⊢
 obtain ⟨a1, a2, a3⟩ := CD_0 h
 rw [a3]
 obtain ⟨b1, b2, b3⟩ := CD_0 a1
 rw [b3] at a2 ⊢
 obtain ⟨c1, c2, c3⟩ := CD_0 b1
 rw [c3] at b2 a2 ⊢
 obtain ⟨⟨_, d1⟩, d2⟩ := tot_0 l _ c1
 obtain ⟨d3, d4⟩ := d2 V_Z1
 obtain ⟨e1, e2, e3⟩ := DIV_0 (by omega) c2
 obtain ⟨f1, f2, f3⟩ := SUB_0 b2
 obtain ⟨g1, g2, g3⟩ := ybk a2
 refine ⟨fun c hc => ?_, f1.2, g2, ?_⟩
 ·have := ATF_0 (d1 c hc); exact ⟨this.1, this.2.1⟩
 ·rw [g3, f3, e3, d4]
  have : val Z1 = 0 := by decide +kernel
  unfold phi RS LS
  rw [this, Rat.zero_add]
/-! ### the greatest value over points -/
section
variable {f : Int → R → R × Int}
theorem yfa (hf : ∀ e t, e ≠ 0 → f e t = (Z1, e)) (hV : ∀ p, (f 0 p).2 = 0 → V (f 0 p).1 = true) : ∀ (P : List R) (s : List R × Int), (P.foldl (stp f) s).2 = 0 → (∀ b, s.1 = [b] → V b = true) → (s.1 = [] ∨ ∃ b, s.1 = [b]) →
  s.2 = 0 ∧ (∀ p ∈ P, (f 0 p).2 = 0) ∧ (∃ d, (P.foldl (stp f) s).1 = [d] ∧ V d = true ∧ (s.1 = [d] ∨ ∃ p ∈ P, d = (f 0 p).1) ∧ (∀ b, s.1 = [b] → val b ≤ val d) ∧ ∀ p ∈ P, val (f 0 p).1 ≤ val d) ∨ (P = [] ∧ s.2 = 0)
 | [], s, h, _, _ => .inr ⟨rfl, h⟩
 | p :: P, s, h, hs, hb => by
  refine .inl ?_
  have hz : s.2 = 0 := by
   by_cases hz : s.2 = 0
   ·exact hz
   ·rw [ycV hf (p :: P) s hz] at h; exact h
  rw [List.foldl_cons] at h
  have hz1 : (stp f s p).2 = 0 := by
   by_cases hz1 : (stp f s p).2 = 0
   ·exact hz1
   ·rw [ycV hf P _ hz1] at h; exact absurd h hz1
  have hp : (f 0 p).2 = 0 := by
   have : (stp f s p).2 = (f s.2 p).2 := rfl
   rw [this, hz] at hz1; exact hz1
  have hVp := hV p hp
  -- one step
  have hstep : ∃ b, (stp f s p).1 = [b] ∧ V b = true ∧ (s.1 = [b] ∨ b = (f 0 p).1) ∧ (∀ b0, s.1 = [b0] → val b0 ≤ val b) ∧ val (f 0 p).1 ≤ val b := by
   unfold stp
   rw [hz]
   rcases hb with hb | ⟨b, hb⟩
   ·rw [hb]; exact ⟨_, rfl, hVp, .inr rfl, by simp, Rat.le_refl⟩
   ·rw [hb]
    simp only
    have hvb := hs b hb
    by_cases hc : CM (f 0 p).1 b > 0
    ·rw [if_pos hc]
     rw [CM_V hVp hvb] at hc
     refine ⟨_, rfl, hVp, .inr rfl, fun b0 h0 => ?_, Rat.le_refl⟩
     have h0 : b = b0 := by injection h0
     subst h0
     exact Rat.le_of_lt (ycR.1 hc)
    ·rw [if_neg hc]
     rw [CM_V hVp hvb] at hc
     refine ⟨b, rfl, hvb, .inl rfl, fun b0 h0 => ?_, ?_⟩
     ·have h0 : b = b0 := by injection h0
      subst h0; exact Rat.le_refl
     ·exact Rat.not_lt.1 fun h => hc (ycR.2 h)
  obtain ⟨b, e1, e2, e3, e4, e5⟩ := hstep
  rw [List.foldl_cons]
  rcases yfa hf hV P (stp f s p) h (fun b' hb' => (List.cons.inj (e1.symm.trans hb')).1 ▸ e2) (.inr ⟨b, e1⟩) with ⟨_, q1, d, d1, d2, d3, d4, d5⟩ | ⟨q1, _⟩
  ·refine ⟨hz, fun x hx => ?_, d, d1, d2, ?_, fun b0 h0 => ?_, fun x hx => ?_⟩
   ·rcases List.mem_cons.1 hx with rfl | hx
    ·exact hp
    ·exact q1 x hx
   ·rcases d3 with d3 | ⟨x, hx, d3⟩
    ·rw [e1] at d3
     have : b = d := by injection d3
     subst this
     rcases e3 with e3 | e3
     ·exact .inl e3
     ·exact .inr ⟨p, by simp, e3⟩
    ·exact .inr ⟨x, List.mem_cons_of_mem _ hx, d3⟩
   ·exact Rat.le_trans (e4 b0 h0) (d4 b e1)
   ·rcases List.mem_cons.1 hx with rfl | hx
    ·exact Rat.le_trans e5 (d4 b e1)
    ·exact d5 x hx
  ·subst q1
   refine ⟨hz, fun x hx => ?_, b, e1, e2, ?_, e4, fun x hx => ?_⟩
   ·rw [List.mem_singleton.1 hx]; exact hp
   ·rcases e3 with e3 | e3
    ·exact .inl e3
    ·exact .inr ⟨p, by simp, e3⟩
   ·rw [List.mem_singleton.1 hx]; exact e5
theorem mxv_0 (hf : ∀ e t, e ≠ 0 → f e t = (Z1, e)) (hV : ∀ p, (f 0 p).2 = 0 → V (f 0 p).1 = true) {P : List R} (hP : P ≠ []) (h : (mxv f P).2 = 0) :
  (∀ p ∈ P, (f 0 p).2 = 0 ∧ val (f 0 p).1 ≤ val (mxv f P).1) ∧ V (mxv f P).1 = true ∧ ∃ p ∈ P, (mxv f P).1 = (f 0 p).1 := by
 unfold mxv at h ⊢
 simp only at h ⊢
 by_cases hz : (P.foldl (stp f) ([], 0)).2 ≠ 0
 ·rw [if_pos hz] at h; exact absurd h hz
 ·rw [if_neg hz]
  rcases yfa hf hV P ([], 0) (by simpa using hz) (by simp) (.inl rfl) with ⟨_, q1, d, d1, d2, d3, d4, d5⟩ | ⟨q1, _⟩
  ·rw [d1]
   refine ⟨fun p hp => ⟨q1 p hp, d5 p hp⟩, d2, ?_⟩
   rcases d3 with d3 | d3
   ·cases d3
   ·exact d3
  ·exact absurd q1 hP
end
/-! ### the check -/
def rr (c : List B) : Rat := val (RTF c).1
theorem rr_ex {c : List B} (h : VC c = true) : (∃ d ∈ c, rr c = rq d) ∧ ∀ x ∈ c, rr c ≤ rq x := by
 obtain ⟨d, e, hd, hm⟩ := yf0 h
 have : rr c = rq d := by unfold rr RTF; rw [e]; rfl
 rw [this]
 exact ⟨⟨d, hd, rfl⟩, hm⟩
def RQ : List (List B) → Rat
 | [] => 0
 | c :: l => rr c + RQ l
theorem ckl_0 : ∀ (l : List (List B)) (a r : R × Int), ckl l a = .inr r → r.2 = 0 → V a.1 = true → a.2 = 0 ∧ V r.1 = true ∧ val r.1 = val a.1 + RQ l ∧ ∀ c ∈ l, (BRK c).2 = 0
 | [], a, r, h, h0, hv => by
  injection h with h; subst h
  exact ⟨h0, hv, by simp [RQ, Rat.add_zero], by simp⟩
 | c :: l, a, r, h, h0, hv => by
  rw [ckl] at h
  split at h
  ·cases h
  ·rename_i hb
   by_cases ha : (CD a.2 (ADD a.1 (RTF c).1)).2 = 0
   ·obtain ⟨e1, e2, e3⟩ := CD_0 ha
    obtain ⟨q1, q2, q3⟩ := ybk e2
    rw [e3] at h
    obtain ⟨i1, i2, i3, i4⟩ := ckl_0 l _ r h h0 q2
    refine ⟨e1, i2, ?_, fun d hd => ?_⟩
    ·rw [i3, q3, RQ, Rat.add_assoc]; rfl
    ·rcases List.mem_cons.1 hd with rfl | hd
     ·simpa using hb
     ·exact i4 d hd
   ·have : V (CD a.2 (ADD a.1 (RTF c).1)).1 = true := by
     unfold CD at ha ⊢
     split
     ·exact V_Z1
     ·split
      ·exact V_Z1
      ·rename_i h1 h2; rw [if_neg h1, if_neg h2] at ha; exact absurd (by simpa using h2) ha
    exact absurd (ckl_0 l _ r h h0 this).1 ha
structure FIT (l : List (List B)) (s : SV) : Prop where
 vc : ∀ c ∈ l, VC c = true
 vs : VS s = true
 br : ∀ c ∈ l, (BRK c).2 = 0
 rate : RQ l ≤ RS s
theorem CKF_0 {l : List (List B)} {s : SV} (h : CKF l s = 0) : FIT l s := by
 have hs := yej h
 unfold CKF at h
 split at h
 ·cases h
 ·rename_i hc
  simp only [Bool.or_eq_true, not_or, Bool.not_eq_true', Bool.not_eq_true] at hc
  obtain ⟨⟨c1, c2⟩, _⟩ := hc
  have hall : ∀ c ∈ l, VC c = true := List.all_eq_true.1 (by simpa using c2)
  split at h
  ·rename_i e heq
   exfalso
   -- an error of Breaks is not zero
   have : ∀ (l : List (List B)) (a : R × Int), ckl l a = .inl e → e ≠ 0 := by
    intro l
    induction l with
    | nil => intro a h; cases h
    | cons c l ih =>
     intro a h
     rw [ckl] at h
     split at h
     ·rename_i hb; injection h with h; subst h; exact hb
     ·exact ih _ h
   exact this l _ heq h
  ·rename_i r heq
   split at h
   ·rename_i hr; exact absurd h hr
   ·rename_i hr
    split at h
    ·cases h
    ·rename_i hcm
     have hr0 : r.2 = 0 := by simpa using hr
     obtain ⟨_, i2, i3, i4⟩ := ckl_0 l _ r heq hr0 V_Z1
     refine ⟨hall, hs, i4, ?_⟩
     rw [CM_V i2 (VS_r hs).1] at hcm
     have : val Z1 = 0 := by decide +kernel
     rw [this, Rat.zero_add] at i3
     have h5 : val r.1 ≤ val s.fRate := Rat.not_lt.1 fun h => hcm (ycR.2 h)
     rw [i3] at h5; exact h5
theorem DL_0 {l : List (List B)} {s : SV} (h : (DL l s).2 = 0) : FIT l s ∧ V (DL l s).1 = true ∧ (∀ p ∈ PTS l [], (∀ c ∈ l, GR p = true) ∧ V p = true ∧ phi l s (val p) ≤ val (DL l s).1) ∧ ∃ p ∈ PTS l [], val (DL l s).1 = phi l s (val p) := by
 unfold DL at h ⊢
 by_cases hc : CKF l s = 0
 ·rw [if_pos hc] at h ⊢
  have hf := CKF_0 hc
  obtain ⟨h1, h2, p, h3, h4⟩ := mxv_0 (f := dv l s) (P := PTS l []) (fun e t he => dv_err he) (fun p hp => (dv_0 hf.vs hp).2.2.1) (by simp [PTS]) h
  refine ⟨hf, h2, fun q hq => ?_, p, h3, ?_⟩
  ·obtain ⟨a1, a2⟩ := h1 q hq
   obtain ⟨b1, b2, b3, b4⟩ := dv_0 hf.vs a1
   refine ⟨fun c hc => (b1 c hc).2, b2, ?_⟩
   rw [← b4]; exact a2
  ·rw [h4]; exact (dv_0 hf.vs (h1 p h3).1).2.2.2
 ·rw [if_neg hc] at h; exact absurd h hc
end Go.Proofs.YtcahmabkeaijdaaGreat
namespace Go.Proofs.YtcahmabkeaijdaaGreat
open Go Go.RowKit Sep
def WZ (n : Int) : Rat := Rat.divInt n 1
theorem y6U (n : Int) : WZ n = (n : Rat) := by
 unfold WZ
 first | exact Rat.divInt_one n | exact Rat.mkRat_one n | (show mkRat n 1 = _; exact Rat.mkRat_one n) | simp [Rat.divInt] | (ext <;> simp [Rat.divInt])
theorem WZ_le {m n : Int} (h : m ≤ n) : WZ m ≤ WZ n := by rw [y6U, y6U]; exact Rat.intCast_le_intCast.2 h
theorem ydj {n : Int} (h : 0 ≤ n) : 0 ≤ WZ n := by have := WZ_le h; rwa [show WZ 0 = 0 by decide +kernel] at this
theorem WZ_add (m n : Int) : WZ (m + n) = WZ m + WZ n := by rw [y6U, y6U, y6U, Rat.intCast_add]
theorem WZ_mul (m n : Int) : WZ (m * n) = WZ m * WZ n := by rw [y6U, y6U, y6U, Rat.intCast_mul]
theorem val_w (n : Int) : val ⟨n, 1⟩ = WZ n := rfl
theorem V_whole {x : R} {n : Int} (hv : V x = true) (h : val x = WZ n) : x = ⟨n, 1⟩ := by
 obtain ⟨h1, h2⟩ := yac hv
 rw [h, y6U] at h1 h2
 have a1 : n = x.fN := h1
 have a2 : (1 : Int) = x.fD := h2
 obtain ⟨p, q⟩ := x
 simp only at a1 a2
 rw [a1, a2]
theorem flr_w {x : R} {n : Int} (hv : V x = true) (h : val x = WZ n) : flr x = n := by
 have e := V_whole hv h
 obtain ⟨f, h1, h2, h3, _⟩ := ybT hv
 unfold flr
 rw [h1]
 rw [e] at h2 h3
 simp only at h2 h3
 show f = n
 omega
/-! ### a single curve on a link -/
theorem slow_val {w : Int} (h : 1 ≤ w ∧ w ≤ 16) : V ⟨1, w⟩ = true ∧ 0 < val ⟨1, w⟩ ∧ val ⟨1, w⟩ * WZ w = 1 := by
 have : w = 1 ∨ w = 2 ∨ w = 3 ∨ w = 4 ∨ w = 5 ∨ w = 6 ∨ w = 7 ∨ w = 8 ∨ w = 9 ∨ w = 10 ∨ w = 11 ∨ w = 12 ∨ w = 13 ∨ w = 14 ∨ w = 15 ∨ w = 16 := by omega
 rcases this with rfl | rfl | rfl | rfl | rfl | rfl | rfl | rfl | rfl | rfl | rfl | rfl | rfl | rfl | rfl | rfl <;> decide +kernel
theorem ybV {σ w a : Rat} (h : σ * w = 1) : a / σ = a * w := by
 have h0 : σ ≠ 0 := by rintro rfl; rw [Rat.zero_mul] at h; exact absurd h (by decide +kernel)
 have : σ⁻¹ = w := by
  have h1 : σ⁻¹ * (σ * w) = σ⁻¹ := by rw [h, Rat.mul_one]
  rw [← Rat.mul_assoc, Rat.inv_mul_cancel _ h0, Rat.one_mul] at h1
  exact h1.symm
 rw [Rat.div_def, this]
theorem yfb {c : List B} {s : SV} {w m : Int} (hs : s.fRate = ⟨1, w⟩) (hw : 1 ≤ w ∧ w ≤ 16) (h : (DL [c] s).2 = 0) (h0 : AT c 0 = WZ m) (hg : ∀ t : Rat, 0 ≤ t → AT c t ≤ WZ m + val ⟨1, w⟩ * t) {L : Int} (hL : s.fL = ⟨L, 1⟩) : flr (DL [c] s).1 = m * w + L := by
 obtain ⟨f1, f2, f3, p, f4, f5⟩ := DL_0 h
 obtain ⟨s1, s2, s3⟩ := slow_val hw
 have hR : RS s = val ⟨1, w⟩ := by unfold RS; rw [hs]
 have hLS : LS s = WZ L := by unfold LS; rw [hL]; rfl
 have phi0 : phi [c] s 0 = WZ (m * w + L) := by
  unfold phi TQ TQ
  rw [h0, hR, hLS, ybV s3, WZ_add, WZ_mul]
  grind
 have z1 : val Z1 = 0 := by decide +kernel
 have h1 : phi [c] s 0 ≤ val (DL [c] s).1 := by
  have := (f3 Z1 (by simp [PTS])).2.2
  rwa [z1] at this
 have h2 : val (DL [c] s).1 ≤ phi [c] s 0 := by
  rw [f5]
  have hp := ye9 ((f3 p f4).1 c (by simp))
  have ht := hg _ hp
  unfold phi TQ TQ
  rw [h0, hR, hLS, ybV s3, ybV s3]
  have hw0 : 0 ≤ WZ w := ydj (by omega)
  have h5 := Rat.mul_le_mul_of_nonneg_right ht hw0
  have h6 : (WZ m + val ⟨1, w⟩ * val p) * WZ w = WZ m * WZ w + val p := by
   rw [Rat.add_mul, Rat.mul_assoc, Rat.mul_comm (val p), ← Rat.mul_assoc, s3, Rat.one_mul]
  rw [h6] at h5
  grind
 exact flr_w f2 (by rw [← phi0]; exact Rat.le_antisymm h2 h1)
end Go.Proofs.YtcahmabkeaijdaaGreat

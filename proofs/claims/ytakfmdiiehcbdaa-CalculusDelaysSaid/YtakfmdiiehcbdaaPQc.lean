/- A part of this claim's proof: models of functions, walks, plain laws. No conditions. -/
import Derived.Test.YtakfmdiiehcbdaaPDel
namespace Go.Proofs.Ytakfmdiiehcbdaa
open Go Go.RowKit Sep
set_option linter.all false
theorem yax {b1 b2 : B} {s : SV} {c : List (List B)} {t : SV} {m : List R} (h1 : GB b1 = true) (h2 : GB b2 = true) (hs : VS s = true) (hf : fits (rq b1 + rq b2) = true) : y2f [[b1], [b2]] s c t m = some (if RS s < rq b1 + rq b2 then 6 else 0) := by
 unfold y2f
 have hF : 3 ≤ yu := by rw [y1C]; omega
 have g1 : yM [[b1], [b2]] (fun y0 => yz y0) = some ([[b1], [b2]].any fun c => !VC c) :=
  y4F (y5C (L := fun k => yy [[b1], [b2]] (fun y0 => yz y0) k) (fun _ _ _ => rfl) (fun x _ => by unfold yz; rw [y3Z]; rfl) (by simp))
 have g2 : ([[b1], [b2]].any fun c => !VC c) = false := by simp [y54 h1, y54 h2]
 rw [if_neg (by simp), g1, g2, y8D, hs, y5W]
 simp only [Option.bind_some, Bool.not_true, Bool.false_eq_true, if_false]
 refine y8b (P := fun o => o = _) fun k hk => ?_
 have e0 : val ⟨0, 1⟩ + val b1.fR = rq b1 := by rw [y3O, Rat.zero_add]; rfl
 have e1 : val b1.fR + val b2.fR = rq b1 + rq b2 := rfl
 have step : ∀ n : Nat, yX [[b1], [b2]] k (n + 3) 0 0 0 1 = k 0 (ofQ (rq b1 + rq b2)).fN (ofQ (rq b1 + rq b2)).fD := by
  intro n
  have n0 : nth ([[b1], [b2]] : List (List B)) 0 = [b1] := rfl
  have n1 : nth ([[b1], [b2]] : List (List B)) 1 = [b2] := rfl
  rw [yX, if_pos (by simp), yj (by simp), n0, y3p h1, Option.bind_some, if_neg (by simp), y73 h1, Option.bind_some]
  simp only []
  have a1 := y53 (f := fun y0 y1 => y1l y0 y1) (y52 y7q (y2m (y3B h1)))
  rw [e0, show fits (rq b1) = true from y9a (y2m (y3B h1)), if_pos rfl, show ofQ (rq b1) = b1.fR from y6J (y2m (y3B h1))] at a1
  rw [a1, Option.bind_some, yn (x := 0 + 1) (by omega), show (0 : Int) + 1 = 1 from rfl]
  rw [yX, if_pos (by simp), yj (by simp), n1, y3p h2, Option.bind_some, if_neg (by simp), y73 h2, Option.bind_some]
  simp only []
  have a2 := y53 (f := fun y0 y1 => y1l y0 y1) (y52 (y2m (y3B h1)) (y2m (y3B h2)))
  rw [e1, hf, if_pos rfl] at a2
  refine (congrArg (fun o => Option.bind o _) a2).trans ?_
  rw [Option.bind_some, yn (x := 1 + 1) (by omega), yX, if_neg (by simp)]
 obtain ⟨n, hn⟩ : ∃ n, yu = n + 3 := ⟨yu - 3, by omega⟩
 rw [hn, step n, hk, if_pos (by simp)]
 show Option.bind (Option.bind (yV (ofQ (rq b1 + rq b2)) s.fR) _) _ = _
 rw [y3c (y2H hf) (VS_r hs).1, y20, Option.bind_some, Option.bind_some]
 have ec : y2X (rq b1 + rq b2) (val s.fR) = y2X (rq b1 + rq b2) (RS s) := rfl
 rw [ec]
 by_cases h : RS s < rq b1 + rq b2
 ·rw [if_pos h, if_pos (decide_eq_true (y4T.2 h))]
 ·rw [if_neg h, if_neg (fun h' => h (y4T.1 (of_decide_eq_true h')))]
theorem ya8 {b1 b2 : B} {s : SV} {c : List (List B)} {t : SV} {m : List R} (h1 : GB b1 = true) (h2 : GB b2 = true) (hs : VS s = true) (hf : fits (rq b1 + rq b2) = true) : y29 [[b1], [b2]] s c t m = some (if RS s < rq b1 + rq b2 then 6 else 0) := by
 unfold y29
 have hF : 3 ≤ yu := by rw [y1C]; omega
 have g1 : yM [[b1], [b2]] (fun y0 => yz y0) = some ([[b1], [b2]].any fun c => !VC c) :=
  y4F (y5C (L := fun k => yy [[b1], [b2]] (fun y0 => yz y0) k) (fun _ _ _ => rfl) (fun x _ => by unfold yz; rw [y3Z]; rfl) (by simp))
 have g2 : ([[b1], [b2]].any fun c => !VC c) = false := by simp [y54 h1, y54 h2]
 rw [if_neg (by simp), g1, g2, y8D, hs, y5W]
 simp only [Option.bind_some, Bool.not_true, Bool.false_eq_true, if_false]
 refine y8b (P := fun o => o = _) fun k hk => ?_
 have e0 : val ⟨0, 1⟩ + val b1.fR = rq b1 := by rw [y3O, Rat.zero_add]; rfl
 have e1 : val b1.fR + val b2.fR = rq b1 + rq b2 := rfl
 have step : ∀ n : Nat, yS [[b1], [b2]] k (n + 3) 0 0 0 1 = k 0 (ofQ (rq b1 + rq b2)).fN (ofQ (rq b1 + rq b2)).fD := by
  intro n
  have n0 : nth ([[b1], [b2]] : List (List B)) 0 = [b1] := rfl
  have n1 : nth ([[b1], [b2]] : List (List B)) 1 = [b2] := rfl
  rw [yS, if_pos (by simp), yj (by simp), n0, y3p h1, Option.bind_some, if_neg (by simp), y73 h1, Option.bind_some]
  simp only []
  have a1 := y53 (f := fun y0 y1 => y1l y0 y1) (y52 y7q (y2m (y3B h1)))
  rw [e0, show fits (rq b1) = true from y9a (y2m (y3B h1)), if_pos rfl, show ofQ (rq b1) = b1.fR from y6J (y2m (y3B h1))] at a1
  rw [a1, Option.bind_some, yn (x := 0 + 1) (by omega), show (0 : Int) + 1 = 1 from rfl]
  rw [yS, if_pos (by simp), yj (by simp), n1, y3p h2, Option.bind_some, if_neg (by simp), y73 h2, Option.bind_some]
  simp only []
  have a2 := y53 (f := fun y0 y1 => y1l y0 y1) (y52 (y2m (y3B h1)) (y2m (y3B h2)))
  rw [e1, hf, if_pos rfl] at a2
  refine (congrArg (fun o => Option.bind o _) a2).trans ?_
  rw [Option.bind_some, yn (x := 1 + 1) (by omega), yS, if_neg (by simp)]
 obtain ⟨n, hn⟩ : ∃ n, yu = n + 3 := ⟨yu - 3, by omega⟩
 rw [hn, step n, hk, if_pos (by simp)]
 show Option.bind (Option.bind (yV (ofQ (rq b1 + rq b2)) s.fR) _) _ = _
 rw [y3c (y2H hf) (VS_r hs).1, y20, Option.bind_some, Option.bind_some]
 have ec : y2X (rq b1 + rq b2) (val s.fR) = y2X (rq b1 + rq b2) (RS s) := rfl
 rw [ec]
 by_cases h : RS s < rq b1 + rq b2
 ·rw [if_pos h, if_pos (decide_eq_true (y4T.2 h))]
 ·rw [if_neg h, if_neg (fun h' => h (y4T.1 (of_decide_eq_true h')))]
theorem y9A {Sg : Type} {b1 b2 : B} {y : R → Sg → Option (Bool × Sg)} {s1 : Sg} {k : Sg → Option Sg} (h1 : GB b1 = true) (h2 : GB b2 = true) (n : Nat) : yJ Sg [[b1], [b2]] y k (n + 3) 0 s1 = k s1 := by
 have hF : 3 ≤ yu := by rw [y1C]; omega
 have h5 : ∀ (k2 : Sg → Option Sg) (m : Nat) (s : Sg), y1b Sg ([], 0) y k2 (m + 1) 0 s = k2 s := by
  intro k2 m s
  rw [y1b, if_neg (by simp)]
 obtain ⟨m, hm⟩ : ∃ m, yu = m + 1 := ⟨yu - 1, by omega⟩
 have n0 : nth ([[b1], [b2]] : List (List B)) 0 = [b1] := rfl
 have n1 : nth ([[b1], [b2]] : List (List B)) 1 = [b2] := rfl
 rw [yJ, if_pos (by simp)]
 refine y1P (P := fun o => o = _) fun k1 hk1 => ?_
 rw [yj (by simp), n0, y3p h1, Option.bind_some]
 refine y1P (P := fun o => o = _) fun k2 hk2 => ?_
 rw [hm, h5, hk2, hk1, yn (x := 0 + 1) (by omega), show (0 : Int) + 1 = 1 from rfl, yJ, if_pos (by simp)]
 refine y1P (P := fun o => o = _) fun k3 hk3 => ?_
 rw [yj (by simp), n1, y3p h2, Option.bind_some]
 refine y1P (P := fun o => o = _) fun k4 hk4 => ?_
 rw [hm, h5, hk4, hk3, yn (x := 1 + 1) (by omega), yJ, if_neg (by simp)]
theorem y9n {Sg : Type} {b1 b2 : B} {y : R → Sg → Option (Bool × Sg)} {s1 : Sg} {k : Sg → Option Sg} (h1 : GB b1 = true) (h2 : GB b2 = true) (n : Nat) : yE Sg [[b1], [b2]] y k (n + 3) 0 s1 = k s1 := by
 have hF : 3 ≤ yu := by rw [y1C]; omega
 have h5 : ∀ (k2 : Sg → Option Sg) (m : Nat) (s : Sg), y18 Sg ([], 0) y k2 (m + 1) 0 s = k2 s := by
  intro k2 m s
  rw [y18, if_neg (by simp)]
 obtain ⟨m, hm⟩ : ∃ m, yu = m + 1 := ⟨yu - 1, by omega⟩
 have n0 : nth ([[b1], [b2]] : List (List B)) 0 = [b1] := rfl
 have n1 : nth ([[b1], [b2]] : List (List B)) 1 = [b2] := rfl
 rw [yE, if_pos (by simp)]
 refine y1P (P := fun o => o = _) fun k1 hk1 => ?_
 rw [yj (by simp), n0, y3p h1, Option.bind_some]
 refine y1P (P := fun o => o = _) fun k2 hk2 => ?_
 rw [hm, h5, hk2, hk1, yn (x := 0 + 1) (by omega), show (0 : Int) + 1 = 1 from rfl, yE, if_pos (by simp)]
 refine y1P (P := fun o => o = _) fun k3 hk3 => ?_
 rw [yj (by simp), n1, y3p h2, Option.bind_some]
 refine y1P (P := fun o => o = _) fun k4 hk4 => ?_
 rw [hm, h5, hk4, hk3, yn (x := 1 + 1) (by omega), yE, if_neg (by simp)]
theorem at_any {b : B} {t : R} (hb : GB b = true) (ht : GR t = true) (hf : y3r (val t) b = true) : y35 [b] t = some (ofQ (vq (val t) b), 0) :=
 at_ok (y54 hb) ht (fun x hx => by rw [List.mem_singleton.1 hx]; exact hf)
def T2 (b1 b2 : B) (q : Rat) : Rat := vq q b1 + vq q b2
def tfit (b1 b2 : B) (q : Rat) : Prop := y3r q b1 = true ∧ y3r q b2 = true ∧ fits (T2 b1 b2 q) = true
theorem y7s {b1 b2 : B} {t : R} (h1 : GB b1 = true) (h2 : GB b2 = true) (ht : GR t = true) (hf : tfit b1 b2 (val t)) : y25 ⟨0⟩ [[b1], [b2]] t = some (ofQ (T2 b1 b2 (val t)), ⟨0⟩) := by
 obtain ⟨f1, f2, f3⟩ := hf
 have q1 : fits (vq (val t) b1) = true := by unfold y3r at f1; rw [Bool.and_eq_true] at f1; exact f1.2
 have q2 : fits (vq (val t) b2) = true := by unfold y3r at f2; rw [Bool.and_eq_true] at f2; exact f2.2
 unfold y25
 have hF : 3 ≤ yu := by rw [y1C]; omega
 rw [y5W, Option.bind_some]
 refine y8b (P := fun o => o = _) fun k hk => ?_
 have step : ∀ n : Nat, y17 [[b1], [b2]] t k (n + 3) 0 0 0 1 = k (ofQ (T2 b1 b2 (val t))).fN (ofQ (T2 b1 b2 (val t))).fD 0 := by
  intro n
  have n0 : nth ([[b1], [b2]] : List (List B)) 0 = [b1] := rfl
  have n1 : nth ([[b1], [b2]] : List (List B)) 1 = [b2] := rfl
  rw [y17, if_pos (by simp), yj (by simp), n0, at_any h1 ht f1, Option.bind_some]
  refine y1P (P := fun o => o = _) fun k1 hk1 => ?_
  rw [if_pos (by simp), hk1]
  have a1 := y53 (f := fun y0 y1 => y1l y0 y1) (y52 y7q (y2H q1))
  rw [y3O, y20, Rat.zero_add, q1, if_pos rfl] at a1
  rw [a1, Option.bind_some, yn (x := 0 + 1) (by omega), show (0 : Int) + 1 = 1 from rfl]
  rw [y17, if_pos (by simp), yj (by simp), n1, at_any h2 ht f2, Option.bind_some]
  refine y1P (P := fun o => o = _) fun k2 hk2 => ?_
  rw [if_pos (by simp), hk2]
  have a2 := y53 (f := fun y0 y1 => y1l y0 y1) (y52 (y2H q1) (y2H q2))
  have e2 : val (ofQ (vq (val t) b1)) + val (ofQ (vq (val t) b2)) = T2 b1 b2 (val t) := by rw [y20, y20]; rfl
  rw [e2, f3, if_pos rfl] at a2
  refine (congrArg (fun o => Option.bind o _) a2).trans ?_
  rw [Option.bind_some, yn (x := 1 + 1) (by omega), y17, if_neg (by simp)]
 obtain ⟨n, hn⟩ : ∃ n, yu = n + 3 := ⟨yu - 3, by omega⟩
 rw [hn]
 refine (step n).trans ?_
 rw [hk]
theorem yay {b1 b2 : B} {s : SV} (h1 : GB b1 = true) (h2 : GB b2 = true) (hs : VS s = true) (hr : fits (rq b1 + rq b2) = true) (ht : tfit b1 b2 0) (hq : fits (T2 b1 b2 0 / RS s) = true) (hd : fits (T2 b1 b2 0 / RS s + LS s) = true) :
  y2o [[b1], [b2]] s = some (if RS s < rq b1 + rq b2 then (⟨0, 0⟩, 6) else (ofQ (T2 b1 b2 0 / RS s + LS s), 0)) := by
 unfold y2o y31
 rw [yax h1 h2 hs hr, Option.bind_some]
 by_cases h : RS s < rq b1 + rq b2
 ·rw [if_pos h, if_pos h, if_pos (by decide), Option.bind_some]
 ·rw [if_neg h, if_neg h, if_neg (by decide)]
  have key : ∀ (o : Option (R × Int)) (x : R × Int), o = some x → (o.bind fun z7R => some (z7R.1, z7R.2)) = some x := by
   intro o x h; rw [h]; rfl
  apply key
  refine y6f (P := fun o => o = _) fun k hk => ?_
  unfold y2A
  rw [Option.bind_some]
  have hv : y2W ⟨0⟩ ⟨0, 1⟩ [[b1], [b2]] s = some (ofQ (T2 b1 b2 0 / RS s + LS s), ⟨0⟩) := by
   obtain ⟨v1, v2, v3, v4⟩ := VS_r hs
   unfold y2W
   have tt := y7s h1 h2 y9Q (by rw [y3O]; exact ht)
   rw [y3O] at tt
   rw [tt, Option.bind_some]
   simp only []
   have a1 := y53 (f := fun y0 y1 => y2V y0 y1) (y9c (y2H ht.2.2) v1 (RS_ne hs))
   have e1 : val (ofQ (T2 b1 b2 0)) / val s.fR = T2 b1 b2 0 / RS s := by rw [y20]; rfl
   rw [e1, hq, if_pos rfl] at a1
   rw [a1, Option.bind_some]
   simp only []
   have a2 := y53 (f := fun y0 y1 => y1N y0 y1) (y9b (y2H hq) y7q)
   rw [y20, y3O, Rat.sub_eq_add_neg, Rat.neg_zero, Rat.add_zero, hq, if_pos rfl] at a2
   rw [a2, Option.bind_some]
   simp only []
   have a3 := y53 (f := fun y0 y1 => y1l y0 y1) (y52 (y2H hq) v3)
   have e3 : val (ofQ (T2 b1 b2 0 / RS s)) + val s.fLatency = T2 b1 b2 0 / RS s + LS s := by rw [y20]; rfl
   rw [e3, hd, if_pos rfl] at a3
   rw [a3, Option.bind_some]
  have hy : (fun (x : R) (s' : Nat × List R × Int) => chk (s'.1 = 0) (y1i [[b1], [b2]] s x s'.2.1 s'.2.2)) ⟨0, 1⟩ (0, ([] : List R), 0) = some (true, (0, [ofQ (T2 b1 b2 0 / RS s + LS s)], 0)) := by
   show chk (0 = 0) (y1i [[b1], [b2]] s ⟨0, 1⟩ [] 0) = _
   rw [yj rfl]
   unfold y1i
   rw [hv, Option.bind_some, if_pos (by simp), Option.bind_some, if_pos rfl]
  have hp : ∀ {t t' : SV} {c : List (List B)}, y1W (Nat × List R × Int) (fun (x : R) (s' : Nat × List R × Int) => chk (s'.1 = 0) (y1i [[b1], [b2]] s x s'.2.1 s'.2.2)) (0, ([] : List R), 0) [[b1], [b2]] t c t' [] = some (0, [ofQ (T2 b1 b2 0 / RS s + LS s)], 0) := by
   intro t t' c
   unfold y1W
   have hF : 3 ≤ yu := by rw [y1C]; omega
   obtain ⟨n, hn⟩ : ∃ n, yu = n + 3 := ⟨yu - 3, by omega⟩
   rw [y5W, Option.bind_some]
   refine (congrArg (fun o => Option.bind o _) hy).trans ?_
   rw [Option.bind_some, if_neg (by simp)]
   refine y1P (P := fun o => o = _) fun k hk => ?_
   rw [hn, y9A h1 h2, hk]
   refine y1P (P := fun o => o = _) fun k3 hk3 => ?_
   obtain ⟨m, hm⟩ : ∃ m, yu = m + 1 := ⟨yu - 1, by omega⟩
   rw [hm, y1o, if_neg (by simp), hk3]
  rw [hp, Option.bind_some, hk]
  simp only []
  rw [if_neg (by simp), yj (by simp)]
  rfl
theorem y7N {d : Int} (h : -1000 ≤ d ∧ d ≤ 1000) (hv : V ⟨d, 1⟩ = true) : y2R ⟨d, 1⟩ = some d := by
 unfold y2R
 rw [y2p, hv, Option.bind_some, if_neg (by simp), yj (show (1 : Int) ≠ 0 by decide)]
 simp only [jp1]
 rw [yj (show (1 : Int) ≠ 0 by decide), Int.tmod_one, Int.tdiv_one, if_neg (by decide), yn (by omega)]
theorem ya9 {d : Int} (h : 0 ≤ d ∧ d ≤ 1000) (hv : V ⟨d, 1⟩ = true) (hv' : V ⟨-d, 1⟩ = true) : y3n ⟨d, 1⟩ = some d := by
 unfold y3n
 rw [y2p, hv, Option.bind_some, if_neg (by simp)]
 simp only []
 rw [yn (x := 0 - d) (by omega), show (0 : Int) - d = -d by omega, y7N (by omega) hv', Option.bind_some, yn (by omega)]
 congr 1; omega
theorem y9B {b1 b2 : B} {s : SV} {d : Int} (h1 : GB b1 = true) (h2 : GB b2 = true) (hs : VS s = true) (hl : s.fLatency = ⟨d, 1⟩) (h0 : 0 ≤ d ∧ d ≤ 1000) (hG : GR ⟨d, 1⟩ = true) (hN : V ⟨-d, 1⟩ = true) (hr : fits (rq b1 + rq b2) = true) (ht : tfit b1 b2 0) (hL : tfit b1 b2 (LS s)) (hle : T2 b1 b2 0 ≤ T2 b1 b2 (LS s)) :
  y2s [[b1], [b2]] s = some (if RS s < rq b1 + rq b2 then (⟨0, 0⟩, 6) else (ofQ (T2 b1 b2 (LS s)), 0)) := by
 unfold y2s y2S
 rw [ya8 h1 h2 hs hr, Option.bind_some]
 by_cases h : RS s < rq b1 + rq b2
 ·rw [if_pos h, if_pos h, if_pos (by decide), Option.bind_some]
 ·rw [if_neg h, if_neg h, if_neg (by decide)]
  have key : ∀ (o : Option (R × Int)) (x : R × Int), o = some x → (o.bind fun z7R => some (z7R.1, z7R.2)) = some x := by
   intro o x h; rw [h]; rfl
  apply key
  refine y6f (P := fun o => o = _) fun k hk => ?_
  unfold y2t
  rw [Option.bind_some]
  have eL : val ⟨d, 1⟩ = LS s := by unfold LS; rw [hl]
  have hLV := (VS_r hs).2.2.1
  have pL := y8E hs
  have v0 : y1T ⟨0⟩ ⟨0, 1⟩ [[b1], [b2]] s = some (ofQ (T2 b1 b2 0), ⟨0⟩) := by
   unfold y1T
   have tt := y7s h1 h2 y9Q (by rw [y3O]; exact ht)
   rw [y3O] at tt
   rw [tt, Option.bind_some, y3c y7q hLV, y3O, Option.bind_some, if_pos (decide_eq_true (y5e.2 (show (0 : Rat) ≤ val s.fLatency from pL)))]
  have vL : y1T ⟨0⟩ ⟨d, 1⟩ [[b1], [b2]] s = some (ofQ (T2 b1 b2 (LS s)), ⟨0⟩) := by
   unfold y1T
   have tt := y7s h1 h2 hG (by rw [eL]; exact hL)
   rw [eL] at tt
   rw [tt, Option.bind_some, y3c (y2m hG) hLV, eL, Option.bind_some, if_pos (decide_eq_true (y5e.2 (show LS s ≤ val s.fLatency from Rat.le_refl)))]
  have y0 : (fun (x : R) (s' : Nat × List R × Int) => chk (s'.1 = 0) (yF [[b1], [b2]] s x s'.2.1 s'.2.2)) ⟨0, 1⟩ (0, ([] : List R), 0) = some (true, (0, [ofQ (T2 b1 b2 0)], 0)) := by
   show chk (0 = 0) (yF [[b1], [b2]] s ⟨0, 1⟩ [] 0) = _
   rw [yj rfl]
   unfold yF
   rw [v0, Option.bind_some, if_pos (by simp), Option.bind_some, if_pos rfl]
  have y1 : ∀ q : Rat, fits q = true → q ≤ T2 b1 b2 (LS s) → (fun (x : R) (s' : Nat × List R × Int) => chk (s'.1 = 0) (yF [[b1], [b2]] s x s'.2.1 s'.2.2)) ⟨d, 1⟩ (0, [ofQ q], 0) = some (true, (0, [ofQ (T2 b1 b2 (LS s))], 0)) := by
   intro q hq hqle
   show chk (0 = 0) (yF [[b1], [b2]] s ⟨d, 1⟩ [ofQ q] 0) = _
   rw [yj rfl]
   unfold yF
   rw [vL, Option.bind_some, if_neg (by simp), yj (by simp)]
   show Option.bind (Option.bind (yV (ofQ (T2 b1 b2 (LS s))) (ofQ q)) _) _ = _
   rw [y3c (y2H hL.2.2) (y2H hq), y20, y20, Option.bind_some, Option.bind_some]
   by_cases hlt : q < T2 b1 b2 (LS s)
   ·rw [if_pos (decide_eq_true (y4T.2 hlt))]
   ·rw [if_neg (fun h => hlt (y4T.1 (of_decide_eq_true h)))]
    have : q = T2 b1 b2 (LS s) := Rat.le_antisymm hqle (Rat.not_lt.1 hlt)
    rw [this]
  have hp : ∀ {t t' : SV} {c : List (List B)}, y1O (Nat × List R × Int) (fun (x : R) (s' : Nat × List R × Int) => chk (s'.1 = 0) (yF [[b1], [b2]] s x s'.2.1 s'.2.2)) (0, ([] : List R), 0) [[b1], [b2]] t c t' [s.fLatency] = some (0, [ofQ (T2 b1 b2 (LS s))], 0) := by
   intro t t' c
   unfold y1O
   have hF : 3 ≤ yu := by rw [y1C]; omega
   obtain ⟨n, hn⟩ : ∃ n, yu = n + 3 := ⟨yu - 3, by omega⟩
   rw [y5W, Option.bind_some]
   refine (congrArg (fun o => Option.bind o _) y0).trans ?_
   rw [Option.bind_some, if_neg (by simp)]
   refine y1P (P := fun o => o = _) fun k hk => ?_
   rw [hn, y9n h1 h2, hk]
   refine y1P (P := fun o => o = _) fun k3 hk3 => ?_
   obtain ⟨m, hm⟩ : ∃ m, yu = m + 2 := ⟨yu - 2, by omega⟩
   have n0 : nth ([s.fLatency] : List R) 0 = s.fLatency := rfl
   rw [hm, y19, if_pos (by simp), yj (by simp), n0, hl]
   simp only []
   rw [y7N (by omega) (y2m hG), Option.bind_some]
   unfold y1k
   rw [Option.bind_some]
   refine (congrArg (fun o => Option.bind o _) (y1 _ ht.2.2 hle)).trans ?_
   rw [Option.bind_some, if_neg (by simp), ya9 h0 (y2m hG) hN, Option.bind_some, Option.bind_some]
   refine (congrArg (fun o => Option.bind (Option.bind o _) _) (y1 _ hL.2.2 Rat.le_refl)).trans ?_
   rw [Option.bind_some, Option.bind_some, if_neg (by simp), yn (x := 0 + 1) (by omega), y19, if_neg (by simp), hk3]
  rw [hp, Option.bind_some, hk]
  simp only []
  rw [if_neg (by simp), yj (by simp)]
  rfl
end Go.Proofs.Ytakfmdiiehcbdaa

/- The engine of this claim's walks: contracts of the functions that the law reaches. No conditions beyond those in each theorem's statement. -/
import Derived.Test.YtahpdiojgdlmgaaPortA
import Derived.Test.YtahpdiojgdlmgaaProg
set_option linter.all false
namespace Go.Proofs.Ytahpdiojgdlmgaa
open Go Go.RowKit Sep

theorem putR_inv {slow delay store now last t size r er now' last' : Int} {l l' : List Fr} (h : putR slow delay store now last l t size = (r, er, now', last', l')) (hs : ∀ x ∈ l, 1 ≤ x.size ∧ x.size ≤ 72) (hb : 1 ≤ slow ∧ slow ≤ 16 ∧ 0 ≤ delay ∧ delay ≤ 1000 ∧ 0 ≤ now ∧ 0 ≤ last) :
    (∀ x ∈ l', 1 ≤ x.size ∧ x.size ≤ 72) ∧ l'.length ≤ l.length + 1 ∧ now ≤ now' ∧ 0 ≤ last' ∧ last' ≤ max last 1073742824 + 1152 ∧ (1 ≤ size → size ≤ 72 → now ≤ t → t ≤ 1073741824 → now' = t) ∧ (er = 0 → r = last' ∧ 1 ≤ r) ∧ (er ≠ 0 → last' = last ∧ r = 0) := by
  unfold putR at h
  split at h
  · simp only [Prod.mk.injEq] at h; obtain ⟨rfl, rfl, rfl, rfl, rfl⟩ := h
    exact ⟨hs, by omega, by omega, by omega, by omega, by omega, by omega, by omega⟩
  · split at h
    · simp only [Prod.mk.injEq] at h; obtain ⟨rfl, rfl, rfl, rfl, rfl⟩ := h
      exact ⟨sz_filter hs, Nat.le_succ_of_le (List.length_filter_le _ _), by omega, by omega, by omega, by omega, by omega, by omega⟩
    · have hmu := mul_bd (a := size) (b := slow) (A := 72) (B := 16) (by omega) (by omega) (by omega) (by omega)
      have hmu1 : 1 ≤ size * slow := by have := Int.mul_pos (a := size) (b := slow) (by omega) (by omega); omega
      simp only [Prod.mk.injEq] at h; obtain ⟨rfl, rfl, rfl, rfl, rfl⟩ := h
      refine ⟨?_, ?_, by omega, by omega, by omega, by omega, by omega, by omega⟩
      · intro x hx
        rcases List.mem_append.1 hx with hx | hx
        · exact sz_filter hs x hx
        · simp at hx; subst hx; constructor <;> simp <;> omega
      · simp; exact List.length_filter_le _ _
theorem putR_full {slow delay store now last t size r er now' last' : Int} {l l' : List Fr} (h : putR slow delay store now last l t size = (r, er, now', last', l')) (hs : ∀ x ∈ l, 1 ≤ x.size ∧ x.size ≤ 72)
    (ht : now ≤ t ∧ t ≤ 1073741824) (hz : 1 ≤ size ∧ size ≤ 72) (hl : 72 * ((l.length : Int) + 1) ≤ store) : er = 0 ∧ r = max (t + delay) last + size * slow ∧ now' = t ∧ last' = r := by
  unfold putR at h
  rw [if_neg (by omega), if_neg (by
    have hb := sumF_bd (fun x => decide (x.fin > max t t)) _ (sz_filter (q := fun x => !decide (x.fin ≤ t)) hs)
    have hc := List.length_filter_le (fun x : Fr => !decide (x.fin ≤ t)) l
    omega)] at h
  simp only [Prod.mk.injEq] at h; obtain ⟨rfl, rfl, rfl, rfl, rfl⟩ := h
  exact ⟨rfl, rfl, rfl, rfl⟩
theorem frT_bd {ws : List Int} (h : ∀ x ∈ ws, 0 ≤ x ∧ x ≤ 255) : ∀ n : Nat, 0 ≤ frT ws n ∧ frT ws n ≤ 255 * n ∧ frT ws n ≤ frT ws (n + 1) := by
  have h1 : ∀ n : Nat, 0 ≤ (if (n : Int) < ws.length then nth ws n else 0) ∧ (if (n : Int) < ws.length then nth ws n else 0) ≤ 255 := by
    intro n; split
    · exact h _ (nth_mem (by omega) (by omega))
    · omega
  intro n
  induction n with
  | zero => have := h1 0; simp only [frT] at *; omega
  | succ n ih => have := h1 n; have := h1 (n + 1); simp only [frT] at ih ⊢; omega
theorem frameL_len (ss ws : List Int) : (frameL ss ws).length = min ss.length 40 := by simp [frameL]
theorem frameL_nth {ss ws : List Int} {i : Int} (h0 : 0 ≤ i) (h : i < (frameL ss ws).length) : nth (frameL ss ws) i = ⟨frT ws (i + 1).toNat, 0, 1 + nth ss i % 72⟩ := by
  rw [frameL_len] at h
  rw [← nth_lt h0 (by rw [frameL_len]; omega)]
  obtain ⟨n, rfl⟩ : ∃ n : Nat, i = n := ⟨i.toNat, by omega⟩
  rw [show ((n : Int) + 1).toNat = n + 1 from by omega]; simp [frameL]
theorem frameL_ok {ss ws : List Int} (h : ∀ x ∈ ws, 0 ≤ x ∧ x ≤ 255) : SentsOk (frameL ss ws) := by
  have hl := frameL_len ss ws
  refine ⟨fun i h0 h1 => ?_, fun i h0 h1 => ?_, by omega⟩
  · rw [frameL_nth h0 h1]
    have := frT_bd h (i + 1).toNat
    simp only []; omega
  · rw [frameL_nth (by omega) h1, frameL_nth (by omega) (by omega)]
    have := (frT_bd h i.toNat).2.2
    simp only []; rw [show (i - 1 + 1).toNat = i.toNat from by omega, show (i + 1).toNat = i.toNat + 1 from by omega]; exact this
theorem serveL_nth {l : List Sent} {slow delay i : Int} (h0 : 0 ≤ i) (h : i < l.length) : nth (serveL l slow delay) i = servE l slow delay (i + 1).toNat := by
  obtain ⟨n, rfl⟩ : ∃ n : Nat, i = n := ⟨i.toNat, by omega⟩
  rw [← nth_lt h0 (by simp [serveL]; omega), show ((n : Int) + 1).toNat = n + 1 from by omega]; simp [serveL]
theorem serveL_len (l : List Sent) (slow delay : Int) : (serveL l slow delay).length = l.length := by simp [serveL]


set_option maxRecDepth 20000 in
theorem serves_law (aoS : Option Addr) (mS capS : Nat) (ss : List Int) (aoW : Option Addr) (mW capW : Nat) (ws : List Int) (slow delay : Int) (w₀ : World)
    (hsS : SlP [] w₀ (.slice aoS mS capS) 1 u8P ss)
    (hsW : SlP [] w₀ (.slice aoW mW capW) 1 u8P ws)
    (hll : ss.length ≤ 9223372036854775807 ∧ ws.length ≤ 9223372036854775807)
    (hws : ∀ x ∈ ws, 0 ≤ x ∧ x ≤ 255)
    (hss : ∀ x ∈ ss, 0 ≤ x ∧ x ≤ 255)
    (hb : 0 ≤ slow ∧ slow ≤ 255 ∧ 0 ≤ delay ∧ delay ≤ 255) :
    Calls Try.prog 8 #[(.slice aoS mS capS), (.slice aoW mW capW), (.int .u8 slow), (.int .u8 delay)] w₀ fun e w' => e = .returned (.bool true) ∧ Hp [] w₀ w' [] := by
  have hok := frameL_ok (ss := ss) hws
  have hfl := frameL_len ss ws
  refine Calls.ofWC (vs := [(.slice aoS mS capS), (.slice aoW mW capW), (.int .u8 slow), (.int .u8 delay)]) (pre := []) (env := [(0, (.slice aoS mS capS)), (1, (.slice aoW mW capW)), (2, (.int .u8 slow)), (3, (.int .u8 delay))]) Try.func8 rfl Try.ntmps8 rfl (Hp.nil w₀ _) rfl ?_
  refine WC.seq ?_
  refine WC.region ?_
  refine WL.quiet (d := 8) rfl rfl rfl (q_assign rfl) ?_
  refine WL.nil ?_
  refine WX.then ?_
  refine WC.seq ?_
  refine WC.region ?_
  refine WL.quiet (d := 18) rfl rfl rfl (q_move rfl) ?_
  refine WL.quiet (d := 19) rfl rfl rfl (q_conv Try.underlying5 Try.underlying3 rfl (w64 (by omega))) ?_
  refine WL.quiet (d := 20) rfl rfl rfl (q_rem rfl rfl (by omega) (tmodp (by omega))) ?_
  refine WL.quiet (d := 21) rfl rfl rfl (q_add rfl rfl (w64 (by omega))) ?_
  refine WL.quiet (d := 22) rfl rfl rfl (q_move rfl) ?_
  refine WL.quiet (d := 23) rfl rfl rfl (q_conv Try.underlying5 Try.underlying3 rfl (w64 (by omega))) ?_
  refine WL.quiet (d := 9) rfl rfl rfl (q_assign rfl) ?_
  refine WL.quiet (d := 10) rfl rfl rfl (q_assign rfl) ?_
  refine WL.nil ?_
  refine WX.then ?_
  refine WC.seq ?_
  refine WC.region ?_
  refine WL.quiet (d := 24) rfl rfl rfl (q_move rfl) ?_
  refine WL.quiet (d := 25) rfl rfl rfl (q_move rfl) ?_
  refine WL.enter4 (dd := 26) rfl rfl rfl (run_call (l := [.tmp 24, .tmp 25]) Try.call18 (.cons rfl (.cons rfl .nil))) .nil (fun w hw => lfr_c (aoS := aoS) (mS := mS) (capS := capS) (ss := ss) (aoW := aoW) (mW := mW) (capW := capW) (ws := ws) (w₀ := w) (hsS.call hw .nil (by decide) (fun _ _ h => h)) (hsW.call hw .nil (by decide) (fun _ _ h => h)) (by omega)) ?_
  rintro ao1 m2 cap3 out4 ⟨hho5, hhm6⟩
  have hout := hho5; have hom := hhm6; have hov : SentsOk out4 := hout ▸ hok; have hol : out4.length = min ss.length 40 := by rw [hout, hfl]
  refine WL.quiet (d := 11) rfl rfl rfl (q_assign rfl) ?_
  refine WL.nil ?_
  refine WX.then ?_
  refine WC.seq ?_
  refine WC.region ?_
  refine WL.quiet (d := 28) rfl rfl rfl (q_move rfl) ?_
  refine WL.quiet (d := 29) rfl rfl rfl (q_move rfl) ?_
  refine WL.quiet (d := 30) rfl rfl rfl (q_move rfl) ?_
  refine WL.enter4 (dd := 31) rfl rfl rfl (run_call (l := [.tmp 28, .tmp 29, .tmp 30]) Try.call20 (.cons rfl (.cons rfl (.cons rfl .nil)))) .nil (fun w hw => serve_c (ao := ao1) (m := m2) (cap := cap3) (l := out4) (slow := (1 + (slow % 16))) (delay := delay) (w₀ := w) (hw.slpRow .nil .here (fun _ _ => rfl) (by decide)) (by assumption) (by omega)) ?_
  rintro ao'8 m'9 cap'10 out11 ⟨hho12, hhm13⟩
  
  have hends := hho12; have hem := hhm13; have hel : out11.length = min ss.length 40 := by rw [hends, serveL_len, hol]
  refine WL.quiet (d := 27) rfl rfl rfl (q_move rfl) ?_
  refine WL.quiet (d := 32) rfl rfl rfl (q_extract rfl rfl) ?_
  refine WL.quiet (d := 33) rfl rfl rfl (q_extract rfl rfl) ?_
  refine WL.quiet (d := 12) rfl rfl rfl (q_assign rfl) ?_
  refine WL.quiet (d := 13) rfl rfl rfl (q_assign rfl) ?_
  refine WL.nil ?_
  refine WX.then ?_
  refine WC.seq ?_
  refine WC.region ?_
  refine WL.quiet (d := 35) rfl rfl rfl (q_move rfl) ?_
  refine WL.quiet (d := 36) rfl rfl rfl (q_move rfl) ?_
  refine WL.enter1 (dd := 37) rfl rfl rfl (run_call (l := [.tmp 35, .tmp 36, .const (.int .i64 2880)]) Try.call9 (.cons rfl (.cons rfl (.cons rfl .nil)))) .nil (fun w hw => new_ok (slow := (1 + (slow % 16))) (delay := delay) (store := 2880) (w₀ := w) (by omega)) ?_
  rintro b15 _
  refine WL.quiet (d := 34) rfl rfl rfl (q_move rfl) ?_
  refine WL.quiet (d := 38) rfl rfl rfl (q_extract rfl rfl) ?_
  refine WL.quiet (d := 39) rfl rfl rfl (q_extract rfl rfl) ?_
  refine WL.quiet (d := 14) rfl rfl rfl (q_assign rfl) ?_
  refine WL.quiet (d := 15) rfl rfl rfl (q_assign rfl) ?_
  refine WL.nil ?_
  refine WX.then ?_
  refine WC.seq ?_
  refine WC.seq ?_
  refine WC.region ?_
  refine WL.quiet (d := 40) rfl rfl rfl (q_move rfl) ?_
  refine WL.quiet (d := 41) rfl rfl rfl (q_neq rfl rfl) ?_
  refine WL.quiet (d := 42) rfl rfl rfl (q_move rfl) ?_
  refine WL.cut0 True [(0, (.slice aoS mS capS)), (1, (.slice aoW mW capW)), (2, (.int .u8 slow)), (3, (.int .u8 delay)), (8, (.bool false)), (9, (.int .i64 (1 + (slow % 16)))), (10, (.int .i64 delay)), (11, (.slice ao1 m2 cap3)), (12, (.slice ao'8 m'9 cap'10)), (13, (.int .i64 0)), (14, (.pointer (some ⟨b15, 0, none⟩))), (15, (.int .i64 0)), (45, (.bool ((decide ((0 : Int) ≠ 0)) || (decide ((0 : Int) ≠ 0)))))] [stb b15 57 [(.int .i64 (1 + (slow % 16))), (.int .i64 delay), (.int .i64 2880), (.int .i64 0), (.int .i64 0), (.slice none 0 0)], row (.slice ao'8 m'9 cap'10) 3 1 (out11.flatMap intE), row (.slice ao1 m2 cap3) 47 3 (out4.flatMap sentE)] 3 ?_ (fun _ => ?_)
  · by_cases hb17 : (0 : Int) ≠ 0
    · refine WL.pin (i := 42) rfl (bT (decide_eq_true_iff) hb17) ?_
      refine WL.skip rfl rfl rfl ?_
      refine WL.skip rfl rfl rfl ?_
      refine WL.quiet (d := 45) rfl rfl rfl (q_pickT rfl rfl) ?_
      exact WL.cutEnd () trivial (.cons rfl (.cons rfl (.cons rfl (.cons rfl (.cons rfl (.cons rfl (.cons rfl (.cons rfl (.cons rfl (.cons rfl (.cons rfl (.cons rfl (.cons (some_bool (or_l (bT (decide_eq_true_iff) hb17))) .nil))))))))))))) (.cons .here (.cons .here (.cons .here .nil)))
    · refine WL.pin (i := 42) rfl (bF (decide_eq_true_iff) hb17) ?_
      refine WL.quiet (d := 43) rfl rfl rfl (q_move rfl) ?_
      refine WL.quiet (d := 44) rfl rfl rfl (q_neq rfl rfl) ?_
      refine WL.quiet (d := 45) rfl rfl rfl (q_pickF rfl rfl) ?_
      exact WL.cutEnd () trivial (.cons rfl (.cons rfl (.cons rfl (.cons rfl (.cons rfl (.cons rfl (.cons rfl (.cons rfl (.cons rfl (.cons rfl (.cons rfl (.cons rfl (.cons (some_bool (or_r (bF (decide_eq_true_iff) hb17))) .nil))))))))))))) (.cons .here (.cons .here (.cons .here .nil)))
  · skip
    refine WL.quiet (d := 46) rfl rfl rfl (q_move rfl) ?_
    refine WL.cut0 True [(0, (.slice aoS mS capS)), (1, (.slice aoW mW capW)), (2, (.int .u8 slow)), (3, (.int .u8 delay)), (8, (.bool false)), (9, (.int .i64 (1 + (slow % 16)))), (10, (.int .i64 delay)), (11, (.slice ao1 m2 cap3)), (12, (.slice ao'8 m'9 cap'10)), (13, (.int .i64 0)), (14, (.pointer (some ⟨b15, 0, none⟩))), (15, (.int .i64 0)), (52, (.bool (((decide ((0 : Int) ≠ 0)) || (decide ((0 : Int) ≠ 0))) || (decide (((m'9 : Nat) : Int) ≠ ((m2 : Nat) : Int))))))] [stb b15 57 [(.int .i64 (1 + (slow % 16))), (.int .i64 delay), (.int .i64 2880), (.int .i64 0), (.int .i64 0), (.slice none 0 0)], row (.slice ao'8 m'9 cap'10) 3 1 (out11.flatMap intE), row (.slice ao1 m2 cap3) 47 3 (out4.flatMap sentE)] 6 ?_ (fun _ => ?_)
    · by_cases hb18 : ((0 : Int) ≠ 0) ∨ ((0 : Int) ≠ 0)
      · refine WL.pin (i := 46) rfl (bT (biff_or (decide_eq_true_iff) (decide_eq_true_iff)) hb18) ?_
        refine WL.skip rfl rfl rfl ?_
        refine WL.skip rfl rfl rfl ?_
        refine WL.skip rfl rfl rfl ?_
        refine WL.skip rfl rfl rfl ?_
        refine WL.skip rfl rfl rfl ?_
        refine WL.quiet (d := 52) rfl rfl rfl (q_pickT rfl rfl) ?_
        exact WL.cutEnd () trivial (.cons rfl (.cons rfl (.cons rfl (.cons rfl (.cons rfl (.cons rfl (.cons rfl (.cons rfl (.cons rfl (.cons rfl (.cons rfl (.cons rfl (.cons (some_bool (or_l (bT (biff_or (decide_eq_true_iff) (decide_eq_true_iff)) hb18))) .nil))))))))))))) (.cons .here (.cons .here (.cons .here .nil)))
      · refine WL.pin (i := 46) rfl (bF (biff_or (decide_eq_true_iff) (decide_eq_true_iff)) hb18) ?_
        refine WL.quiet (d := 47) rfl rfl rfl (q_move rfl) ?_
        refine WL.quiet (d := 48) rfl rfl rfl (q_len Try.underlying27 rfl) ?_
        refine WL.quiet (d := 49) rfl rfl rfl (q_move rfl) ?_
        refine WL.quiet (d := 50) rfl rfl rfl (q_len Try.underlying44 rfl) ?_
        refine WL.quiet (d := 51) rfl rfl rfl (q_neq rfl rfl) ?_
        refine WL.quiet (d := 52) rfl rfl rfl (q_pickF rfl rfl) ?_
        exact WL.cutEnd () trivial (.cons rfl (.cons rfl (.cons rfl (.cons rfl (.cons rfl (.cons rfl (.cons rfl (.cons rfl (.cons rfl (.cons rfl (.cons rfl (.cons rfl (.cons (some_bool (or_r (bF (biff_or (decide_eq_true_iff) (decide_eq_true_iff)) hb18))) .nil))))))))))))) (.cons .here (.cons .here (.cons .here .nil)))
    · skip
      refine WL.nil ?_
      refine WX.then ?_
      refine WC.cond rfl (fun h => absurd ((biff_or (biff_or (decide_eq_true_iff) (decide_eq_true_iff)) (decide_eq_true_iff)).1 h) (by omega)) (fun _ => ?_)
      refine WC.skip ?_
      refine WX.then ?_
      refine WC.seq ?_
      refine WC.seq ?_
      refine WC.region ?_
      refine WL.quiet (d := 53) rfl rfl rfl (q_move rfl) ?_
      refine WL.quiet (d := 54) rfl rfl rfl (q_len Try.underlying44 rfl) ?_
      refine WL.quiet (d := 55) rfl rfl rfl (q_move rfl) ?_
      refine WL.nil ?_
      refine WX.then ?_
      refine WC.block ?_
      refine WC.nilRow 67 2 ?_
      refine WC.loop7 (fun (i : Int) (now : Int) (last : Int) (ao : Option Addr) (m : Nat) (cap : Nat) (cur : List Fr) => (0 ≤ i) ∧ (i ≤ out4.length) ∧ (0 ≤ now) ∧ (i < out4.length → now ≤ (nth out4 i).time) ∧ (last = servE out4 (1 + slow % 16) delay i.toNat) ∧ (0 ≤ last ∧ last ≤ 2147483648 + 1152 * i) ∧ (m = cur.length) ∧ (cur.length ≤ i) ∧ (∀ x ∈ cur, 1 ≤ x.size ∧ x.size ≤ 72)) (fun (i : Int) (now : Int) (last : Int) (ao : Option Addr) (m : Nat) (cap : Nat) (cur : List Fr) => [(12, (.slice ao'8 m'9 cap'10)), (14, (.pointer (some ⟨b15, 0, none⟩))), (53, (.slice ao1 m2 cap3)), (54, (.int .i64 ((m2 : Nat) : Int))), (55, (.int .i64 i))]) (fun (i : Int) (now : Int) (last : Int) (ao : Option Addr) (m : Nat) (cap : Nat) (cur : List Fr) => [row (.slice ao m cap) 67 2 (cur.flatMap frE), stb b15 57 [(.int .i64 (1 + (slow % 16))), (.int .i64 delay), (.int .i64 2880), (.int .i64 now), (.int .i64 last), (.slice ao m cap)], row (.slice ao'8 m'9 cap'10) 3 1 (out11.flatMap intE), row (.slice ao1 m2 cap3) 47 3 (out4.flatMap sentE)]) (fun (i : Int) (now : Int) (last : Int) (ao : Option Addr) (m : Nat) (cap : Nat) (cur : List Fr) => (out4.length - i.toNat)) ⟨0, 0, 0, none, 0, 0, []⟩ ⟨(by first | omega | (dsimp only; omega)), (by first | omega | (dsimp only; omega)), (by first | omega | (dsimp only; omega)), (by first | (dsimp only; intro hlt; exact (hov.one _ (by omega) hlt).1) | (intro hlt; exact (hov.one _ (by omega) hlt).1)), (by first | (dsimp only; rfl) | (rfl)), (by first | omega | (dsimp only; omega)), (by first | (dsimp only; rfl) | (rfl)), (by first | (dsimp only; simp) | (simp)), (by first | (dsimp only; simp) | (simp))⟩ (.cons rfl (.cons rfl (.cons rfl (.cons rfl (.cons rfl .nil))))) (.cons .here (.cons .here (.cons .here (.cons .here .nil)))) ?_
      rintro i now last ao m cap cur ⟨h0, h1, hn0, hn, hla, hlb, hm, hcl, hsz⟩
      have h3 := hov.one i h0
      have hmu : i < out4.length → 0 ≤ (nth out4 i).size * (1 + slow % 16) ∧ (nth out4 i).size * (1 + slow % 16) ≤ 72 * 16 := fun h => mul_bd (by have := h3 h; omega) (h3 h).2.2.2 (by omega) (by omega)
      refine WC.seq ?_
      refine WC.region ?_
      refine WL.quiet (d := 56) rfl rfl rfl (q_lss rfl rfl) ?_
      refine WL.nil ?_
      refine WX.then ?_
      refine WC.seq ?_
      refine WC.cond rfl (fun h => ?_) (fun h => ?_)
      · have hc19 : i < ((m2 : Nat) : Int) := ((decide_eq_true_iff)).1 h; clear h
        have h3 := h3 (by omega)
        have hmu := hmu (by omega)
        have hn := hn (by omega)
        refine WC.skip ?_
        refine WX.then ?_
        refine WC.seq ?_
        refine WC.block ?_
        refine WC.seq ?_
        refine WC.region ?_
        refine WL.quiet (d := 57) rfl rfl rfl (q_move rfl) ?_
        refine WL.know (fun w hw => Hp.expose (.there (.there (.there .here))) hw (by omega)) ?_
        rintro ⟨b20, rfl⟩
        refine WL.quiet (d := 58) rfl rfl rfl (q_indexAddr elT_44 rfl rfl (by omega) (by omega) rowAdd) ?_
        refine WL.quiet (d := 59) rfl rfl rfl (q_loadA (cs := (sentE (nth out4 i))) aggT_47 rfl rfl (rd_rows (.there (.there (.there .here))) (flat_rd (enc := sentE) (l := out4) (sz := 3) (fun _ => rfl) (by omega) (by omega)))) ?_
        refine WL.new (dd := 17) rfl rfl rfl (e_alloc (cs := [(.int .i64 0), (.int .i64 0), (.int .i64 0)]) zeroT_47 rfl) ?_
        intro b21 _
        refine WL.quiet (d := 16) rfl rfl rfl (q_assign rfl) ?_
        refine WL.eff0 rfl rfl (e_store (vs := (sentE (nth out4 i))) (ds := [(.int .i64 ((nth out4 i).time)), (.int .i64 ((nth out4 i).vl)), (.int .i64 ((nth out4 i).size))]) sizT_47 rfl rfl rfl rfl (oc_cons rfl (oc_cons rfl (oc_cons rfl oc_nil))) .here (Nat.le_of_ble_eq_true rfl) rfl) ?_
        refine WL.nil ?_
        refine WX.then ?_
        refine WC.seq ?_
        refine WC.draw (fun i => [5].contains i) [row (.slice ao'8 m'9 cap'10) 3 1 (out11.flatMap intE)] rfl ?_
        refine WD.pure (i := 0) (d := 60) (by kernel_rfl) rfl (by kernel_rfl) (by kernel_rfl) rfl rfl rfl (fun _ => q_move rfl) ?_
        refine WD.pure (i := 1) (d := 61) (by kernel_rfl) rfl (by kernel_rfl) (by kernel_rfl) rfl rfl rfl (fun _ => q_fieldAddr fo_47_0 rfl rfl) ?_
        refine WD.quiet (i := 2) (d := 62) (by kernel_rfl) rfl (by kernel_rfl) (by kernel_rfl) rfl rfl rfl (q_load1 oneT_3 rfl (rd_stb .here rfl)) ?_
        refine WD.pure (i := 3) (d := 63) (by kernel_rfl) rfl (by kernel_rfl) (by kernel_rfl) rfl rfl rfl (fun _ => q_fieldAddr fo_47_2 rfl rfl) ?_
        refine WD.quiet (i := 4) (d := 64) (by kernel_rfl) rfl (by kernel_rfl) (by kernel_rfl) rfl rfl rfl (q_load1 oneT_3 rfl (rd_stb .here rfl)) ?_
        refine WD.pure (i := 6) (d := 66) (by kernel_rfl) rfl (by kernel_rfl) (by kernel_rfl) rfl rfl rfl (fun _ => q_move rfl) ?_
        refine WD.pure (i := 7) (d := 67) (by kernel_rfl) rfl (by kernel_rfl) (by kernel_rfl) rfl rfl rfl (fun _ => q_move rfl) ?_
        refine WD.know (fun w hw => Hp.expose (.there (.there (.there .here))) hw (by omega)) ?_
        rintro ⟨b22, rfl⟩
        refine WD.pure (i := 8) (d := 68) (by kernel_rfl) rfl (by kernel_rfl) (by kernel_rfl) rfl rfl rfl (fun _ => q_indexAddr elT_27 rfl rfl (by omega) (by omega) rowAdd) ?_
        refine WD.stable (i := 9) (d := 69) (by kernel_rfl) rfl (by kernel_rfl) (by kernel_rfl) rfl rfl rfl ⟨_, (.cons (.there (.there (.there .here))) .nil)⟩ (q_load1 oneT_3 rfl (rd_row .here ((flat_rd (enc := intE) (l := out11) (sz := 1) (fun _ => rfl) (by omega) (by omega)) 0 _ rfl))) ?_
        refine WD.call9 (i := 5) (dd := 65) rfl (by kernel_rfl) rfl rfl rfl (.inl ⟨rfl, fun _ _ _ _ _ _ _ _ _ => ⟨_, (.cons (.there (.there (.there .here))) .nil)⟩⟩) (run_call (l := [.tmp 60, .tmp 62, .tmp 64]) Try.call19 (.cons rfl (.cons rfl (.cons rfl .nil)))) (.cons (.there (.there .here)) (.cons (.there .here) .nil)) (fun w hw => lput_c (b := b15) (slow := (1 + (slow % 16))) (delay := delay) (store := 2880) (now := now) (last := last) (ao := ao) (m := m) (cap := cap) (l := cur) (t := ((nth out4 i).time)) (size := ((nth out4 i).size)) (w₀ := w) (by first | omega | (simp; done)) (by first | assumption | (simp; done)) (by first | omega | (simp; done)) (by omega) (hw.owns (.cons (.there (.there .here)) (.cons (.there .here) .nil)))) ?_
        rintro q23 r24 er25 now'26 last'27 l'28 ao'29 cap'30 m'31 ⟨hhr32, hhm33, hhe34, hhq35⟩
        have hf := putR_full hhr32 hsz ⟨hn, h3.2.1⟩ h3.2.2 (by omega); have hnow1 := hf.2.2.1; have hlast1 := hf.2.2.2.trans hf.2.1
        have hi := putR_inv hhr32 hsz (by omega); have hsz1 := hi.1; have hcl1 := hi.2.1; have hm1 := hhm33; have hlb1 := hi.2.2.2.2.1
        have hq1 : q23 = nth out11 i := by rw [hhq35, hf.1, if_pos rfl, hf.2.1, hends, serveL_nth h0 (by omega), servE_step h0, ← hla]; omega
        refine WD.pure (i := 10) (d := 70) (by kernel_rfl) rfl (by kernel_rfl) (by kernel_rfl) rfl rfl rfl (fun _ => q_neq rfl rfl) ?_
        refine WD.done (by kernel_rfl) ?_
        refine WX.then ?_
        refine WC.cond rfl (fun h => absurd ((decide_eq_true_iff).1 h) (by exact fun h => h hq1)) (fun _ => ?_)
        refine WC.skip ?_
        refine WX.blockNormal ?_
        refine WX.then ?_
        refine WC.region ?_
        refine WL.quiet (d := 71) rfl rfl rfl (q_add rfl rfl (w64 (by omega))) ?_
        refine WL.quiet (d := 55) rfl rfl rfl (q_move rfl) ?_
        refine WL.nil ?_
        exact WX.round (G := Int × Int × Int × (Option Addr) × Nat × Nat × (List Fr)) ⟨(i + 1), now'26, last'27, ao'29, m'31, cap'30, l'28⟩ ⟨(by first | omega | (dsimp only; omega)), (by first | omega | (dsimp only; omega)), (by first | omega | (dsimp only; omega)), (by first | (dsimp only; intro hlt; rw [hnow1]; exact (show _ ≤ _ from by have := hov.two (i + 1) (by omega) hlt; rwa [show i + 1 - 1 = i from by omega] at this)) | (intro hlt; rw [hnow1]; exact (show _ ≤ _ from by have := hov.two (i + 1) (by omega) hlt; rwa [show i + 1 - 1 = i from by omega] at this))), (by first | (dsimp only; rw [servE_step h0, ← hla, hlast1]; omega) | (rw [servE_step h0, ← hla, hlast1]; omega)), (by first | omega | (dsimp only; omega)), (by first | (dsimp only; exact hm1) | (exact hm1)), (by first | (dsimp only; omega) | (omega)), (by first | (dsimp only; exact hsz1) | (exact hsz1))⟩ (by first | omega | (dsimp only; omega)) (.cons rfl (.cons rfl (.cons rfl (.cons rfl (.cons rfl .nil))))) (.cons (.there .here) (.cons .here (.cons (.there .here) (.cons (.there .here) .nil))))
      · have hc19 : ¬ (i < ((m2 : Nat) : Int)) := biffF (decide_eq_true_iff) h; clear h
        refine WC.exit ?_
        refine WX.thenExit ?_
        refine WX.thenExit ?_
        refine WX.blockHit ?_
        refine WX.then ?_
        refine WC.seq ?_
        refine WC.region ?_
        refine WL.callD (dd := 72) rfl rfl rfl (run_call (l := []) Try.call11 .nil) .nil (fun w hw => awake_c  (w₀ := w) ) ?_
        refine WL.quiet (d := 8) rfl rfl rfl (q_assign rfl) ?_
        refine WL.nil ?_
        refine WX.then ?_
        refine WC.ret ?_
        refine WX.bpRet Try.results8 (.tmp rfl .nil) (fun w hw => ?_)
        exact ⟨ret1 rfl, (hw.sub .nil)⟩
end Go.Proofs.Ytahpdiojgdlmgaa

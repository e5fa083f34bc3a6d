/- The engine of this claim's walks: contracts of the functions that the law reaches. No conditions beyond those in each theorem's statement. -/
import Derived.Test.YtahpdiojgdlmgaaPortA
import Derived.Test.YtahpdiojgdlmgaaProg
set_option linter.all false
namespace Go.Proofs.Ytahpdiojgdlmgaa
open Go Go.RowKit Sep

theorem putR_inv {slow delay store now last t size r er now' last' : Int} {l l' : List Fr} (h : putR slow delay store now last l t size = (r, er, now', last', l')) (hs : ∀ x ∈ l, 1 ≤ x.size ∧ x.size ≤ 72) (hb : 1 ≤ slow ∧ slow ≤ 16 ∧ 0 ≤ delay ∧ delay ≤ 1000 ∧ 0 ≤ now ∧ 0 ≤ last) :
    (∀ x ∈ l', 1 ≤ x.size ∧ x.size ≤ 72) ∧ l'.length ≤ l.length + 1 ∧ now ≤ now' ∧ 0 ≤ last' ∧ last' ≤ max last 1073742824 + 1152 ∧ (1 ≤ size → size ≤ 72 → now ≤ t → t ≤ 1073741824 → now' = t) ∧ (er = 0 → r = last' ∧ 1 ≤ r) ∧ (er ≠ 0 → last' = last ∧ r = 0) := by
  unfold putR at h
  split at h
  · simp only [Prod.mk.injEq] at h; obtain ⟨rfl, rfl, rfl, rfl, rfl⟩ := h
    exact ⟨hs, by omega, by omega, by omega, by omega, by omega, by omega, by omega⟩
  · split at h
    · simp only [Prod.mk.injEq] at h; obtain ⟨rfl, rfl, rfl, rfl, rfl⟩ := h
      exact ⟨sz_filter hs, Nat.le_succ_of_le (List.length_filter_le _ _), by omega, by omega, by omega, by omega, by omega, by omega⟩
    · have hmu := mul_bd (a := size) (b := slow) (A := 72) (B := 16) (by omega) (by omega) (by omega) (by omega)
      have hmu1 : 1 ≤ size * slow := by have := Int.mul_pos (a := size) (b := slow) (by omega) (by omega); omega
      simp only [Prod.mk.injEq] at h; obtain ⟨rfl, rfl, rfl, rfl, rfl⟩ := h
      refine ⟨?_, ?_, by omega, by omega, by omega, by omega, by omega, by omega⟩
      · intro x hx
        rcases List.mem_append.1 hx with hx | hx
        · exact sz_filter hs x hx
        · simp at hx; subst hx; constructor <;> simp <;> omega
      · simp; exact List.length_filter_le _ _
theorem putR_full {slow delay store now last t size r er now' last' : Int} {l l' : List Fr} (h : putR slow delay store now last l t size = (r, er, now', last', l')) (hs : ∀ x ∈ l, 1 ≤ x.size ∧ x.size ≤ 72)
    (ht : now ≤ t ∧ t ≤ 1073741824) (hz : 1 ≤ size ∧ size ≤ 72) (hl : 72 * ((l.length : Int) + 1) ≤ store) : er = 0 ∧ r = max (t + delay) last + size * slow ∧ now' = t ∧ last' = r := by
  unfold putR at h
  rw [if_neg (by omega), if_neg (by
    have hb := sumF_bd (fun x => decide (x.fin > max t t)) _ (sz_filter (q := fun x => !decide (x.fin ≤ t)) hs)
    have hc := List.length_filter_le (fun x : Fr => !decide (x.fin ≤ t)) l
    omega)] at h
  simp only [Prod.mk.injEq] at h; obtain ⟨rfl, rfl, rfl, rfl, rfl⟩ := h
  exact ⟨rfl, rfl, rfl, rfl⟩
theorem frT_bd {ws : List Int} (h : ∀ x ∈ ws, 0 ≤ x ∧ x ≤ 255) : ∀ n : Nat, 0 ≤ frT ws n ∧ frT ws n ≤ 255 * n ∧ frT ws n ≤ frT ws (n + 1) := by
  have h1 : ∀ n : Nat, 0 ≤ (if (n : Int) < ws.length then nth ws n else 0) ∧ (if (n : Int) < ws.length then nth ws n else 0) ≤ 255 := by
    intro n; split
    · exact h _ (nth_mem (by omega) (by omega))
    · omega
  intro n
  induction n with
  | zero => have := h1 0; simp only [frT] at *; omega
  | succ n ih => have := h1 n; have := h1 (n + 1); simp only [frT] at ih ⊢; omega
theorem frameL_len (ss ws : List Int) : (frameL ss ws).length = min ss.length 40 := by simp [frameL]
theorem frameL_nth {ss ws : List Int} {i : Int} (h0 : 0 ≤ i) (h : i < (frameL ss ws).length) : nth (frameL ss ws) i = ⟨frT ws (i + 1).toNat, 0, 1 + nth ss i % 72⟩ := by
  rw [frameL_len] at h
  rw [← nth_lt h0 (by rw [frameL_len]; omega)]
  obtain ⟨n, rfl⟩ : ∃ n : Nat, i = n := ⟨i.toNat, by omega⟩
  rw [show ((n : Int) + 1).toNat = n + 1 from by omega]; simp [frameL]
theorem frameL_ok {ss ws : List Int} (h : ∀ x ∈ ws, 0 ≤ x ∧ x ≤ 255) : SentsOk (frameL ss ws) := by
  have hl := frameL_len ss ws
  refine ⟨fun i h0 h1 => ?_, fun i h0 h1 => ?_, by omega⟩
  · rw [frameL_nth h0 h1]
    have := frT_bd h (i + 1).toNat
    simp only []; omega
  · rw [frameL_nth (by omega) h1, frameL_nth (by omega) (by omega)]
    have := (frT_bd h i.toNat).2.2
    simp only []; rw [show (i - 1 + 1).toNat = i.toNat from by omega, show (i + 1).toNat = i.toNat + 1 from by omega]; exact this
theorem serveL_nth {l : List Sent} {slow delay i : Int} (h0 : 0 ≤ i) (h : i < l.length) : nth (serveL l slow delay) i = servE l slow delay (i + 1).toNat := by
  obtain ⟨n, rfl⟩ : ∃ n : Nat, i = n := ⟨i.toNat, by omega⟩
  rw [← nth_lt h0 (by simp [serveL]; omega), show ((n : Int) + 1).toNat = n + 1 from by omega]; simp [serveL]
theorem serveL_len (l : List Sent) (slow delay : Int) : (serveL l slow delay).length = l.length := by simp [serveL]


set_option maxRecDepth 20000 in
theorem serves_law (aoS : Option Addr) (mS capS : Nat) (ss : List Int) (aoW : Option Addr) (mW capW : Nat) (ws : List Int) (slow delay : Int) (w₀ : World)
    (hsS : SlP [] w₀ (.slice aoS mS capS) 1 u8P ss)
    (hsW : SlP [] w₀ (.slice aoW mW capW) 1 u8P ws)
    (hll : ss.length ≤ 9223372036854775807 ∧ ws.length ≤ 9223372036854775807)
    (hws : ∀ x ∈ ws, 0 ≤ x ∧ x ≤ 255)
    (hss : ∀ x ∈ ss, 0 ≤ x ∧ x ≤ 255)
    (hb : 0 ≤ slow ∧ slow ≤ 255 ∧ 0 ≤ delay ∧ delay ≤ 255) :
    Calls Try.prog 8 #[(.slice aoS mS capS), (.slice aoW mW capW), (.int .u8 slow), (.int .u8 delay)] w₀ fun e w' => e = .returned (.bool true) ∧ Hp [] w₀ w' [] := by
  have hok := frameL_ok (ss := ss) hws
  have hfl := frameL_len ss ws
  refine Calls.ofWC (vs := [(.slice aoS mS capS), (.slice aoW mW capW), (.int .u8 slow), (.int .u8 delay)]) (pre := []) (env := [(0, (.slice aoS mS capS)), (1, (.slice aoW mW capW)), (2, (.int .u8 slow)), (3, (.int .u8 delay))]) Try.func8 rfl Try.ntmps8 rfl (Hp.nil w₀ _) rfl ?_
  refine WC.seq ?_
  refine WC.region ?_
  refine WL.quiet (d := 8) rfl rfl rfl (q_assign rfl) ?_
  refine WL.nil ?_
  refine WX.then ?_
  refine WC.seq ?_
  refine WC.region ?_
  refine WL.quiet (d := 18) rfl rfl rfl (q_move rfl) ?_
  refine WL.quiet (d := 19) rfl rfl rfl (q_conv Try.underlying5 Try.underlying3 rfl (w64 (by omega))) ?_
  refine WL.quiet (d := 20) rfl rfl rfl (q_rem rfl rfl (by omega) (tmodp (by omega))) ?_
  refine WL.quiet (d := 21) rfl rfl rfl (q_add rfl rfl (w64 (by omega))) ?_
  refine WL.quiet (d := 22) rfl rfl rfl (q_move rfl) ?_
  refine WL.quiet (d := 23) rfl rfl rfl (q_conv Try.underlying5 Try.underlying3 rfl (w64 (by omega))) ?_
  refine WL.quiet (d := 9) rfl rfl rfl (q_assign rfl) ?_
  refine WL.quiet (d := 10) rfl rfl rfl (q_assign rfl) ?_
  refine WL.nil ?_
  refine WX.then ?_
  refine WC.seq ?_
  refine WC.region ?_
  refine WL.quiet (d := 24) rfl rfl rfl (q_move rfl) ?_
  refine WL.quiet (d := 25) rfl rfl rfl (q_move rfl) ?_
  refine WL.enter4 (dd := 26) rfl rfl rfl (run_call (l := [.tmp 24, .tmp 25]) Try.call18 (.cons rfl (.cons rfl .nil))) .nil (fun w hw => lfr_c (aoS := aoS) (mS := mS) (capS := capS) (ss := ss) (aoW := aoW) (mW := mW) (capW := capW) (ws := ws) (w₀ := w) (hsS.call hw .nil (by decide) (fun _ _ h => h)) (hsW.call hw .nil (by decide) (fun _ _ h => h)) (by omega)) ?_
  rintro ao1 m2 cap3 out4 ⟨hho5, hhm6⟩
  have hout := hho5; have hom := hhm6; have hov : SentsOk out4 := hout ▸ hok; have hol : out4.length = min ss.length 40 := by rw [hout, hfl]
  refine WL.quiet (d := 11) rfl rfl rfl (q_assign rfl) ?_
  refine WL.nil ?_
  refine WX.then ?_
  refine WC.seq ?_
  refine WC.region ?_
  refine WL.quiet (d := 28) rfl rfl rfl (q_move rfl) ?_
  refine WL.quiet (d := 29) rfl rfl rfl (q_move rfl) ?_
  refine WL.quiet (d := 30) rfl rfl rfl (q_move rfl) ?_
  refine WL.enter4 (dd := 31) rfl rfl rfl (run_call (l := [.tmp 28, .tmp 29, .tmp 30]) Try.call20 (.cons rfl (.cons rfl (.cons rfl .nil)))) .nil (fun w hw => serve_c (ao := ao1) (m := m2) (cap := cap3) (l := out4) (slow := (1 + (slow % 16))) (delay := delay) (w₀ := w) (hw.slpRow .nil .here (fun _ _ => rfl) (by decide)) (by assumption) (by omega)) ?_
  rintro ao'8 m'9 cap'10 out11 ⟨hho12, hhm13⟩
  
  have hends := hho12; have hem := hhm13; have hel : out11.length = min ss.length 40 := by rw [hends, serveL_len, hol]
  refine WL.quiet (d := 27) rfl rfl rfl (q_move rfl) ?_
  refine WL.quiet (d := 32) rfl rfl rfl (q_extract rfl rfl) ?_
  refine WL.quiet (d := 33) rfl rfl rfl (q_extract rfl rfl) ?_
  refine WL.quiet (d := 12) rfl rfl rfl (q_assign rfl) ?_
  refine WL.quiet (d := 13) rfl rfl rfl (q_assign rfl) ?_
  refine WL.nil ?_
  refine WX.then ?_
  refine WC.seq ?_
  refine WC.region ?_
  refine WL.quiet (d := 35) rfl rfl rfl (q_move rfl) ?_
  refine WL.quiet (d := 36) rfl rfl rfl (q_move rfl) ?_
  refine WL.enter1 (dd := 37) rfl rfl rfl (run_call (l := [.tmp 35, .tmp 36, .const (.int .i64 2880)]) Try.call9 (.cons rfl (.cons rfl (.cons rfl .nil)))) .nil (fun w hw => new_ok (slow := (1 + (slow % 16))) (delay := delay) (store := 2880) (w₀ := w) (by omega)) ?_
  rintro b15 _
  refine WL.quiet (d := 34) rfl rfl rfl (q_move rfl) ?_
  refine WL.quiet (d := 38) rfl rfl rfl (q_extract rfl rfl) ?_
  refine WL.quiet (d := 39) rfl rfl rfl (q_extract rfl rfl) ?_
  refine WL.quiet (d := 14) rfl rfl rfl (q_assign rfl) ?_
  refine WL.quiet (d := 15) rfl rfl rfl (q_assign rfl) ?_
  refine WL.nil ?_
  refine WX.then ?_
  refine WC.seq ?_
  refine WC.seq ?_
  refine WC.region ?_
  refine WL.quiet (d := 40) rfl rfl rfl (q_move rfl) ?_
  refine WL.quiet (d := 41) rfl rfl rfl (q_neq rfl rfl) ?_
  refine WL.quiet (d := 42) rfl rfl rfl (q_move rfl) ?_
  refine WL.cut0 True [(0, (.slice aoS mS capS)), (1, (.slice aoW mW capW)), (2, (.int .u8 slow)), (3, (.int .u8 delay)), (8, (.bool false)), (9, (.int .i64 (1 + (slow % 16)))), (10, (.int .i64 delay)), (11, (.slice ao1 m2 cap3)), (12, (.slice ao'8 m'9 cap'10)), (13, (.int .i64 0)), (14, (.pointer (some ⟨b15, 0, none⟩))), (15, (.int .i64 0)), (45, (.bool ((decide ((0 : Int) ≠ 0)) || (decide ((0 : Int) ≠ 0)))))] [stb b15 57 [(.int .i64 (1 + (slow % 16))), (.int .i64 delay), (.int .i64 2880), (.int .i64 0), (.int .i64 0), (.slice none 0 0)], row (.slice ao'8 m'9 cap'10) 3 1 (out11.flatMap intE), row (.slice ao1 m2 cap3) 47 3 (out4.flatMap sentE)] 3 ?_ (fun _ => ?_)
  · by_cases hb17 : (0 : Int) ≠ 0
    · refine WL.pin (i := 42) rfl (bT (decide_eq_true_iff) hb17) ?_
      refine WL.skip rfl rfl rfl ?_
      refine WL.skip rfl rfl rfl ?_
      refine WL.quiet (d := 45) rfl rfl rfl (q_pickT rfl rfl) ?_
      exact WL.cutEnd () trivial (.cons rfl (.cons rfl (.cons rfl (.cons rfl (.cons rfl (.cons rfl (.cons rfl (.cons rfl (.cons rfl (.cons rfl (.cons rfl (.cons rfl (.cons (some_bool (or_l (bT (decide_eq_true_iff) hb17))) .nil))))))))))))) (.cons .here (.cons .here (.cons .here .nil)))
    · refine WL.pin (i := 42) rfl (bF (decide_eq_true_iff) hb17) ?_
      refine WL.quiet (d := 43) rfl rfl rfl (q_move rfl) ?_
      refine WL.quiet (d := 44) rfl rfl rfl (q_neq rfl rfl) ?_
      refine WL.quiet (d := 45) rfl rfl rfl (q_pickF rfl rfl) ?_
      exact WL.cutEnd () trivial (.cons rfl (.cons rfl (.cons rfl (.cons rfl (.cons rfl (.cons rfl (.cons rfl (.cons rfl (.cons rfl (.cons rfl (.cons rfl (.cons rfl (.cons (some_bool (or_r (bF (decide_eq_true_iff) hb17))) .nil))))))))))))) (.cons .here (.cons .here (.cons .here .nil)))
  · skip
    refine WL.quiet (d := 46) rfl rfl rfl (q_move rfl) ?_
    refine WL.cut0 True [(0, (.slice aoS mS capS)), (1, (.slice aoW mW capW)), (2, (.int .u8 slow)), (3, (.int .u8 delay)), (8, (.bool false)), (9, (.int .i64 (1 + (slow % 16)))), (10, (.int .i64 delay)), (11, (.slice ao1 m2 cap3)), (12, (.slice ao'8 m'9 cap'10)), (13, (.int .i64 0)), (14, (.pointer (some ⟨b15, 0, none⟩))), (15, (.int .i64 0)), (52, (.bool (((decide ((0 : Int) ≠ 0)) || (decide ((0 : Int) ≠ 0))) || (decide (((m'9 : Nat) : Int) ≠ ((m2 : Nat) : Int))))))] [stb b15 57 [(.int .i64 (1 + (slow % 16))), (.int .i64 delay), (.int .i64 2880), (.int .i64 0), (.int .i64 0), (.slice none 0 0)], row (.slice ao'8 m'9 cap'10) 3 1 (out11.flatMap intE), row (.slice ao1 m2 cap3) 47 3 (out4.flatMap sentE)] 6 ?_ (fun _ => ?_)
    · by_cases hb18 : ((0 : Int) ≠ 0) ∨ ((0 : Int) ≠ 0)
      · refine WL.pin (i := 46) rfl (bT (biff_or (decide_eq_true_iff) (decide_eq_true_iff)) hb18) ?_
        refine WL.skip rfl rfl rfl ?_
        refine WL.skip rfl rfl rfl ?_
        refine WL.skip rfl rfl rfl ?_
        refine WL.skip rfl rfl rfl ?_
        refine WL.skip rfl rfl rfl ?_
        refine WL.quiet (d := 52) rfl rfl rfl (q_pickT rfl rfl) ?_
        exact WL.cutEnd () trivial (.cons rfl (.cons rfl (.cons rfl (.cons rfl (.cons rfl (.cons rfl (.cons rfl (.cons rfl (.cons rfl (.cons rfl (.cons rfl (.cons rfl (.cons (some_bool (or_l (bT (biff_or (decide_eq_true_iff) (decide_eq_true_iff)) hb18))) .nil))))))))))))) (.cons .here (.cons .here (.cons .here .nil)))
      · refine WL.pin (i := 46) rfl (bF (biff_or (decide_eq_true_iff) (decide_eq_true_iff)) hb18) ?_
        refine WL.quiet (d := 47) rfl rfl rfl (q_move rfl) ?_
        refine WL.quiet (d := 48) rfl rfl rfl (q_len Try.underlying27 rfl) ?_
        refine WL.quiet (d := 49) rfl rfl rfl (q_move rfl) ?_
        refine WL.quiet (d := 50) rfl rfl rfl (q_len Try.underlying44 rfl) ?_
        refine WL.quiet (d := 51) rfl rfl rfl (q_neq rfl rfl) ?_
        refine WL.quiet (d := 52) rfl rfl rfl (q_pickF rfl rfl) ?_
        exact WL.cutEnd () trivial (.cons rfl (.cons rfl (.cons rfl (.cons rfl (.cons rfl (.cons rfl (.cons rfl (.cons rfl (.cons rfl (.cons rfl (.cons rfl (.cons rfl (.cons (some_bool (or_r (bF (biff_or (decide_eq_true_iff) (decide_eq_true_iff)) hb18))) .nil))))))))))))) (.cons .here (.cons .here (.cons .here .nil)))
    · skip
      refine WL.nil ?_
      refine WX.then ?_
      refine WC.cond rfl (fun h => absurd ((biff_or (biff_or (decide_eq_true_iff) (decide_eq_true_iff)) (decide_eq_true_iff)).1 h) (by omega)) (fun _ => ?_)
      refine WC.skip ?_
      refine WX.then ?_
      refine WC.seq ?_
      refine WC.seq ?_
      refine WC.region ?_
      refine WL.quiet (d := 53) rfl rfl rfl (q_move rfl) ?_
      refine WL.quiet (d := 54) rfl rfl rfl (q_len Try.underlying44 rfl) ?_
      refine WL.quiet (d := 55) rfl rfl rfl (q_move rfl) ?_
      refine WL.nil ?_
      refine WX.then ?_
      refine WC.block ?_
      refine WC.nilRow 67 2 ?_
      refine WC.loop7 (fun (i : Int) (now : Int) (last : Int) (ao : Option Addr) (m : Nat) (cap : Nat) (cur : List Fr) => (0 ≤ i) ∧ (i ≤ out4.length) ∧ (0 ≤ now) ∧ (i < out4.length → now ≤ (nth out4 i).time) ∧ (last = servE out4 (1 + slow % 16) delay i.toNat) ∧ (0 ≤ last ∧ last ≤ 2147483648 + 1152 * i) ∧ (m = cur.length) ∧ (cur.length ≤ i) ∧ (∀ x ∈ cur, 1 ≤ x.size ∧ x.size ≤ 72)) (fun (i : Int) (now : Int) (last : Int) (ao : Option Addr) (m : Nat) (cap : Nat) (cur : List Fr) => [(12, (.slice ao'8 m'9 cap'10)), (14, (.pointer (some ⟨b15, 0, none⟩))), (53, (.slice ao1 m2 cap3)), (54, (.int .i64 ((m2 : Nat) : Int))), (55, (.int .i64 i))]) (fun (i : Int) (now : Int) (last : Int) (ao : Option Addr) (m : Nat) (cap : Nat) (cur : List Fr) => [row (.slice ao m cap) 67 2 (cur.flatMap frE), stb b15 57 [(.int .i64 (1 + (slow % 16))), (.int .i64 delay), (.int .i64 2880), (.int .i64 now), (.int .i64 last), (.slice ao m cap)], row (.slice ao'8 m'9 cap'10) 3 1 (out11.flatMap intE), row (.slice ao1 m2 cap3) 47 3 (out4.flatMap sentE)]) (fun (i : Int) (now : Int) (last : Int) (ao : Option Addr) (m : Nat) (cap : Nat) (cur : List Fr) => (out4.length - i.toNat)) ⟨0, 0, 0, none, 0, 0, []⟩ ⟨(by first | omega | (dsimp only; omega)), (by first | omega | (dsimp only; omega)), (by first | omega | (dsimp only; omega)), (by first | (dsimp only; intro hlt; exact (hov.one _ (by omega) hlt).1) | (intro hlt; exact (hov.one _ (by omega) hlt).1)), (by first | (dsimp only; rfl) | (rfl)), (by first | omega | (dsimp only; omega)), (by first | (dsimp only; rfl) | (rfl)), (by first | (dsimp only; simp) | (simp)), (by first | (dsimp only; simp) | (simp))⟩ (.cons rfl (.cons rfl (.cons rfl (.cons rfl (.cons rfl .nil))))) (.cons .here (.cons .here (.cons .here (.cons .here .nil)))) ?_
      rintro i now last ao m cap cur ⟨h0, h1, hn0, hn, hla, hlb, hm, hcl, hsz⟩
      have h3 := hov.one i h0
      have hmu : i < out4.length → 0 ≤ (nth out4 i).size * (1 + slow % 16) ∧ (nth out4 i).size * (1 + slow % 16) ≤ 72 * 16 := fun h => mul_bd (by have := h3 h; omega) (h3 h).2.2.2 (by omega) (by omega)
      refine WC.seq ?_
      refine WC.region ?_
      refine WL.quiet (d := 56) rfl rfl rfl (q_lss rfl rfl) ?_
      refine WL.nil ?_
      refine WX.then ?_
      refine WC.seq ?_
      refine WC.cond rfl (fun h => ?_) (fun h => ?_)
      · have hc19 : i < ((m2 : Nat) : Int) := ((decide_eq_true_iff)).1 h; clear h
        have h3 := h3 (by omega)
        have hmu := hmu (by omega)
        have hn := hn (by omega)
        refine WC.skip ?_
        refine WX.then ?_
        refine WC.seq ?_
        refine WC.block ?_
        refine WC.seq ?_
        refine WC.region ?_
        refine WL.quiet (d := 57) rfl rfl rfl (q_move rfl) ?_
        refine WL.know (fun w hw => Hp.expose (.there (.there (.there .here))) hw (by omega)) ?_
        rintro ⟨b20, rfl⟩
        refine WL.quiet (d := 58) rfl rfl rfl (q_indexAddr elT_44 rfl rfl (by omega) (by omega) rowAdd) ?_
        refine WL.quiet (d := 59) rfl rfl rfl (q_loadA (cs := (sentE (nth out4 i))) aggT_47 rfl rfl (rd_rows (.there (.there (.there .here))) (flat_rd (enc := sentE) (l := out4) (sz := 3) (fun _ => rfl) (by omega) (by omega)))) ?_
        refine WL.new (dd := 17) rfl rfl rfl (e_alloc (cs := [(.int .i64 0), (.int .i64 0), (.int .i64 0)]) zeroT_47 rfl) ?_
        intro b21 _
        refine WL.quiet (d := 16) rfl rfl rfl (q_assign rfl) ?_
        refine WL.eff0 rfl rfl (e_store (vs := (sentE (nth out4 i))) (ds := [(.int .i64 ((nth out4 i).time)), (.int .i64 ((nth out4 i).vl)), (.int .i64 ((nth out4 i).size))]) sizT_47 rfl rfl rfl rfl (oc_cons rfl (oc_cons rfl (oc_cons rfl oc_nil))) .here (Nat.le_of_ble_eq_true rfl) rfl) ?_
        refine WL.nil ?_
        refine WX.then ?_
        refine WC.seq ?_
        refine WC.draw (fun i => [5].contains i) [row (.slice ao'8 m'9 cap'10) 3 1 (out11.flatMap intE)] rfl ?_
        refine WD.pure (i := 0) (d := 60) (by kernel_rfl) rfl (by kernel_rfl) (by kernel_rfl) rfl rfl rfl (fun _ => q_move rfl) ?_
        refine WD.pure (i := 1) (d := 61) (by kernel_rfl) rfl (by kernel_rfl) (by kernel_rfl) rfl rfl rfl (fun _ => q_fieldAddr fo_47_0 rfl rfl) ?_
        refine WD.quiet (i := 2) (d := 62) (by kernel_rfl) rfl (by kernel_rfl) (by kernel_rfl) rfl rfl rfl (q_load1 oneT_3 rfl (rd_stb .here rfl)) ?_
        refine WD.pure (i := 3) (d := 63) (by kernel_rfl) rfl (by kernel_rfl) (by kernel_rfl) rfl rfl rfl (fun _ => q_fieldAddr fo_47_2 rfl rfl) ?_
        refine WD.quiet (i := 4) (d := 64) (by kernel_rfl) rfl (by kernel_rfl) (by kernel_rfl) rfl rfl rfl (q_load1 oneT_3 rfl (rd_stb .here rfl)) ?_
        refine WD.pure (i := 6) (d := 66) (by kernel_rfl) rfl (by kernel_rfl) (by kernel_rfl) rfl rfl rfl (fun _ => q_move rfl) ?_
        refine WD.pure (i := 7) (d := 67) (by kernel_rfl) rfl (by kernel_rfl) (by kernel_rfl) rfl rfl rfl (fun _ => q_move rfl) ?_
        refine WD.know (fun w hw => Hp.expose (.there (.there (.there .here))) hw (by omega)) ?_
        rintro ⟨b22, rfl⟩
        refine WD.pure (i := 8) (d := 68) (by kernel_rfl) rfl (by kernel_rfl) (by kernel_rfl) rfl rfl rfl (fun _ => q_indexAddr elT_27 rfl rfl (by omega) (by omega) rowAdd) ?_
        refine WD.stable (i := 9) (d := 69) (by kernel_rfl) rfl (by kernel_rfl) (by kernel_rfl) rfl rfl rfl ⟨_, (.cons (.there (.there (.there .here))) .nil)⟩ (q_load1 oneT_3 rfl (rd_row .here ((flat_rd (enc := intE) (l := out11) (sz := 1) (fun _ => rfl) (by omega) (by omega)) 0 _ rfl))) ?_
        refine WD.call9 (i := 5) (dd := 65) rfl (by kernel_rfl) rfl rfl rfl (.inl ⟨rfl, fun _ _ _ _ _ _ _ _ _ => ⟨_, (.cons (.there (.there (.there .here))) .nil)⟩⟩) (run_call (l := [.tmp 60, .tmp 62, .tmp 64]) Try.call19 (.cons rfl (.cons rfl (.cons rfl .nil)))) (.cons (.there (.there .here)) (.cons (.there .here) .nil)) (fun w hw => lput_c (b := b15) (slow := (1 + (slow % 16))) (delay := delay) (store := 2880) (now := now) (last := last) (ao := ao) (m := m) (cap := cap) (l := cur) (t := ((nth out4 i).time)) (size := ((nth out4 i).size)) (w₀ := w) (by first | omega | (simp; done)) (by first | assumption | (simp; done)) (by first | omega | (simp; done)) (by omega) (hw.owns (.cons (.there (.there .here)) (.cons (.there .here) .nil)))) ?_
        rintro q23 r24 er25 now'26 last'27 l'28 ao'29 cap'30 m'31 ⟨hhr32, hhm33, hhe34, hhq35⟩
        have hf := putR_full hhr32 hsz ⟨hn, h3.2.1⟩ h3.2.2 (by omega); have hnow1 := hf.2.2.1; have hlast1 := hf.2.2.2.trans hf.2.1
        have hi := putR_inv hhr32 hsz (by omega); have hsz1 := hi.1; have hcl1 := hi.2.1; have hm1 := hhm33; have hlb1 := hi.2.2.2.2.1
        have hq1 : q23 = nth out11 i := by rw [hhq35, hf.1, if_pos rfl, hf.2.1, hends, serveL_nth h0 (by omega), servE_step h0, ← hla]; omega
        refine WD.pure (i := 10) (d := 70) (by kernel_rfl) rfl (by kernel_rfl) (by kernel_rfl) rfl rfl rfl (fun _ => q_neq rfl rfl) ?_
        refine WD.done (by kernel_rfl) ?_
        refine WX.then ?_
        refine WC.cond rfl (fun h => absurd ((decide_eq_true_iff).1 h) (by exact fun h => h hq1)) (fun _ => ?_)
        refine WC.skip ?_
        refine WX.blockNormal ?_
        refine WX.then ?_
        refine WC.region ?_
        refine WL.quiet (d := 71) rfl rfl rfl (q_add rfl rfl (w64 (by omega))) ?_
        refine WL.quiet (d := 55) rfl rfl rfl (q_move rfl) ?_
        refine WL.nil ?_
        exact WX.round (G := Int × Int × Int × (Option Addr) × Nat × Nat × (List Fr)) ⟨(i + 1), now'26, last'27, ao'29, m'31, cap'30, l'28⟩ ⟨(by first | omega | (dsimp only; omega)), (by first | omega | (dsimp only; omega)), (by first | omega | (dsimp only; omega)), (by first | (dsimp only; intro hlt; rw [hnow1]; exact (show _ ≤ _ from by have := hov.two (i + 1) (by omega) hlt; rwa [show i + 1 - 1 = i from by omega] at this)) | (intro hlt; rw [hnow1]; exact (show _ ≤ _ from by have := hov.two (i + 1) (by omega) hlt; rwa [show i + 1 - 1 = i from by omega] at this))), (by first | (dsimp only; rw [servE_step h0, ← hla, hlast1]; omega) | (rw [servE_step h0, ← hla, hlast1]; omega)), (by first | omega | (dsimp only; omega)), (by first | (dsimp only; exact hm1) | (exact hm1)), (by first | (dsimp only; omega) | (omega)), (by first | (dsimp only; exact hsz1) | (exact hsz1))⟩ (by first | omega | (dsimp only; omega)) (.cons rfl (.cons rfl (.cons rfl (.cons rfl (.cons rfl .nil))))) (.cons (.there .here) (.cons .here (.cons (.there .here) (.cons (.there .here) .nil))))
      · have hc19 : ¬ (i < ((m2 : Nat) : Int)) := biffF (decide_eq_true_iff) h; clear h
        refine WC.exit ?_
        refine WX.thenExit ?_
        refine WX.thenExit ?_
        refine WX.blockHit ?_
        refine WX.then ?_
        refine WC.seq ?_
        refine WC.region ?_
        refine WL.callD (dd := 72) rfl rfl rfl (run_call (l := []) Try.call11 .nil) .nil (fun w hw => awake_c  (w₀ := w) ) ?_
        refine WL.quiet (d := 8) rfl rfl rfl (q_assign rfl) ?_
        refine WL.nil ?_
        refine WX.then ?_
        refine WC.ret ?_
        refine WX.bpRet Try.results8 (.tmp rfl .nil) (fun w hw => ?_)
        exact ⟨ret1 rfl, (hw.sub .nil)⟩

theorem frameL_bd {ss ws : List Int} (h : ∀ x ∈ ws, 0 ≤ x ∧ x ≤ 255) (i : Int) (h0 : 0 ≤ i) (h1 : i < (frameL ss ws).length) : (nth (frameL ss ws) i).time ≤ 10200 := by
  rw [frameL_nth h0 h1]
  rw [frameL_len] at h1
  have := frT_bd h (i + 1).toNat
  simp only []; omega
theorem sz_sh {n : Int} {l : List Fr} (h : ∀ x ∈ l, 1 ≤ x.size ∧ x.size ≤ 72) : ∀ x ∈ l.map (fun x : Fr => (⟨x.size, x.fin + n⟩ : Fr)), 1 ≤ x.size ∧ x.size ≤ 72 := by
  intro x hx; obtain ⟨y, hy, rfl⟩ := List.mem_map.1 hx; exact h y hy
def sh (n : Int) (l : List Fr) : List Fr := l.map fun x => ⟨x.size, x.fin + n⟩
theorem sum_sh {n t : Int} (l : List Fr) : sumF (fun x => decide (x.fin > t + n)) (sh n l) = sumF (fun x => decide (x.fin > t)) l := by
  unfold sumF sh
  rw [List.map_map]
  congr 1
  apply List.map_congr_left
  intro x _
  simp only [Function.comp, decide_eq_true_eq]
  by_cases h : x.fin > t
  · rw [if_pos h, if_pos (by omega)]
  · rw [if_neg h, if_neg (by omega)]
theorem filter_sh {n t : Int} (l : List Fr) : (sh n l).filter (fun x => !decide (x.fin ≤ t + n)) = sh n (l.filter (fun x => !decide (x.fin ≤ t))) := by
  unfold sh
  rw [List.filter_map]
  congr 1
  apply List.filter_congr
  intro x _
  simp only [Function.comp]
  congr 1
  exact decide_eq_decide.2 (by omega)
theorem sh_snoc (n : Int) (l : List Fr) (x : Fr) : sh n (l ++ [x]) = sh n l ++ [⟨x.size, x.fin + n⟩] := by simp [sh]
theorem putR_shift {slow delay store now last t size r er now' last' nq lq r2 er2 nq' lq' n : Int} {l l' lQ' : List Fr} (h : putR slow delay store now last l t size = (r, er, now', last', l')) (h2 : putR slow delay store nq lq (sh n l) (t + n) size = (r2, er2, nq', lq', lQ'))
    (hn : 0 ≤ n) (ht : now ≤ t ∧ 0 ≤ t ∧ t + n ≤ 1073741824 ∧ nq ≤ t + n) (hz : 1 ≤ size ∧ size ≤ 72) (hl : lq = last + n ∨ (last = 0 ∧ lq = 0)) (hd : 0 ≤ delay) :
    er2 = er ∧ (er = 0 → r2 = r + n) ∧ (er ≠ 0 → r2 = r) ∧ now' = t ∧ nq' = t + n ∧ (lq' = last' + n ∨ (last' = 0 ∧ lq' = 0)) ∧ lQ' = sh n l' := by
  unfold putR at h h2
  rw [if_neg (by omega)] at h h2
  rw [filter_sh, show max (t + n) (t + n) = t + n from by omega, sum_sh] at h2
  rw [show max t t = t from by omega] at h
  split at h
  · rename_i hc
    rw [if_pos hc] at h2
    simp only [Prod.mk.injEq] at h h2
    obtain ⟨rfl, rfl, rfl, rfl, rfl⟩ := h
    obtain ⟨rfl, rfl, rfl, rfl, rfl⟩ := h2
    exact ⟨rfl, by omega, fun _ => rfl, rfl, rfl, hl, rfl⟩
  · rename_i hc
    rw [if_neg hc] at h2
    simp only [Prod.mk.injEq] at h h2
    obtain ⟨rfl, rfl, rfl, rfl, rfl⟩ := h
    obtain ⟨rfl, rfl, rfl, rfl, rfl⟩ := h2
    have e : max (t + n + delay) lq = max (t + delay) last + n := by omega
    refine ⟨rfl, fun _ => by rw [e]; omega, by omega, rfl, rfl, .inl (by rw [e]; omega), ?_⟩
    rw [sh_snoc, e]
    simp only [List.append_cancel_left_eq, List.cons.injEq, Fr.mk.injEq, and_true, true_and]
    omega
theorem held_sh {now t nq n : Int} {l lq : List Fr} (h4 : now = t) (h5 : nq = t + n) (h7 : lq = sh n l) : sumF (fun x => decide (x.fin > max t now)) l = sumF (fun x => decide (x.fin > max (t + n) nq)) lq := by
  subst h4 h5 h7
  rw [show max now now = now from by omega, show max (now + n) (now + n) = now + n from by omega, sum_sh]
theorem sh_len (n : Int) (l : List Fr) : (sh n l).length = l.length := by simp [sh]

set_option maxRecDepth 20000 in
theorem later_law (aoS : Option Addr) (mS capS : Nat) (ss : List Int) (aoW : Option Addr) (mW capW : Nat) (ws : List Int) (byN slow delay store : Int) (w₀ : World)
    (hsS : SlP [] w₀ (.slice aoS mS capS) 1 u8P ss)
    (hsW : SlP [] w₀ (.slice aoW mW capW) 1 u8P ws)
    (hll : ss.length ≤ 9223372036854775807 ∧ ws.length ≤ 9223372036854775807)
    (hws : ∀ x ∈ ws, 0 ≤ x ∧ x ≤ 255)
    (hss : ∀ x ∈ ss, 0 ≤ x ∧ x ≤ 255)
    (hb : 0 ≤ slow ∧ slow ≤ 255 ∧ 0 ≤ delay ∧ delay ≤ 255 ∧ 0 ≤ store ∧ store ≤ 65535 ∧ 0 ≤ byN ∧ byN ≤ 4294967295) :
    Calls Try.prog 5 #[(.slice aoS mS capS), (.slice aoW mW capW), (.int .u32 byN), (.int .u8 slow), (.int .u8 delay), (.int .u16 store)] w₀ fun e w' => e = .returned (.bool true) ∧ Hp [] w₀ w' [] := by
  have hok := frameL_ok (ss := ss) hws
  have hfl := frameL_len ss ws
  refine Calls.ofWC (vs := [(.slice aoS mS capS), (.slice aoW mW capW), (.int .u32 byN), (.int .u8 slow), (.int .u8 delay), (.int .u16 store)]) (pre := []) (env := [(0, (.slice aoS mS capS)), (1, (.slice aoW mW capW)), (2, (.int .u32 byN)), (3, (.int .u8 slow)), (4, (.int .u8 delay)), (5, (.int .u16 store))]) Try.func5 rfl Try.ntmps5 rfl (Hp.nil w₀ _) rfl ?_
  refine WC.seq ?_
  refine WC.region ?_
  refine WL.quiet (d := 12) rfl rfl rfl (q_assign rfl) ?_
  refine WL.nil ?_
  refine WX.then ?_
  refine WC.seq ?_
  refine WC.region ?_
  refine WL.quiet (d := 25) rfl rfl rfl (q_move rfl) ?_
  refine WL.quiet (d := 26) rfl rfl rfl (q_conv Try.underlying5 Try.underlying3 rfl (w64 (by omega))) ?_
  refine WL.quiet (d := 27) rfl rfl rfl (q_rem rfl rfl (by omega) (tmodp (by omega))) ?_
  refine WL.quiet (d := 28) rfl rfl rfl (q_add rfl rfl (w64 (by omega))) ?_
  refine WL.quiet (d := 29) rfl rfl rfl (q_move rfl) ?_
  refine WL.quiet (d := 30) rfl rfl rfl (q_conv Try.underlying5 Try.underlying3 rfl (w64 (by omega))) ?_
  refine WL.quiet (d := 31) rfl rfl rfl (q_move rfl) ?_
  refine WL.quiet (d := 32) rfl rfl rfl (q_conv Try.underlying43 Try.underlying3 rfl (w64 (by omega))) ?_
  refine WL.quiet (d := 33) rfl rfl rfl (q_rem rfl rfl (by omega) (tmodp (by omega))) ?_
  refine WL.quiet (d := 34) rfl rfl rfl (q_move rfl) ?_
  refine WL.quiet (d := 35) rfl rfl rfl (q_rem rfl rfl (by omega) (tmodp (by omega))) ?_
  refine WL.quiet (d := 36) rfl rfl rfl (q_conv Try.underlying49 Try.underlying3 rfl (w64 (by omega))) ?_
  refine WL.quiet (d := 13) rfl rfl rfl (q_assign rfl) ?_
  refine WL.quiet (d := 14) rfl rfl rfl (q_assign rfl) ?_
  refine WL.quiet (d := 15) rfl rfl rfl (q_assign rfl) ?_
  refine WL.quiet (d := 16) rfl rfl rfl (q_assign rfl) ?_
  refine WL.nil ?_
  refine WX.then ?_
  refine WC.seq ?_
  refine WC.region ?_
  refine WL.quiet (d := 38) rfl rfl rfl (q_move rfl) ?_
  refine WL.quiet (d := 39) rfl rfl rfl (q_move rfl) ?_
  refine WL.quiet (d := 40) rfl rfl rfl (q_move rfl) ?_
  refine WL.enter1 (dd := 41) rfl rfl rfl (run_call (l := [.tmp 38, .tmp 39, .tmp 40]) Try.call9 (.cons rfl (.cons rfl (.cons rfl .nil)))) .nil (fun w hw => new_ok (slow := (1 + (slow % 16))) (delay := delay) (store := (store % 1001)) (w₀ := w) (by omega)) ?_
  rintro b1 _
  refine WL.quiet (d := 37) rfl rfl rfl (q_move rfl) ?_
  refine WL.quiet (d := 42) rfl rfl rfl (q_extract rfl rfl) ?_
  refine WL.quiet (d := 43) rfl rfl rfl (q_extract rfl rfl) ?_
  refine WL.quiet (d := 17) rfl rfl rfl (q_assign rfl) ?_
  refine WL.quiet (d := 18) rfl rfl rfl (q_assign rfl) ?_
  refine WL.nil ?_
  refine WX.then ?_
  refine WC.seq ?_
  refine WC.region ?_
  refine WL.quiet (d := 45) rfl rfl rfl (q_move rfl) ?_
  refine WL.quiet (d := 46) rfl rfl rfl (q_move rfl) ?_
  refine WL.quiet (d := 47) rfl rfl rfl (q_move rfl) ?_
  refine WL.enter1 (dd := 48) rfl rfl rfl (run_call (l := [.tmp 45, .tmp 46, .tmp 47]) Try.call9 (.cons rfl (.cons rfl (.cons rfl .nil)))) .nil (fun w hw => new_ok (slow := (1 + (slow % 16))) (delay := delay) (store := (store % 1001)) (w₀ := w) (by omega)) ?_
  rintro b3 _
  refine WL.quiet (d := 44) rfl rfl rfl (q_move rfl) ?_
  refine WL.quiet (d := 49) rfl rfl rfl (q_extract rfl rfl) ?_
  refine WL.quiet (d := 50) rfl rfl rfl (q_extract rfl rfl) ?_
  refine WL.quiet (d := 19) rfl rfl rfl (q_assign rfl) ?_
  refine WL.quiet (d := 20) rfl rfl rfl (q_assign rfl) ?_
  refine WL.nil ?_
  refine WX.then ?_
  refine WC.seq ?_
  refine WC.seq ?_
  refine WC.region ?_
  refine WL.quiet (d := 51) rfl rfl rfl (q_move rfl) ?_
  refine WL.quiet (d := 52) rfl rfl rfl (q_neq rfl rfl) ?_
  refine WL.quiet (d := 53) rfl rfl rfl (q_move rfl) ?_
  refine WL.cut0 True [(0, (.slice aoS mS capS)), (1, (.slice aoW mW capW)), (2, (.int .u32 byN)), (3, (.int .u8 slow)), (4, (.int .u8 delay)), (5, (.int .u16 store)), (12, (.bool false)), (13, (.int .i64 (1 + (slow % 16)))), (14, (.int .i64 delay)), (15, (.int .i64 (store % 1001))), (16, (.int .i64 (byN % 1048576))), (17, (.pointer (some ⟨b1, 0, none⟩))), (18, (.int .i64 0)), (19, (.pointer (some ⟨b3, 0, none⟩))), (20, (.int .i64 0)), (56, (.bool ((decide ((0 : Int) ≠ 0)) || (decide ((0 : Int) ≠ 0)))))] [stb b3 57 [(.int .i64 (1 + (slow % 16))), (.int .i64 delay), (.int .i64 (store % 1001)), (.int .i64 0), (.int .i64 0), (.slice none 0 0)], stb b1 57 [(.int .i64 (1 + (slow % 16))), (.int .i64 delay), (.int .i64 (store % 1001)), (.int .i64 0), (.int .i64 0), (.slice none 0 0)]] 3 ?_ (fun _ => ?_)
  · by_cases hb5 : (0 : Int) ≠ 0
    · refine WL.pin (i := 53) rfl (bT (decide_eq_true_iff) hb5) ?_
      refine WL.skip rfl rfl rfl ?_
      refine WL.skip rfl rfl rfl ?_
      refine WL.quiet (d := 56) rfl rfl rfl (q_pickT rfl rfl) ?_
      exact WL.cutEnd () trivial (.cons rfl (.cons rfl (.cons rfl (.cons rfl (.cons rfl (.cons rfl (.cons rfl (.cons rfl (.cons rfl (.cons rfl (.cons rfl (.cons rfl (.cons rfl (.cons rfl (.cons rfl (.cons (some_bool (or_l (bT (decide_eq_true_iff) hb5))) .nil)))))))))))))))) (.cons .here (.cons .here .nil))
    · refine WL.pin (i := 53) rfl (bF (decide_eq_true_iff) hb5) ?_
      refine WL.quiet (d := 54) rfl rfl rfl (q_move rfl) ?_
      refine WL.quiet (d := 55) rfl rfl rfl (q_neq rfl rfl) ?_
      refine WL.quiet (d := 56) rfl rfl rfl (q_pickF rfl rfl) ?_
      exact WL.cutEnd () trivial (.cons rfl (.cons rfl (.cons rfl (.cons rfl (.cons rfl (.cons rfl (.cons rfl (.cons rfl (.cons rfl (.cons rfl (.cons rfl (.cons rfl (.cons rfl (.cons rfl (.cons rfl (.cons (some_bool (or_r (bF (decide_eq_true_iff) hb5))) .nil)))))))))))))))) (.cons .here (.cons .here .nil))
  · skip
    refine WL.nil ?_
    refine WX.then ?_
    refine WC.cond rfl (fun h => absurd ((biff_or (decide_eq_true_iff) (decide_eq_true_iff)).1 h) (by omega)) (fun _ => ?_)
    refine WC.skip ?_
    refine WX.then ?_
    refine WC.seq ?_
    refine WC.seq ?_
    refine WC.region ?_
    refine WL.quiet (d := 57) rfl rfl rfl (q_move rfl) ?_
    refine WL.quiet (d := 58) rfl rfl rfl (q_move rfl) ?_
    refine WL.enter4 (dd := 59) rfl rfl rfl (run_call (l := [.tmp 57, .tmp 58]) Try.call18 (.cons rfl (.cons rfl .nil))) .nil (fun w hw => lfr_c (aoS := aoS) (mS := mS) (capS := capS) (ss := ss) (aoW := aoW) (mW := mW) (capW := capW) (ws := ws) (w₀ := w) (hsS.call hw .nil (by decide) (fun _ _ h => h)) (hsW.call hw .nil (by decide) (fun _ _ h => h)) (by omega)) ?_
    rintro ao6 m7 cap8 out9 ⟨hho10, hhm11⟩
    have hout := hho10
    have hom := hhm11
    have hov : SentsOk out9 := hout ▸ hok
    have hol : out9.length = min ss.length 40 := by rw [hout, hfl]
    have hob : ∀ i : Int, 0 ≤ i → i < out9.length → (nth out9 i).time ≤ 10200 := hout.symm ▸ frameL_bd (ss := ss) hws
    refine WL.quiet (d := 60) rfl rfl rfl (q_len Try.underlying44 rfl) ?_
    refine WL.quiet (d := 61) rfl rfl rfl (q_move rfl) ?_
    refine WL.nil ?_
    refine WX.then ?_
    refine WC.block ?_
    refine WC.nilRow 67 2 ?_
    refine WC.nilRow 67 2 ?_
    refine WC.loop13 (fun (i : Int) (now : Int) (last : Int) (ao : Option Addr) (m : Nat) (cap : Nat) (cur : List Fr) (nq : Int) (lq : Int) (aoq : Option Addr) (mq : Nat) (capq : Nat) (curq : List Fr) => (0 ≤ i) ∧ (i ≤ out9.length) ∧ (0 ≤ now ∧ (i < out9.length → now ≤ (nth out9 i).time)) ∧ (0 ≤ nq ∧ (i < out9.length → nq ≤ (nth out9 i).time + (byN % 1048576))) ∧ (lq = last + (byN % 1048576) ∨ (last = 0 ∧ lq = 0)) ∧ (0 ≤ last ∧ last ≤ 2147483648 + 1152 * i) ∧ (m = cur.length) ∧ (mq = curq.length) ∧ (cur.length ≤ i) ∧ (∀ x ∈ cur, 1 ≤ x.size ∧ x.size ≤ 72) ∧ (curq = sh (byN % 1048576) cur)) (fun (i : Int) (now : Int) (last : Int) (ao : Option Addr) (m : Nat) (cap : Nat) (cur : List Fr) (nq : Int) (lq : Int) (aoq : Option Addr) (mq : Nat) (capq : Nat) (curq : List Fr) => [(16, (.int .i64 (byN % 1048576))), (17, (.pointer (some ⟨b1, 0, none⟩))), (19, (.pointer (some ⟨b3, 0, none⟩))), (59, (.slice ao6 m7 cap8)), (60, (.int .i64 ((m7 : Nat) : Int))), (61, (.int .i64 i))]) (fun (i : Int) (now : Int) (last : Int) (ao : Option Addr) (m : Nat) (cap : Nat) (cur : List Fr) (nq : Int) (lq : Int) (aoq : Option Addr) (mq : Nat) (capq : Nat) (curq : List Fr) => [row (.slice aoq mq capq) 67 2 (curq.flatMap frE), row (.slice ao m cap) 67 2 (cur.flatMap frE), row (.slice ao6 m7 cap8) 47 3 (out9.flatMap sentE), stb b3 57 [(.int .i64 (1 + (slow % 16))), (.int .i64 delay), (.int .i64 (store % 1001)), (.int .i64 nq), (.int .i64 lq), (.slice aoq mq capq)], stb b1 57 [(.int .i64 (1 + (slow % 16))), (.int .i64 delay), (.int .i64 (store % 1001)), (.int .i64 now), (.int .i64 last), (.slice ao m cap)]]) (fun (i : Int) (now : Int) (last : Int) (ao : Option Addr) (m : Nat) (cap : Nat) (cur : List Fr) (nq : Int) (lq : Int) (aoq : Option Addr) (mq : Nat) (capq : Nat) (curq : List Fr) => (out9.length - i.toNat)) ⟨0, 0, 0, none, 0, 0, [], 0, 0, none, 0, 0, []⟩ ⟨(by first | omega | (dsimp only; omega)), (by first | omega | (dsimp only; omega)), (by first | (dsimp only; exact ⟨by omega, fun hlt => (hov.one _ (by omega) hlt).1⟩) | (exact ⟨by omega, fun hlt => (hov.one _ (by omega) hlt).1⟩)), (by first | (dsimp only; exact ⟨by omega, fun hlt => by have := (hov.one _ (by omega) hlt).1; omega⟩) | (exact ⟨by omega, fun hlt => by have := (hov.one _ (by omega) hlt).1; omega⟩)), (by first | (dsimp only; omega) | (omega)), (by first | omega | (dsimp only; omega)), (by first | (dsimp only; rfl) | (rfl)), (by first | (dsimp only; rfl) | (rfl)), (by first | (dsimp only; simp) | (simp)), (by first | (dsimp only; simp) | (simp)), (by first | (dsimp only; rfl) | (rfl))⟩ (.cons rfl (.cons rfl (.cons rfl (.cons rfl (.cons rfl (.cons rfl .nil)))))) (.cons .here (.cons .here (.cons .here (.cons .here (.cons .here .nil))))) ?_
    rintro i now last ao m cap cur nq lq aoq mq capq curq ⟨h0, h1, hn, hnq, hl, hlb, hm, hmq, hcl, hsz, hcq⟩
    have h3 := hov.one i h0
    refine WC.seq ?_
    refine WC.region ?_
    refine WL.quiet (d := 62) rfl rfl rfl (q_lss rfl rfl) ?_
    refine WL.nil ?_
    refine WX.then ?_
    refine WC.seq ?_
    refine WC.cond rfl (fun h => ?_) (fun h => ?_)
    · have hc13 : i < ((m7 : Nat) : Int) := ((decide_eq_true_iff)).1 h; clear h
      have h3 := h3 (by omega)
      have hob := hob i h0 (by omega)
      have hn := hn.2 (by omega)
      have hnq := hnq.2 (by omega)
      refine WC.skip ?_
      refine WX.then ?_
      refine WC.seq ?_
      refine WC.block ?_
      refine WC.seq ?_
      refine WC.region ?_
      refine WL.know (fun w hw => Hp.expose (.there (.there .here)) hw (by omega)) ?_
      rintro ⟨b14, rfl⟩
      refine WL.quiet (d := 63) rfl rfl rfl (q_indexAddr elT_44 rfl rfl (by omega) (by omega) rowAdd) ?_
      refine WL.quiet (d := 64) rfl rfl rfl (q_loadA (cs := (sentE (nth out9 i))) aggT_47 rfl rfl (rd_rows (.there (.there .here)) (flat_rd (enc := sentE) (l := out9) (sz := 3) (fun _ => rfl) (by omega) (by omega)))) ?_
      refine WL.new (dd := 22) rfl rfl rfl (e_alloc (cs := [(.int .i64 0), (.int .i64 0), (.int .i64 0)]) zeroT_47 rfl) ?_
      intro b15 _
      refine WL.eff0 rfl rfl (e_store (vs := (sentE (nth out9 i))) (ds := [(.int .i64 ((nth out9 i).time)), (.int .i64 ((nth out9 i).vl)), (.int .i64 ((nth out9 i).size))]) sizT_47 rfl rfl rfl rfl (oc_cons rfl (oc_cons rfl (oc_cons rfl oc_nil))) .here (Nat.le_of_ble_eq_true rfl) rfl) ?_
      refine WL.nil ?_
      refine WX.then ?_
      refine WC.seq ?_
      refine WC.draw (fun i => [5, 13].contains i) [stb b15 47 [(.int .i64 ((nth out9 i).time)), (.int .i64 ((nth out9 i).vl)), (.int .i64 ((nth out9 i).size))]] rfl ?_
      refine WD.pure (i := 0) (d := 65) (by kernel_rfl) rfl (by kernel_rfl) (by kernel_rfl) rfl rfl rfl (fun _ => q_move rfl) ?_
      refine WD.pure (i := 1) (d := 66) (by kernel_rfl) rfl (by kernel_rfl) (by kernel_rfl) rfl rfl rfl (fun _ => q_fieldAddr fo_47_0 rfl rfl) ?_
      refine WD.quiet (i := 2) (d := 67) (by kernel_rfl) rfl (by kernel_rfl) (by kernel_rfl) rfl rfl rfl (q_load1 oneT_3 rfl (rd_stb .here rfl)) ?_
      refine WD.pure (i := 3) (d := 68) (by kernel_rfl) rfl (by kernel_rfl) (by kernel_rfl) rfl rfl rfl (fun _ => q_fieldAddr fo_47_2 rfl rfl) ?_
      refine WD.quiet (i := 4) (d := 69) (by kernel_rfl) rfl (by kernel_rfl) (by kernel_rfl) rfl rfl rfl (q_load1 oneT_3 rfl (rd_stb .here rfl)) ?_
      refine WD.pure (i := 6) (d := 71) (by kernel_rfl) rfl (by kernel_rfl) (by kernel_rfl) rfl rfl rfl (fun _ => q_move rfl) ?_
      refine WD.pure (i := 7) (d := 72) (by kernel_rfl) rfl (by kernel_rfl) (by kernel_rfl) rfl rfl rfl (fun _ => q_fieldAddr fo_47_0 rfl rfl) ?_
      refine WD.stable (i := 8) (d := 73) (by kernel_rfl) rfl (by kernel_rfl) (by kernel_rfl) rfl rfl rfl ⟨_, (.cons .here .nil)⟩ (q_load1 oneT_3 rfl (rd_stb .here rfl)) ?_
      refine WD.pure (i := 9) (d := 74) (by kernel_rfl) rfl (by kernel_rfl) (by kernel_rfl) rfl rfl rfl (fun _ => q_move rfl) ?_
      refine WD.pure (i := 10) (d := 75) (by kernel_rfl) rfl (by kernel_rfl) (by kernel_rfl) rfl rfl rfl (fun _ => q_add rfl rfl (w64 (by omega))) ?_
      refine WD.pure (i := 11) (d := 76) (by kernel_rfl) rfl (by kernel_rfl) (by kernel_rfl) rfl rfl rfl (fun _ => q_fieldAddr fo_47_2 rfl rfl) ?_
      refine WD.stable (i := 12) (d := 77) (by kernel_rfl) rfl (by kernel_rfl) (by kernel_rfl) rfl rfl rfl ⟨_, (.cons .here .nil)⟩ (q_load1 oneT_3 rfl (rd_stb .here rfl)) ?_
      refine WD.call9 (i := 5) (dd := 70) rfl (by kernel_rfl) rfl rfl rfl (.inl ⟨rfl, fun _ _ _ _ _ _ _ _ _ => ⟨_, (.cons (.there (.there .here)) .nil)⟩⟩) (run_call (l := [.tmp 65, .tmp 67, .tmp 69]) Try.call19 (.cons rfl (.cons rfl (.cons rfl .nil)))) (.cons (.there (.there (.there (.there (.there .here))))) (.cons (.there (.there .here)) .nil)) (fun w hw => lput_c (b := b1) (slow := (1 + (slow % 16))) (delay := delay) (store := (store % 1001)) (now := now) (last := last) (ao := ao) (m := m) (cap := cap) (l := cur) (t := ((nth out9 i).time)) (size := ((nth out9 i).size)) (w₀ := w) (by first | omega | (simp; done)) (by first | assumption | (simp; done)) (by first | omega | (simp; done)) (by omega) (hw.owns (.cons (.there (.there (.there (.there (.there .here))))) (.cons (.there (.there .here)) .nil)))) ?_
      rintro q16 r17 er18 now'19 last'20 l'21 ao'22 cap'23 m'24 ⟨hhr25, hhm26, hhe27, hhq28⟩
      have hr1 := hhr25; have hi := putR_inv hhr25 hsz (by omega); have hsz1 := hi.1; have hcl1 := hi.2.1; have hm1 := hhm26; have hlb1 := hi.2.2.2.2.1; have hll1 : l'21.length ≤ 1099511627776 := by omega
      have hq1 := hhq28; have he1 := hhe27
      refine WD.call9 (i := 13) (dd := 78) rfl (by kernel_rfl) rfl rfl rfl (.inl ⟨rfl, fun _ _ _ _ _ _ _ _ _ => ⟨_, (.cons (.there (.there (.there (.there .here)))) .nil)⟩⟩) (run_call (l := [.tmp 71, .tmp 75, .tmp 77]) Try.call19 (.cons rfl (.cons rfl (.cons rfl .nil)))) (.cons (.there (.there (.there (.there (.there .here))))) (.cons (.there (.there (.there .here))) .nil)) (fun w hw => lput_c (b := b3) (slow := (1 + (slow % 16))) (delay := delay) (store := (store % 1001)) (now := nq) (last := lq) (ao := aoq) (m := mq) (cap := capq) (l := curq) (t := (((nth out9 i).time) + (byN % 1048576))) (size := ((nth out9 i).size)) (w₀ := w) (by first | omega | (simp; done)) (by rw [hcq]; exact sz_sh hsz) (by rw [hcq, sh_len]; omega) (by omega) (hw.owns (.cons (.there (.there (.there (.there (.there .here))))) (.cons (.there (.there (.there .here))) .nil)))) ?_
      rintro q29 r30 er31 now'32 last'33 l'34 ao'35 cap'36 m'37 ⟨hhr38, hhm39, hhe40, hhq41⟩
      rw [hcq] at hhr38; have hs := putR_shift hr1 hhr38 (by omega) (by omega) (by omega) hl (by omega); have hm2 := hhm39; have hq2 := hhq41; obtain ⟨hs1, hs2, hs3, hs4, hs5, hs6, hs7⟩ := hs; rw [hs1] at hq2; have hsz2 : ∀ x ∈ l'34, 1 ≤ x.size ∧ x.size ≤ 72 := by rw [hs7]; exact sz_sh hsz1
      have hll2 : l'34.length ≤ 1099511627776 := by rw [hs7, sh_len]; omega
      refine WD.pure (i := 14) (d := 23) (by kernel_rfl) rfl (by kernel_rfl) (by kernel_rfl) rfl rfl rfl (fun _ => q_assign rfl) ?_
      refine WD.pure (i := 15) (d := 24) (by kernel_rfl) rfl (by kernel_rfl) (by kernel_rfl) rfl rfl rfl (fun _ => q_assign rfl) ?_
      refine WD.done (by kernel_rfl) ?_
      refine WX.then ?_
      refine WC.seq ?_
      refine WC.draw (fun i => [].contains i) [] rfl ?_
      refine WD.pure (i := 0) (d := 79) (by kernel_rfl) rfl (by kernel_rfl) (by kernel_rfl) rfl rfl rfl (fun _ => q_move rfl) ?_
      refine WD.pure (i := 1) (d := 80) (by kernel_rfl) rfl (by kernel_rfl) (by kernel_rfl) rfl rfl rfl (fun _ => q_gtr rfl rfl) ?_
      refine WD.pure (i := 2) (d := 81) (by kernel_rfl) rfl (by kernel_rfl) (by kernel_rfl) rfl rfl rfl (fun _ => q_move rfl) ?_
      refine WD.mid (fuel' := 22) [(16, (.int .i64 (byN % 1048576))), (17, (.pointer (some ⟨b1, 0, none⟩))), (19, (.pointer (some ⟨b3, 0, none⟩))), (59, (.slice (some ⟨b14, 0, none⟩) m7 cap8)), (60, (.int .i64 ((m7 : Nat) : Int))), (61, (.int .i64 i)), (62, (.bool (decide (i < ((m7 : Nat) : Int))))), (63, (.pointer (some ⟨b14, i.toNat * 3, none⟩))), (64, (.agg (((sentE (nth out9 i))).toArray))), (22, (.pointer (some ⟨b15, 0, none⟩))), (65, (.pointer (some ⟨b1, 0, none⟩))), (66, (.pointer (some ⟨b15, 0, none⟩))), (67, (.int .i64 ((nth out9 i).time))), (68, (.pointer (some ⟨b15, 2, none⟩))), (69, (.int .i64 ((nth out9 i).size))), (71, (.pointer (some ⟨b3, 0, none⟩))), (72, (.pointer (some ⟨b15, 0, none⟩))), (73, (.int .i64 ((nth out9 i).time))), (74, (.int .i64 (byN % 1048576))), (75, (.int .i64 (((nth out9 i).time) + (byN % 1048576)))), (76, (.pointer (some ⟨b15, 2, none⟩))), (77, (.int .i64 ((nth out9 i).size))), (70, (.int .i64 q16)), (78, (.int .i64 q29)), (23, (.int .i64 q16)), (24, (.int .i64 q29)), (79, (.int .i64 q16)), (80, (.bool (decide (q16 > 0)))), (81, (.bool (decide (q16 > 0)))), (87, (.bool ((decide (q16 > 0)) && (decide (q29 ≠ (q16 + (byN % 1048576)))))))] (listedA 31 [8, 7, 6, 5, 4, 3, 2, 1, 0]) ?_ (fun K43 => ?_)
      rotate_left
      · by_cases hb42 : q16 > 0
        · refine WD.pin (i := 81) rfl (bT (decide_eq_true_iff) hb42) ?_
          refine WD.pure (i := 3) (d := 82) (by kernel_rfl) rfl (by kernel_rfl) (by kernel_rfl) rfl rfl rfl (fun _ => q_move rfl) ?_
          refine WD.pure (i := 4) (d := 83) (by kernel_rfl) rfl (by kernel_rfl) (by kernel_rfl) rfl rfl rfl (fun _ => q_move rfl) ?_
          refine WD.pure (i := 5) (d := 84) (by kernel_rfl) rfl (by kernel_rfl) (by kernel_rfl) rfl rfl rfl (fun _ => q_move rfl) ?_
          refine WD.pure (i := 6) (d := 85) (by kernel_rfl) rfl (by kernel_rfl) (by kernel_rfl) rfl rfl rfl (fun _ => q_add rfl rfl (w64 (by omega))) ?_
          refine WD.pure (i := 7) (d := 86) (by kernel_rfl) rfl (by kernel_rfl) (by kernel_rfl) rfl rfl rfl (fun _ => q_neq rfl rfl) ?_
          refine WD.pure (i := 8) (d := 87) (by kernel_rfl) rfl (by kernel_rfl) (by kernel_rfl) rfl rfl rfl (fun _ => q_pickT rfl rfl) ?_
          refine WD.restr ?_ K43
          exact (.cons rfl (.cons rfl (.cons rfl (.cons rfl (.cons rfl (.cons rfl (.cons rfl (.cons rfl (.cons rfl (.cons rfl (.cons rfl (.cons rfl (.cons rfl (.cons rfl (.cons rfl (.cons rfl (.cons rfl (.cons rfl (.cons rfl (.cons rfl (.cons rfl (.cons rfl (.cons rfl (.cons rfl (.cons rfl (.cons rfl (.cons rfl (.cons rfl (.cons (some_bool (Eq.symm (bT (decide_eq_true_iff) hb42))) (.cons (some_bool (and_r (bT (decide_eq_true_iff) hb42))) .nil))))))))))))))))))))))))))))))
        · refine WD.pin (i := 81) rfl (bF (decide_eq_true_iff) hb42) ?_
          refine WD.skip (i := 3) (d := 82) (by kernel_rfl) rfl (by kernel_rfl) (by kernel_rfl) rfl rfl rfl ?_
          refine WD.skip (i := 4) (d := 83) (by kernel_rfl) rfl (by kernel_rfl) (by kernel_rfl) rfl rfl rfl ?_
          refine WD.skip (i := 5) (d := 84) (by kernel_rfl) rfl (by kernel_rfl) (by kernel_rfl) rfl rfl rfl ?_
          refine WD.skip (i := 6) (d := 85) (by kernel_rfl) rfl (by kernel_rfl) (by kernel_rfl) rfl rfl rfl ?_
          refine WD.skip (i := 7) (d := 86) (by kernel_rfl) rfl (by kernel_rfl) (by kernel_rfl) rfl rfl rfl ?_
          refine WD.pure (i := 8) (d := 87) (by kernel_rfl) rfl (by kernel_rfl) (by kernel_rfl) rfl rfl rfl (fun _ => q_pickF rfl rfl) ?_
          refine WD.restr ?_ K43
          exact (.cons rfl (.cons rfl (.cons rfl (.cons rfl (.cons rfl (.cons rfl (.cons rfl (.cons rfl (.cons rfl (.cons rfl (.cons rfl (.cons rfl (.cons rfl (.cons rfl (.cons rfl (.cons rfl (.cons rfl (.cons rfl (.cons rfl (.cons rfl (.cons rfl (.cons rfl (.cons rfl (.cons rfl (.cons rfl (.cons rfl (.cons rfl (.cons rfl (.cons (some_bool (Eq.symm (bF (decide_eq_true_iff) hb42))) (.cons (some_bool (and_l (bF (decide_eq_true_iff) hb42))) .nil))))))))))))))))))))))))))))))
      refine WD.pure (i := 9) (d := 88) (by kernel_rfl) rfl (by kernel_rfl) (by kernel_rfl) rfl rfl rfl (fun _ => q_move rfl) ?_
      refine WD.mid (fuel' := 13) [(16, (.int .i64 (byN % 1048576))), (17, (.pointer (some ⟨b1, 0, none⟩))), (19, (.pointer (some ⟨b3, 0, none⟩))), (59, (.slice (some ⟨b14, 0, none⟩) m7 cap8)), (60, (.int .i64 ((m7 : Nat) : Int))), (61, (.int .i64 i)), (62, (.bool (decide (i < ((m7 : Nat) : Int))))), (63, (.pointer (some ⟨b14, i.toNat * 3, none⟩))), (64, (.agg (((sentE (nth out9 i))).toArray))), (22, (.pointer (some ⟨b15, 0, none⟩))), (65, (.pointer (some ⟨b1, 0, none⟩))), (66, (.pointer (some ⟨b15, 0, none⟩))), (67, (.int .i64 ((nth out9 i).time))), (68, (.pointer (some ⟨b15, 2, none⟩))), (69, (.int .i64 ((nth out9 i).size))), (71, (.pointer (some ⟨b3, 0, none⟩))), (72, (.pointer (some ⟨b15, 0, none⟩))), (73, (.int .i64 ((nth out9 i).time))), (74, (.int .i64 (byN % 1048576))), (75, (.int .i64 (((nth out9 i).time) + (byN % 1048576)))), (76, (.pointer (some ⟨b15, 2, none⟩))), (77, (.int .i64 ((nth out9 i).size))), (70, (.int .i64 q16)), (78, (.int .i64 q29)), (23, (.int .i64 q16)), (24, (.int .i64 q29)), (79, (.int .i64 q16)), (80, (.bool (decide (q16 > 0)))), (81, (.bool (decide (q16 > 0)))), (87, (.bool ((decide (q16 > 0)) && (decide (q29 ≠ (q16 + (byN % 1048576))))))), (88, (.bool ((decide (q16 > 0)) && (decide (q29 ≠ (q16 + (byN % 1048576))))))), (96, (.bool (((decide (q16 > 0)) && (decide (q29 ≠ (q16 + (byN % 1048576))))) || ((decide (q16 ≤ 0)) && (decide (q29 ≠ q16))))))] (listedA 31 [17, 16, 15, 14, 13, 12, 11, 10, 9, 8, 7, 6, 5, 4, 3, 2, 1, 0]) ?_ (fun K45 => ?_)
      rotate_left
      · by_cases hb44 : (q16 > 0) ∧ (q29 ≠ (q16 + (byN % 1048576)))
        · refine WD.pin (i := 88) rfl (bT (biff_and (decide_eq_true_iff) (decide_eq_true_iff)) hb44) ?_
          refine WD.skip (i := 10) (d := 89) (by kernel_rfl) rfl (by kernel_rfl) (by kernel_rfl) rfl rfl rfl ?_
          refine WD.skip (i := 11) (d := 90) (by kernel_rfl) rfl (by kernel_rfl) (by kernel_rfl) rfl rfl rfl ?_
          refine WD.skip (i := 12) (d := 91) (by kernel_rfl) rfl (by kernel_rfl) (by kernel_rfl) rfl rfl rfl ?_
          refine WD.skip (i := 13) (d := 92) (by kernel_rfl) rfl (by kernel_rfl) (by kernel_rfl) rfl rfl rfl ?_
          refine WD.skip (i := 14) (d := 93) (by kernel_rfl) rfl (by kernel_rfl) (by kernel_rfl) rfl rfl rfl ?_
          refine WD.skip (i := 15) (d := 94) (by kernel_rfl) rfl (by kernel_rfl) (by kernel_rfl) rfl rfl rfl ?_
          refine WD.skip (i := 16) (d := 95) (by kernel_rfl) rfl (by kernel_rfl) (by kernel_rfl) rfl rfl rfl ?_
          refine WD.pure (i := 17) (d := 96) (by kernel_rfl) rfl (by kernel_rfl) (by kernel_rfl) rfl rfl rfl (fun _ => q_pickT rfl rfl) ?_
          refine WD.restr ?_ K45
          exact (.cons rfl (.cons rfl (.cons rfl (.cons rfl (.cons rfl (.cons rfl (.cons rfl (.cons rfl (.cons rfl (.cons rfl (.cons rfl (.cons rfl (.cons rfl (.cons rfl (.cons rfl (.cons rfl (.cons rfl (.cons rfl (.cons rfl (.cons rfl (.cons rfl (.cons rfl (.cons rfl (.cons rfl (.cons rfl (.cons rfl (.cons rfl (.cons rfl (.cons rfl (.cons rfl (.cons (some_bool (Eq.symm (bT (biff_and (decide_eq_true_iff) (decide_eq_true_iff)) hb44))) (.cons (some_bool (or_l (bT (biff_and (decide_eq_true_iff) (decide_eq_true_iff)) hb44))) .nil))))))))))))))))))))))))))))))))
        · refine WD.pin (i := 88) rfl (bF (biff_and (decide_eq_true_iff) (decide_eq_true_iff)) hb44) ?_
          refine WD.pure (i := 10) (d := 89) (by kernel_rfl) rfl (by kernel_rfl) (by kernel_rfl) rfl rfl rfl (fun _ => q_move rfl) ?_
          refine WD.pure (i := 11) (d := 90) (by kernel_rfl) rfl (by kernel_rfl) (by kernel_rfl) rfl rfl rfl (fun _ => q_leq rfl rfl) ?_
          refine WD.pure (i := 12) (d := 91) (by kernel_rfl) rfl (by kernel_rfl) (by kernel_rfl) rfl rfl rfl (fun _ => q_move rfl) ?_
          refine WD.mid (fuel' := 14) [(16, (.int .i64 (byN % 1048576))), (17, (.pointer (some ⟨b1, 0, none⟩))), (19, (.pointer (some ⟨b3, 0, none⟩))), (59, (.slice (some ⟨b14, 0, none⟩) m7 cap8)), (60, (.int .i64 ((m7 : Nat) : Int))), (61, (.int .i64 i)), (62, (.bool (decide (i < ((m7 : Nat) : Int))))), (63, (.pointer (some ⟨b14, i.toNat * 3, none⟩))), (64, (.agg (((sentE (nth out9 i))).toArray))), (22, (.pointer (some ⟨b15, 0, none⟩))), (65, (.pointer (some ⟨b1, 0, none⟩))), (66, (.pointer (some ⟨b15, 0, none⟩))), (67, (.int .i64 ((nth out9 i).time))), (68, (.pointer (some ⟨b15, 2, none⟩))), (69, (.int .i64 ((nth out9 i).size))), (71, (.pointer (some ⟨b3, 0, none⟩))), (72, (.pointer (some ⟨b15, 0, none⟩))), (73, (.int .i64 ((nth out9 i).time))), (74, (.int .i64 (byN % 1048576))), (75, (.int .i64 (((nth out9 i).time) + (byN % 1048576)))), (76, (.pointer (some ⟨b15, 2, none⟩))), (77, (.int .i64 ((nth out9 i).size))), (70, (.int .i64 q16)), (78, (.int .i64 q29)), (23, (.int .i64 q16)), (24, (.int .i64 q29)), (79, (.int .i64 q16)), (80, (.bool (decide (q16 > 0)))), (81, (.bool (decide (q16 > 0)))), (87, (.bool ((decide (q16 > 0)) && (decide (q29 ≠ (q16 + (byN % 1048576))))))), (88, (.bool false)), (89, (.int .i64 q16)), (90, (.bool (decide (q16 ≤ 0)))), (91, (.bool (decide (q16 ≤ 0)))), (95, (.bool ((decide (q16 ≤ 0)) && (decide (q29 ≠ q16)))))] (listedA 31 [16, 15, 14, 13, 12, 11, 10, 9, 8, 7, 6, 5, 4, 3, 2, 1, 0]) ?_ (fun K47 => ?_)
          rotate_left
          · by_cases hb46 : q16 ≤ 0
            · refine WD.pin (i := 91) rfl (bT (decide_eq_true_iff) hb46) ?_
              refine WD.pure (i := 13) (d := 92) (by kernel_rfl) rfl (by kernel_rfl) (by kernel_rfl) rfl rfl rfl (fun _ => q_move rfl) ?_
              refine WD.pure (i := 14) (d := 93) (by kernel_rfl) rfl (by kernel_rfl) (by kernel_rfl) rfl rfl rfl (fun _ => q_move rfl) ?_
              refine WD.pure (i := 15) (d := 94) (by kernel_rfl) rfl (by kernel_rfl) (by kernel_rfl) rfl rfl rfl (fun _ => q_neq rfl rfl) ?_
              refine WD.pure (i := 16) (d := 95) (by kernel_rfl) rfl (by kernel_rfl) (by kernel_rfl) rfl rfl rfl (fun _ => q_pickT rfl rfl) ?_
              refine WD.restr ?_ K47
              exact (.cons rfl (.cons rfl (.cons rfl (.cons rfl (.cons rfl (.cons rfl (.cons rfl (.cons rfl (.cons rfl (.cons rfl (.cons rfl (.cons rfl (.cons rfl (.cons rfl (.cons rfl (.cons rfl (.cons rfl (.cons rfl (.cons rfl (.cons rfl (.cons rfl (.cons rfl (.cons rfl (.cons rfl (.cons rfl (.cons rfl (.cons rfl (.cons rfl (.cons rfl (.cons rfl (.cons rfl (.cons rfl (.cons rfl (.cons (some_bool (Eq.symm (bT (decide_eq_true_iff) hb46))) (.cons (some_bool (and_r (bT (decide_eq_true_iff) hb46))) .nil)))))))))))))))))))))))))))))))))))
            · refine WD.pin (i := 91) rfl (bF (decide_eq_true_iff) hb46) ?_
              refine WD.skip (i := 13) (d := 92) (by kernel_rfl) rfl (by kernel_rfl) (by kernel_rfl) rfl rfl rfl ?_
              refine WD.skip (i := 14) (d := 93) (by kernel_rfl) rfl (by kernel_rfl) (by kernel_rfl) rfl rfl rfl ?_
              refine WD.skip (i := 15) (d := 94) (by kernel_rfl) rfl (by kernel_rfl) (by kernel_rfl) rfl rfl rfl ?_
              refine WD.pure (i := 16) (d := 95) (by kernel_rfl) rfl (by kernel_rfl) (by kernel_rfl) rfl rfl rfl (fun _ => q_pickF rfl rfl) ?_
              refine WD.restr ?_ K47
              exact (.cons rfl (.cons rfl (.cons rfl (.cons rfl (.cons rfl (.cons rfl (.cons rfl (.cons rfl (.cons rfl (.cons rfl (.cons rfl (.cons rfl (.cons rfl (.cons rfl (.cons rfl (.cons rfl (.cons rfl (.cons rfl (.cons rfl (.cons rfl (.cons rfl (.cons rfl (.cons rfl (.cons rfl (.cons rfl (.cons rfl (.cons rfl (.cons rfl (.cons rfl (.cons rfl (.cons rfl (.cons rfl (.cons rfl (.cons (some_bool (Eq.symm (bF (decide_eq_true_iff) hb46))) (.cons (some_bool (and_l (bF (decide_eq_true_iff) hb46))) .nil)))))))))))))))))))))))))))))))))))
          refine WD.pure (i := 17) (d := 96) (by kernel_rfl) rfl (by kernel_rfl) (by kernel_rfl) rfl rfl rfl (fun _ => q_pickF rfl rfl) ?_
          refine WD.restr ?_ K45
          exact (.cons rfl (.cons rfl (.cons rfl (.cons rfl (.cons rfl (.cons rfl (.cons rfl (.cons rfl (.cons rfl (.cons rfl (.cons rfl (.cons rfl (.cons rfl (.cons rfl (.cons rfl (.cons rfl (.cons rfl (.cons rfl (.cons rfl (.cons rfl (.cons rfl (.cons rfl (.cons rfl (.cons rfl (.cons rfl (.cons rfl (.cons rfl (.cons rfl (.cons rfl (.cons rfl (.cons (some_bool (Eq.symm (bF (biff_and (decide_eq_true_iff) (decide_eq_true_iff)) hb44))) (.cons (some_bool (or_r (bF (biff_and (decide_eq_true_iff) (decide_eq_true_iff)) hb44))) .nil))))))))))))))))))))))))))))))))
      refine WD.pure (i := 18) (d := 97) (by kernel_rfl) rfl (by kernel_rfl) (by kernel_rfl) rfl rfl rfl (fun _ => q_move rfl) ?_
      refine WD.mid (fuel' := 0) [(16, (.int .i64 (byN % 1048576))), (17, (.pointer (some ⟨b1, 0, none⟩))), (19, (.pointer (some ⟨b3, 0, none⟩))), (59, (.slice (some ⟨b14, 0, none⟩) m7 cap8)), (60, (.int .i64 ((m7 : Nat) : Int))), (61, (.int .i64 i)), (62, (.bool (decide (i < ((m7 : Nat) : Int))))), (63, (.pointer (some ⟨b14, i.toNat * 3, none⟩))), (64, (.agg (((sentE (nth out9 i))).toArray))), (22, (.pointer (some ⟨b15, 0, none⟩))), (65, (.pointer (some ⟨b1, 0, none⟩))), (66, (.pointer (some ⟨b15, 0, none⟩))), (67, (.int .i64 ((nth out9 i).time))), (68, (.pointer (some ⟨b15, 2, none⟩))), (69, (.int .i64 ((nth out9 i).size))), (71, (.pointer (some ⟨b3, 0, none⟩))), (72, (.pointer (some ⟨b15, 0, none⟩))), (73, (.int .i64 ((nth out9 i).time))), (74, (.int .i64 (byN % 1048576))), (75, (.int .i64 (((nth out9 i).time) + (byN % 1048576)))), (76, (.pointer (some ⟨b15, 2, none⟩))), (77, (.int .i64 ((nth out9 i).size))), (70, (.int .i64 q16)), (78, (.int .i64 q29)), (23, (.int .i64 q16)), (24, (.int .i64 q29)), (79, (.int .i64 q16)), (80, (.bool (decide (q16 > 0)))), (81, (.bool (decide (q16 > 0)))), (87, (.bool ((decide (q16 > 0)) && (decide (q29 ≠ (q16 + (byN % 1048576))))))), (88, (.bool ((decide (q16 > 0)) && (decide (q29 ≠ (q16 + (byN % 1048576))))))), (96, (.bool (((decide (q16 > 0)) && (decide (q29 ≠ (q16 + (byN % 1048576))))) || ((decide (q16 ≤ 0)) && (decide (q29 ≠ q16)))))), (97, (.bool (((decide (q16 > 0)) && (decide (q29 ≠ (q16 + (byN % 1048576))))) || ((decide (q16 ≤ 0)) && (decide (q29 ≠ q16)))))), (109, (.bool ((((decide (q16 > 0)) && (decide (q29 ≠ (q16 + (byN % 1048576))))) || ((decide (q16 ≤ 0)) && (decide (q29 ≠ q16)))) || (decide ((sumF (fun x => decide (x.fin > max ((nth out9 i).time) now'19)) l'21) ≠ (sumF (fun x => decide (x.fin > max (((nth out9 i).time) + (byN % 1048576)) now'32)) l'34))))))] (listedA 31 [30, 29, 28, 27, 26, 25, 24, 23, 22, 21, 20, 19, 18, 17, 16, 15, 14, 13, 12, 11, 10, 9, 8, 7, 6, 5, 4, 3, 2, 1, 0]) ?_ (fun K49 => ?_)
      rotate_left
      · by_cases hb48 : ((q16 > 0) ∧ (q29 ≠ (q16 + (byN % 1048576)))) ∨ ((q16 ≤ 0) ∧ (q29 ≠ q16))
        · refine WD.pin (i := 97) rfl (bT (biff_or (biff_and (decide_eq_true_iff) (decide_eq_true_iff)) (biff_and (decide_eq_true_iff) (decide_eq_true_iff))) hb48) ?_
          refine WD.skip (i := 19) (d := 98) (by kernel_rfl) rfl (by kernel_rfl) (by kernel_rfl) rfl rfl rfl ?_
          refine WD.skip (i := 20) (d := 99) (by kernel_rfl) rfl (by kernel_rfl) (by kernel_rfl) rfl rfl rfl ?_
          refine WD.skip (i := 21) (d := 100) (by kernel_rfl) rfl (by kernel_rfl) (by kernel_rfl) rfl rfl rfl ?_
          refine WD.skip (i := 22) (d := 101) (by kernel_rfl) rfl (by kernel_rfl) (by kernel_rfl) rfl rfl rfl ?_
          refine WD.skip (i := 23) (d := 102) (by kernel_rfl) rfl (by kernel_rfl) (by kernel_rfl) rfl rfl rfl ?_
          refine WD.skip (i := 24) (d := 103) (by kernel_rfl) rfl (by kernel_rfl) (by kernel_rfl) rfl rfl rfl ?_
          refine WD.skip (i := 25) (d := 104) (by kernel_rfl) rfl (by kernel_rfl) (by kernel_rfl) rfl rfl rfl ?_
          refine WD.skip (i := 26) (d := 105) (by kernel_rfl) rfl (by kernel_rfl) (by kernel_rfl) rfl rfl rfl ?_
          refine WD.skip (i := 27) (d := 106) (by kernel_rfl) rfl (by kernel_rfl) (by kernel_rfl) rfl rfl rfl ?_
          refine WD.skip (i := 28) (d := 107) (by kernel_rfl) rfl (by kernel_rfl) (by kernel_rfl) rfl rfl rfl ?_
          refine WD.skip (i := 29) (d := 108) (by kernel_rfl) rfl (by kernel_rfl) (by kernel_rfl) rfl rfl rfl ?_
          refine WD.pure (i := 30) (d := 109) (by kernel_rfl) rfl (by kernel_rfl) (by kernel_rfl) rfl rfl rfl (fun _ => q_pickT rfl rfl) ?_
          refine WD.restr ?_ K49
          exact (.cons rfl (.cons rfl (.cons rfl (.cons rfl (.cons rfl (.cons rfl (.cons rfl (.cons rfl (.cons rfl (.cons rfl (.cons rfl (.cons rfl (.cons rfl (.cons rfl (.cons rfl (.cons rfl (.cons rfl (.cons rfl (.cons rfl (.cons rfl (.cons rfl (.cons rfl (.cons rfl (.cons rfl (.cons rfl (.cons rfl (.cons rfl (.cons rfl (.cons rfl (.cons rfl (.cons rfl (.cons rfl (.cons (some_bool (Eq.symm (bT (biff_or (biff_and (decide_eq_true_iff) (decide_eq_true_iff)) (biff_and (decide_eq_true_iff) (decide_eq_true_iff))) hb48))) (.cons (some_bool (or_l (bT (biff_or (biff_and (decide_eq_true_iff) (decide_eq_true_iff)) (biff_and (decide_eq_true_iff) (decide_eq_true_iff))) hb48))) .nil))))))))))))))))))))))))))))))))))
        · refine WD.pin (i := 97) rfl (bF (biff_or (biff_and (decide_eq_true_iff) (decide_eq_true_iff)) (biff_and (decide_eq_true_iff) (decide_eq_true_iff))) hb48) ?_
          refine WD.pure (i := 19) (d := 98) (by kernel_rfl) rfl (by kernel_rfl) (by kernel_rfl) rfl rfl rfl (fun _ => q_move rfl) ?_
          refine WD.pure (i := 20) (d := 99) (by kernel_rfl) rfl (by kernel_rfl) (by kernel_rfl) rfl rfl rfl (fun _ => q_fieldAddr fo_47_0 rfl rfl) ?_
          refine WD.quiet (i := 21) (d := 100) (by kernel_rfl) rfl (by kernel_rfl) (by kernel_rfl) rfl rfl rfl (q_load1 oneT_3 rfl (rd_stb (.there (.there (.there (.there .here)))) rfl)) ?_
          refine WD.enter (i := 22) (d := 101) (by kernel_rfl) rfl (by kernel_rfl) (by kernel_rfl) rfl rfl rfl (run_call (l := [.tmp 98, .tmp 100]) Try.call12 (.cons rfl (.cons rfl .nil))) (fun w hw => held_c (A := ⟨b1, 0, none⟩) (slow := (1 + (slow % 16))) (delay := delay) (store := (store % 1001)) (now := now'19) (last := last'20) (ao := ao'22) (m := m'24) (cap := cap'23) (l := l'21) (t := ((nth out9 i).time)) (w₀ := w) (hw.cellsStb .nil (.there (.there .here))) (hw.slpRow .nil (.there (.there (.there .here))) (fun _ _ => rfl) (by decide)) (by first | assumption | (simp; done)) (by first | omega | (simp; done)) (by omega)) ?_
          refine WD.pure (i := 23) (d := 102) (by kernel_rfl) rfl (by kernel_rfl) (by kernel_rfl) rfl rfl rfl (fun _ => q_move rfl) ?_
          refine WD.pure (i := 24) (d := 103) (by kernel_rfl) rfl (by kernel_rfl) (by kernel_rfl) rfl rfl rfl (fun _ => q_fieldAddr fo_47_0 rfl rfl) ?_
          refine WD.quiet (i := 25) (d := 104) (by kernel_rfl) rfl (by kernel_rfl) (by kernel_rfl) rfl rfl rfl (q_load1 oneT_3 rfl (rd_stb (.there (.there (.there (.there .here)))) rfl)) ?_
          refine WD.pure (i := 26) (d := 105) (by kernel_rfl) rfl (by kernel_rfl) (by kernel_rfl) rfl rfl rfl (fun _ => q_move rfl) ?_
          refine WD.pure (i := 27) (d := 106) (by kernel_rfl) rfl (by kernel_rfl) (by kernel_rfl) rfl rfl rfl (fun _ => q_add rfl rfl (w64 (by omega))) ?_
          refine WD.enter (i := 28) (d := 107) (by kernel_rfl) rfl (by kernel_rfl) (by kernel_rfl) rfl rfl rfl (run_call (l := [.tmp 102, .tmp 106]) Try.call12 (.cons rfl (.cons rfl .nil))) (fun w hw => held_c (A := ⟨b3, 0, none⟩) (slow := (1 + (slow % 16))) (delay := delay) (store := (store % 1001)) (now := now'32) (last := last'33) (ao := ao'35) (m := m'37) (cap := cap'36) (l := l'34) (t := (((nth out9 i).time) + (byN % 1048576))) (w₀ := w) (hw.cellsStb .nil .here) (hw.slpRow .nil (.there .here) (fun _ _ => rfl) (by decide)) (by first | assumption | (simp; done)) (by first | omega | (simp; done)) (by omega)) ?_
          refine WD.pure (i := 29) (d := 108) (by kernel_rfl) rfl (by kernel_rfl) (by kernel_rfl) rfl rfl rfl (fun _ => q_neq rfl rfl) ?_
          refine WD.pure (i := 30) (d := 109) (by kernel_rfl) rfl (by kernel_rfl) (by kernel_rfl) rfl rfl rfl (fun _ => q_pickF rfl rfl) ?_
          refine WD.restr ?_ K49
          exact (.cons rfl (.cons rfl (.cons rfl (.cons rfl (.cons rfl (.cons rfl (.cons rfl (.cons rfl (.cons rfl (.cons rfl (.cons rfl (.cons rfl (.cons rfl (.cons rfl (.cons rfl (.cons rfl (.cons rfl (.cons rfl (.cons rfl (.cons rfl (.cons rfl (.cons rfl (.cons rfl (.cons rfl (.cons rfl (.cons rfl (.cons rfl (.cons rfl (.cons rfl (.cons rfl (.cons rfl (.cons rfl (.cons (some_bool (Eq.symm (bF (biff_or (biff_and (decide_eq_true_iff) (decide_eq_true_iff)) (biff_and (decide_eq_true_iff) (decide_eq_true_iff))) hb48))) (.cons (some_bool (or_r (bF (biff_or (biff_and (decide_eq_true_iff) (decide_eq_true_iff)) (biff_and (decide_eq_true_iff) (decide_eq_true_iff))) hb48))) .nil))))))))))))))))))))))))))))))))))
      refine WD.done (by kernel_rfl) ?_
      refine WX.then ?_
      refine WC.cond rfl (fun h => absurd ((biff_or (biff_or (biff_and (decide_eq_true_iff) (decide_eq_true_iff)) (biff_and (decide_eq_true_iff) (decide_eq_true_iff))) (decide_eq_true_iff)).1 h) (by rintro ((⟨hh1, hh2⟩ | ⟨hh1, hh2⟩) | hh) <;> first | exact hh (held_sh hs4 hs5 hs7) | (split at hq1 <;> split at hq2 <;> omega))) (fun _ => ?_)
      refine WC.skip ?_
      refine WX.blockNormal ?_
      refine WX.then ?_
      refine WC.region ?_
      refine WL.quiet (d := 110) rfl rfl rfl (q_add rfl rfl (w64 (by omega))) ?_
      refine WL.quiet (d := 61) rfl rfl rfl (q_move rfl) ?_
      refine WL.nil ?_
      exact WX.round (G := Int × Int × Int × (Option Addr) × Nat × Nat × (List Fr) × Int × Int × (Option Addr) × Nat × Nat × (List Fr)) ⟨(i + 1), now'19, last'20, ao'22, m'24, cap'23, l'21, now'32, last'33, ao'35, m'37, cap'36, l'34⟩ ⟨(by first | omega | (dsimp only; omega)), (by first | omega | (dsimp only; omega)), (by first | (dsimp only; exact ⟨by omega, fun hlt => by have := hov.two (i + 1) (by omega) hlt; rw [show i + 1 - 1 = i from by omega] at this; omega⟩) | (exact ⟨by omega, fun hlt => by have := hov.two (i + 1) (by omega) hlt; rw [show i + 1 - 1 = i from by omega] at this; omega⟩)), (by first | (dsimp only; exact ⟨by omega, fun hlt => by have := hov.two (i + 1) (by omega) hlt; rw [show i + 1 - 1 = i from by omega] at this; omega⟩) | (exact ⟨by omega, fun hlt => by have := hov.two (i + 1) (by omega) hlt; rw [show i + 1 - 1 = i from by omega] at this; omega⟩)), (by first | (dsimp only; exact hs6) | (exact hs6)), (by first | omega | (dsimp only; omega)), (by first | (dsimp only; exact hm1) | (exact hm1)), (by first | (dsimp only; exact hm2) | (exact hm2)), (by first | (dsimp only; omega) | (omega)), (by first | (dsimp only; exact hsz1) | (exact hsz1)), (by first | (dsimp only; exact hs7) | (exact hs7))⟩ (by first | omega | (dsimp only; omega)) (.cons rfl (.cons rfl (.cons rfl (.cons rfl (.cons rfl (.cons rfl .nil)))))) (.cons (.there .here) (.cons (.there (.there .here)) (.cons (.there (.there (.there .here))) (.cons .here (.cons .here .nil)))))
    · have hc13 : ¬ (i < ((m7 : Nat) : Int)) := biffF (decide_eq_true_iff) h; clear h
      refine WC.exit ?_
      refine WX.thenExit ?_
      refine WX.thenExit ?_
      refine WX.blockHit ?_
      refine WX.then ?_
      refine WC.seq ?_
      refine WC.region ?_
      refine WL.callD (dd := 111) rfl rfl rfl (run_call (l := []) Try.call11 .nil) .nil (fun w hw => awake_c  (w₀ := w) ) ?_
      refine WL.quiet (d := 12) rfl rfl rfl (q_assign rfl) ?_
      refine WL.nil ?_
      refine WX.then ?_
      refine WC.ret ?_
      refine WX.bpRet Try.results5 (.tmp rfl .nil) (fun w hw => ?_)
      exact ⟨ret1 rfl, (hw.sub .nil)⟩

set_option maxRecDepth 20000 in
theorem put_err (b : Nat) (slow delay store now last : Int) (ao : Option Addr) (m cap : Nat) (l : List Fr) (t size : Int) (w₀ : World)
    (hb : 1 ≤ slow ∧ slow ≤ 16 ∧ 0 ≤ delay ∧ delay ≤ 1000 ∧ 0 ≤ store ∧ store ≤ 1073741824)
    (herr : size < 1 ∨ size > 72 ∨ t < now ∨ t > 1073741824)
    (hown : Hp (fps [stb b 57 [(.int .i64 slow), (.int .i64 delay), (.int .i64 store), (.int .i64 now), (.int .i64 last), (.slice ao m cap)], row (.slice ao m cap) 67 2 (l.flatMap frE)]) w₀ w₀ [stb b 57 [(.int .i64 slow), (.int .i64 delay), (.int .i64 store), (.int .i64 now), (.int .i64 last), (.slice ao m cap)], row (.slice ao m cap) 67 2 (l.flatMap frE)]) :
    Calls Try.prog 16 #[(.pointer (some ⟨b, 0, none⟩)), (.int .i64 t), (.int .i64 size)] w₀ fun e w' => e = .returned (.tuple #[(.int .i64 0), (.int .i64 2)]) ∧ Hp (fps [stb b 57 [(.int .i64 slow), (.int .i64 delay), (.int .i64 store), (.int .i64 now), (.int .i64 last), (.slice ao m cap)], row (.slice ao m cap) 67 2 (l.flatMap frE)]) w₀ w' [stb b 57 [(.int .i64 slow), (.int .i64 delay), (.int .i64 store), (.int .i64 now), (.int .i64 last), (.slice ao m cap)], row (.slice ao m cap) 67 2 (l.flatMap frE)] := by
  refine Calls.ofWC (vs := [(.pointer (some ⟨b, 0, none⟩)), (.int .i64 t), (.int .i64 size)]) (pre := [stb b 57 [(.int .i64 slow), (.int .i64 delay), (.int .i64 store), (.int .i64 now), (.int .i64 last), (.slice ao m cap)], row (.slice ao m cap) 67 2 (l.flatMap frE)]) (env := [(0, (.pointer (some ⟨b, 0, none⟩))), (1, (.int .i64 t)), (2, (.int .i64 size))]) Try.func16 rfl Try.ntmps16 rfl (hown) rfl ?_
  refine WC.seq ?_
  refine WC.region ?_
  refine WL.new (dd := 4) rfl rfl rfl (e_box (cs := [(.int .i64 t)]) rfl rfl) ?_
  intro b1 _
  refine WL.quiet (d := 6) rfl rfl rfl (q_assign rfl) ?_
  refine WL.quiet (d := 7) rfl rfl rfl (q_assign rfl) ?_
  refine WL.nil ?_
  refine WX.then ?_
  refine WC.seq ?_
  refine WC.block ?_
  refine WC.seq ?_
  refine WC.region ?_
  refine WL.quiet (d := 9) rfl rfl rfl (q_move rfl) ?_
  refine WL.callD (dd := 10) rfl rfl rfl (run_call (l := [.tmp 9]) Try.call21 (.cons rfl .nil)) .nil (fun w hw => none_no (A := ⟨b, 0, none⟩) (slow := slow) (delay := delay) (store := store) (now := now) (last := last) (fr := (.slice ao m cap)) (w₀ := w) (hw.cellsStb .nil (.there .here))) ?_
  refine WL.quiet (d := 8) rfl rfl rfl (q_assign rfl) ?_
  refine WL.nil ?_
  refine WX.then ?_
  refine WC.cond rfl (fun h => absurd ((decide_eq_true_iff).1 h) (by omega)) (fun _ => ?_)
  refine WC.seq ?_
  refine WC.draw (fun i => [].contains i) [] rfl ?_
  refine WD.pure (i := 0) (d := 12) (by kernel_rfl) rfl (by kernel_rfl) (by kernel_rfl) rfl rfl rfl (fun _ => q_move rfl) ?_
  refine WD.pure (i := 1) (d := 13) (by kernel_rfl) rfl (by kernel_rfl) (by kernel_rfl) rfl rfl rfl (fun _ => q_lss rfl rfl) ?_
  refine WD.pure (i := 2) (d := 14) (by kernel_rfl) rfl (by kernel_rfl) (by kernel_rfl) rfl rfl rfl (fun _ => q_move rfl) ?_
  refine WD.mid (fuel' := 13) [(0, (.pointer (some ⟨b, 0, none⟩))), (1, (.int .i64 t)), (2, (.int .i64 size)), (4, (.pointer (some ⟨b1, 0, none⟩))), (6, (.int .i64 0)), (7, (.int .i64 0)), (9, (.pointer (some ⟨b, 0, none⟩))), (10, (.bool (decide (slow = 0)))), (8, (.bool (decide (slow = 0)))), (12, (.int .i64 size)), (13, (.bool (decide (size < 1)))), (14, (.bool (decide (size < 1)))), (17, (.bool ((decide (size < 1)) || (decide (size > 72)))))] (listedA 19 [5, 4, 3, 2, 1, 0]) ?_ (fun K3 => ?_)
  rotate_left
  · by_cases hb2 : size < 1
    · refine WD.pin (i := 14) rfl (bT (decide_eq_true_iff) hb2) ?_
      refine WD.skip (i := 3) (d := 15) (by kernel_rfl) rfl (by kernel_rfl) (by kernel_rfl) rfl rfl rfl ?_
      refine WD.skip (i := 4) (d := 16) (by kernel_rfl) rfl (by kernel_rfl) (by kernel_rfl) rfl rfl rfl ?_
      refine WD.pure (i := 5) (d := 17) (by kernel_rfl) rfl (by kernel_rfl) (by kernel_rfl) rfl rfl rfl (fun _ => q_pickT rfl rfl) ?_
      refine WD.restr ?_ K3
      exact (.cons rfl (.cons rfl (.cons rfl (.cons rfl (.cons rfl (.cons rfl (.cons rfl (.cons rfl (.cons rfl (.cons rfl (.cons rfl (.cons (some_bool (Eq.symm (bT (decide_eq_true_iff) hb2))) (.cons (some_bool (or_l (bT (decide_eq_true_iff) hb2))) .nil)))))))))))))
    · refine WD.pin (i := 14) rfl (bF (decide_eq_true_iff) hb2) ?_
      refine WD.pure (i := 3) (d := 15) (by kernel_rfl) rfl (by kernel_rfl) (by kernel_rfl) rfl rfl rfl (fun _ => q_move rfl) ?_
      refine WD.pure (i := 4) (d := 16) (by kernel_rfl) rfl (by kernel_rfl) (by kernel_rfl) rfl rfl rfl (fun _ => q_gtr rfl rfl) ?_
      refine WD.pure (i := 5) (d := 17) (by kernel_rfl) rfl (by kernel_rfl) (by kernel_rfl) rfl rfl rfl (fun _ => q_pickF rfl rfl) ?_
      refine WD.restr ?_ K3
      exact (.cons rfl (.cons rfl (.cons rfl (.cons rfl (.cons rfl (.cons rfl (.cons rfl (.cons rfl (.cons rfl (.cons rfl (.cons rfl (.cons (some_bool (Eq.symm (bF (decide_eq_true_iff) hb2))) (.cons (some_bool (or_r (bF (decide_eq_true_iff) hb2))) .nil)))))))))))))
  refine WD.pure (i := 6) (d := 18) (by kernel_rfl) rfl (by kernel_rfl) (by kernel_rfl) rfl rfl rfl (fun _ => q_move rfl) ?_
  refine WD.mid (fuel' := 5) [(0, (.pointer (some ⟨b, 0, none⟩))), (1, (.int .i64 t)), (2, (.int .i64 size)), (4, (.pointer (some ⟨b1, 0, none⟩))), (6, (.int .i64 0)), (7, (.int .i64 0)), (9, (.pointer (some ⟨b, 0, none⟩))), (10, (.bool (decide (slow = 0)))), (8, (.bool (decide (slow = 0)))), (12, (.int .i64 size)), (13, (.bool (decide (size < 1)))), (14, (.bool (decide (size < 1)))), (17, (.bool ((decide (size < 1)) || (decide (size > 72))))), (18, (.bool ((decide (size < 1)) || (decide (size > 72))))), (25, (.bool (((decide (size < 1)) || (decide (size > 72))) || (decide (t < now)))))] (listedA 19 [13, 12, 11, 10, 9, 8, 7, 6, 5, 4, 3, 2, 1, 0]) ?_ (fun K5 => ?_)
  rotate_left
  · by_cases hb4 : (size < 1) ∨ (size > 72)
    · refine WD.pin (i := 18) rfl (bT (biff_or (decide_eq_true_iff) (decide_eq_true_iff)) hb4) ?_
      refine WD.skip (i := 7) (d := 19) (by kernel_rfl) rfl (by kernel_rfl) (by kernel_rfl) rfl rfl rfl ?_
      refine WD.skip (i := 8) (d := 20) (by kernel_rfl) rfl (by kernel_rfl) (by kernel_rfl) rfl rfl rfl ?_
      refine WD.skip (i := 9) (d := 21) (by kernel_rfl) rfl (by kernel_rfl) (by kernel_rfl) rfl rfl rfl ?_
      refine WD.skip (i := 10) (d := 22) (by kernel_rfl) rfl (by kernel_rfl) (by kernel_rfl) rfl rfl rfl ?_
      refine WD.skip (i := 11) (d := 23) (by kernel_rfl) rfl (by kernel_rfl) (by kernel_rfl) rfl rfl rfl ?_
      refine WD.skip (i := 12) (d := 24) (by kernel_rfl) rfl (by kernel_rfl) (by kernel_rfl) rfl rfl rfl ?_
      refine WD.pure (i := 13) (d := 25) (by kernel_rfl) rfl (by kernel_rfl) (by kernel_rfl) rfl rfl rfl (fun _ => q_pickT rfl rfl) ?_
      refine WD.restr ?_ K5
      exact (.cons rfl (.cons rfl (.cons rfl (.cons rfl (.cons rfl (.cons rfl (.cons rfl (.cons rfl (.cons rfl (.cons rfl (.cons rfl (.cons rfl (.cons rfl (.cons (some_bool (Eq.symm (bT (biff_or (decide_eq_true_iff) (decide_eq_true_iff)) hb4))) (.cons (some_bool (or_l (bT (biff_or (decide_eq_true_iff) (decide_eq_true_iff)) hb4))) .nil)))))))))))))))
    · refine WD.pin (i := 18) rfl (bF (biff_or (decide_eq_true_iff) (decide_eq_true_iff)) hb4) ?_
      refine WD.quiet (i := 7) (d := 19) (by kernel_rfl) rfl (by kernel_rfl) (by kernel_rfl) rfl rfl rfl (q_load1 oneT_3 rfl (rd_stb .here rfl)) ?_
      refine WD.pure (i := 8) (d := 20) (by kernel_rfl) rfl (by kernel_rfl) (by kernel_rfl) rfl rfl rfl (fun _ => q_move rfl) ?_
      refine WD.pure (i := 9) (d := 21) (by kernel_rfl) rfl (by kernel_rfl) (by kernel_rfl) rfl rfl rfl (fun _ => q_nilCheck rfl) ?_
      refine WD.pure (i := 10) (d := 22) (by kernel_rfl) rfl (by kernel_rfl) (by kernel_rfl) rfl rfl rfl (fun _ => q_fieldAddr fo_57_1 rfl rfl) ?_
      refine WD.quiet (i := 11) (d := 23) (by kernel_rfl) rfl (by kernel_rfl) (by kernel_rfl) rfl rfl rfl (q_load1 oneT_3 rfl (rd_stb (.there .here) rfl)) ?_
      refine WD.pure (i := 12) (d := 24) (by kernel_rfl) rfl (by kernel_rfl) (by kernel_rfl) rfl rfl rfl (fun _ => q_lss rfl rfl) ?_
      refine WD.pure (i := 13) (d := 25) (by kernel_rfl) rfl (by kernel_rfl) (by kernel_rfl) rfl rfl rfl (fun _ => q_pickF rfl rfl) ?_
      refine WD.restr ?_ K5
      exact (.cons rfl (.cons rfl (.cons rfl (.cons rfl (.cons rfl (.cons rfl (.cons rfl (.cons rfl (.cons rfl (.cons rfl (.cons rfl (.cons rfl (.cons rfl (.cons (some_bool (Eq.symm (bF (biff_or (decide_eq_true_iff) (decide_eq_true_iff)) hb4))) (.cons (some_bool (or_r (bF (biff_or (decide_eq_true_iff) (decide_eq_true_iff)) hb4))) .nil)))))))))))))))
  refine WD.pure (i := 14) (d := 26) (by kernel_rfl) rfl (by kernel_rfl) (by kernel_rfl) rfl rfl rfl (fun _ => q_move rfl) ?_
  refine WD.mid (fuel' := 1) [(0, (.pointer (some ⟨b, 0, none⟩))), (1, (.int .i64 t)), (2, (.int .i64 size)), (4, (.pointer (some ⟨b1, 0, none⟩))), (6, (.int .i64 0)), (7, (.int .i64 0)), (9, (.pointer (some ⟨b, 0, none⟩))), (10, (.bool (decide (slow = 0)))), (8, (.bool (decide (slow = 0)))), (12, (.int .i64 size)), (13, (.bool (decide (size < 1)))), (14, (.bool (decide (size < 1)))), (17, (.bool ((decide (size < 1)) || (decide (size > 72))))), (18, (.bool ((decide (size < 1)) || (decide (size > 72))))), (25, (.bool (((decide (size < 1)) || (decide (size > 72))) || (decide (t < now))))), (26, (.bool (((decide (size < 1)) || (decide (size > 72))) || (decide (t < now))))), (29, (.bool ((((decide (size < 1)) || (decide (size > 72))) || (decide (t < now))) || (decide (t > 1073741824)))))] (listedA 19 [17, 16, 15, 14, 13, 12, 11, 10, 9, 8, 7, 6, 5, 4, 3, 2, 1, 0]) ?_ (fun K7 => ?_)
  rotate_left
  · by_cases hb6 : ((size < 1) ∨ (size > 72)) ∨ (t < now)
    · refine WD.pin (i := 26) rfl (bT (biff_or (biff_or (decide_eq_true_iff) (decide_eq_true_iff)) (decide_eq_true_iff)) hb6) ?_
      refine WD.skip (i := 15) (d := 27) (by kernel_rfl) rfl (by kernel_rfl) (by kernel_rfl) rfl rfl rfl ?_
      refine WD.skip (i := 16) (d := 28) (by kernel_rfl) rfl (by kernel_rfl) (by kernel_rfl) rfl rfl rfl ?_
      refine WD.pure (i := 17) (d := 29) (by kernel_rfl) rfl (by kernel_rfl) (by kernel_rfl) rfl rfl rfl (fun _ => q_pickT rfl rfl) ?_
      refine WD.restr ?_ K7
      exact (.cons rfl (.cons rfl (.cons rfl (.cons rfl (.cons rfl (.cons rfl (.cons rfl (.cons rfl (.cons rfl (.cons rfl (.cons rfl (.cons rfl (.cons rfl (.cons rfl (.cons rfl (.cons (some_bool (Eq.symm (bT (biff_or (biff_or (decide_eq_true_iff) (decide_eq_true_iff)) (decide_eq_true_iff)) hb6))) (.cons (some_bool (or_l (bT (biff_or (biff_or (decide_eq_true_iff) (decide_eq_true_iff)) (decide_eq_true_iff)) hb6))) .nil)))))))))))))))))
    · refine WD.pin (i := 26) rfl (bF (biff_or (biff_or (decide_eq_true_iff) (decide_eq_true_iff)) (decide_eq_true_iff)) hb6) ?_
      refine WD.quiet (i := 15) (d := 27) (by kernel_rfl) rfl (by kernel_rfl) (by kernel_rfl) rfl rfl rfl (q_load1 oneT_3 rfl (rd_stb .here rfl)) ?_
      refine WD.pure (i := 16) (d := 28) (by kernel_rfl) rfl (by kernel_rfl) (by kernel_rfl) rfl rfl rfl (fun _ => q_gtr rfl rfl) ?_
      refine WD.pure (i := 17) (d := 29) (by kernel_rfl) rfl (by kernel_rfl) (by kernel_rfl) rfl rfl rfl (fun _ => q_pickF rfl rfl) ?_
      refine WD.restr ?_ K7
      exact (.cons rfl (.cons rfl (.cons rfl (.cons rfl (.cons rfl (.cons rfl (.cons rfl (.cons rfl (.cons rfl (.cons rfl (.cons rfl (.cons rfl (.cons rfl (.cons rfl (.cons rfl (.cons (some_bool (Eq.symm (bF (biff_or (biff_or (decide_eq_true_iff) (decide_eq_true_iff)) (decide_eq_true_iff)) hb6))) (.cons (some_bool (or_r (bF (biff_or (biff_or (decide_eq_true_iff) (decide_eq_true_iff)) (decide_eq_true_iff)) hb6))) .nil)))))))))))))))))
  refine WD.pure (i := 18) (d := 11) (by kernel_rfl) rfl (by kernel_rfl) (by kernel_rfl) rfl rfl rfl (fun _ => q_assign rfl) ?_
  refine WD.done (by kernel_rfl) ?_
  refine WX.then ?_
  refine WC.cond rfl (fun _ => ?_) (fun h => absurd (biffF (biff_or (biff_or (biff_or (decide_eq_true_iff) (decide_eq_true_iff)) (decide_eq_true_iff)) (decide_eq_true_iff)) h) (not_not_intro (by omega)))
  refine WC.seq ?_
  refine WC.region ?_
  refine WL.quiet (d := 6) rfl rfl rfl (q_assign rfl) ?_
  refine WL.quiet (d := 7) rfl rfl rfl (q_assign rfl) ?_
  refine WL.nil ?_
  refine WX.then ?_
  refine WC.ret ?_
  refine WX.blockRet ?_
  refine WX.thenRet ?_
  refine WX.bpRet Try.results16 (.tmp rfl (.tmp rfl .nil)) (fun w hw => ?_)
  exact ⟨ret2 rfl rfl, (hw.sub (.cons (.there .here) (.cons (.there .here) .nil)))⟩

set_option maxRecDepth 20000 in
theorem lput_err (b : Nat) (slow delay store now last : Int) (ao : Option Addr) (m cap : Nat) (l : List Fr) (t size : Int) (w₀ : World)
    (hb : 1 ≤ slow ∧ slow ≤ 16 ∧ 0 ≤ delay ∧ delay ≤ 1000 ∧ 0 ≤ store ∧ store ≤ 1073741824)
    (herr : size < 1 ∨ size > 72 ∨ t < now ∨ t > 1073741824)
    (hown : Hp (fps [stb b 57 [(.int .i64 slow), (.int .i64 delay), (.int .i64 store), (.int .i64 now), (.int .i64 last), (.slice ao m cap)], row (.slice ao m cap) 67 2 (l.flatMap frE)]) w₀ w₀ [stb b 57 [(.int .i64 slow), (.int .i64 delay), (.int .i64 store), (.int .i64 now), (.int .i64 last), (.slice ao m cap)], row (.slice ao m cap) 67 2 (l.flatMap frE)]) :
    Calls Try.prog 19 #[(.pointer (some ⟨b, 0, none⟩)), (.int .i64 t), (.int .i64 size)] w₀ fun e w' => e = .returned (.int .i64 (-2)) ∧ Hp (fps [stb b 57 [(.int .i64 slow), (.int .i64 delay), (.int .i64 store), (.int .i64 now), (.int .i64 last), (.slice ao m cap)], row (.slice ao m cap) 67 2 (l.flatMap frE)]) w₀ w' [stb b 57 [(.int .i64 slow), (.int .i64 delay), (.int .i64 store), (.int .i64 now), (.int .i64 last), (.slice ao m cap)], row (.slice ao m cap) 67 2 (l.flatMap frE)] := by
  refine Calls.ofWC (vs := [(.pointer (some ⟨b, 0, none⟩)), (.int .i64 t), (.int .i64 size)]) (pre := [stb b 57 [(.int .i64 slow), (.int .i64 delay), (.int .i64 store), (.int .i64 now), (.int .i64 last), (.slice ao m cap)], row (.slice ao m cap) 67 2 (l.flatMap frE)]) (env := [(0, (.pointer (some ⟨b, 0, none⟩))), (1, (.int .i64 t)), (2, (.int .i64 size))]) Try.func19 rfl Try.ntmps19 rfl (hown) rfl ?_
  refine WC.seq ?_
  refine WC.region ?_
  refine WL.quiet (d := 6) rfl rfl rfl (q_assign rfl) ?_
  refine WL.nil ?_
  refine WX.then ?_
  refine WC.seq ?_
  refine WC.region ?_
  refine WL.quiet (d := 10) rfl rfl rfl (q_move rfl) ?_
  refine WL.quiet (d := 11) rfl rfl rfl (q_move rfl) ?_
  refine WL.quiet (d := 12) rfl rfl rfl (q_move rfl) ?_
  refine WL.callD (dd := 13) rfl rfl rfl (run_call (l := [.tmp 10, .tmp 11, .tmp 12]) Try.call16 (.cons rfl (.cons rfl (.cons rfl .nil)))) (.cons .here (.cons .here .nil)) (fun w hw => put_err (b := b) (slow := slow) (delay := delay) (store := store) (now := now) (last := last) (ao := ao) (m := m) (cap := cap) (l := l) (t := t) (size := size) (w₀ := w) (by omega) (by omega) (hw.owns (.cons .here (.cons .here .nil)))) ?_
  refine WL.quiet (d := 9) rfl rfl rfl (q_move rfl) ?_
  refine WL.quiet (d := 14) rfl rfl rfl (q_extract rfl rfl) ?_
  refine WL.quiet (d := 15) rfl rfl rfl (q_extract rfl rfl) ?_
  refine WL.quiet (d := 7) rfl rfl rfl (q_assign rfl) ?_
  refine WL.quiet (d := 8) rfl rfl rfl (q_assign rfl) ?_
  refine WL.nil ?_
  refine WX.then ?_
  refine WC.seq ?_
  refine WC.seq ?_
  refine WC.region ?_
  refine WL.quiet (d := 16) rfl rfl rfl (q_move rfl) ?_
  refine WL.quiet (d := 17) rfl rfl rfl (q_neq rfl rfl) ?_
  refine WL.nil ?_
  refine WX.then ?_
  refine WC.cond rfl (fun _ => ?_) (fun h => absurd (biffF (decide_eq_true_iff) h) (not_not_intro (by omega)))
  refine WC.seq ?_
  refine WC.region ?_
  refine WL.quiet (d := 18) rfl rfl rfl (q_move rfl) ?_
  refine WL.quiet (d := 19) rfl rfl rfl (q_neg rfl (w64 (by omega))) ?_
  refine WL.quiet (d := 6) rfl rfl rfl (q_assign rfl) ?_
  refine WL.nil ?_
  refine WX.then ?_
  refine WC.ret ?_
  refine WX.thenRet ?_
  refine WX.bpRet Try.results19 (.tmp rfl .nil) (fun w hw => ?_)
  exact ⟨ret1 (vint (by first | rfl | omega | (simp; done))), (hw.sub (.cons .here (.cons .here .nil)))⟩

set_option maxRecDepth 20000 in
theorem refused_law (aoS : Option Addr) (mS capS : Nat) (ss : List Int) (aoW : Option Addr) (mW capW : Nat) (ws : List Int) (bad slow delay store : Int) (w₀ : World)
    (hsS : SlP [] w₀ (.slice aoS mS capS) 1 u8P ss)
    (hsW : SlP [] w₀ (.slice aoW mW capW) 1 u8P ws)
    (hll : ss.length ≤ 9223372036854775807 ∧ ws.length ≤ 9223372036854775807)
    (hws : ∀ x ∈ ws, 0 ≤ x ∧ x ≤ 255)
    (hss : ∀ x ∈ ss, 0 ≤ x ∧ x ≤ 255)
    (hb : 0 ≤ slow ∧ slow ≤ 255 ∧ 0 ≤ delay ∧ delay ≤ 255 ∧ 0 ≤ store ∧ store ≤ 65535) :
    Calls Try.prog 6 #[(.slice aoS mS capS), (.slice aoW mW capW), (.int .i64 bad), (.int .u8 slow), (.int .u8 delay), (.int .u16 store)] w₀ fun e w' => e = .returned (.bool true) ∧ Hp [] w₀ w' [] := by
  have hok := frameL_ok (ss := ss) hws
  have hfl := frameL_len ss ws
  refine Calls.ofWC (vs := [(.slice aoS mS capS), (.slice aoW mW capW), (.int .i64 bad), (.int .u8 slow), (.int .u8 delay), (.int .u16 store)]) (pre := []) (env := [(0, (.slice aoS mS capS)), (1, (.slice aoW mW capW)), (2, (.int .i64 bad)), (3, (.int .u8 slow)), (4, (.int .u8 delay)), (5, (.int .u16 store))]) Try.func6 rfl Try.ntmps6 rfl (Hp.nil w₀ _) rfl ?_
  refine WC.seq ?_
  refine WC.region ?_
  refine WL.quiet (d := 12) rfl rfl rfl (q_assign rfl) ?_
  refine WL.nil ?_
  refine WX.then ?_
  refine WC.seq ?_
  refine WC.region ?_
  refine WL.quiet (d := 26) rfl rfl rfl (q_move rfl) ?_
  refine WL.quiet (d := 27) rfl rfl rfl (q_conv Try.underlying5 Try.underlying3 rfl (w64 (by omega))) ?_
  refine WL.quiet (d := 28) rfl rfl rfl (q_rem rfl rfl (by omega) (tmodp (by omega))) ?_
  refine WL.quiet (d := 29) rfl rfl rfl (q_add rfl rfl (w64 (by omega))) ?_
  refine WL.quiet (d := 30) rfl rfl rfl (q_move rfl) ?_
  refine WL.quiet (d := 31) rfl rfl rfl (q_conv Try.underlying5 Try.underlying3 rfl (w64 (by omega))) ?_
  refine WL.quiet (d := 32) rfl rfl rfl (q_move rfl) ?_
  refine WL.quiet (d := 33) rfl rfl rfl (q_conv Try.underlying43 Try.underlying3 rfl (w64 (by omega))) ?_
  refine WL.quiet (d := 34) rfl rfl rfl (q_rem rfl rfl (by omega) (tmodp (by omega))) ?_
  refine WL.quiet (d := 13) rfl rfl rfl (q_assign rfl) ?_
  refine WL.quiet (d := 14) rfl rfl rfl (q_assign rfl) ?_
  refine WL.quiet (d := 15) rfl rfl rfl (q_assign rfl) ?_
  refine WL.nil ?_
  refine WX.then ?_
  refine WC.seq ?_
  refine WC.region ?_
  refine WL.quiet (d := 36) rfl rfl rfl (q_move rfl) ?_
  refine WL.quiet (d := 37) rfl rfl rfl (q_move rfl) ?_
  refine WL.quiet (d := 38) rfl rfl rfl (q_move rfl) ?_
  refine WL.enter1 (dd := 39) rfl rfl rfl (run_call (l := [.tmp 36, .tmp 37, .tmp 38]) Try.call9 (.cons rfl (.cons rfl (.cons rfl .nil)))) .nil (fun w hw => new_ok (slow := (1 + (slow % 16))) (delay := delay) (store := (store % 1001)) (w₀ := w) (by omega)) ?_
  rintro b1 _
  refine WL.quiet (d := 35) rfl rfl rfl (q_move rfl) ?_
  refine WL.quiet (d := 40) rfl rfl rfl (q_extract rfl rfl) ?_
  refine WL.quiet (d := 41) rfl rfl rfl (q_extract rfl rfl) ?_
  refine WL.quiet (d := 16) rfl rfl rfl (q_assign rfl) ?_
  refine WL.quiet (d := 17) rfl rfl rfl (q_assign rfl) ?_
  refine WL.nil ?_
  refine WX.then ?_
  refine WC.seq ?_
  refine WC.region ?_
  refine WL.quiet (d := 43) rfl rfl rfl (q_move rfl) ?_
  refine WL.quiet (d := 44) rfl rfl rfl (q_move rfl) ?_
  refine WL.quiet (d := 45) rfl rfl rfl (q_move rfl) ?_
  refine WL.enter1 (dd := 46) rfl rfl rfl (run_call (l := [.tmp 43, .tmp 44, .tmp 45]) Try.call9 (.cons rfl (.cons rfl (.cons rfl .nil)))) .nil (fun w hw => new_ok (slow := (1 + (slow % 16))) (delay := delay) (store := (store % 1001)) (w₀ := w) (by omega)) ?_
  rintro b3 _
  refine WL.quiet (d := 42) rfl rfl rfl (q_move rfl) ?_
  refine WL.quiet (d := 47) rfl rfl rfl (q_extract rfl rfl) ?_
  refine WL.quiet (d := 48) rfl rfl rfl (q_extract rfl rfl) ?_
  refine WL.quiet (d := 18) rfl rfl rfl (q_assign rfl) ?_
  refine WL.quiet (d := 19) rfl rfl rfl (q_assign rfl) ?_
  refine WL.nil ?_
  refine WX.then ?_
  refine WC.seq ?_
  refine WC.seq ?_
  refine WC.region ?_
  refine WL.quiet (d := 49) rfl rfl rfl (q_move rfl) ?_
  refine WL.quiet (d := 50) rfl rfl rfl (q_neq rfl rfl) ?_
  refine WL.quiet (d := 51) rfl rfl rfl (q_move rfl) ?_
  refine WL.cut0 True [(0, (.slice aoS mS capS)), (1, (.slice aoW mW capW)), (2, (.int .i64 bad)), (3, (.int .u8 slow)), (4, (.int .u8 delay)), (5, (.int .u16 store)), (12, (.bool false)), (13, (.int .i64 (1 + (slow % 16)))), (14, (.int .i64 delay)), (15, (.int .i64 (store % 1001))), (16, (.pointer (some ⟨b1, 0, none⟩))), (17, (.int .i64 0)), (18, (.pointer (some ⟨b3, 0, none⟩))), (19, (.int .i64 0)), (54, (.bool ((decide ((0 : Int) ≠ 0)) || (decide ((0 : Int) ≠ 0)))))] [stb b3 57 [(.int .i64 (1 + (slow % 16))), (.int .i64 delay), (.int .i64 (store % 1001)), (.int .i64 0), (.int .i64 0), (.slice none 0 0)], stb b1 57 [(.int .i64 (1 + (slow % 16))), (.int .i64 delay), (.int .i64 (store % 1001)), (.int .i64 0), (.int .i64 0), (.slice none 0 0)]] 3 ?_ (fun _ => ?_)
  · by_cases hb5 : (0 : Int) ≠ 0
    · refine WL.pin (i := 51) rfl (bT (decide_eq_true_iff) hb5) ?_
      refine WL.skip rfl rfl rfl ?_
      refine WL.skip rfl rfl rfl ?_
      refine WL.quiet (d := 54) rfl rfl rfl (q_pickT rfl rfl) ?_
      exact WL.cutEnd () trivial (.cons rfl (.cons rfl (.cons rfl (.cons rfl (.cons rfl (.cons rfl (.cons rfl (.cons rfl (.cons rfl (.cons rfl (.cons rfl (.cons rfl (.cons rfl (.cons rfl (.cons (some_bool (or_l (bT (decide_eq_true_iff) hb5))) .nil))))))))))))))) (.cons .here (.cons .here .nil))
    · refine WL.pin (i := 51) rfl (bF (decide_eq_true_iff) hb5) ?_
      refine WL.quiet (d := 52) rfl rfl rfl (q_move rfl) ?_
      refine WL.quiet (d := 53) rfl rfl rfl (q_neq rfl rfl) ?_
      refine WL.quiet (d := 54) rfl rfl rfl (q_pickF rfl rfl) ?_
      exact WL.cutEnd () trivial (.cons rfl (.cons rfl (.cons rfl (.cons rfl (.cons rfl (.cons rfl (.cons rfl (.cons rfl (.cons rfl (.cons rfl (.cons rfl (.cons rfl (.cons rfl (.cons rfl (.cons (some_bool (or_r (bF (decide_eq_true_iff) hb5))) .nil))))))))))))))) (.cons .here (.cons .here .nil))
  · skip
    refine WL.nil ?_
    refine WX.then ?_
    refine WC.cond rfl (fun h => absurd ((biff_or (decide_eq_true_iff) (decide_eq_true_iff)).1 h) (by omega)) (fun _ => ?_)
    refine WC.skip ?_
    refine WX.then ?_
    refine WC.seq ?_
    refine WC.region ?_
    refine WL.quiet (d := 55) rfl rfl rfl (q_move rfl) ?_
    refine WL.quiet (d := 56) rfl rfl rfl (q_max rfl rfl rfl) ?_
    refine WL.quiet (d := 20) rfl rfl rfl (q_assign rfl) ?_
    refine WL.nil ?_
    refine WX.then ?_
    refine WC.seq ?_
    refine WC.seq ?_
    refine WC.region ?_
    refine WL.quiet (d := 57) rfl rfl rfl (q_move rfl) ?_
    refine WL.quiet (d := 58) rfl rfl rfl (q_lss rfl rfl) ?_
    refine WL.nil ?_
    refine WX.then ?_
    refine WC.cond rfl (fun h => ?_) (fun h => ?_)
    · have hc6 : bad < 1 := ((decide_eq_true_iff)).1 h; clear h
      refine WC.region ?_
      refine WL.quiet (d := 59) rfl rfl rfl (q_move rfl) ?_
      refine WL.quiet (d := 20) rfl rfl rfl (q_assign rfl) ?_
      refine WL.nil ?_
      refine WX.then ?_
      refine WC.seq ?_
      refine WC.seq ?_
      refine WC.region ?_
      refine WL.quiet (d := 60) rfl rfl rfl (q_move rfl) ?_
      refine WL.quiet (d := 61) rfl rfl rfl (q_move rfl) ?_
      refine WL.enter4 (dd := 62) rfl rfl rfl (run_call (l := [.tmp 60, .tmp 61]) Try.call18 (.cons rfl (.cons rfl .nil))) .nil (fun w hw => lfr_c (aoS := aoS) (mS := mS) (capS := capS) (ss := ss) (aoW := aoW) (mW := mW) (capW := capW) (ws := ws) (w₀ := w) (hsS.call hw .nil (by decide) (fun _ _ h => h)) (hsW.call hw .nil (by decide) (fun _ _ h => h)) (by omega)) ?_
      rintro ao7 m8 cap9 out10 ⟨hho11, hhm12⟩
      have hout := hho11
      have hom := hhm12
      have hov : SentsOk out10 := hout ▸ hok
      have hol : out10.length = min ss.length 40 := by rw [hout, hfl]
      have hob : ∀ i : Int, 0 ≤ i → i < out10.length → (nth out10 i).time ≤ 10200 := hout.symm ▸ frameL_bd (ss := ss) hws
      refine WL.quiet (d := 63) rfl rfl rfl (q_len Try.underlying44 rfl) ?_
      refine WL.quiet (d := 64) rfl rfl rfl (q_move rfl) ?_
      refine WL.nil ?_
      refine WX.then ?_
      refine WC.block ?_
      refine WC.nilRow 67 2 ?_
      refine WC.nilRow 67 2 ?_
      refine WC.loop13 (fun (i : Int) (now : Int) (last : Int) (ao : Option Addr) (m : Nat) (cap : Nat) (cur : List Fr) (nq : Int) (lq : Int) (aoq : Option Addr) (mq : Nat) (capq : Nat) (curq : List Fr) => (0 ≤ i) ∧ (i ≤ out10.length) ∧ (0 ≤ now ∧ (i < out10.length → now ≤ (nth out10 i).time)) ∧ (nq = now) ∧ (lq = last) ∧ (0 ≤ last ∧ last ≤ 2147483648 + 1152 * i) ∧ (m = cur.length) ∧ (mq = curq.length) ∧ (cur.length ≤ i) ∧ (∀ x ∈ cur, 1 ≤ x.size ∧ x.size ≤ 72) ∧ (curq = cur)) (fun (i : Int) (now : Int) (last : Int) (ao : Option Addr) (m : Nat) (cap : Nat) (cur : List Fr) (nq : Int) (lq : Int) (aoq : Option Addr) (mq : Nat) (capq : Nat) (curq : List Fr) => [(16, (.pointer (some ⟨b1, 0, none⟩))), (18, (.pointer (some ⟨b3, 0, none⟩))), (20, (.int .i64 bad)), (62, (.slice ao7 m8 cap9)), (63, (.int .i64 ((m8 : Nat) : Int))), (64, (.int .i64 i))]) (fun (i : Int) (now : Int) (last : Int) (ao : Option Addr) (m : Nat) (cap : Nat) (cur : List Fr) (nq : Int) (lq : Int) (aoq : Option Addr) (mq : Nat) (capq : Nat) (curq : List Fr) => [row (.slice aoq mq capq) 67 2 (curq.flatMap frE), row (.slice ao m cap) 67 2 (cur.flatMap frE), row (.slice ao7 m8 cap9) 47 3 (out10.flatMap sentE), stb b3 57 [(.int .i64 (1 + (slow % 16))), (.int .i64 delay), (.int .i64 (store % 1001)), (.int .i64 nq), (.int .i64 lq), (.slice aoq mq capq)], stb b1 57 [(.int .i64 (1 + (slow % 16))), (.int .i64 delay), (.int .i64 (store % 1001)), (.int .i64 now), (.int .i64 last), (.slice ao m cap)]]) (fun (i : Int) (now : Int) (last : Int) (ao : Option Addr) (m : Nat) (cap : Nat) (cur : List Fr) (nq : Int) (lq : Int) (aoq : Option Addr) (mq : Nat) (capq : Nat) (curq : List Fr) => (out10.length - i.toNat)) ⟨0, 0, 0, none, 0, 0, [], 0, 0, none, 0, 0, []⟩ ⟨(by first | omega | (dsimp only; omega)), (by first | omega | (dsimp only; omega)), (by first | (dsimp only; exact ⟨by omega, fun hlt => (hov.one _ (by omega) hlt).1⟩) | (exact ⟨by omega, fun hlt => (hov.one _ (by omega) hlt).1⟩)), (by first | (dsimp only; rfl) | (rfl)), (by first | (dsimp only; rfl) | (rfl)), (by first | omega | (dsimp only; omega)), (by first | (dsimp only; rfl) | (rfl)), (by first | (dsimp only; rfl) | (rfl)), (by first | (dsimp only; simp) | (simp)), (by first | (dsimp only; simp) | (simp)), (by first | (dsimp only; rfl) | (rfl))⟩ (.cons rfl (.cons rfl (.cons rfl (.cons rfl (.cons rfl (.cons rfl .nil)))))) (.cons .here (.cons .here (.cons .here (.cons .here (.cons .here .nil))))) ?_
      rintro i now last ao m cap cur nq lq aoq mq capq curq ⟨h0, h1, hn, hnq, hl, hlb, hm, hmq, hcl, hsz, hcq⟩
      have h3 := hov.one i h0
      refine WC.seq ?_
      refine WC.region ?_
      refine WL.quiet (d := 65) rfl rfl rfl (q_lss rfl rfl) ?_
      refine WL.nil ?_
      refine WX.then ?_
      refine WC.seq ?_
      refine WC.cond rfl (fun h => ?_) (fun h => ?_)
      · have hc14 : i < ((m8 : Nat) : Int) := ((decide_eq_true_iff)).1 h; clear h
        have h3 := h3 (by omega)
        have hob := hob i h0 (by omega)
        have hn := hn.2 (by omega)
        refine WC.skip ?_
        refine WX.then ?_
        refine WC.seq ?_
        refine WC.block ?_
        refine WC.seq ?_
        refine WC.region ?_
        refine WL.quiet (d := 66) rfl rfl rfl (q_move rfl) ?_
        refine WL.know (fun w hw => Hp.expose (.there (.there .here)) hw (by omega)) ?_
        rintro ⟨b15, rfl⟩
        refine WL.quiet (d := 67) rfl rfl rfl (q_indexAddr elT_44 rfl rfl (by omega) (by omega) rowAdd) ?_
        refine WL.quiet (d := 68) rfl rfl rfl (q_loadA (cs := (sentE (nth out10 i))) aggT_47 rfl rfl (rd_rows (.there (.there .here)) (flat_rd (enc := sentE) (l := out10) (sz := 3) (fun _ => rfl) (by omega) (by omega)))) ?_
        refine WL.new (dd := 22) rfl rfl rfl (e_alloc (cs := [(.int .i64 0), (.int .i64 0), (.int .i64 0)]) zeroT_47 rfl) ?_
        intro b16 _
        refine WL.quiet (d := 21) rfl rfl rfl (q_assign rfl) ?_
        refine WL.eff0 rfl rfl (e_store (vs := (sentE (nth out10 i))) (ds := [(.int .i64 ((nth out10 i).time)), (.int .i64 ((nth out10 i).vl)), (.int .i64 ((nth out10 i).size))]) sizT_47 rfl rfl rfl rfl (oc_cons rfl (oc_cons rfl (oc_cons rfl oc_nil))) .here (Nat.le_of_ble_eq_true rfl) rfl) ?_
        refine WL.nil ?_
        refine WX.then ?_
        refine WC.seq ?_
        refine WC.region ?_
        refine WL.quiet (d := 69) rfl rfl rfl (q_move rfl) ?_
        refine WL.quiet (d := 70) rfl rfl rfl (q_fieldAddr fo_47_0 rfl rfl) ?_
        refine WL.quiet (d := 71) rfl rfl rfl (q_load1 oneT_3 rfl (rd_stb .here rfl)) ?_
        refine WL.quiet (d := 72) rfl rfl rfl (q_move rfl) ?_
        refine WL.callD (dd := 73) rfl rfl rfl (run_call (l := [.tmp 69, .tmp 71, .tmp 72]) Try.call19 (.cons rfl (.cons rfl (.cons rfl .nil)))) (.cons (.there (.there (.there (.there (.there .here))))) (.cons (.there (.there .here)) .nil)) (fun w hw => lput_err (b := b1) (slow := (1 + (slow % 16))) (delay := delay) (store := (store % 1001)) (now := now) (last := last) (ao := ao) (m := m) (cap := cap) (l := cur) (t := ((nth out10 i).time)) (size := bad) (w₀ := w) (by omega) (by omega) (hw.owns (.cons (.there (.there (.there (.there (.there .here))))) (.cons (.there (.there .here)) .nil)))) ?_
        refine WL.quiet (d := 23) rfl rfl rfl (q_assign rfl) ?_
        refine WL.nil ?_
        refine WX.then ?_
        refine WC.seq ?_
        refine WC.region ?_
        refine WL.quiet (d := 74) rfl rfl rfl (q_move rfl) ?_
        refine WL.quiet (d := 75) rfl rfl rfl (q_fieldAddr fo_47_0 rfl rfl) ?_
        refine WL.quiet (d := 76) rfl rfl rfl (q_load1 oneT_3 rfl (rd_stb (.there (.there .here)) rfl)) ?_
        refine WL.quiet (d := 77) rfl rfl rfl (q_fieldAddr fo_47_2 rfl rfl) ?_
        refine WL.quiet (d := 78) rfl rfl rfl (q_load1 oneT_3 rfl (rd_stb (.there (.there .here)) rfl)) ?_
        refine WL.enter9 (dd := 79) rfl rfl rfl (run_call (l := [.tmp 74, .tmp 76, .tmp 78]) Try.call19 (.cons rfl (.cons rfl (.cons rfl .nil)))) (.cons .here (.cons .here .nil)) (fun w hw => lput_c (b := b1) (slow := (1 + (slow % 16))) (delay := delay) (store := (store % 1001)) (now := now) (last := last) (ao := ao) (m := m) (cap := cap) (l := cur) (t := ((nth out10 i).time)) (size := ((nth out10 i).size)) (w₀ := w) (by first | omega | (simp; done)) (by first | assumption | (simp; done)) (by first | omega | (simp; done)) (by omega) (hw.owns (.cons .here (.cons .here .nil)))) ?_
        rintro q17 r18 er19 now'20 last'21 l'22 ao'23 cap'24 m'25 ⟨hhr26, hhm27, hhe28, hhq29⟩
        have hr1 := hhr26
        have hm1 := hhm27
        have hq1 := hhq29
        have hi := putR_inv hr1 hsz (by omega)
        have hsz1 := hi.1
        have hcl1 := hi.2.1
        have hlb1 := hi.2.2.2.2.1
        have hn1 := hi.2.2.2.2.2.1 h3.2.2.1 h3.2.2.2 hn h3.2.1
        have hll1 : l'22.length ≤ 1099511627776 := by omega
        refine WL.quiet (d := 24) rfl rfl rfl (q_assign rfl) ?_
        refine WL.nil ?_
        refine WX.then ?_
        refine WC.seq ?_
        refine WC.region ?_
        refine WL.quiet (d := 80) rfl rfl rfl (q_move rfl) ?_
        refine WL.quiet (d := 81) rfl rfl rfl (q_fieldAddr fo_47_0 rfl rfl) ?_
        refine WL.quiet (d := 82) rfl rfl rfl (q_load1 oneT_3 rfl (rd_stb (.there (.there .here)) rfl)) ?_
        refine WL.quiet (d := 83) rfl rfl rfl (q_fieldAddr fo_47_2 rfl rfl) ?_
        refine WL.quiet (d := 84) rfl rfl rfl (q_load1 oneT_3 rfl (rd_stb (.there (.there .here)) rfl)) ?_
        refine WL.enter9 (dd := 85) rfl rfl rfl (run_call (l := [.tmp 80, .tmp 82, .tmp 84]) Try.call19 (.cons rfl (.cons rfl (.cons rfl .nil)))) (.cons (.there (.there (.there (.there (.there .here))))) (.cons (.there (.there (.there .here))) .nil)) (fun w hw => lput_c (b := b3) (slow := (1 + (slow % 16))) (delay := delay) (store := (store % 1001)) (now := nq) (last := lq) (ao := aoq) (m := mq) (cap := capq) (l := curq) (t := ((nth out10 i).time)) (size := ((nth out10 i).size)) (w₀ := w) (by first | omega | (simp; done)) (by rw [hcq]; exact hsz) (by rw [hcq]; omega) (by omega) (hw.owns (.cons (.there (.there (.there (.there (.there .here))))) (.cons (.there (.there (.there .here))) .nil)))) ?_
        rintro q30 r31 er32 now'33 last'34 l'35 ao'36 cap'37 m'38 ⟨hhr39, hhm40, hhe41, hhq42⟩
        have hr2 := hhr39
        have hm2 := hhm40
        have hq2 := hhq42
        rw [hnq, hl, hcq] at hr2
        have hs := hr1.symm.trans hr2
        simp only [Prod.mk.injEq] at hs
        obtain ⟨hs1, hs2, hs3, hs4, hs5⟩ := hs
        have hsz2 : ∀ x ∈ l'35, 1 ≤ x.size ∧ x.size ≤ 72 := hs5 ▸ hsz1
        have hll2 : l'35.length ≤ 1099511627776 := by rw [← hs5]; exact hll1
        rw [← hs1, ← hs2, ← hq1] at hq2
        refine WL.quiet (d := 25) rfl rfl rfl (q_assign rfl) ?_
        refine WL.nil ?_
        refine WX.then ?_
        refine WC.seq ?_
        refine WC.seq ?_
        refine WC.region ?_
        refine WL.quiet (d := 86) rfl rfl rfl (q_move rfl) ?_
        refine WL.quiet (d := 87) rfl rfl rfl (q_neq rfl rfl) ?_
        refine WL.quiet (d := 88) rfl rfl rfl (q_move rfl) ?_
        refine WL.cut0 True [(16, (.pointer (some ⟨b1, 0, none⟩))), (18, (.pointer (some ⟨b3, 0, none⟩))), (20, (.int .i64 bad)), (62, (.slice (some ⟨b15, 0, none⟩) m8 cap9)), (63, (.int .i64 ((m8 : Nat) : Int))), (64, (.int .i64 i)), (65, (.bool (decide (i < ((m8 : Nat) : Int))))), (22, (.pointer (some ⟨b16, 0, none⟩))), (21, (.int .i64 i)), (23, (.int .i64 (-2))), (24, (.int .i64 q17)), (25, (.int .i64 q30)), (92, (.bool ((decide (((-2) : Int) ≠ (-2))) || (decide (q17 ≠ q30)))))] [stb b3 57 [(.int .i64 (1 + (slow % 16))), (.int .i64 delay), (.int .i64 (store % 1001)), (.int .i64 now'33), (.int .i64 last'34), (.slice ao'36 m'38 cap'37)], row (.slice ao'36 m'38 cap'37) 67 2 (l'35.flatMap frE), stb b1 57 [(.int .i64 (1 + (slow % 16))), (.int .i64 delay), (.int .i64 (store % 1001)), (.int .i64 now'20), (.int .i64 last'21), (.slice ao'23 m'25 cap'24)], row (.slice ao'23 m'25 cap'24) 67 2 (l'22.flatMap frE), stb b16 47 [(.int .i64 ((nth out10 i).time)), (.int .i64 ((nth out10 i).vl)), (.int .i64 ((nth out10 i).size))], row (.slice (some ⟨b15, 0, none⟩) m8 cap9) 47 3 (out10.flatMap sentE)] 4 ?_ (fun _ => ?_)
        · by_cases hb43 : ((-2) : Int) ≠ (-2)
          · refine WL.pin (i := 88) rfl (bT (decide_eq_true_iff) hb43) ?_
            refine WL.skip rfl rfl rfl ?_
            refine WL.skip rfl rfl rfl ?_
            refine WL.skip rfl rfl rfl ?_
            refine WL.quiet (d := 92) rfl rfl rfl (q_pickT rfl rfl) ?_
            exact WL.cutEnd () trivial (.cons rfl (.cons rfl (.cons rfl (.cons rfl (.cons rfl (.cons rfl (.cons rfl (.cons rfl (.cons rfl (.cons rfl (.cons rfl (.cons rfl (.cons (some_bool (or_l (bT (decide_eq_true_iff) hb43))) .nil))))))))))))) (.cons .here (.cons .here (.cons .here (.cons .here (.cons .here (.cons .here .nil))))))
          · refine WL.pin (i := 88) rfl (bF (decide_eq_true_iff) hb43) ?_
            refine WL.quiet (d := 89) rfl rfl rfl (q_move rfl) ?_
            refine WL.quiet (d := 90) rfl rfl rfl (q_move rfl) ?_
            refine WL.quiet (d := 91) rfl rfl rfl (q_neq rfl rfl) ?_
            refine WL.quiet (d := 92) rfl rfl rfl (q_pickF rfl rfl) ?_
            exact WL.cutEnd () trivial (.cons rfl (.cons rfl (.cons rfl (.cons rfl (.cons rfl (.cons rfl (.cons rfl (.cons rfl (.cons rfl (.cons rfl (.cons rfl (.cons rfl (.cons (some_bool (or_r (bF (decide_eq_true_iff) hb43))) .nil))))))))))))) (.cons .here (.cons .here (.cons .here (.cons .here (.cons .here (.cons .here .nil))))))
        · skip
          refine WL.nil ?_
          refine WX.then ?_
          refine WC.cond rfl (fun h => absurd ((biff_or (decide_eq_true_iff) (decide_eq_true_iff)).1 h) (by omega)) (fun _ => ?_)
          refine WC.skip ?_
          refine WX.then ?_
          refine WC.seq ?_
          refine WC.seq ?_
          refine WC.region ?_
          refine WL.quiet (d := 93) rfl rfl rfl (q_fieldAddr fo_47_0 rfl rfl) ?_
          refine WL.quiet (d := 94) rfl rfl rfl (q_load1 oneT_3 rfl (rd_stb (.there (.there (.there (.there .here)))) rfl)) ?_
          refine WL.quiet (d := 95) rfl rfl rfl (q_gtr rfl rfl) ?_
          refine WL.quiet (d := 96) rfl rfl rfl (q_move rfl) ?_
          refine WL.cut0 True [(16, (.pointer (some ⟨b1, 0, none⟩))), (18, (.pointer (some ⟨b3, 0, none⟩))), (20, (.int .i64 bad)), (62, (.slice (some ⟨b15, 0, none⟩) m8 cap9)), (63, (.int .i64 ((m8 : Nat) : Int))), (64, (.int .i64 i)), (65, (.bool (decide (i < ((m8 : Nat) : Int))))), (22, (.pointer (some ⟨b16, 0, none⟩))), (21, (.int .i64 i)), (23, (.int .i64 (-2))), (24, (.int .i64 q17)), (25, (.int .i64 q30)), (92, (.bool ((decide (((-2) : Int) ≠ (-2))) || (decide (q17 ≠ q30))))), (103, (.bool ((decide (((nth out10 i).time) > 0)) && (decide (((-2) : Int) ≠ (-2))))))] [stb b3 57 [(.int .i64 (1 + (slow % 16))), (.int .i64 delay), (.int .i64 (store % 1001)), (.int .i64 now'33), (.int .i64 last'34), (.slice ao'36 m'38 cap'37)], row (.slice ao'36 m'38 cap'37) 67 2 (l'35.flatMap frE), stb b1 57 [(.int .i64 (1 + (slow % 16))), (.int .i64 delay), (.int .i64 (store % 1001)), (.int .i64 now'20), (.int .i64 last'21), (.slice ao'23 m'25 cap'24)], row (.slice ao'23 m'25 cap'24) 67 2 (l'22.flatMap frE), stb b16 47 [(.int .i64 ((nth out10 i).time)), (.int .i64 ((nth out10 i).vl)), (.int .i64 ((nth out10 i).size))], row (.slice (some ⟨b15, 0, none⟩) m8 cap9) 47 3 (out10.flatMap sentE)] 7 ?_ (fun _ => ?_)
          · by_cases hb44 : ((nth out10 i).time) > 0
            · refine WL.pin (i := 96) rfl (bT (decide_eq_true_iff) hb44) ?_
              refine WL.quiet (d := 97) rfl rfl rfl (q_move rfl) ?_
              refine WL.quiet (d := 98) rfl rfl rfl (q_fieldAddr fo_47_0 rfl rfl) ?_
              refine WL.quiet (d := 99) rfl rfl rfl (q_load1 oneT_3 rfl (rd_stb (.there (.there (.there (.there .here)))) rfl)) ?_
              refine WL.quiet (d := 100) rfl rfl rfl (q_sub rfl rfl (w64 (by omega))) ?_
              refine WL.callD (dd := 101) rfl rfl rfl (run_call (l := [.tmp 97, .tmp 100, .const (.int .i64 1)]) Try.call19 (.cons rfl (.cons rfl (.cons rfl .nil)))) (.cons (.there (.there .here)) (.cons (.there (.there .here)) .nil)) (fun w hw => lput_err (b := b1) (slow := (1 + (slow % 16))) (delay := delay) (store := (store % 1001)) (now := now'20) (last := last'21) (ao := ao'23) (m := m'25) (cap := cap'24) (l := l'22) (t := (((nth out10 i).time) - 1)) (size := 1) (w₀ := w) (by omega) (by omega) (hw.owns (.cons (.there (.there .here)) (.cons (.there (.there .here)) .nil)))) ?_
              refine WL.quiet (d := 102) rfl rfl rfl (q_neq rfl rfl) ?_
              refine WL.quiet (d := 103) rfl rfl rfl (q_pickT rfl rfl) ?_
              exact WL.cutEnd () trivial (.cons rfl (.cons rfl (.cons rfl (.cons rfl (.cons rfl (.cons rfl (.cons rfl (.cons rfl (.cons rfl (.cons rfl (.cons rfl (.cons rfl (.cons rfl (.cons (some_bool (and_r (bT (decide_eq_true_iff) hb44))) .nil)))))))))))))) (.cons (.there (.there .here)) (.cons (.there (.there .here)) (.cons .here (.cons .here (.cons .here (.cons .here .nil))))))
            · refine WL.pin (i := 96) rfl (bF (decide_eq_true_iff) hb44) ?_
              refine WL.skip rfl rfl rfl ?_
              refine WL.skip rfl rfl rfl ?_
              refine WL.skip rfl rfl rfl ?_
              refine WL.skip rfl rfl rfl ?_
              refine WL.skip rfl rfl rfl ?_
              refine WL.skip rfl rfl rfl ?_
              refine WL.quiet (d := 103) rfl rfl rfl (q_pickF rfl rfl) ?_
              exact WL.cutEnd () trivial (.cons rfl (.cons rfl (.cons rfl (.cons rfl (.cons rfl (.cons rfl (.cons rfl (.cons rfl (.cons rfl (.cons rfl (.cons rfl (.cons rfl (.cons rfl (.cons (some_bool (and_l (bF (decide_eq_true_iff) hb44))) .nil)))))))))))))) (.cons .here (.cons .here (.cons .here (.cons .here (.cons .here (.cons .here .nil))))))
          · skip
            refine WL.nil ?_
            refine WX.then ?_
            refine WC.cond rfl (fun h => absurd ((biff_and (decide_eq_true_iff) (decide_eq_true_iff)).1 h) (by omega)) (fun _ => ?_)
            refine WC.skip ?_
            refine WX.then ?_
            refine WC.seq ?_
            refine WC.draw (fun i => [].contains i) [] rfl ?_
            refine WD.pure (i := 0) (d := 104) (by kernel_rfl) rfl (by kernel_rfl) (by kernel_rfl) rfl rfl rfl (fun _ => q_move rfl) ?_
            refine WD.pure (i := 1) (d := 105) (by kernel_rfl) rfl (by kernel_rfl) (by kernel_rfl) rfl rfl rfl (fun _ => q_rem rfl rfl (by omega) (tmodp (by omega))) ?_
            refine WD.pure (i := 2) (d := 106) (by kernel_rfl) rfl (by kernel_rfl) (by kernel_rfl) rfl rfl rfl (fun _ => q_eql rfl rfl) ?_
            refine WD.pure (i := 3) (d := 107) (by kernel_rfl) rfl (by kernel_rfl) (by kernel_rfl) rfl rfl rfl (fun _ => q_move rfl) ?_
            refine WD.mid (fuel' := 0) [(16, (.pointer (some ⟨b1, 0, none⟩))), (18, (.pointer (some ⟨b3, 0, none⟩))), (20, (.int .i64 bad)), (62, (.slice (some ⟨b15, 0, none⟩) m8 cap9)), (63, (.int .i64 ((m8 : Nat) : Int))), (64, (.int .i64 i)), (65, (.bool (decide (i < ((m8 : Nat) : Int))))), (22, (.pointer (some ⟨b16, 0, none⟩))), (21, (.int .i64 i)), (23, (.int .i64 (-2))), (24, (.int .i64 q17)), (25, (.int .i64 q30)), (92, (.bool ((decide (((-2) : Int) ≠ (-2))) || (decide (q17 ≠ q30))))), (103, (.bool ((decide (((nth out10 i).time) > 0)) && (decide (((-2) : Int) ≠ (-2)))))), (104, (.int .i64 i)), (105, (.int .i64 (i % 3))), (106, (.bool (decide ((i % 3) = 0)))), (107, (.bool (decide ((i % 3) = 0)))), (117, (.bool ((decide ((i % 3) = 0)) && (decide ((sumF (fun x => decide (x.fin > max ((nth out10 i).time) now'20)) l'22) ≠ (sumF (fun x => decide (x.fin > max ((nth out10 i).time) now'33)) l'35))))))] (listedA 14 [13, 12, 11, 10, 9, 8, 7, 6, 5, 4, 3, 2, 1, 0]) ?_ (fun K46 => ?_)
            rotate_left
            · by_cases hb45 : (i % 3) = 0
              · refine WD.pin (i := 107) rfl (bT (decide_eq_true_iff) hb45) ?_
                refine WD.pure (i := 4) (d := 108) (by kernel_rfl) rfl (by kernel_rfl) (by kernel_rfl) rfl rfl rfl (fun _ => q_move rfl) ?_
                refine WD.pure (i := 5) (d := 109) (by kernel_rfl) rfl (by kernel_rfl) (by kernel_rfl) rfl rfl rfl (fun _ => q_fieldAddr fo_47_0 rfl rfl) ?_
                refine WD.quiet (i := 6) (d := 110) (by kernel_rfl) rfl (by kernel_rfl) (by kernel_rfl) rfl rfl rfl (q_load1 oneT_3 rfl (rd_stb (.there (.there (.there (.there .here)))) rfl)) ?_
                refine WD.enter (i := 7) (d := 111) (by kernel_rfl) rfl (by kernel_rfl) (by kernel_rfl) rfl rfl rfl (run_call (l := [.tmp 108, .tmp 110]) Try.call12 (.cons rfl (.cons rfl .nil))) (fun w hw => held_c (A := ⟨b1, 0, none⟩) (slow := (1 + (slow % 16))) (delay := delay) (store := (store % 1001)) (now := now'20) (last := last'21) (ao := ao'23) (m := m'25) (cap := cap'24) (l := l'22) (t := ((nth out10 i).time)) (w₀ := w) (hw.cellsStb .nil (.there (.there .here))) (hw.slpRow .nil (.there (.there (.there .here))) (fun _ _ => rfl) (by decide)) (by first | assumption | (simp; done)) (by first | omega | (simp; done)) (by omega)) ?_
                refine WD.pure (i := 8) (d := 112) (by kernel_rfl) rfl (by kernel_rfl) (by kernel_rfl) rfl rfl rfl (fun _ => q_move rfl) ?_
                refine WD.pure (i := 9) (d := 113) (by kernel_rfl) rfl (by kernel_rfl) (by kernel_rfl) rfl rfl rfl (fun _ => q_fieldAddr fo_47_0 rfl rfl) ?_
                refine WD.quiet (i := 10) (d := 114) (by kernel_rfl) rfl (by kernel_rfl) (by kernel_rfl) rfl rfl rfl (q_load1 oneT_3 rfl (rd_stb (.there (.there (.there (.there .here)))) rfl)) ?_
                refine WD.enter (i := 11) (d := 115) (by kernel_rfl) rfl (by kernel_rfl) (by kernel_rfl) rfl rfl rfl (run_call (l := [.tmp 112, .tmp 114]) Try.call12 (.cons rfl (.cons rfl .nil))) (fun w hw => held_c (A := ⟨b3, 0, none⟩) (slow := (1 + (slow % 16))) (delay := delay) (store := (store % 1001)) (now := now'33) (last := last'34) (ao := ao'36) (m := m'38) (cap := cap'37) (l := l'35) (t := ((nth out10 i).time)) (w₀ := w) (hw.cellsStb .nil .here) (hw.slpRow .nil (.there .here) (fun _ _ => rfl) (by decide)) (by first | assumption | (simp; done)) (by first | omega | (simp; done)) (by omega)) ?_
                refine WD.pure (i := 12) (d := 116) (by kernel_rfl) rfl (by kernel_rfl) (by kernel_rfl) rfl rfl rfl (fun _ => q_neq rfl rfl) ?_
                refine WD.pure (i := 13) (d := 117) (by kernel_rfl) rfl (by kernel_rfl) (by kernel_rfl) rfl rfl rfl (fun _ => q_pickT rfl rfl) ?_
                refine WD.restr ?_ K46
                exact (.cons rfl (.cons rfl (.cons rfl (.cons rfl (.cons rfl (.cons rfl (.cons rfl (.cons rfl (.cons rfl (.cons rfl (.cons rfl (.cons rfl (.cons rfl (.cons rfl (.cons rfl (.cons rfl (.cons rfl (.cons (some_bool (Eq.symm (bT (decide_eq_true_iff) hb45))) (.cons (some_bool (and_r (bT (decide_eq_true_iff) hb45))) .nil)))))))))))))))))))
              · refine WD.pin (i := 107) rfl (bF (decide_eq_true_iff) hb45) ?_
                refine WD.skip (i := 4) (d := 108) (by kernel_rfl) rfl (by kernel_rfl) (by kernel_rfl) rfl rfl rfl ?_
                refine WD.skip (i := 5) (d := 109) (by kernel_rfl) rfl (by kernel_rfl) (by kernel_rfl) rfl rfl rfl ?_
                refine WD.skip (i := 6) (d := 110) (by kernel_rfl) rfl (by kernel_rfl) (by kernel_rfl) rfl rfl rfl ?_
                refine WD.skip (i := 7) (d := 111) (by kernel_rfl) rfl (by kernel_rfl) (by kernel_rfl) rfl rfl rfl ?_
                refine WD.skip (i := 8) (d := 112) (by kernel_rfl) rfl (by kernel_rfl) (by kernel_rfl) rfl rfl rfl ?_
                refine WD.skip (i := 9) (d := 113) (by kernel_rfl) rfl (by kernel_rfl) (by kernel_rfl) rfl rfl rfl ?_
                refine WD.skip (i := 10) (d := 114) (by kernel_rfl) rfl (by kernel_rfl) (by kernel_rfl) rfl rfl rfl ?_
                refine WD.skip (i := 11) (d := 115) (by kernel_rfl) rfl (by kernel_rfl) (by kernel_rfl) rfl rfl rfl ?_
                refine WD.skip (i := 12) (d := 116) (by kernel_rfl) rfl (by kernel_rfl) (by kernel_rfl) rfl rfl rfl ?_
                refine WD.pure (i := 13) (d := 117) (by kernel_rfl) rfl (by kernel_rfl) (by kernel_rfl) rfl rfl rfl (fun _ => q_pickF rfl rfl) ?_
                refine WD.restr ?_ K46
                exact (.cons rfl (.cons rfl (.cons rfl (.cons rfl (.cons rfl (.cons rfl (.cons rfl (.cons rfl (.cons rfl (.cons rfl (.cons rfl (.cons rfl (.cons rfl (.cons rfl (.cons rfl (.cons rfl (.cons rfl (.cons (some_bool (Eq.symm (bF (decide_eq_true_iff) hb45))) (.cons (some_bool (and_l (bF (decide_eq_true_iff) hb45))) .nil)))))))))))))))))))
            refine WD.done (by kernel_rfl) ?_
            refine WX.then ?_
            refine WC.cond rfl (fun h => absurd ((biff_and (decide_eq_true_iff) (decide_eq_true_iff)).1 h) (by rintro ⟨_, hh⟩; exact hh (by rw [hs3, hs5]))) (fun _ => ?_)
            refine WC.skip ?_
            refine WX.blockNormal ?_
            refine WX.then ?_
            refine WC.region ?_
            refine WL.quiet (d := 118) rfl rfl rfl (q_add rfl rfl (w64 (by omega))) ?_
            refine WL.quiet (d := 64) rfl rfl rfl (q_move rfl) ?_
            refine WL.nil ?_
            exact WX.round (G := Int × Int × Int × (Option Addr) × Nat × Nat × (List Fr) × Int × Int × (Option Addr) × Nat × Nat × (List Fr)) ⟨(i + 1), now'20, last'21, ao'23, m'25, cap'24, l'22, now'33, last'34, ao'36, m'38, cap'37, l'35⟩ ⟨(by first | omega | (dsimp only; omega)), (by first | omega | (dsimp only; omega)), (by first | (dsimp only; exact ⟨by omega, fun hlt => by have := hov.two (i + 1) (by omega) hlt; rw [show i + 1 - 1 = i from by omega] at this; omega⟩) | (exact ⟨by omega, fun hlt => by have := hov.two (i + 1) (by omega) hlt; rw [show i + 1 - 1 = i from by omega] at this; omega⟩)), (by first | (dsimp only; omega) | (omega)), (by first | (dsimp only; exact hs4.symm) | (exact hs4.symm)), (by first | omega | (dsimp only; omega)), (by first | (dsimp only; exact hm1) | (exact hm1)), (by first | (dsimp only; exact hm2) | (exact hm2)), (by first | (dsimp only; omega) | (omega)), (by first | (dsimp only; exact hsz1) | (exact hsz1)), (by first | (dsimp only; exact hs5.symm) | (exact hs5.symm))⟩ (by first | omega | (dsimp only; omega)) (.cons rfl (.cons rfl (.cons rfl (.cons rfl (.cons rfl (.cons rfl .nil)))))) (.cons (.there .here) (.cons (.there (.there .here)) (.cons (.there (.there (.there .here))) (.cons .here (.cons .here .nil)))))
      · have hc14 : ¬ (i < ((m8 : Nat) : Int)) := biffF (decide_eq_true_iff) h; clear h
        refine WC.exit ?_
        refine WX.thenExit ?_
        refine WX.thenExit ?_
        refine WX.blockHit ?_
        refine WX.then ?_
        refine WC.seq ?_
        refine WC.region ?_
        refine WL.quiet (d := 119) rfl rfl rfl (q_move rfl) ?_
        refine WL.callD (dd := 120) rfl rfl rfl (run_call (l := [.tmp 119]) Try.call14 (.cons rfl .nil)) .nil (fun w hw => free_no (A := ⟨b1, 0, none⟩) (slow := (1 + (slow % 16))) (delay := delay) (store := (store % 1001)) (now := now) (last := last) (fr := (.slice ao m cap)) (w₀ := w) (hw.cellsStb .nil (.there (.there (.there (.there .here))))) (by omega)) ?_
        refine WL.quiet (d := 121) rfl rfl rfl (q_move rfl) ?_
        refine WL.callD (dd := 122) rfl rfl rfl (run_call (l := [.tmp 121]) Try.call14 (.cons rfl .nil)) .nil (fun w hw => free_no (A := ⟨b3, 0, none⟩) (slow := (1 + (slow % 16))) (delay := delay) (store := (store % 1001)) (now := nq) (last := lq) (fr := (.slice aoq mq capq)) (w₀ := w) (hw.cellsStb .nil (.there (.there (.there .here)))) (by omega)) ?_
        refine WL.quiet (d := 123) rfl rfl rfl (q_eql rfl rfl) ?_
        refine WL.quiet (d := 124) rfl rfl rfl (q_move rfl) ?_
        refine WL.cut0 True [(16, (.pointer (some ⟨b1, 0, none⟩))), (18, (.pointer (some ⟨b3, 0, none⟩))), (20, (.int .i64 bad)), (62, (.slice ao7 m8 cap9)), (63, (.int .i64 ((m8 : Nat) : Int))), (64, (.int .i64 i)), (65, (.bool (decide (i < ((m8 : Nat) : Int))))), (126, (.bool ((decide (last = lq)) && true)))] [row (.slice aoq mq capq) 67 2 (curq.flatMap frE), row (.slice ao m cap) 67 2 (cur.flatMap frE), row (.slice ao7 m8 cap9) 47 3 (out10.flatMap sentE), stb b3 57 [(.int .i64 (1 + (slow % 16))), (.int .i64 delay), (.int .i64 (store % 1001)), (.int .i64 nq), (.int .i64 lq), (.slice aoq mq capq)], stb b1 57 [(.int .i64 (1 + (slow % 16))), (.int .i64 delay), (.int .i64 (store % 1001)), (.int .i64 now), (.int .i64 last), (.slice ao m cap)]] 2 ?_ (fun _ => ?_)
        · by_cases hb47 : last = lq
          · refine WL.pin (i := 124) rfl (bT (decide_eq_true_iff) hb47) ?_
            refine WL.callD (dd := 125) rfl rfl rfl (run_call (l := []) Try.call11 .nil) .nil (fun w hw => awake_c  (w₀ := w) ) ?_
            refine WL.quiet (d := 126) rfl rfl rfl (q_pickT rfl rfl) ?_
            exact WL.cutEnd () trivial (.cons rfl (.cons rfl (.cons rfl (.cons rfl (.cons rfl (.cons rfl (.cons rfl (.cons (some_bool (and_r (bT (decide_eq_true_iff) hb47))) .nil)))))))) (.cons .here (.cons .here (.cons .here (.cons .here (.cons .here .nil)))))
          · refine WL.pin (i := 124) rfl (bF (decide_eq_true_iff) hb47) ?_
            refine WL.skip rfl rfl rfl ?_
            refine WL.quiet (d := 126) rfl rfl rfl (q_pickF rfl rfl) ?_
            exact WL.cutEnd () trivial (.cons rfl (.cons rfl (.cons rfl (.cons rfl (.cons rfl (.cons rfl (.cons rfl (.cons (some_bool (and_l (bF (decide_eq_true_iff) hb47))) .nil)))))))) (.cons .here (.cons .here (.cons .here (.cons .here (.cons .here .nil)))))
        · skip
          refine WL.quiet (d := 12) rfl rfl rfl (q_assign rfl) ?_
          refine WL.nil ?_
          refine WX.then ?_
          refine WC.ret ?_
          refine WX.bpRet Try.results6 (.tmp rfl .nil) (fun w hw => ?_)
          exact ⟨ret1 (vbool (by simp [hl])), (hw.sub .nil)⟩
    · have hc6 : ¬ (bad < 1) := biffF (decide_eq_true_iff) h; clear h
      refine WC.skip ?_
      refine WX.then ?_
      refine WC.seq ?_
      refine WC.seq ?_
      refine WC.region ?_
      refine WL.quiet (d := 60) rfl rfl rfl (q_move rfl) ?_
      refine WL.quiet (d := 61) rfl rfl rfl (q_move rfl) ?_
      refine WL.enter4 (dd := 62) rfl rfl rfl (run_call (l := [.tmp 60, .tmp 61]) Try.call18 (.cons rfl (.cons rfl .nil))) .nil (fun w hw => lfr_c (aoS := aoS) (mS := mS) (capS := capS) (ss := ss) (aoW := aoW) (mW := mW) (capW := capW) (ws := ws) (w₀ := w) (hsS.call hw .nil (by decide) (fun _ _ h => h)) (hsW.call hw .nil (by decide) (fun _ _ h => h)) (by omega)) ?_
      rintro ao48 m49 cap50 out51 ⟨hho52, hhm53⟩
      have hout := hho52
      have hom := hhm53
      have hov : SentsOk out51 := hout ▸ hok
      have hol : out51.length = min ss.length 40 := by rw [hout, hfl]
      have hob : ∀ i : Int, 0 ≤ i → i < out51.length → (nth out51 i).time ≤ 10200 := hout.symm ▸ frameL_bd (ss := ss) hws
      refine WL.quiet (d := 63) rfl rfl rfl (q_len Try.underlying44 rfl) ?_
      refine WL.quiet (d := 64) rfl rfl rfl (q_move rfl) ?_
      refine WL.nil ?_
      refine WX.then ?_
      refine WC.block ?_
      refine WC.nilRow 67 2 ?_
      refine WC.nilRow 67 2 ?_
      refine WC.loop13 (fun (i : Int) (now : Int) (last : Int) (ao : Option Addr) (m : Nat) (cap : Nat) (cur : List Fr) (nq : Int) (lq : Int) (aoq : Option Addr) (mq : Nat) (capq : Nat) (curq : List Fr) => (0 ≤ i) ∧ (i ≤ out51.length) ∧ (0 ≤ now ∧ (i < out51.length → now ≤ (nth out51 i).time)) ∧ (nq = now) ∧ (lq = last) ∧ (0 ≤ last ∧ last ≤ 2147483648 + 1152 * i) ∧ (m = cur.length) ∧ (mq = curq.length) ∧ (cur.length ≤ i) ∧ (∀ x ∈ cur, 1 ≤ x.size ∧ x.size ≤ 72) ∧ (curq = cur)) (fun (i : Int) (now : Int) (last : Int) (ao : Option Addr) (m : Nat) (cap : Nat) (cur : List Fr) (nq : Int) (lq : Int) (aoq : Option Addr) (mq : Nat) (capq : Nat) (curq : List Fr) => [(16, (.pointer (some ⟨b1, 0, none⟩))), (18, (.pointer (some ⟨b3, 0, none⟩))), (20, (.int .i64 (max bad 73))), (62, (.slice ao48 m49 cap50)), (63, (.int .i64 ((m49 : Nat) : Int))), (64, (.int .i64 i))]) (fun (i : Int) (now : Int) (last : Int) (ao : Option Addr) (m : Nat) (cap : Nat) (cur : List Fr) (nq : Int) (lq : Int) (aoq : Option Addr) (mq : Nat) (capq : Nat) (curq : List Fr) => [row (.slice aoq mq capq) 67 2 (curq.flatMap frE), row (.slice ao m cap) 67 2 (cur.flatMap frE), row (.slice ao48 m49 cap50) 47 3 (out51.flatMap sentE), stb b3 57 [(.int .i64 (1 + (slow % 16))), (.int .i64 delay), (.int .i64 (store % 1001)), (.int .i64 nq), (.int .i64 lq), (.slice aoq mq capq)], stb b1 57 [(.int .i64 (1 + (slow % 16))), (.int .i64 delay), (.int .i64 (store % 1001)), (.int .i64 now), (.int .i64 last), (.slice ao m cap)]]) (fun (i : Int) (now : Int) (last : Int) (ao : Option Addr) (m : Nat) (cap : Nat) (cur : List Fr) (nq : Int) (lq : Int) (aoq : Option Addr) (mq : Nat) (capq : Nat) (curq : List Fr) => (out51.length - i.toNat)) ⟨0, 0, 0, none, 0, 0, [], 0, 0, none, 0, 0, []⟩ ⟨(by first | omega | (dsimp only; omega)), (by first | omega | (dsimp only; omega)), (by first | (dsimp only; exact ⟨by omega, fun hlt => (hov.one _ (by omega) hlt).1⟩) | (exact ⟨by omega, fun hlt => (hov.one _ (by omega) hlt).1⟩)), (by first | (dsimp only; rfl) | (rfl)), (by first | (dsimp only; rfl) | (rfl)), (by first | omega | (dsimp only; omega)), (by first | (dsimp only; rfl) | (rfl)), (by first | (dsimp only; rfl) | (rfl)), (by first | (dsimp only; simp) | (simp)), (by first | (dsimp only; simp) | (simp)), (by first | (dsimp only; rfl) | (rfl))⟩ (.cons rfl (.cons rfl (.cons rfl (.cons rfl (.cons rfl (.cons rfl .nil)))))) (.cons .here (.cons .here (.cons .here (.cons .here (.cons .here .nil))))) ?_
      rintro i now last ao m cap cur nq lq aoq mq capq curq ⟨h0, h1, hn, hnq, hl, hlb, hm, hmq, hcl, hsz, hcq⟩
      have h3 := hov.one i h0
      refine WC.seq ?_
      refine WC.region ?_
      refine WL.quiet (d := 65) rfl rfl rfl (q_lss rfl rfl) ?_
      refine WL.nil ?_
      refine WX.then ?_
      refine WC.seq ?_
      refine WC.cond rfl (fun h => ?_) (fun h => ?_)
      · have hc55 : i < ((m49 : Nat) : Int) := ((decide_eq_true_iff)).1 h; clear h
        have h3 := h3 (by omega)
        have hob := hob i h0 (by omega)
        have hn := hn.2 (by omega)
        refine WC.skip ?_
        refine WX.then ?_
        refine WC.seq ?_
        refine WC.block ?_
        refine WC.seq ?_
        refine WC.region ?_
        refine WL.quiet (d := 66) rfl rfl rfl (q_move rfl) ?_
        refine WL.know (fun w hw => Hp.expose (.there (.there .here)) hw (by omega)) ?_
        rintro ⟨b56, rfl⟩
        refine WL.quiet (d := 67) rfl rfl rfl (q_indexAddr elT_44 rfl rfl (by omega) (by omega) rowAdd) ?_
        refine WL.quiet (d := 68) rfl rfl rfl (q_loadA (cs := (sentE (nth out51 i))) aggT_47 rfl rfl (rd_rows (.there (.there .here)) (flat_rd (enc := sentE) (l := out51) (sz := 3) (fun _ => rfl) (by omega) (by omega)))) ?_
        refine WL.new (dd := 22) rfl rfl rfl (e_alloc (cs := [(.int .i64 0), (.int .i64 0), (.int .i64 0)]) zeroT_47 rfl) ?_
        intro b57 _
        refine WL.quiet (d := 21) rfl rfl rfl (q_assign rfl) ?_
        refine WL.eff0 rfl rfl (e_store (vs := (sentE (nth out51 i))) (ds := [(.int .i64 ((nth out51 i).time)), (.int .i64 ((nth out51 i).vl)), (.int .i64 ((nth out51 i).size))]) sizT_47 rfl rfl rfl rfl (oc_cons rfl (oc_cons rfl (oc_cons rfl oc_nil))) .here (Nat.le_of_ble_eq_true rfl) rfl) ?_
        refine WL.nil ?_
        refine WX.then ?_
        refine WC.seq ?_
        refine WC.region ?_
        refine WL.quiet (d := 69) rfl rfl rfl (q_move rfl) ?_
        refine WL.quiet (d := 70) rfl rfl rfl (q_fieldAddr fo_47_0 rfl rfl) ?_
        refine WL.quiet (d := 71) rfl rfl rfl (q_load1 oneT_3 rfl (rd_stb .here rfl)) ?_
        refine WL.quiet (d := 72) rfl rfl rfl (q_move rfl) ?_
        refine WL.callD (dd := 73) rfl rfl rfl (run_call (l := [.tmp 69, .tmp 71, .tmp 72]) Try.call19 (.cons rfl (.cons rfl (.cons rfl .nil)))) (.cons (.there (.there (.there (.there (.there .here))))) (.cons (.there (.there .here)) .nil)) (fun w hw => lput_err (b := b1) (slow := (1 + (slow % 16))) (delay := delay) (store := (store % 1001)) (now := now) (last := last) (ao := ao) (m := m) (cap := cap) (l := cur) (t := ((nth out51 i).time)) (size := (max bad 73)) (w₀ := w) (by omega) (by omega) (hw.owns (.cons (.there (.there (.there (.there (.there .here))))) (.cons (.there (.there .here)) .nil)))) ?_
        refine WL.quiet (d := 23) rfl rfl rfl (q_assign rfl) ?_
        refine WL.nil ?_
        refine WX.then ?_
        refine WC.seq ?_
        refine WC.region ?_
        refine WL.quiet (d := 74) rfl rfl rfl (q_move rfl) ?_
        refine WL.quiet (d := 75) rfl rfl rfl (q_fieldAddr fo_47_0 rfl rfl) ?_
        refine WL.quiet (d := 76) rfl rfl rfl (q_load1 oneT_3 rfl (rd_stb (.there (.there .here)) rfl)) ?_
        refine WL.quiet (d := 77) rfl rfl rfl (q_fieldAddr fo_47_2 rfl rfl) ?_
        refine WL.quiet (d := 78) rfl rfl rfl (q_load1 oneT_3 rfl (rd_stb (.there (.there .here)) rfl)) ?_
        refine WL.enter9 (dd := 79) rfl rfl rfl (run_call (l := [.tmp 74, .tmp 76, .tmp 78]) Try.call19 (.cons rfl (.cons rfl (.cons rfl .nil)))) (.cons .here (.cons .here .nil)) (fun w hw => lput_c (b := b1) (slow := (1 + (slow % 16))) (delay := delay) (store := (store % 1001)) (now := now) (last := last) (ao := ao) (m := m) (cap := cap) (l := cur) (t := ((nth out51 i).time)) (size := ((nth out51 i).size)) (w₀ := w) (by first | omega | (simp; done)) (by first | assumption | (simp; done)) (by first | omega | (simp; done)) (by omega) (hw.owns (.cons .here (.cons .here .nil)))) ?_
        rintro q58 r59 er60 now'61 last'62 l'63 ao'64 cap'65 m'66 ⟨hhr67, hhm68, hhe69, hhq70⟩
        have hr1 := hhr67
        have hm1 := hhm68
        have hq1 := hhq70
        have hi := putR_inv hr1 hsz (by omega)
        have hsz1 := hi.1
        have hcl1 := hi.2.1
        have hlb1 := hi.2.2.2.2.1
        have hn1 := hi.2.2.2.2.2.1 h3.2.2.1 h3.2.2.2 hn h3.2.1
        have hll1 : l'63.length ≤ 1099511627776 := by omega
        refine WL.quiet (d := 24) rfl rfl rfl (q_assign rfl) ?_
        refine WL.nil ?_
        refine WX.then ?_
        refine WC.seq ?_
        refine WC.region ?_
        refine WL.quiet (d := 80) rfl rfl rfl (q_move rfl) ?_
        refine WL.quiet (d := 81) rfl rfl rfl (q_fieldAddr fo_47_0 rfl rfl) ?_
        refine WL.quiet (d := 82) rfl rfl rfl (q_load1 oneT_3 rfl (rd_stb (.there (.there .here)) rfl)) ?_
        refine WL.quiet (d := 83) rfl rfl rfl (q_fieldAddr fo_47_2 rfl rfl) ?_
        refine WL.quiet (d := 84) rfl rfl rfl (q_load1 oneT_3 rfl (rd_stb (.there (.there .here)) rfl)) ?_
        refine WL.enter9 (dd := 85) rfl rfl rfl (run_call (l := [.tmp 80, .tmp 82, .tmp 84]) Try.call19 (.cons rfl (.cons rfl (.cons rfl .nil)))) (.cons (.there (.there (.there (.there (.there .here))))) (.cons (.there (.there (.there .here))) .nil)) (fun w hw => lput_c (b := b3) (slow := (1 + (slow % 16))) (delay := delay) (store := (store % 1001)) (now := nq) (last := lq) (ao := aoq) (m := mq) (cap := capq) (l := curq) (t := ((nth out51 i).time)) (size := ((nth out51 i).size)) (w₀ := w) (by first | omega | (simp; done)) (by rw [hcq]; exact hsz) (by rw [hcq]; omega) (by omega) (hw.owns (.cons (.there (.there (.there (.there (.there .here))))) (.cons (.there (.there (.there .here))) .nil)))) ?_
        rintro q71 r72 er73 now'74 last'75 l'76 ao'77 cap'78 m'79 ⟨hhr80, hhm81, hhe82, hhq83⟩
        have hr2 := hhr80
        have hm2 := hhm81
        have hq2 := hhq83
        rw [hnq, hl, hcq] at hr2
        have hs := hr1.symm.trans hr2
        simp only [Prod.mk.injEq] at hs
        obtain ⟨hs1, hs2, hs3, hs4, hs5⟩ := hs
        have hsz2 : ∀ x ∈ l'76, 1 ≤ x.size ∧ x.size ≤ 72 := hs5 ▸ hsz1
        have hll2 : l'76.length ≤ 1099511627776 := by rw [← hs5]; exact hll1
        rw [← hs1, ← hs2, ← hq1] at hq2
        refine WL.quiet (d := 25) rfl rfl rfl (q_assign rfl) ?_
        refine WL.nil ?_
        refine WX.then ?_
        refine WC.seq ?_
        refine WC.seq ?_
        refine WC.region ?_
        refine WL.quiet (d := 86) rfl rfl rfl (q_move rfl) ?_
        refine WL.quiet (d := 87) rfl rfl rfl (q_neq rfl rfl) ?_
        refine WL.quiet (d := 88) rfl rfl rfl (q_move rfl) ?_
        refine WL.cut0 True [(16, (.pointer (some ⟨b1, 0, none⟩))), (18, (.pointer (some ⟨b3, 0, none⟩))), (20, (.int .i64 (max bad 73))), (62, (.slice (some ⟨b56, 0, none⟩) m49 cap50)), (63, (.int .i64 ((m49 : Nat) : Int))), (64, (.int .i64 i)), (65, (.bool (decide (i < ((m49 : Nat) : Int))))), (22, (.pointer (some ⟨b57, 0, none⟩))), (21, (.int .i64 i)), (23, (.int .i64 (-2))), (24, (.int .i64 q58)), (25, (.int .i64 q71)), (92, (.bool ((decide (((-2) : Int) ≠ (-2))) || (decide (q58 ≠ q71)))))] [stb b3 57 [(.int .i64 (1 + (slow % 16))), (.int .i64 delay), (.int .i64 (store % 1001)), (.int .i64 now'74), (.int .i64 last'75), (.slice ao'77 m'79 cap'78)], row (.slice ao'77 m'79 cap'78) 67 2 (l'76.flatMap frE), stb b1 57 [(.int .i64 (1 + (slow % 16))), (.int .i64 delay), (.int .i64 (store % 1001)), (.int .i64 now'61), (.int .i64 last'62), (.slice ao'64 m'66 cap'65)], row (.slice ao'64 m'66 cap'65) 67 2 (l'63.flatMap frE), stb b57 47 [(.int .i64 ((nth out51 i).time)), (.int .i64 ((nth out51 i).vl)), (.int .i64 ((nth out51 i).size))], row (.slice (some ⟨b56, 0, none⟩) m49 cap50) 47 3 (out51.flatMap sentE)] 4 ?_ (fun _ => ?_)
        · by_cases hb84 : ((-2) : Int) ≠ (-2)
          · refine WL.pin (i := 88) rfl (bT (decide_eq_true_iff) hb84) ?_
            refine WL.skip rfl rfl rfl ?_
            refine WL.skip rfl rfl rfl ?_
            refine WL.skip rfl rfl rfl ?_
            refine WL.quiet (d := 92) rfl rfl rfl (q_pickT rfl rfl) ?_
            exact WL.cutEnd () trivial (.cons rfl (.cons rfl (.cons rfl (.cons rfl (.cons rfl (.cons rfl (.cons rfl (.cons rfl (.cons rfl (.cons rfl (.cons rfl (.cons rfl (.cons (some_bool (or_l (bT (decide_eq_true_iff) hb84))) .nil))))))))))))) (.cons .here (.cons .here (.cons .here (.cons .here (.cons .here (.cons .here .nil))))))
          · refine WL.pin (i := 88) rfl (bF (decide_eq_true_iff) hb84) ?_
            refine WL.quiet (d := 89) rfl rfl rfl (q_move rfl) ?_
            refine WL.quiet (d := 90) rfl rfl rfl (q_move rfl) ?_
            refine WL.quiet (d := 91) rfl rfl rfl (q_neq rfl rfl) ?_
            refine WL.quiet (d := 92) rfl rfl rfl (q_pickF rfl rfl) ?_
            exact WL.cutEnd () trivial (.cons rfl (.cons rfl (.cons rfl (.cons rfl (.cons rfl (.cons rfl (.cons rfl (.cons rfl (.cons rfl (.cons rfl (.cons rfl (.cons rfl (.cons (some_bool (or_r (bF (decide_eq_true_iff) hb84))) .nil))))))))))))) (.cons .here (.cons .here (.cons .here (.cons .here (.cons .here (.cons .here .nil))))))
        · skip
          refine WL.nil ?_
          refine WX.then ?_
          refine WC.cond rfl (fun h => absurd ((biff_or (decide_eq_true_iff) (decide_eq_true_iff)).1 h) (by omega)) (fun _ => ?_)
          refine WC.skip ?_
          refine WX.then ?_
          refine WC.seq ?_
          refine WC.seq ?_
          refine WC.region ?_
          refine WL.quiet (d := 93) rfl rfl rfl (q_fieldAddr fo_47_0 rfl rfl) ?_
          refine WL.quiet (d := 94) rfl rfl rfl (q_load1 oneT_3 rfl (rd_stb (.there (.there (.there (.there .here)))) rfl)) ?_
          refine WL.quiet (d := 95) rfl rfl rfl (q_gtr rfl rfl) ?_
          refine WL.quiet (d := 96) rfl rfl rfl (q_move rfl) ?_
          refine WL.cut0 True [(16, (.pointer (some ⟨b1, 0, none⟩))), (18, (.pointer (some ⟨b3, 0, none⟩))), (20, (.int .i64 (max bad 73))), (62, (.slice (some ⟨b56, 0, none⟩) m49 cap50)), (63, (.int .i64 ((m49 : Nat) : Int))), (64, (.int .i64 i)), (65, (.bool (decide (i < ((m49 : Nat) : Int))))), (22, (.pointer (some ⟨b57, 0, none⟩))), (21, (.int .i64 i)), (23, (.int .i64 (-2))), (24, (.int .i64 q58)), (25, (.int .i64 q71)), (92, (.bool ((decide (((-2) : Int) ≠ (-2))) || (decide (q58 ≠ q71))))), (103, (.bool ((decide (((nth out51 i).time) > 0)) && (decide (((-2) : Int) ≠ (-2))))))] [stb b3 57 [(.int .i64 (1 + (slow % 16))), (.int .i64 delay), (.int .i64 (store % 1001)), (.int .i64 now'74), (.int .i64 last'75), (.slice ao'77 m'79 cap'78)], row (.slice ao'77 m'79 cap'78) 67 2 (l'76.flatMap frE), stb b1 57 [(.int .i64 (1 + (slow % 16))), (.int .i64 delay), (.int .i64 (store % 1001)), (.int .i64 now'61), (.int .i64 last'62), (.slice ao'64 m'66 cap'65)], row (.slice ao'64 m'66 cap'65) 67 2 (l'63.flatMap frE), stb b57 47 [(.int .i64 ((nth out51 i).time)), (.int .i64 ((nth out51 i).vl)), (.int .i64 ((nth out51 i).size))], row (.slice (some ⟨b56, 0, none⟩) m49 cap50) 47 3 (out51.flatMap sentE)] 7 ?_ (fun _ => ?_)
          · by_cases hb85 : ((nth out51 i).time) > 0
            · refine WL.pin (i := 96) rfl (bT (decide_eq_true_iff) hb85) ?_
              refine WL.quiet (d := 97) rfl rfl rfl (q_move rfl) ?_
              refine WL.quiet (d := 98) rfl rfl rfl (q_fieldAddr fo_47_0 rfl rfl) ?_
              refine WL.quiet (d := 99) rfl rfl rfl (q_load1 oneT_3 rfl (rd_stb (.there (.there (.there (.there .here)))) rfl)) ?_
              refine WL.quiet (d := 100) rfl rfl rfl (q_sub rfl rfl (w64 (by omega))) ?_
              refine WL.callD (dd := 101) rfl rfl rfl (run_call (l := [.tmp 97, .tmp 100, .const (.int .i64 1)]) Try.call19 (.cons rfl (.cons rfl (.cons rfl .nil)))) (.cons (.there (.there .here)) (.cons (.there (.there .here)) .nil)) (fun w hw => lput_err (b := b1) (slow := (1 + (slow % 16))) (delay := delay) (store := (store % 1001)) (now := now'61) (last := last'62) (ao := ao'64) (m := m'66) (cap := cap'65) (l := l'63) (t := (((nth out51 i).time) - 1)) (size := 1) (w₀ := w) (by omega) (by omega) (hw.owns (.cons (.there (.there .here)) (.cons (.there (.there .here)) .nil)))) ?_
              refine WL.quiet (d := 102) rfl rfl rfl (q_neq rfl rfl) ?_
              refine WL.quiet (d := 103) rfl rfl rfl (q_pickT rfl rfl) ?_
              exact WL.cutEnd () trivial (.cons rfl (.cons rfl (.cons rfl (.cons rfl (.cons rfl (.cons rfl (.cons rfl (.cons rfl (.cons rfl (.cons rfl (.cons rfl (.cons rfl (.cons rfl (.cons (some_bool (and_r (bT (decide_eq_true_iff) hb85))) .nil)))))))))))))) (.cons (.there (.there .here)) (.cons (.there (.there .here)) (.cons .here (.cons .here (.cons .here (.cons .here .nil))))))
            · refine WL.pin (i := 96) rfl (bF (decide_eq_true_iff) hb85) ?_
              refine WL.skip rfl rfl rfl ?_
              refine WL.skip rfl rfl rfl ?_
              refine WL.skip rfl rfl rfl ?_
              refine WL.skip rfl rfl rfl ?_
              refine WL.skip rfl rfl rfl ?_
              refine WL.skip rfl rfl rfl ?_
              refine WL.quiet (d := 103) rfl rfl rfl (q_pickF rfl rfl) ?_
              exact WL.cutEnd () trivial (.cons rfl (.cons rfl (.cons rfl (.cons rfl (.cons rfl (.cons rfl (.cons rfl (.cons rfl (.cons rfl (.cons rfl (.cons rfl (.cons rfl (.cons rfl (.cons (some_bool (and_l (bF (decide_eq_true_iff) hb85))) .nil)))))))))))))) (.cons .here (.cons .here (.cons .here (.cons .here (.cons .here (.cons .here .nil))))))
          · skip
            refine WL.nil ?_
            refine WX.then ?_
            refine WC.cond rfl (fun h => absurd ((biff_and (decide_eq_true_iff) (decide_eq_true_iff)).1 h) (by omega)) (fun _ => ?_)
            refine WC.skip ?_
            refine WX.then ?_
            refine WC.seq ?_
            refine WC.draw (fun i => [].contains i) [] rfl ?_
            refine WD.pure (i := 0) (d := 104) (by kernel_rfl) rfl (by kernel_rfl) (by kernel_rfl) rfl rfl rfl (fun _ => q_move rfl) ?_
            refine WD.pure (i := 1) (d := 105) (by kernel_rfl) rfl (by kernel_rfl) (by kernel_rfl) rfl rfl rfl (fun _ => q_rem rfl rfl (by omega) (tmodp (by omega))) ?_
            refine WD.pure (i := 2) (d := 106) (by kernel_rfl) rfl (by kernel_rfl) (by kernel_rfl) rfl rfl rfl (fun _ => q_eql rfl rfl) ?_
            refine WD.pure (i := 3) (d := 107) (by kernel_rfl) rfl (by kernel_rfl) (by kernel_rfl) rfl rfl rfl (fun _ => q_move rfl) ?_
            refine WD.mid (fuel' := 0) [(16, (.pointer (some ⟨b1, 0, none⟩))), (18, (.pointer (some ⟨b3, 0, none⟩))), (20, (.int .i64 (max bad 73))), (62, (.slice (some ⟨b56, 0, none⟩) m49 cap50)), (63, (.int .i64 ((m49 : Nat) : Int))), (64, (.int .i64 i)), (65, (.bool (decide (i < ((m49 : Nat) : Int))))), (22, (.pointer (some ⟨b57, 0, none⟩))), (21, (.int .i64 i)), (23, (.int .i64 (-2))), (24, (.int .i64 q58)), (25, (.int .i64 q71)), (92, (.bool ((decide (((-2) : Int) ≠ (-2))) || (decide (q58 ≠ q71))))), (103, (.bool ((decide (((nth out51 i).time) > 0)) && (decide (((-2) : Int) ≠ (-2)))))), (104, (.int .i64 i)), (105, (.int .i64 (i % 3))), (106, (.bool (decide ((i % 3) = 0)))), (107, (.bool (decide ((i % 3) = 0)))), (117, (.bool ((decide ((i % 3) = 0)) && (decide ((sumF (fun x => decide (x.fin > max ((nth out51 i).time) now'61)) l'63) ≠ (sumF (fun x => decide (x.fin > max ((nth out51 i).time) now'74)) l'76))))))] (listedA 14 [13, 12, 11, 10, 9, 8, 7, 6, 5, 4, 3, 2, 1, 0]) ?_ (fun K87 => ?_)
            rotate_left
            · by_cases hb86 : (i % 3) = 0
              · refine WD.pin (i := 107) rfl (bT (decide_eq_true_iff) hb86) ?_
                refine WD.pure (i := 4) (d := 108) (by kernel_rfl) rfl (by kernel_rfl) (by kernel_rfl) rfl rfl rfl (fun _ => q_move rfl) ?_
                refine WD.pure (i := 5) (d := 109) (by kernel_rfl) rfl (by kernel_rfl) (by kernel_rfl) rfl rfl rfl (fun _ => q_fieldAddr fo_47_0 rfl rfl) ?_
                refine WD.quiet (i := 6) (d := 110) (by kernel_rfl) rfl (by kernel_rfl) (by kernel_rfl) rfl rfl rfl (q_load1 oneT_3 rfl (rd_stb (.there (.there (.there (.there .here)))) rfl)) ?_
                refine WD.enter (i := 7) (d := 111) (by kernel_rfl) rfl (by kernel_rfl) (by kernel_rfl) rfl rfl rfl (run_call (l := [.tmp 108, .tmp 110]) Try.call12 (.cons rfl (.cons rfl .nil))) (fun w hw => held_c (A := ⟨b1, 0, none⟩) (slow := (1 + (slow % 16))) (delay := delay) (store := (store % 1001)) (now := now'61) (last := last'62) (ao := ao'64) (m := m'66) (cap := cap'65) (l := l'63) (t := ((nth out51 i).time)) (w₀ := w) (hw.cellsStb .nil (.there (.there .here))) (hw.slpRow .nil (.there (.there (.there .here))) (fun _ _ => rfl) (by decide)) (by first | assumption | (simp; done)) (by first | omega | (simp; done)) (by omega)) ?_
                refine WD.pure (i := 8) (d := 112) (by kernel_rfl) rfl (by kernel_rfl) (by kernel_rfl) rfl rfl rfl (fun _ => q_move rfl) ?_
                refine WD.pure (i := 9) (d := 113) (by kernel_rfl) rfl (by kernel_rfl) (by kernel_rfl) rfl rfl rfl (fun _ => q_fieldAddr fo_47_0 rfl rfl) ?_
                refine WD.quiet (i := 10) (d := 114) (by kernel_rfl) rfl (by kernel_rfl) (by kernel_rfl) rfl rfl rfl (q_load1 oneT_3 rfl (rd_stb (.there (.there (.there (.there .here)))) rfl)) ?_
                refine WD.enter (i := 11) (d := 115) (by kernel_rfl) rfl (by kernel_rfl) (by kernel_rfl) rfl rfl rfl (run_call (l := [.tmp 112, .tmp 114]) Try.call12 (.cons rfl (.cons rfl .nil))) (fun w hw => held_c (A := ⟨b3, 0, none⟩) (slow := (1 + (slow % 16))) (delay := delay) (store := (store % 1001)) (now := now'74) (last := last'75) (ao := ao'77) (m := m'79) (cap := cap'78) (l := l'76) (t := ((nth out51 i).time)) (w₀ := w) (hw.cellsStb .nil .here) (hw.slpRow .nil (.there .here) (fun _ _ => rfl) (by decide)) (by first | assumption | (simp; done)) (by first | omega | (simp; done)) (by omega)) ?_
                refine WD.pure (i := 12) (d := 116) (by kernel_rfl) rfl (by kernel_rfl) (by kernel_rfl) rfl rfl rfl (fun _ => q_neq rfl rfl) ?_
                refine WD.pure (i := 13) (d := 117) (by kernel_rfl) rfl (by kernel_rfl) (by kernel_rfl) rfl rfl rfl (fun _ => q_pickT rfl rfl) ?_
                refine WD.restr ?_ K87
                exact (.cons rfl (.cons rfl (.cons rfl (.cons rfl (.cons rfl (.cons rfl (.cons rfl (.cons rfl (.cons rfl (.cons rfl (.cons rfl (.cons rfl (.cons rfl (.cons rfl (.cons rfl (.cons rfl (.cons rfl (.cons (some_bool (Eq.symm (bT (decide_eq_true_iff) hb86))) (.cons (some_bool (and_r (bT (decide_eq_true_iff) hb86))) .nil)))))))))))))))))))
              · refine WD.pin (i := 107) rfl (bF (decide_eq_true_iff) hb86) ?_
                refine WD.skip (i := 4) (d := 108) (by kernel_rfl) rfl (by kernel_rfl) (by kernel_rfl) rfl rfl rfl ?_
                refine WD.skip (i := 5) (d := 109) (by kernel_rfl) rfl (by kernel_rfl) (by kernel_rfl) rfl rfl rfl ?_
                refine WD.skip (i := 6) (d := 110) (by kernel_rfl) rfl (by kernel_rfl) (by kernel_rfl) rfl rfl rfl ?_
                refine WD.skip (i := 7) (d := 111) (by kernel_rfl) rfl (by kernel_rfl) (by kernel_rfl) rfl rfl rfl ?_
                refine WD.skip (i := 8) (d := 112) (by kernel_rfl) rfl (by kernel_rfl) (by kernel_rfl) rfl rfl rfl ?_
                refine WD.skip (i := 9) (d := 113) (by kernel_rfl) rfl (by kernel_rfl) (by kernel_rfl) rfl rfl rfl ?_
                refine WD.skip (i := 10) (d := 114) (by kernel_rfl) rfl (by kernel_rfl) (by kernel_rfl) rfl rfl rfl ?_
                refine WD.skip (i := 11) (d := 115) (by kernel_rfl) rfl (by kernel_rfl) (by kernel_rfl) rfl rfl rfl ?_
                refine WD.skip (i := 12) (d := 116) (by kernel_rfl) rfl (by kernel_rfl) (by kernel_rfl) rfl rfl rfl ?_
                refine WD.pure (i := 13) (d := 117) (by kernel_rfl) rfl (by kernel_rfl) (by kernel_rfl) rfl rfl rfl (fun _ => q_pickF rfl rfl) ?_
                refine WD.restr ?_ K87
                exact (.cons rfl (.cons rfl (.cons rfl (.cons rfl (.cons rfl (.cons rfl (.cons rfl (.cons rfl (.cons rfl (.cons rfl (.cons rfl (.cons rfl (.cons rfl (.cons rfl (.cons rfl (.cons rfl (.cons rfl (.cons (some_bool (Eq.symm (bF (decide_eq_true_iff) hb86))) (.cons (some_bool (and_l (bF (decide_eq_true_iff) hb86))) .nil)))))))))))))))))))
            refine WD.done (by kernel_rfl) ?_
            refine WX.then ?_
            refine WC.cond rfl (fun h => absurd ((biff_and (decide_eq_true_iff) (decide_eq_true_iff)).1 h) (by rintro ⟨_, hh⟩; exact hh (by rw [hs3, hs5]))) (fun _ => ?_)
            refine WC.skip ?_
            refine WX.blockNormal ?_
            refine WX.then ?_
            refine WC.region ?_
            refine WL.quiet (d := 118) rfl rfl rfl (q_add rfl rfl (w64 (by omega))) ?_
            refine WL.quiet (d := 64) rfl rfl rfl (q_move rfl) ?_
            refine WL.nil ?_
            exact WX.round (G := Int × Int × Int × (Option Addr) × Nat × Nat × (List Fr) × Int × Int × (Option Addr) × Nat × Nat × (List Fr)) ⟨(i + 1), now'61, last'62, ao'64, m'66, cap'65, l'63, now'74, last'75, ao'77, m'79, cap'78, l'76⟩ ⟨(by first | omega | (dsimp only; omega)), (by first | omega | (dsimp only; omega)), (by first | (dsimp only; exact ⟨by omega, fun hlt => by have := hov.two (i + 1) (by omega) hlt; rw [show i + 1 - 1 = i from by omega] at this; omega⟩) | (exact ⟨by omega, fun hlt => by have := hov.two (i + 1) (by omega) hlt; rw [show i + 1 - 1 = i from by omega] at this; omega⟩)), (by first | (dsimp only; omega) | (omega)), (by first | (dsimp only; exact hs4.symm) | (exact hs4.symm)), (by first | omega | (dsimp only; omega)), (by first | (dsimp only; exact hm1) | (exact hm1)), (by first | (dsimp only; exact hm2) | (exact hm2)), (by first | (dsimp only; omega) | (omega)), (by first | (dsimp only; exact hsz1) | (exact hsz1)), (by first | (dsimp only; exact hs5.symm) | (exact hs5.symm))⟩ (by first | omega | (dsimp only; omega)) (.cons rfl (.cons rfl (.cons rfl (.cons rfl (.cons rfl (.cons rfl .nil)))))) (.cons (.there .here) (.cons (.there (.there .here)) (.cons (.there (.there (.there .here))) (.cons .here (.cons .here .nil)))))
      · have hc55 : ¬ (i < ((m49 : Nat) : Int)) := biffF (decide_eq_true_iff) h; clear h
        refine WC.exit ?_
        refine WX.thenExit ?_
        refine WX.thenExit ?_
        refine WX.blockHit ?_
        refine WX.then ?_
        refine WC.seq ?_
        refine WC.region ?_
        refine WL.quiet (d := 119) rfl rfl rfl (q_move rfl) ?_
        refine WL.callD (dd := 120) rfl rfl rfl (run_call (l := [.tmp 119]) Try.call14 (.cons rfl .nil)) .nil (fun w hw => free_no (A := ⟨b1, 0, none⟩) (slow := (1 + (slow % 16))) (delay := delay) (store := (store % 1001)) (now := now) (last := last) (fr := (.slice ao m cap)) (w₀ := w) (hw.cellsStb .nil (.there (.there (.there (.there .here))))) (by omega)) ?_
        refine WL.quiet (d := 121) rfl rfl rfl (q_move rfl) ?_
        refine WL.callD (dd := 122) rfl rfl rfl (run_call (l := [.tmp 121]) Try.call14 (.cons rfl .nil)) .nil (fun w hw => free_no (A := ⟨b3, 0, none⟩) (slow := (1 + (slow % 16))) (delay := delay) (store := (store % 1001)) (now := nq) (last := lq) (fr := (.slice aoq mq capq)) (w₀ := w) (hw.cellsStb .nil (.there (.there (.there .here)))) (by omega)) ?_
        refine WL.quiet (d := 123) rfl rfl rfl (q_eql rfl rfl) ?_
        refine WL.quiet (d := 124) rfl rfl rfl (q_move rfl) ?_
        refine WL.cut0 True [(16, (.pointer (some ⟨b1, 0, none⟩))), (18, (.pointer (some ⟨b3, 0, none⟩))), (20, (.int .i64 (max bad 73))), (62, (.slice ao48 m49 cap50)), (63, (.int .i64 ((m49 : Nat) : Int))), (64, (.int .i64 i)), (65, (.bool (decide (i < ((m49 : Nat) : Int))))), (126, (.bool ((decide (last = lq)) && true)))] [row (.slice aoq mq capq) 67 2 (curq.flatMap frE), row (.slice ao m cap) 67 2 (cur.flatMap frE), row (.slice ao48 m49 cap50) 47 3 (out51.flatMap sentE), stb b3 57 [(.int .i64 (1 + (slow % 16))), (.int .i64 delay), (.int .i64 (store % 1001)), (.int .i64 nq), (.int .i64 lq), (.slice aoq mq capq)], stb b1 57 [(.int .i64 (1 + (slow % 16))), (.int .i64 delay), (.int .i64 (store % 1001)), (.int .i64 now), (.int .i64 last), (.slice ao m cap)]] 2 ?_ (fun _ => ?_)
        · by_cases hb88 : last = lq
          · refine WL.pin (i := 124) rfl (bT (decide_eq_true_iff) hb88) ?_
            refine WL.callD (dd := 125) rfl rfl rfl (run_call (l := []) Try.call11 .nil) .nil (fun w hw => awake_c  (w₀ := w) ) ?_
            refine WL.quiet (d := 126) rfl rfl rfl (q_pickT rfl rfl) ?_
            exact WL.cutEnd () trivial (.cons rfl (.cons rfl (.cons rfl (.cons rfl (.cons rfl (.cons rfl (.cons rfl (.cons (some_bool (and_r (bT (decide_eq_true_iff) hb88))) .nil)))))))) (.cons .here (.cons .here (.cons .here (.cons .here (.cons .here .nil)))))
          · refine WL.pin (i := 124) rfl (bF (decide_eq_true_iff) hb88) ?_
            refine WL.skip rfl rfl rfl ?_
            refine WL.quiet (d := 126) rfl rfl rfl (q_pickF rfl rfl) ?_
            exact WL.cutEnd () trivial (.cons rfl (.cons rfl (.cons rfl (.cons rfl (.cons rfl (.cons rfl (.cons rfl (.cons (some_bool (and_l (bF (decide_eq_true_iff) hb88))) .nil)))))))) (.cons .here (.cons .here (.cons .here (.cons .here (.cons .here .nil)))))
        · skip
          refine WL.quiet (d := 12) rfl rfl rfl (q_assign rfl) ?_
          refine WL.nil ?_
          refine WX.then ?_
          refine WC.ret ?_
          refine WX.bpRet Try.results6 (.tmp rfl .nil) (fun w hw => ?_)
          exact ⟨ret1 (vbool (by simp [hl])), (hw.sub .nil)⟩

def mkF (szs ens : List Int) : List Fr := List.zipWith Fr.mk szs ens
theorem mem_snoc {l : List Int} {x : Int} (h : ∀ y ∈ l, 1 ≤ y ∧ y ≤ 72) (hx : 1 ≤ x ∧ x ≤ 72) : ∀ y ∈ l ++ [x], 1 ≤ y ∧ y ≤ 72 := by
  intro y hy; rcases List.mem_append.1 hy with hy | hy
  · exact h y hy
  · simp at hy; subst hy; exact hx
theorem mkF_all : ∀ {szs ens : List Int} (h : ∀ y ∈ szs, 1 ≤ y ∧ y ≤ 72), ∀ x ∈ mkF szs ens, 1 ≤ x.size ∧ x.size ≤ 72
  | [], _, _ => by simp [mkF]
  | _ :: _, [], _ => by simp [mkF]
  | a :: szs, b :: ens, h => by
    intro x hx
    simp only [mkF, List.zipWith_cons_cons, List.mem_cons] at hx
    rcases hx with rfl | hx
    · exact h a (by simp)
    · exact mkF_all (szs := szs) (ens := ens) (fun y hy => h y (List.mem_cons_of_mem _ hy)) x hx
theorem mkF_len {szs ens : List Int} (h : szs.length = ens.length) : (mkF szs ens).length = ens.length := by simp [mkF, h]
theorem mkF_snoc {szs ens : List Int} (h : szs.length = ens.length) (a b : Int) : mkF (szs ++ [a]) (ens ++ [b]) = mkF szs ens ++ [⟨a, b⟩] := by
  simp [mkF, List.zipWith_append h]
theorem mkF_nth {szs ens : List Int} (h : szs.length = ens.length) {i : Int} (h0 : 0 ≤ i) (h1 : i < ens.length) : nth (mkF szs ens) i = ⟨nth szs i, nth ens i⟩ := by
  rw [← nth_lt h0 (by rw [mkF_len h]; exact h1), ← nth_lt (l := szs) h0 (by omega), ← nth_lt (l := ens) h0 h1]
  simp [mkF]
theorem sumF_filter (t : Int) (l : List Fr) : sumF (fun x => decide (x.fin > t)) (l.filter (fun x => !decide (x.fin ≤ t))) = sumF (fun x => decide (x.fin > t)) l := by
  induction l with
  | nil => rfl
  | cons x l ih =>
    by_cases h : x.fin ≤ t
    · rw [List.filter_cons_of_neg (by simp [h]), ih]
      simp only [sumF, List.map_cons, List.sum_cons]
      rw [if_neg (by simp; omega)]; omega
    · rw [List.filter_cons_of_pos (by simp [h])]
      simp only [sumF, List.map_cons, List.sum_cons] at ih ⊢
      rw [ih]
theorem filter_two {now t : Int} (h : now ≤ t) (l : List Fr) : (l.filter (fun x => !decide (x.fin ≤ now))).filter (fun x => !decide (x.fin ≤ t)) = l.filter (fun x => !decide (x.fin ≤ t)) := by
  rw [List.filter_filter]
  apply List.filter_congr
  intro x _
  by_cases h1 : x.fin ≤ t <;> by_cases h2 : x.fin ≤ now <;> simp [h1, h2]
  omega
theorem putR_order {k d m now last t size r er now' last' : Int} {cur l' : List Fr} {szs ens : List Int} (h : putR k d m now last cur t size = (r, er, now', last', l')) (hcur : cur = (mkF szs ens).filter (fun x => !decide (x.fin ≤ now)))
    (hlen : szs.length = ens.length) (hnt : now ≤ t ∧ t ≤ 1073741824) (hz : 1 ≤ size ∧ size ≤ 72) (hk : 1 ≤ k) (hd : 0 ≤ d) :
    now' = t ∧ ((sumF (fun x => decide (x.fin > t)) (mkF szs ens) + size > m ∧ er = 4 ∧ r = 0 ∧ last' = last ∧ l' = (mkF szs ens).filter (fun x => !decide (x.fin ≤ now')) ∧ sumF (fun x => decide (x.fin > max t now')) l' = sumF (fun x => decide (x.fin > t)) (mkF szs ens)) ∨
      (sumF (fun x => decide (x.fin > t)) (mkF szs ens) + size ≤ m ∧ er = 0 ∧ r = max (t + d) last + size * k ∧ last' = r ∧ l' = (mkF (szs ++ [size]) (ens ++ [r])).filter (fun x => !decide (x.fin ≤ now')) ∧ sumF (fun x => decide (x.fin > max t now')) l' = sumF (fun x => decide (x.fin > t)) (mkF szs ens) + size)) := by
  have hp : 0 < size * k := Int.mul_pos (by omega) (by omega)
  unfold putR at h
  rw [if_neg (by omega), hcur, filter_two hnt.1, show max t t = t from by omega, sumF_filter] at h
  split at h
  · simp only [Prod.mk.injEq] at h; obtain ⟨rfl, rfl, rfl, rfl, rfl⟩ := h
    exact ⟨rfl, .inl ⟨by omega, rfl, rfl, rfl, rfl, by rw [show max t t = t from by omega, sumF_filter]⟩⟩
  · simp only [Prod.mk.injEq] at h; obtain ⟨rfl, rfl, rfl, rfl, rfl⟩ := h
    refine ⟨rfl, .inr ⟨by omega, rfl, rfl, rfl, ?_, ?_⟩⟩
    · rw [mkF_snoc hlen, List.filter_append, List.filter_cons_of_pos (by simp; omega)]; rfl
    · rw [show max t t = t from by omega, sumF_snoc, sumF_filter, if_pos (by simp; omega)]

set_option maxHeartbeats 4000000 in
set_option maxRecDepth 20000 in
theorem order_law (aoS : Option Addr) (mS capS : Nat) (ss : List Int) (aoW : Option Addr) (mW capW : Nat) (ws : List Int) (slow delay store : Int) (w₀ : World)
    (hsS : SlP [] w₀ (.slice aoS mS capS) 1 u8P ss)
    (hsW : SlP [] w₀ (.slice aoW mW capW) 1 u8P ws)
    (hll : ss.length ≤ 9223372036854775807 ∧ ws.length ≤ 9223372036854775807)
    (hws : ∀ x ∈ ws, 0 ≤ x ∧ x ≤ 255)
    (hss : ∀ x ∈ ss, 0 ≤ x ∧ x ≤ 255)
    (hb : 0 ≤ slow ∧ slow ≤ 255 ∧ 0 ≤ delay ∧ delay ≤ 255 ∧ 0 ≤ store ∧ store ≤ 65535) :
    Calls Try.prog 4 #[(.slice aoS mS capS), (.slice aoW mW capW), (.int .u8 slow), (.int .u8 delay), (.int .u16 store)] w₀ fun e w' => e = .returned (.bool true) ∧ Hp [] w₀ w' [] := by
  have hok := frameL_ok (ss := ss) hws
  have hfl := frameL_len ss ws
  refine Calls.ofWC (vs := [(.slice aoS mS capS), (.slice aoW mW capW), (.int .u8 slow), (.int .u8 delay), (.int .u16 store)]) (pre := []) (env := [(0, (.slice aoS mS capS)), (1, (.slice aoW mW capW)), (2, (.int .u8 slow)), (3, (.int .u8 delay)), (4, (.int .u16 store))]) Try.func4 rfl Try.ntmps4 rfl (Hp.nil w₀ _) rfl ?_
  refine WC.seq ?_
  refine WC.region ?_
  refine WL.quiet (d := 10) rfl rfl rfl (q_assign rfl) ?_
  refine WL.nil ?_
  refine WX.then ?_
  refine WC.seq ?_
  refine WC.region ?_
  refine WL.quiet (d := 27) rfl rfl rfl (q_move rfl) ?_
  refine WL.quiet (d := 28) rfl rfl rfl (q_conv Try.underlying5 Try.underlying3 rfl (w64 (by omega))) ?_
  refine WL.quiet (d := 29) rfl rfl rfl (q_rem rfl rfl (by omega) (tmodp (by omega))) ?_
  refine WL.quiet (d := 30) rfl rfl rfl (q_add rfl rfl (w64 (by omega))) ?_
  refine WL.quiet (d := 31) rfl rfl rfl (q_move rfl) ?_
  refine WL.quiet (d := 32) rfl rfl rfl (q_conv Try.underlying5 Try.underlying3 rfl (w64 (by omega))) ?_
  refine WL.quiet (d := 33) rfl rfl rfl (q_move rfl) ?_
  refine WL.quiet (d := 34) rfl rfl rfl (q_conv Try.underlying43 Try.underlying3 rfl (w64 (by omega))) ?_
  refine WL.quiet (d := 35) rfl rfl rfl (q_rem rfl rfl (by omega) (tmodp (by omega))) ?_
  refine WL.quiet (d := 11) rfl rfl rfl (q_assign rfl) ?_
  refine WL.quiet (d := 12) rfl rfl rfl (q_assign rfl) ?_
  refine WL.quiet (d := 13) rfl rfl rfl (q_assign rfl) ?_
  refine WL.nil ?_
  refine WX.then ?_
  refine WC.seq ?_
  refine WC.region ?_
  refine WL.quiet (d := 37) rfl rfl rfl (q_move rfl) ?_
  refine WL.quiet (d := 38) rfl rfl rfl (q_move rfl) ?_
  refine WL.quiet (d := 39) rfl rfl rfl (q_move rfl) ?_
  refine WL.enter1 (dd := 40) rfl rfl rfl (run_call (l := [.tmp 37, .tmp 38, .tmp 39]) Try.call9 (.cons rfl (.cons rfl (.cons rfl .nil)))) .nil (fun w hw => new_ok (slow := (1 + (slow % 16))) (delay := delay) (store := (store % 1001)) (w₀ := w) (by omega)) ?_
  rintro b1 _
  refine WL.quiet (d := 36) rfl rfl rfl (q_move rfl) ?_
  refine WL.quiet (d := 41) rfl rfl rfl (q_extract rfl rfl) ?_
  refine WL.quiet (d := 42) rfl rfl rfl (q_extract rfl rfl) ?_
  refine WL.quiet (d := 14) rfl rfl rfl (q_assign rfl) ?_
  refine WL.quiet (d := 15) rfl rfl rfl (q_assign rfl) ?_
  refine WL.nil ?_
  refine WX.then ?_
  refine WC.seq ?_
  refine WC.seq ?_
  refine WC.region ?_
  refine WL.quiet (d := 43) rfl rfl rfl (q_move rfl) ?_
  refine WL.quiet (d := 44) rfl rfl rfl (q_neq rfl rfl) ?_
  refine WL.nil ?_
  refine WX.then ?_
  refine WC.cond rfl (fun h => absurd ((decide_eq_true_iff).1 h) (by omega)) (fun _ => ?_)
  refine WC.skip ?_
  refine WX.then ?_
  refine WC.seq ?_
  refine WC.region ?_
  refine WL.quiet (d := 16) rfl rfl rfl (q_assign rfl) ?_
  refine WL.nil ?_
  refine WX.then ?_
  refine WC.seq ?_
  refine WC.region ?_
  refine WL.quiet (d := 17) rfl rfl rfl (q_assign rfl) ?_
  refine WL.quiet (d := 18) rfl rfl rfl (q_assign rfl) ?_
  refine WL.quiet (d := 19) rfl rfl rfl (q_assign rfl) ?_
  refine WL.nil ?_
  refine WX.then ?_
  refine WC.seq ?_
  refine WC.seq ?_
  refine WC.region ?_
  refine WL.quiet (d := 45) rfl rfl rfl (q_move rfl) ?_
  refine WL.quiet (d := 46) rfl rfl rfl (q_move rfl) ?_
  refine WL.enter4 (dd := 47) rfl rfl rfl (run_call (l := [.tmp 45, .tmp 46]) Try.call18 (.cons rfl (.cons rfl .nil))) .nil (fun w hw => lfr_c (aoS := aoS) (mS := mS) (capS := capS) (ss := ss) (aoW := aoW) (mW := mW) (capW := capW) (ws := ws) (w₀ := w) (hsS.call hw .nil (by decide) (fun _ _ h => h)) (hsW.call hw .nil (by decide) (fun _ _ h => h)) (by omega)) ?_
  rintro ao3 m4 cap5 out6 ⟨hho7, hhm8⟩
  have hout := hho7
  have hom := hhm8
  have hov : SentsOk out6 := hout ▸ hok
  have hol : out6.length = min ss.length 40 := by rw [hout, hfl]
  have hob : ∀ i : Int, 0 ≤ i → i < out6.length → (nth out6 i).time ≤ 10200 := hout.symm ▸ frameL_bd (ss := ss) hws
  refine WL.quiet (d := 48) rfl rfl rfl (q_len Try.underlying44 rfl) ?_
  refine WL.quiet (d := 49) rfl rfl rfl (q_move rfl) ?_
  refine WL.nil ?_
  refine WX.then ?_
  refine WC.block ?_
  refine WC.nilRow 3 1 ?_
  refine WC.nilRow 3 1 ?_
  refine WC.nilRow 3 1 ?_
  refine WC.nilRow 67 2 ?_
  refine WC.loop20 (fun (i : Int) (now : Int) (last : Int) (pl : Int) (ao : Option Addr) (m : Nat) (cap : Nat) (cur : List Fr) (aoA : Option Addr) (mA : Nat) (capA : Nat) (aoZ : Option Addr) (mZ : Nat) (capZ : Nat) (aoE : Option Addr) (mE : Nat) (capE : Nat) (ats : List Int) (szs : List Int) (ens : List Int) => (0 ≤ i) ∧ (i ≤ out6.length) ∧ (0 ≤ now ∧ (i < out6.length → now ≤ (nth out6 i).time)) ∧ (pl = last) ∧ (0 ≤ pl ∧ pl ≤ 2147483648 + 1152 * i) ∧ (m = cur.length) ∧ (cur.length ≤ i) ∧ (∀ x ∈ cur, 1 ≤ x.size ∧ x.size ≤ 72) ∧ (mA = ats.length ∧ mZ = szs.length ∧ mE = ens.length) ∧ (szs.length = ens.length) ∧ (ats.length = ens.length) ∧ (ens.length ≤ i) ∧ (cur = (mkF szs ens).filter (fun x => !decide (x.fin ≤ now))) ∧ (∀ x ∈ szs, 1 ≤ x ∧ x ≤ 72)) (fun (i : Int) (now : Int) (last : Int) (pl : Int) (ao : Option Addr) (m : Nat) (cap : Nat) (cur : List Fr) (aoA : Option Addr) (mA : Nat) (capA : Nat) (aoZ : Option Addr) (mZ : Nat) (capZ : Nat) (aoE : Option Addr) (mE : Nat) (capE : Nat) (ats : List Int) (szs : List Int) (ens : List Int) => [(11, (.int .i64 (1 + (slow % 16)))), (12, (.int .i64 delay)), (13, (.int .i64 (store % 1001))), (14, (.pointer (some ⟨b1, 0, none⟩))), (47, (.slice ao3 m4 cap5)), (48, (.int .i64 ((m4 : Nat) : Int))), (49, (.int .i64 i)), (16, (.int .i64 last)), (17, (.slice aoA mA capA)), (18, (.slice aoZ mZ capZ)), (19, (.slice aoE mE capE))]) (fun (i : Int) (now : Int) (last : Int) (pl : Int) (ao : Option Addr) (m : Nat) (cap : Nat) (cur : List Fr) (aoA : Option Addr) (mA : Nat) (capA : Nat) (aoZ : Option Addr) (mZ : Nat) (capZ : Nat) (aoE : Option Addr) (mE : Nat) (capE : Nat) (ats : List Int) (szs : List Int) (ens : List Int) => [row (.slice ao m cap) 67 2 (cur.flatMap frE), row (.slice aoE mE capE) 3 1 (ens.flatMap intE), row (.slice aoZ mZ capZ) 3 1 (szs.flatMap intE), row (.slice aoA mA capA) 3 1 (ats.flatMap intE), row (.slice ao3 m4 cap5) 47 3 (out6.flatMap sentE), stb b1 57 [(.int .i64 (1 + (slow % 16))), (.int .i64 delay), (.int .i64 (store % 1001)), (.int .i64 now), (.int .i64 pl), (.slice ao m cap)]]) (fun (i : Int) (now : Int) (last : Int) (pl : Int) (ao : Option Addr) (m : Nat) (cap : Nat) (cur : List Fr) (aoA : Option Addr) (mA : Nat) (capA : Nat) (aoZ : Option Addr) (mZ : Nat) (capZ : Nat) (aoE : Option Addr) (mE : Nat) (capE : Nat) (ats : List Int) (szs : List Int) (ens : List Int) => (out6.length - i.toNat)) ⟨0, 0, 0, 0, none, 0, 0, [], none, 0, 0, none, 0, 0, none, 0, 0, [], [], []⟩ ⟨(by first | omega | (dsimp only; omega)), (by first | omega | (dsimp only; omega)), (by first | (dsimp only; exact ⟨by omega, fun hlt => (hov.one _ (by omega) hlt).1⟩) | (exact ⟨by omega, fun hlt => (hov.one _ (by omega) hlt).1⟩)), (by first | (dsimp only; rfl) | (rfl)), (by first | omega | (dsimp only; omega)), (by first | (dsimp only; rfl) | (rfl)), (by first | (dsimp only; simp) | (simp)), (by first | (dsimp only; simp) | (simp)), (by first | (dsimp only; simp) | (simp)), (by first | (dsimp only; rfl) | (rfl)), (by first | (dsimp only; rfl) | (rfl)), (by first | (dsimp only; simp) | (simp)), (by first | (dsimp only; rfl) | (rfl)), (by first | (dsimp only; simp) | (simp))⟩ (.cons rfl (.cons rfl (.cons rfl (.cons rfl (.cons rfl (.cons rfl (.cons rfl (.cons rfl (.cons rfl (.cons rfl (.cons rfl .nil))))))))))) (.cons .here (.cons .here (.cons .here (.cons .here (.cons .here (.cons .here .nil)))))) ?_
  rintro i now last pl ao m cap cur aoA mA capA aoZ mZ capZ aoE mE capE ats szs ens ⟨h0, h1, hn, hpl, hlb, hm, hcl, hsz, hmm, hlen, hlea, hel, hcur, hz⟩
  have h3 := hov.one i h0
  have hall : ∀ x ∈ mkF szs ens, 1 ≤ x.size ∧ x.size ≤ 72 := mkF_all hz
  refine WC.seq ?_
  refine WC.region ?_
  refine WL.quiet (d := 50) rfl rfl rfl (q_lss rfl rfl) ?_
  refine WL.nil ?_
  refine WX.then ?_
  refine WC.seq ?_
  refine WC.cond rfl (fun h => ?_) (fun h => ?_)
  · have hc10 : i < ((m4 : Nat) : Int) := ((decide_eq_true_iff)).1 h; clear h
    have h3 := h3 (by omega)
    have hob := hob i h0 (by omega)
    have hn := hn.2 (by omega)
    have hmu := mul_bd (a := (nth out6 i).size) (b := 1 + slow % 16) (A := 72) (B := 16) (by omega) (by omega) (by omega) (by omega)
    refine WC.skip ?_
    refine WX.then ?_
    refine WC.seq ?_
    refine WC.block ?_
    refine WC.seq ?_
    refine WC.region ?_
    refine WL.know (fun w hw => Hp.expose (.there (.there (.there (.there .here)))) hw (by omega)) ?_
    rintro ⟨b11, rfl⟩
    refine WL.quiet (d := 51) rfl rfl rfl (q_indexAddr elT_44 rfl rfl (by omega) (by omega) rowAdd) ?_
    refine WL.quiet (d := 52) rfl rfl rfl (q_loadA (cs := (sentE (nth out6 i))) aggT_47 rfl rfl (rd_rows (.there (.there (.there (.there .here)))) (flat_rd (enc := sentE) (l := out6) (sz := 3) (fun _ => rfl) (by omega) (by omega)))) ?_
    refine WL.new (dd := 21) rfl rfl rfl (e_alloc (cs := [(.int .i64 0), (.int .i64 0), (.int .i64 0)]) zeroT_47 rfl) ?_
    intro b12 _
    refine WL.eff0 rfl rfl (e_store (vs := (sentE (nth out6 i))) (ds := [(.int .i64 ((nth out6 i).time)), (.int .i64 ((nth out6 i).vl)), (.int .i64 ((nth out6 i).size))]) sizT_47 rfl rfl rfl rfl (oc_cons rfl (oc_cons rfl (oc_cons rfl oc_nil))) .here (Nat.le_of_ble_eq_true rfl) rfl) ?_
    refine WL.nil ?_
    refine WX.then ?_
    refine WC.seq ?_
    refine WC.region ?_
    refine WL.quiet (d := 22) rfl rfl rfl (q_assign rfl) ?_
    refine WL.nil ?_
    refine WX.then ?_
    refine WC.seq ?_
    refine WC.seq ?_
    refine WC.region ?_
    refine WL.quiet (d := 53) rfl rfl rfl (q_move rfl) ?_
    refine WL.quiet (d := 54) rfl rfl rfl (q_len Try.underlying27 rfl) ?_
    refine WL.quiet (d := 55) rfl rfl rfl (q_move rfl) ?_
    refine WL.nil ?_
    refine WX.then ?_
    refine WC.block ?_
    refine WC.loop2 (fun (j : Int) (acc : Int) => (0 ≤ j) ∧ (j ≤ ens.length) ∧ (acc = sumF (fun x => decide (x.fin > (nth out6 i).time)) ((mkF szs ens).take j.toNat))) (fun (j : Int) (acc : Int) => [(11, (.int .i64 (1 + (slow % 16)))), (12, (.int .i64 delay)), (13, (.int .i64 (store % 1001))), (14, (.pointer (some ⟨b1, 0, none⟩))), (47, (.slice (some ⟨b11, 0, none⟩) m4 cap5)), (48, (.int .i64 ((m4 : Nat) : Int))), (49, (.int .i64 i)), (16, (.int .i64 last)), (17, (.slice aoA mA capA)), (18, (.slice aoZ mZ capZ)), (19, (.slice aoE mE capE)), (21, (.pointer (some ⟨b12, 0, none⟩))), (54, (.int .i64 ((mE : Nat) : Int))), (55, (.int .i64 j)), (22, (.int .i64 acc))]) (fun (j : Int) (acc : Int) => [stb b12 47 [(.int .i64 ((nth out6 i).time)), (.int .i64 ((nth out6 i).vl)), (.int .i64 ((nth out6 i).size))], row (.slice ao m cap) 67 2 (cur.flatMap frE), row (.slice aoE mE capE) 3 1 (ens.flatMap intE), row (.slice aoZ mZ capZ) 3 1 (szs.flatMap intE), row (.slice aoA mA capA) 3 1 (ats.flatMap intE), row (.slice (some ⟨b11, 0, none⟩) m4 cap5) 47 3 (out6.flatMap sentE), stb b1 57 [(.int .i64 (1 + (slow % 16))), (.int .i64 delay), (.int .i64 (store % 1001)), (.int .i64 now), (.int .i64 pl), (.slice ao m cap)]]) (fun (j : Int) (acc : Int) => (ens.length - j.toNat)) ⟨0, 0⟩ ⟨(by first | omega | (dsimp only; omega)), (by first | omega | (dsimp only; omega)), (by first | (dsimp only; simp [sumF]) | (simp [sumF]))⟩ (.cons rfl (.cons rfl (.cons rfl (.cons rfl (.cons rfl (.cons rfl (.cons rfl (.cons rfl (.cons rfl (.cons rfl (.cons rfl (.cons rfl (.cons rfl (.cons rfl (.cons rfl .nil))))))))))))))) (.cons .here (.cons .here (.cons .here (.cons .here (.cons .here (.cons .here (.cons .here .nil))))))) ?_
    rintro j acc ⟨hj0, hj1, hacc⟩
    have hbd := sumF_bd (fun x => decide (x.fin > (nth out6 i).time)) ((mkF szs ens).take j.toNat) (fun x hx => hall x (List.mem_of_mem_take hx))
    have hbl : ((mkF szs ens).take j.toNat).length ≤ ens.length := by rw [List.length_take, mkF_len hlen]; omega
    have hzj : j < ens.length → 1 ≤ nth szs j ∧ nth szs j ≤ 72 := fun h => hz _ (nth_mem hj0 (by omega))
    refine WC.seq ?_
    refine WC.region ?_
    refine WL.quiet (d := 56) rfl rfl rfl (q_lss rfl rfl) ?_
    refine WL.nil ?_
    refine WX.then ?_
    refine WC.seq ?_
    refine WC.cond rfl (fun h => ?_) (fun h => ?_)
    · have hc13 : j < ((mE : Nat) : Int) := ((decide_eq_true_iff)).1 h; clear h
      refine WC.skip ?_
      refine WX.then ?_
      refine WC.seq ?_
      refine WC.block ?_
      refine WC.seq ?_
      refine WC.region ?_
      refine WL.quiet (d := 57) rfl rfl rfl (q_move rfl) ?_
      refine WL.quiet (d := 23) rfl rfl rfl (q_assign rfl) ?_
      refine WL.nil ?_
      refine WX.then ?_
      refine WC.seq ?_
      refine WC.draw (fun i => [].contains i) [] rfl ?_
      refine WD.pure (i := 0) (d := 58) (by kernel_rfl) rfl (by kernel_rfl) (by kernel_rfl) rfl rfl rfl (fun _ => q_move rfl) ?_
      refine WD.pure (i := 1) (d := 59) (by kernel_rfl) rfl (by kernel_rfl) (by kernel_rfl) rfl rfl rfl (fun _ => q_move rfl) ?_
      refine WD.know (fun w hw => Hp.expose (.there (.there .here)) hw (by omega)) ?_
      rintro ⟨b14, rfl⟩
      refine WD.pure (i := 2) (d := 60) (by kernel_rfl) rfl (by kernel_rfl) (by kernel_rfl) rfl rfl rfl (fun _ => q_indexAddr elT_27 rfl rfl (by omega) (by omega) rowAdd) ?_
      refine WD.quiet (i := 3) (d := 61) (by kernel_rfl) rfl (by kernel_rfl) (by kernel_rfl) rfl rfl rfl (q_load1 oneT_3 rfl (rd_row (.there (.there .here)) ((flat_rd (enc := intE) (l := ens) (sz := 1) (fun _ => rfl) (by omega) (by omega)) 0 _ rfl))) ?_
      refine WD.pure (i := 4) (d := 62) (by kernel_rfl) rfl (by kernel_rfl) (by kernel_rfl) rfl rfl rfl (fun _ => q_fieldAddr fo_47_0 rfl rfl) ?_
      refine WD.quiet (i := 5) (d := 63) (by kernel_rfl) rfl (by kernel_rfl) (by kernel_rfl) rfl rfl rfl (q_load1 oneT_3 rfl (rd_stb .here rfl)) ?_
      refine WD.pure (i := 6) (d := 64) (by kernel_rfl) rfl (by kernel_rfl) (by kernel_rfl) rfl rfl rfl (fun _ => q_gtr rfl rfl) ?_
      refine WD.done (by kernel_rfl) ?_
      refine WX.then ?_
      refine WC.cond rfl (fun h => ?_) (fun h => ?_)
      · have hc15 : (nth ens j) > ((nth out6 i).time) := ((decide_eq_true_iff)).1 h; clear h
        refine WC.region ?_
        refine WL.quiet (d := 65) rfl rfl rfl (q_move rfl) ?_
        refine WL.quiet (d := 66) rfl rfl rfl (q_move rfl) ?_
        refine WL.quiet (d := 67) rfl rfl rfl (q_move rfl) ?_
        refine WL.know (fun w hw => Hp.expose (.there (.there (.there .here))) hw (by omega)) ?_
        rintro ⟨b16, rfl⟩
        refine WL.quiet (d := 68) rfl rfl rfl (q_indexAddr elT_27 rfl rfl (by omega) (by omega) rowAdd) ?_
        refine WL.quiet (d := 69) rfl rfl rfl (q_load1 oneT_3 rfl (rd_row (.there (.there (.there .here))) ((flat_rd (enc := intE) (l := szs) (sz := 1) (fun _ => rfl) (by omega) (by omega)) 0 _ rfl))) ?_
        refine WL.quiet (d := 70) rfl rfl rfl (q_add rfl rfl (w64 (by omega))) ?_
        refine WL.quiet (d := 22) rfl rfl rfl (q_assign rfl) ?_
        refine WL.nil ?_
        refine WX.blockNormal ?_
        refine WX.then ?_
        refine WC.region ?_
        refine WL.quiet (d := 71) rfl rfl rfl (q_add rfl rfl (w64 (by omega))) ?_
        refine WL.quiet (d := 55) rfl rfl rfl (q_move rfl) ?_
        refine WL.nil ?_
        exact WX.round (G := Int × Int) ⟨(j + 1), (acc + (nth szs j))⟩ ⟨(by first | omega | (dsimp only; omega)), (by first | omega | (dsimp only; omega)), (by first | (dsimp only; rw [sumF_step _ _ hj0 (by rw [mkF_len hlen]; omega), hacc, mkF_nth hlen hj0 (by omega)]; simp only [decide_eq_true_eq]; first | (rw [if_pos ‹_›]; done) | (rw [if_neg ‹_›]; omega)) | (rw [sumF_step _ _ hj0 (by rw [mkF_len hlen]; omega), hacc, mkF_nth hlen hj0 (by omega)]; simp only [decide_eq_true_eq]; first | (rw [if_pos ‹_›]; done) | (rw [if_neg ‹_›]; omega)))⟩ (by first | omega | (dsimp only; omega)) (.cons rfl (.cons rfl (.cons rfl (.cons rfl (.cons rfl (.cons rfl (.cons rfl (.cons rfl (.cons rfl (.cons rfl (.cons rfl (.cons rfl (.cons rfl (.cons rfl (.cons rfl .nil))))))))))))))) (.cons .here (.cons .here (.cons .here (.cons .here (.cons .here (.cons .here (.cons .here .nil)))))))
      · have hc15 : ¬ ((nth ens j) > ((nth out6 i).time)) := biffF (decide_eq_true_iff) h; clear h
        refine WC.skip ?_
        refine WX.blockNormal ?_
        refine WX.then ?_
        refine WC.region ?_
        refine WL.quiet (d := 71) rfl rfl rfl (q_add rfl rfl (w64 (by omega))) ?_
        refine WL.quiet (d := 55) rfl rfl rfl (q_move rfl) ?_
        refine WL.nil ?_
        exact WX.round (G := Int × Int) ⟨(j + 1), acc⟩ ⟨(by first | omega | (dsimp only; omega)), (by first | omega | (dsimp only; omega)), (by first | (dsimp only; rw [sumF_step _ _ hj0 (by rw [mkF_len hlen]; omega), hacc, mkF_nth hlen hj0 (by omega)]; simp only [decide_eq_true_eq]; first | (rw [if_pos ‹_›]; done) | (rw [if_neg ‹_›]; omega)) | (rw [sumF_step _ _ hj0 (by rw [mkF_len hlen]; omega), hacc, mkF_nth hlen hj0 (by omega)]; simp only [decide_eq_true_eq]; first | (rw [if_pos ‹_›]; done) | (rw [if_neg ‹_›]; omega)))⟩ (by first | omega | (dsimp only; omega)) (.cons rfl (.cons rfl (.cons rfl (.cons rfl (.cons rfl (.cons rfl (.cons rfl (.cons rfl (.cons rfl (.cons rfl (.cons rfl (.cons rfl (.cons rfl (.cons rfl (.cons rfl .nil))))))))))))))) (.cons .here (.cons .here (.cons .here (.cons .here (.cons .here (.cons .here (.cons .here .nil)))))))
    · have hc13 : ¬ (j < ((mE : Nat) : Int)) := biffF (decide_eq_true_iff) h; clear h
      refine WC.exit ?_
      refine WX.thenExit ?_
      refine WX.thenExit ?_
      refine WX.blockHit ?_
      refine WX.then ?_
      refine WC.seq ?_
      refine WC.region ?_
      refine WL.quiet (d := 73) rfl rfl rfl (q_move rfl) ?_
      refine WL.quiet (d := 74) rfl rfl rfl (q_fieldAddr fo_47_0 rfl rfl) ?_
      refine WL.quiet (d := 75) rfl rfl rfl (q_load1 oneT_3 rfl (rd_stb .here rfl)) ?_
      refine WL.quiet (d := 76) rfl rfl rfl (q_fieldAddr fo_47_2 rfl rfl) ?_
      refine WL.quiet (d := 77) rfl rfl rfl (q_load1 oneT_3 rfl (rd_stb .here rfl)) ?_
      refine WL.enter8 (dd := 78) rfl rfl rfl (run_call (l := [.tmp 73, .tmp 75, .tmp 77]) Try.call16 (.cons rfl (.cons rfl (.cons rfl .nil)))) (.cons (.there (.there (.there (.there (.there (.there .here)))))) (.cons (.there .here) .nil)) (fun w hw => put_c (b := b1) (slow := (1 + (slow % 16))) (delay := delay) (store := (store % 1001)) (now := now) (last := pl) (ao := ao) (m := m) (cap := cap) (l := cur) (t := ((nth out6 i).time)) (size := ((nth out6 i).size)) (w₀ := w) (by first | omega | (simp; done)) (by first | assumption | (simp; done)) (by first | omega | (simp; done)) (by omega) (hw.owns (.cons (.there (.there (.there (.there (.there (.there .here)))))) (.cons (.there .here) .nil)))) ?_
      rintro r17 er18 now'19 last'20 l'21 ao'22 cap'23 m'24 ⟨hhr25, hhm26, hhe27⟩
      have hr1 := hhr25
      have hm1 := hhm26
      have hi := putR_inv hr1 hsz (by omega)
      have hsz1 := hi.1
      have hcl1 := hi.2.1
      have hlb1 := hi.2.2.2.2.1
      have hll1 : l'21.length ≤ 1099511627776 := by omega
      have ho := putR_order hr1 hcur hlen ⟨hn, h3.2.1⟩ h3.2.2 (by omega) (by omega)
      obtain ⟨ho0, ho⟩ := ho
      have hacc1 : acc = sumF (fun x => decide (x.fin > (nth out6 i).time)) (mkF szs ens) := by rw [hacc, List.take_of_length_le (by rw [mkF_len hlen]; omega)]
      rw [← hacc1] at ho
      have hbd := sumF_bd (fun x => decide (x.fin > (nth out6 i).time)) (mkF szs ens) hall
      rw [← hacc1, mkF_len hlen] at hbd
      refine WL.quiet (d := 72) rfl rfl rfl (q_move rfl) ?_
      refine WL.quiet (d := 79) rfl rfl rfl (q_extract rfl rfl) ?_
      refine WL.quiet (d := 80) rfl rfl rfl (q_extract rfl rfl) ?_
      refine WL.quiet (d := 24) rfl rfl rfl (q_assign rfl) ?_
      refine WL.quiet (d := 25) rfl rfl rfl (q_assign rfl) ?_
      refine WL.nil ?_
      refine WX.then ?_
      refine WC.seq ?_
      refine WC.seq ?_
      refine WC.region ?_
      refine WL.quiet (d := 81) rfl rfl rfl (q_move rfl) ?_
      refine WL.quiet (d := 82) rfl rfl rfl (q_fieldAddr fo_47_2 rfl rfl) ?_
      refine WL.quiet (d := 83) rfl rfl rfl (q_load1 oneT_3 rfl (rd_stb (.there (.there .here)) rfl)) ?_
      refine WL.quiet (d := 84) rfl rfl rfl (q_add rfl rfl (w64 (by omega))) ?_
      refine WL.quiet (d := 85) rfl rfl rfl (q_move rfl) ?_
      refine WL.quiet (d := 86) rfl rfl rfl (q_gtr rfl rfl) ?_
      refine WL.nil ?_
      refine WX.then ?_
      refine WC.cond rfl (fun h => ?_) (fun h => ?_)
      · have hc28 : (acc + ((nth out6 i).size)) > (store % 1001) := ((decide_eq_true_iff)).1 h; clear h
        obtain ⟨ho1, ho2, ho3, ho4, ho5, ho6⟩ := ho.resolve_right (by omega)
        refine WC.seq ?_
        refine WC.seq ?_
        refine WC.region ?_
        refine WL.quiet (d := 87) rfl rfl rfl (q_move rfl) ?_
        refine WL.quiet (d := 88) rfl rfl rfl (q_neq rfl rfl) ?_
        refine WL.quiet (d := 89) rfl rfl rfl (q_move rfl) ?_
        refine WL.cut0 True [(11, (.int .i64 (1 + (slow % 16)))), (12, (.int .i64 delay)), (13, (.int .i64 (store % 1001))), (14, (.pointer (some ⟨b1, 0, none⟩))), (47, (.slice (some ⟨b11, 0, none⟩) m4 cap5)), (48, (.int .i64 ((m4 : Nat) : Int))), (49, (.int .i64 i)), (16, (.int .i64 last)), (17, (.slice aoA mA capA)), (18, (.slice aoZ mZ capZ)), (19, (.slice aoE mE capE)), (21, (.pointer (some ⟨b12, 0, none⟩))), (54, (.int .i64 ((mE : Nat) : Int))), (55, (.int .i64 j)), (22, (.int .i64 acc)), (56, (.bool (decide (j < ((mE : Nat) : Int))))), (24, (.int .i64 r17)), (25, (.int .i64 er18)), (86, (.bool (decide ((acc + ((nth out6 i).size)) > (store % 1001))))), (92, (.bool ((decide (er18 ≠ 4)) || (decide (r17 ≠ 0)))))] [stb b1 57 [(.int .i64 (1 + (slow % 16))), (.int .i64 delay), (.int .i64 (store % 1001)), (.int .i64 now'19), (.int .i64 last'20), (.slice ao'22 m'24 cap'23)], row (.slice ao'22 m'24 cap'23) 67 2 (l'21.flatMap frE), stb b12 47 [(.int .i64 ((nth out6 i).time)), (.int .i64 ((nth out6 i).vl)), (.int .i64 ((nth out6 i).size))], row (.slice aoE mE capE) 3 1 (ens.flatMap intE), row (.slice aoZ mZ capZ) 3 1 (szs.flatMap intE), row (.slice aoA mA capA) 3 1 (ats.flatMap intE), row (.slice (some ⟨b11, 0, none⟩) m4 cap5) 47 3 (out6.flatMap sentE)] 3 ?_ (fun _ => ?_)
        · by_cases hb29 : er18 ≠ 4
          · refine WL.pin (i := 89) rfl (bT (decide_eq_true_iff) hb29) ?_
            refine WL.skip rfl rfl rfl ?_
            refine WL.skip rfl rfl rfl ?_
            refine WL.quiet (d := 92) rfl rfl rfl (q_pickT rfl rfl) ?_
            exact WL.cutEnd () trivial (.cons rfl (.cons rfl (.cons rfl (.cons rfl (.cons rfl (.cons rfl (.cons rfl (.cons rfl (.cons rfl (.cons rfl (.cons rfl (.cons rfl (.cons rfl (.cons rfl (.cons rfl (.cons rfl (.cons rfl (.cons rfl (.cons rfl (.cons (some_bool (or_l (bT (decide_eq_true_iff) hb29))) .nil)))))))))))))))))))) (.cons .here (.cons .here (.cons .here (.cons .here (.cons .here (.cons .here (.cons .here .nil)))))))
          · refine WL.pin (i := 89) rfl (bF (decide_eq_true_iff) hb29) ?_
            refine WL.quiet (d := 90) rfl rfl rfl (q_move rfl) ?_
            refine WL.quiet (d := 91) rfl rfl rfl (q_neq rfl rfl) ?_
            refine WL.quiet (d := 92) rfl rfl rfl (q_pickF rfl rfl) ?_
            exact WL.cutEnd () trivial (.cons rfl (.cons rfl (.cons rfl (.cons rfl (.cons rfl (.cons rfl (.cons rfl (.cons rfl (.cons rfl (.cons rfl (.cons rfl (.cons rfl (.cons rfl (.cons rfl (.cons rfl (.cons rfl (.cons rfl (.cons rfl (.cons rfl (.cons (some_bool (or_r (bF (decide_eq_true_iff) hb29))) .nil)))))))))))))))))))) (.cons .here (.cons .here (.cons .here (.cons .here (.cons .here (.cons .here (.cons .here .nil)))))))
        · skip
          refine WL.quiet (d := 93) rfl rfl rfl (q_move rfl) ?_
          refine WL.cut0 True [(11, (.int .i64 (1 + (slow % 16)))), (12, (.int .i64 delay)), (13, (.int .i64 (store % 1001))), (14, (.pointer (some ⟨b1, 0, none⟩))), (47, (.slice (some ⟨b11, 0, none⟩) m4 cap5)), (48, (.int .i64 ((m4 : Nat) : Int))), (49, (.int .i64 i)), (16, (.int .i64 last)), (17, (.slice aoA mA capA)), (18, (.slice aoZ mZ capZ)), (19, (.slice aoE mE capE)), (21, (.pointer (some ⟨b12, 0, none⟩))), (54, (.int .i64 ((mE : Nat) : Int))), (55, (.int .i64 j)), (22, (.int .i64 acc)), (56, (.bool (decide (j < ((mE : Nat) : Int))))), (24, (.int .i64 r17)), (25, (.int .i64 er18)), (86, (.bool (decide ((acc + ((nth out6 i).size)) > (store % 1001))))), (100, (.bool (((decide (er18 ≠ 4)) || (decide (r17 ≠ 0))) || (decide ((sumF (fun x => decide (x.fin > max ((nth out6 i).time) now'19)) l'21) ≠ acc)))))] [stb b1 57 [(.int .i64 (1 + (slow % 16))), (.int .i64 delay), (.int .i64 (store % 1001)), (.int .i64 now'19), (.int .i64 last'20), (.slice ao'22 m'24 cap'23)], row (.slice ao'22 m'24 cap'23) 67 2 (l'21.flatMap frE), stb b12 47 [(.int .i64 ((nth out6 i).time)), (.int .i64 ((nth out6 i).vl)), (.int .i64 ((nth out6 i).size))], row (.slice aoE mE capE) 3 1 (ens.flatMap intE), row (.slice aoZ mZ capZ) 3 1 (szs.flatMap intE), row (.slice aoA mA capA) 3 1 (ats.flatMap intE), row (.slice (some ⟨b11, 0, none⟩) m4 cap5) 47 3 (out6.flatMap sentE)] 7 ?_ (fun _ => ?_)
          · by_cases hb30 : (er18 ≠ 4) ∨ (r17 ≠ 0)
            · refine WL.pin (i := 93) rfl (bT (biff_or (decide_eq_true_iff) (decide_eq_true_iff)) hb30) ?_
              refine WL.skip rfl rfl rfl ?_
              refine WL.skip rfl rfl rfl ?_
              refine WL.skip rfl rfl rfl ?_
              refine WL.skip rfl rfl rfl ?_
              refine WL.skip rfl rfl rfl ?_
              refine WL.skip rfl rfl rfl ?_
              refine WL.quiet (d := 100) rfl rfl rfl (q_pickT rfl rfl) ?_
              exact WL.cutEnd () trivial (.cons rfl (.cons rfl (.cons rfl (.cons rfl (.cons rfl (.cons rfl (.cons rfl (.cons rfl (.cons rfl (.cons rfl (.cons rfl (.cons rfl (.cons rfl (.cons rfl (.cons rfl (.cons rfl (.cons rfl (.cons rfl (.cons rfl (.cons (some_bool (or_l (bT (biff_or (decide_eq_true_iff) (decide_eq_true_iff)) hb30))) .nil)))))))))))))))))))) (.cons .here (.cons .here (.cons .here (.cons .here (.cons .here (.cons .here (.cons .here .nil)))))))
            · refine WL.pin (i := 93) rfl (bF (biff_or (decide_eq_true_iff) (decide_eq_true_iff)) hb30) ?_
              refine WL.quiet (d := 94) rfl rfl rfl (q_move rfl) ?_
              refine WL.quiet (d := 95) rfl rfl rfl (q_fieldAddr fo_47_0 rfl rfl) ?_
              refine WL.quiet (d := 96) rfl rfl rfl (q_load1 oneT_3 rfl (rd_stb (.there (.there .here)) rfl)) ?_
              refine WL.callD (dd := 97) rfl rfl rfl (run_call (l := [.tmp 94, .tmp 96]) Try.call12 (.cons rfl (.cons rfl .nil))) .nil (fun w hw => held_c (A := ⟨b1, 0, none⟩) (slow := (1 + (slow % 16))) (delay := delay) (store := (store % 1001)) (now := now'19) (last := last'20) (ao := ao'22) (m := m'24) (cap := cap'23) (l := l'21) (t := ((nth out6 i).time)) (w₀ := w) (hw.cellsStb .nil .here) (hw.slpRow .nil (.there .here) (fun _ _ => rfl) (by decide)) (by first | assumption | (simp; done)) (by first | omega | (simp; done)) (by omega)) ?_
              refine WL.quiet (d := 98) rfl rfl rfl (q_move rfl) ?_
              refine WL.quiet (d := 99) rfl rfl rfl (q_neq rfl rfl) ?_
              refine WL.quiet (d := 100) rfl rfl rfl (q_pickF rfl rfl) ?_
              exact WL.cutEnd () trivial (.cons rfl (.cons rfl (.cons rfl (.cons rfl (.cons rfl (.cons rfl (.cons rfl (.cons rfl (.cons rfl (.cons rfl (.cons rfl (.cons rfl (.cons rfl (.cons rfl (.cons rfl (.cons rfl (.cons rfl (.cons rfl (.cons rfl (.cons (some_bool (or_r (bF (biff_or (decide_eq_true_iff) (decide_eq_true_iff)) hb30))) .nil)))))))))))))))))))) (.cons .here (.cons .here (.cons .here (.cons .here (.cons .here (.cons .here (.cons .here .nil)))))))
          · skip
            refine WL.nil ?_
            refine WX.then ?_
            refine WC.cond rfl (fun h => absurd ((biff_or (biff_or (decide_eq_true_iff) (decide_eq_true_iff)) (decide_eq_true_iff)).1 h) (by omega)) (fun _ => ?_)
            refine WC.skip ?_
            refine WX.then ?_
            refine WC.exit ?_
            refine WX.thenExit ?_
            refine WX.blockHit ?_
            refine WX.then ?_
            refine WC.region ?_
            refine WL.quiet (d := 169) rfl rfl rfl (q_add rfl rfl (w64 (by omega))) ?_
            refine WL.quiet (d := 49) rfl rfl rfl (q_move rfl) ?_
            refine WL.nil ?_
            exact WX.round (G := Int × Int × Int × Int × (Option Addr) × Nat × Nat × (List Fr) × (Option Addr) × Nat × Nat × (Option Addr) × Nat × Nat × (Option Addr) × Nat × Nat × (List Int) × (List Int) × (List Int)) ⟨(i + 1), now'19, last, last'20, ao'22, m'24, cap'23, l'21, aoA, mA, capA, aoZ, mZ, capZ, aoE, mE, capE, ats, szs, ens⟩ ⟨(by first | omega | (dsimp only; omega)), (by first | omega | (dsimp only; omega)), (by first | (dsimp only; exact ⟨by omega, fun hlt => by have := hov.two (i + 1) (by omega) hlt; rw [show i + 1 - 1 = i from by omega] at this; omega⟩) | (exact ⟨by omega, fun hlt => by have := hov.two (i + 1) (by omega) hlt; rw [show i + 1 - 1 = i from by omega] at this; omega⟩)), (by first | (dsimp only; omega) | (omega)), (by first | omega | (dsimp only; omega)), (by first | (dsimp only; exact hm1) | (exact hm1)), (by first | (dsimp only; omega) | (omega)), (by first | (dsimp only; exact hsz1) | (exact hsz1)), (by first | (dsimp only; refine ⟨?_, ?_, ?_⟩ <;> first | omega | (simp; omega)) | (refine ⟨?_, ?_, ?_⟩ <;> first | omega | (simp; omega))), (by first | (dsimp only; first | exact hlen | (simp; exact hlen)) | (first | exact hlen | (simp; exact hlen))), (by first | (dsimp only; first | exact hlea | (simp; exact hlea)) | (first | exact hlea | (simp; exact hlea))), (by first | (dsimp only; first | omega | (simp; omega)) | (first | omega | (simp; omega))), (by first | (dsimp only; exact ho5) | (exact ho5)), (by first | (dsimp only; first | exact hz | exact mem_snoc hz ⟨h3.2.2.1, h3.2.2.2⟩) | (first | exact hz | exact mem_snoc hz ⟨h3.2.2.1, h3.2.2.2⟩))⟩ (by first | omega | (dsimp only; omega)) (.cons rfl (.cons rfl (.cons rfl (.cons rfl (.cons rfl (.cons rfl (.cons rfl (.cons rfl (.cons rfl (.cons rfl (.cons rfl .nil))))))))))) (.cons (.there .here) (.cons (.there (.there .here)) (.cons (.there (.there .here)) (.cons (.there (.there .here)) (.cons (.there (.there .here)) (.cons .here .nil))))))
      · have hc28 : ¬ ((acc + ((nth out6 i).size)) > (store % 1001)) := biffF (decide_eq_true_iff) h; clear h
        obtain ⟨ho1, ho2, ho3, ho4, ho5, ho6⟩ := ho.resolve_left (by omega)
        refine WC.skip ?_
        refine WX.then ?_
        refine WC.seq ?_
        refine WC.region ?_
        refine WL.quiet (d := 101) rfl rfl rfl (q_move rfl) ?_
        refine WL.quiet (d := 102) rfl rfl rfl (q_fieldAddr fo_47_2 rfl rfl) ?_
        refine WL.quiet (d := 103) rfl rfl rfl (q_load1 oneT_3 rfl (rd_stb (.there (.there .here)) rfl)) ?_
        refine WL.quiet (d := 104) rfl rfl rfl (q_move rfl) ?_
        refine WL.quiet (d := 105) rfl rfl rfl (q_mul rfl rfl (w64 (by omega))) ?_
        refine WL.quiet (d := 106) rfl rfl rfl (q_sub rfl rfl (w64 (by omega))) ?_
        refine WL.quiet (d := 26) rfl rfl rfl (q_assign rfl) ?_
        refine WL.nil ?_
        refine WX.then ?_
        refine WC.seq ?_
        refine WC.seq ?_
        refine WC.draw (fun i => [].contains i) [] rfl ?_
        refine WD.pure (i := 0) (d := 107) (by kernel_rfl) rfl (by kernel_rfl) (by kernel_rfl) rfl rfl rfl (fun _ => q_move rfl) ?_
        refine WD.pure (i := 1) (d := 108) (by kernel_rfl) rfl (by kernel_rfl) (by kernel_rfl) rfl rfl rfl (fun _ => q_neq rfl rfl) ?_
        refine WD.pure (i := 2) (d := 109) (by kernel_rfl) rfl (by kernel_rfl) (by kernel_rfl) rfl rfl rfl (fun _ => q_move rfl) ?_
        refine WD.mid (fuel' := 37) [(11, (.int .i64 (1 + (slow % 16)))), (12, (.int .i64 delay)), (13, (.int .i64 (store % 1001))), (14, (.pointer (some ⟨b1, 0, none⟩))), (47, (.slice (some ⟨b11, 0, none⟩) m4 cap5)), (48, (.int .i64 ((m4 : Nat) : Int))), (49, (.int .i64 i)), (16, (.int .i64 last)), (17, (.slice aoA mA capA)), (18, (.slice aoZ mZ capZ)), (19, (.slice aoE mE capE)), (21, (.pointer (some ⟨b12, 0, none⟩))), (54, (.int .i64 ((mE : Nat) : Int))), (55, (.int .i64 j)), (22, (.int .i64 acc)), (56, (.bool (decide (j < ((mE : Nat) : Int))))), (73, (.pointer (some ⟨b1, 0, none⟩))), (74, (.pointer (some ⟨b12, 0, none⟩))), (75, (.int .i64 ((nth out6 i).time))), (76, (.pointer (some ⟨b12, 2, none⟩))), (77, (.int .i64 ((nth out6 i).size))), (78, (.tuple #[(.int .i64 r17), (.int .i64 er18)])), (72, (.tuple #[(.int .i64 r17), (.int .i64 er18)])), (79, (.int .i64 r17)), (80, (.int .i64 er18)), (24, (.int .i64 r17)), (25, (.int .i64 er18)), (81, (.int .i64 acc)), (82, (.pointer (some ⟨b12, 2, none⟩))), (83, (.int .i64 ((nth out6 i).size))), (84, (.int .i64 (acc + ((nth out6 i).size)))), (85, (.int .i64 (store % 1001))), (86, (.bool (decide ((acc + ((nth out6 i).size)) > (store % 1001))))), (101, (.int .i64 r17)), (102, (.pointer (some ⟨b12, 2, none⟩))), (103, (.int .i64 ((nth out6 i).size))), (104, (.int .i64 (1 + (slow % 16)))), (105, (.int .i64 (((nth out6 i).size) * (1 + (slow % 16))))), (106, (.int .i64 (r17 - (((nth out6 i).size) * (1 + (slow % 16)))))), (26, (.int .i64 (r17 - (((nth out6 i).size) * (1 + (slow % 16)))))), (107, (.int .i64 er18)), (108, (.bool (decide (er18 ≠ 0)))), (109, (.bool (decide (er18 ≠ 0)))), (116, (.bool ((decide (er18 ≠ 0)) || (decide ((r17 - (((nth out6 i).size) * (1 + (slow % 16)))) < (((nth out6 i).time) + delay))))))] (listedA 47 [9, 8, 7, 6, 5, 4, 3, 2, 1, 0]) ?_ (fun K32 => ?_)
        rotate_left
        · by_cases hb31 : er18 ≠ 0
          · refine WD.pin (i := 109) rfl (bT (decide_eq_true_iff) hb31) ?_
            refine WD.skip (i := 3) (d := 110) (by kernel_rfl) rfl (by kernel_rfl) (by kernel_rfl) rfl rfl rfl ?_
            refine WD.skip (i := 4) (d := 111) (by kernel_rfl) rfl (by kernel_rfl) (by kernel_rfl) rfl rfl rfl ?_
            refine WD.skip (i := 5) (d := 112) (by kernel_rfl) rfl (by kernel_rfl) (by kernel_rfl) rfl rfl rfl ?_
            refine WD.skip (i := 6) (d := 113) (by kernel_rfl) rfl (by kernel_rfl) (by kernel_rfl) rfl rfl rfl ?_
            refine WD.skip (i := 7) (d := 114) (by kernel_rfl) rfl (by kernel_rfl) (by kernel_rfl) rfl rfl rfl ?_
            refine WD.skip (i := 8) (d := 115) (by kernel_rfl) rfl (by kernel_rfl) (by kernel_rfl) rfl rfl rfl ?_
            refine WD.pure (i := 9) (d := 116) (by kernel_rfl) rfl (by kernel_rfl) (by kernel_rfl) rfl rfl rfl (fun _ => q_pickT rfl rfl) ?_
            refine WD.restr ?_ K32
            exact (.cons rfl (.cons rfl (.cons rfl (.cons rfl (.cons rfl (.cons rfl (.cons rfl (.cons rfl (.cons rfl (.cons rfl (.cons rfl (.cons rfl (.cons rfl (.cons rfl (.cons rfl (.cons rfl (.cons rfl (.cons rfl (.cons rfl (.cons rfl (.cons rfl (.cons rfl (.cons rfl (.cons rfl (.cons rfl (.cons rfl (.cons rfl (.cons rfl (.cons rfl (.cons rfl (.cons rfl (.cons rfl (.cons rfl (.cons rfl (.cons rfl (.cons rfl (.cons rfl (.cons rfl (.cons rfl (.cons rfl (.cons rfl (.cons rfl (.cons (some_bool (Eq.symm (bT (decide_eq_true_iff) hb31))) (.cons (some_bool (or_l (bT (decide_eq_true_iff) hb31))) .nil))))))))))))))))))))))))))))))))))))))))))))
          · refine WD.pin (i := 109) rfl (bF (decide_eq_true_iff) hb31) ?_
            refine WD.pure (i := 3) (d := 110) (by kernel_rfl) rfl (by kernel_rfl) (by kernel_rfl) rfl rfl rfl (fun _ => q_move rfl) ?_
            refine WD.pure (i := 4) (d := 111) (by kernel_rfl) rfl (by kernel_rfl) (by kernel_rfl) rfl rfl rfl (fun _ => q_fieldAddr fo_47_0 rfl rfl) ?_
            refine WD.quiet (i := 5) (d := 112) (by kernel_rfl) rfl (by kernel_rfl) (by kernel_rfl) rfl rfl rfl (q_load1 oneT_3 rfl (rd_stb (.there (.there .here)) rfl)) ?_
            refine WD.pure (i := 6) (d := 113) (by kernel_rfl) rfl (by kernel_rfl) (by kernel_rfl) rfl rfl rfl (fun _ => q_move rfl) ?_
            refine WD.pure (i := 7) (d := 114) (by kernel_rfl) rfl (by kernel_rfl) (by kernel_rfl) rfl rfl rfl (fun _ => q_add rfl rfl (w64 (by omega))) ?_
            refine WD.pure (i := 8) (d := 115) (by kernel_rfl) rfl (by kernel_rfl) (by kernel_rfl) rfl rfl rfl (fun _ => q_lss rfl rfl) ?_
            refine WD.pure (i := 9) (d := 116) (by kernel_rfl) rfl (by kernel_rfl) (by kernel_rfl) rfl rfl rfl (fun _ => q_pickF rfl rfl) ?_
            refine WD.restr ?_ K32
            exact (.cons rfl (.cons rfl (.cons rfl (.cons rfl (.cons rfl (.cons rfl (.cons rfl (.cons rfl (.cons rfl (.cons rfl (.cons rfl (.cons rfl (.cons rfl (.cons rfl (.cons rfl (.cons rfl (.cons rfl (.cons rfl (.cons rfl (.cons rfl (.cons rfl (.cons rfl (.cons rfl (.cons rfl (.cons rfl (.cons rfl (.cons rfl (.cons rfl (.cons rfl (.cons rfl (.cons rfl (.cons rfl (.cons rfl (.cons rfl (.cons rfl (.cons rfl (.cons rfl (.cons rfl (.cons rfl (.cons rfl (.cons rfl (.cons rfl (.cons (some_bool (Eq.symm (bF (decide_eq_true_iff) hb31))) (.cons (some_bool (or_r (bF (decide_eq_true_iff) hb31))) .nil))))))))))))))))))))))))))))))))))))))))))))
        refine WD.pure (i := 10) (d := 117) (by kernel_rfl) rfl (by kernel_rfl) (by kernel_rfl) rfl rfl rfl (fun _ => q_move rfl) ?_
        refine WD.mid (fuel' := 32) [(11, (.int .i64 (1 + (slow % 16)))), (12, (.int .i64 delay)), (13, (.int .i64 (store % 1001))), (14, (.pointer (some ⟨b1, 0, none⟩))), (47, (.slice (some ⟨b11, 0, none⟩) m4 cap5)), (48, (.int .i64 ((m4 : Nat) : Int))), (49, (.int .i64 i)), (16, (.int .i64 last)), (17, (.slice aoA mA capA)), (18, (.slice aoZ mZ capZ)), (19, (.slice aoE mE capE)), (21, (.pointer (some ⟨b12, 0, none⟩))), (54, (.int .i64 ((mE : Nat) : Int))), (55, (.int .i64 j)), (22, (.int .i64 acc)), (56, (.bool (decide (j < ((mE : Nat) : Int))))), (73, (.pointer (some ⟨b1, 0, none⟩))), (74, (.pointer (some ⟨b12, 0, none⟩))), (75, (.int .i64 ((nth out6 i).time))), (76, (.pointer (some ⟨b12, 2, none⟩))), (77, (.int .i64 ((nth out6 i).size))), (78, (.tuple #[(.int .i64 r17), (.int .i64 er18)])), (72, (.tuple #[(.int .i64 r17), (.int .i64 er18)])), (79, (.int .i64 r17)), (80, (.int .i64 er18)), (24, (.int .i64 r17)), (25, (.int .i64 er18)), (81, (.int .i64 acc)), (82, (.pointer (some ⟨b12, 2, none⟩))), (83, (.int .i64 ((nth out6 i).size))), (84, (.int .i64 (acc + ((nth out6 i).size)))), (85, (.int .i64 (store % 1001))), (86, (.bool (decide ((acc + ((nth out6 i).size)) > (store % 1001))))), (101, (.int .i64 r17)), (102, (.pointer (some ⟨b12, 2, none⟩))), (103, (.int .i64 ((nth out6 i).size))), (104, (.int .i64 (1 + (slow % 16)))), (105, (.int .i64 (((nth out6 i).size) * (1 + (slow % 16))))), (106, (.int .i64 (r17 - (((nth out6 i).size) * (1 + (slow % 16)))))), (26, (.int .i64 (r17 - (((nth out6 i).size) * (1 + (slow % 16)))))), (107, (.int .i64 er18)), (108, (.bool (decide (er18 ≠ 0)))), (109, (.bool (decide (er18 ≠ 0)))), (116, (.bool ((decide (er18 ≠ 0)) || (decide ((r17 - (((nth out6 i).size) * (1 + (slow % 16)))) < (((nth out6 i).time) + delay)))))), (117, (.bool ((decide (er18 ≠ 0)) || (decide ((r17 - (((nth out6 i).size) * (1 + (slow % 16)))) < (((nth out6 i).time) + delay)))))), (121, (.bool (((decide (er18 ≠ 0)) || (decide ((r17 - (((nth out6 i).size) * (1 + (slow % 16)))) < (((nth out6 i).time) + delay)))) || (decide ((r17 - (((nth out6 i).size) * (1 + (slow % 16)))) < last)))))] (listedA 47 [14, 13, 12, 11, 10, 9, 8, 7, 6, 5, 4, 3, 2, 1, 0]) ?_ (fun K34 => ?_)
        rotate_left
        · by_cases hb33 : (er18 ≠ 0) ∨ ((r17 - (((nth out6 i).size) * (1 + (slow % 16)))) < (((nth out6 i).time) + delay))
          · refine WD.pin (i := 117) rfl (bT (biff_or (decide_eq_true_iff) (decide_eq_true_iff)) hb33) ?_
            refine WD.skip (i := 11) (d := 118) (by kernel_rfl) rfl (by kernel_rfl) (by kernel_rfl) rfl rfl rfl ?_
            refine WD.skip (i := 12) (d := 119) (by kernel_rfl) rfl (by kernel_rfl) (by kernel_rfl) rfl rfl rfl ?_
            refine WD.skip (i := 13) (d := 120) (by kernel_rfl) rfl (by kernel_rfl) (by kernel_rfl) rfl rfl rfl ?_
            refine WD.pure (i := 14) (d := 121) (by kernel_rfl) rfl (by kernel_rfl) (by kernel_rfl) rfl rfl rfl (fun _ => q_pickT rfl rfl) ?_
            refine WD.restr ?_ K34
            exact (.cons rfl (.cons rfl (.cons rfl (.cons rfl (.cons rfl (.cons rfl (.cons rfl (.cons rfl (.cons rfl (.cons rfl (.cons rfl (.cons rfl (.cons rfl (.cons rfl (.cons rfl (.cons rfl (.cons rfl (.cons rfl (.cons rfl (.cons rfl (.cons rfl (.cons rfl (.cons rfl (.cons rfl (.cons rfl (.cons rfl (.cons rfl (.cons rfl (.cons rfl (.cons rfl (.cons rfl (.cons rfl (.cons rfl (.cons rfl (.cons rfl (.cons rfl (.cons rfl (.cons rfl (.cons rfl (.cons rfl (.cons rfl (.cons rfl (.cons rfl (.cons rfl (.cons (some_bool (Eq.symm (bT (biff_or (decide_eq_true_iff) (decide_eq_true_iff)) hb33))) (.cons (some_bool (or_l (bT (biff_or (decide_eq_true_iff) (decide_eq_true_iff)) hb33))) .nil))))))))))))))))))))))))))))))))))))))))))))))
          · refine WD.pin (i := 117) rfl (bF (biff_or (decide_eq_true_iff) (decide_eq_true_iff)) hb33) ?_
            refine WD.pure (i := 11) (d := 118) (by kernel_rfl) rfl (by kernel_rfl) (by kernel_rfl) rfl rfl rfl (fun _ => q_move rfl) ?_
            refine WD.pure (i := 12) (d := 119) (by kernel_rfl) rfl (by kernel_rfl) (by kernel_rfl) rfl rfl rfl (fun _ => q_move rfl) ?_
            refine WD.pure (i := 13) (d := 120) (by kernel_rfl) rfl (by kernel_rfl) (by kernel_rfl) rfl rfl rfl (fun _ => q_lss rfl rfl) ?_
            refine WD.pure (i := 14) (d := 121) (by kernel_rfl) rfl (by kernel_rfl) (by kernel_rfl) rfl rfl rfl (fun _ => q_pickF rfl rfl) ?_
            refine WD.restr ?_ K34
            exact (.cons rfl (.cons rfl (.cons rfl (.cons rfl (.cons rfl (.cons rfl (.cons rfl (.cons rfl (.cons rfl (.cons rfl (.cons rfl (.cons rfl (.cons rfl (.cons rfl (.cons rfl (.cons rfl (.cons rfl (.cons rfl (.cons rfl (.cons rfl (.cons rfl (.cons rfl (.cons rfl (.cons rfl (.cons rfl (.cons rfl (.cons rfl (.cons rfl (.cons rfl (.cons rfl (.cons rfl (.cons rfl (.cons rfl (.cons rfl (.cons rfl (.cons rfl (.cons rfl (.cons rfl (.cons rfl (.cons rfl (.cons rfl (.cons rfl (.cons rfl (.cons rfl (.cons (some_bool (Eq.symm (bF (biff_or (decide_eq_true_iff) (decide_eq_true_iff)) hb33))) (.cons (some_bool (or_r (bF (biff_or (decide_eq_true_iff) (decide_eq_true_iff)) hb33))) .nil))))))))))))))))))))))))))))))))))))))))))))))
        refine WD.pure (i := 15) (d := 122) (by kernel_rfl) rfl (by kernel_rfl) (by kernel_rfl) rfl rfl rfl (fun _ => q_move rfl) ?_
        refine WD.mid (fuel' := 19) [(11, (.int .i64 (1 + (slow % 16)))), (12, (.int .i64 delay)), (13, (.int .i64 (store % 1001))), (14, (.pointer (some ⟨b1, 0, none⟩))), (47, (.slice (some ⟨b11, 0, none⟩) m4 cap5)), (48, (.int .i64 ((m4 : Nat) : Int))), (49, (.int .i64 i)), (16, (.int .i64 last)), (17, (.slice aoA mA capA)), (18, (.slice aoZ mZ capZ)), (19, (.slice aoE mE capE)), (21, (.pointer (some ⟨b12, 0, none⟩))), (54, (.int .i64 ((mE : Nat) : Int))), (55, (.int .i64 j)), (22, (.int .i64 acc)), (56, (.bool (decide (j < ((mE : Nat) : Int))))), (73, (.pointer (some ⟨b1, 0, none⟩))), (74, (.pointer (some ⟨b12, 0, none⟩))), (75, (.int .i64 ((nth out6 i).time))), (76, (.pointer (some ⟨b12, 2, none⟩))), (77, (.int .i64 ((nth out6 i).size))), (78, (.tuple #[(.int .i64 r17), (.int .i64 er18)])), (72, (.tuple #[(.int .i64 r17), (.int .i64 er18)])), (79, (.int .i64 r17)), (80, (.int .i64 er18)), (24, (.int .i64 r17)), (25, (.int .i64 er18)), (81, (.int .i64 acc)), (82, (.pointer (some ⟨b12, 2, none⟩))), (83, (.int .i64 ((nth out6 i).size))), (84, (.int .i64 (acc + ((nth out6 i).size)))), (85, (.int .i64 (store % 1001))), (86, (.bool (decide ((acc + ((nth out6 i).size)) > (store % 1001))))), (101, (.int .i64 r17)), (102, (.pointer (some ⟨b12, 2, none⟩))), (103, (.int .i64 ((nth out6 i).size))), (104, (.int .i64 (1 + (slow % 16)))), (105, (.int .i64 (((nth out6 i).size) * (1 + (slow % 16))))), (106, (.int .i64 (r17 - (((nth out6 i).size) * (1 + (slow % 16)))))), (26, (.int .i64 (r17 - (((nth out6 i).size) * (1 + (slow % 16)))))), (107, (.int .i64 er18)), (108, (.bool (decide (er18 ≠ 0)))), (109, (.bool (decide (er18 ≠ 0)))), (116, (.bool ((decide (er18 ≠ 0)) || (decide ((r17 - (((nth out6 i).size) * (1 + (slow % 16)))) < (((nth out6 i).time) + delay)))))), (117, (.bool ((decide (er18 ≠ 0)) || (decide ((r17 - (((nth out6 i).size) * (1 + (slow % 16)))) < (((nth out6 i).time) + delay)))))), (121, (.bool (((decide (er18 ≠ 0)) || (decide ((r17 - (((nth out6 i).size) * (1 + (slow % 16)))) < (((nth out6 i).time) + delay)))) || (decide ((r17 - (((nth out6 i).size) * (1 + (slow % 16)))) < last))))), (122, (.bool (((decide (er18 ≠ 0)) || (decide ((r17 - (((nth out6 i).size) * (1 + (slow % 16)))) < (((nth out6 i).time) + delay)))) || (decide ((r17 - (((nth out6 i).size) * (1 + (slow % 16)))) < last))))), (134, (.bool ((((decide (er18 ≠ 0)) || (decide ((r17 - (((nth out6 i).size) * (1 + (slow % 16)))) < (((nth out6 i).time) + delay)))) || (decide ((r17 - (((nth out6 i).size) * (1 + (slow % 16)))) < last))) || ((decide ((r17 - (((nth out6 i).size) * (1 + (slow % 16)))) > (((nth out6 i).time) + delay))) && (decide ((r17 - (((nth out6 i).size) * (1 + (slow % 16)))) ≠ last))))))] (listedA 47 [27, 26, 25, 24, 23, 22, 21, 20, 19, 18, 17, 16, 15, 14, 13, 12, 11, 10, 9, 8, 7, 6, 5, 4, 3, 2, 1, 0]) ?_ (fun K36 => ?_)
        rotate_left
        · by_cases hb35 : ((er18 ≠ 0) ∨ ((r17 - (((nth out6 i).size) * (1 + (slow % 16)))) < (((nth out6 i).time) + delay))) ∨ ((r17 - (((nth out6 i).size) * (1 + (slow % 16)))) < last)
          · refine WD.pin (i := 122) rfl (bT (biff_or (biff_or (decide_eq_true_iff) (decide_eq_true_iff)) (decide_eq_true_iff)) hb35) ?_
            refine WD.skip (i := 16) (d := 123) (by kernel_rfl) rfl (by kernel_rfl) (by kernel_rfl) rfl rfl rfl ?_
            refine WD.skip (i := 17) (d := 124) (by kernel_rfl) rfl (by kernel_rfl) (by kernel_rfl) rfl rfl rfl ?_
            refine WD.skip (i := 18) (d := 125) (by kernel_rfl) rfl (by kernel_rfl) (by kernel_rfl) rfl rfl rfl ?_
            refine WD.skip (i := 19) (d := 126) (by kernel_rfl) rfl (by kernel_rfl) (by kernel_rfl) rfl rfl rfl ?_
            refine WD.skip (i := 20) (d := 127) (by kernel_rfl) rfl (by kernel_rfl) (by kernel_rfl) rfl rfl rfl ?_
            refine WD.skip (i := 21) (d := 128) (by kernel_rfl) rfl (by kernel_rfl) (by kernel_rfl) rfl rfl rfl ?_
            refine WD.skip (i := 22) (d := 129) (by kernel_rfl) rfl (by kernel_rfl) (by kernel_rfl) rfl rfl rfl ?_
            refine WD.skip (i := 23) (d := 130) (by kernel_rfl) rfl (by kernel_rfl) (by kernel_rfl) rfl rfl rfl ?_
            refine WD.skip (i := 24) (d := 131) (by kernel_rfl) rfl (by kernel_rfl) (by kernel_rfl) rfl rfl rfl ?_
            refine WD.skip (i := 25) (d := 132) (by kernel_rfl) rfl (by kernel_rfl) (by kernel_rfl) rfl rfl rfl ?_
            refine WD.skip (i := 26) (d := 133) (by kernel_rfl) rfl (by kernel_rfl) (by kernel_rfl) rfl rfl rfl ?_
            refine WD.pure (i := 27) (d := 134) (by kernel_rfl) rfl (by kernel_rfl) (by kernel_rfl) rfl rfl rfl (fun _ => q_pickT rfl rfl) ?_
            refine WD.restr ?_ K36
            exact (.cons rfl (.cons rfl (.cons rfl (.cons rfl (.cons rfl (.cons rfl (.cons rfl (.cons rfl (.cons rfl (.cons rfl (.cons rfl (.cons rfl (.cons rfl (.cons rfl (.cons rfl (.cons rfl (.cons rfl (.cons rfl (.cons rfl (.cons rfl (.cons rfl (.cons rfl (.cons rfl (.cons rfl (.cons rfl (.cons rfl (.cons rfl (.cons rfl (.cons rfl (.cons rfl (.cons rfl (.cons rfl (.cons rfl (.cons rfl (.cons rfl (.cons rfl (.cons rfl (.cons rfl (.cons rfl (.cons rfl (.cons rfl (.cons rfl (.cons rfl (.cons rfl (.cons rfl (.cons rfl (.cons (some_bool (Eq.symm (bT (biff_or (biff_or (decide_eq_true_iff) (decide_eq_true_iff)) (decide_eq_true_iff)) hb35))) (.cons (some_bool (or_l (bT (biff_or (biff_or (decide_eq_true_iff) (decide_eq_true_iff)) (decide_eq_true_iff)) hb35))) .nil))))))))))))))))))))))))))))))))))))))))))))))))
          · refine WD.pin (i := 122) rfl (bF (biff_or (biff_or (decide_eq_true_iff) (decide_eq_true_iff)) (decide_eq_true_iff)) hb35) ?_
            refine WD.pure (i := 16) (d := 123) (by kernel_rfl) rfl (by kernel_rfl) (by kernel_rfl) rfl rfl rfl (fun _ => q_move rfl) ?_
            refine WD.pure (i := 17) (d := 124) (by kernel_rfl) rfl (by kernel_rfl) (by kernel_rfl) rfl rfl rfl (fun _ => q_fieldAddr fo_47_0 rfl rfl) ?_
            refine WD.quiet (i := 18) (d := 125) (by kernel_rfl) rfl (by kernel_rfl) (by kernel_rfl) rfl rfl rfl (q_load1 oneT_3 rfl (rd_stb (.there (.there .here)) rfl)) ?_
            refine WD.pure (i := 19) (d := 126) (by kernel_rfl) rfl (by kernel_rfl) (by kernel_rfl) rfl rfl rfl (fun _ => q_move rfl) ?_
            refine WD.pure (i := 20) (d := 127) (by kernel_rfl) rfl (by kernel_rfl) (by kernel_rfl) rfl rfl rfl (fun _ => q_add rfl rfl (w64 (by omega))) ?_
            refine WD.pure (i := 21) (d := 128) (by kernel_rfl) rfl (by kernel_rfl) (by kernel_rfl) rfl rfl rfl (fun _ => q_gtr rfl rfl) ?_
            refine WD.pure (i := 22) (d := 129) (by kernel_rfl) rfl (by kernel_rfl) (by kernel_rfl) rfl rfl rfl (fun _ => q_move rfl) ?_
            refine WD.mid (fuel' := 20) [(11, (.int .i64 (1 + (slow % 16)))), (12, (.int .i64 delay)), (13, (.int .i64 (store % 1001))), (14, (.pointer (some ⟨b1, 0, none⟩))), (47, (.slice (some ⟨b11, 0, none⟩) m4 cap5)), (48, (.int .i64 ((m4 : Nat) : Int))), (49, (.int .i64 i)), (16, (.int .i64 last)), (17, (.slice aoA mA capA)), (18, (.slice aoZ mZ capZ)), (19, (.slice aoE mE capE)), (21, (.pointer (some ⟨b12, 0, none⟩))), (54, (.int .i64 ((mE : Nat) : Int))), (55, (.int .i64 j)), (22, (.int .i64 acc)), (56, (.bool (decide (j < ((mE : Nat) : Int))))), (73, (.pointer (some ⟨b1, 0, none⟩))), (74, (.pointer (some ⟨b12, 0, none⟩))), (75, (.int .i64 ((nth out6 i).time))), (76, (.pointer (some ⟨b12, 2, none⟩))), (77, (.int .i64 ((nth out6 i).size))), (78, (.tuple #[(.int .i64 r17), (.int .i64 er18)])), (72, (.tuple #[(.int .i64 r17), (.int .i64 er18)])), (79, (.int .i64 r17)), (80, (.int .i64 er18)), (24, (.int .i64 r17)), (25, (.int .i64 er18)), (81, (.int .i64 acc)), (82, (.pointer (some ⟨b12, 2, none⟩))), (83, (.int .i64 ((nth out6 i).size))), (84, (.int .i64 (acc + ((nth out6 i).size)))), (85, (.int .i64 (store % 1001))), (86, (.bool (decide ((acc + ((nth out6 i).size)) > (store % 1001))))), (101, (.int .i64 r17)), (102, (.pointer (some ⟨b12, 2, none⟩))), (103, (.int .i64 ((nth out6 i).size))), (104, (.int .i64 (1 + (slow % 16)))), (105, (.int .i64 (((nth out6 i).size) * (1 + (slow % 16))))), (106, (.int .i64 (r17 - (((nth out6 i).size) * (1 + (slow % 16)))))), (26, (.int .i64 (r17 - (((nth out6 i).size) * (1 + (slow % 16)))))), (107, (.int .i64 er18)), (108, (.bool (decide (er18 ≠ 0)))), (109, (.bool (decide (er18 ≠ 0)))), (116, (.bool ((decide (er18 ≠ 0)) || (decide ((r17 - (((nth out6 i).size) * (1 + (slow % 16)))) < (((nth out6 i).time) + delay)))))), (117, (.bool ((decide (er18 ≠ 0)) || (decide ((r17 - (((nth out6 i).size) * (1 + (slow % 16)))) < (((nth out6 i).time) + delay)))))), (121, (.bool (((decide (er18 ≠ 0)) || (decide ((r17 - (((nth out6 i).size) * (1 + (slow % 16)))) < (((nth out6 i).time) + delay)))) || (decide ((r17 - (((nth out6 i).size) * (1 + (slow % 16)))) < last))))), (122, (.bool false)), (123, (.int .i64 (r17 - (((nth out6 i).size) * (1 + (slow % 16)))))), (124, (.pointer (some ⟨b12, 0, none⟩))), (125, (.int .i64 ((nth out6 i).time))), (126, (.int .i64 delay)), (127, (.int .i64 (((nth out6 i).time) + delay))), (128, (.bool (decide ((r17 - (((nth out6 i).size) * (1 + (slow % 16)))) > (((nth out6 i).time) + delay))))), (129, (.bool (decide ((r17 - (((nth out6 i).size) * (1 + (slow % 16)))) > (((nth out6 i).time) + delay))))), (133, (.bool ((decide ((r17 - (((nth out6 i).size) * (1 + (slow % 16)))) > (((nth out6 i).time) + delay))) && (decide ((r17 - (((nth out6 i).size) * (1 + (slow % 16)))) ≠ last)))))] (listedA 47 [26, 25, 24, 23, 22, 21, 20, 19, 18, 17, 16, 15, 14, 13, 12, 11, 10, 9, 8, 7, 6, 5, 4, 3, 2, 1, 0]) ?_ (fun K38 => ?_)
            rotate_left
            · by_cases hb37 : (r17 - (((nth out6 i).size) * (1 + (slow % 16)))) > (((nth out6 i).time) + delay)
              · refine WD.pin (i := 129) rfl (bT (decide_eq_true_iff) hb37) ?_
                refine WD.pure (i := 23) (d := 130) (by kernel_rfl) rfl (by kernel_rfl) (by kernel_rfl) rfl rfl rfl (fun _ => q_move rfl) ?_
                refine WD.pure (i := 24) (d := 131) (by kernel_rfl) rfl (by kernel_rfl) (by kernel_rfl) rfl rfl rfl (fun _ => q_move rfl) ?_
                refine WD.pure (i := 25) (d := 132) (by kernel_rfl) rfl (by kernel_rfl) (by kernel_rfl) rfl rfl rfl (fun _ => q_neq rfl rfl) ?_
                refine WD.pure (i := 26) (d := 133) (by kernel_rfl) rfl (by kernel_rfl) (by kernel_rfl) rfl rfl rfl (fun _ => q_pickT rfl rfl) ?_
                refine WD.restr ?_ K38
                exact (.cons rfl (.cons rfl (.cons rfl (.cons rfl (.cons rfl (.cons rfl (.cons rfl (.cons rfl (.cons rfl (.cons rfl (.cons rfl (.cons rfl (.cons rfl (.cons rfl (.cons rfl (.cons rfl (.cons rfl (.cons rfl (.cons rfl (.cons rfl (.cons rfl (.cons rfl (.cons rfl (.cons rfl (.cons rfl (.cons rfl (.cons rfl (.cons rfl (.cons rfl (.cons rfl (.cons rfl (.cons rfl (.cons rfl (.cons rfl (.cons rfl (.cons rfl (.cons rfl (.cons rfl (.cons rfl (.cons rfl (.cons rfl (.cons rfl (.cons rfl (.cons rfl (.cons rfl (.cons rfl (.cons rfl (.cons rfl (.cons rfl (.cons rfl (.cons rfl (.cons rfl (.cons rfl (.cons (some_bool (Eq.symm (bT (decide_eq_true_iff) hb37))) (.cons (some_bool (and_r (bT (decide_eq_true_iff) hb37))) .nil)))))))))))))))))))))))))))))))))))))))))))))))))))))))
              · refine WD.pin (i := 129) rfl (bF (decide_eq_true_iff) hb37) ?_
                refine WD.skip (i := 23) (d := 130) (by kernel_rfl) rfl (by kernel_rfl) (by kernel_rfl) rfl rfl rfl ?_
                refine WD.skip (i := 24) (d := 131) (by kernel_rfl) rfl (by kernel_rfl) (by kernel_rfl) rfl rfl rfl ?_
                refine WD.skip (i := 25) (d := 132) (by kernel_rfl) rfl (by kernel_rfl) (by kernel_rfl) rfl rfl rfl ?_
                refine WD.pure (i := 26) (d := 133) (by kernel_rfl) rfl (by kernel_rfl) (by kernel_rfl) rfl rfl rfl (fun _ => q_pickF rfl rfl) ?_
                refine WD.restr ?_ K38
                exact (.cons rfl (.cons rfl (.cons rfl (.cons rfl (.cons rfl (.cons rfl (.cons rfl (.cons rfl (.cons rfl (.cons rfl (.cons rfl (.cons rfl (.cons rfl (.cons rfl (.cons rfl (.cons rfl (.cons rfl (.cons rfl (.cons rfl (.cons rfl (.cons rfl (.cons rfl (.cons rfl (.cons rfl (.cons rfl (.cons rfl (.cons rfl (.cons rfl (.cons rfl (.cons rfl (.cons rfl (.cons rfl (.cons rfl (.cons rfl (.cons rfl (.cons rfl (.cons rfl (.cons rfl (.cons rfl (.cons rfl (.cons rfl (.cons rfl (.cons rfl (.cons rfl (.cons rfl (.cons rfl (.cons rfl (.cons rfl (.cons rfl (.cons rfl (.cons rfl (.cons rfl (.cons rfl (.cons (some_bool (Eq.symm (bF (decide_eq_true_iff) hb37))) (.cons (some_bool (and_l (bF (decide_eq_true_iff) hb37))) .nil)))))))))))))))))))))))))))))))))))))))))))))))))))))))
            refine WD.pure (i := 27) (d := 134) (by kernel_rfl) rfl (by kernel_rfl) (by kernel_rfl) rfl rfl rfl (fun _ => q_pickF rfl rfl) ?_
            refine WD.restr ?_ K36
            exact (.cons rfl (.cons rfl (.cons rfl (.cons rfl (.cons rfl (.cons rfl (.cons rfl (.cons rfl (.cons rfl (.cons rfl (.cons rfl (.cons rfl (.cons rfl (.cons rfl (.cons rfl (.cons rfl (.cons rfl (.cons rfl (.cons rfl (.cons rfl (.cons rfl (.cons rfl (.cons rfl (.cons rfl (.cons rfl (.cons rfl (.cons rfl (.cons rfl (.cons rfl (.cons rfl (.cons rfl (.cons rfl (.cons rfl (.cons rfl (.cons rfl (.cons rfl (.cons rfl (.cons rfl (.cons rfl (.cons rfl (.cons rfl (.cons rfl (.cons rfl (.cons rfl (.cons rfl (.cons rfl (.cons (some_bool (Eq.symm (bF (biff_or (biff_or (decide_eq_true_iff) (decide_eq_true_iff)) (decide_eq_true_iff)) hb35))) (.cons (some_bool (or_r (bF (biff_or (biff_or (decide_eq_true_iff) (decide_eq_true_iff)) (decide_eq_true_iff)) hb35))) .nil))))))))))))))))))))))))))))))))))))))))))))))))
        refine WD.pure (i := 28) (d := 135) (by kernel_rfl) rfl (by kernel_rfl) (by kernel_rfl) rfl rfl rfl (fun _ => q_move rfl) ?_
        refine WD.mid (fuel' := 8) [(11, (.int .i64 (1 + (slow % 16)))), (12, (.int .i64 delay)), (13, (.int .i64 (store % 1001))), (14, (.pointer (some ⟨b1, 0, none⟩))), (47, (.slice (some ⟨b11, 0, none⟩) m4 cap5)), (48, (.int .i64 ((m4 : Nat) : Int))), (49, (.int .i64 i)), (16, (.int .i64 last)), (17, (.slice aoA mA capA)), (18, (.slice aoZ mZ capZ)), (19, (.slice aoE mE capE)), (21, (.pointer (some ⟨b12, 0, none⟩))), (54, (.int .i64 ((mE : Nat) : Int))), (55, (.int .i64 j)), (22, (.int .i64 acc)), (56, (.bool (decide (j < ((mE : Nat) : Int))))), (73, (.pointer (some ⟨b1, 0, none⟩))), (74, (.pointer (some ⟨b12, 0, none⟩))), (75, (.int .i64 ((nth out6 i).time))), (76, (.pointer (some ⟨b12, 2, none⟩))), (77, (.int .i64 ((nth out6 i).size))), (78, (.tuple #[(.int .i64 r17), (.int .i64 er18)])), (72, (.tuple #[(.int .i64 r17), (.int .i64 er18)])), (79, (.int .i64 r17)), (80, (.int .i64 er18)), (24, (.int .i64 r17)), (25, (.int .i64 er18)), (81, (.int .i64 acc)), (82, (.pointer (some ⟨b12, 2, none⟩))), (83, (.int .i64 ((nth out6 i).size))), (84, (.int .i64 (acc + ((nth out6 i).size)))), (85, (.int .i64 (store % 1001))), (86, (.bool (decide ((acc + ((nth out6 i).size)) > (store % 1001))))), (101, (.int .i64 r17)), (102, (.pointer (some ⟨b12, 2, none⟩))), (103, (.int .i64 ((nth out6 i).size))), (104, (.int .i64 (1 + (slow % 16)))), (105, (.int .i64 (((nth out6 i).size) * (1 + (slow % 16))))), (106, (.int .i64 (r17 - (((nth out6 i).size) * (1 + (slow % 16)))))), (26, (.int .i64 (r17 - (((nth out6 i).size) * (1 + (slow % 16)))))), (107, (.int .i64 er18)), (108, (.bool (decide (er18 ≠ 0)))), (109, (.bool (decide (er18 ≠ 0)))), (116, (.bool ((decide (er18 ≠ 0)) || (decide ((r17 - (((nth out6 i).size) * (1 + (slow % 16)))) < (((nth out6 i).time) + delay)))))), (117, (.bool ((decide (er18 ≠ 0)) || (decide ((r17 - (((nth out6 i).size) * (1 + (slow % 16)))) < (((nth out6 i).time) + delay)))))), (121, (.bool (((decide (er18 ≠ 0)) || (decide ((r17 - (((nth out6 i).size) * (1 + (slow % 16)))) < (((nth out6 i).time) + delay)))) || (decide ((r17 - (((nth out6 i).size) * (1 + (slow % 16)))) < last))))), (122, (.bool (((decide (er18 ≠ 0)) || (decide ((r17 - (((nth out6 i).size) * (1 + (slow % 16)))) < (((nth out6 i).time) + delay)))) || (decide ((r17 - (((nth out6 i).size) * (1 + (slow % 16)))) < last))))), (134, (.bool ((((decide (er18 ≠ 0)) || (decide ((r17 - (((nth out6 i).size) * (1 + (slow % 16)))) < (((nth out6 i).time) + delay)))) || (decide ((r17 - (((nth out6 i).size) * (1 + (slow % 16)))) < last))) || ((decide ((r17 - (((nth out6 i).size) * (1 + (slow % 16)))) > (((nth out6 i).time) + delay))) && (decide ((r17 - (((nth out6 i).size) * (1 + (slow % 16)))) ≠ last)))))), (135, (.bool ((((decide (er18 ≠ 0)) || (decide ((r17 - (((nth out6 i).size) * (1 + (slow % 16)))) < (((nth out6 i).time) + delay)))) || (decide ((r17 - (((nth out6 i).size) * (1 + (slow % 16)))) < last))) || ((decide ((r17 - (((nth out6 i).size) * (1 + (slow % 16)))) > (((nth out6 i).time) + delay))) && (decide ((r17 - (((nth out6 i).size) * (1 + (slow % 16)))) ≠ last)))))), (145, (.bool (((((decide (er18 ≠ 0)) || (decide ((r17 - (((nth out6 i).size) * (1 + (slow % 16)))) < (((nth out6 i).time) + delay)))) || (decide ((r17 - (((nth out6 i).size) * (1 + (slow % 16)))) < last))) || ((decide ((r17 - (((nth out6 i).size) * (1 + (slow % 16)))) > (((nth out6 i).time) + delay))) && (decide ((r17 - (((nth out6 i).size) * (1 + (slow % 16)))) ≠ last)))) || (decide ((sumF (fun x => decide (x.fin > max ((nth out6 i).time) now'19)) l'21) ≠ (acc + ((nth out6 i).size)))))))] (listedA 47 [38, 37, 36, 35, 34, 33, 32, 31, 30, 29, 28, 27, 26, 25, 24, 23, 22, 21, 20, 19, 18, 17, 16, 15, 14, 13, 12, 11, 10, 9, 8, 7, 6, 5, 4, 3, 2, 1, 0]) ?_ (fun K40 => ?_)
        rotate_left
        · by_cases hb39 : (((er18 ≠ 0) ∨ ((r17 - (((nth out6 i).size) * (1 + (slow % 16)))) < (((nth out6 i).time) + delay))) ∨ ((r17 - (((nth out6 i).size) * (1 + (slow % 16)))) < last)) ∨ (((r17 - (((nth out6 i).size) * (1 + (slow % 16)))) > (((nth out6 i).time) + delay)) ∧ ((r17 - (((nth out6 i).size) * (1 + (slow % 16)))) ≠ last))
          · refine WD.pin (i := 135) rfl (bT (biff_or (biff_or (biff_or (decide_eq_true_iff) (decide_eq_true_iff)) (decide_eq_true_iff)) (biff_and (decide_eq_true_iff) (decide_eq_true_iff))) hb39) ?_
            refine WD.skip (i := 29) (d := 136) (by kernel_rfl) rfl (by kernel_rfl) (by kernel_rfl) rfl rfl rfl ?_
            refine WD.skip (i := 30) (d := 137) (by kernel_rfl) rfl (by kernel_rfl) (by kernel_rfl) rfl rfl rfl ?_
            refine WD.skip (i := 31) (d := 138) (by kernel_rfl) rfl (by kernel_rfl) (by kernel_rfl) rfl rfl rfl ?_
            refine WD.skip (i := 32) (d := 139) (by kernel_rfl) rfl (by kernel_rfl) (by kernel_rfl) rfl rfl rfl ?_
            refine WD.skip (i := 33) (d := 140) (by kernel_rfl) rfl (by kernel_rfl) (by kernel_rfl) rfl rfl rfl ?_
            refine WD.skip (i := 34) (d := 141) (by kernel_rfl) rfl (by kernel_rfl) (by kernel_rfl) rfl rfl rfl ?_
            refine WD.skip (i := 35) (d := 142) (by kernel_rfl) rfl (by kernel_rfl) (by kernel_rfl) rfl rfl rfl ?_
            refine WD.skip (i := 36) (d := 143) (by kernel_rfl) rfl (by kernel_rfl) (by kernel_rfl) rfl rfl rfl ?_
            refine WD.skip (i := 37) (d := 144) (by kernel_rfl) rfl (by kernel_rfl) (by kernel_rfl) rfl rfl rfl ?_
            refine WD.pure (i := 38) (d := 145) (by kernel_rfl) rfl (by kernel_rfl) (by kernel_rfl) rfl rfl rfl (fun _ => q_pickT rfl rfl) ?_
            refine WD.restr ?_ K40
            exact (.cons rfl (.cons rfl (.cons rfl (.cons rfl (.cons rfl (.cons rfl (.cons rfl (.cons rfl (.cons rfl (.cons rfl (.cons rfl (.cons rfl (.cons rfl (.cons rfl (.cons rfl (.cons rfl (.cons rfl (.cons rfl (.cons rfl (.cons rfl (.cons rfl (.cons rfl (.cons rfl (.cons rfl (.cons rfl (.cons rfl (.cons rfl (.cons rfl (.cons rfl (.cons rfl (.cons rfl (.cons rfl (.cons rfl (.cons rfl (.cons rfl (.cons rfl (.cons rfl (.cons rfl (.cons rfl (.cons rfl (.cons rfl (.cons rfl (.cons rfl (.cons rfl (.cons rfl (.cons rfl (.cons rfl (.cons rfl (.cons (some_bool (Eq.symm (bT (biff_or (biff_or (biff_or (decide_eq_true_iff) (decide_eq_true_iff)) (decide_eq_true_iff)) (biff_and (decide_eq_true_iff) (decide_eq_true_iff))) hb39))) (.cons (some_bool (or_l (bT (biff_or (biff_or (biff_or (decide_eq_true_iff) (decide_eq_true_iff)) (decide_eq_true_iff)) (biff_and (decide_eq_true_iff) (decide_eq_true_iff))) hb39))) .nil))))))))))))))))))))))))))))))))))))))))))))))))))
          · refine WD.pin (i := 135) rfl (bF (biff_or (biff_or (biff_or (decide_eq_true_iff) (decide_eq_true_iff)) (decide_eq_true_iff)) (biff_and (decide_eq_true_iff) (decide_eq_true_iff))) hb39) ?_
            refine WD.pure (i := 29) (d := 136) (by kernel_rfl) rfl (by kernel_rfl) (by kernel_rfl) rfl rfl rfl (fun _ => q_move rfl) ?_
            refine WD.pure (i := 30) (d := 137) (by kernel_rfl) rfl (by kernel_rfl) (by kernel_rfl) rfl rfl rfl (fun _ => q_fieldAddr fo_47_0 rfl rfl) ?_
            refine WD.quiet (i := 31) (d := 138) (by kernel_rfl) rfl (by kernel_rfl) (by kernel_rfl) rfl rfl rfl (q_load1 oneT_3 rfl (rd_stb (.there (.there .here)) rfl)) ?_
            refine WD.enter (i := 32) (d := 139) (by kernel_rfl) rfl (by kernel_rfl) (by kernel_rfl) rfl rfl rfl (run_call (l := [.tmp 136, .tmp 138]) Try.call12 (.cons rfl (.cons rfl .nil))) (fun w hw => held_c (A := ⟨b1, 0, none⟩) (slow := (1 + (slow % 16))) (delay := delay) (store := (store % 1001)) (now := now'19) (last := last'20) (ao := ao'22) (m := m'24) (cap := cap'23) (l := l'21) (t := ((nth out6 i).time)) (w₀ := w) (hw.cellsStb .nil .here) (hw.slpRow .nil (.there .here) (fun _ _ => rfl) (by decide)) (by first | assumption | (simp; done)) (by first | omega | (simp; done)) (by omega)) ?_
            refine WD.pure (i := 33) (d := 140) (by kernel_rfl) rfl (by kernel_rfl) (by kernel_rfl) rfl rfl rfl (fun _ => q_move rfl) ?_
            refine WD.pure (i := 34) (d := 141) (by kernel_rfl) rfl (by kernel_rfl) (by kernel_rfl) rfl rfl rfl (fun _ => q_fieldAddr fo_47_2 rfl rfl) ?_
            refine WD.quiet (i := 35) (d := 142) (by kernel_rfl) rfl (by kernel_rfl) (by kernel_rfl) rfl rfl rfl (q_load1 oneT_3 rfl (rd_stb (.there (.there .here)) rfl)) ?_
            refine WD.pure (i := 36) (d := 143) (by kernel_rfl) rfl (by kernel_rfl) (by kernel_rfl) rfl rfl rfl (fun _ => q_add rfl rfl (w64 (by omega))) ?_
            refine WD.pure (i := 37) (d := 144) (by kernel_rfl) rfl (by kernel_rfl) (by kernel_rfl) rfl rfl rfl (fun _ => q_neq rfl rfl) ?_
            refine WD.pure (i := 38) (d := 145) (by kernel_rfl) rfl (by kernel_rfl) (by kernel_rfl) rfl rfl rfl (fun _ => q_pickF rfl rfl) ?_
            refine WD.restr ?_ K40
            exact (.cons rfl (.cons rfl (.cons rfl (.cons rfl (.cons rfl (.cons rfl (.cons rfl (.cons rfl (.cons rfl (.cons rfl (.cons rfl (.cons rfl (.cons rfl (.cons rfl (.cons rfl (.cons rfl (.cons rfl (.cons rfl (.cons rfl (.cons rfl (.cons rfl (.cons rfl (.cons rfl (.cons rfl (.cons rfl (.cons rfl (.cons rfl (.cons rfl (.cons rfl (.cons rfl (.cons rfl (.cons rfl (.cons rfl (.cons rfl (.cons rfl (.cons rfl (.cons rfl (.cons rfl (.cons rfl (.cons rfl (.cons rfl (.cons rfl (.cons rfl (.cons rfl (.cons rfl (.cons rfl (.cons rfl (.cons rfl (.cons (some_bool (Eq.symm (bF (biff_or (biff_or (biff_or (decide_eq_true_iff) (decide_eq_true_iff)) (decide_eq_true_iff)) (biff_and (decide_eq_true_iff) (decide_eq_true_iff))) hb39))) (.cons (some_bool (or_r (bF (biff_or (biff_or (biff_or (decide_eq_true_iff) (decide_eq_true_iff)) (decide_eq_true_iff)) (biff_and (decide_eq_true_iff) (decide_eq_true_iff))) hb39))) .nil))))))))))))))))))))))))))))))))))))))))))))))))))
        refine WD.pure (i := 39) (d := 146) (by kernel_rfl) rfl (by kernel_rfl) (by kernel_rfl) rfl rfl rfl (fun _ => q_move rfl) ?_
        refine WD.mid (fuel' := 0) [(11, (.int .i64 (1 + (slow % 16)))), (12, (.int .i64 delay)), (13, (.int .i64 (store % 1001))), (14, (.pointer (some ⟨b1, 0, none⟩))), (47, (.slice (some ⟨b11, 0, none⟩) m4 cap5)), (48, (.int .i64 ((m4 : Nat) : Int))), (49, (.int .i64 i)), (16, (.int .i64 last)), (17, (.slice aoA mA capA)), (18, (.slice aoZ mZ capZ)), (19, (.slice aoE mE capE)), (21, (.pointer (some ⟨b12, 0, none⟩))), (54, (.int .i64 ((mE : Nat) : Int))), (55, (.int .i64 j)), (22, (.int .i64 acc)), (56, (.bool (decide (j < ((mE : Nat) : Int))))), (73, (.pointer (some ⟨b1, 0, none⟩))), (74, (.pointer (some ⟨b12, 0, none⟩))), (75, (.int .i64 ((nth out6 i).time))), (76, (.pointer (some ⟨b12, 2, none⟩))), (77, (.int .i64 ((nth out6 i).size))), (78, (.tuple #[(.int .i64 r17), (.int .i64 er18)])), (72, (.tuple #[(.int .i64 r17), (.int .i64 er18)])), (79, (.int .i64 r17)), (80, (.int .i64 er18)), (24, (.int .i64 r17)), (25, (.int .i64 er18)), (81, (.int .i64 acc)), (82, (.pointer (some ⟨b12, 2, none⟩))), (83, (.int .i64 ((nth out6 i).size))), (84, (.int .i64 (acc + ((nth out6 i).size)))), (85, (.int .i64 (store % 1001))), (86, (.bool (decide ((acc + ((nth out6 i).size)) > (store % 1001))))), (101, (.int .i64 r17)), (102, (.pointer (some ⟨b12, 2, none⟩))), (103, (.int .i64 ((nth out6 i).size))), (104, (.int .i64 (1 + (slow % 16)))), (105, (.int .i64 (((nth out6 i).size) * (1 + (slow % 16))))), (106, (.int .i64 (r17 - (((nth out6 i).size) * (1 + (slow % 16)))))), (26, (.int .i64 (r17 - (((nth out6 i).size) * (1 + (slow % 16)))))), (107, (.int .i64 er18)), (108, (.bool (decide (er18 ≠ 0)))), (109, (.bool (decide (er18 ≠ 0)))), (116, (.bool ((decide (er18 ≠ 0)) || (decide ((r17 - (((nth out6 i).size) * (1 + (slow % 16)))) < (((nth out6 i).time) + delay)))))), (117, (.bool ((decide (er18 ≠ 0)) || (decide ((r17 - (((nth out6 i).size) * (1 + (slow % 16)))) < (((nth out6 i).time) + delay)))))), (121, (.bool (((decide (er18 ≠ 0)) || (decide ((r17 - (((nth out6 i).size) * (1 + (slow % 16)))) < (((nth out6 i).time) + delay)))) || (decide ((r17 - (((nth out6 i).size) * (1 + (slow % 16)))) < last))))), (122, (.bool (((decide (er18 ≠ 0)) || (decide ((r17 - (((nth out6 i).size) * (1 + (slow % 16)))) < (((nth out6 i).time) + delay)))) || (decide ((r17 - (((nth out6 i).size) * (1 + (slow % 16)))) < last))))), (134, (.bool ((((decide (er18 ≠ 0)) || (decide ((r17 - (((nth out6 i).size) * (1 + (slow % 16)))) < (((nth out6 i).time) + delay)))) || (decide ((r17 - (((nth out6 i).size) * (1 + (slow % 16)))) < last))) || ((decide ((r17 - (((nth out6 i).size) * (1 + (slow % 16)))) > (((nth out6 i).time) + delay))) && (decide ((r17 - (((nth out6 i).size) * (1 + (slow % 16)))) ≠ last)))))), (135, (.bool ((((decide (er18 ≠ 0)) || (decide ((r17 - (((nth out6 i).size) * (1 + (slow % 16)))) < (((nth out6 i).time) + delay)))) || (decide ((r17 - (((nth out6 i).size) * (1 + (slow % 16)))) < last))) || ((decide ((r17 - (((nth out6 i).size) * (1 + (slow % 16)))) > (((nth out6 i).time) + delay))) && (decide ((r17 - (((nth out6 i).size) * (1 + (slow % 16)))) ≠ last)))))), (145, (.bool (((((decide (er18 ≠ 0)) || (decide ((r17 - (((nth out6 i).size) * (1 + (slow % 16)))) < (((nth out6 i).time) + delay)))) || (decide ((r17 - (((nth out6 i).size) * (1 + (slow % 16)))) < last))) || ((decide ((r17 - (((nth out6 i).size) * (1 + (slow % 16)))) > (((nth out6 i).time) + delay))) && (decide ((r17 - (((nth out6 i).size) * (1 + (slow % 16)))) ≠ last)))) || (decide ((sumF (fun x => decide (x.fin > max ((nth out6 i).time) now'19)) l'21) ≠ (acc + ((nth out6 i).size))))))), (146, (.bool (((((decide (er18 ≠ 0)) || (decide ((r17 - (((nth out6 i).size) * (1 + (slow % 16)))) < (((nth out6 i).time) + delay)))) || (decide ((r17 - (((nth out6 i).size) * (1 + (slow % 16)))) < last))) || ((decide ((r17 - (((nth out6 i).size) * (1 + (slow % 16)))) > (((nth out6 i).time) + delay))) && (decide ((r17 - (((nth out6 i).size) * (1 + (slow % 16)))) ≠ last)))) || (decide ((sumF (fun x => decide (x.fin > max ((nth out6 i).time) now'19)) l'21) ≠ (acc + ((nth out6 i).size))))))), (153, (.bool ((((((decide (er18 ≠ 0)) || (decide ((r17 - (((nth out6 i).size) * (1 + (slow % 16)))) < (((nth out6 i).time) + delay)))) || (decide ((r17 - (((nth out6 i).size) * (1 + (slow % 16)))) < last))) || ((decide ((r17 - (((nth out6 i).size) * (1 + (slow % 16)))) > (((nth out6 i).time) + delay))) && (decide ((r17 - (((nth out6 i).size) * (1 + (slow % 16)))) ≠ last)))) || (decide ((sumF (fun x => decide (x.fin > max ((nth out6 i).time) now'19)) l'21) ≠ (acc + ((nth out6 i).size))))) || (decide ((sumF (fun x => decide (x.fin > max ((nth out6 i).time) now'19)) l'21) > (store % 1001))))))] (listedA 47 [46, 45, 44, 43, 42, 41, 40, 39, 38, 37, 36, 35, 34, 33, 32, 31, 30, 29, 28, 27, 26, 25, 24, 23, 22, 21, 20, 19, 18, 17, 16, 15, 14, 13, 12, 11, 10, 9, 8, 7, 6, 5, 4, 3, 2, 1, 0]) ?_ (fun K42 => ?_)
        rotate_left
        · by_cases hb41 : ((((er18 ≠ 0) ∨ ((r17 - (((nth out6 i).size) * (1 + (slow % 16)))) < (((nth out6 i).time) + delay))) ∨ ((r17 - (((nth out6 i).size) * (1 + (slow % 16)))) < last)) ∨ (((r17 - (((nth out6 i).size) * (1 + (slow % 16)))) > (((nth out6 i).time) + delay)) ∧ ((r17 - (((nth out6 i).size) * (1 + (slow % 16)))) ≠ last))) ∨ ((sumF (fun x => decide (x.fin > max ((nth out6 i).time) now'19)) l'21) ≠ (acc + ((nth out6 i).size)))
          · refine WD.pin (i := 146) rfl (bT (biff_or (biff_or (biff_or (biff_or (decide_eq_true_iff) (decide_eq_true_iff)) (decide_eq_true_iff)) (biff_and (decide_eq_true_iff) (decide_eq_true_iff))) (decide_eq_true_iff)) hb41) ?_
            refine WD.skip (i := 40) (d := 147) (by kernel_rfl) rfl (by kernel_rfl) (by kernel_rfl) rfl rfl rfl ?_
            refine WD.skip (i := 41) (d := 148) (by kernel_rfl) rfl (by kernel_rfl) (by kernel_rfl) rfl rfl rfl ?_
            refine WD.skip (i := 42) (d := 149) (by kernel_rfl) rfl (by kernel_rfl) (by kernel_rfl) rfl rfl rfl ?_
            refine WD.skip (i := 43) (d := 150) (by kernel_rfl) rfl (by kernel_rfl) (by kernel_rfl) rfl rfl rfl ?_
            refine WD.skip (i := 44) (d := 151) (by kernel_rfl) rfl (by kernel_rfl) (by kernel_rfl) rfl rfl rfl ?_
            refine WD.skip (i := 45) (d := 152) (by kernel_rfl) rfl (by kernel_rfl) (by kernel_rfl) rfl rfl rfl ?_
            refine WD.pure (i := 46) (d := 153) (by kernel_rfl) rfl (by kernel_rfl) (by kernel_rfl) rfl rfl rfl (fun _ => q_pickT rfl rfl) ?_
            refine WD.restr ?_ K42
            exact (.cons rfl (.cons rfl (.cons rfl (.cons rfl (.cons rfl (.cons rfl (.cons rfl (.cons rfl (.cons rfl (.cons rfl (.cons rfl (.cons rfl (.cons rfl (.cons rfl (.cons rfl (.cons rfl (.cons rfl (.cons rfl (.cons rfl (.cons rfl (.cons rfl (.cons rfl (.cons rfl (.cons rfl (.cons rfl (.cons rfl (.cons rfl (.cons rfl (.cons rfl (.cons rfl (.cons rfl (.cons rfl (.cons rfl (.cons rfl (.cons rfl (.cons rfl (.cons rfl (.cons rfl (.cons rfl (.cons rfl (.cons rfl (.cons rfl (.cons rfl (.cons rfl (.cons rfl (.cons rfl (.cons rfl (.cons rfl (.cons rfl (.cons rfl (.cons (some_bool (Eq.symm (bT (biff_or (biff_or (biff_or (biff_or (decide_eq_true_iff) (decide_eq_true_iff)) (decide_eq_true_iff)) (biff_and (decide_eq_true_iff) (decide_eq_true_iff))) (decide_eq_true_iff)) hb41))) (.cons (some_bool (or_l (bT (biff_or (biff_or (biff_or (biff_or (decide_eq_true_iff) (decide_eq_true_iff)) (decide_eq_true_iff)) (biff_and (decide_eq_true_iff) (decide_eq_true_iff))) (decide_eq_true_iff)) hb41))) .nil))))))))))))))))))))))))))))))))))))))))))))))))))))
          · refine WD.pin (i := 146) rfl (bF (biff_or (biff_or (biff_or (biff_or (decide_eq_true_iff) (decide_eq_true_iff)) (decide_eq_true_iff)) (biff_and (decide_eq_true_iff) (decide_eq_true_iff))) (decide_eq_true_iff)) hb41) ?_
            refine WD.pure (i := 40) (d := 147) (by kernel_rfl) rfl (by kernel_rfl) (by kernel_rfl) rfl rfl rfl (fun _ => q_move rfl) ?_
            refine WD.pure (i := 41) (d := 148) (by kernel_rfl) rfl (by kernel_rfl) (by kernel_rfl) rfl rfl rfl (fun _ => q_fieldAddr fo_47_0 rfl rfl) ?_
            refine WD.quiet (i := 42) (d := 149) (by kernel_rfl) rfl (by kernel_rfl) (by kernel_rfl) rfl rfl rfl (q_load1 oneT_3 rfl (rd_stb (.there (.there .here)) rfl)) ?_
            refine WD.enter (i := 43) (d := 150) (by kernel_rfl) rfl (by kernel_rfl) (by kernel_rfl) rfl rfl rfl (run_call (l := [.tmp 147, .tmp 149]) Try.call12 (.cons rfl (.cons rfl .nil))) (fun w hw => held_c (A := ⟨b1, 0, none⟩) (slow := (1 + (slow % 16))) (delay := delay) (store := (store % 1001)) (now := now'19) (last := last'20) (ao := ao'22) (m := m'24) (cap := cap'23) (l := l'21) (t := ((nth out6 i).time)) (w₀ := w) (hw.cellsStb .nil .here) (hw.slpRow .nil (.there .here) (fun _ _ => rfl) (by decide)) (by first | assumption | (simp; done)) (by first | omega | (simp; done)) (by omega)) ?_
            refine WD.pure (i := 44) (d := 151) (by kernel_rfl) rfl (by kernel_rfl) (by kernel_rfl) rfl rfl rfl (fun _ => q_move rfl) ?_
            refine WD.pure (i := 45) (d := 152) (by kernel_rfl) rfl (by kernel_rfl) (by kernel_rfl) rfl rfl rfl (fun _ => q_gtr rfl rfl) ?_
            refine WD.pure (i := 46) (d := 153) (by kernel_rfl) rfl (by kernel_rfl) (by kernel_rfl) rfl rfl rfl (fun _ => q_pickF rfl rfl) ?_
            refine WD.restr ?_ K42
            exact (.cons rfl (.cons rfl (.cons rfl (.cons rfl (.cons rfl (.cons rfl (.cons rfl (.cons rfl (.cons rfl (.cons rfl (.cons rfl (.cons rfl (.cons rfl (.cons rfl (.cons rfl (.cons rfl (.cons rfl (.cons rfl (.cons rfl (.cons rfl (.cons rfl (.cons rfl (.cons rfl (.cons rfl (.cons rfl (.cons rfl (.cons rfl (.cons rfl (.cons rfl (.cons rfl (.cons rfl (.cons rfl (.cons rfl (.cons rfl (.cons rfl (.cons rfl (.cons rfl (.cons rfl (.cons rfl (.cons rfl (.cons rfl (.cons rfl (.cons rfl (.cons rfl (.cons rfl (.cons rfl (.cons rfl (.cons rfl (.cons rfl (.cons rfl (.cons (some_bool (Eq.symm (bF (biff_or (biff_or (biff_or (biff_or (decide_eq_true_iff) (decide_eq_true_iff)) (decide_eq_true_iff)) (biff_and (decide_eq_true_iff) (decide_eq_true_iff))) (decide_eq_true_iff)) hb41))) (.cons (some_bool (or_r (bF (biff_or (biff_or (biff_or (biff_or (decide_eq_true_iff) (decide_eq_true_iff)) (decide_eq_true_iff)) (biff_and (decide_eq_true_iff) (decide_eq_true_iff))) (decide_eq_true_iff)) hb41))) .nil))))))))))))))))))))))))))))))))))))))))))))))))))))
        refine WD.done (by kernel_rfl) ?_
        refine WX.then ?_
        refine WC.cond rfl (fun h => absurd ((biff_or (biff_or (biff_or (biff_or (biff_or (decide_eq_true_iff) (decide_eq_true_iff)) (decide_eq_true_iff)) (biff_and (decide_eq_true_iff) (decide_eq_true_iff))) (decide_eq_true_iff)) (decide_eq_true_iff)).1 h) (by omega)) (fun _ => ?_)
        refine WC.skip ?_
        refine WX.then ?_
        refine WC.seq ?_
        refine WC.region ?_
        refine WL.quiet (d := 154) rfl rfl rfl (q_move rfl) ?_
        refine WL.quiet (d := 16) rfl rfl rfl (q_assign rfl) ?_
        refine WL.nil ?_
        refine WX.then ?_
        refine WC.draw (fun i => [4, 9, 13].contains i) [stb b12 47 [(.int .i64 ((nth out6 i).time)), (.int .i64 ((nth out6 i).vl)), (.int .i64 ((nth out6 i).size))]] rfl ?_
        refine WD.pure (i := 0) (d := 155) (by kernel_rfl) rfl (by kernel_rfl) (by kernel_rfl) rfl rfl rfl (fun _ => q_move rfl) ?_
        refine WD.pure (i := 1) (d := 156) (by kernel_rfl) rfl (by kernel_rfl) (by kernel_rfl) rfl rfl rfl (fun _ => q_fieldAddr fo_47_0 rfl rfl) ?_
        refine WD.quiet (i := 2) (d := 157) (by kernel_rfl) rfl (by kernel_rfl) (by kernel_rfl) rfl rfl rfl (q_load1 oneT_3 rfl (rd_stb (.there (.there .here)) rfl)) ?_
        refine WD.pure (i := 5) (d := 160) (by kernel_rfl) rfl (by kernel_rfl) (by kernel_rfl) rfl rfl rfl (fun _ => q_move rfl) ?_
        refine WD.pure (i := 6) (d := 161) (by kernel_rfl) rfl (by kernel_rfl) (by kernel_rfl) rfl rfl rfl (fun _ => q_fieldAddr fo_47_2 rfl rfl) ?_
        refine WD.stable (i := 7) (d := 162) (by kernel_rfl) rfl (by kernel_rfl) (by kernel_rfl) rfl rfl rfl ⟨_, (.cons (.there (.there .here)) .nil)⟩ (q_load1 oneT_3 rfl (rd_stb .here rfl)) ?_
        refine WD.pure (i := 10) (d := 165) (by kernel_rfl) rfl (by kernel_rfl) (by kernel_rfl) rfl rfl rfl (fun _ => q_move rfl) ?_
        refine WD.pure (i := 11) (d := 166) (by kernel_rfl) rfl (by kernel_rfl) (by kernel_rfl) rfl rfl rfl (fun _ => q_move rfl) ?_
        refine WD.mids9 (fuel' := 0) (fun (b_2_3_1 : Nat) (ao_2_4_1 : Option Addr) (cap_2_4_2 : Nat) (b_2_8_1 : Nat) (ao_2_9_1 : Option Addr) (cap_2_9_2 : Nat) (b_2_12_1 : Nat) (ao_2_13_1 : Option Addr) (cap_2_13_2 : Nat) => [(11, (.int .i64 (1 + (slow % 16)))), (12, (.int .i64 delay)), (13, (.int .i64 (store % 1001))), (14, (.pointer (some ⟨b1, 0, none⟩))), (47, (.slice (some ⟨b11, 0, none⟩) m4 cap5)), (48, (.int .i64 ((m4 : Nat) : Int))), (49, (.int .i64 i)), (16, (.int .i64 r17)), (17, (.slice ao_2_4_1 (mA + 1) cap_2_4_2)), (18, (.slice ao_2_9_1 (mZ + 1) cap_2_9_2)), (19, (.slice ao_2_13_1 (mE + 1) cap_2_13_2))]) (fun (b_2_3_1 : Nat) (ao_2_4_1 : Option Addr) (cap_2_4_2 : Nat) (b_2_8_1 : Nat) (ao_2_9_1 : Option Addr) (cap_2_9_2 : Nat) (b_2_12_1 : Nat) (ao_2_13_1 : Option Addr) (cap_2_13_2 : Nat) => [row (.slice ao_2_13_1 (mE + 1) cap_2_13_2) 3 1 ((ens ++ [r17]).flatMap intE), row (.slice (some ⟨b_2_12_1, 0, none⟩) 1 1) 3 1 [(.int .i64 r17)], row (.slice ao_2_9_1 (mZ + 1) cap_2_9_2) 3 1 ((szs ++ [(nth out6 i).size]).flatMap intE), row (.slice (some ⟨b_2_8_1, 0, none⟩) 1 1) 3 1 [(.int .i64 ((nth out6 i).size))], row (.slice ao_2_4_1 (mA + 1) cap_2_4_2) 3 1 ((ats ++ [(nth out6 i).time]).flatMap intE), row (.slice (some ⟨b_2_3_1, 0, none⟩) 1 1) 3 1 [(.int .i64 ((nth out6 i).time))], stb b1 57 [(.int .i64 (1 + (slow % 16))), (.int .i64 delay), (.int .i64 (store % 1001)), (.int .i64 now'19), (.int .i64 last'20), (.slice ao'22 m'24 cap'23)], row (.slice ao'22 m'24 cap'23) 67 2 (l'21.flatMap frE), stb b12 47 [(.int .i64 ((nth out6 i).time)), (.int .i64 ((nth out6 i).vl)), (.int .i64 ((nth out6 i).size))], row (.slice (some ⟨b11, 0, none⟩) m4 cap5) 47 3 (out6.flatMap sentE)]) (fun (b_2_3_1 : Nat) (ao_2_4_1 : Option Addr) (cap_2_4_2 : Nat) (b_2_8_1 : Nat) (ao_2_9_1 : Option Addr) (cap_2_9_2 : Nat) (b_2_12_1 : Nat) (ao_2_13_1 : Option Addr) (cap_2_13_2 : Nat) => True) (listedA 17 [16, 15, 14, 13, 12, 9, 8, 4, 3, 11, 10, 7, 6, 5, 2, 1, 0]) ?_ (fun K_2_3_4_8_9_12_13_14_15_16 => ?_)
        · skip
          rintro b_2_3_1 ao_2_4_1 cap_2_4_2 b_2_8_1 ao_2_9_1 cap_2_9_2 b_2_12_1 ao_2_13_1 cap_2_13_2 _
          refine WD.done (by kernel_rfl) ?_
          refine WX.blockNormal ?_
          refine WX.then ?_
          refine WC.region ?_
          refine WL.quiet (d := 169) rfl rfl rfl (q_add rfl rfl (w64 (by omega))) ?_
          refine WL.quiet (d := 49) rfl rfl rfl (q_move rfl) ?_
          refine WL.nil ?_
          exact WX.round (G := Int × Int × Int × Int × (Option Addr) × Nat × Nat × (List Fr) × (Option Addr) × Nat × Nat × (Option Addr) × Nat × Nat × (Option Addr) × Nat × Nat × (List Int) × (List Int) × (List Int)) ⟨(i + 1), now'19, r17, last'20, ao'22, m'24, cap'23, l'21, ao_2_4_1, (mA + 1), cap_2_4_2, ao_2_9_1, (mZ + 1), cap_2_9_2, ao_2_13_1, (mE + 1), cap_2_13_2, (ats ++ [(nth out6 i).time]), (szs ++ [(nth out6 i).size]), (ens ++ [r17])⟩ ⟨(by first | omega | (dsimp only; omega)), (by first | omega | (dsimp only; omega)), (by first | (dsimp only; exact ⟨by omega, fun hlt => by have := hov.two (i + 1) (by omega) hlt; rw [show i + 1 - 1 = i from by omega] at this; omega⟩) | (exact ⟨by omega, fun hlt => by have := hov.two (i + 1) (by omega) hlt; rw [show i + 1 - 1 = i from by omega] at this; omega⟩)), (by first | (dsimp only; omega) | (omega)), (by first | omega | (dsimp only; omega)), (by first | (dsimp only; exact hm1) | (exact hm1)), (by first | (dsimp only; omega) | (omega)), (by first | (dsimp only; exact hsz1) | (exact hsz1)), (by first | (dsimp only; refine ⟨?_, ?_, ?_⟩ <;> first | omega | (simp; omega)) | (refine ⟨?_, ?_, ?_⟩ <;> first | omega | (simp; omega))), (by first | (dsimp only; first | exact hlen | (simp; exact hlen)) | (first | exact hlen | (simp; exact hlen))), (by first | (dsimp only; first | exact hlea | (simp; exact hlea)) | (first | exact hlea | (simp; exact hlea))), (by first | (dsimp only; first | omega | (simp; omega)) | (first | omega | (simp; omega))), (by first | (dsimp only; exact ho5) | (exact ho5)), (by first | (dsimp only; first | exact hz | exact mem_snoc hz ⟨h3.2.2.1, h3.2.2.2⟩) | (first | exact hz | exact mem_snoc hz ⟨h3.2.2.1, h3.2.2.2⟩))⟩ (by first | omega | (dsimp only; omega)) (.cons rfl (.cons rfl (.cons rfl (.cons rfl (.cons rfl (.cons rfl (.cons rfl (.cons rfl (.cons rfl (.cons rfl (.cons rfl .nil))))))))))) (.cons (.there (.there (.there (.there (.there (.there (.there .here))))))) (.cons .here (.cons (.there .here) (.cons (.there (.there .here)) (.cons (.there (.there (.there (.there (.there .here))))) (.cons (.there (.there (.there .here))) .nil))))))
        refine WD.mids7 (fuel' := 4) (fun (b_2_3_1 : Nat) (ao_2_4_1 : Option Addr) (cap_2_4_2 : Nat) (b_2_8_1 : Nat) (ao_2_9_1 : Option Addr) (cap_2_9_2 : Nat) (b_2_12_1 : Nat) => [(11, (.int .i64 (1 + (slow % 16)))), (12, (.int .i64 delay)), (13, (.int .i64 (store % 1001))), (14, (.pointer (some ⟨b1, 0, none⟩))), (47, (.slice (some ⟨b11, 0, none⟩) m4 cap5)), (48, (.int .i64 ((m4 : Nat) : Int))), (49, (.int .i64 i)), (16, (.int .i64 r17)), (17, (.slice aoA mA capA)), (18, (.slice aoZ mZ capZ)), (19, (.slice aoE mE capE)), (165, (.slice aoE mE capE)), (159, (.slice ao_2_4_1 (mA + 1) cap_2_4_2)), (164, (.slice ao_2_9_1 (mZ + 1) cap_2_9_2)), (167, (.slice (some ⟨b_2_12_1, 0, none⟩) 1 1))]) (fun (b_2_3_1 : Nat) (ao_2_4_1 : Option Addr) (cap_2_4_2 : Nat) (b_2_8_1 : Nat) (ao_2_9_1 : Option Addr) (cap_2_9_2 : Nat) (b_2_12_1 : Nat) => [row (.slice (some ⟨b_2_12_1, 0, none⟩) 1 1) 3 1 [(.int .i64 r17)], row (.slice ao_2_9_1 (mZ + 1) cap_2_9_2) 3 1 ((szs ++ [(nth out6 i).size]).flatMap intE), row (.slice (some ⟨b_2_8_1, 0, none⟩) 1 1) 3 1 [(.int .i64 ((nth out6 i).size))], row (.slice ao_2_4_1 (mA + 1) cap_2_4_2) 3 1 ((ats ++ [(nth out6 i).time]).flatMap intE), row (.slice (some ⟨b_2_3_1, 0, none⟩) 1 1) 3 1 [(.int .i64 ((nth out6 i).time))], stb b1 57 [(.int .i64 (1 + (slow % 16))), (.int .i64 delay), (.int .i64 (store % 1001)), (.int .i64 now'19), (.int .i64 last'20), (.slice ao'22 m'24 cap'23)], row (.slice ao'22 m'24 cap'23) 67 2 (l'21.flatMap frE), stb b12 47 [(.int .i64 ((nth out6 i).time)), (.int .i64 ((nth out6 i).vl)), (.int .i64 ((nth out6 i).size))], row (.slice aoE mE capE) 3 1 (ens.flatMap intE), row (.slice (some ⟨b11, 0, none⟩) m4 cap5) 47 3 (out6.flatMap sentE)]) (fun (b_2_3_1 : Nat) (ao_2_4_1 : Option Addr) (cap_2_4_2 : Nat) (b_2_8_1 : Nat) (ao_2_9_1 : Option Addr) (cap_2_9_2 : Nat) (b_2_12_1 : Nat) => True) (listedA 17 [12, 9, 8, 4, 3, 11, 10, 7, 6, 5, 2, 1, 0]) ?_ (fun K_2_3_4_8_9_12 => ?_)
        · skip
          rintro b_2_3_1 ao_2_4_1 cap_2_4_2 b_2_8_1 ao_2_9_1 cap_2_9_2 b_2_12_1 _
          refine WD.old (i := 13) (dd := 168) rfl (by kernel_rfl) rfl rfl rfl rfl (fun _ => ⟨_, (.cons (.there (.there (.there (.there (.there (.there (.there (.there .here)))))))) .nil)⟩) (e_append elT_27 rfl rfl (.there (.there (.there (.there (.there (.there (.there (.there .here)))))))) (by rfl) (news_row .here) (oc_cons rfl oc_nil) (by unfold maxLen; omega) (by omega)) ?_
          rintro ⟨ao_2_13_1, cap_2_13_2⟩ _
          refine WD.rowEq .here (show _ = (ens ++ [r17]).flatMap intE from by simp [intE]) ?_
          refine WD.pure (i := 14) (d := 17) (by kernel_rfl) rfl (by kernel_rfl) (by kernel_rfl) rfl rfl rfl (fun _ => q_assign rfl) ?_
          refine WD.pure (i := 15) (d := 18) (by kernel_rfl) rfl (by kernel_rfl) (by kernel_rfl) rfl rfl rfl (fun _ => q_assign rfl) ?_
          refine WD.pure (i := 16) (d := 19) (by kernel_rfl) rfl (by kernel_rfl) (by kernel_rfl) rfl rfl rfl (fun _ => q_assign rfl) ?_
          exact WD.reL (.cons .here (.cons .here (.cons .here (.cons .here (.cons .here (.cons .here (.cons .here (.cons .here (.cons .here (.cons .here .nil)))))))))) (.cons rfl (.cons rfl (.cons rfl (.cons rfl (.cons rfl (.cons rfl (.cons rfl (.cons rfl (.cons rfl (.cons rfl (.cons rfl .nil))))))))))) (K_2_3_4_8_9_12_13_14_15_16 b_2_3_1 ao_2_4_1 cap_2_4_2 b_2_8_1 ao_2_9_1 cap_2_9_2 b_2_12_1 ao_2_13_1 cap_2_13_2 trivial)
        refine WD.mids6 (fuel' := 5) (fun (b_2_3_1 : Nat) (ao_2_4_1 : Option Addr) (cap_2_4_2 : Nat) (b_2_8_1 : Nat) (ao_2_9_1 : Option Addr) (cap_2_9_2 : Nat) => [(11, (.int .i64 (1 + (slow % 16)))), (12, (.int .i64 delay)), (13, (.int .i64 (store % 1001))), (14, (.pointer (some ⟨b1, 0, none⟩))), (47, (.slice (some ⟨b11, 0, none⟩) m4 cap5)), (48, (.int .i64 ((m4 : Nat) : Int))), (49, (.int .i64 i)), (16, (.int .i64 r17)), (17, (.slice aoA mA capA)), (18, (.slice aoZ mZ capZ)), (19, (.slice aoE mE capE)), (165, (.slice aoE mE capE)), (166, (.int .i64 r17)), (159, (.slice ao_2_4_1 (mA + 1) cap_2_4_2)), (164, (.slice ao_2_9_1 (mZ + 1) cap_2_9_2))]) (fun (b_2_3_1 : Nat) (ao_2_4_1 : Option Addr) (cap_2_4_2 : Nat) (b_2_8_1 : Nat) (ao_2_9_1 : Option Addr) (cap_2_9_2 : Nat) => [row (.slice ao_2_9_1 (mZ + 1) cap_2_9_2) 3 1 ((szs ++ [(nth out6 i).size]).flatMap intE), row (.slice (some ⟨b_2_8_1, 0, none⟩) 1 1) 3 1 [(.int .i64 ((nth out6 i).size))], row (.slice ao_2_4_1 (mA + 1) cap_2_4_2) 3 1 ((ats ++ [(nth out6 i).time]).flatMap intE), row (.slice (some ⟨b_2_3_1, 0, none⟩) 1 1) 3 1 [(.int .i64 ((nth out6 i).time))], stb b1 57 [(.int .i64 (1 + (slow % 16))), (.int .i64 delay), (.int .i64 (store % 1001)), (.int .i64 now'19), (.int .i64 last'20), (.slice ao'22 m'24 cap'23)], row (.slice ao'22 m'24 cap'23) 67 2 (l'21.flatMap frE), stb b12 47 [(.int .i64 ((nth out6 i).time)), (.int .i64 ((nth out6 i).vl)), (.int .i64 ((nth out6 i).size))], row (.slice aoE mE capE) 3 1 (ens.flatMap intE), row (.slice (some ⟨b11, 0, none⟩) m4 cap5) 47 3 (out6.flatMap sentE)]) (fun (b_2_3_1 : Nat) (ao_2_4_1 : Option Addr) (cap_2_4_2 : Nat) (b_2_8_1 : Nat) (ao_2_9_1 : Option Addr) (cap_2_9_2 : Nat) => True) (listedA 17 [9, 8, 4, 3, 11, 10, 7, 6, 5, 2, 1, 0]) ?_ (fun K_2_3_4_8_9 => ?_)
        · skip
          rintro b_2_3_1 ao_2_4_1 cap_2_4_2 b_2_8_1 ao_2_9_1 cap_2_9_2 _
          refine WD.new (i := 12) (dd := 167) rfl (by kernel_rfl) rfl rfl rfl (e_buildSlice (cs := [(.int .i64 r17)]) elT_27 (Eos.parts (l := [.tmp 166]) (.cons rfl .nil) [0]) (fun _ => by kernel_rfl) rfl (by unfold maxLen; omega)) (fun h => absurd h (by decide)) ?_
          intro b_2_12_1 _
          exact WD.reL (.cons .here (.cons .here (.cons .here (.cons .here (.cons .here (.cons .here (.cons .here (.cons .here (.cons .here (.cons .here .nil)))))))))) (.cons rfl (.cons rfl (.cons rfl (.cons rfl (.cons rfl (.cons rfl (.cons rfl (.cons rfl (.cons rfl (.cons rfl (.cons rfl (.cons rfl (.cons rfl (.cons rfl (.cons rfl .nil))))))))))))))) (K_2_3_4_8_9_12 b_2_3_1 ao_2_4_1 cap_2_4_2 b_2_8_1 ao_2_9_1 cap_2_9_2 b_2_12_1 trivial)
        refine WD.mids5 (fuel' := 5) (fun (b_2_3_1 : Nat) (ao_2_4_1 : Option Addr) (cap_2_4_2 : Nat) (b_2_8_1 : Nat) (b_2_12_1 : Nat) => [(11, (.int .i64 (1 + (slow % 16)))), (12, (.int .i64 delay)), (13, (.int .i64 (store % 1001))), (14, (.pointer (some ⟨b1, 0, none⟩))), (47, (.slice (some ⟨b11, 0, none⟩) m4 cap5)), (48, (.int .i64 ((m4 : Nat) : Int))), (49, (.int .i64 i)), (16, (.int .i64 r17)), (17, (.slice aoA mA capA)), (18, (.slice aoZ mZ capZ)), (19, (.slice aoE mE capE)), (160, (.slice aoZ mZ capZ)), (165, (.slice aoE mE capE)), (159, (.slice ao_2_4_1 (mA + 1) cap_2_4_2)), (163, (.slice (some ⟨b_2_8_1, 0, none⟩) 1 1)), (167, (.slice (some ⟨b_2_12_1, 0, none⟩) 1 1))]) (fun (b_2_3_1 : Nat) (ao_2_4_1 : Option Addr) (cap_2_4_2 : Nat) (b_2_8_1 : Nat) (b_2_12_1 : Nat) => [row (.slice (some ⟨b_2_12_1, 0, none⟩) 1 1) 3 1 [(.int .i64 r17)], row (.slice (some ⟨b_2_8_1, 0, none⟩) 1 1) 3 1 [(.int .i64 ((nth out6 i).size))], row (.slice ao_2_4_1 (mA + 1) cap_2_4_2) 3 1 ((ats ++ [(nth out6 i).time]).flatMap intE), row (.slice (some ⟨b_2_3_1, 0, none⟩) 1 1) 3 1 [(.int .i64 ((nth out6 i).time))], stb b1 57 [(.int .i64 (1 + (slow % 16))), (.int .i64 delay), (.int .i64 (store % 1001)), (.int .i64 now'19), (.int .i64 last'20), (.slice ao'22 m'24 cap'23)], row (.slice ao'22 m'24 cap'23) 67 2 (l'21.flatMap frE), stb b12 47 [(.int .i64 ((nth out6 i).time)), (.int .i64 ((nth out6 i).vl)), (.int .i64 ((nth out6 i).size))], row (.slice aoE mE capE) 3 1 (ens.flatMap intE), row (.slice aoZ mZ capZ) 3 1 (szs.flatMap intE), row (.slice (some ⟨b11, 0, none⟩) m4 cap5) 47 3 (out6.flatMap sentE)]) (fun (b_2_3_1 : Nat) (ao_2_4_1 : Option Addr) (cap_2_4_2 : Nat) (b_2_8_1 : Nat) (b_2_12_1 : Nat) => True) (listedA 17 [12, 8, 4, 3, 11, 10, 7, 6, 5, 2, 1, 0]) ?_ (fun K_2_3_4_8_12 => ?_)
        · skip
          rintro b_2_3_1 ao_2_4_1 cap_2_4_2 b_2_8_1 b_2_12_1 _
          refine WD.old (i := 9) (dd := 164) rfl (by kernel_rfl) rfl rfl rfl rfl (fun _ => ⟨_, (.cons (.there (.there (.there (.there (.there (.there (.there .here))))))) .nil)⟩) (e_append elT_27 rfl rfl (.there (.there (.there (.there (.there (.there (.there (.there .here)))))))) (by rfl) (news_row (.there .here)) (oc_cons rfl oc_nil) (by unfold maxLen; omega) (by omega)) ?_
          rintro ⟨ao_2_9_1, cap_2_9_2⟩ _
          refine WD.rowEq .here (show _ = (szs ++ [(nth out6 i).size]).flatMap intE from by simp [intE]) ?_
          exact WD.reL (.cons (.there .here) (.cons .here (.cons .here (.cons .here (.cons .here (.cons .here (.cons .here (.cons .here (.cons .here (.cons .here .nil)))))))))) (.cons rfl (.cons rfl (.cons rfl (.cons rfl (.cons rfl (.cons rfl (.cons rfl (.cons rfl (.cons rfl (.cons rfl (.cons rfl (.cons rfl (.cons rfl (.cons rfl (.cons rfl .nil))))))))))))))) (K_2_3_4_8_9_12 b_2_3_1 ao_2_4_1 cap_2_4_2 b_2_8_1 ao_2_9_1 cap_2_9_2 b_2_12_1 trivial)
        refine WD.mids4 (fuel' := 6) (fun (b_2_3_1 : Nat) (ao_2_4_1 : Option Addr) (cap_2_4_2 : Nat) (b_2_8_1 : Nat) => [(11, (.int .i64 (1 + (slow % 16)))), (12, (.int .i64 delay)), (13, (.int .i64 (store % 1001))), (14, (.pointer (some ⟨b1, 0, none⟩))), (47, (.slice (some ⟨b11, 0, none⟩) m4 cap5)), (48, (.int .i64 ((m4 : Nat) : Int))), (49, (.int .i64 i)), (16, (.int .i64 r17)), (17, (.slice aoA mA capA)), (18, (.slice aoZ mZ capZ)), (19, (.slice aoE mE capE)), (160, (.slice aoZ mZ capZ)), (165, (.slice aoE mE capE)), (166, (.int .i64 r17)), (159, (.slice ao_2_4_1 (mA + 1) cap_2_4_2)), (163, (.slice (some ⟨b_2_8_1, 0, none⟩) 1 1))]) (fun (b_2_3_1 : Nat) (ao_2_4_1 : Option Addr) (cap_2_4_2 : Nat) (b_2_8_1 : Nat) => [row (.slice (some ⟨b_2_8_1, 0, none⟩) 1 1) 3 1 [(.int .i64 ((nth out6 i).size))], row (.slice ao_2_4_1 (mA + 1) cap_2_4_2) 3 1 ((ats ++ [(nth out6 i).time]).flatMap intE), row (.slice (some ⟨b_2_3_1, 0, none⟩) 1 1) 3 1 [(.int .i64 ((nth out6 i).time))], stb b1 57 [(.int .i64 (1 + (slow % 16))), (.int .i64 delay), (.int .i64 (store % 1001)), (.int .i64 now'19), (.int .i64 last'20), (.slice ao'22 m'24 cap'23)], row (.slice ao'22 m'24 cap'23) 67 2 (l'21.flatMap frE), stb b12 47 [(.int .i64 ((nth out6 i).time)), (.int .i64 ((nth out6 i).vl)), (.int .i64 ((nth out6 i).size))], row (.slice aoE mE capE) 3 1 (ens.flatMap intE), row (.slice aoZ mZ capZ) 3 1 (szs.flatMap intE), row (.slice (some ⟨b11, 0, none⟩) m4 cap5) 47 3 (out6.flatMap sentE)]) (fun (b_2_3_1 : Nat) (ao_2_4_1 : Option Addr) (cap_2_4_2 : Nat) (b_2_8_1 : Nat) => True) (listedA 17 [8, 4, 3, 11, 10, 7, 6, 5, 2, 1, 0]) ?_ (fun K_2_3_4_8 => ?_)
        · skip
          rintro b_2_3_1 ao_2_4_1 cap_2_4_2 b_2_8_1 _
          refine WD.choose [9, 12] (by kernel_rfl) rfl ?_
          refine WDo.cons ?_ (WDo.cons ?_ (WDo.nil))
          · refine WDo.old (i := 9) (dd := 164) rfl rfl rfl rfl rfl (fun _ => ⟨_, (.cons (.there (.there (.there (.there (.there (.there .here)))))) .nil)⟩) (e_append elT_27 rfl rfl (.there (.there (.there (.there (.there (.there (.there .here))))))) (by rfl) (news_row .here) (oc_cons rfl oc_nil) (by unfold maxLen; omega) (by omega)) ?_
            rintro ⟨ao_2_9_1, cap_2_9_2⟩ _
            refine WD.rowEq .here (show _ = (szs ++ [(nth out6 i).size]).flatMap intE from by simp [intE]) ?_
            exact WD.reL (.cons .here (.cons .here (.cons .here (.cons .here (.cons .here (.cons .here (.cons .here (.cons .here (.cons .here .nil))))))))) (.cons rfl (.cons rfl (.cons rfl (.cons rfl (.cons rfl (.cons rfl (.cons rfl (.cons rfl (.cons rfl (.cons rfl (.cons rfl (.cons rfl (.cons rfl (.cons rfl (.cons rfl .nil))))))))))))))) (K_2_3_4_8_9 b_2_3_1 ao_2_4_1 cap_2_4_2 b_2_8_1 ao_2_9_1 cap_2_9_2 trivial)
          · refine WDo.new (i := 12) (dd := 167) rfl rfl rfl rfl (e_buildSlice (cs := [(.int .i64 r17)]) elT_27 (Eos.parts (l := [.tmp 166]) (.cons rfl .nil) [0]) (fun _ => by kernel_rfl) rfl (by unfold maxLen; omega)) (fun h => absurd h (by decide)) ?_
            intro b_2_12_1 _
            exact WD.reL (.cons .here (.cons .here (.cons .here (.cons .here (.cons .here (.cons .here (.cons .here (.cons .here (.cons .here (.cons .here .nil)))))))))) (.cons rfl (.cons rfl (.cons rfl (.cons rfl (.cons rfl (.cons rfl (.cons rfl (.cons rfl (.cons rfl (.cons rfl (.cons rfl (.cons rfl (.cons rfl (.cons rfl (.cons rfl (.cons rfl .nil)))))))))))))))) (K_2_3_4_8_12 b_2_3_1 ao_2_4_1 cap_2_4_2 b_2_8_1 b_2_12_1 trivial)
        refine WD.mids4 (fuel' := 6) (fun (b_2_3_1 : Nat) (ao_2_4_1 : Option Addr) (cap_2_4_2 : Nat) (b_2_12_1 : Nat) => [(11, (.int .i64 (1 + (slow % 16)))), (12, (.int .i64 delay)), (13, (.int .i64 (store % 1001))), (14, (.pointer (some ⟨b1, 0, none⟩))), (47, (.slice (some ⟨b11, 0, none⟩) m4 cap5)), (48, (.int .i64 ((m4 : Nat) : Int))), (49, (.int .i64 i)), (16, (.int .i64 r17)), (17, (.slice aoA mA capA)), (18, (.slice aoZ mZ capZ)), (19, (.slice aoE mE capE)), (160, (.slice aoZ mZ capZ)), (162, (.int .i64 ((nth out6 i).size))), (165, (.slice aoE mE capE)), (159, (.slice ao_2_4_1 (mA + 1) cap_2_4_2)), (167, (.slice (some ⟨b_2_12_1, 0, none⟩) 1 1))]) (fun (b_2_3_1 : Nat) (ao_2_4_1 : Option Addr) (cap_2_4_2 : Nat) (b_2_12_1 : Nat) => [row (.slice (some ⟨b_2_12_1, 0, none⟩) 1 1) 3 1 [(.int .i64 r17)], row (.slice ao_2_4_1 (mA + 1) cap_2_4_2) 3 1 ((ats ++ [(nth out6 i).time]).flatMap intE), row (.slice (some ⟨b_2_3_1, 0, none⟩) 1 1) 3 1 [(.int .i64 ((nth out6 i).time))], stb b1 57 [(.int .i64 (1 + (slow % 16))), (.int .i64 delay), (.int .i64 (store % 1001)), (.int .i64 now'19), (.int .i64 last'20), (.slice ao'22 m'24 cap'23)], row (.slice ao'22 m'24 cap'23) 67 2 (l'21.flatMap frE), stb b12 47 [(.int .i64 ((nth out6 i).time)), (.int .i64 ((nth out6 i).vl)), (.int .i64 ((nth out6 i).size))], row (.slice aoE mE capE) 3 1 (ens.flatMap intE), row (.slice aoZ mZ capZ) 3 1 (szs.flatMap intE), row (.slice (some ⟨b11, 0, none⟩) m4 cap5) 47 3 (out6.flatMap sentE)]) (fun (b_2_3_1 : Nat) (ao_2_4_1 : Option Addr) (cap_2_4_2 : Nat) (b_2_12_1 : Nat) => True) (listedA 17 [12, 4, 3, 11, 10, 7, 6, 5, 2, 1, 0]) ?_ (fun K_2_3_4_12 => ?_)
        · skip
          rintro b_2_3_1 ao_2_4_1 cap_2_4_2 b_2_12_1 _
          refine WD.new (i := 8) (dd := 163) rfl (by kernel_rfl) rfl rfl rfl (e_buildSlice (cs := [(.int .i64 ((nth out6 i).size))]) elT_27 (Eos.parts (l := [.tmp 162]) (.cons rfl .nil) [0]) (fun _ => by kernel_rfl) rfl (by unfold maxLen; omega)) (fun h => absurd h (by decide)) ?_
          intro b_2_8_1 _
          exact WD.reL (.cons (.there .here) (.cons .here (.cons .here (.cons .here (.cons .here (.cons .here (.cons .here (.cons .here (.cons .here (.cons .here .nil)))))))))) (.cons rfl (.cons rfl (.cons rfl (.cons rfl (.cons rfl (.cons rfl (.cons rfl (.cons rfl (.cons rfl (.cons rfl (.cons rfl (.cons rfl (.cons rfl (.cons rfl (.cons rfl (.cons rfl .nil)))))))))))))))) (K_2_3_4_8_12 b_2_3_1 ao_2_4_1 cap_2_4_2 b_2_8_1 b_2_12_1 trivial)
        refine WD.mids3 (fuel' := 6) (fun (b_2_3_1 : Nat) (b_2_8_1 : Nat) (b_2_12_1 : Nat) => [(11, (.int .i64 (1 + (slow % 16)))), (12, (.int .i64 delay)), (13, (.int .i64 (store % 1001))), (14, (.pointer (some ⟨b1, 0, none⟩))), (47, (.slice (some ⟨b11, 0, none⟩) m4 cap5)), (48, (.int .i64 ((m4 : Nat) : Int))), (49, (.int .i64 i)), (16, (.int .i64 r17)), (17, (.slice aoA mA capA)), (18, (.slice aoZ mZ capZ)), (19, (.slice aoE mE capE)), (155, (.slice aoA mA capA)), (160, (.slice aoZ mZ capZ)), (165, (.slice aoE mE capE)), (158, (.slice (some ⟨b_2_3_1, 0, none⟩) 1 1)), (163, (.slice (some ⟨b_2_8_1, 0, none⟩) 1 1)), (167, (.slice (some ⟨b_2_12_1, 0, none⟩) 1 1))]) (fun (b_2_3_1 : Nat) (b_2_8_1 : Nat) (b_2_12_1 : Nat) => [row (.slice (some ⟨b_2_12_1, 0, none⟩) 1 1) 3 1 [(.int .i64 r17)], row (.slice (some ⟨b_2_8_1, 0, none⟩) 1 1) 3 1 [(.int .i64 ((nth out6 i).size))], row (.slice (some ⟨b_2_3_1, 0, none⟩) 1 1) 3 1 [(.int .i64 ((nth out6 i).time))], stb b1 57 [(.int .i64 (1 + (slow % 16))), (.int .i64 delay), (.int .i64 (store % 1001)), (.int .i64 now'19), (.int .i64 last'20), (.slice ao'22 m'24 cap'23)], row (.slice ao'22 m'24 cap'23) 67 2 (l'21.flatMap frE), stb b12 47 [(.int .i64 ((nth out6 i).time)), (.int .i64 ((nth out6 i).vl)), (.int .i64 ((nth out6 i).size))], row (.slice aoE mE capE) 3 1 (ens.flatMap intE), row (.slice aoZ mZ capZ) 3 1 (szs.flatMap intE), row (.slice aoA mA capA) 3 1 (ats.flatMap intE), row (.slice (some ⟨b11, 0, none⟩) m4 cap5) 47 3 (out6.flatMap sentE)]) (fun (b_2_3_1 : Nat) (b_2_8_1 : Nat) (b_2_12_1 : Nat) => True) (listedA 17 [12, 8, 3, 11, 10, 7, 6, 5, 2, 1, 0]) ?_ (fun K_2_3_8_12 => ?_)
        · skip
          rintro b_2_3_1 b_2_8_1 b_2_12_1 _
          refine WD.old (i := 4) (dd := 159) rfl (by kernel_rfl) rfl rfl rfl rfl (fun _ => ⟨_, (.cons (.there (.there (.there (.there (.there (.there .here)))))) .nil)⟩) (e_append elT_27 rfl rfl (.there (.there (.there (.there (.there (.there (.there (.there .here)))))))) (by rfl) (news_row (.there (.there .here))) (oc_cons rfl oc_nil) (by unfold maxLen; omega) (by omega)) ?_
          rintro ⟨ao_2_4_1, cap_2_4_2⟩ _
          refine WD.rowEq .here (show _ = (ats ++ [(nth out6 i).time]).flatMap intE from by simp [intE]) ?_
          exact WD.reL (.cons (.there .here) (.cons (.there .here) (.cons .here (.cons .here (.cons .here (.cons .here (.cons .here (.cons .here (.cons .here (.cons .here .nil)))))))))) (.cons rfl (.cons rfl (.cons rfl (.cons rfl (.cons rfl (.cons rfl (.cons rfl (.cons rfl (.cons rfl (.cons rfl (.cons rfl (.cons rfl (.cons rfl (.cons rfl (.cons rfl (.cons rfl .nil)))))))))))))))) (K_2_3_4_8_12 b_2_3_1 ao_2_4_1 cap_2_4_2 b_2_8_1 b_2_12_1 trivial)
        refine WD.mids3 (fuel' := 7) (fun (b_2_3_1 : Nat) (ao_2_4_1 : Option Addr) (cap_2_4_2 : Nat) => [(11, (.int .i64 (1 + (slow % 16)))), (12, (.int .i64 delay)), (13, (.int .i64 (store % 1001))), (14, (.pointer (some ⟨b1, 0, none⟩))), (47, (.slice (some ⟨b11, 0, none⟩) m4 cap5)), (48, (.int .i64 ((m4 : Nat) : Int))), (49, (.int .i64 i)), (16, (.int .i64 r17)), (17, (.slice aoA mA capA)), (18, (.slice aoZ mZ capZ)), (19, (.slice aoE mE capE)), (160, (.slice aoZ mZ capZ)), (162, (.int .i64 ((nth out6 i).size))), (165, (.slice aoE mE capE)), (166, (.int .i64 r17)), (159, (.slice ao_2_4_1 (mA + 1) cap_2_4_2))]) (fun (b_2_3_1 : Nat) (ao_2_4_1 : Option Addr) (cap_2_4_2 : Nat) => [row (.slice ao_2_4_1 (mA + 1) cap_2_4_2) 3 1 ((ats ++ [(nth out6 i).time]).flatMap intE), row (.slice (some ⟨b_2_3_1, 0, none⟩) 1 1) 3 1 [(.int .i64 ((nth out6 i).time))], stb b1 57 [(.int .i64 (1 + (slow % 16))), (.int .i64 delay), (.int .i64 (store % 1001)), (.int .i64 now'19), (.int .i64 last'20), (.slice ao'22 m'24 cap'23)], row (.slice ao'22 m'24 cap'23) 67 2 (l'21.flatMap frE), stb b12 47 [(.int .i64 ((nth out6 i).time)), (.int .i64 ((nth out6 i).vl)), (.int .i64 ((nth out6 i).size))], row (.slice aoE mE capE) 3 1 (ens.flatMap intE), row (.slice aoZ mZ capZ) 3 1 (szs.flatMap intE), row (.slice (some ⟨b11, 0, none⟩) m4 cap5) 47 3 (out6.flatMap sentE)]) (fun (b_2_3_1 : Nat) (ao_2_4_1 : Option Addr) (cap_2_4_2 : Nat) => True) (listedA 17 [4, 3, 11, 10, 7, 6, 5, 2, 1, 0]) ?_ (fun K_2_3_4 => ?_)
        · skip
          rintro b_2_3_1 ao_2_4_1 cap_2_4_2 _
          refine WD.choose [8, 12] (by kernel_rfl) rfl ?_
          refine WDo.cons ?_ (WDo.cons ?_ (WDo.nil))
          · refine WDo.new (i := 8) (dd := 163) rfl rfl rfl rfl (e_buildSlice (cs := [(.int .i64 ((nth out6 i).size))]) elT_27 (Eos.parts (l := [.tmp 162]) (.cons rfl .nil) [0]) (fun _ => by kernel_rfl) rfl (by unfold maxLen; omega)) (fun h => absurd h (by decide)) ?_
            intro b_2_8_1 _
            exact WD.reL (.cons .here (.cons .here (.cons .here (.cons .here (.cons .here (.cons .here (.cons .here (.cons .here (.cons .here .nil))))))))) (.cons rfl (.cons rfl (.cons rfl (.cons rfl (.cons rfl (.cons rfl (.cons rfl (.cons rfl (.cons rfl (.cons rfl (.cons rfl (.cons rfl (.cons rfl (.cons rfl (.cons rfl (.cons rfl .nil)))))))))))))))) (K_2_3_4_8 b_2_3_1 ao_2_4_1 cap_2_4_2 b_2_8_1 trivial)
          · refine WDo.new (i := 12) (dd := 167) rfl rfl rfl rfl (e_buildSlice (cs := [(.int .i64 r17)]) elT_27 (Eos.parts (l := [.tmp 166]) (.cons rfl .nil) [0]) (fun _ => by kernel_rfl) rfl (by unfold maxLen; omega)) (fun h => absurd h (by decide)) ?_
            intro b_2_12_1 _
            exact WD.reL (.cons .here (.cons .here (.cons .here (.cons .here (.cons .here (.cons .here (.cons .here (.cons .here (.cons .here .nil))))))))) (.cons rfl (.cons rfl (.cons rfl (.cons rfl (.cons rfl (.cons rfl (.cons rfl (.cons rfl (.cons rfl (.cons rfl (.cons rfl (.cons rfl (.cons rfl (.cons rfl (.cons rfl (.cons rfl .nil)))))))))))))))) (K_2_3_4_12 b_2_3_1 ao_2_4_1 cap_2_4_2 b_2_12_1 trivial)
        refine WD.mids2 (fuel' := 7) (fun (b_2_3_1 : Nat) (b_2_8_1 : Nat) => [(11, (.int .i64 (1 + (slow % 16)))), (12, (.int .i64 delay)), (13, (.int .i64 (store % 1001))), (14, (.pointer (some ⟨b1, 0, none⟩))), (47, (.slice (some ⟨b11, 0, none⟩) m4 cap5)), (48, (.int .i64 ((m4 : Nat) : Int))), (49, (.int .i64 i)), (16, (.int .i64 r17)), (17, (.slice aoA mA capA)), (18, (.slice aoZ mZ capZ)), (19, (.slice aoE mE capE)), (155, (.slice aoA mA capA)), (160, (.slice aoZ mZ capZ)), (165, (.slice aoE mE capE)), (166, (.int .i64 r17)), (158, (.slice (some ⟨b_2_3_1, 0, none⟩) 1 1)), (163, (.slice (some ⟨b_2_8_1, 0, none⟩) 1 1))]) (fun (b_2_3_1 : Nat) (b_2_8_1 : Nat) => [row (.slice (some ⟨b_2_8_1, 0, none⟩) 1 1) 3 1 [(.int .i64 ((nth out6 i).size))], row (.slice (some ⟨b_2_3_1, 0, none⟩) 1 1) 3 1 [(.int .i64 ((nth out6 i).time))], stb b1 57 [(.int .i64 (1 + (slow % 16))), (.int .i64 delay), (.int .i64 (store % 1001)), (.int .i64 now'19), (.int .i64 last'20), (.slice ao'22 m'24 cap'23)], row (.slice ao'22 m'24 cap'23) 67 2 (l'21.flatMap frE), stb b12 47 [(.int .i64 ((nth out6 i).time)), (.int .i64 ((nth out6 i).vl)), (.int .i64 ((nth out6 i).size))], row (.slice aoE mE capE) 3 1 (ens.flatMap intE), row (.slice aoZ mZ capZ) 3 1 (szs.flatMap intE), row (.slice aoA mA capA) 3 1 (ats.flatMap intE), row (.slice (some ⟨b11, 0, none⟩) m4 cap5) 47 3 (out6.flatMap sentE)]) (fun (b_2_3_1 : Nat) (b_2_8_1 : Nat) => True) (listedA 17 [8, 3, 11, 10, 7, 6, 5, 2, 1, 0]) ?_ (fun K_2_3_8 => ?_)
        · skip
          rintro b_2_3_1 b_2_8_1 _
          refine WD.choose [4, 12] (by kernel_rfl) rfl ?_
          refine WDo.cons ?_ (WDo.cons ?_ (WDo.nil))
          · refine WDo.old (i := 4) (dd := 159) rfl rfl rfl rfl rfl (fun _ => ⟨_, (.cons (.there (.there (.there (.there (.there .here))))) .nil)⟩) (e_append elT_27 rfl rfl (.there (.there (.there (.there (.there (.there (.there .here))))))) (by rfl) (news_row (.there .here)) (oc_cons rfl oc_nil) (by unfold maxLen; omega) (by omega)) ?_
            rintro ⟨ao_2_4_1, cap_2_4_2⟩ _
            refine WD.rowEq .here (show _ = (ats ++ [(nth out6 i).time]).flatMap intE from by simp [intE]) ?_
            exact WD.reL (.cons (.there .here) (.cons .here (.cons .here (.cons .here (.cons .here (.cons .here (.cons .here (.cons .here (.cons .here .nil))))))))) (.cons rfl (.cons rfl (.cons rfl (.cons rfl (.cons rfl (.cons rfl (.cons rfl (.cons rfl (.cons rfl (.cons rfl (.cons rfl (.cons rfl (.cons rfl (.cons rfl (.cons rfl (.cons rfl .nil)))))))))))))))) (K_2_3_4_8 b_2_3_1 ao_2_4_1 cap_2_4_2 b_2_8_1 trivial)
          · refine WDo.new (i := 12) (dd := 167) rfl rfl rfl rfl (e_buildSlice (cs := [(.int .i64 r17)]) elT_27 (Eos.parts (l := [.tmp 166]) (.cons rfl .nil) [0]) (fun _ => by kernel_rfl) rfl (by unfold maxLen; omega)) (fun h => absurd h (by decide)) ?_
            intro b_2_12_1 _
            exact WD.reL (.cons .here (.cons .here (.cons .here (.cons .here (.cons .here (.cons .here (.cons .here (.cons .here (.cons .here (.cons .here .nil)))))))))) (.cons rfl (.cons rfl (.cons rfl (.cons rfl (.cons rfl (.cons rfl (.cons rfl (.cons rfl (.cons rfl (.cons rfl (.cons rfl (.cons rfl (.cons rfl (.cons rfl (.cons rfl (.cons rfl (.cons rfl .nil))))))))))))))))) (K_2_3_8_12 b_2_3_1 b_2_8_1 b_2_12_1 trivial)
        refine WD.mids2 (fuel' := 7) (fun (b_2_3_1 : Nat) (b_2_12_1 : Nat) => [(11, (.int .i64 (1 + (slow % 16)))), (12, (.int .i64 delay)), (13, (.int .i64 (store % 1001))), (14, (.pointer (some ⟨b1, 0, none⟩))), (47, (.slice (some ⟨b11, 0, none⟩) m4 cap5)), (48, (.int .i64 ((m4 : Nat) : Int))), (49, (.int .i64 i)), (16, (.int .i64 r17)), (17, (.slice aoA mA capA)), (18, (.slice aoZ mZ capZ)), (19, (.slice aoE mE capE)), (155, (.slice aoA mA capA)), (160, (.slice aoZ mZ capZ)), (162, (.int .i64 ((nth out6 i).size))), (165, (.slice aoE mE capE)), (158, (.slice (some ⟨b_2_3_1, 0, none⟩) 1 1)), (167, (.slice (some ⟨b_2_12_1, 0, none⟩) 1 1))]) (fun (b_2_3_1 : Nat) (b_2_12_1 : Nat) => [row (.slice (some ⟨b_2_12_1, 0, none⟩) 1 1) 3 1 [(.int .i64 r17)], row (.slice (some ⟨b_2_3_1, 0, none⟩) 1 1) 3 1 [(.int .i64 ((nth out6 i).time))], stb b1 57 [(.int .i64 (1 + (slow % 16))), (.int .i64 delay), (.int .i64 (store % 1001)), (.int .i64 now'19), (.int .i64 last'20), (.slice ao'22 m'24 cap'23)], row (.slice ao'22 m'24 cap'23) 67 2 (l'21.flatMap frE), stb b12 47 [(.int .i64 ((nth out6 i).time)), (.int .i64 ((nth out6 i).vl)), (.int .i64 ((nth out6 i).size))], row (.slice aoE mE capE) 3 1 (ens.flatMap intE), row (.slice aoZ mZ capZ) 3 1 (szs.flatMap intE), row (.slice aoA mA capA) 3 1 (ats.flatMap intE), row (.slice (some ⟨b11, 0, none⟩) m4 cap5) 47 3 (out6.flatMap sentE)]) (fun (b_2_3_1 : Nat) (b_2_12_1 : Nat) => True) (listedA 17 [12, 3, 11, 10, 7, 6, 5, 2, 1, 0]) ?_ (fun K_2_3_12 => ?_)
        · skip
          rintro b_2_3_1 b_2_12_1 _
          refine WD.choose [4, 8] (by kernel_rfl) rfl ?_
          refine WDo.cons ?_ (WDo.cons ?_ (WDo.nil))
          · refine WDo.old (i := 4) (dd := 159) rfl rfl rfl rfl rfl (fun _ => ⟨_, (.cons (.there (.there (.there (.there (.there .here))))) .nil)⟩) (e_append elT_27 rfl rfl (.there (.there (.there (.there (.there (.there (.there .here))))))) (by rfl) (news_row (.there .here)) (oc_cons rfl oc_nil) (by unfold maxLen; omega) (by omega)) ?_
            rintro ⟨ao_2_4_1, cap_2_4_2⟩ _
            refine WD.rowEq .here (show _ = (ats ++ [(nth out6 i).time]).flatMap intE from by simp [intE]) ?_
            exact WD.reL (.cons (.there .here) (.cons .here (.cons .here (.cons .here (.cons .here (.cons .here (.cons .here (.cons .here (.cons .here .nil))))))))) (.cons rfl (.cons rfl (.cons rfl (.cons rfl (.cons rfl (.cons rfl (.cons rfl (.cons rfl (.cons rfl (.cons rfl (.cons rfl (.cons rfl (.cons rfl (.cons rfl (.cons rfl (.cons rfl .nil)))))))))))))))) (K_2_3_4_12 b_2_3_1 ao_2_4_1 cap_2_4_2 b_2_12_1 trivial)
          · refine WDo.new (i := 8) (dd := 163) rfl rfl rfl rfl (e_buildSlice (cs := [(.int .i64 ((nth out6 i).size))]) elT_27 (Eos.parts (l := [.tmp 162]) (.cons rfl .nil) [0]) (fun _ => by kernel_rfl) rfl (by unfold maxLen; omega)) (fun h => absurd h (by decide)) ?_
            intro b_2_8_1 _
            exact WD.reL (.cons (.there .here) (.cons .here (.cons .here (.cons .here (.cons .here (.cons .here (.cons .here (.cons .here (.cons .here (.cons .here .nil)))))))))) (.cons rfl (.cons rfl (.cons rfl (.cons rfl (.cons rfl (.cons rfl (.cons rfl (.cons rfl (.cons rfl (.cons rfl (.cons rfl (.cons rfl (.cons rfl (.cons rfl (.cons rfl (.cons rfl (.cons rfl .nil))))))))))))))))) (K_2_3_8_12 b_2_3_1 b_2_8_1 b_2_12_1 trivial)
        refine WD.mids2 (fuel' := 7) (fun (b_2_8_1 : Nat) (b_2_12_1 : Nat) => [(11, (.int .i64 (1 + (slow % 16)))), (12, (.int .i64 delay)), (13, (.int .i64 (store % 1001))), (14, (.pointer (some ⟨b1, 0, none⟩))), (47, (.slice (some ⟨b11, 0, none⟩) m4 cap5)), (48, (.int .i64 ((m4 : Nat) : Int))), (49, (.int .i64 i)), (16, (.int .i64 r17)), (17, (.slice aoA mA capA)), (18, (.slice aoZ mZ capZ)), (19, (.slice aoE mE capE)), (155, (.slice aoA mA capA)), (157, (.int .i64 ((nth out6 i).time))), (160, (.slice aoZ mZ capZ)), (165, (.slice aoE mE capE)), (163, (.slice (some ⟨b_2_8_1, 0, none⟩) 1 1)), (167, (.slice (some ⟨b_2_12_1, 0, none⟩) 1 1))]) (fun (b_2_8_1 : Nat) (b_2_12_1 : Nat) => [row (.slice (some ⟨b_2_12_1, 0, none⟩) 1 1) 3 1 [(.int .i64 r17)], row (.slice (some ⟨b_2_8_1, 0, none⟩) 1 1) 3 1 [(.int .i64 ((nth out6 i).size))], stb b1 57 [(.int .i64 (1 + (slow % 16))), (.int .i64 delay), (.int .i64 (store % 1001)), (.int .i64 now'19), (.int .i64 last'20), (.slice ao'22 m'24 cap'23)], row (.slice ao'22 m'24 cap'23) 67 2 (l'21.flatMap frE), stb b12 47 [(.int .i64 ((nth out6 i).time)), (.int .i64 ((nth out6 i).vl)), (.int .i64 ((nth out6 i).size))], row (.slice aoE mE capE) 3 1 (ens.flatMap intE), row (.slice aoZ mZ capZ) 3 1 (szs.flatMap intE), row (.slice aoA mA capA) 3 1 (ats.flatMap intE), row (.slice (some ⟨b11, 0, none⟩) m4 cap5) 47 3 (out6.flatMap sentE)]) (fun (b_2_8_1 : Nat) (b_2_12_1 : Nat) => True) (listedA 17 [12, 8, 11, 10, 7, 6, 5, 2, 1, 0]) ?_ (fun K_2_8_12 => ?_)
        · skip
          rintro b_2_8_1 b_2_12_1 _
          refine WD.new (i := 3) (dd := 158) rfl (by kernel_rfl) rfl rfl rfl (e_buildSlice (cs := [(.int .i64 ((nth out6 i).time))]) elT_27 (Eos.parts (l := [.tmp 157]) (.cons rfl .nil) [0]) (fun _ => by kernel_rfl) rfl (by unfold maxLen; omega)) (fun h => absurd h (by decide)) ?_
          intro b_2_3_1 _
          exact WD.reL (.cons (.there .here) (.cons (.there .here) (.cons .here (.cons .here (.cons .here (.cons .here (.cons .here (.cons .here (.cons .here (.cons .here .nil)))))))))) (.cons rfl (.cons rfl (.cons rfl (.cons rfl (.cons rfl (.cons rfl (.cons rfl (.cons rfl (.cons rfl (.cons rfl (.cons rfl (.cons rfl (.cons rfl (.cons rfl (.cons rfl (.cons rfl (.cons rfl .nil))))))))))))))))) (K_2_3_8_12 b_2_3_1 b_2_8_1 b_2_12_1 trivial)
        refine WD.mids1 (fuel' := 8) (fun (b_2_3_1 : Nat) => [(11, (.int .i64 (1 + (slow % 16)))), (12, (.int .i64 delay)), (13, (.int .i64 (store % 1001))), (14, (.pointer (some ⟨b1, 0, none⟩))), (47, (.slice (some ⟨b11, 0, none⟩) m4 cap5)), (48, (.int .i64 ((m4 : Nat) : Int))), (49, (.int .i64 i)), (16, (.int .i64 r17)), (17, (.slice aoA mA capA)), (18, (.slice aoZ mZ capZ)), (19, (.slice aoE mE capE)), (155, (.slice aoA mA capA)), (160, (.slice aoZ mZ capZ)), (162, (.int .i64 ((nth out6 i).size))), (165, (.slice aoE mE capE)), (166, (.int .i64 r17)), (158, (.slice (some ⟨b_2_3_1, 0, none⟩) 1 1))]) (fun (b_2_3_1 : Nat) => [row (.slice (some ⟨b_2_3_1, 0, none⟩) 1 1) 3 1 [(.int .i64 ((nth out6 i).time))], stb b1 57 [(.int .i64 (1 + (slow % 16))), (.int .i64 delay), (.int .i64 (store % 1001)), (.int .i64 now'19), (.int .i64 last'20), (.slice ao'22 m'24 cap'23)], row (.slice ao'22 m'24 cap'23) 67 2 (l'21.flatMap frE), stb b12 47 [(.int .i64 ((nth out6 i).time)), (.int .i64 ((nth out6 i).vl)), (.int .i64 ((nth out6 i).size))], row (.slice aoE mE capE) 3 1 (ens.flatMap intE), row (.slice aoZ mZ capZ) 3 1 (szs.flatMap intE), row (.slice aoA mA capA) 3 1 (ats.flatMap intE), row (.slice (some ⟨b11, 0, none⟩) m4 cap5) 47 3 (out6.flatMap sentE)]) (fun (b_2_3_1 : Nat) => True) (listedA 17 [3, 11, 10, 7, 6, 5, 2, 1, 0]) ?_ (fun K_2_3 => ?_)
        · skip
          rintro b_2_3_1 _
          refine WD.choose [4, 8, 12] (by kernel_rfl) rfl ?_
          refine WDo.cons ?_ (WDo.cons ?_ (WDo.cons ?_ (WDo.nil)))
          · refine WDo.old (i := 4) (dd := 159) rfl rfl rfl rfl rfl (fun _ => ⟨_, (.cons (.there (.there (.there (.there .here)))) .nil)⟩) (e_append elT_27 rfl rfl (.there (.there (.there (.there (.there (.there .here)))))) (by rfl) (news_row .here) (oc_cons rfl oc_nil) (by unfold maxLen; omega) (by omega)) ?_
            rintro ⟨ao_2_4_1, cap_2_4_2⟩ _
            refine WD.rowEq .here (show _ = (ats ++ [(nth out6 i).time]).flatMap intE from by simp [intE]) ?_
            exact WD.reL (.cons .here (.cons .here (.cons .here (.cons .here (.cons .here (.cons .here (.cons .here (.cons .here .nil)))))))) (.cons rfl (.cons rfl (.cons rfl (.cons rfl (.cons rfl (.cons rfl (.cons rfl (.cons rfl (.cons rfl (.cons rfl (.cons rfl (.cons rfl (.cons rfl (.cons rfl (.cons rfl (.cons rfl .nil)))))))))))))))) (K_2_3_4 b_2_3_1 ao_2_4_1 cap_2_4_2 trivial)
          · refine WDo.new (i := 8) (dd := 163) rfl rfl rfl rfl (e_buildSlice (cs := [(.int .i64 ((nth out6 i).size))]) elT_27 (Eos.parts (l := [.tmp 162]) (.cons rfl .nil) [0]) (fun _ => by kernel_rfl) rfl (by unfold maxLen; omega)) (fun h => absurd h (by decide)) ?_
            intro b_2_8_1 _
            exact WD.reL (.cons .here (.cons .here (.cons .here (.cons .here (.cons .here (.cons .here (.cons .here (.cons .here (.cons .here .nil))))))))) (.cons rfl (.cons rfl (.cons rfl (.cons rfl (.cons rfl (.cons rfl (.cons rfl (.cons rfl (.cons rfl (.cons rfl (.cons rfl (.cons rfl (.cons rfl (.cons rfl (.cons rfl (.cons rfl (.cons rfl .nil))))))))))))))))) (K_2_3_8 b_2_3_1 b_2_8_1 trivial)
          · refine WDo.new (i := 12) (dd := 167) rfl rfl rfl rfl (e_buildSlice (cs := [(.int .i64 r17)]) elT_27 (Eos.parts (l := [.tmp 166]) (.cons rfl .nil) [0]) (fun _ => by kernel_rfl) rfl (by unfold maxLen; omega)) (fun h => absurd h (by decide)) ?_
            intro b_2_12_1 _
            exact WD.reL (.cons .here (.cons .here (.cons .here (.cons .here (.cons .here (.cons .here (.cons .here (.cons .here (.cons .here .nil))))))))) (.cons rfl (.cons rfl (.cons rfl (.cons rfl (.cons rfl (.cons rfl (.cons rfl (.cons rfl (.cons rfl (.cons rfl (.cons rfl (.cons rfl (.cons rfl (.cons rfl (.cons rfl (.cons rfl (.cons rfl .nil))))))))))))))))) (K_2_3_12 b_2_3_1 b_2_12_1 trivial)
        refine WD.mids1 (fuel' := 8) (fun (b_2_8_1 : Nat) => [(11, (.int .i64 (1 + (slow % 16)))), (12, (.int .i64 delay)), (13, (.int .i64 (store % 1001))), (14, (.pointer (some ⟨b1, 0, none⟩))), (47, (.slice (some ⟨b11, 0, none⟩) m4 cap5)), (48, (.int .i64 ((m4 : Nat) : Int))), (49, (.int .i64 i)), (16, (.int .i64 r17)), (17, (.slice aoA mA capA)), (18, (.slice aoZ mZ capZ)), (19, (.slice aoE mE capE)), (155, (.slice aoA mA capA)), (157, (.int .i64 ((nth out6 i).time))), (160, (.slice aoZ mZ capZ)), (165, (.slice aoE mE capE)), (166, (.int .i64 r17)), (163, (.slice (some ⟨b_2_8_1, 0, none⟩) 1 1))]) (fun (b_2_8_1 : Nat) => [row (.slice (some ⟨b_2_8_1, 0, none⟩) 1 1) 3 1 [(.int .i64 ((nth out6 i).size))], stb b1 57 [(.int .i64 (1 + (slow % 16))), (.int .i64 delay), (.int .i64 (store % 1001)), (.int .i64 now'19), (.int .i64 last'20), (.slice ao'22 m'24 cap'23)], row (.slice ao'22 m'24 cap'23) 67 2 (l'21.flatMap frE), stb b12 47 [(.int .i64 ((nth out6 i).time)), (.int .i64 ((nth out6 i).vl)), (.int .i64 ((nth out6 i).size))], row (.slice aoE mE capE) 3 1 (ens.flatMap intE), row (.slice aoZ mZ capZ) 3 1 (szs.flatMap intE), row (.slice aoA mA capA) 3 1 (ats.flatMap intE), row (.slice (some ⟨b11, 0, none⟩) m4 cap5) 47 3 (out6.flatMap sentE)]) (fun (b_2_8_1 : Nat) => True) (listedA 17 [8, 11, 10, 7, 6, 5, 2, 1, 0]) ?_ (fun K_2_8 => ?_)
        · skip
          rintro b_2_8_1 _
          refine WD.choose [3, 12] (by kernel_rfl) rfl ?_
          refine WDo.cons ?_ (WDo.cons ?_ (WDo.nil))
          · refine WDo.new (i := 3) (dd := 158) rfl rfl rfl rfl (e_buildSlice (cs := [(.int .i64 ((nth out6 i).time))]) elT_27 (Eos.parts (l := [.tmp 157]) (.cons rfl .nil) [0]) (fun _ => by kernel_rfl) rfl (by unfold maxLen; omega)) (fun h => absurd h (by decide)) ?_
            intro b_2_3_1 _
            exact WD.reL (.cons (.there .here) (.cons .here (.cons .here (.cons .here (.cons .here (.cons .here (.cons .here (.cons .here (.cons .here .nil))))))))) (.cons rfl (.cons rfl (.cons rfl (.cons rfl (.cons rfl (.cons rfl (.cons rfl (.cons rfl (.cons rfl (.cons rfl (.cons rfl (.cons rfl (.cons rfl (.cons rfl (.cons rfl (.cons rfl (.cons rfl .nil))))))))))))))))) (K_2_3_8 b_2_3_1 b_2_8_1 trivial)
          · refine WDo.new (i := 12) (dd := 167) rfl rfl rfl rfl (e_buildSlice (cs := [(.int .i64 r17)]) elT_27 (Eos.parts (l := [.tmp 166]) (.cons rfl .nil) [0]) (fun _ => by kernel_rfl) rfl (by unfold maxLen; omega)) (fun h => absurd h (by decide)) ?_
            intro b_2_12_1 _
            exact WD.reL (.cons .here (.cons .here (.cons .here (.cons .here (.cons .here (.cons .here (.cons .here (.cons .here (.cons .here .nil))))))))) (.cons rfl (.cons rfl (.cons rfl (.cons rfl (.cons rfl (.cons rfl (.cons rfl (.cons rfl (.cons rfl (.cons rfl (.cons rfl (.cons rfl (.cons rfl (.cons rfl (.cons rfl (.cons rfl (.cons rfl .nil))))))))))))))))) (K_2_8_12 b_2_8_1 b_2_12_1 trivial)
        refine WD.mids1 (fuel' := 8) (fun (b_2_12_1 : Nat) => [(11, (.int .i64 (1 + (slow % 16)))), (12, (.int .i64 delay)), (13, (.int .i64 (store % 1001))), (14, (.pointer (some ⟨b1, 0, none⟩))), (47, (.slice (some ⟨b11, 0, none⟩) m4 cap5)), (48, (.int .i64 ((m4 : Nat) : Int))), (49, (.int .i64 i)), (16, (.int .i64 r17)), (17, (.slice aoA mA capA)), (18, (.slice aoZ mZ capZ)), (19, (.slice aoE mE capE)), (155, (.slice aoA mA capA)), (157, (.int .i64 ((nth out6 i).time))), (160, (.slice aoZ mZ capZ)), (162, (.int .i64 ((nth out6 i).size))), (165, (.slice aoE mE capE)), (167, (.slice (some ⟨b_2_12_1, 0, none⟩) 1 1))]) (fun (b_2_12_1 : Nat) => [row (.slice (some ⟨b_2_12_1, 0, none⟩) 1 1) 3 1 [(.int .i64 r17)], stb b1 57 [(.int .i64 (1 + (slow % 16))), (.int .i64 delay), (.int .i64 (store % 1001)), (.int .i64 now'19), (.int .i64 last'20), (.slice ao'22 m'24 cap'23)], row (.slice ao'22 m'24 cap'23) 67 2 (l'21.flatMap frE), stb b12 47 [(.int .i64 ((nth out6 i).time)), (.int .i64 ((nth out6 i).vl)), (.int .i64 ((nth out6 i).size))], row (.slice aoE mE capE) 3 1 (ens.flatMap intE), row (.slice aoZ mZ capZ) 3 1 (szs.flatMap intE), row (.slice aoA mA capA) 3 1 (ats.flatMap intE), row (.slice (some ⟨b11, 0, none⟩) m4 cap5) 47 3 (out6.flatMap sentE)]) (fun (b_2_12_1 : Nat) => True) (listedA 17 [12, 11, 10, 7, 6, 5, 2, 1, 0]) ?_ (fun K_2_12 => ?_)
        · skip
          rintro b_2_12_1 _
          refine WD.choose [3, 8] (by kernel_rfl) rfl ?_
          refine WDo.cons ?_ (WDo.cons ?_ (WDo.nil))
          · refine WDo.new (i := 3) (dd := 158) rfl rfl rfl rfl (e_buildSlice (cs := [(.int .i64 ((nth out6 i).time))]) elT_27 (Eos.parts (l := [.tmp 157]) (.cons rfl .nil) [0]) (fun _ => by kernel_rfl) rfl (by unfold maxLen; omega)) (fun h => absurd h (by decide)) ?_
            intro b_2_3_1 _
            exact WD.reL (.cons (.there .here) (.cons .here (.cons .here (.cons .here (.cons .here (.cons .here (.cons .here (.cons .here (.cons .here .nil))))))))) (.cons rfl (.cons rfl (.cons rfl (.cons rfl (.cons rfl (.cons rfl (.cons rfl (.cons rfl (.cons rfl (.cons rfl (.cons rfl (.cons rfl (.cons rfl (.cons rfl (.cons rfl (.cons rfl (.cons rfl .nil))))))))))))))))) (K_2_3_12 b_2_3_1 b_2_12_1 trivial)
          · refine WDo.new (i := 8) (dd := 163) rfl rfl rfl rfl (e_buildSlice (cs := [(.int .i64 ((nth out6 i).size))]) elT_27 (Eos.parts (l := [.tmp 162]) (.cons rfl .nil) [0]) (fun _ => by kernel_rfl) rfl (by unfold maxLen; omega)) (fun h => absurd h (by decide)) ?_
            intro b_2_8_1 _
            exact WD.reL (.cons (.there .here) (.cons .here (.cons .here (.cons .here (.cons .here (.cons .here (.cons .here (.cons .here (.cons .here .nil))))))))) (.cons rfl (.cons rfl (.cons rfl (.cons rfl (.cons rfl (.cons rfl (.cons rfl (.cons rfl (.cons rfl (.cons rfl (.cons rfl (.cons rfl (.cons rfl (.cons rfl (.cons rfl (.cons rfl (.cons rfl .nil))))))))))))))))) (K_2_8_12 b_2_8_1 b_2_12_1 trivial)
        refine WD.choose [3, 8, 12] (by kernel_rfl) rfl ?_
        refine WDo.cons ?_ (WDo.cons ?_ (WDo.cons ?_ (WDo.nil)))
        · refine WDo.new (i := 3) (dd := 158) rfl rfl rfl rfl (e_buildSlice (cs := [(.int .i64 ((nth out6 i).time))]) elT_27 (Eos.parts (l := [.tmp 157]) (.cons rfl .nil) [0]) (fun _ => by kernel_rfl) rfl (by unfold maxLen; omega)) (fun h => absurd h (by decide)) ?_
          intro b_2_3_1 _
          exact WD.reL (.cons .here (.cons .here (.cons .here (.cons .here (.cons .here (.cons .here (.cons .here (.cons .here .nil)))))))) (.cons rfl (.cons rfl (.cons rfl (.cons rfl (.cons rfl (.cons rfl (.cons rfl (.cons rfl (.cons rfl (.cons rfl (.cons rfl (.cons rfl (.cons rfl (.cons rfl (.cons rfl (.cons rfl (.cons rfl .nil))))))))))))))))) (K_2_3 b_2_3_1 trivial)
        · refine WDo.new (i := 8) (dd := 163) rfl rfl rfl rfl (e_buildSlice (cs := [(.int .i64 ((nth out6 i).size))]) elT_27 (Eos.parts (l := [.tmp 162]) (.cons rfl .nil) [0]) (fun _ => by kernel_rfl) rfl (by unfold maxLen; omega)) (fun h => absurd h (by decide)) ?_
          intro b_2_8_1 _
          exact WD.reL (.cons .here (.cons .here (.cons .here (.cons .here (.cons .here (.cons .here (.cons .here (.cons .here .nil)))))))) (.cons rfl (.cons rfl (.cons rfl (.cons rfl (.cons rfl (.cons rfl (.cons rfl (.cons rfl (.cons rfl (.cons rfl (.cons rfl (.cons rfl (.cons rfl (.cons rfl (.cons rfl (.cons rfl (.cons rfl .nil))))))))))))))))) (K_2_8 b_2_8_1 trivial)
        · refine WDo.new (i := 12) (dd := 167) rfl rfl rfl rfl (e_buildSlice (cs := [(.int .i64 r17)]) elT_27 (Eos.parts (l := [.tmp 166]) (.cons rfl .nil) [0]) (fun _ => by kernel_rfl) rfl (by unfold maxLen; omega)) (fun h => absurd h (by decide)) ?_
          intro b_2_12_1 _
          exact WD.reL (.cons .here (.cons .here (.cons .here (.cons .here (.cons .here (.cons .here (.cons .here (.cons .here .nil)))))))) (.cons rfl (.cons rfl (.cons rfl (.cons rfl (.cons rfl (.cons rfl (.cons rfl (.cons rfl (.cons rfl (.cons rfl (.cons rfl (.cons rfl (.cons rfl (.cons rfl (.cons rfl (.cons rfl (.cons rfl .nil))))))))))))))))) (K_2_12 b_2_12_1 trivial)
  · have hc10 : ¬ (i < ((m4 : Nat) : Int)) := biffF (decide_eq_true_iff) h; clear h
    refine WC.exit ?_
    refine WX.thenExit ?_
    refine WX.thenExit ?_
    refine WX.blockHit ?_
    refine WX.then ?_
    refine WC.seq ?_
    refine WC.region ?_
    refine WL.quiet (d := 170) rfl rfl rfl (q_move rfl) ?_
    refine WL.quiet (d := 171) rfl rfl rfl (q_len Try.underlying27 rfl) ?_
    refine WL.quiet (d := 172) rfl rfl rfl (q_move rfl) ?_
    refine WL.quiet (d := 173) rfl rfl rfl (q_len Try.underlying27 rfl) ?_
    refine WL.quiet (d := 174) rfl rfl rfl (q_eql rfl rfl) ?_
    refine WL.quiet (d := 175) rfl rfl rfl (q_move rfl) ?_
    refine WL.cut0 True [(11, (.int .i64 (1 + (slow % 16)))), (12, (.int .i64 delay)), (13, (.int .i64 (store % 1001))), (14, (.pointer (some ⟨b1, 0, none⟩))), (47, (.slice ao3 m4 cap5)), (48, (.int .i64 ((m4 : Nat) : Int))), (49, (.int .i64 i)), (16, (.int .i64 last)), (17, (.slice aoA mA capA)), (18, (.slice aoZ mZ capZ)), (19, (.slice aoE mE capE)), (50, (.bool (decide (i < ((m4 : Nat) : Int))))), (180, (.bool ((decide (((mA : Nat) : Int) = ((mE : Nat) : Int))) && (decide (pl = last)))))] [row (.slice ao m cap) 67 2 (cur.flatMap frE), row (.slice aoE mE capE) 3 1 (ens.flatMap intE), row (.slice aoZ mZ capZ) 3 1 (szs.flatMap intE), row (.slice aoA mA capA) 3 1 (ats.flatMap intE), row (.slice ao3 m4 cap5) 47 3 (out6.flatMap sentE), stb b1 57 [(.int .i64 (1 + (slow % 16))), (.int .i64 delay), (.int .i64 (store % 1001)), (.int .i64 now), (.int .i64 pl), (.slice ao m cap)]] 5 ?_ (fun _ => ?_)
    · by_cases hb43 : ((mA : Nat) : Int) = ((mE : Nat) : Int)
      · refine WL.pin (i := 175) rfl (bT (decide_eq_true_iff) hb43) ?_
        refine WL.quiet (d := 176) rfl rfl rfl (q_move rfl) ?_
        refine WL.callD (dd := 177) rfl rfl rfl (run_call (l := [.tmp 176]) Try.call14 (.cons rfl .nil)) .nil (fun w hw => free_no (A := ⟨b1, 0, none⟩) (slow := (1 + (slow % 16))) (delay := delay) (store := (store % 1001)) (now := now) (last := pl) (fr := (.slice ao m cap)) (w₀ := w) (hw.cellsStb .nil (.there (.there (.there (.there (.there .here)))))) (by omega)) ?_
        refine WL.quiet (d := 178) rfl rfl rfl (q_move rfl) ?_
        refine WL.quiet (d := 179) rfl rfl rfl (q_eql rfl rfl) ?_
        refine WL.quiet (d := 180) rfl rfl rfl (q_pickT rfl rfl) ?_
        exact WL.cutEnd () trivial (.cons rfl (.cons rfl (.cons rfl (.cons rfl (.cons rfl (.cons rfl (.cons rfl (.cons rfl (.cons rfl (.cons rfl (.cons rfl (.cons rfl (.cons (some_bool (and_r (bT (decide_eq_true_iff) hb43))) .nil))))))))))))) (.cons .here (.cons .here (.cons .here (.cons .here (.cons .here (.cons .here .nil))))))
      · refine WL.pin (i := 175) rfl (bF (decide_eq_true_iff) hb43) ?_
        refine WL.skip rfl rfl rfl ?_
        refine WL.skip rfl rfl rfl ?_
        refine WL.skip rfl rfl rfl ?_
        refine WL.skip rfl rfl rfl ?_
        refine WL.quiet (d := 180) rfl rfl rfl (q_pickF rfl rfl) ?_
        exact WL.cutEnd () trivial (.cons rfl (.cons rfl (.cons rfl (.cons rfl (.cons rfl (.cons rfl (.cons rfl (.cons rfl (.cons rfl (.cons rfl (.cons rfl (.cons rfl (.cons (some_bool (and_l (bF (decide_eq_true_iff) hb43))) .nil))))))))))))) (.cons .here (.cons .here (.cons .here (.cons .here (.cons .here (.cons .here .nil))))))
    · skip
      refine WL.quiet (d := 181) rfl rfl rfl (q_move rfl) ?_
      refine WL.cut0 True [(11, (.int .i64 (1 + (slow % 16)))), (12, (.int .i64 delay)), (13, (.int .i64 (store % 1001))), (14, (.pointer (some ⟨b1, 0, none⟩))), (47, (.slice ao3 m4 cap5)), (48, (.int .i64 ((m4 : Nat) : Int))), (49, (.int .i64 i)), (16, (.int .i64 last)), (17, (.slice aoA mA capA)), (18, (.slice aoZ mZ capZ)), (19, (.slice aoE mE capE)), (50, (.bool (decide (i < ((m4 : Nat) : Int))))), (183, (.bool (((decide (((mA : Nat) : Int) = ((mE : Nat) : Int))) && (decide (pl = last))) && true)))] [row (.slice ao m cap) 67 2 (cur.flatMap frE), row (.slice aoE mE capE) 3 1 (ens.flatMap intE), row (.slice aoZ mZ capZ) 3 1 (szs.flatMap intE), row (.slice aoA mA capA) 3 1 (ats.flatMap intE), row (.slice ao3 m4 cap5) 47 3 (out6.flatMap sentE), stb b1 57 [(.int .i64 (1 + (slow % 16))), (.int .i64 delay), (.int .i64 (store % 1001)), (.int .i64 now), (.int .i64 pl), (.slice ao m cap)]] 2 ?_ (fun _ => ?_)
      · by_cases hb44 : (((mA : Nat) : Int) = ((mE : Nat) : Int)) ∧ (pl = last)
        · refine WL.pin (i := 181) rfl (bT (biff_and (decide_eq_true_iff) (decide_eq_true_iff)) hb44) ?_
          refine WL.callD (dd := 182) rfl rfl rfl (run_call (l := []) Try.call11 .nil) .nil (fun w hw => awake_c  (w₀ := w) ) ?_
          refine WL.quiet (d := 183) rfl rfl rfl (q_pickT rfl rfl) ?_
          exact WL.cutEnd () trivial (.cons rfl (.cons rfl (.cons rfl (.cons rfl (.cons rfl (.cons rfl (.cons rfl (.cons rfl (.cons rfl (.cons rfl (.cons rfl (.cons rfl (.cons (some_bool (and_r (bT (biff_and (decide_eq_true_iff) (decide_eq_true_iff)) hb44))) .nil))))))))))))) (.cons .here (.cons .here (.cons .here (.cons .here (.cons .here (.cons .here .nil))))))
        · refine WL.pin (i := 181) rfl (bF (biff_and (decide_eq_true_iff) (decide_eq_true_iff)) hb44) ?_
          refine WL.skip rfl rfl rfl ?_
          refine WL.quiet (d := 183) rfl rfl rfl (q_pickF rfl rfl) ?_
          exact WL.cutEnd () trivial (.cons rfl (.cons rfl (.cons rfl (.cons rfl (.cons rfl (.cons rfl (.cons rfl (.cons rfl (.cons rfl (.cons rfl (.cons rfl (.cons rfl (.cons (some_bool (and_l (bF (biff_and (decide_eq_true_iff) (decide_eq_true_iff)) hb44))) .nil))))))))))))) (.cons .here (.cons .here (.cons .here (.cons .here (.cons .here (.cons .here .nil))))))
      · skip
        refine WL.quiet (d := 10) rfl rfl rfl (q_assign rfl) ?_
        refine WL.nil ?_
        refine WX.then ?_
        refine WC.ret ?_
        refine WX.bpRet Try.results4 (.tmp rfl .nil) (fun w hw => ?_)
        exact ⟨ret1 (vbool (by simp; omega)), (hw.sub .nil)⟩
end Go.Proofs.Ytahpdiojgdlmgaa

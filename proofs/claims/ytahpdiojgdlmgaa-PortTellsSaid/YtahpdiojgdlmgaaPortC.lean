/- The engine of this claim's walks: contracts of the functions that the law reaches. No conditions beyond those in each theorem's statement. -/
import Derived.Test.YtahpdiojgdlmgaaPortB
import Derived.Test.YtahpdiojgdlmgaaSepFrame
import Derived.Test.YtahpdiojgdlmgaaProg
set_option linter.all false
namespace Go.Proofs.Ytahpdiojgdlmgaa
open Go Go.RowKit Sep
theorem elT_22 : elT Try.prog 22 34 2 16 := ⟨Try.underlying22, ⟨Try.t34, _, rfl, rfl, rfl, rfl, rfl⟩, by decide⟩
theorem aggT_34 : aggT Try.prog 34 2 := aggT_of (i := Try.t34) Try.underlying34 rfl rfl
theorem zeroT_34 : zeroT Try.prog 34 (.agg #[(.int .i64 0), (.int .i64 0)]) := zeroT_of (i := Try.t34) rfl rfl
theorem sizT_34 : sizT Try.prog 34 2 := sizT_of (i := Try.t34) rfl
theorem fo_34_1 : fieldOff Try.prog 34 1 1 := fieldOff_of (i := Try.t3) Try.underlying34 rfl rfl (by decide) rfl
theorem fo_34_0 : fieldOff Try.prog 34 0 0 := fieldOff_of (i := Try.t3) Try.underlying34 rfl rfl (by decide) rfl
def rfreeR (ens : List Int) : Int := if ens.length = 0 then 0 else nth ens (ens.length - 1)

set_option maxRecDepth 20000 in
theorem rfree_d (slow delay store now : Int) (aoA : Option Addr) (mA capA : Nat) (ats : List Int) (aoZ : Option Addr) (mZ capZ : Nat) (szs : List Int) (aoE : Option Addr) (mE capE : Nat) (ens : List Int) (w₀ : World)
    (hsA : SlP [] w₀ (.slice aoA mA capA) 1 intP ats)
    (hsZ : SlP [] w₀ (.slice aoZ mZ capZ) 1 intP szs)
    (hsE : SlP [] w₀ (.slice aoE mE capE) 1 intP ens)
    (hl : ens.length ≤ 1099511627776) :
    Calls Try.prog 15 #[(.agg #[(.int .i64 slow), (.int .i64 delay), (.int .i64 store), (.int .i64 now), (.slice aoA mA capA), (.slice aoZ mZ capZ), (.slice aoE mE capE)])] w₀ fun e w' => e = .returned (.int .i64 (rfreeR ens)) ∧ Hp [] w₀ w' [] := by
  have hlE := hsE.len
  refine Calls.ofWC (vs := [(.agg #[(.int .i64 slow), (.int .i64 delay), (.int .i64 store), (.int .i64 now), (.slice aoA mA capA), (.slice aoZ mZ capZ), (.slice aoE mE capE)])]) (pre := []) (env := [(0, (.agg #[(.int .i64 slow), (.int .i64 delay), (.int .i64 store), (.int .i64 now), (.slice aoA mA capA), (.slice aoZ mZ capZ), (.slice aoE mE capE)]))]) Try.func15 rfl Try.ntmps15 rfl (Hp.nil w₀ _) rfl ?_
  refine WC.seq ?_
  refine WC.region ?_
  refine WL.new (dd := 1) rfl rfl rfl (e_box (cs := [(.int .i64 slow), (.int .i64 delay), (.int .i64 store), (.int .i64 now), (.slice aoA mA capA), (.slice aoZ mZ capZ), (.slice aoE mE capE)]) rfl rfl) ?_
  intro b1 _
  refine WL.quiet (d := 2) rfl rfl rfl (q_assign rfl) ?_
  refine WL.nil ?_
  refine WX.then ?_
  refine WC.seq ?_
  refine WC.seq ?_
  refine WC.region ?_
  refine WL.quiet (d := 3) rfl rfl rfl (q_fieldAddr fo_29_6 rfl rfl) ?_
  refine WL.quiet (d := 4) rfl rfl rfl (q_load1 oneT_27 rfl (rd_stb .here rfl)) ?_
  refine WL.quiet (d := 5) rfl rfl rfl (q_len Try.underlying27 rfl) ?_
  refine WL.quiet (d := 6) rfl rfl rfl (q_eql rfl rfl) ?_
  refine WL.nil ?_
  refine WX.then ?_
  refine WC.cond rfl (fun h => ?_) (fun h => ?_)
  · have hc2 : ((mE : Nat) : Int) = 0 := ((decide_eq_true_iff)).1 h; clear h
    refine WC.seq ?_
    refine WC.region ?_
    refine WL.quiet (d := 2) rfl rfl rfl (q_assign rfl) ?_
    refine WL.nil ?_
    refine WX.then ?_
    refine WC.ret ?_
    refine WX.thenRet ?_
    refine WX.bpRet Try.results15 (.tmp rfl .nil) (fun w hw => ?_)
    exact ⟨ret1 (vint (by unfold rfreeR; first | (rw [if_pos (by omega)]; done) | (rw [if_neg (by omega), ← hlE]))), (hw.sub .nil)⟩
  · have hc2 : ¬ (((mE : Nat) : Int) = 0) := biffF (decide_eq_true_iff) h; clear h
    refine WC.skip ?_
    refine WX.then ?_
    refine WC.seq ?_
    refine WC.region ?_
    refine WL.quiet (d := 7) rfl rfl rfl (q_fieldAddr fo_29_6 rfl rfl) ?_
    refine WL.quiet (d := 8) rfl rfl rfl (q_load1 oneT_27 rfl (rd_stb .here rfl)) ?_
    refine WL.quiet (d := 9) rfl rfl rfl (q_fieldAddr fo_29_6 rfl rfl) ?_
    refine WL.quiet (d := 10) rfl rfl rfl (q_load1 oneT_27 rfl (rd_stb .here rfl)) ?_
    refine WL.quiet (d := 11) rfl rfl rfl (q_len Try.underlying27 rfl) ?_
    refine WL.quiet (d := 12) rfl rfl rfl (q_sub rfl rfl (w64 (by omega))) ?_
    refine WL.nth (dd := 13) rfl rfl elT_27 rfl rfl hsE (by omega) (by omega) ?_
    rintro A3 r4 hA5 hl6 rfl; clear hl6
    refine WL.quiet (d := 14) rfl rfl rfl (q_load1 oneT_3 rfl (rd_cell hA5 rfl)) ?_
    refine WL.quiet (d := 2) rfl rfl rfl (q_assign rfl) ?_
    refine WL.nil ?_
    refine WX.then ?_
    refine WC.ret ?_
    refine WX.bpRet Try.results15 (.tmp rfl .nil) (fun w hw => ?_)
    exact ⟨ret1 (vint (by unfold rfreeR; first | (rw [if_pos (by omega)]; done) | (rw [if_neg (by omega), ← hlE]))), (hw.sub .nil)⟩

theorem rputR_inv {slow delay store now t size r2 er2 nq' B : Int} {ats szs ens ats' szs' ens' : List Int} (h : rputR slow delay store now ats szs ens t size = (r2, er2, nq', ats', szs', ens')) (hz : ∀ x ∈ szs, 1 ≤ x ∧ x ≤ 72) (he : ∀ x ∈ ens, 0 ≤ x ∧ x ≤ B)
    (hb : 1 ≤ slow ∧ slow ≤ 16 ∧ 0 ≤ delay ∧ delay ≤ 1000 ∧ 0 ≤ now ∧ 2147483648 ≤ B) : (∀ x ∈ szs', 1 ≤ x ∧ x ≤ 72) ∧ (∀ x ∈ ens', 0 ≤ x ∧ x ≤ B + 1152) ∧ ens'.length ≤ ens.length + 1 := by
  unfold rputR at h
  split at h
  · simp only [Prod.mk.injEq] at h; obtain ⟨rfl, rfl, rfl, rfl, rfl, rfl⟩ := h
    exact ⟨hz, fun x hx => by have := he x hx; omega, by omega⟩
  · split at h
    · simp only [Prod.mk.injEq] at h; obtain ⟨rfl, rfl, rfl, rfl, rfl, rfl⟩ := h
      exact ⟨hz, fun x hx => by have := he x hx; omega, by omega⟩
    · have hmu := mul_bd (a := size) (b := slow) (A := 72) (B := 16) (by omega) (by omega) (by omega) (by omega)
      simp only [Prod.mk.injEq] at h; obtain ⟨rfl, rfl, rfl, rfl, rfl, rfl⟩ := h
      refine ⟨mem_snoc hz (by omega), fun x hx => ?_, by simp⟩
      rcases List.mem_append.1 hx with hx | hx
      · have := he x hx; omega
      · simp only [List.mem_singleton] at hx; subst hx
        split
        · rename_i hh; have := he _ (nth_mem (l := ens) (i := (ens.length : Int) - 1) (by omega) (by omega)); omega
        · omega
theorem heldT_eq {ats szs ens : List Int} {T : Int} (hl : szs.length = ens.length) (hla : ats.length = ens.length) (ha : ∀ a ∈ ats, a ≤ T) : ∀ n : Nat, n ≤ ens.length → heldT ats szs ens T n = sumF (fun x => decide (x.fin > T)) ((mkF szs ens).take n) := by
  intro n
  induction n with
  | zero => intro _; simp [heldT, sumF]
  | succ n ih =>
    intro hn
    have h1 := sumF_step (fun x : Fr => decide (x.fin > T)) (mkF szs ens) (i := (n : Int)) (by omega) (by rw [mkF_len hl]; omega)
    rw [show ((n : Int) + 1).toNat = n + 1 from by omega, show ((n : Int)).toNat = n from by omega, mkF_nth hl (by omega) (by omega)] at h1
    rw [h1, ← ih (by omega), heldT, heldI]
    have h2 := ha _ (nth_mem (l := ats) (i := (n : Int)) (by omega) (by omega))
    simp only [decide_eq_true_eq]
    by_cases h : nth ens (n : Int) > T
    · rw [if_pos h, if_pos ⟨h2, h⟩]
    · rw [if_neg h, if_neg (fun hh => h hh.2)]
theorem sumF_filter2 {now T : Int} (h : now ≤ T) (l : List Fr) : sumF (fun x => decide (x.fin > T)) (l.filter (fun x => !decide (x.fin ≤ now))) = sumF (fun x => decide (x.fin > T)) l := by
  rw [← sumF_filter T (l.filter _), filter_two h, sumF_filter]
structure PR (now last : Int) (cur : List Fr) (ats szs ens : List Int) : Prop where
  cur : cur = (mkF szs ens).filter (fun x => !decide (x.fin ≤ now))
  last : last = rfreeR ens
  lz : szs.length = ens.length
  la : ats.length = ens.length
  at_ : ∀ a ∈ ats, a ≤ now
  nn : 0 ≤ now
theorem PR.held {now last : Int} {cur : List Fr} {ats szs ens : List Int} (h : PR now last cur ats szs ens) (t : Int) : sumF (fun x => decide (x.fin > max t now)) cur = heldT ats szs ens (max t now) ats.length := by
  rw [h.cur, sumF_filter2 (by omega), heldT_eq h.lz h.la (fun a ha => by have := h.at_ a ha; omega) _ (by rw [h.la]; omega), h.la, ← mkF_len h.lz, List.take_length]
theorem PR.put {slow delay store now last t size r er now' last' r2 er2 nq' : Int} {cur cur' : List Fr} {ats szs ens ats' szs' ens' : List Int} (h : PR now last cur ats szs ens)
    (h1 : putR slow delay store now last cur t size = (r, er, now', last', cur')) (h2 : rputR slow delay store now ats szs ens t size = (r2, er2, nq', ats', szs', ens')) (hb : 1 ≤ slow ∧ 0 ≤ delay) :
    r2 = r ∧ er2 = er ∧ nq' = now' ∧ PR now' last' cur' ats' szs' ens' := by
  unfold putR at h1
  unfold rputR at h2
  have hnn := h.nn
  split at h1
  · rename_i hc
    rw [if_pos hc] at h2
    simp only [Prod.mk.injEq] at h1 h2
    obtain ⟨rfl, rfl, rfl, rfl, rfl⟩ := h1
    obtain ⟨rfl, rfl, rfl, rfl, rfl, rfl⟩ := h2
    exact ⟨rfl, rfl, rfl, h⟩
  · rename_i hc
    rw [if_neg hc] at h2
    have hp : 0 < size * slow := Int.mul_pos (by omega) (by omega)
    have hfil : cur.filter (fun x => !decide (x.fin ≤ t)) = (mkF szs ens).filter (fun x => !decide (x.fin ≤ t)) := by rw [h.cur, filter_two (by omega)]
    have hat : ∀ a ∈ ats, a ≤ t := fun a ha => by have := h.at_ a ha; omega
    have hheld : heldT ats szs ens (max t t) ats.length = sumF (fun x => decide (x.fin > max t t)) (cur.filter (fun x => !decide (x.fin ≤ t))) := by
      rw [show max t t = t from by omega, hfil, sumF_filter, heldT_eq h.lz h.la hat _ (by rw [h.la]; omega), h.la, ← mkF_len h.lz, List.take_length]
    rw [hheld] at h2
    split at h1
    · rename_i hd
      rw [if_pos hd] at h2
      simp only [Prod.mk.injEq] at h1 h2
      obtain ⟨rfl, rfl, rfl, rfl, rfl⟩ := h1
      obtain ⟨rfl, rfl, rfl, rfl, rfl, rfl⟩ := h2
      exact ⟨rfl, rfl, rfl, hfil, h.last, h.lz, h.la, hat, by omega⟩
    · rename_i hd
      rw [if_neg hd] at h2
      have hx : (if 0 < ens.length ∧ nth ens (ens.length - 1) > t + delay then nth ens (ens.length - 1) else t + delay) = max (t + delay) last := by
        rw [h.last]; unfold rfreeR
        by_cases h0 : ens.length = 0
        · rw [if_neg (by omega), if_pos h0]; omega
        · rw [if_neg h0]
          split <;> omega
      simp only [hx, Prod.mk.injEq] at h1 h2
      obtain ⟨rfl, rfl, rfl, rfl, rfl⟩ := h1
      obtain ⟨rfl, rfl, rfl, rfl, rfl, rfl⟩ := h2
      refine ⟨rfl, rfl, rfl, ?_, ?_, by simp [h.lz], by simp [h.la], ?_, by omega⟩
      · rw [mkF_snoc h.lz, List.filter_append, List.filter_cons_of_pos (by simp; omega), hfil]; rfl
      · unfold rfreeR; rw [if_neg (by simp)]
        rw [← nth_lt (by simp) (by simp; omega)]
        simp
      · intro a ha
        rcases List.mem_append.1 ha with ha | ha
        · exact hat a ha
        · simp at ha; omega

set_option maxHeartbeats 4000000 in
set_option maxRecDepth 20000 in
theorem tells_law (slow delay store : Int) (aoL : Option Addr) (mL capL : Nat) (cl : List Call) (w₀ : World)
    (hsL : SlP [] w₀ (.slice aoL mL capL) 2 callP cl)
    (hll : cl.length ≤ 9223372036854775807) :
    Calls Try.prog 3 #[(.int .i64 slow), (.int .i64 delay), (.int .i64 store), (.slice aoL mL capL)] w₀ fun e w' => e = .returned (.bool true) ∧ Hp [] w₀ w' [] := by
  have hlL := hsL.len
  have hmin : min (((mL : Nat) : Int)) 60 = ((min cl.length 60 : Nat) : Int) := by omega
  have htl : (cl.take (min cl.length 60)).length = min cl.length 60 := by simp
  refine Calls.ofWC (vs := [(.int .i64 slow), (.int .i64 delay), (.int .i64 store), (.slice aoL mL capL)]) (pre := []) (env := [(0, (.int .i64 slow)), (1, (.int .i64 delay)), (2, (.int .i64 store)), (3, (.slice aoL mL capL))]) Try.func3 rfl Try.ntmps3 rfl (Hp.nil w₀ _) rfl ?_
  refine WC.seq ?_
  refine WC.region ?_
  refine WL.quiet (d := 8) rfl rfl rfl (q_assign rfl) ?_
  refine WL.nil ?_
  refine WX.then ?_
  refine WC.seq ?_
  refine WC.region ?_
  refine WL.quiet (d := 21) rfl rfl rfl (q_move rfl) ?_
  refine WL.quiet (d := 22) rfl rfl rfl (q_move rfl) ?_
  refine WL.quiet (d := 23) rfl rfl rfl (q_move rfl) ?_
  by_cases hbad : slow < 1 ∨ slow > 16 ∨ delay < 0 ∨ delay > 1000 ∨ store < 0 ∨ store > 1073741824
  · skip
    refine WL.callD (dd := 24) rfl rfl rfl (run_call (l := [.tmp 21, .tmp 22, .tmp 23]) Try.call9 (.cons rfl (.cons rfl (.cons rfl .nil)))) .nil (fun w hw => new_bad (slow := slow) (delay := delay) (store := store) (w₀ := w) (by omega)) ?_
    refine WL.quiet (d := 20) rfl rfl rfl (q_move rfl) ?_
    refine WL.quiet (d := 25) rfl rfl rfl (q_extract rfl rfl) ?_
    refine WL.quiet (d := 26) rfl rfl rfl (q_extract rfl rfl) ?_
    refine WL.quiet (d := 9) rfl rfl rfl (q_assign rfl) ?_
    refine WL.quiet (d := 10) rfl rfl rfl (q_assign rfl) ?_
    refine WL.nil ?_
    refine WX.then ?_
    refine WC.seq ?_
    refine WC.region ?_
    refine WL.quiet (d := 28) rfl rfl rfl (q_move rfl) ?_
    refine WL.quiet (d := 29) rfl rfl rfl (q_move rfl) ?_
    refine WL.quiet (d := 30) rfl rfl rfl (q_move rfl) ?_
    refine WL.callD (dd := 31) rfl rfl rfl (run_call (l := [.tmp 28, .tmp 29, .tmp 30]) Try.call10 (.cons rfl (.cons rfl (.cons rfl .nil)))) .nil (fun w hw => rnew_bad (slow := slow) (delay := delay) (store := store) (w₀ := w) (by omega)) ?_
    refine WL.quiet (d := 27) rfl rfl rfl (q_move rfl) ?_
    refine WL.quiet (d := 32) rfl rfl rfl (q_extract rfl rfl) ?_
    refine WL.quiet (d := 33) rfl rfl rfl (q_extract rfl rfl) ?_
    refine WL.new (dd := 11) rfl rfl rfl (e_alloc (cs := [(.int .i64 0), (.int .i64 0), (.int .i64 0), (.int .i64 0), (.slice none 0 0), (.slice none 0 0), (.slice none 0 0)]) zeroT_29 rfl) ?_
    intro b1 _
    refine WL.eff0 rfl rfl (e_store (vs := [(.int .i64 0), (.int .i64 0), (.int .i64 0), (.int .i64 0), (.slice none 0 0), (.slice none 0 0), (.slice none 0 0)]) (ds := [(.int .i64 0), (.int .i64 0), (.int .i64 0), (.int .i64 0), (.slice none 0 0), (.slice none 0 0), (.slice none 0 0)]) sizT_29 rfl rfl rfl rfl (oc_cons rfl (oc_cons rfl (oc_cons rfl (oc_cons rfl (oc_cons rfl (oc_cons rfl (oc_cons rfl oc_nil))))))) .here (Nat.le_of_ble_eq_true rfl) rfl) ?_
    refine WL.quiet (d := 12) rfl rfl rfl (q_assign rfl) ?_
    refine WL.nil ?_
    refine WX.then ?_
    refine WC.seq ?_
    refine WC.seq ?_
    refine WC.region ?_
    refine WL.quiet (d := 34) rfl rfl rfl (q_move rfl) ?_
    refine WL.quiet (d := 35) rfl rfl rfl (q_move rfl) ?_
    refine WL.quiet (d := 36) rfl rfl rfl (q_neq rfl rfl) ?_
    refine WL.quiet (d := 37) rfl rfl rfl (q_move rfl) ?_
    refine WL.cut0 True [(0, (.int .i64 slow)), (1, (.int .i64 delay)), (2, (.int .i64 store)), (3, (.slice aoL mL capL)), (8, (.bool false)), (9, (.pointer none)), (10, (.int .i64 2)), (11, (.pointer (some ⟨b1, 0, none⟩))), (12, (.int .i64 2)), (40, (.bool ((decide ((2 : Int) ≠ 2)) || (decide ((2 : Int) ≠ 0)))))] [stb b1 29 [(.int .i64 0), (.int .i64 0), (.int .i64 0), (.int .i64 0), (.slice none 0 0), (.slice none 0 0), (.slice none 0 0)]] 3 ?_ (fun _ => ?_)
    · by_cases hb2 : (2 : Int) ≠ 2
      · refine WL.pin (i := 37) rfl (bT (decide_eq_true_iff) hb2) ?_
        refine WL.skip rfl rfl rfl ?_
        refine WL.skip rfl rfl rfl ?_
        refine WL.quiet (d := 40) rfl rfl rfl (q_pickT rfl rfl) ?_
        exact WL.cutEnd () trivial (.cons rfl (.cons rfl (.cons rfl (.cons rfl (.cons rfl (.cons rfl (.cons rfl (.cons rfl (.cons rfl (.cons (some_bool (or_l (bT (decide_eq_true_iff) hb2))) .nil)))))))))) (.cons .here .nil)
      · refine WL.pin (i := 37) rfl (bF (decide_eq_true_iff) hb2) ?_
        refine WL.quiet (d := 38) rfl rfl rfl (q_move rfl) ?_
        refine WL.quiet (d := 39) rfl rfl rfl (q_neq rfl rfl) ?_
        refine WL.quiet (d := 40) rfl rfl rfl (q_pickF rfl rfl) ?_
        exact WL.cutEnd () trivial (.cons rfl (.cons rfl (.cons rfl (.cons rfl (.cons rfl (.cons rfl (.cons rfl (.cons rfl (.cons rfl (.cons (some_bool (or_r (bF (decide_eq_true_iff) hb2))) .nil)))))))))) (.cons .here .nil)
    · skip
      refine WL.nil ?_
      refine WX.then ?_
      refine WC.cond rfl (fun _ => ?_) (fun h => absurd (biffF (biff_or (decide_eq_true_iff) (decide_eq_true_iff)) h) (not_not_intro (by omega)))
      refine WC.seq ?_
      refine WC.region ?_
      refine WL.quiet (d := 41) rfl rfl rfl (q_move rfl) ?_
      refine WL.quiet (d := 42) rfl rfl rfl (q_move rfl) ?_
      refine WL.quiet (d := 43) rfl rfl rfl (q_eql rfl rfl) ?_
      refine WL.quiet (d := 44) rfl rfl rfl (q_move rfl) ?_
      refine WL.cut0 True [(0, (.int .i64 slow)), (1, (.int .i64 delay)), (2, (.int .i64 store)), (3, (.slice aoL mL capL)), (8, (.bool false)), (9, (.pointer none)), (10, (.int .i64 2)), (11, (.pointer (some ⟨b1, 0, none⟩))), (12, (.int .i64 2)), (40, (.bool ((decide ((2 : Int) ≠ 2)) || (decide ((2 : Int) ≠ 0))))), (47, (.bool ((decide ((2 : Int) = 2)) && true)))] [stb b1 29 [(.int .i64 0), (.int .i64 0), (.int .i64 0), (.int .i64 0), (.slice none 0 0), (.slice none 0 0), (.slice none 0 0)]] 3 ?_ (fun _ => ?_)
      · by_cases hb3 : (2 : Int) = 2
        · refine WL.pin (i := 44) rfl (bT (decide_eq_true_iff) hb3) ?_
          refine WL.quiet (d := 45) rfl rfl rfl (q_move rfl) ?_
          refine WL.quiet (d := 46) rfl rfl rfl (q_eqlNil Try.underlying23 rfl rfl) ?_
          refine WL.quiet (d := 47) rfl rfl rfl (q_pickT rfl rfl) ?_
          exact WL.cutEnd () trivial (.cons rfl (.cons rfl (.cons rfl (.cons rfl (.cons rfl (.cons rfl (.cons rfl (.cons rfl (.cons rfl (.cons rfl (.cons (some_bool (and_r (bT (decide_eq_true_iff) hb3))) .nil))))))))))) (.cons .here .nil)
        · refine WL.pin (i := 44) rfl (bF (decide_eq_true_iff) hb3) ?_
          refine WL.skip rfl rfl rfl ?_
          refine WL.skip rfl rfl rfl ?_
          refine WL.quiet (d := 47) rfl rfl rfl (q_pickF rfl rfl) ?_
          exact WL.cutEnd () trivial (.cons rfl (.cons rfl (.cons rfl (.cons rfl (.cons rfl (.cons rfl (.cons rfl (.cons rfl (.cons rfl (.cons rfl (.cons (some_bool (and_l (bF (decide_eq_true_iff) hb3))) .nil))))))))))) (.cons .here .nil)
      · skip
        refine WL.quiet (d := 48) rfl rfl rfl (q_move rfl) ?_
        refine WL.cut0 True [(0, (.int .i64 slow)), (1, (.int .i64 delay)), (2, (.int .i64 store)), (3, (.slice aoL mL capL)), (8, (.bool false)), (9, (.pointer none)), (10, (.int .i64 2)), (11, (.pointer (some ⟨b1, 0, none⟩))), (12, (.int .i64 2)), (40, (.bool ((decide ((2 : Int) ≠ 2)) || (decide ((2 : Int) ≠ 0))))), (50, (.bool (((decide ((2 : Int) = 2)) && true) && true)))] [stb b1 29 [(.int .i64 0), (.int .i64 0), (.int .i64 0), (.int .i64 0), (.slice none 0 0), (.slice none 0 0), (.slice none 0 0)]] 2 ?_ (fun _ => ?_)
        · by_cases hb4 : ((2 : Int) = 2) ∧ (True)
          · refine WL.pin (i := 48) rfl (bT (biff_and (decide_eq_true_iff) (iff_of_true rfl trivial)) hb4) ?_
            refine WL.callD (dd := 49) rfl rfl rfl (run_call (l := []) Try.call11 .nil) .nil (fun w hw => awake_c  (w₀ := w) ) ?_
            refine WL.quiet (d := 50) rfl rfl rfl (q_pickT rfl rfl) ?_
            exact WL.cutEnd () trivial (.cons rfl (.cons rfl (.cons rfl (.cons rfl (.cons rfl (.cons rfl (.cons rfl (.cons rfl (.cons rfl (.cons rfl (.cons (some_bool (and_r (bT (biff_and (decide_eq_true_iff) (iff_of_true rfl trivial)) hb4))) .nil))))))))))) (.cons .here .nil)
          · refine WL.pin (i := 48) rfl (bF (biff_and (decide_eq_true_iff) (iff_of_true rfl trivial)) hb4) ?_
            refine WL.skip rfl rfl rfl ?_
            refine WL.quiet (d := 50) rfl rfl rfl (q_pickF rfl rfl) ?_
            exact WL.cutEnd () trivial (.cons rfl (.cons rfl (.cons rfl (.cons rfl (.cons rfl (.cons rfl (.cons rfl (.cons rfl (.cons rfl (.cons rfl (.cons (some_bool (and_l (bF (biff_and (decide_eq_true_iff) (iff_of_true rfl trivial)) hb4))) .nil))))))))))) (.cons .here .nil)
        · skip
          refine WL.quiet (d := 8) rfl rfl rfl (q_assign rfl) ?_
          refine WL.nil ?_
          refine WX.then ?_
          refine WC.ret ?_
          refine WX.thenRet ?_
          refine WX.bpRet Try.results3 (.tmp rfl .nil) (fun w hw => ?_)
          exact ⟨ret1 (vbool (by first | rfl | (rw [hnq, hpr.held, ← hpr.last]; simp) | simp)), (hw.sub .nil)⟩
  · skip
    refine WL.enter1 (dd := 24) rfl rfl rfl (run_call (l := [.tmp 21, .tmp 22, .tmp 23]) Try.call9 (.cons rfl (.cons rfl (.cons rfl .nil)))) .nil (fun w hw => new_ok (slow := slow) (delay := delay) (store := store) (w₀ := w) (by omega)) ?_
    rintro b5 _
    refine WL.quiet (d := 20) rfl rfl rfl (q_move rfl) ?_
    refine WL.quiet (d := 25) rfl rfl rfl (q_extract rfl rfl) ?_
    refine WL.quiet (d := 26) rfl rfl rfl (q_extract rfl rfl) ?_
    refine WL.quiet (d := 9) rfl rfl rfl (q_assign rfl) ?_
    refine WL.quiet (d := 10) rfl rfl rfl (q_assign rfl) ?_
    refine WL.nil ?_
    refine WX.then ?_
    refine WC.seq ?_
    refine WC.region ?_
    refine WL.quiet (d := 28) rfl rfl rfl (q_move rfl) ?_
    refine WL.quiet (d := 29) rfl rfl rfl (q_move rfl) ?_
    refine WL.quiet (d := 30) rfl rfl rfl (q_move rfl) ?_
    refine WL.callD (dd := 31) rfl rfl rfl (run_call (l := [.tmp 28, .tmp 29, .tmp 30]) Try.call10 (.cons rfl (.cons rfl (.cons rfl .nil)))) .nil (fun w hw => rnew_ok (slow := slow) (delay := delay) (store := store) (w₀ := w) (by omega)) ?_
    refine WL.quiet (d := 27) rfl rfl rfl (q_move rfl) ?_
    refine WL.quiet (d := 32) rfl rfl rfl (q_extract rfl rfl) ?_
    refine WL.quiet (d := 33) rfl rfl rfl (q_extract rfl rfl) ?_
    refine WL.new (dd := 11) rfl rfl rfl (e_alloc (cs := [(.int .i64 0), (.int .i64 0), (.int .i64 0), (.int .i64 0), (.slice none 0 0), (.slice none 0 0), (.slice none 0 0)]) zeroT_29 rfl) ?_
    intro b7 _
    refine WL.eff0 rfl rfl (e_store (vs := [(.int .i64 slow), (.int .i64 delay), (.int .i64 store), (.int .i64 0), (.slice none 0 0), (.slice none 0 0), (.slice none 0 0)]) (ds := [(.int .i64 slow), (.int .i64 delay), (.int .i64 store), (.int .i64 0), (.slice none 0 0), (.slice none 0 0), (.slice none 0 0)]) sizT_29 rfl rfl rfl rfl (oc_cons rfl (oc_cons rfl (oc_cons rfl (oc_cons rfl (oc_cons rfl (oc_cons rfl (oc_cons rfl oc_nil))))))) .here (Nat.le_of_ble_eq_true rfl) rfl) ?_
    refine WL.quiet (d := 12) rfl rfl rfl (q_assign rfl) ?_
    refine WL.nil ?_
    refine WX.then ?_
    refine WC.seq ?_
    refine WC.seq ?_
    refine WC.region ?_
    refine WL.quiet (d := 34) rfl rfl rfl (q_move rfl) ?_
    refine WL.quiet (d := 35) rfl rfl rfl (q_move rfl) ?_
    refine WL.quiet (d := 36) rfl rfl rfl (q_neq rfl rfl) ?_
    refine WL.quiet (d := 37) rfl rfl rfl (q_move rfl) ?_
    refine WL.cut0 True [(0, (.int .i64 slow)), (1, (.int .i64 delay)), (2, (.int .i64 store)), (3, (.slice aoL mL capL)), (8, (.bool false)), (9, (.pointer (some ⟨b5, 0, none⟩))), (10, (.int .i64 0)), (11, (.pointer (some ⟨b7, 0, none⟩))), (12, (.int .i64 0)), (40, (.bool ((decide ((0 : Int) ≠ 0)) || (decide ((0 : Int) ≠ 0)))))] [stb b7 29 [(.int .i64 slow), (.int .i64 delay), (.int .i64 store), (.int .i64 0), (.slice none 0 0), (.slice none 0 0), (.slice none 0 0)], stb b5 57 [(.int .i64 slow), (.int .i64 delay), (.int .i64 store), (.int .i64 0), (.int .i64 0), (.slice none 0 0)]] 3 ?_ (fun _ => ?_)
    · by_cases hb8 : (0 : Int) ≠ 0
      · refine WL.pin (i := 37) rfl (bT (decide_eq_true_iff) hb8) ?_
        refine WL.skip rfl rfl rfl ?_
        refine WL.skip rfl rfl rfl ?_
        refine WL.quiet (d := 40) rfl rfl rfl (q_pickT rfl rfl) ?_
        exact WL.cutEnd () trivial (.cons rfl (.cons rfl (.cons rfl (.cons rfl (.cons rfl (.cons rfl (.cons rfl (.cons rfl (.cons rfl (.cons (some_bool (or_l (bT (decide_eq_true_iff) hb8))) .nil)))))))))) (.cons .here (.cons .here .nil))
      · refine WL.pin (i := 37) rfl (bF (decide_eq_true_iff) hb8) ?_
        refine WL.quiet (d := 38) rfl rfl rfl (q_move rfl) ?_
        refine WL.quiet (d := 39) rfl rfl rfl (q_neq rfl rfl) ?_
        refine WL.quiet (d := 40) rfl rfl rfl (q_pickF rfl rfl) ?_
        exact WL.cutEnd () trivial (.cons rfl (.cons rfl (.cons rfl (.cons rfl (.cons rfl (.cons rfl (.cons rfl (.cons rfl (.cons rfl (.cons (some_bool (or_r (bF (decide_eq_true_iff) hb8))) .nil)))))))))) (.cons .here (.cons .here .nil))
    · skip
      refine WL.nil ?_
      refine WX.then ?_
      refine WC.cond rfl (fun h => absurd ((biff_or (decide_eq_true_iff) (decide_eq_true_iff)).1 h) (by omega)) (fun _ => ?_)
      refine WC.skip ?_
      refine WX.then ?_
      refine WC.seq ?_
      refine WC.seq ?_
      refine WC.region ?_
      refine WL.quiet (d := 51) rfl rfl rfl (q_move rfl) ?_
      refine WL.quiet (d := 52) rfl rfl rfl (q_move rfl) ?_
      refine WL.quiet (d := 53) rfl rfl rfl (q_len Try.underlying22 rfl) ?_
      refine WL.quiet (d := 54) rfl rfl rfl (q_min rfl rfl rfl) ?_
      refine WL.subHi (hi := (min cl.length 60)) (dd := 55) rfl rfl elT_22 rfl rfl hsL (by omega) (by omega) ?_
      intro ao9 cap10 hs11
      refine WL.quiet (d := 56) rfl rfl rfl (q_len Try.underlying22 rfl) ?_
      refine WL.quiet (d := 57) rfl rfl rfl (q_move rfl) ?_
      refine WL.nil ?_
      refine WX.then ?_
      refine WC.block ?_
      refine WC.nilRow 67 2 ?_
      refine WC.nilRow 3 1 ?_
      refine WC.nilRow 3 1 ?_
      refine WC.nilRow 3 1 ?_
      refine WC.loop20 (fun (i : Int) (now : Int) (last : Int) (ao : Option Addr) (m : Nat) (cap : Nat) (cur : List Fr) (nq : Int) (aoA : Option Addr) (mA : Nat) (capA : Nat) (aoZ : Option Addr) (mZ : Nat) (capZ : Nat) (aoE : Option Addr) (mE : Nat) (capE : Nat) (ats : List Int) (szs : List Int) (ens : List Int) => (0 ≤ i) ∧ (i ≤ (min cl.length 60 : Nat)) ∧ (PR now last cur ats szs ens) ∧ (nq = now) ∧ (0 ≤ last ∧ last ≤ 2147483648 + 1152 * i) ∧ (m = cur.length) ∧ (cur.length ≤ i) ∧ (∀ x ∈ cur, 1 ≤ x.size ∧ x.size ≤ 72) ∧ (mA = ats.length ∧ mZ = szs.length ∧ mE = ens.length) ∧ (ens.length ≤ i) ∧ (∀ x ∈ szs, 1 ≤ x ∧ x ≤ 72) ∧ (∀ x ∈ ens, 0 ≤ x ∧ x ≤ 2147483648 + 1152 * i)) (fun (i : Int) (now : Int) (last : Int) (ao : Option Addr) (m : Nat) (cap : Nat) (cur : List Fr) (nq : Int) (aoA : Option Addr) (mA : Nat) (capA : Nat) (aoZ : Option Addr) (mZ : Nat) (capZ : Nat) (aoE : Option Addr) (mE : Nat) (capE : Nat) (ats : List Int) (szs : List Int) (ens : List Int) => [(9, (.pointer (some ⟨b5, 0, none⟩))), (11, (.pointer (some ⟨b7, 0, none⟩))), (55, (.slice ao9 ((cl.take (min cl.length 60)).length) cap10)), (56, (.int .i64 (((cl.take (min cl.length 60)).length : Nat) : Int))), (57, (.int .i64 i))]) (fun (i : Int) (now : Int) (last : Int) (ao : Option Addr) (m : Nat) (cap : Nat) (cur : List Fr) (nq : Int) (aoA : Option Addr) (mA : Nat) (capA : Nat) (aoZ : Option Addr) (mZ : Nat) (capZ : Nat) (aoE : Option Addr) (mE : Nat) (capE : Nat) (ats : List Int) (szs : List Int) (ens : List Int) => [row (.slice aoE mE capE) 3 1 (ens.flatMap intE), row (.slice aoZ mZ capZ) 3 1 (szs.flatMap intE), row (.slice aoA mA capA) 3 1 (ats.flatMap intE), row (.slice ao m cap) 67 2 (cur.flatMap frE), stb b7 29 [(.int .i64 slow), (.int .i64 delay), (.int .i64 store), (.int .i64 nq), (.slice aoA mA capA), (.slice aoZ mZ capZ), (.slice aoE mE capE)], stb b5 57 [(.int .i64 slow), (.int .i64 delay), (.int .i64 store), (.int .i64 now), (.int .i64 last), (.slice ao m cap)]]) (fun (i : Int) (now : Int) (last : Int) (ao : Option Addr) (m : Nat) (cap : Nat) (cur : List Fr) (nq : Int) (aoA : Option Addr) (mA : Nat) (capA : Nat) (aoZ : Option Addr) (mZ : Nat) (capZ : Nat) (aoE : Option Addr) (mE : Nat) (capE : Nat) (ats : List Int) (szs : List Int) (ens : List Int) => (60 - i.toNat)) ⟨0, 0, 0, none, 0, 0, [], 0, none, 0, 0, none, 0, 0, none, 0, 0, [], [], []⟩ ⟨(by first | omega | (dsimp only; omega)), (by first | omega | (dsimp only; omega)), (by first | (dsimp only; exact ⟨rfl, rfl, rfl, rfl, by simp, by omega⟩) | (exact ⟨rfl, rfl, rfl, rfl, by simp, by omega⟩)), (by first | (dsimp only; rfl) | (rfl)), (by first | omega | (dsimp only; omega)), (by first | (dsimp only; rfl) | (rfl)), (by first | (dsimp only; simp) | (simp)), (by first | (dsimp only; simp) | (simp)), (by first | (dsimp only; simp) | (simp)), (by first | (dsimp only; simp) | (simp)), (by first | (dsimp only; simp) | (simp)), (by first | (dsimp only; simp) | (simp))⟩ (.cons rfl (.cons rfl (.cons rfl (.cons rfl (.cons rfl .nil))))) (.cons .here (.cons .here (.cons .here (.cons .here (.cons .here (.cons .here .nil)))))) ?_
      rintro i now last ao m cap cur nq aoA mA capA aoZ mZ capZ aoE mE capE ats szs ens ⟨h0, h1, hpr, hnq, hlb, hm, hcl, hsz, hmm, hel, hz, hee⟩
      have hlz := hpr.lz
      have hla := hpr.la
      have hnn := hpr.nn
      refine WC.seq ?_
      refine WC.region ?_
      refine WL.quiet (d := 58) rfl rfl rfl (q_lss rfl rfl) ?_
      refine WL.nil ?_
      refine WX.then ?_
      refine WC.seq ?_
      refine WC.cond rfl (fun h => ?_) (fun h => ?_)
      · have hc12 : i < (((cl.take (min cl.length 60)).length : Nat) : Int) := ((decide_eq_true_iff)).1 h; clear h
        refine WC.skip ?_
        refine WX.then ?_
        refine WC.seq ?_
        refine WC.block ?_
        refine WC.seq ?_
        refine WC.region ?_
        refine WL.nth (dd := 59) rfl rfl elT_22 rfl rfl hs11 (by omega) (by omega) ?_
        rintro A13 r14 hA15 hl16 rfl; clear hl16
        refine WL.quiet (d := 60) rfl rfl rfl (q_loadA (cs := (callE (nth (cl.take (min cl.length 60)) i))) aggT_34 rfl rfl (rd_cells hA15)) ?_
        refine WL.new (dd := 14) rfl rfl rfl (e_alloc (cs := [(.int .i64 0), (.int .i64 0)]) zeroT_34 rfl) ?_
        intro b18 _
        refine WL.eff0 rfl rfl (e_store (vs := (callE (nth (cl.take (min cl.length 60)) i))) (ds := [(.int .i64 ((nth (cl.take (min cl.length 60)) i).t)), (.int .i64 ((nth (cl.take (min cl.length 60)) i).size))]) sizT_34 rfl rfl rfl rfl (oc_cons rfl (oc_cons rfl oc_nil)) .here (Nat.le_of_ble_eq_true rfl) rfl) ?_
        refine WL.nil ?_
        refine WX.then ?_
        refine WC.seq ?_
        refine WC.seq ?_
        refine WC.region ?_
        refine WL.quiet (d := 61) rfl rfl rfl (q_fieldAddr fo_34_1 rfl rfl) ?_
        refine WL.quiet (d := 62) rfl rfl rfl (q_load1 oneT_3 rfl (rd_stb .here rfl)) ?_
        refine WL.quiet (d := 63) rfl rfl rfl (q_eql rfl rfl) ?_
        refine WL.nil ?_
        refine WX.then ?_
        refine WC.cond rfl (fun h => ?_) (fun h => ?_)
        · have hc19 : ((nth (cl.take (min cl.length 60)) i).size) = (-1) := ((decide_eq_true_iff)).1 h; clear h
          refine WC.seq ?_
          refine WC.seq ?_
          refine WC.draw (fun i => [].contains i) [] rfl ?_
          refine WD.pure (i := 0) (d := 64) (by kernel_rfl) rfl (by kernel_rfl) (by kernel_rfl) rfl rfl rfl (fun _ => q_move rfl) ?_
          refine WD.pure (i := 1) (d := 65) (by kernel_rfl) rfl (by kernel_rfl) (by kernel_rfl) rfl rfl rfl (fun _ => q_fieldAddr fo_34_0 rfl rfl) ?_
          refine WD.quiet (i := 2) (d := 66) (by kernel_rfl) rfl (by kernel_rfl) (by kernel_rfl) rfl rfl rfl (q_load1 oneT_3 rfl (rd_stb .here rfl)) ?_
          refine WD.enter (i := 3) (d := 67) (by kernel_rfl) rfl (by kernel_rfl) (by kernel_rfl) rfl rfl rfl (run_call (l := [.tmp 64, .tmp 66]) Try.call12 (.cons rfl (.cons rfl .nil))) (fun w hw => held_c (A := ⟨b5, 0, none⟩) (slow := slow) (delay := delay) (store := store) (now := now) (last := last) (ao := ao) (m := m) (cap := cap) (l := cur) (t := ((nth (cl.take (min cl.length 60)) i).t)) (w₀ := w) (hw.cellsStb .nil (.there (.there (.there (.there (.there (.there .here))))))) (hw.slpRow .nil (.there (.there (.there (.there .here)))) (fun _ _ => rfl) (by decide)) (by first | assumption | (simp; done)) (by first | omega | (simp; done)) (by omega)) ?_
          refine WD.quiet (i := 4) (d := 68) (by kernel_rfl) rfl (by kernel_rfl) (by kernel_rfl) rfl rfl rfl (q_loadA (cs := [(.int .i64 slow), (.int .i64 delay), (.int .i64 store), (.int .i64 nq), (.slice aoA mA capA), (.slice aoZ mZ capZ), (.slice aoE mE capE)]) aggT_29 rfl rfl (rd_all (.there (.there (.there (.there (.there .here))))))) ?_
          refine WD.pure (i := 5) (d := 69) (by kernel_rfl) rfl (by kernel_rfl) (by kernel_rfl) rfl rfl rfl (fun _ => q_fieldAddr fo_34_0 rfl rfl) ?_
          refine WD.quiet (i := 6) (d := 70) (by kernel_rfl) rfl (by kernel_rfl) (by kernel_rfl) rfl rfl rfl (q_load1 oneT_3 rfl (rd_stb .here rfl)) ?_
          refine WD.enter (i := 7) (d := 71) (by kernel_rfl) rfl (by kernel_rfl) (by kernel_rfl) rfl rfl rfl (run_call (l := [.tmp 68, .tmp 70]) Try.call13 (.cons rfl (.cons rfl .nil))) (fun w hw => rheld_c (slow := slow) (delay := delay) (store := store) (now := nq) (aoA := aoA) (mA := mA) (capA := capA) (ats := ats) (aoZ := aoZ) (mZ := mZ) (capZ := capZ) (szs := szs) (aoE := aoE) (mE := mE) (capE := capE) (ens := ens) (t := ((nth (cl.take (min cl.length 60)) i).t)) (w₀ := w) (hw.slpRow .nil (.there (.there (.there .here))) (fun _ _ => rfl) (by decide)) (hw.slpRow .nil (.there (.there .here)) (fun _ _ => rfl) (by decide)) (hw.slpRow .nil (.there .here) (fun _ _ => rfl) (by decide)) (by omega) (by assumption)) ?_
          refine WD.pure (i := 8) (d := 72) (by kernel_rfl) rfl (by kernel_rfl) (by kernel_rfl) rfl rfl rfl (fun _ => q_neq rfl rfl) ?_
          refine WD.pure (i := 9) (d := 73) (by kernel_rfl) rfl (by kernel_rfl) (by kernel_rfl) rfl rfl rfl (fun _ => q_move rfl) ?_
          refine WD.mid (fuel' := 0) [(9, (.pointer (some ⟨b5, 0, none⟩))), (11, (.pointer (some ⟨b7, 0, none⟩))), (55, (.slice ao9 ((cl.take (min cl.length 60)).length) cap10)), (56, (.int .i64 (((cl.take (min cl.length 60)).length : Nat) : Int))), (57, (.int .i64 i)), (58, (.bool (decide (i < (((cl.take (min cl.length 60)).length : Nat) : Int))))), (59, (.pointer (some A13))), (60, (.agg (((callE (nth (cl.take (min cl.length 60)) i))).toArray))), (14, (.pointer (some ⟨b18, 0, none⟩))), (61, (.pointer (some ⟨b18, 1, none⟩))), (62, (.int .i64 ((nth (cl.take (min cl.length 60)) i).size))), (63, (.bool (decide (((nth (cl.take (min cl.length 60)) i).size) = (-1))))), (64, (.pointer (some ⟨b5, 0, none⟩))), (65, (.pointer (some ⟨b18, 0, none⟩))), (66, (.int .i64 ((nth (cl.take (min cl.length 60)) i).t))), (67, (.int .i64 (sumF (fun x => decide (x.fin > max ((nth (cl.take (min cl.length 60)) i).t) now)) cur))), (68, (.agg #[(.int .i64 slow), (.int .i64 delay), (.int .i64 store), (.int .i64 nq), (.slice aoA mA capA), (.slice aoZ mZ capZ), (.slice aoE mE capE)])), (69, (.pointer (some ⟨b18, 0, none⟩))), (70, (.int .i64 ((nth (cl.take (min cl.length 60)) i).t))), (71, (.int .i64 (heldT ats szs ens (max ((nth (cl.take (min cl.length 60)) i).t) nq) ats.length))), (72, (.bool (decide ((sumF (fun x => decide (x.fin > max ((nth (cl.take (min cl.length 60)) i).t) now)) cur) ≠ (heldT ats szs ens (max ((nth (cl.take (min cl.length 60)) i).t) nq) ats.length))))), (73, (.bool (decide ((sumF (fun x => decide (x.fin > max ((nth (cl.take (min cl.length 60)) i).t) now)) cur) ≠ (heldT ats szs ens (max ((nth (cl.take (min cl.length 60)) i).t) nq) ats.length))))), (79, (.bool ((decide ((sumF (fun x => decide (x.fin > max ((nth (cl.take (min cl.length 60)) i).t) now)) cur) ≠ (heldT ats szs ens (max ((nth (cl.take (min cl.length 60)) i).t) nq) ats.length))) || (decide (last ≠ (rfreeR ens))))))] (listedA 16 [15, 14, 13, 12, 11, 10, 9, 8, 7, 6, 5, 4, 3, 2, 1, 0]) ?_ (fun K21 => ?_)
          rotate_left
          · by_cases hb20 : (sumF (fun x => decide (x.fin > max ((nth (cl.take (min cl.length 60)) i).t) now)) cur) ≠ (heldT ats szs ens (max ((nth (cl.take (min cl.length 60)) i).t) nq) ats.length)
            · refine WD.pin (i := 73) rfl (bT (decide_eq_true_iff) hb20) ?_
              refine WD.skip (i := 10) (d := 74) (by kernel_rfl) rfl (by kernel_rfl) (by kernel_rfl) rfl rfl rfl ?_
              refine WD.skip (i := 11) (d := 75) (by kernel_rfl) rfl (by kernel_rfl) (by kernel_rfl) rfl rfl rfl ?_
              refine WD.skip (i := 12) (d := 76) (by kernel_rfl) rfl (by kernel_rfl) (by kernel_rfl) rfl rfl rfl ?_
              refine WD.skip (i := 13) (d := 77) (by kernel_rfl) rfl (by kernel_rfl) (by kernel_rfl) rfl rfl rfl ?_
              refine WD.skip (i := 14) (d := 78) (by kernel_rfl) rfl (by kernel_rfl) (by kernel_rfl) rfl rfl rfl ?_
              refine WD.pure (i := 15) (d := 79) (by kernel_rfl) rfl (by kernel_rfl) (by kernel_rfl) rfl rfl rfl (fun _ => q_pickT rfl rfl) ?_
              refine WD.restr ?_ K21
              exact (.cons rfl (.cons rfl (.cons rfl (.cons rfl (.cons rfl (.cons rfl (.cons rfl (.cons rfl (.cons rfl (.cons rfl (.cons rfl (.cons rfl (.cons rfl (.cons rfl (.cons rfl (.cons rfl (.cons rfl (.cons rfl (.cons rfl (.cons rfl (.cons rfl (.cons (some_bool (Eq.symm (bT (decide_eq_true_iff) hb20))) (.cons (some_bool (or_l (bT (decide_eq_true_iff) hb20))) .nil)))))))))))))))))))))))
            · refine WD.pin (i := 73) rfl (bF (decide_eq_true_iff) hb20) ?_
              refine WD.pure (i := 10) (d := 74) (by kernel_rfl) rfl (by kernel_rfl) (by kernel_rfl) rfl rfl rfl (fun _ => q_move rfl) ?_
              refine WD.enter (i := 11) (d := 75) (by kernel_rfl) rfl (by kernel_rfl) (by kernel_rfl) rfl rfl rfl (run_call (l := [.tmp 74]) Try.call14 (.cons rfl .nil)) (fun w hw => free_no (A := ⟨b5, 0, none⟩) (slow := slow) (delay := delay) (store := store) (now := now) (last := last) (fr := (.slice ao m cap)) (w₀ := w) (hw.cellsStb .nil (.there (.there (.there (.there (.there (.there .here))))))) (by omega)) ?_
              refine WD.quiet (i := 12) (d := 76) (by kernel_rfl) rfl (by kernel_rfl) (by kernel_rfl) rfl rfl rfl (q_loadA (cs := [(.int .i64 slow), (.int .i64 delay), (.int .i64 store), (.int .i64 nq), (.slice aoA mA capA), (.slice aoZ mZ capZ), (.slice aoE mE capE)]) aggT_29 rfl rfl (rd_all (.there (.there (.there (.there (.there .here))))))) ?_
              refine WD.enter (i := 13) (d := 77) (by kernel_rfl) rfl (by kernel_rfl) (by kernel_rfl) rfl rfl rfl (run_call (l := [.tmp 76]) Try.call15 (.cons rfl .nil)) (fun w hw => rfree_d (slow := slow) (delay := delay) (store := store) (now := nq) (aoA := aoA) (mA := mA) (capA := capA) (ats := ats) (aoZ := aoZ) (mZ := mZ) (capZ := capZ) (szs := szs) (aoE := aoE) (mE := mE) (capE := capE) (ens := ens) (w₀ := w) (hw.slpRow .nil (.there (.there (.there .here))) (fun _ _ => rfl) (by decide)) (hw.slpRow .nil (.there (.there .here)) (fun _ _ => rfl) (by decide)) (hw.slpRow .nil (.there .here) (fun _ _ => rfl) (by decide)) (by omega)) ?_
              refine WD.pure (i := 14) (d := 78) (by kernel_rfl) rfl (by kernel_rfl) (by kernel_rfl) rfl rfl rfl (fun _ => q_neq rfl rfl) ?_
              refine WD.pure (i := 15) (d := 79) (by kernel_rfl) rfl (by kernel_rfl) (by kernel_rfl) rfl rfl rfl (fun _ => q_pickF rfl rfl) ?_
              refine WD.restr ?_ K21
              exact (.cons rfl (.cons rfl (.cons rfl (.cons rfl (.cons rfl (.cons rfl (.cons rfl (.cons rfl (.cons rfl (.cons rfl (.cons rfl (.cons rfl (.cons rfl (.cons rfl (.cons rfl (.cons rfl (.cons rfl (.cons rfl (.cons rfl (.cons rfl (.cons rfl (.cons (some_bool (Eq.symm (bF (decide_eq_true_iff) hb20))) (.cons (some_bool (or_r (bF (decide_eq_true_iff) hb20))) .nil)))))))))))))))))))))))
          refine WD.done (by kernel_rfl) ?_
          refine WX.then ?_
          refine WC.cond rfl (fun h => absurd ((biff_or (decide_eq_true_iff) (decide_eq_true_iff)).1 h) (by rintro (hh | hh); exact hh (by rw [hnq]; exact hpr.held _); exact hh hpr.last)) (fun _ => ?_)
          refine WC.skip ?_
          refine WX.then ?_
          refine WC.exit ?_
          refine WX.thenExit ?_
          refine WX.blockHit ?_
          refine WX.then ?_
          refine WC.region ?_
          refine WL.quiet (d := 108) rfl rfl rfl (q_add rfl rfl (w64 (by omega))) ?_
          refine WL.quiet (d := 57) rfl rfl rfl (q_move rfl) ?_
          refine WL.nil ?_
          exact WX.round (G := Int × Int × Int × (Option Addr) × Nat × Nat × (List Fr) × Int × (Option Addr) × Nat × Nat × (Option Addr) × Nat × Nat × (Option Addr) × Nat × Nat × (List Int) × (List Int) × (List Int)) ⟨(i + 1), now, last, ao, m, cap, cur, nq, aoA, mA, capA, aoZ, mZ, capZ, aoE, mE, capE, ats, szs, ens⟩ ⟨(by first | omega | (dsimp only; omega)), (by first | omega | (dsimp only; omega)), (by first | (dsimp only; first | exact hpr1 | exact hpr) | (first | exact hpr1 | exact hpr)), (by first | (dsimp only; omega) | (omega)), (by first | omega | (dsimp only; omega)), (by first | (dsimp only; first | exact hm1 | exact hm) | (first | exact hm1 | exact hm)), (by first | (dsimp only; omega) | (omega)), (by first | (dsimp only; first | exact hsz1 | exact hsz) | (first | exact hsz1 | exact hsz)), (by first | (dsimp only; first | exact hmm1 | exact hmm) | (first | exact hmm1 | exact hmm)), (by first | (dsimp only; omega) | (omega)), (by first | (dsimp only; first | exact hz1 | exact hz) | (first | exact hz1 | exact hz)), (by first | (dsimp only; first | exact hee1 | (intro x hx; have := hee x hx; omega)) | (first | exact hee1 | (intro x hx; have := hee x hx; omega)))⟩ (by first | omega | (dsimp only; omega)) (.cons rfl (.cons rfl (.cons rfl (.cons rfl (.cons rfl .nil))))) (.cons (.there .here) (.cons (.there .here) (.cons (.there .here) (.cons (.there .here) (.cons (.there .here) (.cons (.there .here) .nil))))))
        · have hc19 : ¬ (((nth (cl.take (min cl.length 60)) i).size) = (-1)) := biffF (decide_eq_true_iff) h; clear h
          refine WC.skip ?_
          refine WX.then ?_
          refine WC.seq ?_
          refine WC.region ?_
          refine WL.quiet (d := 81) rfl rfl rfl (q_move rfl) ?_
          refine WL.quiet (d := 82) rfl rfl rfl (q_fieldAddr fo_34_0 rfl rfl) ?_
          refine WL.quiet (d := 83) rfl rfl rfl (q_load1 oneT_3 rfl (rd_stb .here rfl)) ?_
          refine WL.quiet (d := 84) rfl rfl rfl (q_fieldAddr fo_34_1 rfl rfl) ?_
          refine WL.quiet (d := 85) rfl rfl rfl (q_load1 oneT_3 rfl (rd_stb .here rfl)) ?_
          refine WL.enter8 (dd := 86) rfl rfl rfl (run_call (l := [.tmp 81, .tmp 83, .tmp 85]) Try.call16 (.cons rfl (.cons rfl (.cons rfl .nil)))) (.cons (.there (.there (.there (.there (.there (.there .here)))))) (.cons (.there (.there (.there (.there .here)))) .nil)) (fun w hw => put_c (b := b5) (slow := slow) (delay := delay) (store := store) (now := now) (last := last) (ao := ao) (m := m) (cap := cap) (l := cur) (t := ((nth (cl.take (min cl.length 60)) i).t)) (size := ((nth (cl.take (min cl.length 60)) i).size)) (w₀ := w) (by first | omega | (simp; done)) (by first | assumption | (simp; done)) (by first | omega | (simp; done)) (by omega) (hw.owns (.cons (.there (.there (.there (.there (.there (.there .here)))))) (.cons (.there (.there (.there (.there .here)))) .nil)))) ?_
          rintro r22 er23 now'24 last'25 l'26 ao'27 cap'28 m'29 ⟨hhr30, hhm31, hhe32⟩
          have hr1 := hhr30
          have hm1 := hhm31
          have hi := putR_inv hr1 hsz (by have := hpr.nn; omega)
          have hsz1 := hi.1
          have hcl1 := hi.2.1
          have hlb1 := hi.2.2.2.2.1
          have hlb0 := hi.2.2.2.1
          refine WL.quiet (d := 80) rfl rfl rfl (q_move rfl) ?_
          refine WL.quiet (d := 87) rfl rfl rfl (q_extract rfl rfl) ?_
          refine WL.quiet (d := 88) rfl rfl rfl (q_extract rfl rfl) ?_
          refine WL.quiet (d := 15) rfl rfl rfl (q_assign rfl) ?_
          refine WL.quiet (d := 16) rfl rfl rfl (q_assign rfl) ?_
          refine WL.nil ?_
          refine WX.then ?_
          refine WC.seq ?_
          refine WC.region ?_
          refine WL.quiet (d := 90) rfl rfl rfl (q_loadA (cs := [(.int .i64 slow), (.int .i64 delay), (.int .i64 store), (.int .i64 nq), (.slice aoA mA capA), (.slice aoZ mZ capZ), (.slice aoE mE capE)]) aggT_29 rfl rfl (rd_all (.there (.there (.there (.there (.there (.there .here)))))))) ?_
          refine WL.quiet (d := 91) rfl rfl rfl (q_fieldAddr fo_34_0 rfl rfl) ?_
          refine WL.quiet (d := 92) rfl rfl rfl (q_load1 oneT_3 rfl (rd_stb (.there (.there .here)) rfl)) ?_
          refine WL.quiet (d := 93) rfl rfl rfl (q_fieldAddr fo_34_1 rfl rfl) ?_
          refine WL.quiet (d := 94) rfl rfl rfl (q_load1 oneT_3 rfl (rd_stb (.there (.there .here)) rfl)) ?_
          refine WL.enter15 (dd := 95) rfl rfl rfl (run_call (l := [.tmp 90, .tmp 92, .tmp 94]) Try.call17 (.cons rfl (.cons rfl (.cons rfl .nil)))) (.cons (.there (.there (.there (.there (.there .here))))) (.cons (.there (.there (.there (.there .here)))) (.cons (.there (.there (.there .here))) .nil))) (fun w hw => rput_c (slow := slow) (delay := delay) (store := store) (now := nq) (aoA := aoA) (mA := mA) (capA := capA) (ats := ats) (aoZ := aoZ) (mZ := mZ) (capZ := capZ) (szs := szs) (aoE := aoE) (mE := mE) (capE := capE) (ens := ens) (t := ((nth (cl.take (min cl.length 60)) i).t)) (size := ((nth (cl.take (min cl.length 60)) i).size)) (w₀ := w) (by first | omega | (simp; done) | (simp; omega)) (by have := hpr.lz; have := hpr.la; omega) (by assumption) (by intro x hx; have := hee x hx; omega) (by omega) (hw.owns (.cons (.there (.there (.there (.there (.there .here))))) (.cons (.there (.there (.there (.there .here)))) (.cons (.there (.there (.there .here))) .nil))))) ?_
          rintro r33 er34 now'35 ats'36 szs'37 ens'38 aoA'39 mA'40 capA'41 aoZ'42 mZ'43 capZ'44 aoE'45 mE'46 capE'47 ⟨hhr48, hhm49⟩
          have hr2 := hhr48
          have hmm1 := hhm49
          rw [hnq] at hr2
          have hp := hpr.put hr1 hr2 (by omega)
          obtain ⟨hp1, hp2, hp3, hpr1⟩ := hp
          have hri := rputR_inv (B := 2147483648 + 1152 * i) hr2 hz hee (by have := hpr.nn; omega)
          obtain ⟨hz1, hee0, hel1⟩ := hri
          have hee1 : ∀ x ∈ ens'38, 0 ≤ x ∧ x ≤ 2147483648 + 1152 * (i + 1) := fun x hx => by have := hee0 x hx; omega
          refine WL.quiet (d := 89) rfl rfl rfl (q_move rfl) ?_
          refine WL.quiet (d := 96) rfl rfl rfl (q_extract rfl rfl) ?_
          refine WL.quiet (d := 97) rfl rfl rfl (q_extract rfl rfl) ?_
          refine WL.quiet (d := 98) rfl rfl rfl (q_extract rfl rfl) ?_
          refine WL.new (dd := 17) rfl rfl rfl (e_alloc (cs := [(.int .i64 0), (.int .i64 0), (.int .i64 0), (.int .i64 0), (.slice none 0 0), (.slice none 0 0), (.slice none 0 0)]) zeroT_29 rfl) ?_
          intro b50 _
          refine WL.eff0 rfl rfl (e_store (vs := [(.int .i64 slow), (.int .i64 delay), (.int .i64 store), (.int .i64 now'35), (.slice aoA'39 mA'40 capA'41), (.slice aoZ'42 mZ'43 capZ'44), (.slice aoE'45 mE'46 capE'47)]) (ds := [(.int .i64 slow), (.int .i64 delay), (.int .i64 store), (.int .i64 now'35), (.slice aoA'39 mA'40 capA'41), (.slice aoZ'42 mZ'43 capZ'44), (.slice aoE'45 mE'46 capE'47)]) sizT_29 rfl rfl rfl rfl (oc_cons rfl (oc_cons rfl (oc_cons rfl (oc_cons rfl (oc_cons rfl (oc_cons rfl (oc_cons rfl oc_nil))))))) .here (Nat.le_of_ble_eq_true rfl) rfl) ?_
          refine WL.quiet (d := 18) rfl rfl rfl (q_assign rfl) ?_
          refine WL.quiet (d := 19) rfl rfl rfl (q_assign rfl) ?_
          refine WL.nil ?_
          refine WX.then ?_
          refine WC.seq ?_
          refine WC.seq ?_
          refine WC.region ?_
          refine WL.quiet (d := 99) rfl rfl rfl (q_move rfl) ?_
          refine WL.quiet (d := 100) rfl rfl rfl (q_move rfl) ?_
          refine WL.quiet (d := 101) rfl rfl rfl (q_neq rfl rfl) ?_
          refine WL.quiet (d := 102) rfl rfl rfl (q_move rfl) ?_
          refine WL.cut0 True [(9, (.pointer (some ⟨b5, 0, none⟩))), (11, (.pointer (some ⟨b7, 0, none⟩))), (55, (.slice ao9 ((cl.take (min cl.length 60)).length) cap10)), (56, (.int .i64 (((cl.take (min cl.length 60)).length : Nat) : Int))), (57, (.int .i64 i)), (58, (.bool (decide (i < (((cl.take (min cl.length 60)).length : Nat) : Int))))), (14, (.pointer (some ⟨b18, 0, none⟩))), (63, (.bool (decide (((nth (cl.take (min cl.length 60)) i).size) = (-1))))), (15, (.int .i64 r22)), (16, (.int .i64 er23)), (17, (.pointer (some ⟨b50, 0, none⟩))), (18, (.int .i64 r33)), (19, (.int .i64 er34)), (106, (.bool ((decide (r22 ≠ r33)) || (decide (er23 ≠ er34)))))] [stb b50 29 [(.int .i64 slow), (.int .i64 delay), (.int .i64 store), (.int .i64 now'35), (.slice aoA'39 mA'40 capA'41), (.slice aoZ'42 mZ'43 capZ'44), (.slice aoE'45 mE'46 capE'47)], row (.slice aoA'39 mA'40 capA'41) 3 1 (ats'36.flatMap intE), row (.slice aoZ'42 mZ'43 capZ'44) 3 1 (szs'37.flatMap intE), row (.slice aoE'45 mE'46 capE'47) 3 1 (ens'38.flatMap intE), stb b5 57 [(.int .i64 slow), (.int .i64 delay), (.int .i64 store), (.int .i64 now'24), (.int .i64 last'25), (.slice ao'27 m'29 cap'28)], row (.slice ao'27 m'29 cap'28) 67 2 (l'26.flatMap frE), stb b18 34 [(.int .i64 ((nth (cl.take (min cl.length 60)) i).t)), (.int .i64 ((nth (cl.take (min cl.length 60)) i).size))], stb b7 29 [(.int .i64 slow), (.int .i64 delay), (.int .i64 store), (.int .i64 nq), (.slice aoA mA capA), (.slice aoZ mZ capZ), (.slice aoE mE capE)]] 4 ?_ (fun _ => ?_)
          · by_cases hb51 : r22 ≠ r33
            · refine WL.pin (i := 102) rfl (bT (decide_eq_true_iff) hb51) ?_
              refine WL.skip rfl rfl rfl ?_
              refine WL.skip rfl rfl rfl ?_
              refine WL.skip rfl rfl rfl ?_
              refine WL.quiet (d := 106) rfl rfl rfl (q_pickT rfl rfl) ?_
              exact WL.cutEnd () trivial (.cons rfl (.cons rfl (.cons rfl (.cons rfl (.cons rfl (.cons rfl (.cons rfl (.cons rfl (.cons rfl (.cons rfl (.cons rfl (.cons rfl (.cons rfl (.cons (some_bool (or_l (bT (decide_eq_true_iff) hb51))) .nil)))))))))))))) (.cons .here (.cons .here (.cons .here (.cons .here (.cons .here (.cons .here (.cons .here (.cons .here .nil))))))))
            · refine WL.pin (i := 102) rfl (bF (decide_eq_true_iff) hb51) ?_
              refine WL.quiet (d := 103) rfl rfl rfl (q_move rfl) ?_
              refine WL.quiet (d := 104) rfl rfl rfl (q_move rfl) ?_
              refine WL.quiet (d := 105) rfl rfl rfl (q_neq rfl rfl) ?_
              refine WL.quiet (d := 106) rfl rfl rfl (q_pickF rfl rfl) ?_
              exact WL.cutEnd () trivial (.cons rfl (.cons rfl (.cons rfl (.cons rfl (.cons rfl (.cons rfl (.cons rfl (.cons rfl (.cons rfl (.cons rfl (.cons rfl (.cons rfl (.cons rfl (.cons (some_bool (or_r (bF (decide_eq_true_iff) hb51))) .nil)))))))))))))) (.cons .here (.cons .here (.cons .here (.cons .here (.cons .here (.cons .here (.cons .here (.cons .here .nil))))))))
          · skip
            refine WL.nil ?_
            refine WX.then ?_
            refine WC.cond rfl (fun h => absurd ((biff_or (decide_eq_true_iff) (decide_eq_true_iff)).1 h) (by omega)) (fun _ => ?_)
            refine WC.skip ?_
            refine WX.then ?_
            refine WC.region ?_
            refine WL.quiet (d := 107) rfl rfl rfl (q_loadA (cs := [(.int .i64 slow), (.int .i64 delay), (.int .i64 store), (.int .i64 now'35), (.slice aoA'39 mA'40 capA'41), (.slice aoZ'42 mZ'43 capZ'44), (.slice aoE'45 mE'46 capE'47)]) aggT_29 rfl rfl (rd_all .here)) ?_
            refine WL.eff0 rfl rfl (e_store (vs := [(.int .i64 slow), (.int .i64 delay), (.int .i64 store), (.int .i64 now'35), (.slice aoA'39 mA'40 capA'41), (.slice aoZ'42 mZ'43 capZ'44), (.slice aoE'45 mE'46 capE'47)]) (ds := [(.int .i64 slow), (.int .i64 delay), (.int .i64 store), (.int .i64 now'35), (.slice aoA'39 mA'40 capA'41), (.slice aoZ'42 mZ'43 capZ'44), (.slice aoE'45 mE'46 capE'47)]) sizT_29 rfl rfl rfl rfl (oc_cons rfl (oc_cons rfl (oc_cons rfl (oc_cons rfl (oc_cons rfl (oc_cons rfl (oc_cons rfl oc_nil))))))) (.there (.there (.there (.there (.there (.there (.there .here))))))) (Nat.le_of_ble_eq_true rfl) rfl) ?_
            refine WL.nil ?_
            refine WX.blockNormal ?_
            refine WX.then ?_
            refine WC.region ?_
            refine WL.quiet (d := 108) rfl rfl rfl (q_add rfl rfl (w64 (by omega))) ?_
            refine WL.quiet (d := 57) rfl rfl rfl (q_move rfl) ?_
            refine WL.nil ?_
            exact WX.round (G := Int × Int × Int × (Option Addr) × Nat × Nat × (List Fr) × Int × (Option Addr) × Nat × Nat × (Option Addr) × Nat × Nat × (Option Addr) × Nat × Nat × (List Int) × (List Int) × (List Int)) ⟨(i + 1), now'24, last'25, ao'27, m'29, cap'28, l'26, now'35, aoA'39, mA'40, capA'41, aoZ'42, mZ'43, capZ'44, aoE'45, mE'46, capE'47, ats'36, szs'37, ens'38⟩ ⟨(by first | omega | (dsimp only; omega)), (by first | omega | (dsimp only; omega)), (by first | (dsimp only; first | exact hpr1 | exact hpr) | (first | exact hpr1 | exact hpr)), (by first | (dsimp only; omega) | (omega)), (by first | omega | (dsimp only; omega)), (by first | (dsimp only; first | exact hm1 | exact hm) | (first | exact hm1 | exact hm)), (by first | (dsimp only; omega) | (omega)), (by first | (dsimp only; first | exact hsz1 | exact hsz) | (first | exact hsz1 | exact hsz)), (by first | (dsimp only; first | exact hmm1 | exact hmm) | (first | exact hmm1 | exact hmm)), (by first | (dsimp only; omega) | (omega)), (by first | (dsimp only; first | exact hz1 | exact hz) | (first | exact hz1 | exact hz)), (by first | (dsimp only; first | exact hee1 | (intro x hx; have := hee x hx; omega)) | (first | exact hee1 | (intro x hx; have := hee x hx; omega)))⟩ (by first | omega | (dsimp only; omega)) (.cons rfl (.cons rfl (.cons rfl (.cons rfl (.cons rfl .nil))))) (.cons (.there (.there (.there (.there .here)))) (.cons (.there (.there (.there .here))) (.cons (.there (.there .here)) (.cons (.there (.there (.there .here))) (.cons .here (.cons (.there .here) .nil))))))
      · have hc12 : ¬ (i < (((cl.take (min cl.length 60)).length : Nat) : Int)) := biffF (decide_eq_true_iff) h; clear h
        refine WC.exit ?_
        refine WX.thenExit ?_
        refine WX.thenExit ?_
        refine WX.blockHit ?_
        refine WX.then ?_
        refine WC.seq ?_
        refine WC.draw (fun i => [].contains i) [] rfl ?_
        refine WD.pure (i := 0) (d := 109) (by kernel_rfl) rfl (by kernel_rfl) (by kernel_rfl) rfl rfl rfl (fun _ => q_move rfl) ?_
        refine WD.enter (i := 1) (d := 110) (by kernel_rfl) rfl (by kernel_rfl) (by kernel_rfl) rfl rfl rfl (run_call (l := [.tmp 109, .const (.int .i64 0)]) Try.call12 (.cons rfl (.cons rfl .nil))) (fun w hw => held_c (A := ⟨b5, 0, none⟩) (slow := slow) (delay := delay) (store := store) (now := now) (last := last) (ao := ao) (m := m) (cap := cap) (l := cur) (t := 0) (w₀ := w) (hw.cellsStb .nil (.there (.there (.there (.there (.there .here)))))) (hw.slpRow .nil (.there (.there (.there .here))) (fun _ _ => rfl) (by decide)) (by first | assumption | (simp; done)) (by first | omega | (simp; done)) (by omega)) ?_
        refine WD.quiet (i := 2) (d := 111) (by kernel_rfl) rfl (by kernel_rfl) (by kernel_rfl) rfl rfl rfl (q_loadA (cs := [(.int .i64 slow), (.int .i64 delay), (.int .i64 store), (.int .i64 nq), (.slice aoA mA capA), (.slice aoZ mZ capZ), (.slice aoE mE capE)]) aggT_29 rfl rfl (rd_all (.there (.there (.there (.there .here)))))) ?_
        refine WD.enter (i := 3) (d := 112) (by kernel_rfl) rfl (by kernel_rfl) (by kernel_rfl) rfl rfl rfl (run_call (l := [.tmp 111, .const (.int .i64 0)]) Try.call13 (.cons rfl (.cons rfl .nil))) (fun w hw => rheld_c (slow := slow) (delay := delay) (store := store) (now := nq) (aoA := aoA) (mA := mA) (capA := capA) (ats := ats) (aoZ := aoZ) (mZ := mZ) (capZ := capZ) (szs := szs) (aoE := aoE) (mE := mE) (capE := capE) (ens := ens) (t := 0) (w₀ := w) (hw.slpRow .nil (.there (.there .here)) (fun _ _ => rfl) (by decide)) (hw.slpRow .nil (.there .here) (fun _ _ => rfl) (by decide)) (hw.slpRow .nil .here (fun _ _ => rfl) (by decide)) (by omega) (by assumption)) ?_
        refine WD.pure (i := 4) (d := 113) (by kernel_rfl) rfl (by kernel_rfl) (by kernel_rfl) rfl rfl rfl (fun _ => q_eql rfl rfl) ?_
        refine WD.pure (i := 5) (d := 114) (by kernel_rfl) rfl (by kernel_rfl) (by kernel_rfl) rfl rfl rfl (fun _ => q_move rfl) ?_
        refine WD.mid (fuel' := 4) [(9, (.pointer (some ⟨b5, 0, none⟩))), (11, (.pointer (some ⟨b7, 0, none⟩))), (55, (.slice ao9 ((cl.take (min cl.length 60)).length) cap10)), (56, (.int .i64 (((cl.take (min cl.length 60)).length : Nat) : Int))), (57, (.int .i64 i)), (58, (.bool (decide (i < (((cl.take (min cl.length 60)).length : Nat) : Int))))), (109, (.pointer (some ⟨b5, 0, none⟩))), (110, (.int .i64 (sumF (fun x => decide (x.fin > max 0 now)) cur))), (111, (.agg #[(.int .i64 slow), (.int .i64 delay), (.int .i64 store), (.int .i64 nq), (.slice aoA mA capA), (.slice aoZ mZ capZ), (.slice aoE mE capE)])), (112, (.int .i64 (heldT ats szs ens (max 0 nq) ats.length))), (113, (.bool (decide ((sumF (fun x => decide (x.fin > max 0 now)) cur) = (heldT ats szs ens (max 0 nq) ats.length))))), (114, (.bool (decide ((sumF (fun x => decide (x.fin > max 0 now)) cur) = (heldT ats szs ens (max 0 nq) ats.length))))), (120, (.bool ((decide ((sumF (fun x => decide (x.fin > max 0 now)) cur) = (heldT ats szs ens (max 0 nq) ats.length))) && (decide (last = (rfreeR ens))))))] (listedA 16 [11, 10, 9, 8, 7, 6, 5, 4, 3, 2, 1, 0]) ?_ (fun K53 => ?_)
        rotate_left
        · by_cases hb52 : (sumF (fun x => decide (x.fin > max 0 now)) cur) = (heldT ats szs ens (max 0 nq) ats.length)
          · refine WD.pin (i := 114) rfl (bT (decide_eq_true_iff) hb52) ?_
            refine WD.pure (i := 6) (d := 115) (by kernel_rfl) rfl (by kernel_rfl) (by kernel_rfl) rfl rfl rfl (fun _ => q_move rfl) ?_
            refine WD.enter (i := 7) (d := 116) (by kernel_rfl) rfl (by kernel_rfl) (by kernel_rfl) rfl rfl rfl (run_call (l := [.tmp 115]) Try.call14 (.cons rfl .nil)) (fun w hw => free_no (A := ⟨b5, 0, none⟩) (slow := slow) (delay := delay) (store := store) (now := now) (last := last) (fr := (.slice ao m cap)) (w₀ := w) (hw.cellsStb .nil (.there (.there (.there (.there (.there .here)))))) (by omega)) ?_
            refine WD.quiet (i := 8) (d := 117) (by kernel_rfl) rfl (by kernel_rfl) (by kernel_rfl) rfl rfl rfl (q_loadA (cs := [(.int .i64 slow), (.int .i64 delay), (.int .i64 store), (.int .i64 nq), (.slice aoA mA capA), (.slice aoZ mZ capZ), (.slice aoE mE capE)]) aggT_29 rfl rfl (rd_all (.there (.there (.there (.there .here)))))) ?_
            refine WD.enter (i := 9) (d := 118) (by kernel_rfl) rfl (by kernel_rfl) (by kernel_rfl) rfl rfl rfl (run_call (l := [.tmp 117]) Try.call15 (.cons rfl .nil)) (fun w hw => rfree_d (slow := slow) (delay := delay) (store := store) (now := nq) (aoA := aoA) (mA := mA) (capA := capA) (ats := ats) (aoZ := aoZ) (mZ := mZ) (capZ := capZ) (szs := szs) (aoE := aoE) (mE := mE) (capE := capE) (ens := ens) (w₀ := w) (hw.slpRow .nil (.there (.there .here)) (fun _ _ => rfl) (by decide)) (hw.slpRow .nil (.there .here) (fun _ _ => rfl) (by decide)) (hw.slpRow .nil .here (fun _ _ => rfl) (by decide)) (by omega)) ?_
            refine WD.pure (i := 10) (d := 119) (by kernel_rfl) rfl (by kernel_rfl) (by kernel_rfl) rfl rfl rfl (fun _ => q_eql rfl rfl) ?_
            refine WD.pure (i := 11) (d := 120) (by kernel_rfl) rfl (by kernel_rfl) (by kernel_rfl) rfl rfl rfl (fun _ => q_pickT rfl rfl) ?_
            refine WD.restr ?_ K53
            exact (.cons rfl (.cons rfl (.cons rfl (.cons rfl (.cons rfl (.cons rfl (.cons rfl (.cons rfl (.cons rfl (.cons rfl (.cons rfl (.cons (some_bool (Eq.symm (bT (decide_eq_true_iff) hb52))) (.cons (some_bool (and_r (bT (decide_eq_true_iff) hb52))) .nil)))))))))))))
          · refine WD.pin (i := 114) rfl (bF (decide_eq_true_iff) hb52) ?_
            refine WD.skip (i := 6) (d := 115) (by kernel_rfl) rfl (by kernel_rfl) (by kernel_rfl) rfl rfl rfl ?_
            refine WD.skip (i := 7) (d := 116) (by kernel_rfl) rfl (by kernel_rfl) (by kernel_rfl) rfl rfl rfl ?_
            refine WD.skip (i := 8) (d := 117) (by kernel_rfl) rfl (by kernel_rfl) (by kernel_rfl) rfl rfl rfl ?_
            refine WD.skip (i := 9) (d := 118) (by kernel_rfl) rfl (by kernel_rfl) (by kernel_rfl) rfl rfl rfl ?_
            refine WD.skip (i := 10) (d := 119) (by kernel_rfl) rfl (by kernel_rfl) (by kernel_rfl) rfl rfl rfl ?_
            refine WD.pure (i := 11) (d := 120) (by kernel_rfl) rfl (by kernel_rfl) (by kernel_rfl) rfl rfl rfl (fun _ => q_pickF rfl rfl) ?_
            refine WD.restr ?_ K53
            exact (.cons rfl (.cons rfl (.cons rfl (.cons rfl (.cons rfl (.cons rfl (.cons rfl (.cons rfl (.cons rfl (.cons rfl (.cons rfl (.cons (some_bool (Eq.symm (bF (decide_eq_true_iff) hb52))) (.cons (some_bool (and_l (bF (decide_eq_true_iff) hb52))) .nil)))))))))))))
        refine WD.pure (i := 12) (d := 121) (by kernel_rfl) rfl (by kernel_rfl) (by kernel_rfl) rfl rfl rfl (fun _ => q_move rfl) ?_
        refine WD.mid (fuel' := 1) [(9, (.pointer (some ⟨b5, 0, none⟩))), (11, (.pointer (some ⟨b7, 0, none⟩))), (55, (.slice ao9 ((cl.take (min cl.length 60)).length) cap10)), (56, (.int .i64 (((cl.take (min cl.length 60)).length : Nat) : Int))), (57, (.int .i64 i)), (58, (.bool (decide (i < (((cl.take (min cl.length 60)).length : Nat) : Int))))), (109, (.pointer (some ⟨b5, 0, none⟩))), (110, (.int .i64 (sumF (fun x => decide (x.fin > max 0 now)) cur))), (111, (.agg #[(.int .i64 slow), (.int .i64 delay), (.int .i64 store), (.int .i64 nq), (.slice aoA mA capA), (.slice aoZ mZ capZ), (.slice aoE mE capE)])), (112, (.int .i64 (heldT ats szs ens (max 0 nq) ats.length))), (113, (.bool (decide ((sumF (fun x => decide (x.fin > max 0 now)) cur) = (heldT ats szs ens (max 0 nq) ats.length))))), (114, (.bool (decide ((sumF (fun x => decide (x.fin > max 0 now)) cur) = (heldT ats szs ens (max 0 nq) ats.length))))), (120, (.bool ((decide ((sumF (fun x => decide (x.fin > max 0 now)) cur) = (heldT ats szs ens (max 0 nq) ats.length))) && (decide (last = (rfreeR ens)))))), (121, (.bool ((decide ((sumF (fun x => decide (x.fin > max 0 now)) cur) = (heldT ats szs ens (max 0 nq) ats.length))) && (decide (last = (rfreeR ens)))))), (123, (.bool (((decide ((sumF (fun x => decide (x.fin > max 0 now)) cur) = (heldT ats szs ens (max 0 nq) ats.length))) && (decide (last = (rfreeR ens)))) && true)))] (listedA 16 [14, 13, 12, 11, 10, 9, 8, 7, 6, 5, 4, 3, 2, 1, 0]) ?_ (fun K55 => ?_)
        rotate_left
        · by_cases hb54 : ((sumF (fun x => decide (x.fin > max 0 now)) cur) = (heldT ats szs ens (max 0 nq) ats.length)) ∧ (last = (rfreeR ens))
          · refine WD.pin (i := 121) rfl (bT (biff_and (decide_eq_true_iff) (decide_eq_true_iff)) hb54) ?_
            refine WD.enter (i := 13) (d := 122) (by kernel_rfl) rfl (by kernel_rfl) (by kernel_rfl) rfl rfl rfl (run_call (l := []) Try.call11 .nil) (fun w hw => awake_c  (w₀ := w) ) ?_
            refine WD.pure (i := 14) (d := 123) (by kernel_rfl) rfl (by kernel_rfl) (by kernel_rfl) rfl rfl rfl (fun _ => q_pickT rfl rfl) ?_
            refine WD.restr ?_ K55
            exact (.cons rfl (.cons rfl (.cons rfl (.cons rfl (.cons rfl (.cons rfl (.cons rfl (.cons rfl (.cons rfl (.cons rfl (.cons rfl (.cons rfl (.cons rfl (.cons (some_bool (Eq.symm (bT (biff_and (decide_eq_true_iff) (decide_eq_true_iff)) hb54))) (.cons (some_bool (and_r (bT (biff_and (decide_eq_true_iff) (decide_eq_true_iff)) hb54))) .nil)))))))))))))))
          · refine WD.pin (i := 121) rfl (bF (biff_and (decide_eq_true_iff) (decide_eq_true_iff)) hb54) ?_
            refine WD.skip (i := 13) (d := 122) (by kernel_rfl) rfl (by kernel_rfl) (by kernel_rfl) rfl rfl rfl ?_
            refine WD.pure (i := 14) (d := 123) (by kernel_rfl) rfl (by kernel_rfl) (by kernel_rfl) rfl rfl rfl (fun _ => q_pickF rfl rfl) ?_
            refine WD.restr ?_ K55
            exact (.cons rfl (.cons rfl (.cons rfl (.cons rfl (.cons rfl (.cons rfl (.cons rfl (.cons rfl (.cons rfl (.cons rfl (.cons rfl (.cons rfl (.cons rfl (.cons (some_bool (Eq.symm (bF (biff_and (decide_eq_true_iff) (decide_eq_true_iff)) hb54))) (.cons (some_bool (and_l (bF (biff_and (decide_eq_true_iff) (decide_eq_true_iff)) hb54))) .nil)))))))))))))))
        refine WD.pure (i := 15) (d := 8) (by kernel_rfl) rfl (by kernel_rfl) (by kernel_rfl) rfl rfl rfl (fun _ => q_assign rfl) ?_
        refine WD.done (by kernel_rfl) ?_
        refine WX.then ?_
        refine WC.ret ?_
        refine WX.bpRet Try.results3 (.tmp rfl .nil) (fun w hw => ?_)
        exact ⟨ret1 (vbool (by first | rfl | (rw [hnq, hpr.held, ← hpr.last]; simp) | simp)), (hw.sub .nil)⟩

theorem el_call {H : Type} {enc : TypeId × Value → H} {W : World} {spare : Nat → Bool} {held : Bool} (n : Nat) (cs : List Value) (y : DataW H × List MemPlace) (h : DataW.trod enc Try.prog W 0 spare held n 34 cs = some y) (hl : cs.length = 2) : ∃ a : Call, callP cs a := by
  obtain ⟨y0, y1, m, -, -, h0, h1⟩ := Go.ChangeShapes.trod_struct2 Try.underlying34 h
  obtain ⟨a, ha, -, -⟩ := DataW.trod_int Try.underlying3 h0
  obtain ⟨b, hb, -, -⟩ := DataW.trod_int Try.underlying3 h1
  have hc : Try.prog.cellsOf 3 = 1 := by kernel_rfl
  match cs, hl with
  | [u, v], _ =>
    dsimp only at ha hb
    rw [hc] at ha hb
    simp at ha hb
    exact ⟨⟨a, b⟩, by rw [ha, hb]; rfl⟩
end Go.Proofs.Ytahpdiojgdlmgaa

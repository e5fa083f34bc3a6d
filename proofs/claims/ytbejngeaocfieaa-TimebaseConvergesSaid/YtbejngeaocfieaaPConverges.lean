/- A part of this claim's proof: models of the functions that the law reaches, with the proof that the functions compute them; plain laws about the models. No conditions beyond those in each theorem's statement. -/
import Derived.Test.YtbejngeaocfieaaWTimebaseConverges
import Derived.Test.YtbejngeaocfieaaPF
set_option linter.all false
namespace Go.Proofs.Ytbejngeaocfieaa
open Go Go.RowKit Sep
theorem conv {s : Su} (hs : Vl s) : spr s (hist s 22) ≤ bound s := by
  have h := halves hs
  have h0 := spr_hist hs (r := 0)
  have hb := bound_bd hs
  unfold bnd at h0
  have step : ∀ {a b c : Int} {e : Int}, b ≤ (a + c) / 2 → a - c ≤ 2 * e + 1 → b - c ≤ e := by intro a b c e h1 h2; omega
  have p0 : spr s (hist s 0) - bound s ≤ 2097151 := by omega
  have p1 : spr s (hist s 1) - bound s ≤ 1048575 := step (h 0) (e := 1048575) (by omega)
  have p2 : spr s (hist s 2) - bound s ≤ 524287 := step (h 1) (e := 524287) (by omega)
  have p3 : spr s (hist s 3) - bound s ≤ 262143 := step (h 2) (e := 262143) (by omega)
  have p4 : spr s (hist s 4) - bound s ≤ 131071 := step (h 3) (e := 131071) (by omega)
  have p5 : spr s (hist s 5) - bound s ≤ 65535 := step (h 4) (e := 65535) (by omega)
  have p6 : spr s (hist s 6) - bound s ≤ 32767 := step (h 5) (e := 32767) (by omega)
  have p7 : spr s (hist s 7) - bound s ≤ 16383 := step (h 6) (e := 16383) (by omega)
  have p8 : spr s (hist s 8) - bound s ≤ 8191 := step (h 7) (e := 8191) (by omega)
  have p9 : spr s (hist s 9) - bound s ≤ 4095 := step (h 8) (e := 4095) (by omega)
  have p10 : spr s (hist s 10) - bound s ≤ 2047 := step (h 9) (e := 2047) (by omega)
  have p11 : spr s (hist s 11) - bound s ≤ 1023 := step (h 10) (e := 1023) (by omega)
  have p12 : spr s (hist s 12) - bound s ≤ 511 := step (h 11) (e := 511) (by omega)
  have p13 : spr s (hist s 13) - bound s ≤ 255 := step (h 12) (e := 255) (by omega)
  have p14 : spr s (hist s 14) - bound s ≤ 127 := step (h 13) (e := 127) (by omega)
  have p15 : spr s (hist s 15) - bound s ≤ 63 := step (h 14) (e := 63) (by omega)
  have p16 : spr s (hist s 16) - bound s ≤ 31 := step (h 15) (e := 31) (by omega)
  have p17 : spr s (hist s 17) - bound s ≤ 15 := step (h 16) (e := 15) (by omega)
  have p18 : spr s (hist s 18) - bound s ≤ 7 := step (h 17) (e := 7) (by omega)
  have p19 : spr s (hist s 19) - bound s ≤ 3 := step (h 18) (e := 3) (by omega)
  have p20 : spr s (hist s 20) - bound s ≤ 1 := step (h 19) (e := 1) (by omega)
  have p21 : spr s (hist s 21) - bound s ≤ 0 := step (h 20) (e := 0) (by omega)
  have p22 : spr s (hist s 22) - bound s ≤ 0 := step (h 21) (e := 0) (by omega)
  omega
theorem converges_true {s : Su} : m_law34_TimebaseConverges s = some true := by
  unfold m_law34_TimebaseConverges
  refine head_eq s _ (by rw [if_pos rfl, awake_true]; rfl) fun hs => ?_
  simp only [Bool.false_eq_true, if_false]
  have hl : (runs s 22).length = 23 := by unfold runs; simp
  have hn : nth (runs s 22) 22 = hist s 22 := by
    have h := nth_lt (l := runs s 22) (i := 22) (by omega) (by omega)
    rw [← h]; unfold runs; simp
  have h22 := hist_len s 22
  have hn13 := hs.n13
  rw [run_eq, if_pos ⟨hs, by omega, by omega⟩, Option.bind_some, bound_eq, if_pos hs, Option.bind_some]
  dsimp only
  rw [if_neg (by simp [hl]), chk_pos (by omega), hn, skew_eq (by omega), if_pos (fit_hist hs (by omega)), Option.bind_some]
  dsimp only
  rw [if_pos (by simpa using conv hs), awake_true]
  rfl
end Go.Proofs.Ytbejngeaocfieaa

/- A part of this claim's proof: models of functions, walks, plain laws. No conditions. -/
import Derived.Test.YtahpdiojgdlmgaaWPortNone
namespace Go.Proofs.Ytahpdiojgdlmgaa
open Go Go.RowKit Sep
set_option linter.all false
set_option maxRecDepth 30000
theorem y1p {a b c : Int} (h : a < 1 ∨ 16 < a ∨ b < 0 ∨ 1000 < b ∨ c < 0 ∨ 1073741824 < c) : ye a b c = some () := by
 unfold ye
 rw [if_pos]
 simp
 omega
theorem awake_eq : yT = some true := by
 rfl
theorem new_loop (n : Int) (k : Option Bool) : ∀ N, y1 n k (N + 7) 0 = k := by
 intro N
 have e0 : ye (min n 0) 0 0 = some () := y1p (by omega)
 have e1 : ye (max n 17) 0 0 = some () := y1p (by omega)
 have e2 : ye 1 (min n (-1)) 0 = some () := y1p (by omega)
 have e3 : ye 1 (max n 1001) 0 = some () := y1p (by omega)
 have e4 : ye 1 0 (min n (-1)) = some () := y1p (by omega)
 have e5 : ye 1 0 (max n 1073741825) = some () := y1p (by omega)
 have s0 : ∀ M, y1 n k (M + 1) 0 = (ye (min n 0) 0 0).bind fun _ => y1 n k M 1 := fun M => rfl
 have s1 : ∀ M, y1 n k (M + 1) 1 = (ye (max n 17) 0 0).bind fun _ => y1 n k M 2 := fun M => rfl
 have s2 : ∀ M, y1 n k (M + 1) 2 = (ye 1 (min n (-1)) 0).bind fun _ => y1 n k M 3 := fun M => rfl
 have s3 : ∀ M, y1 n k (M + 1) 3 = (ye 1 (max n 1001) 0).bind fun _ => y1 n k M 4 := fun M => rfl
 have s4 : ∀ M, y1 n k (M + 1) 4 = (ye 1 0 (min n (-1))).bind fun _ => y1 n k M 5 := fun M => rfl
 have s5 : ∀ M, y1 n k (M + 1) 5 = (ye 1 0 (max n 1073741825)).bind fun _ => y1 n k M 6 := fun M => rfl
 have s6 : ∀ M, y1 n k (M + 1) 6 = k := fun M => rfl
 rw [s0, e0, Option.bind_some, s1, e1, Option.bind_some, s2, e2, Option.bind_some, s3, e3, Option.bind_some, s4, e4, Option.bind_some, s5, e5, Option.bind_some, s6]
theorem y2v (n t size : Int) : yS n t size = some true := by
 unfold yS
 have hb : (yE (⟨(⟨0, 0, 0⟩ : Sport_numbers), 0, 0, ([] : List Sport_frame)⟩ : Sport_Port) t size) = some (0, 1, ⟨(⟨0, 0, 0⟩ : Sport_numbers), 0, 0, ([] : List Sport_frame)⟩) := rfl
 have hf : FUEL = 18446744073709551609 + 7 := rfl
 have hl := new_loop n ((yT).bind fun z1Y => some z1Y) 18446744073709551609
 rw [← hf] at hl
 have hh : ym (⟨(⟨0, 0, 0⟩ : Sport_numbers), 0, 0, ([] : List Sport_frame)⟩ : Sport_Port) t = some 0 := rfl
 have hp : yW t size = some () := rfl
 have hd : yP t = some () := rfl
 have hfr : yQ = some () := rfl
 have hff : yy (⟨(⟨0, 0, 0⟩ : Sport_numbers), 0, 0, ([] : List Sport_frame)⟩ : Sport_Port) = some 0 := rfl
 simp only [jp0]
 rw [hl, hb, awake_eq, hp, hd, hfr]
 simp only [Option.bind_some, chk]
 rw [hh]
 simp
 rw [hff]
 trivial
end Go.Proofs.Ytahpdiojgdlmgaa

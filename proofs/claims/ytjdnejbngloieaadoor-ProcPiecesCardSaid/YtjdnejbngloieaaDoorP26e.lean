/- A part of this claim's proof: models of functions, walks, plain laws. No conditions. -/
import Derived.Test.YtjdnejbngloieaaDoorP26d
namespace Go.Proofs.YtjdnejbngloieaaDoor
open Go Go.RowKit Sep
set_option linter.all false
structure Cert (code : List Sapi_Ins) (val : Int → Option Int) : Prop where
 zero : val code.length = some 0
 node : ∀ i v, val i = some v → i ≠ code.length → 0 ≤ i ∧ i < code.length ∧ (∀ s ∈ y64 code i, ∃ w, val s = some w) ∧ v = own code i + (y64 code i).foldl (fun b s => max b ((val s).getD 0)) 0
theorem Cert.lt {code : List Sapi_Ins} {val : Int → Option Int} (hV : allV code = true) (h : Cert code val) {i v s w : Int} (hi : val i = some v) (hn : i ≠ code.length) (hs : s ∈ y64 code i) (hw : val s = some w) : w < v := by
 obtain ⟨a, b, _, e⟩ := h.node i v hi hn
 have ho := own_bd hV a b
 have h2 := (y7y (fun s => (val s).getD 0) (y64 code i) 0).2 s hs
 simp only [hw, Option.getD_some] at h2
 omega
theorem old.trans {a b c : MM} (h : old a b) (k : old b c) : old a c := fun j hj => h j (k j hj)
theorem ext.trans {a b c : MM} (h : ext a b) (k : ext b c) : ext a c := fun j x hj => k j x (h j x hj)
section
variable {code : List Sapi_Ins} (hc : code.length ≤ 24) (hV : allV code = true)
include hc hV in
include hc in
end
end Go.Proofs.YtjdnejbngloieaaDoor

/-
 Whatever the input, the law NetworkWrong of layer 31 returns true, and its arguments read behind the call as before it. No conditions.
-/
import Derived.Test.YtinchjigeakocaaPWrong
import Derived.Test.YtinchjigeakocaaZFrame
import Derived.Test.YtinchjigeakocaaRows
set_option linter.all false
namespace Go.Proofs.Ytinchjigeakocaa.networkWrong
open Go.ChangeShapes Go.WideShapes Go.ChangeAt Go.RowKit Sep
set_option linter.unusedVariables false
def p31 (Z : Zp) (r : List Value) (x : Sapi_Config) : Prop := ∃ (ao0 : Option Addr) (cap0 : Nat) (ao1 : Option Addr) (cap1 : Nat) (ao2 : Option Addr) (cap2 : Nat) (ao3 : Option Addr) (cap3 : Nat) (ao4 : Option Addr) (cap4 : Nat) (ao5 : Option Addr) (cap5 : Nat) (ao6 : Option Addr) (cap6 : Nat) (ao7 : Option Addr) (cap7 : Nat), r = [(.slice ao0 x.fModules.length cap0), (.slice ao1 x.fChannels.length cap1), (.slice ao2 x.fSwitches.length cap2), (.slice ao3 x.fLinks.length cap3), (.slice ao4 x.fVLs.length cap4), (.slice ao5 x.fHealth.length cap5), (.slice ao6 x.fCauses.length cap6), (.slice ao7 x.fVersions.length cap7)] ∧ ZS Z 4 (y2h Z) ao0 cap0 x.fModules ∧ ZS Z 4 (y2x Z) ao1 cap1 x.fChannels ∧ ZS Z 4 (fun r x => r = e64 x) ao2 cap2 x.fSwitches ∧ ZS Z 4 (fun r x => r = e62 x) ao3 cap3 x.fLinks ∧ ZS Z 7 (y2p Z) ao4 cap4 x.fVLs ∧ ZS Z 5 (fun r x => r = y2K x) ao5 cap5 x.fHealth ∧ ZS Z 3 (y2y Z) ao6 cap6 x.fCauses ∧ ZS Z 4 (fun r x => r = y2L x) ao7 cap7 x.fVersions
theorem p31_mono {Z Z' : Zp} (k : Zle Z Z') {r : List Value} {x : Sapi_Config} (h : p31 Z r x) : p31 Z' r x := by
 obtain ⟨ao0, cap0, ao1, cap1, ao2, cap2, ao3, cap3, ao4, cap4, ao5, cap5, ao6, cap6, ao7, cap7, hr, h0, h1, h2, h3, h4, h5, h6, h7⟩ := h
 exact ⟨ao0, cap0, ao1, cap1, ao2, cap2, ao3, cap3, ao4, cap4, ao5, cap5, ao6, cap6, ao7, cap7, hr, (h0.mono k).weak (fun _ _ h => yq k h), (h1.mono k).weak (fun _ _ h => ys k h), h2.mono k, h3.mono k, (h4.mono k).weak (fun _ _ h => yr k h), h5.mono k, (h6.mono k).weak (fun _ _ h => yt k h), h7.mono k⟩
theorem p31_len {Z : Zp} {r : List Value} {x : Sapi_Config} (h : p31 Z r x) : r.length = 8 := by
 obtain ⟨ao0, cap0, ao1, cap1, ao2, cap2, ao3, cap3, ao4, cap4, ao5, cap5, ao6, cap6, ao7, cap7, hr, h0, h1, h2, h3, h4, h5, h6, h7⟩ := h
 rw [hr]; rfl
theorem p31_oc {Z : Zp} {r : List Value} {x : Sapi_Config} (h : p31 Z r x) : ∀ u ∈ r, u.oneCell' = true := by
 obtain ⟨ao0, cap0, ao1, cap1, ao2, cap2, ao3, cap3, ao4, cap4, ao5, cap5, ao6, cap6, ao7, cap7, hr, h0, h1, h2, h3, h4, h5, h6, h7⟩ := h
 rw [hr]; exact ocB rfl
def p22 (Z : Zp) (r : List Value) (x : List Sapi_Module) : Prop := ∃ (ao0 : Option Addr) (cap0 : Nat), r = [(.slice ao0 x.length cap0)] ∧ ZS Z 4 (y2h Z) ao0 cap0 x
theorem p22_mono {Z Z' : Zp} (k : Zle Z Z') {r : List Value} {x : List Sapi_Module} (h : p22 Z r x) : p22 Z' r x := by
 obtain ⟨ao0, cap0, hr, h0⟩ := h
 exact ⟨ao0, cap0, hr, (h0.mono k).weak (fun _ _ h => yq k h)⟩
theorem p22_len {Z : Zp} {r : List Value} {x : List Sapi_Module} (h : p22 Z r x) : r.length = 1 := by
 obtain ⟨ao0, cap0, hr, h0⟩ := h
 rw [hr]; rfl
theorem p22_oc {Z : Zp} {r : List Value} {x : List Sapi_Module} (h : p22 Z r x) : ∀ u ∈ r, u.oneCell' = true := by
 obtain ⟨ao0, cap0, hr, h0⟩ := h
 rw [hr]; exact ocB rfl
def p102 (Z : Zp) (r : List Value) (x : List Sapi_Part) : Prop := ∃ (ao0 : Option Addr) (cap0 : Nat), r = [(.slice ao0 x.length cap0)] ∧ ZS Z 10 (p186 Z) ao0 cap0 x
theorem p102_mono {Z Z' : Zp} (k : Zle Z Z') {r : List Value} {x : List Sapi_Part} (h : p102 Z r x) : p102 Z' r x := by
 obtain ⟨ao0, cap0, hr, h0⟩ := h
 exact ⟨ao0, cap0, hr, (h0.mono k).weak (fun _ _ h => y7j k h)⟩
theorem p102_len {Z : Zp} {r : List Value} {x : List Sapi_Part} (h : p102 Z r x) : r.length = 1 := by
 obtain ⟨ao0, cap0, hr, h0⟩ := h
 rw [hr]; rfl
theorem p102_oc {Z : Zp} {r : List Value} {x : List Sapi_Part} (h : p102 Z r x) : ∀ u ∈ r, u.oneCell' = true := by
 obtain ⟨ao0, cap0, hr, h0⟩ := h
 rw [hr]; exact ocB rfl
def p56 (Z : Zp) (r : List Value) (x : List Int) : Prop := ∃ (ao0 : Option Addr) (cap0 : Nat), r = [(.slice ao0 x.length cap0)] ∧ ZS Z 1 (fun r x => r = e3 x) ao0 cap0 x
theorem p56_mono {Z Z' : Zp} (k : Zle Z Z') {r : List Value} {x : List Int} (h : p56 Z r x) : p56 Z' r x := by
 obtain ⟨ao0, cap0, hr, h0⟩ := h
 exact ⟨ao0, cap0, hr, h0.mono k⟩
theorem p56_len {Z : Zp} {r : List Value} {x : List Int} (h : p56 Z r x) : r.length = 1 := by
 obtain ⟨ao0, cap0, hr, h0⟩ := h
 rw [hr]; rfl
theorem p56_oc {Z : Zp} {r : List Value} {x : List Int} (h : p56 Z r x) : ∀ u ∈ r, u.oneCell' = true := by
 obtain ⟨ao0, cap0, hr, h0⟩ := h
 rw [hr]; exact ocB rfl
def p183 (Z : Zp) (r : List Value) (x : List Sapi_Port) : Prop := ∃ (ao0 : Option Addr) (cap0 : Nat), r = [(.slice ao0 x.length cap0)] ∧ ZS Z 6 (fun r x => r = e191 x) ao0 cap0 x
theorem p183_mono {Z Z' : Zp} (k : Zle Z Z') {r : List Value} {x : List Sapi_Port} (h : p183 Z r x) : p183 Z' r x := by
 obtain ⟨ao0, cap0, hr, h0⟩ := h
 exact ⟨ao0, cap0, hr, h0.mono k⟩
theorem p183_len {Z : Zp} {r : List Value} {x : List Sapi_Port} (h : p183 Z r x) : r.length = 1 := by
 obtain ⟨ao0, cap0, hr, h0⟩ := h
 rw [hr]; rfl
theorem p183_oc {Z : Zp} {r : List Value} {x : List Sapi_Port} (h : p183 Z r x) : ∀ u ∈ r, u.oneCell' = true := by
 obtain ⟨ao0, cap0, hr, h0⟩ := h
 rw [hr]; exact ocB rfl
def e5 (x : Int) : List Value := [(.int .u8 x)]
theorem e5_oc : ∀ x, ∀ u ∈ e5 x, u.oneCell' = true := fun _ => ocB rfl
def e4 (x : Bool) : List Value := [(.bool x)]
theorem e4_oc : ∀ x, ∀ u ∈ e4 x, u.oneCell' = true := fun _ => ocB rfl
def p184 (Z : Zp) (r : List Value) (x : List Sapi_Proc) : Prop := ∃ (ao0 : Option Addr) (cap0 : Nat), r = [(.slice ao0 x.length cap0)] ∧ ZS Z 5 (p194 Z) ao0 cap0 x
theorem p184_mono {Z Z' : Zp} (k : Zle Z Z') {r : List Value} {x : List Sapi_Proc} (h : p184 Z r x) : p184 Z' r x := by
 obtain ⟨ao0, cap0, hr, h0⟩ := h
 exact ⟨ao0, cap0, hr, (h0.mono k).weak (fun _ _ h => y7i k h)⟩
theorem p184_len {Z : Zp} {r : List Value} {x : List Sapi_Proc} (h : p184 Z r x) : r.length = 1 := by
 obtain ⟨ao0, cap0, hr, h0⟩ := h
 rw [hr]; rfl
theorem p184_oc {Z : Zp} {r : List Value} {x : List Sapi_Proc} (h : p184 Z r x) : ∀ u ∈ r, u.oneCell' = true := by
 obtain ⟨ao0, cap0, hr, h0⟩ := h
 rw [hr]; exact ocB rfl
def p192 (Z : Zp) (r : List Value) (x : List Sapi_Ins) : Prop := ∃ (ao0 : Option Addr) (cap0 : Nat), r = [(.slice ao0 x.length cap0)] ∧ ZS Z 4 (fun r x => r = e196 x) ao0 cap0 x
theorem p192_mono {Z Z' : Zp} (k : Zle Z Z') {r : List Value} {x : List Sapi_Ins} (h : p192 Z r x) : p192 Z' r x := by
 obtain ⟨ao0, cap0, hr, h0⟩ := h
 exact ⟨ao0, cap0, hr, h0.mono k⟩
theorem p192_len {Z : Zp} {r : List Value} {x : List Sapi_Ins} (h : p192 Z r x) : r.length = 1 := by
 obtain ⟨ao0, cap0, hr, h0⟩ := h
 rw [hr]; rfl
theorem p192_oc {Z : Zp} {r : List Value} {x : List Sapi_Ins} (h : p192 Z r x) : ∀ u ∈ r, u.oneCell' = true := by
 obtain ⟨ao0, cap0, hr, h0⟩ := h
 rw [hr]; exact ocB rfl
def p23 (Z : Zp) (r : List Value) (x : List Sapi_Channel) : Prop := ∃ (ao0 : Option Addr) (cap0 : Nat), r = [(.slice ao0 x.length cap0)] ∧ ZS Z 4 (y2x Z) ao0 cap0 x
theorem p23_mono {Z Z' : Zp} (k : Zle Z Z') {r : List Value} {x : List Sapi_Channel} (h : p23 Z r x) : p23 Z' r x := by
 obtain ⟨ao0, cap0, hr, h0⟩ := h
 exact ⟨ao0, cap0, hr, (h0.mono k).weak (fun _ _ h => ys k h)⟩
theorem p23_len {Z : Zp} {r : List Value} {x : List Sapi_Channel} (h : p23 Z r x) : r.length = 1 := by
 obtain ⟨ao0, cap0, hr, h0⟩ := h
 rw [hr]; rfl
theorem p23_oc {Z : Zp} {r : List Value} {x : List Sapi_Channel} (h : p23 Z r x) : ∀ u ∈ r, u.oneCell' = true := by
 obtain ⟨ao0, cap0, hr, h0⟩ := h
 rw [hr]; exact ocB rfl
def p107 (Z : Zp) (r : List Value) (x : List Sapi_Ref) : Prop := ∃ (ao0 : Option Addr) (cap0 : Nat), r = [(.slice ao0 x.length cap0)] ∧ ZS Z 3 (fun r x => r = e106 x) ao0 cap0 x
theorem p107_mono {Z Z' : Zp} (k : Zle Z Z') {r : List Value} {x : List Sapi_Ref} (h : p107 Z r x) : p107 Z' r x := by
 obtain ⟨ao0, cap0, hr, h0⟩ := h
 exact ⟨ao0, cap0, hr, h0.mono k⟩
theorem p107_len {Z : Zp} {r : List Value} {x : List Sapi_Ref} (h : p107 Z r x) : r.length = 1 := by
 obtain ⟨ao0, cap0, hr, h0⟩ := h
 rw [hr]; rfl
theorem p107_oc {Z : Zp} {r : List Value} {x : List Sapi_Ref} (h : p107 Z r x) : ∀ u ∈ r, u.oneCell' = true := by
 obtain ⟨ao0, cap0, hr, h0⟩ := h
 rw [hr]; exact ocB rfl
def p24 (Z : Zp) (r : List Value) (x : List Sapi_Switch) : Prop := ∃ (ao0 : Option Addr) (cap0 : Nat), r = [(.slice ao0 x.length cap0)] ∧ ZS Z 4 (fun r x => r = e64 x) ao0 cap0 x
theorem p24_mono {Z Z' : Zp} (k : Zle Z Z') {r : List Value} {x : List Sapi_Switch} (h : p24 Z r x) : p24 Z' r x := by
 obtain ⟨ao0, cap0, hr, h0⟩ := h
 exact ⟨ao0, cap0, hr, h0.mono k⟩
theorem p24_len {Z : Zp} {r : List Value} {x : List Sapi_Switch} (h : p24 Z r x) : r.length = 1 := by
 obtain ⟨ao0, cap0, hr, h0⟩ := h
 rw [hr]; rfl
theorem p24_oc {Z : Zp} {r : List Value} {x : List Sapi_Switch} (h : p24 Z r x) : ∀ u ∈ r, u.oneCell' = true := by
 obtain ⟨ao0, cap0, hr, h0⟩ := h
 rw [hr]; exact ocB rfl
def p25 (Z : Zp) (r : List Value) (x : List Sapi_Link) : Prop := ∃ (ao0 : Option Addr) (cap0 : Nat), r = [(.slice ao0 x.length cap0)] ∧ ZS Z 4 (fun r x => r = e62 x) ao0 cap0 x
theorem p25_mono {Z Z' : Zp} (k : Zle Z Z') {r : List Value} {x : List Sapi_Link} (h : p25 Z r x) : p25 Z' r x := by
 obtain ⟨ao0, cap0, hr, h0⟩ := h
 exact ⟨ao0, cap0, hr, h0.mono k⟩
theorem p25_len {Z : Zp} {r : List Value} {x : List Sapi_Link} (h : p25 Z r x) : r.length = 1 := by
 obtain ⟨ao0, cap0, hr, h0⟩ := h
 rw [hr]; rfl
theorem p25_oc {Z : Zp} {r : List Value} {x : List Sapi_Link} (h : p25 Z r x) : ∀ u ∈ r, u.oneCell' = true := by
 obtain ⟨ao0, cap0, hr, h0⟩ := h
 rw [hr]; exact ocB rfl
def p26 (Z : Zp) (r : List Value) (x : List Sapi_VL) : Prop := ∃ (ao0 : Option Addr) (cap0 : Nat), r = [(.slice ao0 x.length cap0)] ∧ ZS Z 7 (y2p Z) ao0 cap0 x
theorem p26_mono {Z Z' : Zp} (k : Zle Z Z') {r : List Value} {x : List Sapi_VL} (h : p26 Z r x) : p26 Z' r x := by
 obtain ⟨ao0, cap0, hr, h0⟩ := h
 exact ⟨ao0, cap0, hr, (h0.mono k).weak (fun _ _ h => yr k h)⟩
theorem p26_len {Z : Zp} {r : List Value} {x : List Sapi_VL} (h : p26 Z r x) : r.length = 1 := by
 obtain ⟨ao0, cap0, hr, h0⟩ := h
 rw [hr]; rfl
theorem p26_oc {Z : Zp} {r : List Value} {x : List Sapi_VL} (h : p26 Z r x) : ∀ u ∈ r, u.oneCell' = true := by
 obtain ⟨ao0, cap0, hr, h0⟩ := h
 rw [hr]; exact ocB rfl
def p27 (Z : Zp) (r : List Value) (x : List Sapi_Health) : Prop := ∃ (ao0 : Option Addr) (cap0 : Nat), r = [(.slice ao0 x.length cap0)] ∧ ZS Z 5 (fun r x => r = y2K x) ao0 cap0 x
theorem p27_mono {Z Z' : Zp} (k : Zle Z Z') {r : List Value} {x : List Sapi_Health} (h : p27 Z r x) : p27 Z' r x := by
 obtain ⟨ao0, cap0, hr, h0⟩ := h
 exact ⟨ao0, cap0, hr, h0.mono k⟩
theorem p27_len {Z : Zp} {r : List Value} {x : List Sapi_Health} (h : p27 Z r x) : r.length = 1 := by
 obtain ⟨ao0, cap0, hr, h0⟩ := h
 rw [hr]; rfl
theorem p27_oc {Z : Zp} {r : List Value} {x : List Sapi_Health} (h : p27 Z r x) : ∀ u ∈ r, u.oneCell' = true := by
 obtain ⟨ao0, cap0, hr, h0⟩ := h
 rw [hr]; exact ocB rfl
def p28 (Z : Zp) (r : List Value) (x : List Sapi_Cause) : Prop := ∃ (ao0 : Option Addr) (cap0 : Nat), r = [(.slice ao0 x.length cap0)] ∧ ZS Z 3 (y2y Z) ao0 cap0 x
theorem p28_mono {Z Z' : Zp} (k : Zle Z Z') {r : List Value} {x : List Sapi_Cause} (h : p28 Z r x) : p28 Z' r x := by
 obtain ⟨ao0, cap0, hr, h0⟩ := h
 exact ⟨ao0, cap0, hr, (h0.mono k).weak (fun _ _ h => yt k h)⟩
theorem p28_len {Z : Zp} {r : List Value} {x : List Sapi_Cause} (h : p28 Z r x) : r.length = 1 := by
 obtain ⟨ao0, cap0, hr, h0⟩ := h
 rw [hr]; rfl
theorem p28_oc {Z : Zp} {r : List Value} {x : List Sapi_Cause} (h : p28 Z r x) : ∀ u ∈ r, u.oneCell' = true := by
 obtain ⟨ao0, cap0, hr, h0⟩ := h
 rw [hr]; exact ocB rfl
def p176 (Z : Zp) (r : List Value) (x : List Sapi_Report) : Prop := ∃ (ao0 : Option Addr) (cap0 : Nat), r = [(.slice ao0 x.length cap0)] ∧ ZS Z 2 (fun r x => r = e189 x) ao0 cap0 x
theorem p176_mono {Z Z' : Zp} (k : Zle Z Z') {r : List Value} {x : List Sapi_Report} (h : p176 Z r x) : p176 Z' r x := by
 obtain ⟨ao0, cap0, hr, h0⟩ := h
 exact ⟨ao0, cap0, hr, h0.mono k⟩
theorem p176_len {Z : Zp} {r : List Value} {x : List Sapi_Report} (h : p176 Z r x) : r.length = 1 := by
 obtain ⟨ao0, cap0, hr, h0⟩ := h
 rw [hr]; rfl
theorem p176_oc {Z : Zp} {r : List Value} {x : List Sapi_Report} (h : p176 Z r x) : ∀ u ∈ r, u.oneCell' = true := by
 obtain ⟨ao0, cap0, hr, h0⟩ := h
 rw [hr]; exact ocB rfl
def p177 (Z : Zp) (r : List Value) (x : List ByteArray) : Prop := ∃ (ao0 : Option Addr) (cap0 : Nat), r = [(.slice ao0 x.length cap0)] ∧ ZS Z 1 (fun r x => r = e9 x) ao0 cap0 x
theorem p177_mono {Z Z' : Zp} (k : Zle Z Z') {r : List Value} {x : List ByteArray} (h : p177 Z r x) : p177 Z' r x := by
 obtain ⟨ao0, cap0, hr, h0⟩ := h
 exact ⟨ao0, cap0, hr, h0.mono k⟩
theorem p177_len {Z : Zp} {r : List Value} {x : List ByteArray} (h : p177 Z r x) : r.length = 1 := by
 obtain ⟨ao0, cap0, hr, h0⟩ := h
 rw [hr]; rfl
theorem p177_oc {Z : Zp} {r : List Value} {x : List ByteArray} (h : p177 Z r x) : ∀ u ∈ r, u.oneCell' = true := by
 obtain ⟨ao0, cap0, hr, h0⟩ := h
 rw [hr]; exact ocB rfl
def p29 (Z : Zp) (r : List Value) (x : List Sapi_Version) : Prop := ∃ (ao0 : Option Addr) (cap0 : Nat), r = [(.slice ao0 x.length cap0)] ∧ ZS Z 4 (fun r x => r = y2L x) ao0 cap0 x
theorem p29_mono {Z Z' : Zp} (k : Zle Z Z') {r : List Value} {x : List Sapi_Version} (h : p29 Z r x) : p29 Z' r x := by
 obtain ⟨ao0, cap0, hr, h0⟩ := h
 exact ⟨ao0, cap0, hr, h0.mono k⟩
theorem p29_len {Z : Zp} {r : List Value} {x : List Sapi_Version} (h : p29 Z r x) : r.length = 1 := by
 obtain ⟨ao0, cap0, hr, h0⟩ := h
 rw [hr]; rfl
theorem p29_oc {Z : Zp} {r : List Value} {x : List Sapi_Version} (h : p29 Z r x) : ∀ u ∈ r, u.oneCell' = true := by
 obtain ⟨ao0, cap0, hr, h0⟩ := h
 rw [hr]; exact ocB rfl
abbrev kd191 (a : Sapi_Port) : Prop := (0 ≤ a.fKind ∧ a.fKind ≤ 255) ∧ (-9223372036854775808 ≤ a.fSize ∧ a.fSize ≤ 9223372036854775807) ∧ (-9223372036854775808 ≤ a.fDepth ∧ a.fDepth ≤ 9223372036854775807) ∧ (-9223372036854775808 ≤ a.fRefresh ∧ a.fRefresh ≤ 9223372036854775807)
abbrev kd196 (a : Sapi_Ins) : Prop := (0 ≤ a.fOp ∧ a.fOp ≤ 255) ∧ (-9223372036854775808 ≤ a.fA ∧ a.fA ≤ 9223372036854775807) ∧ (-9223372036854775808 ≤ a.fB ∧ a.fB ≤ 9223372036854775807) ∧ (-9223372036854775808 ≤ a.fC ∧ a.fC ≤ 9223372036854775807)
abbrev kd194 (a : Sapi_Proc) : Prop := (-9223372036854775808 ≤ a.fPrio ∧ a.fPrio ≤ 9223372036854775807) ∧ (-9223372036854775808 ≤ a.fPeriod ∧ a.fPeriod ≤ 9223372036854775807) ∧ (-9223372036854775808 ≤ a.fLimit ∧ a.fLimit ≤ 9223372036854775807) ∧ (a.fCode.length ≤ 9223372036854775807 ∧ ∀ x ∈ a.fCode, kd196 x)
abbrev kd186 (a : Sapi_Part) : Prop := (-9223372036854775808 ≤ a.fPeriod ∧ a.fPeriod ≤ 9223372036854775807) ∧ (-9223372036854775808 ≤ a.fLength ∧ a.fLength ≤ 9223372036854775807) ∧ (-9223372036854775808 ≤ a.fMem ∧ a.fMem ≤ 9223372036854775807) ∧ (a.fSemas.length ≤ 9223372036854775807 ∧ ∀ x ∈ a.fSemas, -9223372036854775808 ≤ x ∧ x ≤ 9223372036854775807) ∧ (-9223372036854775808 ≤ a.fEvents ∧ a.fEvents ≤ 9223372036854775807) ∧ (-9223372036854775808 ≤ a.fBoards ∧ a.fBoards ≤ 9223372036854775807) ∧ (a.fBufs.length ≤ 9223372036854775807 ∧ ∀ x ∈ a.fBufs, -9223372036854775808 ≤ x ∧ x ≤ 9223372036854775807) ∧ (a.fPorts.length ≤ 9223372036854775807 ∧ ∀ x ∈ a.fPorts, kd191 x) ∧ (a.fProcs.length ≤ 9223372036854775807 ∧ ∀ x ∈ a.fProcs, kd194 x)
abbrev kd104 (a : Sapi_Module) : Prop := (-9223372036854775808 ≤ a.fMem ∧ a.fMem ≤ 9223372036854775807) ∧ (-9223372036854775808 ≤ a.fFrame ∧ a.fFrame ≤ 9223372036854775807) ∧ (a.fParts.length ≤ 9223372036854775807 ∧ ∀ x ∈ a.fParts, kd186 x)
abbrev kd173 (a : Sapi_Channel) : Prop := (a.fTo.length ≤ 9223372036854775807)
abbrev kd64 (a : Sapi_Switch) : Prop := (-9223372036854775808 ≤ a.fNet ∧ a.fNet ≤ 9223372036854775807) ∧ (-9223372036854775808 ≤ a.fDelay ∧ a.fDelay ≤ 9223372036854775807) ∧ (-9223372036854775808 ≤ a.fStore ∧ a.fStore ≤ 9223372036854775807)
abbrev kd62 (a : Sapi_Link) : Prop := (-9223372036854775808 ≤ a.fNet ∧ a.fNet ≤ 9223372036854775807) ∧ (-9223372036854775808 ≤ a.fSlow ∧ a.fSlow ≤ 9223372036854775807)
abbrev kd109 (a : Sapi_VL) : Prop := (-9223372036854775808 ≤ a.fBag ∧ a.fBag ≤ 9223372036854775807) ∧ (-9223372036854775808 ≤ a.fMax ∧ a.fMax ≤ 9223372036854775807) ∧ (a.fTo.length ≤ 9223372036854775807)
abbrev kd175 (a : Sapi_Health) : Prop := (0 ≤ a.fFault ∧ a.fFault ≤ 255) ∧ (0 ≤ a.fLevel ∧ a.fLevel ≤ 255) ∧ (0 ≤ a.fDo ∧ a.fDo ≤ 255)
abbrev kd189 (a : Sapi_Report) : Prop := (-9223372036854775808 ≤ a.fCode ∧ a.fCode ≤ 9223372036854775807)
abbrev kd179 (a : Sapi_Cause) : Prop := (a.fNeeds.length ≤ 9223372036854775807 ∧ ∀ x ∈ a.fNeeds, kd189 x) ∧ (a.fUnless.length ≤ 9223372036854775807)
abbrev kd181 (a : Sapi_Version) : Prop := (-9223372036854775808 ≤ a.fVA ∧ a.fVA ≤ 9223372036854775807) ∧ (-9223372036854775808 ≤ a.fVB ∧ a.fVB ≤ 9223372036854775807)
abbrev kd31 (a : Sapi_Config) : Prop := (a.fModules.length ≤ 9223372036854775807 ∧ ∀ x ∈ a.fModules, kd104 x) ∧ (a.fChannels.length ≤ 9223372036854775807 ∧ ∀ x ∈ a.fChannels, kd173 x) ∧ (a.fSwitches.length ≤ 9223372036854775807 ∧ ∀ x ∈ a.fSwitches, kd64 x) ∧ (a.fLinks.length ≤ 9223372036854775807 ∧ ∀ x ∈ a.fLinks, kd62 x) ∧ (a.fVLs.length ≤ 9223372036854775807 ∧ ∀ x ∈ a.fVLs, kd109 x) ∧ (a.fHealth.length ≤ 9223372036854775807 ∧ ∀ x ∈ a.fHealth, kd175 x) ∧ (a.fCauses.length ≤ 9223372036854775807 ∧ ∀ x ∈ a.fCauses, kd179 x) ∧ (a.fVersions.length ≤ 9223372036854775807 ∧ ∀ x ∈ a.fVersions, kd181 x)
abbrev kd59 (a : Sapi_Hop) : Prop := (-9223372036854775808 ≤ a.fNode ∧ a.fNode ≤ 9223372036854775807) ∧ (-9223372036854775808 ≤ a.fNext ∧ a.fNext ≤ 9223372036854775807) ∧ (-9223372036854775808 ≤ a.fLink ∧ a.fLink ≤ 9223372036854775807)
abbrev kd53 (a : zSt) : Prop := (-9223372036854775808 ≤ a.fTime ∧ a.fTime ≤ 9223372036854775807) ∧ (-9223372036854775808 ≤ a.fVL ∧ a.fVL ≤ 9223372036854775807) ∧ (-9223372036854775808 ≤ a.fSize ∧ a.fSize ≤ 9223372036854775807)
theorem el_9 {H : Type} {enc : TypeId × Value → H} {W : World} {spare : Nat → Bool} {held : Bool} (n : Nat) (cs : List Value) (y : DataW H × List MemPlace) (h : DataW.trod enc Try.prog W 0 spare held n 9 cs = some y) (hl : cs.length = 1) : ∃ a : ByteArray, (cs = e9 a) ∧ (True) := by
 obtain ⟨a, rfl, -, -⟩ := DataW.trod_string Try.underlying9 h
 exact ⟨a, rfl, trivial⟩
theorem el_3 {H : Type} {enc : TypeId × Value → H} {W : World} {spare : Nat → Bool} {held : Bool} (n : Nat) (cs : List Value) (y : DataW H × List MemPlace) (h : DataW.trod enc Try.prog W 0 spare held n 3 cs = some y) (hl : cs.length = 1) : ∃ a : Int, (cs = e3 a) ∧ (-9223372036854775808 ≤ a ∧ a ≤ 9223372036854775807) := by
 obtain ⟨a, rfl, -, wf⟩ := DataW.trod_int Try.underlying3 h
 exact ⟨a, rfl, Go.bounds_i64 wf⟩
theorem el_56 {H : Type} {enc : TypeId × Value → H} {W : World} {spare : Nat → Bool} {held : Bool} (n : Nat) (cs : List Value) (y : DataW H × List MemPlace) (h : DataW.trod enc Try.prog W 0 spare held n 56 cs = some y) (hl : cs.length = 1) : ∃ a : List Int, (p56 (ZW W) cs a) ∧ (a.length ≤ 9223372036854775807 ∧ ∀ x ∈ a, -9223372036854775808 ≤ x ∧ x ≤ 9223372036854775807) := by
 obtain ⟨ao, cap, l, rfl, hz, hL⟩ := y1T (Pr := fun r x => (r = e3 x) ∧ (-9223372036854775808 ≤ x ∧ x ≤ 9223372036854775807)) (sz := 1) Try.underlying56 (by kernel_rfl) (by decide) el_3 h
 unfold maxLen at hL
 exact ⟨l, ⟨ao, cap, rfl, hz.weak (fun _ _ h => h.1)⟩, ⟨by omega, hz.all (q := fun x => -9223372036854775808 ≤ x ∧ x ≤ 9223372036854775807) (fun _ _ h => h.2)⟩⟩
theorem el_5 {H : Type} {enc : TypeId × Value → H} {W : World} {spare : Nat → Bool} {held : Bool} (n : Nat) (cs : List Value) (y : DataW H × List MemPlace) (h : DataW.trod enc Try.prog W 0 spare held n 5 cs = some y) (hl : cs.length = 1) : ∃ a : Int, (cs = e5 a) ∧ (0 ≤ a ∧ a ≤ 255) := by
 obtain ⟨a, rfl, -, wf⟩ := DataW.trod_int Try.underlying5 h
 exact ⟨a, rfl, Go.bounds_u8 wf⟩
theorem el_4 {H : Type} {enc : TypeId × Value → H} {W : World} {spare : Nat → Bool} {held : Bool} (n : Nat) (cs : List Value) (y : DataW H × List MemPlace) (h : DataW.trod enc Try.prog W 0 spare held n 4 cs = some y) (hl : cs.length = 1) : ∃ a : Bool, (cs = e4 a) ∧ (True) := by
 obtain ⟨a, rfl, -⟩ := DataW.trod_bool Try.underlying4 h
 exact ⟨a, rfl, trivial⟩
theorem zAa {H : Type} {enc : TypeId × Value → H} {W : World} {spare : Nat → Bool} {held : Bool} (n : Nat) (cs : List Value) (y : DataW H × List MemPlace) (h : DataW.trod enc Try.prog W 0 spare held n 191 cs = some y) (hl : cs.length = 6) : ∃ a : Sapi_Port, (cs = e191 a) ∧ (kd191 a) := by
 obtain ⟨y0, m0, h0⟩ := yc 0 Try.underlying191 h rfl
 have c0 : Try.prog.cellsOf 9 = 1 := by kernel_rfl
 try dsimp only at h0
 rw [c0] at h0
 obtain ⟨a0, r0, k0⟩ := el_9 _ _ _ h0 (by simp [hl])
 obtain ⟨y1, m1, h1⟩ := yc 1 Try.underlying191 h rfl
 have c1 : Try.prog.cellsOf 5 = 1 := by kernel_rfl
 try dsimp only at h1
 rw [c1] at h1
 obtain ⟨a1, r1, k1⟩ := el_5 _ _ _ h1 (by simp [hl])
 obtain ⟨y2, m2, h2⟩ := yc 2 Try.underlying191 h rfl
 have c2 : Try.prog.cellsOf 4 = 1 := by kernel_rfl
 try dsimp only at h2
 rw [c2] at h2
 obtain ⟨a2, r2, k2⟩ := el_4 _ _ _ h2 (by simp [hl])
 obtain ⟨y3, m3, h3⟩ := yc 3 Try.underlying191 h rfl
 have c3 : Try.prog.cellsOf 3 = 1 := by kernel_rfl
 try dsimp only at h3
 rw [c3] at h3
 obtain ⟨a3, r3, k3⟩ := el_3 _ _ _ h3 (by simp [hl])
 obtain ⟨y4, m4, h4⟩ := yc 4 Try.underlying191 h rfl
 have c4 : Try.prog.cellsOf 3 = 1 := by kernel_rfl
 try dsimp only at h4
 rw [c4] at h4
 obtain ⟨a4, r4, k4⟩ := el_3 _ _ _ h4 (by simp [hl])
 obtain ⟨y5, m5, h5⟩ := yc 5 Try.underlying191 h rfl
 have c5 : Try.prog.cellsOf 3 = 1 := by kernel_rfl
 try dsimp only at h5
 rw [c5] at h5
 obtain ⟨a5, r5, k5⟩ := el_3 _ _ _ h5 (by simp [hl])
 obtain ⟨u0, u1, u2, u3, u4, u5, rfl⟩ : ∃ u0 u1 u2 u3 u4 u5, cs = [u0, u1, u2, u3, u4, u5] := by match cs, hl with | [u0, u1, u2, u3, u4, u5], _ => exact ⟨_, _, _, _, _, _, rfl⟩
 simp [e9] at r0
 simp [e5] at r1
 simp [e4] at r2
 simp [e3] at r3
 simp [e3] at r4
 simp [e3] at r5
 exact ⟨⟨a0, a1, a2, a3, a4, a5⟩, by simp [e191, *], ⟨k1, k3, k4, k5⟩⟩
theorem zAb {H : Type} {enc : TypeId × Value → H} {W : World} {spare : Nat → Bool} {held : Bool} (n : Nat) (cs : List Value) (y : DataW H × List MemPlace) (h : DataW.trod enc Try.prog W 0 spare held n 183 cs = some y) (hl : cs.length = 1) : ∃ a : List Sapi_Port, (p183 (ZW W) cs a) ∧ (a.length ≤ 9223372036854775807 ∧ ∀ x ∈ a, kd191 x) := by
 obtain ⟨ao, cap, l, rfl, hz, hL⟩ := y1T (Pr := fun r x => (r = e191 x) ∧ (kd191 x)) (sz := 6) Try.underlying183 (by kernel_rfl) (by decide) zAa h
 unfold maxLen at hL
 exact ⟨l, ⟨ao, cap, rfl, hz.weak (fun _ _ h => h.1)⟩, ⟨by omega, hz.all (q := fun x => kd191 x) (fun _ _ h => h.2)⟩⟩
theorem zAc {H : Type} {enc : TypeId × Value → H} {W : World} {spare : Nat → Bool} {held : Bool} (n : Nat) (cs : List Value) (y : DataW H × List MemPlace) (h : DataW.trod enc Try.prog W 0 spare held n 196 cs = some y) (hl : cs.length = 4) : ∃ a : Sapi_Ins, (cs = e196 a) ∧ (kd196 a) := by
 obtain ⟨y0, m0, h0⟩ := yc 0 Try.underlying196 h rfl
 have c0 : Try.prog.cellsOf 5 = 1 := by kernel_rfl
 try dsimp only at h0
 rw [c0] at h0
 obtain ⟨a0, r0, k0⟩ := el_5 _ _ _ h0 (by simp [hl])
 obtain ⟨y1, m1, h1⟩ := yc 1 Try.underlying196 h rfl
 have c1 : Try.prog.cellsOf 3 = 1 := by kernel_rfl
 try dsimp only at h1
 rw [c1] at h1
 obtain ⟨a1, r1, k1⟩ := el_3 _ _ _ h1 (by simp [hl])
 obtain ⟨y2, m2, h2⟩ := yc 2 Try.underlying196 h rfl
 have c2 : Try.prog.cellsOf 3 = 1 := by kernel_rfl
 try dsimp only at h2
 rw [c2] at h2
 obtain ⟨a2, r2, k2⟩ := el_3 _ _ _ h2 (by simp [hl])
 obtain ⟨y3, m3, h3⟩ := yc 3 Try.underlying196 h rfl
 have c3 : Try.prog.cellsOf 3 = 1 := by kernel_rfl
 try dsimp only at h3
 rw [c3] at h3
 obtain ⟨a3, r3, k3⟩ := el_3 _ _ _ h3 (by simp [hl])
 obtain ⟨u0, u1, u2, u3, rfl⟩ : ∃ u0 u1 u2 u3, cs = [u0, u1, u2, u3] := by match cs, hl with | [u0, u1, u2, u3], _ => exact ⟨_, _, _, _, rfl⟩
 simp [e5] at r0
 simp [e3] at r1
 simp [e3] at r2
 simp [e3] at r3
 exact ⟨⟨a0, a1, a2, a3⟩, by simp [e196, *], ⟨k0, k1, k2, k3⟩⟩
theorem zAd {H : Type} {enc : TypeId × Value → H} {W : World} {spare : Nat → Bool} {held : Bool} (n : Nat) (cs : List Value) (y : DataW H × List MemPlace) (h : DataW.trod enc Try.prog W 0 spare held n 192 cs = some y) (hl : cs.length = 1) : ∃ a : List Sapi_Ins, (p192 (ZW W) cs a) ∧ (a.length ≤ 9223372036854775807 ∧ ∀ x ∈ a, kd196 x) := by
 obtain ⟨ao, cap, l, rfl, hz, hL⟩ := y1T (Pr := fun r x => (r = e196 x) ∧ (kd196 x)) (sz := 4) Try.underlying192 (by kernel_rfl) (by decide) zAc h
 unfold maxLen at hL
 exact ⟨l, ⟨ao, cap, rfl, hz.weak (fun _ _ h => h.1)⟩, ⟨by omega, hz.all (q := fun x => kd196 x) (fun _ _ h => h.2)⟩⟩
theorem zAe {H : Type} {enc : TypeId × Value → H} {W : World} {spare : Nat → Bool} {held : Bool} (n : Nat) (cs : List Value) (y : DataW H × List MemPlace) (h : DataW.trod enc Try.prog W 0 spare held n 194 cs = some y) (hl : cs.length = 5) : ∃ a : Sapi_Proc, (p194 (ZW W) cs a) ∧ (kd194 a) := by
 obtain ⟨y0, m0, h0⟩ := yc 0 Try.underlying194 h rfl
 have c0 : Try.prog.cellsOf 9 = 1 := by kernel_rfl
 try dsimp only at h0
 rw [c0] at h0
 obtain ⟨a0, r0, k0⟩ := el_9 _ _ _ h0 (by simp [hl])
 obtain ⟨y1, m1, h1⟩ := yc 1 Try.underlying194 h rfl
 have c1 : Try.prog.cellsOf 3 = 1 := by kernel_rfl
 try dsimp only at h1
 rw [c1] at h1
 obtain ⟨a1, r1, k1⟩ := el_3 _ _ _ h1 (by simp [hl])
 obtain ⟨y2, m2, h2⟩ := yc 2 Try.underlying194 h rfl
 have c2 : Try.prog.cellsOf 3 = 1 := by kernel_rfl
 try dsimp only at h2
 rw [c2] at h2
 obtain ⟨a2, r2, k2⟩ := el_3 _ _ _ h2 (by simp [hl])
 obtain ⟨y3, m3, h3⟩ := yc 3 Try.underlying194 h rfl
 have c3 : Try.prog.cellsOf 3 = 1 := by kernel_rfl
 try dsimp only at h3
 rw [c3] at h3
 obtain ⟨a3, r3, k3⟩ := el_3 _ _ _ h3 (by simp [hl])
 obtain ⟨y4, m4, h4⟩ := yc 4 Try.underlying194 h rfl
 have c4 : Try.prog.cellsOf 192 = 1 := by kernel_rfl
 try dsimp only at h4
 rw [c4] at h4
 obtain ⟨a4, r4, k4⟩ := zAd _ _ _ h4 (by simp [hl])
 obtain ⟨u0, u1, u2, u3, u4, rfl⟩ : ∃ u0 u1 u2 u3 u4, cs = [u0, u1, u2, u3, u4] := by match cs, hl with | [u0, u1, u2, u3, u4], _ => exact ⟨_, _, _, _, _, rfl⟩
 simp [e9] at r0
 simp [e3] at r1
 simp [e3] at r2
 simp [e3] at r3
 obtain ⟨ao4x0, cp4x0, r4, z4x0⟩ := r4
 simp at r4
 refine ⟨⟨a0, a1, a2, a3, a4⟩, ⟨ao4x0, cp4x0, by simp [*], z4x0⟩, ⟨k1, k2, k3, k4⟩⟩
theorem zAf {H : Type} {enc : TypeId × Value → H} {W : World} {spare : Nat → Bool} {held : Bool} (n : Nat) (cs : List Value) (y : DataW H × List MemPlace) (h : DataW.trod enc Try.prog W 0 spare held n 184 cs = some y) (hl : cs.length = 1) : ∃ a : List Sapi_Proc, (p184 (ZW W) cs a) ∧ (a.length ≤ 9223372036854775807 ∧ ∀ x ∈ a, kd194 x) := by
 obtain ⟨ao, cap, l, rfl, hz, hL⟩ := y1T (Pr := fun r x => (p194 (ZW W) r x) ∧ (kd194 x)) (sz := 5) Try.underlying184 (by kernel_rfl) (by decide) zAe h
 unfold maxLen at hL
 exact ⟨l, ⟨ao, cap, rfl, hz.weak (fun _ _ h => h.1)⟩, ⟨by omega, hz.all (q := fun x => kd194 x) (fun _ _ h => h.2)⟩⟩
theorem zAg {H : Type} {enc : TypeId × Value → H} {W : World} {spare : Nat → Bool} {held : Bool} (n : Nat) (cs : List Value) (y : DataW H × List MemPlace) (h : DataW.trod enc Try.prog W 0 spare held n 186 cs = some y) (hl : cs.length = 10) : ∃ a : Sapi_Part, (p186 (ZW W) cs a) ∧ (kd186 a) := by
 obtain ⟨y0, m0, h0⟩ := yc 0 Try.underlying186 h rfl
 have c0 : Try.prog.cellsOf 9 = 1 := by kernel_rfl
 try dsimp only at h0
 rw [c0] at h0
 obtain ⟨a0, r0, k0⟩ := el_9 _ _ _ h0 (by simp [hl])
 obtain ⟨y1, m1, h1⟩ := yc 1 Try.underlying186 h rfl
 have c1 : Try.prog.cellsOf 3 = 1 := by kernel_rfl
 try dsimp only at h1
 rw [c1] at h1
 obtain ⟨a1, r1, k1⟩ := el_3 _ _ _ h1 (by simp [hl])
 obtain ⟨y2, m2, h2⟩ := yc 2 Try.underlying186 h rfl
 have c2 : Try.prog.cellsOf 3 = 1 := by kernel_rfl
 try dsimp only at h2
 rw [c2] at h2
 obtain ⟨a2, r2, k2⟩ := el_3 _ _ _ h2 (by simp [hl])
 obtain ⟨y3, m3, h3⟩ := yc 3 Try.underlying186 h rfl
 have c3 : Try.prog.cellsOf 3 = 1 := by kernel_rfl
 try dsimp only at h3
 rw [c3] at h3
 obtain ⟨a3, r3, k3⟩ := el_3 _ _ _ h3 (by simp [hl])
 obtain ⟨y4, m4, h4⟩ := yc 4 Try.underlying186 h rfl
 have c4 : Try.prog.cellsOf 56 = 1 := by kernel_rfl
 try dsimp only at h4
 rw [c4] at h4
 obtain ⟨a4, r4, k4⟩ := el_56 _ _ _ h4 (by simp [hl])
 obtain ⟨y5, m5, h5⟩ := yc 5 Try.underlying186 h rfl
 have c5 : Try.prog.cellsOf 3 = 1 := by kernel_rfl
 try dsimp only at h5
 rw [c5] at h5
 obtain ⟨a5, r5, k5⟩ := el_3 _ _ _ h5 (by simp [hl])
 obtain ⟨y6, m6, h6⟩ := yc 6 Try.underlying186 h rfl
 have c6 : Try.prog.cellsOf 3 = 1 := by kernel_rfl
 try dsimp only at h6
 rw [c6] at h6
 obtain ⟨a6, r6, k6⟩ := el_3 _ _ _ h6 (by simp [hl])
 obtain ⟨y7, m7, h7⟩ := yc 7 Try.underlying186 h rfl
 have c7 : Try.prog.cellsOf 56 = 1 := by kernel_rfl
 try dsimp only at h7
 rw [c7] at h7
 obtain ⟨a7, r7, k7⟩ := el_56 _ _ _ h7 (by simp [hl])
 obtain ⟨y8, m8, h8⟩ := yc 8 Try.underlying186 h rfl
 have c8 : Try.prog.cellsOf 183 = 1 := by kernel_rfl
 try dsimp only at h8
 rw [c8] at h8
 obtain ⟨a8, r8, k8⟩ := zAb _ _ _ h8 (by simp [hl])
 obtain ⟨y9, m9, h9⟩ := yc 9 Try.underlying186 h rfl
 have c9 : Try.prog.cellsOf 184 = 1 := by kernel_rfl
 try dsimp only at h9
 rw [c9] at h9
 obtain ⟨a9, r9, k9⟩ := zAf _ _ _ h9 (by simp [hl])
 obtain ⟨u0, u1, u2, u3, u4, u5, u6, u7, u8, u9, rfl⟩ : ∃ u0 u1 u2 u3 u4 u5 u6 u7 u8 u9, cs = [u0, u1, u2, u3, u4, u5, u6, u7, u8, u9] := by match cs, hl with | [u0, u1, u2, u3, u4, u5, u6, u7, u8, u9], _ => exact ⟨_, _, _, _, _, _, _, _, _, _, rfl⟩
 simp [e9] at r0
 simp [e3] at r1
 simp [e3] at r2
 simp [e3] at r3
 obtain ⟨ao4x0, cp4x0, r4, z4x0⟩ := r4
 simp at r4
 simp [e3] at r5
 simp [e3] at r6
 obtain ⟨ao7x0, cp7x0, r7, z7x0⟩ := r7
 simp at r7
 obtain ⟨ao8x0, cp8x0, r8, z8x0⟩ := r8
 simp at r8
 obtain ⟨ao9x0, cp9x0, r9, z9x0⟩ := r9
 simp at r9
 refine ⟨⟨a0, a1, a2, a3, a4, a5, a6, a7, a8, a9⟩, ⟨ao4x0, cp4x0, ao7x0, cp7x0, ao8x0, cp8x0, ao9x0, cp9x0, by simp [*], z4x0, z7x0, z8x0, z9x0⟩, ⟨k1, k2, k3, k4, k5, k6, k7, k8, k9⟩⟩
theorem zAh {H : Type} {enc : TypeId × Value → H} {W : World} {spare : Nat → Bool} {held : Bool} (n : Nat) (cs : List Value) (y : DataW H × List MemPlace) (h : DataW.trod enc Try.prog W 0 spare held n 102 cs = some y) (hl : cs.length = 1) : ∃ a : List Sapi_Part, (p102 (ZW W) cs a) ∧ (a.length ≤ 9223372036854775807 ∧ ∀ x ∈ a, kd186 x) := by
 obtain ⟨ao, cap, l, rfl, hz, hL⟩ := y1T (Pr := fun r x => (p186 (ZW W) r x) ∧ (kd186 x)) (sz := 10) Try.underlying102 (by kernel_rfl) (by decide) zAg h
 unfold maxLen at hL
 exact ⟨l, ⟨ao, cap, rfl, hz.weak (fun _ _ h => h.1)⟩, ⟨by omega, hz.all (q := fun x => kd186 x) (fun _ _ h => h.2)⟩⟩
theorem zAi {H : Type} {enc : TypeId × Value → H} {W : World} {spare : Nat → Bool} {held : Bool} (n : Nat) (cs : List Value) (y : DataW H × List MemPlace) (h : DataW.trod enc Try.prog W 0 spare held n 104 cs = some y) (hl : cs.length = 4) : ∃ a : Sapi_Module, (y2h (ZW W) cs a) ∧ (kd104 a) := by
 obtain ⟨y0, m0, h0⟩ := yc 0 Try.underlying104 h rfl
 have c0 : Try.prog.cellsOf 9 = 1 := by kernel_rfl
 try dsimp only at h0
 rw [c0] at h0
 obtain ⟨a0, r0, k0⟩ := el_9 _ _ _ h0 (by simp [hl])
 obtain ⟨y1, m1, h1⟩ := yc 1 Try.underlying104 h rfl
 have c1 : Try.prog.cellsOf 3 = 1 := by kernel_rfl
 try dsimp only at h1
 rw [c1] at h1
 obtain ⟨a1, r1, k1⟩ := el_3 _ _ _ h1 (by simp [hl])
 obtain ⟨y2, m2, h2⟩ := yc 2 Try.underlying104 h rfl
 have c2 : Try.prog.cellsOf 3 = 1 := by kernel_rfl
 try dsimp only at h2
 rw [c2] at h2
 obtain ⟨a2, r2, k2⟩ := el_3 _ _ _ h2 (by simp [hl])
 obtain ⟨y3, m3, h3⟩ := yc 3 Try.underlying104 h rfl
 have c3 : Try.prog.cellsOf 102 = 1 := by kernel_rfl
 try dsimp only at h3
 rw [c3] at h3
 obtain ⟨a3, r3, k3⟩ := zAh _ _ _ h3 (by simp [hl])
 obtain ⟨u0, u1, u2, u3, rfl⟩ : ∃ u0 u1 u2 u3, cs = [u0, u1, u2, u3] := by match cs, hl with | [u0, u1, u2, u3], _ => exact ⟨_, _, _, _, rfl⟩
 simp [e9] at r0
 simp [e3] at r1
 simp [e3] at r2
 obtain ⟨ao3x0, cp3x0, r3, z3x0⟩ := r3
 simp at r3
 refine ⟨⟨a0, a1, a2, a3⟩, ⟨ao3x0, cp3x0, by simp [*], z3x0⟩, ⟨k1, k2, k3⟩⟩
theorem el_22 {H : Type} {enc : TypeId × Value → H} {W : World} {spare : Nat → Bool} {held : Bool} (n : Nat) (cs : List Value) (y : DataW H × List MemPlace) (h : DataW.trod enc Try.prog W 0 spare held n 22 cs = some y) (hl : cs.length = 1) : ∃ a : List Sapi_Module, (p22 (ZW W) cs a) ∧ (a.length ≤ 9223372036854775807 ∧ ∀ x ∈ a, kd104 x) := by
 obtain ⟨ao, cap, l, rfl, hz, hL⟩ := y1T (Pr := fun r x => (y2h (ZW W) r x) ∧ (kd104 x)) (sz := 4) Try.underlying22 (by kernel_rfl) (by decide) zAi h
 unfold maxLen at hL
 exact ⟨l, ⟨ao, cap, rfl, hz.weak (fun _ _ h => h.1)⟩, ⟨by omega, hz.all (q := fun x => kd104 x) (fun _ _ h => h.2)⟩⟩
theorem zlD {H : Type} {enc : TypeId × Value → H} {W : World} {spare : Nat → Bool} {held : Bool} (n : Nat) (cs : List Value) (y : DataW H × List MemPlace) (h : DataW.trod enc Try.prog W 0 spare held n 106 cs = some y) (hl : cs.length = 3) : ∃ a : Sapi_Ref, (cs = e106 a) ∧ (True) := by
 obtain ⟨y0, m0, h0⟩ := yc 0 Try.underlying106 h rfl
 have c0 : Try.prog.cellsOf 9 = 1 := by kernel_rfl
 try dsimp only at h0
 rw [c0] at h0
 obtain ⟨a0, r0, k0⟩ := el_9 _ _ _ h0 (by simp [hl])
 obtain ⟨y1, m1, h1⟩ := yc 1 Try.underlying106 h rfl
 have c1 : Try.prog.cellsOf 9 = 1 := by kernel_rfl
 try dsimp only at h1
 rw [c1] at h1
 obtain ⟨a1, r1, k1⟩ := el_9 _ _ _ h1 (by simp [hl])
 obtain ⟨y2, m2, h2⟩ := yc 2 Try.underlying106 h rfl
 have c2 : Try.prog.cellsOf 9 = 1 := by kernel_rfl
 try dsimp only at h2
 rw [c2] at h2
 obtain ⟨a2, r2, k2⟩ := el_9 _ _ _ h2 (by simp [hl])
 obtain ⟨u0, u1, u2, rfl⟩ : ∃ u0 u1 u2, cs = [u0, u1, u2] := by match cs, hl with | [u0, u1, u2], _ => exact ⟨_, _, _, rfl⟩
 simp [e9] at r0
 simp [e9] at r1
 simp [e9] at r2
 exact ⟨⟨a0, a1, a2⟩, by simp [e106, *], trivial⟩
theorem zrm {H : Type} {enc : TypeId × Value → H} {W : World} {spare : Nat → Bool} {held : Bool} (n : Nat) (cs : List Value) (y : DataW H × List MemPlace) (h : DataW.trod enc Try.prog W 0 spare held n 107 cs = some y) (hl : cs.length = 1) : ∃ a : List Sapi_Ref, (p107 (ZW W) cs a) ∧ (a.length ≤ 9223372036854775807) := by
 obtain ⟨ao, cap, l, rfl, hz, hL⟩ := y1T (Pr := fun r x => (r = e106 x) ∧ (True)) (sz := 3) Try.underlying107 (by kernel_rfl) (by decide) zlD h
 unfold maxLen at hL
 exact ⟨l, ⟨ao, cap, rfl, hz.weak (fun _ _ h => h.1)⟩, by omega⟩
theorem zAj {H : Type} {enc : TypeId × Value → H} {W : World} {spare : Nat → Bool} {held : Bool} (n : Nat) (cs : List Value) (y : DataW H × List MemPlace) (h : DataW.trod enc Try.prog W 0 spare held n 173 cs = some y) (hl : cs.length = 4) : ∃ a : Sapi_Channel, (y2x (ZW W) cs a) ∧ (kd173 a) := by
 obtain ⟨y0, m0, h0⟩ := yc 0 Try.underlying173 h rfl
 have c0 : Try.prog.cellsOf 106 = 3 := by kernel_rfl
 try dsimp only at h0
 rw [c0] at h0
 obtain ⟨a0, r0, k0⟩ := zlD _ _ _ h0 (by simp [hl])
 obtain ⟨y1, m1, h1⟩ := yc 1 Try.underlying173 h rfl
 have c1 : Try.prog.cellsOf 107 = 1 := by kernel_rfl
 try dsimp only at h1
 rw [c1] at h1
 obtain ⟨a1, r1, k1⟩ := zrm _ _ _ h1 (by simp [hl])
 obtain ⟨u0, u1, u2, u3, rfl⟩ : ∃ u0 u1 u2 u3, cs = [u0, u1, u2, u3] := by match cs, hl with | [u0, u1, u2, u3], _ => exact ⟨_, _, _, _, rfl⟩
 simp [e106] at r0
 obtain ⟨ao1x0, cp1x0, r1, z1x0⟩ := r1
 simp at r1
 refine ⟨⟨a0, a1⟩, ⟨ao1x0, cp1x0, by simp [*], z1x0⟩, k1⟩
theorem el_23 {H : Type} {enc : TypeId × Value → H} {W : World} {spare : Nat → Bool} {held : Bool} (n : Nat) (cs : List Value) (y : DataW H × List MemPlace) (h : DataW.trod enc Try.prog W 0 spare held n 23 cs = some y) (hl : cs.length = 1) : ∃ a : List Sapi_Channel, (p23 (ZW W) cs a) ∧ (a.length ≤ 9223372036854775807 ∧ ∀ x ∈ a, kd173 x) := by
 obtain ⟨ao, cap, l, rfl, hz, hL⟩ := y1T (Pr := fun r x => (y2x (ZW W) r x) ∧ (kd173 x)) (sz := 4) Try.underlying23 (by kernel_rfl) (by decide) zAj h
 unfold maxLen at hL
 exact ⟨l, ⟨ao, cap, rfl, hz.weak (fun _ _ h => h.1)⟩, ⟨by omega, hz.all (q := fun x => kd173 x) (fun _ _ h => h.2)⟩⟩
theorem el_64 {H : Type} {enc : TypeId × Value → H} {W : World} {spare : Nat → Bool} {held : Bool} (n : Nat) (cs : List Value) (y : DataW H × List MemPlace) (h : DataW.trod enc Try.prog W 0 spare held n 64 cs = some y) (hl : cs.length = 4) : ∃ a : Sapi_Switch, (cs = e64 a) ∧ (kd64 a) := by
 obtain ⟨y0, m0, h0⟩ := yc 0 Try.underlying64 h rfl
 have c0 : Try.prog.cellsOf 9 = 1 := by kernel_rfl
 try dsimp only at h0
 rw [c0] at h0
 obtain ⟨a0, r0, k0⟩ := el_9 _ _ _ h0 (by simp [hl])
 obtain ⟨y1, m1, h1⟩ := yc 1 Try.underlying64 h rfl
 have c1 : Try.prog.cellsOf 3 = 1 := by kernel_rfl
 try dsimp only at h1
 rw [c1] at h1
 obtain ⟨a1, r1, k1⟩ := el_3 _ _ _ h1 (by simp [hl])
 obtain ⟨y2, m2, h2⟩ := yc 2 Try.underlying64 h rfl
 have c2 : Try.prog.cellsOf 3 = 1 := by kernel_rfl
 try dsimp only at h2
 rw [c2] at h2
 obtain ⟨a2, r2, k2⟩ := el_3 _ _ _ h2 (by simp [hl])
 obtain ⟨y3, m3, h3⟩ := yc 3 Try.underlying64 h rfl
 have c3 : Try.prog.cellsOf 3 = 1 := by kernel_rfl
 try dsimp only at h3
 rw [c3] at h3
 obtain ⟨a3, r3, k3⟩ := el_3 _ _ _ h3 (by simp [hl])
 obtain ⟨u0, u1, u2, u3, rfl⟩ : ∃ u0 u1 u2 u3, cs = [u0, u1, u2, u3] := by match cs, hl with | [u0, u1, u2, u3], _ => exact ⟨_, _, _, _, rfl⟩
 simp [e9] at r0
 simp [e3] at r1
 simp [e3] at r2
 simp [e3] at r3
 exact ⟨⟨a0, a1, a2, a3⟩, by simp [e64, *], ⟨k1, k2, k3⟩⟩
theorem el_24 {H : Type} {enc : TypeId × Value → H} {W : World} {spare : Nat → Bool} {held : Bool} (n : Nat) (cs : List Value) (y : DataW H × List MemPlace) (h : DataW.trod enc Try.prog W 0 spare held n 24 cs = some y) (hl : cs.length = 1) : ∃ a : List Sapi_Switch, (p24 (ZW W) cs a) ∧ (a.length ≤ 9223372036854775807 ∧ ∀ x ∈ a, kd64 x) := by
 obtain ⟨ao, cap, l, rfl, hz, hL⟩ := y1T (Pr := fun r x => (r = e64 x) ∧ (kd64 x)) (sz := 4) Try.underlying24 (by kernel_rfl) (by decide) el_64 h
 unfold maxLen at hL
 exact ⟨l, ⟨ao, cap, rfl, hz.weak (fun _ _ h => h.1)⟩, ⟨by omega, hz.all (q := fun x => kd64 x) (fun _ _ h => h.2)⟩⟩
theorem el_62 {H : Type} {enc : TypeId × Value → H} {W : World} {spare : Nat → Bool} {held : Bool} (n : Nat) (cs : List Value) (y : DataW H × List MemPlace) (h : DataW.trod enc Try.prog W 0 spare held n 62 cs = some y) (hl : cs.length = 4) : ∃ a : Sapi_Link, (cs = e62 a) ∧ (kd62 a) := by
 obtain ⟨y0, m0, h0⟩ := yc 0 Try.underlying62 h rfl
 have c0 : Try.prog.cellsOf 9 = 1 := by kernel_rfl
 try dsimp only at h0
 rw [c0] at h0
 obtain ⟨a0, r0, k0⟩ := el_9 _ _ _ h0 (by simp [hl])
 obtain ⟨y1, m1, h1⟩ := yc 1 Try.underlying62 h rfl
 have c1 : Try.prog.cellsOf 9 = 1 := by kernel_rfl
 try dsimp only at h1
 rw [c1] at h1
 obtain ⟨a1, r1, k1⟩ := el_9 _ _ _ h1 (by simp [hl])
 obtain ⟨y2, m2, h2⟩ := yc 2 Try.underlying62 h rfl
 have c2 : Try.prog.cellsOf 3 = 1 := by kernel_rfl
 try dsimp only at h2
 rw [c2] at h2
 obtain ⟨a2, r2, k2⟩ := el_3 _ _ _ h2 (by simp [hl])
 obtain ⟨y3, m3, h3⟩ := yc 3 Try.underlying62 h rfl
 have c3 : Try.prog.cellsOf 3 = 1 := by kernel_rfl
 try dsimp only at h3
 rw [c3] at h3
 obtain ⟨a3, r3, k3⟩ := el_3 _ _ _ h3 (by simp [hl])
 obtain ⟨u0, u1, u2, u3, rfl⟩ : ∃ u0 u1 u2 u3, cs = [u0, u1, u2, u3] := by match cs, hl with | [u0, u1, u2, u3], _ => exact ⟨_, _, _, _, rfl⟩
 simp [e9] at r0
 simp [e9] at r1
 simp [e3] at r2
 simp [e3] at r3
 exact ⟨⟨a0, a1, a2, a3⟩, by simp [e62, *], ⟨k2, k3⟩⟩
theorem el_25 {H : Type} {enc : TypeId × Value → H} {W : World} {spare : Nat → Bool} {held : Bool} (n : Nat) (cs : List Value) (y : DataW H × List MemPlace) (h : DataW.trod enc Try.prog W 0 spare held n 25 cs = some y) (hl : cs.length = 1) : ∃ a : List Sapi_Link, (p25 (ZW W) cs a) ∧ (a.length ≤ 9223372036854775807 ∧ ∀ x ∈ a, kd62 x) := by
 obtain ⟨ao, cap, l, rfl, hz, hL⟩ := y1T (Pr := fun r x => (r = e62 x) ∧ (kd62 x)) (sz := 4) Try.underlying25 (by kernel_rfl) (by decide) el_62 h
 unfold maxLen at hL
 exact ⟨l, ⟨ao, cap, rfl, hz.weak (fun _ _ h => h.1)⟩, ⟨by omega, hz.all (q := fun x => kd62 x) (fun _ _ h => h.2)⟩⟩
theorem zAk {H : Type} {enc : TypeId × Value → H} {W : World} {spare : Nat → Bool} {held : Bool} (n : Nat) (cs : List Value) (y : DataW H × List MemPlace) (h : DataW.trod enc Try.prog W 0 spare held n 109 cs = some y) (hl : cs.length = 7) : ∃ a : Sapi_VL, (y2p (ZW W) cs a) ∧ (kd109 a) := by
 obtain ⟨y0, m0, h0⟩ := yc 0 Try.underlying109 h rfl
 have c0 : Try.prog.cellsOf 9 = 1 := by kernel_rfl
 try dsimp only at h0
 rw [c0] at h0
 obtain ⟨a0, r0, k0⟩ := el_9 _ _ _ h0 (by simp [hl])
 obtain ⟨y1, m1, h1⟩ := yc 1 Try.underlying109 h rfl
 have c1 : Try.prog.cellsOf 106 = 3 := by kernel_rfl
 try dsimp only at h1
 rw [c1] at h1
 obtain ⟨a1, r1, k1⟩ := zlD _ _ _ h1 (by simp [hl])
 obtain ⟨y2, m2, h2⟩ := yc 2 Try.underlying109 h rfl
 have c2 : Try.prog.cellsOf 3 = 1 := by kernel_rfl
 try dsimp only at h2
 rw [c2] at h2
 obtain ⟨a2, r2, k2⟩ := el_3 _ _ _ h2 (by simp [hl])
 obtain ⟨y3, m3, h3⟩ := yc 3 Try.underlying109 h rfl
 have c3 : Try.prog.cellsOf 3 = 1 := by kernel_rfl
 try dsimp only at h3
 rw [c3] at h3
 obtain ⟨a3, r3, k3⟩ := el_3 _ _ _ h3 (by simp [hl])
 obtain ⟨y4, m4, h4⟩ := yc 4 Try.underlying109 h rfl
 have c4 : Try.prog.cellsOf 107 = 1 := by kernel_rfl
 try dsimp only at h4
 rw [c4] at h4
 obtain ⟨a4, r4, k4⟩ := zrm _ _ _ h4 (by simp [hl])
 obtain ⟨u0, u1, u2, u3, u4, u5, u6, rfl⟩ : ∃ u0 u1 u2 u3 u4 u5 u6, cs = [u0, u1, u2, u3, u4, u5, u6] := by match cs, hl with | [u0, u1, u2, u3, u4, u5, u6], _ => exact ⟨_, _, _, _, _, _, _, rfl⟩
 simp [e9] at r0
 simp [e106] at r1
 simp [e3] at r2
 simp [e3] at r3
 obtain ⟨ao4x0, cp4x0, r4, z4x0⟩ := r4
 simp at r4
 refine ⟨⟨a0, a1, a2, a3, a4⟩, ⟨ao4x0, cp4x0, by simp [*], z4x0⟩, ⟨k2, k3, k4⟩⟩
theorem el_26 {H : Type} {enc : TypeId × Value → H} {W : World} {spare : Nat → Bool} {held : Bool} (n : Nat) (cs : List Value) (y : DataW H × List MemPlace) (h : DataW.trod enc Try.prog W 0 spare held n 26 cs = some y) (hl : cs.length = 1) : ∃ a : List Sapi_VL, (p26 (ZW W) cs a) ∧ (a.length ≤ 9223372036854775807 ∧ ∀ x ∈ a, kd109 x) := by
 obtain ⟨ao, cap, l, rfl, hz, hL⟩ := y1T (Pr := fun r x => (y2p (ZW W) r x) ∧ (kd109 x)) (sz := 7) Try.underlying26 (by kernel_rfl) (by decide) zAk h
 unfold maxLen at hL
 exact ⟨l, ⟨ao, cap, rfl, hz.weak (fun _ _ h => h.1)⟩, ⟨by omega, hz.all (q := fun x => kd109 x) (fun _ _ h => h.2)⟩⟩
theorem zAl {H : Type} {enc : TypeId × Value → H} {W : World} {spare : Nat → Bool} {held : Bool} (n : Nat) (cs : List Value) (y : DataW H × List MemPlace) (h : DataW.trod enc Try.prog W 0 spare held n 175 cs = some y) (hl : cs.length = 5) : ∃ a : Sapi_Health, (cs = y2K a) ∧ (kd175 a) := by
 obtain ⟨y0, m0, h0⟩ := yc 0 Try.underlying175 h rfl
 have c0 : Try.prog.cellsOf 9 = 1 := by kernel_rfl
 try dsimp only at h0
 rw [c0] at h0
 obtain ⟨a0, r0, k0⟩ := el_9 _ _ _ h0 (by simp [hl])
 obtain ⟨y1, m1, h1⟩ := yc 1 Try.underlying175 h rfl
 have c1 : Try.prog.cellsOf 9 = 1 := by kernel_rfl
 try dsimp only at h1
 rw [c1] at h1
 obtain ⟨a1, r1, k1⟩ := el_9 _ _ _ h1 (by simp [hl])
 obtain ⟨y2, m2, h2⟩ := yc 2 Try.underlying175 h rfl
 have c2 : Try.prog.cellsOf 5 = 1 := by kernel_rfl
 try dsimp only at h2
 rw [c2] at h2
 obtain ⟨a2, r2, k2⟩ := el_5 _ _ _ h2 (by simp [hl])
 obtain ⟨y3, m3, h3⟩ := yc 3 Try.underlying175 h rfl
 have c3 : Try.prog.cellsOf 5 = 1 := by kernel_rfl
 try dsimp only at h3
 rw [c3] at h3
 obtain ⟨a3, r3, k3⟩ := el_5 _ _ _ h3 (by simp [hl])
 obtain ⟨y4, m4, h4⟩ := yc 4 Try.underlying175 h rfl
 have c4 : Try.prog.cellsOf 5 = 1 := by kernel_rfl
 try dsimp only at h4
 rw [c4] at h4
 obtain ⟨a4, r4, k4⟩ := el_5 _ _ _ h4 (by simp [hl])
 obtain ⟨u0, u1, u2, u3, u4, rfl⟩ : ∃ u0 u1 u2 u3 u4, cs = [u0, u1, u2, u3, u4] := by match cs, hl with | [u0, u1, u2, u3, u4], _ => exact ⟨_, _, _, _, _, rfl⟩
 simp [e9] at r0
 simp [e9] at r1
 simp [e5] at r2
 simp [e5] at r3
 simp [e5] at r4
 exact ⟨⟨a0, a1, a2, a3, a4⟩, by simp [y2K, *], ⟨k2, k3, k4⟩⟩
theorem el_27 {H : Type} {enc : TypeId × Value → H} {W : World} {spare : Nat → Bool} {held : Bool} (n : Nat) (cs : List Value) (y : DataW H × List MemPlace) (h : DataW.trod enc Try.prog W 0 spare held n 27 cs = some y) (hl : cs.length = 1) : ∃ a : List Sapi_Health, (p27 (ZW W) cs a) ∧ (a.length ≤ 9223372036854775807 ∧ ∀ x ∈ a, kd175 x) := by
 obtain ⟨ao, cap, l, rfl, hz, hL⟩ := y1T (Pr := fun r x => (r = y2K x) ∧ (kd175 x)) (sz := 5) Try.underlying27 (by kernel_rfl) (by decide) zAl h
 unfold maxLen at hL
 exact ⟨l, ⟨ao, cap, rfl, hz.weak (fun _ _ h => h.1)⟩, ⟨by omega, hz.all (q := fun x => kd175 x) (fun _ _ h => h.2)⟩⟩
theorem zAm {H : Type} {enc : TypeId × Value → H} {W : World} {spare : Nat → Bool} {held : Bool} (n : Nat) (cs : List Value) (y : DataW H × List MemPlace) (h : DataW.trod enc Try.prog W 0 spare held n 189 cs = some y) (hl : cs.length = 2) : ∃ a : Sapi_Report, (cs = e189 a) ∧ (kd189 a) := by
 obtain ⟨y0, m0, h0⟩ := yc 0 Try.underlying189 h rfl
 have c0 : Try.prog.cellsOf 9 = 1 := by kernel_rfl
 try dsimp only at h0
 rw [c0] at h0
 obtain ⟨a0, r0, k0⟩ := el_9 _ _ _ h0 (by simp [hl])
 obtain ⟨y1, m1, h1⟩ := yc 1 Try.underlying189 h rfl
 have c1 : Try.prog.cellsOf 3 = 1 := by kernel_rfl
 try dsimp only at h1
 rw [c1] at h1
 obtain ⟨a1, r1, k1⟩ := el_3 _ _ _ h1 (by simp [hl])
 obtain ⟨u0, u1, rfl⟩ : ∃ u0 u1, cs = [u0, u1] := by match cs, hl with | [u0, u1], _ => exact ⟨_, _, rfl⟩
 simp [e9] at r0
 simp [e3] at r1
 exact ⟨⟨a0, a1⟩, by simp [e189, *], k1⟩
theorem zAn {H : Type} {enc : TypeId × Value → H} {W : World} {spare : Nat → Bool} {held : Bool} (n : Nat) (cs : List Value) (y : DataW H × List MemPlace) (h : DataW.trod enc Try.prog W 0 spare held n 176 cs = some y) (hl : cs.length = 1) : ∃ a : List Sapi_Report, (p176 (ZW W) cs a) ∧ (a.length ≤ 9223372036854775807 ∧ ∀ x ∈ a, kd189 x) := by
 obtain ⟨ao, cap, l, rfl, hz, hL⟩ := y1T (Pr := fun r x => (r = e189 x) ∧ (kd189 x)) (sz := 2) Try.underlying176 (by kernel_rfl) (by decide) zAm h
 unfold maxLen at hL
 exact ⟨l, ⟨ao, cap, rfl, hz.weak (fun _ _ h => h.1)⟩, ⟨by omega, hz.all (q := fun x => kd189 x) (fun _ _ h => h.2)⟩⟩
theorem zAo {H : Type} {enc : TypeId × Value → H} {W : World} {spare : Nat → Bool} {held : Bool} (n : Nat) (cs : List Value) (y : DataW H × List MemPlace) (h : DataW.trod enc Try.prog W 0 spare held n 177 cs = some y) (hl : cs.length = 1) : ∃ a : List ByteArray, (p177 (ZW W) cs a) ∧ (a.length ≤ 9223372036854775807) := by
 obtain ⟨ao, cap, l, rfl, hz, hL⟩ := y1T (Pr := fun r x => (r = e9 x) ∧ (True)) (sz := 1) Try.underlying177 (by kernel_rfl) (by decide) el_9 h
 unfold maxLen at hL
 exact ⟨l, ⟨ao, cap, rfl, hz.weak (fun _ _ h => h.1)⟩, by omega⟩
theorem zAp {H : Type} {enc : TypeId × Value → H} {W : World} {spare : Nat → Bool} {held : Bool} (n : Nat) (cs : List Value) (y : DataW H × List MemPlace) (h : DataW.trod enc Try.prog W 0 spare held n 179 cs = some y) (hl : cs.length = 3) : ∃ a : Sapi_Cause, (y2y (ZW W) cs a) ∧ (kd179 a) := by
 obtain ⟨y0, m0, h0⟩ := yc 0 Try.underlying179 h rfl
 have c0 : Try.prog.cellsOf 9 = 1 := by kernel_rfl
 try dsimp only at h0
 rw [c0] at h0
 obtain ⟨a0, r0, k0⟩ := el_9 _ _ _ h0 (by simp [hl])
 obtain ⟨y1, m1, h1⟩ := yc 1 Try.underlying179 h rfl
 have c1 : Try.prog.cellsOf 176 = 1 := by kernel_rfl
 try dsimp only at h1
 rw [c1] at h1
 obtain ⟨a1, r1, k1⟩ := zAn _ _ _ h1 (by simp [hl])
 obtain ⟨y2, m2, h2⟩ := yc 2 Try.underlying179 h rfl
 have c2 : Try.prog.cellsOf 177 = 1 := by kernel_rfl
 try dsimp only at h2
 rw [c2] at h2
 obtain ⟨a2, r2, k2⟩ := zAo _ _ _ h2 (by simp [hl])
 obtain ⟨u0, u1, u2, rfl⟩ : ∃ u0 u1 u2, cs = [u0, u1, u2] := by match cs, hl with | [u0, u1, u2], _ => exact ⟨_, _, _, rfl⟩
 simp [e9] at r0
 obtain ⟨ao1x0, cp1x0, r1, z1x0⟩ := r1
 simp at r1
 obtain ⟨ao2x0, cp2x0, r2, z2x0⟩ := r2
 simp at r2
 refine ⟨⟨a0, a1, a2⟩, ⟨ao1x0, cp1x0, ao2x0, cp2x0, by simp [*], z1x0, z2x0⟩, ⟨k1, k2⟩⟩
theorem el_28 {H : Type} {enc : TypeId × Value → H} {W : World} {spare : Nat → Bool} {held : Bool} (n : Nat) (cs : List Value) (y : DataW H × List MemPlace) (h : DataW.trod enc Try.prog W 0 spare held n 28 cs = some y) (hl : cs.length = 1) : ∃ a : List Sapi_Cause, (p28 (ZW W) cs a) ∧ (a.length ≤ 9223372036854775807 ∧ ∀ x ∈ a, kd179 x) := by
 obtain ⟨ao, cap, l, rfl, hz, hL⟩ := y1T (Pr := fun r x => (y2y (ZW W) r x) ∧ (kd179 x)) (sz := 3) Try.underlying28 (by kernel_rfl) (by decide) zAp h
 unfold maxLen at hL
 exact ⟨l, ⟨ao, cap, rfl, hz.weak (fun _ _ h => h.1)⟩, ⟨by omega, hz.all (q := fun x => kd179 x) (fun _ _ h => h.2)⟩⟩
theorem zAq {H : Type} {enc : TypeId × Value → H} {W : World} {spare : Nat → Bool} {held : Bool} (n : Nat) (cs : List Value) (y : DataW H × List MemPlace) (h : DataW.trod enc Try.prog W 0 spare held n 181 cs = some y) (hl : cs.length = 4) : ∃ a : Sapi_Version, (cs = y2L a) ∧ (kd181 a) := by
 obtain ⟨y0, m0, h0⟩ := yc 0 Try.underlying181 h rfl
 have c0 : Try.prog.cellsOf 9 = 1 := by kernel_rfl
 try dsimp only at h0
 rw [c0] at h0
 obtain ⟨a0, r0, k0⟩ := el_9 _ _ _ h0 (by simp [hl])
 obtain ⟨y1, m1, h1⟩ := yc 1 Try.underlying181 h rfl
 have c1 : Try.prog.cellsOf 3 = 1 := by kernel_rfl
 try dsimp only at h1
 rw [c1] at h1
 obtain ⟨a1, r1, k1⟩ := el_3 _ _ _ h1 (by simp [hl])
 obtain ⟨y2, m2, h2⟩ := yc 2 Try.underlying181 h rfl
 have c2 : Try.prog.cellsOf 9 = 1 := by kernel_rfl
 try dsimp only at h2
 rw [c2] at h2
 obtain ⟨a2, r2, k2⟩ := el_9 _ _ _ h2 (by simp [hl])
 obtain ⟨y3, m3, h3⟩ := yc 3 Try.underlying181 h rfl
 have c3 : Try.prog.cellsOf 3 = 1 := by kernel_rfl
 try dsimp only at h3
 rw [c3] at h3
 obtain ⟨a3, r3, k3⟩ := el_3 _ _ _ h3 (by simp [hl])
 obtain ⟨u0, u1, u2, u3, rfl⟩ : ∃ u0 u1 u2 u3, cs = [u0, u1, u2, u3] := by match cs, hl with | [u0, u1, u2, u3], _ => exact ⟨_, _, _, _, rfl⟩
 simp [e9] at r0
 simp [e3] at r1
 simp [e9] at r2
 simp [e3] at r3
 exact ⟨⟨a0, a1, a2, a3⟩, by simp [y2L, *], ⟨k1, k3⟩⟩
theorem el_29 {H : Type} {enc : TypeId × Value → H} {W : World} {spare : Nat → Bool} {held : Bool} (n : Nat) (cs : List Value) (y : DataW H × List MemPlace) (h : DataW.trod enc Try.prog W 0 spare held n 29 cs = some y) (hl : cs.length = 1) : ∃ a : List Sapi_Version, (p29 (ZW W) cs a) ∧ (a.length ≤ 9223372036854775807 ∧ ∀ x ∈ a, kd181 x) := by
 obtain ⟨ao, cap, l, rfl, hz, hL⟩ := y1T (Pr := fun r x => (r = y2L x) ∧ (kd181 x)) (sz := 4) Try.underlying29 (by kernel_rfl) (by decide) zAq h
 unfold maxLen at hL
 exact ⟨l, ⟨ao, cap, rfl, hz.weak (fun _ _ h => h.1)⟩, ⟨by omega, hz.all (q := fun x => kd181 x) (fun _ _ h => h.2)⟩⟩
theorem el_31 {H : Type} {enc : TypeId × Value → H} {W : World} {spare : Nat → Bool} {held : Bool} (n : Nat) (cs : List Value) (y : DataW H × List MemPlace) (h : DataW.trod enc Try.prog W 0 spare held n 31 cs = some y) (hl : cs.length = 8) : ∃ a : Sapi_Config, (p31 (ZW W) cs a) ∧ (kd31 a) := by
 obtain ⟨y0, m0, h0⟩ := yc 0 Try.underlying31 h rfl
 have c0 : Try.prog.cellsOf 22 = 1 := by kernel_rfl
 try dsimp only at h0
 rw [c0] at h0
 obtain ⟨a0, r0, k0⟩ := el_22 _ _ _ h0 (by simp [hl])
 obtain ⟨y1, m1, h1⟩ := yc 1 Try.underlying31 h rfl
 have c1 : Try.prog.cellsOf 23 = 1 := by kernel_rfl
 try dsimp only at h1
 rw [c1] at h1
 obtain ⟨a1, r1, k1⟩ := el_23 _ _ _ h1 (by simp [hl])
 obtain ⟨y2, m2, h2⟩ := yc 2 Try.underlying31 h rfl
 have c2 : Try.prog.cellsOf 24 = 1 := by kernel_rfl
 try dsimp only at h2
 rw [c2] at h2
 obtain ⟨a2, r2, k2⟩ := el_24 _ _ _ h2 (by simp [hl])
 obtain ⟨y3, m3, h3⟩ := yc 3 Try.underlying31 h rfl
 have c3 : Try.prog.cellsOf 25 = 1 := by kernel_rfl
 try dsimp only at h3
 rw [c3] at h3
 obtain ⟨a3, r3, k3⟩ := el_25 _ _ _ h3 (by simp [hl])
 obtain ⟨y4, m4, h4⟩ := yc 4 Try.underlying31 h rfl
 have c4 : Try.prog.cellsOf 26 = 1 := by kernel_rfl
 try dsimp only at h4
 rw [c4] at h4
 obtain ⟨a4, r4, k4⟩ := el_26 _ _ _ h4 (by simp [hl])
 obtain ⟨y5, m5, h5⟩ := yc 5 Try.underlying31 h rfl
 have c5 : Try.prog.cellsOf 27 = 1 := by kernel_rfl
 try dsimp only at h5
 rw [c5] at h5
 obtain ⟨a5, r5, k5⟩ := el_27 _ _ _ h5 (by simp [hl])
 obtain ⟨y6, m6, h6⟩ := yc 6 Try.underlying31 h rfl
 have c6 : Try.prog.cellsOf 28 = 1 := by kernel_rfl
 try dsimp only at h6
 rw [c6] at h6
 obtain ⟨a6, r6, k6⟩ := el_28 _ _ _ h6 (by simp [hl])
 obtain ⟨y7, m7, h7⟩ := yc 7 Try.underlying31 h rfl
 have c7 : Try.prog.cellsOf 29 = 1 := by kernel_rfl
 try dsimp only at h7
 rw [c7] at h7
 obtain ⟨a7, r7, k7⟩ := el_29 _ _ _ h7 (by simp [hl])
 obtain ⟨u0, u1, u2, u3, u4, u5, u6, u7, rfl⟩ : ∃ u0 u1 u2 u3 u4 u5 u6 u7, cs = [u0, u1, u2, u3, u4, u5, u6, u7] := by match cs, hl with | [u0, u1, u2, u3, u4, u5, u6, u7], _ => exact ⟨_, _, _, _, _, _, _, _, rfl⟩
 obtain ⟨ao0x0, cp0x0, r0, z0x0⟩ := r0
 simp at r0
 obtain ⟨ao1x0, cp1x0, r1, z1x0⟩ := r1
 simp at r1
 obtain ⟨ao2x0, cp2x0, r2, z2x0⟩ := r2
 simp at r2
 obtain ⟨ao3x0, cp3x0, r3, z3x0⟩ := r3
 simp at r3
 obtain ⟨ao4x0, cp4x0, r4, z4x0⟩ := r4
 simp at r4
 obtain ⟨ao5x0, cp5x0, r5, z5x0⟩ := r5
 simp at r5
 obtain ⟨ao6x0, cp6x0, r6, z6x0⟩ := r6
 simp at r6
 obtain ⟨ao7x0, cp7x0, r7, z7x0⟩ := r7
 simp at r7
 refine ⟨⟨a0, a1, a2, a3, a4, a5, a6, a7⟩, ⟨ao0x0, cp0x0, ao1x0, cp1x0, ao2x0, cp2x0, ao3x0, cp3x0, ao4x0, cp4x0, ao5x0, cp5x0, ao6x0, cp6x0, ao7x0, cp7x0, by simp [*], z0x0, z1x0, z2x0, z3x0, z4x0, z5x0, z6x0, z7x0⟩, ⟨k0, k1, k2, k3, k4, k5, k6, k7⟩⟩
theorem el_59 {H : Type} {enc : TypeId × Value → H} {W : World} {spare : Nat → Bool} {held : Bool} (n : Nat) (cs : List Value) (y : DataW H × List MemPlace) (h : DataW.trod enc Try.prog W 0 spare held n 59 cs = some y) (hl : cs.length = 3) : ∃ a : Sapi_Hop, (cs = e59 a) ∧ (kd59 a) := by
 obtain ⟨y0, m0, h0⟩ := yc 0 Try.underlying59 h rfl
 have c0 : Try.prog.cellsOf 3 = 1 := by kernel_rfl
 try dsimp only at h0
 rw [c0] at h0
 obtain ⟨a0, r0, k0⟩ := el_3 _ _ _ h0 (by simp [hl])
 obtain ⟨y1, m1, h1⟩ := yc 1 Try.underlying59 h rfl
 have c1 : Try.prog.cellsOf 3 = 1 := by kernel_rfl
 try dsimp only at h1
 rw [c1] at h1
 obtain ⟨a1, r1, k1⟩ := el_3 _ _ _ h1 (by simp [hl])
 obtain ⟨y2, m2, h2⟩ := yc 2 Try.underlying59 h rfl
 have c2 : Try.prog.cellsOf 3 = 1 := by kernel_rfl
 try dsimp only at h2
 rw [c2] at h2
 obtain ⟨a2, r2, k2⟩ := el_3 _ _ _ h2 (by simp [hl])
 obtain ⟨u0, u1, u2, rfl⟩ : ∃ u0 u1 u2, cs = [u0, u1, u2] := by match cs, hl with | [u0, u1, u2], _ => exact ⟨_, _, _, rfl⟩
 simp [e3] at r0
 simp [e3] at r1
 simp [e3] at r2
 exact ⟨⟨a0, a1, a2⟩, by simp [e59, *], ⟨k0, k1, k2⟩⟩
theorem el_55 {H : Type} {enc : TypeId × Value → H} {W : World} {spare : Nat → Bool} {held : Bool} (n : Nat) (cs : List Value) (y : DataW H × List MemPlace) (h : DataW.trod enc Try.prog W 0 spare held n 55 cs = some y) (hl : cs.length = 1) : ∃ a : List Sapi_Hop, (p55 (ZW W) cs a) ∧ (a.length ≤ 9223372036854775807 ∧ ∀ x ∈ a, kd59 x) := by
 obtain ⟨ao, cap, l, rfl, hz, hL⟩ := y1T (Pr := fun r x => (r = e59 x) ∧ (kd59 x)) (sz := 3) Try.underlying55 (by kernel_rfl) (by decide) el_59 h
 unfold maxLen at hL
 exact ⟨l, ⟨ao, cap, rfl, hz.weak (fun _ _ h => h.1)⟩, ⟨by omega, hz.all (q := fun x => kd59 x) (fun _ _ h => h.2)⟩⟩
theorem el_53 {H : Type} {enc : TypeId × Value → H} {W : World} {spare : Nat → Bool} {held : Bool} (n : Nat) (cs : List Value) (y : DataW H × List MemPlace) (h : DataW.trod enc Try.prog W 0 spare held n 53 cs = some y) (hl : cs.length = 3) : ∃ a : zSt, (cs = e53 a) ∧ (kd53 a) := by
 obtain ⟨y0, m0, h0⟩ := yc 0 Try.underlying53 h rfl
 have c0 : Try.prog.cellsOf 3 = 1 := by kernel_rfl
 try dsimp only at h0
 rw [c0] at h0
 obtain ⟨a0, r0, k0⟩ := el_3 _ _ _ h0 (by simp [hl])
 obtain ⟨y1, m1, h1⟩ := yc 1 Try.underlying53 h rfl
 have c1 : Try.prog.cellsOf 3 = 1 := by kernel_rfl
 try dsimp only at h1
 rw [c1] at h1
 obtain ⟨a1, r1, k1⟩ := el_3 _ _ _ h1 (by simp [hl])
 obtain ⟨y2, m2, h2⟩ := yc 2 Try.underlying53 h rfl
 have c2 : Try.prog.cellsOf 3 = 1 := by kernel_rfl
 try dsimp only at h2
 rw [c2] at h2
 obtain ⟨a2, r2, k2⟩ := el_3 _ _ _ h2 (by simp [hl])
 obtain ⟨u0, u1, u2, rfl⟩ : ∃ u0 u1 u2, cs = [u0, u1, u2] := by match cs, hl with | [u0, u1, u2], _ => exact ⟨_, _, _, rfl⟩
 simp [e3] at r0
 simp [e3] at r1
 simp [e3] at r2
 exact ⟨⟨a0, a1, a2⟩, by simp [e53, *], ⟨k0, k1, k2⟩⟩
theorem own : ownKnob Try.prog.godebug = none := by kernel_rfl
theorem laid : laidOutB Try.prog = true := by kernel_rfl
set_option maxRecDepth 100000 in
theorem lifted (os : Os) (started : os.Started) (H : Type) (enc : TypeId × Value → H) :
  ReturnsInHanded {} Try.checked os 9 .any (Rows.networkWrongSpec.pre6 enc Try.prog Try.f9 Rows.networkWrongRow.domain false) (Rows.networkWrongSpec.post enc Try.prog Try.f9 false true false false) := by
 refine returnsInHanded_of_change (C := Try.checked) own started (by kernel_rfl) Try.func9
  (ChangeSpec.witness6 (enc := enc) (C := Try.checked) false ⟨#[], #[(.agg #[.slice none 0 0, .slice none 0 0, .slice none 0 0, .slice none 0 0, .slice none 0 0, .slice none 0 0, .slice none 0 0, .slice none 0 0]), .int .i64 0, .slice none 0 0, .slice none 0 0, .int .u8 0, .int .u8 0], []⟩ 8 (by kernel_rfl) (by kernel_rfl) (by kernel_rfl) (by kernel_rfl)) ?_
 intro W base args ds gs before hval0 hW hcnd _
 have hval : ∀ (j : Nat) t v, Try.f9.params[j]? = some t → args[j]? = some v → Value.okWide Try.prog W .any base t v := hval0
 have hW' := hW
 obtain ⟨p, q, hA0, hV, rfl, hfz, hnd⟩ := hW
 have hA : DataW.TrodAll enc Try.prog W 0 (fun _ => true) true Try.f9.params.toList args.toList ds p := hA0
 rw [Try.params9] at hA hval
 obtain ⟨v0, vs0, d0, ds0, p0, q0, hargs, rfl, rfl, h0, r0⟩ := trodAll_cons hA
 obtain ⟨v1, vs1, d1, ds1, p1, q1, rfl, rfl, rfl, h1, r1⟩ := trodAll_cons r0
 obtain ⟨v2, vs2, d2, ds2, p2, q2, rfl, rfl, rfl, h2, r2⟩ := trodAll_cons r1
 obtain ⟨v3, vs3, d3, ds3, p3, q3, rfl, rfl, rfl, h3, r3⟩ := trodAll_cons r2
 obtain ⟨v4, vs4, d4, ds4, p4, q4, rfl, rfl, rfl, h4, r4⟩ := trodAll_cons r3
 obtain ⟨v5, vs5, d5, ds5, p5, q5, rfl, rfl, rfl, h5, r5⟩ := trodAll_cons r4
 obtain ⟨rfl, rfl, rfl⟩ := trodAll_nil r5
 obtain rfl : args = #[v0, v1, v2, v3, v4, v5] := by cases args; simp_all
 obtain ⟨rfl, rfl⟩ := trodVars_none hV
 obtain ⟨fuel0, hf0⟩ := h0
 obtain ⟨cs0, rfl, hl0, hg0⟩ := agg_of (hval 0 31 v0 rfl rfl) hf0 Try.underlying31 (show Try.prog.cellsOf 31 = 8 by kernel_rfl)
 obtain ⟨x0, hr0, bd0⟩ := el_31 _ _ _ hg0 hl0
 obtain ⟨ao0x0, cp0x0, ao0x1, cp0x1, ao0x2, cp0x2, ao0x3, cp0x3, ao0x4, cp0x4, ao0x5, cp0x5, ao0x6, cp0x6, ao0x7, cp0x7, rfl, z0x0, z0x1, z0x2, z0x3, z0x4, z0x5, z0x6, z0x7⟩ := hr0
 obtain ⟨x1, rfl, hd1, hp1, wf1⟩ := open_int Try.underlying3 (hval 1 3 v1 rfl rfl) h1
 have bd1 := Go.bounds_i64 wf1
 obtain ⟨ao2, m2, cap2, x2, rfl, hs2, hL2⟩ := y7V (Pr := fun r x => (p55 (ZW W) r x) ∧ (x.length ≤ 9223372036854775807 ∧ ∀ y ∈ x, kd59 y)) (sz := 1) Try.underlying32 (by kernel_rfl) (by decide) el_55 (hval 2 32 v2 rfl rfl) h2
 unfold maxLen at hL2
 obtain ⟨rfl, hz2⟩ := y65 hs2
 have bd2 := hz2.all (q := fun x => x.length ≤ 9223372036854775807 ∧ ∀ y ∈ x, kd59 y) (fun _ _ h => h.2)
 replace hz2 := hz2.weak (Pr' := (p55 (ZW W))) (fun _ _ h => h.1)
 obtain ⟨ao3, m3, cap3, x3, rfl, hs3, hL3⟩ := y7V (Pr := fun r x => (r = e53 x) ∧ (kd53 x)) (sz := 3) Try.underlying33 (by kernel_rfl) (by decide) el_53 (hval 3 33 v3 rfl rfl) h3
 unfold maxLen at hL3
 obtain ⟨rfl, hz3⟩ := y65 hs3
 have bd3 := hz3.all (q := fun x => kd53 x) (fun _ _ h => h.2)
 replace hz3 := hz3.weak (Pr' := (fun r x => r = e53 x)) (fun _ _ h => h.1)
 obtain ⟨x4, rfl, hd4, hp4, wf4⟩ := open_int Try.underlying5 (hval 4 5 v4 rfl rfl) h4
 have bd4 := Go.bounds_u8 wf4
 obtain ⟨x5, rfl, hd5, hp5, wf5⟩ := open_int Try.underlying5 (hval 5 5 v5 rfl rfl) h5
 have bd5 := Go.bounds_u8 wf5
 have htrue := y6C (c := x0) (net := x1) (rs := x2) (sent := x3) (way := x4) (at_ := x5) (by omega) bd4 bd5
 refine (y5R (Z := ZW W) (z1D := ao0x0) (z1E := cp0x0) (z1F := ao0x1) (z1G := cp0x1) (z1H := ao0x2) (z1I := cp0x2) (z1J := ao0x3) (z1K := cp0x3) (z1L := ao0x4) (z1M := cp0x4) (z1N := ao0x5) (z1O := cp0x5) (z1P := ao0x6) (z1Q := cp0x6) (z1R := ao0x7) (z1S := cp0x7) (zeR := ao2) (zeS := cap2) (zeT := ao3) (zeU := cap3) (z5 := x0) (z1d := x1) (z1 := x2) (zB := x3) (zK := x4) (z4 := x5) (r := true) htrue W (ZW_pz W) z0x0 z0x1 z0x2 z0x3 z0x4 z0x5 z0x6 z0x7 hz2 hz3).mono fun e W' ⟨Zn, he, _, hh⟩ => ?_
 subst he
 exact ⟨_, rfl, y8l laid (by kernel_rfl) rfl rfl Try.underlying4 hW' (fun _ => ⟨rfl, rfl, rfl⟩) hh.below⟩
theorem over : Rows.networkWrongRow.holds Try.pinned (OpenSpec.ofChange Rows.networkWrongSpec) :=
 OpenClaim.holds_of_wide 9 Try.f9 rfl rfl rfl rfl rfl rfl rfl ⟨rfl, rfl, rfl, rfl, rfl⟩ rfl rfl rfl rfl rfl (by kernel_rfl) Try.func9 (by kernel_rfl)
  (of_decide_eq_true (by kernel_rfl)) (by unfold Func.isWrapper; first | (rw [if_pos (by decide +kernel)]; kernel_rfl) | (rw [if_neg (by decide +kernel)]; exact ⟨rfl, rfl⟩))
  (fun os started H enc _ => lifted os started H enc)
theorem proved : Rows.NetworkWrongSaid := over
#print axioms proved
end Go.Proofs.Ytinchjigeakocaa.networkWrong

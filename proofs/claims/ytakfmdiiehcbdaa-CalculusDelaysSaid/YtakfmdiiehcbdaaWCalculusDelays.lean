/- A part of this claim's proof: models of functions, walks, plain laws. No conditions. -/
import Derived.Test.YtakfmdiiehcbdaaW03g
namespace Go.Proofs.Ytakfmdiiehcbdaa
open Go Go.RowKit Sep
set_option linter.all false
set_option maxRecDepth 30000
set_option maxHeartbeats 4000000
def yR (z3l : List zSt) (z3c : Int) (z4u : List zSt) (z3d : Int) (zb6 : (List zSt) → (List zSt) → (List (List z6)) → Option Bool) : Nat → (List (List z6)) → (List S27) → Int → Option Bool
 | 0,_,_,_=>none
 | znF + 1,z30,zU,z1O=>if decide (z1O < ((([(⟨z3l,i64 (150 + (Int.tmod (i64 z3c) 501))⟩ : S27),(⟨z4u,i64 (150 + (Int.tmod (i64 z3d) 501))⟩ : S27)] : List S27).length : Nat) : Int)) then chk ((0 : Int) ≤ z1O ∧ z1O < ((zU.length : Nat) : Int)) ((y2Q 72 ((nth zU z1O).fGap)).bind fun z2z=>(yG 72 1).bind fun ziW=>(y2b ziW z2z.1).bind fun z2g=>(y13 ([z2g] : List z6) ((nth zU z1O).fF)).bind fun zb7=>if ((decide (z2z.2 ≠ 0)) || (decide (zb7.2 ≠ 0))) || (!zb7.1) then some false else chk ((((z30 ++ ([([z2g] : List z6)] : List (List z6))).length : Nat) : Int) * 24 ≤ 140737488355328 ∧ (((z30 ++ ([([z2g] : List z6)] : List (List z6))).length : Nat) : Int) ≤ 4611686018427387904) (yR z3l z3c z4u z3d zb6 znF (z30 ++ ([([z2g] : List z6)] : List (List z6))) zU (i64 (z1O + 1)))) else zb6 z3l z4u z30
theorem y56 {n : Nat} {z3l : List zSt} {z3c : Int} {z4u : List zSt} {z3d : Int} {zb6 : (List zSt) → (List zSt) → (List (List z6)) → Option Bool} {z30 : List (List z6)} {zU : List S27} {z1O : Int} {r : Bool} (h : yR z3l z3c z4u z3d zb6 n z30 zU z1O = some r) : ∃ m,n = m + 1:=by
 cases n with
 | zero=>cases h
 | succ m=>exact ⟨m,rfl⟩
def y1p (z1P : Int) (zw : List Int × Int) (zp : List zSt) (zb8 : Int → Option Bool) : Nat → Int → Int → Option Bool
 | 0,_,_=>none
 | znG + 1,z7B,z5w=>if decide (z5w < (i64 (z1P + 1))) then jp1 (fun (zb9 : Int)=>y1p z1P zw zp zb8 znG zb9 (i64 (z5w + 1))) fun ziX=>chk ((0 : Int) ≤ z5w ∧ z5w < ((zw.1.length : Nat) : Int)) (if decide ((nth zw.1 z5w) > ((nth zp z1P).fTime)) then chk ((0 : Int) ≤ z5w ∧ z5w < ((zp.length : Nat) : Int)) (ziX (i64 (z7B + ((nth zp z5w).fSize)))) else ziX z7B) else zb8 z7B
theorem y57 {n : Nat} {z1P : Int} {zw : List Int × Int} {zp : List zSt} {zb8 : Int → Option Bool} {z7B : Int} {z5w : Int} {r : Bool} (h : y1p z1P zw zp zb8 n z7B z5w = some r) : ∃ m,n = m + 1:=by
 cases n with
 | zero=>cases h
 | succ m=>exact ⟨m,rfl⟩
def y1q (zp : List zSt) (zw : List Int × Int) (zT : z7 × Int) (zZ : z7 × Int) (zba : Option Bool) : Nat → Int → Option Bool
 | 0,_=>none
 | znH + 1,z1P=>if decide (z1P < ((zp.length : Nat) : Int)) then jp0 (y1q zp zw zT zZ zba znH (i64 (z1P + 1))) fun znI=>chk ((0 : Int) ≤ z1P ∧ z1P < ((zp.length : Nat) : Int)) (chk ((0 : Int) ≤ z1P ∧ z1P < ((zw.1.length : Nat) : Int)) ((yG (i64 ((nth zw.1 z1P) - ((nth zp z1P).fTime))) 1).bind fun ziY=>(yV ziY zT.1).bind fun znJ=>if decide (znJ > 0) then some false else jp1 (fun (z9P : Int)=>(yG 72 1).bind fun zeW=>(y1l zZ.1 zeW).bind fun z3q=>(if decide (z3q.2 ≠ 0) then some true else (yG z9P 1).bind fun ziZ=>(yV ziZ z3q.1).bind fun znK=>some (decide (znK > 0))).bind fun znL=>if znL then some false else znI) fun zb8=>y1p z1P zw zp zb8 yu 0 0)) else zba
theorem y58 {n : Nat} {zp : List zSt} {zw : List Int × Int} {zT : z7 × Int} {zZ : z7 × Int} {zba : Option Bool} {z1P : Int} {r : Bool} (h : y1q zp zw zT zZ zba n z1P = some r) : ∃ m,n = m + 1:=by
 cases n with
 | zero=>cases h
 | succ m=>exact ⟨m,rfl⟩
def y2T (zbb : List Int) (zbc : List Int) (zbd : List Int) (zbe : List Int) (z3c : Int) (z3d : Int) (z6Z : Int) (z7Y : Int) : Option Bool :=
 (y2U zbb zbd 0 (i64 (150 + (Int.tmod (i64 z3c) 501)))).bind fun z3l=>(y2U zbc zbe 1 (i64 (150 + (Int.tmod (i64 z3d) 501)))).bind fun z4u=>jp3 (fun (z9Q : List zSt) (z9R : List zSt) (z3m : List (List z6))=>(yG 1 (i64 (1 + (Int.tmod (i64 z6Z) 2)))).bind fun z1g=>(yG (i64 z7Y) 1).bind fun z1h=>(y3V z9Q z9R).bind fun zp=>(y2L zp (i64 (1 + (Int.tmod (i64 z6Z) 2))) (i64 z7Y)).bind fun zw=>(y2o z3m (⟨z1g,z1h⟩ : zSv)).bind fun zT=>(y2s z3m (⟨z1g,z1h⟩ : zSv)).bind fun zZ=>if decide (zT.2 = 6) then (if (decide (zZ.2 = 6)) && (decide ((i64 ((i64 (72 * (i64 (1 + (Int.tmod (i64 z6Z) 2))))) * (i64 ((i64 (150 + (Int.tmod (i64 z3c) 501))) + (i64 (150 + (Int.tmod (i64 z3d) 501))))))) > (i64 ((i64 (150 + (Int.tmod (i64 z3c) 501))) * (i64 (150 + (Int.tmod (i64 z3d) 501))))))) then (y3U).bind fun znM=>some znM else some false).bind fun znN=>some znN else if (((decide (zw.2 ≠ 0)) || (decide (zT.2 ≠ 0))) || (decide (zZ.2 ≠ 0))) || (decide (((zw.1.length : Nat) : Int) ≠ ((zp.length : Nat) : Int))) then some false else jp0 ((y3U).bind fun znO=>some znO) fun zba=>y1q zp zw zT zZ zba yu 0) fun zb6=>yR z3l z3c z4u z3d zb6 yu ([] : List (List z6)) ([(⟨z3l,i64 (150 + (Int.tmod (i64 z3c) 501))⟩ : S27),(⟨z4u,i64 (150 + (Int.tmod (i64 z3d) 501))⟩ : S27)] : List S27) 0
set_option maxRecDepth 20000 in
theorem y6x (Z : Zp)  (zeX : Option Addr) (zeY : Nat) (zeZ : Option Addr) (zf0 : Nat) (zf1 : Option Addr) (zf2 : Nat) (zf3 : Option Addr) (zf4 : Nat) (zbb : List Int) (zbc : List Int) (zbd : List Int) (zbe : List Int) (z3c : Int) (z3d : Int) (z6Z : Int) (z7Y : Int) (r : Bool) (w₀ : World) (hz : PZ [] w₀ Z)
  (zzy : ZS Z 1 (fun r x=>r = e5 x) zeX zeY zbb)
  (zzz : ZS Z 1 (fun r x=>r = e5 x) zeZ zf0 zbc)
  (zzA : ZS Z 1 (fun r x=>r = e5 x) zf1 zf2 zbd)
  (zzB : ZS Z 1 (fun r x=>r = e5 x) zf3 zf4 zbe)
  (h : y2T zbb zbc zbd zbe z3c z3d z6Z z7Y = some r) :
  Calls Try.prog 3 #[(.slice zeX zbb.length zeY),(.slice zeZ zbc.length zf0),(.slice zf1 zbd.length zf2),(.slice zf3 zbe.length zf4),(.int .u16 z3c),(.int .u16 z3d),(.int .u8 z6Z),(.int .u8 z7Y)] w₀ fun e w'=>∃ Zn : Zp,e = .returned (.bool r) ∧ True ∧ Hp [] w₀ w' [fz Zn]:=by
 unfold y2T at h
 refine Calls.yd (vs:=[(.slice zeX zbb.length zeY),(.slice zeZ zbc.length zf0),(.slice zf1 zbd.length zf2),(.slice zf3 zbe.length zf4),(.int .u16 z3c),(.int .u16 z3d),(.int .u8 z6Z),(.int .u8 z7Y)]) (pre:=[]) (env:=[(0,(.slice zeX zbb.length zeY)),(1,(.slice zeZ zbc.length zf0)),(2,(.slice zf1 zbd.length zf2)),(3,(.slice zf3 zbe.length zf4)),(4,(.int .u16 z3c)),(5,(.int .u16 z3d)),(6,(.int .u8 z6Z)),(7,(.int .u8 z7Y))]) Try.func3 rfl Try.ntmps3 rfl (Hp.nil w₀ _) rfl ?_
 refine WC.pool ?_
 refine WC.b ?_
 refine WC.a ?_
 refine WL.a (d:=16) rfl rfl rfl (q_z rfl) ?_
 refine WL.nil ?_
 refine WX.a ?_
 refine WC.b ?_
 refine WC.a ?_
 refine WL.a (d:=44) rfl rfl rfl (q_m rfl) ?_
 refine WL.a (d:=45) rfl rfl rfl (y3v Try.underlying23 Try.underlying3 rfl rfl) ?_
 refine WL.a (d:=46) rfl rfl rfl (y7t rfl rfl (by decide) rfl) ?_
 refine WL.a (d:=47) rfl rfl rfl (yW rfl rfl rfl) ?_
 refine WL.a (d:=48) rfl rfl rfl (q_m rfl) ?_
 refine WL.a (d:=49) rfl rfl rfl (y3v Try.underlying23 Try.underlying3 rfl rfl) ?_
 refine WL.a (d:=50) rfl rfl rfl (y7t rfl rfl (by decide) rfl) ?_
 refine WL.a (d:=51) rfl rfl rfl (yW rfl rfl rfl) ?_
 refine WL.a (d:=52) rfl rfl rfl (q_m rfl) ?_
 refine WL.a (d:=53) rfl rfl rfl (y3v Try.underlying5 Try.underlying3 rfl rfl) ?_
 refine WL.a (d:=54) rfl rfl rfl (y7t rfl rfl (by decide) rfl) ?_
 refine WL.a (d:=55) rfl rfl rfl (yW rfl rfl rfl) ?_
 refine WL.a (d:=17) rfl rfl rfl (q_z rfl) ?_
 refine WL.a (d:=18) rfl rfl rfl (q_z rfl) ?_
 refine WL.a (d:=19) rfl rfl rfl (q_z rfl) ?_
 refine WL.nil ?_
 refine WX.a ?_
 refine WC.b ?_
 obtain ⟨z3l,zzC,h⟩:=ze h
 obtain ⟨z4u,zzD,h⟩:=ze h
 refine WC.a ?_
 refine WL.a (d:=56) rfl rfl rfl (q_m rfl) ?_
 refine WL.a (d:=57) rfl rfl rfl (q_m rfl) ?_
 refine WL.a (d:=58) rfl rfl rfl (q_m rfl) ?_
 refine WL.y48 (dd:=59) rfl rfl rfl (zj (l:=[.tmp 56,.tmp 57,.const (.int .i64 0),.tmp 58]) Try.call8 (.cons rfl (.cons rfl (.cons rfl (.cons rfl .nil))))) (.nil : Sel [fz []] [] [fz []]) (fun w hw=>by have pz:=(hz.call2 hw (.nil : Sel [fz []] [] [fz []]) .here); exact y7j (Z:=_) (ao_12:=zeX) (cap_13:=zeY) (ao_16:=zf1) (cap_17:=zf2) (sizes_11:=zbb) (waits_15:=zbd) (vl_19:=0) (gap_20:=(i64 (150 + (Int.tmod (i64 z3c) 501)))) (r:=z3l) w pz (zzy.mono (Zle.left _ _)) (zzA.mono (Zle.left _ _)) zzC) ?_
 rintro z8i z8j _
 refine WL.a (d:=60) rfl rfl rfl (q_m rfl) ?_
 refine WL.a (d:=61) rfl rfl rfl (q_m rfl) ?_
 refine WL.a (d:=62) rfl rfl rfl (q_m rfl) ?_
 refine WL.y48 (dd:=63) rfl rfl rfl (zj (l:=[.tmp 60,.tmp 61,.const (.int .i64 1),.tmp 62]) Try.call8 (.cons rfl (.cons rfl (.cons rfl (.cons rfl .nil))))) (.nil : Sel [row (.slice z8i z3l.length z8j) 51 3 (z3l.flatMap e51),fz []] [] [row (.slice z8i z3l.length z8j) 51 3 (z3l.flatMap e51),fz []]) (fun w hw=>by have pz:=(hz.call2 hw (.nil : Sel [row (.slice z8i z3l.length z8j) 51 3 (z3l.flatMap e51),fz []] [] [row (.slice z8i z3l.length z8j) 51 3 (z3l.flatMap e51),fz []]) .h1); exact y7j (Z:=_) (ao_12:=zeZ) (cap_13:=zf0) (ao_16:=zf3) (cap_17:=zf4) (sizes_11:=zbc) (waits_15:=zbe) (vl_19:=1) (gap_20:=(i64 (150 + (Int.tmod (i64 z3d) 501)))) (r:=z4u) w pz (zzz.mono (Zle.left _ _)) (zzB.mono (Zle.left _ _)) zzD) ?_
 rintro zbf zbg _
 refine WL.a (d:=20) rfl rfl rfl (q_z rfl) ?_
 refine WL.a (d:=21) rfl rfl rfl (q_z rfl) ?_
 refine WL.nil ?_
 refine WX.a ?_
 refine WC.b ?_
 refine WC.a ?_
 refine WL.a (d:=22) rfl rfl rfl (q_z rfl) ?_
 refine WL.nil ?_
 refine WX.a ?_
 obtain ⟨zb6,zzE,h⟩:=y6U h
 refine WC.y9q (fun (z9Q : List zSt) (z9R : List zSt) (z3m : List (List z6)) (z43 : Zp) (zf5 : Option Addr) (zf6 : Nat) (zf7 : Option Addr) (zf8 : Nat) (z4j : Option Addr) (z4k : Nat) (z4K : List Value)=>(zb6 z9Q z9R z3m = some r) ∧ (Zle (Z ++ []) (Z ++ z43)) ∧ (ZS (Z ++ z43) 3 (fun r x=>r = e51 x) zf5 zf6 z9Q) ∧ (ZS (Z ++ z43) 3 (fun r x=>r = e51 x) zf7 zf8 z9R) ∧ (RR 1 (p39 (Z ++ z43)) z4K z3m)) (fun (z9Q : List zSt) (z9R : List zSt) (z3m : List (List z6)) (z43 : Zp) (zf5 : Option Addr) (zf6 : Nat) (zf7 : Option Addr) (zf8 : Nat) (z4j : Option Addr) (z4k : Nat) (z4K : List Value)=>[(7,(.int .u8 z7Y)),(17,(.int .i64 (i64 (150 + (Int.tmod (i64 z3c) 501))))),(18,(.int .i64 (i64 (150 + (Int.tmod (i64 z3d) 501))))),(19,(.int .i64 (i64 (1 + (Int.tmod (i64 z6Z) 2))))),(20,(.slice zf5 z9Q.length zf6)),(21,(.slice zf7 z9R.length zf8)),(22,(.slice z4j z3m.length z4k))]) (fun (z9Q : List zSt) (z9R : List zSt) (z3m : List (List z6)) (z43 : Zp) (zf5 : Option Addr) (zf6 : Nat) (zf7 : Option Addr) (zf8 : Nat) (z4j : Option Addr) (z4k : Nat) (z4K : List Value)=>[fz z43,row (.slice z4j z3m.length z4k) 39 1 z4K]) ?_ ?_
 ·skip
  refine WC.b ?_
  refine WC.a ?_
  refine WL.a (d:=64) rfl rfl rfl (q_m rfl) ?_
  refine WL.a (d:=65) rfl rfl rfl (q_m rfl) ?_
  refine WL.a (d:=66) rfl rfl rfl (y1g (v:=(.agg #[(.slice z8i z3l.length z8j),(.int .i64 (i64 (150 + (Int.tmod (i64 z3c) 501))))])) (Eos.parts (l:=[.tmp 64,.tmp 65]) (.cons rfl (.cons rfl .nil)) [0,1]) (fun _=>by kernel_rfl)) ?_
  refine WL.a (d:=67) rfl rfl rfl (q_m rfl) ?_
  refine WL.a (d:=68) rfl rfl rfl (q_m rfl) ?_
  refine WL.a (d:=69) rfl rfl rfl (y1g (v:=(.agg #[(.slice zbf z4u.length zbg),(.int .i64 (i64 (150 + (Int.tmod (i64 z3d) 501))))])) (Eos.parts (l:=[.tmp 67,.tmp 68]) (.cons rfl (.cons rfl .nil)) [0,1]) (fun _=>by kernel_rfl)) ?_
  refine WL.freezeS (ls:=z3l) .h1 .h1 hz (RR.flat (enc:=e51) (fun _=>rfl) _) ?_
  intro zCV zzF zrB
  refine WL.freezeS (ls:=z4u) .h1 .here hz (RR.flat (enc:=e51) (fun _=>rfl) _) ?_
  intro znP znQ zrC
  have zzG : RR 2 (p27 (Z ++ znP)) [(.slice z8i z3l.length z8j),(.int .i64 (i64 (150 + (Int.tmod (i64 z3c) 501)))),(.slice zbf z4u.length zbg),(.int .i64 (i64 (150 + (Int.tmod (i64 z3d) 501))))] ([(⟨z3l,i64 (150 + (Int.tmod (i64 z3c) 501))⟩ : S27),(⟨z4u,i64 (150 + (Int.tmod (i64 z3d) 501))⟩ : S27)] : List S27):=(RR.cons (r:=[(.slice z8i z3l.length z8j),(.int .i64 (i64 (150 + (Int.tmod (i64 z3c) 501))))]) rfl (show p27 _ _ _ from ⟨_,_,rfl,(zrB.mono znQ)⟩) (RR.cons (r:=[(.slice zbf z4u.length zbg),(.int .i64 (i64 (150 + (Int.tmod (i64 z3d) 501))))]) rfl (show p27 _ _ _ from ⟨_,_,rfl,zrC⟩) (RR.nil _ _)))
  refine WL.new (dd:=70) rfl rfl rfl (yB (cs:=[(.slice z8i z3l.length z8j),(.int .i64 (i64 (150 + (Int.tmod (i64 z3c) 501)))),(.slice zbf z4u.length zbg),(.int .i64 (i64 (150 + (Int.tmod (i64 z3d) 501))))]) elT_28 (Eos.parts (l:=[.tmp 66,.tmp 69]) (.cons rfl (.cons rfl .nil)) [0,1]) (fun _=>by kernel_rfl) rfl (by unfold maxLen; omega)) ?_
  intro z5x _
  refine WL.a (d:=71) rfl rfl rfl (y10 Try.underlying28 rfl) ?_
  refine WL.a (d:=72) rfl rfl rfl (q_m rfl) ?_
  refine WL.nil ?_
  refine WX.a ?_
  refine WC.block ?_
  refine WC.nilRow 39 1 ?_
  refine WC.loop9 (fun (zf9 : Nat) (z30 : List (List z6)) (zU : List S27) (z1O : Int) (z44 : Zp) (z4l : Option Addr) (z4m : Nat) (z4n : List Value) (z4L : List Value)=>(yR z3l z3c z4u z3d zb6 zf9 z30 zU z1O = some r) ∧ (Zle (Z ++ znP) (Z ++ z44)) ∧ (RR 1 (p39 (Z ++ z44)) z4n z30) ∧ (RR 2 (p27 (Z ++ z44)) z4L zU)) (fun (zf9 : Nat) (z30 : List (List z6)) (zU : List S27) (z1O : Int) (z44 : Zp) (z4l : Option Addr) (z4m : Nat) (z4n : List Value) (z4L : List Value)=>[(7,(.int .u8 z7Y)),(17,(.int .i64 (i64 (150 + (Int.tmod (i64 z3c) 501))))),(18,(.int .i64 (i64 (150 + (Int.tmod (i64 z3d) 501))))),(19,(.int .i64 (i64 (1 + (Int.tmod (i64 z6Z) 2))))),(20,(.slice z8i z3l.length z8j)),(21,(.slice zbf z4u.length zbg)),(22,(.slice z4l z30.length z4m)),(70,(.slice (some ⟨z5x,0,none⟩) zU.length 2)),(71,(.int .i64 ((([(⟨z3l,i64 (150 + (Int.tmod (i64 z3c) 501))⟩ : S27),(⟨z4u,i64 (150 + (Int.tmod (i64 z3d) 501))⟩ : S27)] : List S27).length : Nat) : Int))),(72,(.int .i64 z1O))]) (fun (zf9 : Nat) (z30 : List (List z6)) (zU : List S27) (z1O : Int) (z44 : Zp) (z4l : Option Addr) (z4m : Nat) (z4n : List Value) (z4L : List Value)=>[fz z44,row (.slice z4l z30.length z4m) 39 1 z4n,row (.slice (some ⟨z5x,0,none⟩) zU.length 2) 27 2 z4L]) (fun (zf9 : Nat) (z30 : List (List z6)) (zU : List S27) (z1O : Int) (z44 : Zp) (z4l : Option Addr) (z4m : Nat) (z4n : List Value) (z4L : List Value)=>zf9) ⟨yu,([] : List (List z6)),([(⟨z3l,i64 (150 + (Int.tmod (i64 z3c) 501))⟩ : S27),(⟨z4u,i64 (150 + (Int.tmod (i64 z3d) 501))⟩ : S27)] : List S27),0,znP,none,0,[],[(.slice z8i z3l.length z8j),(.int .i64 (i64 (150 + (Int.tmod (i64 z3c) 501)))),(.slice zbf z4u.length zbg),(.int .i64 (i64 (150 + (Int.tmod (i64 z3d) 501))))]⟩ ⟨h,(Zle.refl _),(RR.nil _ _),zzG⟩ (.cons rfl (.cons rfl (.cons rfl (.cons rfl (.cons rfl (.cons rfl (.cons rfl (.cons rfl (.cons rfl (.cons rfl .nil)))))))))) (.cons .h2 (.cons .here (.cons .here .nil))) ?_
  rintro zf9 z30 zU z1O z44 z4l z4m z4n z4L ⟨h,zj0,zrD,zrE⟩
  obtain ⟨znF,rfl⟩:=y56 h
  rw [yR] at h
  refine WC.b ?_
  refine WC.a ?_
  refine WL.a (d:=73) rfl rfl rfl (y1c rfl rfl) ?_
  refine WL.nil ?_
  refine WX.a ?_
  refine WC.b ?_
  refine WC.cond rfl (fun znR=>?_) (fun znR=>?_)
  ·replace h:=yh h znR
   refine WC.skip ?_
   refine WX.a ?_
   refine WC.b ?_
   refine WC.block ?_
   refine WC.b ?_
   obtain ⟨zj1,h⟩:=yl h
   refine WC.a ?_
   obtain ⟨zCW,zCX,zCY,zzH,⟨z5y,z5z,rfl,zzI⟩⟩:=RR.elem zrE zj1.1 zj1.2
   refine WL.a (d:=74) rfl rfl rfl (y14 elT_28 rfl rfl zj1.1 zj1.2 y39) ?_
   refine WL.a (d:=75) rfl rfl rfl (y4 (cs:=[(.slice z5y (((nth zU z1O).fF).length) z5z),(.int .i64 ((nth zU z1O).fGap))]) aggT_27 rfl rfl (y36 .h2 (drop_rd zzH))) ?_
   refine WL.new (dd:=24) rfl rfl rfl (ym (cs:=[(.slice none 0 0),(.int .i64 0)]) zeroT_27 rfl) ?_
   intro z6I _
   refine WL.yb rfl rfl (yc (vs:=[(.slice z5y (((nth zU z1O).fF).length) z5z),(.int .i64 ((nth zU z1O).fGap))]) (ds:=[(.slice z5y (((nth zU z1O).fF).length) z5z),(.int .i64 ((nth zU z1O).fGap))]) sizT_27 rfl rfl rfl rfl (y2 rfl (y2 rfl yk)) .here (Nat.le_of_ble_eq_true rfl) rfl) ?_
   refine WL.nil ?_
   refine WX.a ?_
   refine WC.b ?_
   obtain ⟨z2z,zzJ,h⟩:=ze h
   refine WC.a ?_
   refine WL.a (d:=77) rfl rfl rfl (y3 fo_27_1 rfl rfl) ?_
   refine WL.a (d:=78) rfl rfl rfl (ya yw rfl (yv .here rfl)) ?_
   refine WL.b (dd:=79) rfl rfl rfl (zj (l:=[.const (.int .i64 72),.tmp 78]) Try.call9 (.cons rfl (.cons rfl .nil))) (.nil : Sel [stb z6I 27 [(.slice z5y (((nth zU z1O).fF).length) z5z),(.int .i64 ((nth zU z1O).fGap))],fz z44,row (.slice z4l z30.length z4m) 39 1 z4n,row (.slice (some ⟨z5x,0,none⟩) zU.length 2) 27 2 z4L] [] [stb z6I 27 [(.slice z5y (((nth zU z1O).fF).length) z5z),(.int .i64 ((nth zU z1O).fGap))],fz z44,row (.slice z4l z30.length z4m) 39 1 z4n,row (.slice (some ⟨z5x,0,none⟩) zU.length 2) 27 2 z4L]) (fun w hw=>by have pz:=(hz.call2 hw (.nil : Sel [stb z6I 27 [(.slice z5y (((nth zU z1O).fF).length) z5z),(.int .i64 ((nth zU z1O).fGap))],fz z44,row (.slice z4l z30.length z4m) 39 1 z4n,row (.slice (some ⟨z5x,0,none⟩) zU.length 2) 27 2 z4L] [] [stb z6I 27 [(.slice z5y (((nth zU z1O).fF).length) z5z),(.int .i64 ((nth zU z1O).fGap))],fz z44,row (.slice z4l z30.length z4m) 39 1 z4n,row (.slice (some ⟨z5x,0,none⟩) zU.length 2) 27 2 z4L]) .h1); exact y51 (Z:=_)  (z7F:=72) (z7m:=((nth zU z1O).fGap)) (r:=z2z) w pz  zzJ) ?_
   refine WL.a (d:=76) rfl rfl rfl (q_m rfl) ?_
   refine WL.a (d:=80) rfl rfl rfl (yf rfl rfl) ?_
   refine WL.a (d:=81) rfl rfl rfl (yf rfl rfl) ?_
   refine WL.new (dd:=25) rfl rfl rfl (ym (cs:=[(.int .i64 0),(.int .i64 0)]) yt rfl) ?_
   intro z7Z _
   refine WL.yb rfl rfl (yc (vs:=[(.int .i64 z2z.1.fN),(.int .i64 z2z.1.fD)]) (ds:=[(.int .i64 z2z.1.fN),(.int .i64 z2z.1.fD)]) yo rfl rfl rfl rfl (y2 rfl (y2 rfl yk)) .here (Nat.le_of_ble_eq_true rfl) rfl) ?_
   refine WL.a (d:=26) rfl rfl rfl (q_z rfl) ?_
   refine WL.nil ?_
   refine WX.a ?_
   refine WC.b ?_
   obtain ⟨ziW,zzK,h⟩:=ze h
   obtain ⟨z2g,zzL,h⟩:=ze h
   refine WC.yY (fun i=>[].contains i) [] rfl ?_
   refine WD.c (i:=0) (d:=82) (by kernel_rfl) rfl (z8 (by kernel_rfl)) (za (by kernel_rfl)) rfl rfl rfl (zj (l:=[.const (.int .i64 72),.const (.int .i64 1)]) Try.call11 (.cons rfl (.cons rfl .nil))) (fun w hw=>by have pz:=(hz.call2 hw (.nil : Sel [stb z7Z 30 [(.int .i64 z2z.1.fN),(.int .i64 z2z.1.fD)],stb z6I 27 [(.slice z5y (((nth zU z1O).fF).length) z5z),(.int .i64 ((nth zU z1O).fGap))],fz z44,row (.slice z4l z30.length z4m) 39 1 z4n,row (.slice (some ⟨z5x,0,none⟩) zU.length 2) 27 2 z4L] [] [stb z7Z 30 [(.int .i64 z2z.1.fN),(.int .i64 z2z.1.fD)],stb z6I 27 [(.slice z5y (((nth zU z1O).fF).length) z5z),(.int .i64 ((nth zU z1O).fGap))],fz z44,row (.slice z4l z30.length z4m) 39 1 z4n,row (.slice (some ⟨z5x,0,none⟩) zU.length 2) 27 2 z4L]) .h2); exact y15 (Z:=_)  (z3E:=72) (z3F:=1) (r:=ziW) w pz  zzK) ?_
   refine WD.e (i:=1) (d:=83) (by kernel_rfl) rfl (z8 (by kernel_rfl)) (za (by kernel_rfl)) rfl rfl rfl (y4 (cs:=[(.int .i64 z2z.1.fN),(.int .i64 z2z.1.fD)]) y5 rfl rfl (y8 .here)) ?_
   refine WD.c (i:=2) (d:=84) (by kernel_rfl) rfl (z8 (by kernel_rfl)) (za (by kernel_rfl)) rfl rfl rfl (zj (l:=[.tmp 82,.tmp 83]) Try.call10 (.cons rfl (.cons rfl .nil))) (fun w hw=>by have pz:=(hz.call2 hw (.nil : Sel [stb z7Z 30 [(.int .i64 z2z.1.fN),(.int .i64 z2z.1.fD)],stb z6I 27 [(.slice z5y (((nth zU z1O).fF).length) z5z),(.int .i64 ((nth zU z1O).fGap))],fz z44,row (.slice z4l z30.length z4m) 39 1 z4n,row (.slice (some ⟨z5x,0,none⟩) zU.length 2) 27 2 z4L] [] [stb z7Z 30 [(.int .i64 z2z.1.fN),(.int .i64 z2z.1.fD)],stb z6I 27 [(.slice z5y (((nth zU z1O).fF).length) z5z),(.int .i64 ((nth zU z1O).fGap))],fz z44,row (.slice z4l z30.length z4m) 39 1 z4n,row (.slice (some ⟨z5x,0,none⟩) zU.length 2) 27 2 z4L]) .h2); exact y37 (Z:=_)  (z4w:=ziW) (z4x:=z2z.1) (r:=z2g) w pz  zzL) ?_
   refine WD.new (i:=3) (dd:=85) rfl (by kernel_rfl) rfl rfl rfl (yB (cs:=([z2g] : List z6).flatMap e35) y2w (Eos.parts (l:=[.tmp 84]) (.cons rfl .nil) [0]) (fun _=>by kernel_rfl) rfl (by unfold maxLen; omega)) (fun h'=>absurd h' (by decide)) ?_
   intro z5e _
   refine WD.a (i:=4) (d:=27) (by kernel_rfl) rfl (z8 (by kernel_rfl)) (za (by kernel_rfl)) rfl rfl rfl (fun _=>q_z rfl) ?_
   refine WD.done (by kernel_rfl) ?_
   refine WX.a ?_
   refine WC.b ?_
   obtain ⟨zb7,zzM,h⟩:=ze h
   refine WC.a ?_
   refine WL.a (d:=87) rfl rfl rfl (q_m rfl) ?_
   refine WL.a (d:=88) rfl rfl rfl (y3 fo_27_0 rfl rfl) ?_
   refine WL.a (d:=89) rfl rfl rfl (ya oneT_24 rfl (yv .h2 rfl)) ?_
   refine WL.b (dd:=90) rfl rfl rfl (zj (l:=[.tmp 87,.tmp 89]) Try.call12 (.cons rfl (.cons rfl .nil))) (.nil : Sel [row (.slice (some ⟨z5e,0,none⟩) (([z2g] : List z6).length) 1) 35 4 (([z2g] : List z6).flatMap e35),stb z7Z 30 [(.int .i64 z2z.1.fN),(.int .i64 z2z.1.fD)],stb z6I 27 [(.slice z5y (((nth zU z1O).fF).length) z5z),(.int .i64 ((nth zU z1O).fGap))],fz z44,row (.slice z4l z30.length z4m) 39 1 z4n,row (.slice (some ⟨z5x,0,none⟩) zU.length 2) 27 2 z4L] [] [row (.slice (some ⟨z5e,0,none⟩) (([z2g] : List z6).length) 1) 35 4 (([z2g] : List z6).flatMap e35),stb z7Z 30 [(.int .i64 z2z.1.fN),(.int .i64 z2z.1.fD)],stb z6I 27 [(.slice z5y (((nth zU z1O).fF).length) z5z),(.int .i64 ((nth zU z1O).fGap))],fz z44,row (.slice z4l z30.length z4m) 39 1 z4n,row (.slice (some ⟨z5x,0,none⟩) zU.length 2) 27 2 z4L]) (fun w hw=>by have pz:=(hz.call2 hw (.nil : Sel [row (.slice (some ⟨z5e,0,none⟩) (([z2g] : List z6).length) 1) 35 4 (([z2g] : List z6).flatMap e35),stb z7Z 30 [(.int .i64 z2z.1.fN),(.int .i64 z2z.1.fD)],stb z6I 27 [(.slice z5y (((nth zU z1O).fF).length) z5z),(.int .i64 ((nth zU z1O).fGap))],fz z44,row (.slice z4l z30.length z4m) 39 1 z4n,row (.slice (some ⟨z5x,0,none⟩) zU.length 2) 27 2 z4L] [] [row (.slice (some ⟨z5e,0,none⟩) (([z2g] : List z6).length) 1) 35 4 (([z2g] : List z6).flatMap e35),stb z7Z 30 [(.int .i64 z2z.1.fN),(.int .i64 z2z.1.fD)],stb z6I 27 [(.slice z5y (((nth zU z1O).fF).length) z5z),(.int .i64 ((nth zU z1O).fGap))],fz z44,row (.slice z4l z30.length z4m) 39 1 z4n,row (.slice (some ⟨z5x,0,none⟩) zU.length 2) 27 2 z4L]) .h3).lend hw (.nil : Sel [row (.slice (some ⟨z5e,0,none⟩) (([z2g] : List z6).length) 1) 35 4 (([z2g] : List z6).flatMap e35),stb z7Z 30 [(.int .i64 z2z.1.fN),(.int .i64 z2z.1.fD)],stb z6I 27 [(.slice z5y (((nth zU z1O).fF).length) z5z),(.int .i64 ((nth zU z1O).fGap))],fz z44,row (.slice z4l z30.length z4m) 39 1 z4n,row (.slice (some ⟨z5x,0,none⟩) zU.length 2) 27 2 z4L] [] [row (.slice (some ⟨z5e,0,none⟩) (([z2g] : List z6).length) 1) 35 4 (([z2g] : List z6).flatMap e35),stb z7Z 30 [(.int .i64 z2z.1.fN),(.int .i64 z2z.1.fD)],stb z6I 27 [(.slice z5y (((nth zU z1O).fF).length) z5z),(.int .i64 ((nth zU z1O).fGap))],fz z44,row (.slice z4l z30.length z4m) 39 1 z4n,row (.slice (some ⟨z5x,0,none⟩) zU.length 2) 27 2 z4L]) (B:=[row (.slice (some ⟨z5e,0,none⟩) (([z2g] : List z6).length) 1) 35 4 (([z2g] : List z6).flatMap e35)]) (fun _ hx'=>((.cons .here .nil) : Sel _ [row (.slice (some ⟨z5e,0,none⟩) (([z2g] : List z6).length) 1) 35 4 (([z2g] : List z6).flatMap e35)] _).mem hx'); exact y43 (Z:=_) (z7x:=(some ⟨z5e,0,none⟩)) (z7y:=1) (z7V:=z5y) (z7W:=z5z) (z3B:=([z2g] : List z6)) (zO:=((nth zU z1O).fF)) (r:=zb7) w pz (ZA.row (hw.lent (.nil : Sel [row (.slice (some ⟨z5e,0,none⟩) (([z2g] : List z6).length) 1) 35 4 (([z2g] : List z6).flatMap e35),stb z7Z 30 [(.int .i64 z2z.1.fN),(.int .i64 z2z.1.fD)],stb z6I 27 [(.slice z5y (((nth zU z1O).fF).length) z5z),(.int .i64 ((nth zU z1O).fGap))],fz z44,row (.slice z4l z30.length z4m) 39 1 z4n,row (.slice (some ⟨z5x,0,none⟩) zU.length 2) 27 2 z4L] [] [row (.slice (some ⟨z5e,0,none⟩) (([z2g] : List z6).length) 1) 35 4 (([z2g] : List z6).flatMap e35),stb z7Z 30 [(.int .i64 z2z.1.fN),(.int .i64 z2z.1.fD)],stb z6I 27 [(.slice z5y (((nth zU z1O).fF).length) z5z),(.int .i64 ((nth zU z1O).fGap))],fz z44,row (.slice z4l z30.length z4m) 39 1 z4n,row (.slice (some ⟨z5x,0,none⟩) zU.length 2) 27 2 z4L]) (B:=[row (.slice (some ⟨z5e,0,none⟩) (([z2g] : List z6).length) 1) 35 4 (([z2g] : List z6).flatMap e35)]) (fun _ hx'=>((.cons .here .nil) : Sel _ [row (.slice (some ⟨z5e,0,none⟩) (([z2g] : List z6).length) 1) 35 4 (([z2g] : List z6).flatMap e35)] _).mem hx') (.head _) _) (RR.flat (enc:=e35) (fun _=>rfl) _) ⟨w,pz.1⟩) (zzI.mono (Zle.left _ _)) zzM) ?_
   refine WL.a (d:=86) rfl rfl rfl (q_m rfl) ?_
   refine WL.a (d:=91) rfl rfl rfl (yf rfl rfl) ?_
   refine WL.a (d:=92) rfl rfl rfl (yf rfl rfl) ?_
   refine WL.a (d:=28) rfl rfl rfl (q_z rfl) ?_
   refine WL.a (d:=29) rfl rfl rfl (q_z rfl) ?_
   refine WL.nil ?_
   refine WX.a ?_
   refine WC.b ?_
   refine WC.b ?_
   refine WC.a ?_
   refine WL.a (d:=93) rfl rfl rfl (q_m rfl) ?_
   refine WL.a (d:=94) rfl rfl rfl (y2G rfl rfl) ?_
   refine WL.a (d:=95) rfl rfl rfl (q_m rfl) ?_
   refine WL.yN True [(7,(.int .u8 z7Y)),(17,(.int .i64 (i64 (150 + (Int.tmod (i64 z3c) 501))))),(18,(.int .i64 (i64 (150 + (Int.tmod (i64 z3d) 501))))),(19,(.int .i64 (i64 (1 + (Int.tmod (i64 z6Z) 2))))),(20,(.slice z8i z3l.length z8j)),(21,(.slice zbf z4u.length zbg)),(22,(.slice z4l z30.length z4m)),(70,(.slice (some ⟨z5x,0,none⟩) zU.length 2)),(71,(.int .i64 ((([(⟨z3l,i64 (150 + (Int.tmod (i64 z3c) 501))⟩ : S27),(⟨z4u,i64 (150 + (Int.tmod (i64 z3d) 501))⟩ : S27)] : List S27).length : Nat) : Int))),(72,(.int .i64 z1O)),(27,(.slice (some ⟨z5e,0,none⟩) (([z2g] : List z6).length) 1)),(28,(.bool zb7.1)),(98,(.bool ((decide (z2z.2 ≠ 0)) || (decide (zb7.2 ≠ 0)))))] [row (.slice (some ⟨z5e,0,none⟩) (([z2g] : List z6).length) 1) 35 4 (([z2g] : List z6).flatMap e35),stb z7Z 30 [(.int .i64 z2z.1.fN),(.int .i64 z2z.1.fD)],stb z6I 27 [(.slice z5y (((nth zU z1O).fF).length) z5z),(.int .i64 ((nth zU z1O).fGap))],fz z44,row (.slice z4l z30.length z4m) 39 1 z4n,row (.slice (some ⟨z5x,0,none⟩) zU.length 2) 27 2 z4L] 3 ?_ (fun _=>?_)
   ·rcases Bool.eq_false_or_eq_true (decide (z2z.2 ≠ 0)) with hb' | hb'
    ·have zrF:=hb'; clear hb'
     refine WL.pin (i:=95) rfl zrF ?_
     refine WL.e rfl rfl rfl ?_
     refine WL.e rfl rfl rfl ?_
     refine WL.a (d:=98) rfl rfl rfl (ys rfl rfl) ?_
     exact WL.y9 () trivial (.cons rfl (.cons rfl (.cons rfl (.cons rfl (.cons rfl (.cons rfl (.cons rfl (.cons rfl (.cons rfl (.cons rfl (.cons rfl (.cons rfl (.cons (zr (y4s zrF)) .nil))))))))))))) (.cons .here (.cons .here (.cons .here (.cons .here (.cons .here (.cons .here .nil))))))
    ·have zrG:=hb'; clear hb'
     refine WL.pin (i:=95) rfl zrG ?_
     refine WL.a (d:=96) rfl rfl rfl (q_m rfl) ?_
     refine WL.a (d:=97) rfl rfl rfl (y2G rfl rfl) ?_
     refine WL.a (d:=98) rfl rfl rfl (yr rfl rfl) ?_
     exact WL.y9 () trivial (.cons rfl (.cons rfl (.cons rfl (.cons rfl (.cons rfl (.cons rfl (.cons rfl (.cons rfl (.cons rfl (.cons rfl (.cons rfl (.cons rfl (.cons (zr (y4t zrG)) .nil))))))))))))) (.cons .here (.cons .here (.cons .here (.cons .here (.cons .here (.cons .here .nil))))))
   ·skip
    refine WL.a (d:=99) rfl rfl rfl (q_m rfl) ?_
    refine WL.yN True [(7,(.int .u8 z7Y)),(17,(.int .i64 (i64 (150 + (Int.tmod (i64 z3c) 501))))),(18,(.int .i64 (i64 (150 + (Int.tmod (i64 z3d) 501))))),(19,(.int .i64 (i64 (1 + (Int.tmod (i64 z6Z) 2))))),(20,(.slice z8i z3l.length z8j)),(21,(.slice zbf z4u.length zbg)),(22,(.slice z4l z30.length z4m)),(70,(.slice (some ⟨z5x,0,none⟩) zU.length 2)),(71,(.int .i64 ((([(⟨z3l,i64 (150 + (Int.tmod (i64 z3c) 501))⟩ : S27),(⟨z4u,i64 (150 + (Int.tmod (i64 z3d) 501))⟩ : S27)] : List S27).length : Nat) : Int))),(72,(.int .i64 z1O)),(27,(.slice (some ⟨z5e,0,none⟩) (([z2g] : List z6).length) 1)),(102,(.bool (((decide (z2z.2 ≠ 0)) || (decide (zb7.2 ≠ 0))) || (!zb7.1))))] [row (.slice (some ⟨z5e,0,none⟩) (([z2g] : List z6).length) 1) 35 4 (([z2g] : List z6).flatMap e35),stb z7Z 30 [(.int .i64 z2z.1.fN),(.int .i64 z2z.1.fD)],stb z6I 27 [(.slice z5y (((nth zU z1O).fF).length) z5z),(.int .i64 ((nth zU z1O).fGap))],fz z44,row (.slice z4l z30.length z4m) 39 1 z4n,row (.slice (some ⟨z5x,0,none⟩) zU.length 2) 27 2 z4L] 3 ?_ (fun _=>?_)
    ·rcases Bool.eq_false_or_eq_true ((decide (z2z.2 ≠ 0)) || (decide (zb7.2 ≠ 0))) with hb' | hb'
     ·have zrH:=hb'; clear hb'
      refine WL.pin (i:=99) rfl zrH ?_
      refine WL.e rfl rfl rfl ?_
      refine WL.e rfl rfl rfl ?_
      refine WL.a (d:=102) rfl rfl rfl (ys rfl rfl) ?_
      exact WL.y9 () trivial (.cons rfl (.cons rfl (.cons rfl (.cons rfl (.cons rfl (.cons rfl (.cons rfl (.cons rfl (.cons rfl (.cons rfl (.cons rfl (.cons (zr (y4s zrH)) .nil)))))))))))) (.cons .here (.cons .here (.cons .here (.cons .here (.cons .here (.cons .here .nil))))))
     ·have zrI:=hb'; clear hb'
      refine WL.pin (i:=99) rfl zrI ?_
      refine WL.a (d:=100) rfl rfl rfl (q_m rfl) ?_
      refine WL.a (d:=101) rfl rfl rfl (y1m rfl) ?_
      refine WL.a (d:=102) rfl rfl rfl (yr rfl rfl) ?_
      exact WL.y9 () trivial (.cons rfl (.cons rfl (.cons rfl (.cons rfl (.cons rfl (.cons rfl (.cons rfl (.cons rfl (.cons rfl (.cons rfl (.cons rfl (.cons (zr (y4t zrI)) .nil)))))))))))) (.cons .here (.cons .here (.cons .here (.cons .here (.cons .here (.cons .here .nil))))))
    ·skip
     refine WL.nil ?_
     refine WX.a ?_
     refine WC.cond rfl (fun znS=>?_) (fun znS=>?_)
     ·replace h:=yh h znS
      refine WC.b ?_
      refine WC.a ?_
      refine WL.a (d:=16) rfl rfl rfl (q_z rfl) ?_
      refine WL.nil ?_
      refine WX.a ?_
      refine WC.ret ?_
      refine WX.y6 ?_
      refine WX.yq ?_
      refine WX.y6 ?_
      refine WX.y6 ?_
      refine WX.yq ?_
      refine WX.y6 ?_
      obtain rfl:=Option.some.inj h
      refine WX.y7 Try.results3 (.tmp rfl .nil) (fun w hw=>?_)
      exact ⟨z44,yD rfl,trivial,hw.sub (.cons .h3 .nil)⟩
     ·replace h:=yi h znS
      refine WC.skip ?_
      refine WX.a ?_
      obtain ⟨zzN,h⟩:=yl h
      refine WC.a ?_
      refine WL.a (d:=103) rfl rfl rfl (q_m rfl) ?_
      refine WL.a (d:=104) rfl rfl rfl (q_m rfl) ?_
      refine WL.freezeS (ls:=([z2g] : List z6)) .here .h2 hz (RR.flat (enc:=e35) (fun _=>rfl) _) ?_
      intro zj2 znT zzO
      have zrJ : RR 1 (p39 (Z ++ zj2)) [(.slice (some ⟨z5e,0,none⟩) (([z2g] : List z6).length) 1)] ([([z2g] : List z6)] : List (List z6)):=(RR.cons (r:=[(.slice (some ⟨z5e,0,none⟩) (([z2g] : List z6).length) 1)]) rfl (show p39 _ _ _ from ⟨_,_,rfl,zzO⟩) (RR.nil _ _))
      refine WL.new (dd:=105) rfl rfl rfl (yB (cs:=[(.slice (some ⟨z5e,0,none⟩) (([z2g] : List z6).length) 1)]) y3Q (Eos.parts (l:=[.tmp 104]) (.cons rfl .nil) [0]) (fun _=>by kernel_rfl) rfl (by unfold maxLen; omega)) ?_
      intro zCZ _
      have zzP : RR 1 (p39 (Z ++ zj2)) (z4n ++ [(.slice (some ⟨z5e,0,none⟩) (([z2g] : List z6).length) 1)]) (z30 ++ ([([z2g] : List z6)] : List (List z6))):=RR.app (zrD.weak (fun _ _ h=>yL znT h)) zrJ
      refine WL.eff (d:=106) rfl rfl rfl (yaf (l1:=z30) (l2:=([([z2g] : List z6)] : List (List z6))) (news:=[(.slice (some ⟨z5e,0,none⟩) (([z2g] : List z6).length) 1)]) (Pr:=(p39 (Z ++ zj2))) y3Q rfl rfl .h4 zrJ (y4a .here) (y2 rfl yk) zzN) ?_
      rintro ⟨zzQ,zzR⟩ _
      refine WL.a (d:=22) rfl rfl rfl (q_z rfl) ?_
      refine WL.nil ?_
      refine WX.yg ?_
      refine WX.a ?_
      refine WC.a ?_
      refine WL.a (d:=107) rfl rfl rfl (yW rfl rfl rfl) ?_
      refine WL.a (d:=72) rfl rfl rfl (q_m rfl) ?_
      refine WL.nil ?_
      exact WX.round (G:=Nat × List (List z6) × List S27 × Int × Zp × Option Addr × Nat × List Value × List Value) ⟨znF,(z30 ++ ([([z2g] : List z6)] : List (List z6))),zU,(i64 (z1O + 1)),zj2,zzQ,zzR,(z4n ++ [(.slice (some ⟨z5e,0,none⟩) (([z2g] : List z6).length) 1)]),z4L⟩ ⟨h,(zj0.trans znT),zzP,(zrE.weak (fun _ _ h=>p27_mono znT h))⟩ (Nat.lt_succ_self _) (.cons rfl (.cons rfl (.cons rfl (.cons rfl (.cons rfl (.cons rfl (.cons rfl (.cons rfl (.cons rfl (.cons rfl .nil)))))))))) (.cons .h2 (.cons .here (.cons .h3 .nil)))
  ·replace h:=yi h znR
   refine WC.exit ?_
   refine WX.ye ?_
   refine WX.ye ?_
   refine WX.yx ?_
   exact WX.mid (G:=List zSt × List zSt × List (List z6) × Zp × Option Addr × Nat × Option Addr × Nat × Option Addr × Nat × List Value) ⟨z3l,z4u,z30,z44,z8i,z8j,zbf,zbg,z4l,z4m,z4n⟩ ⟨h,(zzF.trans (znQ.trans zj0)),(zrB.mono (znQ.trans zj0)),(zrC.mono zj0),zrD⟩ (.cons rfl (.cons rfl (.cons rfl (.cons rfl (.cons rfl (.cons rfl (.cons rfl .nil))))))) (.cons .here (.cons .here .nil))
 ·rintro z9Q z9R z3m z43 zf5 zf6 zf7 zf8 z4j z4k z4K ⟨h,zD0,zzS,zzT,zzU⟩
  replace h:=(zzE z9Q z9R z3m).symm.trans h
  refine WC.b ?_
  obtain ⟨z1g,zzV,h⟩:=ze h
  obtain ⟨z1h,zzW,h⟩:=ze h
  refine WC.a ?_
  refine WL.a (d:=108) rfl rfl rfl (q_m rfl) ?_
  refine WL.b (dd:=109) rfl rfl rfl (zj (l:=[.const (.int .i64 1),.tmp 108]) Try.call11 (.cons rfl (.cons rfl .nil))) (.nil : Sel [fz z43,row (.slice z4j z3m.length z4k) 39 1 z4K] [] [fz z43,row (.slice z4j z3m.length z4k) 39 1 z4K]) (fun w hw=>by have pz:=(hz.call2 hw (.nil : Sel [fz z43,row (.slice z4j z3m.length z4k) 39 1 z4K] [] [fz z43,row (.slice z4j z3m.length z4k) 39 1 z4K]) .here); exact y15 (Z:=_)  (z3E:=1) (z3F:=(i64 (1 + (Int.tmod (i64 z6Z) 2)))) (r:=z1g) w pz  zzV) ?_
  refine WL.a (d:=110) rfl rfl rfl (q_m rfl) ?_
  refine WL.a (d:=111) rfl rfl rfl (y3v Try.underlying5 Try.underlying3 rfl rfl) ?_
  refine WL.b (dd:=112) rfl rfl rfl (zj (l:=[.tmp 111,.const (.int .i64 1)]) Try.call11 (.cons rfl (.cons rfl .nil))) (.nil : Sel [fz z43,row (.slice z4j z3m.length z4k) 39 1 z4K] [] [fz z43,row (.slice z4j z3m.length z4k) 39 1 z4K]) (fun w hw=>by have pz:=(hz.call2 hw (.nil : Sel [fz z43,row (.slice z4j z3m.length z4k) 39 1 z4K] [] [fz z43,row (.slice z4j z3m.length z4k) 39 1 z4K]) .here); exact y15 (Z:=_)  (z3E:=(i64 z7Y)) (z3F:=1) (r:=z1h) w pz  zzW) ?_
  refine WL.a (d:=113) rfl rfl rfl (y1g (v:=(.agg #[(.int .i64 z1g.fN),(.int .i64 z1g.fD),(.int .i64 z1h.fN),(.int .i64 z1h.fD)])) (Eos.parts (l:=[.tmp 109,.tmp 112]) (.cons rfl (.cons rfl .nil)) [0,1]) (fun _=>by kernel_rfl)) ?_
  refine WL.new (dd:=30) rfl rfl rfl (ym (cs:=[(.int .i64 0),(.int .i64 0),(.int .i64 0),(.int .i64 0)]) y91 rfl) ?_
  intro z3P _
  refine WL.yb rfl rfl (yc (vs:=[(.int .i64 z1g.fN),(.int .i64 z1g.fD),(.int .i64 z1h.fN),(.int .i64 z1h.fD)]) (ds:=[(.int .i64 z1g.fN),(.int .i64 z1g.fD),(.int .i64 z1h.fN),(.int .i64 z1h.fD)]) y9G rfl rfl rfl rfl (y2 rfl (y2 rfl (y2 rfl (y2 rfl yk)))) .here (Nat.le_of_ble_eq_true rfl) rfl) ?_
  refine WL.nil ?_
  refine WX.a ?_
  refine WC.b ?_
  obtain ⟨zp,zzX,h⟩:=ze h
  refine WC.a ?_
  refine WL.a (d:=114) rfl rfl rfl (q_m rfl) ?_
  refine WL.a (d:=115) rfl rfl rfl (q_m rfl) ?_
  refine WL.y48 (dd:=116) rfl rfl rfl (zj (l:=[.tmp 114,.tmp 115]) Try.call13 (.cons rfl (.cons rfl .nil))) (.nil : Sel [stb z3P 43 [(.int .i64 z1g.fN),(.int .i64 z1g.fD),(.int .i64 z1h.fN),(.int .i64 z1h.fD)],fz z43,row (.slice z4j z3m.length z4k) 39 1 z4K] [] [stb z3P 43 [(.int .i64 z1g.fN),(.int .i64 z1g.fD),(.int .i64 z1h.fN),(.int .i64 z1h.fD)],fz z43,row (.slice z4j z3m.length z4k) 39 1 z4K]) (fun w hw=>by have pz:=(hz.call2 hw (.nil : Sel [stb z3P 43 [(.int .i64 z1g.fN),(.int .i64 z1g.fD),(.int .i64 z1h.fN),(.int .i64 z1h.fD)],fz z43,row (.slice z4j z3m.length z4k) 39 1 z4K] [] [stb z3P 43 [(.int .i64 z1g.fN),(.int .i64 z1g.fD),(.int .i64 z1h.fN),(.int .i64 z1h.fD)],fz z43,row (.slice z4j z3m.length z4k) 39 1 z4K]) .h1); exact y8L (Z:=_) (zeP:=zf5) (zeQ:=zf6) (zeR:=zf7) (zeS:=zf8) (zb2:=z9Q) (zb3:=z9R) (r:=zp) w pz zzS zzT zzX) ?_
  rintro z3n z3o _
  refine WL.a (d:=31) rfl rfl rfl (q_z rfl) ?_
  refine WL.nil ?_
  refine WX.a ?_
  refine WC.b ?_
  obtain ⟨zw,zzY,h⟩:=ze h
  refine WC.a ?_
  refine WL.a (d:=118) rfl rfl rfl (q_m rfl) ?_
  refine WL.a (d:=119) rfl rfl rfl (q_m rfl) ?_
  refine WL.a (d:=120) rfl rfl rfl (q_m rfl) ?_
  refine WL.a (d:=121) rfl rfl rfl (y3v Try.underlying5 Try.underlying3 rfl rfl) ?_
  refine WL.y48 (dd:=122) rfl rfl rfl (zj (l:=[.tmp 118,.tmp 119,.tmp 121]) Try.call14 (.cons rfl (.cons rfl (.cons rfl .nil)))) (.nil : Sel [row (.slice z3n zp.length z3o) 51 3 (zp.flatMap e51),stb z3P 43 [(.int .i64 z1g.fN),(.int .i64 z1g.fD),(.int .i64 z1h.fN),(.int .i64 z1h.fD)],fz z43,row (.slice z4j z3m.length z4k) 39 1 z4K] [] [row (.slice z3n zp.length z3o) 51 3 (zp.flatMap e51),stb z3P 43 [(.int .i64 z1g.fN),(.int .i64 z1g.fD),(.int .i64 z1h.fN),(.int .i64 z1h.fD)],fz z43,row (.slice z4j z3m.length z4k) 39 1 z4K]) (fun w hw=>by have pz:=(hz.call2 hw (.nil : Sel [row (.slice z3n zp.length z3o) 51 3 (zp.flatMap e51),stb z3P 43 [(.int .i64 z1g.fN),(.int .i64 z1g.fD),(.int .i64 z1h.fN),(.int .i64 z1h.fD)],fz z43,row (.slice z4j z3m.length z4k) 39 1 z4K] [] [row (.slice z3n zp.length z3o) 51 3 (zp.flatMap e51),stb z3P 43 [(.int .i64 z1g.fN),(.int .i64 z1g.fD),(.int .i64 z1h.fN),(.int .i64 z1h.fD)],fz z43,row (.slice z4j z3m.length z4k) 39 1 z4K]) .h2).lend hw (.nil : Sel [row (.slice z3n zp.length z3o) 51 3 (zp.flatMap e51),stb z3P 43 [(.int .i64 z1g.fN),(.int .i64 z1g.fD),(.int .i64 z1h.fN),(.int .i64 z1h.fD)],fz z43,row (.slice z4j z3m.length z4k) 39 1 z4K] [] [row (.slice z3n zp.length z3o) 51 3 (zp.flatMap e51),stb z3P 43 [(.int .i64 z1g.fN),(.int .i64 z1g.fD),(.int .i64 z1h.fN),(.int .i64 z1h.fD)],fz z43,row (.slice z4j z3m.length z4k) 39 1 z4K]) (B:=[row (.slice z3n zp.length z3o) 51 3 (zp.flatMap e51)]) (fun _ hx'=>((.cons .here .nil) : Sel _ [row (.slice z3n zp.length z3o) 51 3 (zp.flatMap e51)] _).mem hx'); exact y64 (Z:=_) (z8k:=z3n) (z8l:=z3o) (z2e:=zp) (z2N:=(i64 (1 + (Int.tmod (i64 z6Z) 2)))) (z3r:=(i64 z7Y)) (r:=zw) w pz (ZA.row (hw.lent (.nil : Sel [row (.slice z3n zp.length z3o) 51 3 (zp.flatMap e51),stb z3P 43 [(.int .i64 z1g.fN),(.int .i64 z1g.fD),(.int .i64 z1h.fN),(.int .i64 z1h.fD)],fz z43,row (.slice z4j z3m.length z4k) 39 1 z4K] [] [row (.slice z3n zp.length z3o) 51 3 (zp.flatMap e51),stb z3P 43 [(.int .i64 z1g.fN),(.int .i64 z1g.fD),(.int .i64 z1h.fN),(.int .i64 z1h.fD)],fz z43,row (.slice z4j z3m.length z4k) 39 1 z4K]) (B:=[row (.slice z3n zp.length z3o) 51 3 (zp.flatMap e51)]) (fun _ hx'=>((.cons .here .nil) : Sel _ [row (.slice z3n zp.length z3o) 51 3 (zp.flatMap e51)] _).mem hx') (.head _) _) (RR.flat (enc:=e51) (fun _=>rfl) _) ⟨w,pz.1⟩) zzY) ?_
  rintro z5J z5K _
  refine WL.a (d:=117) rfl rfl rfl (q_m rfl) ?_
  refine WL.a (d:=123) rfl rfl rfl (yf rfl rfl) ?_
  refine WL.a (d:=124) rfl rfl rfl (yf rfl rfl) ?_
  refine WL.a (d:=32) rfl rfl rfl (q_z rfl) ?_
  refine WL.a (d:=33) rfl rfl rfl (q_z rfl) ?_
  refine WL.nil ?_
  refine WX.a ?_
  refine WC.b ?_
  obtain ⟨zT,zzZ,h⟩:=ze h
  refine WC.a ?_
  refine WL.a (d:=126) rfl rfl rfl (q_m rfl) ?_
  refine WL.a (d:=127) rfl rfl rfl (y4 (cs:=[(.int .i64 z1g.fN),(.int .i64 z1g.fD),(.int .i64 z1h.fN),(.int .i64 z1h.fD)]) y4k rfl rfl (y8 .h2)) ?_
  refine WL.freezeS (ls:=z3m) .h4 .h3 hz zzU ?_
  intro z2n zA0 zj3
  replace zj3:=zj3.weak (fun _ _ h=>yL zA0 h)
  refine WL.y2D (dd:=128) rfl rfl rfl (zj (l:=[.tmp 126,.tmp 127]) Try.call15 (.cons rfl (.cons rfl .nil))) (.nil : Sel [fz z2n,row (.slice z5J zw.1.length z5K) 3 1 (zw.1.flatMap e3),row (.slice z3n zp.length z3o) 51 3 (zp.flatMap e51),stb z3P 43 [(.int .i64 z1g.fN),(.int .i64 z1g.fD),(.int .i64 z1h.fN),(.int .i64 z1h.fD)]] [] [fz z2n,row (.slice z5J zw.1.length z5K) 3 1 (zw.1.flatMap e3),row (.slice z3n zp.length z3o) 51 3 (zp.flatMap e51),stb z3P 43 [(.int .i64 z1g.fN),(.int .i64 z1g.fD),(.int .i64 z1h.fN),(.int .i64 z1h.fD)]]) (fun w hw=>by have pz:=(hz.call2 hw (.nil : Sel [fz z2n,row (.slice z5J zw.1.length z5K) 3 1 (zw.1.flatMap e3),row (.slice z3n zp.length z3o) 51 3 (zp.flatMap e51),stb z3P 43 [(.int .i64 z1g.fN),(.int .i64 z1g.fD),(.int .i64 z1h.fN),(.int .i64 z1h.fD)]] [] [fz z2n,row (.slice z5J zw.1.length z5K) 3 1 (zw.1.flatMap e3),row (.slice z3n zp.length z3o) 51 3 (zp.flatMap e51),stb z3P 43 [(.int .i64 z1g.fN),(.int .i64 z1g.fD),(.int .i64 z1h.fN),(.int .i64 z1h.fD)]]) .here); exact y3N (Z:=_) (z5P:=z4j) (z5Q:=z4k) (z4W:=z3m) (z1B:=(⟨z1g,z1h⟩ : zSv)) (r:=zT) w pz zj3 zzZ) ?_
  rintro z2M _
  refine WL.merge .here .here ?_
  refine WL.a (d:=125) rfl rfl rfl (q_m rfl) ?_
  refine WL.a (d:=129) rfl rfl rfl (yf rfl rfl) ?_
  refine WL.a (d:=130) rfl rfl rfl (yf rfl rfl) ?_
  refine WL.new (dd:=34) rfl rfl rfl (ym (cs:=[(.int .i64 0),(.int .i64 0)]) yt rfl) ?_
  intro z31 _
  refine WL.yb rfl rfl (yc (vs:=[(.int .i64 zT.1.fN),(.int .i64 zT.1.fD)]) (ds:=[(.int .i64 zT.1.fN),(.int .i64 zT.1.fD)]) yo rfl rfl rfl rfl (y2 rfl (y2 rfl yk)) .here (Nat.le_of_ble_eq_true rfl) rfl) ?_
  refine WL.a (d:=35) rfl rfl rfl (q_z rfl) ?_
  refine WL.nil ?_
  refine WX.a ?_
  refine WC.b ?_
  obtain ⟨zZ,zA1,h⟩:=ze h
  refine WC.a ?_
  refine WL.a (d:=132) rfl rfl rfl (q_m rfl) ?_
  refine WL.a (d:=133) rfl rfl rfl (y4 (cs:=[(.int .i64 z1g.fN),(.int .i64 z1g.fD),(.int .i64 z1h.fN),(.int .i64 z1h.fD)]) y4k rfl rfl (y8 .h4)) ?_
  refine WL.y2D (dd:=134) rfl rfl rfl (zj (l:=[.tmp 132,.tmp 133]) Try.call16 (.cons rfl (.cons rfl .nil))) (.nil : Sel [stb z31 30 [(.int .i64 zT.1.fN),(.int .i64 zT.1.fD)],fz (z2n ++ z2M),row (.slice z5J zw.1.length z5K) 3 1 (zw.1.flatMap e3),row (.slice z3n zp.length z3o) 51 3 (zp.flatMap e51),stb z3P 43 [(.int .i64 z1g.fN),(.int .i64 z1g.fD),(.int .i64 z1h.fN),(.int .i64 z1h.fD)]] [] [stb z31 30 [(.int .i64 zT.1.fN),(.int .i64 zT.1.fD)],fz (z2n ++ z2M),row (.slice z5J zw.1.length z5K) 3 1 (zw.1.flatMap e3),row (.slice z3n zp.length z3o) 51 3 (zp.flatMap e51),stb z3P 43 [(.int .i64 z1g.fN),(.int .i64 z1g.fD),(.int .i64 z1h.fN),(.int .i64 z1h.fD)]]) (fun w hw=>by have pz:=(hz.call2 hw (.nil : Sel [stb z31 30 [(.int .i64 zT.1.fN),(.int .i64 zT.1.fD)],fz (z2n ++ z2M),row (.slice z5J zw.1.length z5K) 3 1 (zw.1.flatMap e3),row (.slice z3n zp.length z3o) 51 3 (zp.flatMap e51),stb z3P 43 [(.int .i64 z1g.fN),(.int .i64 z1g.fD),(.int .i64 z1h.fN),(.int .i64 z1h.fD)]] [] [stb z31 30 [(.int .i64 zT.1.fN),(.int .i64 zT.1.fD)],fz (z2n ++ z2M),row (.slice z5J zw.1.length z5K) 3 1 (zw.1.flatMap e3),row (.slice z3n zp.length z3o) 51 3 (zp.flatMap e51),stb z3P 43 [(.int .i64 z1g.fN),(.int .i64 z1g.fD),(.int .i64 z1h.fN),(.int .i64 z1h.fD)]]) .h1); exact y5p (Z:=_) (z6F:=z4j) (z6G:=z4k) (z5u:=z3m) (zY:=(⟨z1g,z1h⟩ : zSv)) (r:=zZ) w pz ((zj3.mono ((Zle.left _ _).trans (Zle.yp _ _ _))).weak (fun _ _ h=>yL ((Zle.left _ _).trans (Zle.yp _ _ _)) h)) zA1) ?_
  rintro z36 _
  refine WL.merge .here .h1 ?_
  refine WL.a (d:=131) rfl rfl rfl (q_m rfl) ?_
  refine WL.a (d:=135) rfl rfl rfl (yf rfl rfl) ?_
  refine WL.a (d:=136) rfl rfl rfl (yf rfl rfl) ?_
  refine WL.new (dd:=36) rfl rfl rfl (ym (cs:=[(.int .i64 0),(.int .i64 0)]) yt rfl) ?_
  intro z3i _
  refine WL.yb rfl rfl (yc (vs:=[(.int .i64 zZ.1.fN),(.int .i64 zZ.1.fD)]) (ds:=[(.int .i64 zZ.1.fN),(.int .i64 zZ.1.fD)]) yo rfl rfl rfl rfl (y2 rfl (y2 rfl yk)) .here (Nat.le_of_ble_eq_true rfl) rfl) ?_
  refine WL.a (d:=37) rfl rfl rfl (q_z rfl) ?_
  refine WL.nil ?_
  refine WX.a ?_
  refine WC.b ?_
  refine WC.b ?_
  refine WC.a ?_
  refine WL.a (d:=137) rfl rfl rfl (q_m rfl) ?_
  refine WL.a (d:=138) rfl rfl rfl (y4C rfl rfl) ?_
  refine WL.nil ?_
  refine WX.a ?_
  refine WC.cond rfl (fun znU=>?_) (fun znU=>?_)
  ·replace h:=yh h znU
   refine WC.b ?_
   obtain ⟨znN,zrK,h⟩:=ze h
   refine WC.a ?_
   refine WL.a (d:=139) rfl rfl rfl (q_m rfl) ?_
   refine WL.a (d:=140) rfl rfl rfl (y4C rfl rfl) ?_
   refine WL.a (d:=141) rfl rfl rfl (q_m rfl) ?_
   refine WL.yN True [(152,(.bool ((decide (zZ.2 = 6)) && (decide ((i64 ((i64 (72 * (i64 (1 + (Int.tmod (i64 z6Z) 2))))) * (i64 ((i64 (150 + (Int.tmod (i64 z3c) 501))) + (i64 (150 + (Int.tmod (i64 z3d) 501))))))) > (i64 ((i64 (150 + (Int.tmod (i64 z3c) 501))) * (i64 (150 + (Int.tmod (i64 z3d) 501))))))))))] [stb z3i 30 [(.int .i64 zZ.1.fN),(.int .i64 zZ.1.fD)],fz ((z2n ++ z2M) ++ z36),stb z31 30 [(.int .i64 zT.1.fN),(.int .i64 zT.1.fD)],row (.slice z5J zw.1.length z5K) 3 1 (zw.1.flatMap e3),row (.slice z3n zp.length z3o) 51 3 (zp.flatMap e51),stb z3P 43 [(.int .i64 z1g.fN),(.int .i64 z1g.fD),(.int .i64 z1h.fN),(.int .i64 z1h.fD)]] 11 ?_ (fun _=>?_)
   ·rcases Bool.eq_false_or_eq_true (decide (zZ.2 = 6)) with hb' | hb'
    ·have zrL:=hb'; clear hb'
     refine WL.pin (i:=141) rfl zrL ?_
     refine WL.a (d:=142) rfl rfl rfl (q_m rfl) ?_
     refine WL.a (d:=143) rfl rfl rfl (y3t rfl rfl rfl) ?_
     refine WL.a (d:=144) rfl rfl rfl (q_m rfl) ?_
     refine WL.a (d:=145) rfl rfl rfl (q_m rfl) ?_
     refine WL.a (d:=146) rfl rfl rfl (yW rfl rfl rfl) ?_
     refine WL.a (d:=147) rfl rfl rfl (y3t rfl rfl rfl) ?_
     refine WL.a (d:=148) rfl rfl rfl (q_m rfl) ?_
     refine WL.a (d:=149) rfl rfl rfl (q_m rfl) ?_
     refine WL.a (d:=150) rfl rfl rfl (y3t rfl rfl rfl) ?_
     refine WL.a (d:=151) rfl rfl rfl (y2F rfl rfl) ?_
     refine WL.a (d:=152) rfl rfl rfl (ys rfl rfl) ?_
     exact WL.y9 () trivial (.cons (zr (y4E zrL)) .nil) (.cons .here (.cons .here (.cons .here (.cons .here (.cons .here (.cons .here .nil))))))
    ·have zrM:=hb'; clear hb'
     refine WL.pin (i:=141) rfl zrM ?_
     refine WL.e rfl rfl rfl ?_
     refine WL.e rfl rfl rfl ?_
     refine WL.e rfl rfl rfl ?_
     refine WL.e rfl rfl rfl ?_
     refine WL.e rfl rfl rfl ?_
     refine WL.e rfl rfl rfl ?_
     refine WL.e rfl rfl rfl ?_
     refine WL.e rfl rfl rfl ?_
     refine WL.e rfl rfl rfl ?_
     refine WL.e rfl rfl rfl ?_
     refine WL.a (d:=152) rfl rfl rfl (yr rfl rfl) ?_
     exact WL.y9 () trivial (.cons (zr (y4D zrM)) .nil) (.cons .here (.cons .here (.cons .here (.cons .here (.cons .here (.cons .here .nil))))))
   ·skip
    refine WL.a (d:=153) rfl rfl rfl (q_m rfl) ?_
    refine WL.y6C (fun (zfa : Zp)=>Zle (Z ++ ((z2n ++ z2M) ++ z36)) (Z ++ zfa)) (fun (zfa : Zp)=>[(155,(.bool znN))]) (fun (zfa : Zp)=>[stb z3i 30 [(.int .i64 zZ.1.fN),(.int .i64 zZ.1.fD)],fz zfa,stb z31 30 [(.int .i64 zT.1.fN),(.int .i64 zT.1.fD)],row (.slice z5J zw.1.length z5K) 3 1 (zw.1.flatMap e3),row (.slice z3n zp.length z3o) 51 3 (zp.flatMap e51),stb z3P 43 [(.int .i64 z1g.fN),(.int .i64 z1g.fD),(.int .i64 z1h.fN),(.int .i64 z1h.fD)]]) 2 ?_ (fun zfa zD1=>?_)
    ·rcases Bool.eq_false_or_eq_true ((decide (zZ.2 = 6)) && (decide ((i64 ((i64 (72 * (i64 (1 + (Int.tmod (i64 z6Z) 2))))) * (i64 ((i64 (150 + (Int.tmod (i64 z3c) 501))) + (i64 (150 + (Int.tmod (i64 z3d) 501))))))) > (i64 ((i64 (150 + (Int.tmod (i64 z3c) 501))) * (i64 (150 + (Int.tmod (i64 z3d) 501)))))))) with hb' | hb'
     ·have zrN:=hb'; clear hb'
      have zgV:=yh zrK zrN
      obtain ⟨znM,zA2,zgV⟩:=ze zgV
      replace zgV:=Option.some.inj zgV
      refine WL.pin (i:=153) rfl zrN ?_
      refine WL.y2D (dd:=154) rfl rfl rfl (zj (l:=[]) Try.call17 .nil) (.nil : Sel [stb z3i 30 [(.int .i64 zZ.1.fN),(.int .i64 zZ.1.fD)],fz ((z2n ++ z2M) ++ z36),stb z31 30 [(.int .i64 zT.1.fN),(.int .i64 zT.1.fD)],row (.slice z5J zw.1.length z5K) 3 1 (zw.1.flatMap e3),row (.slice z3n zp.length z3o) 51 3 (zp.flatMap e51),stb z3P 43 [(.int .i64 z1g.fN),(.int .i64 z1g.fD),(.int .i64 z1h.fN),(.int .i64 z1h.fD)]] [] [stb z3i 30 [(.int .i64 zZ.1.fN),(.int .i64 zZ.1.fD)],fz ((z2n ++ z2M) ++ z36),stb z31 30 [(.int .i64 zT.1.fN),(.int .i64 zT.1.fD)],row (.slice z5J zw.1.length z5K) 3 1 (zw.1.flatMap e3),row (.slice z3n zp.length z3o) 51 3 (zp.flatMap e51),stb z3P 43 [(.int .i64 z1g.fN),(.int .i64 z1g.fD),(.int .i64 z1h.fN),(.int .i64 z1h.fD)]]) (fun w hw=>by have pz:=(hz.call2 hw (.nil : Sel [stb z3i 30 [(.int .i64 zZ.1.fN),(.int .i64 zZ.1.fD)],fz ((z2n ++ z2M) ++ z36),stb z31 30 [(.int .i64 zT.1.fN),(.int .i64 zT.1.fD)],row (.slice z5J zw.1.length z5K) 3 1 (zw.1.flatMap e3),row (.slice z3n zp.length z3o) 51 3 (zp.flatMap e51),stb z3P 43 [(.int .i64 z1g.fN),(.int .i64 z1g.fD),(.int .i64 z1h.fN),(.int .i64 z1h.fD)]] [] [stb z3i 30 [(.int .i64 zZ.1.fN),(.int .i64 zZ.1.fD)],fz ((z2n ++ z2M) ++ z36),stb z31 30 [(.int .i64 zT.1.fN),(.int .i64 zT.1.fD)],row (.slice z5J zw.1.length z5K) 3 1 (zw.1.flatMap e3),row (.slice z3n zp.length z3o) 51 3 (zp.flatMap e51),stb z3P 43 [(.int .i64 z1g.fN),(.int .i64 z1g.fD),(.int .i64 z1h.fN),(.int .i64 z1h.fD)]]) .h1); exact y76 (Z:=_)   (r:=znM) w pz  zA2) ?_
      rintro zA3 _
      refine WL.merge .here .h1 ?_
      refine WL.a (d:=155) rfl rfl rfl (ys rfl rfl) ?_
      exact WL.y9 (G:=Zp) (((z2n ++ z2M) ++ z36) ++ zA3) ((Zle.left _ _).trans (Zle.yp _ _ _)) (.cons (zr zgV) .nil) (.cons .h1 (.cons .here (.cons .here (.cons .here (.cons .here (.cons .here .nil))))))
     ·have zrO:=hb'; clear hb'
      have znV:=yi zrK zrO
      replace znV:=Option.some.inj znV
      refine WL.pin (i:=153) rfl zrO ?_
      refine WL.e rfl rfl rfl ?_
      refine WL.a (d:=155) rfl rfl rfl (yr rfl rfl) ?_
      exact WL.y9 (G:=Zp) ((z2n ++ z2M) ++ z36) (Zle.refl _) (.cons (zr znV) .nil) (.cons .here (.cons .here (.cons .here (.cons .here (.cons .here (.cons .here .nil))))))
    ·skip
     refine WL.a (d:=16) rfl rfl rfl (q_z rfl) ?_
     refine WL.nil ?_
     refine WX.a ?_
     refine WC.ret ?_
     refine WX.y6 ?_
     obtain rfl:=Option.some.inj h
     refine WX.y7 Try.results3 (.tmp rfl .nil) (fun w hw=>?_)
     exact ⟨zfa,yD rfl,trivial,hw.sub (.cons .h1 .nil)⟩
  ·replace h:=yi h znU
   refine WC.skip ?_
   refine WX.a ?_
   refine WC.b ?_
   refine WC.b ?_
   refine WC.a ?_
   refine WL.a (d:=156) rfl rfl rfl (q_m rfl) ?_
   refine WL.a (d:=157) rfl rfl rfl (y2G rfl rfl) ?_
   refine WL.a (d:=158) rfl rfl rfl (q_m rfl) ?_
   refine WL.yN True [(31,(.slice z3n zp.length z3o)),(32,(.slice z5J zw.1.length z5K)),(34,(.pointer (some ⟨z31,0,none⟩))),(36,(.pointer (some ⟨z3i,0,none⟩))),(37,(.int .i64 zZ.2)),(161,(.bool ((decide (zw.2 ≠ 0)) || (decide (zT.2 ≠ 0)))))] [stb z3i 30 [(.int .i64 zZ.1.fN),(.int .i64 zZ.1.fD)],fz ((z2n ++ z2M) ++ z36),stb z31 30 [(.int .i64 zT.1.fN),(.int .i64 zT.1.fD)],row (.slice z5J zw.1.length z5K) 3 1 (zw.1.flatMap e3),row (.slice z3n zp.length z3o) 51 3 (zp.flatMap e51),stb z3P 43 [(.int .i64 z1g.fN),(.int .i64 z1g.fD),(.int .i64 z1h.fN),(.int .i64 z1h.fD)]] 3 ?_ (fun _=>?_)
   ·rcases Bool.eq_false_or_eq_true (decide (zw.2 ≠ 0)) with hb' | hb'
    ·have zrP:=hb'; clear hb'
     refine WL.pin (i:=158) rfl zrP ?_
     refine WL.e rfl rfl rfl ?_
     refine WL.e rfl rfl rfl ?_
     refine WL.a (d:=161) rfl rfl rfl (ys rfl rfl) ?_
     exact WL.y9 () trivial (.cons rfl (.cons rfl (.cons rfl (.cons rfl (.cons rfl (.cons (zr (y4s zrP)) .nil)))))) (.cons .here (.cons .here (.cons .here (.cons .here (.cons .here (.cons .here .nil))))))
    ·have zrQ:=hb'; clear hb'
     refine WL.pin (i:=158) rfl zrQ ?_
     refine WL.a (d:=159) rfl rfl rfl (q_m rfl) ?_
     refine WL.a (d:=160) rfl rfl rfl (y2G rfl rfl) ?_
     refine WL.a (d:=161) rfl rfl rfl (yr rfl rfl) ?_
     exact WL.y9 () trivial (.cons rfl (.cons rfl (.cons rfl (.cons rfl (.cons rfl (.cons (zr (y4t zrQ)) .nil)))))) (.cons .here (.cons .here (.cons .here (.cons .here (.cons .here (.cons .here .nil))))))
   ·skip
    refine WL.a (d:=162) rfl rfl rfl (q_m rfl) ?_
    refine WL.yN True [(31,(.slice z3n zp.length z3o)),(32,(.slice z5J zw.1.length z5K)),(34,(.pointer (some ⟨z31,0,none⟩))),(36,(.pointer (some ⟨z3i,0,none⟩))),(165,(.bool (((decide (zw.2 ≠ 0)) || (decide (zT.2 ≠ 0))) || (decide (zZ.2 ≠ 0)))))] [stb z3i 30 [(.int .i64 zZ.1.fN),(.int .i64 zZ.1.fD)],fz ((z2n ++ z2M) ++ z36),stb z31 30 [(.int .i64 zT.1.fN),(.int .i64 zT.1.fD)],row (.slice z5J zw.1.length z5K) 3 1 (zw.1.flatMap e3),row (.slice z3n zp.length z3o) 51 3 (zp.flatMap e51),stb z3P 43 [(.int .i64 z1g.fN),(.int .i64 z1g.fD),(.int .i64 z1h.fN),(.int .i64 z1h.fD)]] 3 ?_ (fun _=>?_)
    ·rcases Bool.eq_false_or_eq_true ((decide (zw.2 ≠ 0)) || (decide (zT.2 ≠ 0))) with hb' | hb'
     ·have zrR:=hb'; clear hb'
      refine WL.pin (i:=162) rfl zrR ?_
      refine WL.e rfl rfl rfl ?_
      refine WL.e rfl rfl rfl ?_
      refine WL.a (d:=165) rfl rfl rfl (ys rfl rfl) ?_
      exact WL.y9 () trivial (.cons rfl (.cons rfl (.cons rfl (.cons rfl (.cons (zr (y4s zrR)) .nil))))) (.cons .here (.cons .here (.cons .here (.cons .here (.cons .here (.cons .here .nil))))))
     ·have zrS:=hb'; clear hb'
      refine WL.pin (i:=162) rfl zrS ?_
      refine WL.a (d:=163) rfl rfl rfl (q_m rfl) ?_
      refine WL.a (d:=164) rfl rfl rfl (y2G rfl rfl) ?_
      refine WL.a (d:=165) rfl rfl rfl (yr rfl rfl) ?_
      exact WL.y9 () trivial (.cons rfl (.cons rfl (.cons rfl (.cons rfl (.cons (zr (y4t zrS)) .nil))))) (.cons .here (.cons .here (.cons .here (.cons .here (.cons .here (.cons .here .nil))))))
    ·skip
     refine WL.a (d:=166) rfl rfl rfl (q_m rfl) ?_
     refine WL.yN True [(31,(.slice z3n zp.length z3o)),(32,(.slice z5J zw.1.length z5K)),(34,(.pointer (some ⟨z31,0,none⟩))),(36,(.pointer (some ⟨z3i,0,none⟩))),(172,(.bool ((((decide (zw.2 ≠ 0)) || (decide (zT.2 ≠ 0))) || (decide (zZ.2 ≠ 0))) || (decide (((zw.1.length : Nat) : Int) ≠ ((zp.length : Nat) : Int))))))] [stb z3i 30 [(.int .i64 zZ.1.fN),(.int .i64 zZ.1.fD)],fz ((z2n ++ z2M) ++ z36),stb z31 30 [(.int .i64 zT.1.fN),(.int .i64 zT.1.fD)],row (.slice z5J zw.1.length z5K) 3 1 (zw.1.flatMap e3),row (.slice z3n zp.length z3o) 51 3 (zp.flatMap e51),stb z3P 43 [(.int .i64 z1g.fN),(.int .i64 z1g.fD),(.int .i64 z1h.fN),(.int .i64 z1h.fD)]] 6 ?_ (fun _=>?_)
     ·rcases Bool.eq_false_or_eq_true (((decide (zw.2 ≠ 0)) || (decide (zT.2 ≠ 0))) || (decide (zZ.2 ≠ 0))) with hb' | hb'
      ·have zrT:=hb'; clear hb'
       refine WL.pin (i:=166) rfl zrT ?_
       refine WL.e rfl rfl rfl ?_
       refine WL.e rfl rfl rfl ?_
       refine WL.e rfl rfl rfl ?_
       refine WL.e rfl rfl rfl ?_
       refine WL.e rfl rfl rfl ?_
       refine WL.a (d:=172) rfl rfl rfl (ys rfl rfl) ?_
       exact WL.y9 () trivial (.cons rfl (.cons rfl (.cons rfl (.cons rfl (.cons (zr (y4s zrT)) .nil))))) (.cons .here (.cons .here (.cons .here (.cons .here (.cons .here (.cons .here .nil))))))
      ·have zrU:=hb'; clear hb'
       refine WL.pin (i:=166) rfl zrU ?_
       refine WL.a (d:=167) rfl rfl rfl (q_m rfl) ?_
       refine WL.a (d:=168) rfl rfl rfl (y10 Try.underlying45 rfl) ?_
       refine WL.a (d:=169) rfl rfl rfl (q_m rfl) ?_
       refine WL.a (d:=170) rfl rfl rfl (y10 Try.underlying24 rfl) ?_
       refine WL.a (d:=171) rfl rfl rfl (y2G rfl rfl) ?_
       refine WL.a (d:=172) rfl rfl rfl (yr rfl rfl) ?_
       exact WL.y9 () trivial (.cons rfl (.cons rfl (.cons rfl (.cons rfl (.cons (zr (y4t zrU)) .nil))))) (.cons .here (.cons .here (.cons .here (.cons .here (.cons .here (.cons .here .nil))))))
     ·skip
      refine WL.nil ?_
      refine WX.a ?_
      refine WC.cond rfl (fun znW=>?_) (fun znW=>?_)
      ·replace h:=yh h znW
       refine WC.b ?_
       refine WC.a ?_
       refine WL.a (d:=16) rfl rfl rfl (q_z rfl) ?_
       refine WL.nil ?_
       refine WX.a ?_
       refine WC.ret ?_
       refine WX.y6 ?_
       obtain rfl:=Option.some.inj h
       refine WX.y7 Try.results3 (.tmp rfl .nil) (fun w hw=>?_)
       exact ⟨((z2n ++ z2M) ++ z36),yD rfl,trivial,hw.sub (.cons .h1 .nil)⟩
      ·replace h:=yi h znW
       refine WC.skip ?_
       refine WX.a ?_
       obtain ⟨zba,zA4,h⟩:=y3I h
       refine WC.y4h ((zba = some r)) ([]) ([fz ((z2n ++ z2M) ++ z36)]) ?_ ?_
       ·skip
        refine WC.b ?_
        refine WC.a ?_
        refine WL.a (d:=173) rfl rfl rfl (q_m rfl) ?_
        refine WL.a (d:=174) rfl rfl rfl (y10 Try.underlying24 rfl) ?_
        refine WL.a (d:=175) rfl rfl rfl (q_m rfl) ?_
        refine WL.nil ?_
        refine WX.a ?_
        refine WC.block ?_
        refine WC.y3H (fun (zfb : Nat) (z1P : Int) (zdl : Option Addr) (z3D : Nat) (zfc : Option Addr) (z4v : Nat)=>(y1q zp zw zT zZ zba zfb z1P = some r)) (fun (zfb : Nat) (z1P : Int) (zdl : Option Addr) (z3D : Nat) (zfc : Option Addr) (z4v : Nat)=>[(31,(.slice zdl zp.length z3D)),(32,(.slice zfc zw.1.length z4v)),(34,(.pointer (some ⟨z31,0,none⟩))),(36,(.pointer (some ⟨z3i,0,none⟩))),(173,(.slice zdl zp.length z3D)),(174,(.int .i64 ((zp.length : Nat) : Int))),(175,(.int .i64 z1P))]) (fun (zfb : Nat) (z1P : Int) (zdl : Option Addr) (z3D : Nat) (zfc : Option Addr) (z4v : Nat)=>[fz ((z2n ++ z2M) ++ z36),row (.slice zdl zp.length z3D) 51 3 (zp.flatMap e51),row (.slice zfc zw.1.length z4v) 3 1 (zw.1.flatMap e3),stb z31 30 [(.int .i64 zT.1.fN),(.int .i64 zT.1.fD)],stb z3i 30 [(.int .i64 zZ.1.fN),(.int .i64 zZ.1.fD)]]) (fun (zfb : Nat) (z1P : Int) (zdl : Option Addr) (z3D : Nat) (zfc : Option Addr) (z4v : Nat)=>zfb) ⟨yu,0,z3n,z3o,z5J,z5K⟩ h (.cons rfl (.cons rfl (.cons rfl (.cons rfl (.cons rfl (.cons rfl (.cons rfl .nil))))))) (.cons .h1 (.cons .h3 (.cons .h2 (.cons .h1 (.cons .here .nil))))) ?_
        rintro zfb z1P zdl z3D zfc z4v h
        obtain ⟨znH,rfl⟩:=y58 h
        rw [y1q] at h
        refine WC.b ?_
        refine WC.a ?_
        refine WL.a (d:=176) rfl rfl rfl (y1c rfl rfl) ?_
        refine WL.nil ?_
        refine WX.a ?_
        refine WC.b ?_
        refine WC.cond rfl (fun znX=>?_) (fun znX=>?_)
        ·replace h:=yh h znX
         refine WC.skip ?_
         refine WX.a ?_
         obtain ⟨znI,zA5,h⟩:=y3I h
         refine WC.y4i (fun (zdm : Option Addr) (zdn : Nat) (zfd : Option Addr) (zfe : Nat)=>(znI = some r)) (fun (zdm : Option Addr) (zdn : Nat) (zfd : Option Addr) (zfe : Nat)=>[(31,(.slice zdm zp.length zdn)),(32,(.slice zfd zw.1.length zfe)),(34,(.pointer (some ⟨z31,0,none⟩))),(36,(.pointer (some ⟨z3i,0,none⟩))),(173,(.slice zdm zp.length zdn)),(174,(.int .i64 ((zp.length : Nat) : Int))),(175,(.int .i64 z1P))]) (fun (zdm : Option Addr) (zdn : Nat) (zfd : Option Addr) (zfe : Nat)=>[fz ((z2n ++ z2M) ++ z36),row (.slice zdm zp.length zdn) 51 3 (zp.flatMap e51),row (.slice zfd zw.1.length zfe) 3 1 (zw.1.flatMap e3),stb z31 30 [(.int .i64 zT.1.fN),(.int .i64 zT.1.fD)],stb z3i 30 [(.int .i64 zZ.1.fN),(.int .i64 zZ.1.fD)]]) ?_ ?_
         ·skip
          refine WC.block ?_
          refine WC.b ?_
          obtain ⟨zgW,h⟩:=yl h
          refine WC.a ?_
          refine WL.a (d:=177) rfl rfl rfl (q_m rfl) ?_
          refine WL.know (fun w hw=>Hp.y3j .h1 hw (by intro hz'; have:=zgW; rw [hz'] at this; omega)) ?_
          rintro ⟨z52,rfl⟩
          refine WL.a (d:=178) rfl rfl rfl (y14 y2l rfl rfl zgW.1 zgW.2 y39) ?_
          refine WL.a (d:=179) rfl rfl rfl (y4 (cs:=(e51 (nth zp z1P))) y5Q rfl rfl (y36 .h1 (y2J (enc:=e51) (l:=zp) (i:=z1P) (sz:=3) (fun _=>rfl) zgW.1 zgW.2))) ?_
          refine WL.new (dd:=39) rfl rfl rfl (ym (cs:=[(.int .i64 0),(.int .i64 0),(.int .i64 0)]) y6V rfl) ?_
          intro zc3 _
          refine WL.a (d:=38) rfl rfl rfl (q_z rfl) ?_
          refine WL.yb rfl rfl (yc (vs:=[(.int .i64 ((nth zp z1P).fTime)),(.int .i64 ((nth zp z1P).fVL)),(.int .i64 ((nth zp z1P).fSize))]) (ds:=[(.int .i64 ((nth zp z1P).fTime)),(.int .i64 ((nth zp z1P).fVL)),(.int .i64 ((nth zp z1P).fSize))]) y7z rfl rfl rfl rfl (y2 rfl (y2 rfl (y2 rfl yk))) .here (Nat.le_of_ble_eq_true rfl) rfl) ?_
          refine WL.nil ?_
          refine WX.a ?_
          refine WC.b ?_
          refine WC.b ?_
          obtain ⟨zgX,h⟩:=yl h
          obtain ⟨ziY,zA6,h⟩:=ze h
          obtain ⟨znJ,zA7,h⟩:=ze h
          refine WC.yY (fun i=>[].contains i) [] rfl ?_
          refine WD.a (i:=0) (d:=180) (by kernel_rfl) rfl (z8 (by kernel_rfl)) (za (by kernel_rfl)) rfl rfl rfl (fun _=>q_m rfl) ?_
          refine WD.a (i:=1) (d:=181) (by kernel_rfl) rfl (z8 (by kernel_rfl)) (za (by kernel_rfl)) rfl rfl rfl (fun _=>q_m rfl) ?_
          refine WD.know (fun w hw=>Hp.y3j .h3 hw (by intro hz'; have:=zgX; rw [hz'] at this; omega)) ?_
          rintro ⟨z5S,rfl⟩
          refine WD.a (i:=2) (d:=182) (by kernel_rfl) rfl (z8 (by kernel_rfl)) (za (by kernel_rfl)) rfl rfl rfl (fun _=>y14 y62 rfl rfl zgX.1 zgX.2 y39) ?_
          refine WD.e (i:=3) (d:=183) (by kernel_rfl) rfl (z8 (by kernel_rfl)) (za (by kernel_rfl)) rfl rfl rfl (ya yw rfl (y7Y .h3 ((y2J (enc:=e3) (l:=zw.1) (i:=z1P) (sz:=1) (fun _=>rfl) zgX.1 zgX.2) 0 _ rfl))) ?_
          refine WD.a (i:=4) (d:=184) (by kernel_rfl) rfl (z8 (by kernel_rfl)) (za (by kernel_rfl)) rfl rfl rfl (fun _=>y3 y3y rfl rfl) ?_
          refine WD.e (i:=5) (d:=185) (by kernel_rfl) rfl (z8 (by kernel_rfl)) (za (by kernel_rfl)) rfl rfl rfl (ya yw rfl (yv .here rfl)) ?_
          refine WD.a (i:=6) (d:=186) (by kernel_rfl) rfl (z8 (by kernel_rfl)) (za (by kernel_rfl)) rfl rfl rfl (fun _=>y6Q rfl rfl rfl) ?_
          refine WD.c (i:=7) (d:=187) (by kernel_rfl) rfl (z8 (by kernel_rfl)) (za (by kernel_rfl)) rfl rfl rfl (zj (l:=[.tmp 186,.const (.int .i64 1)]) Try.call11 (.cons rfl (.cons rfl .nil))) (fun w hw=>by have pz:=(hz.call2 hw (.nil : Sel [stb zc3 51 [(.int .i64 ((nth zp z1P).fTime)),(.int .i64 ((nth zp z1P).fVL)),(.int .i64 ((nth zp z1P).fSize))],fz ((z2n ++ z2M) ++ z36),row (.slice (some ⟨z52,0,none⟩) zp.length z3D) 51 3 (zp.flatMap e51),row (.slice (some ⟨z5S,0,none⟩) zw.1.length z4v) 3 1 (zw.1.flatMap e3),stb z31 30 [(.int .i64 zT.1.fN),(.int .i64 zT.1.fD)],stb z3i 30 [(.int .i64 zZ.1.fN),(.int .i64 zZ.1.fD)]] [] [stb zc3 51 [(.int .i64 ((nth zp z1P).fTime)),(.int .i64 ((nth zp z1P).fVL)),(.int .i64 ((nth zp z1P).fSize))],fz ((z2n ++ z2M) ++ z36),row (.slice (some ⟨z52,0,none⟩) zp.length z3D) 51 3 (zp.flatMap e51),row (.slice (some ⟨z5S,0,none⟩) zw.1.length z4v) 3 1 (zw.1.flatMap e3),stb z31 30 [(.int .i64 zT.1.fN),(.int .i64 zT.1.fD)],stb z3i 30 [(.int .i64 zZ.1.fN),(.int .i64 zZ.1.fD)]]) .h1); exact y15 (Z:=_)  (z3E:=(i64 ((nth zw.1 z1P) - ((nth zp z1P).fTime)))) (z3F:=1) (r:=ziY) w pz  zA6) ?_
          refine WD.e (i:=8) (d:=188) (by kernel_rfl) rfl (z8 (by kernel_rfl)) (za (by kernel_rfl)) rfl rfl rfl (y4 (cs:=[(.int .i64 zT.1.fN),(.int .i64 zT.1.fD)]) y5 rfl rfl (y8 .h4)) ?_
          refine WD.c (i:=9) (d:=189) (by kernel_rfl) rfl (z8 (by kernel_rfl)) (za (by kernel_rfl)) rfl rfl rfl (zj (l:=[.tmp 187,.tmp 188]) Try.call18 (.cons rfl (.cons rfl .nil))) (fun w hw=>by have pz:=(hz.call2 hw (.nil : Sel [stb zc3 51 [(.int .i64 ((nth zp z1P).fTime)),(.int .i64 ((nth zp z1P).fVL)),(.int .i64 ((nth zp z1P).fSize))],fz ((z2n ++ z2M) ++ z36),row (.slice (some ⟨z52,0,none⟩) zp.length z3D) 51 3 (zp.flatMap e51),row (.slice (some ⟨z5S,0,none⟩) zw.1.length z4v) 3 1 (zw.1.flatMap e3),stb z31 30 [(.int .i64 zT.1.fN),(.int .i64 zT.1.fD)],stb z3i 30 [(.int .i64 zZ.1.fN),(.int .i64 zZ.1.fD)]] [] [stb zc3 51 [(.int .i64 ((nth zp z1P).fTime)),(.int .i64 ((nth zp z1P).fVL)),(.int .i64 ((nth zp z1P).fSize))],fz ((z2n ++ z2M) ++ z36),row (.slice (some ⟨z52,0,none⟩) zp.length z3D) 51 3 (zp.flatMap e51),row (.slice (some ⟨z5S,0,none⟩) zw.1.length z4v) 3 1 (zw.1.flatMap e3),stb z31 30 [(.int .i64 zT.1.fN),(.int .i64 zT.1.fD)],stb z3i 30 [(.int .i64 zZ.1.fN),(.int .i64 zZ.1.fD)]]) .h1); exact y26 (Z:=_)  (z29:=ziY) (z2a:=zT.1) (r:=znJ) w pz  zA7) ?_
          refine WD.a (i:=10) (d:=190) (by kernel_rfl) rfl (z8 (by kernel_rfl)) (za (by kernel_rfl)) rfl rfl rfl (fun _=>y2F rfl rfl) ?_
          refine WD.done (by kernel_rfl) ?_
          refine WX.a ?_
          refine WC.cond rfl (fun znY=>?_) (fun znY=>?_)
          ·replace h:=yh h znY
           refine WC.b ?_
           refine WC.a ?_
           refine WL.a (d:=16) rfl rfl rfl (q_z rfl) ?_
           refine WL.nil ?_
           refine WX.a ?_
           refine WC.ret ?_
           refine WX.y6 ?_
           refine WX.yq ?_
           refine WX.y6 ?_
           refine WX.y6 ?_
           refine WX.yq ?_
           refine WX.y6 ?_
           obtain rfl:=Option.some.inj h
           refine WX.y7 Try.results3 (.tmp rfl .nil) (fun w hw=>?_)
           exact ⟨((z2n ++ z2M) ++ z36),yD rfl,trivial,hw.sub (.cons .h1 .nil)⟩
          ·replace h:=yi h znY
           refine WC.skip ?_
           refine WX.a ?_
           refine WC.b ?_
           refine WC.a ?_
           refine WL.a (d:=40) rfl rfl rfl (q_z rfl) ?_
           refine WL.nil ?_
           refine WX.a ?_
           obtain ⟨zb8,zA8,h⟩:=y1h h
           refine WC.y34 (fun (z9P : Int)=>(zb8 z9P = some r)) (fun (z9P : Int)=>[(31,(.slice (some ⟨z52,0,none⟩) zp.length z3D)),(32,(.slice (some ⟨z5S,0,none⟩) zw.1.length z4v)),(34,(.pointer (some ⟨z31,0,none⟩))),(36,(.pointer (some ⟨z3i,0,none⟩))),(40,(.int .i64 z9P)),(173,(.slice (some ⟨z52,0,none⟩) zp.length z3D)),(174,(.int .i64 ((zp.length : Nat) : Int))),(175,(.int .i64 z1P))]) (fun (z9P : Int)=>[fz ((z2n ++ z2M) ++ z36),row (.slice (some ⟨z52,0,none⟩) zp.length z3D) 51 3 (zp.flatMap e51),row (.slice (some ⟨z5S,0,none⟩) zw.1.length z4v) 3 1 (zw.1.flatMap e3),stb z31 30 [(.int .i64 zT.1.fN),(.int .i64 zT.1.fD)],stb z3i 30 [(.int .i64 zZ.1.fN),(.int .i64 zZ.1.fD)]]) ?_ ?_
           ·skip
            refine WC.b ?_
            refine WC.a ?_
            refine WL.a (d:=191) rfl rfl rfl (q_m rfl) ?_
            refine WL.a (d:=192) rfl rfl rfl (yW rfl rfl rfl) ?_
            refine WL.a (d:=193) rfl rfl rfl (q_m rfl) ?_
            refine WL.nil ?_
            refine WX.a ?_
            refine WC.block ?_
            refine WC.y7O (fun (zff : Nat) (z7B : Int) (z5w : Int)=>(y1p z1P zw zp zb8 zff z7B z5w = some r)) (fun (zff : Nat) (z7B : Int) (z5w : Int)=>[(31,(.slice (some ⟨z52,0,none⟩) zp.length z3D)),(32,(.slice (some ⟨z5S,0,none⟩) zw.1.length z4v)),(34,(.pointer (some ⟨z31,0,none⟩))),(36,(.pointer (some ⟨z3i,0,none⟩))),(39,(.pointer (some ⟨zc3,0,none⟩))),(40,(.int .i64 z7B)),(173,(.slice (some ⟨z52,0,none⟩) zp.length z3D)),(174,(.int .i64 ((zp.length : Nat) : Int))),(175,(.int .i64 z1P)),(192,(.int .i64 (i64 (z1P + 1)))),(193,(.int .i64 z5w))]) (fun (zff : Nat) (z7B : Int) (z5w : Int)=>[fz ((z2n ++ z2M) ++ z36),row (.slice (some ⟨z52,0,none⟩) zp.length z3D) 51 3 (zp.flatMap e51),row (.slice (some ⟨z5S,0,none⟩) zw.1.length z4v) 3 1 (zw.1.flatMap e3),stb z31 30 [(.int .i64 zT.1.fN),(.int .i64 zT.1.fD)],stb z3i 30 [(.int .i64 zZ.1.fN),(.int .i64 zZ.1.fD)],stb zc3 51 [(.int .i64 ((nth zp z1P).fTime)),(.int .i64 ((nth zp z1P).fVL)),(.int .i64 ((nth zp z1P).fSize))]]) (fun (zff : Nat) (z7B : Int) (z5w : Int)=>zff) ⟨yu,0,0⟩ h (.cons rfl (.cons rfl (.cons rfl (.cons rfl (.cons rfl (.cons rfl (.cons rfl (.cons rfl (.cons rfl (.cons rfl (.cons rfl .nil))))))))))) (.cons .h1 (.cons .h1 (.cons .h1 (.cons .h1 (.cons .h1 (.cons .here .nil)))))) ?_
            rintro zff z7B z5w h
            obtain ⟨znG,rfl⟩:=y57 h
            rw [y1p] at h
            refine WC.b ?_
            refine WC.a ?_
            refine WL.a (d:=194) rfl rfl rfl (y1c rfl rfl) ?_
            refine WL.nil ?_
            refine WX.a ?_
            refine WC.b ?_
            refine WC.cond rfl (fun znZ=>?_) (fun znZ=>?_)
            ·replace h:=yh h znZ
             refine WC.skip ?_
             refine WX.a ?_
             obtain ⟨ziX,zA9,h⟩:=y1h h
             refine WC.y34 (fun (zb9 : Int)=>(ziX zb9 = some r)) (fun (zb9 : Int)=>[(31,(.slice (some ⟨z52,0,none⟩) zp.length z3D)),(32,(.slice (some ⟨z5S,0,none⟩) zw.1.length z4v)),(34,(.pointer (some ⟨z31,0,none⟩))),(36,(.pointer (some ⟨z3i,0,none⟩))),(39,(.pointer (some ⟨zc3,0,none⟩))),(40,(.int .i64 zb9)),(173,(.slice (some ⟨z52,0,none⟩) zp.length z3D)),(174,(.int .i64 ((zp.length : Nat) : Int))),(175,(.int .i64 z1P)),(192,(.int .i64 (i64 (z1P + 1)))),(193,(.int .i64 z5w))]) (fun (zb9 : Int)=>[fz ((z2n ++ z2M) ++ z36),row (.slice (some ⟨z52,0,none⟩) zp.length z3D) 51 3 (zp.flatMap e51),row (.slice (some ⟨z5S,0,none⟩) zw.1.length z4v) 3 1 (zw.1.flatMap e3),stb z31 30 [(.int .i64 zT.1.fN),(.int .i64 zT.1.fD)],stb z3i 30 [(.int .i64 zZ.1.fN),(.int .i64 zZ.1.fD)],stb zc3 51 [(.int .i64 ((nth zp z1P).fTime)),(.int .i64 ((nth zp z1P).fVL)),(.int .i64 ((nth zp z1P).fSize))]]) ?_ ?_
             ·skip
              refine WC.block ?_
              refine WC.b ?_
              refine WC.a ?_
              refine WL.a (d:=195) rfl rfl rfl (q_m rfl) ?_
              refine WL.a (d:=41) rfl rfl rfl (q_z rfl) ?_
              refine WL.nil ?_
              refine WX.a ?_
              refine WC.b ?_
              obtain ⟨zj4,h⟩:=yl h
              refine WC.yY (fun i=>[].contains i) [] rfl ?_
              refine WD.a (i:=0) (d:=196) (by kernel_rfl) rfl (z8 (by kernel_rfl)) (za (by kernel_rfl)) rfl rfl rfl (fun _=>q_m rfl) ?_
              refine WD.a (i:=1) (d:=197) (by kernel_rfl) rfl (z8 (by kernel_rfl)) (za (by kernel_rfl)) rfl rfl rfl (fun _=>q_m rfl) ?_
              refine WD.a (i:=2) (d:=198) (by kernel_rfl) rfl (z8 (by kernel_rfl)) (za (by kernel_rfl)) rfl rfl rfl (fun _=>y14 y62 rfl rfl zj4.1 zj4.2 y39) ?_
              refine WD.e (i:=3) (d:=199) (by kernel_rfl) rfl (z8 (by kernel_rfl)) (za (by kernel_rfl)) rfl rfl rfl (ya yw rfl (y7Y .h2 ((y2J (enc:=e3) (l:=zw.1) (i:=z5w) (sz:=1) (fun _=>rfl) zj4.1 zj4.2) 0 _ rfl))) ?_
              refine WD.a (i:=4) (d:=200) (by kernel_rfl) rfl (z8 (by kernel_rfl)) (za (by kernel_rfl)) rfl rfl rfl (fun _=>y3 y3y rfl rfl) ?_
              refine WD.e (i:=5) (d:=201) (by kernel_rfl) rfl (z8 (by kernel_rfl)) (za (by kernel_rfl)) rfl rfl rfl (ya yw rfl (yv .h5 rfl)) ?_
              refine WD.a (i:=6) (d:=202) (by kernel_rfl) rfl (z8 (by kernel_rfl)) (za (by kernel_rfl)) rfl rfl rfl (fun _=>y2F rfl rfl) ?_
              refine WD.done (by kernel_rfl) ?_
              refine WX.a ?_
              refine WC.cond rfl (fun zo0=>?_) (fun zo0=>?_)
              ·replace h:=yh h zo0
               obtain ⟨zj5,h⟩:=yl h
               refine WC.a ?_
               refine WL.a (d:=203) rfl rfl rfl (q_m rfl) ?_
               refine WL.a (d:=204) rfl rfl rfl (q_m rfl) ?_
               refine WL.a (d:=205) rfl rfl rfl (q_m rfl) ?_
               refine WL.a (d:=206) rfl rfl rfl (y14 y2l rfl rfl zj5.1 zj5.2 y39) ?_
               refine WL.a (d:=207) rfl rfl rfl (y3 y6G rfl (Addr.add_lit _ _ _)) ?_
               refine WL.a (d:=208) rfl rfl rfl (ya yw rfl (y7Y .h1 ((y2J (enc:=e51) (l:=zp) (i:=z5w) (sz:=3) (fun _=>rfl) zj5.1 zj5.2) 2 _ rfl))) ?_
               refine WL.a (d:=209) rfl rfl rfl (yW rfl rfl rfl) ?_
               refine WL.a (d:=40) rfl rfl rfl (q_z rfl) ?_
               refine WL.nil ?_
               refine WX.yg ?_
               exact WX.mid (G:=Int) (i64 (z7B + ((nth zp z5w).fSize))) h (.cons rfl (.cons rfl (.cons rfl (.cons rfl (.cons rfl (.cons rfl (.cons rfl (.cons rfl (.cons rfl (.cons rfl (.cons rfl .nil))))))))))) (.cons .here (.cons .here (.cons .here (.cons .here (.cons .here (.cons .here .nil))))))
              ·replace h:=yi h zo0
               refine WC.skip ?_
               refine WX.yg ?_
               exact WX.mid (G:=Int) z7B h (.cons rfl (.cons rfl (.cons rfl (.cons rfl (.cons rfl (.cons rfl (.cons rfl (.cons rfl (.cons rfl (.cons rfl (.cons rfl .nil))))))))))) (.cons .here (.cons .here (.cons .here (.cons .here (.cons .here (.cons .here .nil))))))
             ·rintro zb9 h
              replace h:=(zA9 zb9).symm.trans h
              refine WC.a ?_
              refine WL.a (d:=210) rfl rfl rfl (yW rfl rfl rfl) ?_
              refine WL.a (d:=193) rfl rfl rfl (q_m rfl) ?_
              refine WL.nil ?_
              exact WX.round (G:=Nat × Int × Int) ⟨znG,zb9,(i64 (z5w + 1))⟩ h (Nat.lt_succ_self _) (.cons rfl (.cons rfl (.cons rfl (.cons rfl (.cons rfl (.cons rfl (.cons rfl (.cons rfl (.cons rfl (.cons rfl (.cons rfl .nil))))))))))) (.cons .here (.cons .here (.cons .here (.cons .here (.cons .here (.cons .here .nil))))))
            ·replace h:=yi h znZ
             refine WC.exit ?_
             refine WX.ye ?_
             refine WX.ye ?_
             refine WX.yx ?_
             exact WX.mid (G:=Int) z7B h (.cons rfl (.cons rfl (.cons rfl (.cons rfl (.cons rfl (.cons rfl (.cons rfl (.cons rfl .nil)))))))) (.cons .here (.cons .here (.cons .here (.cons .here (.cons .here .nil)))))
           ·rintro z9P h
            replace h:=(zA8 z9P).symm.trans h
            refine WC.b ?_
            obtain ⟨zeW,zAa,h⟩:=ze h
            obtain ⟨z3q,zAb,h⟩:=ze h
            refine WC.yY (fun i=>[7].contains i) [] rfl ?_
            refine WD.e (i:=0) (d:=212) (by kernel_rfl) rfl (z8 (by kernel_rfl)) (za (by kernel_rfl)) rfl rfl rfl (y4 (cs:=[(.int .i64 zZ.1.fN),(.int .i64 zZ.1.fD)]) y5 rfl rfl (y8 .h4)) ?_
            refine WD.c (i:=1) (d:=213) (by kernel_rfl) rfl (z8 (by kernel_rfl)) (za (by kernel_rfl)) rfl rfl rfl (zj (l:=[.const (.int .i64 72),.const (.int .i64 1)]) Try.call11 (.cons rfl (.cons rfl .nil))) (fun w hw=>by have pz:=(hz.call2 hw (.nil : Sel [fz ((z2n ++ z2M) ++ z36),row (.slice (some ⟨z52,0,none⟩) zp.length z3D) 51 3 (zp.flatMap e51),row (.slice (some ⟨z5S,0,none⟩) zw.1.length z4v) 3 1 (zw.1.flatMap e3),stb z31 30 [(.int .i64 zT.1.fN),(.int .i64 zT.1.fD)],stb z3i 30 [(.int .i64 zZ.1.fN),(.int .i64 zZ.1.fD)]] [] [fz ((z2n ++ z2M) ++ z36),row (.slice (some ⟨z52,0,none⟩) zp.length z3D) 51 3 (zp.flatMap e51),row (.slice (some ⟨z5S,0,none⟩) zw.1.length z4v) 3 1 (zw.1.flatMap e3),stb z31 30 [(.int .i64 zT.1.fN),(.int .i64 zT.1.fD)],stb z3i 30 [(.int .i64 zZ.1.fN),(.int .i64 zZ.1.fD)]]) .here); exact y15 (Z:=_)  (z3E:=72) (z3F:=1) (r:=zeW) w pz  zAa) ?_
            refine WD.c (i:=2) (d:=214) (by kernel_rfl) rfl (z8 (by kernel_rfl)) (za (by kernel_rfl)) rfl rfl rfl (zj (l:=[.tmp 212,.tmp 213]) Try.call19 (.cons rfl (.cons rfl .nil))) (fun w hw=>by have pz:=(hz.call2 hw (.nil : Sel [fz ((z2n ++ z2M) ++ z36),row (.slice (some ⟨z52,0,none⟩) zp.length z3D) 51 3 (zp.flatMap e51),row (.slice (some ⟨z5S,0,none⟩) zw.1.length z4v) 3 1 (zw.1.flatMap e3),stb z31 30 [(.int .i64 zT.1.fN),(.int .i64 zT.1.fD)],stb z3i 30 [(.int .i64 zZ.1.fN),(.int .i64 zZ.1.fD)]] [] [fz ((z2n ++ z2M) ++ z36),row (.slice (some ⟨z52,0,none⟩) zp.length z3D) 51 3 (zp.flatMap e51),row (.slice (some ⟨z5S,0,none⟩) zw.1.length z4v) 3 1 (zw.1.flatMap e3),stb z31 30 [(.int .i64 zT.1.fN),(.int .i64 zT.1.fD)],stb z3i 30 [(.int .i64 zZ.1.fN),(.int .i64 zZ.1.fD)]]) .here); exact y4R (Z:=_)  (z3T:=zZ.1) (z3U:=zeW) (r:=z3q) w pz  zAb) ?_
            refine WD.a (i:=3) (d:=211) (by kernel_rfl) rfl (z8 (by kernel_rfl)) (za (by kernel_rfl)) rfl rfl rfl (fun _=>q_m rfl) ?_
            refine WD.a (i:=4) (d:=215) (by kernel_rfl) rfl (z8 (by kernel_rfl)) (za (by kernel_rfl)) rfl rfl rfl (fun _=>yf rfl rfl) ?_
            refine WD.a (i:=5) (d:=216) (by kernel_rfl) rfl (z8 (by kernel_rfl)) (za (by kernel_rfl)) rfl rfl rfl (fun _=>yf rfl rfl) ?_
            refine WD.new (i:=6) (dd:=42) rfl (by kernel_rfl) rfl rfl rfl (ym (cs:=[(.int .i64 0),(.int .i64 0)]) yt rfl) (fun h'=>absurd h' (by decide)) ?_
            intro zgY _
            refine WD.forced0 (i:=7) rfl (by kernel_rfl) rfl rfl rfl (Sin.of .nil) (yc (vs:=[(.int .i64 z3q.1.fN),(.int .i64 z3q.1.fD)]) (ds:=[(.int .i64 z3q.1.fN),(.int .i64 z3q.1.fD)]) yo rfl rfl rfl rfl (y2 rfl (y2 rfl yk)) .here (Nat.le_of_ble_eq_true rfl) rfl) ?_
            refine WD.a (i:=8) (d:=43) (by kernel_rfl) rfl (z8 (by kernel_rfl)) (za (by kernel_rfl)) rfl rfl rfl (fun _=>q_z rfl) ?_
            refine WD.done (by kernel_rfl) ?_
            refine WX.a ?_
            refine WC.b ?_
            obtain ⟨znL,zrV,h⟩:=ze h
            refine WC.yY (fun i=>[].contains i) [] rfl ?_
            refine WD.a (i:=0) (d:=217) (by kernel_rfl) rfl (z8 (by kernel_rfl)) (za (by kernel_rfl)) rfl rfl rfl (fun _=>q_m rfl) ?_
            refine WD.a (i:=1) (d:=218) (by kernel_rfl) rfl (z8 (by kernel_rfl)) (za (by kernel_rfl)) rfl rfl rfl (fun _=>y2G rfl rfl) ?_
            refine WD.a (i:=2) (d:=219) (by kernel_rfl) rfl (z8 (by kernel_rfl)) (za (by kernel_rfl)) rfl rfl rfl (fun _=>q_m rfl) ?_
            refine WD.mid (fuel':=0) [(31,(.slice (some ⟨z52,0,none⟩) zp.length z3D)),(32,(.slice (some ⟨z5S,0,none⟩) zw.1.length z4v)),(34,(.pointer (some ⟨z31,0,none⟩))),(36,(.pointer (some ⟨z3i,0,none⟩))),(40,(.int .i64 z9P)),(173,(.slice (some ⟨z52,0,none⟩) zp.length z3D)),(174,(.int .i64 ((zp.length : Nat) : Int))),(175,(.int .i64 z1P)),(212,(.agg #[(.int .i64 zZ.1.fN),(.int .i64 zZ.1.fD)])),(213,(.agg #[(.int .i64 zeW.fN),(.int .i64 zeW.fD)])),(214,(.tuple #[(.agg #[(.int .i64 z3q.1.fN),(.int .i64 z3q.1.fD)]),(.int .i64 z3q.2)])),(211,(.tuple #[(.agg #[(.int .i64 z3q.1.fN),(.int .i64 z3q.1.fD)]),(.int .i64 z3q.2)])),(215,(.agg #[(.int .i64 z3q.1.fN),(.int .i64 z3q.1.fD)])),(216,(.int .i64 z3q.2)),(42,(.pointer (some ⟨zgY,0,none⟩))),(43,(.int .i64 z3q.2)),(217,(.int .i64 z3q.2)),(218,(.bool (decide (z3q.2 ≠ 0)))),(219,(.bool (decide (z3q.2 ≠ 0)))),(225,(.bool znL))] (y1n 9 [8,7,6,5,4,3,2,1,0]) ?_ (fun zrW=>?_)
            rotate_left
            ·rcases Bool.eq_false_or_eq_true (decide (z3q.2 ≠ 0)) with hb' | hb'
             ·have zo1:=hb'; clear hb'
              have zo2:=yh zrV zo1
              replace zo2:=Option.some.inj zo2
              refine WD.pin (i:=219) rfl zo1 ?_
              refine WD.b (i:=3) (d:=220) (by kernel_rfl) rfl (z8 (by kernel_rfl)) (za (by kernel_rfl)) rfl rfl rfl ?_
              refine WD.b (i:=4) (d:=221) (by kernel_rfl) rfl (z8 (by kernel_rfl)) (za (by kernel_rfl)) rfl rfl rfl ?_
              refine WD.b (i:=5) (d:=222) (by kernel_rfl) rfl (z8 (by kernel_rfl)) (za (by kernel_rfl)) rfl rfl rfl ?_
              refine WD.b (i:=6) (d:=223) (by kernel_rfl) rfl (z8 (by kernel_rfl)) (za (by kernel_rfl)) rfl rfl rfl ?_
              refine WD.b (i:=7) (d:=224) (by kernel_rfl) rfl (z8 (by kernel_rfl)) (za (by kernel_rfl)) rfl rfl rfl ?_
              refine WD.a (i:=8) (d:=225) (by kernel_rfl) rfl (z8 (by kernel_rfl)) (za (by kernel_rfl)) rfl rfl rfl (fun _=>ys rfl rfl) ?_
              refine WD.yC (.cons .here (.cons .here (.cons .here (.cons .here (.cons .here (.cons .here .nil)))))) ?_ zrW
              exact (.cons rfl (.cons rfl (.cons rfl (.cons rfl (.cons rfl (.cons rfl (.cons rfl (.cons rfl (.cons rfl (.cons rfl (.cons rfl (.cons rfl (.cons rfl (.cons rfl (.cons rfl (.cons rfl (.cons rfl (.cons rfl (.cons (zr (Eq.symm zo1)) (.cons (zr zo2) .nil))))))))))))))))))))
             ·have zo3:=hb'; clear hb'
              have zdo:=yi zrV zo3
              obtain ⟨ziZ,zAc,zdo⟩:=ze zdo
              obtain ⟨znK,zAd,zdo⟩:=ze zdo
              replace zdo:=Option.some.inj zdo
              refine WD.pin (i:=219) rfl zo3 ?_
              refine WD.a (i:=3) (d:=220) (by kernel_rfl) rfl (z8 (by kernel_rfl)) (za (by kernel_rfl)) rfl rfl rfl (fun _=>q_m rfl) ?_
              refine WD.c (i:=4) (d:=221) (by kernel_rfl) rfl (z8 (by kernel_rfl)) (za (by kernel_rfl)) rfl rfl rfl (zj (l:=[.tmp 220,.const (.int .i64 1)]) Try.call11 (.cons rfl (.cons rfl .nil))) (fun w hw=>by have pz:=(hz.call2 hw (.nil : Sel [stb zgY 30 [(.int .i64 z3q.1.fN),(.int .i64 z3q.1.fD)],fz ((z2n ++ z2M) ++ z36),row (.slice (some ⟨z52,0,none⟩) zp.length z3D) 51 3 (zp.flatMap e51),row (.slice (some ⟨z5S,0,none⟩) zw.1.length z4v) 3 1 (zw.1.flatMap e3),stb z31 30 [(.int .i64 zT.1.fN),(.int .i64 zT.1.fD)],stb z3i 30 [(.int .i64 zZ.1.fN),(.int .i64 zZ.1.fD)]] [] [stb zgY 30 [(.int .i64 z3q.1.fN),(.int .i64 z3q.1.fD)],fz ((z2n ++ z2M) ++ z36),row (.slice (some ⟨z52,0,none⟩) zp.length z3D) 51 3 (zp.flatMap e51),row (.slice (some ⟨z5S,0,none⟩) zw.1.length z4v) 3 1 (zw.1.flatMap e3),stb z31 30 [(.int .i64 zT.1.fN),(.int .i64 zT.1.fD)],stb z3i 30 [(.int .i64 zZ.1.fN),(.int .i64 zZ.1.fD)]]) .h1); exact y15 (Z:=_)  (z3E:=z9P) (z3F:=1) (r:=ziZ) w pz  zAc) ?_
              refine WD.e (i:=5) (d:=222) (by kernel_rfl) rfl (z8 (by kernel_rfl)) (za (by kernel_rfl)) rfl rfl rfl (y4 (cs:=[(.int .i64 z3q.1.fN),(.int .i64 z3q.1.fD)]) y5 rfl rfl (y8 .here)) ?_
              refine WD.c (i:=6) (d:=223) (by kernel_rfl) rfl (z8 (by kernel_rfl)) (za (by kernel_rfl)) rfl rfl rfl (zj (l:=[.tmp 221,.tmp 222]) Try.call18 (.cons rfl (.cons rfl .nil))) (fun w hw=>by have pz:=(hz.call2 hw (.nil : Sel [stb zgY 30 [(.int .i64 z3q.1.fN),(.int .i64 z3q.1.fD)],fz ((z2n ++ z2M) ++ z36),row (.slice (some ⟨z52,0,none⟩) zp.length z3D) 51 3 (zp.flatMap e51),row (.slice (some ⟨z5S,0,none⟩) zw.1.length z4v) 3 1 (zw.1.flatMap e3),stb z31 30 [(.int .i64 zT.1.fN),(.int .i64 zT.1.fD)],stb z3i 30 [(.int .i64 zZ.1.fN),(.int .i64 zZ.1.fD)]] [] [stb zgY 30 [(.int .i64 z3q.1.fN),(.int .i64 z3q.1.fD)],fz ((z2n ++ z2M) ++ z36),row (.slice (some ⟨z52,0,none⟩) zp.length z3D) 51 3 (zp.flatMap e51),row (.slice (some ⟨z5S,0,none⟩) zw.1.length z4v) 3 1 (zw.1.flatMap e3),stb z31 30 [(.int .i64 zT.1.fN),(.int .i64 zT.1.fD)],stb z3i 30 [(.int .i64 zZ.1.fN),(.int .i64 zZ.1.fD)]]) .h1); exact y26 (Z:=_)  (z29:=ziZ) (z2a:=z3q.1) (r:=znK) w pz  zAd) ?_
              refine WD.a (i:=7) (d:=224) (by kernel_rfl) rfl (z8 (by kernel_rfl)) (za (by kernel_rfl)) rfl rfl rfl (fun _=>y2F rfl rfl) ?_
              refine WD.a (i:=8) (d:=225) (by kernel_rfl) rfl (z8 (by kernel_rfl)) (za (by kernel_rfl)) rfl rfl rfl (fun _=>yr rfl rfl) ?_
              refine WD.yC (.cons .here (.cons .here (.cons .here (.cons .here (.cons .here (.cons .here .nil)))))) ?_ zrW
              exact (.cons rfl (.cons rfl (.cons rfl (.cons rfl (.cons rfl (.cons rfl (.cons rfl (.cons rfl (.cons rfl (.cons rfl (.cons rfl (.cons rfl (.cons rfl (.cons rfl (.cons rfl (.cons rfl (.cons rfl (.cons rfl (.cons (zr (Eq.symm zo3)) (.cons (zr zdo) .nil))))))))))))))))))))
            refine WD.done (by kernel_rfl) ?_
            refine WX.a ?_
            refine WC.cond rfl (fun zo4=>?_) (fun zo4=>?_)
            ·replace h:=yh h zo4
             refine WC.b ?_
             refine WC.a ?_
             refine WL.a (d:=16) rfl rfl rfl (q_z rfl) ?_
             refine WL.nil ?_
             refine WX.a ?_
             refine WC.ret ?_
             refine WX.yq ?_
             refine WX.y6 ?_
             refine WX.y6 ?_
             refine WX.yq ?_
             refine WX.y6 ?_
             obtain rfl:=Option.some.inj h
             refine WX.y7 Try.results3 (.tmp rfl .nil) (fun w hw=>?_)
             exact ⟨((z2n ++ z2M) ++ z36),yD rfl,trivial,hw.sub (.cons .h1 .nil)⟩
            ·replace h:=yi h zo4
             refine WC.skip ?_
             refine WX.yg ?_
             exact WX.mid (G:=Option Addr × Nat × Option Addr × Nat) ⟨(some ⟨z52,0,none⟩),z3D,(some ⟨z5S,0,none⟩),z4v⟩ h (.cons rfl (.cons rfl (.cons rfl (.cons rfl (.cons rfl (.cons rfl (.cons rfl .nil))))))) (.cons .h1 (.cons .h1 (.cons .h1 (.cons .h1 (.cons .h1 .nil)))))
         ·rintro zdm zdn zfd zfe h
          replace h:=zA5.symm.trans h
          refine WC.a ?_
          refine WL.a (d:=226) rfl rfl rfl (yW rfl rfl rfl) ?_
          refine WL.a (d:=175) rfl rfl rfl (q_m rfl) ?_
          refine WL.nil ?_
          exact WX.round (G:=Nat × Int × Option Addr × Nat × Option Addr × Nat) ⟨znH,(i64 (z1P + 1)),zdm,zdn,zfd,zfe⟩ h (Nat.lt_succ_self _) (.cons rfl (.cons rfl (.cons rfl (.cons rfl (.cons rfl (.cons rfl (.cons rfl .nil))))))) (.cons .here (.cons .here (.cons .here (.cons .here (.cons .here .nil)))))
        ·replace h:=yi h znX
         refine WC.exit ?_
         refine WX.ye ?_
         refine WX.ye ?_
         refine WX.yx ?_
         exact WX.mid (G:=Unit) () h .nil (.cons .here .nil)
       ·rintro  h
        replace h:=zA4.symm.trans h
        refine WC.b ?_
        obtain ⟨znO,zAe,h⟩:=ze h
        refine WC.a ?_
        refine WL.y2D (dd:=227) rfl rfl rfl (zj (l:=[]) Try.call17 .nil) (.nil : Sel [fz ((z2n ++ z2M) ++ z36)] [] [fz ((z2n ++ z2M) ++ z36)]) (fun w hw=>by have pz:=(hz.call2 hw (.nil : Sel [fz ((z2n ++ z2M) ++ z36)] [] [fz ((z2n ++ z2M) ++ z36)]) .here); exact y76 (Z:=_)   (r:=znO) w pz  zAe) ?_
        rintro zAf _
        refine WL.merge .here .here ?_
        refine WL.a (d:=16) rfl rfl rfl (q_z rfl) ?_
        refine WL.nil ?_
        refine WX.a ?_
        refine WC.ret ?_
        obtain rfl:=Option.some.inj h
        refine WX.y7 Try.results3 (.tmp rfl .nil) (fun w hw=>?_)
        exact ⟨(((z2n ++ z2M) ++ z36) ++ zAf),yD rfl,trivial,hw.sub (.cons .here .nil)⟩
end Go.Proofs.Ytakfmdiiehcbdaa

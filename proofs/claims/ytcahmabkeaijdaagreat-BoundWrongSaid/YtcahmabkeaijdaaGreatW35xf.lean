/- A part of this claim's proof: models of functions, walks, plain laws. No conditions. -/
import Derived.Test.YtcahmabkeaijdaaGreatW35xe
set_option linter.all false
namespace Go.Proofs.YtcahmabkeaijdaaGreat
open Go Go.RowKit Sep
set_option maxRecDepth 30000
set_option maxHeartbeats 4000000
theorem srtA_92 : ∀ w,(isAgg (Tryz.y3j.t 24)).run Tryz.prog w = .ok true w:=fun _=>by kernel_rfl
theorem srtZ_92 : ∀ w,(Go.sizeOf (Tryz.y3j.t 24)).run Tryz.prog w = .ok 3 w:=fun _=>by kernel_rfl
def y3S (z4B : List Sapi_End) (zl6 : Int) (zl7 : Int) (zhU : Int) (zeX : Sapi_End → Sapi_End → Option Int) : Option (List Sapi_End):=chk ((zl6 = 0 ∧ zl7 = ((z4B.length : Nat) : Int)) ∧ (0 ≤ zhU ∧ zhU < 4611686018427387904 ∧ z4B.length < 4611686018427387904)) (chk (y7h zeX (yZ zeX z4B) = true) (some (yZ zeX z4B)))
theorem y7x (Z : Zp) (zeY : Option Addr) (zeZ : Nat) (zl8 : FuncId) (zvs : List Value) (z4B : List Sapi_End) (zl6 : Int) (zl7 : Int) (zhU : Int) (zeX : Sapi_End → Sapi_End → Option Int) (r : List Sapi_End) (w₀ : World) (hz : PZ (fps [row (.slice zeY z4B.length zeZ) 79 3 (z4B.flatMap e79)]) w₀ Z)
  (zQy : ∀ args w,(callFunc zl8 args).run Tryz.prog w = .ok (.enter zl8 args) w)
  (zQz : ∀ w : World,PZ [] w Z → ∀ (x0 : Sapi_End) (x1 : Sapi_End) (r : Int),zeX x0 x1 = some r → Calls Tryz.prog zl8 (([(.agg #[(.int .i64 x0.fVL),(.int .i64 x0.fNode),(.int .i64 x0.fDelay)]),(.agg #[(.int .i64 x1.fVL),(.int .i64 x1.fNode),(.int .i64 x1.fDelay)])] : List Value) ++ zvs).toArray w fun e w'=>e = .returned (.int .i64 r) ∧ Hp [] w w' [])
  (h : y3S z4B zl6 zl7 zhU zeX = some r) (hown : Hp (fps [row (.slice zeY z4B.length zeZ) 79 3 (z4B.flatMap e79)]) w₀ w₀ [row (.slice zeY z4B.length zeZ) 79 3 (z4B.flatMap e79)]) :
  Calls Tryz.prog 92 #[(.slice zeY z4B.length zeZ),(.int .i64 zl6),(.int .i64 zl7),(.int .i64 zhU),(.func (.func zl8) #[] (zvs).toArray)] w₀ fun e w'=>e = .returned (.tuple #[]) ∧ (r.length = z4B.length) ∧ Hp (fps [row (.slice zeY z4B.length zeZ) 79 3 (z4B.flatMap e79)]) w₀ w' [row (.slice zeY r.length zeZ) 79 3 (r.flatMap e79)]:=by
 obtain ⟨h0,h⟩:=yn h
 obtain ⟨h1,h⟩:=yn h
 have hr:=(Option.some.inj h).symm
 exact y84 (P:=Tryz.prog) (f:=92) (e:=79) (k:=3) (enc:=e79) (fun _=>rfl) (by decide) ydz (fun β _ enc cf g cb hO blk off cap d0 w0 eg hC R=>Tryz.y87 3 srtA_92 srtZ_92 enc cf g cb hO blk off cap d0 w0 eg hC R) (Tryz.y7U (α:=Unit)) hz zQy zQz h0 h1 hr hown
def y1Y (z3Z : List Sapi_End) (zhV : Sapi_End → Sapi_End → Option Int) : Option (List Sapi_End) :=
 (y40 (u64 ((z3Z.length : Nat) : Int))).bind fun znW=>(y3S z3Z 0 ((z3Z.length : Nat) : Int) znW zhV).bind fun znX=>some znX
theorem y7b (Z : Zp) (zcT : Option Addr) (zcU : Nat) (zhW : FuncId) (znY : List Value) (z3Z : List Sapi_End) (zhV : Sapi_End → Sapi_End → Option Int) (r : List Sapi_End)
  (h : y1Y z3Z zhV = some r) (w₀ : World) (hz : PZ (fps [row (.slice zcT z3Z.length zcU) 79 3 (z3Z.flatMap e79)]) w₀ Z)
  (zQA : ∀ args w,(callFunc zhW args).run Tryz.prog w = .ok (.enter zhW args) w)
  (zQB : ∀ w : World,PZ [] w Z → ∀ (x0 : Sapi_End) (x1 : Sapi_End) (r : Int),zhV x0 x1 = some r → Calls Tryz.prog zhW (([(.agg #[(.int .i64 x0.fVL),(.int .i64 x0.fNode),(.int .i64 x0.fDelay)]),(.agg #[(.int .i64 x1.fVL),(.int .i64 x1.fNode),(.int .i64 x1.fDelay)])] : List Value) ++ znY).toArray w fun e w'=>e = .returned (.int .i64 r) ∧ Hp [] w w' [])
  (hown : Hp (fps [row (.slice zcT z3Z.length zcU) 79 3 (z3Z.flatMap e79)]) w₀ w₀ [row (.slice zcT z3Z.length zcU) 79 3 (z3Z.flatMap e79)]) :
  Calls Tryz.prog 53 #[(.slice zcT z3Z.length zcU),(.func (.func zhW) #[] (znY).toArray)] w₀ fun e w'=>e = .returned (.tuple #[]) ∧ (r.length = z3Z.length) ∧ Hp (fps [row (.slice zcT z3Z.length zcU) 79 3 (z3Z.flatMap e79)]) w₀ w' [row (.slice zcT r.length zcU) 79 3 (r.flatMap e79)]:=by
 unfold y1Y at h
 refine Calls.oh2 Tryz.func53 Tryz.ntmps53 hown ?_
 refine WC.b (WC.a (WL.pu rfl (WL.qA 6 (yG Tryz.underlying36 rfl) (WL.pu rfl (WL.nil (WX.a ?_))))))
 obtain ⟨znW,zQC,h⟩:=z6 h
 obtain ⟨znX,zQD,h⟩:=z6 h
 refine WC.a (WL.pu rfl (WL.pu rfl (WL.pu rfl (WL.qA 10 (y77 Tryz.underlying3 Tryz.underlying142 rfl rfl) (WL.cA 11 (z8 Tryz.call48 (.cons rfl .nil)) .nil (cc hz .nil fun w pz ho=>y7G (Z:=_)  (z6F:=(u64 ((z3Z.length : Nat) : Int))) (r:=znW) w pz  zQC) (WL.pu rfl (WL.y4R (dd:=13) rfl rfl rfl (z8 Tryz.call92 (.r5 rfl rfl rfl rfl rfl)) (.cons .here .nil) (cc hz (.cons .here .nil) fun w pz ho=>y7x (Z:=_) (zeY:=zcT) (zeZ:=zcU) (zl8:=zhW) (zvs:=znY) (z4B:=z3Z) (zl6:=0) (zl7:=((z3Z.length : Nat) : Int)) (zhU:=znW) (zeX:=zhV) (r:=znX) w pz zQA zQB zQD ho) ?_)))))))
 rintro  zDr
 refine WL.repin (i:=0) rfl (u:=(.slice zcT znX.length zcU)) (y5W zDr.symm) (WL.nil ?_)
 obtain rfl:=Option.some.inj h
 refine WX.y4Q Tryz.results53 .nil (fun w hw=>?_)
 exact ⟨y7f,(zDr.trans rfl),hw.sub (.cons .here .nil)⟩
def y45 (z26 : List Sapi_PortBound) (zaV : (List (Sbound_place × Int)) → Option (List Sapi_End)) : Nat → Int → (List (Sbound_place × Int)) → Option (List Sapi_End)
 | 0,_,_=>none
 | zvt + 1,z27,z6l=>if decide (z27 ≥ 0) then chk ((0 : Int) ≤ z27 ∧ z27 < ((z26.length : Nat) : Int)) (y45 z26 zaV zvt (i64 (z27 - 1)) (yL z6l (⟨((nth z26 z27).fNode),((nth z26 z27).fLink)⟩ : Sbound_place) ((nth z26 z27).fDelay))) else zaV z6l
theorem yaa {n : Nat} {z26 : List Sapi_PortBound} {zaV : (List (Sbound_place × Int)) → Option (List Sapi_End)} {z27 : Int} {z6l : List (Sbound_place × Int)} {r : List Sapi_End} (h : y45 z26 zaV n z27 z6l = some r) : ∃ m,n = m + 1:=by
 cases n with
 | zero=>cases h
 | succ m=>exact ⟨m,rfl⟩
def y46 (ze : List (List Sapi_Hop)) (zd : Int) (zh : Sapi_Config) (z1n : List (Sbound_place × Int)) (zaW : (List Sapi_End) → Option (List Sapi_End)) : Nat → (List Sapi_End) → Int → (List (Int × Int)) → Option (List Sapi_End)
 | 0,_,_,_=>none
 | zvu + 1,z2w,zn,zN=>if decide (zn < (((nth ze zd).length : Nat) : Int)) then jp2 (fun (z7X : List Sapi_End) (zaX : List (Int × Int))=>y46 ze zd zh z1n zaW zvu z7X (i64 (zn + 1)) zaX) fun zl9=>chk ((0 : Int) ≤ zn ∧ zn < (((nth ze zd).length : Nat) : Int)) (chk ((y2K zN ((nth (nth ze zd) zn).fNext)) = false → ((0 : Int) ≤ 0 ∧ 0 < (((nth ze zd).length : Nat) : Int))) (if (y2K zN ((nth (nth ze zd) zn).fNext)) || (decide (((nth (nth ze zd) zn).fNext) = ((nth (nth ze zd) 0).fNode))) then zl9 z2w zN else (y3Y (⟨((nth (nth ze zd) zn).fNode),((nth (nth ze zd) zn).fNext),((nth (nth ze zd) zn).fLink)⟩ : Sapi_Hop)).bind fun z5O=>if (decide (((nth (nth ze zd) zn).fNext) ≥ 0)) && (decide (((nth (nth ze zd) zn).fNext) < ((zh.fModules.length : Nat) : Int))) then chk ((((z2w ++ ([(⟨zd,((nth (nth ze zd) zn).fNext),(yq (yL zN ((nth (nth ze zd) zn).fNext) (i64 ((yq zN ((nth (nth ze zd) zn).fNode) 0) + (yq z1n z5O 0)))) ((nth (nth ze zd) zn).fNext) 0)⟩ : Sapi_End)] : List Sapi_End)).length : Nat) : Int) * 24 ≤ 140737488355328 ∧ (((z2w ++ ([(⟨zd,((nth (nth ze zd) zn).fNext),(yq (yL zN ((nth (nth ze zd) zn).fNext) (i64 ((yq zN ((nth (nth ze zd) zn).fNode) 0) + (yq z1n z5O 0)))) ((nth (nth ze zd) zn).fNext) 0)⟩ : Sapi_End)] : List Sapi_End)).length : Nat) : Int) ≤ 4611686018427387904) (zl9 (z2w ++ ([(⟨zd,((nth (nth ze zd) zn).fNext),(yq (yL zN ((nth (nth ze zd) zn).fNext) (i64 ((yq zN ((nth (nth ze zd) zn).fNode) 0) + (yq z1n z5O 0)))) ((nth (nth ze zd) zn).fNext) 0)⟩ : Sapi_End)] : List Sapi_End)) (yL zN ((nth (nth ze zd) zn).fNext) (i64 ((yq zN ((nth (nth ze zd) zn).fNode) 0) + (yq z1n z5O 0))))) else zl9 z2w (yL zN ((nth (nth ze zd) zn).fNext) (i64 ((yq zN ((nth (nth ze zd) zn).fNode) 0) + (yq z1n z5O 0)))))) else zaW z2w
theorem yab {n : Nat} {ze : List (List Sapi_Hop)} {zd : Int} {zh : Sapi_Config} {z1n : List (Sbound_place × Int)} {zaW : (List Sapi_End) → Option (List Sapi_End)} {z2w : List Sapi_End} {zn : Int} {zN : List (Int × Int)} {r : List Sapi_End} (h : y46 ze zd zh z1n zaW n z2w zn zN = some r) : ∃ m,n = m + 1:=by
 cases n with
 | zero=>cases h
 | succ m=>exact ⟨m,rfl⟩
def y47 (ze : List (List Sapi_Hop)) (zh : Sapi_Config) (z1n : List (Sbound_place × Int)) (zaY : (List Sapi_End) → Option (List Sapi_End)) : Nat → (List Sapi_End) → Int → Option (List Sapi_End)
 | 0,_,_=>none
 | zvv + 1,z1K,zd=>if decide (zd < ((ze.length : Nat) : Int)) then jp1 (fun (z7Y : List Sapi_End)=>y47 ze zh z1n zaY zvv z7Y (i64 (zd + 1))) fun zvw=>chk ((0 : Int) ≤ zd ∧ zd < ((ze.length : Nat) : Int)) (jp1 (fun (z8J : List Sapi_End)=>(y1Y z8J (fun (y0 : Sapi_End) (y1 : Sapi_End)=>y2T y0 y1)).bind fun zf0=>chk ((((z1K ++ zf0).length : Nat) : Int) * 24 ≤ 140737488355328 ∧ (((z1K ++ zf0).length : Nat) : Int) ≤ 4611686018427387904) (zvw (z1K ++ zf0))) fun zaW=>y46 ze zd zh z1n zaW yz ([] : List Sapi_End) 0 ([] : List (Int × Int))) else zaY z1K
theorem yac {n : Nat} {ze : List (List Sapi_Hop)} {zh : Sapi_Config} {z1n : List (Sbound_place × Int)} {zaY : (List Sapi_End) → Option (List Sapi_End)} {z1K : List Sapi_End} {zd : Int} {r : List Sapi_End} (h : y47 ze zh z1n zaY n z1K zd = some r) : ∃ m,n = m + 1:=by
 cases n with
 | zero=>cases h
 | succ m=>exact ⟨m,rfl⟩
def y6G (zh : Sapi_Config) (ze : List (List Sapi_Hop)) (z26 : List Sapi_PortBound) : Option (List Sapi_End) :=
 (yX ze (fun (y0 : List Sapi_Hop)=>y3O y0)).bind fun zDs=>if zDs then some ([] : List Sapi_End) else jp1 (fun (z1n : List (Sbound_place × Int))=>jp1 (fun (z8K : List Sapi_End)=>some z8K) fun zaY=>y47 ze zh z1n zaY yz ([] : List Sapi_End) 0) fun zaV=>y45 z26 zaV yz (i64 (((z26.length : Nat) : Int) - 1)) ([] : List (Sbound_place × Int))
theorem ydF (Z : Zp) (z8L : Option Addr) (z8M : Nat) (z8N : Option Addr) (z8O : Nat) (z8P : Option Addr) (z8Q : Nat) (z8R : Option Addr) (z8S : Nat) (z8T : Option Addr) (z8U : Nat) (z8V : Option Addr) (z8W : Nat) (z8X : Option Addr) (z8Y : Nat) (z8Z : Option Addr) (z90 : Nat) (z91 : Option Addr) (z92 : Nat) (zvx : Option Addr) (zvy : Nat) (zh : Sapi_Config) (ze : List (List Sapi_Hop)) (z26 : List Sapi_PortBound) (r : List Sapi_End)
  (h : y6G zh ze z26 = some r) (w₀ : World) (hz : PZ [] w₀ Z)
  (zYQ : ZS Z 4 (y4e Z) z8L z8M zh.fModules)
  (zYR : ZS Z 4 (y4M Z) z8N z8O zh.fChannels)
  (zYS : ZS Z 4 (fun r x=>r = e66 x) z8P z8Q zh.fSwitches)
  (zYT : ZS Z 4 (fun r x=>r = e64 x) z8R z8S zh.fLinks)
  (zYU : ZS Z 7 (p46 Z) z8T z8U zh.fVLs)
  (zYV : ZS Z 5 (fun r x=>r = y4Z x) z8V z8W zh.fHealth)
  (zYW : ZS Z 3 (y4N Z) z8X z8Y zh.fCauses)
  (zYX : ZS Z 4 (fun r x=>r = y50 x) z8Z z90 zh.fVersions)
  (zDt : ZS Z 1 (p48 Z) z91 z92 ze)
  (zvz : ZS Z 4 (fun r x=>r = e58 x) zvx zvy z26) :
  Calls Tryz.prog 26 #[(.agg #[(.slice z8L zh.fModules.length z8M),(.slice z8N zh.fChannels.length z8O),(.slice z8P zh.fSwitches.length z8Q),(.slice z8R zh.fLinks.length z8S),(.slice z8T zh.fVLs.length z8U),(.slice z8V zh.fHealth.length z8W),(.slice z8X zh.fCauses.length z8Y),(.slice z8Z zh.fVersions.length z90)]),(.slice z91 ze.length z92),(.slice zvx z26.length zvy)] w₀ fun e w'=>∃ zDu : Option Addr,∃ zDv : Nat,e = .returned (.slice zDu r.length zDv) ∧ True ∧ Hp [] w₀ w' [row (.slice zDu r.length zDv) 79 3 (r.flatMap e79)]:=by
 unfold y6G at h
 refine Calls.on3 Tryz.func26 Tryz.ntmps26 ?_
 refine WC.b (WC.a (WL.nA 3 (yH (cs:=[(.slice z8L zh.fModules.length z8M),(.slice z8N zh.fChannels.length z8O),(.slice z8P zh.fSwitches.length z8Q),(.slice z8R zh.fLinks.length z8S),(.slice z8T zh.fVLs.length z8U),(.slice z8V zh.fHealth.length z8W),(.slice z8X zh.fCauses.length z8Y),(.slice z8Z zh.fVersions.length z90)]) rfl rfl) ?_))
 intro z5t _
 refine WL.pu rfl (WL.nil (WX.a (WC.b (WC.b ?_))))
 obtain ⟨zDs,zQE,h⟩:=z6 h
 refine WC.a (WL.pu rfl (WL.cA 19 (z8 Tryz.call27 (.r2 rfl rfl)) .nil (cc hz .nil fun w pz ho=>y3T _ _ _ (zdn:=51) (ziY:=[]) _ (zdm:=(fun (y0 : List Sapi_Hop)=>y3O y0)) _ zQE w pz zDt Tryz.call51 (fun w' hz' y0 ga0 gc0 r gh0 hr=>ycF _ _ _ _ _ hr w' hz' gh0)) (WL.nil (WX.a (WC.cond rfl (fun zvA=>?_) (fun zvA=>?_))))))
 ·replace h:=yo h zvA
  refine WC.b (WC.a (WL.pu rfl (WL.nil (WX.a (WC.ret (WX.yd (WX.nilRow 79 3 ?_)))))))
  obtain rfl:=Option.some.inj h
  refine WX.ye Tryz.results26 (.tmp rfl .nil) (fun w hw=>?_)
  exact ⟨none,0,yC rfl,trivial,hw.sub (.cons .here .nil)⟩
 ·replace h:=yp h zvA
  refine WC.skip (WX.a (WC.b (WC.a (WL.nA 20 (y4o (fun x=>Value.agg (e97 x).toArray) (Value.int .i64)) ?_))))
  intro z5u _
  refine WL.pu rfl (WL.nil (WX.a ?_))
  obtain ⟨zaV,zQF,h⟩:=y1d h
  refine WC.y4m (fun (z1n : List (Sbound_place × Int))=>(zaV z1n = some r)) (fun z1n=>[(1,(.slice z91 ze.length z92)),(3,(.pointer (some ⟨z5t,0,none⟩))),(7,(.map (some z5u)))]) (fun z1n=>[stb z5t 31 [(.slice z8L zh.fModules.length z8M),(.slice z8N zh.fChannels.length z8O),(.slice z8P zh.fSwitches.length z8Q),(.slice z8R zh.fLinks.length z8S),(.slice z8T zh.fVLs.length z8U),(.slice z8V zh.fHealth.length z8W),(.slice z8X zh.fCauses.length z8Y),(.slice z8Z zh.fVersions.length z90)],yy z5u (fun x=>Value.agg (e97 x).toArray) (Value.int .i64) z1n]) ?_ ?_
  ·skip
   refine WC.b (WC.a (WL.pu rfl (WL.qA 22 (yG Tryz.underlying35 rfl) (WL.pu rfl (WL.pu rfl (WL.nil (WX.a (WC.block (WC.y9U (fun (zhX : Nat) (z27 : Int) (z6l : List (Sbound_place × Int))=>(y45 z26 zaV zhX z27 z6l = some r)) (fun zhX z27 z6l=>[(1,(.slice z91 ze.length z92)),(2,(.slice zvx z26.length zvy)),(3,(.pointer (some ⟨z5t,0,none⟩))),(7,(.map (some z5u))),(8,(.int .i64 z27))]) (fun zhX z27 z6l=>[stb z5t 31 [(.slice z8L zh.fModules.length z8M),(.slice z8N zh.fChannels.length z8O),(.slice z8P zh.fSwitches.length z8Q),(.slice z8R zh.fLinks.length z8S),(.slice z8T zh.fVLs.length z8U),(.slice z8V zh.fHealth.length z8W),(.slice z8X zh.fCauses.length z8Y),(.slice z8Z zh.fVersions.length z90)],yy z5u (fun x=>Value.agg (e97 x).toArray) (Value.int .i64) z6l]) (fun zhX z27 z6l=>zhX) ⟨yz,(i64 (((z26.length : Nat) : Int) - 1)),([] : List (Sbound_place × Int))⟩ h (.r5 rfl rfl rfl rfl rfl) (.s2 .h1 .here) ?_)))))))))
   rintro zhX z27 z6l h
   obtain ⟨zvt,rfl⟩:=yaa h
   rw [y45] at h
   refine WC.b (WC.b (WC.a (WL.pu rfl (WL.pu rfl (WL.nil (WX.a (WC.cond rfl (fun zvB=>?_) (fun zvB=>?_))))))))
   ·replace h:=yo h zvB
    refine WC.skip (WX.a (WC.b (WC.block ?_)))
    obtain ⟨zvC,h⟩:=yn h
    refine WC.yO (fun i=>[17].contains i) [] rfl (WD.pA 0 28 rfl (fun _=>q_m rfl) (WD.pA 1 29 rfl (fun _=>q_m rfl) (WD.pA 2 30 rfl (fun _=>q_m rfl) (WD.znth (j:=3) (dd:=31) (by kernel_rfl) rfl z2j z2k rfl rfl (Z:=Z) (Pr:=(fun r x=>r = e58 x)) y66 rfl rfl zvz zvC ?_))))
    rintro zYY zYZ zQG zZ0 rfl
    refine WD.pA 4 32 rfl (fun _=>ya ycw rfl rfl) (WD.qA 5 33 rfl (yc yx rfl (y1k hz.pv zQG rfl)) (WD.pA 6 34 rfl (fun _=>q_m rfl) (WD.pA 7 35 rfl (fun _=>q_m rfl) (WD.znth (j:=8) (dd:=36) (by kernel_rfl) rfl z2j z2k rfl rfl (Z:=Z) (Pr:=(fun r x=>r = e58 x)) y66 rfl rfl zvz zvC ?_))))
    rintro zZ1 zZ2 zQH zZ3 rfl
    refine WD.pA 9 37 rfl (fun _=>ya ycx rfl rfl) (WD.qA 10 38 rfl (yc yx rfl (y1k hz.pv zQH rfl)) (WD.pA 11 39 rfl (fun _=>yI (v:=(.agg #[(.int .i64 ((nth z26 z27).fNode)),(.int .i64 ((nth z26 z27).fLink))])) (Eos.parts (l:=[.tmp 33,.tmp 38]) (.r2 rfl rfl) [0,1]) (fun _=>by kernel_rfl)) (WD.pA 12 40 rfl (fun _=>q_m rfl) (WD.pA 13 41 rfl (fun _=>q_m rfl) (WD.znth (j:=14) (dd:=42) (by kernel_rfl) rfl z2j z2k rfl rfl (Z:=Z) (Pr:=(fun r x=>r = e58 x)) y66 rfl rfl zvz zvC ?_)))))
    rintro zZ4 zZ5 zQI zZ6 rfl
    refine WD.pA 15 43 rfl (fun _=>ya fo_58_2 rfl rfl) (WD.qA 16 44 rfl (yc yx rfl (y1k hz.pv zQI rfl)) (WD.y3l (i:=17) rfl (by kernel_rfl) rfl rfl rfl (by kernel_rfl) (y5z (k:=(⟨((nth z26 z27).fNode),((nth z26 z27).fLink)⟩ : Sbound_place)) (v:=((nth z26 z27).fDelay)) y7s Tryz.underlying93 rfl rfl rfl rfl .h1) (WD.done (by kernel_rfl) (WX.yk (WX.a (WC.a (WL.pu rfl (WL.pu rfl (WL.pu rfl (WL.nil ?_))))))))))
    exact WX.round ⟨zvt,(i64 (z27 - 1)),(yL z6l (⟨((nth z26 z27).fNode),((nth z26 z27).fLink)⟩ : Sbound_place) ((nth z26 z27).fDelay))⟩ h (Nat.lt_succ_self _) (.r5 rfl rfl rfl rfl rfl) (.s2 .h1 .here)
   ·replace h:=yp h zvB
    refine WC.exit (WX.yg (WX.yg (WX.yA ?_)))
    exact WX.mid z6l h (.r3 rfl rfl rfl) (.s2 .here .here)
  ·rintro z1n h
   replace h:=(zQF z1n).symm.trans h
   refine WC.b (WC.a (WL.pu rfl (WL.nil (WX.a ?_))))
   obtain ⟨zaY,zQJ,h⟩:=y1d h
   refine WC.y2u (fun (z8K : List Sapi_End) (zhY : Option Addr) (zhZ : Nat)=>(zaY z8K = some r)) (fun z8K zhY zhZ=>[(9,(.slice zhY z8K.length zhZ))]) (fun z8K zhY zhZ=>[row (.slice zhY z8K.length zhZ) 79 3 (z8K.flatMap e79)]) ?_ ?_
   ·skip
    refine WC.b (WC.a (WL.pu rfl (WL.qA 46 (yG Tryz.underlying32 rfl) (WL.pu rfl (WL.nil (WX.a (WC.block (WC.nilRow 79 3 (WC.y5V (fun (zi0 : Nat) (z1K : List Sapi_End) (zd : Int) (z5P : Option Addr) (z5Q : Nat)=>(y47 ze zh z1n zaY zi0 z1K zd = some r)) (fun zi0 z1K zd z5P z5Q=>[(3,(.pointer (some ⟨z5t,0,none⟩))),(7,(.map (some z5u))),(9,(.slice z5P z1K.length z5Q)),(45,(.slice z91 ze.length z92)),(46,(.int .i64 ((ze.length : Nat) : Int))),(47,(.int .i64 zd))]) (fun zi0 z1K zd z5P z5Q=>[row (.slice z5P z1K.length z5Q) 79 3 (z1K.flatMap e79),stb z5t 31 [(.slice z8L zh.fModules.length z8M),(.slice z8N zh.fChannels.length z8O),(.slice z8P zh.fSwitches.length z8Q),(.slice z8R zh.fLinks.length z8S),(.slice z8T zh.fVLs.length z8U),(.slice z8V zh.fHealth.length z8W),(.slice z8X zh.fCauses.length z8Y),(.slice z8Z zh.fVersions.length z90)],yy z5u (fun x=>Value.agg (e97 x).toArray) (Value.int .i64) z1n]) (fun zi0 z1K zd z5P z5Q=>zi0) ⟨yz,([] : List Sapi_End),0,none,0⟩ h (.r6 rfl rfl rfl rfl rfl rfl) (.s3 .here .here .here) ?_)))))))))
    rintro zi0 z1K zd z5P z5Q h
    obtain ⟨zvv,rfl⟩:=yac h
    rw [y47] at h
    refine WC.b (WC.a (WL.pu rfl (WL.nil (WX.a (WC.b (WC.cond rfl (fun zvD=>?_) (fun zvD=>?_)))))))
    ·replace h:=yo h zvD
     refine WC.skip (WX.a ?_)
     obtain ⟨zvw,zQK,h⟩:=y1d h
     refine WC.y2u (fun (z7Y : List Sapi_End) (zi1 : Option Addr) (zi2 : Nat)=>(zvw z7Y = some r)) (fun z7Y zi1 zi2=>[(3,(.pointer (some ⟨z5t,0,none⟩))),(7,(.map (some z5u))),(9,(.slice zi1 z7Y.length zi2)),(45,(.slice z91 ze.length z92)),(46,(.int .i64 ((ze.length : Nat) : Int))),(47,(.int .i64 zd))]) (fun z7Y zi1 zi2=>[row (.slice zi1 z7Y.length zi2) 79 3 (z7Y.flatMap e79),stb z5t 31 [(.slice z8L zh.fModules.length z8M),(.slice z8N zh.fChannels.length z8O),(.slice z8P zh.fSwitches.length z8Q),(.slice z8R zh.fLinks.length z8S),(.slice z8T zh.fVLs.length z8U),(.slice z8V zh.fHealth.length z8W),(.slice z8X zh.fCauses.length z8Y),(.slice z8Z zh.fVersions.length z90)],yy z5u (fun x=>Value.agg (e97 x).toArray) (Value.int .i64) z1n]) ?_ ?_
     ·skip
      refine WC.block (WC.b ?_)
      obtain ⟨zQL,h⟩:=yn h
      refine WC.a (WL.pu rfl (WL.znth (dd:=50) rfl rfl (Z:=Z) (Pr:=(p48 Z)) y6z rfl rfl zDt zQL ?_))
      rintro zZ7 zZ8 zQM zZ9 ⟨zi3,zi4,rfl,zDw⟩
      refine WL.qA 51 (yc y6P rfl (y57 hz.pv zQM rfl)) (WL.pu rfl (WL.pu rfl (WL.nil (WX.a (WC.b (WC.a (WL.nA 52 (y4o (Value.int .i64) (Value.int .i64)) ?_)))))))
      intro zi5 _
      refine WL.pu rfl (WL.nil (WX.a (WC.b (WC.a (WL.pu rfl (WL.nil (WX.a ?_)))))))
      obtain ⟨zaW,zQN,h⟩:=y1d h
      refine WC.y2u (fun (z8J : List Sapi_End) (zi6 : Option Addr) (zi7 : Nat)=>(zaW z8J = some r)) (fun z8J zi6 zi7=>[(3,(.pointer (some ⟨z5t,0,none⟩))),(7,(.map (some z5u))),(9,(.slice z5P z1K.length z5Q)),(13,(.slice zi6 z8J.length zi7)),(45,(.slice z91 ze.length z92)),(46,(.int .i64 ((ze.length : Nat) : Int))),(47,(.int .i64 zd))]) (fun z8J zi6 zi7=>[row (.slice z5P z1K.length z5Q) 79 3 (z1K.flatMap e79),row (.slice zi6 z8J.length zi7) 79 3 (z8J.flatMap e79),stb z5t 31 [(.slice z8L zh.fModules.length z8M),(.slice z8N zh.fChannels.length z8O),(.slice z8P zh.fSwitches.length z8Q),(.slice z8R zh.fLinks.length z8S),(.slice z8T zh.fVLs.length z8U),(.slice z8V zh.fHealth.length z8W),(.slice z8X zh.fCauses.length z8Y),(.slice z8Z zh.fVersions.length z90)],yy z5u (fun x=>Value.agg (e97 x).toArray) (Value.int .i64) z1n]) ?_ ?_
      ·skip
       refine WC.b (WC.a (WL.pu rfl (WL.qA 54 (yG Tryz.underlying48 rfl) (WL.pu rfl (WL.nil (WX.a (WC.block (WC.nilRow 79 3 (WC.ybA (fun (zi8 : Nat) (z2w : List Sapi_End) (zn : Int) (zN : List (Int × Int)) (z93 : Option Addr) (z94 : Nat)=>(y46 ze zd zh z1n zaW zi8 z2w zn zN = some r)) (fun zi8 z2w zn zN z93 z94=>[(3,(.pointer (some ⟨z5t,0,none⟩))),(7,(.map (some z5u))),(9,(.slice z5P z1K.length z5Q)),(10,(.int .i64 zd)),(11,(.slice zi3 ((nth ze zd).length) zi4)),(12,(.map (some zi5))),(13,(.slice z93 z2w.length z94)),(45,(.slice z91 ze.length z92)),(46,(.int .i64 ((ze.length : Nat) : Int))),(47,(.int .i64 zd)),(53,(.slice zi3 ((nth ze zd).length) zi4)),(54,(.int .i64 (((nth ze zd).length : Nat) : Int))),(55,(.int .i64 zn))]) (fun zi8 z2w zn zN z93 z94=>[row (.slice z5P z1K.length z5Q) 79 3 (z1K.flatMap e79),row (.slice z93 z2w.length z94) 79 3 (z2w.flatMap e79),stb z5t 31 [(.slice z8L zh.fModules.length z8M),(.slice z8N zh.fChannels.length z8O),(.slice z8P zh.fSwitches.length z8Q),(.slice z8R zh.fLinks.length z8S),(.slice z8T zh.fVLs.length z8U),(.slice z8V zh.fHealth.length z8W),(.slice z8X zh.fCauses.length z8Y),(.slice z8Z zh.fVersions.length z90)],yy z5u (fun x=>Value.agg (e97 x).toArray) (Value.int .i64) z1n,yy zi5 (Value.int .i64) (Value.int .i64) zN]) (fun zi8 z2w zn zN z93 z94=>zi8) ⟨yz,([] : List Sapi_End),0,([] : List (Int × Int)),none,0⟩ h (.r13 rfl rfl rfl rfl rfl rfl rfl rfl rfl rfl rfl rfl rfl) (.s5 .h2 .here .h1 .h1 .here) ?_)))))))))
       rintro zi8 z2w zn zN z93 z94 h
       obtain ⟨zvu,rfl⟩:=yab h
       rw [y46] at h
       refine WC.b (WC.a (WL.pu rfl (WL.nil (WX.a (WC.b (WC.cond rfl (fun zvE=>?_) (fun zvE=>?_)))))))
       ·replace h:=yo h zvE
        refine WC.skip (WX.a ?_)
        obtain ⟨zl9,zQO,h⟩:=y3W h
        refine WC.y8t (fun (z7X : List Sapi_End) (zaX : List (Int × Int)) (zi9 : Option Addr) (zia : Nat)=>(zl9 z7X zaX = some r)) (fun z7X zaX zi9 zia=>[(3,(.pointer (some ⟨z5t,0,none⟩))),(7,(.map (some z5u))),(9,(.slice z5P z1K.length z5Q)),(10,(.int .i64 zd)),(11,(.slice zi3 ((nth ze zd).length) zi4)),(12,(.map (some zi5))),(13,(.slice zi9 z7X.length zia)),(45,(.slice z91 ze.length z92)),(46,(.int .i64 ((ze.length : Nat) : Int))),(47,(.int .i64 zd)),(53,(.slice zi3 ((nth ze zd).length) zi4)),(54,(.int .i64 (((nth ze zd).length : Nat) : Int))),(55,(.int .i64 zn))]) (fun z7X zaX zi9 zia=>[row (.slice z5P z1K.length z5Q) 79 3 (z1K.flatMap e79),row (.slice zi9 z7X.length zia) 79 3 (z7X.flatMap e79),stb z5t 31 [(.slice z8L zh.fModules.length z8M),(.slice z8N zh.fChannels.length z8O),(.slice z8P zh.fSwitches.length z8Q),(.slice z8R zh.fLinks.length z8S),(.slice z8T zh.fVLs.length z8U),(.slice z8V zh.fHealth.length z8W),(.slice z8X zh.fCauses.length z8Y),(.slice z8Z zh.fVersions.length z90)],yy z5u (fun x=>Value.agg (e97 x).toArray) (Value.int .i64) z1n,yy zi5 (Value.int .i64) (Value.int .i64) zaX]) ?_ ?_
        ·skip
         refine WC.block (WC.b ?_)
         obtain ⟨zQP,h⟩:=yn h
         refine WC.a (WL.znth (dd:=57) rfl rfl (Z:=Z) (Pr:=(fun r x=>r = e62 x)) y5H rfl rfl zDw zQP ?_)
         rintro zQQ zZa zQR zZb rfl
         refine WL.qA 58 (yf y3H rfl (y2v hz.pv zQR) rfl) (WL.nA 15 (yw (cs:=[(.int .i64 0),(.int .i64 0),(.int .i64 0)]) y6B rfl) ?_)
         intro zDx _
         refine WL.yj rfl rfl (yl y6Q rfl rfl rfl .here rfl rfl rfl) (WL.nil (WX.a (WC.b (WC.b (WC.a (WL.pu rfl (WL.qA 61 (ya y5I rfl rfl) (WL.qA 62 (yc yx rfl (ym .here rfl)) (WL.qA 63 (yfl (k:=((nth (nth ze zd) zn).fNext)) (dflt:=(0 : Int)) y5h Tryz.underlying145 y4V rfl rfl rfl .h5) (WL.pu rfl (WL.pu rfl (WL.pu rfl (WL.pu rfl (WL.pu rfl (WL.nil (WX.a (WC.b ?_)))))))))))))))))
         obtain ⟨zQS,h⟩:=yn h
         refine WC.yO (fun i=>[].contains i) [] rfl (WD.pA 0 66 rfl (fun _=>q_m rfl) (WD.pA 1 67 rfl (fun _=>q_m rfl) (WD.mid (fuel':=0) [(3,(.pointer (some ⟨z5t,0,none⟩))),(7,(.map (some z5u))),(9,(.slice z5P z1K.length z5Q)),(10,(.int .i64 zd)),(11,(.slice zi3 ((nth ze zd).length) zi4)),(12,(.map (some zi5))),(13,(.slice z93 z2w.length z94)),(45,(.slice z91 ze.length z92)),(46,(.int .i64 ((ze.length : Nat) : Int))),(47,(.int .i64 zd)),(53,(.slice zi3 ((nth ze zd).length) zi4)),(54,(.int .i64 (((nth ze zd).length : Nat) : Int))),(55,(.int .i64 zn)),(56,(.bool (decide (zn < (((nth ze zd).length : Nat) : Int))))),(57,(.pointer (some zQQ))),(58,(.agg #[(.int .i64 ((nth (nth ze zd) zn).fNode)),(.int .i64 ((nth (nth ze zd) zn).fNext)),(.int .i64 ((nth (nth ze zd) zn).fLink))])),(15,(.pointer (some ⟨zDx,0,none⟩))),(60,(.map (some zi5))),(61,(.pointer (some ⟨zDx,1,none⟩))),(62,(.int .i64 ((nth (nth ze zd) zn).fNext))),(63,(.tuple #[(.int .i64 (yq zN ((nth (nth ze zd) zn).fNext) 0)),(.bool (y2K zN ((nth (nth ze zd) zn).fNext)))])),(59,(.tuple #[(.int .i64 (yq zN ((nth (nth ze zd) zn).fNext) 0)),(.bool (y2K zN ((nth (nth ze zd) zn).fNext)))])),(64,(.int .i64 (yq zN ((nth (nth ze zd) zn).fNext) 0))),(65,(.bool (y2K zN ((nth (nth ze zd) zn).fNext)))),(16,(.int .i64 (yq zN ((nth (nth ze zd) zn).fNext) 0))),(17,(.bool (y2K zN ((nth (nth ze zd) zn).fNext)))),(66,(.bool (y2K zN ((nth (nth ze zd) zn).fNext)))),(67,(.bool (y2K zN ((nth (nth ze zd) zn).fNext)))),(75,(.bool ((y2K zN ((nth (nth ze zd) zn).fNext)) || (decide (((nth (nth ze zd) zn).fNext) = ((nth (nth ze zd) 0).fNode))))))] (y4h 10 [9,8,7,6,5,4,3,2,1,0]) ?_ (fun zDy=>?_))))
         rotate_left
         ·rcases Bool.eq_false_or_eq_true (y2K zN ((nth (nth ze zd) zn).fNext)) with hb' | hb'
          ·have zvF:=hb'; clear hb'
           refine WD.pin (i:=67) rfl zvF (WD.kA 2 68 rfl (WD.kA 3 69 rfl (WD.kA 4 70 rfl (WD.kA 5 71 rfl (WD.kA 6 72 rfl (WD.kA 7 73 rfl (WD.kA 8 74 rfl (WD.pA 9 75 rfl (fun _=>y3E rfl rfl) (WD.reL (.s6 .here .here .here .here .here .here) ?_ zDy)))))))))
           exact (.cons rfl (.cons rfl (.cons rfl (.cons rfl (.cons rfl (.cons rfl (.cons rfl (.cons rfl (.cons rfl (.cons rfl (.cons rfl (.cons rfl (.cons rfl (.cons rfl (.cons rfl (.cons rfl (.cons rfl (.cons rfl (.cons rfl (.cons rfl (.cons rfl (.cons rfl (.cons rfl (.cons rfl (.cons rfl (.cons rfl (.cons rfl (.cons (zB (Eq.symm zvF)) (.cons (zB (y6v zvF)) .nil)))))))))))))))))))))))))))))
          ·have znZ:=hb'; clear hb'
           have zQT:=zQS znZ
           refine WD.pin (i:=67) rfl znZ (WD.pA 2 68 rfl (fun _=>ya y5I rfl rfl) (WD.qA 3 69 rfl (yc yx rfl (ym .here rfl)) (WD.pA 4 70 rfl (fun _=>q_m rfl) (WD.znth (j:=5) (dd:=71) (by kernel_rfl) rfl z2j z2k rfl rfl (Z:=Z) (Pr:=(fun r x=>r = e62 x)) y5H rfl rfl zDw zQT ?_))))
           rintro zZc zZd zQU zZe rfl
           refine WD.pA 6 72 rfl (fun _=>ya y4U rfl rfl) (WD.qA 7 73 rfl (yc yx rfl (y1k hz.pv zQU rfl)) (WD.pA 8 74 rfl (fun _=>y9T rfl rfl) (WD.pA 9 75 rfl (fun _=>y3F rfl rfl) (WD.reL (.s6 .here .here .here .here .here .here) ?_ zDy))))
           exact (.cons rfl (.cons rfl (.cons rfl (.cons rfl (.cons rfl (.cons rfl (.cons rfl (.cons rfl (.cons rfl (.cons rfl (.cons rfl (.cons rfl (.cons rfl (.cons rfl (.cons rfl (.cons rfl (.cons rfl (.cons rfl (.cons rfl (.cons rfl (.cons rfl (.cons rfl (.cons rfl (.cons rfl (.cons rfl (.cons rfl (.cons rfl (.cons (zB (Eq.symm znZ)) (.cons (zB (y6w znZ)) .nil)))))))))))))))))))))))))))))
         refine WD.done (by kernel_rfl) (WX.a (WC.cond rfl (fun zvG=>?_) (fun zvG=>?_)))
         ·replace h:=yo h zvG
          refine WC.exit (WX.yg (WX.yA ?_))
          exact WX.mid ⟨z2w,zN,z93,z94⟩ h (.r13 rfl rfl rfl rfl rfl rfl rfl rfl rfl rfl rfl rfl rfl) (.s5 .h1 .h1 .h1 .h1 .h1)
         ·replace h:=yp h zvG
          refine WC.skip (WX.a (WC.b ?_))
          obtain ⟨z5O,zQV,h⟩:=z6 h
          refine WC.yO (fun i=>[12].contains i) [] rfl (WD.pA 0 76 rfl (fun _=>q_m rfl) (WD.pA 1 77 rfl (fun _=>ya y5I rfl rfl) (WD.qA 2 78 rfl (yc yx rfl (ym .here rfl)) (WD.pA 3 79 rfl (fun _=>q_m rfl) (WD.pA 4 80 rfl (fun _=>ya y4U rfl rfl) (WD.qA 5 81 rfl (yc yx rfl (ym .here rfl)) (WD.qA 6 82 rfl (y3m (k:=((nth (nth ze zd) zn).fNode)) (dflt:=(0 : Int)) y5h Tryz.underlying145 y4V rfl rfl rfl .h5) (WD.pA 7 83 rfl (fun _=>q_m rfl) (WD.qA 8 84 rfl (yf y3H rfl (yh .here) rfl) (WD.eA 9 85 rfl (z8 Tryz.call40 (.cons rfl .nil)) (cc hz .nil fun w pz ho=>y5l _ _ _ zQV w pz ) (WD.qA 10 86 rfl (y3m (k:=z5O) (dflt:=(0 : Int)) y7s Tryz.underlying93 y4V rfl rfl rfl .h4) (WD.pA 11 87 rfl (fun _=>ybS rfl rfl rfl) (WD.y3l (i:=12) rfl (by kernel_rfl) rfl rfl rfl (by kernel_rfl) (y5z (k:=((nth (nth ze zd) zn).fNext)) (v:=i64 ((yq zN ((nth (nth ze zd) zn).fNode) 0) + (yq z1n z5O 0))) y5h Tryz.underlying145 rfl rfl rfl rfl .h5) (WD.done (by kernel_rfl) (WX.a (WC.b (WC.a (WL.qA 88 (ya y5I rfl rfl) (WL.qA 89 (yc yx rfl (ym .h1 rfl)) (WL.pu rfl (WL.pu rfl (WL.seg true 6 91 (B:=(decide (((nth (nth ze zd) zn).fNext) ≥ 0)) && (decide (((nth (nth ze zd) zn).fNext) < ((zh.fModules.length : Nat) : Int)))) rfl rfl rfl rfl rfl rfl (fun h=>(y2O h).symm) (fun _ zQW=>?_) ?_))))))))))))))))))))))
          ·skip
           refine WL.qA 92 (ya y5I rfl rfl) (WL.qA 93 (yc yx rfl (ym .h1 rfl)) (WL.qA 94 (ya y6N rfl rfl) (WL.qA 95 (yc y6O rfl (ym .h4 rfl)) (WL.qA 96 (yG Tryz.underlying22 rfl) (WL.pu rfl (WL.pu rfl ?_))))))
           exact WL.yB (y2P zQW) rfl rfl .all
          refine WL.nil (WX.a (WC.cond rfl (fun zvH=>?_) (fun zvH=>?_)))
          ·replace h:=yo h zvH
           obtain ⟨zQX,h⟩:=yn h
           refine WC.a (WL.pu rfl (WL.pu rfl (WL.qA 101 (ya y5I rfl rfl) (WL.qA 102 (yc yx rfl (ym .h1 rfl)) (WL.pu rfl (WL.qA 104 (ya y5I rfl rfl) (WL.qA 105 (yc yx rfl (ym .h1 rfl)) (WL.qA 106 (y3m (k:=((nth (nth ze zd) zn).fNext)) (dflt:=(0 : Int)) y5h Tryz.underlying145 y4V rfl rfl rfl .here) (WL.qA 107 (yI (v:=(.agg #[(.int .i64 zd),(.int .i64 ((nth (nth ze zd) zn).fNext)),(.int .i64 (yq (yL zN ((nth (nth ze zd) zn).fNext) (i64 ((yq zN ((nth (nth ze zd) zn).fNode) 0) + (yq z1n z5O 0)))) ((nth (nth ze zd) zn).fNext) 0))])) (Eos.parts (l:=[.tmp 100,.tmp 102,.tmp 106]) (.r3 rfl rfl rfl) [0,1,2]) (fun _=>by kernel_rfl)) (WL.nA 108 (yN (cs:=([(⟨zd,((nth (nth ze zd) zn).fNext),(yq (yL zN ((nth (nth ze zd) zn).fNext) (i64 ((yq zN ((nth (nth ze zd) zn).fNode) 0) + (yq z1n z5O 0)))) ((nth (nth ze zd) zn).fNext) 0)⟩ : Sapi_End)] : List Sapi_End).flatMap e79) y9F (Eos.parts (l:=[.tmp 107]) (.cons rfl .nil) [0]) (fun _=>by kernel_rfl) rfl (by unfold maxLen; omega)) ?_))))))))))
           intro zZf _
           refine WL.fA 109 (y4S (enc:=e79) (l1:=z2w) (l2:=([(⟨zd,((nth (nth ze zd) zn).fNext),(yq (yL zN ((nth (nth ze zd) zn).fNext) (i64 ((yq zN ((nth (nth ze zd) zn).fNode) 0) + (yq z1n z5O 0)))) ((nth (nth ze zd) zn).fNext) 0)⟩ : Sapi_End)] : List Sapi_End)) y9F rfl rfl .h4 (fun _=>rfl) rfl rfl (y3C .here) (y5d ydz _) zQX) ?_
           rintro ⟨zQY,zQZ⟩ _
           refine WL.pu rfl (WL.nil (WX.yk ?_))
           exact WX.mid ⟨(z2w ++ ([(⟨zd,((nth (nth ze zd) zn).fNext),(yq (yL zN ((nth (nth ze zd) zn).fNext) (i64 ((yq zN ((nth (nth ze zd) zn).fNode) 0) + (yq z1n z5O 0)))) ((nth (nth ze zd) zn).fNext) 0)⟩ : Sapi_End)] : List Sapi_End)),(yL zN ((nth (nth ze zd) zn).fNext) (i64 ((yq zN ((nth (nth ze zd) zn).fNode) 0) + (yq z1n z5O 0)))),zQY,zQZ⟩ h (.r13 rfl rfl rfl rfl rfl rfl rfl rfl rfl rfl rfl rfl rfl) (.s5 .h4 .here .h3 .h3 .h1)
          ·replace h:=yp h zvH
           refine WC.skip (WX.yk ?_)
           exact WX.mid ⟨z2w,(yL zN ((nth (nth ze zd) zn).fNext) (i64 ((yq zN ((nth (nth ze zd) zn).fNode) 0) + (yq z1n z5O 0)))),z93,z94⟩ h (.r13 rfl rfl rfl rfl rfl rfl rfl rfl rfl rfl rfl rfl rfl) (.s5 .h2 .h2 .h2 .h2 .here)
        ·rintro z7X zaX zi9 zia h
         replace h:=(zQO z7X zaX).symm.trans h
         refine WC.a (WL.pu rfl (WL.pu rfl (WL.nil ?_)))
         exact WX.round ⟨zvu,z7X,(i64 (zn + 1)),zaX,zi9,zia⟩ h (Nat.lt_succ_self _) (.r13 rfl rfl rfl rfl rfl rfl rfl rfl rfl rfl rfl rfl rfl) (.s5 .here .here .here .here .here)
       ·replace h:=yp h zvE
        refine WC.exit (WX.yg (WX.yg (WX.yA ?_)))
        exact WX.mid ⟨z2w,z93,z94⟩ h (.r7 rfl rfl rfl rfl rfl rfl rfl) (.s4 .here .here .here .here)
      ·rintro z8J zi6 zi7 h
       replace h:=(zQN z8J).symm.trans h
       refine WC.b ?_
       obtain ⟨zf0,zR0,h⟩:=z6 h
       refine WC.a (WL.pu rfl (WL.y4R (dd:=112) rfl rfl rfl (z8 Tryz.call53 (.r2 rfl rfl)) (.cons .h1 .nil) (cc hz (.cons .h1 .nil) fun w pz ho=>y7b _ _ _ (zhW:=54) (znY:=[]) _ (zhV:=(fun (y0 : Sapi_End) (y1 : Sapi_End)=>y2T y0 y1)) _ zR0 w pz Tryz.call54 (fun w' hz' y0 y1  r  hr=>ycG _ _ _ _ hr w' hz' ) ho) ?_))
       rintro  zR1
       refine WL.repin (i:=13) rfl (u:=(.slice zi6 zf0.length zi7)) (y5W zR1.symm) (WL.nil (WX.a ?_))
       obtain ⟨zR2,h⟩:=yn h
       refine WC.a (WL.pu rfl (WL.pu rfl (WL.fA 115 (y4S (enc:=e79) (l1:=z1K) (l2:=zf0) y9F rfl rfl .h1 (fun _=>rfl) rfl rfl (y3C .here) (y5d ydz _) zR2) ?_)))
       rintro ⟨zR3,zR4⟩ _
       refine WL.pu rfl (WL.nil (WX.yk ?_))
       exact WX.mid ⟨(z1K ++ zf0),zR3,zR4⟩ h (.r6 rfl rfl rfl rfl rfl rfl) (.s3 .here .h1 .h1)
     ·rintro z7Y zi1 zi2 h
      replace h:=(zQK z7Y).symm.trans h
      refine WC.a (WL.pu rfl (WL.pu rfl (WL.nil ?_)))
      exact WX.round ⟨zvv,z7Y,(i64 (zd + 1)),zi1,zi2⟩ h (Nat.lt_succ_self _) (.r6 rfl rfl rfl rfl rfl rfl) (.s3 .here .here .here)
    ·replace h:=yp h zvD
     refine WC.exit (WX.yg (WX.yg (WX.yA ?_)))
     exact WX.mid ⟨z1K,z5P,z5Q⟩ h (.cons rfl .nil) (.cons .here .nil)
   ·rintro z8K zhY zhZ h
    replace h:=(zQJ z8K).symm.trans h
    refine WC.b (WC.a (WL.pu rfl (WL.pu rfl (WL.nil (WX.a (WC.ret ?_))))))
    obtain rfl:=Option.some.inj h
    refine WX.ye Tryz.results26 (.tmp rfl .nil) (fun w hw=>?_)
    exact ⟨zhY,zhZ,yC rfl,trivial,hw.sub (.cons .here .nil)⟩
def y2m (z3E : List Sbound_place × Int) (zr : Sapi_Config) (z3F : List (List Sapi_Hop)) (zaZ : (List Sapi_PortBound) → Option (S37 × Int)) : Nat → Int → Int → (List Sapi_PortBound) → (List (Sbound_flow × z1)) → (List (Sbound_place × Int)) → Option (S37 × Int)
 | 0,_,_,_,_,_=>none
 | zvI + 1,z40,z95,z3k,z96,z97=>if decide (z40 < ((z3E.1.length : Nat) : Int)) then chk ((0 : Int) ≤ z40 ∧ z40 < ((z3E.1.length : Nat) : Int)) ((y4H zr z3F z96 z97 z95 (⟨((nth z3E.1 z40).fNode),((nth z3E.1 z40).fLink)⟩ : Sbound_place)).bind fun z4C=>chk ((((z3k ++ ([z4C.1] : List Sapi_PortBound)).length : Nat) : Int) * 32 ≤ 140737488355328 ∧ (((z3k ++ ([z4C.1] : List Sapi_PortBound)).length : Nat) : Int) ≤ 4611686018427387904) (if decide (z4C.2.1 ≠ 0) then some ((⟨([] : List Sapi_PortBound),([] : List Sapi_End)⟩ : S37),z4C.2.1) else y2m z3E zr z3F zaZ zvI (i64 (z40 + 1)) z4C.2.1 (z3k ++ ([z4C.1] : List Sapi_PortBound)) z4C.2.2.1 z4C.2.2.2)) else zaZ z3k
theorem y97 {n : Nat} {z3E : List Sbound_place × Int} {zr : Sapi_Config} {z3F : List (List Sapi_Hop)} {zaZ : (List Sapi_PortBound) → Option (S37 × Int)} {z40 : Int} {z95 : Int} {z3k : List Sapi_PortBound} {z96 : List (Sbound_flow × z1)} {z97 : List (Sbound_place × Int)} {r : S37 × Int} (h : y2m z3E zr z3F zaZ n z40 z95 z3k z96 z97 = some r) : ∃ m,n = m + 1:=by
 cases n with
 | zero=>cases h
 | succ m=>exact ⟨m,rfl⟩
def y23 (zr : Sapi_Config) (zo0 : Int) (z3F : List (List Sapi_Hop)) : Option (S37 × Int) :=
 (y4v zr zo0 z3F).bind fun zDz=>if !zDz then some ((⟨([] : List Sapi_PortBound),([] : List Sapi_End)⟩ : S37),310) else (y1Q zr.fVLs (fun (y0 : Sapi_VL)=>y2w y0)).bind fun zDA=>if zDA then some ((⟨([] : List Sapi_PortBound),([] : List Sapi_End)⟩ : S37),350) else (y4B z3F).bind fun z3E=>if decide (z3E.2 ≠ 0) then some ((⟨([] : List Sapi_PortBound),([] : List Sapi_End)⟩ : S37),z3E.2) else jp1 (fun (z98 : List Sapi_PortBound)=>(y1f z98 (fun (y0 : Sapi_PortBound) (y1 : Sapi_PortBound)=>y1V y0 y1)).bind fun zla=>(y6G zr z3F zla).bind fun zvJ=>some ((⟨zla,zvJ⟩ : S37),0)) fun zaZ=>y2m z3E zr z3F zaZ yz 0 0 ([] : List Sapi_PortBound) ([] : List (Sbound_flow × z1)) ([] : List (Sbound_place × Int))
theorem y5t (Z : Zp) (zcV : Option Addr) (zcW : Nat) (zcX : Option Addr) (zcY : Nat) (zcZ : Option Addr) (zd0 : Nat) (zd1 : Option Addr) (zd2 : Nat) (zd3 : Option Addr) (zd4 : Nat) (zd5 : Option Addr) (zd6 : Nat) (zd7 : Option Addr) (zd8 : Nat) (zd9 : Option Addr) (zda : Nat) (zf1 : Option Addr) (zf2 : Nat) (zr : Sapi_Config) (zo0 : Int) (z3F : List (List Sapi_Hop)) (r : S37 × Int)
  (h : y23 zr zo0 z3F = some r) (w₀ : World) (hz : PZ [] w₀ Z)
  (zvK : ZS Z 4 (y4e Z) zcV zcW zr.fModules)
  (zvL : ZS Z 4 (y4M Z) zcX zcY zr.fChannels)
  (zvM : ZS Z 4 (fun r x=>r = e66 x) zcZ zd0 zr.fSwitches)
  (zvN : ZS Z 4 (fun r x=>r = e64 x) zd1 zd2 zr.fLinks)
  (zo1 : ZS Z 7 (p46 Z) zd3 zd4 zr.fVLs)
  (zvO : ZS Z 5 (fun r x=>r = y4Z x) zd5 zd6 zr.fHealth)
  (zvP : ZS Z 3 (y4N Z) zd7 zd8 zr.fCauses)
  (zvQ : ZS Z 4 (fun r x=>r = y50 x) zd9 zda zr.fVersions)
  (zo2 : ZS Z 1 (p48 Z) zf1 zf2 z3F) :
  Calls Tryz.prog 10 #[(.agg #[(.slice zcV zr.fModules.length zcW),(.slice zcX zr.fChannels.length zcY),(.slice zcZ zr.fSwitches.length zd0),(.slice zd1 zr.fLinks.length zd2),(.slice zd3 zr.fVLs.length zd4),(.slice zd5 zr.fHealth.length zd6),(.slice zd7 zr.fCauses.length zd8),(.slice zd9 zr.fVersions.length zda)]),(.int .i64 zo0),(.slice zf1 z3F.length zf2)] w₀ fun e w'=>∃ zDB : Option Addr,∃ zDC : Nat,∃ zDD : Option Addr,∃ zDE : Nat,e = .returned (.tuple #[(.agg #[(.slice zDB r.1.fPorts.length zDC),(.slice zDD r.1.fEnds.length zDE)]),(.int .i64 r.2)]) ∧ True ∧ Hp [] w₀ w' [row (.slice zDB r.1.fPorts.length zDC) 58 4 (r.1.fPorts.flatMap e58),row (.slice zDD r.1.fEnds.length zDE) 79 3 (r.1.fEnds.flatMap e79)]:=by
 unfold y23 at h
 refine Calls.on3 Tryz.func10 Tryz.ntmps10 ?_
 refine WC.b (WC.a (WL.nA 3 (yH (cs:=[(.slice zcV zr.fModules.length zcW),(.slice zcX zr.fChannels.length zcY),(.slice zcZ zr.fSwitches.length zd0),(.slice zd1 zr.fLinks.length zd2),(.slice zd3 zr.fVLs.length zd4),(.slice zd5 zr.fHealth.length zd6),(.slice zd7 zr.fCauses.length zd8),(.slice zd9 zr.fVersions.length zda)]) rfl rfl) ?_))
 intro zo3 _
 refine WL.nA 6 (yw (cs:=[(.slice none 0 0),(.slice none 0 0)]) y6A rfl) ?_
 intro zo4 _
 refine WL.pu rfl (WL.nil (WX.a (WC.b (WC.b ?_))))
 obtain ⟨zDz,zR5,h⟩:=z6 h
 refine WC.a (WL.qA 14 (yf y2z rfl (yh .h1) rfl) (WL.pu rfl (WL.pu rfl (WL.cA 17 (z8 Tryz.call12 (.r3 rfl rfl rfl)) .nil (cc hz .nil fun w pz ho=>y9e _ _ _ _ _ _ _ _ _ _ _ _ _ _ _ _ _ _ _ _ _ _ _ zR5 w pz zvK zvL zvM zvN zo1 zvO zvP zvQ zo2) (WL.pu rfl (WL.nil (WX.a (WC.cond rfl (fun zvR=>?_) (fun zvR=>?_)))))))))
 ·replace h:=yo h zvR
  refine WC.b (WC.a (WL.qA 19 (yI (v:=(.agg #[(.slice none 0 0),(.slice none 0 0)])) (Eos.parts (l:=[]) .nil []) (fun _=>by kernel_rfl)) (WL.yj rfl rfl (yl y5J rfl rfl rfl .here rfl rfl rfl) (WL.pu rfl (WL.nil (WX.a (WC.ret (WX.yd (WX.nilRow 58 4 (WX.nilRow 79 3 ?_))))))))))
  obtain rfl:=Option.some.inj h
  refine WX.ye Tryz.results10 (.agg rfl y7r rfl (yh .h2) (.tmp rfl .nil)) (fun w hw=>?_)
  exact ⟨none,0,none,0,y1Z rfl rfl,trivial,hw.sub (.s2 .h1 .here)⟩
 ·replace h:=yp h zvR
  refine WC.skip (WX.a (WC.b (WC.b ?_)))
  obtain ⟨zDA,zR6,h⟩:=z6 h
  refine WC.a (WL.qA 20 (ya y2R rfl rfl) (WL.qA 21 (yc y3z rfl (ym .h1 rfl)) (WL.cA 22 (z8 Tryz.call18 (.r2 rfl rfl)) .nil (cc hz .nil fun w pz ho=>y6T _ _ _ (zfw:=19) (zm5:=[]) _ (zfv:=(fun (y0 : Sapi_VL)=>y2w y0)) _ zR6 w pz zo1 Tryz.call19 (fun w' hz' y0 ga0 gc0 r gh0 hr=>ybk _ _ _ _ _ hr w' hz' gh0)) (WL.nil (WX.a (WC.cond rfl (fun zvS=>?_) (fun zvS=>?_)))))))
  ·replace h:=yo h zvS
   refine WC.b (WC.a (WL.qA 23 (yI (v:=(.agg #[(.slice none 0 0),(.slice none 0 0)])) (Eos.parts (l:=[]) .nil []) (fun _=>by kernel_rfl)) (WL.yj rfl rfl (yl y5J rfl rfl rfl .here rfl rfl rfl) (WL.pu rfl (WL.nil (WX.a (WC.ret (WX.yd (WX.nilRow 58 4 (WX.nilRow 79 3 ?_))))))))))
   obtain rfl:=Option.some.inj h
   refine WX.ye Tryz.results10 (.agg rfl y7r rfl (yh .h2) (.tmp rfl .nil)) (fun w hw=>?_)
   exact ⟨none,0,none,0,y1Z rfl rfl,trivial,hw.sub (.s2 .h1 .here)⟩
  ·replace h:=yp h zvS
   refine WC.skip (WX.a (WC.b ?_))
   obtain ⟨z3E,zR7,h⟩:=z6 h
   refine WC.a (WL.pu rfl (WL.y4b (dd:=26) rfl rfl rfl (z8 Tryz.call21 (.cons rfl .nil)) .nil (cc hz .nil fun w pz ho=>yap _ _ _ _ _ zR7 w pz zo2) ?_))
   rintro zDF zDG _
   refine WL.pu rfl (WL.pu rfl (WL.pu rfl (WL.pu rfl (WL.pu rfl (WL.nil (WX.a (WC.b (WC.b (WC.a (WL.pu rfl (WL.pu rfl (WL.nil (WX.a (WC.cond rfl (fun zvT=>?_) (fun zvT=>?_)))))))))))))))
   ·replace h:=yo h zvT
    refine WC.b (WC.a (WL.qA 31 (yI (v:=(.agg #[(.slice none 0 0),(.slice none 0 0)])) (Eos.parts (l:=[]) .nil []) (fun _=>by kernel_rfl)) (WL.pu rfl (WL.yj rfl rfl (yl y5J rfl rfl rfl .h1 rfl rfl rfl) (WL.pu rfl (WL.nil (WX.a (WC.ret (WX.yd (WX.nilRow 58 4 (WX.nilRow 79 3 ?_)))))))))))
    obtain rfl:=Option.some.inj h
    refine WX.ye Tryz.results10 (.agg rfl y7r rfl (yh .h2) (.tmp rfl .nil)) (fun w hw=>?_)
    exact ⟨none,0,none,0,y1Z rfl rfl,trivial,hw.sub (.s2 .h1 .here)⟩
   ·replace h:=yp h zvT
    refine WC.skip (WX.a (WC.b (WC.a (WL.qA 33 (yf y2z rfl (yh .h2) rfl) (WL.pu rfl (WL.nA 35 (y4o (fun x=>Value.agg (y2k x).toArray) (fun x=>Value.agg (yu x).toArray)) ?_))))))
    intro zo5 _
    refine WL.nA 36 (y4o (fun x=>Value.agg (e97 x).toArray) (Value.int .i64)) ?_
    intro zo6 _
    refine WL.qA 37 (yI (v:=(.agg #[(.slice zcV zr.fModules.length zcW),(.slice zcX zr.fChannels.length zcY),(.slice zcZ zr.fSwitches.length zd0),(.slice zd1 zr.fLinks.length zd2),(.slice zd3 zr.fVLs.length zd4),(.slice zd5 zr.fHealth.length zd6),(.slice zd7 zr.fCauses.length zd8),(.slice zd9 zr.fVersions.length zda),(.slice zf1 z3F.length zf2),(.map (some zo5)),(.map (some zo6)),(.int .i64 0)])) (Eos.parts (l:=[.tmp 33,.tmp 34,.tmp 35,.tmp 36,.const (.int .i64 0)]) (.r5 rfl rfl rfl rfl rfl) [0,1,2,3,4]) (fun _=>by kernel_rfl)) (WL.nA 38 (yH (cs:=[(.slice zcV zr.fModules.length zcW),(.slice zcX zr.fChannels.length zcY),(.slice zcZ zr.fSwitches.length zd0),(.slice zd1 zr.fLinks.length zd2),(.slice zd3 zr.fVLs.length zd4),(.slice zd5 zr.fHealth.length zd6),(.slice zd7 zr.fCauses.length zd8),(.slice zd9 zr.fVersions.length zda),(.slice zf1 z3F.length zf2),(.map (some zo5)),(.map (some zo6)),(.int .i64 0)]) rfl rfl) ?_)
    intro zvU _
    refine WL.pu rfl (WL.nil (WX.a (WC.b (WC.a (WL.nA 11 (yw (cs:=[(.slice none 0 0),(.slice none 0 0)]) y6A rfl) ?_)))))
    intro zlb _
    refine WL.nil (WX.a ?_)
    obtain ⟨zaZ,zR8,h⟩:=y1d h
    refine WC.y2u (fun (z98 : List Sapi_PortBound) (zdb : Option Addr) (zdc : Nat)=>(zaZ z98 = some r)) (fun z98 zdb zdc=>[(2,(.slice zf1 z3F.length zf2)),(3,(.pointer (some ⟨zo3,0,none⟩))),(6,(.pointer (some ⟨zo4,0,none⟩))),(11,(.pointer (some ⟨zlb,0,none⟩)))]) (fun z98 zdb zdc=>[stb zo3 31 [(.slice zcV zr.fModules.length zcW),(.slice zcX zr.fChannels.length zcY),(.slice zcZ zr.fSwitches.length zd0),(.slice zd1 zr.fLinks.length zd2),(.slice zd3 zr.fVLs.length zd4),(.slice zd5 zr.fHealth.length zd6),(.slice zd7 zr.fCauses.length zd8),(.slice zd9 zr.fVersions.length zda)],stb zo4 38 [(.slice none 0 0),(.slice none 0 0)],stb zlb 38 [(.slice zdb z98.length zdc),(.slice none 0 0)],row (.slice zdb z98.length zdc) 58 4 (z98.flatMap e58)]) ?_ ?_
    ·skip
     refine WC.b (WC.a (WL.pu rfl (WL.qA 40 (yG Tryz.underlying88 rfl) (WL.pu rfl (WL.nil (WX.a (WC.block (WC.nilRow 58 4 (WC.y9W (fun (zib : Nat) (z40 : Int) (z95 : Int) (z3k : List Sapi_PortBound) (z96 : List (Sbound_flow × z1)) (z97 : List (Sbound_place × Int)) (zdd : Option Addr) (zde : Nat)=>(y2m z3E zr z3F zaZ zib z40 z95 z3k z96 z97 = some r)) (fun zib z40 z95 z3k z96 z97 zdd zde=>[(2,(.slice zf1 z3F.length zf2)),(3,(.pointer (some ⟨zo3,0,none⟩))),(6,(.pointer (some ⟨zo4,0,none⟩))),(10,(.pointer (some ⟨zvU,0,none⟩))),(11,(.pointer (some ⟨zlb,0,none⟩))),(39,(.slice zDF z3E.1.length zDG)),(40,(.int .i64 ((z3E.1.length : Nat) : Int))),(41,(.int .i64 z40))]) (fun zib z40 z95 z3k z96 z97 zdd zde=>[row (.slice zDF z3E.1.length zDG) 97 2 (z3E.1.flatMap e97),stb zo3 31 [(.slice zcV zr.fModules.length zcW),(.slice zcX zr.fChannels.length zcY),(.slice zcZ zr.fSwitches.length zd0),(.slice zd1 zr.fLinks.length zd2),(.slice zd3 zr.fVLs.length zd4),(.slice zd5 zr.fHealth.length zd6),(.slice zd7 zr.fCauses.length zd8),(.slice zd9 zr.fVersions.length zda)],stb zo4 38 [(.slice none 0 0),(.slice none 0 0)],stb zvU 95 [(.slice zcV zr.fModules.length zcW),(.slice zcX zr.fChannels.length zcY),(.slice zcZ zr.fSwitches.length zd0),(.slice zd1 zr.fLinks.length zd2),(.slice zd3 zr.fVLs.length zd4),(.slice zd5 zr.fHealth.length zd6),(.slice zd7 zr.fCauses.length zd8),(.slice zd9 zr.fVersions.length zda),(.slice zf1 z3F.length zf2),(.map (some zo5)),(.map (some zo6)),(.int .i64 z95)],stb zlb 38 [(.slice zdd z3k.length zde),(.slice none 0 0)],row (.slice zdd z3k.length zde) 58 4 (z3k.flatMap e58),yy zo5 (fun x=>Value.agg (y2k x).toArray) (fun x=>Value.agg (yu x).toArray) z96,yy zo6 (fun x=>Value.agg (e97 x).toArray) (Value.int .i64) z97]) (fun zib z40 z95 z3k z96 z97 zdd zde=>zib) ⟨yz,0,0,([] : List Sapi_PortBound),([] : List (Sbound_flow × z1)),([] : List (Sbound_place × Int)),none,0⟩ h (.r8 rfl rfl rfl rfl rfl rfl rfl rfl) (.s8 .h5 .h6 .h5 .h2 .h1 .here .h1 .here) ?_)))))))))
     rintro zib z40 z95 z3k z96 z97 zdd zde h
     obtain ⟨zvI,rfl⟩:=y97 h
     rw [y2m] at h
     refine WC.b (WC.a (WL.pu rfl (WL.nil (WX.a (WC.b (WC.cond rfl (fun zvV=>?_) (fun zvV=>?_)))))))
     ·replace h:=yo h zvV
      refine WC.skip (WX.a (WC.b (WC.block (WC.b ?_))))
      obtain ⟨zlc,h⟩:=yn h
      refine WC.a (WL.know (fun w hw=>Hp.y2j .here hw (by intro hz'; have:=zlc; rw [hz'] at this; omega)) ?_)
      rintro ⟨zZg,rfl⟩
      refine WL.qA 43 (yV y5i rfl rfl zlc.1 zlc.2 y32) (WL.qA 44 (yT (cs:=(e97 (nth z3E.1 z40))) y3I rfl rfl (y49 .here (y3y (enc:=e97) (l:=z3E.1) (i:=z40) (sz:=2) (fun _=>rfl) zlc.1 zlc.2))) (WL.nA 13 (yw (cs:=[(.int .i64 0),(.int .i64 0)]) y8N rfl) ?_))
      intro zZh _
      refine WL.yj rfl rfl (yl yba rfl rfl rfl .here rfl rfl rfl) (WL.nil (WX.a (WC.b ?_)))
      obtain ⟨z4C,zR9,h⟩:=z6 h
      obtain ⟨zRa,h⟩:=yn h
      refine WC.yO (fun i=>[4,6,8].contains i) [y71 zlb 38 [(0,(.slice zdd z3k.length zde))]] rfl (WD.pA 0 45 rfl (fun _=>ya y6c rfl rfl) (WD.sA 1 46 rfl (Sin.wk (.cons .h5 .nil) (.stb (.cons rfl .nil) .nil)) (yc y6S rfl (y5e .here (.head _))) (WD.pA 2 47 rfl (fun _=>q_m rfl) (WD.qA 3 48 rfl (yf y3I rfl (yh .here) rfl) (WD.call0 (i:=4) (dd:=49) rfl (by kernel_rfl) rfl rfl rfl (.inl ⟨rfl,(Sin.wk (.cons .h7 .nil) (.stb (.cons rfl .nil) .nil))⟩) (z8 Tryz.call22 (.r2 rfl rfl)) (.s3 .h4 .h6 .h6) (cc hz (.s3 .h4 .h6 .h6) fun w pz ho=>Calls.mono (ybn _ _ _ _ _ _ _ _ _ _ _ _ _ _ _ _ _ _ _ _ _ _ _ _ _ _ _ _ _ zR9 w pz zvK zvL zvM zvN zo1 zvO zvP zvQ zo2 ho) (fun _ _ h'=>⟨h'.1,trivial,h'.2⟩)) ?_)))))
      intro _
      refine WD.new (i:=5) (dd:=50) rfl (by kernel_rfl) rfl rfl rfl (yN (cs:=([z4C.1] : List Sapi_PortBound).flatMap e58) y66 (Eos.parts (l:=[.tmp 49]) (.cons rfl .nil) [0]) (fun _=>by kernel_rfl) rfl (by unfold maxLen; omega)) (fun h'=>absurd h' (by decide)) ?_
      intro zZi _
      refine WD.old (i:=6) (dd:=51) rfl (by kernel_rfl) rfl rfl rfl rfl (fun _=>(Sin.wk (.cons (.there (.there .h7)) .nil) (.stb (.cons rfl .nil) .nil))) (y4S (enc:=e58) (l1:=z3k) (l2:=([z4C.1] : List Sapi_PortBound)) y66 rfl rfl (.there (.there .h7)) (fun _=>rfl) rfl rfl (y3C .here) (y5d ydy _) zRa) ?_
      rintro ⟨zDH,zDI⟩ _
      refine WD.pA 7 52 rfl (fun _=>ya y6c rfl rfl) (WD.y3l (i:=8) rfl (by kernel_rfl) rfl rfl rfl (by kernel_rfl) (y4y (ds:=[(.slice zDH ((z3k ++ ([z4C.1] : List Sapi_PortBound)).length) zDI),(.slice none 0 0)]) sizT_35 rfl rfl rfl rfl rfl (.there (.there .h7)) rfl rfl) (WD.done (by kernel_rfl) (WX.a (WC.b (WC.a (WL.pu rfl (WL.qA 54 (y13 rfl) (WL.qA 55 (ya y8I rfl rfl) (WL.qA 56 (yc y2Z rfl (ym .h3 rfl)) (WL.pu rfl (WL.nil (WX.a (WC.cond rfl (fun zvW=>?_) (fun zvW=>?_))))))))))))))
      ·replace h:=yo h zvW
       refine WC.b (WC.yO (fun i=>[5].contains i) [y71 zvU 95 [(11,(.int .i64 z4C.2.1))]] rfl (WD.pA 0 58 rfl (fun _=>yI (v:=(.agg #[(.slice none 0 0),(.slice none 0 0)])) (Eos.parts (l:=[]) .nil []) (fun _=>by kernel_rfl)) (WD.pA 1 59 rfl (fun _=>q_m rfl) (WD.pA 2 60 rfl (fun _=>y13 rfl) (WD.pA 3 61 rfl (fun _=>ya y8I rfl rfl) (WD.sA 4 62 rfl (Sin.wk (.cons .h3 .nil) (.stb (.cons rfl .nil) .nil)) (yc y2Z rfl (y5e .here (.head _))) (WD.forced0 (i:=5) rfl (by kernel_rfl) rfl rfl rfl (Sin.wk (.cons .h4 .nil) (.stb (.cons rfl .nil) .nil)) (yl y5J rfl rfl rfl (.there (.there .h7)) rfl rfl rfl) (WD.pA 6 7 rfl (fun _=>q_z rfl) (WD.done (by kernel_rfl) (WX.a (WC.ret (WX.yt (WX.yd (WX.yd (WX.yt (WX.yd (WX.nilRow 58 4 (WX.nilRow 79 3 ?_))))))))))))))))))
       obtain rfl:=Option.some.inj h
       refine WX.ye Tryz.results10 (.agg rfl y7r rfl (yh .h2) (.tmp rfl .nil)) (fun w hw=>?_)
       exact ⟨none,0,none,0,y1Z rfl rfl,trivial,hw.sub (.s2 .h1 .here)⟩
      ·replace h:=yp h zvW
       refine WC.skip (WX.yk (WX.a (WC.a (WL.pu rfl (WL.pu rfl (WL.nil ?_))))))
       exact WX.round ⟨zvI,(i64 (z40 + 1)),z4C.2.1,(z3k ++ ([z4C.1] : List Sapi_PortBound)),z4C.2.2.1,z4C.2.2.2,zDH,zDI⟩ h (Nat.lt_succ_self _) (.r8 rfl rfl rfl rfl rfl rfl rfl rfl) (.s8 .h7 .h7 .h7 .h3 .here .here .h1 .h1)
     ·replace h:=yp h zvV
      refine WC.exit (WX.yg (WX.yg (WX.yA ?_)))
      exact WX.mid ⟨z3k,zdd,zde⟩ h (.r4 rfl rfl rfl rfl) (.s4 .h1 .h1 .h2 .h2)
    ·rintro z98 zdb zdc h
     replace h:=(zR8 z98).symm.trans h
     refine WC.b ?_
     obtain ⟨zla,zRb,h⟩:=z6 h
     refine WC.a (WL.qA 64 (ya y6c rfl rfl) (WL.qA 65 (yc y6S rfl (ym .h2 rfl)) (WL.y4R (dd:=66) rfl rfl rfl (z8 Tryz.call23 (.r2 rfl rfl)) (.cons .h3 .nil) (cc hz (.cons .h3 .nil) fun w pz ho=>y5s _ _ _ (zhS:=24) (znU:=[]) _ (zhR:=(fun (y0 : Sapi_PortBound) (y1 : Sapi_PortBound)=>y1V y0 y1)) _ zRb w pz Tryz.call24 (fun w' hz' y0 y1  r  hr=>ybo _ _ _ _ hr w' hz' ) ho) ?_)))
     rintro  zRc
     refine WL.restb (cs':=[(.slice zdb zla.length zdc),(.slice none 0 0)]) .h3 (by rw [zRc]) (WL.nil (WX.a (WC.b ?_)))
     obtain ⟨zvJ,zRd,h⟩:=z6 h
     refine WC.a (WL.qA 67 (yf y2z rfl (yh .h2) rfl) (WL.pu rfl (WL.qA 69 (ya y6c rfl rfl) (WL.qA 70 (yc y6S rfl (ym .here rfl)) (WL.y4b (dd:=71) rfl rfl rfl (z8 Tryz.call26 (.r3 rfl rfl rfl)) .nil (ccl hz .nil (.cons .h1 .nil) fun w pz ho la=>ydF _ _ _ _ _ _ _ _ _ _ _ _ _ _ _ _ _ _ _ _ _ _ _ _ _ zRd w pz ((zvK.mono (Zle.left _ _)).weak (fun _ _ h=>y1t (Zle.left _ _) h)) ((zvL.mono (Zle.left _ _)).weak (fun _ _ h=>y1A (Zle.left _ _) h)) (zvM.mono (Zle.left _ _)) (zvN.mono (Zle.left _ _)) ((zo1.mono (Zle.left _ _)).weak (fun _ _ h=>y1C (Zle.left _ _) h)) (zvO.mono (Zle.left _ _)) ((zvP.mono (Zle.left _ _)).weak (fun _ _ h=>y1B (Zle.left _ _) h)) (zvQ.mono (Zle.left _ _)) ((zo2.mono (Zle.left _ _)).weak (fun _ _ h=>y1e (Zle.left _ _) h)) (ZA.row (la _ (.head _) _) (RR.flat (enc:=e58) (fun _=>rfl) _) ⟨w,pz.1⟩)) ?_)))))
     rintro zDJ zDK _
     refine WL.qA 72 (ya y7Y rfl rfl) (WL.yj rfl rfl (y4y (ds:=[(.slice zdb zla.length zdc),(.slice zDJ zvJ.length zDK)]) sizT_36 rfl rfl rfl rfl rfl .h1 rfl rfl) (WL.nil (WX.a (WC.b (WC.a (WL.qA 73 (yf y7r rfl (yh .here) rfl) (WL.yj rfl rfl (yl y5J rfl rfl rfl .h4 rfl rfl rfl) (WL.pu rfl (WL.nil (WX.a (WC.ret ?_)))))))))))
     obtain rfl:=Option.some.inj h
     refine WX.ye Tryz.results10 (.agg rfl y7r rfl (yh .here) (.tmp rfl .nil)) (fun w hw=>?_)
     exact ⟨zdb,zdc,zDJ,zDK,y1Z rfl rfl,trivial,hw.sub (.s2 .h3 .h2)⟩
def y54 (z1Y : List Sbound_place × Int) (zb0 : (List Sapi_PortBound) → Option (List Sapi_PortBound × Int)) : Nat → (List Sapi_PortBound) → Int → Option (List Sapi_PortBound × Int)
 | 0,_,_=>none
 | zvX + 1,z41,z2i=>if decide (z2i < ((z1Y.1.length : Nat) : Int)) then chk ((0 : Int) ≤ z2i ∧ z2i < ((z1Y.1.length : Nat) : Int)) (chk ((((z41 ++ ([({(nth z1Y.1 z2i) with fDelay:=0,fStore:=0} : Sapi_PortBound)] : List Sapi_PortBound)).length : Nat) : Int) * 32 ≤ 140737488355328 ∧ (((z41 ++ ([({(nth z1Y.1 z2i) with fDelay:=0,fStore:=0} : Sapi_PortBound)] : List Sapi_PortBound)).length : Nat) : Int) ≤ 4611686018427387904) (y54 z1Y zb0 zvX (z41 ++ ([({(nth z1Y.1 z2i) with fDelay:=0,fStore:=0} : Sapi_PortBound)] : List Sapi_PortBound)) (i64 (z2i + 1)))) else zb0 z41
theorem y9M {n : Nat} {z1Y : List Sbound_place × Int} {zb0 : (List Sapi_PortBound) → Option (List Sapi_PortBound × Int)} {z41 : List Sapi_PortBound} {z2i : Int} {r : List Sapi_PortBound × Int} (h : y54 z1Y zb0 n z41 z2i = some r) : ∃ m,n = m + 1:=by
 cases n with
 | zero=>cases h
 | succ m=>exact ⟨m,rfl⟩
def y8m (z1Q : Sapi_Config) (zo7 : Int) (zic : List (List Sapi_Hop)) : Option (List Sapi_PortBound × Int) :=
 (y4v z1Q zo7 zic).bind fun zDL=>if !zDL then some (([] : List Sapi_PortBound),310) else (y4B zic).bind fun z1Y=>jp1 (fun (z99 : List Sapi_PortBound)=>some (z99,z1Y.2)) fun zb0=>y54 z1Y zb0 yz ([] : List Sapi_PortBound) 0
theorem ydh (Z : Zp) (zvY : Option Addr) (zvZ : Nat) (zw0 : Option Addr) (zw1 : Nat) (zw2 : Option Addr) (zw3 : Nat) (zw4 : Option Addr) (zw5 : Nat) (zw6 : Option Addr) (zw7 : Nat) (zw8 : Option Addr) (zw9 : Nat) (zwa : Option Addr) (zwb : Nat) (zwc : Option Addr) (zwd : Nat) (zDM : Option Addr) (zDN : Nat) (z1Q : Sapi_Config) (zo7 : Int) (zic : List (List Sapi_Hop)) (r : List Sapi_PortBound × Int)
  (h : y8m z1Q zo7 zic = some r) (w₀ : World) (hz : PZ [] w₀ Z)
  (zRe : ZS Z 4 (y4e Z) zvY zvZ z1Q.fModules)
  (zRf : ZS Z 4 (y4M Z) zw0 zw1 z1Q.fChannels)
  (zRg : ZS Z 4 (fun r x=>r = e66 x) zw2 zw3 z1Q.fSwitches)
  (zRh : ZS Z 4 (fun r x=>r = e64 x) zw4 zw5 z1Q.fLinks)
  (zRi : ZS Z 7 (p46 Z) zw6 zw7 z1Q.fVLs)
  (zRj : ZS Z 5 (fun r x=>r = y4Z x) zw8 zw9 z1Q.fHealth)
  (zRk : ZS Z 3 (y4N Z) zwa zwb z1Q.fCauses)
  (zRl : ZS Z 4 (fun r x=>r = y50 x) zwc zwd z1Q.fVersions)
  (zDO : ZS Z 1 (p48 Z) zDM zDN zic) :
  Calls Tryz.prog 13 #[(.agg #[(.slice zvY z1Q.fModules.length zvZ),(.slice zw0 z1Q.fChannels.length zw1),(.slice zw2 z1Q.fSwitches.length zw3),(.slice zw4 z1Q.fLinks.length zw5),(.slice zw6 z1Q.fVLs.length zw7),(.slice zw8 z1Q.fHealth.length zw9),(.slice zwa z1Q.fCauses.length zwb),(.slice zwc z1Q.fVersions.length zwd)]),(.int .i64 zo7),(.slice zDM zic.length zDN)] w₀ fun e w'=>∃ zDP : Option Addr,∃ zDQ : Nat,e = .returned (.tuple #[(.slice zDP r.1.length zDQ),(.int .i64 r.2)]) ∧ True ∧ Hp [] w₀ w' [row (.slice zDP r.1.length zDQ) 58 4 (r.1.flatMap e58)]:=by
 unfold y8m at h
 refine Calls.on3 Tryz.func13 Tryz.ntmps13 ?_
 refine WC.b (WC.a (WL.nA 3 (yH (cs:=[(.slice zvY z1Q.fModules.length zvZ),(.slice zw0 z1Q.fChannels.length zw1),(.slice zw2 z1Q.fSwitches.length zw3),(.slice zw4 z1Q.fLinks.length zw5),(.slice zw6 z1Q.fVLs.length zw7),(.slice zw8 z1Q.fHealth.length zw9),(.slice zwa z1Q.fCauses.length zwb),(.slice zwc z1Q.fVersions.length zwd)]) rfl rfl) ?_))
 intro zZj _
 refine WL.pu rfl (WL.pu rfl (WL.nil (WX.a (WC.b (WC.b ?_)))))
 obtain ⟨zDL,zRm,h⟩:=z6 h
 refine WC.a (WL.qA 13 (yf y2z rfl (yh .here) rfl) (WL.pu rfl (WL.pu rfl (WL.cA 16 (z8 Tryz.call12 (.r3 rfl rfl rfl)) .nil (cc hz .nil fun w pz ho=>y9e _ _ _ _ _ _ _ _ _ _ _ _ _ _ _ _ _ _ _ _ _ _ _ zRm w pz zRe zRf zRg zRh zRi zRj zRk zRl zDO) (WL.pu rfl (WL.nil (WX.a (WC.cond rfl (fun zwe=>?_) (fun zwe=>?_)))))))))
 ·replace h:=yo h zwe
  refine WC.b (WC.a (WL.pu rfl (WL.pu rfl (WL.nil (WX.a (WC.ret (WX.yd (WX.nilRow 58 4 ?_))))))))
  obtain rfl:=Option.some.inj h
  refine WX.ye Tryz.results13 (.tmp rfl (.tmp rfl .nil)) (fun w hw=>?_)
  exact ⟨none,0,y1Z rfl rfl,trivial,hw.sub (.cons .here .nil)⟩
 ·replace h:=yp h zwe
  refine WC.skip (WX.a (WC.b ?_))
  obtain ⟨z1Y,zRn,h⟩:=z6 h
  refine WC.a (WL.pu rfl (WL.y4b (dd:=20) rfl rfl rfl (z8 Tryz.call21 (.cons rfl .nil)) .nil (cc hz .nil fun w pz ho=>yap _ _ _ _ _ zRn w pz zDO) ?_))
  rintro zDR zDS _
  refine WL.pu rfl (WL.pu rfl (WL.pu rfl (WL.pu rfl (WL.pu rfl (WL.nil (WX.a (WC.b (WC.a (WL.pu rfl (WL.nil (WX.a ?_)))))))))))
  obtain ⟨zb0,zRo,h⟩:=y1d h
  refine WC.y2u (fun (z99 : List Sapi_PortBound) (zid : Option Addr) (zie : Nat)=>(zb0 z99 = some r)) (fun z99 zid zie=>[(9,(.int .i64 z1Y.2)),(10,(.slice zid z99.length zie))]) (fun z99 zid zie=>[row (.slice zid z99.length zie) 58 4 (z99.flatMap e58)]) ?_ ?_
  ·skip
   refine WC.b (WC.a (WL.pu rfl (WL.qA 24 (yG Tryz.underlying88 rfl) (WL.pu rfl (WL.nil (WX.a (WC.block (WC.nilRow 58 4 (WC.y5V (fun (zif : Nat) (z41 : List Sapi_PortBound) (z2i : Int) (zf3 : Option Addr) (zf4 : Nat)=>(y54 z1Y zb0 zif z41 z2i = some r)) (fun zif z41 z2i zf3 zf4=>[(9,(.int .i64 z1Y.2)),(10,(.slice zf3 z41.length zf4)),(23,(.slice zDR z1Y.1.length zDS)),(24,(.int .i64 ((z1Y.1.length : Nat) : Int))),(25,(.int .i64 z2i))]) (fun zif z41 z2i zf3 zf4=>[row (.slice zf3 z41.length zf4) 58 4 (z41.flatMap e58),row (.slice zDR z1Y.1.length zDS) 97 2 (z1Y.1.flatMap e97)]) (fun zif z41 z2i zf3 zf4=>zif) ⟨yz,([] : List Sapi_PortBound),0,none,0⟩ h (.r5 rfl rfl rfl rfl rfl) (.s2 .here .here) ?_)))))))))
   rintro zif z41 z2i zf3 zf4 h
   obtain ⟨zvX,rfl⟩:=y9M h
   rw [y54] at h
   refine WC.b (WC.a (WL.pu rfl (WL.nil (WX.a (WC.b (WC.cond rfl (fun zwf=>?_) (fun zwf=>?_)))))))
   ·replace h:=yo h zwf
    refine WC.skip (WX.a (WC.b (WC.block (WC.b ?_))))
    obtain ⟨zld,h⟩:=yn h
    refine WC.a (WL.know (fun w hw=>Hp.y2j .h1 hw (by intro hz'; have:=zld; rw [hz'] at this; omega)) ?_)
    rintro ⟨zZk,rfl⟩
    refine WL.qA 27 (yV y5i rfl rfl zld.1 zld.2 y32) (WL.qA 28 (yT (cs:=(e97 (nth z1Y.1 z2i))) y3I rfl rfl (y49 .h1 (y3y (enc:=e97) (l:=z1Y.1) (i:=z2i) (sz:=2) (fun _=>rfl) zld.1 zld.2))) (WL.nA 12 (yw (cs:=[(.int .i64 0),(.int .i64 0)]) y8N rfl) ?_))
    intro zZl _
    refine WL.yj rfl rfl (yl yba rfl rfl rfl .here rfl rfl rfl) (WL.nil (WX.a ?_))
    obtain ⟨zRp,h⟩:=yn h
    refine WC.a (WL.pu rfl (WL.qA 30 (ya y8H rfl rfl) (WL.qA 31 (yc yx rfl (ym .here rfl)) (WL.qA 32 (ya y9B rfl rfl) (WL.qA 33 (yc yx rfl (ym .here rfl)) (WL.qA 34 (yI (v:=(.agg #[(.int .i64 ((nth z1Y.1 z2i).fNode)),(.int .i64 ((nth z1Y.1 z2i).fLink)),(.int .i64 0),(.int .i64 0)])) (Eos.parts (l:=[.tmp 31,.tmp 33]) (.r2 rfl rfl) [0,1]) (fun _=>by kernel_rfl)) (WL.nA 35 (yN (cs:=([({(nth z1Y.1 z2i) with fDelay:=0,fStore:=0} : Sapi_PortBound)] : List Sapi_PortBound).flatMap e58) y66 (Eos.parts (l:=[.tmp 34]) (.cons rfl .nil) [0]) (fun _=>by kernel_rfl) rfl (by unfold maxLen; omega)) ?_)))))))
    intro zZm _
    refine WL.fA 36 (y4S (enc:=e58) (l1:=z41) (l2:=([({(nth z1Y.1 z2i) with fDelay:=0,fStore:=0} : Sapi_PortBound)] : List Sapi_PortBound)) y66 rfl rfl .h2 (fun _=>rfl) rfl rfl (y3C .here) (y5d ydy _) zRp) ?_
    rintro ⟨zRq,zRr⟩ _
    refine WL.pu rfl (WL.nil (WX.yk (WX.a (WC.a (WL.pu rfl (WL.pu rfl (WL.nil ?_)))))))
    exact WX.round ⟨zvX,(z41 ++ ([({(nth z1Y.1 z2i) with fDelay:=0,fStore:=0} : Sapi_PortBound)] : List Sapi_PortBound)),(i64 (z2i + 1)),zRq,zRr⟩ h (Nat.lt_succ_self _) (.r5 rfl rfl rfl rfl rfl) (.s2 .here .h2)
   ·replace h:=yp h zwf
    refine WC.exit (WX.yg (WX.yg (WX.yA ?_)))
    exact WX.mid ⟨z41,zf3,zf4⟩ h (.r2 rfl rfl) (.cons .here .nil)
  ·rintro z99 zid zie h
   replace h:=(zRo z99).symm.trans h
   refine WC.b (WC.a (WL.pu rfl (WL.pu rfl (WL.pu rfl (WL.pu rfl (WL.nil (WX.a (WC.ret ?_))))))))
   obtain rfl:=Option.some.inj h
   refine WX.ye Tryz.results13 (.tmp rfl (.tmp rfl .nil)) (fun w hw=>?_)
   exact ⟨zid,zie,y1Z rfl rfl,trivial,hw.sub (.cons .here .nil)⟩
def y5u (zO : S37) (zT : S37) (zb1 : Option Bool) : Nat → Int → Option Bool
 | 0,_=>none
 | zwg + 1,z1y=>if decide (z1y < ((zO.fPorts.length : Nat) : Int)) then chk ((0 : Int) ≤ z1y ∧ z1y < ((zO.fPorts.length : Nat) : Int)) (chk ((0 : Int) ≤ z1y ∧ z1y < ((zT.fPorts.length : Nat) : Int)) (if decide ((⟨((nth zO.fPorts z1y).fNode),((nth zO.fPorts z1y).fLink),((nth zO.fPorts z1y).fDelay),((nth zO.fPorts z1y).fStore)⟩ : Sapi_PortBound) ≠ (⟨((nth zT.fPorts z1y).fNode),((nth zT.fPorts z1y).fLink),((nth zT.fPorts z1y).fDelay),((nth zT.fPorts z1y).fStore)⟩ : Sapi_PortBound)) then some false else y5u zO zT zb1 zwg (i64 (z1y + 1)))) else zb1
theorem yad {n : Nat} {zO : S37} {zT : S37} {zb1 : Option Bool} {z1y : Int} {r : Bool} (h : y5u zO zT zb1 n z1y = some r) : ∃ m,n = m + 1:=by
 cases n with
 | zero=>cases h
 | succ m=>exact ⟨m,rfl⟩
def y5v (zO : S37) (zT : S37) (zb2 : Option Bool) : Nat → Int → Option Bool
 | 0,_=>none
 | zwh + 1,z1L=>if decide (z1L < ((zO.fEnds.length : Nat) : Int)) then chk ((0 : Int) ≤ z1L ∧ z1L < ((zO.fEnds.length : Nat) : Int)) (chk ((0 : Int) ≤ z1L ∧ z1L < ((zT.fEnds.length : Nat) : Int)) (if decide ((⟨((nth zO.fEnds z1L).fVL),((nth zO.fEnds z1L).fNode),((nth zO.fEnds z1L).fDelay)⟩ : Sapi_End) ≠ (⟨((nth zT.fEnds z1L).fVL),((nth zT.fEnds z1L).fNode),((nth zT.fEnds z1L).fDelay)⟩ : Sapi_End)) then some false else y5v zO zT zb2 zwh (i64 (z1L + 1)))) else zb2
theorem yae {n : Nat} {zO : S37} {zT : S37} {zb2 : Option Bool} {z1L : Int} {r : Bool} (h : y5v zO zT zb2 n z1L = some r) : ∃ m,n = m + 1:=by
 cases n with
 | zero=>cases h
 | succ m=>exact ⟨m,rfl⟩
def y8X (zO : S37) (zT : S37) : Option Bool :=
 if (decide (((zO.fPorts.length : Nat) : Int) ≠ ((zT.fPorts.length : Nat) : Int))) || (decide (((zO.fEnds.length : Nat) : Int) ≠ ((zT.fEnds.length : Nat) : Int))) then some false else jp0 (jp0 (some true) fun zb2=>y5v zO zT zb2 yz 0) fun zb1=>y5u zO zT zb1 yz 0
theorem ydG (Z : Zp) (zig : Option Addr) (zih : Nat) (zii : Option Addr) (zij : Nat) (zik : Option Addr) (zil : Nat) (zim : Option Addr) (zin : Nat) (zO : S37) (zT : S37) (r : Bool)
  (h : y8X zO zT = some r) (w₀ : World) (hz : PZ [] w₀ Z)
  (zRs : ZS Z 4 (fun r x=>r = e58 x) zig zih zO.fPorts)
  (zRt : ZS Z 3 (fun r x=>r = e79 x) zii zij zO.fEnds)
  (zRu : ZS Z 4 (fun r x=>r = e58 x) zik zil zT.fPorts)
  (zRv : ZS Z 3 (fun r x=>r = e79 x) zim zin zT.fEnds) :
  Calls Tryz.prog 17 #[(.agg #[(.slice zig zO.fPorts.length zih),(.slice zii zO.fEnds.length zij)]),(.agg #[(.slice zik zT.fPorts.length zil),(.slice zim zT.fEnds.length zin)])] w₀ fun e w'=>e = .returned (.bool r) ∧ Hp [] w₀ w' []:=by
 unfold y8X at h
 refine Calls.yJ Tryz.func17 Tryz.ntmps17 ?_
 refine WC.b (WC.a (WL.nA 2 (yH (cs:=[(.slice zig zO.fPorts.length zih),(.slice zii zO.fEnds.length zij)]) rfl rfl) ?_))
 intro zio _
 refine WL.nA 3 (yH (cs:=[(.slice zik zT.fPorts.length zil),(.slice zim zT.fEnds.length zin)]) rfl rfl) ?_
 intro ziq _
 refine WL.pu rfl (WL.nil (WX.a (WC.b (WC.b (WC.a (WL.qA 7 (ya y6c rfl rfl) (WL.qA 8 (yc y6S rfl (ym .h1 rfl)) (WL.qA 9 (yG Tryz.underlying35 rfl) (WL.qA 10 (ya y6c rfl rfl) (WL.qA 11 (yc y6S rfl (ym .here rfl)) (WL.qA 12 (yG Tryz.underlying35 rfl) (WL.pu rfl (WL.pu rfl (WL.seg false 7 14 (B:=(decide (((zO.fPorts.length : Nat) : Int) ≠ ((zT.fPorts.length : Nat) : Int))) || (decide (((zO.fEnds.length : Nat) : Int) ≠ ((zT.fEnds.length : Nat) : Int)))) rfl rfl rfl rfl rfl rfl (fun h=>(y6v h).symm) (fun _ zRw=>?_) ?_))))))))))))))
 ·skip
  refine WL.qA 15 (ya y7Y rfl rfl) (WL.qA 16 (yc y8J rfl (ym .h1 rfl)) (WL.qA 17 (yG Tryz.underlying36 rfl) (WL.qA 18 (ya y7Y rfl rfl) (WL.qA 19 (yc y8J rfl (ym .here rfl)) (WL.qA 20 (yG Tryz.underlying36 rfl) (WL.pu rfl (WL.pu rfl ?_)))))))
  exact WL.yB (y6w zRw) rfl rfl .all
 refine WL.nil (WX.a (WC.cond rfl (fun zwi=>?_) (fun zwi=>?_)))
 ·replace h:=yo h zwi
  refine WC.b (WC.a (WL.pu rfl (WL.nil (WX.a (WC.ret (WX.yd ?_))))))
  obtain rfl:=Option.some.inj h
  refine WX.ye Tryz.results17 (.tmp rfl .nil) (fun w hw=>?_)
  exact ⟨yC rfl,hw.sub .nil⟩
 ·replace h:=yp h zwi
  refine WC.skip (WX.a ?_)
  obtain ⟨zb1,zRx,h⟩:=y2y h
  refine WC.y1P ((zb1 = some r)) ([(2,(.pointer (some ⟨zio,0,none⟩))),(3,(.pointer (some ⟨ziq,0,none⟩)))]) ([stb zio 38 [(.slice zig zO.fPorts.length zih),(.slice zii zO.fEnds.length zij)],stb ziq 38 [(.slice zik zT.fPorts.length zil),(.slice zim zT.fEnds.length zin)]]) ?_ ?_
  ·skip
   refine WC.b (WC.a (WL.pu rfl (WL.nil (WX.a (WC.block (WC.y2V (fun (zir : Nat) (z1y : Int)=>(y5u zO zT zb1 zir z1y = some r)) (fun zir z1y=>[(2,(.pointer (some ⟨zio,0,none⟩))),(3,(.pointer (some ⟨ziq,0,none⟩))),(5,(.int .i64 z1y))]) (fun zir z1y=>[stb zio 38 [(.slice zig zO.fPorts.length zih),(.slice zii zO.fEnds.length zij)],stb ziq 38 [(.slice zik zT.fPorts.length zil),(.slice zim zT.fEnds.length zin)]]) (fun zir z1y=>zir) ⟨yz,0⟩ h (.r3 rfl rfl rfl) (.s2 .h1 .here) ?_))))))
   rintro zir z1y h
   obtain ⟨zwg,rfl⟩:=yad h
   rw [y5u] at h
   refine WC.b (WC.b (WC.a (WL.pu rfl (WL.qA 24 (ya y6c rfl rfl) (WL.qA 25 (yc y6S rfl (ym .here rfl)) (WL.qA 26 (yG Tryz.underlying35 rfl) (WL.pu rfl (WL.nil (WX.a (WC.cond rfl (fun zwj=>?_) (fun zwj=>?_)))))))))))
   ·replace h:=yo h zwj
    refine WC.skip (WX.a (WC.b (WC.block (WC.b ?_))))
    obtain ⟨zRy,h⟩:=yn h
    obtain ⟨zRz,h⟩:=yn h
    refine WC.yO (fun i=>[].contains i) [] rfl (WD.pA 0 30 rfl (fun _=>ya y6c rfl rfl) (WD.qA 1 31 rfl (yc y6S rfl (ym .here rfl)) (WD.pA 2 32 rfl (fun _=>q_m rfl) (WD.znth (j:=3) (dd:=33) (by kernel_rfl) rfl z2j z2k rfl rfl (Z:=Z) (Pr:=(fun r x=>r = e58 x)) y66 rfl rfl zRs zRy ?_))))
    rintro zZn zZo zRA zZp rfl
    refine WD.qA 4 34 rfl (yf y9E rfl (y2v hz.pv zRA) rfl) (WD.pA 5 35 rfl (fun _=>ya y6c rfl rfl) (WD.qA 6 36 rfl (yc y6S rfl (ym .h1 rfl)) (WD.pA 7 37 rfl (fun _=>q_m rfl) (WD.znth (j:=8) (dd:=38) (by kernel_rfl) rfl z2j z2k rfl rfl (Z:=Z) (Pr:=(fun r x=>r = e58 x)) y66 rfl rfl zRu zRz ?_))))
    rintro zZq zZr zRB zZs rfl
    refine WD.qA 9 39 rfl (yf y9E rfl (y2v hz.pv zRB) rfl) (WD.pA 10 40 rfl (fun _=>ya0 (enc:=e58) (a:=(⟨((nth zO.fPorts z1y).fNode),((nth zO.fPorts z1y).fLink),((nth zO.fPorts z1y).fDelay),((nth zO.fPorts z1y).fStore)⟩ : Sapi_PortBound)) (b:=(⟨((nth zT.fPorts z1y).fNode),((nth zT.fPorts z1y).fLink),((nth zT.fPorts z1y).fDelay),((nth zT.fPorts z1y).fStore)⟩ : Sapi_PortBound)) ydB rfl rfl) (WD.done (by kernel_rfl) (WX.a (WC.cond rfl (fun zwk=>?_) (fun zwk=>?_)))))
    ·replace h:=yo h zwk
     refine WC.b (WC.a (WL.pu rfl (WL.nil (WX.a (WC.ret (WX.yt (WX.yd (WX.yd (WX.yt (WX.yd ?_))))))))))
     obtain rfl:=Option.some.inj h
     refine WX.ye Tryz.results17 (.tmp rfl .nil) (fun w hw=>?_)
     exact ⟨yC rfl,hw.sub .nil⟩
    ·replace h:=yp h zwk
     refine WC.skip (WX.yk (WX.a (WC.a (WL.pu rfl (WL.pu rfl (WL.pu rfl (WL.nil ?_)))))))
     exact WX.round ⟨zwg,(i64 (z1y + 1))⟩ h (Nat.lt_succ_self _) (.r3 rfl rfl rfl) (.s2 .here .here)
   ·replace h:=yp h zwj
    refine WC.exit (WX.yg (WX.yg (WX.yA ?_)))
    exact WX.mid () h (.r2 rfl rfl) (.s2 .here .here)
  ·rintro  h
   replace h:=zRx.symm.trans h
   obtain ⟨zb2,zRC,h⟩:=y2y h
   refine WC.y1P ((zb2 = some r)) ([]) ([]) ?_ ?_
   ·skip
    refine WC.b (WC.a (WL.pu rfl (WL.nil (WX.a (WC.block (WC.y2V (fun (zis : Nat) (z1L : Int)=>(y5v zO zT zb2 zis z1L = some r)) (fun zis z1L=>[(2,(.pointer (some ⟨zio,0,none⟩))),(3,(.pointer (some ⟨ziq,0,none⟩))),(6,(.int .i64 z1L))]) (fun zis z1L=>[stb zio 38 [(.slice zig zO.fPorts.length zih),(.slice zii zO.fEnds.length zij)],stb ziq 38 [(.slice zik zT.fPorts.length zil),(.slice zim zT.fEnds.length zin)]]) (fun zis z1L=>zis) ⟨yz,0⟩ h (.r3 rfl rfl rfl) (.s2 .here .here) ?_))))))
    rintro zis z1L h
    obtain ⟨zwh,rfl⟩:=yae h
    rw [y5v] at h
    refine WC.b (WC.b (WC.a (WL.pu rfl (WL.qA 42 (ya y7Y rfl rfl) (WL.qA 43 (yc y8J rfl (ym .here rfl)) (WL.qA 44 (yG Tryz.underlying36 rfl) (WL.pu rfl (WL.nil (WX.a (WC.cond rfl (fun zwl=>?_) (fun zwl=>?_)))))))))))
    ·replace h:=yo h zwl
     refine WC.skip (WX.a (WC.b (WC.block (WC.b ?_))))
     obtain ⟨zRD,h⟩:=yn h
     obtain ⟨zRE,h⟩:=yn h
     refine WC.yO (fun i=>[].contains i) [] rfl (WD.pA 0 48 rfl (fun _=>ya y7Y rfl rfl) (WD.qA 1 49 rfl (yc y8J rfl (ym .here rfl)) (WD.pA 2 50 rfl (fun _=>q_m rfl) (WD.znth (j:=3) (dd:=51) (by kernel_rfl) rfl z2j z2k rfl rfl (Z:=Z) (Pr:=(fun r x=>r = e79 x)) y9F rfl rfl zRt zRD ?_))))
     rintro zZt zZu zRF zZv rfl
     refine WD.qA 4 52 rfl (yf yex rfl (y2v hz.pv zRF) rfl) (WD.pA 5 53 rfl (fun _=>ya y7Y rfl rfl) (WD.qA 6 54 rfl (yc y8J rfl (ym .h1 rfl)) (WD.pA 7 55 rfl (fun _=>q_m rfl) (WD.znth (j:=8) (dd:=56) (by kernel_rfl) rfl z2j z2k rfl rfl (Z:=Z) (Pr:=(fun r x=>r = e79 x)) y9F rfl rfl zRv zRE ?_))))
     rintro zZw zZx zRG zZy rfl
     refine WD.qA 9 57 rfl (yf yex rfl (y2v hz.pv zRG) rfl) (WD.pA 10 58 rfl (fun _=>ya0 (enc:=e79) (a:=(⟨((nth zO.fEnds z1L).fVL),((nth zO.fEnds z1L).fNode),((nth zO.fEnds z1L).fDelay)⟩ : Sapi_End)) (b:=(⟨((nth zT.fEnds z1L).fVL),((nth zT.fEnds z1L).fNode),((nth zT.fEnds z1L).fDelay)⟩ : Sapi_End)) eqT_79 rfl rfl) (WD.done (by kernel_rfl) (WX.a (WC.cond rfl (fun zwm=>?_) (fun zwm=>?_)))))
     ·replace h:=yo h zwm
      refine WC.b (WC.a (WL.pu rfl (WL.nil (WX.a (WC.ret (WX.yt (WX.yd (WX.yd (WX.yt (WX.yd ?_))))))))))
      obtain rfl:=Option.some.inj h
      refine WX.ye Tryz.results17 (.tmp rfl .nil) (fun w hw=>?_)
      exact ⟨yC rfl,hw.sub .nil⟩
     ·replace h:=yp h zwm
      refine WC.skip (WX.yk (WX.a (WC.a (WL.pu rfl (WL.pu rfl (WL.pu rfl (WL.nil ?_)))))))
      exact WX.round ⟨zwh,(i64 (z1L + 1))⟩ h (Nat.lt_succ_self _) (.r3 rfl rfl rfl) (.s2 .here .here)
    ·replace h:=yp h zwl
     refine WC.exit (WX.yg (WX.yg (WX.yA ?_)))
     exact WX.mid () h .nil .nil
   ·rintro  h
    replace h:=zRC.symm.trans h
    refine WC.b (WC.a (WL.pu rfl (WL.nil (WX.a (WC.ret ?_)))))
    obtain rfl:=Option.some.inj h
    refine WX.ye Tryz.results17 (.tmp rfl .nil) (fun w hw=>?_)
    exact ⟨yC rfl,hw.sub .nil⟩
def y4D  : Option Bool :=
 (y6n).bind fun zle=>(y23 zle.1 0 zle.2).bind fun zo8=>(y8m zle.1 0 zle.2).bind fun zR=>(if (decide (zo8.2 = 0)) && (decide (zR.2 = 0)) then (y8X zo8.1 (⟨([(⟨0,0,40,80⟩ : Sapi_PortBound),(⟨2,1,56,91⟩ : Sapi_PortBound)] : List Sapi_PortBound),([(⟨0,1,96⟩ : Sapi_End)] : List Sapi_End)⟩ : S37)).bind fun zDT=>some zDT else some false).bind fun zdf=>chk ((zdf && (decide (((zR.1.length : Nat) : Int) = 2))) = true → ((0 : Int) ≤ 0 ∧ 0 < ((zR.1.length : Nat) : Int))) (chk (((zdf && (decide (((zR.1.length : Nat) : Int) = 2))) && (decide ((⟨((nth zR.1 0).fNode),((nth zR.1 0).fLink),((nth zR.1 0).fDelay),((nth zR.1 0).fStore)⟩ : Sapi_PortBound) = (⟨0,0,0,0⟩ : Sapi_PortBound)))) = true → ((0 : Int) ≤ 1 ∧ 1 < ((zR.1.length : Nat) : Int))) (some (((zdf && (decide (((zR.1.length : Nat) : Int) = 2))) && (decide ((⟨((nth zR.1 0).fNode),((nth zR.1 0).fLink),((nth zR.1 0).fDelay),((nth zR.1 0).fStore)⟩ : Sapi_PortBound) = (⟨0,0,0,0⟩ : Sapi_PortBound)))) && (decide ((⟨((nth zR.1 1).fNode),((nth zR.1 1).fLink),((nth zR.1 1).fDelay),((nth zR.1 1).fStore)⟩ : Sapi_PortBound) = (⟨2,1,0,0⟩ : Sapi_PortBound))))))
theorem y7e (Z : Zp)  (r : Bool)
  (h : y4D = some r) (w₀ : World) (hz : PZ [] w₀ Z) :
  Calls Tryz.prog 9 #[] w₀ fun e w'=>e = .returned (.bool r) ∧ Hp [] w₀ w' []:=by
 unfold y4D at h
 refine Calls.on0 Tryz.func9 Tryz.ntmps9 ?_
 refine WC.pool (WC.b (WC.a (WL.pu rfl (WL.nil (WX.a (WC.b ?_))))))
 obtain ⟨zle,zRH,h⟩:=z6 h
 refine WC.a (WL.ybZ (dd:=9) rfl rfl rfl (z8 Tryz.call14 .nil) .nil (ccz hz .nil .here fun w pz ho=>y9c _ _ zRH w pz ) ?_)
 rintro zZz zZA zZB zZC zZD zZE zZF zZG zZH zZI zZJ zZK zZL zZM zZN zZO zZP zZQ zZR zZS zZT zZU ⟨zDU,zDV,zDW,zDX,zDY,zDZ,zE0⟩
 refine WL.merge .here .h5 (WL.pu rfl (WL.pu rfl (WL.pu rfl (WL.nA 1 (yw (cs:=[(.slice none 0 0),(.slice none 0 0),(.slice none 0 0),(.slice none 0 0),(.slice none 0 0),(.slice none 0 0),(.slice none 0 0),(.slice none 0 0)]) y8M rfl) ?_))))
 intro zZV _
 refine WL.yj rfl rfl (yl y9z rfl rfl rfl .here rfl rfl rfl) (WL.pu rfl (WL.nil (WX.a (WC.b ?_))))
 obtain ⟨zo8,zRI,h⟩:=z6 h
 refine WC.a (WL.qA 13 (yf y2z rfl (yh .here) rfl) (WL.pu rfl (WL.y7n (dd:=15) rfl rfl rfl (z8 Tryz.call10 (.r3 rfl rfl rfl)) .nil (y8k hz .nil .h1 (.s5 .h2 .h2 .h2 .h2 .h2) fun w pz ho la=>y5t _ _ _ _ _ _ _ _ _ _ _ _ _ _ _ _ _ _ _ _ _ _ _ zRI w pz (ZA.row (la _ (.head _) _) ((zDU.weak (fun _ _ h=>y1t (Zle.yU _ _ _) h)).weak (fun _ _ h=>y1t (Zle.left _ _) h)) ⟨w,pz.1⟩) ((((zDV.mono (Zle.yU _ _ _)).weak (fun _ _ h=>y1A (Zle.yU _ _ _) h)).mono (Zle.left _ _)).weak (fun _ _ h=>y1A (Zle.left _ _) h)) (ZA.row (la _ (.tail _ (.head _)) _) (RR.flat (enc:=e66) (fun _=>rfl) _) ⟨w,pz.1⟩) (ZA.row (la _ (.tail _ (.tail _ (.head _))) _) (RR.flat (enc:=e64) (fun _=>rfl) _) ⟨w,pz.1⟩) (ZA.row (la _ (.tail _ (.tail _ (.tail _ (.head _)))) _) ((zDW.weak (fun _ _ h=>y1C (Zle.yU _ _ _) h)).weak (fun _ _ h=>y1C (Zle.left _ _) h)) ⟨w,pz.1⟩) ((zDX.mono (Zle.yU _ _ _)).mono (Zle.left _ _)) ((((zDY.mono (Zle.yU _ _ _)).weak (fun _ _ h=>y1B (Zle.yU _ _ _) h)).mono (Zle.left _ _)).weak (fun _ _ h=>y1B (Zle.left _ _) h)) ((zDZ.mono (Zle.yU _ _ _)).mono (Zle.left _ _)) (ZA.row (la _ (.tail _ (.tail _ (.tail _ (.tail _ (.head _))))) _) ((zE0.weak (fun _ _ h=>y1e (Zle.yU _ _ _) h)).weak (fun _ _ h=>y1e (Zle.left _ _) h)) ⟨w,pz.1⟩)) ?_)))
 rintro zZW zZX zZY zZZ _
 refine WL.pu rfl (WL.pu rfl (WL.pu rfl (WL.nA 3 (yw (cs:=[(.slice none 0 0),(.slice none 0 0)]) y6A rfl) ?_)))
 intro z100 _
 refine WL.yj rfl rfl (yl y5J rfl rfl rfl .here rfl rfl rfl) (WL.pu rfl (WL.nil (WX.a (WC.b ?_))))
 obtain ⟨zR,zRJ,h⟩:=z6 h
 refine WC.a (WL.qA 19 (yf y2z rfl (yh .h3) rfl) (WL.pu rfl (WL.y4b (dd:=21) rfl rfl rfl (z8 Tryz.call13 (.r3 rfl rfl rfl)) .nil (y8k hz .nil .h4 (.s5 .h5 .h5 .h5 .h5 .h5) fun w pz ho la=>ydh _ _ _ _ _ _ _ _ _ _ _ _ _ _ _ _ _ _ _ _ _ _ _ zRJ w pz (ZA.row (la _ (.head _) _) ((zDU.weak (fun _ _ h=>y1t (Zle.yU _ _ _) h)).weak (fun _ _ h=>y1t (Zle.left _ _) h)) ⟨w,pz.1⟩) ((((zDV.mono (Zle.yU _ _ _)).weak (fun _ _ h=>y1A (Zle.yU _ _ _) h)).mono (Zle.left _ _)).weak (fun _ _ h=>y1A (Zle.left _ _) h)) (ZA.row (la _ (.tail _ (.head _)) _) (RR.flat (enc:=e66) (fun _=>rfl) _) ⟨w,pz.1⟩) (ZA.row (la _ (.tail _ (.tail _ (.head _))) _) (RR.flat (enc:=e64) (fun _=>rfl) _) ⟨w,pz.1⟩) (ZA.row (la _ (.tail _ (.tail _ (.tail _ (.head _)))) _) ((zDW.weak (fun _ _ h=>y1C (Zle.yU _ _ _) h)).weak (fun _ _ h=>y1C (Zle.left _ _) h)) ⟨w,pz.1⟩) ((zDX.mono (Zle.yU _ _ _)).mono (Zle.left _ _)) ((((zDY.mono (Zle.yU _ _ _)).weak (fun _ _ h=>y1B (Zle.yU _ _ _) h)).mono (Zle.left _ _)).weak (fun _ _ h=>y1B (Zle.left _ _) h)) ((zDZ.mono (Zle.yU _ _ _)).mono (Zle.left _ _)) (ZA.row (la _ (.tail _ (.tail _ (.tail _ (.tail _ (.head _))))) _) ((zE0.weak (fun _ _ h=>y1e (Zle.yU _ _ _) h)).weak (fun _ _ h=>y1e (Zle.left _ _) h)) ⟨w,pz.1⟩)) ?_)))
 rintro z101 z102 _
 refine WL.pu rfl (WL.pu rfl (WL.pu rfl (WL.pu rfl (WL.pu rfl (WL.nil (WX.a (WC.b (WC.a (WL.qA 24 (yI (v:=(.agg #[(.int .i64 0),(.int .i64 0),(.int .i64 40),(.int .i64 80)])) (Eos.parts (l:=[.const (.int .i64 0),.const (.int .i64 0),.const (.int .i64 40),.const (.int .i64 80)]) (.r4 rfl rfl rfl rfl) [0,1,2,3]) (fun _=>by kernel_rfl)) (WL.qA 25 (yI (v:=(.agg #[(.int .i64 2),(.int .i64 1),(.int .i64 56),(.int .i64 91)])) (Eos.parts (l:=[.const (.int .i64 2),.const (.int .i64 1),.const (.int .i64 56),.const (.int .i64 91)]) (.r4 rfl rfl rfl rfl) [0,1,2,3]) (fun _=>by kernel_rfl)) (WL.nA 26 (yN (cs:=([(⟨0,0,40,80⟩ : Sapi_PortBound),(⟨2,1,56,91⟩ : Sapi_PortBound)] : List Sapi_PortBound).flatMap e58) y66 (Eos.parts (l:=[.tmp 24,.tmp 25]) (.r2 rfl rfl) [0,1]) (fun _=>by kernel_rfl) rfl (by unfold maxLen; omega)) ?_)))))))))))
 intro zRK _
 refine WL.qA 27 (yI (v:=(.agg #[(.int .i64 0),(.int .i64 1),(.int .i64 96)])) (Eos.parts (l:=[.const (.int .i64 0),.const (.int .i64 1),.const (.int .i64 96)]) (.r3 rfl rfl rfl) [0,1,2]) (fun _=>by kernel_rfl)) (WL.nA 28 (yN (cs:=([(⟨0,1,96⟩ : Sapi_End)] : List Sapi_End).flatMap e79) y9F (Eos.parts (l:=[.tmp 27]) (.cons rfl .nil) [0]) (fun _=>by kernel_rfl) rfl (by unfold maxLen; omega)) ?_)
 intro zRL _
 refine WL.qA 29 (yI (v:=(.agg #[(.slice (some ⟨zRK,0,none⟩) (([(⟨0,0,40,80⟩ : Sapi_PortBound),(⟨2,1,56,91⟩ : Sapi_PortBound)] : List Sapi_PortBound).length) 2),(.slice (some ⟨zRL,0,none⟩) (([(⟨0,1,96⟩ : Sapi_End)] : List Sapi_End).length) 1)])) (Eos.parts (l:=[.tmp 26,.tmp 28]) (.r2 rfl rfl) [0,1]) (fun _=>by kernel_rfl)) (WL.nA 7 (yw (cs:=[(.slice none 0 0),(.slice none 0 0)]) y6A rfl) ?_)
 intro z103 _
 refine WL.yj rfl rfl (yl y5J rfl rfl rfl .here rfl rfl rfl) (WL.nil (WX.a (WC.b ?_)))
 obtain ⟨zdf,zE1,h⟩:=z6 h
 obtain ⟨zRM,h⟩:=yn h
 obtain ⟨zRN,h⟩:=yn h
 refine WC.a (WL.pu rfl (WL.pu rfl (WL.pu rfl (WL.seg true 2 32 (B:=(decide (zo8.2 = 0)) && (decide (zR.2 = 0))) rfl rfl rfl rfl rfl rfl (fun h=>(y2O h).symm) (fun _ zRO=>?_) ?_))))
 ·skip
  refine WL.pu rfl (WL.pu rfl (WL.pu rfl ?_))
  exact WL.yB (y2P zRO) rfl rfl .all
 refine WL.pu rfl (WL.seg true 3 36 (B:=zdf) rfl rfl rfl rfl rfl rfl (fun h=>(Option.some.inj (yp zE1 h)).symm) (fun _ zRP=>?_) ?_)
 ·skip
  have zlf:=yo zE1 zRP
  obtain ⟨zDT,zRQ,zlf⟩:=z6 zlf
  replace zlf:=Option.some.inj zlf
  refine WL.qA 37 (yf y7r rfl (yh .h4) rfl) (WL.qA 38 (yf y7r rfl (yh .here) rfl) (WL.cA 39 (z8 Tryz.call17 (.r2 rfl rfl)) .nil (y8k hz .nil (.there .h7) (.s4 .h5 .h5 .h2 .h1) fun w pz ho la=>ydG _ _ _ _ _ _ _ _ _ _ _ _ zRQ w pz (ZA.row (la _ (.head _) _) (RR.flat (enc:=e58) (fun _=>rfl) _) ⟨w,pz.1⟩) (ZA.row (la _ (.tail _ (.head _)) _) (RR.flat (enc:=e79) (fun _=>rfl) _) ⟨w,pz.1⟩) (ZA.row (la _ (.tail _ (.tail _ (.head _))) _) (RR.flat (enc:=e58) (fun _=>rfl) _) ⟨w,pz.1⟩) (ZA.row (la _ (.tail _ (.tail _ (.tail _ (.head _)))) _) (RR.flat (enc:=e79) (fun _=>rfl) _) ⟨w,pz.1⟩)) (WL.pu rfl ?_)))
  exact WL.yB zlf rfl rfl .all
 refine WL.pu rfl (WL.seg true 3 41 (B:=zdf && (decide (((zR.1.length : Nat) : Int) = 2))) rfl rfl rfl rfl rfl rfl (fun h=>(y2O h).symm) (fun _ zRR=>?_) ?_)
 ·skip
  refine WL.pu rfl (WL.qA 43 (yG Tryz.underlying35 rfl) (WL.pu rfl (WL.pu rfl ?_)))
  exact WL.yB (y2P zRR) rfl rfl .all
 refine WL.pu rfl (WL.seg true 5 46 (B:=(zdf && (decide (((zR.1.length : Nat) : Int) = 2))) && (decide ((⟨((nth zR.1 0).fNode),((nth zR.1 0).fLink),((nth zR.1 0).fDelay),((nth zR.1 0).fStore)⟩ : Sapi_PortBound) = (⟨0,0,0,0⟩ : Sapi_PortBound)))) rfl rfl rfl rfl rfl rfl (fun h=>(y2O h).symm) (fun _ zE2=>?_) ?_)
 ·skip
  have zlg:=zRM zE2
  refine WL.pu rfl (WL.know (fun w hw=>Hp.y2j .h3 hw (by intro hz'; have:=zlg; rw [hz'] at this; omega)) ?_)
  rintro ⟨z104,rfl⟩
  refine WL.qA 48 (yV y66 rfl rfl zlg.1 zlg.2 y32) (WL.qA 49 (yT (cs:=(e58 (nth zR.1 0))) y9E rfl rfl (y49 .h3 (y3y (enc:=e58) (l:=zR.1) (i:=0) (sz:=4) (fun _=>rfl) zlg.1 zlg.2))) (WL.qA 50 (yI (v:=(.agg #[(.int .i64 0),(.int .i64 0),(.int .i64 0),(.int .i64 0)])) (Eos.parts (l:=[]) .nil []) (fun _=>by kernel_rfl)) (WL.qA 51 (y7g (enc:=e58) (a:=(⟨((nth zR.1 0).fNode),((nth zR.1 0).fLink),((nth zR.1 0).fDelay),((nth zR.1 0).fStore)⟩ : Sapi_PortBound)) (b:=(⟨0,0,0,0⟩ : Sapi_PortBound)) ydB rfl rfl) (WL.pu rfl ?_))))
  exact WL.yB (y2P zE2) rfl rfl .all
 refine WL.pu rfl (WL.seg true 5 53 (B:=((zdf && (decide (((zR.1.length : Nat) : Int) = 2))) && (decide ((⟨((nth zR.1 0).fNode),((nth zR.1 0).fLink),((nth zR.1 0).fDelay),((nth zR.1 0).fStore)⟩ : Sapi_PortBound) = (⟨0,0,0,0⟩ : Sapi_PortBound)))) && (decide ((⟨((nth zR.1 1).fNode),((nth zR.1 1).fLink),((nth zR.1 1).fDelay),((nth zR.1 1).fStore)⟩ : Sapi_PortBound) = (⟨2,1,0,0⟩ : Sapi_PortBound)))) rfl rfl rfl rfl rfl rfl (fun h=>(y2O h).symm) (fun _ zE3=>?_) ?_)
 ·skip
  have zlh:=zRN zE3
  refine WL.pu rfl (WL.know (fun w hw=>Hp.y2j .h3 hw (by intro hz'; have:=zlh; rw [hz'] at this; omega)) ?_)
  rintro ⟨z105,rfl⟩
  refine WL.qA 55 (yV y66 rfl rfl zlh.1 zlh.2 y32) (WL.qA 56 (yT (cs:=(e58 (nth zR.1 1))) y9E rfl rfl (y49 .h3 (y3y (enc:=e58) (l:=zR.1) (i:=1) (sz:=4) (fun _=>rfl) zlh.1 zlh.2))) (WL.qA 57 (yI (v:=(.agg #[(.int .i64 2),(.int .i64 1),(.int .i64 0),(.int .i64 0)])) (Eos.parts (l:=[.const (.int .i64 2),.const (.int .i64 1)]) (.r2 rfl rfl) [0,1]) (fun _=>by kernel_rfl)) (WL.qA 58 (y7g (enc:=e58) (a:=(⟨((nth zR.1 1).fNode),((nth zR.1 1).fLink),((nth zR.1 1).fDelay),((nth zR.1 1).fStore)⟩ : Sapi_PortBound)) (b:=(⟨2,1,0,0⟩ : Sapi_PortBound)) ydB rfl rfl) (WL.pu rfl ?_))))
  exact WL.yB (y2P zE3) rfl rfl .all
 refine WL.pu rfl (WL.nil (WX.a (WC.ret ?_)))
 obtain rfl:=Option.some.inj h
 refine WX.ye Tryz.results9 (.tmp rfl .nil) (fun w hw=>?_)
 exact ⟨yC rfl,hw.sub .nil⟩
end Go.Proofs.YtcahmabkeaijdaaGreat
namespace Go.Proofs.YtcahmabkeaijdaaGreat
open Go Go.RowKit Sep
set_option maxRecDepth 30000
set_option maxHeartbeats 4000000
end Go.Proofs.YtcahmabkeaijdaaGreat
namespace Go.Proofs.YtcahmabkeaijdaaGreat
open Go Go.RowKit Sep
set_option maxRecDepth 30000
set_option maxHeartbeats 4000000
end Go.Proofs.YtcahmabkeaijdaaGreat
namespace Go.Proofs.YtcahmabkeaijdaaGreat
open Go Go.RowKit Sep
set_option maxRecDepth 30000
set_option maxHeartbeats 4000000
end Go.Proofs.YtcahmabkeaijdaaGreat

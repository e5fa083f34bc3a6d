/- A part of this claim's proof: models of functions, walks, plain laws. No conditions. -/
import Derived.Test.YtcahmabkeaijdaaGreatW35xe
set_option linter.all false
namespace Go.Proofs.YtcahmabkeaijdaaGreat
open Go Go.RowKit Sep
set_option maxRecDepth 30000
set_option maxHeartbeats 4000000
theorem srtA_92 : ∀ w,(isAgg (Tryz.y3j.t 24)).run Tryz.prog w = .ok true w:=fun _=>by kernel_rfl
theorem srtZ_92 : ∀ w,(Go.sizeOf (Tryz.y3j.t 24)).run Tryz.prog w = .ok 3 w:=fun _=>by kernel_rfl
def y3P (z4A : List Sapi_End) (zkt : Int) (zku : Int) (zhi : Int) (zeD : Sapi_End → Sapi_End → Option Int) : Option (List Sapi_End):=chk ((zkt = 0 ∧ zku = ((z4A.length : Nat) : Int)) ∧ (0 ≤ zhi ∧ zhi < 4611686018427387904 ∧ z4A.length < 4611686018427387904)) (chk (y7d zeD (yS zeD z4A) = true) (some (yS zeD z4A)))
theorem y7s (Z : Zp) (zeE : Option Addr) (zeF : Nat) (zkv : FuncId) (zuG : List Value) (z4A : List Sapi_End) (zkt : Int) (zku : Int) (zhi : Int) (zeD : Sapi_End → Sapi_End → Option Int) (r : List Sapi_End) (w₀ : World) (hz : PZ (fps [row (.slice zeE z4A.length zeF) 79 3 (z4A.flatMap e79)]) w₀ Z)
  (zPm : ∀ args w,(callFunc zkv args).run Tryz.prog w = .ok (.enter zkv args) w)
  (zPn : ∀ w : World,PZ [] w Z → ∀ (x0 : Sapi_End) (x1 : Sapi_End) (r : Int),zeD x0 x1 = some r → Calls Tryz.prog zkv (([(.agg #[(.int .i64 x0.fVL),(.int .i64 x0.fNode),(.int .i64 x0.fDelay)]),(.agg #[(.int .i64 x1.fVL),(.int .i64 x1.fNode),(.int .i64 x1.fDelay)])] : List Value) ++ zuG).toArray w fun e w'=>e = .returned (.int .i64 r) ∧ Hp [] w w' [])
  (h : y3P z4A zkt zku zhi zeD = some r) (hown : Hp (fps [row (.slice zeE z4A.length zeF) 79 3 (z4A.flatMap e79)]) w₀ w₀ [row (.slice zeE z4A.length zeF) 79 3 (z4A.flatMap e79)]) :
  Calls Tryz.prog 92 #[(.slice zeE z4A.length zeF),(.int .i64 zkt),(.int .i64 zku),(.int .i64 zhi),(.func (.func zkv) #[] (zuG).toArray)] w₀ fun e w'=>e = .returned (.tuple #[]) ∧ (r.length = z4A.length) ∧ Hp (fps [row (.slice zeE z4A.length zeF) 79 3 (z4A.flatMap e79)]) w₀ w' [row (.slice zeE r.length zeF) 79 3 (r.flatMap e79)]:=by
 obtain ⟨h0,h⟩:=ym h
 obtain ⟨h1,h⟩:=ym h
 have hr:=(Option.some.inj h).symm
 exact y85 (P:=Tryz.prog) (f:=92) (e:=79) (k:=3) (enc:=e79) (fun _=>rfl) (by decide) ydK (fun β _ enc cf g cb hO blk off cap d0 w0 eg hC R=>Tryz.y88 3 srtA_92 srtZ_92 enc cf g cb hO blk off cap d0 w0 eg hC R) (Tryz.y7S (α:=Unit)) hz zPm zPn h0 h1 hr hown
def y1T (z3Y : List Sapi_End) (zhj : Sapi_End → Sapi_End → Option Int) : Option (List Sapi_End) :=
 (y3W (u64 ((z3Y.length : Nat) : Int))).bind fun zn6=>(y3P z3Y 0 ((z3Y.length : Nat) : Int) zn6 zhj).bind fun zn7=>some zn7
theorem y77 (Z : Zp) (zcn : Option Addr) (zco : Nat) (zhk : FuncId) (zn8 : List Value) (z3Y : List Sapi_End) (zhj : Sapi_End → Sapi_End → Option Int) (r : List Sapi_End)
  (h : y1T z3Y zhj = some r) (w₀ : World) (hz : PZ (fps [row (.slice zcn z3Y.length zco) 79 3 (z3Y.flatMap e79)]) w₀ Z)
  (zPo : ∀ args w,(callFunc zhk args).run Tryz.prog w = .ok (.enter zhk args) w)
  (zPp : ∀ w : World,PZ [] w Z → ∀ (x0 : Sapi_End) (x1 : Sapi_End) (r : Int),zhj x0 x1 = some r → Calls Tryz.prog zhk (([(.agg #[(.int .i64 x0.fVL),(.int .i64 x0.fNode),(.int .i64 x0.fDelay)]),(.agg #[(.int .i64 x1.fVL),(.int .i64 x1.fNode),(.int .i64 x1.fDelay)])] : List Value) ++ zn8).toArray w fun e w'=>e = .returned (.int .i64 r) ∧ Hp [] w w' [])
  (hown : Hp (fps [row (.slice zcn z3Y.length zco) 79 3 (z3Y.flatMap e79)]) w₀ w₀ [row (.slice zcn z3Y.length zco) 79 3 (z3Y.flatMap e79)]) :
  Calls Tryz.prog 53 #[(.slice zcn z3Y.length zco),(.func (.func zhk) #[] (zn8).toArray)] w₀ fun e w'=>e = .returned (.tuple #[]) ∧ (r.length = z3Y.length) ∧ Hp (fps [row (.slice zcn z3Y.length zco) 79 3 (z3Y.flatMap e79)]) w₀ w' [row (.slice zcn r.length zco) 79 3 (r.flatMap e79)]:=by
 unfold y1T at h
 refine Calls.oh2 Tryz.func53 Tryz.ntmps53 hown ?_
 refine WC.b (WC.a (WL.pu rfl (WL.qA 6 (yG Tryz.underlying36 rfl) (WL.pu rfl (WL.nil (WX.a ?_))))))
 obtain ⟨zn6,zPq,h⟩:=z7 h
 obtain ⟨zn7,zPr,h⟩:=z7 h
 refine WC.a (WL.pu rfl (WL.pu rfl (WL.pu rfl (WL.qA 10 (y72 Tryz.underlying3 Tryz.underlying142 rfl rfl) (WL.cA 11 (z8 Tryz.call48 (.cons rfl .nil)) .nil (cc hz .nil fun w pz ho=>y7D (Z:=_)  (z6m:=(u64 ((z3Y.length : Nat) : Int))) (r:=zn6) w pz  zPq) (WL.pu rfl (WL.y4L (dd:=13) rfl rfl rfl (z8 Tryz.call92 (.r5 rfl rfl rfl rfl rfl)) (.cons .here .nil) (cc hz (.cons .here .nil) fun w pz ho=>y7s (Z:=_) (zeE:=zcn) (zeF:=zco) (zkv:=zhk) (zuG:=zn8) (z4A:=z3Y) (zkt:=0) (zku:=((z3Y.length : Nat) : Int)) (zhi:=zn6) (zeD:=zhj) (r:=zn7) w pz zPo zPp zPr ho) ?_)))))))
 rintro  zCv
 refine WL.repin (i:=0) rfl (u:=(.slice zcn zn7.length zco)) (y7u zCv.symm) (WL.nil ?_)
 obtain rfl:=Option.some.inj h
 refine WX.y4K Tryz.results53 .nil (fun w hw=>?_)
 exact ⟨y7a,(zCv.trans rfl),hw.sub (.cons .here .nil)⟩
def y41 (z28 : List Sapi_PortBound) (zas : (List (Sbound_place × Int)) → Option (List Sapi_End)) : Nat → Int → (List (Sbound_place × Int)) → Option (List Sapi_End)
 | 0,_,_=>none
 | zuH + 1,z29,z6g=>if decide (z29 ≥ 0) then chk ((0 : Int) ≤ z29 ∧ z29 < ((z28.length : Nat) : Int)) (y41 z28 zas zuH (i64 (z29 - 1)) (yJ z6g (⟨((nth z28 z29).fNode),((nth z28 z29).fLink)⟩ : Sbound_place) ((nth z28 z29).fDelay))) else zas z6g
theorem ya5 {n : Nat} {z28 : List Sapi_PortBound} {zas : (List (Sbound_place × Int)) → Option (List Sapi_End)} {z29 : Int} {z6g : List (Sbound_place × Int)} {r : List Sapi_End} (h : y41 z28 zas n z29 z6g = some r) : ∃ m,n = m + 1:=by
 cases n with
 | zero=>cases h
 | succ m=>exact ⟨m,rfl⟩
def y42 (zf : List (List Sapi_Hop)) (ze : Int) (zi : Sapi_Config) (z1m : List (Sbound_place × Int)) (zat : (List Sapi_End) → Option (List Sapi_End)) : Nat → (List Sapi_End) → Int → (List (Int × Int)) → Option (List Sapi_End)
 | 0,_,_,_=>none
 | zuI + 1,z2y,zn,zN=>if decide (zn < (((nth zf ze).length : Nat) : Int)) then jp2 (fun (z7A : List Sapi_End) (zau : List (Int × Int))=>y42 zf ze zi z1m zat zuI z7A (i64 (zn + 1)) zau) fun zkw=>chk ((0 : Int) ≤ zn ∧ zn < (((nth zf ze).length : Nat) : Int)) (chk ((y2J zN ((nth (nth zf ze) zn).fNext)) = false → ((0 : Int) ≤ 0 ∧ 0 < (((nth zf ze).length : Nat) : Int))) (if (y2J zN ((nth (nth zf ze) zn).fNext)) || (decide (((nth (nth zf ze) zn).fNext) = ((nth (nth zf ze) 0).fNode))) then zkw z2y zN else (y3U (⟨((nth (nth zf ze) zn).fNode),((nth (nth zf ze) zn).fNext),((nth (nth zf ze) zn).fLink)⟩ : Sapi_Hop)).bind fun z5M=>if (decide (((nth (nth zf ze) zn).fNext) ≥ 0)) && (decide (((nth (nth zf ze) zn).fNext) < ((zi.fModules.length : Nat) : Int))) then chk ((((z2y ++ ([(⟨ze,((nth (nth zf ze) zn).fNext),(yn (yJ zN ((nth (nth zf ze) zn).fNext) (i64 ((yn zN ((nth (nth zf ze) zn).fNode) 0) + (yn z1m z5M 0)))) ((nth (nth zf ze) zn).fNext) 0)⟩ : Sapi_End)] : List Sapi_End)).length : Nat) : Int) * 24 ≤ 140737488355328 ∧ (((z2y ++ ([(⟨ze,((nth (nth zf ze) zn).fNext),(yn (yJ zN ((nth (nth zf ze) zn).fNext) (i64 ((yn zN ((nth (nth zf ze) zn).fNode) 0) + (yn z1m z5M 0)))) ((nth (nth zf ze) zn).fNext) 0)⟩ : Sapi_End)] : List Sapi_End)).length : Nat) : Int) ≤ 4611686018427387904) (zkw (z2y ++ ([(⟨ze,((nth (nth zf ze) zn).fNext),(yn (yJ zN ((nth (nth zf ze) zn).fNext) (i64 ((yn zN ((nth (nth zf ze) zn).fNode) 0) + (yn z1m z5M 0)))) ((nth (nth zf ze) zn).fNext) 0)⟩ : Sapi_End)] : List Sapi_End)) (yJ zN ((nth (nth zf ze) zn).fNext) (i64 ((yn zN ((nth (nth zf ze) zn).fNode) 0) + (yn z1m z5M 0))))) else zkw z2y (yJ zN ((nth (nth zf ze) zn).fNext) (i64 ((yn zN ((nth (nth zf ze) zn).fNode) 0) + (yn z1m z5M 0)))))) else zat z2y
theorem ya6 {n : Nat} {zf : List (List Sapi_Hop)} {ze : Int} {zi : Sapi_Config} {z1m : List (Sbound_place × Int)} {zat : (List Sapi_End) → Option (List Sapi_End)} {z2y : List Sapi_End} {zn : Int} {zN : List (Int × Int)} {r : List Sapi_End} (h : y42 zf ze zi z1m zat n z2y zn zN = some r) : ∃ m,n = m + 1:=by
 cases n with
 | zero=>cases h
 | succ m=>exact ⟨m,rfl⟩
def y43 (zf : List (List Sapi_Hop)) (zi : Sapi_Config) (z1m : List (Sbound_place × Int)) (zav : (List Sapi_End) → Option (List Sapi_End)) : Nat → (List Sapi_End) → Int → Option (List Sapi_End)
 | 0,_,_=>none
 | zuJ + 1,z1L,ze=>if decide (ze < ((zf.length : Nat) : Int)) then jp1 (fun (z7B : List Sapi_End)=>y43 zf zi z1m zav zuJ z7B (i64 (ze + 1))) fun zuK=>chk ((0 : Int) ≤ ze ∧ ze < ((zf.length : Nat) : Int)) (jp1 (fun (z8j : List Sapi_End)=>(y1T z8j (fun (y0 : Sapi_End) (y1 : Sapi_End)=>y2Q y0 y1)).bind fun zeG=>chk ((((z1L ++ zeG).length : Nat) : Int) * 24 ≤ 140737488355328 ∧ (((z1L ++ zeG).length : Nat) : Int) ≤ 4611686018427387904) (zuK (z1L ++ zeG))) fun zat=>y42 zf ze zi z1m zat yz ([] : List Sapi_End) 0 ([] : List (Int × Int))) else zav z1L
theorem ya7 {n : Nat} {zf : List (List Sapi_Hop)} {zi : Sapi_Config} {z1m : List (Sbound_place × Int)} {zav : (List Sapi_End) → Option (List Sapi_End)} {z1L : List Sapi_End} {ze : Int} {r : List Sapi_End} (h : y43 zf zi z1m zav n z1L ze = some r) : ∃ m,n = m + 1:=by
 cases n with
 | zero=>cases h
 | succ m=>exact ⟨m,rfl⟩
def y6A (zi : Sapi_Config) (zf : List (List Sapi_Hop)) (z28 : List Sapi_PortBound) : Option (List Sapi_End) :=
 (yV zf (fun (y0 : List Sapi_Hop)=>y3M y0)).bind fun zCw=>if zCw then some ([] : List Sapi_End) else jp1 (fun (z1m : List (Sbound_place × Int))=>jp1 (fun (z8k : List Sapi_End)=>some z8k) fun zav=>y43 zf zi z1m zav yz ([] : List Sapi_End) 0) fun zas=>y41 z28 zas yz (i64 (((z28.length : Nat) : Int) - 1)) ([] : List (Sbound_place × Int))
theorem ydS (Z : Zp) (z8l : Option Addr) (z8m : Nat) (z8n : Option Addr) (z8o : Nat) (z8p : Option Addr) (z8q : Nat) (z8r : Option Addr) (z8s : Nat) (z8t : Option Addr) (z8u : Nat) (z8v : Option Addr) (z8w : Nat) (z8x : Option Addr) (z8y : Nat) (z8z : Option Addr) (z8A : Nat) (z8B : Option Addr) (z8C : Nat) (zuL : Option Addr) (zuM : Nat) (zi : Sapi_Config) (zf : List (List Sapi_Hop)) (z28 : List Sapi_PortBound) (r : List Sapi_End)
  (h : y6A zi zf z28 = some r) (w₀ : World) (hz : PZ [] w₀ Z)
  (zX6 : ZS Z 4 (y48 Z) z8l z8m zi.fModules)
  (zX7 : ZS Z 4 (y4H Z) z8n z8o zi.fChannels)
  (zX8 : ZS Z 4 (fun r x=>r = e66 x) z8p z8q zi.fSwitches)
  (zX9 : ZS Z 4 (fun r x=>r = e64 x) z8r z8s zi.fLinks)
  (zXa : ZS Z 7 (p46 Z) z8t z8u zi.fVLs)
  (zXb : ZS Z 5 (fun r x=>r = y4U x) z8v z8w zi.fHealth)
  (zXc : ZS Z 3 (y4I Z) z8x z8y zi.fCauses)
  (zXd : ZS Z 4 (fun r x=>r = y4V x) z8z z8A zi.fVersions)
  (zCx : ZS Z 1 (p48 Z) z8B z8C zf)
  (zuN : ZS Z 4 (fun r x=>r = e58 x) zuL zuM z28) :
  Calls Tryz.prog 26 #[(.agg #[(.slice z8l zi.fModules.length z8m),(.slice z8n zi.fChannels.length z8o),(.slice z8p zi.fSwitches.length z8q),(.slice z8r zi.fLinks.length z8s),(.slice z8t zi.fVLs.length z8u),(.slice z8v zi.fHealth.length z8w),(.slice z8x zi.fCauses.length z8y),(.slice z8z zi.fVersions.length z8A)]),(.slice z8B zf.length z8C),(.slice zuL z28.length zuM)] w₀ fun e w'=>∃ zCy : Option Addr,∃ zCz : Nat,e = .returned (.slice zCy r.length zCz) ∧ True ∧ Hp [] w₀ w' [row (.slice zCy r.length zCz) 79 3 (r.flatMap e79)]:=by
 unfold y6A at h
 refine Calls.on3 Tryz.func26 Tryz.ntmps26 ?_
 refine WC.b (WC.a (WL.nA 3 (yH (cs:=[(.slice z8l zi.fModules.length z8m),(.slice z8n zi.fChannels.length z8o),(.slice z8p zi.fSwitches.length z8q),(.slice z8r zi.fLinks.length z8s),(.slice z8t zi.fVLs.length z8u),(.slice z8v zi.fHealth.length z8w),(.slice z8x zi.fCauses.length z8y),(.slice z8z zi.fVersions.length z8A)]) rfl rfl) ?_))
 intro z5r _
 refine WL.pu rfl (WL.nil (WX.a (WC.b (WC.b ?_))))
 obtain ⟨zCw,zPs,h⟩:=z7 h
 refine WC.a (WL.pu rfl (WL.cA 19 (z8 Tryz.call27 (.r2 rfl rfl)) .nil (cc hz .nil fun w pz ho=>y3Q _ _ _ (zd3:=51) (zik:=[]) _ (zd2:=(fun (y0 : List Sapi_Hop)=>y3M y0)) _ zPs w pz zCx Tryz.call51 (fun w' hz' y0 ga0 gc0 r gh0 hr=>ycK _ _ _ _ _ hr w' hz' gh0)) (WL.nil (WX.a (WC.cond rfl (fun zuO=>?_) (fun zuO=>?_))))))
 ·replace h:=yo h zuO
  refine WC.b (WC.a (WL.pu rfl (WL.nil (WX.a (WC.ret (WX.yd (WX.nilRow 79 3 ?_)))))))
  obtain rfl:=Option.some.inj h
  refine WX.ye Tryz.results26 (.tmp rfl .nil) (fun w hw=>?_)
  exact ⟨none,0,yC rfl,trivial,hw.sub (.cons .here .nil)⟩
 ·replace h:=yp h zuO
  refine WC.skip (WX.a (WC.b (WC.a (WL.nA 20 (y4j (fun x=>Value.agg (e97 x).toArray) (Value.int .i64)) ?_))))
  intro z5s _
  refine WL.pu rfl (WL.nil (WX.a ?_))
  obtain ⟨zas,zPt,h⟩:=y14 h
  refine WC.y3z (fun (z1m : List (Sbound_place × Int))=>(zas z1m = some r)) (fun z1m=>[(1,(.slice z8B zf.length z8C)),(3,(.pointer (some ⟨z5r,0,none⟩))),(7,(.map (some z5s)))]) (fun z1m=>[stb z5r 31 [(.slice z8l zi.fModules.length z8m),(.slice z8n zi.fChannels.length z8o),(.slice z8p zi.fSwitches.length z8q),(.slice z8r zi.fLinks.length z8s),(.slice z8t zi.fVLs.length z8u),(.slice z8v zi.fHealth.length z8w),(.slice z8x zi.fCauses.length z8y),(.slice z8z zi.fVersions.length z8A)],yy z5s (fun x=>Value.agg (e97 x).toArray) (Value.int .i64) z1m]) ?_ ?_
  ·skip
   refine WC.b (WC.a (WL.pu rfl (WL.qA 22 (yG Tryz.underlying35 rfl) (WL.pu rfl (WL.pu rfl (WL.nil (WX.a (WC.block (WC.y8O (fun (zhl : Nat) (z29 : Int) (z6g : List (Sbound_place × Int))=>(y41 z28 zas zhl z29 z6g = some r)) (fun zhl z29 z6g=>[(1,(.slice z8B zf.length z8C)),(2,(.slice zuL z28.length zuM)),(3,(.pointer (some ⟨z5r,0,none⟩))),(7,(.map (some z5s))),(8,(.int .i64 z29))]) (fun zhl z29 z6g=>[stb z5r 31 [(.slice z8l zi.fModules.length z8m),(.slice z8n zi.fChannels.length z8o),(.slice z8p zi.fSwitches.length z8q),(.slice z8r zi.fLinks.length z8s),(.slice z8t zi.fVLs.length z8u),(.slice z8v zi.fHealth.length z8w),(.slice z8x zi.fCauses.length z8y),(.slice z8z zi.fVersions.length z8A)],yy z5s (fun x=>Value.agg (e97 x).toArray) (Value.int .i64) z6g]) (fun zhl z29 z6g=>zhl) ⟨yz,(i64 (((z28.length : Nat) : Int) - 1)),([] : List (Sbound_place × Int))⟩ h (.r5 rfl rfl rfl rfl rfl) (.s2 .h1 .here) ?_)))))))))
   rintro zhl z29 z6g h
   obtain ⟨zuH,rfl⟩:=ya5 h
   rw [y41] at h
   refine WC.b (WC.b (WC.a (WL.pu rfl (WL.pu rfl (WL.nil (WX.a (WC.cond rfl (fun zuP=>?_) (fun zuP=>?_))))))))
   ·replace h:=yo h zuP
    refine WC.skip (WX.a (WC.b (WC.block ?_)))
    obtain ⟨zuQ,h⟩:=ym h
    refine WC.yP (fun i=>[17].contains i) [] rfl (WD.pA 0 28 rfl (fun _=>q_m rfl) (WD.pA 1 29 rfl (fun _=>q_m rfl) (WD.pA 2 30 rfl (fun _=>q_m rfl) (WD.znth (j:=3) (dd:=31) (by kernel_rfl) rfl z2l z2m rfl rfl (Z:=Z) (Pr:=(fun r x=>r = e58 x)) y5G rfl rfl zuN zuQ ?_))))
    rintro zXe zXf zPu zXg rfl
    refine WD.pA 4 32 rfl (fun _=>ya ybb rfl rfl) (WD.qA 5 33 rfl (yc yw rfl (y1e hz.pv zPu rfl)) (WD.pA 6 34 rfl (fun _=>q_m rfl) (WD.pA 7 35 rfl (fun _=>q_m rfl) (WD.znth (j:=8) (dd:=36) (by kernel_rfl) rfl z2l z2m rfl rfl (Z:=Z) (Pr:=(fun r x=>r = e58 x)) y5G rfl rfl zuN zuQ ?_))))
    rintro zXh zXi zPv zXj rfl
    refine WD.pA 9 37 rfl (fun _=>ya ycD rfl rfl) (WD.qA 10 38 rfl (yc yw rfl (y1e hz.pv zPv rfl)) (WD.pA 11 39 rfl (fun _=>yL (v:=(.agg #[(.int .i64 ((nth z28 z29).fNode)),(.int .i64 ((nth z28 z29).fLink))])) (Eos.parts (l:=[.tmp 33,.tmp 38]) (.r2 rfl rfl) [0,1]) (fun _=>by kernel_rfl)) (WD.pA 12 40 rfl (fun _=>q_m rfl) (WD.pA 13 41 rfl (fun _=>q_m rfl) (WD.znth (j:=14) (dd:=42) (by kernel_rfl) rfl z2l z2m rfl rfl (Z:=Z) (Pr:=(fun r x=>r = e58 x)) y5G rfl rfl zuN zuQ ?_)))))
    rintro zXk zXl zPw zXm rfl
    refine WD.pA 15 43 rfl (fun _=>ya yeR rfl rfl) (WD.qA 16 44 rfl (yc yw rfl (y1e hz.pv zPw rfl)) (WD.y3A (i:=17) rfl (by kernel_rfl) rfl rfl rfl (by kernel_rfl) (y5u (k:=(⟨((nth z28 z29).fNode),((nth z28 z29).fLink)⟩ : Sbound_place)) (v:=((nth z28 z29).fDelay)) y7o Tryz.underlying93 rfl rfl rfl rfl .h1) (WD.done (by kernel_rfl) (WX.yq (WX.a (WC.a (WL.pu rfl (WL.pu rfl (WL.pu rfl (WL.nil ?_))))))))))
    exact WX.round ⟨zuH,(i64 (z29 - 1)),(yJ z6g (⟨((nth z28 z29).fNode),((nth z28 z29).fLink)⟩ : Sbound_place) ((nth z28 z29).fDelay))⟩ h (Nat.lt_succ_self _) (.r5 rfl rfl rfl rfl rfl) (.s2 .h1 .here)
   ·replace h:=yp h zuP
    refine WC.exit (WX.yg (WX.yg (WX.yA ?_)))
    exact WX.mid z6g h (.r3 rfl rfl rfl) (.s2 .here .here)
  ·rintro z1m h
   replace h:=(zPt z1m).symm.trans h
   refine WC.b (WC.a (WL.pu rfl (WL.nil (WX.a ?_))))
   obtain ⟨zav,zPx,h⟩:=y14 h
   refine WC.y2F (fun (z8k : List Sapi_End) (zhm : Option Addr) (zhn : Nat)=>(zav z8k = some r)) (fun z8k zhm zhn=>[(9,(.slice zhm z8k.length zhn))]) (fun z8k zhm zhn=>[row (.slice zhm z8k.length zhn) 79 3 (z8k.flatMap e79)]) ?_ ?_
   ·skip
    refine WC.b (WC.a (WL.pu rfl (WL.qA 46 (yG Tryz.underlying32 rfl) (WL.pu rfl (WL.nil (WX.a (WC.block (WC.nilRow 79 3 (WC.y6s (fun (zho : Nat) (z1L : List Sapi_End) (ze : Int) (z5N : Option Addr) (z5O : Nat)=>(y43 zf zi z1m zav zho z1L ze = some r)) (fun zho z1L ze z5N z5O=>[(3,(.pointer (some ⟨z5r,0,none⟩))),(7,(.map (some z5s))),(9,(.slice z5N z1L.length z5O)),(45,(.slice z8B zf.length z8C)),(46,(.int .i64 ((zf.length : Nat) : Int))),(47,(.int .i64 ze))]) (fun zho z1L ze z5N z5O=>[row (.slice z5N z1L.length z5O) 79 3 (z1L.flatMap e79),stb z5r 31 [(.slice z8l zi.fModules.length z8m),(.slice z8n zi.fChannels.length z8o),(.slice z8p zi.fSwitches.length z8q),(.slice z8r zi.fLinks.length z8s),(.slice z8t zi.fVLs.length z8u),(.slice z8v zi.fHealth.length z8w),(.slice z8x zi.fCauses.length z8y),(.slice z8z zi.fVersions.length z8A)],yy z5s (fun x=>Value.agg (e97 x).toArray) (Value.int .i64) z1m]) (fun zho z1L ze z5N z5O=>zho) ⟨yz,([] : List Sapi_End),0,none,0⟩ h (.r6 rfl rfl rfl rfl rfl rfl) (.s3 .here .here .here) ?_)))))))))
    rintro zho z1L ze z5N z5O h
    obtain ⟨zuJ,rfl⟩:=ya7 h
    rw [y43] at h
    refine WC.b (WC.a (WL.pu rfl (WL.nil (WX.a (WC.b (WC.cond rfl (fun zuR=>?_) (fun zuR=>?_)))))))
    ·replace h:=yo h zuR
     refine WC.skip (WX.a ?_)
     obtain ⟨zuK,zPy,h⟩:=y14 h
     refine WC.y2F (fun (z7B : List Sapi_End) (zhp : Option Addr) (zhq : Nat)=>(zuK z7B = some r)) (fun z7B zhp zhq=>[(3,(.pointer (some ⟨z5r,0,none⟩))),(7,(.map (some z5s))),(9,(.slice zhp z7B.length zhq)),(45,(.slice z8B zf.length z8C)),(46,(.int .i64 ((zf.length : Nat) : Int))),(47,(.int .i64 ze))]) (fun z7B zhp zhq=>[row (.slice zhp z7B.length zhq) 79 3 (z7B.flatMap e79),stb z5r 31 [(.slice z8l zi.fModules.length z8m),(.slice z8n zi.fChannels.length z8o),(.slice z8p zi.fSwitches.length z8q),(.slice z8r zi.fLinks.length z8s),(.slice z8t zi.fVLs.length z8u),(.slice z8v zi.fHealth.length z8w),(.slice z8x zi.fCauses.length z8y),(.slice z8z zi.fVersions.length z8A)],yy z5s (fun x=>Value.agg (e97 x).toArray) (Value.int .i64) z1m]) ?_ ?_
     ·skip
      refine WC.block (WC.b ?_)
      obtain ⟨zPz,h⟩:=ym h
      refine WC.a (WL.pu rfl (WL.znth (dd:=50) rfl rfl (Z:=Z) (Pr:=(p48 Z)) y73 rfl rfl zCx zPz ?_))
      rintro zXn zXo zPA zXp ⟨zhr,zhs,rfl,zCA⟩
      refine WL.qA 51 (yc y6H rfl (y53 hz.pv zPA rfl)) (WL.pu rfl (WL.pu rfl (WL.nil (WX.a (WC.b (WC.a (WL.nA 52 (y4j (Value.int .i64) (Value.int .i64)) ?_)))))))
      intro zht _
      refine WL.pu rfl (WL.nil (WX.a (WC.b (WC.a (WL.pu rfl (WL.nil (WX.a ?_)))))))
      obtain ⟨zat,zPB,h⟩:=y14 h
      refine WC.y2F (fun (z8j : List Sapi_End) (zhu : Option Addr) (zhv : Nat)=>(zat z8j = some r)) (fun z8j zhu zhv=>[(3,(.pointer (some ⟨z5r,0,none⟩))),(7,(.map (some z5s))),(9,(.slice z5N z1L.length z5O)),(13,(.slice zhu z8j.length zhv)),(45,(.slice z8B zf.length z8C)),(46,(.int .i64 ((zf.length : Nat) : Int))),(47,(.int .i64 ze))]) (fun z8j zhu zhv=>[row (.slice z5N z1L.length z5O) 79 3 (z1L.flatMap e79),row (.slice zhu z8j.length zhv) 79 3 (z8j.flatMap e79),stb z5r 31 [(.slice z8l zi.fModules.length z8m),(.slice z8n zi.fChannels.length z8o),(.slice z8p zi.fSwitches.length z8q),(.slice z8r zi.fLinks.length z8s),(.slice z8t zi.fVLs.length z8u),(.slice z8v zi.fHealth.length z8w),(.slice z8x zi.fCauses.length z8y),(.slice z8z zi.fVersions.length z8A)],yy z5s (fun x=>Value.agg (e97 x).toArray) (Value.int .i64) z1m]) ?_ ?_
      ·skip
       refine WC.b (WC.a (WL.pu rfl (WL.qA 54 (yG Tryz.underlying48 rfl) (WL.pu rfl (WL.nil (WX.a (WC.block (WC.nilRow 79 3 (WC.ybD (fun (zhw : Nat) (z2y : List Sapi_End) (zn : Int) (zN : List (Int × Int)) (z8D : Option Addr) (z8E : Nat)=>(y42 zf ze zi z1m zat zhw z2y zn zN = some r)) (fun zhw z2y zn zN z8D z8E=>[(3,(.pointer (some ⟨z5r,0,none⟩))),(7,(.map (some z5s))),(9,(.slice z5N z1L.length z5O)),(10,(.int .i64 ze)),(11,(.slice zhr ((nth zf ze).length) zhs)),(12,(.map (some zht))),(13,(.slice z8D z2y.length z8E)),(45,(.slice z8B zf.length z8C)),(46,(.int .i64 ((zf.length : Nat) : Int))),(47,(.int .i64 ze)),(53,(.slice zhr ((nth zf ze).length) zhs)),(54,(.int .i64 (((nth zf ze).length : Nat) : Int))),(55,(.int .i64 zn))]) (fun zhw z2y zn zN z8D z8E=>[row (.slice z5N z1L.length z5O) 79 3 (z1L.flatMap e79),row (.slice z8D z2y.length z8E) 79 3 (z2y.flatMap e79),stb z5r 31 [(.slice z8l zi.fModules.length z8m),(.slice z8n zi.fChannels.length z8o),(.slice z8p zi.fSwitches.length z8q),(.slice z8r zi.fLinks.length z8s),(.slice z8t zi.fVLs.length z8u),(.slice z8v zi.fHealth.length z8w),(.slice z8x zi.fCauses.length z8y),(.slice z8z zi.fVersions.length z8A)],yy z5s (fun x=>Value.agg (e97 x).toArray) (Value.int .i64) z1m,yy zht (Value.int .i64) (Value.int .i64) zN]) (fun zhw z2y zn zN z8D z8E=>zhw) ⟨yz,([] : List Sapi_End),0,([] : List (Int × Int)),none,0⟩ h (.r13 rfl rfl rfl rfl rfl rfl rfl rfl rfl rfl rfl rfl rfl) (.s5 .h2 .here .h1 .h1 .here) ?_)))))))))
       rintro zhw z2y zn zN z8D z8E h
       obtain ⟨zuI,rfl⟩:=ya6 h
       rw [y42] at h
       refine WC.b (WC.a (WL.pu rfl (WL.nil (WX.a (WC.b (WC.cond rfl (fun zuS=>?_) (fun zuS=>?_)))))))
       ·replace h:=yo h zuS
        refine WC.skip (WX.a ?_)
        obtain ⟨zkw,zPC,h⟩:=y4t h
        refine WC.y8u (fun (z7A : List Sapi_End) (zau : List (Int × Int)) (zhx : Option Addr) (zhy : Nat)=>(zkw z7A zau = some r)) (fun z7A zau zhx zhy=>[(3,(.pointer (some ⟨z5r,0,none⟩))),(7,(.map (some z5s))),(9,(.slice z5N z1L.length z5O)),(10,(.int .i64 ze)),(11,(.slice zhr ((nth zf ze).length) zhs)),(12,(.map (some zht))),(13,(.slice zhx z7A.length zhy)),(45,(.slice z8B zf.length z8C)),(46,(.int .i64 ((zf.length : Nat) : Int))),(47,(.int .i64 ze)),(53,(.slice zhr ((nth zf ze).length) zhs)),(54,(.int .i64 (((nth zf ze).length : Nat) : Int))),(55,(.int .i64 zn))]) (fun z7A zau zhx zhy=>[row (.slice z5N z1L.length z5O) 79 3 (z1L.flatMap e79),row (.slice zhx z7A.length zhy) 79 3 (z7A.flatMap e79),stb z5r 31 [(.slice z8l zi.fModules.length z8m),(.slice z8n zi.fChannels.length z8o),(.slice z8p zi.fSwitches.length z8q),(.slice z8r zi.fLinks.length z8s),(.slice z8t zi.fVLs.length z8u),(.slice z8v zi.fHealth.length z8w),(.slice z8x zi.fCauses.length z8y),(.slice z8z zi.fVersions.length z8A)],yy z5s (fun x=>Value.agg (e97 x).toArray) (Value.int .i64) z1m,yy zht (Value.int .i64) (Value.int .i64) zau]) ?_ ?_
        ·skip
         refine WC.block (WC.b ?_)
         obtain ⟨zPD,h⟩:=ym h
         refine WC.a (WL.znth (dd:=57) rfl rfl (Z:=Z) (Pr:=(fun r x=>r = e62 x)) y61 rfl rfl zCA zPD ?_)
         rintro zPE zXq zPF zXr rfl
         refine WL.qA 58 (yf y3G rfl (y2o hz.pv zPF) rfl) (WL.nA 15 (yx (cs:=[(.int .i64 0),(.int .i64 0),(.int .i64 0)]) y6v rfl) ?_)
         intro zCB _
         refine WL.yl rfl rfl (yk y6I rfl rfl rfl .here rfl rfl rfl) (WL.nil (WX.a (WC.b (WC.b (WC.a (WL.pu rfl (WL.qA 61 (ya y5F rfl rfl) (WL.qA 62 (yc yw rfl (yj .here rfl)) (WL.qA 63 (yfL (k:=((nth (nth zf ze) zn).fNext)) (dflt:=(0 : Int)) y5e Tryz.underlying145 y4P rfl rfl rfl .h5) (WL.pu rfl (WL.pu rfl (WL.pu rfl (WL.pu rfl (WL.pu rfl (WL.nil (WX.a (WC.b ?_)))))))))))))))))
         obtain ⟨zPG,h⟩:=ym h
         refine WC.yP (fun i=>[].contains i) [] rfl (WD.pA 0 66 rfl (fun _=>q_m rfl) (WD.pA 1 67 rfl (fun _=>q_m rfl) (WD.mid (fuel':=0) [(3,(.pointer (some ⟨z5r,0,none⟩))),(7,(.map (some z5s))),(9,(.slice z5N z1L.length z5O)),(10,(.int .i64 ze)),(11,(.slice zhr ((nth zf ze).length) zhs)),(12,(.map (some zht))),(13,(.slice z8D z2y.length z8E)),(45,(.slice z8B zf.length z8C)),(46,(.int .i64 ((zf.length : Nat) : Int))),(47,(.int .i64 ze)),(53,(.slice zhr ((nth zf ze).length) zhs)),(54,(.int .i64 (((nth zf ze).length : Nat) : Int))),(55,(.int .i64 zn)),(56,(.bool (decide (zn < (((nth zf ze).length : Nat) : Int))))),(57,(.pointer (some zPE))),(58,(.agg #[(.int .i64 ((nth (nth zf ze) zn).fNode)),(.int .i64 ((nth (nth zf ze) zn).fNext)),(.int .i64 ((nth (nth zf ze) zn).fLink))])),(15,(.pointer (some ⟨zCB,0,none⟩))),(60,(.map (some zht))),(61,(.pointer (some ⟨zCB,1,none⟩))),(62,(.int .i64 ((nth (nth zf ze) zn).fNext))),(63,(.tuple #[(.int .i64 (yn zN ((nth (nth zf ze) zn).fNext) 0)),(.bool (y2J zN ((nth (nth zf ze) zn).fNext)))])),(59,(.tuple #[(.int .i64 (yn zN ((nth (nth zf ze) zn).fNext) 0)),(.bool (y2J zN ((nth (nth zf ze) zn).fNext)))])),(64,(.int .i64 (yn zN ((nth (nth zf ze) zn).fNext) 0))),(65,(.bool (y2J zN ((nth (nth zf ze) zn).fNext)))),(16,(.int .i64 (yn zN ((nth (nth zf ze) zn).fNext) 0))),(17,(.bool (y2J zN ((nth (nth zf ze) zn).fNext)))),(66,(.bool (y2J zN ((nth (nth zf ze) zn).fNext)))),(67,(.bool (y2J zN ((nth (nth zf ze) zn).fNext)))),(75,(.bool ((y2J zN ((nth (nth zf ze) zn).fNext)) || (decide (((nth (nth zf ze) zn).fNext) = ((nth (nth zf ze) 0).fNode))))))] (y4c 10 [9,8,7,6,5,4,3,2,1,0]) ?_ (fun zCC=>?_))))
         rotate_left
         ·rcases Bool.eq_false_or_eq_true (y2J zN ((nth (nth zf ze) zn).fNext)) with hb' | hb'
          ·have zuT:=hb'; clear hb'
           refine WD.pin (i:=67) rfl zuT (WD.kA 2 68 rfl (WD.kA 3 69 rfl (WD.kA 4 70 rfl (WD.kA 5 71 rfl (WD.kA 6 72 rfl (WD.kA 7 73 rfl (WD.kA 8 74 rfl (WD.pA 9 75 rfl (fun _=>y3C rfl rfl) (WD.reL (.s6 .here .here .here .here .here .here) ?_ zCC)))))))))
           exact (.cons rfl (.cons rfl (.cons rfl (.cons rfl (.cons rfl (.cons rfl (.cons rfl (.cons rfl (.cons rfl (.cons rfl (.cons rfl (.cons rfl (.cons rfl (.cons rfl (.cons rfl (.cons rfl (.cons rfl (.cons rfl (.cons rfl (.cons rfl (.cons rfl (.cons rfl (.cons rfl (.cons rfl (.cons rfl (.cons rfl (.cons rfl (.cons (zB (Eq.symm zuT)) (.cons (zB (y6V zuT)) .nil)))))))))))))))))))))))))))))
          ·have zn9:=hb'; clear hb'
           have zPH:=zPG zn9
           refine WD.pin (i:=67) rfl zn9 (WD.pA 2 68 rfl (fun _=>ya y5F rfl rfl) (WD.qA 3 69 rfl (yc yw rfl (yj .here rfl)) (WD.pA 4 70 rfl (fun _=>q_m rfl) (WD.znth (j:=5) (dd:=71) (by kernel_rfl) rfl z2l z2m rfl rfl (Z:=Z) (Pr:=(fun r x=>r = e62 x)) y61 rfl rfl zCA zPH ?_))))
           rintro zXs zXt zPI zXu rfl
           refine WD.pA 6 72 rfl (fun _=>ya y4O rfl rfl) (WD.qA 7 73 rfl (yc yw rfl (y1e hz.pv zPI rfl)) (WD.pA 8 74 rfl (fun _=>y9P rfl rfl) (WD.pA 9 75 rfl (fun _=>y3D rfl rfl) (WD.reL (.s6 .here .here .here .here .here .here) ?_ zCC))))
           exact (.cons rfl (.cons rfl (.cons rfl (.cons rfl (.cons rfl (.cons rfl (.cons rfl (.cons rfl (.cons rfl (.cons rfl (.cons rfl (.cons rfl (.cons rfl (.cons rfl (.cons rfl (.cons rfl (.cons rfl (.cons rfl (.cons rfl (.cons rfl (.cons rfl (.cons rfl (.cons rfl (.cons rfl (.cons rfl (.cons rfl (.cons rfl (.cons (zB (Eq.symm zn9)) (.cons (zB (y6W zn9)) .nil)))))))))))))))))))))))))))))
         refine WD.done (by kernel_rfl) (WX.a (WC.cond rfl (fun zuU=>?_) (fun zuU=>?_)))
         ·replace h:=yo h zuU
          refine WC.exit (WX.yg (WX.yA ?_))
          exact WX.mid ⟨z2y,zN,z8D,z8E⟩ h (.r13 rfl rfl rfl rfl rfl rfl rfl rfl rfl rfl rfl rfl rfl) (.s5 .h1 .h1 .h1 .h1 .h1)
         ·replace h:=yp h zuU
          refine WC.skip (WX.a (WC.b ?_))
          obtain ⟨z5M,zPJ,h⟩:=z7 h
          refine WC.yP (fun i=>[12].contains i) [] rfl (WD.pA 0 76 rfl (fun _=>q_m rfl) (WD.pA 1 77 rfl (fun _=>ya y5F rfl rfl) (WD.qA 2 78 rfl (yc yw rfl (yj .here rfl)) (WD.pA 3 79 rfl (fun _=>q_m rfl) (WD.pA 4 80 rfl (fun _=>ya y4O rfl rfl) (WD.qA 5 81 rfl (yc yw rfl (yj .here rfl)) (WD.qA 6 82 rfl (y3l (k:=((nth (nth zf ze) zn).fNode)) (dflt:=(0 : Int)) y5e Tryz.underlying145 y4P rfl rfl rfl .h5) (WD.pA 7 83 rfl (fun _=>q_m rfl) (WD.qA 8 84 rfl (yf y3G rfl (yh .here) rfl) (WD.eA 9 85 rfl (z8 Tryz.call40 (.cons rfl .nil)) (cc hz .nil fun w pz ho=>y5i _ _ _ zPJ w pz ) (WD.qA 10 86 rfl (y3l (k:=z5M) (dflt:=(0 : Int)) y7o Tryz.underlying93 y4P rfl rfl rfl .h4) (WD.pA 11 87 rfl (fun _=>ybX rfl rfl rfl) (WD.y3A (i:=12) rfl (by kernel_rfl) rfl rfl rfl (by kernel_rfl) (y5u (k:=((nth (nth zf ze) zn).fNext)) (v:=i64 ((yn zN ((nth (nth zf ze) zn).fNode) 0) + (yn z1m z5M 0))) y5e Tryz.underlying145 rfl rfl rfl rfl .h5) (WD.done (by kernel_rfl) (WX.a (WC.b (WC.a (WL.qA 88 (ya y5F rfl rfl) (WL.qA 89 (yc yw rfl (yj .h1 rfl)) (WL.pu rfl (WL.pu rfl (WL.seg true 6 91 (B:=(decide (((nth (nth zf ze) zn).fNext) ≥ 0)) && (decide (((nth (nth zf ze) zn).fNext) < ((zi.fModules.length : Nat) : Int)))) rfl rfl rfl rfl rfl rfl (fun h=>(y2T h).symm) (fun _ zPK=>?_) ?_))))))))))))))))))))))
          ·skip
           refine WL.qA 92 (ya y5F rfl rfl) (WL.qA 93 (yc yw rfl (yj .h1 rfl)) (WL.qA 94 (ya y67 rfl rfl) (WL.qA 95 (yc y68 rfl (yj .h4 rfl)) (WL.qA 96 (yG Tryz.underlying22 rfl) (WL.pu rfl (WL.pu rfl ?_))))))
           exact WL.yB (y2U zPK) rfl rfl .all
          refine WL.nil (WX.a (WC.cond rfl (fun zuV=>?_) (fun zuV=>?_)))
          ·replace h:=yo h zuV
           obtain ⟨zPL,h⟩:=ym h
           refine WC.a (WL.pu rfl (WL.pu rfl (WL.qA 101 (ya y5F rfl rfl) (WL.qA 102 (yc yw rfl (yj .h1 rfl)) (WL.pu rfl (WL.qA 104 (ya y5F rfl rfl) (WL.qA 105 (yc yw rfl (yj .h1 rfl)) (WL.qA 106 (y3l (k:=((nth (nth zf ze) zn).fNext)) (dflt:=(0 : Int)) y5e Tryz.underlying145 y4P rfl rfl rfl .here) (WL.qA 107 (yL (v:=(.agg #[(.int .i64 ze),(.int .i64 ((nth (nth zf ze) zn).fNext)),(.int .i64 (yn (yJ zN ((nth (nth zf ze) zn).fNext) (i64 ((yn zN ((nth (nth zf ze) zn).fNode) 0) + (yn z1m z5M 0)))) ((nth (nth zf ze) zn).fNext) 0))])) (Eos.parts (l:=[.tmp 100,.tmp 102,.tmp 106]) (.r3 rfl rfl rfl) [0,1,2]) (fun _=>by kernel_rfl)) (WL.nA 108 (yX (cs:=([(⟨ze,((nth (nth zf ze) zn).fNext),(yn (yJ zN ((nth (nth zf ze) zn).fNext) (i64 ((yn zN ((nth (nth zf ze) zn).fNode) 0) + (yn z1m z5M 0)))) ((nth (nth zf ze) zn).fNext) 0)⟩ : Sapi_End)] : List Sapi_End).flatMap e79) y9B (Eos.parts (l:=[.tmp 107]) (.cons rfl .nil) [0]) (fun _=>by kernel_rfl) rfl (by unfold maxLen; omega)) ?_))))))))))
           intro zXv _
           refine WL.fA 109 (y4M (enc:=e79) (l1:=z2y) (l2:=([(⟨ze,((nth (nth zf ze) zn).fNext),(yn (yJ zN ((nth (nth zf ze) zn).fNext) (i64 ((yn zN ((nth (nth zf ze) zn).fNode) 0) + (yn z1m z5M 0)))) ((nth (nth zf ze) zn).fNext) 0)⟩ : Sapi_End)] : List Sapi_End)) y9B rfl rfl .h4 (fun _=>rfl) rfl rfl (y4d .here) (y5a ydK _) zPL) ?_
           rintro ⟨zPM,zPN⟩ _
           refine WL.pu rfl (WL.nil (WX.yq ?_))
           exact WX.mid ⟨(z2y ++ ([(⟨ze,((nth (nth zf ze) zn).fNext),(yn (yJ zN ((nth (nth zf ze) zn).fNext) (i64 ((yn zN ((nth (nth zf ze) zn).fNode) 0) + (yn z1m z5M 0)))) ((nth (nth zf ze) zn).fNext) 0)⟩ : Sapi_End)] : List Sapi_End)),(yJ zN ((nth (nth zf ze) zn).fNext) (i64 ((yn zN ((nth (nth zf ze) zn).fNode) 0) + (yn z1m z5M 0)))),zPM,zPN⟩ h (.r13 rfl rfl rfl rfl rfl rfl rfl rfl rfl rfl rfl rfl rfl) (.s5 .h4 .here .h3 .h3 .h1)
          ·replace h:=yp h zuV
           refine WC.skip (WX.yq ?_)
           exact WX.mid ⟨z2y,(yJ zN ((nth (nth zf ze) zn).fNext) (i64 ((yn zN ((nth (nth zf ze) zn).fNode) 0) + (yn z1m z5M 0)))),z8D,z8E⟩ h (.r13 rfl rfl rfl rfl rfl rfl rfl rfl rfl rfl rfl rfl rfl) (.s5 .h2 .h2 .h2 .h2 .here)
        ·rintro z7A zau zhx zhy h
         replace h:=(zPC z7A zau).symm.trans h
         refine WC.a (WL.pu rfl (WL.pu rfl (WL.nil ?_)))
         exact WX.round ⟨zuI,z7A,(i64 (zn + 1)),zau,zhx,zhy⟩ h (Nat.lt_succ_self _) (.r13 rfl rfl rfl rfl rfl rfl rfl rfl rfl rfl rfl rfl rfl) (.s5 .here .here .here .here .here)
       ·replace h:=yp h zuS
        refine WC.exit (WX.yg (WX.yg (WX.yA ?_)))
        exact WX.mid ⟨z2y,z8D,z8E⟩ h (.r7 rfl rfl rfl rfl rfl rfl rfl) (.s4 .here .here .here .here)
      ·rintro z8j zhu zhv h
       replace h:=(zPB z8j).symm.trans h
       refine WC.b ?_
       obtain ⟨zeG,zPO,h⟩:=z7 h
       refine WC.a (WL.pu rfl (WL.y4L (dd:=112) rfl rfl rfl (z8 Tryz.call53 (.r2 rfl rfl)) (.cons .h1 .nil) (cc hz (.cons .h1 .nil) fun w pz ho=>y77 _ _ _ (zhk:=54) (zn8:=[]) _ (zhj:=(fun (y0 : Sapi_End) (y1 : Sapi_End)=>y2Q y0 y1)) _ zPO w pz Tryz.call54 (fun w' hz' y0 y1  r  hr=>ycL _ _ _ _ hr w' hz' ) ho) ?_))
       rintro  zPP
       refine WL.repin (i:=13) rfl (u:=(.slice zhu zeG.length zhv)) (y7u zPP.symm) (WL.nil (WX.a ?_))
       obtain ⟨zPQ,h⟩:=ym h
       refine WC.a (WL.pu rfl (WL.pu rfl (WL.fA 115 (y4M (enc:=e79) (l1:=z1L) (l2:=zeG) y9B rfl rfl .h1 (fun _=>rfl) rfl rfl (y4d .here) (y5a ydK _) zPQ) ?_)))
       rintro ⟨zPR,zPS⟩ _
       refine WL.pu rfl (WL.nil (WX.yq ?_))
       exact WX.mid ⟨(z1L ++ zeG),zPR,zPS⟩ h (.r6 rfl rfl rfl rfl rfl rfl) (.s3 .here .h1 .h1)
     ·rintro z7B zhp zhq h
      replace h:=(zPy z7B).symm.trans h
      refine WC.a (WL.pu rfl (WL.pu rfl (WL.nil ?_)))
      exact WX.round ⟨zuJ,z7B,(i64 (ze + 1)),zhp,zhq⟩ h (Nat.lt_succ_self _) (.r6 rfl rfl rfl rfl rfl rfl) (.s3 .here .here .here)
    ·replace h:=yp h zuR
     refine WC.exit (WX.yg (WX.yg (WX.yA ?_)))
     exact WX.mid ⟨z1L,z5N,z5O⟩ h (.cons rfl .nil) (.cons .here .nil)
   ·rintro z8k zhm zhn h
    replace h:=(zPx z8k).symm.trans h
    refine WC.b (WC.a (WL.pu rfl (WL.pu rfl (WL.nil (WX.a (WC.ret ?_))))))
    obtain rfl:=Option.some.inj h
    refine WX.ye Tryz.results26 (.tmp rfl .nil) (fun w hw=>?_)
    exact ⟨zhm,zhn,yC rfl,trivial,hw.sub (.cons .here .nil)⟩
def y2g (z3E : List Sbound_place × Int) (zr : Sapi_Config) (z3F : List (List Sapi_Hop)) (zaw : (List Sapi_PortBound) → Option (S37 × Int)) : Nat → Int → Int → (List Sapi_PortBound) → (List (Sbound_flow × z2)) → (List (Sbound_place × Int)) → Option (S37 × Int)
 | 0,_,_,_,_,_=>none
 | zuW + 1,z3Z,z8F,z3l,z8G,z8H=>if decide (z3Z < ((z3E.1.length : Nat) : Int)) then chk ((0 : Int) ≤ z3Z ∧ z3Z < ((z3E.1.length : Nat) : Int)) ((y4D zr z3F z8G z8H z8F (⟨((nth z3E.1 z3Z).fNode),((nth z3E.1 z3Z).fLink)⟩ : Sbound_place)).bind fun z4B=>chk ((((z3l ++ ([z4B.1] : List Sapi_PortBound)).length : Nat) : Int) * 32 ≤ 140737488355328 ∧ (((z3l ++ ([z4B.1] : List Sapi_PortBound)).length : Nat) : Int) ≤ 4611686018427387904) (if decide (z4B.2.1 ≠ 0) then some ((⟨([] : List Sapi_PortBound),([] : List Sapi_End)⟩ : S37),z4B.2.1) else y2g z3E zr z3F zaw zuW (i64 (z3Z + 1)) z4B.2.1 (z3l ++ ([z4B.1] : List Sapi_PortBound)) z4B.2.2.1 z4B.2.2.2)) else zaw z3l
theorem y9b {n : Nat} {z3E : List Sbound_place × Int} {zr : Sapi_Config} {z3F : List (List Sapi_Hop)} {zaw : (List Sapi_PortBound) → Option (S37 × Int)} {z3Z : Int} {z8F : Int} {z3l : List Sapi_PortBound} {z8G : List (Sbound_flow × z2)} {z8H : List (Sbound_place × Int)} {r : S37 × Int} (h : y2g z3E zr z3F zaw n z3Z z8F z3l z8G z8H = some r) : ∃ m,n = m + 1:=by
 cases n with
 | zero=>cases h
 | succ m=>exact ⟨m,rfl⟩
def y4s (zr : Sapi_Config) (zna : Int) (z3F : List (List Sapi_Hop)) : Option (S37 × Int) :=
 (y3T zr zna z3F).bind fun zCD=>if !zCD then some ((⟨([] : List Sapi_PortBound),([] : List Sapi_End)⟩ : S37),310) else (y1M zr.fVLs (fun (y0 : Sapi_VL)=>y2t y0)).bind fun zCE=>if zCE then some ((⟨([] : List Sapi_PortBound),([] : List Sapi_End)⟩ : S37),350) else (y4w z3F).bind fun z3E=>if decide (z3E.2 ≠ 0) then some ((⟨([] : List Sapi_PortBound),([] : List Sapi_End)⟩ : S37),z3E.2) else jp1 (fun (z8I : List Sapi_PortBound)=>(y1f z8I (fun (y0 : Sapi_PortBound) (y1 : Sapi_PortBound)=>y13 y0 y1)).bind fun zkx=>(y6A zr z3F zkx).bind fun zuX=>some ((⟨zkx,zuX⟩ : S37),0)) fun zaw=>y2g z3E zr z3F zaw yz 0 0 ([] : List Sapi_PortBound) ([] : List (Sbound_flow × z2)) ([] : List (Sbound_place × Int))
theorem y9i (Z : Zp) (zcp : Option Addr) (zcq : Nat) (zcr : Option Addr) (zcs : Nat) (zct : Option Addr) (zcu : Nat) (zcv : Option Addr) (zcw : Nat) (zcx : Option Addr) (zcy : Nat) (zcz : Option Addr) (zcA : Nat) (zcB : Option Addr) (zcC : Nat) (zcD : Option Addr) (zcE : Nat) (zeH : Option Addr) (zeI : Nat) (zr : Sapi_Config) (zna : Int) (z3F : List (List Sapi_Hop)) (r : S37 × Int)
  (h : y4s zr zna z3F = some r) (w₀ : World) (hz : PZ [] w₀ Z)
  (zuY : ZS Z 4 (y48 Z) zcp zcq zr.fModules)
  (zuZ : ZS Z 4 (y4H Z) zcr zcs zr.fChannels)
  (zv0 : ZS Z 4 (fun r x=>r = e66 x) zct zcu zr.fSwitches)
  (zv1 : ZS Z 4 (fun r x=>r = e64 x) zcv zcw zr.fLinks)
  (znb : ZS Z 7 (p46 Z) zcx zcy zr.fVLs)
  (zv2 : ZS Z 5 (fun r x=>r = y4U x) zcz zcA zr.fHealth)
  (zv3 : ZS Z 3 (y4I Z) zcB zcC zr.fCauses)
  (zv4 : ZS Z 4 (fun r x=>r = y4V x) zcD zcE zr.fVersions)
  (znc : ZS Z 1 (p48 Z) zeH zeI z3F) :
  Calls Tryz.prog 10 #[(.agg #[(.slice zcp zr.fModules.length zcq),(.slice zcr zr.fChannels.length zcs),(.slice zct zr.fSwitches.length zcu),(.slice zcv zr.fLinks.length zcw),(.slice zcx zr.fVLs.length zcy),(.slice zcz zr.fHealth.length zcA),(.slice zcB zr.fCauses.length zcC),(.slice zcD zr.fVersions.length zcE)]),(.int .i64 zna),(.slice zeH z3F.length zeI)] w₀ fun e w'=>∃ zCF : Option Addr,∃ zCG : Nat,∃ zCH : Option Addr,∃ zCI : Nat,e = .returned (.tuple #[(.agg #[(.slice zCF r.1.fPorts.length zCG),(.slice zCH r.1.fEnds.length zCI)]),(.int .i64 r.2)]) ∧ True ∧ Hp [] w₀ w' [row (.slice zCF r.1.fPorts.length zCG) 58 4 (r.1.fPorts.flatMap e58),row (.slice zCH r.1.fEnds.length zCI) 79 3 (r.1.fEnds.flatMap e79)]:=by
 unfold y4s at h
 refine Calls.on3 Tryz.func10 Tryz.ntmps10 ?_
 refine WC.b (WC.a (WL.nA 3 (yH (cs:=[(.slice zcp zr.fModules.length zcq),(.slice zcr zr.fChannels.length zcs),(.slice zct zr.fSwitches.length zcu),(.slice zcv zr.fLinks.length zcw),(.slice zcx zr.fVLs.length zcy),(.slice zcz zr.fHealth.length zcA),(.slice zcB zr.fCauses.length zcC),(.slice zcD zr.fVersions.length zcE)]) rfl rfl) ?_))
 intro znd _
 refine WL.nA 6 (yx (cs:=[(.slice none 0 0),(.slice none 0 0)]) y8P rfl) ?_
 intro zne _
 refine WL.pu rfl (WL.nil (WX.a (WC.b (WC.b ?_))))
 obtain ⟨zCD,zPT,h⟩:=z7 h
 refine WC.a (WL.qA 14 (yf y2X rfl (yh .h1) rfl) (WL.pu rfl (WL.pu rfl (WL.cA 17 (z8 Tryz.call12 (.r3 rfl rfl rfl)) .nil (cc hz .nil fun w pz ho=>y7B _ _ _ _ _ _ _ _ _ _ _ _ _ _ _ _ _ _ _ _ _ _ _ zPT w pz zuY zuZ zv0 zv1 znb zv2 zv3 zv4 znc) (WL.pu rfl (WL.nil (WX.a (WC.cond rfl (fun zv5=>?_) (fun zv5=>?_)))))))))
 ·replace h:=yo h zv5
  refine WC.b (WC.a (WL.qA 19 (yL (v:=(.agg #[(.slice none 0 0),(.slice none 0 0)])) (Eos.parts (l:=[]) .nil []) (fun _=>by kernel_rfl)) (WL.yl rfl rfl (yk y7m rfl rfl rfl .here rfl rfl rfl) (WL.pu rfl (WL.nil (WX.a (WC.ret (WX.yd (WX.nilRow 58 4 (WX.nilRow 79 3 ?_))))))))))
  obtain rfl:=Option.some.inj h
  refine WX.ye Tryz.results10 (.agg rfl y7n rfl (yh .h2) (.tmp rfl .nil)) (fun w hw=>?_)
  exact ⟨none,0,none,0,y1U rfl rfl,trivial,hw.sub (.s2 .h1 .here)⟩
 ·replace h:=yp h zv5
  refine WC.skip (WX.a (WC.b (WC.b ?_)))
  obtain ⟨zCE,zPU,h⟩:=z7 h
  refine WC.a (WL.qA 20 (ya y5D rfl rfl) (WL.qA 21 (yc y5E rfl (yj .h1 rfl)) (WL.cA 22 (z8 Tryz.call18 (.r2 rfl rfl)) .nil (cc hz .nil fun w pz ho=>y6K _ _ _ (zeU:=19) (zlf:=[]) _ (zeT:=(fun (y0 : Sapi_VL)=>y2t y0)) _ zPU w pz znb Tryz.call19 (fun w' hz' y0 ga0 gc0 r gh0 hr=>ybm _ _ _ _ _ hr w' hz' gh0)) (WL.nil (WX.a (WC.cond rfl (fun zv6=>?_) (fun zv6=>?_)))))))
  ·replace h:=yo h zv6
   refine WC.b (WC.a (WL.qA 23 (yL (v:=(.agg #[(.slice none 0 0),(.slice none 0 0)])) (Eos.parts (l:=[]) .nil []) (fun _=>by kernel_rfl)) (WL.yl rfl rfl (yk y7m rfl rfl rfl .here rfl rfl rfl) (WL.pu rfl (WL.nil (WX.a (WC.ret (WX.yd (WX.nilRow 58 4 (WX.nilRow 79 3 ?_))))))))))
   obtain rfl:=Option.some.inj h
   refine WX.ye Tryz.results10 (.agg rfl y7n rfl (yh .h2) (.tmp rfl .nil)) (fun w hw=>?_)
   exact ⟨none,0,none,0,y1U rfl rfl,trivial,hw.sub (.s2 .h1 .here)⟩
  ·replace h:=yp h zv6
   refine WC.skip (WX.a (WC.b ?_))
   obtain ⟨z3E,zPV,h⟩:=z7 h
   refine WC.a (WL.pu rfl (WL.y45 (dd:=26) rfl rfl rfl (z8 Tryz.call21 (.cons rfl .nil)) .nil (cc hz .nil fun w pz ho=>yal _ _ _ _ _ zPV w pz znc) ?_))
   rintro zCJ zCK _
   refine WL.pu rfl (WL.pu rfl (WL.pu rfl (WL.pu rfl (WL.pu rfl (WL.nil (WX.a (WC.b (WC.b (WC.a (WL.pu rfl (WL.pu rfl (WL.nil (WX.a (WC.cond rfl (fun zv7=>?_) (fun zv7=>?_)))))))))))))))
   ·replace h:=yo h zv7
    refine WC.b (WC.a (WL.qA 31 (yL (v:=(.agg #[(.slice none 0 0),(.slice none 0 0)])) (Eos.parts (l:=[]) .nil []) (fun _=>by kernel_rfl)) (WL.pu rfl (WL.yl rfl rfl (yk y7m rfl rfl rfl .h1 rfl rfl rfl) (WL.pu rfl (WL.nil (WX.a (WC.ret (WX.yd (WX.nilRow 58 4 (WX.nilRow 79 3 ?_)))))))))))
    obtain rfl:=Option.some.inj h
    refine WX.ye Tryz.results10 (.agg rfl y7n rfl (yh .h2) (.tmp rfl .nil)) (fun w hw=>?_)
    exact ⟨none,0,none,0,y1U rfl rfl,trivial,hw.sub (.s2 .h1 .here)⟩
   ·replace h:=yp h zv7
    refine WC.skip (WX.a (WC.b (WC.a (WL.qA 33 (yf y2X rfl (yh .h2) rfl) (WL.pu rfl (WL.nA 35 (y4j (fun x=>Value.agg (y2e x).toArray) (fun x=>Value.agg (yu x).toArray)) ?_))))))
    intro znf _
    refine WL.nA 36 (y4j (fun x=>Value.agg (e97 x).toArray) (Value.int .i64)) ?_
    intro zng _
    refine WL.qA 37 (yL (v:=(.agg #[(.slice zcp zr.fModules.length zcq),(.slice zcr zr.fChannels.length zcs),(.slice zct zr.fSwitches.length zcu),(.slice zcv zr.fLinks.length zcw),(.slice zcx zr.fVLs.length zcy),(.slice zcz zr.fHealth.length zcA),(.slice zcB zr.fCauses.length zcC),(.slice zcD zr.fVersions.length zcE),(.slice zeH z3F.length zeI),(.map (some znf)),(.map (some zng)),(.int .i64 0)])) (Eos.parts (l:=[.tmp 33,.tmp 34,.tmp 35,.tmp 36,.const (.int .i64 0)]) (.r5 rfl rfl rfl rfl rfl) [0,1,2,3,4]) (fun _=>by kernel_rfl)) (WL.nA 38 (yH (cs:=[(.slice zcp zr.fModules.length zcq),(.slice zcr zr.fChannels.length zcs),(.slice zct zr.fSwitches.length zcu),(.slice zcv zr.fLinks.length zcw),(.slice zcx zr.fVLs.length zcy),(.slice zcz zr.fHealth.length zcA),(.slice zcB zr.fCauses.length zcC),(.slice zcD zr.fVersions.length zcE),(.slice zeH z3F.length zeI),(.map (some znf)),(.map (some zng)),(.int .i64 0)]) rfl rfl) ?_)
    intro zv8 _
    refine WL.pu rfl (WL.nil (WX.a (WC.b (WC.a (WL.nA 11 (yx (cs:=[(.slice none 0 0),(.slice none 0 0)]) y8P rfl) ?_)))))
    intro zky _
    refine WL.nil (WX.a ?_)
    obtain ⟨zaw,zPW,h⟩:=y14 h
    refine WC.y2F (fun (z8I : List Sapi_PortBound) (zcF : Option Addr) (zcG : Nat)=>(zaw z8I = some r)) (fun z8I zcF zcG=>[(2,(.slice zeH z3F.length zeI)),(3,(.pointer (some ⟨znd,0,none⟩))),(6,(.pointer (some ⟨zne,0,none⟩))),(11,(.pointer (some ⟨zky,0,none⟩)))]) (fun z8I zcF zcG=>[stb znd 31 [(.slice zcp zr.fModules.length zcq),(.slice zcr zr.fChannels.length zcs),(.slice zct zr.fSwitches.length zcu),(.slice zcv zr.fLinks.length zcw),(.slice zcx zr.fVLs.length zcy),(.slice zcz zr.fHealth.length zcA),(.slice zcB zr.fCauses.length zcC),(.slice zcD zr.fVersions.length zcE)],stb zne 38 [(.slice none 0 0),(.slice none 0 0)],stb zky 38 [(.slice zcF z8I.length zcG),(.slice none 0 0)],row (.slice zcF z8I.length zcG) 58 4 (z8I.flatMap e58)]) ?_ ?_
    ·skip
     refine WC.b (WC.a (WL.pu rfl (WL.qA 40 (yG Tryz.underlying88 rfl) (WL.pu rfl (WL.nil (WX.a (WC.block (WC.nilRow 58 4 (WC.y9R (fun (zhz : Nat) (z3Z : Int) (z8F : Int) (z3l : List Sapi_PortBound) (z8G : List (Sbound_flow × z2)) (z8H : List (Sbound_place × Int)) (zcH : Option Addr) (zcI : Nat)=>(y2g z3E zr z3F zaw zhz z3Z z8F z3l z8G z8H = some r)) (fun zhz z3Z z8F z3l z8G z8H zcH zcI=>[(2,(.slice zeH z3F.length zeI)),(3,(.pointer (some ⟨znd,0,none⟩))),(6,(.pointer (some ⟨zne,0,none⟩))),(10,(.pointer (some ⟨zv8,0,none⟩))),(11,(.pointer (some ⟨zky,0,none⟩))),(39,(.slice zCJ z3E.1.length zCK)),(40,(.int .i64 ((z3E.1.length : Nat) : Int))),(41,(.int .i64 z3Z))]) (fun zhz z3Z z8F z3l z8G z8H zcH zcI=>[row (.slice zCJ z3E.1.length zCK) 97 2 (z3E.1.flatMap e97),stb znd 31 [(.slice zcp zr.fModules.length zcq),(.slice zcr zr.fChannels.length zcs),(.slice zct zr.fSwitches.length zcu),(.slice zcv zr.fLinks.length zcw),(.slice zcx zr.fVLs.length zcy),(.slice zcz zr.fHealth.length zcA),(.slice zcB zr.fCauses.length zcC),(.slice zcD zr.fVersions.length zcE)],stb zne 38 [(.slice none 0 0),(.slice none 0 0)],stb zv8 95 [(.slice zcp zr.fModules.length zcq),(.slice zcr zr.fChannels.length zcs),(.slice zct zr.fSwitches.length zcu),(.slice zcv zr.fLinks.length zcw),(.slice zcx zr.fVLs.length zcy),(.slice zcz zr.fHealth.length zcA),(.slice zcB zr.fCauses.length zcC),(.slice zcD zr.fVersions.length zcE),(.slice zeH z3F.length zeI),(.map (some znf)),(.map (some zng)),(.int .i64 z8F)],stb zky 38 [(.slice zcH z3l.length zcI),(.slice none 0 0)],row (.slice zcH z3l.length zcI) 58 4 (z3l.flatMap e58),yy znf (fun x=>Value.agg (y2e x).toArray) (fun x=>Value.agg (yu x).toArray) z8G,yy zng (fun x=>Value.agg (e97 x).toArray) (Value.int .i64) z8H]) (fun zhz z3Z z8F z3l z8G z8H zcH zcI=>zhz) ⟨yz,0,0,([] : List Sapi_PortBound),([] : List (Sbound_flow × z2)),([] : List (Sbound_place × Int)),none,0⟩ h (.r8 rfl rfl rfl rfl rfl rfl rfl rfl) (.s8 .h5 .h6 .h5 .h2 .h1 .here .h1 .here) ?_)))))))))
     rintro zhz z3Z z8F z3l z8G z8H zcH zcI h
     obtain ⟨zuW,rfl⟩:=y9b h
     rw [y2g] at h
     refine WC.b (WC.a (WL.pu rfl (WL.nil (WX.a (WC.b (WC.cond rfl (fun zv9=>?_) (fun zv9=>?_)))))))
     ·replace h:=yo h zv9
      refine WC.skip (WX.a (WC.b (WC.block (WC.b ?_))))
      obtain ⟨zkz,h⟩:=ym h
      refine WC.a (WL.know (fun w hw=>Hp.y31 .here hw (by intro hz'; have:=zkz; rw [hz'] at this; omega)) ?_)
      rintro ⟨zXw,rfl⟩
      refine WL.qA 43 (y17 y5f rfl rfl zkz.1 zkz.2 y3S) (WL.qA 44 (yR (cs:=(e97 (nth z3E.1 z3Z))) y3H rfl rfl (y3F .here (y3e (enc:=e97) (l:=z3E.1) (i:=z3Z) (sz:=2) (fun _=>rfl) zkz.1 zkz.2))) (WL.nA 13 (yx (cs:=[(.int .i64 0),(.int .i64 0)]) y8Q rfl) ?_))
      intro zXx _
      refine WL.yl rfl rfl (yk yba rfl rfl rfl .here rfl rfl rfl) (WL.nil (WX.a (WC.b ?_)))
      obtain ⟨z4B,zPX,h⟩:=z7 h
      obtain ⟨zPY,h⟩:=ym h
      refine WC.yP (fun i=>[4,6,8].contains i) [y7c zky 38 [(0,(.slice zcH z3l.length zcI))]] rfl (WD.pA 0 45 rfl (fun _=>ya y69 rfl rfl) (WD.sA 1 46 rfl (Sin.wk (.cons .h5 .nil) (.stb (.cons rfl .nil) .nil)) (yc y6J rfl (y5C .here (.head _))) (WD.pA 2 47 rfl (fun _=>q_m rfl) (WD.qA 3 48 rfl (yf y3H rfl (yh .here) rfl) (WD.call0 (i:=4) (dd:=49) rfl (by kernel_rfl) rfl rfl rfl (.inl ⟨rfl,(Sin.wk (.cons .h7 .nil) (.stb (.cons rfl .nil) .nil))⟩) (z8 Tryz.call22 (.r2 rfl rfl)) (.s3 .h4 .h6 .h6) (cc hz (.s3 .h4 .h6 .h6) fun w pz ho=>Calls.mono (ybp _ _ _ _ _ _ _ _ _ _ _ _ _ _ _ _ _ _ _ _ _ _ _ _ _ _ _ _ _ zPX w pz zuY zuZ zv0 zv1 znb zv2 zv3 zv4 znc ho) (fun _ _ h'=>⟨h'.1,trivial,h'.2⟩)) ?_)))))
      intro _
      refine WD.new (i:=5) (dd:=50) rfl (by kernel_rfl) rfl rfl rfl (yX (cs:=([z4B.1] : List Sapi_PortBound).flatMap e58) y5G (Eos.parts (l:=[.tmp 49]) (.cons rfl .nil) [0]) (fun _=>by kernel_rfl) rfl (by unfold maxLen; omega)) (fun h'=>absurd h' (by decide)) ?_
      intro zXy _
      refine WD.old (i:=6) (dd:=51) rfl (by kernel_rfl) rfl rfl rfl rfl (fun _=>(Sin.wk (.cons (.there (.there .h7)) .nil) (.stb (.cons rfl .nil) .nil))) (y4M (enc:=e58) (l1:=z3l) (l2:=([z4B.1] : List Sapi_PortBound)) y5G rfl rfl (.there (.there .h7)) (fun _=>rfl) rfl rfl (y4d .here) (y5a ydJ _) zPY) ?_
      rintro ⟨zCL,zCM⟩ _
      refine WD.pA 7 52 rfl (fun _=>ya y69 rfl rfl) (WD.y3A (i:=8) rfl (by kernel_rfl) rfl rfl rfl (by kernel_rfl) (y5T (ds:=[(.slice zCL ((z3l ++ ([z4B.1] : List Sapi_PortBound)).length) zCM),(.slice none 0 0)]) sizT_35 rfl rfl rfl rfl rfl (.there (.there .h7)) rfl rfl) (WD.done (by kernel_rfl) (WX.a (WC.b (WC.a (WL.pu rfl (WL.qA 54 (y11 rfl) (WL.qA 55 (ya y8K rfl rfl) (WL.qA 56 (yc y2Y rfl (yj .h3 rfl)) (WL.pu rfl (WL.nil (WX.a (WC.cond rfl (fun zva=>?_) (fun zva=>?_))))))))))))))
      ·replace h:=yo h zva
       refine WC.b (WC.yP (fun i=>[5].contains i) [y7c zv8 95 [(11,(.int .i64 z4B.2.1))]] rfl (WD.pA 0 58 rfl (fun _=>yL (v:=(.agg #[(.slice none 0 0),(.slice none 0 0)])) (Eos.parts (l:=[]) .nil []) (fun _=>by kernel_rfl)) (WD.pA 1 59 rfl (fun _=>q_m rfl) (WD.pA 2 60 rfl (fun _=>y11 rfl) (WD.pA 3 61 rfl (fun _=>ya y8K rfl rfl) (WD.sA 4 62 rfl (Sin.wk (.cons .h3 .nil) (.stb (.cons rfl .nil) .nil)) (yc y2Y rfl (y5C .here (.head _))) (WD.forced0 (i:=5) rfl (by kernel_rfl) rfl rfl rfl (Sin.wk (.cons .h4 .nil) (.stb (.cons rfl .nil) .nil)) (yk y7m rfl rfl rfl (.there (.there .h7)) rfl rfl rfl) (WD.pA 6 7 rfl (fun _=>q_z rfl) (WD.done (by kernel_rfl) (WX.a (WC.ret (WX.yt (WX.yd (WX.yd (WX.yt (WX.yd (WX.nilRow 58 4 (WX.nilRow 79 3 ?_))))))))))))))))))
       obtain rfl:=Option.some.inj h
       refine WX.ye Tryz.results10 (.agg rfl y7n rfl (yh .h2) (.tmp rfl .nil)) (fun w hw=>?_)
       exact ⟨none,0,none,0,y1U rfl rfl,trivial,hw.sub (.s2 .h1 .here)⟩
      ·replace h:=yp h zva
       refine WC.skip (WX.yq (WX.a (WC.a (WL.pu rfl (WL.pu rfl (WL.nil ?_))))))
       exact WX.round ⟨zuW,(i64 (z3Z + 1)),z4B.2.1,(z3l ++ ([z4B.1] : List Sapi_PortBound)),z4B.2.2.1,z4B.2.2.2,zCL,zCM⟩ h (Nat.lt_succ_self _) (.r8 rfl rfl rfl rfl rfl rfl rfl rfl) (.s8 .h7 .h7 .h7 .h3 .here .here .h1 .h1)
     ·replace h:=yp h zv9
      refine WC.exit (WX.yg (WX.yg (WX.yA ?_)))
      exact WX.mid ⟨z3l,zcH,zcI⟩ h (.r4 rfl rfl rfl rfl) (.s4 .h1 .h1 .h2 .h2)
    ·rintro z8I zcF zcG h
     replace h:=(zPW z8I).symm.trans h
     refine WC.b ?_
     obtain ⟨zkx,zPZ,h⟩:=z7 h
     refine WC.a (WL.qA 64 (ya y69 rfl rfl) (WL.qA 65 (yc y6J rfl (yj .h2 rfl)) (WL.y4L (dd:=66) rfl rfl rfl (z8 Tryz.call23 (.r2 rfl rfl)) (.cons .h3 .nil) (cc hz (.cons .h3 .nil) fun w pz ho=>y5p _ _ _ (zhg:=24) (zn4:=[]) _ (zhf:=(fun (y0 : Sapi_PortBound) (y1 : Sapi_PortBound)=>y13 y0 y1)) _ zPZ w pz Tryz.call24 (fun w' hz' y0 y1  r  hr=>ybq _ _ _ _ hr w' hz' ) ho) ?_)))
     rintro  zQ0
     refine WL.restb (cs':=[(.slice zcF zkx.length zcG),(.slice none 0 0)]) .h3 (by rw [zQ0]) (WL.nil (WX.a (WC.b ?_)))
     obtain ⟨zuX,zQ1,h⟩:=z7 h
     refine WC.a (WL.qA 67 (yf y2X rfl (yh .h2) rfl) (WL.pu rfl (WL.qA 69 (ya y69 rfl rfl) (WL.qA 70 (yc y6J rfl (yj .here rfl)) (WL.y45 (dd:=71) rfl rfl rfl (z8 Tryz.call26 (.r3 rfl rfl rfl)) .nil (ccl hz .nil (.cons .h1 .nil) fun w pz ho la=>ydS _ _ _ _ _ _ _ _ _ _ _ _ _ _ _ _ _ _ _ _ _ _ _ _ _ zQ1 w pz ((zuY.mono (Zle.left _ _)).weak (fun _ _ h=>y2d (Zle.left _ _) h)) ((zuZ.mono (Zle.left _ _)).weak (fun _ _ h=>y2r (Zle.left _ _) h)) (zv0.mono (Zle.left _ _)) (zv1.mono (Zle.left _ _)) ((znb.mono (Zle.left _ _)).weak (fun _ _ h=>y29 (Zle.left _ _) h)) (zv2.mono (Zle.left _ _)) ((zv3.mono (Zle.left _ _)).weak (fun _ _ h=>y2s (Zle.left _ _) h)) (zv4.mono (Zle.left _ _)) ((znc.mono (Zle.left _ _)).weak (fun _ _ h=>y2v (Zle.left _ _) h)) (ZA.row (la _ (.head _) _) (RR.flat (enc:=e58) (fun _=>rfl) _) ⟨w,pz.1⟩)) ?_)))))
     rintro zCN zCO _
     refine WL.qA 72 (ya y8M rfl rfl) (WL.yl rfl rfl (y5T (ds:=[(.slice zcF zkx.length zcG),(.slice zCN zuX.length zCO)]) sizT_36 rfl rfl rfl rfl rfl .h1 rfl rfl) (WL.nil (WX.a (WC.b (WC.a (WL.qA 73 (yf y7n rfl (yh .here) rfl) (WL.yl rfl rfl (yk y7m rfl rfl rfl .h4 rfl rfl rfl) (WL.pu rfl (WL.nil (WX.a (WC.ret ?_)))))))))))
     obtain rfl:=Option.some.inj h
     refine WX.ye Tryz.results10 (.agg rfl y7n rfl (yh .here) (.tmp rfl .nil)) (fun w hw=>?_)
     exact ⟨zcF,zcG,zCN,zCO,y1U rfl rfl,trivial,hw.sub (.s2 .h3 .h2)⟩
def y4Z (z20 : List Sbound_place × Int) (zax : (List Sapi_PortBound) → Option (List Sapi_PortBound × Int)) : Nat → (List Sapi_PortBound) → Int → Option (List Sapi_PortBound × Int)
 | 0,_,_=>none
 | zvb + 1,z40,z2k=>if decide (z2k < ((z20.1.length : Nat) : Int)) then chk ((0 : Int) ≤ z2k ∧ z2k < ((z20.1.length : Nat) : Int)) (chk ((((z40 ++ ([({(nth z20.1 z2k) with fDelay:=0,fStore:=0} : Sapi_PortBound)] : List Sapi_PortBound)).length : Nat) : Int) * 32 ≤ 140737488355328 ∧ (((z40 ++ ([({(nth z20.1 z2k) with fDelay:=0,fStore:=0} : Sapi_PortBound)] : List Sapi_PortBound)).length : Nat) : Int) ≤ 4611686018427387904) (y4Z z20 zax zvb (z40 ++ ([({(nth z20.1 z2k) with fDelay:=0,fStore:=0} : Sapi_PortBound)] : List Sapi_PortBound)) (i64 (z2k + 1)))) else zax z40
theorem y9J {n : Nat} {z20 : List Sbound_place × Int} {zax : (List Sapi_PortBound) → Option (List Sapi_PortBound × Int)} {z40 : List Sapi_PortBound} {z2k : Int} {r : List Sapi_PortBound × Int} (h : y4Z z20 zax n z40 z2k = some r) : ∃ m,n = m + 1:=by
 cases n with
 | zero=>cases h
 | succ m=>exact ⟨m,rfl⟩
def y8m (z1R : Sapi_Config) (znh : Int) (zhA : List (List Sapi_Hop)) : Option (List Sapi_PortBound × Int) :=
 (y3T z1R znh zhA).bind fun zCP=>if !zCP then some (([] : List Sapi_PortBound),310) else (y4w zhA).bind fun z20=>jp1 (fun (z8J : List Sapi_PortBound)=>some (z8J,z20.2)) fun zax=>y4Z z20 zax yz ([] : List Sapi_PortBound) 0
theorem ydq (Z : Zp) (zvc : Option Addr) (zvd : Nat) (zve : Option Addr) (zvf : Nat) (zvg : Option Addr) (zvh : Nat) (zvi : Option Addr) (zvj : Nat) (zvk : Option Addr) (zvl : Nat) (zvm : Option Addr) (zvn : Nat) (zvo : Option Addr) (zvp : Nat) (zvq : Option Addr) (zvr : Nat) (zCQ : Option Addr) (zCR : Nat) (z1R : Sapi_Config) (znh : Int) (zhA : List (List Sapi_Hop)) (r : List Sapi_PortBound × Int)
  (h : y8m z1R znh zhA = some r) (w₀ : World) (hz : PZ [] w₀ Z)
  (zQ2 : ZS Z 4 (y48 Z) zvc zvd z1R.fModules)
  (zQ3 : ZS Z 4 (y4H Z) zve zvf z1R.fChannels)
  (zQ4 : ZS Z 4 (fun r x=>r = e66 x) zvg zvh z1R.fSwitches)
  (zQ5 : ZS Z 4 (fun r x=>r = e64 x) zvi zvj z1R.fLinks)
  (zQ6 : ZS Z 7 (p46 Z) zvk zvl z1R.fVLs)
  (zQ7 : ZS Z 5 (fun r x=>r = y4U x) zvm zvn z1R.fHealth)
  (zQ8 : ZS Z 3 (y4I Z) zvo zvp z1R.fCauses)
  (zQ9 : ZS Z 4 (fun r x=>r = y4V x) zvq zvr z1R.fVersions)
  (zCS : ZS Z 1 (p48 Z) zCQ zCR zhA) :
  Calls Tryz.prog 13 #[(.agg #[(.slice zvc z1R.fModules.length zvd),(.slice zve z1R.fChannels.length zvf),(.slice zvg z1R.fSwitches.length zvh),(.slice zvi z1R.fLinks.length zvj),(.slice zvk z1R.fVLs.length zvl),(.slice zvm z1R.fHealth.length zvn),(.slice zvo z1R.fCauses.length zvp),(.slice zvq z1R.fVersions.length zvr)]),(.int .i64 znh),(.slice zCQ zhA.length zCR)] w₀ fun e w'=>∃ zCT : Option Addr,∃ zCU : Nat,e = .returned (.tuple #[(.slice zCT r.1.length zCU),(.int .i64 r.2)]) ∧ True ∧ Hp [] w₀ w' [row (.slice zCT r.1.length zCU) 58 4 (r.1.flatMap e58)]:=by
 unfold y8m at h
 refine Calls.on3 Tryz.func13 Tryz.ntmps13 ?_
 refine WC.b (WC.a (WL.nA 3 (yH (cs:=[(.slice zvc z1R.fModules.length zvd),(.slice zve z1R.fChannels.length zvf),(.slice zvg z1R.fSwitches.length zvh),(.slice zvi z1R.fLinks.length zvj),(.slice zvk z1R.fVLs.length zvl),(.slice zvm z1R.fHealth.length zvn),(.slice zvo z1R.fCauses.length zvp),(.slice zvq z1R.fVersions.length zvr)]) rfl rfl) ?_))
 intro zXz _
 refine WL.pu rfl (WL.pu rfl (WL.nil (WX.a (WC.b (WC.b ?_)))))
 obtain ⟨zCP,zQa,h⟩:=z7 h
 refine WC.a (WL.qA 13 (yf y2X rfl (yh .here) rfl) (WL.pu rfl (WL.pu rfl (WL.cA 16 (z8 Tryz.call12 (.r3 rfl rfl rfl)) .nil (cc hz .nil fun w pz ho=>y7B _ _ _ _ _ _ _ _ _ _ _ _ _ _ _ _ _ _ _ _ _ _ _ zQa w pz zQ2 zQ3 zQ4 zQ5 zQ6 zQ7 zQ8 zQ9 zCS) (WL.pu rfl (WL.nil (WX.a (WC.cond rfl (fun zvs=>?_) (fun zvs=>?_)))))))))
 ·replace h:=yo h zvs
  refine WC.b (WC.a (WL.pu rfl (WL.pu rfl (WL.nil (WX.a (WC.ret (WX.yd (WX.nilRow 58 4 ?_))))))))
  obtain rfl:=Option.some.inj h
  refine WX.ye Tryz.results13 (.tmp rfl (.tmp rfl .nil)) (fun w hw=>?_)
  exact ⟨none,0,y1U rfl rfl,trivial,hw.sub (.cons .here .nil)⟩
 ·replace h:=yp h zvs
  refine WC.skip (WX.a (WC.b ?_))
  obtain ⟨z20,zQb,h⟩:=z7 h
  refine WC.a (WL.pu rfl (WL.y45 (dd:=20) rfl rfl rfl (z8 Tryz.call21 (.cons rfl .nil)) .nil (cc hz .nil fun w pz ho=>yal _ _ _ _ _ zQb w pz zCS) ?_))
  rintro zCV zCW _
  refine WL.pu rfl (WL.pu rfl (WL.pu rfl (WL.pu rfl (WL.pu rfl (WL.nil (WX.a (WC.b (WC.a (WL.pu rfl (WL.nil (WX.a ?_)))))))))))
  obtain ⟨zax,zQc,h⟩:=y14 h
  refine WC.y2F (fun (z8J : List Sapi_PortBound) (zhB : Option Addr) (zhC : Nat)=>(zax z8J = some r)) (fun z8J zhB zhC=>[(9,(.int .i64 z20.2)),(10,(.slice zhB z8J.length zhC))]) (fun z8J zhB zhC=>[row (.slice zhB z8J.length zhC) 58 4 (z8J.flatMap e58)]) ?_ ?_
  ·skip
   refine WC.b (WC.a (WL.pu rfl (WL.qA 24 (yG Tryz.underlying88 rfl) (WL.pu rfl (WL.nil (WX.a (WC.block (WC.nilRow 58 4 (WC.y6s (fun (zhD : Nat) (z40 : List Sapi_PortBound) (z2k : Int) (zeJ : Option Addr) (zeK : Nat)=>(y4Z z20 zax zhD z40 z2k = some r)) (fun zhD z40 z2k zeJ zeK=>[(9,(.int .i64 z20.2)),(10,(.slice zeJ z40.length zeK)),(23,(.slice zCV z20.1.length zCW)),(24,(.int .i64 ((z20.1.length : Nat) : Int))),(25,(.int .i64 z2k))]) (fun zhD z40 z2k zeJ zeK=>[row (.slice zeJ z40.length zeK) 58 4 (z40.flatMap e58),row (.slice zCV z20.1.length zCW) 97 2 (z20.1.flatMap e97)]) (fun zhD z40 z2k zeJ zeK=>zhD) ⟨yz,([] : List Sapi_PortBound),0,none,0⟩ h (.r5 rfl rfl rfl rfl rfl) (.s2 .here .here) ?_)))))))))
   rintro zhD z40 z2k zeJ zeK h
   obtain ⟨zvb,rfl⟩:=y9J h
   rw [y4Z] at h
   refine WC.b (WC.a (WL.pu rfl (WL.nil (WX.a (WC.b (WC.cond rfl (fun zvt=>?_) (fun zvt=>?_)))))))
   ·replace h:=yo h zvt
    refine WC.skip (WX.a (WC.b (WC.block (WC.b ?_))))
    obtain ⟨zkA,h⟩:=ym h
    refine WC.a (WL.know (fun w hw=>Hp.y31 .h1 hw (by intro hz'; have:=zkA; rw [hz'] at this; omega)) ?_)
    rintro ⟨zXA,rfl⟩
    refine WL.qA 27 (y17 y5f rfl rfl zkA.1 zkA.2 y3S) (WL.qA 28 (yR (cs:=(e97 (nth z20.1 z2k))) y3H rfl rfl (y3F .h1 (y3e (enc:=e97) (l:=z20.1) (i:=z2k) (sz:=2) (fun _=>rfl) zkA.1 zkA.2))) (WL.nA 12 (yx (cs:=[(.int .i64 0),(.int .i64 0)]) y8Q rfl) ?_))
    intro zXB _
    refine WL.yl rfl rfl (yk yba rfl rfl rfl .here rfl rfl rfl) (WL.nil (WX.a ?_))
    obtain ⟨zQd,h⟩:=ym h
    refine WC.a (WL.pu rfl (WL.qA 30 (ya y8J rfl rfl) (WL.qA 31 (yc yw rfl (yj .here rfl)) (WL.qA 32 (ya y9y rfl rfl) (WL.qA 33 (yc yw rfl (yj .here rfl)) (WL.qA 34 (yL (v:=(.agg #[(.int .i64 ((nth z20.1 z2k).fNode)),(.int .i64 ((nth z20.1 z2k).fLink)),(.int .i64 0),(.int .i64 0)])) (Eos.parts (l:=[.tmp 31,.tmp 33]) (.r2 rfl rfl) [0,1]) (fun _=>by kernel_rfl)) (WL.nA 35 (yX (cs:=([({(nth z20.1 z2k) with fDelay:=0,fStore:=0} : Sapi_PortBound)] : List Sapi_PortBound).flatMap e58) y5G (Eos.parts (l:=[.tmp 34]) (.cons rfl .nil) [0]) (fun _=>by kernel_rfl) rfl (by unfold maxLen; omega)) ?_)))))))
    intro zXC _
    refine WL.fA 36 (y4M (enc:=e58) (l1:=z40) (l2:=([({(nth z20.1 z2k) with fDelay:=0,fStore:=0} : Sapi_PortBound)] : List Sapi_PortBound)) y5G rfl rfl .h2 (fun _=>rfl) rfl rfl (y4d .here) (y5a ydJ _) zQd) ?_
    rintro ⟨zQe,zQf⟩ _
    refine WL.pu rfl (WL.nil (WX.yq (WX.a (WC.a (WL.pu rfl (WL.pu rfl (WL.nil ?_)))))))
    exact WX.round ⟨zvb,(z40 ++ ([({(nth z20.1 z2k) with fDelay:=0,fStore:=0} : Sapi_PortBound)] : List Sapi_PortBound)),(i64 (z2k + 1)),zQe,zQf⟩ h (Nat.lt_succ_self _) (.r5 rfl rfl rfl rfl rfl) (.s2 .here .h2)
   ·replace h:=yp h zvt
    refine WC.exit (WX.yg (WX.yg (WX.yA ?_)))
    exact WX.mid ⟨z40,zeJ,zeK⟩ h (.r2 rfl rfl) (.cons .here .nil)
  ·rintro z8J zhB zhC h
   replace h:=(zQc z8J).symm.trans h
   refine WC.b (WC.a (WL.pu rfl (WL.pu rfl (WL.pu rfl (WL.pu rfl (WL.nil (WX.a (WC.ret ?_))))))))
   obtain rfl:=Option.some.inj h
   refine WX.ye Tryz.results13 (.tmp rfl (.tmp rfl .nil)) (fun w hw=>?_)
   exact ⟨zhB,zhC,y1U rfl rfl,trivial,hw.sub (.cons .here .nil)⟩
def y5q (zO : S37) (zS : S37) (zay : Option Bool) : Nat → Int → Option Bool
 | 0,_=>none
 | zvu + 1,z1y=>if decide (z1y < ((zO.fPorts.length : Nat) : Int)) then chk ((0 : Int) ≤ z1y ∧ z1y < ((zO.fPorts.length : Nat) : Int)) (chk ((0 : Int) ≤ z1y ∧ z1y < ((zS.fPorts.length : Nat) : Int)) (if decide ((⟨((nth zO.fPorts z1y).fNode),((nth zO.fPorts z1y).fLink),((nth zO.fPorts z1y).fDelay),((nth zO.fPorts z1y).fStore)⟩ : Sapi_PortBound) ≠ (⟨((nth zS.fPorts z1y).fNode),((nth zS.fPorts z1y).fLink),((nth zS.fPorts z1y).fDelay),((nth zS.fPorts z1y).fStore)⟩ : Sapi_PortBound)) then some false else y5q zO zS zay zvu (i64 (z1y + 1)))) else zay
theorem ya8 {n : Nat} {zO : S37} {zS : S37} {zay : Option Bool} {z1y : Int} {r : Bool} (h : y5q zO zS zay n z1y = some r) : ∃ m,n = m + 1:=by
 cases n with
 | zero=>cases h
 | succ m=>exact ⟨m,rfl⟩
def y5r (zO : S37) (zS : S37) (zaz : Option Bool) : Nat → Int → Option Bool
 | 0,_=>none
 | zvv + 1,z1M=>if decide (z1M < ((zO.fEnds.length : Nat) : Int)) then chk ((0 : Int) ≤ z1M ∧ z1M < ((zO.fEnds.length : Nat) : Int)) (chk ((0 : Int) ≤ z1M ∧ z1M < ((zS.fEnds.length : Nat) : Int)) (if decide ((⟨((nth zO.fEnds z1M).fVL),((nth zO.fEnds z1M).fNode),((nth zO.fEnds z1M).fDelay)⟩ : Sapi_End) ≠ (⟨((nth zS.fEnds z1M).fVL),((nth zS.fEnds z1M).fNode),((nth zS.fEnds z1M).fDelay)⟩ : Sapi_End)) then some false else y5r zO zS zaz zvv (i64 (z1M + 1)))) else zaz
theorem ya9 {n : Nat} {zO : S37} {zS : S37} {zaz : Option Bool} {z1M : Int} {r : Bool} (h : y5r zO zS zaz n z1M = some r) : ∃ m,n = m + 1:=by
 cases n with
 | zero=>cases h
 | succ m=>exact ⟨m,rfl⟩
def y8Z (zO : S37) (zS : S37) : Option Bool :=
 if (decide (((zO.fPorts.length : Nat) : Int) ≠ ((zS.fPorts.length : Nat) : Int))) || (decide (((zO.fEnds.length : Nat) : Int) ≠ ((zS.fEnds.length : Nat) : Int))) then some false else jp0 (jp0 (some true) fun zaz=>y5r zO zS zaz yz 0) fun zay=>y5q zO zS zay yz 0
theorem ydT (Z : Zp) (zhE : Option Addr) (zhF : Nat) (zhG : Option Addr) (zhH : Nat) (zhI : Option Addr) (zhJ : Nat) (zhK : Option Addr) (zhL : Nat) (zO : S37) (zS : S37) (r : Bool)
  (h : y8Z zO zS = some r) (w₀ : World) (hz : PZ [] w₀ Z)
  (zQg : ZS Z 4 (fun r x=>r = e58 x) zhE zhF zO.fPorts)
  (zQh : ZS Z 3 (fun r x=>r = e79 x) zhG zhH zO.fEnds)
  (zQi : ZS Z 4 (fun r x=>r = e58 x) zhI zhJ zS.fPorts)
  (zQj : ZS Z 3 (fun r x=>r = e79 x) zhK zhL zS.fEnds) :
  Calls Tryz.prog 17 #[(.agg #[(.slice zhE zO.fPorts.length zhF),(.slice zhG zO.fEnds.length zhH)]),(.agg #[(.slice zhI zS.fPorts.length zhJ),(.slice zhK zS.fEnds.length zhL)])] w₀ fun e w'=>e = .returned (.bool r) ∧ Hp [] w₀ w' []:=by
 unfold y8Z at h
 refine Calls.yI Tryz.func17 Tryz.ntmps17 ?_
 refine WC.b (WC.a (WL.nA 2 (yH (cs:=[(.slice zhE zO.fPorts.length zhF),(.slice zhG zO.fEnds.length zhH)]) rfl rfl) ?_))
 intro zhM _
 refine WL.nA 3 (yH (cs:=[(.slice zhI zS.fPorts.length zhJ),(.slice zhK zS.fEnds.length zhL)]) rfl rfl) ?_
 intro zhN _
 refine WL.pu rfl (WL.nil (WX.a (WC.b (WC.b (WC.a (WL.qA 7 (ya y69 rfl rfl) (WL.qA 8 (yc y6J rfl (yj .h1 rfl)) (WL.qA 9 (yG Tryz.underlying35 rfl) (WL.qA 10 (ya y69 rfl rfl) (WL.qA 11 (yc y6J rfl (yj .here rfl)) (WL.qA 12 (yG Tryz.underlying35 rfl) (WL.pu rfl (WL.pu rfl (WL.seg false 7 14 (B:=(decide (((zO.fPorts.length : Nat) : Int) ≠ ((zS.fPorts.length : Nat) : Int))) || (decide (((zO.fEnds.length : Nat) : Int) ≠ ((zS.fEnds.length : Nat) : Int)))) rfl rfl rfl rfl rfl rfl (fun h=>(y6V h).symm) (fun _ zQk=>?_) ?_))))))))))))))
 ·skip
  refine WL.qA 15 (ya y8M rfl rfl) (WL.qA 16 (yc y9C rfl (yj .h1 rfl)) (WL.qA 17 (yG Tryz.underlying36 rfl) (WL.qA 18 (ya y8M rfl rfl) (WL.qA 19 (yc y9C rfl (yj .here rfl)) (WL.qA 20 (yG Tryz.underlying36 rfl) (WL.pu rfl (WL.pu rfl ?_)))))))
  exact WL.yB (y6W zQk) rfl rfl .all
 refine WL.nil (WX.a (WC.cond rfl (fun zvw=>?_) (fun zvw=>?_)))
 ·replace h:=yo h zvw
  refine WC.b (WC.a (WL.pu rfl (WL.nil (WX.a (WC.ret (WX.yd ?_))))))
  obtain rfl:=Option.some.inj h
  refine WX.ye Tryz.results17 (.tmp rfl .nil) (fun w hw=>?_)
  exact ⟨yC rfl,hw.sub .nil⟩
 ·replace h:=yp h zvw
  refine WC.skip (WX.a ?_)
  obtain ⟨zay,zQl,h⟩:=y2i h
  refine WC.y1G ((zay = some r)) ([(2,(.pointer (some ⟨zhM,0,none⟩))),(3,(.pointer (some ⟨zhN,0,none⟩)))]) ([stb zhM 38 [(.slice zhE zO.fPorts.length zhF),(.slice zhG zO.fEnds.length zhH)],stb zhN 38 [(.slice zhI zS.fPorts.length zhJ),(.slice zhK zS.fEnds.length zhL)]]) ?_ ?_
  ·skip
   refine WC.b (WC.a (WL.pu rfl (WL.nil (WX.a (WC.block (WC.y2S (fun (zhO : Nat) (z1y : Int)=>(y5q zO zS zay zhO z1y = some r)) (fun zhO z1y=>[(2,(.pointer (some ⟨zhM,0,none⟩))),(3,(.pointer (some ⟨zhN,0,none⟩))),(5,(.int .i64 z1y))]) (fun zhO z1y=>[stb zhM 38 [(.slice zhE zO.fPorts.length zhF),(.slice zhG zO.fEnds.length zhH)],stb zhN 38 [(.slice zhI zS.fPorts.length zhJ),(.slice zhK zS.fEnds.length zhL)]]) (fun zhO z1y=>zhO) ⟨yz,0⟩ h (.r3 rfl rfl rfl) (.s2 .h1 .here) ?_))))))
   rintro zhO z1y h
   obtain ⟨zvu,rfl⟩:=ya8 h
   rw [y5q] at h
   refine WC.b (WC.b (WC.a (WL.pu rfl (WL.qA 24 (ya y69 rfl rfl) (WL.qA 25 (yc y6J rfl (yj .here rfl)) (WL.qA 26 (yG Tryz.underlying35 rfl) (WL.pu rfl (WL.nil (WX.a (WC.cond rfl (fun zvx=>?_) (fun zvx=>?_)))))))))))
   ·replace h:=yo h zvx
    refine WC.skip (WX.a (WC.b (WC.block (WC.b ?_))))
    obtain ⟨zQm,h⟩:=ym h
    obtain ⟨zQn,h⟩:=ym h
    refine WC.yP (fun i=>[].contains i) [] rfl (WD.pA 0 30 rfl (fun _=>ya y69 rfl rfl) (WD.qA 1 31 rfl (yc y6J rfl (yj .here rfl)) (WD.pA 2 32 rfl (fun _=>q_m rfl) (WD.znth (j:=3) (dd:=33) (by kernel_rfl) rfl z2l z2m rfl rfl (Z:=Z) (Pr:=(fun r x=>r = e58 x)) y5G rfl rfl zQg zQm ?_))))
    rintro zXD zXE zQo zXF rfl
    refine WD.qA 4 34 rfl (yf y8L rfl (y2o hz.pv zQo) rfl) (WD.pA 5 35 rfl (fun _=>ya y69 rfl rfl) (WD.qA 6 36 rfl (yc y6J rfl (yj .h1 rfl)) (WD.pA 7 37 rfl (fun _=>q_m rfl) (WD.znth (j:=8) (dd:=38) (by kernel_rfl) rfl z2l z2m rfl rfl (Z:=Z) (Pr:=(fun r x=>r = e58 x)) y5G rfl rfl zQi zQn ?_))))
    rintro zXG zXH zQp zXI rfl
    refine WD.qA 9 39 rfl (yf y8L rfl (y2o hz.pv zQp) rfl) (WD.pA 10 40 rfl (fun _=>y9V (enc:=e58) (a:=(⟨((nth zO.fPorts z1y).fNode),((nth zO.fPorts z1y).fLink),((nth zO.fPorts z1y).fDelay),((nth zO.fPorts z1y).fStore)⟩ : Sapi_PortBound)) (b:=(⟨((nth zS.fPorts z1y).fNode),((nth zS.fPorts z1y).fLink),((nth zS.fPorts z1y).fDelay),((nth zS.fPorts z1y).fStore)⟩ : Sapi_PortBound)) ydO rfl rfl) (WD.done (by kernel_rfl) (WX.a (WC.cond rfl (fun zvy=>?_) (fun zvy=>?_)))))
    ·replace h:=yo h zvy
     refine WC.b (WC.a (WL.pu rfl (WL.nil (WX.a (WC.ret (WX.yt (WX.yd (WX.yd (WX.yt (WX.yd ?_))))))))))
     obtain rfl:=Option.some.inj h
     refine WX.ye Tryz.results17 (.tmp rfl .nil) (fun w hw=>?_)
     exact ⟨yC rfl,hw.sub .nil⟩
    ·replace h:=yp h zvy
     refine WC.skip (WX.yq (WX.a (WC.a (WL.pu rfl (WL.pu rfl (WL.pu rfl (WL.nil ?_)))))))
     exact WX.round ⟨zvu,(i64 (z1y + 1))⟩ h (Nat.lt_succ_self _) (.r3 rfl rfl rfl) (.s2 .here .here)
   ·replace h:=yp h zvx
    refine WC.exit (WX.yg (WX.yg (WX.yA ?_)))
    exact WX.mid () h (.r2 rfl rfl) (.s2 .here .here)
  ·rintro  h
   replace h:=zQl.symm.trans h
   obtain ⟨zaz,zQq,h⟩:=y2i h
   refine WC.y1G ((zaz = some r)) ([]) ([]) ?_ ?_
   ·skip
    refine WC.b (WC.a (WL.pu rfl (WL.nil (WX.a (WC.block (WC.y2S (fun (zhP : Nat) (z1M : Int)=>(y5r zO zS zaz zhP z1M = some r)) (fun zhP z1M=>[(2,(.pointer (some ⟨zhM,0,none⟩))),(3,(.pointer (some ⟨zhN,0,none⟩))),(6,(.int .i64 z1M))]) (fun zhP z1M=>[stb zhM 38 [(.slice zhE zO.fPorts.length zhF),(.slice zhG zO.fEnds.length zhH)],stb zhN 38 [(.slice zhI zS.fPorts.length zhJ),(.slice zhK zS.fEnds.length zhL)]]) (fun zhP z1M=>zhP) ⟨yz,0⟩ h (.r3 rfl rfl rfl) (.s2 .here .here) ?_))))))
    rintro zhP z1M h
    obtain ⟨zvv,rfl⟩:=ya9 h
    rw [y5r] at h
    refine WC.b (WC.b (WC.a (WL.pu rfl (WL.qA 42 (ya y8M rfl rfl) (WL.qA 43 (yc y9C rfl (yj .here rfl)) (WL.qA 44 (yG Tryz.underlying36 rfl) (WL.pu rfl (WL.nil (WX.a (WC.cond rfl (fun zvz=>?_) (fun zvz=>?_)))))))))))
    ·replace h:=yo h zvz
     refine WC.skip (WX.a (WC.b (WC.block (WC.b ?_))))
     obtain ⟨zQr,h⟩:=ym h
     obtain ⟨zQs,h⟩:=ym h
     refine WC.yP (fun i=>[].contains i) [] rfl (WD.pA 0 48 rfl (fun _=>ya y8M rfl rfl) (WD.qA 1 49 rfl (yc y9C rfl (yj .here rfl)) (WD.pA 2 50 rfl (fun _=>q_m rfl) (WD.znth (j:=3) (dd:=51) (by kernel_rfl) rfl z2l z2m rfl rfl (Z:=Z) (Pr:=(fun r x=>r = e79 x)) y9B rfl rfl zQh zQr ?_))))
     rintro zXJ zXK zQt zXL rfl
     refine WD.qA 4 52 rfl (yf yeT rfl (y2o hz.pv zQt) rfl) (WD.pA 5 53 rfl (fun _=>ya y8M rfl rfl) (WD.qA 6 54 rfl (yc y9C rfl (yj .h1 rfl)) (WD.pA 7 55 rfl (fun _=>q_m rfl) (WD.znth (j:=8) (dd:=56) (by kernel_rfl) rfl z2l z2m rfl rfl (Z:=Z) (Pr:=(fun r x=>r = e79 x)) y9B rfl rfl zQj zQs ?_))))
     rintro zXM zXN zQu zXO rfl
     refine WD.qA 9 57 rfl (yf yeT rfl (y2o hz.pv zQu) rfl) (WD.pA 10 58 rfl (fun _=>y9V (enc:=e79) (a:=(⟨((nth zO.fEnds z1M).fVL),((nth zO.fEnds z1M).fNode),((nth zO.fEnds z1M).fDelay)⟩ : Sapi_End)) (b:=(⟨((nth zS.fEnds z1M).fVL),((nth zS.fEnds z1M).fNode),((nth zS.fEnds z1M).fDelay)⟩ : Sapi_End)) eqT_79 rfl rfl) (WD.done (by kernel_rfl) (WX.a (WC.cond rfl (fun zvA=>?_) (fun zvA=>?_)))))
     ·replace h:=yo h zvA
      refine WC.b (WC.a (WL.pu rfl (WL.nil (WX.a (WC.ret (WX.yt (WX.yd (WX.yd (WX.yt (WX.yd ?_))))))))))
      obtain rfl:=Option.some.inj h
      refine WX.ye Tryz.results17 (.tmp rfl .nil) (fun w hw=>?_)
      exact ⟨yC rfl,hw.sub .nil⟩
     ·replace h:=yp h zvA
      refine WC.skip (WX.yq (WX.a (WC.a (WL.pu rfl (WL.pu rfl (WL.pu rfl (WL.nil ?_)))))))
      exact WX.round ⟨zvv,(i64 (z1M + 1))⟩ h (Nat.lt_succ_self _) (.r3 rfl rfl rfl) (.s2 .here .here)
    ·replace h:=yp h zvz
     refine WC.exit (WX.yg (WX.yg (WX.yA ?_)))
     exact WX.mid () h .nil .nil
   ·rintro  h
    replace h:=zQq.symm.trans h
    refine WC.b (WC.a (WL.pu rfl (WL.nil (WX.a (WC.ret ?_)))))
    obtain rfl:=Option.some.inj h
    refine WX.ye Tryz.results17 (.tmp rfl .nil) (fun w hw=>?_)
    exact ⟨yC rfl,hw.sub .nil⟩
def y4y  : Option Bool :=
 (y7A).bind fun zkB=>(y4s zkB.1 0 zkB.2).bind fun zni=>(y8m zkB.1 0 zkB.2).bind fun zQ=>(if (decide (zni.2 = 0)) && (decide (zQ.2 = 0)) then (y8Z zni.1 (⟨([(⟨0,0,40,80⟩ : Sapi_PortBound),(⟨2,1,56,91⟩ : Sapi_PortBound)] : List Sapi_PortBound),([(⟨0,1,96⟩ : Sapi_End)] : List Sapi_End)⟩ : S37)).bind fun zCX=>some zCX else some false).bind fun zcJ=>chk ((zcJ && (decide (((zQ.1.length : Nat) : Int) = 2))) = true → ((0 : Int) ≤ 0 ∧ 0 < ((zQ.1.length : Nat) : Int))) (chk (((zcJ && (decide (((zQ.1.length : Nat) : Int) = 2))) && (decide ((⟨((nth zQ.1 0).fNode),((nth zQ.1 0).fLink),((nth zQ.1 0).fDelay),((nth zQ.1 0).fStore)⟩ : Sapi_PortBound) = (⟨0,0,0,0⟩ : Sapi_PortBound)))) = true → ((0 : Int) ≤ 1 ∧ 1 < ((zQ.1.length : Nat) : Int))) (some (((zcJ && (decide (((zQ.1.length : Nat) : Int) = 2))) && (decide ((⟨((nth zQ.1 0).fNode),((nth zQ.1 0).fLink),((nth zQ.1 0).fDelay),((nth zQ.1 0).fStore)⟩ : Sapi_PortBound) = (⟨0,0,0,0⟩ : Sapi_PortBound)))) && (decide ((⟨((nth zQ.1 1).fNode),((nth zQ.1 1).fLink),((nth zQ.1 1).fDelay),((nth zQ.1 1).fStore)⟩ : Sapi_PortBound) = (⟨2,1,0,0⟩ : Sapi_PortBound))))))
theorem y79 (Z : Zp)  (r : Bool)
  (h : y4y = some r) (w₀ : World) (hz : PZ [] w₀ Z) :
  Calls Tryz.prog 9 #[] w₀ fun e w'=>e = .returned (.bool r) ∧ Hp [] w₀ w' []:=by
 unfold y4y at h
 refine Calls.on0 Tryz.func9 Tryz.ntmps9 ?_
 refine WC.pool (WC.b (WC.a (WL.pu rfl (WL.nil (WX.a (WC.b ?_))))))
 obtain ⟨zkB,zQv,h⟩:=z7 h
 refine WC.a (WL.yfg (dd:=9) rfl rfl rfl (z8 Tryz.call14 .nil) .nil (ccz hz .nil .here fun w pz ho=>yc8 _ _ zQv w pz ) ?_)
 rintro zXP zXQ zXR zXS zXT zXU zXV zXW zXX zXY zXZ zY0 zY1 zY2 zY3 zY4 zY5 zY6 zY7 zY8 zY9 zYa ⟨zCY,zCZ,zD0,zD1,zD2,zD3,zD4⟩
 refine WL.merge .here .h5 (WL.pu rfl (WL.pu rfl (WL.pu rfl (WL.nA 1 (yx (cs:=[(.slice none 0 0),(.slice none 0 0),(.slice none 0 0),(.slice none 0 0),(.slice none 0 0),(.slice none 0 0),(.slice none 0 0),(.slice none 0 0)]) ybJ rfl) ?_))))
 intro zYb _
 refine WL.yl rfl rfl (yk ycz rfl rfl rfl .here rfl rfl rfl) (WL.pu rfl (WL.nil (WX.a (WC.b ?_))))
 obtain ⟨zni,zQw,h⟩:=z7 h
 refine WC.a (WL.qA 13 (yf y2X rfl (yh .here) rfl) (WL.pu rfl (WL.yat (dd:=15) rfl rfl rfl (z8 Tryz.call10 (.r3 rfl rfl rfl)) .nil (cclz hz .nil .h1 (.s5 .h2 .h2 .h2 .h2 .h2) fun w pz ho la=>y9i _ _ _ _ _ _ _ _ _ _ _ _ _ _ _ _ _ _ _ _ _ _ _ zQw w pz (ZA.row (la _ (.head _) _) ((zCY.weak (fun _ _ h=>y2d (Zle.y1K _ _ _) h)).weak (fun _ _ h=>y2d (Zle.left _ _) h)) ⟨w,pz.1⟩) ((((zCZ.mono (Zle.y1K _ _ _)).weak (fun _ _ h=>y2r (Zle.y1K _ _ _) h)).mono (Zle.left _ _)).weak (fun _ _ h=>y2r (Zle.left _ _) h)) (ZA.row (la _ (.tail _ (.head _)) _) (RR.flat (enc:=e66) (fun _=>rfl) _) ⟨w,pz.1⟩) (ZA.row (la _ (.tail _ (.tail _ (.head _))) _) (RR.flat (enc:=e64) (fun _=>rfl) _) ⟨w,pz.1⟩) (ZA.row (la _ (.tail _ (.tail _ (.tail _ (.head _)))) _) ((zD0.weak (fun _ _ h=>y29 (Zle.y1K _ _ _) h)).weak (fun _ _ h=>y29 (Zle.left _ _) h)) ⟨w,pz.1⟩) ((zD1.mono (Zle.y1K _ _ _)).mono (Zle.left _ _)) ((((zD2.mono (Zle.y1K _ _ _)).weak (fun _ _ h=>y2s (Zle.y1K _ _ _) h)).mono (Zle.left _ _)).weak (fun _ _ h=>y2s (Zle.left _ _) h)) ((zD3.mono (Zle.y1K _ _ _)).mono (Zle.left _ _)) (ZA.row (la _ (.tail _ (.tail _ (.tail _ (.tail _ (.head _))))) _) ((zD4.weak (fun _ _ h=>y2v (Zle.y1K _ _ _) h)).weak (fun _ _ h=>y2v (Zle.left _ _) h)) ⟨w,pz.1⟩)) ?_)))
 rintro zYc zYd zYe zYf _
 refine WL.pu rfl (WL.pu rfl (WL.pu rfl (WL.nA 3 (yx (cs:=[(.slice none 0 0),(.slice none 0 0)]) y8P rfl) ?_)))
 intro zYg _
 refine WL.yl rfl rfl (yk y7m rfl rfl rfl .here rfl rfl rfl) (WL.pu rfl (WL.nil (WX.a (WC.b ?_))))
 obtain ⟨zQ,zQx,h⟩:=z7 h
 refine WC.a (WL.qA 19 (yf y2X rfl (yh .h3) rfl) (WL.pu rfl (WL.y45 (dd:=21) rfl rfl rfl (z8 Tryz.call13 (.r3 rfl rfl rfl)) .nil (cclz hz .nil .h4 (.s5 .h5 .h5 .h5 .h5 .h5) fun w pz ho la=>ydq _ _ _ _ _ _ _ _ _ _ _ _ _ _ _ _ _ _ _ _ _ _ _ zQx w pz (ZA.row (la _ (.head _) _) ((zCY.weak (fun _ _ h=>y2d (Zle.y1K _ _ _) h)).weak (fun _ _ h=>y2d (Zle.left _ _) h)) ⟨w,pz.1⟩) ((((zCZ.mono (Zle.y1K _ _ _)).weak (fun _ _ h=>y2r (Zle.y1K _ _ _) h)).mono (Zle.left _ _)).weak (fun _ _ h=>y2r (Zle.left _ _) h)) (ZA.row (la _ (.tail _ (.head _)) _) (RR.flat (enc:=e66) (fun _=>rfl) _) ⟨w,pz.1⟩) (ZA.row (la _ (.tail _ (.tail _ (.head _))) _) (RR.flat (enc:=e64) (fun _=>rfl) _) ⟨w,pz.1⟩) (ZA.row (la _ (.tail _ (.tail _ (.tail _ (.head _)))) _) ((zD0.weak (fun _ _ h=>y29 (Zle.y1K _ _ _) h)).weak (fun _ _ h=>y29 (Zle.left _ _) h)) ⟨w,pz.1⟩) ((zD1.mono (Zle.y1K _ _ _)).mono (Zle.left _ _)) ((((zD2.mono (Zle.y1K _ _ _)).weak (fun _ _ h=>y2s (Zle.y1K _ _ _) h)).mono (Zle.left _ _)).weak (fun _ _ h=>y2s (Zle.left _ _) h)) ((zD3.mono (Zle.y1K _ _ _)).mono (Zle.left _ _)) (ZA.row (la _ (.tail _ (.tail _ (.tail _ (.tail _ (.head _))))) _) ((zD4.weak (fun _ _ h=>y2v (Zle.y1K _ _ _) h)).weak (fun _ _ h=>y2v (Zle.left _ _) h)) ⟨w,pz.1⟩)) ?_)))
 rintro zYh zYi _
 refine WL.pu rfl (WL.pu rfl (WL.pu rfl (WL.pu rfl (WL.pu rfl (WL.nil (WX.a (WC.b (WC.a (WL.qA 24 (yL (v:=(.agg #[(.int .i64 0),(.int .i64 0),(.int .i64 40),(.int .i64 80)])) (Eos.parts (l:=[.const (.int .i64 0),.const (.int .i64 0),.const (.int .i64 40),.const (.int .i64 80)]) (.r4 rfl rfl rfl rfl) [0,1,2,3]) (fun _=>by kernel_rfl)) (WL.qA 25 (yL (v:=(.agg #[(.int .i64 2),(.int .i64 1),(.int .i64 56),(.int .i64 91)])) (Eos.parts (l:=[.const (.int .i64 2),.const (.int .i64 1),.const (.int .i64 56),.const (.int .i64 91)]) (.r4 rfl rfl rfl rfl) [0,1,2,3]) (fun _=>by kernel_rfl)) (WL.nA 26 (yX (cs:=([(⟨0,0,40,80⟩ : Sapi_PortBound),(⟨2,1,56,91⟩ : Sapi_PortBound)] : List Sapi_PortBound).flatMap e58) y5G (Eos.parts (l:=[.tmp 24,.tmp 25]) (.r2 rfl rfl) [0,1]) (fun _=>by kernel_rfl) rfl (by unfold maxLen; omega)) ?_)))))))))))
 intro zQy _
 refine WL.qA 27 (yL (v:=(.agg #[(.int .i64 0),(.int .i64 1),(.int .i64 96)])) (Eos.parts (l:=[.const (.int .i64 0),.const (.int .i64 1),.const (.int .i64 96)]) (.r3 rfl rfl rfl) [0,1,2]) (fun _=>by kernel_rfl)) (WL.nA 28 (yX (cs:=([(⟨0,1,96⟩ : Sapi_End)] : List Sapi_End).flatMap e79) y9B (Eos.parts (l:=[.tmp 27]) (.cons rfl .nil) [0]) (fun _=>by kernel_rfl) rfl (by unfold maxLen; omega)) ?_)
 intro zQz _
 refine WL.qA 29 (yL (v:=(.agg #[(.slice (some ⟨zQy,0,none⟩) (([(⟨0,0,40,80⟩ : Sapi_PortBound),(⟨2,1,56,91⟩ : Sapi_PortBound)] : List Sapi_PortBound).length) 2),(.slice (some ⟨zQz,0,none⟩) (([(⟨0,1,96⟩ : Sapi_End)] : List Sapi_End).length) 1)])) (Eos.parts (l:=[.tmp 26,.tmp 28]) (.r2 rfl rfl) [0,1]) (fun _=>by kernel_rfl)) (WL.nA 7 (yx (cs:=[(.slice none 0 0),(.slice none 0 0)]) y8P rfl) ?_)
 intro zYj _
 refine WL.yl rfl rfl (yk y7m rfl rfl rfl .here rfl rfl rfl) (WL.nil (WX.a (WC.b ?_)))
 obtain ⟨zcJ,zD5,h⟩:=z7 h
 obtain ⟨zQA,h⟩:=ym h
 obtain ⟨zQB,h⟩:=ym h
 refine WC.a (WL.pu rfl (WL.pu rfl (WL.pu rfl (WL.seg true 2 32 (B:=(decide (zni.2 = 0)) && (decide (zQ.2 = 0))) rfl rfl rfl rfl rfl rfl (fun h=>(y2T h).symm) (fun _ zQC=>?_) ?_))))
 ·skip
  refine WL.pu rfl (WL.pu rfl (WL.pu rfl ?_))
  exact WL.yB (y2U zQC) rfl rfl .all
 refine WL.pu rfl (WL.seg true 3 36 (B:=zcJ) rfl rfl rfl rfl rfl rfl (fun h=>(Option.some.inj (yp zD5 h)).symm) (fun _ zQD=>?_) ?_)
 ·skip
  have zkC:=yo zD5 zQD
  obtain ⟨zCX,zQE,zkC⟩:=z7 zkC
  replace zkC:=Option.some.inj zkC
  refine WL.qA 37 (yf y7n rfl (yh .h4) rfl) (WL.qA 38 (yf y7n rfl (yh .here) rfl) (WL.cA 39 (z8 Tryz.call17 (.r2 rfl rfl)) .nil (cclz hz .nil (.there .h7) (.s4 .h5 .h5 .h2 .h1) fun w pz ho la=>ydT _ _ _ _ _ _ _ _ _ _ _ _ zQE w pz (ZA.row (la _ (.head _) _) (RR.flat (enc:=e58) (fun _=>rfl) _) ⟨w,pz.1⟩) (ZA.row (la _ (.tail _ (.head _)) _) (RR.flat (enc:=e79) (fun _=>rfl) _) ⟨w,pz.1⟩) (ZA.row (la _ (.tail _ (.tail _ (.head _))) _) (RR.flat (enc:=e58) (fun _=>rfl) _) ⟨w,pz.1⟩) (ZA.row (la _ (.tail _ (.tail _ (.tail _ (.head _)))) _) (RR.flat (enc:=e79) (fun _=>rfl) _) ⟨w,pz.1⟩)) (WL.pu rfl ?_)))
  exact WL.yB zkC rfl rfl .all
 refine WL.pu rfl (WL.seg true 3 41 (B:=zcJ && (decide (((zQ.1.length : Nat) : Int) = 2))) rfl rfl rfl rfl rfl rfl (fun h=>(y2T h).symm) (fun _ zQF=>?_) ?_)
 ·skip
  refine WL.pu rfl (WL.qA 43 (yG Tryz.underlying35 rfl) (WL.pu rfl (WL.pu rfl ?_)))
  exact WL.yB (y2U zQF) rfl rfl .all
 refine WL.pu rfl (WL.seg true 5 46 (B:=(zcJ && (decide (((zQ.1.length : Nat) : Int) = 2))) && (decide ((⟨((nth zQ.1 0).fNode),((nth zQ.1 0).fLink),((nth zQ.1 0).fDelay),((nth zQ.1 0).fStore)⟩ : Sapi_PortBound) = (⟨0,0,0,0⟩ : Sapi_PortBound)))) rfl rfl rfl rfl rfl rfl (fun h=>(y2T h).symm) (fun _ zD6=>?_) ?_)
 ·skip
  have zkD:=zQA zD6
  refine WL.pu rfl (WL.know (fun w hw=>Hp.y31 .h3 hw (by intro hz'; have:=zkD; rw [hz'] at this; omega)) ?_)
  rintro ⟨zYk,rfl⟩
  refine WL.qA 48 (y17 y5G rfl rfl zkD.1 zkD.2 y3S) (WL.qA 49 (yR (cs:=(e58 (nth zQ.1 0))) y8L rfl rfl (y3F .h3 (y3e (enc:=e58) (l:=zQ.1) (i:=0) (sz:=4) (fun _=>rfl) zkD.1 zkD.2))) (WL.qA 50 (yL (v:=(.agg #[(.int .i64 0),(.int .i64 0),(.int .i64 0),(.int .i64 0)])) (Eos.parts (l:=[]) .nil []) (fun _=>by kernel_rfl)) (WL.qA 51 (y7b (enc:=e58) (a:=(⟨((nth zQ.1 0).fNode),((nth zQ.1 0).fLink),((nth zQ.1 0).fDelay),((nth zQ.1 0).fStore)⟩ : Sapi_PortBound)) (b:=(⟨0,0,0,0⟩ : Sapi_PortBound)) ydO rfl rfl) (WL.pu rfl ?_))))
  exact WL.yB (y2U zD6) rfl rfl .all
 refine WL.pu rfl (WL.seg true 5 53 (B:=((zcJ && (decide (((zQ.1.length : Nat) : Int) = 2))) && (decide ((⟨((nth zQ.1 0).fNode),((nth zQ.1 0).fLink),((nth zQ.1 0).fDelay),((nth zQ.1 0).fStore)⟩ : Sapi_PortBound) = (⟨0,0,0,0⟩ : Sapi_PortBound)))) && (decide ((⟨((nth zQ.1 1).fNode),((nth zQ.1 1).fLink),((nth zQ.1 1).fDelay),((nth zQ.1 1).fStore)⟩ : Sapi_PortBound) = (⟨2,1,0,0⟩ : Sapi_PortBound)))) rfl rfl rfl rfl rfl rfl (fun h=>(y2T h).symm) (fun _ zD7=>?_) ?_)
 ·skip
  have zkE:=zQB zD7
  refine WL.pu rfl (WL.know (fun w hw=>Hp.y31 .h3 hw (by intro hz'; have:=zkE; rw [hz'] at this; omega)) ?_)
  rintro ⟨zYl,rfl⟩
  refine WL.qA 55 (y17 y5G rfl rfl zkE.1 zkE.2 y3S) (WL.qA 56 (yR (cs:=(e58 (nth zQ.1 1))) y8L rfl rfl (y3F .h3 (y3e (enc:=e58) (l:=zQ.1) (i:=1) (sz:=4) (fun _=>rfl) zkE.1 zkE.2))) (WL.qA 57 (yL (v:=(.agg #[(.int .i64 2),(.int .i64 1),(.int .i64 0),(.int .i64 0)])) (Eos.parts (l:=[.const (.int .i64 2),.const (.int .i64 1)]) (.r2 rfl rfl) [0,1]) (fun _=>by kernel_rfl)) (WL.qA 58 (y7b (enc:=e58) (a:=(⟨((nth zQ.1 1).fNode),((nth zQ.1 1).fLink),((nth zQ.1 1).fDelay),((nth zQ.1 1).fStore)⟩ : Sapi_PortBound)) (b:=(⟨2,1,0,0⟩ : Sapi_PortBound)) ydO rfl rfl) (WL.pu rfl ?_))))
  exact WL.yB (y2U zD7) rfl rfl .all
 refine WL.pu rfl (WL.nil (WX.a (WC.ret ?_)))
 obtain rfl:=Option.some.inj h
 refine WX.ye Tryz.results9 (.tmp rfl .nil) (fun w hw=>?_)
 exact ⟨yC rfl,hw.sub .nil⟩
end Go.Proofs.YtcahmabkeaijdaaGreat
namespace Go.Proofs.YtcahmabkeaijdaaGreat
open Go Go.RowKit Sep
set_option maxRecDepth 30000
set_option maxHeartbeats 4000000
end Go.Proofs.YtcahmabkeaijdaaGreat
namespace Go.Proofs.YtcahmabkeaijdaaGreat
open Go Go.RowKit Sep
set_option maxRecDepth 30000
set_option maxHeartbeats 4000000
end Go.Proofs.YtcahmabkeaijdaaGreat
namespace Go.Proofs.YtcahmabkeaijdaaGreat
open Go Go.RowKit Sep
set_option maxRecDepth 30000
set_option maxHeartbeats 4000000
end Go.Proofs.YtcahmabkeaijdaaGreat

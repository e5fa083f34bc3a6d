/- A part of this claim's proof: models of functions, walks, plain laws. No conditions. -/
import Derived.Test.YtcahmabkeaijdaaGreatW35xe
set_option linter.all false
namespace Go.Proofs.YtcahmabkeaijdaaGreat
open Go Go.RowKit Sep
set_option maxRecDepth 30000
set_option maxHeartbeats 4000000
theorem srtA_92:∀ w,(isAgg (Tryz.y3p.t 24)).run Tryz.prog w = .ok true w:=fun _=>by kernel_rfl
theorem srtZ_92:∀ w,(Go.sizeOf (Tryz.y3p.t 24)).run Tryz.prog w = .ok 3 w:=fun _=>by kernel_rfl
def y43(z5n:List zl)(zlx:Int)(zly:Int)(zii:Int)(zfz:zl→zl→Option Int):Option (List zl):=chk ((zlx=0∧zly=((z5n.length:Nat):Int))∧(0≤zii∧zii<4611686018427387904∧z5n.length<4611686018427387904)) (chk (y7r zfz (yM zfz z5n)=true) (some (yM zfz z5n)))
theorem y7L(Z:Zp)(zfA:Option Addr)(zfB:Nat)(zlz:FuncId)(zvS:List Value)(z5n:List zl)(zlx:Int)(zly:Int)(zii:Int)(zfz:zl→zl→Option Int)(r:List zl)(w₀:World)(hz:PZ (fps [row (.slice zfA z5n.length zfB) 79 3 (z5n.flatMap e79)]) w₀ Z)(zR1:∀ args w,(callFunc zlz args).run Tryz.prog w = .ok (.enter zlz args) w)(zR2:∀ w:World,PZ [] w Z→∀(x0:zl) (x1:zl) (r:Int),zfz x0 x1=some r→Calls Tryz.prog zlz (([(.agg #[(.int .i64 x0.fVL),(.int .i64 x0.fNode),(.int .i64 x0.fDelay)]),(.agg #[(.int .i64 x1.fVL),(.int .i64 x1.fNode),(.int .i64 x1.fDelay)])]:List Value)++zvS).toArray w fun e w'=>e = .returned (.int .i64 r)∧Hp [] w w' [])(h:y43 z5n zlx zly zii zfz=some r)(hown:Hp (fps [row (.slice zfA z5n.length zfB) 79 3 (z5n.flatMap e79)]) w₀ w₀ [row (.slice zfA z5n.length zfB) 79 3 (z5n.flatMap e79)]):
  Calls Tryz.prog 92 #[(.slice zfA z5n.length zfB),(.int .i64 zlx),(.int .i64 zly),(.int .i64 zii),(.func (.func zlz) #[] (zvS).toArray)] w₀ fun e w'=>e = .returned (.tuple #[])∧(r.length=z5n.length)∧Hp (fps [row (.slice zfA z5n.length zfB) 79 3 (z5n.flatMap e79)]) w₀ w' [row (.slice zfA r.length zfB) 79 3 (r.flatMap e79)]:=by
 obtain⟨h0,h⟩:=yo h
 obtain⟨h1,h⟩:=yo h
 have hr:=(oJ h).symm
 exact y8w (P:=Tryz.prog) (f:=92) (e:=79) (k:=3) (enc:=e79) (fun _=>rfl) (by decide) yfd (fun β _ enc cf g cb hO blk off cap d0 w0 eg hC R=>Tryz.y8z 3 srtA_92 srtZ_92 enc cf g cb hO blk off cap d0 w0 eg hC R) (Tryz.y8f (α:=Unit)) hz zR1 zR2 h0 h1 hr hown
def y23(z4H:List zl)(zij:zl→zl→Option Int):Option (List zl):=
 (y4b (u64 ((z4H.length:Nat):Int))).bind fun zol=>(y43 z4H 0 ((z4H.length:Nat):Int) zol zij).bind fun zom=>some zom
theorem y7l(Z:Zp)(zdw:Option Addr)(zdx:Nat)(zik:FuncId)(zon:List Value)(z4H:List zl)(zij:zl→zl→Option Int)(r:List zl)(h:y23 z4H zij=some r)(w₀:World)(hz:PZ (fps [row (.slice zdw z4H.length zdx) 79 3 (z4H.flatMap e79)]) w₀ Z)(zR3:∀ args w,(callFunc zik args).run Tryz.prog w = .ok (.enter zik args) w)(zR4:∀ w:World,PZ [] w Z→∀(x0:zl) (x1:zl) (r:Int),zij x0 x1=some r→Calls Tryz.prog zik (([(.agg #[(.int .i64 x0.fVL),(.int .i64 x0.fNode),(.int .i64 x0.fDelay)]),(.agg #[(.int .i64 x1.fVL),(.int .i64 x1.fNode),(.int .i64 x1.fDelay)])]:List Value)++zon).toArray w fun e w'=>e = .returned (.int .i64 r)∧Hp [] w w' [])(hown:Hp (fps [row (.slice zdw z4H.length zdx) 79 3 (z4H.flatMap e79)]) w₀ w₀ [row (.slice zdw z4H.length zdx) 79 3 (z4H.flatMap e79)]):
  Calls Tryz.prog 53 #[(.slice zdw z4H.length zdx),(.func (.func zik) #[] (zon).toArray)] w₀ fun e w'=>e = .returned (.tuple #[])∧(r.length=z4H.length)∧Hp (fps [row (.slice zdw z4H.length zdx) 79 3 (z4H.flatMap e79)]) w₀ w' [row (.slice zdw r.length zdx) 79 3 (r.flatMap e79)]:=by
 unfold y23 at h
 refine Calls.oh2 Tryz.func53 Tryz.ntmps53 hown ?_
 refine WC.b (WC.a (WL.pu rfl (WL.qA 6 (yH Tryz.underlying36 rfl) (WL.pu rfl (WL.nil (WX.a ?_))))))
 obtain⟨zol,zR5,h⟩:=z8 h
 obtain⟨zom,zR6,h⟩:=z8 h
 refine WC.a (WL.pu rfl (WL.pu rfl (WL.pu rfl (WL.qA 10 (y6G Tryz.underlying3 Tryz.underlying142 rfl rfl) (WL.cA 11 (zb Tryz.call48 (.cons rfl .nil)) .nil (cc hz .nil fun w pz ho=>y7V (Z:=_)  (z7m:=(u64 ((z4H.length:Nat):Int))) (r:=zol) w pz  zR5) (WL.pu rfl (WL.y53 (dd:=13) rfl rfl rfl (zb Tryz.call92 (.r5 rfl rfl rfl rfl rfl)) (.cons .here .nil) (cc hz (.cons .here .nil) fun w pz ho=>y7L (Z:=_) (zfA:=zdw) (zfB:=zdx) (zlz:=zik) (zvS:=zon) (z5n:=z4H) (zlx:=0) (zly:=((z4H.length:Nat):Int)) (zii:=zol) (zfz:=zij) (r:=zom) w pz zR3 zR4 zR6 ho) ?_)))))))
 rintro  zDT
 refine WL.repin (i:=0) rfl (u:=(.slice zdw zom.length zdx)) (y7b zDT.symm) (WL.nil ?_)
 obtain rfl:=oJ h
 refine WX.y52 Tryz.results53 .nil (fun w hw=>?_)
 exact⟨y7o,(zDT.trans rfl),hw.sub (.cons .here .nil)⟩
def y4g(z2I:List zg)(zbz:(List (za×Int))→Option (List zl)):Nat→Int→(List (za×Int))→Option (List zl)
 | 0,_,_=>none
 | zvT+1,z2J,z79=>if decide (z2J≥0) then chk ((0:Int)≤z2J∧z2J<((z2I.length:Nat):Int)) (y4g z2I zbz zvT (i64 (z2J-1)) (yE z79 (⟨((nth z2I z2J).fNode),((nth z2I z2J).fQ)⟩:za) ((nth z2I z2J).fDelay))) else zbz z79
theorem yaZ{n:Nat}{z2I:List zg}{zbz:(List (za×Int))→Option (List zl)}{z2J:Int}{z79:List (za×Int)}{r:List zl}(h:y4g z2I zbz n z2J z79=some r):∃ m,n=m+1:=by
 cases n with
 | zero=>cases h
 | succ m=>exact⟨m,rfl⟩
def y4h(zi:List (List zd))(zh:Int)(zo:zB)(z1S:List (za×Int))(zbA:(List zl)→Option (List zl)):Nat→(List zl)→Int→(List (Int×Int))→Option (List zl)
 | 0,_,_,_=>none
 | zvU+1,z38,zw,zZ=>if decide (zw<(((nth zi zh).length:Nat):Int)) then jp2 (fun(z8C:List zl) (zbB:List (Int×Int))=>y4h zi zh zo z1S zbA zvU z8C (i64 (zw+1)) zbB) fun zlA=>chk ((0:Int)≤zw∧zw<(((nth zi zh).length:Nat):Int)) (chk ((y2x zZ ((nth (nth zi zh) zw).fNext))=false→((0:Int)≤0∧0<(((nth zi zh).length:Nat):Int))) (if (y2x zZ ((nth (nth zi zh) zw).fNext))||(decide (((nth (nth zi zh) zw).fNext)=((nth (nth zi zh) 0).fNode))) then zlA z38 zZ else(y49 (⟨((nth (nth zi zh) zw).fNode),((nth (nth zi zh) zw).fNext),((nth (nth zi zh) zw).fQ)⟩:zd)).bind fun z6z=>if (decide (((nth (nth zi zh) zw).fNext)≥0))&&(decide (((nth (nth zi zh) zw).fNext)<((zo.fM.length:Nat):Int))) then chk ((((z38++([(⟨zh,((nth (nth zi zh) zw).fNext),(yd (yE zZ ((nth (nth zi zh) zw).fNext) (i64 ((yd zZ ((nth (nth zi zh) zw).fNode) 0)+(yd z1S z6z 0)))) ((nth (nth zi zh) zw).fNext) 0)⟩:zl)]:List zl)).length:Nat):Int)*24≤140737488355328∧(((z38++([(⟨zh,((nth (nth zi zh) zw).fNext),(yd (yE zZ ((nth (nth zi zh) zw).fNext) (i64 ((yd zZ ((nth (nth zi zh) zw).fNode) 0)+(yd z1S z6z 0)))) ((nth (nth zi zh) zw).fNext) 0)⟩:zl)]:List zl)).length:Nat):Int)≤4611686018427387904) (zlA (z38++([(⟨zh,((nth (nth zi zh) zw).fNext),(yd (yE zZ ((nth (nth zi zh) zw).fNext) (i64 ((yd zZ ((nth (nth zi zh) zw).fNode) 0)+(yd z1S z6z 0)))) ((nth (nth zi zh) zw).fNext) 0)⟩:zl)]:List zl)) (yE zZ ((nth (nth zi zh) zw).fNext) (i64 ((yd zZ ((nth (nth zi zh) zw).fNode) 0)+(yd z1S z6z 0))))) else zlA z38 (yE zZ ((nth (nth zi zh) zw).fNext) (i64 ((yd zZ ((nth (nth zi zh) zw).fNode) 0)+(yd z1S z6z 0)))))) else zbA z38
theorem yb0{n:Nat}{zi:List (List zd)}{zh:Int}{zo:zB}{z1S:List (za×Int)}{zbA:(List zl)→Option (List zl)}{z38:List zl}{zw:Int}{zZ:List (Int×Int)}{r:List zl}(h:y4h zi zh zo z1S zbA n z38 zw zZ=some r):∃ m,n=m+1:=by
 cases n with
 | zero=>cases h
 | succ m=>exact⟨m,rfl⟩
def y4i(zi:List (List zd))(zo:zB)(z1S:List (za×Int))(zbC:(List zl)→Option (List zl)):Nat→(List zl)→Int→Option (List zl)
 | 0,_,_=>none
 | zvV+1,z2j,zh=>if decide (zh<((zi.length:Nat):Int)) then jp1 (fun(z8D:List zl)=>y4i zi zo z1S zbC zvV z8D (i64 (zh+1))) fun zvW=>chk ((0:Int)≤zh∧zh<((zi.length:Nat):Int)) (jp1 (fun(z9n:List zl)=>(y23 z9n (fun(y0:zl) (y1:zl)=>y2H y0 y1)).bind fun zfC=>chk ((((z2j++zfC).length:Nat):Int)*24≤140737488355328∧(((z2j++zfC).length:Nat):Int)≤4611686018427387904) (zvW (z2j++zfC))) fun zbA=>y4h zi zh zo z1S zbA yy ([]:List zl) 0 ([]:List (Int×Int))) else zbC z2j
theorem yb1{n:Nat}{zi:List (List zd)}{zo:zB}{z1S:List (za×Int)}{zbC:(List zl)→Option (List zl)}{z2j:List zl}{zh:Int}{r:List zl}(h:y4i zi zo z1S zbC n z2j zh=some r):∃ m,n=m+1:=by
 cases n with
 | zero=>cases h
 | succ m=>exact⟨m,rfl⟩
def y6Q(zo:zB)(zi:List (List zd))(z2I:List zg):Option (List zl):=
 (yZ zi (fun(y0:List zd)=>y3X y0)).bind fun zDU=>if zDU then some ([]:List zl) else jp1 (fun(z1S:List (za×Int))=>jp1 (fun(z9o:List zl)=>some z9o) fun zbC=>y4i zi zo z1S zbC yy ([]:List zl) 0) fun zbz=>y4g z2I zbz yy (i64 (((z2I.length:Nat):Int)-1)) ([]:List (za×Int))
theorem yfl(Z:Zp)(z9p:Option Addr)(z9q:Nat)(z9r:Option Addr)(z9s:Nat)(z9t:Option Addr)(z9u:Nat)(z9v:Option Addr)(z9w:Nat)(z9x:Option Addr)(z9y:Nat)(z9z:Option Addr)(z9A:Nat)(z9B:Option Addr)(z9C:Nat)(z9D:Option Addr)(z9E:Nat)(z9F:Option Addr)(z9G:Nat)(zvX:Option Addr)(zvY:Nat)(zo:zB)(zi:List (List zd))(z2I:List zg)(r:List zl)(h:y6Q zo zi z2I=some r)(w₀:World)(hz:PZ [] w₀ Z)(zZC:ZS Z 4 (y48 Z) z9p z9q zo.fM)(zZD:ZS Z 4 (y4M Z) z9r z9s zo.fC0)(zZE:ZS Z 4 (fun r x=>r=e66 x) z9t z9u zo.fS)(zZF:ZS Z 4 (fun r x=>r=e64 x) z9v z9w zo.fK)(zZG:ZS Z 7 (p46 Z) z9x z9y zo.fVLs)(zZH:ZS Z 5 (fun r x=>r=y4Z x) z9z z9A zo.fH)(zZI:ZS Z 3 (y4N Z) z9B z9C zo.fU)(zZJ:ZS Z 4 (fun r x=>r=y50 x) z9D z9E zo.fV0)(zDV:ZS Z 1 (p48 Z) z9F z9G zi)(zvZ:ZS Z 4 (fun r x=>r=e58 x) zvX zvY z2I):
  Calls Tryz.prog 26 #[(.agg #[(.slice z9p zo.fM.length z9q),(.slice z9r zo.fC0.length z9s),(.slice z9t zo.fS.length z9u),(.slice z9v zo.fK.length z9w),(.slice z9x zo.fVLs.length z9y),(.slice z9z zo.fH.length z9A),(.slice z9B zo.fU.length z9C),(.slice z9D zo.fV0.length z9E)]),(.slice z9F zi.length z9G),(.slice zvX z2I.length zvY)] w₀ fun e w'=>∃ zDW:Option Addr,∃ zDX:Nat,e = .returned (.slice zDW r.length zDX)∧True∧Hp [] w₀ w' [row (.slice zDW r.length zDX) 79 3 (r.flatMap e79)]:=by
 unfold y6Q at h
 refine Calls.on3 Tryz.func26 Tryz.ntmps26 ?_
 refine WC.b (WC.a (WL.nA 3 (yI (cs:=[(.slice z9p zo.fM.length z9q),(.slice z9r zo.fC0.length z9s),(.slice z9t zo.fS.length z9u),(.slice z9v zo.fK.length z9w),(.slice z9x zo.fVLs.length z9y),(.slice z9z zo.fH.length z9A),(.slice z9B zo.fU.length z9C),(.slice z9D zo.fV0.length z9E)]) rfl rfl) ?_))
 intro z6e _
 refine WL.pu rfl (WL.nil (WX.a (WC.b (WC.b ?_))))
 obtain⟨zDU,zR7,h⟩:=z8 h
 refine WC.a (WL.pu rfl (WL.cA 19 (zb Tryz.call27 (.r2 rfl rfl)) .nil (cc hz .nil fun w pz ho=>y45 _ _ _ (zdZ:=51) (zjp:=[]) _ (zdY:=(fun(y0:List zd)=>y3X y0)) _ zR7 w pz zDV Tryz.call51 (fun w' hz' y0 ga0 gc0 r gh0 hr=>ye0 _ _ _ _ _ hr w' hz' gh0)) (WL.nil (WX.a (WC.cond rfl (fun zw0=>?_) (fun zw0=>?_))))))
 ·replace h:=yp h zw0
  refine WC.b (WC.a (WL.pu rfl (WL.nil (WX.a (WC.ret (WX.ye (WX.nilRow 79 3 ?_)))))))
  obtain rfl:=oJ h
  refine WX.yf Tryz.results26 (.tmp rfl .nil) (fun w hw=>?_)
  exact⟨none,0,yD rfl,trivial,hw.sub (.cons .here .nil)⟩
 ·replace h:=yq h zw0
  refine WC.skip (WX.a (WC.b (WC.a (WL.nA 20 (y4B (fun x=>Value.agg (e97 x).toArray) (Value.int .i64)) ?_))))
  intro z6f _
  refine WL.pu rfl (WL.nil (WX.a ?_))
  obtain⟨zbz,zR8,h⟩:=y15 h
  refine WC.y3k (fun(z1S:List (za×Int))=>(zbz z1S=some r)) (fun z1S=>[(1,(.slice z9F zi.length z9G)),(3,(.pointer (some ⟨z6e,0,none⟩))),(7,(.map (some z6f)))]) (fun z1S=>[stb z6e 31 [(.slice z9p zo.fM.length z9q),(.slice z9r zo.fC0.length z9s),(.slice z9t zo.fS.length z9u),(.slice z9v zo.fK.length z9w),(.slice z9x zo.fVLs.length z9y),(.slice z9z zo.fH.length z9A),(.slice z9B zo.fU.length z9C),(.slice z9D zo.fV0.length z9E)],yA z6f (fun x=>Value.agg (e97 x).toArray) (Value.int .i64) z1S]) ?_ ?_
  ·skip
   refine WC.b (WC.a (WL.pu rfl (WL.qA 22 (yH Tryz.underlying35 rfl) (WL.pu rfl (WL.pu rfl (WL.nil (WX.a (WC.block (WC.y8a (fun(zil:Nat) (z2J:Int) (z79:List (za×Int))=>(y4g z2I zbz zil z2J z79=some r)) (fun zil z2J z79=>[(1,(.slice z9F zi.length z9G)),(2,(.slice zvX z2I.length zvY)),(3,(.pointer (some ⟨z6e,0,none⟩))),(7,(.map (some z6f))),(8,(.int .i64 z2J))]) (fun zil z2J z79=>[stb z6e 31 [(.slice z9p zo.fM.length z9q),(.slice z9r zo.fC0.length z9s),(.slice z9t zo.fS.length z9u),(.slice z9v zo.fK.length z9w),(.slice z9x zo.fVLs.length z9y),(.slice z9z zo.fH.length z9A),(.slice z9B zo.fU.length z9C),(.slice z9D zo.fV0.length z9E)],yA z6f (fun x=>Value.agg (e97 x).toArray) (Value.int .i64) z79]) (fun zil z2J z79=>zil) ⟨yy,(i64 (((z2I.length:Nat):Int)-1)),([]:List (za×Int))⟩ h (.r5 rfl rfl rfl rfl rfl) (.s2 .h1 .here) ?_)))))))))
   rintro zil z2J z79 h
   obtain⟨zvT,rfl⟩:=yaZ h
   rw[y4g] at h
   refine WC.b (WC.b (WC.a (WL.pu rfl (WL.pu rfl (WL.nil (WX.a (WC.cond rfl (fun zw1=>?_) (fun zw1=>?_))))))))
   ·replace h:=yp h zw1
    refine WC.skip (WX.a (WC.b (WC.block ?_)))
    obtain⟨zw2,h⟩:=yo h
    refine WC.yP (fun i=>[17].contains i) [] rfl (WD.pA 0 28 rfl (fun _=>q_m rfl) (WD.pA 1 29 rfl (fun _=>q_m rfl) (WD.pA 2 30 rfl (fun _=>q_m rfl) (WD.znth (j:=3) (dd:=31) (by kernel_rfl) rfl z2V z2W rfl rfl (Z:=Z) (Pr:=(fun r x=>r=e58 x)) y5v rfl rfl zvZ zw2 ?_))))
    rintro zZK zZL zR9 zZM rfl
    refine WD.pA 4 32 rfl (fun _=>ya yao rfl rfl) (WD.qA 5 33 rfl (yc yt rfl (y1l hz.pv zR9 rfl)) (WD.pA 6 34 rfl (fun _=>q_m rfl) (WD.pA 7 35 rfl (fun _=>q_m rfl) (WD.znth (j:=8) (dd:=36) (by kernel_rfl) rfl z2V z2W rfl rfl (Z:=Z) (Pr:=(fun r x=>r=e58 x)) y5v rfl rfl zvZ zw2 ?_))))
    rintro zZN zZO zRa zZP rfl
    refine WD.pA 9 37 rfl (fun _=>ya yap rfl rfl) (WD.qA 10 38 rfl (yc yt rfl (y1l hz.pv zRa rfl)) (WD.pA 11 39 rfl (fun _=>yL (v:=(.agg #[(.int .i64 ((nth z2I z2J).fNode)),(.int .i64 ((nth z2I z2J).fQ))])) (Eos.parts (l:=[.tmp 33,.tmp 38]) (.r2 rfl rfl) [0,1]) (fun _=>by kernel_rfl)) (WD.pA 12 40 rfl (fun _=>q_m rfl) (WD.pA 13 41 rfl (fun _=>q_m rfl) (WD.znth (j:=14) (dd:=42) (by kernel_rfl) rfl z2V z2W rfl rfl (Z:=Z) (Pr:=(fun r x=>r=e58 x)) y5v rfl rfl zvZ zw2 ?_)))))
    rintro zZQ zZR zRb zZS rfl
    refine WD.pA 15 43 rfl (fun _=>ya ydT rfl rfl) (WD.qA 16 44 rfl (yc yt rfl (y1l hz.pv zRb rfl)) (WD.y37 (i:=17) rfl (by kernel_rfl) rfl rfl rfl (by kernel_rfl) (y5J (k:=(⟨((nth z2I z2J).fNode),((nth z2I z2J).fQ)⟩:za)) (v:=((nth z2I z2J).fDelay)) y7G Tryz.underlying93 rfl rfl rfl rfl .h1) (WD.done (by kernel_rfl) (WX.yn (WX.a (WC.a (WL.pu rfl (WL.pu rfl (WL.pu rfl (WL.nil ?_))))))))))
    exact WX.round ⟨zvT,(i64 (z2J-1)),(yE z79 (⟨((nth z2I z2J).fNode),((nth z2I z2J).fQ)⟩:za) ((nth z2I z2J).fDelay))⟩ h (Nat.lt_succ_self _) (.r5 rfl rfl rfl rfl rfl) (.s2 .h1 .here)
   ·replace h:=yq h zw1
    refine WC.exit (WX.yg (WX.yg (WX.yz ?_)))
    exact WX.mid z79 h (.r3 rfl rfl rfl) (.s2 .here .here)
  ·rintro z1S h
   replace h:=(zR8 z1S).symm.trans h
   refine WC.b (WC.a (WL.pu rfl (WL.nil (WX.a ?_))))
   obtain⟨zbC,zRc,h⟩:=y15 h
   refine WC.y2R (fun(z9o:List zl) (zim:Option Addr) (zin:Nat)=>(zbC z9o=some r)) (fun z9o zim zin=>[(9,(.slice zim z9o.length zin))]) (fun z9o zim zin=>[row (.slice zim z9o.length zin) 79 3 (z9o.flatMap e79)]) ?_ ?_
   ·skip
    refine WC.b (WC.a (WL.pu rfl (WL.qA 46 (yH Tryz.underlying32 rfl) (WL.pu rfl (WL.nil (WX.a (WC.block (WC.nilRow 79 3 (WC.y6I (fun(zio:Nat) (z2j:List zl) (zh:Int) (z6A:Option Addr) (z6B:Nat)=>(y4i zi zo z1S zbC zio z2j zh=some r)) (fun zio z2j zh z6A z6B=>[(3,(.pointer (some ⟨z6e,0,none⟩))),(7,(.map (some z6f))),(9,(.slice z6A z2j.length z6B)),(45,(.slice z9F zi.length z9G)),(46,(.int .i64 ((zi.length:Nat):Int))),(47,(.int .i64 zh))]) (fun zio z2j zh z6A z6B=>[row (.slice z6A z2j.length z6B) 79 3 (z2j.flatMap e79),stb z6e 31 [(.slice z9p zo.fM.length z9q),(.slice z9r zo.fC0.length z9s),(.slice z9t zo.fS.length z9u),(.slice z9v zo.fK.length z9w),(.slice z9x zo.fVLs.length z9y),(.slice z9z zo.fH.length z9A),(.slice z9B zo.fU.length z9C),(.slice z9D zo.fV0.length z9E)],yA z6f (fun x=>Value.agg (e97 x).toArray) (Value.int .i64) z1S]) (fun zio z2j zh z6A z6B=>zio) ⟨yy,([]:List zl),0,none,0⟩ h (.r6 rfl rfl rfl rfl rfl rfl) (.s3 .here .here .here) ?_)))))))))
    rintro zio z2j zh z6A z6B h
    obtain⟨zvV,rfl⟩:=yb1 h
    rw[y4i] at h
    refine WC.b (WC.a (WL.pu rfl (WL.nil (WX.a (WC.b (WC.cond rfl (fun zw3=>?_) (fun zw3=>?_)))))))
    ·replace h:=yp h zw3
     refine WC.skip (WX.a ?_)
     obtain⟨zvW,zRd,h⟩:=y15 h
     refine WC.y2R (fun(z8D:List zl) (ziq:Option Addr) (zir:Nat)=>(zvW z8D=some r)) (fun z8D ziq zir=>[(3,(.pointer (some ⟨z6e,0,none⟩))),(7,(.map (some z6f))),(9,(.slice ziq z8D.length zir)),(45,(.slice z9F zi.length z9G)),(46,(.int .i64 ((zi.length:Nat):Int))),(47,(.int .i64 zh))]) (fun z8D ziq zir=>[row (.slice ziq z8D.length zir) 79 3 (z8D.flatMap e79),stb z6e 31 [(.slice z9p zo.fM.length z9q),(.slice z9r zo.fC0.length z9s),(.slice z9t zo.fS.length z9u),(.slice z9v zo.fK.length z9w),(.slice z9x zo.fVLs.length z9y),(.slice z9z zo.fH.length z9A),(.slice z9B zo.fU.length z9C),(.slice z9D zo.fV0.length z9E)],yA z6f (fun x=>Value.agg (e97 x).toArray) (Value.int .i64) z1S]) ?_ ?_
     ·skip
      refine WC.block (WC.b ?_)
      obtain⟨zRe,h⟩:=yo h
      refine WC.a (WL.pu rfl (WL.znth (dd:=50) rfl rfl (Z:=Z) (Pr:=(p48 Z)) y7h rfl rfl zDV zRe ?_))
      rintro zZT zZU zRf zZV ⟨zis,zit,rfl,zDY⟩
      refine WL.qA 51 (yc y7E rfl (y5I hz.pv zRf rfl)) (WL.pu rfl (WL.pu rfl (WL.nil (WX.a (WC.b (WC.a (WL.nA 52 (y4B (Value.int .i64) (Value.int .i64)) ?_)))))))
      intro ziu _
      refine WL.pu rfl (WL.nil (WX.a (WC.b (WC.a (WL.pu rfl (WL.nil (WX.a ?_)))))))
      obtain⟨zbA,zRg,h⟩:=y15 h
      refine WC.y2R (fun(z9n:List zl) (ziv:Option Addr) (ziw:Nat)=>(zbA z9n=some r)) (fun z9n ziv ziw=>[(3,(.pointer (some ⟨z6e,0,none⟩))),(7,(.map (some z6f))),(9,(.slice z6A z2j.length z6B)),(13,(.slice ziv z9n.length ziw)),(45,(.slice z9F zi.length z9G)),(46,(.int .i64 ((zi.length:Nat):Int))),(47,(.int .i64 zh))]) (fun z9n ziv ziw=>[row (.slice z6A z2j.length z6B) 79 3 (z2j.flatMap e79),row (.slice ziv z9n.length ziw) 79 3 (z9n.flatMap e79),stb z6e 31 [(.slice z9p zo.fM.length z9q),(.slice z9r zo.fC0.length z9s),(.slice z9t zo.fS.length z9u),(.slice z9v zo.fK.length z9w),(.slice z9x zo.fVLs.length z9y),(.slice z9z zo.fH.length z9A),(.slice z9B zo.fU.length z9C),(.slice z9D zo.fV0.length z9E)],yA z6f (fun x=>Value.agg (e97 x).toArray) (Value.int .i64) z1S]) ?_ ?_
      ·skip
       refine WC.b (WC.a (WL.pu rfl (WL.qA 54 (yH Tryz.underlying48 rfl) (WL.pu rfl (WL.nil (WX.a (WC.block (WC.nilRow 79 3 (WC.yaK (fun(zix:Nat) (z38:List zl) (zw:Int) (zZ:List (Int×Int)) (z9H:Option Addr) (z9I:Nat)=>(y4h zi zh zo z1S zbA zix z38 zw zZ=some r)) (fun zix z38 zw zZ z9H z9I=>[(3,(.pointer (some ⟨z6e,0,none⟩))),(7,(.map (some z6f))),(9,(.slice z6A z2j.length z6B)),(10,(.int .i64 zh)),(11,(.slice zis ((nth zi zh).length) zit)),(12,(.map (some ziu))),(13,(.slice z9H z38.length z9I)),(45,(.slice z9F zi.length z9G)),(46,(.int .i64 ((zi.length:Nat):Int))),(47,(.int .i64 zh)),(53,(.slice zis ((nth zi zh).length) zit)),(54,(.int .i64 (((nth zi zh).length:Nat):Int))),(55,(.int .i64 zw))]) (fun zix z38 zw zZ z9H z9I=>[row (.slice z6A z2j.length z6B) 79 3 (z2j.flatMap e79),row (.slice z9H z38.length z9I) 79 3 (z38.flatMap e79),stb z6e 31 [(.slice z9p zo.fM.length z9q),(.slice z9r zo.fC0.length z9s),(.slice z9t zo.fS.length z9u),(.slice z9v zo.fK.length z9w),(.slice z9x zo.fVLs.length z9y),(.slice z9z zo.fH.length z9A),(.slice z9B zo.fU.length z9C),(.slice z9D zo.fV0.length z9E)],yA z6f (fun x=>Value.agg (e97 x).toArray) (Value.int .i64) z1S,yA ziu (Value.int .i64) (Value.int .i64) zZ]) (fun zix z38 zw zZ z9H z9I=>zix) ⟨yy,([]:List zl),0,([]:List (Int×Int)),none,0⟩ h (.r13 rfl rfl rfl rfl rfl rfl rfl rfl rfl rfl rfl rfl rfl) (.s5 .h2 .here .h1 .h1 .here) ?_)))))))))
       rintro zix z38 zw zZ z9H z9I h
       obtain⟨zvU,rfl⟩:=yb0 h
       rw[y4h] at h
       refine WC.b (WC.a (WL.pu rfl (WL.nil (WX.a (WC.b (WC.cond rfl (fun zw4=>?_) (fun zw4=>?_)))))))
       ·replace h:=yp h zw4
        refine WC.skip (WX.a ?_)
        obtain⟨zlA,zRh,h⟩:=y4s h
        refine WC.y7N (fun(z8C:List zl) (zbB:List (Int×Int)) (ziy:Option Addr) (ziz:Nat)=>(zlA z8C zbB=some r)) (fun z8C zbB ziy ziz=>[(3,(.pointer (some ⟨z6e,0,none⟩))),(7,(.map (some z6f))),(9,(.slice z6A z2j.length z6B)),(10,(.int .i64 zh)),(11,(.slice zis ((nth zi zh).length) zit)),(12,(.map (some ziu))),(13,(.slice ziy z8C.length ziz)),(45,(.slice z9F zi.length z9G)),(46,(.int .i64 ((zi.length:Nat):Int))),(47,(.int .i64 zh)),(53,(.slice zis ((nth zi zh).length) zit)),(54,(.int .i64 (((nth zi zh).length:Nat):Int))),(55,(.int .i64 zw))]) (fun z8C zbB ziy ziz=>[row (.slice z6A z2j.length z6B) 79 3 (z2j.flatMap e79),row (.slice ziy z8C.length ziz) 79 3 (z8C.flatMap e79),stb z6e 31 [(.slice z9p zo.fM.length z9q),(.slice z9r zo.fC0.length z9s),(.slice z9t zo.fS.length z9u),(.slice z9v zo.fK.length z9w),(.slice z9x zo.fVLs.length z9y),(.slice z9z zo.fH.length z9A),(.slice z9B zo.fU.length z9C),(.slice z9D zo.fV0.length z9E)],yA z6f (fun x=>Value.agg (e97 x).toArray) (Value.int .i64) z1S,yA ziu (Value.int .i64) (Value.int .i64) zbB]) ?_ ?_
        ·skip
         refine WC.block (WC.b ?_)
         obtain⟨zRi,h⟩:=yo h
         refine WC.a (WL.znth (dd:=57) rfl rfl (Z:=Z) (Pr:=(fun r x=>r=e62 x)) y6e rfl rfl zDY zRi ?_)
         rintro zRj zZW zRk zZX rfl
         refine WL.qA 58 (yh y3Q rfl (y2b hz.pv zRk) rfl) (WL.nA 15 (yv (cs:=[(.int .i64 0),(.int .i64 0),(.int .i64 0)]) y6L rfl) ?_)
         intro zDZ _
         refine WL.ym rfl rfl (yl y70 rfl rfl rfl .here rfl rfl rfl) (WL.nil (WX.a (WC.b (WC.b (WC.a (WL.pu rfl (WL.qA 61 (ya y5T rfl rfl) (WL.qA 62 (yc yt rfl (yk .here rfl)) (WL.qA 63 (yhj (k:=((nth (nth zi zh) zw).fNext)) (dflt:=(0:Int)) y5t Tryz.underlying145 y56 rfl rfl rfl .h5) (WL.pu rfl (WL.pu rfl (WL.pu rfl (WL.pu rfl (WL.pu rfl (WL.nil (WX.a (WC.b ?_)))))))))))))))))
         obtain⟨zRl,h⟩:=yo h
         refine WC.yP (fun i=>[].contains i) [] rfl (WD.pA 0 66 rfl (fun _=>q_m rfl) (WD.pA 1 67 rfl (fun _=>q_m rfl) (WD.mid (fuel':=0) [(3,(.pointer (some ⟨z6e,0,none⟩))),(7,(.map (some z6f))),(9,(.slice z6A z2j.length z6B)),(10,(.int .i64 zh)),(11,(.slice zis ((nth zi zh).length) zit)),(12,(.map (some ziu))),(13,(.slice z9H z38.length z9I)),(45,(.slice z9F zi.length z9G)),(46,(.int .i64 ((zi.length:Nat):Int))),(47,(.int .i64 zh)),(53,(.slice zis ((nth zi zh).length) zit)),(54,(.int .i64 (((nth zi zh).length:Nat):Int))),(55,(.int .i64 zw)),(56,(.bool (decide (zw<(((nth zi zh).length:Nat):Int))))),(57,(.pointer (some zRj))),(58,(.agg #[(.int .i64 ((nth (nth zi zh) zw).fNode)),(.int .i64 ((nth (nth zi zh) zw).fNext)),(.int .i64 ((nth (nth zi zh) zw).fQ))])),(15,(.pointer (some ⟨zDZ,0,none⟩))),(60,(.map (some ziu))),(61,(.pointer (some ⟨zDZ,1,none⟩))),(62,(.int .i64 ((nth (nth zi zh) zw).fNext))),(63,(.tuple #[(.int .i64 (yd zZ ((nth (nth zi zh) zw).fNext) 0)),(.bool (y2x zZ ((nth (nth zi zh) zw).fNext)))])),(59,(.tuple #[(.int .i64 (yd zZ ((nth (nth zi zh) zw).fNext) 0)),(.bool (y2x zZ ((nth (nth zi zh) zw).fNext)))])),(64,(.int .i64 (yd zZ ((nth (nth zi zh) zw).fNext) 0))),(65,(.bool (y2x zZ ((nth (nth zi zh) zw).fNext)))),(16,(.int .i64 (yd zZ ((nth (nth zi zh) zw).fNext) 0))),(17,(.bool (y2x zZ ((nth (nth zi zh) zw).fNext)))),(66,(.bool (y2x zZ ((nth (nth zi zh) zw).fNext)))),(67,(.bool (y2x zZ ((nth (nth zi zh) zw).fNext)))),(75,(.bool ((y2x zZ ((nth (nth zi zh) zw).fNext))||(decide (((nth (nth zi zh) zw).fNext)=((nth (nth zi zh) 0).fNode))))))] (y34 10 [9,8,7,6,5,4,3,2,1,0]) ?_ (fun zE0=>?_))))
         rotate_left
         ·rcases Bool.eq_false_or_eq_true (y2x zZ ((nth (nth zi zh) zw).fNext)) with hb' | hb'
          ·have zw5:=hb';clear hb'
           refine WD.pin (i:=67) rfl zw5 (WD.kA 2 68 rfl (WD.kA 3 69 rfl (WD.kA 4 70 rfl (WD.kA 5 71 rfl (WD.kA 6 72 rfl (WD.kA 7 73 rfl (WD.kA 8 74 rfl (WD.pA 9 75 rfl (fun _=>y3M rfl rfl) (WD.reL (.s6 .here .here .here .here .here .here) ?_ zE0)))))))))
           exact(.cons rfl (.cons rfl (.cons rfl (.cons rfl (.cons rfl (.cons rfl (.cons rfl (.cons rfl (.cons rfl (.cons rfl (.cons rfl (.cons rfl (.cons rfl (.cons rfl (.cons rfl (.cons rfl (.cons rfl (.cons rfl (.cons rfl (.cons rfl (.cons rfl (.cons rfl (.cons rfl (.cons rfl (.cons rfl (.cons rfl (.cons rfl (.cons (zN (Eq.symm zw5)) (.cons (zN (y6p zw5)) .nil)))))))))))))))))))))))))))))
          ·have zoo:=hb';clear hb'
           have zRm:=zRl zoo
           refine WD.pin (i:=67) rfl zoo (WD.pA 2 68 rfl (fun _=>ya y5T rfl rfl) (WD.qA 3 69 rfl (yc yt rfl (yk .here rfl)) (WD.pA 4 70 rfl (fun _=>q_m rfl) (WD.znth (j:=5) (dd:=71) (by kernel_rfl) rfl z2V z2W rfl rfl (Z:=Z) (Pr:=(fun r x=>r=e62 x)) y6e rfl rfl zDY zRm ?_))))
           rintro zZY zZZ zRn z100 rfl
           refine WD.pA 6 72 rfl (fun _=>ya y55 rfl rfl) (WD.qA 7 73 rfl (yc yt rfl (y1l hz.pv zRn rfl)) (WD.pA 8 74 rfl (fun _=>yaI rfl rfl) (WD.pA 9 75 rfl (fun _=>y3N rfl rfl) (WD.reL (.s6 .here .here .here .here .here .here) ?_ zE0))))
           exact(.cons rfl (.cons rfl (.cons rfl (.cons rfl (.cons rfl (.cons rfl (.cons rfl (.cons rfl (.cons rfl (.cons rfl (.cons rfl (.cons rfl (.cons rfl (.cons rfl (.cons rfl (.cons rfl (.cons rfl (.cons rfl (.cons rfl (.cons rfl (.cons rfl (.cons rfl (.cons rfl (.cons rfl (.cons rfl (.cons rfl (.cons rfl (.cons (zN (Eq.symm zoo)) (.cons (zN (y6q zoo)) .nil)))))))))))))))))))))))))))))
         refine WD.done (by kernel_rfl) (WX.a (WC.cond rfl (fun zw6=>?_) (fun zw6=>?_)))
         ·replace h:=yp h zw6
          refine WC.exit (WX.yg (WX.yz ?_))
          exact WX.mid ⟨z38,zZ,z9H,z9I⟩ h (.r13 rfl rfl rfl rfl rfl rfl rfl rfl rfl rfl rfl rfl rfl) (.s5 .h1 .h1 .h1 .h1 .h1)
         ·replace h:=yq h zw6
          refine WC.skip (WX.a (WC.b ?_))
          obtain⟨z6z,zRo,h⟩:=z8 h
          refine WC.yP (fun i=>[12].contains i) [] rfl (WD.pA 0 76 rfl (fun _=>q_m rfl) (WD.pA 1 77 rfl (fun _=>ya y5T rfl rfl) (WD.qA 2 78 rfl (yc yt rfl (yk .here rfl)) (WD.pA 3 79 rfl (fun _=>q_m rfl) (WD.pA 4 80 rfl (fun _=>ya y55 rfl rfl) (WD.qA 5 81 rfl (yc yt rfl (yk .here rfl)) (WD.qA 6 82 rfl (y3r (k:=((nth (nth zi zh) zw).fNode)) (dflt:=(0:Int)) y5t Tryz.underlying145 y56 rfl rfl rfl .h5) (WD.pA 7 83 rfl (fun _=>q_m rfl) (WD.qA 8 84 rfl (yh y3Q rfl (yi .here) rfl) (WD.eA 9 85 rfl (zb Tryz.call40 (.cons rfl .nil)) (cc hz .nil fun w pz ho=>y5y _ _ _ zRo w pz ) (WD.qA 10 86 rfl (y3r (k:=z6z) (dflt:=(0:Int)) y7G Tryz.underlying93 y56 rfl rfl rfl .h4) (WD.pA 11 87 rfl (fun _=>yd5 rfl rfl rfl) (WD.y37 (i:=12) rfl (by kernel_rfl) rfl rfl rfl (by kernel_rfl) (y5J (k:=((nth (nth zi zh) zw).fNext)) (v:=i64 ((yd zZ ((nth (nth zi zh) zw).fNode) 0)+(yd z1S z6z 0))) y5t Tryz.underlying145 rfl rfl rfl rfl .h5) (WD.done (by kernel_rfl) (WX.a (WC.b (WC.a (WL.qA 88 (ya y5T rfl rfl) (WL.qA 89 (yc yt rfl (yk .h1 rfl)) (WL.pu rfl (WL.pu rfl (WL.seg true 6 91 (B:=(decide (((nth (nth zi zh) zw).fNext)≥0))&&(decide (((nth (nth zi zh) zw).fNext)<((zo.fM.length:Nat):Int)))) rfl rfl rfl rfl rfl rfl (fun h=>(y2z h).symm) (fun _ zRp=>?_) ?_))))))))))))))))))))))
          ·skip
           refine WL.qA 92 (ya y5T rfl rfl) (WL.qA 93 (yc yt rfl (yk .h1 rfl)) (WL.qA 94 (ya y6Y rfl rfl) (WL.qA 95 (yc y6Z rfl (yk .h4 rfl)) (WL.qA 96 (yH Tryz.underlying22 rfl) (WL.pu rfl (WL.pu rfl ?_))))))
           exact WL.yB (y2A zRp) rfl rfl .all
          refine WL.nil (WX.a (WC.cond rfl (fun zw7=>?_) (fun zw7=>?_)))
          ·replace h:=yp h zw7
           obtain⟨zRq,h⟩:=yo h
           refine WC.a (WL.pu rfl (WL.pu rfl (WL.qA 101 (ya y5T rfl rfl) (WL.qA 102 (yc yt rfl (yk .h1 rfl)) (WL.pu rfl (WL.qA 104 (ya y5T rfl rfl) (WL.qA 105 (yc yt rfl (yk .h1 rfl)) (WL.qA 106 (y3r (k:=((nth (nth zi zh) zw).fNext)) (dflt:=(0:Int)) y5t Tryz.underlying145 y56 rfl rfl rfl .here) (WL.qA 107 (yL (v:=(.agg #[(.int .i64 zh),(.int .i64 ((nth (nth zi zh) zw).fNext)),(.int .i64 (yd (yE zZ ((nth (nth zi zh) zw).fNext) (i64 ((yd zZ ((nth (nth zi zh) zw).fNode) 0)+(yd z1S z6z 0)))) ((nth (nth zi zh) zw).fNext) 0))])) (Eos.parts (l:=[.tmp 100,.tmp 102,.tmp 106]) (.r3 rfl rfl rfl) [0,1,2]) (fun _=>by kernel_rfl)) (WL.nA 108 (yR (cs:=([(⟨zh,((nth (nth zi zh) zw).fNext),(yd (yE zZ ((nth (nth zi zh) zw).fNext) (i64 ((yd zZ ((nth (nth zi zh) zw).fNode) 0)+(yd z1S z6z 0)))) ((nth (nth zi zh) zw).fNext) 0)⟩:zl)]:List zl).flatMap e79) y8A (Eos.parts (l:=[.tmp 107]) (.cons rfl .nil) [0]) (fun _=>by kernel_rfl) rfl (by unfold maxLen;omega)) ?_))))))))))
           intro z101 _
           refine WL.fA 109 (y54 (enc:=e79) (l1:=z38) (l2:=([(⟨zh,((nth (nth zi zh) zw).fNext),(yd (yE zZ ((nth (nth zi zh) zw).fNext) (i64 ((yd zZ ((nth (nth zi zh) zw).fNode) 0)+(yd z1S z6z 0)))) ((nth (nth zi zh) zw).fNext) 0)⟩:zl)]:List zl)) y8A rfl rfl .h4 (fun _=>rfl) rfl rfl (y4r .here) (y5o yfd _) zRq) ?_
           rintro⟨zRr,zRs⟩ _
           refine WL.pu rfl (WL.nil (WX.yn ?_))
           exact WX.mid ⟨(z38++([(⟨zh,((nth (nth zi zh) zw).fNext),(yd (yE zZ ((nth (nth zi zh) zw).fNext) (i64 ((yd zZ ((nth (nth zi zh) zw).fNode) 0)+(yd z1S z6z 0)))) ((nth (nth zi zh) zw).fNext) 0)⟩:zl)]:List zl)),(yE zZ ((nth (nth zi zh) zw).fNext) (i64 ((yd zZ ((nth (nth zi zh) zw).fNode) 0)+(yd z1S z6z 0)))),zRr,zRs⟩ h (.r13 rfl rfl rfl rfl rfl rfl rfl rfl rfl rfl rfl rfl rfl) (.s5 .h4 .here .h3 .h3 .h1)
          ·replace h:=yq h zw7
           refine WC.skip (WX.yn ?_)
           exact WX.mid ⟨z38,(yE zZ ((nth (nth zi zh) zw).fNext) (i64 ((yd zZ ((nth (nth zi zh) zw).fNode) 0)+(yd z1S z6z 0)))),z9H,z9I⟩ h (.r13 rfl rfl rfl rfl rfl rfl rfl rfl rfl rfl rfl rfl rfl) (.s5 .h2 .h2 .h2 .h2 .here)
        ·rintro z8C zbB ziy ziz h
         replace h:=(zRh z8C zbB).symm.trans h
         refine WC.a (WL.pu rfl (WL.pu rfl (WL.nil ?_)))
         exact WX.round ⟨zvU,z8C,(i64 (zw+1)),zbB,ziy,ziz⟩ h (Nat.lt_succ_self _) (.r13 rfl rfl rfl rfl rfl rfl rfl rfl rfl rfl rfl rfl rfl) (.s5 .here .here .here .here .here)
       ·replace h:=yq h zw4
        refine WC.exit (WX.yg (WX.yg (WX.yz ?_)))
        exact WX.mid ⟨z38,z9H,z9I⟩ h (.r7 rfl rfl rfl rfl rfl rfl rfl) (.s4 .here .here .here .here)
      ·rintro z9n ziv ziw h
       replace h:=(zRg z9n).symm.trans h
       refine WC.b ?_
       obtain⟨zfC,zRt,h⟩:=z8 h
       refine WC.a (WL.pu rfl (WL.y53 (dd:=112) rfl rfl rfl (zb Tryz.call53 (.r2 rfl rfl)) (.cons .h1 .nil) (cc hz (.cons .h1 .nil) fun w pz ho=>y7l _ _ _ (zik:=54) (zon:=[]) _ (zij:=(fun(y0:zl) (y1:zl)=>y2H y0 y1)) _ zRt w pz Tryz.call54 (fun w' hz' y0 y1  r  hr=>ye1 _ _ _ _ hr w' hz' ) ho) ?_))
       rintro  zRu
       refine WL.repin (i:=13) rfl (u:=(.slice ziv zfC.length ziw)) (y7b zRu.symm) (WL.nil (WX.a ?_))
       obtain⟨zRv,h⟩:=yo h
       refine WC.a (WL.pu rfl (WL.pu rfl (WL.fA 115 (y54 (enc:=e79) (l1:=z2j) (l2:=zfC) y8A rfl rfl .h1 (fun _=>rfl) rfl rfl (y4r .here) (y5o yfd _) zRv) ?_)))
       rintro⟨zRw,zRx⟩ _
       refine WL.pu rfl (WL.nil (WX.yn ?_))
       exact WX.mid ⟨(z2j++zfC),zRw,zRx⟩ h (.r6 rfl rfl rfl rfl rfl rfl) (.s3 .here .h1 .h1)
     ·rintro z8D ziq zir h
      replace h:=(zRd z8D).symm.trans h
      refine WC.a (WL.pu rfl (WL.pu rfl (WL.nil ?_)))
      exact WX.round ⟨zvV,z8D,(i64 (zh+1)),ziq,zir⟩ h (Nat.lt_succ_self _) (.r6 rfl rfl rfl rfl rfl rfl) (.s3 .here .here .here)
    ·replace h:=yq h zw3
     refine WC.exit (WX.yg (WX.yg (WX.yz ?_)))
     exact WX.mid ⟨z2j,z6A,z6B⟩ h (.cons rfl .nil) (.cons .here .nil)
   ·rintro z9o zim zin h
    replace h:=(zRc z9o).symm.trans h
    refine WC.b (WC.a (WL.pu rfl (WL.pu rfl (WL.nil (WX.a (WC.ret ?_))))))
    obtain rfl:=oJ h
    refine WX.yf Tryz.results26 (.tmp rfl .nil) (fun w hw=>?_)
    exact⟨zim,zin,yD rfl,trivial,hw.sub (.cons .here .nil)⟩
def y2r(z4o:List za×Int)(zA:zB)(z4p:List (List zd))(zbD:(List zg)→Option (S37×Int)):Nat→Int→Int→(List zg)→(List (zO×z2))→(List (za×Int))→Option (S37×Int)
 | 0,_,_,_,_,_=>none
 | zw8+1,z4I,z9J,z3Y,z9K,z9L=>if decide (z4I<((z4o.1.length:Nat):Int)) then chk ((0:Int)≤z4I∧z4I<((z4o.1.length:Nat):Int)) ((y4X zA z4p z9K z9L z9J (⟨((nth z4o.1 z4I).fNode),((nth z4o.1 z4I).fQ)⟩:za)).bind fun z5o=>chk ((((z3Y++([z5o.1]:List zg)).length:Nat):Int)*32≤140737488355328∧(((z3Y++([z5o.1]:List zg)).length:Nat):Int)≤4611686018427387904) (if decide (z5o.2.1≠0) then some ((⟨([]:List zg),([]:List zl)⟩:S37),z5o.2.1) else y2r z4o zA z4p zbD zw8 (i64 (z4I+1)) z5o.2.1 (z3Y++([z5o.1]:List zg)) z5o.2.2.1 z5o.2.2.2)) else zbD z3Y
theorem y9M{n:Nat}{z4o:List za×Int}{zA:zB}{z4p:List (List zd)}{zbD:(List zg)→Option (S37×Int)}{z4I:Int}{z9J:Int}{z3Y:List zg}{z9K:List (zO×z2)}{z9L:List (za×Int)}{r:S37×Int}(h:y2r z4o zA z4p zbD n z4I z9J z3Y z9K z9L=some r):∃ m,n=m+1:=by
 cases n with
 | zero=>cases h
 | succ m=>exact⟨m,rfl⟩
def y2K(zA:zB)(zop:Int)(z4p:List (List zd)):Option (S37×Int):=
 (y4I zA zop z4p).bind fun zE1=>if !zE1 then some ((⟨([]:List zg),([]:List zl)⟩:S37),310) else(y1T zA.fVLs (fun(y0:zj)=>y2B y0)).bind fun zE2=>if zE2 then some ((⟨([]:List zg),([]:List zl)⟩:S37),350) else(y4Q z4p).bind fun z4o=>if decide (z4o.2≠0) then some ((⟨([]:List zg),([]:List zl)⟩:S37),z4o.2) else jp1 (fun(z9M:List zg)=>(y1f z9M (fun(y0:zg) (y1:zg)=>yJ y0 y1)).bind fun zlB=>(y6Q zA z4p zlB).bind fun zw9=>some ((⟨zlB,zw9⟩:S37),0)) fun zbD=>y2r z4o zA z4p zbD yy 0 0 ([]:List zg) ([]:List (zO×z2)) ([]:List (za×Int))
theorem y7Y(Z:Zp)(zdy:Option Addr)(zdz:Nat)(zdA:Option Addr)(zdB:Nat)(zdC:Option Addr)(zdD:Nat)(zdE:Option Addr)(zdF:Nat)(zdG:Option Addr)(zdH:Nat)(zdI:Option Addr)(zdJ:Nat)(zdK:Option Addr)(zdL:Nat)(zdM:Option Addr)(zdN:Nat)(zfD:Option Addr)(zfE:Nat)(zA:zB)(zop:Int)(z4p:List (List zd))(r:S37×Int)(h:y2K zA zop z4p=some r)(w₀:World)(hz:PZ [] w₀ Z)(zwa:ZS Z 4 (y48 Z) zdy zdz zA.fM)(zwb:ZS Z 4 (y4M Z) zdA zdB zA.fC0)(zwc:ZS Z 4 (fun r x=>r=e66 x) zdC zdD zA.fS)(zwd:ZS Z 4 (fun r x=>r=e64 x) zdE zdF zA.fK)(zoq:ZS Z 7 (p46 Z) zdG zdH zA.fVLs)(zwe:ZS Z 5 (fun r x=>r=y4Z x) zdI zdJ zA.fH)(zwf:ZS Z 3 (y4N Z) zdK zdL zA.fU)(zwg:ZS Z 4 (fun r x=>r=y50 x) zdM zdN zA.fV0)(zor:ZS Z 1 (p48 Z) zfD zfE z4p):
  Calls Tryz.prog 10 #[(.agg #[(.slice zdy zA.fM.length zdz),(.slice zdA zA.fC0.length zdB),(.slice zdC zA.fS.length zdD),(.slice zdE zA.fK.length zdF),(.slice zdG zA.fVLs.length zdH),(.slice zdI zA.fH.length zdJ),(.slice zdK zA.fU.length zdL),(.slice zdM zA.fV0.length zdN)]),(.int .i64 zop),(.slice zfD z4p.length zfE)] w₀ fun e w'=>∃ zE3:Option Addr,∃ zE4:Nat,∃ zE5:Option Addr,∃ zE6:Nat,e = .returned (.tuple #[(.agg #[(.slice zE3 r.1.fP.length zE4),(.slice zE5 r.1.fEnds.length zE6)]),(.int .i64 r.2)])∧True∧Hp [] w₀ w' [row (.slice zE3 r.1.fP.length zE4) 58 4 (r.1.fP.flatMap e58),row (.slice zE5 r.1.fEnds.length zE6) 79 3 (r.1.fEnds.flatMap e79)]:=by
 unfold y2K at h
 refine Calls.on3 Tryz.func10 Tryz.ntmps10 ?_
 refine WC.b (WC.a (WL.nA 3 (yI (cs:=[(.slice zdy zA.fM.length zdz),(.slice zdA zA.fC0.length zdB),(.slice zdC zA.fS.length zdD),(.slice zdE zA.fK.length zdF),(.slice zdG zA.fVLs.length zdH),(.slice zdI zA.fH.length zdJ),(.slice zdK zA.fU.length zdL),(.slice zdM zA.fV0.length zdN)]) rfl rfl) ?_))
 intro zos _
 refine WL.nA 6 (yv (cs:=[(.slice none 0 0),(.slice none 0 0)]) y8g rfl) ?_
 intro zot _
 refine WL.pu rfl (WL.nil (WX.a (WC.b (WC.b ?_))))
 obtain⟨zE1,zRy,h⟩:=z8 h
 refine WC.a (WL.qA 14 (yh y2m rfl (yi .h1) rfl) (WL.pu rfl (WL.pu rfl (WL.cA 17 (zb Tryz.call12 (.r3 rfl rfl rfl)) .nil (cc hz .nil fun w pz ho=>y9T _ _ _ _ _ _ _ _ _ _ _ _ _ _ _ _ _ _ _ _ _ _ _ zRy w pz zwa zwb zwc zwd zoq zwe zwf zwg zor) (WL.pu rfl (WL.nil (WX.a (WC.cond rfl (fun zwh=>?_) (fun zwh=>?_)))))))))
 ·replace h:=yp h zwh
  refine WC.b (WC.a (WL.qA 19 (yL (v:=(.agg #[(.slice none 0 0),(.slice none 0 0)])) (Eos.parts (l:=[]) .nil []) (fun _=>by kernel_rfl)) (WL.ym rfl rfl (yl y71 rfl rfl rfl .here rfl rfl rfl) (WL.pu rfl (WL.nil (WX.a (WC.ret (WX.ye (WX.nilRow 58 4 (WX.nilRow 79 3 ?_))))))))))
  obtain rfl:=oJ h
  refine WX.yf Tryz.results10 (.agg rfl y6l rfl (yi .h2) (.tmp rfl .nil)) (fun w hw=>?_)
  exact⟨none,0,none,0,y24 rfl rfl,trivial,hw.sub (.s2 .h1 .here)⟩
 ·replace h:=yq h zwh
  refine WC.skip (WX.a (WC.b (WC.b ?_)))
  obtain⟨zE2,zRz,h⟩:=z8 h
  refine WC.a (WL.qA 20 (ya y3E rfl rfl) (WL.qA 21 (yc y4j rfl (yk .h1 rfl)) (WL.cA 22 (zb Tryz.call18 (.r2 rfl rfl)) .nil (cc hz .nil fun w pz ho=>y72 _ _ _ (zfU:=19) (zmt:=[]) _ (zfT:=(fun(y0:zj)=>y2B y0)) _ zRz w pz zoq Tryz.call19 (fun w' hz' y0 ga0 gc0 r gh0 hr=>ycu _ _ _ _ _ hr w' hz' gh0)) (WL.nil (WX.a (WC.cond rfl (fun zwi=>?_) (fun zwi=>?_)))))))
  ·replace h:=yp h zwi
   refine WC.b (WC.a (WL.qA 23 (yL (v:=(.agg #[(.slice none 0 0),(.slice none 0 0)])) (Eos.parts (l:=[]) .nil []) (fun _=>by kernel_rfl)) (WL.ym rfl rfl (yl y71 rfl rfl rfl .here rfl rfl rfl) (WL.pu rfl (WL.nil (WX.a (WC.ret (WX.ye (WX.nilRow 58 4 (WX.nilRow 79 3 ?_))))))))))
   obtain rfl:=oJ h
   refine WX.yf Tryz.results10 (.agg rfl y6l rfl (yi .h2) (.tmp rfl .nil)) (fun w hw=>?_)
   exact⟨none,0,none,0,y24 rfl rfl,trivial,hw.sub (.s2 .h1 .here)⟩
  ·replace h:=yq h zwi
   refine WC.skip (WX.a (WC.b ?_))
   obtain⟨z4o,zRA,h⟩:=z8 h
   refine WC.a (WL.pu rfl (WL.y4l (dd:=26) rfl rfl rfl (zb Tryz.call21 (.cons rfl .nil)) .nil (cc hz .nil fun w pz ho=>ybi _ _ _ _ _ zRA w pz zor) ?_))
   rintro zE7 zE8 _
   refine WL.pu rfl (WL.pu rfl (WL.pu rfl (WL.pu rfl (WL.pu rfl (WL.nil (WX.a (WC.b (WC.b (WC.a (WL.pu rfl (WL.pu rfl (WL.nil (WX.a (WC.cond rfl (fun zwj=>?_) (fun zwj=>?_)))))))))))))))
   ·replace h:=yp h zwj
    refine WC.b (WC.a (WL.qA 31 (yL (v:=(.agg #[(.slice none 0 0),(.slice none 0 0)])) (Eos.parts (l:=[]) .nil []) (fun _=>by kernel_rfl)) (WL.pu rfl (WL.ym rfl rfl (yl y71 rfl rfl rfl .h1 rfl rfl rfl) (WL.pu rfl (WL.nil (WX.a (WC.ret (WX.ye (WX.nilRow 58 4 (WX.nilRow 79 3 ?_)))))))))))
    obtain rfl:=oJ h
    refine WX.yf Tryz.results10 (.agg rfl y6l rfl (yi .h2) (.tmp rfl .nil)) (fun w hw=>?_)
    exact⟨none,0,none,0,y24 rfl rfl,trivial,hw.sub (.s2 .h1 .here)⟩
   ·replace h:=yq h zwj
    refine WC.skip (WX.a (WC.b (WC.a (WL.qA 33 (yh y2m rfl (yi .h2) rfl) (WL.pu rfl (WL.nA 35 (y4B (fun x=>Value.agg (y2o x).toArray) (fun x=>Value.agg (yw x).toArray)) ?_))))))
    intro zou _
    refine WL.nA 36 (y4B (fun x=>Value.agg (e97 x).toArray) (Value.int .i64)) ?_
    intro zov _
    refine WL.qA 37 (yL (v:=(.agg #[(.slice zdy zA.fM.length zdz),(.slice zdA zA.fC0.length zdB),(.slice zdC zA.fS.length zdD),(.slice zdE zA.fK.length zdF),(.slice zdG zA.fVLs.length zdH),(.slice zdI zA.fH.length zdJ),(.slice zdK zA.fU.length zdL),(.slice zdM zA.fV0.length zdN),(.slice zfD z4p.length zfE),(.map (some zou)),(.map (some zov)),(.int .i64 0)])) (Eos.parts (l:=[.tmp 33,.tmp 34,.tmp 35,.tmp 36,.const (.int .i64 0)]) (.r5 rfl rfl rfl rfl rfl) [0,1,2,3,4]) (fun _=>by kernel_rfl)) (WL.nA 38 (yI (cs:=[(.slice zdy zA.fM.length zdz),(.slice zdA zA.fC0.length zdB),(.slice zdC zA.fS.length zdD),(.slice zdE zA.fK.length zdF),(.slice zdG zA.fVLs.length zdH),(.slice zdI zA.fH.length zdJ),(.slice zdK zA.fU.length zdL),(.slice zdM zA.fV0.length zdN),(.slice zfD z4p.length zfE),(.map (some zou)),(.map (some zov)),(.int .i64 0)]) rfl rfl) ?_)
    intro zwk _
    refine WL.pu rfl (WL.nil (WX.a (WC.b (WC.a (WL.nA 11 (yv (cs:=[(.slice none 0 0),(.slice none 0 0)]) y8g rfl) ?_)))))
    intro zlC _
    refine WL.nil (WX.a ?_)
    obtain⟨zbD,zRB,h⟩:=y15 h
    refine WC.y2R (fun(z9M:List zg) (zdO:Option Addr) (zdP:Nat)=>(zbD z9M=some r)) (fun z9M zdO zdP=>[(2,(.slice zfD z4p.length zfE)),(3,(.pointer (some ⟨zos,0,none⟩))),(6,(.pointer (some ⟨zot,0,none⟩))),(11,(.pointer (some ⟨zlC,0,none⟩)))]) (fun z9M zdO zdP=>[stb zos 31 [(.slice zdy zA.fM.length zdz),(.slice zdA zA.fC0.length zdB),(.slice zdC zA.fS.length zdD),(.slice zdE zA.fK.length zdF),(.slice zdG zA.fVLs.length zdH),(.slice zdI zA.fH.length zdJ),(.slice zdK zA.fU.length zdL),(.slice zdM zA.fV0.length zdN)],stb zot 38 [(.slice none 0 0),(.slice none 0 0)],stb zlC 38 [(.slice zdO z9M.length zdP),(.slice none 0 0)],row (.slice zdO z9M.length zdP) 58 4 (z9M.flatMap e58)]) ?_ ?_
    ·skip
     refine WC.b (WC.a (WL.pu rfl (WL.qA 40 (yH Tryz.underlying88 rfl) (WL.pu rfl (WL.nil (WX.a (WC.block (WC.nilRow 58 4 (WC.yaL (fun(ziA:Nat) (z4I:Int) (z9J:Int) (z3Y:List zg) (z9K:List (zO×z2)) (z9L:List (za×Int)) (zdQ:Option Addr) (zdR:Nat)=>(y2r z4o zA z4p zbD ziA z4I z9J z3Y z9K z9L=some r)) (fun ziA z4I z9J z3Y z9K z9L zdQ zdR=>[(2,(.slice zfD z4p.length zfE)),(3,(.pointer (some ⟨zos,0,none⟩))),(6,(.pointer (some ⟨zot,0,none⟩))),(10,(.pointer (some ⟨zwk,0,none⟩))),(11,(.pointer (some ⟨zlC,0,none⟩))),(39,(.slice zE7 z4o.1.length zE8)),(40,(.int .i64 ((z4o.1.length:Nat):Int))),(41,(.int .i64 z4I))]) (fun ziA z4I z9J z3Y z9K z9L zdQ zdR=>[row (.slice zE7 z4o.1.length zE8) 97 2 (z4o.1.flatMap e97),stb zos 31 [(.slice zdy zA.fM.length zdz),(.slice zdA zA.fC0.length zdB),(.slice zdC zA.fS.length zdD),(.slice zdE zA.fK.length zdF),(.slice zdG zA.fVLs.length zdH),(.slice zdI zA.fH.length zdJ),(.slice zdK zA.fU.length zdL),(.slice zdM zA.fV0.length zdN)],stb zot 38 [(.slice none 0 0),(.slice none 0 0)],stb zwk 95 [(.slice zdy zA.fM.length zdz),(.slice zdA zA.fC0.length zdB),(.slice zdC zA.fS.length zdD),(.slice zdE zA.fK.length zdF),(.slice zdG zA.fVLs.length zdH),(.slice zdI zA.fH.length zdJ),(.slice zdK zA.fU.length zdL),(.slice zdM zA.fV0.length zdN),(.slice zfD z4p.length zfE),(.map (some zou)),(.map (some zov)),(.int .i64 z9J)],stb zlC 38 [(.slice zdQ z3Y.length zdR),(.slice none 0 0)],row (.slice zdQ z3Y.length zdR) 58 4 (z3Y.flatMap e58),yA zou (fun x=>Value.agg (y2o x).toArray) (fun x=>Value.agg (yw x).toArray) z9K,yA zov (fun x=>Value.agg (e97 x).toArray) (Value.int .i64) z9L]) (fun ziA z4I z9J z3Y z9K z9L zdQ zdR=>ziA) ⟨yy,0,0,([]:List zg),([]:List (zO×z2)),([]:List (za×Int)),none,0⟩ h (.r8 rfl rfl rfl rfl rfl rfl rfl rfl) (.s8 .h5 .h6 .h5 .h2 .h1 .here .h1 .here) ?_)))))))))
     rintro ziA z4I z9J z3Y z9K z9L zdQ zdR h
     obtain⟨zw8,rfl⟩:=y9M h
     rw[y2r] at h
     refine WC.b (WC.a (WL.pu rfl (WL.nil (WX.a (WC.b (WC.cond rfl (fun zwl=>?_) (fun zwl=>?_)))))))
     ·replace h:=yp h zwl
      refine WC.skip (WX.a (WC.b (WC.block (WC.b ?_))))
      obtain⟨zlD,h⟩:=yo h
      refine WC.a (WL.know (fun w hw=>Hp.y2M .here hw (by intro hz';have:=zlD;rw[hz'] at this;omega)) ?_)
      rintro⟨z102,rfl⟩
      refine WL.qA 43 (yX y5u rfl rfl zlD.1 zlD.2 y32) (WL.qA 44 (yT (cs:=(e97 (nth z4o.1 z4I))) y3R rfl rfl (y3P .here (y3D (enc:=e97) (l:=z4o.1) (i:=z4I) (sz:=2) (fun _=>rfl) zlD.1 zlD.2))) (WL.nA 13 (yv (cs:=[(.int .i64 0),(.int .i64 0)]) y9m rfl) ?_))
      intro z103 _
      refine WL.ym rfl rfl (yl ycb rfl rfl rfl .here rfl rfl rfl) (WL.nil (WX.a (WC.b ?_)))
      obtain⟨z5o,zRC,h⟩:=z8 h
      obtain⟨zRD,h⟩:=yo h
      refine WC.yP (fun i=>[4,6,8].contains i) [y7q zlC 38 [(0,(.slice zdQ z3Y.length zdR))]] rfl (WD.pA 0 45 rfl (fun _=>ya y5U rfl rfl) (WD.sA 1 46 rfl (Sin.wk (.cons .h5 .nil) (.stb (.cons rfl .nil) .nil)) (yc y6m rfl (y5S .here (.head _))) (WD.pA 2 47 rfl (fun _=>q_m rfl) (WD.qA 3 48 rfl (yh y3R rfl (yi .here) rfl) (WD.call0 (i:=4) (dd:=49) rfl (by kernel_rfl) rfl rfl rfl (.inl ⟨rfl,(Sin.wk (.cons .h7 .nil) (.stb (.cons rfl .nil) .nil))⟩) (zb Tryz.call22 (.r2 rfl rfl)) (.s3 .h4 .h6 .h6) (cc hz (.s3 .h4 .h6 .h6) fun w pz ho=>Calls.mono (ycx _ _ _ _ _ _ _ _ _ _ _ _ _ _ _ _ _ _ _ _ _ _ _ _ _ _ _ _ _ zRC w pz zwa zwb zwc zwd zoq zwe zwf zwg zor ho) (fun _ _ h'=>⟨h'.1,trivial,h'.2⟩)) ?_)))))
      intro _
      refine WD.new (i:=5) (dd:=50) rfl (by kernel_rfl) rfl rfl rfl (yR (cs:=([z5o.1]:List zg).flatMap e58) y5v (Eos.parts (l:=[.tmp 49]) (.cons rfl .nil) [0]) (fun _=>by kernel_rfl) rfl (by unfold maxLen;omega)) (fun h'=>absurd h' (by decide)) ?_
      intro z104 _
      refine WD.old (i:=6) (dd:=51) rfl (by kernel_rfl) rfl rfl rfl rfl (fun _=>(Sin.wk (.cons (.there (.there .h7)) .nil) (.stb (.cons rfl .nil) .nil))) (y54 (enc:=e58) (l1:=z3Y) (l2:=([z5o.1]:List zg)) y5v rfl rfl (.there (.there .h7)) (fun _=>rfl) rfl rfl (y4r .here) (y5o yfc _) zRD) ?_
      rintro⟨zE9,zEa⟩ _
      refine WD.pA 7 52 rfl (fun _=>ya y5U rfl rfl) (WD.y37 (i:=8) rfl (by kernel_rfl) rfl rfl rfl (by kernel_rfl) (y5b (ds:=[(.slice zE9 ((z3Y++([z5o.1]:List zg)).length) zEa),(.slice none 0 0)]) sizT_35 rfl rfl rfl rfl rfl (.there (.there .h7)) rfl rfl) (WD.done (by kernel_rfl) (WX.a (WC.b (WC.a (WL.pu rfl (WL.qA 54 (y14 rfl) (WL.qA 55 (ya y9i rfl rfl) (WL.qA 56 (yc y35 rfl (yk .h3 rfl)) (WL.pu rfl (WL.nil (WX.a (WC.cond rfl (fun zwm=>?_) (fun zwm=>?_))))))))))))))
      ·replace h:=yp h zwm
       refine WC.b (WC.yP (fun i=>[5].contains i) [y7q zwk 95 [(11,(.int .i64 z5o.2.1))]] rfl (WD.pA 0 58 rfl (fun _=>yL (v:=(.agg #[(.slice none 0 0),(.slice none 0 0)])) (Eos.parts (l:=[]) .nil []) (fun _=>by kernel_rfl)) (WD.pA 1 59 rfl (fun _=>q_m rfl) (WD.pA 2 60 rfl (fun _=>y14 rfl) (WD.pA 3 61 rfl (fun _=>ya y9i rfl rfl) (WD.sA 4 62 rfl (Sin.wk (.cons .h3 .nil) (.stb (.cons rfl .nil) .nil)) (yc y35 rfl (y5S .here (.head _))) (WD.forced0 (i:=5) rfl (by kernel_rfl) rfl rfl rfl (Sin.wk (.cons .h4 .nil) (.stb (.cons rfl .nil) .nil)) (yl y71 rfl rfl rfl (.there (.there .h7)) rfl rfl rfl) (WD.pA 6 7 rfl (fun _=>q_z rfl) (WD.done (by kernel_rfl) (WX.a (WC.ret (WX.ys (WX.ye (WX.ye (WX.ys (WX.ye (WX.nilRow 58 4 (WX.nilRow 79 3 ?_))))))))))))))))))
       obtain rfl:=oJ h
       refine WX.yf Tryz.results10 (.agg rfl y6l rfl (yi .h2) (.tmp rfl .nil)) (fun w hw=>?_)
       exact⟨none,0,none,0,y24 rfl rfl,trivial,hw.sub (.s2 .h1 .here)⟩
      ·replace h:=yq h zwm
       refine WC.skip (WX.yn (WX.a (WC.a (WL.pu rfl (WL.pu rfl (WL.nil ?_))))))
       exact WX.round ⟨zw8,(i64 (z4I+1)),z5o.2.1,(z3Y++([z5o.1]:List zg)),z5o.2.2.1,z5o.2.2.2,zE9,zEa⟩ h (Nat.lt_succ_self _) (.r8 rfl rfl rfl rfl rfl rfl rfl rfl) (.s8 .h7 .h7 .h7 .h3 .here .here .h1 .h1)
     ·replace h:=yq h zwl
      refine WC.exit (WX.yg (WX.yg (WX.yz ?_)))
      exact WX.mid ⟨z3Y,zdQ,zdR⟩ h (.r4 rfl rfl rfl rfl) (.s4 .h1 .h1 .h2 .h2)
    ·rintro z9M zdO zdP h
     replace h:=(zRB z9M).symm.trans h
     refine WC.b ?_
     obtain⟨zlB,zRE,h⟩:=z8 h
     refine WC.a (WL.qA 64 (ya y5U rfl rfl) (WL.qA 65 (yc y6m rfl (yk .h2 rfl)) (WL.y53 (dd:=66) rfl rfl rfl (zb Tryz.call23 (.r2 rfl rfl)) (.cons .h3 .nil) (cc hz (.cons .h3 .nil) fun w pz ho=>y5F _ _ _ (zig:=24) (zoi:=[]) _ (zif:=(fun(y0:zg) (y1:zg)=>yJ y0 y1)) _ zRE w pz Tryz.call24 (fun w' hz' y0 y1  r  hr=>ycy _ _ _ _ hr w' hz' ) ho) ?_)))
     rintro  zRF
     refine WL.restb (cs':=[(.slice zdO zlB.length zdP),(.slice none 0 0)]) .h3 (by rw[zRF]) (WL.nil (WX.a (WC.b ?_)))
     obtain⟨zw9,zRG,h⟩:=z8 h
     refine WC.a (WL.qA 67 (yh y2m rfl (yi .h2) rfl) (WL.pu rfl (WL.qA 69 (ya y5U rfl rfl) (WL.qA 70 (yc y6m rfl (yk .here rfl)) (WL.y4l (dd:=71) rfl rfl rfl (zb Tryz.call26 (.r3 rfl rfl rfl)) .nil (ccl hz .nil (.cons .h1 .nil) fun w pz ho la=>yfl _ _ _ _ _ _ _ _ _ _ _ _ _ _ _ _ _ _ _ _ _ _ _ _ _ zRG w pz ((zwa.mono (Zle.left _ _)).weak (fun _ _ h=>y1P (Zle.left _ _) h)) ((zwb.mono (Zle.left _ _)).weak (fun _ _ h=>y1Y (Zle.left _ _) h)) (zwc.mono (Zle.left _ _)) (zwd.mono (Zle.left _ _)) ((zoq.mono (Zle.left _ _)).weak (fun _ _ h=>y1m (Zle.left _ _) h)) (zwe.mono (Zle.left _ _)) ((zwf.mono (Zle.left _ _)).weak (fun _ _ h=>y1Z (Zle.left _ _) h)) (zwg.mono (Zle.left _ _)) ((zor.mono (Zle.left _ _)).weak (fun _ _ h=>y1Q (Zle.left _ _) h)) (ZA.row (la _ (.head _) _) (RR.flat (enc:=e58) (fun _=>rfl) _) ⟨w,pz.1⟩)) ?_)))))
     rintro zEb zEc _
     refine WL.qA 72 (ya y7H rfl rfl) (WL.ym rfl rfl (y5b (ds:=[(.slice zdO zlB.length zdP),(.slice zEb zw9.length zEc)]) sizT_36 rfl rfl rfl rfl rfl .h1 rfl rfl) (WL.nil (WX.a (WC.b (WC.a (WL.qA 73 (yh y6l rfl (yi .here) rfl) (WL.ym rfl rfl (yl y71 rfl rfl rfl .h4 rfl rfl rfl) (WL.pu rfl (WL.nil (WX.a (WC.ret ?_)))))))))))
     obtain rfl:=oJ h
     refine WX.yf Tryz.results10 (.agg rfl y6l rfl (yi .here) (.tmp rfl .nil)) (fun w hw=>?_)
     exact⟨zdO,zdP,zEb,zEc,y24 rfl rfl,trivial,hw.sub (.s2 .h3 .h2)⟩
def y5f(z2C:List za×Int)(zbE:(List zg)→Option (List zg×Int)):Nat→(List zg)→Int→Option (List zg×Int)
 | 0,_,_=>none
 | zwn+1,z4J,z2U=>if decide (z2U<((z2C.1.length:Nat):Int)) then chk ((0:Int)≤z2U∧z2U<((z2C.1.length:Nat):Int)) (chk ((((z4J++([({(nth z2C.1 z2U) with fDelay:=0,fT:=0}:zg)]:List zg)).length:Nat):Int)*32≤140737488355328∧(((z4J++([({(nth z2C.1 z2U) with fDelay:=0,fT:=0}:zg)]:List zg)).length:Nat):Int)≤4611686018427387904) (y5f z2C zbE zwn (z4J++([({(nth z2C.1 z2U) with fDelay:=0,fT:=0}:zg)]:List zg)) (i64 (z2U+1)))) else zbE z4J
theorem yaw{n:Nat}{z2C:List za×Int}{zbE:(List zg)→Option (List zg×Int)}{z4J:List zg}{z2U:Int}{r:List zg×Int}(h:y5f z2C zbE n z4J z2U=some r):∃ m,n=m+1:=by
 cases n with
 | zero=>cases h
 | succ m=>exact⟨m,rfl⟩
def y8R(z2s:zB)(zow:Int)(ziB:List (List zd)):Option (List zg×Int):=
 (y4I z2s zow ziB).bind fun zEd=>if !zEd then some (([]:List zg),310) else(y4Q ziB).bind fun z2C=>jp1 (fun(z9N:List zg)=>some (z9N,z2C.2)) fun zbE=>y5f z2C zbE yy ([]:List zg) 0
theorem yeS(Z:Zp)(zwo:Option Addr)(zwp:Nat)(zwq:Option Addr)(zwr:Nat)(zws:Option Addr)(zwt:Nat)(zwu:Option Addr)(zwv:Nat)(zww:Option Addr)(zwx:Nat)(zwy:Option Addr)(zwz:Nat)(zwA:Option Addr)(zwB:Nat)(zwC:Option Addr)(zwD:Nat)(zEe:Option Addr)(zEf:Nat)(z2s:zB)(zow:Int)(ziB:List (List zd))(r:List zg×Int)(h:y8R z2s zow ziB=some r)(w₀:World)(hz:PZ [] w₀ Z)(zRH:ZS Z 4 (y48 Z) zwo zwp z2s.fM)(zRI:ZS Z 4 (y4M Z) zwq zwr z2s.fC0)(zRJ:ZS Z 4 (fun r x=>r=e66 x) zws zwt z2s.fS)(zRK:ZS Z 4 (fun r x=>r=e64 x) zwu zwv z2s.fK)(zRL:ZS Z 7 (p46 Z) zww zwx z2s.fVLs)(zRM:ZS Z 5 (fun r x=>r=y4Z x) zwy zwz z2s.fH)(zRN:ZS Z 3 (y4N Z) zwA zwB z2s.fU)(zRO:ZS Z 4 (fun r x=>r=y50 x) zwC zwD z2s.fV0)(zEg:ZS Z 1 (p48 Z) zEe zEf ziB):
  Calls Tryz.prog 13 #[(.agg #[(.slice zwo z2s.fM.length zwp),(.slice zwq z2s.fC0.length zwr),(.slice zws z2s.fS.length zwt),(.slice zwu z2s.fK.length zwv),(.slice zww z2s.fVLs.length zwx),(.slice zwy z2s.fH.length zwz),(.slice zwA z2s.fU.length zwB),(.slice zwC z2s.fV0.length zwD)]),(.int .i64 zow),(.slice zEe ziB.length zEf)] w₀ fun e w'=>∃ zEh:Option Addr,∃ zEi:Nat,e = .returned (.tuple #[(.slice zEh r.1.length zEi),(.int .i64 r.2)])∧True∧Hp [] w₀ w' [row (.slice zEh r.1.length zEi) 58 4 (r.1.flatMap e58)]:=by
 unfold y8R at h
 refine Calls.on3 Tryz.func13 Tryz.ntmps13 ?_
 refine WC.b (WC.a (WL.nA 3 (yI (cs:=[(.slice zwo z2s.fM.length zwp),(.slice zwq z2s.fC0.length zwr),(.slice zws z2s.fS.length zwt),(.slice zwu z2s.fK.length zwv),(.slice zww z2s.fVLs.length zwx),(.slice zwy z2s.fH.length zwz),(.slice zwA z2s.fU.length zwB),(.slice zwC z2s.fV0.length zwD)]) rfl rfl) ?_))
 intro z105 _
 refine WL.pu rfl (WL.pu rfl (WL.nil (WX.a (WC.b (WC.b ?_)))))
 obtain⟨zEd,zRP,h⟩:=z8 h
 refine WC.a (WL.qA 13 (yh y2m rfl (yi .here) rfl) (WL.pu rfl (WL.pu rfl (WL.cA 16 (zb Tryz.call12 (.r3 rfl rfl rfl)) .nil (cc hz .nil fun w pz ho=>y9T _ _ _ _ _ _ _ _ _ _ _ _ _ _ _ _ _ _ _ _ _ _ _ zRP w pz zRH zRI zRJ zRK zRL zRM zRN zRO zEg) (WL.pu rfl (WL.nil (WX.a (WC.cond rfl (fun zwE=>?_) (fun zwE=>?_)))))))))
 ·replace h:=yp h zwE
  refine WC.b (WC.a (WL.pu rfl (WL.pu rfl (WL.nil (WX.a (WC.ret (WX.ye (WX.nilRow 58 4 ?_))))))))
  obtain rfl:=oJ h
  refine WX.yf Tryz.results13 (.tmp rfl (.tmp rfl .nil)) (fun w hw=>?_)
  exact⟨none,0,y24 rfl rfl,trivial,hw.sub (.cons .here .nil)⟩
 ·replace h:=yq h zwE
  refine WC.skip (WX.a (WC.b ?_))
  obtain⟨z2C,zRQ,h⟩:=z8 h
  refine WC.a (WL.pu rfl (WL.y4l (dd:=20) rfl rfl rfl (zb Tryz.call21 (.cons rfl .nil)) .nil (cc hz .nil fun w pz ho=>ybi _ _ _ _ _ zRQ w pz zEg) ?_))
  rintro zEj zEk _
  refine WL.pu rfl (WL.pu rfl (WL.pu rfl (WL.pu rfl (WL.pu rfl (WL.nil (WX.a (WC.b (WC.a (WL.pu rfl (WL.nil (WX.a ?_)))))))))))
  obtain⟨zbE,zRR,h⟩:=y15 h
  refine WC.y2R (fun(z9N:List zg) (ziC:Option Addr) (ziD:Nat)=>(zbE z9N=some r)) (fun z9N ziC ziD=>[(9,(.int .i64 z2C.2)),(10,(.slice ziC z9N.length ziD))]) (fun z9N ziC ziD=>[row (.slice ziC z9N.length ziD) 58 4 (z9N.flatMap e58)]) ?_ ?_
  ·skip
   refine WC.b (WC.a (WL.pu rfl (WL.qA 24 (yH Tryz.underlying88 rfl) (WL.pu rfl (WL.nil (WX.a (WC.block (WC.nilRow 58 4 (WC.y6I (fun(ziE:Nat) (z4J:List zg) (z2U:Int) (zfF:Option Addr) (zfG:Nat)=>(y5f z2C zbE ziE z4J z2U=some r)) (fun ziE z4J z2U zfF zfG=>[(9,(.int .i64 z2C.2)),(10,(.slice zfF z4J.length zfG)),(23,(.slice zEj z2C.1.length zEk)),(24,(.int .i64 ((z2C.1.length:Nat):Int))),(25,(.int .i64 z2U))]) (fun ziE z4J z2U zfF zfG=>[row (.slice zfF z4J.length zfG) 58 4 (z4J.flatMap e58),row (.slice zEj z2C.1.length zEk) 97 2 (z2C.1.flatMap e97)]) (fun ziE z4J z2U zfF zfG=>ziE) ⟨yy,([]:List zg),0,none,0⟩ h (.r5 rfl rfl rfl rfl rfl) (.s2 .here .here) ?_)))))))))
   rintro ziE z4J z2U zfF zfG h
   obtain⟨zwn,rfl⟩:=yaw h
   rw[y5f] at h
   refine WC.b (WC.a (WL.pu rfl (WL.nil (WX.a (WC.b (WC.cond rfl (fun zwF=>?_) (fun zwF=>?_)))))))
   ·replace h:=yp h zwF
    refine WC.skip (WX.a (WC.b (WC.block (WC.b ?_))))
    obtain⟨zlE,h⟩:=yo h
    refine WC.a (WL.know (fun w hw=>Hp.y2M .h1 hw (by intro hz';have:=zlE;rw[hz'] at this;omega)) ?_)
    rintro⟨z106,rfl⟩
    refine WL.qA 27 (yX y5u rfl rfl zlE.1 zlE.2 y32) (WL.qA 28 (yT (cs:=(e97 (nth z2C.1 z2U))) y3R rfl rfl (y3P .h1 (y3D (enc:=e97) (l:=z2C.1) (i:=z2U) (sz:=2) (fun _=>rfl) zlE.1 zlE.2))) (WL.nA 12 (yv (cs:=[(.int .i64 0),(.int .i64 0)]) y9m rfl) ?_))
    intro z107 _
    refine WL.ym rfl rfl (yl ycb rfl rfl rfl .here rfl rfl rfl) (WL.nil (WX.a ?_))
    obtain⟨zRS,h⟩:=yo h
    refine WC.a (WL.pu rfl (WL.qA 30 (ya y9h rfl rfl) (WL.qA 31 (yc yt rfl (yk .here rfl)) (WL.qA 32 (ya yal rfl rfl) (WL.qA 33 (yc yt rfl (yk .here rfl)) (WL.qA 34 (yL (v:=(.agg #[(.int .i64 ((nth z2C.1 z2U).fNode)),(.int .i64 ((nth z2C.1 z2U).fQ)),(.int .i64 0),(.int .i64 0)])) (Eos.parts (l:=[.tmp 31,.tmp 33]) (.r2 rfl rfl) [0,1]) (fun _=>by kernel_rfl)) (WL.nA 35 (yR (cs:=([({(nth z2C.1 z2U) with fDelay:=0,fT:=0}:zg)]:List zg).flatMap e58) y5v (Eos.parts (l:=[.tmp 34]) (.cons rfl .nil) [0]) (fun _=>by kernel_rfl) rfl (by unfold maxLen;omega)) ?_)))))))
    intro z108 _
    refine WL.fA 36 (y54 (enc:=e58) (l1:=z4J) (l2:=([({(nth z2C.1 z2U) with fDelay:=0,fT:=0}:zg)]:List zg)) y5v rfl rfl .h2 (fun _=>rfl) rfl rfl (y4r .here) (y5o yfc _) zRS) ?_
    rintro⟨zRT,zRU⟩ _
    refine WL.pu rfl (WL.nil (WX.yn (WX.a (WC.a (WL.pu rfl (WL.pu rfl (WL.nil ?_)))))))
    exact WX.round ⟨zwn,(z4J++([({(nth z2C.1 z2U) with fDelay:=0,fT:=0}:zg)]:List zg)),(i64 (z2U+1)),zRT,zRU⟩ h (Nat.lt_succ_self _) (.r5 rfl rfl rfl rfl rfl) (.s2 .here .h2)
   ·replace h:=yq h zwF
    refine WC.exit (WX.yg (WX.yg (WX.yz ?_)))
    exact WX.mid ⟨z4J,zfF,zfG⟩ h (.r2 rfl rfl) (.cons .here .nil)
  ·rintro z9N ziC ziD h
   replace h:=(zRR z9N).symm.trans h
   refine WC.b (WC.a (WL.pu rfl (WL.pu rfl (WL.pu rfl (WL.pu rfl (WL.nil (WX.a (WC.ret ?_))))))))
   obtain rfl:=oJ h
   refine WX.yf Tryz.results13 (.tmp rfl (.tmp rfl .nil)) (fun w hw=>?_)
   exact⟨ziC,ziD,y24 rfl rfl,trivial,hw.sub (.cons .here .nil)⟩
def y5G(z10:S37)(z1j:S37)(zbF:Option Bool):Nat→Int→Option Bool
 | 0,_=>none
 | zwG+1,z27=>if decide (z27<((z10.fP.length:Nat):Int)) then chk ((0:Int)≤z27∧z27<((z10.fP.length:Nat):Int)) (chk ((0:Int)≤z27∧z27<((z1j.fP.length:Nat):Int)) (if decide ((⟨((nth z10.fP z27).fNode),((nth z10.fP z27).fQ),((nth z10.fP z27).fDelay),((nth z10.fP z27).fT)⟩:zg)≠(⟨((nth z1j.fP z27).fNode),((nth z1j.fP z27).fQ),((nth z1j.fP z27).fDelay),((nth z1j.fP z27).fT)⟩:zg)) then some false else y5G z10 z1j zbF zwG (i64 (z27+1)))) else zbF
theorem yb2{n:Nat}{z10:S37}{z1j:S37}{zbF:Option Bool}{z27:Int}{r:Bool}(h:y5G z10 z1j zbF n z27=some r):∃ m,n=m+1:=by
 cases n with
 | zero=>cases h
 | succ m=>exact⟨m,rfl⟩
def y5H(z10:S37)(z1j:S37)(zbG:Option Bool):Nat→Int→Option Bool
 | 0,_=>none
 | zwH+1,z2k=>if decide (z2k<((z10.fEnds.length:Nat):Int)) then chk ((0:Int)≤z2k∧z2k<((z10.fEnds.length:Nat):Int)) (chk ((0:Int)≤z2k∧z2k<((z1j.fEnds.length:Nat):Int)) (if decide ((⟨((nth z10.fEnds z2k).fVL),((nth z10.fEnds z2k).fNode),((nth z10.fEnds z2k).fDelay)⟩:zl)≠(⟨((nth z1j.fEnds z2k).fVL),((nth z1j.fEnds z2k).fNode),((nth z1j.fEnds z2k).fDelay)⟩:zl)) then some false else y5H z10 z1j zbG zwH (i64 (z2k+1)))) else zbG
theorem yb3{n:Nat}{z10:S37}{z1j:S37}{zbG:Option Bool}{z2k:Int}{r:Bool}(h:y5H z10 z1j zbG n z2k=some r):∃ m,n=m+1:=by
 cases n with
 | zero=>cases h
 | succ m=>exact⟨m,rfl⟩
def y9v(z10:S37)(z1j:S37):Option Bool:=
 if (decide (((z10.fP.length:Nat):Int)≠((z1j.fP.length:Nat):Int)))||(decide (((z10.fEnds.length:Nat):Int)≠((z1j.fEnds.length:Nat):Int))) then some false else jp0 (jp0 (some true) fun zbG=>y5H z10 z1j zbG yy 0) fun zbF=>y5G z10 z1j zbF yy 0
theorem yfm(Z:Zp)(ziF:Option Addr)(ziG:Nat)(ziH:Option Addr)(ziI:Nat)(ziJ:Option Addr)(ziK:Nat)(ziL:Option Addr)(ziM:Nat)(z10:S37)(z1j:S37)(r:Bool)(h:y9v z10 z1j=some r)(w₀:World)(hz:PZ [] w₀ Z)(zRV:ZS Z 4 (fun r x=>r=e58 x) ziF ziG z10.fP)(zRW:ZS Z 3 (fun r x=>r=e79 x) ziH ziI z10.fEnds)(zRX:ZS Z 4 (fun r x=>r=e58 x) ziJ ziK z1j.fP)(zRY:ZS Z 3 (fun r x=>r=e79 x) ziL ziM z1j.fEnds):
  Calls Tryz.prog 17 #[(.agg #[(.slice ziF z10.fP.length ziG),(.slice ziH z10.fEnds.length ziI)]),(.agg #[(.slice ziJ z1j.fP.length ziK),(.slice ziL z1j.fEnds.length ziM)])] w₀ fun e w'=>e = .returned (.bool r)∧Hp [] w₀ w' []:=by
 unfold y9v at h
 refine Calls.yK Tryz.func17 Tryz.ntmps17 ?_
 refine WC.b (WC.a (WL.nA 2 (yI (cs:=[(.slice ziF z10.fP.length ziG),(.slice ziH z10.fEnds.length ziI)]) rfl rfl) ?_))
 intro ziN _
 refine WL.nA 3 (yI (cs:=[(.slice ziJ z1j.fP.length ziK),(.slice ziL z1j.fEnds.length ziM)]) rfl rfl) ?_
 intro ziO _
 refine WL.pu rfl (WL.nil (WX.a (WC.b (WC.b (WC.a (WL.qA 7 (ya y5U rfl rfl) (WL.qA 8 (yc y6m rfl (yk .h1 rfl)) (WL.qA 9 (yH Tryz.underlying35 rfl) (WL.qA 10 (ya y5U rfl rfl) (WL.qA 11 (yc y6m rfl (yk .here rfl)) (WL.qA 12 (yH Tryz.underlying35 rfl) (WL.pu rfl (WL.pu rfl (WL.seg false 7 14 (B:=(decide (((z10.fP.length:Nat):Int)≠((z1j.fP.length:Nat):Int)))||(decide (((z10.fEnds.length:Nat):Int)≠((z1j.fEnds.length:Nat):Int)))) rfl rfl rfl rfl rfl rfl (fun h=>(y6p h).symm) (fun _ zRZ=>?_) ?_))))))))))))))
 ·skip
  refine WL.qA 15 (ya y7H rfl rfl) (WL.qA 16 (yc y8l rfl (yk .h1 rfl)) (WL.qA 17 (yH Tryz.underlying36 rfl) (WL.qA 18 (ya y7H rfl rfl) (WL.qA 19 (yc y8l rfl (yk .here rfl)) (WL.qA 20 (yH Tryz.underlying36 rfl) (WL.pu rfl (WL.pu rfl ?_)))))))
  exact WL.yB (y6q zRZ) rfl rfl .all
 refine WL.nil (WX.a (WC.cond rfl (fun zwI=>?_) (fun zwI=>?_)))
 ·replace h:=yp h zwI
  refine WC.b (WC.a (WL.pu rfl (WL.nil (WX.a (WC.ret (WX.ye ?_))))))
  obtain rfl:=oJ h
  refine WX.yf Tryz.results17 (.tmp rfl .nil) (fun w hw=>?_)
  exact⟨yD rfl,hw.sub .nil⟩
 ·replace h:=yq h zwI
  refine WC.skip (WX.a ?_)
  obtain⟨zbF,zS0,h⟩:=y1N h
  refine WC.y1j ((zbF=some r)) ([(2,(.pointer (some ⟨ziN,0,none⟩))),(3,(.pointer (some ⟨ziO,0,none⟩)))]) ([stb ziN 38 [(.slice ziF z10.fP.length ziG),(.slice ziH z10.fEnds.length ziI)],stb ziO 38 [(.slice ziJ z1j.fP.length ziK),(.slice ziL z1j.fEnds.length ziM)]]) ?_ ?_
  ·skip
   refine WC.b (WC.a (WL.pu rfl (WL.nil (WX.a (WC.block (WC.y2E (fun(ziP:Nat) (z27:Int)=>(y5G z10 z1j zbF ziP z27=some r)) (fun ziP z27=>[(2,(.pointer (some ⟨ziN,0,none⟩))),(3,(.pointer (some ⟨ziO,0,none⟩))),(5,(.int .i64 z27))]) (fun ziP z27=>[stb ziN 38 [(.slice ziF z10.fP.length ziG),(.slice ziH z10.fEnds.length ziI)],stb ziO 38 [(.slice ziJ z1j.fP.length ziK),(.slice ziL z1j.fEnds.length ziM)]]) (fun ziP z27=>ziP) ⟨yy,0⟩ h (.r3 rfl rfl rfl) (.s2 .h1 .here) ?_))))))
   rintro ziP z27 h
   obtain⟨zwG,rfl⟩:=yb2 h
   rw[y5G] at h
   refine WC.b (WC.b (WC.a (WL.pu rfl (WL.qA 24 (ya y5U rfl rfl) (WL.qA 25 (yc y6m rfl (yk .here rfl)) (WL.qA 26 (yH Tryz.underlying35 rfl) (WL.pu rfl (WL.nil (WX.a (WC.cond rfl (fun zwJ=>?_) (fun zwJ=>?_)))))))))))
   ·replace h:=yp h zwJ
    refine WC.skip (WX.a (WC.b (WC.block (WC.b ?_))))
    obtain⟨zS1,h⟩:=yo h
    obtain⟨zS2,h⟩:=yo h
    refine WC.yP (fun i=>[].contains i) [] rfl (WD.pA 0 30 rfl (fun _=>ya y5U rfl rfl) (WD.qA 1 31 rfl (yc y6m rfl (yk .here rfl)) (WD.pA 2 32 rfl (fun _=>q_m rfl) (WD.znth (j:=3) (dd:=33) (by kernel_rfl) rfl z2V z2W rfl rfl (Z:=Z) (Pr:=(fun r x=>r=e58 x)) y5v rfl rfl zRV zS1 ?_))))
    rintro z109 z10a zS3 z10b rfl
    refine WD.qA 4 34 rfl (yh y8k rfl (y2b hz.pv zS3) rfl) (WD.pA 5 35 rfl (fun _=>ya y5U rfl rfl) (WD.qA 6 36 rfl (yc y6m rfl (yk .h1 rfl)) (WD.pA 7 37 rfl (fun _=>q_m rfl) (WD.znth (j:=8) (dd:=38) (by kernel_rfl) rfl z2V z2W rfl rfl (Z:=Z) (Pr:=(fun r x=>r=e58 x)) y5v rfl rfl zRX zS2 ?_))))
    rintro z10c z10d zS4 z10e rfl
    refine WD.qA 9 39 rfl (yh y8k rfl (y2b hz.pv zS4) rfl) (WD.pA 10 40 rfl (fun _=>yaP (enc:=e58) (a:=(⟨((nth z10.fP z27).fNode),((nth z10.fP z27).fQ),((nth z10.fP z27).fDelay),((nth z10.fP z27).fT)⟩:zg)) (b:=(⟨((nth z1j.fP z27).fNode),((nth z1j.fP z27).fQ),((nth z1j.fP z27).fDelay),((nth z1j.fP z27).fT)⟩:zg)) yfg rfl rfl) (WD.done (by kernel_rfl) (WX.a (WC.cond rfl (fun zwK=>?_) (fun zwK=>?_)))))
    ·replace h:=yp h zwK
     refine WC.b (WC.a (WL.pu rfl (WL.nil (WX.a (WC.ret (WX.ys (WX.ye (WX.ye (WX.ys (WX.ye ?_))))))))))
     obtain rfl:=oJ h
     refine WX.yf Tryz.results17 (.tmp rfl .nil) (fun w hw=>?_)
     exact⟨yD rfl,hw.sub .nil⟩
    ·replace h:=yq h zwK
     refine WC.skip (WX.yn (WX.a (WC.a (WL.pu rfl (WL.pu rfl (WL.pu rfl (WL.nil ?_)))))))
     exact WX.round ⟨zwG,(i64 (z27+1))⟩ h (Nat.lt_succ_self _) (.r3 rfl rfl rfl) (.s2 .here .here)
   ·replace h:=yq h zwJ
    refine WC.exit (WX.yg (WX.yg (WX.yz ?_)))
    exact WX.mid () h (.r2 rfl rfl) (.s2 .here .here)
  ·rintro  h
   replace h:=zS0.symm.trans h
   obtain⟨zbG,zS5,h⟩:=y1N h
   refine WC.y1j ((zbG=some r)) ([]) ([]) ?_ ?_
   ·skip
    refine WC.b (WC.a (WL.pu rfl (WL.nil (WX.a (WC.block (WC.y2E (fun(ziQ:Nat) (z2k:Int)=>(y5H z10 z1j zbG ziQ z2k=some r)) (fun ziQ z2k=>[(2,(.pointer (some ⟨ziN,0,none⟩))),(3,(.pointer (some ⟨ziO,0,none⟩))),(6,(.int .i64 z2k))]) (fun ziQ z2k=>[stb ziN 38 [(.slice ziF z10.fP.length ziG),(.slice ziH z10.fEnds.length ziI)],stb ziO 38 [(.slice ziJ z1j.fP.length ziK),(.slice ziL z1j.fEnds.length ziM)]]) (fun ziQ z2k=>ziQ) ⟨yy,0⟩ h (.r3 rfl rfl rfl) (.s2 .here .here) ?_))))))
    rintro ziQ z2k h
    obtain⟨zwH,rfl⟩:=yb3 h
    rw[y5H] at h
    refine WC.b (WC.b (WC.a (WL.pu rfl (WL.qA 42 (ya y7H rfl rfl) (WL.qA 43 (yc y8l rfl (yk .here rfl)) (WL.qA 44 (yH Tryz.underlying36 rfl) (WL.pu rfl (WL.nil (WX.a (WC.cond rfl (fun zwL=>?_) (fun zwL=>?_)))))))))))
    ·replace h:=yp h zwL
     refine WC.skip (WX.a (WC.b (WC.block (WC.b ?_))))
     obtain⟨zS6,h⟩:=yo h
     obtain⟨zS7,h⟩:=yo h
     refine WC.yP (fun i=>[].contains i) [] rfl (WD.pA 0 48 rfl (fun _=>ya y7H rfl rfl) (WD.qA 1 49 rfl (yc y8l rfl (yk .here rfl)) (WD.pA 2 50 rfl (fun _=>q_m rfl) (WD.znth (j:=3) (dd:=51) (by kernel_rfl) rfl z2V z2W rfl rfl (Z:=Z) (Pr:=(fun r x=>r=e79 x)) y8A rfl rfl zRW zS6 ?_))))
     rintro z10f z10g zS8 z10h rfl
     refine WD.qA 4 52 rfl (yh ycd rfl (y2b hz.pv zS8) rfl) (WD.pA 5 53 rfl (fun _=>ya y7H rfl rfl) (WD.qA 6 54 rfl (yc y8l rfl (yk .h1 rfl)) (WD.pA 7 55 rfl (fun _=>q_m rfl) (WD.znth (j:=8) (dd:=56) (by kernel_rfl) rfl z2V z2W rfl rfl (Z:=Z) (Pr:=(fun r x=>r=e79 x)) y8A rfl rfl zRY zS7 ?_))))
     rintro z10i z10j zS9 z10k rfl
     refine WD.qA 9 57 rfl (yh ycd rfl (y2b hz.pv zS9) rfl) (WD.pA 10 58 rfl (fun _=>yaP (enc:=e79) (a:=(⟨((nth z10.fEnds z2k).fVL),((nth z10.fEnds z2k).fNode),((nth z10.fEnds z2k).fDelay)⟩:zl)) (b:=(⟨((nth z1j.fEnds z2k).fVL),((nth z1j.fEnds z2k).fNode),((nth z1j.fEnds z2k).fDelay)⟩:zl)) eqT_79 rfl rfl) (WD.done (by kernel_rfl) (WX.a (WC.cond rfl (fun zwM=>?_) (fun zwM=>?_)))))
     ·replace h:=yp h zwM
      refine WC.b (WC.a (WL.pu rfl (WL.nil (WX.a (WC.ret (WX.ys (WX.ye (WX.ye (WX.ys (WX.ye ?_))))))))))
      obtain rfl:=oJ h
      refine WX.yf Tryz.results17 (.tmp rfl .nil) (fun w hw=>?_)
      exact⟨yD rfl,hw.sub .nil⟩
     ·replace h:=yq h zwM
      refine WC.skip (WX.yn (WX.a (WC.a (WL.pu rfl (WL.pu rfl (WL.pu rfl (WL.nil ?_)))))))
      exact WX.round ⟨zwH,(i64 (z2k+1))⟩ h (Nat.lt_succ_self _) (.r3 rfl rfl rfl) (.s2 .here .here)
    ·replace h:=yq h zwL
     refine WC.exit (WX.yg (WX.yg (WX.yz ?_)))
     exact WX.mid () h .nil .nil
   ·rintro  h
    replace h:=zS5.symm.trans h
    refine WC.b (WC.a (WL.pu rfl (WL.nil (WX.a (WC.ret ?_)))))
    obtain rfl:=oJ h
    refine WX.yf Tryz.results17 (.tmp rfl .nil) (fun w hw=>?_)
    exact⟨yD rfl,hw.sub .nil⟩
def y5q  : Option Bool:=
 (y7T).bind fun zlF=>(y2K zlF.1 0 zlF.2).bind fun zox=>(y8R zlF.1 0 zlF.2).bind fun z1h=>(if (decide (zox.2=0))&&(decide (z1h.2=0)) then(y9v zox.1 (⟨([(⟨0,0,40,80⟩:zg),(⟨2,1,56,91⟩:zg)]:List zg),([(⟨0,1,96⟩:zl)]:List zl)⟩:S37)).bind fun zEl=>some zEl else some false).bind fun zdS=>chk ((zdS&&(decide (((z1h.1.length:Nat):Int)=2)))=true→((0:Int)≤0∧0<((z1h.1.length:Nat):Int))) (chk (((zdS&&(decide (((z1h.1.length:Nat):Int)=2)))&&(decide ((⟨((nth z1h.1 0).fNode),((nth z1h.1 0).fQ),((nth z1h.1 0).fDelay),((nth z1h.1 0).fT)⟩:zg)=(⟨0,0,0,0⟩:zg))))=true→((0:Int)≤1∧1<((z1h.1.length:Nat):Int))) (some (((zdS&&(decide (((z1h.1.length:Nat):Int)=2)))&&(decide ((⟨((nth z1h.1 0).fNode),((nth z1h.1 0).fQ),((nth z1h.1 0).fDelay),((nth z1h.1 0).fT)⟩:zg)=(⟨0,0,0,0⟩:zg))))&&(decide ((⟨((nth z1h.1 1).fNode),((nth z1h.1 1).fQ),((nth z1h.1 1).fDelay),((nth z1h.1 1).fT)⟩:zg)=(⟨2,1,0,0⟩:zg))))))
theorem y8S(Z:Zp)(r:Bool)(h:y5q=some r)(w₀:World)(hz:PZ [] w₀ Z):
  Calls Tryz.prog 9 #[] w₀ fun e w'=>e = .returned (.bool r)∧Hp [] w₀ w' []:=by
 unfold y5q at h
 refine Calls.on0 Tryz.func9 Tryz.ntmps9 ?_
 refine WC.pool (WC.b (WC.a (WL.pu rfl (WL.nil (WX.a (WC.b ?_))))))
 obtain⟨zlF,zSa,h⟩:=z8 h
 refine WC.a (WL.ygL (dd:=9) rfl rfl rfl (zb Tryz.call14 .nil) .nil (ccz hz .nil .here fun w pz ho=>ydg _ _ zSa w pz ) ?_)
 rintro z10l z10m z10n z10o z10p z10q z10r z10s z10t z10u z10v z10w z10x z10y z10z z10A z10B z10C z10D z10E z10F z10G ⟨zEm,zEn,zEo,zEp,zEq,zEr,zEs⟩
 refine WL.merge .here .h5 (WL.pu rfl (WL.pu rfl (WL.pu rfl (WL.nA 1 (yv (cs:=[(.slice none 0 0),(.slice none 0 0),(.slice none 0 0),(.slice none 0 0),(.slice none 0 0),(.slice none 0 0),(.slice none 0 0),(.slice none 0 0)]) y7s rfl) ?_))))
 intro z10H _
 refine WL.ym rfl rfl (yl yaj rfl rfl rfl .here rfl rfl rfl) (WL.pu rfl (WL.nil (WX.a (WC.b ?_))))
 obtain⟨zox,zSb,h⟩:=z8 h
 refine WC.a (WL.qA 13 (yh y2m rfl (yi .here) rfl) (WL.pu rfl (WL.y9O (dd:=15) rfl rfl rfl (zb Tryz.call10 (.r3 rfl rfl rfl)) .nil (cclz hz .nil .h1 (.s5 .h2 .h2 .h2 .h2 .h2) fun w pz ho la=>y7Y _ _ _ _ _ _ _ _ _ _ _ _ _ _ _ _ _ _ _ _ _ _ _ zSb w pz (ZA.row (la _ (.head _) _) ((zEm.weak (fun _ _ h=>y1P (Zle.y1O _ _ _) h)).weak (fun _ _ h=>y1P (Zle.left _ _) h)) ⟨w,pz.1⟩) ((((zEn.mono (Zle.y1O _ _ _)).weak (fun _ _ h=>y1Y (Zle.y1O _ _ _) h)).mono (Zle.left _ _)).weak (fun _ _ h=>y1Y (Zle.left _ _) h)) (ZA.row (la _ (.tail _ (.head _)) _) (RR.flat (enc:=e66) (fun _=>rfl) _) ⟨w,pz.1⟩) (ZA.row (la _ (.tail _ (.tail _ (.head _))) _) (RR.flat (enc:=e64) (fun _=>rfl) _) ⟨w,pz.1⟩) (ZA.row (la _ (.tail _ (.tail _ (.tail _ (.head _)))) _) ((zEo.weak (fun _ _ h=>y1m (Zle.y1O _ _ _) h)).weak (fun _ _ h=>y1m (Zle.left _ _) h)) ⟨w,pz.1⟩) ((zEp.mono (Zle.y1O _ _ _)).mono (Zle.left _ _)) ((((zEq.mono (Zle.y1O _ _ _)).weak (fun _ _ h=>y1Z (Zle.y1O _ _ _) h)).mono (Zle.left _ _)).weak (fun _ _ h=>y1Z (Zle.left _ _) h)) ((zEr.mono (Zle.y1O _ _ _)).mono (Zle.left _ _)) (ZA.row (la _ (.tail _ (.tail _ (.tail _ (.tail _ (.head _))))) _) ((zEs.weak (fun _ _ h=>y1Q (Zle.y1O _ _ _) h)).weak (fun _ _ h=>y1Q (Zle.left _ _) h)) ⟨w,pz.1⟩)) ?_)))
 rintro z10I z10J z10K z10L _
 refine WL.pu rfl (WL.pu rfl (WL.pu rfl (WL.nA 3 (yv (cs:=[(.slice none 0 0),(.slice none 0 0)]) y8g rfl) ?_)))
 intro z10M _
 refine WL.ym rfl rfl (yl y71 rfl rfl rfl .here rfl rfl rfl) (WL.pu rfl (WL.nil (WX.a (WC.b ?_))))
 obtain⟨z1h,zSc,h⟩:=z8 h
 refine WC.a (WL.qA 19 (yh y2m rfl (yi .h3) rfl) (WL.pu rfl (WL.y4l (dd:=21) rfl rfl rfl (zb Tryz.call13 (.r3 rfl rfl rfl)) .nil (cclz hz .nil .h4 (.s5 .h5 .h5 .h5 .h5 .h5) fun w pz ho la=>yeS _ _ _ _ _ _ _ _ _ _ _ _ _ _ _ _ _ _ _ _ _ _ _ zSc w pz (ZA.row (la _ (.head _) _) ((zEm.weak (fun _ _ h=>y1P (Zle.y1O _ _ _) h)).weak (fun _ _ h=>y1P (Zle.left _ _) h)) ⟨w,pz.1⟩) ((((zEn.mono (Zle.y1O _ _ _)).weak (fun _ _ h=>y1Y (Zle.y1O _ _ _) h)).mono (Zle.left _ _)).weak (fun _ _ h=>y1Y (Zle.left _ _) h)) (ZA.row (la _ (.tail _ (.head _)) _) (RR.flat (enc:=e66) (fun _=>rfl) _) ⟨w,pz.1⟩) (ZA.row (la _ (.tail _ (.tail _ (.head _))) _) (RR.flat (enc:=e64) (fun _=>rfl) _) ⟨w,pz.1⟩) (ZA.row (la _ (.tail _ (.tail _ (.tail _ (.head _)))) _) ((zEo.weak (fun _ _ h=>y1m (Zle.y1O _ _ _) h)).weak (fun _ _ h=>y1m (Zle.left _ _) h)) ⟨w,pz.1⟩) ((zEp.mono (Zle.y1O _ _ _)).mono (Zle.left _ _)) ((((zEq.mono (Zle.y1O _ _ _)).weak (fun _ _ h=>y1Z (Zle.y1O _ _ _) h)).mono (Zle.left _ _)).weak (fun _ _ h=>y1Z (Zle.left _ _) h)) ((zEr.mono (Zle.y1O _ _ _)).mono (Zle.left _ _)) (ZA.row (la _ (.tail _ (.tail _ (.tail _ (.tail _ (.head _))))) _) ((zEs.weak (fun _ _ h=>y1Q (Zle.y1O _ _ _) h)).weak (fun _ _ h=>y1Q (Zle.left _ _) h)) ⟨w,pz.1⟩)) ?_)))
 rintro z10N z10O _
 refine WL.pu rfl (WL.pu rfl (WL.pu rfl (WL.pu rfl (WL.pu rfl (WL.nil (WX.a (WC.b (WC.a (WL.qA 24 (yL (v:=(.agg #[(.int .i64 0),(.int .i64 0),(.int .i64 40),(.int .i64 80)])) (Eos.parts (l:=[.const (.int .i64 0),.const (.int .i64 0),.const (.int .i64 40),.const (.int .i64 80)]) (.r4 rfl rfl rfl rfl) [0,1,2,3]) (fun _=>by kernel_rfl)) (WL.qA 25 (yL (v:=(.agg #[(.int .i64 2),(.int .i64 1),(.int .i64 56),(.int .i64 91)])) (Eos.parts (l:=[.const (.int .i64 2),.const (.int .i64 1),.const (.int .i64 56),.const (.int .i64 91)]) (.r4 rfl rfl rfl rfl) [0,1,2,3]) (fun _=>by kernel_rfl)) (WL.nA 26 (yR (cs:=([(⟨0,0,40,80⟩:zg),(⟨2,1,56,91⟩:zg)]:List zg).flatMap e58) y5v (Eos.parts (l:=[.tmp 24,.tmp 25]) (.r2 rfl rfl) [0,1]) (fun _=>by kernel_rfl) rfl (by unfold maxLen;omega)) ?_)))))))))))
 intro zSd _
 refine WL.qA 27 (yL (v:=(.agg #[(.int .i64 0),(.int .i64 1),(.int .i64 96)])) (Eos.parts (l:=[.const (.int .i64 0),.const (.int .i64 1),.const (.int .i64 96)]) (.r3 rfl rfl rfl) [0,1,2]) (fun _=>by kernel_rfl)) (WL.nA 28 (yR (cs:=([(⟨0,1,96⟩:zl)]:List zl).flatMap e79) y8A (Eos.parts (l:=[.tmp 27]) (.cons rfl .nil) [0]) (fun _=>by kernel_rfl) rfl (by unfold maxLen;omega)) ?_)
 intro zSe _
 refine WL.qA 29 (yL (v:=(.agg #[(.slice (some ⟨zSd,0,none⟩) (([(⟨0,0,40,80⟩:zg),(⟨2,1,56,91⟩:zg)]:List zg).length) 2),(.slice (some ⟨zSe,0,none⟩) (([(⟨0,1,96⟩:zl)]:List zl).length) 1)])) (Eos.parts (l:=[.tmp 26,.tmp 28]) (.r2 rfl rfl) [0,1]) (fun _=>by kernel_rfl)) (WL.nA 7 (yv (cs:=[(.slice none 0 0),(.slice none 0 0)]) y8g rfl) ?_)
 intro z10P _
 refine WL.ym rfl rfl (yl y71 rfl rfl rfl .here rfl rfl rfl) (WL.nil (WX.a (WC.b ?_)))
 obtain⟨zdS,zEt,h⟩:=z8 h
 obtain⟨zSf,h⟩:=yo h
 obtain⟨zSg,h⟩:=yo h
 refine WC.a (WL.pu rfl (WL.pu rfl (WL.pu rfl (WL.seg true 2 32 (B:=(decide (zox.2=0))&&(decide (z1h.2=0))) rfl rfl rfl rfl rfl rfl (fun h=>(y2z h).symm) (fun _ zSh=>?_) ?_))))
 ·skip
  refine WL.pu rfl (WL.pu rfl (WL.pu rfl ?_))
  exact WL.yB (y2A zSh) rfl rfl .all
 refine WL.pu rfl (WL.seg true 3 36 (B:=zdS) rfl rfl rfl rfl rfl rfl (fun h=>(oJ (yq zEt h)).symm) (fun _ zSi=>?_) ?_)
 ·skip
  have zlG:=yp zEt zSi
  obtain⟨zEl,zSj,zlG⟩:=z8 zlG
  replace zlG:=oJ zlG
  refine WL.qA 37 (yh y6l rfl (yi .h4) rfl) (WL.qA 38 (yh y6l rfl (yi .here) rfl) (WL.cA 39 (zb Tryz.call17 (.r2 rfl rfl)) .nil (cclz hz .nil (.there .h7) (.s4 .h5 .h5 .h2 .h1) fun w pz ho la=>yfm _ _ _ _ _ _ _ _ _ _ _ _ zSj w pz (ZA.row (la _ (.head _) _) (RR.flat (enc:=e58) (fun _=>rfl) _) ⟨w,pz.1⟩) (ZA.row (la _ (.tail _ (.head _)) _) (RR.flat (enc:=e79) (fun _=>rfl) _) ⟨w,pz.1⟩) (ZA.row (la _ (.tail _ (.tail _ (.head _))) _) (RR.flat (enc:=e58) (fun _=>rfl) _) ⟨w,pz.1⟩) (ZA.row (la _ (.tail _ (.tail _ (.tail _ (.head _)))) _) (RR.flat (enc:=e79) (fun _=>rfl) _) ⟨w,pz.1⟩)) (WL.pu rfl ?_)))
  exact WL.yB zlG rfl rfl .all
 refine WL.pu rfl (WL.seg true 3 41 (B:=zdS&&(decide (((z1h.1.length:Nat):Int)=2))) rfl rfl rfl rfl rfl rfl (fun h=>(y2z h).symm) (fun _ zSk=>?_) ?_)
 ·skip
  refine WL.pu rfl (WL.qA 43 (yH Tryz.underlying35 rfl) (WL.pu rfl (WL.pu rfl ?_)))
  exact WL.yB (y2A zSk) rfl rfl .all
 refine WL.pu rfl (WL.seg true 5 46 (B:=(zdS&&(decide (((z1h.1.length:Nat):Int)=2)))&&(decide ((⟨((nth z1h.1 0).fNode),((nth z1h.1 0).fQ),((nth z1h.1 0).fDelay),((nth z1h.1 0).fT)⟩:zg)=(⟨0,0,0,0⟩:zg)))) rfl rfl rfl rfl rfl rfl (fun h=>(y2z h).symm) (fun _ zEu=>?_) ?_)
 ·skip
  have zlH:=zSf zEu
  refine WL.pu rfl (WL.know (fun w hw=>Hp.y2M .h3 hw (by intro hz';have:=zlH;rw[hz'] at this;omega)) ?_)
  rintro⟨z10Q,rfl⟩
  refine WL.qA 48 (yX y5v rfl rfl zlH.1 zlH.2 y32) (WL.qA 49 (yT (cs:=(e58 (nth z1h.1 0))) y8k rfl rfl (y3P .h3 (y3D (enc:=e58) (l:=z1h.1) (i:=0) (sz:=4) (fun _=>rfl) zlH.1 zlH.2))) (WL.qA 50 (yL (v:=(.agg #[(.int .i64 0),(.int .i64 0),(.int .i64 0),(.int .i64 0)])) (Eos.parts (l:=[]) .nil []) (fun _=>by kernel_rfl)) (WL.qA 51 (y7p (enc:=e58) (a:=(⟨((nth z1h.1 0).fNode),((nth z1h.1 0).fQ),((nth z1h.1 0).fDelay),((nth z1h.1 0).fT)⟩:zg)) (b:=(⟨0,0,0,0⟩:zg)) yfg rfl rfl) (WL.pu rfl ?_))))
  exact WL.yB (y2A zEu) rfl rfl .all
 refine WL.pu rfl (WL.seg true 5 53 (B:=((zdS&&(decide (((z1h.1.length:Nat):Int)=2)))&&(decide ((⟨((nth z1h.1 0).fNode),((nth z1h.1 0).fQ),((nth z1h.1 0).fDelay),((nth z1h.1 0).fT)⟩:zg)=(⟨0,0,0,0⟩:zg))))&&(decide ((⟨((nth z1h.1 1).fNode),((nth z1h.1 1).fQ),((nth z1h.1 1).fDelay),((nth z1h.1 1).fT)⟩:zg)=(⟨2,1,0,0⟩:zg)))) rfl rfl rfl rfl rfl rfl (fun h=>(y2z h).symm) (fun _ zEv=>?_) ?_)
 ·skip
  have zlI:=zSg zEv
  refine WL.pu rfl (WL.know (fun w hw=>Hp.y2M .h3 hw (by intro hz';have:=zlI;rw[hz'] at this;omega)) ?_)
  rintro⟨z10R,rfl⟩
  refine WL.qA 55 (yX y5v rfl rfl zlI.1 zlI.2 y32) (WL.qA 56 (yT (cs:=(e58 (nth z1h.1 1))) y8k rfl rfl (y3P .h3 (y3D (enc:=e58) (l:=z1h.1) (i:=1) (sz:=4) (fun _=>rfl) zlI.1 zlI.2))) (WL.qA 57 (yL (v:=(.agg #[(.int .i64 2),(.int .i64 1),(.int .i64 0),(.int .i64 0)])) (Eos.parts (l:=[.const (.int .i64 2),.const (.int .i64 1)]) (.r2 rfl rfl) [0,1]) (fun _=>by kernel_rfl)) (WL.qA 58 (y7p (enc:=e58) (a:=(⟨((nth z1h.1 1).fNode),((nth z1h.1 1).fQ),((nth z1h.1 1).fDelay),((nth z1h.1 1).fT)⟩:zg)) (b:=(⟨2,1,0,0⟩:zg)) yfg rfl rfl) (WL.pu rfl ?_))))
  exact WL.yB (y2A zEv) rfl rfl .all
 refine WL.pu rfl (WL.nil (WX.a (WC.ret ?_)))
 obtain rfl:=oJ h
 refine WX.yf Tryz.results9 (.tmp rfl .nil) (fun w hw=>?_)
 exact⟨yD rfl,hw.sub .nil⟩
def y3H(zp:S37)(zm:S37)(z11:Int)(zbH:Bool→Option Bool):Nat→Bool→Int→Option Bool
 | 0,_,_=>none
 | zwN+1,z6C,z1Y=>if decide (z1Y<((zp.fP.length:Nat):Int)) then chk ((0:Int)≤z1Y∧z1Y<((zp.fP.length:Nat):Int)) (y3H zp zm z11 zbH zwN (z6C||((((decide (((nth zm.fP z11).fNode)=((nth zp.fP z1Y).fNode)))&&(decide (((nth zm.fP z11).fQ)=((nth zp.fP z1Y).fQ))))&&(decide (((nth zm.fP z11).fDelay)≤((nth zp.fP z1Y).fDelay))))&&(decide (((nth zm.fP z11).fT)≤((nth zp.fP z1Y).fT))))) (i64 (z1Y+1))) else zbH z6C
theorem yax{n:Nat}{zp:S37}{zm:S37}{z11:Int}{zbH:Bool→Option Bool}{z6C:Bool}{z1Y:Int}{r:Bool}(h:y3H zp zm z11 zbH n z6C z1Y=some r):∃ m,n=m+1:=by
 cases n with
 | zero=>cases h
 | succ m=>exact⟨m,rfl⟩
def y3I(zm:S37)(zp:S37)(zbI:Option Bool):Nat→Int→Option Bool
 | 0,_=>none
 | zwO+1,z11=>if decide (z11<((zm.fP.length:Nat):Int)) then jp0 (y3I zm zp zbI zwO (i64 (z11+1))) fun zwP=>chk ((0:Int)≤z11∧z11<((zm.fP.length:Nat):Int)) (jp1 (fun(zdT:Bool)=>if !zdT then some false else zwP) fun zbH=>y3H zp zm z11 zbH yy false 0) else zbI
theorem yay{n:Nat}{zm:S37}{zp:S37}{zbI:Option Bool}{z11:Int}{r:Bool}(h:y3I zm zp zbI n z11=some r):∃ m,n=m+1:=by
 cases n with
 | zero=>cases h
 | succ m=>exact⟨m,rfl⟩
def y3J(zp:S37)(zm:S37)(z1M:Int)(zbJ:Bool→Option Bool):Nat→Bool→Int→Option Bool
 | 0,_,_=>none
 | zwQ+1,z6D,z2l=>if decide (z2l<((zp.fEnds.length:Nat):Int)) then chk ((0:Int)≤z2l∧z2l<((zp.fEnds.length:Nat):Int)) (y3J zp zm z1M zbJ zwQ (z6D||(((decide (((nth zm.fEnds z1M).fVL)=((nth zp.fEnds z2l).fVL)))&&(decide (((nth zm.fEnds z1M).fNode)=((nth zp.fEnds z2l).fNode))))&&(decide (((nth zm.fEnds z1M).fDelay)≤((nth zp.fEnds z2l).fDelay))))) (i64 (z2l+1))) else zbJ z6D
theorem yaz{n:Nat}{zp:S37}{zm:S37}{z1M:Int}{zbJ:Bool→Option Bool}{z6D:Bool}{z2l:Int}{r:Bool}(h:y3J zp zm z1M zbJ n z6D z2l=some r):∃ m,n=m+1:=by
 cases n with
 | zero=>cases h
 | succ m=>exact⟨m,rfl⟩
def y3K(zm:S37)(zp:S37)(zbK:Option Bool):Nat→Int→Option Bool
 | 0,_=>none
 | zwR+1,z1M=>if decide (z1M<((zm.fEnds.length:Nat):Int)) then jp0 (y3K zm zp zbK zwR (i64 (z1M+1))) fun zwS=>chk ((0:Int)≤z1M∧z1M<((zm.fEnds.length:Nat):Int)) (jp1 (fun(zdU:Bool)=>if !zdU then some false else zwS) fun zbJ=>y3J zp zm z1M zbJ yy false 0) else zbK
theorem yaA{n:Nat}{zm:S37}{zp:S37}{zbK:Option Bool}{z1M:Int}{r:Bool}(h:y3K zm zp zbK n z1M=some r):∃ m,n=m+1:=by
 cases n with
 | zero=>cases h
 | succ m=>exact⟨m,rfl⟩
def y5r(zm:S37)(zp:S37):Option Bool:=
 jp0 (jp0 (some true) fun zbK=>y3K zm zp zbK yy 0) fun zbI=>y3I zm zp zbI yy 0
theorem yeT(Z:Zp)(z7X:Option Addr)(z7Y:Nat)(z7Z:Option Addr)(z80:Nat)(z7a:Option Addr)(z7b:Nat)(z7c:Option Addr)(z7d:Nat)(zm:S37)(zp:S37)(r:Bool)(h:y5r zm zp=some r)(w₀:World)(hz:PZ [] w₀ Z)(zSl:ZS Z 4 (fun r x=>r=e58 x) z7X z7Y zm.fP)(zSm:ZS Z 3 (fun r x=>r=e79 x) z7Z z80 zm.fEnds)(zSn:ZS Z 4 (fun r x=>r=e58 x) z7a z7b zp.fP)(zSo:ZS Z 3 (fun r x=>r=e79 x) z7c z7d zp.fEnds):
  Calls Tryz.prog 11 #[(.agg #[(.slice z7X zm.fP.length z7Y),(.slice z7Z zm.fEnds.length z80)]),(.agg #[(.slice z7a zp.fP.length z7b),(.slice z7c zp.fEnds.length z7d)])] w₀ fun e w'=>e = .returned (.bool r)∧Hp [] w₀ w' []:=by
 unfold y5r at h
 refine Calls.yK Tryz.func11 Tryz.ntmps11 ?_
 refine WC.b (WC.a (WL.nA 2 (yI (cs:=[(.slice z7X zm.fP.length z7Y),(.slice z7Z zm.fEnds.length z80)]) rfl rfl) ?_))
 intro z9O _
 refine WL.nA 3 (yI (cs:=[(.slice z7a zp.fP.length z7b),(.slice z7c zp.fEnds.length z7d)]) rfl rfl) ?_
 intro z4K _
 refine WL.pu rfl (WL.nil (WX.a ?_))
 obtain⟨zbI,zSp,h⟩:=y1N h
 refine WC.y1j ((zbI=some r)) ([(2,(.pointer (some ⟨z9O,0,none⟩))),(3,(.pointer (some ⟨z4K,0,none⟩)))]) ([stb z9O 38 [(.slice z7X zm.fP.length z7Y),(.slice z7Z zm.fEnds.length z80)],stb z4K 38 [(.slice z7a zp.fP.length z7b),(.slice z7c zp.fEnds.length z7d)]]) ?_ ?_
 ·skip
  refine WC.b (WC.a (WL.qA 15 (ya y5U rfl rfl) (WL.qA 16 (yc y6m rfl (yk .h1 rfl)) (WL.qA 17 (yH Tryz.underlying35 rfl) (WL.pu rfl (WL.nil (WX.a (WC.block (WC.y2E (fun(ziR:Nat) (z11:Int)=>(y3I zm zp zbI ziR z11=some r)) (fun ziR z11=>[(2,(.pointer (some ⟨z9O,0,none⟩))),(3,(.pointer (some ⟨z4K,0,none⟩))),(16,(.slice z7X zm.fP.length z7Y)),(17,(.int .i64 ((zm.fP.length:Nat):Int))),(18,(.int .i64 z11))]) (fun ziR z11=>[stb z9O 38 [(.slice z7X zm.fP.length z7Y),(.slice z7Z zm.fEnds.length z80)],stb z4K 38 [(.slice z7a zp.fP.length z7b),(.slice z7c zp.fEnds.length z7d)]]) (fun ziR z11=>ziR) ⟨yy,0⟩ h (.r5 rfl rfl rfl rfl rfl) (.s2 .h1 .here) ?_)))))))))
  rintro ziR z11 h
  obtain⟨zwO,rfl⟩:=yay h
  rw[y3I] at h
  refine WC.b (WC.a (WL.pu rfl (WL.nil (WX.a (WC.b (WC.cond rfl (fun zwT=>?_) (fun zwT=>?_)))))))
  ·replace h:=yp h zwT
   refine WC.skip (WX.a ?_)
   obtain⟨zwP,zSq,h⟩:=y1N h
   refine WC.y1j ((zwP=some r)) ([(2,(.pointer (some ⟨z9O,0,none⟩))),(3,(.pointer (some ⟨z4K,0,none⟩))),(16,(.slice z7X zm.fP.length z7Y)),(17,(.int .i64 ((zm.fP.length:Nat):Int))),(18,(.int .i64 z11))]) ([stb z9O 38 [(.slice z7X zm.fP.length z7Y),(.slice z7Z zm.fEnds.length z80)],stb z4K 38 [(.slice z7a zp.fP.length z7b),(.slice z7c zp.fEnds.length z7d)]]) ?_ ?_
   ·skip
    refine WC.block (WC.b ?_)
    obtain⟨zSr,h⟩:=yo h
    refine WC.a (WL.znth (dd:=20) rfl rfl (Z:=Z) (Pr:=(fun r x=>r=e58 x)) y5v rfl rfl zSl zSr ?_)
    rintro z10S z10T zSs z10U rfl
    refine WL.qA 21 (yh y8k rfl (y2b hz.pv zSs) rfl) (WL.nA 6 (yv (cs:=[(.int .i64 0),(.int .i64 0),(.int .i64 0),(.int .i64 0)]) ycR rfl) ?_)
    intro zEw _
    refine WL.ym rfl rfl (yl ydS rfl rfl rfl .here rfl rfl rfl) (WL.nil (WX.a (WC.b (WC.a (WL.pu rfl (WL.nil (WX.a ?_)))))))
    obtain⟨zbH,zSt,h⟩:=y15 h
    refine WC.y3k (fun(zdT:Bool)=>(zbH zdT=some r)) (fun zdT=>[(2,(.pointer (some ⟨z9O,0,none⟩))),(3,(.pointer (some ⟨z4K,0,none⟩))),(7,(.bool zdT)),(16,(.slice z7X zm.fP.length z7Y)),(17,(.int .i64 ((zm.fP.length:Nat):Int))),(18,(.int .i64 z11))]) (fun zdT=>[stb z9O 38 [(.slice z7X zm.fP.length z7Y),(.slice z7Z zm.fEnds.length z80)],stb z4K 38 [(.slice z7a zp.fP.length z7b),(.slice z7c zp.fEnds.length z7d)]]) ?_ ?_
    ·skip
     refine WC.b (WC.a (WL.qA 22 (ya y5U rfl rfl) (WL.qA 23 (yc y6m rfl (yk .h2 rfl)) (WL.qA 24 (yH Tryz.underlying35 rfl) (WL.pu rfl (WL.nil (WX.a (WC.block (WC.y8a (fun(ziS:Nat) (z6C:Bool) (z1Y:Int)=>(y3H zp zm z11 zbH ziS z6C z1Y=some r)) (fun ziS z6C z1Y=>[(2,(.pointer (some ⟨z9O,0,none⟩))),(3,(.pointer (some ⟨z4K,0,none⟩))),(6,(.pointer (some ⟨zEw,0,none⟩))),(7,(.bool z6C)),(16,(.slice z7X zm.fP.length z7Y)),(17,(.int .i64 ((zm.fP.length:Nat):Int))),(18,(.int .i64 z11)),(23,(.slice z7a zp.fP.length z7b)),(24,(.int .i64 ((zp.fP.length:Nat):Int))),(25,(.int .i64 z1Y))]) (fun ziS z6C z1Y=>[stb z9O 38 [(.slice z7X zm.fP.length z7Y),(.slice z7Z zm.fEnds.length z80)],stb z4K 38 [(.slice z7a zp.fP.length z7b),(.slice z7c zp.fEnds.length z7d)],stb zEw 58 [(.int .i64 ((nth zm.fP z11).fNode)),(.int .i64 ((nth zm.fP z11).fQ)),(.int .i64 ((nth zm.fP z11).fDelay)),(.int .i64 ((nth zm.fP z11).fT))]]) (fun ziS z6C z1Y=>ziS) ⟨yy,false,0⟩ h (.r10 rfl rfl rfl rfl rfl rfl rfl rfl rfl rfl) (.s3 .h1 .h1 .here) ?_)))))))))
     rintro ziS z6C z1Y h
     obtain⟨zwN,rfl⟩:=yax h
     rw[y3H] at h
     refine WC.b (WC.a (WL.pu rfl (WL.nil (WX.a (WC.b (WC.cond rfl (fun zwU=>?_) (fun zwU=>?_)))))))
     ·replace h:=yp h zwU
      refine WC.skip (WX.a (WC.b (WC.block (WC.b ?_))))
      obtain⟨zSu,h⟩:=yo h
      refine WC.a (WL.znth (dd:=27) rfl rfl (Z:=Z) (Pr:=(fun r x=>r=e58 x)) y5v rfl rfl zSn zSu ?_)
      rintro z10V z10W zSv z10X rfl
      refine WL.qA 28 (yh y8k rfl (y2b hz.pv zSv) rfl) (WL.nA 9 (yv (cs:=[(.int .i64 0),(.int .i64 0),(.int .i64 0),(.int .i64 0)]) ycR rfl) ?_)
      intro z10Y _
      refine WL.ym rfl rfl (yl ydS rfl rfl rfl .here rfl rfl rfl) (WL.nil (WX.a (WC.a (WL.pu rfl (WL.pu rfl (WL.seg false 26 30 (B:=z6C||((((decide (((nth zm.fP z11).fNode)=((nth zp.fP z1Y).fNode)))&&(decide (((nth zm.fP z11).fQ)=((nth zp.fP z1Y).fQ))))&&(decide (((nth zm.fP z11).fDelay)≤((nth zp.fP z1Y).fDelay))))&&(decide (((nth zm.fP z11).fT)≤((nth zp.fP z1Y).fT))))) rfl rfl rfl rfl rfl rfl (fun h=>(y6p h).symm) (fun _ zSw=>?_) ?_))))))
      ·skip
       refine WL.qA 31 (ya yao rfl rfl) (WL.qA 32 (yc yt rfl (yk .h3 rfl)) (WL.qA 33 (ya yao rfl rfl) (WL.qA 34 (yc yt rfl (yk .here rfl)) (WL.pu rfl (WL.pu rfl (WL.seg true 5 36 (B:=(decide (((nth zm.fP z11).fNode)=((nth zp.fP z1Y).fNode)))&&(decide (((nth zm.fP z11).fQ)=((nth zp.fP z1Y).fQ)))) rfl rfl rfl rfl rfl rfl (fun h=>(y2z h).symm) (fun _ zSx=>?_) ?_))))))
       ·skip
        refine WL.qA 37 (ya yap rfl rfl) (WL.qA 38 (yc yt rfl (yk .h3 rfl)) (WL.qA 39 (ya yap rfl rfl) (WL.qA 40 (yc yt rfl (yk .here rfl)) (WL.pu rfl (WL.pu rfl ?_)))))
        exact WL.yB (y2A zSx) rfl rfl .all
       refine WL.pu rfl (WL.seg true 5 43 (B:=((decide (((nth zm.fP z11).fNode)=((nth zp.fP z1Y).fNode)))&&(decide (((nth zm.fP z11).fQ)=((nth zp.fP z1Y).fQ))))&&(decide (((nth zm.fP z11).fDelay)≤((nth zp.fP z1Y).fDelay)))) rfl rfl rfl rfl rfl rfl (fun h=>(y2z h).symm) (fun _ zSy=>?_) ?_)
       ·skip
        refine WL.qA 44 (ya ydT rfl rfl) (WL.qA 45 (yc yt rfl (yk .h3 rfl)) (WL.qA 46 (ya ydT rfl rfl) (WL.qA 47 (yc yt rfl (yk .here rfl)) (WL.pu rfl (WL.pu rfl ?_)))))
        exact WL.yB (y2A zSy) rfl rfl .all
       refine WL.pu rfl (WL.seg true 5 50 (B:=(((decide (((nth zm.fP z11).fNode)=((nth zp.fP z1Y).fNode)))&&(decide (((nth zm.fP z11).fQ)=((nth zp.fP z1Y).fQ))))&&(decide (((nth zm.fP z11).fDelay)≤((nth zp.fP z1Y).fDelay))))&&(decide (((nth zm.fP z11).fT)≤((nth zp.fP z1Y).fT)))) rfl rfl rfl rfl rfl rfl (fun h=>(y2z h).symm) (fun _ zSz=>?_) ?_)
       ·skip
        refine WL.qA 51 (ya ygh rfl rfl) (WL.qA 52 (yc yt rfl (yk .h3 rfl)) (WL.qA 53 (ya ygh rfl rfl) (WL.qA 54 (yc yt rfl (yk .here rfl)) (WL.pu rfl (WL.pu rfl ?_)))))
        exact WL.yB (y2A zSz) rfl rfl .all
       refine WL.pu rfl ?_
       exact WL.yB (y6q zSw) rfl rfl .all
      refine WL.pu rfl (WL.nil (WX.yn (WX.a (WC.a (WL.pu rfl (WL.pu rfl (WL.nil ?_)))))))
      exact WX.round ⟨zwN,(z6C||((((decide (((nth zm.fP z11).fNode)=((nth zp.fP z1Y).fNode)))&&(decide (((nth zm.fP z11).fQ)=((nth zp.fP z1Y).fQ))))&&(decide (((nth zm.fP z11).fDelay)≤((nth zp.fP z1Y).fDelay))))&&(decide (((nth zm.fP z11).fT)≤((nth zp.fP z1Y).fT))))),(i64 (z1Y+1))⟩ h (Nat.lt_succ_self _) (.r10 rfl rfl rfl rfl rfl rfl rfl rfl rfl rfl) (.s3 .h1 .h1 .h1)
     ·replace h:=yq h zwU
      refine WC.exit (WX.yg (WX.yg (WX.yz ?_)))
      exact WX.mid z6C h (.r6 rfl rfl rfl rfl rfl rfl) (.s2 .here .here)
    ·rintro zdT h
     replace h:=(zSt zdT).symm.trans h
     refine WC.b (WC.a (WL.pu rfl (WL.pu rfl (WL.nil (WX.a (WC.cond rfl (fun zwV=>?_) (fun zwV=>?_)))))))
     ·replace h:=yp h zwV
      refine WC.b (WC.a (WL.pu rfl (WL.nil (WX.a (WC.ret (WX.ys (WX.ye (WX.ye (WX.ys (WX.ye ?_))))))))))
      obtain rfl:=oJ h
      refine WX.yf Tryz.results11 (.tmp rfl .nil) (fun w hw=>?_)
      exact⟨yD rfl,hw.sub .nil⟩
     ·replace h:=yq h zwV
      refine WC.skip (WX.yn ?_)
      exact WX.mid () h (.r5 rfl rfl rfl rfl rfl) (.s2 .here .here)
   ·rintro  h
    replace h:=zSq.symm.trans h
    refine WC.a (WL.pu rfl (WL.pu rfl (WL.nil ?_)))
    exact WX.round ⟨zwO,(i64 (z11+1))⟩ h (Nat.lt_succ_self _) (.r5 rfl rfl rfl rfl rfl) (.s2 .here .here)
  ·replace h:=yq h zwT
   refine WC.exit (WX.yg (WX.yg (WX.yz ?_)))
   exact WX.mid () h (.r2 rfl rfl) (.s2 .here .here)
 ·rintro  h
  replace h:=zSp.symm.trans h
  obtain⟨zbK,zSA,h⟩:=y1N h
  refine WC.y1j ((zbK=some r)) ([]) ([]) ?_ ?_
  ·skip
   refine WC.b (WC.a (WL.qA 62 (ya y7H rfl rfl) (WL.qA 63 (yc y8l rfl (yk .here rfl)) (WL.qA 64 (yH Tryz.underlying36 rfl) (WL.pu rfl (WL.nil (WX.a (WC.block (WC.y2E (fun(ziT:Nat) (z1M:Int)=>(y3K zm zp zbK ziT z1M=some r)) (fun ziT z1M=>[(3,(.pointer (some ⟨z4K,0,none⟩))),(63,(.slice z7Z zm.fEnds.length z80)),(64,(.int .i64 ((zm.fEnds.length:Nat):Int))),(65,(.int .i64 z1M))]) (fun ziT z1M=>[stb z4K 38 [(.slice z7a zp.fP.length z7b),(.slice z7c zp.fEnds.length z7d)]]) (fun ziT z1M=>ziT) ⟨yy,0⟩ h (.r4 rfl rfl rfl rfl) (.cons .h1 .nil) ?_)))))))))
   rintro ziT z1M h
   obtain⟨zwR,rfl⟩:=yaA h
   rw[y3K] at h
   refine WC.b (WC.a (WL.pu rfl (WL.nil (WX.a (WC.b (WC.cond rfl (fun zwW=>?_) (fun zwW=>?_)))))))
   ·replace h:=yp h zwW
    refine WC.skip (WX.a ?_)
    obtain⟨zwS,zSB,h⟩:=y1N h
    refine WC.y1j ((zwS=some r)) ([(3,(.pointer (some ⟨z4K,0,none⟩))),(63,(.slice z7Z zm.fEnds.length z80)),(64,(.int .i64 ((zm.fEnds.length:Nat):Int))),(65,(.int .i64 z1M))]) ([stb z4K 38 [(.slice z7a zp.fP.length z7b),(.slice z7c zp.fEnds.length z7d)]]) ?_ ?_
    ·skip
     refine WC.block (WC.b ?_)
     obtain⟨zSC,h⟩:=yo h
     refine WC.a (WL.znth (dd:=67) rfl rfl (Z:=Z) (Pr:=(fun r x=>r=e79 x)) y8A rfl rfl zSm zSC ?_)
     rintro z10Z z110 zSD z111 rfl
     refine WL.qA 68 (yh ycd rfl (y2b hz.pv zSD) rfl) (WL.nA 11 (yv (cs:=[(.int .i64 0),(.int .i64 0),(.int .i64 0)]) yfh rfl) ?_)
     intro zEx _
     refine WL.ym rfl rfl (yl ygi rfl rfl rfl .here rfl rfl rfl) (WL.nil (WX.a (WC.b (WC.a (WL.pu rfl (WL.nil (WX.a ?_)))))))
     obtain⟨zbJ,zSE,h⟩:=y15 h
     refine WC.y3k (fun(zdU:Bool)=>(zbJ zdU=some r)) (fun zdU=>[(3,(.pointer (some ⟨z4K,0,none⟩))),(12,(.bool zdU)),(63,(.slice z7Z zm.fEnds.length z80)),(64,(.int .i64 ((zm.fEnds.length:Nat):Int))),(65,(.int .i64 z1M))]) (fun zdU=>[stb z4K 38 [(.slice z7a zp.fP.length z7b),(.slice z7c zp.fEnds.length z7d)]]) ?_ ?_
     ·skip
      refine WC.b (WC.a (WL.qA 69 (ya y7H rfl rfl) (WL.qA 70 (yc y8l rfl (yk .h1 rfl)) (WL.qA 71 (yH Tryz.underlying36 rfl) (WL.pu rfl (WL.nil (WX.a (WC.block (WC.y8a (fun(ziU:Nat) (z6D:Bool) (z2l:Int)=>(y3J zp zm z1M zbJ ziU z6D z2l=some r)) (fun ziU z6D z2l=>[(3,(.pointer (some ⟨z4K,0,none⟩))),(11,(.pointer (some ⟨zEx,0,none⟩))),(12,(.bool z6D)),(63,(.slice z7Z zm.fEnds.length z80)),(64,(.int .i64 ((zm.fEnds.length:Nat):Int))),(65,(.int .i64 z1M)),(70,(.slice z7c zp.fEnds.length z7d)),(71,(.int .i64 ((zp.fEnds.length:Nat):Int))),(72,(.int .i64 z2l))]) (fun ziU z6D z2l=>[stb z4K 38 [(.slice z7a zp.fP.length z7b),(.slice z7c zp.fEnds.length z7d)],stb zEx 79 [(.int .i64 ((nth zm.fEnds z1M).fVL)),(.int .i64 ((nth zm.fEnds z1M).fNode)),(.int .i64 ((nth zm.fEnds z1M).fDelay))]]) (fun ziU z6D z2l=>ziU) ⟨yy,false,0⟩ h (.r9 rfl rfl rfl rfl rfl rfl rfl rfl rfl) (.s2 .h1 .here) ?_)))))))))
      rintro ziU z6D z2l h
      obtain⟨zwQ,rfl⟩:=yaz h
      rw[y3J] at h
      refine WC.b (WC.a (WL.pu rfl (WL.nil (WX.a (WC.b (WC.cond rfl (fun zwX=>?_) (fun zwX=>?_)))))))
      ·replace h:=yp h zwX
       refine WC.skip (WX.a (WC.b (WC.block (WC.b ?_))))
       obtain⟨zSF,h⟩:=yo h
       refine WC.a (WL.znth (dd:=74) rfl rfl (Z:=Z) (Pr:=(fun r x=>r=e79 x)) y8A rfl rfl zSo zSF ?_)
       rintro z112 z113 zSG z114 rfl
       refine WL.qA 75 (yh ycd rfl (y2b hz.pv zSG) rfl) (WL.nA 14 (yv (cs:=[(.int .i64 0),(.int .i64 0),(.int .i64 0)]) yfh rfl) ?_)
       intro z115 _
       refine WL.ym rfl rfl (yl ygi rfl rfl rfl .here rfl rfl rfl) (WL.nil (WX.a (WC.a (WL.pu rfl (WL.pu rfl (WL.seg false 19 77 (B:=z6D||(((decide (((nth zm.fEnds z1M).fVL)=((nth zp.fEnds z2l).fVL)))&&(decide (((nth zm.fEnds z1M).fNode)=((nth zp.fEnds z2l).fNode))))&&(decide (((nth zm.fEnds z1M).fDelay)≤((nth zp.fEnds z2l).fDelay))))) rfl rfl rfl rfl rfl rfl (fun h=>(y6p h).symm) (fun _ zSH=>?_) ?_))))))
       ·skip
        refine WL.qA 78 (ya ygj rfl rfl) (WL.qA 79 (yc yt rfl (yk .h2 rfl)) (WL.qA 80 (ya ygj rfl rfl) (WL.qA 81 (yc yt rfl (yk .here rfl)) (WL.pu rfl (WL.pu rfl (WL.seg true 5 83 (B:=(decide (((nth zm.fEnds z1M).fVL)=((nth zp.fEnds z2l).fVL)))&&(decide (((nth zm.fEnds z1M).fNode)=((nth zp.fEnds z2l).fNode)))) rfl rfl rfl rfl rfl rfl (fun h=>(y2z h).symm) (fun _ zSI=>?_) ?_))))))
        ·skip
         refine WL.qA 84 (ya ycc rfl rfl) (WL.qA 85 (yc yt rfl (yk .h2 rfl)) (WL.qA 86 (ya ycc rfl rfl) (WL.qA 87 (yc yt rfl (yk .here rfl)) (WL.pu rfl (WL.pu rfl ?_)))))
         exact WL.yB (y2A zSI) rfl rfl .all
        refine WL.pu rfl (WL.seg true 5 90 (B:=((decide (((nth zm.fEnds z1M).fVL)=((nth zp.fEnds z2l).fVL)))&&(decide (((nth zm.fEnds z1M).fNode)=((nth zp.fEnds z2l).fNode))))&&(decide (((nth zm.fEnds z1M).fDelay)≤((nth zp.fEnds z2l).fDelay)))) rfl rfl rfl rfl rfl rfl (fun h=>(y2z h).symm) (fun _ zSJ=>?_) ?_)
        ·skip
         refine WL.qA 91 (ya ygk rfl rfl) (WL.qA 92 (yc yt rfl (yk .h2 rfl)) (WL.qA 93 (ya ygk rfl rfl) (WL.qA 94 (yc yt rfl (yk .here rfl)) (WL.pu rfl (WL.pu rfl ?_)))))
         exact WL.yB (y2A zSJ) rfl rfl .all
        refine WL.pu rfl ?_
        exact WL.yB (y6q zSH) rfl rfl .all
       refine WL.pu rfl (WL.nil (WX.yn (WX.a (WC.a (WL.pu rfl (WL.pu rfl (WL.nil ?_)))))))
       exact WX.round ⟨zwQ,(z6D||(((decide (((nth zm.fEnds z1M).fVL)=((nth zp.fEnds z2l).fVL)))&&(decide (((nth zm.fEnds z1M).fNode)=((nth zp.fEnds z2l).fNode))))&&(decide (((nth zm.fEnds z1M).fDelay)≤((nth zp.fEnds z2l).fDelay))))),(i64 (z2l+1))⟩ h (Nat.lt_succ_self _) (.r9 rfl rfl rfl rfl rfl rfl rfl rfl rfl) (.s2 .h1 .h1)
      ·replace h:=yq h zwX
       refine WC.exit (WX.yg (WX.yg (WX.yz ?_)))
       exact WX.mid z6D h (.r5 rfl rfl rfl rfl rfl) (.cons .here .nil)
     ·rintro zdU h
      replace h:=(zSE zdU).symm.trans h
      refine WC.b (WC.a (WL.pu rfl (WL.pu rfl (WL.nil (WX.a (WC.cond rfl (fun zwY=>?_) (fun zwY=>?_)))))))
      ·replace h:=yp h zwY
       refine WC.b (WC.a (WL.pu rfl (WL.nil (WX.a (WC.ret (WX.ys (WX.ye (WX.ye (WX.ys (WX.ye ?_))))))))))
       obtain rfl:=oJ h
       refine WX.yf Tryz.results11 (.tmp rfl .nil) (fun w hw=>?_)
       exact⟨yD rfl,hw.sub .nil⟩
      ·replace h:=yq h zwY
       refine WC.skip (WX.yn ?_)
       exact WX.mid () h (.r4 rfl rfl rfl rfl) (.cons .here .nil)
    ·rintro  h
     replace h:=zSB.symm.trans h
     refine WC.a (WL.pu rfl (WL.pu rfl (WL.nil ?_)))
     exact WX.round ⟨zwR,(i64 (z1M+1))⟩ h (Nat.lt_succ_self _) (.r4 rfl rfl rfl rfl) (.cons .here .nil)
   ·replace h:=yq h zwW
    refine WC.exit (WX.yg (WX.yg (WX.yz ?_)))
    exact WX.mid () h .nil .nil
  ·rintro  h
   replace h:=zSA.symm.trans h
   refine WC.b (WC.a (WL.pu rfl (WL.nil (WX.a (WC.ret ?_)))))
   obtain rfl:=oJ h
   refine WX.yf Tryz.results11 (.tmp rfl .nil) (fun w hw=>?_)
   exact⟨yD rfl,hw.sub .nil⟩
end Go.Proofs.YtcahmabkeaijdaaGreat
namespace Go.Proofs.YtcahmabkeaijdaaGreat
open Go Go.RowKit Sep
set_option maxRecDepth 30000
set_option maxHeartbeats 4000000
end Go.Proofs.YtcahmabkeaijdaaGreat
namespace Go.Proofs.YtcahmabkeaijdaaGreat
open Go Go.RowKit Sep
set_option maxRecDepth 30000
set_option maxHeartbeats 4000000
end Go.Proofs.YtcahmabkeaijdaaGreat
namespace Go.Proofs.YtcahmabkeaijdaaGreat
open Go Go.RowKit Sep
set_option maxRecDepth 30000
set_option maxHeartbeats 4000000
end Go.Proofs.YtcahmabkeaijdaaGreat

/- A part of this claim's proof: models of functions, walks, plain laws. No conditions. -/
import Derived.Test.YthjnhebofpebpaaGreatW36l
set_option linter.all false
namespace Go.Proofs.YthjnhebofpebpaaGreat
open Go Go.RowKit Sep Tryz
variable {f:List yh}{g i l:Int}{j:(List yh)->Option (List yh)}{k:(List yh)->Int->Option (List yh)}
set_option maxRecDepth 30000
set_option maxHeartbeats 4000000
def wX(zi:List yh)(zD:Int)(z1Y:yh->yh->Option Int)(c:Int->Option (List yh)):Nat->Int->Int->Option (List yh)
 | 0,_,_=>none
 | d+1,a,b=>if decide (a<b) then chk (0<=(i64 ((u64 (i64 (a+b))) / 2 ^ min (1:Int).toNat 64))/\(i64 ((u64 (i64 (a+b))) / 2 ^ min (1:Int).toNat 64))<zi.length) (chk (0<=zD/\zD<zi.length) ((z1Y (⟨(nth zi (i64 ((u64 (i64 (a+b))) / 2 ^ min (1:Int).toNat 64))).yd,(nth zi (i64 ((u64 (i64 (a+b))) / 2 ^ min (1:Int).toNat 64))).ya,(nth zi (i64 ((u64 (i64 (a+b))) / 2 ^ min (1:Int).toNat 64))).yc⟩:yh) (⟨(nth zi zD).yd,(nth zi zD).ya,(nth zi zD).yc⟩:yh)).bind fun e=>if decide (e<0) then wX zi zD z1Y c d (i64 ((i64 ((u64 (i64 (a+b))) / 2 ^ min (1:Int).toNat 64))+1)) b else wX zi zD z1Y c d a (i64 ((u64 (i64 (a+b))) / 2 ^ min (1:Int).toNat 64)))) else c a
def wY(c:Int)(d:(List yh)->Option (List yh)):Nat->(List yh)->Int->Option (List yh)
 | 0,_,_=>none
 | e+1,b,a=>if decide (a<(i64 (c-1))) then chk (0<=(i64 (a+1))/\(i64 (a+1))<b.length) (chk (0<=a/\a<b.length) (chk (0<=(i64 (a+1))/\(i64 (a+1))<(((b.set (a:Int).toNat (⟨(nth b (i64 (a+1))).yd,(nth b (i64 (a+1))).ya,(nth b (i64 (a+1))).yc⟩:yh)).length:Nat):Int)) (wY c d e ((b.set (a:Int).toNat (⟨(nth b (i64 (a+1))).yd,(nth b (i64 (a+1))).ya,(nth b (i64 (a+1))).yc⟩:yh)).set ((i64 (a+1)):Int).toNat (⟨(nth b a).yd,(nth b a).ya,(nth b a).yc⟩:yh)) (i64 (a+1))))) else d b
def wZ(m_693888:Int)(zi:List yh)(z1Y:yh->yh->Option Int)(c:Int->Option (List yh)):Nat->Int->Int->Option (List yh)
 | 0,_,_=>none
 | d+1,a,b=>if decide (a<b) then chk (0<=m_693888/\m_693888<zi.length) (chk (0<=(i64 ((u64 (i64 (a+b))) / 2 ^ min (1:Int).toNat 64))/\(i64 ((u64 (i64 (a+b))) / 2 ^ min (1:Int).toNat 64))<zi.length) ((z1Y (⟨(nth zi m_693888).yd,(nth zi m_693888).ya,(nth zi m_693888).yc⟩:yh) (⟨(nth zi (i64 ((u64 (i64 (a+b))) / 2 ^ min (1:Int).toNat 64))).yd,(nth zi (i64 ((u64 (i64 (a+b))) / 2 ^ min (1:Int).toNat 64))).ya,(nth zi (i64 ((u64 (i64 (a+b))) / 2 ^ min (1:Int).toNat 64))).yc⟩:yh)).bind fun e=>if !(decide (e<0)) then wZ m_693888 zi z1Y c d (i64 ((i64 ((u64 (i64 (a+b))) / 2 ^ min (1:Int).toNat 64))+1)) b else wZ m_693888 zi z1Y c d a (i64 ((u64 (i64 (a+b))) / 2 ^ min (1:Int).toNat 64)))) else c a
def vD(c:Int)(d:(List yh)->Option (List yh)):Nat->(List yh)->Int->Option (List yh)
 | 0,_,_=>none
 | e+1,b,a=>if decide (a>c) then chk (0<=(i64 (a-1))/\(i64 (a-1))<b.length) (chk (0<=a/\a<b.length) (chk (0<=(i64 (a-1))/\(i64 (a-1))<(((b.set (a:Int).toNat (⟨(nth b (i64 (a-1))).yd,(nth b (i64 (a-1))).ya,(nth b (i64 (a-1))).yc⟩:yh)).length:Nat):Int)) (vD c d e ((b.set (a:Int).toNat (⟨(nth b (i64 (a-1))).yd,(nth b (i64 (a-1))).ya,(nth b (i64 (a-1))).yc⟩:yh)).set ((i64 (a-1)):Int).toNat (⟨(nth b a).yd,(nth b a).ya,(nth b a).yc⟩:yh)) (i64 (a-1))))) else d b
def wR(zD:Int)(zY:Int)(m_693888:Int)(zi:List yh)(z1Y:yh->yh->Option Int)(c:Int->Option (List yh)):Nat->Int->Int->Option (List yh)
 | 0,_,_=>none
 | d+1,a,b=>if decide (a<b) then chk (0<=(i64 ((i64 ((i64 ((i64 ((u64 (i64 (zD+zY))) / 2 ^ min (1:Int).toNat 64))+m_693888))-1))-(i64 ((u64 (i64 (a+b))) / 2 ^ min (1:Int).toNat 64))))/\(i64 ((i64 ((i64 ((i64 ((u64 (i64 (zD+zY))) / 2 ^ min (1:Int).toNat 64))+m_693888))-1))-(i64 ((u64 (i64 (a+b))) / 2 ^ min (1:Int).toNat 64))))<zi.length) (chk (0<=(i64 ((u64 (i64 (a+b))) / 2 ^ min (1:Int).toNat 64))/\(i64 ((u64 (i64 (a+b))) / 2 ^ min (1:Int).toNat 64))<zi.length) ((z1Y (⟨(nth zi (i64 ((i64 ((i64 ((i64 ((u64 (i64 (zD+zY))) / 2 ^ min (1:Int).toNat 64))+m_693888))-1))-(i64 ((u64 (i64 (a+b))) / 2 ^ min (1:Int).toNat 64))))).yd,(nth zi (i64 ((i64 ((i64 ((i64 ((u64 (i64 (zD+zY))) / 2 ^ min (1:Int).toNat 64))+m_693888))-1))-(i64 ((u64 (i64 (a+b))) / 2 ^ min (1:Int).toNat 64))))).ya,(nth zi (i64 ((i64 ((i64 ((i64 ((u64 (i64 (zD+zY))) / 2 ^ min (1:Int).toNat 64))+m_693888))-1))-(i64 ((u64 (i64 (a+b))) / 2 ^ min (1:Int).toNat 64))))).yc⟩:yh) (⟨(nth zi (i64 ((u64 (i64 (a+b))) / 2 ^ min (1:Int).toNat 64))).yd,(nth zi (i64 ((u64 (i64 (a+b))) / 2 ^ min (1:Int).toNat 64))).ya,(nth zi (i64 ((u64 (i64 (a+b))) / 2 ^ min (1:Int).toNat 64))).yc⟩:yh)).bind fun e=>if !(decide (e<0)) then wR zD zY m_693888 zi z1Y c d (i64 ((i64 ((u64 (i64 (a+b))) / 2 ^ min (1:Int).toNat 64))+1)) b else wR zD zY m_693888 zi z1Y c d a (i64 ((u64 (i64 (a+b))) / 2 ^ min (1:Int).toNat 64)))) else c a
def vr:Nat->(List yh)->Int->Int->Int->(yh->yh->Option Int)->Option (List yh)
 | 0,_,_,_,_,_=>none
 | b+1,zi,zD,m_693888,zY,z1Y=>uN (uN (sm (fun(h:Int) (i:Int)=>qt (fun(a:Int)=>qt (fun(c:List yh)=>qt (fun(d:List yh)=>if (decide ((i64 ((u64 (i64 (zD+zY))) / 2 ^ min (1:Int).toNat 64))<(i64 ((i64 ((i64 ((u64 (i64 (zD+zY))) / 2 ^ min (1:Int).toNat 64))+m_693888))-a))))&&(decide ((i64 ((i64 ((i64 ((u64 (i64 (zD+zY))) / 2 ^ min (1:Int).toNat 64))+m_693888))-a))<zY)) then((vr b) d (i64 ((u64 (i64 (zD+zY))) / 2 ^ min (1:Int).toNat 64)) (i64 ((i64 ((i64 ((u64 (i64 (zD+zY))) / 2 ^ min (1:Int).toNat 64))+m_693888))-a)) zY z1Y).bind fun j=>some j else some d) fun e=>if (decide (zD<a))&&(decide (a<(i64 ((u64 (i64 (zD+zY))) / 2 ^ min (1:Int).toNat 64)))) then((vr b) c zD a (i64 ((u64 (i64 (zD+zY))) / 2 ^ min (1:Int).toNat 64)) z1Y).bind fun k=>e k else e c) fun f=>if (decide (a<m_693888))&&(decide (m_693888<(i64 ((i64 ((i64 ((u64 (i64 (zD+zY))) / 2 ^ min (1:Int).toNat 64))+m_693888))-a)))) then(jF zi a m_693888 (i64 ((i64 ((i64 ((u64 (i64 (zD+zY))) / 2 ^ min (1:Int).toNat 64))+m_693888))-a)) z1Y).bind fun l=>f l else f zi) fun m=>wR zD zY m_693888 zi z1Y m xT h i) fun g=>if decide (m_693888>(i64 ((u64 (i64 (zD+zY))) / 2 ^ min (1:Int).toNat 64))) then g (i64 ((i64 ((i64 ((u64 (i64 (zD+zY))) / 2 ^ min (1:Int).toNat 64))+m_693888))-zY)) (i64 ((u64 (i64 (zD+zY))) / 2 ^ min (1:Int).toNat 64)) else g zD m_693888) fun n=>if decide ((i64 (zY-m_693888))=1) then qt (fun(o:Int)=>qt (fun(p:List yh)=>some p) fun q=>vD o q xT zi m_693888) fun r=>wZ m_693888 zi z1Y r xT zD m_693888 else n) fun s=>if decide ((i64 (m_693888-zD))=1) then qt (fun(t:Int)=>qt (fun(u:List yh)=>some u) fun v=>wY t v xT zi zD) fun w=>wX zi zD z1Y w xT m_693888 zY else s
def jb(zi:List yh)(zD:Int)(m_693888:Int)(zY:Int)(z1Y:yh->yh->Option Int):Option (List yh):=vr xT zi zD m_693888 zY z1Y
theorem pj:∀(n:Nat) (Z:Zp) (z1x:Option Addr) (z1f:Nat) (z3c:FuncId) (z3W:List Value) (zi:List yh) (zD:Int) (m_693888:Int) (zY:Int) (z1Y:yh->yh->Option Int) (r:List yh) (Ny:World) (hz:Pz [row (vs z1x zi.length z1f) 83 3 (zi.flatMap wm)] Ny Z)
  (R:∀ args w,(callFunc z3c args).run Tryz.prog w = .ok (.enter z3c args) w)
  (S:∀ w:World,PZ [] w Z->∀(x0:yh) (x1:yh) (r:Int),z1Y x0 x1=some r->Calls Tryz.prog z3c (([.agg #[vi x0.yd,vi x0.ya,vi x0.yc],.agg #[vi x1.yd,vi x1.ya,vi x1.yc]]:List Value)++z3W).toArray w fun e w'=>e = .returned (vi r)/\Hp [] w w' []) (h:vr n zi zD m_693888 zY z1Y=some r)
  (iF:Hp (fps [row (vs z1x zi.length z1f) 83 3 (zi.flatMap wm)]) Ny Ny [row (vs z1x zi.length z1f) 83 3 (zi.flatMap wm)]),Calls Tryz.prog 171 #[vs z1x zi.length z1f,vi zD,vi m_693888,vi zY,.func (.func z3c) #[] (z3W).toArray] Ny fun e w'=>e = .returned (.tuple #[])/\(r.length=zi.length)/\Hp (fps [row (vs z1x zi.length z1f) 83 3 (zi.flatMap wm)]) Ny w' [row (vs z1x r.length z1f) 83 3 (r.flatMap wm)]:=by
 intro n
 induction n with
 | zero=>intro Z z1x z1f z3c z3W zi zD m_693888 zY z1Y r Ny hz R S h iF;cases h
 | succ bA ih=>
  intro Z z1x z1f z3c z3W zi zD m_693888 zY z1Y r Ny hz R S h iF
  rw[vr] at h
  refine Oa func171 U iF U ?_
  obtain⟨bm,aN,h⟩:=qM h
  let D:Value:=(vs z1x zi.length z1f);let F:Value:=(.func (.func z3c) #[] (z3W).toArray);let J:List Asrt:=[row D 83 3 (zi.flatMap wm)];refine Nf (bm=some r) ([(0,D),(1,vi zD),(2,vi m_693888),(3,vi zY),(4,F)]) J ?_ ?_
  ·refine B4n U<|Lj h (fun aO h=>?_)<|fun aO h=>?_
   ·refine B2n U<|B2n U<|jK1 h fun av aP h=>L6 (fun T=>(av T=some r)) (fun T=>[(0,D),(1,vi zD),(10,vi T)]) (fun T=>J) ?_ ?_
    ·refine WC.block<|H0 (fun ag m v=>(wX zi zD z1Y av ag m v=some r)) (fun ag m v=>[(0,D),(1,vi zD),(4,F),(10,vi m),(11,vi v)]) (fun ag m v=>J) (fun ag m v=>ag) ⟨xT,m_693888,zY⟩ h .q (.cons .here .nil) ?_
     rintro(_|aw) m v h;·cases h
     rw[wX] at h
     refine WC.b<|B3n U<|Lj h (fun aQ h=>?_)<|fun aQ h=>?_
     ·refine Np<|WC.block<|B3q U<|Le 37 (fF underlying3 underlying147)<|Le 38 (Qm U U U)<|Le 39 (fF underlying147 underlying3)<|Q1n U<|WC.b<|cK h fun ah h=>cK h fun ap h=>bK h fun bn aR h=>Lu nc []<|Lf 0 U q_m<|Lf 1 U q_m<|Lf 2 U q_m<|Nk (fun w hw=>Hp.vf .here hw (by intro hz';have:=ah;rw[hz'] at this;omega)) ?_
      rintro⟨bw,rfl⟩
      let G:=(i64 ((u64 (i64 (m+v))) / 2 ^ min (1:Int).toNat 64));refine Lf 3 U (xZ z3e ah.1 ah.2 wF)<|Lg 4 U (wo (cs:=(wm<|nth zi G)) z72<|vQ .here<|wN (enc:=wm) (l:=zi) (i:=i64 ((u64<|i64 (m+v)) / 2 ^ min (1:Int).toNat 64)) (sz:=3) ah.1 ah.2)<|Lf 5 U q_m<|Lf 6 U q_m<|Lf 7 U (xZ z3e ap.1 ap.2 wF)<|Lg 8 U (wo (cs:=(wm<|nth zi zD)) z72<|vQ .here<|wN (enc:=wm) (l:=zi) (i:=zD) (sz:=3) ap.1 ap.2)<|L4 9 U (qk (l:=[.tmp 44,.tmp 48]) (f:=z3c) (caps:=z3W) R<|.r2 U U) (fun w hw=>S w (hz.now hw) (⟨(nth zi G).yd,(nth zi G).ya,(nth zi G).yc⟩:yh) (⟨(nth zi zD).yd,(nth zi zD).ya,(nth zi zD).yc⟩:yh) bn  aR)<|Lf 10 U sY<|N1<|Lb<|Lj h (fun aS h=>?_)<|fun aS h=>?_
      ·exact D3q U<|WL.nil<|Lt<|N0 ⟨aw,i64 (G+1),v⟩ h .q<|.cons .here .nil
      ·exact D2q U<|WL.nil<|Lt<|N0 ⟨aw,m,G⟩ h .q<|.cons .here .nil
     ·exact N2<|Ln<|Ln<|Lv<|Lp m h .q<|.cons .here .nil
    ·rintro T h
     replace h:=(aP T).symm.trans h
     refine jK1 h fun ax aT h=>L6 (fun V=>(ax V=some r)/\(V.length=zi.length)) (fun V=>[]) (fun V=>[row (vs z1x V.length z1f) 83 3 (V.flatMap wm)]) ?_ ?_
     ·refine B2n U<|WC.block<|H0 (fun ab a b=>(wY T ax ab a b=some r)/\(a.length=zi.length)) (fun ab a b=>[(0,vs z1x a.length z1f),(10,vi T),(13,vi b)]) (fun ab a b=>[row (vs z1x a.length z1f) 83 3 (a.flatMap wm)]) (fun ab a b=>ab) ⟨xT,zi,zD⟩ ⟨h,U⟩ .q (.cons .here .nil) ?_
      rintro (_|bo) a b ⟨h,ay⟩;·cases h
      rw[wY] at h
      refine WC.b<|B4n U<|Lj h (fun aU h=>?_)<|fun aU h=>?_
      ·refine Np<|WC.b<|WC.block<|cK h fun ai h=>cK h fun o h=>cK h fun ad h=>Lu (fun i=>[15,17].contains i) []<|Lf 0 U q_m<|Lf 1 U q_m<|Lf 2 U q_m<|Lf 3 U q_m<|Lf 4 U uG<|Lf 5 U q_m<|Lf 6 U q_m<|Lf 7 U uG<|Nk (fun w hw=>Hp.vf .here hw (by intro hz';have:=ai;rw[hz'] at this;omega)) ?_
       rintro⟨aj,rfl⟩
       let M:List Value:=[vi ((nth a (i64 (b+1))).yd),vi ((nth a (i64 (b+1))).ya),vi ((nth a (i64 (b+1))).yc)];let O:List Value:=[vi ((nth a b).yd),vi ((nth a b).ya),vi ((nth a b).yc)];refine Lf 8 U (xZ z3e ai.1 ai.2 wF)<|Lg 9 U (wo (cs:=(wm<|nth a<|i64 (b+1))) z72<|vQ .here<|wN (enc:=wm) (l:=a) (i:=i64 (b+1)) (sz:=3) ai.1 ai.2)<|Lf 10 U q_m<|Lf 11 U q_m<|Lf 12 U (xZ z3e o.1 o.2 wF)<|Lg 13 U (wo (cs:=(wm<|nth a b)) z72<|vQ .here<|wN (enc:=wm) (l:=a) (i:=b) (sz:=3) o.1 o.2)<|Lf 14 U (xZ z3e o.1 o.2 wF)<|WD.forced0 (i:=15) U (wJ.of .nil) (gb (vs:=M) (ds:=(a.set (b:Int).toNat (⟨(nth a<|i64 (b+1)).yd,(nth a<|i64 (b+1)).ya,(nth a<|i64 (b+1)).yc⟩:yh)).flatMap wm) zfL sV .here (mu (enc:=wm) (sz:=3) (k:=0) o.1 o.2)<|mt (enc:=wm) (l:=a) (sz:=3) (vs:=M) (y:=(⟨(nth a<|i64 (b+1)).yd,(nth a<|i64 (b+1)).ya,(nth a<|i64 (b+1)).yc⟩:yh)) (k:=0) o.1 o.2<|Nat.le_of_ble_eq_true U)<|N7 .here (u:=(vs (some ⟨aj,0,none⟩) ((a.set (b:Int).toNat (⟨(nth a<|i64 (b+1)).yd,(nth a<|i64 (b+1)).ya,(nth a<|i64 (b+1)).yc⟩:yh)).length) z1f)) (qD (List.length_set).symm)<|N4 (i:=0) U (u:=(vs (some ⟨aj,0,none⟩) ((a.set (b:Int).toNat (⟨(nth a<|i64 (b+1)).yd,(nth a<|i64 (b+1)).ya,(nth a<|i64 (b+1)).yc⟩:yh)).length) z1f)) (qD (List.length_set).symm)<|N4 (i:=63) U (u:=(vs (some ⟨aj,0,none⟩) ((a.set (b:Int).toNat (⟨(nth a<|i64 (b+1)).yd,(nth a<|i64 (b+1)).ya,(nth a<|i64 (b+1)).yc⟩:yh)).length) z1f)) (qD (List.length_set).symm)<|Lf 16 U (xZ z3e ad.1 ad.2 wF)<|Na (i:=17) U (gb (vs:=O) (ds:=((a.set (b:Int).toNat (⟨(nth a<|i64 (b+1)).yd,(nth a<|i64 (b+1)).ya,(nth a<|i64 (b+1)).yc⟩:yh)).set ((i64 (b+1)):Int).toNat (⟨(nth a b).yd,(nth a b).ya,(nth a b).yc⟩:yh)).flatMap wm) zfL sV .here (mu (enc:=wm) (sz:=3) (k:=0) ad.1 ad.2)<|mt (enc:=wm) (l:=a.set (b:Int).toNat (⟨(nth a<|i64 (b+1)).yd,(nth a<|i64 (b+1)).ya,(nth a<|i64 (b+1)).yc⟩:yh)) (sz:=3) (vs:=O) (y:=(⟨(nth a b).yd,(nth a b).ya,(nth a b).yc⟩:yh)) (k:=0) ad.1 ad.2<|Nat.le_of_ble_eq_true U)<|N7 .here (u:=(vs (some ⟨aj,0,none⟩) (((a.set (b:Int).toNat (⟨(nth a<|i64 (b+1)).yd,(nth a<|i64 (b+1)).ya,(nth a<|i64 (b+1)).yc⟩:yh)).set ((i64 (b+1)):Int).toNat (⟨(nth a b).yd,(nth a b).ya,(nth a b).yc⟩:yh)).length) z1f)) (qD (List.length_set).symm)<|N4 (i:=0) U (u:=(vs (some ⟨aj,0,none⟩) (((a.set (b:Int).toNat (⟨(nth a<|i64 (b+1)).yd,(nth a<|i64 (b+1)).ya,(nth a<|i64 (b+1)).yc⟩:yh)).set ((i64 (b+1)):Int).toNat (⟨(nth a b).yd,(nth a b).ya,(nth a b).yc⟩:yh)).length) z1f)) (qD (List.length_set).symm)<|N1<|Lt<|Lb<|D3q U<|WL.nil ?_
       exact N0 ⟨bo,(a.set (b:Int).toNat (⟨(nth a<|i64 (b+1)).yd,(nth a<|i64 (b+1)).ya,(nth a<|i64 (b+1)).yc⟩:yh)).set ((i64 (b+1)):Int).toNat (⟨(nth a b).yd,(nth a b).ya,(nth a b).yc⟩:yh),i64 (b+1)⟩ ⟨h,(List.length_set).trans ((List.length_set).trans ay)⟩ .q<|.cons .here .nil
      ·exact N2<|Ln<|Ln<|Lv<|Lp a ⟨h,ay⟩ .nil<|.cons .here .nil
     ·rintro V ⟨h,aV⟩
      replace h:=(aT V).symm.trans h
      exact Nz<|Ll<|oJ h▸Li results171 .nil fun w hw=>⟨ms,aV,hw.sub (.cons .here .nil)⟩
   ·exact N3<|Lp () h .q<|.cons .here .nil
  ·rintro  h
   replace h:=aN.symm.trans h
   refine jK0 h fun bp aW h=>Nf (bp=some r) ([(0,D),(1,vi zD),(2,vi m_693888),(3,vi zY),(4,F)]) J ?_ ?_
   ·refine B4n U<|Lj h (fun aX h=>?_)<|fun aX h=>?_
    ·refine B2n U<|B2n U<|jK1 h fun az aY h=>L6 (fun W=>(az W=some r)) (fun W=>[(0,D),(2,vi m_693888),(14,vi W)]) (fun W=>J) ?_ ?_
     ·refine WC.block<|H0 (fun ak p x=>(wZ m_693888 zi z1Y az ak p x=some r)) (fun ak p x=>[(0,D),(2,vi m_693888),(4,F),(14,vi p),(15,vi x)]) (fun ak p x=>J) (fun ak p x=>ak) ⟨xT,zD,m_693888⟩ h .q (.cons .here .nil) ?_
      rintro(_|aA) p x h;·cases h
      rw[wZ] at h
      refine WC.b<|B3n U<|Lj h (fun aZ h=>?_)<|fun aZ h=>?_
      ·refine Np<|WC.block<|B3q U<|Le 89 (fF underlying3 underlying147)<|Le 90 (Qm U U U)<|Le 91 (fF underlying147 underlying3)<|Q1n U<|WC.b<|cK h fun al h=>cK h fun aq h=>bK h fun bq a0 h=>Lu nc []<|Lf 0 U q_m<|Lf 1 U q_m<|Lf 2 U q_m<|Nk (fun w hw=>Hp.vf .here hw (by intro hz';have:=al;rw[hz'] at this;omega)) ?_
       rintro⟨bx,rfl⟩
       let H:=(i64 ((u64 (i64 (p+x))) / 2 ^ min (1:Int).toNat 64));refine Lf 3 U (xZ z3e al.1 al.2 wF)<|Lg 4 U (wo (cs:=(wm<|nth zi m_693888)) z72<|vQ .here<|wN (enc:=wm) (l:=zi) (i:=m_693888) (sz:=3) al.1 al.2)<|Lf 5 U q_m<|Lf 6 U q_m<|Lf 7 U (xZ z3e aq.1 aq.2 wF)<|Lg 8 U (wo (cs:=(wm<|nth zi H)) z72<|vQ .here<|wN (enc:=wm) (l:=zi) (i:=i64 ((u64<|i64 (p+x)) / 2 ^ min (1:Int).toNat 64)) (sz:=3) aq.1 aq.2)<|L4 9 U (qk (l:=[.tmp 96,.tmp 100]) (f:=z3c) (caps:=z3W) R<|.r2 U U) (fun w hw=>S w (hz.now hw) (⟨(nth zi m_693888).yd,(nth zi m_693888).ya,(nth zi m_693888).yc⟩:yh) (⟨(nth zi H).yd,(nth zi H).ya,(nth zi H).yc⟩:yh) bq  a0)<|Lf 10 U sY<|Lf 11 U (Yo U)<|N1<|Lb<|Lj h (fun a1 h=>?_)<|fun a1 h=>?_
       ·exact D3q U<|WL.nil<|Lt<|N0 ⟨aA,i64 (H+1),x⟩ h .q<|.cons .here .nil
       ·exact D2q U<|WL.nil<|Lt<|N0 ⟨aA,p,H⟩ h .q<|.cons .here .nil
      ·exact N2<|Ln<|Ln<|Lv<|Lp p h .q<|.cons .here .nil
     ·rintro W h
      replace h:=(aY W).symm.trans h
      refine jK1 h fun aB a2 h=>L6 (fun X=>(aB X=some r)/\(X.length=zi.length)) (fun X=>[]) (fun X=>[row (vs z1x X.length z1f) 83 3 (X.flatMap wm)]) ?_ ?_
      ·refine B2n U<|WC.block<|H0 (fun ae c d=>(vD W aB ae c d=some r)/\(c.length=zi.length)) (fun ae c d=>[(0,vs z1x c.length z1f),(14,vi W),(17,vi d)]) (fun ae c d=>[row (vs z1x c.length z1f) 83 3 (c.flatMap wm)]) (fun ae c d=>ae) ⟨xT,zi,m_693888⟩ ⟨h,U⟩ .q (.cons .here .nil) ?_
       rintro (_|br) c d ⟨h,aC⟩;·cases h
       rw[vD] at h
       refine WC.b<|B3n U<|Lj h (fun a3 h=>?_)<|fun a3 h=>?_
       ·refine Np<|WC.b<|WC.block<|cK h fun am h=>cK h fun q h=>cK h fun af h=>Lu (fun i=>[15,17].contains i) []<|Lf 0 U q_m<|Lf 1 U q_m<|Lf 2 U q_m<|Lf 3 U q_m<|Lf 4 U uH<|Lf 5 U q_m<|Lf 6 U q_m<|Lf 7 U uH<|Nk (fun w hw=>Hp.vf .here hw (by intro hz';have:=am;rw[hz'] at this;omega)) ?_
        rintro⟨aD,rfl⟩
        let E:Value:=(vs (some ⟨aD,0,none⟩) ((c.set (d:Int).toNat (⟨(nth c (i64 (d-1))).yd,(nth c (i64 (d-1))).ya,(nth c (i64 (d-1))).yc⟩:yh)).length) z1f);let I:Value:=(vs (some ⟨aD,0,none⟩) (((c.set (d:Int).toNat (⟨(nth c (i64 (d-1))).yd,(nth c (i64 (d-1))).ya,(nth c (i64 (d-1))).yc⟩:yh)).set ((i64 (d-1)):Int).toNat (⟨(nth c d).yd,(nth c d).ya,(nth c d).yc⟩:yh)).length) z1f);let N:List Value:=[vi ((nth c (i64 (d-1))).yd),vi ((nth c (i64 (d-1))).ya),vi ((nth c (i64 (d-1))).yc)];let P:List Value:=[vi ((nth c d).yd),vi ((nth c d).ya),vi ((nth c d).yc)];refine Lf 8 U (xZ z3e am.1 am.2 wF)<|Lg 9 U (wo (cs:=(wm<|nth c<|i64 (d-1))) z72<|vQ .here<|wN (enc:=wm) (l:=c) (i:=i64 (d-1)) (sz:=3) am.1 am.2)<|Lf 10 U q_m<|Lf 11 U q_m<|Lf 12 U (xZ z3e q.1 q.2 wF)<|Lg 13 U (wo (cs:=(wm<|nth c d)) z72<|vQ .here<|wN (enc:=wm) (l:=c) (i:=d) (sz:=3) q.1 q.2)<|Lf 14 U (xZ z3e q.1 q.2 wF)<|WD.forced0 (i:=15) U (wJ.of .nil) (gb (vs:=N) (ds:=(c.set (d:Int).toNat (⟨(nth c<|i64 (d-1)).yd,(nth c<|i64 (d-1)).ya,(nth c<|i64 (d-1)).yc⟩:yh)).flatMap wm) zfL sV .here (mu (enc:=wm) (sz:=3) (k:=0) q.1 q.2)<|mt (enc:=wm) (l:=c) (sz:=3) (vs:=N) (y:=(⟨(nth c<|i64 (d-1)).yd,(nth c<|i64 (d-1)).ya,(nth c<|i64 (d-1)).yc⟩:yh)) (k:=0) q.1 q.2<|Nat.le_of_ble_eq_true U)<|N7 .here (u:=E) (qD (List.length_set).symm)<|N4 (i:=0) U (u:=E) (qD (List.length_set).symm)<|N4 (i:=115) U (u:=E) (qD (List.length_set).symm)<|Lf 16 U (xZ z3e af.1 af.2 wF)<|Na (i:=17) U (gb (vs:=P) (ds:=((c.set (d:Int).toNat (⟨(nth c<|i64 (d-1)).yd,(nth c<|i64 (d-1)).ya,(nth c<|i64 (d-1)).yc⟩:yh)).set ((i64 (d-1)):Int).toNat (⟨(nth c d).yd,(nth c d).ya,(nth c d).yc⟩:yh)).flatMap wm) zfL sV .here (mu (enc:=wm) (sz:=3) (k:=0) af.1 af.2)<|mt (enc:=wm) (l:=c.set (d:Int).toNat (⟨(nth c<|i64 (d-1)).yd,(nth c<|i64 (d-1)).ya,(nth c<|i64 (d-1)).yc⟩:yh)) (sz:=3) (vs:=P) (y:=(⟨(nth c d).yd,(nth c d).ya,(nth c d).yc⟩:yh)) (k:=0) af.1 af.2<|Nat.le_of_ble_eq_true U)<|N7 .here (u:=I) (qD (List.length_set).symm)<|N4 (i:=0) U (u:=I) (qD (List.length_set).symm)<|N1<|Lt<|Lb<|D3q U<|WL.nil ?_
        exact N0 ⟨br,(c.set (d:Int).toNat (⟨(nth c<|i64 (d-1)).yd,(nth c<|i64 (d-1)).ya,(nth c<|i64 (d-1)).yc⟩:yh)).set ((i64 (d-1)):Int).toNat (⟨(nth c d).yd,(nth c d).ya,(nth c d).yc⟩:yh),i64 (d-1)⟩ ⟨h,(List.length_set).trans ((List.length_set).trans aC)⟩ .q<|.cons .here .nil
       ·exact N2<|Ln<|Ln<|Lv<|Lp c ⟨h,aC⟩ .nil<|.cons .here .nil
      ·rintro X ⟨h,a4⟩
       replace h:=(a2 X).symm.trans h
       exact Nz<|Ll<|oJ h▸Li results171 .nil fun w hw=>⟨ms,a4,hw.sub (.cons .here .nil)⟩
    ·exact N3<|Lp () h .q<|.cons .here .nil
   ·rintro  h
    replace h:=aW.symm.trans h
    refine B3q U<|Le 132 (fF underlying3 underlying147)<|Le 133 (Qm U U U)<|Le 134 (fF underlying147 underlying3)<|Q1n U<|B4n U<|B2n U ?_
    obtain⟨bs,a5,h⟩:=jV h
    let A:=(i64 ((u64 (i64 (zD+zY))) / 2 ^ min (1:Int).toNat 64));let Q:Value:=(vi (i64 (A+m_693888)));refine H6 (fun Y aa=>(bs Y aa=some r)) (fun Y aa=>[(0,D),(1,vi zD),(2,vi m_693888),(3,vi zY),(4,F),(18,vi A),(19,Q),(20,vi Y),(21,vi aa)]) (fun Y aa=>J) ?_ ?_
    ·refine B3n U<|Lj h (fun a6 h=>?_)<|fun a6 h=>?_
     ·exact B4n U<|D2q U<|WL.nil<|Lp ⟨i64 ((i64 (A+m_693888))-zY),A⟩ h .q<|.cons .here .nil
     ·exact B2n U<|D2q U<|WL.nil<|Lp ⟨zD,m_693888⟩ h .q<|.cons .here .nil
    ·rintro Y aa h
     replace h:=(a5 Y aa).symm.trans h
     refine B3n U<|jK1 h fun aE a7 h=>L6 (fun g=>(aE g=some r)) (fun g=>[(0,D),(1,vi zD),(2,vi m_693888),(3,vi zY),(4,F),(18,vi A),(19,Q),(20,vi g)]) (fun g=>J) ?_ ?_
     ·let L:=(i64 ((i64 (A+m_693888))-1));refine WC.block<|H0 (fun an s z=>(wR zD zY m_693888 zi z1Y aE an s z=some r)) (fun an s z=>[(0,D),(1,vi zD),(2,vi m_693888),(3,vi zY),(4,F),(18,vi A),(19,Q),(20,vi s),(21,vi z),(22,vi L)]) (fun an s z=>J) (fun an s z=>an) ⟨xT,Y,aa⟩ h .q (.cons .here .nil) ?_
      rintro(_|aF) s z h;·cases h
      rw[wR] at h
      refine WC.b<|B3n U<|Lj h (fun a8 h=>?_)<|fun a8 h=>?_
      ·refine Np<|WC.block<|B3q U<|Le 155 (fF underlying3 underlying147)<|Le 156 (Qm U U U)<|Le 157 (fF underlying147 underlying3)<|Q1n U<|WC.b<|cK h fun ao h=>cK h fun ar h=>bK h fun bt a9 h=>Lu nc []<|Lf 0 U q_m<|Lf 1 U q_m<|Lf 2 U q_m<|Lf 3 U q_m<|Lf 4 U uH<|Nk (fun w hw=>Hp.vf .here hw (by intro hz';have:=ao;rw[hz'] at this;omega)) ?_
       rintro⟨bz,rfl⟩
       let C:=(i64 ((u64 (i64 (s+z))) / 2 ^ min (1:Int).toNat 64));refine Lf 5 U (xZ z3e ao.1 ao.2 wF)<|Lg 6 U (wo (cs:=(wm<|nth zi<|i64 (L-C))) z72<|vQ .here<|wN (enc:=wm) (l:=zi) (i:=i64 (L-C)) (sz:=3) ao.1 ao.2)<|Lf 7 U q_m<|Lf 8 U q_m<|Lf 9 U (xZ z3e ar.1 ar.2 wF)<|Lg 10 U (wo (cs:=(wm<|nth zi C)) z72<|vQ .here<|wN (enc:=wm) (l:=zi) (i:=i64 ((u64<|i64 (s+z)) / 2 ^ min (1:Int).toNat 64)) (sz:=3) ar.1 ar.2)<|L4 11 U (qk (l:=[.tmp 164,.tmp 168]) (f:=z3c) (caps:=z3W) R<|.r2 U U) (fun w hw=>S w (hz.now hw) (⟨(nth zi<|i64 (L-C)).yd,(nth zi<|i64 (L-C)).ya,(nth zi<|i64 (L-C)).yc⟩:yh) (⟨(nth zi C).yd,(nth zi C).ya,(nth zi C).yc⟩:yh) bt  a9)<|Lf 12 U sY<|Lf 13 U (Yo U)<|N1<|Lb<|Lj h (fun ba h=>?_)<|fun ba h=>?_
       ·exact D3q U<|WL.nil<|Lt<|N0 ⟨aF,i64 (C+1),z⟩ h .q<|.cons .here .nil
       ·exact D2q U<|WL.nil<|Lt<|N0 ⟨aF,s,C⟩ h .q<|.cons .here .nil
      ·exact N2<|Ln<|Ln<|Lv<|Lp s h .q<|.cons .here .nil
     ·rintro g h
      replace h:=(a7 g).symm.trans h
      refine B4n U ?_
      obtain⟨bu,bb,h⟩:=wg h
      let K:=(i64 ((i64 (A+m_693888))-g));refine L6 (fun j=>(bu j=some r)/\(j.length=zi.length)) (fun j=>[(0,vs z1x j.length z1f),(1,vi zD),(3,vi zY),(4,F),(18,vi A),(20,vi g),(24,vi K)]) (fun j=>[row (vs z1x j.length z1f) 83 3 (j.flatMap wm)]) ?_ ?_
      ·refine B0q<|La U<|La U<|La U<|La U<|Ly true 3 181 (B:=(decide (g<m_693888))&&(decide (m_693888<K))) (fun _ bc=>?_) ?_
       ·exact La U<|La U<|La U<|La U<|Lz (kR bc) U .all
       refine Q0n<|Lj h (fun bd h=>?_)<|fun bd h=>?_
       ·refine bK h fun aG be h=>Ld<|La U<|La U<|La U<|La U<|La U<|Nc U (Nt call203) (.cons .here .nil) (cc hz (.cons .here .nil) fun w pz ho=>oN (zfp:=z3c) (zlH:=z3W) (z7N:=z1Y) be pz R S ho) ?_
        rintro  aH
        exact L9 (i:=0) U (u:=(vs z1x aG.length z1f)) (qD aH.symm)<|WL.nil<|Lp aG ⟨h,aH.trans U⟩ .q<|.cons .here .nil
       ·exact N3<|Lp zi ⟨h,U⟩ .q<|.cons .here .nil
      ·rintro j ⟨h,aI⟩
       replace h:=(bb j).symm.trans h
       refine jK1 h fun bv bf h=>L6 (fun t=>(bv t=some r)/\(t.length=zi.length)) (fun t=>[(0,vs z1x t.length z1f),(3,vi zY),(4,F),(18,vi A),(24,vi K)]) (fun t=>[row (vs z1x t.length z1f) 83 3 (t.flatMap wm)]) ?_ ?_
       ·refine B0q<|La U<|La U<|La U<|La U<|Ly true 3 195 (B:=(decide (zD<g))&&(decide (g<A))) (fun _ bg=>?_) ?_
        ·exact La U<|La U<|La U<|La U<|Lz (kR bg) U .all
        refine Q0n<|Lj h (fun bh h=>?_)<|fun bh h=>?_
        ·refine bK h fun au bi h=>Ld<|La U<|La U<|La U<|La U<|La U<|Nc U (Nt call171) (.cons .here .nil) (cc hz (.cons .here .nil) fun w pz ho=>ih (Z:=_) (z1x:=z1x) (z1f:=z1f) (z3c:=z3c) (z3W:=z3W) (zi:=j) (zD:=zD) (m_693888:=g) (zY:=A) (z1Y:=z1Y) (r:=au) w pz R S bi ho) ?_
         rintro  aJ
         exact L9 (i:=0) U (u:=(vs z1x au.length z1f)) (qD aJ.symm)<|WL.nil<|Lp au ⟨h,aJ.trans aI⟩ .q<|.cons .here .nil
        ·exact N3<|Lp j ⟨h,aI⟩ .q<|.cons .here .nil
       ·rintro t ⟨h,aK⟩
        replace h:=(bf t).symm.trans h
        refine B0q<|La U<|La U<|La U<|La U<|Ly true 3 209 (B:=(decide (A<K))&&(decide (K<zY))) (fun _ bj=>?_) ?_
        ·exact La U<|La U<|La U<|La U<|Lz (kR bj) U .all
        refine Q0n<|Lj h (fun bk h=>?_)<|fun bk h=>?_
        ·refine bK h fun aL bl h=>Ld<|La U<|La U<|La U<|La U<|La U<|Nc U (Nt call171) (.cons .here .nil) (cc hz (.cons .here .nil) fun w pz ho=>ih (Z:=_) (z1x:=z1x) (z1f:=z1f) (z3c:=z3c) (z3W:=z3W) (zi:=t) (zD:=A) (m_693888:=K) (zY:=zY) (z1Y:=z1Y) (r:=aL) w pz R S bl ho) ?_
         rintro  aM
         exact L9 (i:=0) U (u:=(vs z1x aL.length z1f)) (qD aM.symm)<|WL.nil<|oJ h▸Nh results171 .nil fun w hw=>⟨ms,aM.trans aK,hw.sub (.cons .here .nil)⟩
        ·exact N3<|oJ h▸Nh results171 .nil fun w hw=>⟨ms,aK,hw.sub (.cons .here .nil)⟩
theorem uQ{Z}(z1x z1f z3c z3W zi zD m_693888 zY z1Y r){Ny}(hz:Pz [row (vs z1x zi.length z1f) 83 3 (zi.flatMap wm)] Ny Z)(a:∀ args w,(callFunc z3c args).run Tryz.prog w = .ok (.enter z3c args) w)(b:∀ w:World,PZ [] w Z->∀(x0:yh) (x1:yh) (r:Int),z1Y x0 x1=some r->Calls Tryz.prog z3c (([.agg #[vi x0.yd,vi x0.ya,vi x0.yc],.agg #[vi x1.yd,vi x1.ya,vi x1.yc]]:List Value)++z3W).toArray w fun e w'=>e = .returned (vi r)/\Hp [] w w' [])(h:jb zi zD m_693888 zY z1Y=some r)(iF:Ho Ny [row (vs z1x zi.length z1f) 83 3 (zi.flatMap wm)]):Calls Tryz.prog 171 #[vs z1x zi.length z1f,vi zD,vi m_693888,vi zY,.func (.func z3c) #[] (z3W).toArray] Ny fun e w'=>e = .returned (.tuple #[])/\(r.length=zi.length)/\Hp (fps [row (vs z1x zi.length z1f) 83 3 (zi.flatMap wm)]) Ny w' [row (vs z1x r.length z1f) 83 3 (r.flatMap wm)]:=pj xT Z z1x z1f z3c z3W zi zD m_693888 zY z1Y r Ny hz a b h iF
def vh(b:Int)(z3k:yh->yh->Option Int)(c:(List yh)->Int->Option (List yh)):Nat->(List yh)->Int->Int->Option (List yh)
 | 0,_,_,_=>none
 | f+1,d,e,a=>if decide (a<=b) then(vk d e a z3k).bind fun g=>vh b z3k c f g a (i64 (a+20)) else c d e
def vN(d:Int)(b:Int)(z3k:yh->yh->Option Int)(e:(List yh)->Int->Option (List yh)):Nat->(List yh)->Int->Int->Option (List yh)
 | 0,_,_,_=>none
 | g+1,f,c,a=>if decide (a<=d) then(jb f c (i64 (c+b)) a z3k).bind fun h=>vN d b z3k e g h a (i64 (a+(i64 (2*b)))) else e f c
def vj(b:Int)(z3k:yh->yh->Option Int)(d:(List yh)->Option (List yh)):Nat->(List yh)->Int->Option (List yh)
 | 0,_,_=>none
 | h+1,e,a=>if decide (a<b) then qt (fun(i:List yh)=>vj b z3k d h i (i64 (a*2))) fun j=>sm (fun(f:List yh) (c:Int)=>qt (fun k=>j k) fun g=>if decide ((i64 (c+a))<b) then(jb f c (i64 (c+a)) b z3k).bind fun l=>g l else g f) fun m=>vN b a z3k m xT e 0 (i64 (2*a)) else d e
def kX(b:List yh)(a:Int)(z3k:yh->yh->Option Int):Option (List yh):=
 sm (fun(c:List yh) (d:Int)=>(vk c d a z3k).bind fun e=>qt (fun(f:List yh)=>some f) fun g=>vj a z3k g xT e 20) fun h=>vh a z3k h xT b 0 20
theorem oO{Z a b}(z8B z9Z){c f}(z3k){r}(h:kX c f z3k=some r){Ny}(hz:Pz [row (vs a c.length b) 83 3 (c.flatMap wm)] Ny Z)(D:∀ args w,(callFunc z8B args).run Tryz.prog w = .ok (.enter z8B args) w)(E:∀ w:World,PZ [] w Z->∀(x0:yh) (x1:yh) (r:Int),z3k x0 x1=some r->Calls Tryz.prog z8B (([.agg #[vi x0.yd,vi x0.ya,vi x0.yc],.agg #[vi x1.yd,vi x1.ya,vi x1.yc]]:List Value)++z9Z).toArray w fun e w'=>e = .returned (vi r)/\Hp [] w w' [])(iF:Ho Ny [row (vs a c.length b) 83 3 (c.flatMap wm)]):
  Calls Tryz.prog 139 #[vs a c.length b,vi f,.func (.func z8B) #[] (z9Z).toArray] Ny fun e w'=>e = .returned (.tuple #[])/\(r.length=c.length)/\Hp (fps [row (vs a c.length b) 83 3 (c.flatMap wm)]) Ny w' [row (vs a r.length b) 83 3 (r.flatMap wm)]:=by
 unfold kX at h
 refine N8 func139 U iF U<|B1n U<|B3n U ?_
 obtain⟨H,V,h⟩:=jV h
 let A:Value:=(.func (.func z8B) #[] (z9Z).toArray);refine H6 (fun o y=>(H o y=some r)/\(o.length=c.length)) (fun o y=>[(0,vs a o.length b),(1,vi f),(2,A),(6,vi 20),(7,vi y)]) (fun o y=>[row (vs a o.length b) 83 3 (o.flatMap wm)]) ?_ ?_
 ·refine WC.block<|Cv (fun z l x s=>(vh f z3k H z l x s=some r)/\(l.length=c.length)) (fun z l x s=>[(0,vs a l.length b),(1,vi f),(2,A),(6,vi 20),(7,vi x),(8,vi s)]) (fun z l x s=>[row (vs a l.length b) 83 3 (l.flatMap wm)]) (fun z l x s=>z) ⟨xT,c,0,20⟩ ⟨h,U⟩ .q (.cons .here .nil) ?_
  rintro (_|ao) l x s ⟨h,I⟩;·cases h
  rw[vh] at h
  refine WC.b<|B3n U<|Lj h (fun W h=>?_)<|fun W h=>?_
  ·refine Np<|WC.block<|WC.b<|bK h fun J X h=>D4q U<|Nc U (Nt call170) (.cons .here .nil) (cc hz (.cons .here .nil) fun w pz ho=>mS (zbW:=z8B) (zfk:=z9Z) (z6X:=z3k) X pz D E ho) ?_
   rintro  K
   exact L9 (i:=0) U (u:=(vs a J.length b)) (qD K.symm)<|Q0n<|B2n U<|D4q U<|WL.nil<|Lt<|N0 ⟨ao,J,s,i64 (s+20)⟩ ⟨h,K.trans I⟩ .q<|.cons .here .nil
  ·exact N2<|Ln<|Ln<|Lv<|Lp ⟨l,x⟩ ⟨h,I⟩ .q<|.cons .here .nil
 ·rintro o y ⟨h,Y⟩
  replace h:=(V o y).symm.trans h
  refine WC.b<|bK h fun L aa h=>D4q U<|Nc U (Nt call170) (.cons .here .nil) (cc hz (.cons .here .nil) fun w pz ho=>mS (zbW:=z8B) (zfk:=z9Z) (z6X:=z3k) aa pz D E ho) ?_
  rintro  M
  refine L9 (i:=0) U (u:=(vs a L.length b)) (qD M.symm)<|Q0n<|jK1 h fun N ab h=>On (fun t=>(N t=some r)/\(t.length=c.length)) (fun t=>[]) (fun t=>[row (vs a t.length b) 83 3 (t.flatMap wm)]) ?_ ?_
  ·refine WC.block<|H0 (fun B g d=>(vj f z3k N B g d=some r)/\(g.length=c.length)) (fun B g d=>[(0,vs a g.length b),(1,vi f),(2,A),(6,vi d)]) (fun B g d=>[row (vs a g.length b) 83 3 (g.flatMap wm)]) (fun B g d=>B) ⟨xT,L,20⟩ ⟨h,M.trans Y⟩ .q (.cons .here .nil) ?_
   rintro (_|ap) g d ⟨h,O⟩;·cases h
   rw[vj] at h
   refine WC.b<|B3n U<|Lj h (fun ad h=>?_)<|fun ad h=>?_
   ·refine Np<|jK1 h fun aq ae h=>On (fun m=>(aq m=some r)/\(m.length=c.length)) (fun m=>[(0,vs a m.length b),(1,vi f),(2,A),(6,(vi<|i64 (d*2)))]) (fun m=>[row (vs a m.length b) 83 3 (m.flatMap wm)]) ?_ ?_
    ·refine WC.block<|B4n U<|jK2 h fun P af h=>H6 (fun j v=>(P j v=some r)/\(j.length=c.length)) (fun j v=>[(0,vs a j.length b),(1,vi f),(2,A),(6,vi d),(7,vi v)]) (fun j v=>[row (vs a j.length b) 83 3 (j.flatMap wm)]) ?_ ?_
     ·refine WC.block<|Cv (fun C k p q=>(vN f d z3k P C k p q=some r)/\(k.length=c.length)) (fun C k p q=>[(0,vs a k.length b),(1,vi f),(2,A),(6,vi d),(7,vi p),(8,vi q)]) (fun C k p q=>[row (vs a k.length b) 83 3 (k.flatMap wm)]) (fun C k p q=>C) ⟨xT,g,0,i64 (2*d)⟩ ⟨h,O⟩ .q (.cons .here .nil) ?_
      rintro (_|ar) k p q ⟨h,Q⟩;·cases h
      rw[vN] at h
      refine WC.b<|B3n U<|Lj h (fun ag h=>?_)<|fun ag h=>?_
      ·refine Np<|WC.block<|WC.b<|bK h fun F ah h=>Ld<|La U<|La U<|La U<|La U<|La U<|La U<|La U<|Nc U (Nt call171) (.cons .here .nil) (cc hz (.cons .here .nil) fun w pz ho=>uQ (z1x:=a) (z1f:=b) (z3c:=z8B) (z3W:=z9Z) (zi:=k) (zD:=p) (m_693888:=(i64 (p+d))) (zY:=q) (z1Y:=z3k) (r:=F) pz D E ah ho) ?_
       rintro  R
       exact L9 (i:=0) U (u:=(vs a F.length b)) (qD R.symm)<|Q0n<|B2n U<|Ld<|La U<|La U<|La U<|La U<|La U<|WL.nil<|Lt<|N0 ⟨ar,F,q,i64 (q+(i64 (2*d)))⟩ ⟨h,R.trans Q⟩ .q<|.cons .here .nil
      ·exact N2<|Ln<|Ln<|Lv<|Lp ⟨k,p⟩ ⟨h,Q⟩ .q<|.cons .here .nil
     ·rintro j v ⟨h,S⟩
      replace h:=(af j v).symm.trans h
      refine jK1 h fun au ai h=>L6 (fun n=>(au n=some r)/\(n.length=c.length)) (fun n=>[(0,vs a n.length b),(1,vi f),(2,A),(6,vi d)]) (fun n=>[row (vs a n.length b) 83 3 (n.flatMap wm)]) ?_ ?_
      ·refine B4n U<|B3n U<|Lj h (fun aj h=>?_)<|fun aj h=>?_
       ·refine bK h fun G ak h=>Ld<|La U<|La U<|La U<|La U<|La U<|Nc U (Nt call171) (.cons .here .nil) (cc hz (.cons .here .nil) fun w pz ho=>uQ (z1x:=a) (z1f:=b) (z3c:=z8B) (z3W:=z9Z) (zi:=j) (zD:=v) (m_693888:=(i64 (v+d))) (zY:=f) (z1Y:=z3k) (r:=G) pz D E ak ho) ?_
        rintro  T
        exact L9 (i:=0) U (u:=(vs a G.length b)) (qD T.symm)<|WL.nil<|Lp G ⟨h,T.trans S⟩ .q<|.cons .here .nil
       ·exact N3<|Lp j ⟨h,S⟩ .q<|.cons .here .nil
      ·rintro n ⟨h,al⟩
       replace h:=(ai n).symm.trans h
       exact D3q U<|WL.nil<|Lt<|Lp n ⟨h,al⟩ .q<|.cons .here .nil
    ·rintro m ⟨h,am⟩
     replace h:=(ae m).symm.trans h
     exact N0 ⟨ap,m,i64 (d*2)⟩ ⟨h,am⟩ .q<|.cons .here .nil
   ·exact N2<|Ln<|Ln<|Lv<|Lp g ⟨h,O⟩ .nil<|.cons .here .nil
  ·rintro t ⟨h,an⟩
   replace h:=(ab t).symm.trans h
   exact oJ h▸Nh results139 .nil fun w hw=>⟨ms,an,hw.sub (.cons .here .nil)⟩
def qi(a:List yh)(zto:yh->yh->Option Int):Option (List yh):=
 (kX a (a.length:Int) zto).bind fun b=>some b
theorem sT{Z b c}(ztp zCo){a}(zto){r}(h:qi a zto=some r){Ny}(hz:Pz [row (vs b a.length c) 83 3 (a.flatMap wm)] Ny Z)(f:∀ args w,(callFunc ztp args).run Tryz.prog w = .ok (.enter ztp args) w)(g:∀ w:World,PZ [] w Z->∀(x0:yh) (x1:yh) (r:Int),zto x0 x1=some r->Calls Tryz.prog ztp (([.agg #[vi x0.yd,vi x0.ya,vi x0.yc],.agg #[vi x1.yd,vi x1.ya,vi x1.yc]]:List Value)++zCo).toArray w fun e w'=>e = .returned (vi r)/\Hp [] w w' [])(iF:Ho Ny [row (vs b a.length c) 83 3 (a.flatMap wm)]):
  Calls Tryz.prog 90 #[vs b a.length c,.func (.func ztp) #[] (zCo).toArray] Ny fun e w'=>e = .returned (.tuple #[])/\(r.length=a.length)/\Hp (fps [row (vs b a.length c) 83 3 (a.flatMap wm)]) Ny w' [row (vs b r.length c) 83 3 (r.flatMap wm)]:=by
 unfold qi at h
 refine Nj func90 U iF U<|bK h fun k j h=>D2q U<|Le 6 (wc underlying79)<|La U<|Nc U (Nt call139) (.cons .here .nil) (cc hz (.cons .here .nil) fun w pz ho=>oO (z8B:=ztp) (z9Z:=zCo) (z3k:=zto) j pz f g ho) ?_
 rintro  d
 let A:Value:=(vs b k.length c);refine L9 (i:=0) U (u:=A) (qD d.symm)<|L9 (i:=5) U (u:=A) (qD d.symm)<|WL.nil ?_
 exact oJ h▸Nh results90 .nil fun w hw=>⟨ms,d.trans U,hw.sub (.cons .here .nil)⟩
def qV(a:List yh):Option (List yh):=
 (qi a (fun y0 y1=>mj y0 y1)).bind fun b=>some b
theorem ba{Z b c a r}(h:qV a=some r){Ny}(hz:Pz [row (vs b a.length c) 83 3 (a.flatMap wm)] Ny Z)(iF:Ho Ny [row (vs b a.length c) 83 3 (a.flatMap wm)]):
  Calls Tryz.prog 49 #[vs b a.length c] Ny fun e w'=>e = .returned (vs b r.length c)/\(r.length=a.length)/\Hp (fps [row (vs b a.length c) 83 3 (a.flatMap wm)]) Ny w' [row (vs b r.length c) 83 3 (r.flatMap wm)]:=by
 unfold qV at h
 refine Bl func49 U iF U<|B1n U<|WC.b<|bK h fun g f h=>D1q U<|Nc U (Nt call90) (.cons .here .nil) (cc hz (.cons .here .nil) fun w pz ho=>sT (ztp:=91) (zCo:=[]) (zto:=(fun y0 y1=>mj y0 y1)) f pz call91 (fun w' hz' y0 y1  r  hr=>aV hr hz' ) ho) ?_
 rintro  d
 exact L9 (i:=0) U (u:=(vs b g.length c)) (qD d.symm)<|Q0n<|B2n U<|Nz<|oJ h▸Li results49 (.tmp U .nil) fun w hw=>⟨w3,d.trans U,hw.sub (.cons .here .nil)⟩
def fw(b:List yK)(c:List (List zd))(g:zy)(e:(List yr)->Option (List yh×List yh×Int)):Nat->Int->(List yr)->Option (List yh×List yh×Int)
 | 0,_,_=>none
 | h+1,a,d=>if decide (a<b.length) then qt (fun(i:List yr)=>fw b c g e h (i64 (a+1)) i) fun f=>chk (0<=a/\a<b.length) (chk (0<=((nth b a).yt)/\((nth b a).yt)<c.length) (if decide ((((nth c ((nth b a).yt)).length:Nat):Int)>0) then chk ((0:Int)<=0/\0<(((nth c ((nth b a).yt)).length:Nat):Int)) ((f9 g c b ([]:List (z6×yC)) d [] [] ((nth (nth c ((nth b a).yt)) 0).ya) ((nth b a).yc) (-1) a).bind fun j=>f j) else f d)) else e d
def fx(i:zy)(c:List (List zd))(d:List yK)(e:(List yr)->(List yh)->(List yh)->(List (z6×yC))->Option (List yh×List yh×Int)):Nat->(List yr)->(List yh)->(List yh)->(List (z6×yC))->Option (List yh×List yh×Int)
 | 0,_,_,_,_=>none
 | j+1,b,f,g,h=>if decide ((b.length:Int)>0) then(uj i c d h b f g).bind fun a=>fx i c d e j a.1 a.2.1 a.2.2.1 a.2.2.2 else e b f g h
def mN(a:zy)(d:Int)(b:List (List zd))(c:List yK):Option (List yh×List yh×Int):=
 (gc a d b).bind fun e=>if !e then some (([]:List yh),([]:List yh),310) else(tc a c).bind fun f=>if !f then some (([]:List yh),([]:List yh),311) else qt (fun(g:List yr)=>jp4 (fun(n:List yr) (h:List yh) (i:List yh) (o:List (z6×yC))=>(qV h).bind fun j=>(qV i).bind fun k=>some (j,k,0)) fun l=>fx a b c l xT g ([]:List yh) ([]:List yh) ([]:List (z6×yC))) fun m=>fw c b a m xT 0 ([]:List yr)
theorem ab{Z az aA aB aC aD aE aF aG aH aI aJ aK aL aM aN aO aP aQ aR aS a aT W y r}(h:mN a aT W y=some r){Ny}(hz:PZ [] Ny Z)(am:ZS Z 4 (kB Z) az aA a.fM)(an:ZS Z 4 (g8 Z) aB aC a.ye)(ao:ZS Z 4 (rq kr) aD aE a.fS)(ap:ZS Z 4 (rq gH) aF aG a.fK)(aq:ZS Z 7 (g7 Z) aH aI a.yb)(ar:ZS Z 5 (rq gf) aJ aK a.fH)(au:ZS Z 3 (g9 Z) aL aM a.fU)(av:ZS Z 4 (rq gg) aN aO a.yf)(aw:ZS Z 1 (fm Z) aP aQ W)(ax:ZS Z 3 (rq tH) aR aS y):
  Calls Tryz.prog 21 #[.agg #[vs az a.fM.length aA,vs aB a.ye.length aC,vs aD a.fS.length aE,vs aF a.fK.length aG,vs aH a.yb.length aI,vs aJ a.fH.length aK,vs aL a.fU.length aM,vs aN a.yf.length aO],vi aT,vs aP W.length aQ,vs aR y.length aS] Ny fun e w'=>∃ aV:Option Addr,∃ aW:Nat,∃ aX:Option Addr,∃ aY:Nat,e = .returned (.tuple #[vs aV r.1.length aW,vs aX r.2.1.length aY,vi r.2.2])/\True/\Hp [] Ny w' [row (vs aV r.1.length aW) 83 3 (r.1.flatMap wm),row (vs aX r.2.1.length aY) 83 3 (r.2.1.flatMap wm)]:=by
 unfold mN at h
 refine Oq func21 U U ?_
 let E:Value:=(vs az a.fM.length aA);let F:Value:=(vs aB a.ye.length aC);let G:Value:=(vs aD a.fS.length aE);let H:Value:=(vs aF a.fK.length aG);let I:Value:=(vs aH a.yb.length aI);let J:Value:=(vs aJ a.fH.length aK);let K:Value:=(vs aL a.fU.length aM);let L:Value:=(vs aN a.yf.length aO);let A:List Value:=[E,F,G,H,I,J,K,L];refine B0q<|Lh 4 (we (cs:=A)) ?_
 intro a2 _
 refine La U<|La U<|La U<|WL.nil<|Lb<|WC.b<|WC.block<|WC.b<|bK h fun bU a3 h=>Ld<|Le 16 (xN z2A (xO .here))<|Q2q U<|Ns call22 hz (fun pz=>tK a3 pz am an ao ap aq ar au av aw)<|Q2n U<|Lj h (fun a4 h=>?_)<|fun a4 h=>?_
 ·exact B3n U<|Nz<|Lx<|Ll<|WX.nilRow 83 3<|WX.nilRow 83 3<|oJ h▸Li results21 (.tmp U<|.tmp U<|.tmp U .nil) fun w hw=>⟨none,0,none,0,Mq U U U,trivial,hw.sub (.s2 .h1 .here)⟩
 ·refine WC.b<|bK h fun bV a5 h=>Ld<|Le 22 (xN z2A (xO .here))<|La U<|Ns call46 hz (fun pz=>Xy a5 pz am an ao ap aq ar au av ax)<|Q2n U<|Lj h (fun a6 h=>?_)<|fun a6 h=>?_
  ·exact B3n U<|Nz<|Lx<|Ll<|WX.nilRow 83 3<|WX.nilRow 83 3<|oJ h▸Li results21 (.tmp U<|.tmp U<|.tmp U .nil) fun w hw=>⟨none,0,none,0,Mq U U U,trivial,hw.sub (.s2 .h1 .here)⟩
  ·refine N3<|Lt<|Lb<|B0q<|Le 26 (xN z2A (xO .here))<|Q2q U<|Lh 29 (kq (ga gr) Value.pointer) ?_
   intro b _
   let C:Value:=(vs aP W.length aQ);let D:Value:=(vs aR y.length aS);refine Ob (M:=[wM z2U ([]:List (z6×((Nat×(Option Addr×Nat))×yC))),xP b (ga gr) Value.pointer (jO ([]:List (z6×((Nat×(Option Addr×Nat))×yC)))),stb a2 31 A]) (fun _ h=>Hp.eS z2U h)<|Le 30 (wl (v:=(.agg #[E,F,G,H,I,J,K,L,C,D,(.map<|some b),vn,vn,vn])) (Lq (l:=[.tmp 26,.tmp 27,.tmp 28,.tmp 29]) (.r4 U U U U) [0,1,2,3]))<|Lh 31 (we (cs:=[E,F,G,H,I,J,K,L,C,D,(.map<|some b),vn,vn,vn])) ?_
   intro c _
   refine Q1n U<|jK1 h fun aZ a7 h=>Ni (fun f X Y=>(aZ f=some r)) (fun f X Y=>[(11,vp c)]) (fun f X Y=>[stb c 134 [E,F,G,H,I,J,K,L,C,D,(.map<|some b),vs X f.length Y,vn,vn],row (vs X f.length Y) 188 7 (f.flatMap wI),xP b (ga gr) Value.pointer (jO ([]:List (z6×((Nat×(Option Addr×Nat))×yC)))),wM z2U ([]:List (z6×((Nat×(Option Addr×Nat))×yC)))]) ?_ ?_
   ·let N:Value:=(vi (y.length:Int));refine B1q U<|Le 33 (wc underlying77)<|Q1n U<|WC.block<|WC.nilRow 188 7<|Oe (fun aj p d q s=>(fw y W a aZ aj p d=some r)) (fun aj p d q s=>[(2,C),(11,vp c),(32,D),(33,N),(34,vi p)]) (fun aj p d q s=>[stb c 134 [E,F,G,H,I,J,K,L,C,D,(.map<|some b),vs q d.length s,vn,vn],row (vs q d.length s) 188 7 (d.flatMap wI),xP b (ga gr) Value.pointer (jO ([]:List (z6×((Nat×(Option Addr×Nat))×yC)))),wM z2U ([]:List (z6×((Nat×(Option Addr×Nat))×yC)))]) (fun aj p d q s=>aj) ⟨xT,0,([]:List yr),none,0⟩ h .q (.s4 .h1 .here .h1 .here) ?_
    rintro(_|bA) p d q s h;·cases h
    rw[fw] at h
    refine B1n U<|WC.b<|Lj h (fun a8 h=>?_)<|fun a8 h=>?_
    ·refine Np<|jK1 h fun bB a9 h=>Ni (fun g aa ad=>(bB g=some r)) (fun g aa ad=>[(2,C),(11,vp c),(32,D),(33,N),(34,vi p)]) (fun g aa ad=>[stb c 134 [E,F,G,H,I,J,K,L,C,D,(.map<|some b),vs aa g.length ad,vn,vn],row (vs aa g.length ad) 188 7 (g.flatMap wI),xP b (ga gr) Value.pointer (jO ([]:List (z6×((Nat×(Option Addr×Nat))×yC)))),wM z2U ([]:List (z6×((Nat×(Option Addr×Nat))×yC)))]) ?_ ?_
     ·refine WC.block<|WC.b<|cK h fun bb h=>D1q U<|L2 (Z:=Z) (Pr:=(rq tH)) zfJ ax bb ?_
      rintro bE bF bc bG rfl
      refine Le 38 (xN zMp (qB hz.pv bc)) (Lh 13 (xV (cs:=[vi 0,vi 0,vi 0]) zMq U) fun bH _=>La U<|Lk (xR zMr .here)<|Q0n<|WC.b ?_)
      refine cK h fun bd h=>D1q U<|Le 40 (xB dP)<|Le 41 (Nu xL .here)<|L2 (Z:=Z) (Pr:=(fm Z)) zc4 aw bd ?_
      rintro bI bJ be bL ⟨bM,bN,rfl,bf⟩
      refine Le 43 (xC zb5 U<|kz hz.pv be)<|Q1n U<|B1q U<|Le 45 (wc underlying58)<|Q1n U<|Lj h (fun bg h=>?_)<|fun bg h=>?_
      ·refine cK h fun bh h=>bK h fun bC bi h=>Lu (fun i=>[8].contains i) []<|Lf 0 U q_m<|Lf 1 U q_m<|L7 (j:=2) (Z:=Z) (Pr:=(rq mQ)) z7O bf bh ?_
       rintro bO bP bj bQ rfl
       refine Lf 3 U (xB kC)<|Lg 4 U (xC xL U<|wt hz.pv bj)<|Lf 5 U (xB cz)<|Lg 6 U (Nu xL .here)<|Lf 7 U q_m<|WD.call2 (i:=8) U U U U (.inl ⟨U,fun _ _=>(wJ.of .nil)⟩) (Nt call47) (.s4 .h1 .h2 .h2 .h1) (cc hz (.s4 .h1 .h2 .h2 .h1) fun w pz ho=>lr bi pz am an ao ap aq ar au av aw ax U (ZS.nil _ _ _) (ZS.nil _ _ _) ho) ?_
       rintro bk bl _
       exact N1<|Lt<|Lp ⟨bC,bk,bl⟩ h .q<|.a4
      ·exact N3<|Lt<|Lp ⟨d,q,s⟩ h .q<|.s4 .h1 .h1 .h1 .h1
     ·rintro g aa ad h
      replace h:=(a9 g).symm.trans h
      exact D2q U<|WL.nil<|N0 ⟨bA,i64 (p+1),g,aa,ad⟩ h .q<|.a4
    ·exact N2<|Ln<|Ln<|Lv<|Lp ⟨d,q,s⟩ h (.cons U .nil)<|.a4
   ·rintro f X Y h
    replace h:=(a7 f).symm.trans h
    refine jK4 h fun a0 bm h=>Rr (fun t u k ae ak al af ag z B ah=>(a0 t u k ae=some r)/\(mP ah=ae)) (fun t u k ae ak al af ag z B ah=>[(11,vp c)]) (fun t u k ae ak al af ag z B ah=>[stb c 134 [E,F,G,H,I,J,K,L,C,D,(.map<|some b),vs ak t.length al,vs af u.length ag,vs z k.length B],row (vs ak t.length al) 188 7 (t.flatMap wI),row (vs af u.length ag) 83 3 (u.flatMap wm),row (vs z k.length B) 83 3 (k.flatMap wm),xP b (ga gr) Value.pointer (jO ah),wM z2U ah]) ?_ ?_
    ·refine WC.block<|WC.nilRow 83 3<|WC.nilRow 83 3<|P6 (fun ai m n o O P Q R S T V x=>(fx a W y a0 ai m n o O=some r)/\(mP x=O)) (fun ai m n o O P Q R S T V x=>[(11,vp c)]) (fun ai m n o O P Q R S T V x=>[stb c 134 [E,F,G,H,I,J,K,L,C,D,(.map<|some b),vs P m.length Q,vs R n.length S,vs T o.length V],row (vs P m.length Q) 188 7 (m.flatMap wI),row (vs R n.length S) 83 3 (n.flatMap wm),row (vs T o.length V) 83 3 (o.flatMap wm),xP b (ga gr) Value.pointer (jO x),wM z2U x]) (fun ai m n o O P Q R S T V x=>ai) ⟨xT,f,([]:List yh),([]:List yh),([]:List (z6×yC)),X,Y,none,0,none,0,([]:List (z6×((Nat×(Option Addr×Nat))×yC)))⟩ ⟨h,U⟩ (.cons U .nil) (.s6 .h2 .h2 .h1 .here .here .here) ?_
     rintro (_|bD) m n o O P Q R S T V x ⟨h,a1⟩;·cases h
     rw[fx] at h
     refine WC.b<|B1q U<|Le 58 w5<|Le 59 (xB Xp)<|Le 60 (Nu zoO .here)<|Le 61 (wc underlying132)<|Q1n U<|Lj h (fun bn h=>?_)<|fun bn h=>?_
     ·refine Np<|WC.block<|bK h fun ay bo h=>D1q U<|Rj U U U (Nt call48) (.s6 .here .h3 .h3 .here .here .here) (cc hz (.s6 .here .h3 .h3 .here .here .here) fun w pz ho=>aU bo pz am an ao ap aq ar au av aw ax a1 ho) ?_
      rintro bp bq br bs bt bu bv bw
      exact WL.nil<|Lt<|N0 ⟨bD,ay.1,ay.2.1,ay.2.2.1,ay.2.2.2,bp,bq,br,bs,bt,bu,bv⟩ ⟨h,bw⟩ (.cons U .nil)<|.a6
     ·exact N2<|Ln<|Ln<|Lv<|Lp ⟨m,n,o,O,P,Q,R,S,T,V,x⟩ ⟨h,a1⟩ (.cons U .nil)<|.a6
    ·rintro t u k ae ak al af ag z B ah ⟨h,bR⟩
     replace h:=(bm t u k ae).symm.trans h
     refine WC.b<|bK h fun bW bx h=>bK h fun bX bz h=>Lu (fun i=>[4,9].contains i) [rb c 134 [(13,vs z k.length B)]]<|Lf 0 U q_m<|Lf 1 U w5<|Lf 2 U (xB Xt)<|Lg 3 U (Nu zxR .here)<|Lf 5 U q_m<|Lf 6 U w5<|Lf 7 U (xB Xs)<|L8 8 U (wJ.wk (.cons .here .nil)<|.stb (.cons U .nil) .nil) (xC zxR U<|mG .here<|.head _)<|WD.call0 (i:=4) U U (.inl ⟨U,(wJ.wk (.cons .h1 .nil)<|.stb (.cons U .nil) .nil)⟩) (Nt call49) (.cons .h2 .nil) (cc hz (.cons .h2 .nil) fun w pz ho=>ba bx pz  ho) ?_
     rintro  bS
     refine WD.call0 (i:=9) U U (.inl ⟨U,(wJ.wk (.cons .h2 .nil)<|.stb (.cons U .nil) .nil)⟩) (Nt call49) (.cons .h3 .nil) (cc hz (.cons .h3 .nil) fun w pz ho=>ba bz pz  ho) ?_
     rintro  bT
     exact Lf 10 U q_z<|Lf 11 U q_z<|Lf 12 U q_z<|N1<|Lb<|Nz<|oJ h▸Li results21 (.tmp U<|.tmp U<|.tmp U .nil) fun w hw=>⟨af,ag,z,B,Mq U U U,trivial,hw.sub (.s2 .h1 .here)⟩
def gF(a:List Int)(c:zy)(e:List Int)(h:List Int)(k:(List yK)->Option (List yK)):Nat->(List yK)->(List Int)->Int->Int->Option (List yK)
 | 0,_,_,_,_=>none
 | p+1,i,d,f,b=>if decide (b<(((a.take ((min (a.length:Int) 40):Int).toNat).length:Nat):Int)) then chk (0<=b/\b<(((a.take ((min (a.length:Int) 40):Int).toNat).length:Nat):Int)) (chk (((c.yb.length:Int):Int)≠0) (qt (fun(l:Int)=>chk (0<=(Int.tmod (i64 (nth (a.take ((min (a.length:Int) 40):Int).toNat) b)) (c.yb.length:Int))/\(Int.tmod (i64 (nth (a.take ((min (a.length:Int) 40):Int).toNat) b)) (c.yb.length:Int))<c.yb.length) (qt (fun(j:Int)=>chk (0<=(Int.tmod (i64 (nth (a.take ((min (a.length:Int) 40):Int).toNat) b)) (c.yb.length:Int))/\(Int.tmod (i64 (nth (a.take ((min (a.length:Int) 40):Int).toNat) b)) (c.yb.length:Int))<d.length) (qt (fun(g:Int)=>chk (0<=(Int.tmod (i64 (nth (a.take ((min (a.length:Int) 40):Int).toNat) b)) (c.yb.length:Int))/\(Int.tmod (i64 (nth (a.take ((min (a.length:Int) 40):Int).toNat) b)) (c.yb.length:Int))<c.yb.length) (chk (0<=(Int.tmod (i64 (nth (a.take ((min (a.length:Int) 40):Int).toNat) b)) (c.yb.length:Int))/\(Int.tmod (i64 (nth (a.take ((min (a.length:Int) 40):Int).toNat) b)) (c.yb.length:Int))<d.length) (chk ((((i++([(⟨i64 ((max f (nth d (Int.tmod (i64 (nth (a.take ((min (a.length:Int) 40):Int).toNat) b)) (c.yb.length:Int))))+g),Int.tmod (i64 (nth (a.take ((min (a.length:Int) 40):Int).toNat) b)) (c.yb.length:Int),j⟩:yK)]:List yK)).length:Nat):Int)*24<=140737488355328/\(((i++([(⟨i64 ((max f (nth d (Int.tmod (i64 (nth (a.take ((min (a.length:Int) 40):Int).toNat) b)) (c.yb.length:Int))))+g),Int.tmod (i64 (nth (a.take ((min (a.length:Int) 40):Int).toNat) b)) (c.yb.length:Int),j⟩:yK)]:List yK)).length:Nat):Int)<=4611686018427387904) (gF a c e h k p (i++([(⟨i64 ((max f (nth d (Int.tmod (i64 (nth (a.take ((min (a.length:Int) 40):Int).toNat) b)) (c.yb.length:Int))))+g),Int.tmod (i64 (nth (a.take ((min (a.length:Int) 40):Int).toNat) b)) (c.yb.length:Int),j⟩:yK)]:List yK)) (d.set ((Int.tmod (i64 (nth (a.take ((min (a.length:Int) 40):Int).toNat) b)) (c.yb.length:Int)):Int).toNat (i64 ((i64 ((max f (nth d (Int.tmod (i64 (nth (a.take ((min (a.length:Int) 40):Int).toNat) b)) (c.yb.length:Int))))+g))+((nth c.yb (Int.tmod (i64 (nth (a.take ((min (a.length:Int) 40):Int).toNat) b)) (c.yb.length:Int))).yD)))) (i64 ((max f (nth d (Int.tmod (i64 (nth (a.take ((min (a.length:Int) 40):Int).toNat) b)) (c.yb.length:Int))))+g)) (i64 (b+1)))))) fun m=>if decide (l<1000) then m 0 else m l)) fun n=>chk ((decide (b<e.length))=true->(0<=b/\b<e.length)) (if (decide (b<e.length))&&(decide ((bits .and .u8 (nth e b) 1)=1)) then chk (0<=b/\b<e.length) (chk ((((nth c.yb (Int.tmod (i64 (nth (a.take ((min (a.length:Int) 40):Int).toNat) b)) (c.yb.length:Int))).yz):Int)≠0) (n (i64 (1+(Int.tmod (i64 (nth e b)) ((nth c.yb (Int.tmod (i64 (nth (a.take ((min (a.length:Int) 40):Int).toNat) b)) (c.yb.length:Int))).yz)))))) else n ((nth c.yb (Int.tmod (i64 (nth (a.take ((min (a.length:Int) 40):Int).toNat) b)) (c.yb.length:Int))).yz)))) fun o=>if decide (b<h.length) then chk (0<=b/\b<h.length) (o (Int.tmod (i64 (nth h b)) 2000)) else o 0)) else k i
def tY(a:zy)(b:List Int)(c:List Int)(d:List Int):Option (List yK):=
 if decide ((a.yb.length:Int)=0) then some ([]:List yK) else chk (0<=(a.yb.length:Int)/\((a.yb.length:Int):Int)<=a.yb.length/\((a.yb.length:Int):Int)*8<=140737488355328/\((a.yb.length:Int):Int)<=4611686018427387904) (qt (fun(e:List yK)=>some e) fun f=>chk ((0:Int)<=0/\(0:Int)<=(min (b.length:Int) 40)/\(min (b.length:Int) 40)<=b.length) (gF b a c d f xT ([]:List yK) (List.replicate ((a.yb.length:Int):Int).toNat (0:Int)) 0 0))
theorem Wm{Z T V W X Y aa ab ad ae af ag ah ai aj ak al aq ar am an ao ap a d n t r}(h:tY a d n t=some r){Ny}(hz:PZ [] Ny Z)(bc:ZS Z 4 (kB Z) T V a.fM)(bd:ZS Z 4 (g8 Z) W X a.ye)(be:ZS Z 4 (rq kr) Y aa a.fS)(bf:ZS Z 4 (rq gH) ab ad a.fK)(au:ZS Z 7 (g7 Z) ae af a.yb)(bg:ZS Z 5 (rq gf) ag ah a.fH)(bh:ZS Z 3 (g9 Z) ai aj a.fU)(bi:ZS Z 4 (rq gg) ak al a.yf)(aA:ZS Z 1 (rq e5) aq ar d)(av:ZS Z 1 (rq e5) am an n)(aB:ZS Z 1 (rq V3) ao ap t):
  Calls Tryz.prog 20 #[.agg #[vs T a.fM.length V,vs W a.ye.length X,vs Y a.fS.length aa,vs ab a.fK.length ad,vs ae a.yb.length af,vs ag a.fH.length ah,vs ai a.fU.length aj,vs ak a.yf.length al],vs aq d.length ar,vs am n.length an,vs ao t.length ap] Ny fun e w'=>∃ aw:Option Addr,∃ ax:Nat,e = .returned (vs aw r.length ax)/\True/\Hp [] Ny w' [row (vs aw r.length ax) 86 3 (r.flatMap tH)]:=by
 unfold tY at h
 refine Oq func20 U U ?_
 let C:List Value:=[vs T a.fM.length V,vs W a.ye.length X,vs Y a.fS.length aa,vs ab a.fK.length ad,vs ae a.yb.length af,vs ag a.fH.length ah,vs ai a.fU.length aj,vs ak a.yf.length al];refine B0q<|Lh 4 (we (cs:=C)) ?_
 intro x _
 refine Q1n U<|WC.b<|B0q<|Le 17 (xB mW)<|Le 18 (Nu z8E .here)<|Le 19 (wc underlying26)<|Q1n U<|Lj h (fun aC h=>?_)<|fun aC h=>?_
 ·exact B1n U<|Nz<|Ll<|WX.nilRow 86 3<|oJ h▸Li results20 (.tmp U .nil) fun w hw=>⟨none,0,w3,trivial,hw.sub (.cons .here .nil)⟩
 ·refine Np<|B1n U<|WC.b<|cK h fun aD h=>Ld<|Le 21 (xB mW)<|Le 22 (Nu z8E .here)<|Le 23 (wc underlying26)<|Lh 24 (Kk (r:=[vi 0]) (z0:=(0:Int)) z5U jc U U U U aD) ?_
  intro Q _
  let F:=(a.yb.length:Int);refine Pa .here (cs':=(List.replicate (F:Int).toNat (0:Int)).flatMap e3) (Mt (enc:=e3) (0:Int))<|Q1n U<|B1n U ?_
  refine jK1 h fun ay aE h=>Ni (fun o z O=>(ay o=some r)) (fun o z O=>[(9,vs z o.length O)]) (fun o z O=>[row (vs z o.length O) 86 3 (o.flatMap tH)]) ?_ ?_
  ·refine WC.b<|cK h fun aF h=>D2q U<|Le 27 (wc underlying75)<|Le 28 (Ui U U U)<|Ps U U (Z:=Z) (Pr:=(rq e5)) zxS U aA ixn (ixo U) U U aF (List.drop_zero).symm ?_
   rintro a6 a7 aG
   let G:Value:=(vs a6 ((d.take ((min (d.length:Int) 40):Int).toNat).length) a7);let H:Value:=(vi (((d.take ((min (d.length:Int) 40):Int).toNat).length:Nat):Int));let K:Value:=(vs am n.length an);let L:Value:=(vs ao t.length ap);refine Le 30 (wc underlying75)<|Q1n U<|WC.block<|WC.nilRow 86 3<|Pq (fun R g b f c p q=>(gF d a n t ay R g b f c=some r)) (fun R g b f c p q=>[(2,K),(3,L),(4,vp x),(9,vs p g.length q),(10,(vs (some ⟨Q,0,none⟩) b.length<|(F:Int).toNat)),(11,vi f),(29,G),(30,H),(31,vi c)]) (fun R g b f c p q=>[row (vs p g.length q) 86 3 (g.flatMap tH),row (vs (some ⟨Q,0,none⟩) b.length<|(F:Int).toNat) 3 1 (b.flatMap e3),stb x 31 C]) (fun R g b f c p q=>R) ⟨xT,([]:List yK),List.replicate (F:Int).toNat (0:Int),0,0,none,0⟩ h .q .a3 ?_
   rintro(_|a8) g b f c p q h;·cases h
   rw[gF] at h
   refine B1n U<|WC.b<|Lj h (fun aH h=>?_)<|fun aH h=>?_
   ·refine Np<|WC.b<|WC.block<|WC.b<|cK h fun aI h=>D1q U<|L2 (Z:=Z) (Pr:=(rq e5)) zxS aG aI ?_
    rintro bj bk aJ bl rfl
    refine Le 35 (xC J7 U<|kz hz.pv aJ)<|Q2n U<|WC.b<|cK h fun aK h=>D1q U<|Le 37 (fF underlying5 underlying3)<|Le 38 (xB mW)<|Le 39 (Nu z8E .h2)<|Le 40 (wc underlying26)<|Le 41 (XV aK)<|Q1n U<|B1n U ?_
    obtain⟨a9,aL,h⟩:=wg h
    let D:Value:=(vs (some ⟨Q,0,none⟩) b.length ((F:Int).toNat));let I:=(i64 (nth (d.take ((min (d.length:Int) 40):Int).toNat) c));let A:=(Int.tmod I F);let M:Value:=(vs p g.length q);let J:List Asrt:=[row M 86 3 (g.flatMap tH),row D 3 1 (b.flatMap e3),stb x 31 C];refine L6 (fun s=>(a9 s=some r)) (fun s=>[(2,K),(3,L),(4,vp x),(9,M),(10,D),(11,vi f),(12,vi c),(14,vi A),(15,vi s),(29,G),(30,H),(31,vi c)]) (fun s=>J) ?_ ?_
    ·refine B2q U<|Le 44 (wc underlying76)<|Q1n U<|Lj h (fun aM h=>?_)<|fun aM h=>?_
     ·refine cK h fun aN h=>D2q U<|L2 (Z:=Z) (Pr:=(rq V3)) zXF aB aN ?_
      rintro bm bn aO bo rfl
      exact Le 49 (xC zXG U<|kz hz.pv aO)<|Le 50 (fF underlying127 underlying3)<|Le 51 (XV (by decide))<|La U<|WL.nil<|Lp (Int.tmod (i64<|nth t c) 2000) h .q<|.a3
     ·exact N3<|Lp 0 h .q<|.a3
    ·rintro s h
     replace h:=(aL s).symm.trans h
     refine WC.b<|cK h fun aP h=>Ld<|Le 52 (xB mW)<|Le 53 (Nu z8E .h2)<|La U<|L2 (Z:=Z) (Pr:=(g7 Z)) zdQ au aP ?_
     rintro bp bq aQ br ⟨bs,bt,rfl,bu⟩
     refine Le 56 (xB rJ)<|Le 57 (xC xL U<|wt hz.pv aQ)<|Q1n U<|jK1 h fun ba aR h=>L6 (fun j=>(ba j=some r)) (fun j=>[(2,K),(3,L),(4,vp x),(9,M),(10,D),(11,vi f),(14,vi A),(15,vi s),(16,vi j),(29,G),(30,H),(31,vi c)]) (fun j=>J) ?_ ?_
     ·refine WC.b<|cK h fun aS h=>D2q U<|Le 60 (wc underlying75)<|Q2q U<|Ly true 6 62 (B:=(decide (c<n.length))&&(decide ((bits .and .u8 (nth n c) 1)=1))) (fun _ az=>?_) ?_
      ·have aT:=aS az
       refine Q2q U<|L2 (Z:=Z) (Pr:=(rq e5)) zxS av aT ?_
       rintro bv bw aU bx rfl
       exact Le 66 (xC J7 U<|kz hz.pv aU)<|Le 67 (q_and U U U)<|Q2q U<|Lz (kR az) U .all
      refine Q0n<|Lj h (fun aV h=>?_)<|fun aV h=>?_
      ·refine cK h fun aW h=>cK h fun aX h=>D2q U<|L2 (Z:=Z) (Pr:=(rq e5)) zxS av aW ?_
       rintro bz bA aY bB rfl
       exact Le 73 (xC J7 U<|kz hz.pv aY)<|Le 74 (fF underlying5 underlying3)<|La U<|Le 76 (XV aX)<|Q2q U<|WL.nil<|Lp (i64 (1+(Int.tmod (i64<|nth n c)<|(nth a.yb A).yz))) h .q<|.a3
      ·exact N3<|Lp ((nth a.yb A).yz) h .q<|.a3
     ·rintro j h
      replace h:=(aR j).symm.trans h
      refine WC.b<|cK h fun S h=>D3q U<|Le 81 (xZ z5U S.1 S.2 wF)<|Le 82 (xC xL U<|sj .h1<|(wN (enc:=e3) (l:=b) (i:=Int.tmod I F) (sz:=1) S.1 S.2) 0 _ U)<|Le 83 oQ<|Q1n U<|jK1 h fun bb aZ h=>L6 (fun m=>(bb m=some r)) (fun m=>[(2,K),(3,L),(4,vp x),(9,M),(10,D),(11,(vi<|max f<|nth b A)),(14,vi A),(15,vi m),(16,vi j),(29,G),(30,H),(31,vi c)]) (fun m=>J) ?_ ?_
      ·refine B2n U<|Lj h (fun a0 h=>?_)<|fun a0 h=>?_
       ·exact D1q U<|WL.nil<|Lp 0 h .q<|.a3
       ·exact N3<|Lp s h .q<|.a3
      ·rintro m h
       replace h:=(aZ m).symm.trans h
       refine B4n U<|WC.b<|cK h fun a1 h=>cK h fun P h=>D3q U<|Le 92 (xB mW)<|Le 93 (Nu z8E .h2)<|La U<|L2 (Z:=Z) (Pr:=(g7 Z)) zdQ au a1 ?_
       rintro bC bD a2 bE ⟨bF,bG,rfl,bH⟩
       let N:=(i64 ((max f (nth b A))+m));let E:=(i64 (N+((nth a.yb A).yD)));refine Le 96 (xB Yu)<|Le 97 (xC xL U<|wt hz.pv a2)<|La U<|Le 99 (xZ z5U P.1 P.2 wF)<|Lk (gb (vs:=[vi E]) (ds:=(b.set (A:Int).toNat E).flatMap e3) px lE .h1 (mu (enc:=e3) (sz:=1) (k:=0) P.1 P.2)<|mt (enc:=e3) (l:=b) (sz:=1) (vs:=[vi E]) (y:=i64 (N+((nth a.yb A).yD))) (k:=0) P.1 P.2<|Nat.le_of_ble_eq_true U)<|At .here (u:=(vs (some ⟨Q,0,none⟩) ((b.set (A:Int).toNat E).length)<|(F:Int).toNat)) (qD (List.length_set).symm)<|L9 (i:=10) U (u:=(vs (some ⟨Q,0,none⟩) ((b.set (A:Int).toNat E).length)<|(F:Int).toNat)) (qD (List.length_set).symm)<|Q0n ?_
       refine cK h fun a3 h=>D4q U<|Le 104 (wl (v:=(.agg #[(vi<|i64 ((max f<|nth b<|Int.tmod (i64<|nth (d.take ((min (d.length:Int) 40):Int).toNat) c) (a.yb.length:Int))+m)),(vi<|Int.tmod (i64<|nth (d.take ((min (d.length:Int) 40):Int).toNat) c) (a.yb.length:Int)),vi j])) (Lq (l:=[.tmp 101,.tmp 102,.tmp 103]) (.r3 U U U) [0,1,2])) (Lh 105 (wn (cs:=([(⟨i64 ((max f<|nth b<|Int.tmod (i64<|nth (d.take ((min (d.length:Int) 40):Int).toNat) c) (a.yb.length:Int))+m),Int.tmod (i64<|nth (d.take ((min (d.length:Int) 40):Int).toNat) c) (a.yb.length:Int),j⟩:yK)]:List yK).flatMap tH) zfJ (Lq (l:=[.tmp 104]) (.cons U .nil) [0])) fun bI _=>WL.fA 106 (jN (enc:=tH) (l1:=g) (l2:=([(⟨i64 ((max f<|nth b A)+m),Int.tmod I F,j⟩:yK)]:List yK)) zfJ .h2 (j4 .here) (kZ To) a3) ?_)
       rintro⟨a4,a5⟩ _
       exact La U<|WL.nil<|Lt<|Lb<|D2q U<|WL.nil<|N0 ⟨a8,g++([(⟨i64 ((max f<|nth b A)+m),Int.tmod I F,j⟩:yK)]:List yK),b.set (A:Int).toNat E,N,i64 (c+1),a4,a5⟩ h .q<|.s3 .here .h1 .h1
   ·exact N2<|Ln<|Ln<|Lv<|Lp ⟨g,p,q⟩ h (.cons U .nil)<|.cons .here .nil
  ·rintro o z O h
   replace h:=(aE o).symm.trans h
   exact B2n U<|Nz<|oJ h▸Li results20 (.tmp U .nil) fun w hw=>⟨z,O,w3,trivial,hw.sub (.cons .here .nil)⟩
end Go.Proofs.YthjnhebofpebpaaGreat

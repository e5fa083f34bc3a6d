/- A part of this claim's proof: models of functions, walks, plain laws. No conditions. -/
import Derived.Test.YthjnhebofpebpaaGreatW36l
set_option linter.all false
namespace Go.Proofs.YthjnhebofpebpaaGreat
open Go Go.RowKit Sep Tryz
variable {f:List yh}{g i l:Int}{j:(List yh)->Option (List yh)}{k:(List yh)->Int->Option (List yh)}
set_option maxRecDepth 30000
set_option maxHeartbeats 4000000
def wQ(zi:List yh)(zB:Int)(z1S:yh->yh->Option Int)(c:Int->Option (List yh)):Nat->Int->Int->Option (List yh)
 | 0,_,_=>none
 | d+1,a,b=>if decide (a<b) then chk (0<=(i64 ((u64 (i64 (a+b))) / 2 ^ min (1:Int).toNat 64))/\(i64 ((u64 (i64 (a+b))) / 2 ^ min (1:Int).toNat 64))<zi.length) (chk (0<=zB/\zB<zi.length) ((z1S (⟨(nth zi (i64 ((u64 (i64 (a+b))) / 2 ^ min (1:Int).toNat 64))).yf,(nth zi (i64 ((u64 (i64 (a+b))) / 2 ^ min (1:Int).toNat 64))).ya,(nth zi (i64 ((u64 (i64 (a+b))) / 2 ^ min (1:Int).toNat 64))).yb⟩:yh) (⟨(nth zi zB).yf,(nth zi zB).ya,(nth zi zB).yb⟩:yh)).bind fun e=>if decide (e<0) then wQ zi zB z1S c d (i64 ((i64 ((u64 (i64 (a+b))) / 2 ^ min (1:Int).toNat 64))+1)) b else wQ zi zB z1S c d a (i64 ((u64 (i64 (a+b))) / 2 ^ min (1:Int).toNat 64)))) else c a
def wR(c:Int)(d:(List yh)->Option (List yh)):Nat->(List yh)->Int->Option (List yh)
 | 0,_,_=>none
 | e+1,b,a=>if decide (a<(i64 (c-1))) then chk (0<=(i64 (a+1))/\(i64 (a+1))<b.length) (chk (0<=a/\a<b.length) (chk (0<=(i64 (a+1))/\(i64 (a+1))<(((b.set (a:Int).toNat (⟨(nth b (i64 (a+1))).yf,(nth b (i64 (a+1))).ya,(nth b (i64 (a+1))).yb⟩:yh)).length:Nat):Int)) (wR c d e ((b.set (a:Int).toNat (⟨(nth b (i64 (a+1))).yf,(nth b (i64 (a+1))).ya,(nth b (i64 (a+1))).yb⟩:yh)).set ((i64 (a+1)):Int).toNat (⟨(nth b a).yf,(nth b a).ya,(nth b a).yb⟩:yh)) (i64 (a+1))))) else d b
def wS(m_693888:Int)(zi:List yh)(z1S:yh->yh->Option Int)(c:Int->Option (List yh)):Nat->Int->Int->Option (List yh)
 | 0,_,_=>none
 | d+1,a,b=>if decide (a<b) then chk (0<=m_693888/\m_693888<zi.length) (chk (0<=(i64 ((u64 (i64 (a+b))) / 2 ^ min (1:Int).toNat 64))/\(i64 ((u64 (i64 (a+b))) / 2 ^ min (1:Int).toNat 64))<zi.length) ((z1S (⟨(nth zi m_693888).yf,(nth zi m_693888).ya,(nth zi m_693888).yb⟩:yh) (⟨(nth zi (i64 ((u64 (i64 (a+b))) / 2 ^ min (1:Int).toNat 64))).yf,(nth zi (i64 ((u64 (i64 (a+b))) / 2 ^ min (1:Int).toNat 64))).ya,(nth zi (i64 ((u64 (i64 (a+b))) / 2 ^ min (1:Int).toNat 64))).yb⟩:yh)).bind fun e=>if !(decide (e<0)) then wS m_693888 zi z1S c d (i64 ((i64 ((u64 (i64 (a+b))) / 2 ^ min (1:Int).toNat 64))+1)) b else wS m_693888 zi z1S c d a (i64 ((u64 (i64 (a+b))) / 2 ^ min (1:Int).toNat 64)))) else c a
def vx(c:Int)(d:(List yh)->Option (List yh)):Nat->(List yh)->Int->Option (List yh)
 | 0,_,_=>none
 | e+1,b,a=>if decide (a>c) then chk (0<=(i64 (a-1))/\(i64 (a-1))<b.length) (chk (0<=a/\a<b.length) (chk (0<=(i64 (a-1))/\(i64 (a-1))<(((b.set (a:Int).toNat (⟨(nth b (i64 (a-1))).yf,(nth b (i64 (a-1))).ya,(nth b (i64 (a-1))).yb⟩:yh)).length:Nat):Int)) (vx c d e ((b.set (a:Int).toNat (⟨(nth b (i64 (a-1))).yf,(nth b (i64 (a-1))).ya,(nth b (i64 (a-1))).yb⟩:yh)).set ((i64 (a-1)):Int).toNat (⟨(nth b a).yf,(nth b a).ya,(nth b a).yb⟩:yh)) (i64 (a-1))))) else d b
def wM(zB:Int)(zS:Int)(m_693888:Int)(zi:List yh)(z1S:yh->yh->Option Int)(c:Int->Option (List yh)):Nat->Int->Int->Option (List yh)
 | 0,_,_=>none
 | d+1,a,b=>if decide (a<b) then chk (0<=(i64 ((i64 ((i64 ((i64 ((u64 (i64 (zB+zS))) / 2 ^ min (1:Int).toNat 64))+m_693888))-1))-(i64 ((u64 (i64 (a+b))) / 2 ^ min (1:Int).toNat 64))))/\(i64 ((i64 ((i64 ((i64 ((u64 (i64 (zB+zS))) / 2 ^ min (1:Int).toNat 64))+m_693888))-1))-(i64 ((u64 (i64 (a+b))) / 2 ^ min (1:Int).toNat 64))))<zi.length) (chk (0<=(i64 ((u64 (i64 (a+b))) / 2 ^ min (1:Int).toNat 64))/\(i64 ((u64 (i64 (a+b))) / 2 ^ min (1:Int).toNat 64))<zi.length) ((z1S (⟨(nth zi (i64 ((i64 ((i64 ((i64 ((u64 (i64 (zB+zS))) / 2 ^ min (1:Int).toNat 64))+m_693888))-1))-(i64 ((u64 (i64 (a+b))) / 2 ^ min (1:Int).toNat 64))))).yf,(nth zi (i64 ((i64 ((i64 ((i64 ((u64 (i64 (zB+zS))) / 2 ^ min (1:Int).toNat 64))+m_693888))-1))-(i64 ((u64 (i64 (a+b))) / 2 ^ min (1:Int).toNat 64))))).ya,(nth zi (i64 ((i64 ((i64 ((i64 ((u64 (i64 (zB+zS))) / 2 ^ min (1:Int).toNat 64))+m_693888))-1))-(i64 ((u64 (i64 (a+b))) / 2 ^ min (1:Int).toNat 64))))).yb⟩:yh) (⟨(nth zi (i64 ((u64 (i64 (a+b))) / 2 ^ min (1:Int).toNat 64))).yf,(nth zi (i64 ((u64 (i64 (a+b))) / 2 ^ min (1:Int).toNat 64))).ya,(nth zi (i64 ((u64 (i64 (a+b))) / 2 ^ min (1:Int).toNat 64))).yb⟩:yh)).bind fun e=>if !(decide (e<0)) then wM zB zS m_693888 zi z1S c d (i64 ((i64 ((u64 (i64 (a+b))) / 2 ^ min (1:Int).toNat 64))+1)) b else wM zB zS m_693888 zi z1S c d a (i64 ((u64 (i64 (a+b))) / 2 ^ min (1:Int).toNat 64)))) else c a
def vf:Nat->(List yh)->Int->Int->Int->(yh->yh->Option Int)->Option (List yh)
 | 0,_,_,_,_,_=>none
 | b+1,zi,zB,m_693888,zS,z1S=>mZ (mZ (sk (fun(h:Int) (i:Int)=>qI (fun(a:Int)=>qI (fun(c:List yh)=>qI (fun(d:List yh)=>if (decide ((i64 ((u64 (i64 (zB+zS))) / 2 ^ min (1:Int).toNat 64))<(i64 ((i64 ((i64 ((u64 (i64 (zB+zS))) / 2 ^ min (1:Int).toNat 64))+m_693888))-a))))&&(decide ((i64 ((i64 ((i64 ((u64 (i64 (zB+zS))) / 2 ^ min (1:Int).toNat 64))+m_693888))-a))<zS)) then((vf b) d (i64 ((u64 (i64 (zB+zS))) / 2 ^ min (1:Int).toNat 64)) (i64 ((i64 ((i64 ((u64 (i64 (zB+zS))) / 2 ^ min (1:Int).toNat 64))+m_693888))-a)) zS z1S).bind fun j=>some j else some d) fun e=>if (decide (zB<a))&&(decide (a<(i64 ((u64 (i64 (zB+zS))) / 2 ^ min (1:Int).toNat 64)))) then((vf b) c zB a (i64 ((u64 (i64 (zB+zS))) / 2 ^ min (1:Int).toNat 64)) z1S).bind fun k=>e k else e c) fun f=>if (decide (a<m_693888))&&(decide (m_693888<(i64 ((i64 ((i64 ((u64 (i64 (zB+zS))) / 2 ^ min (1:Int).toNat 64))+m_693888))-a)))) then(jy zi a m_693888 (i64 ((i64 ((i64 ((u64 (i64 (zB+zS))) / 2 ^ min (1:Int).toNat 64))+m_693888))-a)) z1S).bind fun l=>f l else f zi) fun m=>wM zB zS m_693888 zi z1S m xR h i) fun g=>if decide (m_693888>(i64 ((u64 (i64 (zB+zS))) / 2 ^ min (1:Int).toNat 64))) then g (i64 ((i64 ((i64 ((u64 (i64 (zB+zS))) / 2 ^ min (1:Int).toNat 64))+m_693888))-zS)) (i64 ((u64 (i64 (zB+zS))) / 2 ^ min (1:Int).toNat 64)) else g zB m_693888) fun n=>if decide ((i64 (zS-m_693888))=1) then qI (fun(o:Int)=>qI (fun(p:List yh)=>some p) fun q=>vx o q xR zi m_693888) fun r=>wS m_693888 zi z1S r xR zB m_693888 else n) fun s=>if decide ((i64 (m_693888-zB))=1) then qI (fun(t:Int)=>qI (fun(u:List yh)=>some u) fun v=>wR t v xR zi zB) fun w=>wQ zi zB z1S w xR m_693888 zS else s
def j9(zi:List yh)(zB:Int)(m_693888:Int)(zS:Int)(z1S:yh->yh->Option Int):Option (List yh):=vf xR zi zB m_693888 zS z1S
theorem pl:∀(n:Nat) (Z:Zp) (z1r:Option Addr) (z18:Nat) (z35:FuncId) (z3R:List Value) (zi:List yh) (zB:Int) (m_693888:Int) (zS:Int) (z1S:yh->yh->Option Int) (r:List yh) (Nx:World) (hz:Pz [row (vs z1r zi.length z18) 83 3 (zi.flatMap wh)] Nx Z)
  (R:∀ args w,(callFunc z35 args).run Tryz.prog w = .ok (.enter z35 args) w)
  (S:∀ w:World,PZ [] w Z->∀(x0:yh) (x1:yh) (r:Int),z1S x0 x1=some r->Calls Tryz.prog z35 (([.agg #[vi x0.yf,vi x0.ya,vi x0.yb],.agg #[vi x1.yf,vi x1.ya,vi x1.yb]]:List Value)++z3R).toArray w fun e w'=>e = .returned (vi r)/\Hp [] w w' []) (h:vf n zi zB m_693888 zS z1S=some r)
  (eO:Hp (fps [row (vs z1r zi.length z18) 83 3 (zi.flatMap wh)]) Nx Nx [row (vs z1r zi.length z18) 83 3 (zi.flatMap wh)]),Calls Tryz.prog 171 #[vs z1r zi.length z18,vi zB,vi m_693888,vi zS,.func (.func z35) #[] (z3R).toArray] Nx fun e w'=>e = .returned (.tuple #[])/\(r.length=zi.length)/\Hp (fps [row (vs z1r zi.length z18) 83 3 (zi.flatMap wh)]) Nx w' [row (vs z1r r.length z18) 83 3 (r.flatMap wh)]:=by
 intro n
 induction n with
 | zero=>intro Z z1r z18 z35 z3R zi zB m_693888 zS z1S r Nx hz R S h eO;cases h
 | succ bA ih=>
  intro Z z1r z18 z35 z3R zi zB m_693888 zS z1S r Nx hz R S h eO
  rw[vf] at h
  refine Cy func171 U eO U ?_
  obtain⟨bm,aN,h⟩:=qj h
  let D:Value:=(vs z1r zi.length z18);let F:Value:=(.func (.func z35) #[] (z3R).toArray);let J:List Asrt:=[row D 83 3 (zi.flatMap wh)];refine Nd (bm=some r) ([(0,D),(1,vi zB),(2,vi m_693888),(3,vi zS),(4,F)]) J ?_ ?_
  ·refine B4n U<|Lj h (fun aO h=>?_)<|fun aO h=>?_
   ·refine B2n U<|B2n U<|jK1 h fun av aP h=>Na (fun T=>(av T=some r)) (fun T=>[(0,D),(1,vi zB),(10,vi T)]) (fun T=>J) ?_ ?_
    ·refine WC.block<|H4 (fun ag m v=>(wQ zi zB z1S av ag m v=some r)) (fun ag m v=>[(0,D),(1,vi zB),(4,F),(10,vi m),(11,vi v)]) (fun ag m v=>J) (fun ag m v=>ag) ⟨xR,m_693888,zS⟩ h .q (.cons .here .nil) ?_
     rintro(_|aw) m v h;·cases h
     rw[wQ] at h
     refine WC.b<|B3n U<|Lj h (fun aQ h=>?_)<|fun aQ h=>?_
     ·refine Nn<|WC.block<|B3q U<|Le 37 (mL underlying3 underlying147)<|Le 38 (Q4 U U U)<|Le 39 (mL underlying147 underlying3)<|Q1n U<|WC.b<|cK h fun ah h=>cK h fun ap h=>bK h fun bn aR h=>Lu nc []<|Lf 0 U q_m<|Lf 1 U q_m<|Lf 2 U q_m<|N5 (fun w hw=>Hp.vr .here hw (by intro hz';have:=ah;rw[hz'] at this;omega)) ?_
      rintro⟨bw,rfl⟩
      let G:=(i64 ((u64 (i64 (m+v))) / 2 ^ min (1:Int).toNat 64));refine Lf 3 U (w3 z3g ah.1 ah.2 wI)<|Lh 4 U (wn (cs:=(wh<|nth zi G)) z6R<|vU .here<|wU (enc:=wh) (l:=zi) (i:=i64 ((u64<|i64 (m+v)) / 2 ^ min (1:Int).toNat 64)) (sz:=3) ah.1 ah.2)<|Lf 5 U q_m<|Lf 6 U q_m<|Lf 7 U (w3 z3g ap.1 ap.2 wI)<|Lh 8 U (wn (cs:=(wh<|nth zi zB)) z6R<|vU .here<|wU (enc:=wh) (l:=zi) (i:=zB) (sz:=3) ap.1 ap.2)<|L4 9 U (qg (l:=[.tmp 44,.tmp 48]) (f:=z35) (caps:=z3R) R<|.r2 U U) (fun w hw=>S w (hz.now hw) (⟨(nth zi G).yf,(nth zi G).ya,(nth zi G).yb⟩:yh) (⟨(nth zi zB).yf,(nth zi zB).ya,(nth zi zB).yb⟩:yh) bn  aR)<|Lf 10 U ra<|N0<|Lb<|Lj h (fun aS h=>?_)<|fun aS h=>?_
      ·exact D3q U<|WL.nil<|Lt<|Nz ⟨aw,i64 (G+1),v⟩ h .q<|.cons .here .nil
      ·exact D2q U<|WL.nil<|Lt<|Nz ⟨aw,m,G⟩ h .q<|.cons .here .nil
     ·exact N1<|Lm<|Lm<|Lv<|Lo m h .q<|.cons .here .nil
    ·rintro T h
     replace h:=(aP T).symm.trans h
     refine jK1 h fun ax aT h=>Na (fun V=>(ax V=some r)/\(V.length=zi.length)) (fun V=>[]) (fun V=>[row (vs z1r V.length z18) 83 3 (V.flatMap wh)]) ?_ ?_
     ·refine B2n U<|WC.block<|H4 (fun ab a b=>(wR T ax ab a b=some r)/\(a.length=zi.length)) (fun ab a b=>[(0,vs z1r a.length z18),(10,vi T),(13,vi b)]) (fun ab a b=>[row (vs z1r a.length z18) 83 3 (a.flatMap wh)]) (fun ab a b=>ab) ⟨xR,zi,zB⟩ ⟨h,U⟩ .q (.cons .here .nil) ?_
      rintro (_|bo) a b ⟨h,ay⟩;·cases h
      rw[wR] at h
      refine WC.b<|B4n U<|Lj h (fun aU h=>?_)<|fun aU h=>?_
      ·refine Nn<|WC.b<|WC.block<|cK h fun ai h=>cK h fun o h=>cK h fun ad h=>Lu (fun i=>[15,17].contains i) []<|Lf 0 U q_m<|Lf 1 U q_m<|Lf 2 U q_m<|Lf 3 U q_m<|Lf 4 U uC<|Lf 5 U q_m<|Lf 6 U q_m<|Lf 7 U uC<|N5 (fun w hw=>Hp.vr .here hw (by intro hz';have:=ai;rw[hz'] at this;omega)) ?_
       rintro⟨aj,rfl⟩
       let M:List Value:=[vi ((nth a (i64 (b+1))).yf),vi ((nth a (i64 (b+1))).ya),vi ((nth a (i64 (b+1))).yb)];let O:List Value:=[vi ((nth a b).yf),vi ((nth a b).ya),vi ((nth a b).yb)];refine Lf 8 U (w3 z3g ai.1 ai.2 wI)<|Lh 9 U (wn (cs:=(wh<|nth a<|i64 (b+1))) z6R<|vU .here<|wU (enc:=wh) (l:=a) (i:=i64 (b+1)) (sz:=3) ai.1 ai.2)<|Lf 10 U q_m<|Lf 11 U q_m<|Lf 12 U (w3 z3g o.1 o.2 wI)<|Lh 13 U (wn (cs:=(wh<|nth a b)) z6R<|vU .here<|wU (enc:=wh) (l:=a) (i:=b) (sz:=3) o.1 o.2)<|Lf 14 U (w3 z3g o.1 o.2 wI)<|WD.forced0 (i:=15) U (wB.of .nil) (g7 (vs:=M) (ds:=(a.set (b:Int).toNat (⟨(nth a<|i64 (b+1)).yf,(nth a<|i64 (b+1)).ya,(nth a<|i64 (b+1)).yb⟩:yh)).flatMap wh) zfs ry .here (mS (enc:=wh) (sz:=3) (k:=0) o.1 o.2)<|mR (enc:=wh) (l:=a) (sz:=3) (vs:=M) (y:=(⟨(nth a<|i64 (b+1)).yf,(nth a<|i64 (b+1)).ya,(nth a<|i64 (b+1)).yb⟩:yh)) (k:=0) o.1 o.2<|Nat.le_of_ble_eq_true U)<|N7 .here (u:=(vs (some ⟨aj,0,none⟩) ((a.set (b:Int).toNat (⟨(nth a<|i64 (b+1)).yf,(nth a<|i64 (b+1)).ya,(nth a<|i64 (b+1)).yb⟩:yh)).length) z18)) (qB (List.length_set).symm)<|N3 (i:=0) U (u:=(vs (some ⟨aj,0,none⟩) ((a.set (b:Int).toNat (⟨(nth a<|i64 (b+1)).yf,(nth a<|i64 (b+1)).ya,(nth a<|i64 (b+1)).yb⟩:yh)).length) z18)) (qB (List.length_set).symm)<|N3 (i:=63) U (u:=(vs (some ⟨aj,0,none⟩) ((a.set (b:Int).toNat (⟨(nth a<|i64 (b+1)).yf,(nth a<|i64 (b+1)).ya,(nth a<|i64 (b+1)).yb⟩:yh)).length) z18)) (qB (List.length_set).symm)<|Lf 16 U (w3 z3g ad.1 ad.2 wI)<|Nc (i:=17) U (g7 (vs:=O) (ds:=((a.set (b:Int).toNat (⟨(nth a<|i64 (b+1)).yf,(nth a<|i64 (b+1)).ya,(nth a<|i64 (b+1)).yb⟩:yh)).set ((i64 (b+1)):Int).toNat (⟨(nth a b).yf,(nth a b).ya,(nth a b).yb⟩:yh)).flatMap wh) zfs ry .here (mS (enc:=wh) (sz:=3) (k:=0) ad.1 ad.2)<|mR (enc:=wh) (l:=a.set (b:Int).toNat (⟨(nth a<|i64 (b+1)).yf,(nth a<|i64 (b+1)).ya,(nth a<|i64 (b+1)).yb⟩:yh)) (sz:=3) (vs:=O) (y:=(⟨(nth a b).yf,(nth a b).ya,(nth a b).yb⟩:yh)) (k:=0) ad.1 ad.2<|Nat.le_of_ble_eq_true U)<|N7 .here (u:=(vs (some ⟨aj,0,none⟩) (((a.set (b:Int).toNat (⟨(nth a<|i64 (b+1)).yf,(nth a<|i64 (b+1)).ya,(nth a<|i64 (b+1)).yb⟩:yh)).set ((i64 (b+1)):Int).toNat (⟨(nth a b).yf,(nth a b).ya,(nth a b).yb⟩:yh)).length) z18)) (qB (List.length_set).symm)<|N3 (i:=0) U (u:=(vs (some ⟨aj,0,none⟩) (((a.set (b:Int).toNat (⟨(nth a<|i64 (b+1)).yf,(nth a<|i64 (b+1)).ya,(nth a<|i64 (b+1)).yb⟩:yh)).set ((i64 (b+1)):Int).toNat (⟨(nth a b).yf,(nth a b).ya,(nth a b).yb⟩:yh)).length) z18)) (qB (List.length_set).symm)<|N0<|Lt<|Lb<|D3q U<|WL.nil ?_
       exact Nz ⟨bo,(a.set (b:Int).toNat (⟨(nth a<|i64 (b+1)).yf,(nth a<|i64 (b+1)).ya,(nth a<|i64 (b+1)).yb⟩:yh)).set ((i64 (b+1)):Int).toNat (⟨(nth a b).yf,(nth a b).ya,(nth a b).yb⟩:yh),i64 (b+1)⟩ ⟨h,(List.length_set).trans ((List.length_set).trans ay)⟩ .q<|.cons .here .nil
      ·exact N1<|Lm<|Lm<|Lv<|Lo a ⟨h,ay⟩ .nil<|.cons .here .nil
     ·rintro V ⟨h,aV⟩
      replace h:=(aT V).symm.trans h
      exact Ny<|Lk<|oJ h▸Li results171 .nil fun w hw=>⟨mq,aV,hw.sub (.cons .here .nil)⟩
   ·exact N2<|Lo () h .q<|.cons .here .nil
  ·rintro  h
   replace h:=aN.symm.trans h
   refine jK0 h fun bp aW h=>Nd (bp=some r) ([(0,D),(1,vi zB),(2,vi m_693888),(3,vi zS),(4,F)]) J ?_ ?_
   ·refine B4n U<|Lj h (fun aX h=>?_)<|fun aX h=>?_
    ·refine B2n U<|B2n U<|jK1 h fun az aY h=>Na (fun W=>(az W=some r)) (fun W=>[(0,D),(2,vi m_693888),(14,vi W)]) (fun W=>J) ?_ ?_
     ·refine WC.block<|H4 (fun ak p x=>(wS m_693888 zi z1S az ak p x=some r)) (fun ak p x=>[(0,D),(2,vi m_693888),(4,F),(14,vi p),(15,vi x)]) (fun ak p x=>J) (fun ak p x=>ak) ⟨xR,zB,m_693888⟩ h .q (.cons .here .nil) ?_
      rintro(_|aA) p x h;·cases h
      rw[wS] at h
      refine WC.b<|B3n U<|Lj h (fun aZ h=>?_)<|fun aZ h=>?_
      ·refine Nn<|WC.block<|B3q U<|Le 89 (mL underlying3 underlying147)<|Le 90 (Q4 U U U)<|Le 91 (mL underlying147 underlying3)<|Q1n U<|WC.b<|cK h fun al h=>cK h fun aq h=>bK h fun bq a0 h=>Lu nc []<|Lf 0 U q_m<|Lf 1 U q_m<|Lf 2 U q_m<|N5 (fun w hw=>Hp.vr .here hw (by intro hz';have:=al;rw[hz'] at this;omega)) ?_
       rintro⟨bx,rfl⟩
       let H:=(i64 ((u64 (i64 (p+x))) / 2 ^ min (1:Int).toNat 64));refine Lf 3 U (w3 z3g al.1 al.2 wI)<|Lh 4 U (wn (cs:=(wh<|nth zi m_693888)) z6R<|vU .here<|wU (enc:=wh) (l:=zi) (i:=m_693888) (sz:=3) al.1 al.2)<|Lf 5 U q_m<|Lf 6 U q_m<|Lf 7 U (w3 z3g aq.1 aq.2 wI)<|Lh 8 U (wn (cs:=(wh<|nth zi H)) z6R<|vU .here<|wU (enc:=wh) (l:=zi) (i:=i64 ((u64<|i64 (p+x)) / 2 ^ min (1:Int).toNat 64)) (sz:=3) aq.1 aq.2)<|L4 9 U (qg (l:=[.tmp 96,.tmp 100]) (f:=z35) (caps:=z3R) R<|.r2 U U) (fun w hw=>S w (hz.now hw) (⟨(nth zi m_693888).yf,(nth zi m_693888).ya,(nth zi m_693888).yb⟩:yh) (⟨(nth zi H).yf,(nth zi H).ya,(nth zi H).yb⟩:yh) bq  a0)<|Lf 10 U ra<|Lf 11 U (Xz U)<|N0<|Lb<|Lj h (fun a1 h=>?_)<|fun a1 h=>?_
       ·exact D3q U<|WL.nil<|Lt<|Nz ⟨aA,i64 (H+1),x⟩ h .q<|.cons .here .nil
       ·exact D2q U<|WL.nil<|Lt<|Nz ⟨aA,p,H⟩ h .q<|.cons .here .nil
      ·exact N1<|Lm<|Lm<|Lv<|Lo p h .q<|.cons .here .nil
     ·rintro W h
      replace h:=(aY W).symm.trans h
      refine jK1 h fun aB a2 h=>Na (fun X=>(aB X=some r)/\(X.length=zi.length)) (fun X=>[]) (fun X=>[row (vs z1r X.length z18) 83 3 (X.flatMap wh)]) ?_ ?_
      ·refine B2n U<|WC.block<|H4 (fun ae c d=>(vx W aB ae c d=some r)/\(c.length=zi.length)) (fun ae c d=>[(0,vs z1r c.length z18),(14,vi W),(17,vi d)]) (fun ae c d=>[row (vs z1r c.length z18) 83 3 (c.flatMap wh)]) (fun ae c d=>ae) ⟨xR,zi,m_693888⟩ ⟨h,U⟩ .q (.cons .here .nil) ?_
       rintro (_|br) c d ⟨h,aC⟩;·cases h
       rw[vx] at h
       refine WC.b<|B3n U<|Lj h (fun a3 h=>?_)<|fun a3 h=>?_
       ·refine Nn<|WC.b<|WC.block<|cK h fun am h=>cK h fun q h=>cK h fun af h=>Lu (fun i=>[15,17].contains i) []<|Lf 0 U q_m<|Lf 1 U q_m<|Lf 2 U q_m<|Lf 3 U q_m<|Lf 4 U td<|Lf 5 U q_m<|Lf 6 U q_m<|Lf 7 U td<|N5 (fun w hw=>Hp.vr .here hw (by intro hz';have:=am;rw[hz'] at this;omega)) ?_
        rintro⟨aD,rfl⟩
        let E:Value:=(vs (some ⟨aD,0,none⟩) ((c.set (d:Int).toNat (⟨(nth c (i64 (d-1))).yf,(nth c (i64 (d-1))).ya,(nth c (i64 (d-1))).yb⟩:yh)).length) z18);let I:Value:=(vs (some ⟨aD,0,none⟩) (((c.set (d:Int).toNat (⟨(nth c (i64 (d-1))).yf,(nth c (i64 (d-1))).ya,(nth c (i64 (d-1))).yb⟩:yh)).set ((i64 (d-1)):Int).toNat (⟨(nth c d).yf,(nth c d).ya,(nth c d).yb⟩:yh)).length) z18);let N:List Value:=[vi ((nth c (i64 (d-1))).yf),vi ((nth c (i64 (d-1))).ya),vi ((nth c (i64 (d-1))).yb)];let P:List Value:=[vi ((nth c d).yf),vi ((nth c d).ya),vi ((nth c d).yb)];refine Lf 8 U (w3 z3g am.1 am.2 wI)<|Lh 9 U (wn (cs:=(wh<|nth c<|i64 (d-1))) z6R<|vU .here<|wU (enc:=wh) (l:=c) (i:=i64 (d-1)) (sz:=3) am.1 am.2)<|Lf 10 U q_m<|Lf 11 U q_m<|Lf 12 U (w3 z3g q.1 q.2 wI)<|Lh 13 U (wn (cs:=(wh<|nth c d)) z6R<|vU .here<|wU (enc:=wh) (l:=c) (i:=d) (sz:=3) q.1 q.2)<|Lf 14 U (w3 z3g q.1 q.2 wI)<|WD.forced0 (i:=15) U (wB.of .nil) (g7 (vs:=N) (ds:=(c.set (d:Int).toNat (⟨(nth c<|i64 (d-1)).yf,(nth c<|i64 (d-1)).ya,(nth c<|i64 (d-1)).yb⟩:yh)).flatMap wh) zfs ry .here (mS (enc:=wh) (sz:=3) (k:=0) q.1 q.2)<|mR (enc:=wh) (l:=c) (sz:=3) (vs:=N) (y:=(⟨(nth c<|i64 (d-1)).yf,(nth c<|i64 (d-1)).ya,(nth c<|i64 (d-1)).yb⟩:yh)) (k:=0) q.1 q.2<|Nat.le_of_ble_eq_true U)<|N7 .here (u:=E) (qB (List.length_set).symm)<|N3 (i:=0) U (u:=E) (qB (List.length_set).symm)<|N3 (i:=115) U (u:=E) (qB (List.length_set).symm)<|Lf 16 U (w3 z3g af.1 af.2 wI)<|Nc (i:=17) U (g7 (vs:=P) (ds:=((c.set (d:Int).toNat (⟨(nth c<|i64 (d-1)).yf,(nth c<|i64 (d-1)).ya,(nth c<|i64 (d-1)).yb⟩:yh)).set ((i64 (d-1)):Int).toNat (⟨(nth c d).yf,(nth c d).ya,(nth c d).yb⟩:yh)).flatMap wh) zfs ry .here (mS (enc:=wh) (sz:=3) (k:=0) af.1 af.2)<|mR (enc:=wh) (l:=c.set (d:Int).toNat (⟨(nth c<|i64 (d-1)).yf,(nth c<|i64 (d-1)).ya,(nth c<|i64 (d-1)).yb⟩:yh)) (sz:=3) (vs:=P) (y:=(⟨(nth c d).yf,(nth c d).ya,(nth c d).yb⟩:yh)) (k:=0) af.1 af.2<|Nat.le_of_ble_eq_true U)<|N7 .here (u:=I) (qB (List.length_set).symm)<|N3 (i:=0) U (u:=I) (qB (List.length_set).symm)<|N0<|Lt<|Lb<|D3q U<|WL.nil ?_
        exact Nz ⟨br,(c.set (d:Int).toNat (⟨(nth c<|i64 (d-1)).yf,(nth c<|i64 (d-1)).ya,(nth c<|i64 (d-1)).yb⟩:yh)).set ((i64 (d-1)):Int).toNat (⟨(nth c d).yf,(nth c d).ya,(nth c d).yb⟩:yh),i64 (d-1)⟩ ⟨h,(List.length_set).trans ((List.length_set).trans aC)⟩ .q<|.cons .here .nil
       ·exact N1<|Lm<|Lm<|Lv<|Lo c ⟨h,aC⟩ .nil<|.cons .here .nil
      ·rintro X ⟨h,a4⟩
       replace h:=(a2 X).symm.trans h
       exact Ny<|Lk<|oJ h▸Li results171 .nil fun w hw=>⟨mq,a4,hw.sub (.cons .here .nil)⟩
    ·exact N2<|Lo () h .q<|.cons .here .nil
   ·rintro  h
    replace h:=aW.symm.trans h
    refine B3q U<|Le 132 (mL underlying3 underlying147)<|Le 133 (Q4 U U U)<|Le 134 (mL underlying147 underlying3)<|Q1n U<|B4n U<|B2n U ?_
    obtain⟨bs,a5,h⟩:=jR h
    let A:=(i64 ((u64 (i64 (zB+zS))) / 2 ^ min (1:Int).toNat 64));let Q:Value:=(vi (i64 (A+m_693888)));refine H6 (fun Y aa=>(bs Y aa=some r)) (fun Y aa=>[(0,D),(1,vi zB),(2,vi m_693888),(3,vi zS),(4,F),(18,vi A),(19,Q),(20,vi Y),(21,vi aa)]) (fun Y aa=>J) ?_ ?_
    ·refine B3n U<|Lj h (fun a6 h=>?_)<|fun a6 h=>?_
     ·exact B4n U<|D2q U<|WL.nil<|Lo ⟨i64 ((i64 (A+m_693888))-zS),A⟩ h .q<|.cons .here .nil
     ·exact B2n U<|D2q U<|WL.nil<|Lo ⟨zB,m_693888⟩ h .q<|.cons .here .nil
    ·rintro Y aa h
     replace h:=(a5 Y aa).symm.trans h
     refine B3n U<|jK1 h fun aE a7 h=>Na (fun g=>(aE g=some r)) (fun g=>[(0,D),(1,vi zB),(2,vi m_693888),(3,vi zS),(4,F),(18,vi A),(19,Q),(20,vi g)]) (fun g=>J) ?_ ?_
     ·let L:=(i64 ((i64 (A+m_693888))-1));refine WC.block<|H4 (fun an s z=>(wM zB zS m_693888 zi z1S aE an s z=some r)) (fun an s z=>[(0,D),(1,vi zB),(2,vi m_693888),(3,vi zS),(4,F),(18,vi A),(19,Q),(20,vi s),(21,vi z),(22,vi L)]) (fun an s z=>J) (fun an s z=>an) ⟨xR,Y,aa⟩ h .q (.cons .here .nil) ?_
      rintro(_|aF) s z h;·cases h
      rw[wM] at h
      refine WC.b<|B3n U<|Lj h (fun a8 h=>?_)<|fun a8 h=>?_
      ·refine Nn<|WC.block<|B3q U<|Le 155 (mL underlying3 underlying147)<|Le 156 (Q4 U U U)<|Le 157 (mL underlying147 underlying3)<|Q1n U<|WC.b<|cK h fun ao h=>cK h fun ar h=>bK h fun bt a9 h=>Lu nc []<|Lf 0 U q_m<|Lf 1 U q_m<|Lf 2 U q_m<|Lf 3 U q_m<|Lf 4 U td<|N5 (fun w hw=>Hp.vr .here hw (by intro hz';have:=ao;rw[hz'] at this;omega)) ?_
       rintro⟨bz,rfl⟩
       let C:=(i64 ((u64 (i64 (s+z))) / 2 ^ min (1:Int).toNat 64));refine Lf 5 U (w3 z3g ao.1 ao.2 wI)<|Lh 6 U (wn (cs:=(wh<|nth zi<|i64 (L-C))) z6R<|vU .here<|wU (enc:=wh) (l:=zi) (i:=i64 (L-C)) (sz:=3) ao.1 ao.2)<|Lf 7 U q_m<|Lf 8 U q_m<|Lf 9 U (w3 z3g ar.1 ar.2 wI)<|Lh 10 U (wn (cs:=(wh<|nth zi C)) z6R<|vU .here<|wU (enc:=wh) (l:=zi) (i:=i64 ((u64<|i64 (s+z)) / 2 ^ min (1:Int).toNat 64)) (sz:=3) ar.1 ar.2)<|L4 11 U (qg (l:=[.tmp 164,.tmp 168]) (f:=z35) (caps:=z3R) R<|.r2 U U) (fun w hw=>S w (hz.now hw) (⟨(nth zi<|i64 (L-C)).yf,(nth zi<|i64 (L-C)).ya,(nth zi<|i64 (L-C)).yb⟩:yh) (⟨(nth zi C).yf,(nth zi C).ya,(nth zi C).yb⟩:yh) bt  a9)<|Lf 12 U ra<|Lf 13 U (Xz U)<|N0<|Lb<|Lj h (fun ba h=>?_)<|fun ba h=>?_
       ·exact D3q U<|WL.nil<|Lt<|Nz ⟨aF,i64 (C+1),z⟩ h .q<|.cons .here .nil
       ·exact D2q U<|WL.nil<|Lt<|Nz ⟨aF,s,C⟩ h .q<|.cons .here .nil
      ·exact N1<|Lm<|Lm<|Lv<|Lo s h .q<|.cons .here .nil
     ·rintro g h
      replace h:=(a7 g).symm.trans h
      refine B4n U ?_
      obtain⟨bu,bb,h⟩:=wg h
      let K:=(i64 ((i64 (A+m_693888))-g));refine Na (fun j=>(bu j=some r)/\(j.length=zi.length)) (fun j=>[(0,vs z1r j.length z18),(1,vi zB),(3,vi zS),(4,F),(18,vi A),(20,vi g),(24,vi K)]) (fun j=>[row (vs z1r j.length z18) 83 3 (j.flatMap wh)]) ?_ ?_
      ·refine B0q<|La U<|La U<|La U<|La U<|Ly true 3 181 (B:=(decide (g<m_693888))&&(decide (m_693888<K))) (fun _ bc=>?_) ?_
       ·exact La U<|La U<|La U<|La U<|Lz (kS bc) U .all
       refine Q0n<|Lj h (fun bd h=>?_)<|fun bd h=>?_
       ·refine bK h fun aG be h=>Ld<|La U<|La U<|La U<|La U<|La U<|Nb U (Ns call203) (.cons .here .nil) (cc hz (.cons .here .nil) fun w pz ho=>oK (zfb:=z35) (zln:=z3R) (z7D:=z1S) be pz R S ho) ?_
        rintro  aH
        exact L9 (i:=0) U (u:=(vs z1r aG.length z18)) (qB aH.symm)<|WL.nil<|Lo aG ⟨h,aH.trans U⟩ .q<|.cons .here .nil
       ·exact N2<|Lo zi ⟨h,U⟩ .q<|.cons .here .nil
      ·rintro j ⟨h,aI⟩
       replace h:=(bb j).symm.trans h
       refine jK1 h fun bv bf h=>Na (fun t=>(bv t=some r)/\(t.length=zi.length)) (fun t=>[(0,vs z1r t.length z18),(3,vi zS),(4,F),(18,vi A),(24,vi K)]) (fun t=>[row (vs z1r t.length z18) 83 3 (t.flatMap wh)]) ?_ ?_
       ·refine B0q<|La U<|La U<|La U<|La U<|Ly true 3 195 (B:=(decide (zB<g))&&(decide (g<A))) (fun _ bg=>?_) ?_
        ·exact La U<|La U<|La U<|La U<|Lz (kS bg) U .all
        refine Q0n<|Lj h (fun bh h=>?_)<|fun bh h=>?_
        ·refine bK h fun au bi h=>Ld<|La U<|La U<|La U<|La U<|La U<|Nb U (Ns call171) (.cons .here .nil) (cc hz (.cons .here .nil) fun w pz ho=>ih (Z:=_) (z1r:=z1r) (z18:=z18) (z35:=z35) (z3R:=z3R) (zi:=j) (zB:=zB) (m_693888:=g) (zS:=A) (z1S:=z1S) (r:=au) w pz R S bi ho) ?_
         rintro  aJ
         exact L9 (i:=0) U (u:=(vs z1r au.length z18)) (qB aJ.symm)<|WL.nil<|Lo au ⟨h,aJ.trans aI⟩ .q<|.cons .here .nil
        ·exact N2<|Lo j ⟨h,aI⟩ .q<|.cons .here .nil
       ·rintro t ⟨h,aK⟩
        replace h:=(bf t).symm.trans h
        refine B0q<|La U<|La U<|La U<|La U<|Ly true 3 209 (B:=(decide (A<K))&&(decide (K<zS))) (fun _ bj=>?_) ?_
        ·exact La U<|La U<|La U<|La U<|Lz (kS bj) U .all
        refine Q0n<|Lj h (fun bk h=>?_)<|fun bk h=>?_
        ·refine bK h fun aL bl h=>Ld<|La U<|La U<|La U<|La U<|La U<|Nb U (Ns call171) (.cons .here .nil) (cc hz (.cons .here .nil) fun w pz ho=>ih (Z:=_) (z1r:=z1r) (z18:=z18) (z35:=z35) (z3R:=z3R) (zi:=t) (zB:=A) (m_693888:=K) (zS:=zS) (z1S:=z1S) (r:=aL) w pz R S bl ho) ?_
         rintro  aM
         exact L9 (i:=0) U (u:=(vs z1r aL.length z18)) (qB aM.symm)<|WL.nil<|oJ h▸Nh results171 .nil fun w hw=>⟨mq,aM.trans aK,hw.sub (.cons .here .nil)⟩
        ·exact N2<|oJ h▸Nh results171 .nil fun w hw=>⟨mq,aK,hw.sub (.cons .here .nil)⟩
theorem uM{Z}(z1r z18 z35 z3R zi zB m_693888 zS z1S r){Nx}(hz:Pz [row (vs z1r zi.length z18) 83 3 (zi.flatMap wh)] Nx Z)(a:∀ args w,(callFunc z35 args).run Tryz.prog w = .ok (.enter z35 args) w)(b:∀ w:World,PZ [] w Z->∀(x0:yh) (x1:yh) (r:Int),z1S x0 x1=some r->Calls Tryz.prog z35 (([.agg #[vi x0.yf,vi x0.ya,vi x0.yb],.agg #[vi x1.yf,vi x1.ya,vi x1.yb]]:List Value)++z3R).toArray w fun e w'=>e = .returned (vi r)/\Hp [] w w' [])(h:j9 zi zB m_693888 zS z1S=some r)(eO:Ho Nx [row (vs z1r zi.length z18) 83 3 (zi.flatMap wh)]):Calls Tryz.prog 171 #[vs z1r zi.length z18,vi zB,vi m_693888,vi zS,.func (.func z35) #[] (z3R).toArray] Nx fun e w'=>e = .returned (.tuple #[])/\(r.length=zi.length)/\Hp (fps [row (vs z1r zi.length z18) 83 3 (zi.flatMap wh)]) Nx w' [row (vs z1r r.length z18) 83 3 (r.flatMap wh)]:=pl xR Z z1r z18 z35 z3R zi zB m_693888 zS z1S r Nx hz a b h eO
def wZ(b:Int)(z3e:yh->yh->Option Int)(c:(List yh)->Int->Option (List yh)):Nat->(List yh)->Int->Int->Option (List yh)
 | 0,_,_,_=>none
 | f+1,d,e,a=>if decide (a<=b) then(vc d e a z3e).bind fun g=>wZ b z3e c f g a (i64 (a+20)) else c d e
def vK(d:Int)(b:Int)(z3e:yh->yh->Option Int)(e:(List yh)->Int->Option (List yh)):Nat->(List yh)->Int->Int->Option (List yh)
 | 0,_,_,_=>none
 | g+1,f,c,a=>if decide (a<=d) then(j9 f c (i64 (c+b)) a z3e).bind fun h=>vK d b z3e e g h a (i64 (a+(i64 (2*b)))) else e f c
def vb(b:Int)(z3e:yh->yh->Option Int)(d:(List yh)->Option (List yh)):Nat->(List yh)->Int->Option (List yh)
 | 0,_,_=>none
 | h+1,e,a=>if decide (a<b) then qI (fun(i:List yh)=>vb b z3e d h i (i64 (a*2))) fun j=>sk (fun(f:List yh) (c:Int)=>qI (fun k=>j k) fun g=>if decide ((i64 (c+a))<b) then(j9 f c (i64 (c+a)) b z3e).bind fun l=>g l else g f) fun m=>vK b a z3e m xR e 0 (i64 (2*a)) else d e
def kT(b:List yh)(a:Int)(z3e:yh->yh->Option Int):Option (List yh):=
 sk (fun(c:List yh) (d:Int)=>(vc c d a z3e).bind fun e=>qI (fun(f:List yh)=>some f) fun g=>vb a z3e g xR e 20) fun h=>wZ a z3e h xR b 0 20
theorem oL{Z a b}(z8t za6){c f}(z3e){r}(h:kT c f z3e=some r){Nx}(hz:Pz [row (vs a c.length b) 83 3 (c.flatMap wh)] Nx Z)(D:∀ args w,(callFunc z8t args).run Tryz.prog w = .ok (.enter z8t args) w)(E:∀ w:World,PZ [] w Z->∀(x0:yh) (x1:yh) (r:Int),z3e x0 x1=some r->Calls Tryz.prog z8t (([.agg #[vi x0.yf,vi x0.ya,vi x0.yb],.agg #[vi x1.yf,vi x1.ya,vi x1.yb]]:List Value)++za6).toArray w fun e w'=>e = .returned (vi r)/\Hp [] w w' [])(eO:Ho Nx [row (vs a c.length b) 83 3 (c.flatMap wh)]):
  Calls Tryz.prog 139 #[vs a c.length b,vi f,.func (.func z8t) #[] (za6).toArray] Nx fun e w'=>e = .returned (.tuple #[])/\(r.length=c.length)/\Hp (fps [row (vs a c.length b) 83 3 (c.flatMap wh)]) Nx w' [row (vs a r.length b) 83 3 (r.flatMap wh)]:=by
 unfold kT at h
 refine N8 func139 U eO U<|B1n U<|B3n U ?_
 obtain⟨H,V,h⟩:=jR h
 let A:Value:=(.func (.func z8t) #[] (za6).toArray);refine H6 (fun o y=>(H o y=some r)/\(o.length=c.length)) (fun o y=>[(0,vs a o.length b),(1,vi f),(2,A),(6,vi 20),(7,vi y)]) (fun o y=>[row (vs a o.length b) 83 3 (o.flatMap wh)]) ?_ ?_
 ·refine WC.block<|H9 (fun z l x s=>(wZ f z3e H z l x s=some r)/\(l.length=c.length)) (fun z l x s=>[(0,vs a l.length b),(1,vi f),(2,A),(6,vi 20),(7,vi x),(8,vi s)]) (fun z l x s=>[row (vs a l.length b) 83 3 (l.flatMap wh)]) (fun z l x s=>z) ⟨xR,c,0,20⟩ ⟨h,U⟩ .q (.cons .here .nil) ?_
  rintro (_|ao) l x s ⟨h,I⟩;·cases h
  rw[wZ] at h
  refine WC.b<|B3n U<|Lj h (fun W h=>?_)<|fun W h=>?_
  ·refine Nn<|WC.block<|WC.b<|bK h fun J X h=>D4q U<|Nb U (Ns call170) (.cons .here .nil) (cc hz (.cons .here .nil) fun w pz ho=>mP (zbL:=z8t) (zf6:=za6) (z6O:=z3e) X pz D E ho) ?_
   rintro  K
   exact L9 (i:=0) U (u:=(vs a J.length b)) (qB K.symm)<|Q0n<|B2n U<|D4q U<|WL.nil<|Lt<|Nz ⟨ao,J,s,i64 (s+20)⟩ ⟨h,K.trans I⟩ .q<|.cons .here .nil
  ·exact N1<|Lm<|Lm<|Lv<|Lo ⟨l,x⟩ ⟨h,I⟩ .q<|.cons .here .nil
 ·rintro o y ⟨h,Y⟩
  replace h:=(V o y).symm.trans h
  refine WC.b<|bK h fun L aa h=>D4q U<|Nb U (Ns call170) (.cons .here .nil) (cc hz (.cons .here .nil) fun w pz ho=>mP (zbL:=z8t) (zf6:=za6) (z6O:=z3e) aa pz D E ho) ?_
  rintro  M
  refine L9 (i:=0) U (u:=(vs a L.length b)) (qB M.symm)<|Q0n<|jK1 h fun N ab h=>Ok (fun t=>(N t=some r)/\(t.length=c.length)) (fun t=>[]) (fun t=>[row (vs a t.length b) 83 3 (t.flatMap wh)]) ?_ ?_
  ·refine WC.block<|H4 (fun B g d=>(vb f z3e N B g d=some r)/\(g.length=c.length)) (fun B g d=>[(0,vs a g.length b),(1,vi f),(2,A),(6,vi d)]) (fun B g d=>[row (vs a g.length b) 83 3 (g.flatMap wh)]) (fun B g d=>B) ⟨xR,L,20⟩ ⟨h,M.trans Y⟩ .q (.cons .here .nil) ?_
   rintro (_|ap) g d ⟨h,O⟩;·cases h
   rw[vb] at h
   refine WC.b<|B3n U<|Lj h (fun ad h=>?_)<|fun ad h=>?_
   ·refine Nn<|jK1 h fun aq ae h=>Ok (fun m=>(aq m=some r)/\(m.length=c.length)) (fun m=>[(0,vs a m.length b),(1,vi f),(2,A),(6,(vi<|i64 (d*2)))]) (fun m=>[row (vs a m.length b) 83 3 (m.flatMap wh)]) ?_ ?_
    ·refine WC.block<|B4n U<|jK2 h fun P af h=>H6 (fun j v=>(P j v=some r)/\(j.length=c.length)) (fun j v=>[(0,vs a j.length b),(1,vi f),(2,A),(6,vi d),(7,vi v)]) (fun j v=>[row (vs a j.length b) 83 3 (j.flatMap wh)]) ?_ ?_
     ·refine WC.block<|H9 (fun C k p q=>(vK f d z3e P C k p q=some r)/\(k.length=c.length)) (fun C k p q=>[(0,vs a k.length b),(1,vi f),(2,A),(6,vi d),(7,vi p),(8,vi q)]) (fun C k p q=>[row (vs a k.length b) 83 3 (k.flatMap wh)]) (fun C k p q=>C) ⟨xR,g,0,i64 (2*d)⟩ ⟨h,O⟩ .q (.cons .here .nil) ?_
      rintro (_|ar) k p q ⟨h,Q⟩;·cases h
      rw[vK] at h
      refine WC.b<|B3n U<|Lj h (fun ag h=>?_)<|fun ag h=>?_
      ·refine Nn<|WC.block<|WC.b<|bK h fun F ah h=>Ld<|La U<|La U<|La U<|La U<|La U<|La U<|La U<|Nb U (Ns call171) (.cons .here .nil) (cc hz (.cons .here .nil) fun w pz ho=>uM (z1r:=a) (z18:=b) (z35:=z8t) (z3R:=za6) (zi:=k) (zB:=p) (m_693888:=(i64 (p+d))) (zS:=q) (z1S:=z3e) (r:=F) pz D E ah ho) ?_
       rintro  R
       exact L9 (i:=0) U (u:=(vs a F.length b)) (qB R.symm)<|Q0n<|B2n U<|Ld<|La U<|La U<|La U<|La U<|La U<|WL.nil<|Lt<|Nz ⟨ar,F,q,i64 (q+(i64 (2*d)))⟩ ⟨h,R.trans Q⟩ .q<|.cons .here .nil
      ·exact N1<|Lm<|Lm<|Lv<|Lo ⟨k,p⟩ ⟨h,Q⟩ .q<|.cons .here .nil
     ·rintro j v ⟨h,S⟩
      replace h:=(af j v).symm.trans h
      refine jK1 h fun au ai h=>Na (fun n=>(au n=some r)/\(n.length=c.length)) (fun n=>[(0,vs a n.length b),(1,vi f),(2,A),(6,vi d)]) (fun n=>[row (vs a n.length b) 83 3 (n.flatMap wh)]) ?_ ?_
      ·refine B4n U<|B3n U<|Lj h (fun aj h=>?_)<|fun aj h=>?_
       ·refine bK h fun G ak h=>Ld<|La U<|La U<|La U<|La U<|La U<|Nb U (Ns call171) (.cons .here .nil) (cc hz (.cons .here .nil) fun w pz ho=>uM (z1r:=a) (z18:=b) (z35:=z8t) (z3R:=za6) (zi:=j) (zB:=v) (m_693888:=(i64 (v+d))) (zS:=f) (z1S:=z3e) (r:=G) pz D E ak ho) ?_
        rintro  T
        exact L9 (i:=0) U (u:=(vs a G.length b)) (qB T.symm)<|WL.nil<|Lo G ⟨h,T.trans S⟩ .q<|.cons .here .nil
       ·exact N2<|Lo j ⟨h,S⟩ .q<|.cons .here .nil
      ·rintro n ⟨h,al⟩
       replace h:=(ai n).symm.trans h
       exact D3q U<|WL.nil<|Lt<|Lo n ⟨h,al⟩ .q<|.cons .here .nil
    ·rintro m ⟨h,am⟩
     replace h:=(ae m).symm.trans h
     exact Nz ⟨ap,m,i64 (d*2)⟩ ⟨h,am⟩ .q<|.cons .here .nil
   ·exact N1<|Lm<|Lm<|Lv<|Lo g ⟨h,O⟩ .nil<|.cons .here .nil
  ·rintro t ⟨h,an⟩
   replace h:=(ab t).symm.trans h
   exact oJ h▸Nh results139 .nil fun w hw=>⟨mq,an,hw.sub (.cons .here .nil)⟩
def qf(a:List yh)(zsQ:yh->yh->Option Int):Option (List yh):=
 (kT a (a.length:Int) zsQ).bind fun b=>some b
theorem sU{Z b c}(zsR zBT){a}(zsQ){r}(h:qf a zsQ=some r){Nx}(hz:Pz [row (vs b a.length c) 83 3 (a.flatMap wh)] Nx Z)(f:∀ args w,(callFunc zsR args).run Tryz.prog w = .ok (.enter zsR args) w)(g:∀ w:World,PZ [] w Z->∀(x0:yh) (x1:yh) (r:Int),zsQ x0 x1=some r->Calls Tryz.prog zsR (([.agg #[vi x0.yf,vi x0.ya,vi x0.yb],.agg #[vi x1.yf,vi x1.ya,vi x1.yb]]:List Value)++zBT).toArray w fun e w'=>e = .returned (vi r)/\Hp [] w w' [])(eO:Ho Nx [row (vs b a.length c) 83 3 (a.flatMap wh)]):
  Calls Tryz.prog 90 #[vs b a.length c,.func (.func zsR) #[] (zBT).toArray] Nx fun e w'=>e = .returned (.tuple #[])/\(r.length=a.length)/\Hp (fps [row (vs b a.length c) 83 3 (a.flatMap wh)]) Nx w' [row (vs b r.length c) 83 3 (r.flatMap wh)]:=by
 unfold qf at h
 refine Ni func90 U eO U<|bK h fun k j h=>D2q U<|Le 6 (w9 underlying79)<|La U<|Nb U (Ns call139) (.cons .here .nil) (cc hz (.cons .here .nil) fun w pz ho=>oL (z8t:=zsR) (za6:=zBT) (z3e:=zsQ) j pz f g ho) ?_
 rintro  d
 let A:Value:=(vs b k.length c);refine L9 (i:=0) U (u:=A) (qB d.symm)<|L9 (i:=5) U (u:=A) (qB d.symm)<|WL.nil ?_
 exact oJ h▸Nh results90 .nil fun w hw=>⟨mq,d.trans U,hw.sub (.cons .here .nil)⟩
def qP(a:List yh):Option (List yh):=
 (qf a (fun y0 y1=>mi y0 y1)).bind fun b=>some b
theorem cX{Z b c a r}(h:qP a=some r){Nx}(hz:Pz [row (vs b a.length c) 83 3 (a.flatMap wh)] Nx Z)(eO:Ho Nx [row (vs b a.length c) 83 3 (a.flatMap wh)]):
  Calls Tryz.prog 49 #[vs b a.length c] Nx fun e w'=>e = .returned (vs b r.length c)/\(r.length=a.length)/\Hp (fps [row (vs b a.length c) 83 3 (a.flatMap wh)]) Nx w' [row (vs b r.length c) 83 3 (r.flatMap wh)]:=by
 unfold qP at h
 refine Dz func49 U eO U<|B1n U<|WC.b<|bK h fun g f h=>D1q U<|Nb U (Ns call90) (.cons .here .nil) (cc hz (.cons .here .nil) fun w pz ho=>sU (zsR:=91) (zBT:=[]) (zsQ:=(fun y0 y1=>mi y0 y1)) f pz call91 (fun w' hz' y0 y1  r  hr=>aI hr hz' ) ho) ?_
 rintro  d
 exact L9 (i:=0) U (u:=(vs b g.length c)) (qB d.symm)<|Q0n<|B2n U<|Ny<|oJ h▸Li results49 (.tmp U .nil) fun w hw=>⟨xZ,d.trans U,hw.sub (.cons .here .nil)⟩
def fw(b:List yW)(c:List (List zd))(g:zu)(e:(List yr)->Option (List yh×List yh×Int)):Nat->Int->(List yr)->Option (List yh×List yh×Int)
 | 0,_,_=>none
 | h+1,a,d=>if decide (a<b.length) then qI (fun(i:List yr)=>fw b c g e h (i64 (a+1)) i) fun f=>chk (0<=a/\a<b.length) (chk (0<=((nth b a).yx)/\((nth b a).yx)<c.length) (if decide ((((nth c ((nth b a).yx)).length:Nat):Int)>0) then chk ((0:Int)<=0/\0<(((nth c ((nth b a).yx)).length:Nat):Int)) ((ff g c b ([]:List (z6×yC)) d [] [] ((nth (nth c ((nth b a).yx)) 0).ya) ((nth b a).yb) (-1) a).bind fun j=>f j) else f d)) else e d
def fx(i:zu)(c:List (List zd))(d:List yW)(e:(List yr)->(List yh)->(List yh)->(List (z6×yC))->Option (List yh×List yh×Int)):Nat->(List yr)->(List yh)->(List yh)->(List (z6×yC))->Option (List yh×List yh×Int)
 | 0,_,_,_,_=>none
 | j+1,b,f,g,h=>if decide ((b.length:Int)>0) then(ue i c d h b f g).bind fun a=>fx i c d e j a.1 a.2.1 a.2.2.1 a.2.2.2 else e b f g h
def tA(a:zu)(d:Int)(b:List (List zd))(c:List yW):Option (List yh×List yh×Int):=
 (kE a d b).bind fun e=>if !e then some (([]:List yh),([]:List yh),310) else(t6 a c).bind fun f=>if !f then some (([]:List yh),([]:List yh),311) else qI (fun(g:List yr)=>jp4 (fun(n:List yr) (h:List yh) (i:List yh) (o:List (z6×yC))=>(qP h).bind fun j=>(qP i).bind fun k=>some (j,k,0)) fun l=>fx a b c l xR g ([]:List yh) ([]:List yh) ([]:List (z6×yC))) fun m=>fw c b a m xR 0 ([]:List yr)
theorem Q3{Z ay az aA aB aC aD aE aF aG aI aJ aK aL aM aN aO aP aQ aR aS a aT W y r}(h:tA a aT W y=some r){Nx}(hz:PZ [] Nx Z)(al:ZS Z 4 (kr Z) ay az a.fM)(am:ZS Z 4 (g5 Z) aA aB a.yd)(an:ZS Z 4 (rq ki) aC aD a.fS)(ao:ZS Z 4 (rq gg) aE aF a.fK)(ap:ZS Z 7 (g8 Z) aG aI a.yc)(aq:ZS Z 5 (rq gc) aJ aK a.fH)(ar:ZS Z 3 (g6 Z) aL aM a.fU)(au:ZS Z 4 (rq ge) aN aO a.ye)(av:ZS Z 1 (g9 Z) aP aQ W)(aw:ZS Z 3 (rq nJ) aR aS y):
  Calls Tryz.prog 21 #[.agg #[vs ay a.fM.length az,vs aA a.yd.length aB,vs aC a.fS.length aD,vs aE a.fK.length aF,vs aG a.yc.length aI,vs aJ a.fH.length aK,vs aL a.fU.length aM,vs aN a.ye.length aO],vi aT,vs aP W.length aQ,vs aR y.length aS] Nx fun e w'=>∃ aU:Option Addr,∃ aV:Nat,∃ aW:Option Addr,∃ aX:Nat,e = .returned (.tuple #[vs aU r.1.length aV,vs aW r.2.1.length aX,vi r.2.2])/\True/\Hp [] Nx w' [row (vs aU r.1.length aV) 83 3 (r.1.flatMap wh),row (vs aW r.2.1.length aX) 83 3 (r.2.1.flatMap wh)]:=by
 unfold tA at h
 refine Om func21 U U ?_
 let E:Value:=(vs ay a.fM.length az);let F:Value:=(vs aA a.yd.length aB);let G:Value:=(vs aC a.fS.length aD);let H:Value:=(vs aE a.fK.length aF);let I:Value:=(vs aG a.yc.length aI);let J:Value:=(vs aJ a.fH.length aK);let K:Value:=(vs aL a.fU.length aM);let L:Value:=(vs aN a.ye.length aO);let A:List Value:=[E,F,G,H,I,J,K,L];refine B0q<|Lg 4 (wa (cs:=A)) ?_
 intro a1 _
 refine La U<|La U<|La U<|WL.nil<|Lb<|WC.b<|WC.block<|WC.b<|bK h fun bS a2 h=>Ld<|Le 16 (xK z2v (xM .here))<|Q2q U<|Nr call22 hz (fun pz=>uh a2 pz al am an ao ap aq ar au av)<|Q2n U<|Lj h (fun a3 h=>?_)<|fun a3 h=>?_
 ·exact B3n U<|Ny<|Lw<|Lk<|WX.nilRow 83 3<|WX.nilRow 83 3<|oJ h▸Li results21 (.tmp U<|.tmp U<|.tmp U .nil) fun w hw=>⟨none,0,none,0,Ma U U U,trivial,hw.sub (.s2 .h1 .here)⟩
 ·refine WC.b<|bK h fun bT a4 h=>Ld<|Le 22 (xK z2v (xM .here))<|La U<|Nr call46 hz (fun pz=>Xb a4 pz al am an ao ap aq ar au aw)<|Q2n U<|Lj h (fun a5 h=>?_)<|fun a5 h=>?_
  ·exact B3n U<|Ny<|Lw<|Lk<|WX.nilRow 83 3<|WX.nilRow 83 3<|oJ h▸Li results21 (.tmp U<|.tmp U<|.tmp U .nil) fun w hw=>⟨none,0,none,0,Ma U U U,trivial,hw.sub (.s2 .h1 .here)⟩
  ·refine N2<|Lt<|Lb<|B0q<|Le 26 (xK z2v (xM .here))<|Q2q U<|Lg 29 (kH (ga gq) Value.pointer) ?_
   intro b _
   let C:Value:=(vs aP W.length aQ);let D:Value:=(vs aR y.length aS);refine Bk (M:=[wH z2N ([]:List (z6×((Nat×(Option Addr×Nat))×yC))),xN b (ga gq) Value.pointer (jK ([]:List (z6×((Nat×(Option Addr×Nat))×yC)))),stb a1 31 A]) (fun _ h=>Hp.eE z2N h)<|Le 30 (we (v:=(.agg #[E,F,G,H,I,J,K,L,C,D,(.map<|some b),vn,vn,vn])) (Lq (l:=[.tmp 26,.tmp 27,.tmp 28,.tmp 29]) (.r4 U U U U) [0,1,2,3]))<|Lg 31 (wa (cs:=[E,F,G,H,I,J,K,L,C,D,(.map<|some b),vn,vn,vn])) ?_
   intro c _
   refine Q1n U<|jK1 h fun aY a6 h=>Nj (fun f X Y=>(aY f=some r)) (fun f X Y=>[(11,vp c)]) (fun f X Y=>[stb c 134 [E,F,G,H,I,J,K,L,C,D,(.map<|some b),vs X f.length Y,vn,vn],row (vs X f.length Y) 188 7 (f.flatMap wE),xN b (ga gq) Value.pointer (jK ([]:List (z6×((Nat×(Option Addr×Nat))×yC)))),wH z2N ([]:List (z6×((Nat×(Option Addr×Nat))×yC)))]) ?_ ?_
   ·let N:Value:=(vi (y.length:Int));refine B1q U<|Le 33 (w9 underlying77)<|Q1n U<|WC.block<|WC.nilRow 188 7<|Oa (fun ai p d q s=>(fw y W a aY ai p d=some r)) (fun ai p d q s=>[(2,C),(11,vp c),(32,D),(33,N),(34,vi p)]) (fun ai p d q s=>[stb c 134 [E,F,G,H,I,J,K,L,C,D,(.map<|some b),vs q d.length s,vn,vn],row (vs q d.length s) 188 7 (d.flatMap wE),xN b (ga gq) Value.pointer (jK ([]:List (z6×((Nat×(Option Addr×Nat))×yC)))),wH z2N ([]:List (z6×((Nat×(Option Addr×Nat))×yC)))]) (fun ai p d q s=>ai) ⟨xR,0,([]:List yr),none,0⟩ h .q (.s4 .h1 .here .h1 .here) ?_
    rintro(_|bx) p d q s h;·cases h
    rw[fw] at h
    refine B1n U<|WC.b<|Lj h (fun a7 h=>?_)<|fun a7 h=>?_
    ·refine Nn<|jK1 h fun bz a8 h=>Nj (fun g aa ab=>(bz g=some r)) (fun g aa ab=>[(2,C),(11,vp c),(32,D),(33,N),(34,vi p)]) (fun g aa ab=>[stb c 134 [E,F,G,H,I,J,K,L,C,D,(.map<|some b),vs aa g.length ab,vn,vn],row (vs aa g.length ab) 188 7 (g.flatMap wE),xN b (ga gq) Value.pointer (jK ([]:List (z6×((Nat×(Option Addr×Nat))×yC)))),wH z2N ([]:List (z6×((Nat×(Option Addr×Nat))×yC)))]) ?_ ?_
     ·refine WC.block<|WC.b<|cK h fun a9 h=>D1q U<|L2 (Z:=Z) (Pr:=(rq nJ)) zoe aw a9 ?_
      rintro bC bD ba bE rfl
      refine Le 38 (xK zLW (qx hz.pv ba)) (Lg 13 (xT (cs:=[vi 0,vi 0,vi 0]) zLX) fun bF _=>La U<|Ll (xP zLY .here)<|Q0n<|WC.b ?_)
      refine cK h fun bb h=>D1q U<|Le 40 (xz Yb)<|Le 41 (Nt xJ .here)<|L2 (Z:=Z) (Pr:=(g9 Z)) z8K av bb ?_
      rintro bG bH bc bI ⟨bJ,bL,rfl,bd⟩
      refine Le 43 (xA z9v U<|kN hz.pv bc)<|Q1n U<|B1q U<|Le 45 (w9 underlying58)<|Q1n U<|Lj h (fun be h=>?_)<|fun be h=>?_
      ·refine cK h fun bf h=>bK h fun bA bg h=>Lu (fun i=>[8].contains i) []<|Lf 0 U q_m<|Lf 1 U q_m<|L5 (j:=2) (Z:=Z) (Pr:=(rq mN)) z7F bd bf ?_
       rintro bM bN bh bO rfl
       refine Lf 3 U (xz ku)<|Lh 4 U (xA xJ U<|wq hz.pv bh)<|Lf 5 U (xz dB)<|Lh 6 U (Nt xJ .here)<|Lf 7 U q_m<|WD.call2 (i:=8) U U U U (.inl ⟨U,fun _ _=>(wB.of .nil)⟩) (Ns call47) (.s4 .h1 .h2 .h2 .h1) (cc hz (.s4 .h1 .h2 .h2 .h1) fun w pz ho=>lm bg pz al am an ao ap aq ar au av aw U (ZS.nil _ _ _) (ZS.nil _ _ _) ho) ?_
       rintro bi bj _
       exact N0<|Lt<|Lo ⟨bA,bi,bj⟩ h .q<|.a4
      ·exact N2<|Lt<|Lo ⟨d,q,s⟩ h .q<|.s4 .h1 .h1 .h1 .h1
     ·rintro g aa ab h
      replace h:=(a8 g).symm.trans h
      exact D2q U<|WL.nil<|Nz ⟨bx,i64 (p+1),g,aa,ab⟩ h .q<|.a4
    ·exact N1<|Lm<|Lm<|Lv<|Lo ⟨d,q,s⟩ h (.cons U .nil)<|.a4
   ·rintro f X Y h
    replace h:=(a6 f).symm.trans h
    refine jK4 h fun aZ bk h=>Rh (fun t u k ad aj ak ae af z B ag=>(aZ t u k ad=some r)/\(mM ag=ad)) (fun t u k ad aj ak ae af z B ag=>[(11,vp c)]) (fun t u k ad aj ak ae af z B ag=>[stb c 134 [E,F,G,H,I,J,K,L,C,D,(.map<|some b),vs aj t.length ak,vs ae u.length af,vs z k.length B],row (vs aj t.length ak) 188 7 (t.flatMap wE),row (vs ae u.length af) 83 3 (u.flatMap wh),row (vs z k.length B) 83 3 (k.flatMap wh),xN b (ga gq) Value.pointer (jK ag),wH z2N ag]) ?_ ?_
    ·refine WC.block<|WC.nilRow 83 3<|WC.nilRow 83 3<|Pw (fun ah m n o O P Q R S T V x=>(fx a W y aZ ah m n o O=some r)/\(mM x=O)) (fun ah m n o O P Q R S T V x=>[(11,vp c)]) (fun ah m n o O P Q R S T V x=>[stb c 134 [E,F,G,H,I,J,K,L,C,D,(.map<|some b),vs P m.length Q,vs R n.length S,vs T o.length V],row (vs P m.length Q) 188 7 (m.flatMap wE),row (vs R n.length S) 83 3 (n.flatMap wh),row (vs T o.length V) 83 3 (o.flatMap wh),xN b (ga gq) Value.pointer (jK x),wH z2N x]) (fun ah m n o O P Q R S T V x=>ah) ⟨xR,f,([]:List yh),([]:List yh),([]:List (z6×yC)),X,Y,none,0,none,0,([]:List (z6×((Nat×(Option Addr×Nat))×yC)))⟩ ⟨h,U⟩ (.cons U .nil) (.s6 .h2 .h2 .h1 .here .here .here) ?_
     rintro (_|bB) m n o O P Q R S T V x ⟨h,a0⟩;·cases h
     rw[fx] at h
     refine WC.b<|B1q U<|Le 58 xY<|Le 59 (xz X0)<|Le 60 (Nt zof .here)<|Le 61 (w9 underlying132)<|Q1n U<|Lj h (fun bl h=>?_)<|fun bl h=>?_
     ·refine Nn<|WC.block<|bK h fun ax bm h=>D1q U<|P6 U U U (Ns call48) (.s6 .here .h3 .h3 .here .here .here) (cc hz (.s6 .here .h3 .h3 .here .here .here) fun w pz ho=>aH bm pz al am an ao ap aq ar au av aw a0 ho) ?_
      rintro bn bo bp bq br bs bt bu
      exact WL.nil<|Lt<|Nz ⟨bB,ax.1,ax.2.1,ax.2.2.1,ax.2.2.2,bn,bo,bp,bq,br,bs,bt⟩ ⟨h,bu⟩ (.cons U .nil)<|.a6
     ·exact N1<|Lm<|Lm<|Lv<|Lo ⟨m,n,o,O,P,Q,R,S,T,V,x⟩ ⟨h,a0⟩ (.cons U .nil)<|.a6
    ·rintro t u k ad aj ak ae af z B ag ⟨h,bP⟩
     replace h:=(bk t u k ad).symm.trans h
     refine WC.b<|bK h fun bU bv h=>bK h fun bV bw h=>Lu (fun i=>[4,9].contains i) [re c 134 [(13,vs z k.length B)]]<|Lf 0 U q_m<|Lf 1 U xY<|Lf 2 U (xz X6)<|Lh 3 U (Nt zxn .here)<|Lf 5 U q_m<|Lf 6 U xY<|Lf 7 U (xz X5)<|L7 8 U (wB.wk (.cons .here .nil)<|.stb (.cons U .nil) .nil) (xA zxn U<|mC .here<|.head _)<|WD.call0 (i:=4) U U (.inl ⟨U,(wB.wk (.cons .h1 .nil)<|.stb (.cons U .nil) .nil)⟩) (Ns call49) (.cons .h2 .nil) (cc hz (.cons .h2 .nil) fun w pz ho=>cX bv pz  ho) ?_
     rintro  bQ
     refine WD.call0 (i:=9) U U (.inl ⟨U,(wB.wk (.cons .h2 .nil)<|.stb (.cons U .nil) .nil)⟩) (Ns call49) (.cons .h3 .nil) (cc hz (.cons .h3 .nil) fun w pz ho=>cX bw pz  ho) ?_
     rintro  bR
     exact Lf 10 U q_z<|Lf 11 U q_z<|Lf 12 U q_z<|N0<|Lb<|Ny<|oJ h▸Li results21 (.tmp U<|.tmp U<|.tmp U .nil) fun w hw=>⟨ae,af,z,B,Ma U U U,trivial,hw.sub (.s2 .h1 .here)⟩
def f7(a:zu)(c:Option Bool):Nat->Int->Option Bool
 | 0,_=>none
 | d+1,b=>if decide (b<a.fK.length) then chk (0<=b/\b<a.fK.length) (chk ((0:Int)<=0/\0<(a.fK.length:Int)) (if decide (((nth a.fK b).yp)≠((nth a.fK 0).yp)) then some false else f7 a c d (i64 (b+1)))) else c
def ta(a:zu):Option Bool:=
 mZ (some true) fun b=>f7 a b xR 0
theorem QT{Z d e f g i k l m n o p q s t u v a r}(h:ta a=some r){Nx}(hz:PZ [] Nx Z)(K:ZS Z 4 (kr Z) d e a.fM)(L:ZS Z 4 (g5 Z) f g a.yd)(M:ZS Z 4 (rq ki) i k a.fS)(x:ZS Z 4 (rq gg) l m a.fK)(N:ZS Z 7 (g8 Z) n o a.yc)(O:ZS Z 5 (rq gc) p q a.fH)(P:ZS Z 3 (g6 Z) s t a.fU)(Q:ZS Z 4 (rq ge) u v a.ye):
  RC 23 #[.agg #[vs d a.fM.length e,vs f a.yd.length g,vs i a.fS.length k,vs l a.fK.length m,vs n a.yc.length o,vs p a.fH.length q,vs s a.fU.length t,vs u a.ye.length v]] Nx (.bool r) [] []:=by
 unfold ta at h
 refine L8 func23 U U ?_
 let C:Value:=(vs l a.fK.length m);let A:List Value:=[vs d a.fM.length e,vs f a.yd.length g,vs i a.fS.length k,C,vs n a.yc.length o,vs p a.fH.length q,vs s a.fU.length t,vs u a.ye.length v];refine B0q<|Lg 1 (wa (cs:=A)) ?_
 intro y _
 refine Q1n U<|jK0 h fun z B h=>Nd (z=some r) ([]) ([]) ?_ ?_
 ·refine B0q<|Le 5 (xz tx)<|Le 6 (Nt zaU .here)<|Le 7 (w9 underlying25)<|Q1n U<|WC.block<|Ng (fun c b=>(f7 a z c b=some r)) (fun c b=>[(1,vp y),(6,C),(7,vi (a.fK.length:Int)),(8,vi b)]) (fun c b=>[stb y 31 A]) (fun c b=>c) ⟨xR,0⟩ h .q (.cons .here .nil) ?_
  rintro(_|J) b h;·cases h
  rw[f7] at h
  refine B1n U<|WC.b<|Lj h (fun D h=>?_)<|fun D h=>?_
  ·refine Nn<|WC.b<|WC.block<|WC.b<|cK h fun E h=>Ld<|L2 (Z:=Z) (Pr:=(rq gg)) zdD x E ?_
   rintro R S F T rfl
   refine Le 11 (xK zLw (qx hz.pv F)) (Lg 4 (xT (cs:=[.string ⟨#[]⟩,.string ⟨#[]⟩,vi 0,vi 0]) zLx) fun V _=>Ll (xP zLy .here)<|Q0n<|WC.b ?_)
   refine cK h fun G h=>Lu nc []<|Lf 0 U (xz rK)<|Lh 1 U (Nt xJ .here)<|Lf 2 U (xz tx)<|Lh 3 U (Nt zaU .h1)<|L5 (j:=4) (Z:=Z) (Pr:=(rq gg)) zdD x G ?_
   rintro W X H Y rfl
   refine Lf 5 U (xz rK)<|Lh 6 U (xA xJ U<|wq hz.pv H)<|Lf 7 U (Xy U U)<|N0<|Lb<|Lj h (fun I h=>?_)<|fun I h=>?_
   ·exact B1n U<|Ny<|Lw<|Lk<|Lk<|Lw<|Lk<|oJ h▸Nl results23
   ·exact N2<|Lt<|Lb<|D2q U<|WL.nil<|Nz ⟨J,i64 (b+1)⟩ h .q<|.cons .h1 .nil
  ·exact N1<|Lm<|Lm<|Lv<|Lo () h .nil .nil
 ·rintro  h
  replace h:=B.symm.trans h
  exact B1n U<|Ny<|oJ h▸Nl results23
end Go.Proofs.YthjnhebofpebpaaGreat

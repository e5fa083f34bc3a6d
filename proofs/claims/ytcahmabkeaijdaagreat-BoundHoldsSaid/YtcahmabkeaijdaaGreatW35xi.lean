/- A part of this claim's proof: models of functions, walks, plain laws. No conditions. -/
import Derived.Test.YtcahmabkeaijdaaGreatW35xh
set_option linter.all false
namespace Go.Proofs.YtcahmabkeaijdaaGreat
open Go Go.RowKit Sep Tryz
variable {f:List yh}{g i l:Int}{j:(List yh)->Option (List yh)}{k:(List yh)->Int->Option (List yh)}
set_option maxRecDepth 30000
set_option maxHeartbeats 4000000
def wP(zh:List yh)(zB:Int)(z1J:yh->yh->Option Int)(c:Int->Option (List yh)):Nat->Int->Int->Option (List yh)
 | 0,_,_=>none
 | d+1,a,b=>if decide (a<b) then chk (0<=(i64 ((u64 (i64 (a+b))) / 2 ^ min (1:Int).toNat 64))/\(i64 ((u64 (i64 (a+b))) / 2 ^ min (1:Int).toNat 64))<zh.length) (chk (0<=zB/\zB<zh.length) ((z1J (⟨(nth zh (i64 ((u64 (i64 (a+b))) / 2 ^ min (1:Int).toNat 64))).yc,(nth zh (i64 ((u64 (i64 (a+b))) / 2 ^ min (1:Int).toNat 64))).ya,(nth zh (i64 ((u64 (i64 (a+b))) / 2 ^ min (1:Int).toNat 64))).yb⟩:yh) (⟨(nth zh zB).yc,(nth zh zB).ya,(nth zh zB).yb⟩:yh)).bind fun e=>if decide (e<0) then wP zh zB z1J c d (i64 ((i64 ((u64 (i64 (a+b))) / 2 ^ min (1:Int).toNat 64))+1)) b else wP zh zB z1J c d a (i64 ((u64 (i64 (a+b))) / 2 ^ min (1:Int).toNat 64)))) else c a
def wQ(c:Int)(d:(List yh)->Option (List yh)):Nat->(List yh)->Int->Option (List yh)
 | 0,_,_=>none
 | e+1,b,a=>if decide (a<(i64 (c-1))) then chk (0<=(i64 (a+1))/\(i64 (a+1))<b.length) (chk (0<=a/\a<b.length) (chk (0<=(i64 (a+1))/\(i64 (a+1))<(((b.set (a:Int).toNat (⟨(nth b (i64 (a+1))).yc,(nth b (i64 (a+1))).ya,(nth b (i64 (a+1))).yb⟩:yh)).length:Nat):Int)) (wQ c d e ((b.set (a:Int).toNat (⟨(nth b (i64 (a+1))).yc,(nth b (i64 (a+1))).ya,(nth b (i64 (a+1))).yb⟩:yh)).set ((i64 (a+1)):Int).toNat (⟨(nth b a).yc,(nth b a).ya,(nth b a).yb⟩:yh)) (i64 (a+1))))) else d b
def wR(m_502825:Int)(zh:List yh)(z1J:yh->yh->Option Int)(c:Int->Option (List yh)):Nat->Int->Int->Option (List yh)
 | 0,_,_=>none
 | d+1,a,b=>if decide (a<b) then chk (0<=m_502825/\m_502825<zh.length) (chk (0<=(i64 ((u64 (i64 (a+b))) / 2 ^ min (1:Int).toNat 64))/\(i64 ((u64 (i64 (a+b))) / 2 ^ min (1:Int).toNat 64))<zh.length) ((z1J (⟨(nth zh m_502825).yc,(nth zh m_502825).ya,(nth zh m_502825).yb⟩:yh) (⟨(nth zh (i64 ((u64 (i64 (a+b))) / 2 ^ min (1:Int).toNat 64))).yc,(nth zh (i64 ((u64 (i64 (a+b))) / 2 ^ min (1:Int).toNat 64))).ya,(nth zh (i64 ((u64 (i64 (a+b))) / 2 ^ min (1:Int).toNat 64))).yb⟩:yh)).bind fun e=>if !(decide (e<0)) then wR m_502825 zh z1J c d (i64 ((i64 ((u64 (i64 (a+b))) / 2 ^ min (1:Int).toNat 64))+1)) b else wR m_502825 zh z1J c d a (i64 ((u64 (i64 (a+b))) / 2 ^ min (1:Int).toNat 64)))) else c a
def vw(c:Int)(d:(List yh)->Option (List yh)):Nat->(List yh)->Int->Option (List yh)
 | 0,_,_=>none
 | e+1,b,a=>if decide (a>c) then chk (0<=(i64 (a-1))/\(i64 (a-1))<b.length) (chk (0<=a/\a<b.length) (chk (0<=(i64 (a-1))/\(i64 (a-1))<(((b.set (a:Int).toNat (⟨(nth b (i64 (a-1))).yc,(nth b (i64 (a-1))).ya,(nth b (i64 (a-1))).yb⟩:yh)).length:Nat):Int)) (vw c d e ((b.set (a:Int).toNat (⟨(nth b (i64 (a-1))).yc,(nth b (i64 (a-1))).ya,(nth b (i64 (a-1))).yb⟩:yh)).set ((i64 (a-1)):Int).toNat (⟨(nth b a).yc,(nth b a).ya,(nth b a).yb⟩:yh)) (i64 (a-1))))) else d b
def wJ(zB:Int)(zT:Int)(m_502825:Int)(zh:List yh)(z1J:yh->yh->Option Int)(c:Int->Option (List yh)):Nat->Int->Int->Option (List yh)
 | 0,_,_=>none
 | d+1,a,b=>if decide (a<b) then chk (0<=(i64 ((i64 ((i64 ((i64 ((u64 (i64 (zB+zT))) / 2 ^ min (1:Int).toNat 64))+m_502825))-1))-(i64 ((u64 (i64 (a+b))) / 2 ^ min (1:Int).toNat 64))))/\(i64 ((i64 ((i64 ((i64 ((u64 (i64 (zB+zT))) / 2 ^ min (1:Int).toNat 64))+m_502825))-1))-(i64 ((u64 (i64 (a+b))) / 2 ^ min (1:Int).toNat 64))))<zh.length) (chk (0<=(i64 ((u64 (i64 (a+b))) / 2 ^ min (1:Int).toNat 64))/\(i64 ((u64 (i64 (a+b))) / 2 ^ min (1:Int).toNat 64))<zh.length) ((z1J (⟨(nth zh (i64 ((i64 ((i64 ((i64 ((u64 (i64 (zB+zT))) / 2 ^ min (1:Int).toNat 64))+m_502825))-1))-(i64 ((u64 (i64 (a+b))) / 2 ^ min (1:Int).toNat 64))))).yc,(nth zh (i64 ((i64 ((i64 ((i64 ((u64 (i64 (zB+zT))) / 2 ^ min (1:Int).toNat 64))+m_502825))-1))-(i64 ((u64 (i64 (a+b))) / 2 ^ min (1:Int).toNat 64))))).ya,(nth zh (i64 ((i64 ((i64 ((i64 ((u64 (i64 (zB+zT))) / 2 ^ min (1:Int).toNat 64))+m_502825))-1))-(i64 ((u64 (i64 (a+b))) / 2 ^ min (1:Int).toNat 64))))).yb⟩:yh) (⟨(nth zh (i64 ((u64 (i64 (a+b))) / 2 ^ min (1:Int).toNat 64))).yc,(nth zh (i64 ((u64 (i64 (a+b))) / 2 ^ min (1:Int).toNat 64))).ya,(nth zh (i64 ((u64 (i64 (a+b))) / 2 ^ min (1:Int).toNat 64))).yb⟩:yh)).bind fun e=>if !(decide (e<0)) then wJ zB zT m_502825 zh z1J c d (i64 ((i64 ((u64 (i64 (a+b))) / 2 ^ min (1:Int).toNat 64))+1)) b else wJ zB zT m_502825 zh z1J c d a (i64 ((u64 (i64 (a+b))) / 2 ^ min (1:Int).toNat 64)))) else c a
def wZ:Nat->(List yh)->Int->Int->Int->(yh->yh->Option Int)->Option (List yh)
 | 0,_,_,_,_,_=>none
 | b+1,zh,zB,m_502825,zT,z1J=>uB (uB (sK (fun(h:Int) (i:Int)=>qP (fun(a:Int)=>qP (fun(c:List yh)=>qP (fun(d:List yh)=>if (decide ((i64 ((u64 (i64 (zB+zT))) / 2 ^ min (1:Int).toNat 64))<(i64 ((i64 ((i64 ((u64 (i64 (zB+zT))) / 2 ^ min (1:Int).toNat 64))+m_502825))-a))))&&(decide ((i64 ((i64 ((i64 ((u64 (i64 (zB+zT))) / 2 ^ min (1:Int).toNat 64))+m_502825))-a))<zT)) then((wZ b) d (i64 ((u64 (i64 (zB+zT))) / 2 ^ min (1:Int).toNat 64)) (i64 ((i64 ((i64 ((u64 (i64 (zB+zT))) / 2 ^ min (1:Int).toNat 64))+m_502825))-a)) zT z1J).bind fun j=>some j else some d) fun e=>if (decide (zB<a))&&(decide (a<(i64 ((u64 (i64 (zB+zT))) / 2 ^ min (1:Int).toNat 64)))) then((wZ b) c zB a (i64 ((u64 (i64 (zB+zT))) / 2 ^ min (1:Int).toNat 64)) z1J).bind fun k=>e k else e c) fun f=>if (decide (a<m_502825))&&(decide (m_502825<(i64 ((i64 ((i64 ((u64 (i64 (zB+zT))) / 2 ^ min (1:Int).toNat 64))+m_502825))-a)))) then(jv zh a m_502825 (i64 ((i64 ((i64 ((u64 (i64 (zB+zT))) / 2 ^ min (1:Int).toNat 64))+m_502825))-a)) z1J).bind fun l=>f l else f zh) fun m=>wJ zB zT m_502825 zh z1J m xR h i) fun g=>if decide (m_502825>(i64 ((u64 (i64 (zB+zT))) / 2 ^ min (1:Int).toNat 64))) then g (i64 ((i64 ((i64 ((u64 (i64 (zB+zT))) / 2 ^ min (1:Int).toNat 64))+m_502825))-zT)) (i64 ((u64 (i64 (zB+zT))) / 2 ^ min (1:Int).toNat 64)) else g zB m_502825) fun n=>if decide ((i64 (zT-m_502825))=1) then qP (fun(o:Int)=>qP (fun(p:List yh)=>some p) fun q=>vw o q xR zh m_502825) fun r=>wR m_502825 zh z1J r xR zB m_502825 else n) fun s=>if decide ((i64 (m_502825-zB))=1) then qP (fun(t:Int)=>qP (fun(u:List yh)=>some u) fun v=>wQ t v xR zh zB) fun w=>wP zh zB z1J w xR m_502825 zT else s
def j6(zh:List yh)(zB:Int)(m_502825:Int)(zT:Int)(z1J:yh->yh->Option Int):Option (List yh):=wZ xR zh zB m_502825 zT z1J
theorem rZ:∀(n:Nat) (Z:Zp) (z1n:Option Addr) (z19:Nat) (z2G:FuncId) (z3b:List Value) (zh:List yh) (zB:Int) (m_502825:Int) (zT:Int) (z1J:yh->yh->Option Int) (r:List yh) (Nv:World) (hz:Pz [row (vs z1n zh.length z19) 81 3 (zh.flatMap wd)] Nv Z)
  (R:∀ args w,(callFunc z2G args).run Tryz.prog w = .ok (.enter z2G args) w)
  (S:∀ w:World,PZ [] w Z->∀(x0:yh) (x1:yh) (r:Int),z1J x0 x1=some r->Calls Tryz.prog z2G (([.agg #[vi x0.yc,vi x0.ya,vi x0.yb],.agg #[vi x1.yc,vi x1.ya,vi x1.yb]]:List Value)++z3b).toArray w fun e w'=>e = .returned (vi r)/\Hp [] w w' []) (h:wZ n zh zB m_502825 zT z1J=some r)
  (ip:Hp (fps [row (vs z1n zh.length z19) 81 3 (zh.flatMap wd)]) Nv Nv [row (vs z1n zh.length z19) 81 3 (zh.flatMap wd)]),Calls Tryz.prog 132 #[vs z1n zh.length z19,vi zB,vi m_502825,vi zT,.func (.func z2G) #[] (z3b).toArray] Nv fun e w'=>e = .returned (.tuple #[])/\(r.length=zh.length)/\Hp (fps [row (vs z1n zh.length z19) 81 3 (zh.flatMap wd)]) Nv w' [row (vs z1n r.length z19) 81 3 (r.flatMap wd)]:=by
 intro n
 induction n with
 | zero=>intro Z z1n z19 z2G z3b zh zB m_502825 zT z1J r Nv hz R S h ip;cases h
 | succ bA ih=>
  intro Z z1n z19 z2G z3b zh zB m_502825 zT z1J r Nv hz R S h ip
  rw[wZ] at h
  refine Dx func132 U ip U ?_
  obtain⟨bm,aN,h⟩:=qB h
  let D:Value:=(vs z1n zh.length z19);let F:Value:=(.func (.func z2G) #[] (z3b).toArray);let J:List Asrt:=[row D 81 3 (zh.flatMap wd)];refine Nd (bm=some r) ([(0,D),(1,vi zB),(2,vi m_502825),(3,vi zT),(4,F)]) J ?_ ?_
  ·refine B4n U<|Lj h (fun aO h=>?_)<|fun aO h=>?_
   ·refine B2n U<|B2n U<|jK1 h fun av aP h=>L5 (fun T=>(av T=some r)) (fun T=>[(0,D),(1,vi zB),(10,vi T)]) (fun T=>J) ?_ ?_
    ·refine WC.block<|N7 (fun ag m v=>(wP zh zB z1J av ag m v=some r)) (fun ag m v=>[(0,D),(1,vi zB),(4,F),(10,vi m),(11,vi v)]) (fun ag m v=>J) (fun ag m v=>ag) ⟨xR,m_502825,zT⟩ h .q (.cons .here .nil) ?_
     rintro(_|aw) m v h;·cases h
     rw[wP] at h
     refine WC.b<|B3n U<|Lj h (fun aQ h=>?_)<|fun aQ h=>?_
     ·refine Nn<|WC.block<|B3q U<|Le 37 (fg underlying3 underlying142)<|Le 38 (QJ U U (by decide) U)<|Le 39 (fg underlying142 underlying3)<|Q1n U<|WC.b<|cK h fun ah h=>cK h fun ap h=>bK h fun bn aR h=>Lu nc []<|Lf 0 U q_m<|Lf 1 U q_m<|Lf 2 U q_m<|N2 (fun w hw=>Hp.vo .here hw (by intro hz';have:=ah;rw[hz'] at this;omega)) ?_
      rintro⟨bw,rfl⟩
      let G:=(i64 ((u64 (i64 (m+v))) / 2 ^ min (1:Int).toNat 64));refine Lf 3 U (xY z2J ah.1 ah.2 wz)<|Lg 4 U (wi (cs:=(wd<|nth zh G)) z5o<|vB .here<|wG (enc:=wd) (l:=zh) (i:=i64 ((u64<|i64 (m+v)) / 2 ^ min (1:Int).toNat 64)) (sz:=3) (fun _=>U) ah.1 ah.2)<|Lf 5 U q_m<|Lf 6 U q_m<|Lf 7 U (xY z2J ap.1 ap.2 wz)<|Lg 8 U (wi (cs:=(wd<|nth zh zB)) z5o<|vB .here<|wG (enc:=wd) (l:=zh) (i:=zB) (sz:=3) (fun _=>U) ap.1 ap.2)<|L4 9 U (qi (l:=[.tmp 44,.tmp 48]) (f:=z2G) (caps:=z3b) R<|.r2 U U) (fun w hw=>S w (hz.now hw) (⟨(nth zh G).yc,(nth zh G).ya,(nth zh G).yb⟩:yh) (⟨(nth zh zB).yc,(nth zh zB).ya,(nth zh zB).yb⟩:yh) bn  aR)<|Lf 10 U sS<|Ny (by kernel_rfl)<|Lb<|Lj h (fun aS h=>?_)<|fun aS h=>?_
      ·exact D3q U<|WL.nil<|Lt<|Nx ⟨aw,i64 (G+1),v⟩ h (Nat.lt_succ_self _) .q<|.cons .here .nil
      ·exact D2q U<|WL.nil<|Lt<|Nx ⟨aw,m,G⟩ h (Nat.lt_succ_self _) .q<|.cons .here .nil
     ·exact Nz<|Lo<|Lo<|Lv<|Lp m h .q<|.cons .here .nil
    ·rintro T h
     replace h:=(aP T).symm.trans h
     refine jK1 h fun ax aT h=>L5 (fun V=>(ax V=some r)/\(V.length=zh.length)) (fun V=>[]) (fun V=>[row (vs z1n V.length z19) 81 3 (V.flatMap wd)]) ?_ ?_
     ·refine B2n U<|WC.block<|N7 (fun ab a b=>(wQ T ax ab a b=some r)/\(a.length=zh.length)) (fun ab a b=>[(0,vs z1n a.length z19),(10,vi T),(13,vi b)]) (fun ab a b=>[row (vs z1n a.length z19) 81 3 (a.flatMap wd)]) (fun ab a b=>ab) ⟨xR,zh,zB⟩ ⟨h,U⟩ .q (.cons .here .nil) ?_
      rintro (_|bo) a b ⟨h,ay⟩;·cases h
      rw[wQ] at h
      refine WC.b<|B4n U<|Lj h (fun aU h=>?_)<|fun aU h=>?_
      ·refine Nn<|WC.b<|WC.block<|cK h fun ai h=>cK h fun o h=>cK h fun ad h=>Lu (fun i=>[15,17].contains i) []<|Lf 0 U q_m<|Lf 1 U q_m<|Lf 2 U q_m<|Lf 3 U q_m<|Lf 4 U rP<|Lf 5 U q_m<|Lf 6 U q_m<|Lf 7 U rP<|N2 (fun w hw=>Hp.vo .here hw (by intro hz';have:=ai;rw[hz'] at this;omega)) ?_
       rintro⟨aj,rfl⟩
       let M:List Value:=[vi ((nth a (i64 (b+1))).yc),vi ((nth a (i64 (b+1))).ya),vi ((nth a (i64 (b+1))).yb)];let O:List Value:=[vi ((nth a b).yc),vi ((nth a b).ya),vi ((nth a b).yb)];refine Lf 8 U (xY z2J ai.1 ai.2 wz)<|Lg 9 U (wi (cs:=(wd<|nth a<|i64 (b+1))) z5o<|vB .here<|wG (enc:=wd) (l:=a) (i:=i64 (b+1)) (sz:=3) (fun _=>U) ai.1 ai.2)<|Lf 10 U q_m<|Lf 11 U q_m<|Lf 12 U (xY z2J o.1 o.2 wz)<|Lg 13 U (wi (cs:=(wd<|nth a b)) z5o<|vB .here<|wG (enc:=wd) (l:=a) (i:=b) (sz:=3) (fun _=>U) o.1 o.2)<|Lf 14 U (xY z2J o.1 o.2 wz)<|WD.forced0 (i:=15) U (by kernel_rfl) (wT.of .nil) (kQ (vs:=M) (ds:=(a.set (b:Int).toNat (⟨(nth a<|i64 (b+1)).yc,(nth a<|i64 (b+1)).ya,(nth a<|i64 (b+1)).yb⟩:yh)).flatMap wd) zc8 sN .here (ma (enc:=wd) (sz:=3) (k:=0) (fun _=>U) o.1 o.2 (by decide))<|fZ (enc:=wd) (l:=a) (sz:=3) (vs:=M) (y:=(⟨(nth a<|i64 (b+1)).yc,(nth a<|i64 (b+1)).ya,(nth a<|i64 (b+1)).yb⟩:yh)) (k:=0) (fun _=>U) o.1 o.2<|Nat.le_of_ble_eq_true U)<|N4 .here (u:=(vs (some ⟨aj,0,none⟩) ((a.set (b:Int).toNat (⟨(nth a<|i64 (b+1)).yc,(nth a<|i64 (b+1)).ya,(nth a<|i64 (b+1)).yb⟩:yh)).length) z19)) (qs (List.length_set).symm)<|Nk (i:=0) U (u:=(vs (some ⟨aj,0,none⟩) ((a.set (b:Int).toNat (⟨(nth a<|i64 (b+1)).yc,(nth a<|i64 (b+1)).ya,(nth a<|i64 (b+1)).yb⟩:yh)).length) z19)) (qs (List.length_set).symm)<|Nk (i:=63) U (u:=(vs (some ⟨aj,0,none⟩) ((a.set (b:Int).toNat (⟨(nth a<|i64 (b+1)).yc,(nth a<|i64 (b+1)).ya,(nth a<|i64 (b+1)).yb⟩:yh)).length) z19)) (qs (List.length_set).symm)<|Lf 16 U (xY z2J ad.1 ad.2 wz)<|Nc (i:=17) U (by kernel_rfl) (by kernel_rfl) (kQ (vs:=O) (ds:=((a.set (b:Int).toNat (⟨(nth a<|i64 (b+1)).yc,(nth a<|i64 (b+1)).ya,(nth a<|i64 (b+1)).yb⟩:yh)).set ((i64 (b+1)):Int).toNat (⟨(nth a b).yc,(nth a b).ya,(nth a b).yb⟩:yh)).flatMap wd) zc8 sN .here (ma (enc:=wd) (sz:=3) (k:=0) (fun _=>U) ad.1 ad.2 (by decide))<|fZ (enc:=wd) (l:=a.set (b:Int).toNat (⟨(nth a<|i64 (b+1)).yc,(nth a<|i64 (b+1)).ya,(nth a<|i64 (b+1)).yb⟩:yh)) (sz:=3) (vs:=O) (y:=(⟨(nth a b).yc,(nth a b).ya,(nth a b).yb⟩:yh)) (k:=0) (fun _=>U) ad.1 ad.2<|Nat.le_of_ble_eq_true U)<|N4 .here (u:=(vs (some ⟨aj,0,none⟩) (((a.set (b:Int).toNat (⟨(nth a<|i64 (b+1)).yc,(nth a<|i64 (b+1)).ya,(nth a<|i64 (b+1)).yb⟩:yh)).set ((i64 (b+1)):Int).toNat (⟨(nth a b).yc,(nth a b).ya,(nth a b).yb⟩:yh)).length) z19)) (qs (List.length_set).symm)<|Nk (i:=0) U (u:=(vs (some ⟨aj,0,none⟩) (((a.set (b:Int).toNat (⟨(nth a<|i64 (b+1)).yc,(nth a<|i64 (b+1)).ya,(nth a<|i64 (b+1)).yb⟩:yh)).set ((i64 (b+1)):Int).toNat (⟨(nth a b).yc,(nth a b).ya,(nth a b).yb⟩:yh)).length) z19)) (qs (List.length_set).symm)<|Ny (by kernel_rfl)<|Lt<|Lb<|D3q U<|WL.nil ?_
       exact Nx ⟨bo,(a.set (b:Int).toNat (⟨(nth a<|i64 (b+1)).yc,(nth a<|i64 (b+1)).ya,(nth a<|i64 (b+1)).yb⟩:yh)).set ((i64 (b+1)):Int).toNat (⟨(nth a b).yc,(nth a b).ya,(nth a b).yb⟩:yh),i64 (b+1)⟩ ⟨h,(List.length_set).trans ((List.length_set).trans ay)⟩ (Nat.lt_succ_self _) .q<|.cons .here .nil
      ·exact Nz<|Lo<|Lo<|Lv<|Lp a ⟨h,ay⟩ .nil<|.cons .here .nil
     ·rintro V ⟨h,aV⟩
      replace h:=(aT V).symm.trans h
      exact Nw<|Ll<|oJ h▸Li results132 .nil fun w hw=>⟨mF,aV,hw.sub (.cons .here .nil)⟩
   ·exact N0<|Lp () h .q<|.cons .here .nil
  ·rintro  h
   replace h:=aN.symm.trans h
   refine jK0 h fun bp aW h=>Nd (bp=some r) ([(0,D),(1,vi zB),(2,vi m_502825),(3,vi zT),(4,F)]) J ?_ ?_
   ·refine B4n U<|Lj h (fun aX h=>?_)<|fun aX h=>?_
    ·refine B2n U<|B2n U<|jK1 h fun az aY h=>L5 (fun W=>(az W=some r)) (fun W=>[(0,D),(2,vi m_502825),(14,vi W)]) (fun W=>J) ?_ ?_
     ·refine WC.block<|N7 (fun ak p x=>(wR m_502825 zh z1J az ak p x=some r)) (fun ak p x=>[(0,D),(2,vi m_502825),(4,F),(14,vi p),(15,vi x)]) (fun ak p x=>J) (fun ak p x=>ak) ⟨xR,zB,m_502825⟩ h .q (.cons .here .nil) ?_
      rintro(_|aA) p x h;·cases h
      rw[wR] at h
      refine WC.b<|B3n U<|Lj h (fun aZ h=>?_)<|fun aZ h=>?_
      ·refine Nn<|WC.block<|B3q U<|Le 89 (fg underlying3 underlying142)<|Le 90 (QJ U U (by decide) U)<|Le 91 (fg underlying142 underlying3)<|Q1n U<|WC.b<|cK h fun al h=>cK h fun aq h=>bK h fun bq a0 h=>Lu nc []<|Lf 0 U q_m<|Lf 1 U q_m<|Lf 2 U q_m<|N2 (fun w hw=>Hp.vo .here hw (by intro hz';have:=al;rw[hz'] at this;omega)) ?_
       rintro⟨bx,rfl⟩
       let H:=(i64 ((u64 (i64 (p+x))) / 2 ^ min (1:Int).toNat 64));refine Lf 3 U (xY z2J al.1 al.2 wz)<|Lg 4 U (wi (cs:=(wd<|nth zh m_502825)) z5o<|vB .here<|wG (enc:=wd) (l:=zh) (i:=m_502825) (sz:=3) (fun _=>U) al.1 al.2)<|Lf 5 U q_m<|Lf 6 U q_m<|Lf 7 U (xY z2J aq.1 aq.2 wz)<|Lg 8 U (wi (cs:=(wd<|nth zh H)) z5o<|vB .here<|wG (enc:=wd) (l:=zh) (i:=i64 ((u64<|i64 (p+x)) / 2 ^ min (1:Int).toNat 64)) (sz:=3) (fun _=>U) aq.1 aq.2)<|L4 9 U (qi (l:=[.tmp 96,.tmp 100]) (f:=z2G) (caps:=z3b) R<|.r2 U U) (fun w hw=>S w (hz.now hw) (⟨(nth zh m_502825).yc,(nth zh m_502825).ya,(nth zh m_502825).yb⟩:yh) (⟨(nth zh H).yc,(nth zh H).ya,(nth zh H).yb⟩:yh) bq  a0)<|Lf 10 U sS<|Lf 11 U (Yd U)<|Ny (by kernel_rfl)<|Lb<|Lj h (fun a1 h=>?_)<|fun a1 h=>?_
       ·exact D3q U<|WL.nil<|Lt<|Nx ⟨aA,i64 (H+1),x⟩ h (Nat.lt_succ_self _) .q<|.cons .here .nil
       ·exact D2q U<|WL.nil<|Lt<|Nx ⟨aA,p,H⟩ h (Nat.lt_succ_self _) .q<|.cons .here .nil
      ·exact Nz<|Lo<|Lo<|Lv<|Lp p h .q<|.cons .here .nil
     ·rintro W h
      replace h:=(aY W).symm.trans h
      refine jK1 h fun aB a2 h=>L5 (fun X=>(aB X=some r)/\(X.length=zh.length)) (fun X=>[]) (fun X=>[row (vs z1n X.length z19) 81 3 (X.flatMap wd)]) ?_ ?_
      ·refine B2n U<|WC.block<|N7 (fun ae c d=>(vw W aB ae c d=some r)/\(c.length=zh.length)) (fun ae c d=>[(0,vs z1n c.length z19),(14,vi W),(17,vi d)]) (fun ae c d=>[row (vs z1n c.length z19) 81 3 (c.flatMap wd)]) (fun ae c d=>ae) ⟨xR,zh,m_502825⟩ ⟨h,U⟩ .q (.cons .here .nil) ?_
       rintro (_|br) c d ⟨h,aC⟩;·cases h
       rw[vw] at h
       refine WC.b<|B3n U<|Lj h (fun a3 h=>?_)<|fun a3 h=>?_
       ·refine Nn<|WC.b<|WC.block<|cK h fun am h=>cK h fun q h=>cK h fun af h=>Lu (fun i=>[15,17].contains i) []<|Lf 0 U q_m<|Lf 1 U q_m<|Lf 2 U q_m<|Lf 3 U q_m<|Lf 4 U sR<|Lf 5 U q_m<|Lf 6 U q_m<|Lf 7 U sR<|N2 (fun w hw=>Hp.vo .here hw (by intro hz';have:=am;rw[hz'] at this;omega)) ?_
        rintro⟨aD,rfl⟩
        let E:Value:=(vs (some ⟨aD,0,none⟩) ((c.set (d:Int).toNat (⟨(nth c (i64 (d-1))).yc,(nth c (i64 (d-1))).ya,(nth c (i64 (d-1))).yb⟩:yh)).length) z19);let I:Value:=(vs (some ⟨aD,0,none⟩) (((c.set (d:Int).toNat (⟨(nth c (i64 (d-1))).yc,(nth c (i64 (d-1))).ya,(nth c (i64 (d-1))).yb⟩:yh)).set ((i64 (d-1)):Int).toNat (⟨(nth c d).yc,(nth c d).ya,(nth c d).yb⟩:yh)).length) z19);let N:List Value:=[vi ((nth c (i64 (d-1))).yc),vi ((nth c (i64 (d-1))).ya),vi ((nth c (i64 (d-1))).yb)];let P:List Value:=[vi ((nth c d).yc),vi ((nth c d).ya),vi ((nth c d).yb)];refine Lf 8 U (xY z2J am.1 am.2 wz)<|Lg 9 U (wi (cs:=(wd<|nth c<|i64 (d-1))) z5o<|vB .here<|wG (enc:=wd) (l:=c) (i:=i64 (d-1)) (sz:=3) (fun _=>U) am.1 am.2)<|Lf 10 U q_m<|Lf 11 U q_m<|Lf 12 U (xY z2J q.1 q.2 wz)<|Lg 13 U (wi (cs:=(wd<|nth c d)) z5o<|vB .here<|wG (enc:=wd) (l:=c) (i:=d) (sz:=3) (fun _=>U) q.1 q.2)<|Lf 14 U (xY z2J q.1 q.2 wz)<|WD.forced0 (i:=15) U (by kernel_rfl) (wT.of .nil) (kQ (vs:=N) (ds:=(c.set (d:Int).toNat (⟨(nth c<|i64 (d-1)).yc,(nth c<|i64 (d-1)).ya,(nth c<|i64 (d-1)).yb⟩:yh)).flatMap wd) zc8 sN .here (ma (enc:=wd) (sz:=3) (k:=0) (fun _=>U) q.1 q.2 (by decide))<|fZ (enc:=wd) (l:=c) (sz:=3) (vs:=N) (y:=(⟨(nth c<|i64 (d-1)).yc,(nth c<|i64 (d-1)).ya,(nth c<|i64 (d-1)).yb⟩:yh)) (k:=0) (fun _=>U) q.1 q.2<|Nat.le_of_ble_eq_true U)<|N4 .here (u:=E) (qs (List.length_set).symm)<|Nk (i:=0) U (u:=E) (qs (List.length_set).symm)<|Nk (i:=115) U (u:=E) (qs (List.length_set).symm)<|Lf 16 U (xY z2J af.1 af.2 wz)<|Nc (i:=17) U (by kernel_rfl) (by kernel_rfl) (kQ (vs:=P) (ds:=((c.set (d:Int).toNat (⟨(nth c<|i64 (d-1)).yc,(nth c<|i64 (d-1)).ya,(nth c<|i64 (d-1)).yb⟩:yh)).set ((i64 (d-1)):Int).toNat (⟨(nth c d).yc,(nth c d).ya,(nth c d).yb⟩:yh)).flatMap wd) zc8 sN .here (ma (enc:=wd) (sz:=3) (k:=0) (fun _=>U) af.1 af.2 (by decide))<|fZ (enc:=wd) (l:=c.set (d:Int).toNat (⟨(nth c<|i64 (d-1)).yc,(nth c<|i64 (d-1)).ya,(nth c<|i64 (d-1)).yb⟩:yh)) (sz:=3) (vs:=P) (y:=(⟨(nth c d).yc,(nth c d).ya,(nth c d).yb⟩:yh)) (k:=0) (fun _=>U) af.1 af.2<|Nat.le_of_ble_eq_true U)<|N4 .here (u:=I) (qs (List.length_set).symm)<|Nk (i:=0) U (u:=I) (qs (List.length_set).symm)<|Ny (by kernel_rfl)<|Lt<|Lb<|D3q U<|WL.nil ?_
        exact Nx ⟨br,(c.set (d:Int).toNat (⟨(nth c<|i64 (d-1)).yc,(nth c<|i64 (d-1)).ya,(nth c<|i64 (d-1)).yb⟩:yh)).set ((i64 (d-1)):Int).toNat (⟨(nth c d).yc,(nth c d).ya,(nth c d).yb⟩:yh),i64 (d-1)⟩ ⟨h,(List.length_set).trans ((List.length_set).trans aC)⟩ (Nat.lt_succ_self _) .q<|.cons .here .nil
       ·exact Nz<|Lo<|Lo<|Lv<|Lp c ⟨h,aC⟩ .nil<|.cons .here .nil
      ·rintro X ⟨h,a4⟩
       replace h:=(a2 X).symm.trans h
       exact Nw<|Ll<|oJ h▸Li results132 .nil fun w hw=>⟨mF,a4,hw.sub (.cons .here .nil)⟩
    ·exact N0<|Lp () h .q<|.cons .here .nil
   ·rintro  h
    replace h:=aW.symm.trans h
    refine B3q U<|Le 132 (fg underlying3 underlying142)<|Le 133 (QJ U U (by decide) U)<|Le 134 (fg underlying142 underlying3)<|Q1n U<|B4n U<|B2n U ?_
    obtain⟨bs,a5,h⟩:=jZ h
    let A:=(i64 ((u64 (i64 (zB+zT))) / 2 ^ min (1:Int).toNat 64));let Q:Value:=(vi (i64 (A+m_502825)));refine H0 (fun Y aa=>(bs Y aa=some r)) (fun Y aa=>[(0,D),(1,vi zB),(2,vi m_502825),(3,vi zT),(4,F),(18,vi A),(19,Q),(20,vi Y),(21,vi aa)]) (fun Y aa=>J) ?_ ?_
    ·refine B3n U<|Lj h (fun a6 h=>?_)<|fun a6 h=>?_
     ·exact B4n U<|D2q U<|WL.nil<|Lp ⟨i64 ((i64 (A+m_502825))-zT),A⟩ h .q<|.cons .here .nil
     ·exact B2n U<|D2q U<|WL.nil<|Lp ⟨zB,m_502825⟩ h .q<|.cons .here .nil
    ·rintro Y aa h
     replace h:=(a5 Y aa).symm.trans h
     refine B3n U<|jK1 h fun aE a7 h=>L5 (fun g=>(aE g=some r)) (fun g=>[(0,D),(1,vi zB),(2,vi m_502825),(3,vi zT),(4,F),(18,vi A),(19,Q),(20,vi g)]) (fun g=>J) ?_ ?_
     ·let L:=(i64 ((i64 (A+m_502825))-1));refine WC.block<|N7 (fun an s z=>(wJ zB zT m_502825 zh z1J aE an s z=some r)) (fun an s z=>[(0,D),(1,vi zB),(2,vi m_502825),(3,vi zT),(4,F),(18,vi A),(19,Q),(20,vi s),(21,vi z),(22,vi L)]) (fun an s z=>J) (fun an s z=>an) ⟨xR,Y,aa⟩ h .q (.cons .here .nil) ?_
      rintro(_|aF) s z h;·cases h
      rw[wJ] at h
      refine WC.b<|B3n U<|Lj h (fun a8 h=>?_)<|fun a8 h=>?_
      ·refine Nn<|WC.block<|B3q U<|Le 155 (fg underlying3 underlying142)<|Le 156 (QJ U U (by decide) U)<|Le 157 (fg underlying142 underlying3)<|Q1n U<|WC.b<|cK h fun ao h=>cK h fun ar h=>bK h fun bt a9 h=>Lu nc []<|Lf 0 U q_m<|Lf 1 U q_m<|Lf 2 U q_m<|Lf 3 U q_m<|Lf 4 U sR<|N2 (fun w hw=>Hp.vo .here hw (by intro hz';have:=ao;rw[hz'] at this;omega)) ?_
       rintro⟨bz,rfl⟩
       let C:=(i64 ((u64 (i64 (s+z))) / 2 ^ min (1:Int).toNat 64));refine Lf 5 U (xY z2J ao.1 ao.2 wz)<|Lg 6 U (wi (cs:=(wd<|nth zh<|i64 (L-C))) z5o<|vB .here<|wG (enc:=wd) (l:=zh) (i:=i64 (L-C)) (sz:=3) (fun _=>U) ao.1 ao.2)<|Lf 7 U q_m<|Lf 8 U q_m<|Lf 9 U (xY z2J ar.1 ar.2 wz)<|Lg 10 U (wi (cs:=(wd<|nth zh C)) z5o<|vB .here<|wG (enc:=wd) (l:=zh) (i:=i64 ((u64<|i64 (s+z)) / 2 ^ min (1:Int).toNat 64)) (sz:=3) (fun _=>U) ar.1 ar.2)<|L4 11 U (qi (l:=[.tmp 164,.tmp 168]) (f:=z2G) (caps:=z3b) R<|.r2 U U) (fun w hw=>S w (hz.now hw) (⟨(nth zh<|i64 (L-C)).yc,(nth zh<|i64 (L-C)).ya,(nth zh<|i64 (L-C)).yb⟩:yh) (⟨(nth zh C).yc,(nth zh C).ya,(nth zh C).yb⟩:yh) bt  a9)<|Lf 12 U sS<|Lf 13 U (Yd U)<|Ny (by kernel_rfl)<|Lb<|Lj h (fun ba h=>?_)<|fun ba h=>?_
       ·exact D3q U<|WL.nil<|Lt<|Nx ⟨aF,i64 (C+1),z⟩ h (Nat.lt_succ_self _) .q<|.cons .here .nil
       ·exact D2q U<|WL.nil<|Lt<|Nx ⟨aF,s,C⟩ h (Nat.lt_succ_self _) .q<|.cons .here .nil
      ·exact Nz<|Lo<|Lo<|Lv<|Lp s h .q<|.cons .here .nil
     ·rintro g h
      replace h:=(a7 g).symm.trans h
      refine B4n U ?_
      obtain⟨bu,bb,h⟩:=wo h
      let K:=(i64 ((i64 (A+m_502825))-g));refine L5 (fun j=>(bu j=some r)/\(j.length=zh.length)) (fun j=>[(0,vs z1n j.length z19),(1,vi zB),(3,vi zT),(4,F),(18,vi A),(20,vi g),(24,vi K)]) (fun j=>[row (vs z1n j.length z19) 81 3 (j.flatMap wd)]) ?_ ?_
      ·refine B0q<|La U<|La U<|La U<|La U<|Lw true 3 181 (B:=(decide (g<m_502825))&&(decide (m_502825<K))) (fun h=>(jR h).symm) (fun _ bc=>?_) ?_
       ·exact La U<|La U<|La U<|La U<|Lx (jS bc) U .all
       refine Q0n<|Lj h (fun bd h=>?_)<|fun bd h=>?_
       ·refine bK h fun aG be h=>Ld<|La U<|La U<|La U<|La U<|La U<|Na (dd:=191) U (Ns call161) (.cons .here .nil) (cc hz (.cons .here .nil) fun w pz ho=>oN _ _ _ (zds:=z2G) (zjo:=z3b) _ _ _ _ (z6z:=z1J) _ be pz R S ho) ?_
        rintro  aH
        exact L7 (i:=0) U (u:=(vs z1n aG.length z19)) (qs aH.symm)<|WL.nil<|Lp aG ⟨h,aH.trans U⟩ .q<|.cons .here .nil
       ·exact N0<|Lp zh ⟨h,U⟩ .q<|.cons .here .nil
      ·rintro j ⟨h,aI⟩
       replace h:=(bb j).symm.trans h
       refine jK1 h fun bv bf h=>L5 (fun t=>(bv t=some r)/\(t.length=zh.length)) (fun t=>[(0,vs z1n t.length z19),(3,vi zT),(4,F),(18,vi A),(24,vi K)]) (fun t=>[row (vs z1n t.length z19) 81 3 (t.flatMap wd)]) ?_ ?_
       ·refine B0q<|La U<|La U<|La U<|La U<|Lw true 3 195 (B:=(decide (zB<g))&&(decide (g<A))) (fun h=>(jR h).symm) (fun _ bg=>?_) ?_
        ·exact La U<|La U<|La U<|La U<|Lx (jS bg) U .all
        refine Q0n<|Lj h (fun bh h=>?_)<|fun bh h=>?_
        ·refine bK h fun au bi h=>Ld<|La U<|La U<|La U<|La U<|La U<|Na (dd:=205) U (Ns call132) (.cons .here .nil) (cc hz (.cons .here .nil) fun w pz ho=>ih (Z:=_) (z1n:=z1n) (z19:=z19) (z2G:=z2G) (z3b:=z3b) (zh:=j) (zB:=zB) (m_502825:=g) (zT:=A) (z1J:=z1J) (r:=au) w pz R S bi ho) ?_
         rintro  aJ
         exact L7 (i:=0) U (u:=(vs z1n au.length z19)) (qs aJ.symm)<|WL.nil<|Lp au ⟨h,aJ.trans aI⟩ .q<|.cons .here .nil
        ·exact N0<|Lp j ⟨h,aI⟩ .q<|.cons .here .nil
       ·rintro t ⟨h,aK⟩
        replace h:=(bf t).symm.trans h
        refine B0q<|La U<|La U<|La U<|La U<|Lw true 3 209 (B:=(decide (A<K))&&(decide (K<zT))) (fun h=>(jR h).symm) (fun _ bj=>?_) ?_
        ·exact La U<|La U<|La U<|La U<|Lx (jS bj) U .all
        refine Q0n<|Lj h (fun bk h=>?_)<|fun bk h=>?_
        ·refine bK h fun aL bl h=>Ld<|La U<|La U<|La U<|La U<|La U<|Na (dd:=219) U (Ns call132) (.cons .here .nil) (cc hz (.cons .here .nil) fun w pz ho=>ih (Z:=_) (z1n:=z1n) (z19:=z19) (z2G:=z2G) (z3b:=z3b) (zh:=t) (zB:=A) (m_502825:=K) (zT:=zT) (z1J:=z1J) (r:=aL) w pz R S bl ho) ?_
         rintro  aM
         exact L7 (i:=0) U (u:=(vs z1n aL.length z19)) (qs aM.symm)<|WL.nil<|oJ h▸Nh results132 .nil fun w hw=>⟨mF,aM.trans aK,hw.sub (.cons .here .nil)⟩
        ·exact N0<|oJ h▸Nh results132 .nil fun w hw=>⟨mF,aK,hw.sub (.cons .here .nil)⟩
theorem uE(Z z1n z19 z2G z3b zh zB m_502825 zT z1J r){Nv}(hz:Pz [row (vs z1n zh.length z19) 81 3 (zh.flatMap wd)] Nv Z)(a:∀ args w,(callFunc z2G args).run Tryz.prog w = .ok (.enter z2G args) w)(b:∀ w:World,PZ [] w Z->∀(x0:yh) (x1:yh) (r:Int),z1J x0 x1=some r->Calls Tryz.prog z2G (([.agg #[vi x0.yc,vi x0.ya,vi x0.yb],.agg #[vi x1.yc,vi x1.ya,vi x1.yb]]:List Value)++z3b).toArray w fun e w'=>e = .returned (vi r)/\Hp [] w w' [])(h:j6 zh zB m_502825 zT z1J=some r)(ip:Ho Nv [row (vs z1n zh.length z19) 81 3 (zh.flatMap wd)]):Calls Tryz.prog 132 #[vs z1n zh.length z19,vi zB,vi m_502825,vi zT,.func (.func z2G) #[] (z3b).toArray] Nv fun e w'=>e = .returned (.tuple #[])/\(r.length=zh.length)/\Hp (fps [row (vs z1n zh.length z19) 81 3 (zh.flatMap wd)]) Nv w' [row (vs z1n r.length z19) 81 3 (r.flatMap wd)]:=rZ xR Z z1n z19 z2G z3b zh zB m_502825 zT z1J r Nv hz a b h ip
def wW(b:Int)(z2O:yh->yh->Option Int)(c:(List yh)->Int->Option (List yh)):Nat->(List yh)->Int->Int->Option (List yh)
 | 0,_,_,_=>none
 | f+1,d,e,a=>if decide (a<=b) then(wY d e a z2O).bind fun g=>wW b z2O c f g a (i64 (a+20)) else c d e
def vK(d:Int)(b:Int)(z2O:yh->yh->Option Int)(e:(List yh)->Int->Option (List yh)):Nat->(List yh)->Int->Int->Option (List yh)
 | 0,_,_,_=>none
 | g+1,f,c,a=>if decide (a<=d) then(j6 f c (i64 (c+b)) a z2O).bind fun h=>vK d b z2O e g h a (i64 (a+(i64 (2*b)))) else e f c
def wX(b:Int)(z2O:yh->yh->Option Int)(d:(List yh)->Option (List yh)):Nat->(List yh)->Int->Option (List yh)
 | 0,_,_=>none
 | h+1,e,a=>if decide (a<b) then qP (fun(i:List yh)=>wX b z2O d h i (i64 (a*2))) fun j=>sK (fun(f:List yh) (c:Int)=>qP (fun k=>j k) fun g=>if decide ((i64 (c+a))<b) then(j6 f c (i64 (c+a)) b z2O).bind fun l=>g l else g f) fun m=>vK b a z2O m xR e 0 (i64 (2*a)) else d e
def kD(b:List yh)(a:Int)(z2O:yh->yh->Option Int):Option (List yh):=
 sK (fun(c:List yh) (d:Int)=>(wY c d a z2O).bind fun e=>qP (fun(f:List yh)=>some f) fun g=>wX a z2O g xR e 20) fun h=>wW a z2O h xR b 0 20
theorem oO(Z a b z7g z8G c f z2O r)(h:kD c f z2O=some r){Nv}(hz:Pz [row (vs a c.length b) 81 3 (c.flatMap wd)] Nv Z)(D:∀ args w,(callFunc z7g args).run Tryz.prog w = .ok (.enter z7g args) w)(E:∀ w:World,PZ [] w Z->∀(x0:yh) (x1:yh) (r:Int),z2O x0 x1=some r->Calls Tryz.prog z7g (([.agg #[vi x0.yc,vi x0.ya,vi x0.yb],.agg #[vi x1.yc,vi x1.ya,vi x1.yb]]:List Value)++z8G).toArray w fun e w'=>e = .returned (vi r)/\Hp [] w w' [])(ip:Ho Nv [row (vs a c.length b) 81 3 (c.flatMap wd)]):
  Calls Tryz.prog 102 #[vs a c.length b,vi f,.func (.func z7g) #[] (z8G).toArray] Nv fun e w'=>e = .returned (.tuple #[])/\(r.length=c.length)/\Hp (fps [row (vs a c.length b) 81 3 (c.flatMap wd)]) Nv w' [row (vs a r.length b) 81 3 (r.flatMap wd)]:=by
 unfold kD at h
 refine N6 func102 U ip U<|B1n U<|B3n U ?_
 obtain⟨H,V,h⟩:=jZ h
 let A:Value:=(.func (.func z7g) #[] (z8G).toArray);refine H0 (fun o y=>(H o y=some r)/\(o.length=c.length)) (fun o y=>[(0,vs a o.length b),(1,vi f),(2,A),(6,vi 20),(7,vi y)]) (fun o y=>[row (vs a o.length b) 81 3 (o.flatMap wd)]) ?_ ?_
 ·refine WC.block<|Dw (fun z l x s=>(wW f z2O H z l x s=some r)/\(l.length=c.length)) (fun z l x s=>[(0,vs a l.length b),(1,vi f),(2,A),(6,vi 20),(7,vi x),(8,vi s)]) (fun z l x s=>[row (vs a l.length b) 81 3 (l.flatMap wd)]) (fun z l x s=>z) ⟨xR,c,0,20⟩ ⟨h,U⟩ .q (.cons .here .nil) ?_
  rintro (_|ao) l x s ⟨h,I⟩;·cases h
  rw[wW] at h
  refine WC.b<|B3n U<|Lj h (fun W h=>?_)<|fun W h=>?_
  ·refine Nn<|WC.block<|WC.b<|bK h fun J X h=>D4q U<|Na (dd:=18) U (Ns call131) (.cons .here .nil) (cc hz (.cons .here .nil) fun w pz ho=>mC _ _ _ (zad:=z7g) (zdn:=z8G) _ _ _ (z5O:=z2O) _ X pz D E ho) ?_
   rintro  K
   exact L7 (i:=0) U (u:=(vs a J.length b)) (qs K.symm)<|Q0n<|B2n U<|D4q U<|WL.nil<|Lt<|Nx ⟨ao,J,s,i64 (s+20)⟩ ⟨h,K.trans I⟩ (Nat.lt_succ_self _) .q<|.cons .here .nil
  ·exact Nz<|Lo<|Lo<|Lv<|Lp ⟨l,x⟩ ⟨h,I⟩ .q<|.cons .here .nil
 ·rintro o y ⟨h,Y⟩
  replace h:=(V o y).symm.trans h
  refine WC.b<|bK h fun L aa h=>D4q U<|Na (dd:=27) U (Ns call131) (.cons .here .nil) (cc hz (.cons .here .nil) fun w pz ho=>mC _ _ _ (zad:=z7g) (zdn:=z8G) _ _ _ (z5O:=z2O) _ aa pz D E ho) ?_
  rintro  M
  refine L7 (i:=0) U (u:=(vs a L.length b)) (qs M.symm)<|Q0n<|jK1 h fun N ab h=>Od (fun t=>(N t=some r)/\(t.length=c.length)) (fun t=>[]) (fun t=>[row (vs a t.length b) 81 3 (t.flatMap wd)]) ?_ ?_
  ·refine WC.block<|N7 (fun B g d=>(wX f z2O N B g d=some r)/\(g.length=c.length)) (fun B g d=>[(0,vs a g.length b),(1,vi f),(2,A),(6,vi d)]) (fun B g d=>[row (vs a g.length b) 81 3 (g.flatMap wd)]) (fun B g d=>B) ⟨xR,L,20⟩ ⟨h,M.trans Y⟩ .q (.cons .here .nil) ?_
   rintro (_|ap) g d ⟨h,O⟩;·cases h
   rw[wX] at h
   refine WC.b<|B3n U<|Lj h (fun ad h=>?_)<|fun ad h=>?_
   ·refine Nn<|jK1 h fun aq ae h=>Od (fun m=>(aq m=some r)/\(m.length=c.length)) (fun m=>[(0,vs a m.length b),(1,vi f),(2,A),(6,(vi<|i64 (d*2)))]) (fun m=>[row (vs a m.length b) 81 3 (m.flatMap wd)]) ?_ ?_
    ·refine WC.block<|B4n U<|jK2 h fun P af h=>H0 (fun j v=>(P j v=some r)/\(j.length=c.length)) (fun j v=>[(0,vs a j.length b),(1,vi f),(2,A),(6,vi d),(7,vi v)]) (fun j v=>[row (vs a j.length b) 81 3 (j.flatMap wd)]) ?_ ?_
     ·refine WC.block<|Dw (fun C k p q=>(vK f d z2O P C k p q=some r)/\(k.length=c.length)) (fun C k p q=>[(0,vs a k.length b),(1,vi f),(2,A),(6,vi d),(7,vi p),(8,vi q)]) (fun C k p q=>[row (vs a k.length b) 81 3 (k.flatMap wd)]) (fun C k p q=>C) ⟨xR,g,0,i64 (2*d)⟩ ⟨h,O⟩ .q (.cons .here .nil) ?_
      rintro (_|ar) k p q ⟨h,Q⟩;·cases h
      rw[vK] at h
      refine WC.b<|B3n U<|Lj h (fun ag h=>?_)<|fun ag h=>?_
      ·refine Nn<|WC.block<|WC.b<|bK h fun F ah h=>Ld<|La U<|La U<|La U<|La U<|La U<|La U<|La U<|Na (dd:=43) U (Ns call132) (.cons .here .nil) (cc hz (.cons .here .nil) fun w pz ho=>uE (Z:=_) (z1n:=a) (z19:=b) (z2G:=z7g) (z3b:=z8G) (zh:=k) (zB:=p) (m_502825:=(i64 (p+d))) (zT:=q) (z1J:=z2O) (r:=F) pz D E ah ho) ?_
       rintro  R
       exact L7 (i:=0) U (u:=(vs a F.length b)) (qs R.symm)<|Q0n<|B2n U<|Ld<|La U<|La U<|La U<|La U<|La U<|WL.nil<|Lt<|Nx ⟨ar,F,q,i64 (q+(i64 (2*d)))⟩ ⟨h,R.trans Q⟩ (Nat.lt_succ_self _) .q<|.cons .here .nil
      ·exact Nz<|Lo<|Lo<|Lv<|Lp ⟨k,p⟩ ⟨h,Q⟩ .q<|.cons .here .nil
     ·rintro j v ⟨h,S⟩
      replace h:=(af j v).symm.trans h
      refine jK1 h fun au ai h=>L5 (fun n=>(au n=some r)/\(n.length=c.length)) (fun n=>[(0,vs a n.length b),(1,vi f),(2,A),(6,vi d)]) (fun n=>[row (vs a n.length b) 81 3 (n.flatMap wd)]) ?_ ?_
      ·refine B4n U<|B3n U<|Lj h (fun aj h=>?_)<|fun aj h=>?_
       ·refine bK h fun G ak h=>Ld<|La U<|La U<|La U<|La U<|La U<|Na (dd:=60) U (Ns call132) (.cons .here .nil) (cc hz (.cons .here .nil) fun w pz ho=>uE (Z:=_) (z1n:=a) (z19:=b) (z2G:=z7g) (z3b:=z8G) (zh:=j) (zB:=v) (m_502825:=(i64 (v+d))) (zT:=f) (z1J:=z2O) (r:=G) pz D E ak ho) ?_
        rintro  T
        exact L7 (i:=0) U (u:=(vs a G.length b)) (qs T.symm)<|WL.nil<|Lp G ⟨h,T.trans S⟩ .q<|.cons .here .nil
       ·exact N0<|Lp j ⟨h,S⟩ .q<|.cons .here .nil
      ·rintro n ⟨h,al⟩
       replace h:=(ai n).symm.trans h
       exact D3q U<|WL.nil<|Lt<|Lp n ⟨h,al⟩ .q<|.cons .here .nil
    ·rintro m ⟨h,am⟩
     replace h:=(ae m).symm.trans h
     exact Nx ⟨ap,m,i64 (d*2)⟩ ⟨h,am⟩ (Nat.lt_succ_self _) .q<|.cons .here .nil
   ·exact Nz<|Lo<|Lo<|Lv<|Lp g ⟨h,O⟩ .nil<|.cons .here .nil
  ·rintro t ⟨h,an⟩
   replace h:=(ab t).symm.trans h
   exact oJ h▸Nh results102 .nil fun w hw=>⟨mF,an,hw.sub (.cons .here .nil)⟩
def qb(a:List yh)(zqq:yh->yh->Option Int):Option (List yh):=
 (kD a (a.length:Int) zqq).bind fun b=>some b
theorem sI(Z b c zqr zxG a zqq r)(h:qb a zqq=some r){Nv}(hz:Pz [row (vs b a.length c) 81 3 (a.flatMap wd)] Nv Z)(f:∀ args w,(callFunc zqr args).run Tryz.prog w = .ok (.enter zqr args) w)(g:∀ w:World,PZ [] w Z->∀(x0:yh) (x1:yh) (r:Int),zqq x0 x1=some r->Calls Tryz.prog zqr (([.agg #[vi x0.yc,vi x0.ya,vi x0.yb],.agg #[vi x1.yc,vi x1.ya,vi x1.yb]]:List Value)++zxG).toArray w fun e w'=>e = .returned (vi r)/\Hp [] w w' [])(ip:Ho Nv [row (vs b a.length c) 81 3 (a.flatMap wd)]):
  Calls Tryz.prog 61 #[vs b a.length c,.func (.func zqr) #[] (zxG).toArray] Nv fun e w'=>e = .returned (.tuple #[])/\(r.length=a.length)/\Hp (fps [row (vs b a.length c) 81 3 (a.flatMap wd)]) Nv w' [row (vs b r.length c) 81 3 (r.flatMap wd)]:=by
 unfold qb at h
 refine Ni func61 U ip U<|bK h fun k j h=>D2q U<|Le 6 (w9 underlying75)<|La U<|Na (dd:=8) U (Ns call102) (.cons .here .nil) (cc hz (.cons .here .nil) fun w pz ho=>oO _ _ _ (z7g:=zqr) (z8G:=zxG) _ _ (z2O:=zqq) _ j pz f g ho) ?_
 rintro  d
 let A:Value:=(vs b k.length c);refine L7 (i:=0) U (u:=A) (qs d.symm)<|L7 (i:=5) U (u:=A) (qs d.symm)<|WL.nil ?_
 exact oJ h▸Nh results61 .nil fun w hw=>⟨mF,d.trans U,hw.sub (.cons .here .nil)⟩
def qO(a:List yh):Option (List yh):=
 (qb a (fun y0 y1=>fx y0 y1)).bind fun b=>some b
theorem cW(Z b c a r)(h:qO a=some r){Nv}(hz:Pz [row (vs b a.length c) 81 3 (a.flatMap wd)] Nv Z)(ip:Ho Nv [row (vs b a.length c) 81 3 (a.flatMap wd)]):
  Calls Tryz.prog 33 #[vs b a.length c] Nv fun e w'=>e = .returned (vs b r.length c)/\(r.length=a.length)/\Hp (fps [row (vs b a.length c) 81 3 (a.flatMap wd)]) Nv w' [row (vs b r.length c) 81 3 (r.flatMap wd)]:=by
 unfold qO at h
 refine H7 func33 U ip U<|B1n U<|WC.b<|bK h fun g f h=>D1q U<|Na (dd:=4) U (Ns call61) (.cons .here .nil) (cc hz (.cons .here .nil) fun w pz ho=>sI _ _ _ (zqr:=62) (zxG:=[]) _ (zqq:=(fun y0 y1=>fx y0 y1)) _ f pz call62 (fun w' hz' y0 y1  r  hr=>aH _ _ _ _ hr hz' ) ho) ?_
 rintro  d
 exact L7 (i:=0) U (u:=(vs b g.length c)) (qs d.symm)<|Q0n<|B2n U<|Nw<|oJ h▸Li results33 (.tmp U .nil) fun w hw=>⟨w6,d.trans U,hw.sub (.cons .here .nil)⟩
def f8(b:List yB)(c:List (List zb))(g:zV)(e:(List yp)->Option (List yh×List yh×Int)):Nat->Int->(List yp)->Option (List yh×List yh×Int)
 | 0,_,_=>none
 | h+1,a,d=>if decide (a<b.length) then qP (fun(i:List yp)=>f8 b c g e h (i64 (a+1)) i) fun f=>chk (0<=a/\a<b.length) (chk (0<=((nth b a).yq)/\((nth b a).yq)<c.length) (if decide ((((nth c ((nth b a).yq)).length:Nat):Int)>0) then chk ((0:Int)<=0/\0<(((nth c ((nth b a).yq)).length:Nat):Int)) ((gP g c b ([]:List (z7×yx)) d [] [] ((nth (nth c ((nth b a).yq)) 0).ya) ((nth b a).yb) (-1) a).bind fun j=>f j) else f d)) else e d
def f9(i:zV)(c:List (List zb))(d:List yB)(e:(List yp)->(List yh)->(List yh)->(List (z7×yx))->Option (List yh×List yh×Int)):Nat->(List yp)->(List yh)->(List yh)->(List (z7×yx))->Option (List yh×List yh×Int)
 | 0,_,_,_,_=>none
 | j+1,b,f,g,h=>if decide ((b.length:Int)>0) then(mV i c d h b f g).bind fun a=>f9 i c d e j a.1 a.2.1 a.2.2.1 a.2.2.2 else e b f g h
def my(a:zV)(d:Int)(b:List (List zb))(c:List yB):Option (List yh×List yh×Int):=
 (md a d b).bind fun e=>if !e then some (([]:List yh),([]:List yh),310) else(uV a c).bind fun f=>if !f then some (([]:List yh),([]:List yh),311) else qP (fun(g:List yp)=>jp4 (fun(n:List yp) (h:List yh) (i:List yh) (o:List (z7×yx))=>(qO h).bind fun j=>(qO i).bind fun k=>some (j,k,0)) fun l=>f9 a b c l xR g ([]:List yh) ([]:List yh) ([]:List (z7×yx))) fun m=>f8 c b a m xR 0 ([]:List yp)
theorem nP(Z ay az aA aB aC aD aE aF aH aI aJ aK aL aM aN aO aP aQ aR aS a aT W y r)(h:my a aT W y=some r){Nv}(hz:PZ [] Nv Z)(al:ZS Z 4 (gk Z) ay az a.fM)(am:ZS Z 4 (fJ Z) aA aB a.yf)(an:ZS Z 4 (rq kT) aC aD a.fS)(ao:ZS Z 4 (rq mM) aE aF a.fK)(ap:ZS Z 7 (f0 Z) aH aI a.yg)(aq:ZS Z 5 (rq mb) aJ aK a.fH)(ar:ZS Z 3 (fO Z) aL aM a.fU)(au:ZS Z 4 (rq mc) aN aO a.ye)(av:ZS Z 1 (mN Z) aP aQ W)(aw:ZS Z 3 (rq uo) aR aS y):
  Calls Tryz.prog 16 #[.agg #[vs ay a.fM.length az,vs aA a.yf.length aB,vs aC a.fS.length aD,vs aE a.fK.length aF,vs aH a.yg.length aI,vs aJ a.fH.length aK,vs aL a.fU.length aM,vs aN a.ye.length aO],vi aT,vs aP W.length aQ,vs aR y.length aS] Nv fun e w'=>∃ aU:Option Addr,∃ aV:Nat,∃ aW:Option Addr,∃ aX:Nat,e = .returned (.tuple #[vs aU r.1.length aV,vs aW r.2.1.length aX,vi r.2.2])/\True/\Hp [] Nv w' [row (vs aU r.1.length aV) 81 3 (r.1.flatMap wd),row (vs aW r.2.1.length aX) 81 3 (r.2.1.flatMap wd)]:=by
 unfold my at h
 refine Oe func16 U U ?_
 let E:Value:=(vs ay a.fM.length az);let F:Value:=(vs aA a.yf.length aB);let G:Value:=(vs aC a.fS.length aD);let H:Value:=(vs aE a.fK.length aF);let I:Value:=(vs aH a.yg.length aI);let J:Value:=(vs aJ a.fH.length aK);let K:Value:=(vs aL a.fU.length aM);let L:Value:=(vs aN a.ye.length aO);let A:List Value:=[E,F,G,H,I,J,K,L];refine B0q<|Lh 4 (wg (cs:=A)) ?_
 intro a1 _
 refine La U<|La U<|La U<|WL.nil<|Lb<|WC.b<|WC.block<|WC.b<|bK h fun bS a2 h=>Ld<|Le 16 (xK z3f (xM .here))<|Q2q U<|Nr call12 hz (fun pz=>oX _ _ _ _ _ _ _ _ _ _ _ _ _ _ _ _ _ _ _ _ _ _ _ a2 pz al am an ao ap aq ar au av)<|Q2n U<|Lj h (fun a3 h=>?_)<|fun a3 h=>?_
 ·exact B3n U<|Nw<|Ly<|Ll<|WX.nilRow 81 3<|WX.nilRow 81 3<|oJ h▸Li results16 (.tmp U<|.tmp U<|.tmp U .nil) fun w hw=>⟨none,0,none,0,U4 U U U,trivial,hw.sub (.s2 .h1 .here)⟩
 ·refine WC.b<|bK h fun bT a4 h=>Ld<|Le 22 (xK z3f (xM .here))<|La U<|Nr call30 hz (fun pz=>Xt _ _ _ _ _ _ _ _ _ _ _ _ _ _ _ _ _ _ _ _ _ _ a4 pz al am an ao ap aq ar au aw)<|Q2n U<|Lj h (fun a5 h=>?_)<|fun a5 h=>?_
  ·exact B3n U<|Nw<|Ly<|Ll<|WX.nilRow 81 3<|WX.nilRow 81 3<|oJ h▸Li results16 (.tmp U<|.tmp U<|.tmp U .nil) fun w hw=>⟨none,0,none,0,U4 U U U,trivial,hw.sub (.s2 .h1 .here)⟩
  ·refine N0<|Lt<|Lb<|B0q<|Le 26 (xK z3f (xM .here))<|Q2q U<|Lh 29 (fh (ga g7) Value.pointer) ?_
   intro b _
   let C:Value:=(vs aP W.length aQ);let D:Value:=(vs aR y.length aS);refine Ok (M:=[q7 z2r ([]:List (z7×((Nat×(Option Addr×Nat))×yx))),xU b (ga g7) Value.pointer (jG ([]:List (z7×((Nat×(Option Addr×Nat))×yx)))),stb a1 31 A]) (fun _ h=>Hp.W5 z2r h)<|Le 30 (wm (v:=(.agg #[E,F,G,H,I,J,K,L,C,D,(.map<|some b),vn,vn,vn])) (Lq (l:=[.tmp 26,.tmp 27,.tmp 28,.tmp 29]) (.r4 U U U U) [0,1,2,3]) (fun _=>by kernel_rfl))<|Lh 31 (wg (cs:=[E,F,G,H,I,J,K,L,C,D,(.map<|some b),vn,vn,vn])) ?_
   intro c _
   refine Q1n U<|jK1 h fun aY a6 h=>N5 (fun f X Y=>(aY f=some r)) (fun f X Y=>[(11,vp c)]) (fun f X Y=>[stb c 117 [E,F,G,H,I,J,K,L,C,D,(.map<|some b),vs X f.length Y,vn,vn],row (vs X f.length Y) 153 7 (f.flatMap wC),xU b (ga g7) Value.pointer (jG ([]:List (z7×((Nat×(Option Addr×Nat))×yx)))),q7 z2r ([]:List (z7×((Nat×(Option Addr×Nat))×yx)))]) ?_ ?_
   ·let N:Value:=(vi (y.length:Int));refine B1q U<|Le 33 (w9 underlying73)<|Q1n U<|WC.block<|WC.nilRow 153 7<|Dy (fun ai p d q s=>(f8 y W a aY ai p d=some r)) (fun ai p d q s=>[(2,C),(11,vp c),(32,D),(33,N),(34,vi p)]) (fun ai p d q s=>[stb c 117 [E,F,G,H,I,J,K,L,C,D,(.map<|some b),vs q d.length s,vn,vn],row (vs q d.length s) 153 7 (d.flatMap wC),xU b (ga g7) Value.pointer (jG ([]:List (z7×((Nat×(Option Addr×Nat))×yx)))),q7 z2r ([]:List (z7×((Nat×(Option Addr×Nat))×yx)))]) (fun ai p d q s=>ai) ⟨xR,0,([]:List yp),none,0⟩ h .q (.s4 .h1 .here .h1 .here) ?_
    rintro(_|bx) p d q s h;·cases h
    rw[f8] at h
    refine B1n U<|WC.b<|Lj h (fun a7 h=>?_)<|fun a7 h=>?_
    ·refine Nn<|jK1 h fun bz a8 h=>N5 (fun g aa ab=>(bz g=some r)) (fun g aa ab=>[(2,C),(11,vp c),(32,D),(33,N),(34,vi p)]) (fun g aa ab=>[stb c 117 [E,F,G,H,I,J,K,L,C,D,(.map<|some b),vs aa g.length ab,vn,vn],row (vs aa g.length ab) 153 7 (g.flatMap wC),xU b (ga g7) Value.pointer (jG ([]:List (z7×((Nat×(Option Addr×Nat))×yx)))),q7 z2r ([]:List (z7×((Nat×(Option Addr×Nat))×yx)))]) ?_ ?_
     ·refine WC.block<|WC.b<|cK h fun a9 h=>D1q U<|L3 (dd:=37) (Z:=Z) (Pr:=(rq uo)) zan aw a9 ?_
      rintro bC bD ba bE rfl
      refine Le 38 (xK zFL (qV hz.pv ba)) (Lh 13 (xW (cs:=[vi 0,vi 0,vi 0]) zFM) fun bF _=>La U<|Ln (xP zFN .here)<|Q0n<|WC.b ?_)
      refine cK h fun bb h=>D1q U<|Le 40 (xA cx)<|Le 41 (Nt xL .here)<|L3 (dd:=42) (Z:=Z) (Pr:=(mN Z)) zdH av bb ?_
      rintro bG bH bc bI ⟨bJ,bL,rfl,bd⟩
      refine Le 43 (xB zc1 U<|mG hz.pv bc)<|Q1n U<|B1q U<|Le 45 (w9 underlying48)<|Q1n U<|Lj h (fun be h=>?_)<|fun be h=>?_
      ·refine cK h fun bf h=>bK h fun bA bg h=>Lu (fun i=>[8].contains i) []<|Lf 0 U q_m<|Lf 1 U q_m<|Nf (j:=2) (dd:=49) (by kernel_rfl) z2B z2C (Z:=Z) (Pr:=(rq mW)) z8g bd bf ?_
       rintro bM bN bh bO rfl
       refine Lf 3 U (xA gO)<|Lg 4 U (xB xL U<|wA hz.pv bh)<|Lf 5 U (xA lO)<|Lg 6 U (Nt xL .here)<|Lf 7 U q_m<|WD.call2 (i:=8) (dd:=55) U (by kernel_rfl) U U U (.inl ⟨U,fun _ _=>(wT.of .nil)⟩) (Ns call31) (.s4 .h1 .h2 .h2 .h1) (cc hz (.s4 .h1 .h2 .h2 .h1) fun w pz ho=>lu _ _ _ _ _ _ _ _ _ _ _ _ _ _ _ _ _ _ _ _ _ _ _ _ _ _ _ _ _ _ _ _ _ _ _ _ _ _ _ _ _ _ bg pz al am an ao ap aq ar au av aw U (ZS.nil _ _ _) (ZS.nil _ _ _) ho) ?_
       rintro bi bj _
       exact Ny (by kernel_rfl)<|Lt<|Lp ⟨bA,bi,bj⟩ h .q<|.a4
      ·exact N0<|Lt<|Lp ⟨d,q,s⟩ h .q<|.s4 .h1 .h1 .h1 .h1
     ·rintro g aa ab h
      replace h:=(a8 g).symm.trans h
      exact D2q U<|WL.nil<|Nx ⟨bx,i64 (p+1),g,aa,ab⟩ h (Nat.lt_succ_self _) .q<|.a4
    ·exact Nz<|Lo<|Lo<|Lv<|Lp ⟨d,q,s⟩ h (.cons U .nil)<|.a4
   ·rintro f X Y h
    replace h:=(a6 f).symm.trans h
    refine jK4 h fun aZ bk h=>Rb (fun t u k ad aj ak ae af z B ag=>(aZ t u k ad=some r)/\(tz ag=ad)) (fun t u k ad aj ak ae af z B ag=>[(11,vp c)]) (fun t u k ad aj ak ae af z B ag=>[stb c 117 [E,F,G,H,I,J,K,L,C,D,(.map<|some b),vs aj t.length ak,vs ae u.length af,vs z k.length B],row (vs aj t.length ak) 153 7 (t.flatMap wC),row (vs ae u.length af) 81 3 (u.flatMap wd),row (vs z k.length B) 81 3 (k.flatMap wd),xU b (ga g7) Value.pointer (jG ag),q7 z2r ag]) ?_ ?_
    ·refine WC.block<|WC.nilRow 81 3<|WC.nilRow 81 3<|Pp (fun ah m n o O P Q R S T V x=>(f9 a W y aZ ah m n o O=some r)/\(tz x=O)) (fun ah m n o O P Q R S T V x=>[(11,vp c)]) (fun ah m n o O P Q R S T V x=>[stb c 117 [E,F,G,H,I,J,K,L,C,D,(.map<|some b),vs P m.length Q,vs R n.length S,vs T o.length V],row (vs P m.length Q) 153 7 (m.flatMap wC),row (vs R n.length S) 81 3 (n.flatMap wd),row (vs T o.length V) 81 3 (o.flatMap wd),xU b (ga g7) Value.pointer (jG x),q7 z2r x]) (fun ah m n o O P Q R S T V x=>ah) ⟨xR,f,([]:List yh),([]:List yh),([]:List (z7×yx)),X,Y,none,0,none,0,([]:List (z7×((Nat×(Option Addr×Nat))×yx)))⟩ ⟨h,U⟩ (.cons U .nil) (.s6 .h2 .h2 .h1 .here .here .here) ?_
     rintro (_|bB) m n o O P Q R S T V x ⟨h,a0⟩;·cases h
     rw[f9] at h
     refine WC.b<|B1q U<|Le 58 w3<|Le 59 (xA Xm)<|Le 60 (Nt zm3 .here)<|Le 61 (w9 underlying115)<|Q1n U<|Lj h (fun bl h=>?_)<|fun bl h=>?_
     ·refine Nn<|WC.block<|bK h fun ax bm h=>D1q U<|P4 (dd:=64) U U U (Ns call32) (.s6 .here .h3 .h3 .here .here .here) (cc hz (.s6 .here .h3 .h3 .here .here .here) fun w pz ho=>aG _ _ _ _ _ _ _ _ _ _ _ _ _ _ _ _ _ _ _ _ _ _ _ _ _ _ _ _ _ _ _ _ _ _ _ _ _ _ bm pz al am an ao ap aq ar au av aw a0 ho) ?_
      rintro bn bo bp bq br bs bt bu
      exact WL.nil<|Lt<|Nx ⟨bB,ax.1,ax.2.1,ax.2.2.1,ax.2.2.2,bn,bo,bp,bq,br,bs,bt⟩ ⟨h,bu⟩ (Nat.lt_succ_self _) (.cons U .nil)<|.a6
     ·exact Nz<|Lo<|Lo<|Lv<|Lp ⟨m,n,o,O,P,Q,R,S,T,V,x⟩ ⟨h,a0⟩ (.cons U .nil)<|.a6
    ·rintro t u k ad aj ak ae af z B ag ⟨h,bP⟩
     replace h:=(bk t u k ad).symm.trans h
     refine WC.b<|bK h fun bU bv h=>bK h fun bV bw h=>Lu (fun i=>[4,9].contains i) [rG c 117 [(13,vs z k.length B)]]<|Lf 0 U q_m<|Lf 1 U w3<|Lf 2 U (xA Xq)<|Lg 3 U (Nt zuc .here)<|Lf 5 U q_m<|Lf 6 U w3<|Lf 7 U (xA Xp)<|Nb 8 U (wT.wk (.cons .here .nil)<|.stb (.cons U .nil) .nil) (xB zuc U<|mH .here<|.head _)<|WD.call0 (i:=4) (dd:=69) U (by kernel_rfl) U (.inl ⟨U,(wT.wk (.cons .h1 .nil)<|.stb (.cons U .nil) .nil)⟩) (Ns call33) (.cons .h2 .nil) (cc hz (.cons .h2 .nil) fun w pz ho=>cW _ _ _ _ _ bv pz  ho) ?_
     rintro  bQ
     refine WD.call0 (i:=9) (dd:=74) U (by kernel_rfl) U (.inl ⟨U,(wT.wk (.cons .h2 .nil)<|.stb (.cons U .nil) .nil)⟩) (Ns call33) (.cons .h3 .nil) (cc hz (.cons .h3 .nil) fun w pz ho=>cW _ _ _ _ _ bw pz  ho) ?_
     rintro  bR
     exact Lf 10 U q_z<|Lf 11 U q_z<|Lf 12 U q_z<|Ny (by kernel_rfl)<|Lb<|Nw<|oJ h▸Li results16 (.tmp U<|.tmp U<|.tmp U .nil) fun w hw=>⟨ae,af,z,B,U4 U U U,trivial,hw.sub (.s2 .h1 .here)⟩
end Go.Proofs.YtcahmabkeaijdaaGreat

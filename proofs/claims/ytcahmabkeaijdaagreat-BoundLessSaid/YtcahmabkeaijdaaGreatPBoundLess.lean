/- A part of this claim's proof: models of functions, walks, plain laws. No conditions. -/
import Derived.Test.YtcahmabkeaijdaaGreatP35g
import Derived.Test.YtcahmabkeaijdaaGreatWBoundLess
set_option linter.all false
namespace Go.Proofs.YtcahmabkeaijdaaGreat
open Go Go.RowKit Sep
theorem yh9:y5q=some true:=by kernel_rfl
/-! ### other virtual links -/
structure SN (c d:Cf):Prop where
 m:d.fM=c.fM
 s:d.fS=c.fS
 l:d.fK=c.fK
theorem SN.find{c d:Cf}(h:SN c d)(nm:ByteArray):y25 d nm=y25 c nm:=by
 have h1:∀ i,y3T d i=y3T c i:=fun i=>by
  unfold y3T y3z;rw[h.m,h.s]
 have h2:∀(k:Option Int) (x:Int) (n:Nat) (v:Int),y1K x d nm k n v=y1K x c nm k n v:=by
  intro k x n
  induction n with
  | zero=>intro v;rfl
  | succ n ih=>intro v;rw[y1K,y1K,h1];simp only[ih]
 unfold y25 y3z
 rw[h.m,h.s]
 simp only[oB]
 unfold jp0
 exact h2 _ _ _ _
theorem SN.vr{c d:Cf}(h:SN c d){net:Int}{r:List Hop}(hv:VR c net r):VR d net r:=by
 refine⟨hv.len,fun v h0 h1=>?_⟩
 have hc:=hv.cond v h0 h1
 unfold y9V JN y97 sw nM fA fB at hc ⊢
 simp only[h.find,h.m,h.s,h.l]
 exact hc
theorem dle{a b a' b':Int}(h0:0≤a)(h1:a≤a')(h2:0<b')(h3:b'≤b):Rat.divInt a b≤Rat.divInt a' b':=by
 rw[Rat.divInt_eq_div,Rat.divInt_eq_div]
 have e0:(0:Rat)≤(a:Rat):=Rat.intCast_nonneg.2 h0
 have e1:(a:Rat)≤(a':Rat):=Rat.intCast_le_intCast.2 h1
 have e2:(0:Rat)<(b':Rat):=by have:=Rat.intCast_lt_intCast.2 h2;simpa using this
 have e3:(b':Rat)≤(b:Rat):=Rat.intCast_le_intCast.2 h3
 have e4:(0:Rat)<(b:Rat):=by grind
 have f1:(a:Rat) / (b:Rat)*(b:Rat)=a:=Rat.div_mul_cancel (by grind)
 have f2:(a':Rat) / (b':Rat)*(b':Rat)=a':=Rat.div_mul_cancel (by grind)
 generalize (a:Rat) / (b:Rat)=x at *
 generalize (a':Rat) / (b':Rat)=y at *
 refine Rat.not_lt.1 fun h=>?_
 have hy:0≤y:=by
  refine Rat.not_lt.1 fun hc=>?_
  have:=Rat.mul_lt_mul_of_pos_right hc e2
  grind
 have g1:=Rat.mul_lt_mul_of_pos_right h e4
 have g2:=Rat.mul_le_mul_of_nonneg_left e3 hy
 grind
structure GL (c:Cf) (vls:List zj):Prop where
 len:vls.length=c.fVLs.length
 ok:∀ v∈vls,vok v
 le:∀ i:Int,0≤i→i<c.fVLs.length→(nth vls i).fMax≤(nth c.fVLs i).fMax∧(nth c.fVLs i).fBag≤(nth vls i).fBag
theorem yfS{α:Type}[Inhabited α]{l:List α}{q i:Int}{u:α}(hq:0≤q)(h0:0≤i)(h1:i<l.length):nth (l.set q.toNat u) i=if i=q then u else nth l i:=by
 rw[yce ⟨h0,by rw[List.length_set];exact h1⟩,yce ⟨h0,h1⟩,List.getElem_set]
 by_cases e:i=q
 ·rw[if_pos (by omega),if_pos e]
 ·rw[if_neg (by omega),if_neg e]
theorem GL.set{c:Cf}{vls:List zj}(h:GL c vls){q:Int}(hq:0≤q∧q<c.fVLs.length){u:zj}(hu:vok u)(h1:u.fMax≤(nth vls q).fMax)(h2:(nth vls q).fBag≤u.fBag):GL c (vls.set q.toNat u):=by
 refine⟨by rw[List.length_set];exact h.len,fun v hv=>?_,fun i i0 i1=>?_⟩
 ·rcases List.mem_or_eq_of_mem_set hv with hv | hv
  ·exact h.ok v hv
  ·rw[hv];exact hu
 ·rw[yfS hq.1 i0 (by rw[h.len];exact i1)]
  have:=h.le i i0 i1
  by_cases e:i=q
  ·rw[if_pos e];rw[e] at this ⊢;exact⟨Int.le_trans h1 this.1,Int.le_trans this.2 h2⟩
  ·rw[if_neg e];exact this
abbrev cv(c:Cf)(vls:List zj):Cf:=⟨c.fM,c.fC0,c.fS,c.fK,vls,c.fH,c.fU,c.fV0⟩
theorem RT_le{c d:Cf}(hc:VLs c)(hd:VLs d){v:Int}(h0:0≤v)(h1:v<c.fVLs.length)(h2:v<d.fVLs.length)(hm:(nth d.fVLs v).fMax≤(nth c.fVLs v).fMax)(hb:(nth c.fVLs v).fBag≤(nth d.fVLs v).fBag):val (RT d v)≤val (RT c v):=by
 obtain⟨a1,a2,a3⟩:=hc _ (yY h0 h1)
 obtain⟨b1,b2,b3⟩:=hd _ (yY h0 h2)
 have f1:fits (Rat.divInt (mx c v) (nth c.fVLs v).fBag)=true:=y8r (by omega) ⟨by unfold mx;omega,by omega⟩
 have f2:fits (Rat.divInt (mx d v) (nth d.fVLs v).fBag)=true:=y8r (by omega) ⟨by unfold mx;omega,by omega⟩
 unfold RT
 rw[yaD f1,yaD f2,y4w,y4w]
 unfold mx
 exact dle (by omega) hm (by omega) hb
theorem GL.less{c:Cf}{vls:List zj}(h:GL c vls)(hvo:VOK c){rs rs':List (List Hop)}(hl:rs.length=c.fVLs.length)(hlen:rs'.length=rs.length)(hrt:∀ v:Int,0≤v→v<rs.length→nth rs' v=nth rs v∨nth rs' v=[]):LESS c (cv c vls) rs rs':=by
 have hd:VLs (cv c vls):=VOK.vls (c:=cv c vls) h.ok
 refine⟨rfl,rfl,rfl,hvo.vls,hd,hl,by rw[hlen,hl];exact h.len.symm,hlen,hrt,fun v h0 h1=>(h.le v h0 (by omega)).1,fun v h0 h1=>?_⟩
 have:=h.le v h0 (by omega)
 exact RT_le hvo.vls hd h0 (by omega) (by show v<(vls.length:Int);rw[h.len];omega) this.1 this.2
theorem gap2{b:Int}(h:b∈y9D)(h2:2*b≤12800):2*b∈y9D:=by
 unfold y9D at h ⊢
 simp only[List.mem_cons,List.not_mem_nil,or_false] at h ⊢
 omega
theorem gapB{b:Int}(h:b∈y9D):100≤b∧b≤12800:=by
 unfold y9D at h
 simp only[List.mem_cons,List.not_mem_nil,or_false] at h
 omega
theorem ybd{c:Cf}{twice which:Int}{k:List zj→List zj→Option Bool}{q:Int}(hq:Int.tmod (i64 which) ((c.fVLs.length:Nat):Int)=q)(hq0:0≤q∧q<c.fVLs.length)(ht:0≤Int.tmod twice 8∧Int.tmod twice 8≤7)(c1:List zj):∀(n:Nat) (v:Int) (c2:List zj),0≤v→v≤Int.tmod twice 8→Int.tmod twice 8<n+v→GL c c2→
  ∃ c3,y2V twice which c k n v c1 c2=k c1 c3∧GL c c3
 | 0,v,c2,h0,h1,h2,_=>by omega
 | n+1,v,c2,h0,h1,h2,hg=>by
  rw[y2V,hq]
  by_cases h:v<Int.tmod twice 8
  ·rw[if_pos (decide_eq_true h)]
   refine y2i (P:=fun o=>∃ c3,o=k c1 c3∧GL c c3) fun k1 hk1=>?_
   have hu:u8 (v+1)=v+1:=u8_id (by omega)
   have hl:=hg.len
   rw[yr ⟨hq0.1,by omega⟩]
   obtain⟨g1,g2,g3⟩:=hg.ok _ (yY (l:=c2) hq0.1 (by omega))
   have gb:=gapB g1
   rw[yC (x:=2*(nth c2 q).fBag) (by omega),yC (x:=(nth c2 q).fBag*2) (by omega)]
   by_cases h12:2*(nth c2 q).fBag≤12800
   ·rw[if_pos (decide_eq_true h12),yr ⟨hq0.1,by omega⟩,hk1,hu]
    refine ybd hq hq0 ht c1 n (v+1) _ (by omega) (by omega) (by omega) (hg.set hq0 ⟨?_,g2,g3⟩ (Int.le_refl _) ?_)
    ·show(nth c2 q).fBag*2∈y9D
     rw[Int.mul_comm];exact gap2 g1 h12
    ·show(nth c2 q).fBag≤(nth c2 q).fBag*2;omega
   ·rw[if_neg (by simpa using h12),hk1,hu]
    exact ybd hq hq0 ht c1 n (v+1) _ (by omega) (by omega) (by omega) hg
  ·rw[if_neg (by simpa using h)]
   exact⟨c2,rfl,hg⟩
/-! ### below -/
theorem found6{a b:S37}{v:Int}{k:Bool→Option Bool}(hb:b.fP.length≤1000000):∀(n:Nat) (i:Int) (f:Bool),0≤i→i≤b.fP.length→b.fP.length<n+i→
  ∃ g:Bool,y3H b a v k n f i=k g∧(f=true→g=true)∧(∀ j:Int,i≤j→j<b.fP.length→(nth a.fP v).fNode=(nth b.fP j).fNode→(nth a.fP v).fQ=(nth b.fP j).fQ→(nth a.fP v).fDelay≤(nth b.fP j).fDelay→(nth a.fP v).fT≤(nth b.fP j).fT→g=true)
 | 0,i,f,h0,h1,h2=>by omega
 | n+1,i,f,h0,h1,h2=>by
  rw[y3H]
  by_cases h:i<b.fP.length
  ·rw[if_pos (decide_eq_true h),yr ⟨h0,h⟩,yC (x:=i+1) (by omega)]
   obtain⟨g,g1,g2,g3⟩:=found6 (a:=a) (v:=v) (k:=k) hb n (i+1) (f||((((decide (((nth a.fP v).fNode)=((nth b.fP i).fNode)))&&(decide (((nth a.fP v).fQ)=((nth b.fP i).fQ))))&&(decide (((nth a.fP v).fDelay)≤((nth b.fP i).fDelay))))&&(decide (((nth a.fP v).fT)≤((nth b.fP i).fT))))) (by omega) (by omega) (by omega)
   refine⟨g,g1,fun hf=>g2 (by rw[hf];rfl),fun j j0 j1 e1 e2 e3 e4=>?_⟩
   by_cases e:j=i
   ·subst e
    exact g2 (by simp[e1,e2,e3,e4])
   ·exact g3 j (by omega) j1 e1 e2 e3 e4
  ·rw[if_neg (by simpa using h)]
   exact⟨f,rfl,id,fun j j0 j1=>by omega⟩
theorem found8{a b:S37}{v:Int}{k:Bool→Option Bool}(hb:b.fEnds.length≤1000000):∀(n:Nat) (i:Int) (f:Bool),0≤i→i≤b.fEnds.length→b.fEnds.length<n+i→
  ∃ g:Bool,y3J b a v k n f i=k g∧(f=true→g=true)∧(∀ j:Int,i≤j→j<b.fEnds.length→(nth a.fEnds v).fVL=(nth b.fEnds j).fVL→(nth a.fEnds v).fNode=(nth b.fEnds j).fNode→(nth a.fEnds v).fDelay≤(nth b.fEnds j).fDelay→g=true)
 | 0,i,f,h0,h1,h2=>by omega
 | n+1,i,f,h0,h1,h2=>by
  rw[y3J]
  by_cases h:i<b.fEnds.length
  ·rw[if_pos (decide_eq_true h),yr ⟨h0,h⟩,yC (x:=i+1) (by omega)]
   obtain⟨g,g1,g2,g3⟩:=found8 (a:=a) (v:=v) (k:=k) hb n (i+1) (f||(((decide (((nth a.fEnds v).fVL)=((nth b.fEnds i).fVL)))&&(decide (((nth a.fEnds v).fNode)=((nth b.fEnds i).fNode))))&&(decide (((nth a.fEnds v).fDelay)≤((nth b.fEnds i).fDelay))))) (by omega) (by omega) (by omega)
   refine⟨g,g1,fun hf=>g2 (by rw[hf];rfl),fun j j0 j1 e1 e2 e3=>?_⟩
   by_cases e:j=i
   ·subst e
    exact g2 (by simp[e1,e2,e3])
   ·exact g3 j (by omega) j1 e1 e2 e3
  ·rw[if_neg (by simpa using h)]
   exact⟨f,rfl,id,fun j j0 j1=>by omega⟩
theorem below5{a b:S37}{k:Option Bool}(ha:a.fP.length≤1000000)(hb:b.fP.length≤1000000)(h:BELOW a b):∀(n:Nat) (i:Int),0≤i→i≤a.fP.length→a.fP.length<n+i→y3I a b k n i=k
 | 0,i,h0,h1,h2=>by omega
 | n+1,i,h0,h1,h2=>by
  rw[y3I]
  by_cases hi:i<a.fP.length
  ·rw[if_pos (decide_eq_true hi),yC (x:=i+1) (by omega),below5 ha hb h n (i+1) (by omega) (by omega) (by omega)]
   refine y3Y (P:=fun o=>o=k) fun k1 hk1=>?_
   rw[yr ⟨h0,hi⟩]
   refine y2i (P:=fun o=>o=k) fun k2 hk2=>?_
   obtain⟨g,g1,_,g3⟩:=found6 (a:=a) (b:=b) (v:=i) (k:=k2) hb yy 0 false (by omega) (by omega) (by rw[yU];omega)
   obtain⟨y,hy,e1,e2,e3,e4⟩:=h.p _ (yY h0 hi)
   obtain⟨j,j0,j1,rfl⟩:=y79 hy
   rw[g1,hk2,g3 j j0 j1 e1 e2 e3 e4]
   exact hk1
  ·rw[if_neg (by simpa using hi)]
theorem below7{a b:S37}{k:Option Bool}(ha:a.fEnds.length≤1000000)(hb:b.fEnds.length≤1000000)(h:BELOW a b):∀(n:Nat) (i:Int),0≤i→i≤a.fEnds.length→a.fEnds.length<n+i→y3K a b k n i=k
 | 0,i,h0,h1,h2=>by omega
 | n+1,i,h0,h1,h2=>by
  rw[y3K]
  by_cases hi:i<a.fEnds.length
  ·rw[if_pos (decide_eq_true hi),yC (x:=i+1) (by omega),below7 ha hb h n (i+1) (by omega) (by omega) (by omega)]
   refine y3Y (P:=fun o=>o=k) fun k1 hk1=>?_
   rw[yr ⟨h0,hi⟩]
   refine y2i (P:=fun o=>o=k) fun k2 hk2=>?_
   obtain⟨g,g1,_,g3⟩:=found8 (a:=a) (b:=b) (v:=i) (k:=k2) hb yy 0 false (by omega) (by omega) (by rw[yU];omega)
   obtain⟨y,hy,e1,e2,e3⟩:=h.e _ (yY h0 hi)
   obtain⟨j,j0,j1,rfl⟩:=y79 hy
   rw[g1,hk2,g3 j j0 j1 e1 e2 e3]
   exact hk1
  ·rw[if_neg (by simpa using hi)]
structure LEN (x:S37):Prop where
 p:x.fP.length≤1000000
 e:x.fEnds.length≤1000000
theorem yha{a b:S37}(ha:LEN a)(hb:LEN b)(h:BELOW a b):y5r a b=some true:=by
 unfold y5r
 refine y3Y (P:=fun o=>o=some true) fun k hk=>?_
 rw[below5 ha.p hb.p h yy 0 (by omega) (by omega) (by rw[yU];have:=ha.p;omega),hk]
 refine y3Y (P:=fun o=>o=some true) fun k2 hk2=>?_
 rw[below7 ha.e hb.e h yy 0 (by omega) (by omega) (by rw[yU];have:=ha.e;omega),hk2]
theorem yeN{α β:Type}{f:α→List β}{m:Nat}:∀ l:List α,(∀ x∈l,(f x).length≤m)→(l.flatMap f).length≤l.length*m
 | [],_=>by simp
 | x::l,h=>by
  rw[List.flatMap_cons,List.length_append,List.length_cons,Nat.succ_mul]
  have h1:=h x (by simp)
  have h2:=yeN l fun y hy=>h y (List.mem_cons_of_mem _ hy)
  omega
theorem yfT:∀(n:Nat) (v:Int),(y2L v n).length=n
 | 0,v=>rfl
 | n+1,v=>by rw[y2L,List.length_cons,yfT n]
theorem cp_len{c:Cf}{net:Int}{rs:List (List Hop)}{x:S37×Int}(hf:FewP c rs)(h:CP c net rs x):LEN x.1:=by
 have hps:=yfs hf.e
 have hrs:=hf.r
 have h3:rs.length*40≤20*40:=Nat.mul_le_mul_right _ hrs
 cases h with
 | route _=>exact⟨by simp,by simp⟩
 | vl _ _=>exact⟨by simp,by simp⟩
 | cycle _ _ _ _=>exact⟨by simp,by simp⟩
 | err _ _ _ _ _ _ _ _=>exact⟨by simp,by simp⟩
 | ok l t _ _ hp _ hr=>
  have h1:=(y9E l w0 t hr).2.1
  have h2:=hp.length_eq
  refine⟨?_,?_⟩
  ·show(yM _ t.out).length≤_
   rw[y5p,h1,h2]
   show 0+_≤_
   omega
  ·show(EN c rs _).length≤_
   unfold EN
   have:=yeN (f:=fun v=>yM y2H (VE c rs (dem (yM yJ t.out)) v)) (m:=40) (y2L 0 rs.length) (fun v hv=>by
    have h4:=(ybc _ _ _).1 hv
    rw[y5p]
    exact Nat.le_trans VE_len (hf.e _ (yY (by omega) (by omega))))
   rw[yfT] at this
   omega
theorem law(c:Cf)(net:Int)(rs:List (List Hop))(which less twice:Int)(hw:0≤which∧which≤255)(hy:0≤less∧less≤255)(hz:0≤twice∧twice≤255):y5P c net rs which less twice=some true:=by
 unfold y5P
 rw[yh9]
 obtain⟨b1,q1,q2⟩:=Few_eq c rs
 rw[q1,oB]
 cases b1 with
 | false=>rfl
 | true=>
 have hf:=q2.1 rfl
 by_cases hz0:c.fVLs.length=0
 ·rw[if_pos (by simp[hz0])];rfl
 rw[if_neg (by simp[hz0])]
 obtain⟨x,x1,x2⟩:=yb9 (net:=net) hf
 rw[x1,oB]
 by_cases hx:x.2≠0
 ·rw[if_pos (by simpa using hx)];rfl
 rw[if_neg (by simpa using hx)]
 have hxl:=cp_len hf x2
 have hrun:VA c net rs∧VOK c∧∃ l t,l.Perm (PS rs)∧y3Z rs l∧y44 c rs l w0 = .inl t∧x.1=(⟨yM yJ t.out,EN c rs (yM yJ t.out)⟩:S37):=by
  cases x2 with
  | route _=>exact absurd (by decide) hx
  | vl _ _=>exact absurd (by decide) hx
  | cycle _ _ _ _=>exact absurd (by decide) hx
  | err _ _ _ _ _ _ _ a=>exact absurd a hx
  | ok l t a b p o r=>exact⟨a,b,l,t,p,o,r,rfl⟩
 obtain⟨hv,hvo,l,t,hlp,hlo,hrunt,hx1⟩:=hrun
 have hS:=hf.small
 have hfv:=hf.v
 have hrl:=hv.len
 rw[yr (by omega),yr (by simp;omega),yr (by simp;omega)]
 simp only[List.nil_append]
 have hk:0≤Int.tmod (i64 which) ((c.fVLs.length:Nat):Int)∧Int.tmod (i64 which) ((c.fVLs.length:Nat):Int)<((c.fVLs.length:Nat):Int):=by
  rw[yC (x:=which) (by omega),Int.tmod_eq_emod_of_nonneg hw.1]
  exact⟨Int.emod_nonneg _ (by omega),Int.emod_lt_of_pos _ (by omega)⟩
 rw[yr hk]
 have ht:0≤Int.tmod twice 8∧Int.tmod twice 8≤7:=by
  rw[Int.tmod_eq_emod_of_nonneg hz.1];omega
 refine y8J (P:=fun o=>o=some true) fun k hkk=>?_
 have hg0:GL c c.fVLs:=⟨rfl,hvo,fun i _ _=>⟨Int.le_refl _,Int.le_refl _⟩⟩
 obtain⟨c3,e1,e2⟩:=ybd (twice:=twice) (which:=which) (k:=k) rfl hk ht (c.fVLs.set (Int.tmod (i64 which) ((c.fVLs.length:Nat):Int)).toNat (⟨((nth c.fVLs (Int.tmod (i64 which) ((c.fVLs.length:Nat):Int))).fName),(⟨(((nth c.fVLs (Int.tmod (i64 which) ((c.fVLs.length:Nat):Int))).fFrom).fModule),(((nth c.fVLs (Int.tmod (i64 which) ((c.fVLs.length:Nat):Int))).fFrom).fPart),(((nth c.fVLs (Int.tmod (i64 which) ((c.fVLs.length:Nat):Int))).fFrom).fPort)⟩:Sapi_Ref),((nth c.fVLs (Int.tmod (i64 which) ((c.fVLs.length:Nat):Int))).fBag),max 1 (i64 (((nth c.fVLs (Int.tmod (i64 which) ((c.fVLs.length:Nat):Int))).fMax)-(i64 less))),((nth c.fVLs (Int.tmod (i64 which) ((c.fVLs.length:Nat):Int))).fTo)⟩:zj)) yy 0 c.fVLs (by omega) (by omega) (by rw[yU];omega) hg0
 rw[e1,hkk]
 clear hkk e1
 generalize Int.tmod (i64 which) ((c.fVLs.length:Nat):Int)=q at hk
 have hg1:GL c (c.fVLs.set q.toNat (⟨((nth c.fVLs q).fName),(⟨(((nth c.fVLs q).fFrom).fModule),(((nth c.fVLs q).fFrom).fPart),(((nth c.fVLs q).fFrom).fPort)⟩:Sapi_Ref),((nth c.fVLs q).fBag),max 1 (i64 (((nth c.fVLs q).fMax)-(i64 less))),((nth c.fVLs q).fTo)⟩:zj)):=by
  obtain⟨g1,g2,g3⟩:=hvo _ (yY hk.1 hk.2)
  rw[yC (x:=less) (by omega),yC (x:=(nth c.fVLs q).fMax-less) (by omega)]
  exact hg0.set hk ⟨g1,by show 1≤max 1 _;omega,by show max 1 ((nth c.fVLs q).fMax-less)≤72;omega⟩ (by show max 1 ((nth c.fVLs q).fMax-less)≤_;omega) (Int.le_refl _)
 generalize c.fVLs.set q.toNat _=c1 at hg1
 rw[yr (by omega),yr (by omega)]
 refine y3Y (P:=fun o=>o=some true) fun k0 hk0=>?_
 have hk0:k0=some true:=hk0
 -- each of the three
 have key:∀(vls:List zj) (rs':List (List Hop)),GL c vls→rs'.length=rs.length→(∀ v:Int,0≤v→v<rs.length→nth rs' v=nth rs v∨nth rs' v=[])→∃ y,y2K (cv c vls) net rs'=some y∧(y.2=3∨y.2=0∧y5r y.1 x.1=some true):=by
  intro vls rs' hg hlen hrt
  have hL:=hg.less hvo hrl hlen hrt
  have hin:∀ r∈rs',r∈rs∨r=[]:=fun r hr=>by
   obtain⟨i,i0,i1,rfl⟩:=y79 hr
   rcases hrt i i0 (by omega) with e | e
   ·rw[e];exact .inl (yY i0 (by omega))
   ·exact .inr e
  have hf':FewP (cv c vls) rs':=⟨hf.m,hf.s,hf.l,by show vls.length≤20;rw[hg.len];exact hf.v,by rw[hlen];exact hf.r,fun r hr=>by
   rcases hin r hr with h | h
   ·exact hf.e r h
   ·rw[h];simp⟩
  have hv':VA (cv c vls) net rs':=⟨hv.nt,by rw[hlen,hrl];exact hg.len.symm,by rw[hlen];exact hv.most,fun r hr=>by
   rcases hin r hr with h | h
   ·exact SN.vr (c:=c) (d:=cv c vls) ⟨rfl,rfl,rfl⟩ (hv.each r h)
   ·rw[h];exact⟨by simp,fun v h0 h1=>by simp at h1;omega⟩⟩
  obtain⟨y,y1,y2⟩:=yh8 hS hf' hL hv hv' hg.ok hlp hlo hrunt
  refine⟨y,y1,?_⟩
  rcases y2 with h | ⟨h,hb⟩
  ·exact .inl h
  ·refine .inr ⟨h,yha ?_ hxl (by rw[hx1];exact hb)⟩
   obtain⟨y',y1',y2'⟩:=yb9 (net:=net) hf'
   rw[y1] at y1';injection y1' with e;rw[e];exact cp_len hf' y2'
 have step:∀(c1' c3':List zj) (rsx:List (List Hop)) (lst:List S49) (n:Nat) (i:Int) (hle:(lst.length:Int)=3) (h0:0≤i) (h1:i<3) (vls:List zj) (rs':List (List Hop)),nth lst i=(⟨cv c vls,rs'⟩:S49)→GL c vls→rs'.length=rs.length→(∀ v:Int,0≤v→v<rs.length→nth rs' v=nth rs v∨nth rs' v=[])→
   y20 c c1' rsx c3' which net x k0 (n+1) lst i=y20 c c1' rsx c3' which net x k0 n lst (i+1):=by
  intro c1' c3' rsx lst n i hle h0 h1 vls rs' hn hg hlen hrt
  rw[y20,if_pos (by simp only[List.length_cons,List.length_nil];exact decide_eq_true (by omega)),yC (x:=i+1) (by omega)]
  refine y3Y (P:=fun o=>o=_) fun k1 hk1=>?_
  rw[yr ⟨h0,by omega⟩,hn]
  obtain⟨y,y1,y2⟩:=key vls rs' hg hlen hrt
  rw[show y2K _ net _=some y from y1,oB]
  rcases y2 with h | ⟨h,hb⟩
  ·rw[if_pos (decide_eq_true h),hk1]
  ·rw[if_neg (by rw[h];decide),if_neg (by rw[h];decide),hb]
   exact hk1
 have hset:∀ v:Int,0≤v→v<rs.length→nth (rs.set q.toNat []) v=nth rs v∨nth (rs.set q.toNat []) v=[]:=fun v h0 h1=>by
  rw[yfS hk.1 h0 h1]
  by_cases e:v=q
  ·rw[if_pos e];exact .inr rfl
  ·rw[if_neg e];exact .inl rfl
 have hF:yy=((((yy-4)+1)+1)+1)+1:=by rw[yU]
 rw[hF]
 generalize yy-4=N
 rw[step c1 c3 rs _ _ 0 rfl (by omega) (by omega) c1 rs rfl hg1 rfl (fun _ _ _ => .inl rfl)]
 rw[step c1 c3 rs _ _ (0+1) rfl (by omega) (by omega) c3 rs rfl e2 rfl (fun _ _ _ => .inl rfl)]
 rw[step c1 c3 rs _ _ (0+1+1) rfl (by omega) (by omega) c.fVLs (rs.set q.toNat []) rfl hg0 (by rw[List.length_set]) hset]
 rw[y20,if_neg (by simp)]
 exact hk0
end Go.Proofs.YtcahmabkeaijdaaGreat

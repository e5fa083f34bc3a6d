/- A part of this claim's proof: models of functions, walks, plain laws. No conditions. -/
import Derived.Test.YtcahmabkeaijdaaGreatP35h
set_option linter.all false
namespace Go.Proofs.YtcahmabkeaijdaaGreat
open Go Go.RowKit Sep
section
abbrev Fr:=yj
abbrev Pt:=yx
variable {l:List Fr}{t:Int}{f:Fr->Option Bool}{p:Pt}
theorem c6{l:List Fr}{f:Fr->Option Bool}{p:Fr->Bool}{k:Option Int}(hf:∀ y,f y=some (p y))(hl:l.length<9000000000000000000):∀(n:Nat) (v:Int),0<=v->v<=l.length->l.length<n+v->
  (∃ i:Int,v<=i/\i<l.length/\p (nth l i)=true/\(∀ x∈(l.drop v.toNat).take (i-v).toNat,p x=false)/\ww l f k n v=some i)\/((∀ x∈l.drop v.toNat,p x=false)/\ww l f k n v=k)
 | 0,v,h0,h1,h2=>by omega
 | n+1,v,h0,h1,h2=>by
  rw[ww]
  by_cases h:v<l.length
  ·rw[if_pos (decide_eq_true h),xJ ⟨h0,h⟩]
   show _\/(_/\((f (nth l v)).bind _)=k)
   rw[show(f (⟨(nth l v).yo,(nth l v).yF⟩:Fr))=f (nth l v) from rfl,hf]
   simp only[oB]
   cases hp:p (nth l v) with
   | true=>exact .inl ⟨v,Int.le_refl _,h,hp,by simp,by simp⟩
   | false=>
    simp only[Bool.false_eq_true,if_false]
    rw[xQ (x:=v+1) (by omega)]
    have hd:=kP h0 h
    have e1:(v+1).toNat=v.toNat+1:=by omega
    rcases c6 hf hl n (v+1) (by omega) (by omega) (by omega) (k:=k) with⟨i,i1,i2,i3,i4,i5⟩ | ⟨i1,i2⟩
    ·refine .inl ⟨i,by omega,i2,i3,?_,i5⟩
     rw[hd,show(i-v).toNat=(i-(v+1)).toNat+1 by omega,List.take_succ_cons]
     intro x hx
     rcases List.mem_cons.1 hx with rfl | hx
     ·exact hp
     ·rw[e1] at i4;exact i4 x hx
    ·refine .inr ⟨?_,i2⟩
     rw[hd]
     intro x hx
     rcases List.mem_cons.1 hx with rfl | hx
     ·exact hp
     ·rw[e1] at i1;exact i1 x hx
  ·rw[if_neg (by simpa using h),List.drop_eq_nil_of_le (by omega)]
   exact .inr ⟨by simp,rfl⟩
theorem UM{p:Fr->Bool}(hf:∀ y,f y=some (p y))(hl:l.length<9000000000000000000):
  (∃ i:Int,0<=i/\i<l.length/\p (nth l i)=true/\(∀ x∈l.take i.toNat,p x=false)/\vG l f=some i)\/((∀ x∈l,p x=false)/\vG l f=some (-1)):=by
 unfold vG
 have hF:=wq
 generalize xR=N at hF ⊢
 refine fy (P:=fun o=>(∃ i:Int,0<=i/\i<l.length/\p (nth l i)=true/\(∀ x∈l.take i.toNat,p x=false)/\o=some i)\/((∀ x∈l,p x=false)/\o=some (-1))) fun k hk=>?_
 rcases c6 hf hl N 0 (by omega) (by omega) (by omega) (k:=k) with⟨i,i1,i2,i3,i4,i5⟩ | ⟨i1,i2⟩
 ·exact .inl ⟨i,i1,i2,i3,by simpa using i4,i5⟩
 ·exact .inr ⟨by simpa using i1,i2.trans hk⟩
theorem XO{f:Fr->Option Bool}{p:Fr->Bool}{k:List Fr->Int->Option (List Fr)}(hf:∀ y,f y=some (p y)):∀(n:Nat) (s:List Fr) (i j:Int),s.length<9000000000000000000->0<=i->i<=j->j<=s.length->s.length<n+j->
  ∃ s' i',wE f k n s i j=k s' i'/\s'.length=s.length/\0<=i'/\i'<=s.length/\s'.take i'.toNat=s.take i.toNat++(s.drop j.toNat).filter (fun x => !p x)
 | 0,s,i,j,hl,h0,h1,h2,h3=>by omega
 | n+1,s,i,j,hl,h0,h1,h2,h3=>by
  rw[wE]
  by_cases h:j<s.length
  ·rw[if_pos (decide_eq_true h)]
   refine uY (P:=fun o=>∃ s' i',o=k s' i'/\s'.length=s.length/\0<=i'/\i'<=s.length/\s'.take i'.toNat=s.take i.toNat++(s.drop j.toNat).filter (fun x => !p x)) fun kk xO=>?_
   rw[xJ ⟨by omega,h⟩,show(f (⟨(nth s j).yo,(nth s j).yF⟩:Fr))=f (nth s j) from rfl,hf]
   simp only[oB]
   have hd:=kP (l:=s) (v:=j) (by omega) h
   have e1:(j+1).toNat=j.toNat+1:=by omega
   cases hp:p (nth s j) with
   | true=>
    simp only[Bool.not_true,Bool.false_eq_true,if_false]
    rw[xO,xQ (x:=j+1) (by omega)]
    obtain⟨s',i',a1,a2,a3,a4,a5⟩:=XO hf (k:=k) n s i (j+1) hl h0 (by omega) (by omega) (by omega)
    refine⟨s',i',a1,a2,a3,a4,?_⟩
    rw[a5,e1,hd,List.filter_cons,hp];rfl
   | false=>
    simp only[Bool.not_false,if_true]
    rw[xJ ⟨h0,by omega⟩,xO,xQ (x:=j+1) (by omega),xQ (x:=i+1) (by omega)]
    obtain⟨s',i',a1,a2,a3,a4,a5⟩:=XO hf (k:=k) n (s.set i.toNat (nth s j)) (i+1) (j+1) (by rw[List.length_set];exact hl) (by omega) (by omega) (by rw[List.length_set];omega) (by rw[List.length_set];omega)
    rw[List.length_set] at a2 a4
    refine⟨s',i',a1,a2,a3,a4,?_⟩
    rw[a5,hd,List.filter_cons,hp]
    have hi:i.toNat<s.length:=by omega
    have b1:(s.set i.toNat (nth s j)).take (i+1).toNat=s.take i.toNat++[nth s j]:=by
     rw[show(i+1).toNat=i.toNat+1 by omega,List.set_eq_take_append_cons_drop,if_pos hi,List.take_append]
     rw[List.length_take,Nat.min_eq_left (by omega),List.take_of_length_le (by rw[List.length_take];omega)]
     simp
    have b2:(s.set i.toNat (nth s j)).drop (j+1).toNat=s.drop (j.toNat+1):=by
     rw[e1,List.drop_set_of_lt (by omega)]
    rw[b1,b2];simp
  ·rw[if_neg (by simpa using h)]
   refine⟨s,i,rfl,rfl,h0,by omega,?_⟩
   rw[List.drop_eq_nil_of_le (by omega)];simp
theorem Sy{p:Fr->Bool}(hf:∀ y,f y=some (p y))(hl:l.length<9000000000000000000):vz l f=some (l.filter fun x => !p x):=by
 unfold vz
 have hF:=wq
 generalize xR=N at hF ⊢
 rcases UM hf hl with⟨i,i1,i2,i3,i4,i5⟩ | ⟨i1,i2⟩
 ·rw[i5]
  simp only[oB]
  rw[if_neg (by simp;omega)]
  refine uY (P:=fun o=>o=some (l.filter fun x => !p x)) fun kk xO=>?_
  rw[xQ (by omega)]
  obtain⟨s',i',a1,a2,a3,a4,a5⟩:=XO hf (k:=kk) N l i (i+1) hl (by omega) (by omega) (by omega) (by omega)
  rw[a1,xO,xJ ⟨a3,by rw[a2];exact a4⟩,xJ ⟨a3,by rw[List.length_append,List.length_take,List.length_replicate];omega⟩]
  congr 1
  rw[List.take_append_of_le_length (by rw[List.length_take];omega),List.take_take,Nat.min_self,a5]
  have hd:=kP (l:=l) (v:=i) (by omega) i2
  conv=>rhs;rw[<- List.take_append_drop i.toNat l,List.filter_append,hd,List.filter_cons,i3]
  rw[show(i+1).toNat=i.toNat+1 by omega]
  simp only[Bool.not_true,Bool.false_eq_true,if_false]
  congr 1
  refine(List.filter_eq_self.2 fun x hx=>?_).symm
  rw[i4 x hx];rfl
 ·rw[i2]
  simp only[oB,decide_true,if_true]
  congr 1
  refine(List.filter_eq_self.2 fun x hx=>?_).symm
  rw[i1 x hx];rfl
def gY:List Fr->Int
 | []=>0
 | x::l=>x.yo+gY l
theorem UN(h:∀ x∈l,1<=x.yo/\x.yo<=72):0<=gY l/\gY l<=72*l.length:=by
 induction l with
 | nil=>simp[gY]
 | cons x l ih=>
  have h1:=h x (by simp)
  have h2:=ih (fun y hy=>h y (List.mem_cons_of_mem _ hy))
  simp only[gY,List.length_cons]
  omega
theorem XP{p:Pt}{f:Fr->Option Bool}{q:Fr->Bool}{k:Int->Option Int}(hf:∀ y,f y=some (q y))(hs:∀ x∈p.yn,1<=x.yo/\x.yo<=72)(hl:p.yn.length<1000000000):
  ∀(n:Nat) (a v:Int),0<=v->v<=p.yn.length->p.yn.length<n+v->0<=a->a<=72*v->gj p f k n a v=k (a+gY ((p.yn.drop v.toNat).filter q))
 | 0,a,v,h0,h1,h2,h3,h4=>by omega
 | n+1,a,v,h0,h1,h2,h3,h4=>by
  rw[gj]
  by_cases h:v<p.yn.length
  ·rw[if_pos (decide_eq_true h)]
   refine wD (P:=fun o=>o=k (a+gY ((p.yn.drop v.toNat).filter q))) fun kk xO=>?_
   rw[xJ ⟨h0,h⟩,show(f (⟨(nth p.yn v).yo,(nth p.yn v).yF⟩:Fr))=f (nth p.yn v) from rfl,hf]
   simp only[oB]
   have hx:=hs _ (wn h0 h)
   have hd:=kP (l:=p.yn) (v:=v) h0 h
   have e1:(v+1).toNat=v.toNat+1:=by omega
   rw[hd,List.filter_cons]
   cases hq:q (nth p.yn v) with
   | true=>
    simp only[if_true]
    rw[xQ (x:=a+_) (by omega),xO,xQ (x:=v+1) (by omega),XP hf hs hl n _ (v+1) (by omega) (by omega) (by omega) (by omega) (by omega),e1]
    simp only[gY];congr 1;omega
   | false=>
    simp only[Bool.false_eq_true,if_false]
    rw[xO,xQ (x:=v+1) (by omega),XP hf hs hl n _ (v+1) (by omega) (by omega) (by omega) (by omega) (by omega),e1]
  ·rw[if_neg (by simpa using h),List.drop_eq_nil_of_le (by omega)]
   simp[gY]
theorem Sz{q:Fr->Bool}(hf:∀ y,f y=some (q y))(hs:∀ x∈p.yn,1<=x.yo/\x.yo<=72)(hl:p.yn.length<1000000000):ud p f=some (gY (p.yn.filter q)):=by
 unfold ud
 have hF:=wq
 generalize xR=N at hF ⊢
 refine wD (P:=fun o=>o=some (gY (p.yn.filter q))) fun k hk=>?_
 rw[XP hf hs hl N 0 0 (by omega) (by omega) (by omega) (by omega) (by omega),hk]
 simp
structure PIR (p:Pt):Prop where
 slow:1<=p.yk.yr/\p.yk.yr<=16
 delay:0<=p.yk.yl/\p.yk.yl<=1000
 store:0<=p.yk.fT/\p.yk.fT<=1073741824
 now:0<=p.yH
 last:0<=p.yy/\p.yy<=1000000000000
 sz:∀ x∈p.yn,1<=x.yo/\x.yo<=72
 len:p.yn.length<=100000
def gZ(t:Int)(l:List Fr):List Fr:=l.filter fun x=>decide (x.yF>t)
def ff(p:Pt)(t size:Int):Int:=max (t+p.yk.yl) p.yy+size*p.yk.yr
def jP(p:Pt)(t size:Int):Int×Int×Pt:=
 if size<1\/size>72\/t<p.yH\/t>1073741824 then(0,2,p)
 else if gY (gZ t p.yn)+size>p.yk.fT then(0,4,⟨p.yk,t,p.yy,gZ t p.yn⟩)
 else(ff p t size,0,⟨p.yk,t,ff p t size,gZ t p.yn++[⟨size,ff p t size⟩]⟩)
theorem XQ:∀ x∈gZ t l,x∈l:=fun x hx=>(List.mem_filter.1 hx).1
theorem bi:(gZ t l).length<=l.length:=List.length_filter_le _ _
theorem Y5{a b:Int}(ha:1<=a/\a<=72)(hb:1<=b/\b<=16):1<=a*b/\a*b<=1152:=by
 constructor
 ·exact Int.le_trans (by omega) (Int.mul_le_mul ha.1 hb.1 (by omega) (by omega))
 ·exact Int.le_trans (Int.mul_le_mul ha.2 hb.2 (by omega) (by omega)) (by omega)
theorem SA{size:Int}(h:PIR p):mo p t size=some (jP p t size):=by
 unfold mo mK
 obtain⟨⟨h1,h2⟩,⟨h3,h4⟩,⟨h5,h6⟩,h7,⟨h8,h9⟩,zM,Ao⟩:=h
 simp only[oB]
 rw[if_neg (by simp;omega)]
 unfold jP
 by_cases hc:size<1\/size>72\/t<p.yH\/t>1073741824
 ·rw[if_pos hc,if_pos (by simp only[Bool.or_eq_true,decide_eq_true_eq];omega)]
 ·rw[if_neg hc,if_neg (by simp only[Bool.or_eq_true,decide_eq_true_eq];omega)]
  have hdel:vz p.yn (fun(y0:Fr)=>mt y0 t)=some (gZ t p.yn):=by
   rw[Sy (f:=fun(y0:Fr)=>mt y0 t) (p:=fun y=>decide (y.yF<=t)) (fun _=>rfl) (by omega)]
   congr 1
   unfold gZ
   congr 1;funext x
   by_cases hx:x.yF<=t
   ·simp[hx]
   ·simp[hx];omega
  rw[hdel]
  simp only[oB]
  unfold rb mK
  simp only[oB]
  rw[if_neg (by simp;omega)]
  have hw:∀ x∈gZ t p.yn,1<=x.yo/\x.yo<=72:=fun x hx=>zM x (XQ x hx)
  have hwl:(gZ t p.yn).length<=100000:=Nat.le_trans bi Ao
  have DT:ud (⟨p.yk,t,p.yy,gZ t p.yn⟩:Pt) (fun(y0:Fr)=>fw y0 (max t t))=some (gY (gZ t p.yn)):=by
   rw[Sz (f:=fun(y0:Fr)=>fw y0 (max t t)) (q:=fun y=>decide (y.yF>max t t)) (fun _=>rfl) hw (by simp only;omega)]
   congr 2
   refine List.filter_eq_self.2 fun x hx=>?_
   have:=(List.mem_filter.1 hx).2
   simpa using this
  rw[DT]
  simp only[oB]
  have hb:=UN hw
  have hm:=Y5 (a:=size) (b:=p.yk.yr) (by omega) ⟨h1,h2⟩
  rw[xQ (x:=gY _+size) (by omega)]
  by_cases hf:gY (gZ t p.yn)+size>p.yk.fT
  ·rw[if_pos (decide_eq_true hf),if_pos hf]
  ·rw[if_neg (by simpa using hf),if_neg hf,xQ (x:=t+_) (by omega),xQ (x:=size*_) (by omega),xQ (x:=max _ _+_) (by omega)]
   rw[xJ (by simp;omega)]
   rfl
theorem TW{size:Int}(h:PIR p)(ht:0<=t)(hl:p.yn.length<=99999)(hb:p.yy<=900000000000):PIR (jP p t size).2.2:=by
 unfold jP
 split
 ·exact h
 ·rename_i hc
  split
  ·exact⟨h.slow,h.delay,h.store,ht,h.last,fun x hx=>h.sz x (XQ x hx),Nat.le_trans bi h.len⟩
  ·have hm:=Y5 (a:=size) (b:=p.yk.yr) (by omega) h.slow
   have hd:=h.delay
   have Aq:=h.last
   refine⟨h.slow,h.delay,h.store,ht,by simp only[ff];omega,fun x hx=>?_,?_⟩
   ·rcases List.mem_append.1 hx with hx | hx
    ·exact h.sz x (XQ x hx)
    ·simp at hx;subst hx;simp only;omega
   ·have:=bi (t:=t) (l:=p.yn)
    simp only[List.length_append,List.length_singleton];omega
end
section
abbrev qT:=yB
abbrev Cm:=yh
instance (c:Cf) (net n:Int):Decidable (tX c net n):=inferInstanceAs (Decidable (_/\_))
instance (c:Cf) (net link a b:Int):Decidable (JN c net link a b):=inferInstanceAs (Decidable (_/\_))
def FG(c:Cf)(l:List qT)(q:Int):Prop:=0<=(nth l q).yb/\(nth l q).yb<=536870912/\0<=(nth l q).yq/\(nth l q).yq<c.yg.length/\1<=(nth l q).yo/\(nth l q).yo<=72/\(0<q->(nth l (q-1)).yb<=(nth l q).yb)
instance (c:Cf) (l:List qT) (q:Int):Decidable (FG c l q):=inferInstanceAs (Decidable (_/\_))
theorem MP{c:Cf}{l:List qT}{v:Int}(h0:0<=v)(hv:v<=9223372036854775807):(((((((decide (((nth l v).yb)<0))||(decide (((nth l v).yb)>536870912)))||(decide (((nth l v).yq)<0)))||(decide (((nth l v).yq)>=((c.yg.length:Nat):Int))))||(decide (((nth l v).yo)<1)))||(decide (((nth l v).yo)>72)))||((decide (v>0))&&(decide (((nth l (i64 (v-1))).yb)>((nth l v).yb)))))=true↔¬FG c l v:=by
 rw[xQ (by omega)]
 unfold FG
 simp only[Bool.or_eq_true,Bool.and_eq_true,decide_eq_true_eq]
 constructor
 ·rintro h ⟨a,b,d,e,f,g,i⟩
  rcases h with(((((h | h) | h) | h) | h) | h) | ⟨h,h'⟩
  ·omega
  ·omega
  ·omega
  ·omega
  ·omega
  ·omega
  ·have:=i h;omega
 ·intro h
  refine Classical.byContradiction fun hn=>h ?_
  simp only[not_or,not_and] at hn
  obtain⟨⟨⟨⟨⟨⟨a1,a2⟩,a3⟩,a4⟩,a5⟩,a6⟩,a7⟩:=hn
  exact⟨by omega,by omega,by omega,by omega,by omega,by omega,fun h=>by have:=a7 h;omega⟩
theorem Xc{c:Cf}{l:List qT}{k:Option Bool}(hs:(l.length:Int)<=9223372036854775807):∀(n:Nat) (v:Int),0<=v->v<=l.length->l.length<n+v->
  (∃ q:Int,v<=q/\q<l.length/\¬FG c l q)/\jU l c k n v=some false\/(∀ q:Int,v<=q->q<l.length->FG c l q)/\jU l c k n v=k
 | 0,v,h0,h1,h2=>by omega
 | n+1,v,h0,h1,h2=>by
  rw[jU]
  by_cases h:v<l.length
  ·rw[if_pos (decide_eq_true h),xJ ⟨h0,h⟩,xJ (fun _ h'=>by have h':=of_decide_eq_true h';rw[xQ (by omega)];omega)]
   rw[xQ (x:=v+1) (by omega)]
   by_cases hg:FG c l v
   ·rw[if_neg (fun hc=>(MP h0 (by omega)).1 hc hg)]
    rcases Xc hs n (v+1) (by omega) (by omega) (by omega) (k:=k) with⟨⟨q,q1,q2,q3⟩,h3⟩ | ⟨h3,h4⟩
    ·exact .inl ⟨⟨q,by omega,q2,q3⟩,h3⟩
    ·refine .inr ⟨fun q q1 q2=>?_,h4⟩
     by_cases e:q=v
     ·rw[e];exact hg
     ·exact h3 q (by omega) q2
   ·rw[if_pos ((MP h0 (by omega)).2 hg)]
    exact .inl ⟨⟨v,Int.le_refl _,h,hg⟩,rfl⟩
  ·rw[if_neg (by simpa using h)]
   exact .inr ⟨fun q h1 h2=>by omega,rfl⟩
structure FRm (c:Cf) (m:Nat) (l:List qT):Prop where
 each:∀ q:Int,0<=q->q<l.length->FG c l q
 len:l.length<=m
theorem MQ{c:Cf}{l:List qT}(hs:(l.length:Int)<=9223372036854775807):∃ r,uV c l=some r/\(r=true↔FRm c 4000 l):=by
 unfold uV
 have hF:=wq
 generalize xR=N at hF ⊢
 refine fy (P:=fun o=>∃ r,o=some r/\(r=true↔FRm c 4000 l)) fun k hk=>?_
 rcases Xc (c:=c) (l:=l) (k:=k) hs N 0 (by omega) (by omega) (by omega) with⟨⟨q,q1,q2,q3⟩,h3⟩ | ⟨h3,h4⟩
 ·refine⟨false,h3,?_⟩
  simp only[Bool.false_eq_true,false_iff]
  exact fun h=>q3 (h.each q q1 q2)
 ·refine⟨_,h4.trans hk,?_⟩
  rw[decide_eq_true_eq]
  exact⟨fun h=>⟨h3,by omega⟩,fun h=>by have:=h.len;omega⟩
end
section
abbrev Ex:=z7
variable {net:Int}{h:Hop}{rs:List (List Hop)}{sent:List qT}{mp:List (Ex×Pt)}{ag:List Ev}{come lost:List Cm}
def wc(h:Hop):Ex:=⟨h.ya,h.fQ⟩
def qv(c:Cf)(k:Ex):Pt:=⟨⟨(nth c.fK k.fQ).yr,if nM c<=k.ya then(sw c k.ya).yl else 0,if nM c<=k.ya then(sw c k.ya).fT else 1073741824⟩,0,0,[]⟩
def uz(c:Cf)(mp:List (Ex×Pt)):Ex->Pt:=fun k=>xC mp k (qv c k)
def Qq(c:Cf)(net:Int)(h:Hop):Prop:=JN c net h.fQ h.ya h.fX
theorem Qq.node{c:Cf}(hs:Small c)(hv:Qq c net h):tX c net h.ya/\h.ya<nN c/\tX c net h.fX/\h.fX<nN c:=by
 obtain⟨_,_,_,_,_,_,h7,h8,h9⟩:=hv
 have ha:=QM hs h.fQ
 have hb:=QN hs h.fQ
 rcases h9 with⟨e1,e2⟩ | ⟨e1,e2⟩
 ·rw[e1] at h7 ha;rw[e2] at h8 hb;exact⟨h7,ha.2.2,h8,hb.2.2⟩
 ·rw[e1] at h7 ha;rw[e2] at h8 hb;exact⟨h8,hb.2.2,h7,ha.2.2⟩
theorem UO{c:Cf}(hs:Small c)(hv:Qq c net h):PIR (qv c (wc h)):=by
 obtain⟨⟨n1,n2⟩,n3,_⟩:=hv.node hs
 have vL:1<=(nth c.fK h.fQ).yr/\(nth c.fK h.fQ).yr<=16:=⟨hv.2.2.2.1,hv.2.2.2.2.1⟩
 refine⟨vL,?_,?_,Int.le_refl _,⟨Int.le_refl _,by show(0:Int)<=_;omega⟩,fun x hx=>by simp[qv] at hx,by simp[qv]⟩
 ·show 0<=(if nM c<=h.ya then(sw c h.ya).yl else 0)/\(if nM c<=h.ya then(sw c h.ya).yl else 0)<=1000
  split
  ·rcases n2 with n2 | ⟨_,a,b,_⟩
   ·omega
   ·exact⟨a,b⟩
  ·omega
 ·show 0<=(if nM c<=h.ya then(sw c h.ya).fT else 1073741824)/\(if nM c<=h.ya then(sw c h.ya).fT else 1073741824)<=1073741824
  split
  ·rcases n2 with n2 | ⟨_,_,_,a,b⟩
   ·omega
   ·exact⟨a,b⟩
  ·omega
def bZ(c:Cf)(mp:List (Ex×Pt))(k:Ex):List (Ex×Pt):=if wK mp k=true then mp else w4 mp k (qv c k)
theorem Qr{κ γ:Type}[DecidableEq κ]{k:κ}{u:γ}:∀(l:List (κ×γ)),wK (w4 l k u) k=true
 | []=>by simp[w4,wK]
 | p::l=>by
  by_cases hk:k=p.1
  ·subst hk;simp[w4,wK]
  ·simp only[w4,hk,if_false,wK];exact Qr l
theorem Ko{κ γ:Type}[DecidableEq κ]{k:κ}{d d':γ}:∀ {l:List (κ×γ)},wK l k=true->xC l k d=xC l k d'
 | [],h=>by simp[wK] at h
 | p::l,h=>by
  unfold wK at h
  unfold xC
  by_cases hk:k=p.1
  ·simp[hk]
  ·simp only[hk,if_false] at h ⊢;exact Ko h
theorem Qs{κ γ:Type}[DecidableEq κ]{k:κ}{d:γ}:∀ {l:List (κ×γ)},wK l k=false->xC l k d=d
 | [],h=>rfl
 | p::l,h=>by
  unfold wK at h
  unfold xC
  by_cases hk:k=p.1
  ·simp[hk] at h
  ·simp only[hk,if_false] at h ⊢;exact Qs h
theorem GD(c:Cf)(mp:List (Ex×Pt))(k:Ex):wK (bZ c mp k) k=true:=by
 unfold bZ
 split
 ·assumption
 ·exact Qr _
theorem Kp(c:Cf)(mp:List (Ex×Pt))(k:Ex):uz c (bZ c mp k)=uz c mp:=by
 unfold bZ
 split
 ·rfl
 ·rename_i h
  funext k'
  unfold uz
  by_cases e:k'=k
  ·subst e;rw[lS,Qs (by simpa using h)]
  ·rw[cz e]
theorem TX(c:Cf)(mp:List (Ex×Pt))(k:Ex):xC (bZ c mp k) k default=uz c mp k:=by
 rw[<- Kp c mp k];exact Ko (GD c mp k)
def upd(pf:Ex->Pt)(k:Ex)(p:Pt):Ex->Pt:=fun k'=>if k'=k then p else pf k'
theorem GE(c:Cf)(mp:List (Ex×Pt))(k:Ex)(p:Pt):uz c (w4 mp k p)=upd (uz c mp) k p:=by
 funext k'
 unfold uz upd
 by_cases e:k'=k
 ·subst e;rw[lS,if_pos rfl]
 ·rw[cz e,if_neg e]
theorem SD{c:Cf}(hs:Small c)(hv:Qq c net h):
  uW c rs sent mp ag come lost h=some (bZ c mp (wc h)):=by
 unfold uW
 have hl:=hv.1
 have CK:=hv.2.1
 obtain⟨⟨n1,n2⟩,n3,_⟩:=hv.node hs
 have hm:=hs.m
 have hsw:=hs.s
 have hN:nN c=nM c+c.fS.length:=rfl
 have hMM:nM c=c.fM.length:=rfl
 refine wD (P:=fun o=>o=some (bZ c mp (wc h))) fun k hk=>?_
 show(if (!wK mp (wc h))=true then _ else _)=_
 unfold bZ
 cases hh:wK mp (wc h) with
 | true=>simp only[Bool.not_true,Bool.false_eq_true,if_false,if_true];rw[hk]
 | false=>
  simp only[Bool.not_false,if_true,Bool.false_eq_true,if_false]
  refine uY (P:=fun o=>o=some (w4 mp (wc h) (qv c (wc h)))) fun kk xO=>?_
  have zs:∀ d st,0<=d->d<=1000->0<=st->st<=1073741824->kk d st=k (w4 mp (wc h) (⟨⟨(nth c.fK h.fQ).yr,d,st⟩,0,0,[]⟩:Pt)):=by
   intro d st d1 d2 s1 s2
   rw[xO,xJ ⟨hl,CK⟩]
   unfold cn
   have:=hv.2.2.2.1
   have:=hv.2.2.2.2.1
   rw[if_neg (by simp only[Bool.or_eq_true,decide_eq_true_eq];omega)]
   rfl
  rw[xQ (by omega)]
  by_cases hg:nM c<=h.ya
  ·rw[if_pos (by rw[decide_eq_true_eq];omega),xJ ⟨by omega,by omega⟩]
   have hf:tX c net h.ya:=⟨n1,n2⟩
   rcases n2 with n2 | ⟨_,a,b,d,e⟩
   ·omega
   ·have:=zs _ _ a b d e
    unfold sw nM at this
    rw[this,hk]
    have C0:qv c (wc h)=⟨⟨(nth c.fK h.fQ).yr,(sw c h.ya).yl,(sw c h.ya).fT⟩,0,0,[]⟩:=by
     unfold qv wc;simp only[if_pos hg]
    rw[C0];rfl
  ·rw[if_neg (by rw[decide_eq_true_eq];omega),zs 0 1073741824 (by omega) (by omega) (by omega) (by omega),hk]
   have C0:qv c (wc h)=⟨⟨(nth c.fK h.fQ).yr,0,1073741824⟩,0,0,[]⟩:=by
    unfold qv wc;simp only[if_neg hg]
   rw[C0]
def vy(rs:List (List Hop))(sent:List qT)(node t i s:Int):List Ev:=((nth rs (nth sent s).yq).filter fun h=>decide (h.ya=node)).map fun h=>⟨t,i,(nth sent s).yq,s,h⟩
theorem nC{rs:List (List Hop)}{sent:List qT}{s node t i:Int}{k:List Ev->Option (List Ev)}(hr:(nth rs (nth sent s).yq).length<=1000):
  ∀(n:Nat) (v:Int) (ag:List Ev),0<=v->v<=(nth rs (nth sent s).yq).length->(nth rs (nth sent s).yq).length<n+v->HP ag ag.length->(ag.length:Int)+1000<100000000+v->
  ∃ tF,jO rs sent s node t i k n v ag=k tF/\tF.Perm ((((nth rs (nth sent s).yq).drop v.toNat).filter fun h=>decide (h.ya=node)).map (fun h=>(⟨t,i,(nth sent s).yq,s,h⟩:Ev))++ag)/\HP tF tF.length
 | 0,v,ag,h0,h1,h2,h3,h4=>by omega
 | n+1,v,ag,h0,h1,h2,h3,h4=>by
  rw[jO]
  by_cases h:v<(nth rs (nth sent s).yq).length
  ·rw[if_pos (decide_eq_true h)]
   have hd:=kP (l:=nth rs (nth sent s).yq) (v:=v) h0 h
   have e1:(v+1).toNat=v.toNat+1:=by omega
   rw[hd,List.filter_cons]
   refine wD (P:=fun o=>∃ tF,o=k tF/\tF.Perm _/\HP tF tF.length) fun kk xO=>?_
   rw[xJ ⟨h0,h⟩]
   by_cases hn:(nth (nth rs (nth sent s).yq) v).ya=node
   ·rw[if_pos (decide_eq_true hn)]
    obtain⟨a1,p1,p2,p3⟩:=TT (l:=ag) (x:=(⟨t,i,(nth sent s).yq,s,nth (nth rs (nth sent s).yq) v⟩:Ev)) (by omega) h3
    show ∃ tF,((kI ag (⟨t,i,(nth sent s).yq,s,nth (nth rs (nth sent s).yq) v⟩:Ev)).bind fun x=>kk x)=k tF/\_
    rw[p1]
    simp only[oB]
    rw[xO,xQ (x:=v+1) (by omega)]
    have jy:=p2.length_eq
    obtain⟨a2,q1,q2,q3⟩:=nC (t:=t) (i:=i) (node:=node) (k:=k) hr n (v+1) a1 (by omega) (by omega) (by omega) p3 (by rw[jy,List.length_cons];omega)
    refine⟨a2,q1,q2.trans ?_,q3⟩
    rw[e1,if_pos (decide_eq_true hn),List.map_cons,List.cons_append]
    exact(List.Perm.append_left _ p2).trans List.perm_middle
   ·rw[if_neg (by simpa using hn),xO,xQ (x:=v+1) (by omega)]
    obtain⟨a2,q1,q2,q3⟩:=nC (t:=t) (i:=i) (node:=node) (k:=k) hr n (v+1) ag (by omega) (by omega) (by omega) h3 (by omega)
    refine⟨a2,q1,?_,q3⟩
    rw[if_neg (by simpa using hn),<- e1];exact q2
  ·rw[if_neg (by simpa using h),List.drop_eq_nil_of_le (by omega)]
   exact⟨ag,rfl,.refl _,h3⟩
theorem Kq{c:Cf}{node t i s:Int}(hs:0<=s/\s<sent.length)(hv:0<=(nth sent s).yq/\(nth sent s).yq<rs.length)(hr:(nth rs (nth sent s).yq).length<=1000)(h3:HP ag ag.length)(h4:(ag.length:Int)<90000000):
  ∃ tF,gP c rs sent mp ag come lost node t i s=some tF/\tF.Perm (vy rs sent node t i s++ag)/\HP tF tF.length:=by
 unfold gP
 rw[xJ hs,xJ hv]
 have hF:=wq
 generalize xR=N at hF ⊢
 refine wD (P:=fun o=>∃ tF,o=some tF/\tF.Perm (vy rs sent node t i s++ag)/\HP tF tF.length) fun k hk=>?_
 obtain⟨a2,q1,q2,q3⟩:=nC (s:=s) (t:=t) (i:=i) (node:=node) (k:=k) hr N 0 ag (by omega) (by omega) (by omega) h3 (by omega)
 exact⟨a2,q1.trans (hk _),by simpa [vy] using q2,q3⟩
structure St where
 ag:List Ev
 come:List Cm
 lost:List Cm
 pf:Ex->Pt
def mA(c:Cf)(rs:List (List Hop))(sent:List qT)(e:Ev)(eZ:List Ev)(S:St):St:=
 if (jP (S.pf (wc e.yd)) e.yb (nth sent e.yc).yo).2.1≠0 then
  ⟨eZ,S.come,S.lost++[⟨e.yc,e.yd.ya,e.yb⟩],upd S.pf (wc e.yd) (jP (S.pf (wc e.yd)) e.yb (nth sent e.yc).yo).2.2⟩
 else⟨vy rs sent e.yd.fX (jP (S.pf (wc e.yd)) e.yb (nth sent e.yc).yo).1 e.yd.fQ e.yc++eZ,
  if e.yd.fX<nM c then S.come++[⟨e.yc,e.yd.fX,(jP (S.pf (wc e.yd)) e.yb (nth sent e.yc).yo).1⟩] else S.come,S.lost,upd S.pf (wc e.yd) (jP (S.pf (wc e.yd)) e.yb (nth sent e.yc).yo).2.2⟩
structure EC (c:Cf) (net:Int) (rs:List (List Hop)) (sent:List qT) (e:Ev):Prop where
 hop:Qq c net e.yd
 s:0<=e.yc/\e.yc<sent.length
 v:0<=(nth sent e.yc).yq/\(nth sent e.yc).yq<rs.length
theorem TY{c:Cf}(hs:Small c)(h0:ag≠[])(hp:HP ag ag.length)(ha:(ag.length:Int)<80000000)(hc:come.length<80000000)(hl:lost.length<80000000)(he:∀ e∈ag,EC c net rs sent e)(hP:∀ e∈ag,PIR (uz c mp (wc e.yd)))(hr:∀ r∈rs,r.length<=1000):
  ∃ e eZ tF Bl,(e::eZ).Perm ag/\(∀ x∈ag,tP e x)/\mV c rs sent mp ag come lost=some (tF,(mA c rs sent e eZ ⟨ag,come,lost,uz c mp⟩).come,(mA c rs sent e eZ ⟨ag,come,lost,uz c mp⟩).lost,Bl)/\
   tF.Perm (mA c rs sent e eZ ⟨ag,come,lost,uz c mp⟩).ag/\HP tF tF.length/\uz c Bl=(mA c rs sent e eZ ⟨ag,come,lost,uz c mp⟩).pf:=by
 obtain⟨e,eZ,p1,p2,p3,p4⟩:=Sx h0 (by omega) hp
 have zD:e∈ag:=p2.mem_iff.1 (by simp)
 have hE:=he e zD
 have jy:=p2.length_eq
 rw[List.length_cons] at jy
 refine⟨e,eZ,?_⟩
 unfold mV
 rw[p1]
 simp only[oB]
 rw[SD hs hE.hop]
 simp only[oB]
 rw[xJ hE.s,xJ (show wK (bZ c mp (wc e.yd)) (⟨e.yd.ya,e.yd.fQ⟩:Ex)=true from GD _ _ _)]
 have hput:mo (xC (bZ c mp (wc e.yd)) (wc e.yd) default) e.yb (nth sent e.yc).yo=some (jP (uz c mp (wc e.yd)) e.yb (nth sent e.yc).yo):=by
  rw[TX];exact SA (hP e zD)
 show ∃ tF Bl,_/\_/\((mo (xC (bZ c mp (wc e.yd)) (wc e.yd) default) e.yb (nth sent e.yc).yo).bind _)=_/\_
 rw[hput]
 simp only[oB]
 unfold mA
 simp only
 generalize jP (uz c mp (wc e.yd)) e.yb (nth sent e.yc).yo=R
 by_cases hR:R.2.1≠0
 ·rw[if_pos (decide_eq_true hR),if_pos hR,xJ (by simp;omega)]
  refine⟨eZ,_,p2,p4,rfl,.refl _,p3,?_⟩
  show uz c (w4 (bZ c mp (wc e.yd)) (wc e.yd) R.2.2)=_
  rw[GE,Kp]
 ·rw[if_neg (by simpa using hR),if_neg hR]
  have hrr:(nth rs (nth sent e.yc).yq).length<=1000:=hr _ (wn hE.v.1 hE.v.2)
  obtain⟨a1,q1,q2,q3⟩:=Kq (c:=c) (mp:=w4 (bZ c mp (wc e.yd)) (wc e.yd) R.2.2) (ag:=eZ) (come:=if e.yd.fX<nM c then come++[⟨e.yc,e.yd.fX,R.1⟩] else come) (lost:=lost) (node:=e.yd.fX) (t:=R.1) (i:=e.yd.fQ) hE.s hE.v hrr p3 (by omega)
  refine⟨a1,w4 (bZ c mp (wc e.yd)) (wc e.yd) R.2.2,p2,p4,?_,q2,q3,?_⟩
  ·refine wD (P:=fun o=>o=_) fun k hk=>?_
   unfold nM at q1 ⊢
   by_cases hn:e.yd.fX<c.fM.length
   ·rw[if_pos (decide_eq_true hn),xJ (by simp;omega),hk]
    rw[if_pos hn] at q1 ⊢
    rw[show(⟨e.yd.ya,e.yd.fQ⟩:Ex)=wc e.yd from rfl,q1];rfl
   ·rw[if_neg (by simpa using hn),hk]
    rw[if_neg hn] at q1 ⊢
    rw[show(⟨e.yd.ya,e.yd.fQ⟩:Ex)=wc e.yd from rfl,q1];rfl
  ·rw[GE,Kp]
end
end Go.Proofs.YtcahmabkeaijdaaGreat
namespace Go.Proofs.YtcahmabkeaijdaaGreat
open Go Go.RowKit Sep
theorem RK.mono{r:List Hop}{v w k:Int}(h:RK r v k)(hv:v<=w):RK r w k:=by
 rcases h with h | ⟨q,a,b,e⟩
 ·exact .inl h
 ·exact .inr ⟨q,a,by omega,e⟩
theorem VR.hv{c:Cf}{net:Int}{r:List Hop}(h:VR c net r):∀ x∈r,Qq c net x:=by
 intro x hx
 obtain⟨i,hi,rfl⟩:=List.getElem_of_mem hx
 have:=(h.cond (i:Int) (by omega) (by omega)).2.2.2
 rw[jY ⟨by omega,by omega⟩] at this
 unfold Qq
 simpa using this
theorem VR.next_ne{c:Cf}{net:Int}{r:List Hop}(h:VR c net r):∀ x∈r,x.fX≠(nth r 0).ya:=by
 intro x hx
 obtain⟨i,hi,rfl⟩:=List.getElem_of_mem hx
 have:=(h.cond (i:Int) (by omega) (by omega)).2.1
 rw[jY (i:=(i:Int)) ⟨by omega,by omega⟩] at this
 simp only[Int.toNat_natCast] at this
 exact fun e=>this (.inl e)
theorem VR.idx{c:Cf}{net:Int}{r:List Hop}(h:VR c net r){i j:Nat}(hi:i<r.length)(hj:j<r.length)(hij:i<j):r[i].fX≠r[j].fX/\¬(r[i].fQ=r[j].fQ):=by
 have cj:=h.cond (j:Int) (by omega) (by omega)
 have ci:=h.cond (i:Int) (by omega) (by omega)
 have ei:nth r (i:Int)=r[i]:=by rw[jY ⟨by omega,by omega⟩];simp
 have ej:nth r (j:Int)=r[j]:=by rw[jY ⟨by omega,by omega⟩];simp
 have hn:r[i].fX≠r[j].fX:=by
  intro e
  have:=cj.2.1
  rw[ej] at this
  exact this (.inr ⟨i,by omega,by omega,by rw[ei];exact e⟩)
 refine⟨hn,fun e=>?_⟩
 have ji:=ci.2.2.2
 have jj:=cj.2.2.2
 rw[ei] at ji;rw[ej] at jj
 obtain⟨_,_,_,_,_,_,_,_,a⟩:=ji
 obtain⟨_,_,_,_,_,_,_,_,b⟩:=jj
 rw[<- e] at b
 have hx:r[j].fX=r[i].ya:=by
  rcases a with⟨a1,a2⟩ | ⟨a1,a2⟩ <;> rcases b with⟨b1,b2⟩ | ⟨b1,b2⟩
  ·exact absurd (a2.symm.trans b2) hn
  ·exact b1.symm.trans a1
  ·exact b2.symm.trans a2
  ·exact absurd (a1.symm.trans b1) hn
 have:=cj.2.1
 rw[ej,hx] at this
 have hk:=ci.1
 rw[ei] at hk
 exact this (hk.mono (by omega))
theorem VR.next_inj{c:Cf}{net:Int}{r:List Hop}(h:VR c net r){x y:Hop}(hx:x∈r)(hy:y∈r)(e:x.fX=y.fX):x=y:=by
 obtain⟨i,hi,rfl⟩:=List.getElem_of_mem hx
 obtain⟨j,hj,rfl⟩:=List.getElem_of_mem hy
 rcases Nat.lt_trichotomy i j with hij | hij | hij
 ·exact absurd e (h.idx hi hj hij).1
 ·subst hij;rfl
 ·exact absurd e.symm (h.idx hj hi hij).1
theorem VR.link_inj{c:Cf}{net:Int}{r:List Hop}(h:VR c net r){x y:Hop}(hx:x∈r)(hy:y∈r)(e:x.fQ=y.fQ):x=y:=by
 obtain⟨i,hi,rfl⟩:=List.getElem_of_mem hx
 obtain⟨j,hj,rfl⟩:=List.getElem_of_mem hy
 rcases Nat.lt_trichotomy i j with hij | hij | hij
 ·exact absurd e (h.idx hi hj hij).2
 ·subst hij;rfl
 ·exact absurd e.symm (h.idx hj hi hij).2
theorem VR.nodup{c:Cf}{net:Int}{r:List Hop}(h:VR c net r):r.Nodup:=by
 rw[List.nodup_iff_pairwise_ne,List.pairwise_iff_getElem]
 intro i j hi hj hij e
 exact(h.idx hi hj hij).1 (by rw[e])
structure Sg (c:Cf) (net:Int) (rs:List (List Hop)) (sent:List qT):Prop where
 small:Small c
 va:VA c net rs
 fr:FRm c 40 sent
abbrev Id:=Int×Hop
def qy(e:Ev):Id:=(e.yc,e.yd)
def route(rs:List (List Hop))(sent:List qT)(s:Int):List Hop:=nth rs (nth sent s).yq
section
variable {c:Cf} {net:Int} {rs:List (List Hop)} {sent:List qT}
theorem Sg.vl(g:Sg c net rs sent){s:Int}(h:0<=s/\s<sent.length):0<=(nth sent s).yq/\(nth sent s).yq<rs.length:=by
 have:=g.fr.each s h.1 h.2
 have hl:=g.va.len
 exact⟨this.2.2.1,by have:=this.2.2.2.1;omega⟩
theorem Sg.route(g:Sg c net rs sent){s:Int}(h:0<=s/\s<sent.length):VR c net (route rs sent s):=g.va.each _ (wn (g.vl h).1 (g.vl h).2)
def bj(rs:List (List Hop))(sent:List qT):List Id:=(List.range sent.length).flatMap fun i:Nat=>(route rs sent (i:Int)).map fun h=>((i:Int),h)
theorem WN{x:Id}:x∈bj rs sent↔(0<=x.1/\x.1<sent.length)/\x.2∈route rs sent x.1:=by
 unfold bj
 simp only[List.mem_flatMap,List.mem_range,List.mem_map]
 constructor
 ·rintro⟨i,hi,h,hh,rfl⟩;exact⟨⟨by simp,by simp;omega⟩,hh⟩
 ·rintro⟨⟨h1,h2⟩,h3⟩
  exact⟨x.1.toNat,by omega,x.2,by rw[Int.toNat_of_nonneg h1];exact h3,by rw[Int.toNat_of_nonneg h1]⟩
theorem dA{α β:Type}{f:α->List β}{m:Nat}:∀(l:List α),(∀ x∈l,(f x).length<=m)->(l.flatMap f).length<=l.length*m
 | [],_=>by simp
 | x::l,h=>by
  rw[List.flatMap_cons,List.length_append,List.length_cons,Nat.succ_mul]
  have h1:=h x (by simp)
  have h2:=dA l (fun y hy=>h y (List.mem_cons_of_mem _ hy))
  omega
theorem Sg.ids_len(g:Sg c net rs sent):(bj rs sent).length<=1280:=by
 have h1:=dA (f:=fun i:Nat=>(Go.Proofs.YtcahmabkeaijdaaGreat.route rs sent (i:Int)).map fun h=>((i:Int),h)) (m:=32) (List.range sent.length) (fun i hi=>by
  rw[List.length_map]
  exact(g.route ⟨by omega,by have:=List.mem_range.1 hi;omega⟩).len)
 rw[List.length_range] at h1
 have:=g.fr.len
 unfold bj;omega
theorem Y6{α:Type}[DecidableEq α]:∀(l m:List α),l.Nodup->(∀ x∈l,x∈m)->l.length<=m.length
 | [],m,_,_=>by simp
 | x::l,m,h,hm=>by
  have hx:=hm x (by simp)
  rw[List.nodup_cons] at h
  have:=Y6 l (m.erase x) h.2 (fun y hy=>(List.mem_erase_of_ne (fun e=>h.1 (by rw[<- e];exact hy))).2 (hm y (List.mem_cons_of_mem _ hy)))
  rw[List.length_erase_of_mem hx] at this
  have hp:0<m.length:=List.length_pos_of_mem hx
  rw[List.length_cons];omega
def UK(rs:List (List Hop))(sent:List qT)(k:Ex):Prop:=∃ s h,(0<=s/\s<(sent.length:Int))/\h∈route rs sent s/\wc h=k
structure EOK (rs:List (List Hop)) (sent:List qT) (e:Ev):Prop where
 s:0<=e.yc/\e.yc<sent.length
 v:e.yG=(nth sent e.yc).yq
 h:e.yd∈route rs sent e.yc
 t:0<=e.yb
structure IV (c:Cf) (net:Int) (rs:List (List Hop)) (sent:List qT) (S:St) (D:List Id):Prop where
 ev:∀ e∈S.ag,EOK rs sent e
 tm:∀ e∈S.ag,e.yb<=536870912+2200*D.length
 nd:(D++S.ag.map qy).Nodup
 mem:∀ d∈D,d∈bj rs sent
 par:∀ x∈D++S.ag.map qy,x.2.ya=(nth (route rs sent x.1) 0).ya\/∃ y∈route rs sent x.1,y.fX=x.2.ya/\(x.1,y)∈D
 pi:∀ k,UK rs sent k->PIR (S.pf k)/\(S.pf k).yy<=536870912+2200*D.length/\(S.pf k).yn.length<=D.length
 now:∀ k,UK rs sent k->∀ e∈S.ag,(S.pf k).yH<=e.yb
 num:∀ k,(S.pf k).yk=(qv c k).yk
 cl:S.come.length+S.lost.length<=D.length
structure EQ (S T:St):Prop where
 ag:S.ag.Perm T.ag
 come:S.come.Perm T.come
 lost:S.lost.Perm T.lost
 pf:S.pf=T.pf
theorem EQ.refl(S:St):EQ S S:=⟨.refl _,.refl _,.refl _,rfl⟩
theorem EQ.symm{S T:St}(h:EQ S T):EQ T S:=⟨h.ag.symm,h.come.symm,h.lost.symm,h.pf.symm⟩
theorem EQ.trans{S T U:St}(h:EQ S T)(k:EQ T U):EQ S U:=⟨h.ag.trans k.ag,h.come.trans k.come,h.lost.trans k.lost,h.pf.trans k.pf⟩
theorem IV.eq{S T:St}{D:List Id}(h:IV c net rs sent S D)(k:EQ S T):IV c net rs sent T D:=by
 have hm:∀ e,e∈T.ag->e∈S.ag:=fun e he=>k.ag.mem_iff.2 he
 have hp:(D++S.ag.map qy).Perm (D++T.ag.map qy):=(k.ag.map qy).append_left D
 refine⟨fun e he=>h.ev e (hm e he),fun e he=>h.tm e (hm e he),(hp.nodup_iff).1 h.nd,h.mem,fun x hx=>h.par x (hp.mem_iff.2 hx),?_,?_,?_,?_⟩
 ·intro q hq;rw[<- k.pf];exact h.pi q hq
 ·intro q hq e he;rw[<- k.pf];exact h.now q hq e (hm e he)
 ·intro q;rw[<- k.pf];exact h.num q
 ·rw[<- k.come.length_eq,<- k.lost.length_eq];exact h.cl
theorem IV.len(g:Sg c net rs sent){S:St}{D:List Id}(h:IV c net rs sent S D):D.length+S.ag.length<=1280:=by
 have:=Y6 _ (bj rs sent) h.nd (fun x hx=>by
  rcases List.mem_append.1 hx with hx | hx
  ·exact h.mem x hx
  ·obtain⟨e,he,rfl⟩:=List.mem_map.1 hx
   have:=h.ev e he
   exact WN.2 ⟨this.s,this.h⟩)
 rw[List.length_append,List.length_map] at this
 exact Nat.le_trans this g.ids_len
theorem Qu{p:Pt}{t size:Int}(h:PIR p)(h1:1<=size/\size<=72)(ht:p.yH<=t/\t<=1073741824):
  (jP p t size).2.2.yH=t/\(jP p t size).2.2.yk=p.yk/\(jP p t size).2.2.yn.length<=p.yn.length+1/\
  ((jP p t size).2.1=4/\(jP p t size).2.2.yy=p.yy\/(jP p t size).2.1=0/\(jP p t size).1=ff p t size/\(jP p t size).2.2.yy=ff p t size)/\t+1<=ff p t size/\ff p t size<=max t p.yy+2152:=by
 have hm:=Y5 (a:=size) (b:=p.yk.yr) h1 h.slow
 have hd:=h.delay
 have hw:=bi (t:=t) (l:=p.yn)
 have he:t+1<=ff p t size/\ff p t size<=max t p.yy+2152:=by unfold ff;omega
 unfold jP
 rw[if_neg (by omega)]
 split
 ·exact⟨rfl,rfl,by simp only;omega,.inl ⟨rfl,rfl⟩,he⟩
 ·exact⟨rfl,rfl,by simp only[List.length_append,List.length_singleton];omega,.inr ⟨rfl,rfl,rfl⟩,he⟩
theorem bm{e:Ev}{node t i s:Int}:e∈vy rs sent node t i s↔∃ h∈route rs sent s,h.ya=node/\e=⟨t,i,(nth sent s).yq,s,h⟩:=by
 unfold vy route
 simp only[List.mem_map,List.mem_filter,decide_eq_true_eq]
 constructor
 ·rintro⟨h,⟨h1,h2⟩,rfl⟩;exact⟨h,h1,h2,rfl⟩
 ·rintro⟨h,h1,h2,rfl⟩;exact⟨h,⟨h1,h2⟩,rfl⟩
theorem nD{a b:Ev}(h:tP a b):a.yb<=b.yb:=by unfold tP bX at h;omega
theorem VM(g:Sg c net rs sent){S:St}{D:List Id}(h:IV c net rs sent S D){e:Ev}{eZ:List Ev}(hp:(e::eZ).Perm S.ag)(tK:∀ x∈S.ag,tP e x):IV c net rs sent (mA c rs sent e eZ S) (qy e::D):=by
 have jy:=h.len g
 have zD:e∈S.ag:=hp.mem_iff.1 (by simp)
 have DU:=hp.length_eq
 rw[List.length_cons] at DU
 have he:=h.ev e zD
 have ht:=h.tm e zD
 have zj:∀ x∈eZ,x∈S.ag:=fun x hx=>hp.mem_iff.1 (List.mem_cons_of_mem _ hx)
 have hk:UK rs sent (wc e.yd):=⟨e.yc,e.yd,he.s,he.h,rfl⟩
 obtain⟨p1,p2,p3⟩:=h.pi _ hk
 have ne:=(g.fr.each e.yc he.s.1 he.s.2).2.2.2.2
 have hc:=Qu p1 (size:=(nth sent e.yc).yo) ⟨ne.1,ne.2.1⟩ (t:=e.yb) ⟨h.now _ hk e zD,by omega⟩
 have hPI:=TW (size:=(nth sent e.yc).yo) p1 he.t (by omega) (by omega)
 have hnd':(D++(qy e::eZ.map qy)).Nodup:=by
  have:(D++S.ag.map qy).Perm (D++(qy e::eZ.map qy)):=(by simpa using hp.symm.map qy:(S.ag.map qy).Perm (qy e::eZ.map qy)).append_left D
  exact this.nodup_iff.1 h.nd
 have E8:((qy e::D)++eZ.map qy).Nodup:=(List.perm_middle (l₁:=D) (a:=qy e) (l₂:=eZ.map qy)).nodup_iff.1 hnd'
 have C1:∀ d∈qy e::D,d∈bj rs sent:=fun d hd=>by
  rcases List.mem_cons.1 hd with rfl | hd
  ·exact WN.2 ⟨he.s,he.h⟩
  ·exact h.mem d hd
 have BK:∀ x∈(qy e::D)++eZ.map qy,x.2.ya=(nth (route rs sent x.1) 0).ya\/∃ y∈route rs sent x.1,y.fX=x.2.ya/\(x.1,y)∈qy e::D:=by
  intro x hx
  have hx':x∈D++S.ag.map qy:=by
   rcases List.mem_append.1 hx with hx | hx
   ·rcases List.mem_cons.1 hx with rfl | hx
    ·exact List.mem_append_right _ (List.mem_map.2 ⟨e,zD,rfl⟩)
    ·exact List.mem_append_left _ hx
   ·obtain⟨y,hy,rfl⟩:=List.mem_map.1 hx
    exact List.mem_append_right _ (List.mem_map.2 ⟨y,zj y hy,rfl⟩)
  rcases h.par x hx' with a | ⟨y,a,b,d⟩
  ·exact .inl a
  ·exact .inr ⟨y,a,b,List.mem_cons_of_mem _ d⟩
 have E9:∀ k,UK rs sent k->PIR (upd S.pf (wc e.yd) (jP (S.pf (wc e.yd)) e.yb (nth sent e.yc).yo).2.2 k)/\(upd S.pf (wc e.yd) (jP (S.pf (wc e.yd)) e.yb (nth sent e.yc).yo).2.2 k).yy<=536870912+2200*(qy e::D).length/\(upd S.pf (wc e.yd) (jP (S.pf (wc e.yd)) e.yb (nth sent e.yc).yo).2.2 k).yn.length<=(qy e::D).length:=by
  intro k vV
  unfold upd
  rw[List.length_cons]
  split
  ·refine⟨hPI,?_,?_⟩
   ·rcases hc.2.2.2.1 with⟨_,a⟩ | ⟨_,_,a⟩ <;> rw[a] <;> omega
   ·omega
  ·obtain⟨a,b,d⟩:=h.pi k vV
   exact⟨a,by omega,by omega⟩
 have BN:∀ k,UK rs sent k->∀ x:Ev,e.yb<=x.yb->(x∈eZ\/e.yb<x.yb)->(upd S.pf (wc e.yd) (jP (S.pf (wc e.yd)) e.yb (nth sent e.yc).yo).2.2 k).yH<=x.yb:=by
  intro k vV x hx _
  unfold upd
  split
  ·rw[hc.1];exact hx
  ·exact Int.le_trans (h.now k vV e zD) hx
 have C2:∀ k,(upd S.pf (wc e.yd) (jP (S.pf (wc e.yd)) e.yb (nth sent e.yc).yo).2.2 k).yk=(qv c k).yk:=by
  intro k
  unfold upd
  split
  ·rename_i vV;rw[hc.2.1,vV];exact h.num _
  ·exact h.num k
 have xD:=h.cl
 unfold mA
 by_cases hR:(jP (S.pf (wc e.yd)) e.yb (nth sent e.yc).yo).2.1≠0
 ·rw[if_pos hR]
  refine⟨fun x hx=>h.ev x (zj x hx),fun x hx=>?_,E8,C1,BK,E9,fun k vV x hx=>BN k vV x (nD (tK x (zj x hx))) (.inl hx),C2,?_⟩
  ·have:=h.tm x (zj x hx);rw[List.length_cons];omega
  ·simp only[List.length_append,List.length_cons,List.length_nil];omega
 ·rw[if_neg hR]
  have DI:(jP (S.pf (wc e.yd)) e.yb (nth sent e.yc).yo).1=ff (S.pf (wc e.yd)) e.yb (nth sent e.yc).yo:=by
   rcases hc.2.2.2.1 with⟨a,_⟩ | ⟨_,a,_⟩
   ·exact absurd (by rw[a];decide) hR
   ·exact a
  have Ar:=g.route he.s
  have Ha:∀ x,x∈vy rs sent e.yd.fX (jP (S.pf (wc e.yd)) e.yb (nth sent e.yc).yo).1 e.yd.fQ e.yc->∃ y∈route rs sent e.yc,y.ya=e.yd.fX/\x=⟨ff (S.pf (wc e.yd)) e.yb (nth sent e.yc).yo,e.yd.fQ,(nth sent e.yc).yq,e.yc,y⟩:=by
   intro x hx
   rw[DI] at hx
   exact bm.1 hx
  refine⟨fun x hx=>?_,fun x hx=>?_,?_,C1,fun x hx=>?_,E9,fun k vV x hx=>?_,C2,?_⟩
  ·rcases List.mem_append.1 hx with hx | hx
   ·obtain⟨y,y1,y2,rfl⟩:=Ha x hx
    exact⟨he.s,rfl,y1,by have:=he.t;show 0<=ff _ _ _;omega⟩
   ·exact h.ev x (zj x hx)
  ·rw[List.length_cons]
   rcases List.mem_append.1 hx with hx | hx
   ·obtain⟨y,y1,y2,rfl⟩:=Ha x hx
    show ff _ _ _<=_;omega
   ·have:=h.tm x (zj x hx);omega
  ·-- no frame comes to a hop twice
   rw[List.map_append]
   have hnn:((vy rs sent e.yd.fX (jP (S.pf (wc e.yd)) e.yb (nth sent e.yc).yo).1 e.yd.fQ e.yc).map qy).Nodup:=by
    unfold vy
    rw[List.map_map]
    refine List.Pairwise.map _ (R:=fun a b=>a≠b) (fun a b zJ EM=>zJ (by simpa [qy] using EM)) ?_
    exact(Ar.nodup).filter _
   have hdis:∀ x∈(vy rs sent e.yd.fX (jP (S.pf (wc e.yd)) e.yb (nth sent e.yc).yo).1 e.yd.fQ e.yc).map qy,x∉(qy e::D)++eZ.map qy:=by
    intro x hx EP
    obtain⟨z,hz,rfl⟩:=List.mem_map.1 hx
    obtain⟨y,y1,y2,rfl⟩:=Ha z hz
    have hx3:((e.yc,y):Id)∈D++S.ag.map qy:=by
     rcases List.mem_append.1 EP with hq | hq
     ·rcases List.mem_cons.1 hq with hq | hq
      ·exact List.mem_append_right _ (List.mem_map.2 ⟨e,zD,hq.symm⟩)
      ·exact List.mem_append_left _ hq
     ·obtain⟨w,hw,Ae⟩:=List.mem_map.1 hq
      exact List.mem_append_right _ (List.mem_map.2 ⟨w,zj w hw,Ae⟩)
    rcases h.par _ hx3 with a | ⟨q,q1,q2,q3⟩
    ·exact Ar.next_ne _ he.h (y2▸a)
    ·have:q=e.yd:=Ar.next_inj q1 he.h (q2.trans y2)
     subst this
     have:=(List.nodup_append.1 h.nd).2.2 _ q3 _ (List.mem_map.2 ⟨e,zD,rfl⟩)
     exact this rfl
   have uX:((qy e::D)++((vy rs sent e.yd.fX (jP (S.pf (wc e.yd)) e.yb (nth sent e.yc).yo).1 e.yd.fQ e.yc).map qy++eZ.map qy)).Perm ((vy rs sent e.yd.fX (jP (S.pf (wc e.yd)) e.yb (nth sent e.yc).yo).1 e.yd.fQ e.yc).map qy++((qy e::D)++eZ.map qy)):=by
    rw[<- List.append_assoc,<- List.append_assoc]
    exact List.perm_append_comm.append_right _
   exact uX.nodup_iff.2 (List.nodup_append.2 ⟨hnn,E8,fun a ha b hb zJ=>hdis a ha (zJ▸hb)⟩)
  ·rcases List.mem_append.1 hx with hx | hx
   ·exact BK x (List.mem_append_left _ hx)
   ·rw[List.map_append] at hx
    rcases List.mem_append.1 hx with hx | hx
    ·obtain⟨z,hz,rfl⟩:=List.mem_map.1 hx
     obtain⟨y,y1,y2,rfl⟩:=Ha z hz
     exact .inr ⟨e.yd,he.h,y2.symm,List.mem_cons_self ..⟩
    ·exact BK x (List.mem_append_right _ hx)
  ·rcases List.mem_append.1 hx with hx | hx
   ·obtain⟨y,y1,y2,rfl⟩:=Ha x hx
    exact BN k vV _ (by show _<=ff _ _ _;omega) (.inr (by show _<ff _ _ _;omega))
   ·exact BN k vV x (nD (tK x (zj x hx))) (.inl hx)
  ·simp only[List.length_cons]
   split
   ·simp only[List.length_append,List.length_cons,List.length_nil];omega
   ·omega
end
end Go.Proofs.YtcahmabkeaijdaaGreat
namespace Go.Proofs.YtcahmabkeaijdaaGreat
open Go Go.RowKit Sep
section
variable {c:Cf} {net:Int} {rs:List (List Hop)} {sent:List qT}
inductive Runs (c:Cf) (rs:List (List Hop)) (sent:List qT):Nat->St->St->Prop
 | done {S T:St} (h:S.ag=[]) (k:EQ S T):Runs c rs sent 0 S T
 | step {S S' T:St} {n:Nat} (e:Ev) (eZ:List Ev) (hp:(e::eZ).Perm S.ag) (tK:∀ x∈S.ag,tP e x) (zy:EQ (mA c rs sent e eZ S) S') (hr:Runs c rs sent n S' T):Runs c rs sent (n+1) S T
theorem Kr{S T:St}(h:EQ S T){e:Ev}{r1 r2:List Ev}(hr:r1.Perm r2):EQ (mA c rs sent e r1 S) (mA c rs sent e r2 T):=by
 unfold mA
 rw[h.pf]
 split
 ·exact⟨hr,h.come,h.lost.append_right _,rfl⟩
 ·refine⟨hr.append_left _,?_,h.lost,rfl⟩
  show(if _ then _ else _:List Cm).Perm (if _ then _ else _)
  split
  ·exact h.come.append_right _
  ·exact h.come
theorem Runs.trans_eq:∀ {n:Nat} {S T F:St},Runs c rs sent n S F->EQ S T->∃ F',Runs c rs sent n T F'/\EQ F F'
 | _,S,T,F,.done h k,q=>⟨T,.done (by have:=q.ag;rw[h] at this;exact List.perm_nil.1 this.symm) (EQ.refl _),k.symm.trans q⟩
 | _,S,T,F,.step e eZ hp tK zy hr,q=>by
  refine⟨F,.step e eZ (hp.trans q.ag) (fun x hx=>tK x (q.ag.mem_iff.2 hx)) ((Kr q (.refl eZ)).symm.trans zy) hr,EQ.refl _⟩
theorem Runs.fin{n:Nat}{S F:St}(h:Runs c rs sent n S F):F.ag=[]:=by
 induction h with
 | done h k=>have:=k.ag;rw[h] at this;exact List.perm_nil.1 this.symm
 | step _ _ _ _ _ _ ih=>exact ih
theorem KY{a b:Ev}(h:a.yb<b.yb):tP a b:=by unfold tP bX;omega
end
end Go.Proofs.YtcahmabkeaijdaaGreat
namespace Go.Proofs.YtcahmabkeaijdaaGreat
open Go Go.RowKit Sep
section
variable {c:Cf} {net:Int} {rs:List (List Hop)} {sent:List qT}
def om(rs:List (List Hop))(sent:List qT)(i:Nat):List Ev:=vy rs sent (nth (route rs sent (i:Int)) 0).ya (nth sent (i:Int)).yb (-1) (i:Int)
def Kt(rs:List (List Hop))(sent:List qT):List Ev:=(List.range sent.length).flatMap (om rs sent)
def init(c:Cf)(rs:List (List Hop))(sent:List qT):St:=⟨Kt rs sent,[],[],qv c⟩
theorem d6{i:Nat}{e:Ev}:e∈om rs sent i↔∃ h∈route rs sent (i:Int),h.ya=(nth (route rs sent (i:Int)) 0).ya/\e=⟨(nth sent (i:Int)).yb,-1,(nth sent (i:Int)).yq,(i:Int),h⟩:=bm
theorem VN{e:Ev}:e∈Kt rs sent↔∃ i:Nat,i<sent.length/\∃ h∈route rs sent (i:Int),h.ya=(nth (route rs sent (i:Int)) 0).ya/\e=⟨(nth sent (i:Int)).yb,-1,(nth sent (i:Int)).yq,(i:Int),h⟩:=by
 unfold Kt
 rw[List.mem_flatMap]
 constructor
 ·rintro⟨i,hi,he⟩;exact⟨i,List.mem_range.1 hi,d6.1 he⟩
 ·rintro⟨i,hi,he⟩;exact⟨i,List.mem_range.2 hi,d6.2 he⟩
theorem bn(g:Sg c net rs sent){k:Ex}(h:UK rs sent k):PIR (qv c k):=by
 obtain⟨s,x,hs,hx,rfl⟩:=h
 exact UO g.small ((g.route hs).hv x hx)
theorem VO(g:Sg c net rs sent):IV c net rs sent (init c rs sent) []:=by
 have hm:∀ e∈(init c rs sent).ag,∃ i:Nat,i<sent.length/\∃ h∈route rs sent (i:Int),h.ya=(nth (route rs sent (i:Int)) 0).ya/\e=⟨(nth sent (i:Int)).yb,-1,(nth sent (i:Int)).yq,(i:Int),h⟩:=fun e he=>VN.1 he
 have Es:∀ e∈(init c rs sent).ag,EOK rs sent e/\e.yb<=536870912:=by
  intro e he
  obtain⟨i,hi,h,h1,h2,rfl⟩:=hm e he
  have hf:=g.fr.each (i:Int) (by omega) (by omega)
  exact⟨⟨⟨by simp,by simp;omega⟩,rfl,h1,hf.1⟩,hf.2.1⟩
 refine⟨fun e he=>(Es e he).1,fun e he=>by simpa using (Es e he).2,?_,by simp,?_,?_,?_,fun k=>rfl,by simp[init]⟩
 ·rw[List.nil_append]
  show((Kt rs sent).map qy).Nodup
  unfold Kt
  rw[List.map_flatMap,List.nodup_iff_pairwise_ne,List.pairwise_flatMap]
  constructor
  ·intro i hi
   unfold om vy
   rw[List.map_map]
   refine List.Pairwise.map _ (R:=fun a b=>a≠b) (fun a b zJ EM=>zJ (by simpa [qy] using EM)) ?_
   exact((g.route ⟨by omega,by have:=List.mem_range.1 hi;omega⟩).nodup).filter _
  ·refine(List.nodup_iff_pairwise_ne.1 List.nodup_range).imp_of_mem ?_
   intro i j hi hj hij x hx y hy hxy
   obtain⟨a,ha,rfl⟩:=List.mem_map.1 hx
   obtain⟨b,hb,rfl⟩:=List.mem_map.1 hy
   obtain⟨h,_,_,rfl⟩:=d6.1 ha
   obtain⟨h',_,_,rfl⟩:=d6.1 hb
   have:=congrArg Prod.fst hxy
   simp[qy] at this
   omega
 ·intro x hx
  rw[List.nil_append] at hx
  obtain⟨e,he,rfl⟩:=List.mem_map.1 hx
  obtain⟨i,hi,h,h1,h2,rfl⟩:=hm e he
  exact .inl h2
 ·intro k hk
  have:=bn g hk
  exact⟨this,by simp[init,qv],by simp[init,qv]⟩
 ·intro k hk e he
  exact(Es e he).1.t
theorem Ku(v:Nat)(h:v<sent.length):((List.range (v+1)).flatMap (om rs sent))=(List.range v).flatMap (om rs sent)++om rs sent v:=by
 rw[List.range_succ,List.flatMap_append];simp
theorem VP(g:Sg c net rs sent){k:List Ev->Option (List Cm×List Cm×Int)}:∀(n:Nat) (v:Int) (ag:List Ev),0<=v->v<=sent.length->sent.length<n+v->HP ag ag.length->ag.Perm ((List.range v.toNat).flatMap (om rs sent))->
  ∃ tF,f8 sent rs c k n v ag=k tF/\tF.Perm (Kt rs sent)/\HP tF tF.length
 | 0,v,ag,h0,h1,h2,h3,h4=>by omega
 | n+1,v,ag,h0,h1,h2,h3,h4=>by
  rw[f8]
  by_cases h:v<sent.length
  ·rw[if_pos (decide_eq_true h)]
   have hl40:=g.fr.len
   refine wD (P:=fun o=>∃ tF,o=k tF/\tF.Perm (Kt rs sent)/\HP tF tF.length) fun kk xO=>?_
   have Ah:=g.vl ⟨h0,h⟩
   have Ar:=g.route ⟨h0,h⟩
   have e1:(v+1).toNat=v.toNat+1:=by omega
   have e2:((v.toNat:Nat):Int)=v:=Int.toNat_of_nonneg h0
   rw[xJ ⟨h0,h⟩,xJ Ah]
   have jy:ag.length<=1280:=by
    rw[h4.length_eq]
    have h5:=dA (f:=om rs sent) (m:=32) (List.range v.toNat) (fun i hi=>by
     have BB:=List.mem_range.1 hi
     unfold om vy
     rw[List.length_map]
     exact Nat.le_trans (List.length_filter_le _ _) (g.route ⟨by omega,by omega⟩).len)
    rw[List.length_range] at h5
    have:=g.fr.len
    omega
   by_cases hr:(((nth rs ((nth sent v).yq)).length:Nat):Int)>0
   ·rw[if_pos (decide_eq_true hr),xJ ⟨by omega,hr⟩]
    obtain⟨a1,q1,q2,q3⟩:=Kq (c:=c) (mp:=([]:List (Ex×Pt))) (come:=[]) (lost:=[]) (node:=(nth (nth rs ((nth sent v).yq)) 0).ya) (t:=(nth sent v).yb) (i := -1) ⟨h0,h⟩ Ah (Nat.le_trans Ar.len (by omega)) h3 (by omega)
    rw[q1]
    simp only[oB]
    rw[xO,xQ (x:=v+1) (by omega)]
    refine VP g n (v+1) a1 (by omega) (by omega) (by omega) q3 ?_
    rw[e1,Ku v.toNat (by omega)]
    refine q2.trans (List.perm_append_comm.trans (h4.append_right _).symm.symm |>.trans ?_)
    unfold om route
    rw[e2]
   ·rw[if_neg (by simpa using hr),xO,xQ (x:=v+1) (by omega)]
    refine VP g n (v+1) ag (by omega) (by omega) (by omega) h3 ?_
    rw[e1,Ku v.toNat (by omega)]
    have hz:om rs sent v.toNat=[]:=by
     unfold om vy
     rw[e2,List.eq_nil_of_length_eq_zero (l:=nth rs (nth sent v).yq) (by omega)];rfl
    rw[hz,List.append_nil];exact h4
  ·rw[if_neg (by simpa using h)]
   refine⟨ag,rfl,?_,h3⟩
   have:v.toNat=sent.length:=by omega
   rw[this] at h4;exact h4
theorem EOK.ec(g:Sg c net rs sent){e:Ev}(h:EOK rs sent e):EC c net rs sent e:=⟨(g.route h.s).hv _ h.h,h.s,g.vl h.s⟩
theorem GF(g:Sg c net rs sent){k:List Ev->List Cm->List Cm->List (Ex×Pt)->Option (List Cm×List Cm×Int)}:∀(N:Nat) (D:List Id) (ag:List Ev) (come lost:List Cm) (mp:List (Ex×Pt)),
  IV c net rs sent ⟨ag,come,lost,uz c mp⟩ D->HP ag ag.length->1281<=N+D.length->
  ∃ n F Bl,Runs c rs sent n ⟨ag,come,lost,uz c mp⟩ F/\f9 c rs sent k N ag come lost mp=k [] F.come F.lost Bl
 | 0,D,ag,come,lost,mp,h,hp,hN=>by have:=h.len g;omega
 | N+1,D,ag,come,lost,mp,h,hp,hN=>by
  have jy:=h.len g
  have xD:=h.cl
  rw[f9]
  by_cases h0:ag=[]
  ·subst h0
   rw[if_neg (by simp)]
   exact⟨0,⟨[],come,lost,uz c mp⟩,mp,.done rfl (EQ.refl _),rfl⟩
  ·have zt:(((ag.length:Nat):Int)>0):=by cases ag with | nil=>exact absurd rfl h0 | cons=>simp
   rw[if_pos (decide_eq_true zt)]
   simp only at jy xD
   obtain⟨e,eZ,tF,Bl,p1,p2,p3,p4,p5,p6⟩:=TY (c:=c) (net:=net) (rs:=rs) (sent:=sent) (mp:=mp) (come:=come) (lost:=lost) g.small h0 hp (by omega) (by omega) (by omega) (fun e he=>(h.ev e he).ec g)
    (fun e he=>(h.pi _ ⟨e.yc,e.yd,(h.ev e he).s,(h.ev e he).h,rfl⟩).1) (fun r hr=>Nat.le_trans (g.va.each r hr).len (by omega))
   rw[p3]
   simp only[oB]
   have zy:EQ (mA c rs sent e eZ ⟨ag,come,lost,uz c mp⟩) ⟨tF,(mA c rs sent e eZ ⟨ag,come,lost,uz c mp⟩).come,(mA c rs sent e eZ ⟨ag,come,lost,uz c mp⟩).lost,uz c Bl⟩:=⟨p4.symm,.refl _,.refl _,p6.symm⟩
   have C3:=(VM g h p1 p2).eq zy
   obtain⟨n,F,mp'',r1,r2⟩:=GF g (k:=k) N (qy e::D) tF _ _ Bl C3 p5 (by rw[List.length_cons];omega)
   exact⟨n+1,F,mp'',.step e eZ p1 p2 zy r1,r2⟩
theorem TZ(g:Sg c net rs sent):∃ n F,Runs c rs sent n (init c rs sent) F/\my c net rs sent=(qO F.come).bind fun a=>(qO F.lost).bind fun b=>some (a,b,0):=by
 unfold my
 obtain⟨b,DD,Cr⟩:=JA g.small (net:=net) (rs:=rs) (fun r hr=>by have:=(g.va.each r hr).len;omega) (by have:=g.va.most;omega)
 rw[DD,Cr.2 g.va]
 simp only[oB,Bool.not_true,Bool.false_eq_true,if_false]
 obtain⟨r,BG,CY⟩:=MQ (c:=c) (l:=sent) (by have:=g.fr.len;omega)
 rw[BG,CY.2 ⟨g.fr.each,by have:=g.fr.len;omega⟩]
 simp only[oB,Bool.not_true,Bool.false_eq_true,if_false]
 have hF:=wq
 generalize xR=N at hF ⊢
 have vL:=g.fr.len
 refine wD (P:=fun o=>∃ n F,Runs c rs sent n (init c rs sent) F/\o=(qO F.come).bind fun a=>(qO F.lost).bind fun b=>some (a,b,0)) fun k hk=>?_
 obtain⟨ag,q1,q2,q3⟩:=VP g (k:=k) N 0 [] (by omega) (by omega) (by omega) (fun x hx hn=>by simp at hn;omega) (by simp)
 rw[q1,hk]
 refine Mg (P:=fun o=>∃ n F,Runs c rs sent n (init c rs sent) F/\o=(qO F.come).bind fun a=>(qO F.lost).bind fun b=>some (a,b,0)) fun k4 Hb=>?_
 have zy:EQ (init c rs sent) ⟨ag,[],[],uz c []⟩:=⟨q2.symm,.refl _,.refl _,rfl⟩
 obtain⟨n,F,Bl,r1,r2⟩:=GF g (k:=k4) N [] ag [] [] [] ((VO g).eq zy) q3 (by simp;omega)
 obtain⟨F',r3,r4⟩:=r1.trans_eq zy.symm
 rw[r2,Hb]
 exact⟨n,F,by
  cases r1 with
  | done h0 k0=>exact .done (by have:=zy.ag;rw[h0] at this;exact List.perm_nil.1 this) (zy.trans k0)
  | step e eZ hp tK he hr=>exact .step e eZ (hp.trans zy.ag.symm) (fun x hx=>tK x (zy.ag.mem_iff.1 hx)) ((Kr zy (.refl eZ)).trans he) hr,rfl⟩
end
end Go.Proofs.YtcahmabkeaijdaaGreat
namespace Go.Proofs.YtcahmabkeaijdaaGreat
open Go Go.RowKit Sep
variable {A P:List Cm}
theorem dB{α:Type}[Inhabited α]{P S:List α}{x:α}{i:Int}(h:i=P.length):nth (P++x::S) i=x:=by
 subst h;rw[jY (by simp;omega)];simp
theorem dC{α:Type}{P S:List α}{x y:α}{i:Int}(h:i=P.length):(P++x::S).set i.toNat y=P++y::S:=by
 subst h;rw[show((P.length:Nat):Int).toNat=P.length from rfl,List.set_append_right _ _ (Nat.le_refl _)];simp
theorem cE{s:Int}(h0:0<=s)(h1:s<4611686018427387904):i64 ((u64 (i64 s)) / 2 ^ min (1:Int).toNat 64)=s / 2:=by
 rw[xQ (x:=s) (by omega)]
 have e:u64 s=s:=by
  unfold u64;rw[show IntKind.wrap .u64 s=s % 18446744073709551616 from rfl];omega
 rw[e,show(2:Int) ^ min (1:Int).toNat 64=2 from rfl,xQ (by omega)]
structure Cmp (f:Cm->Cm->Option Int) (lt:Cm->Cm->Prop):Prop where
 eq:∀ x y,∃ v,f x y=some v/\(v<0↔lt x y)
 asym:∀ x y,lt x y->¬lt y x
 tr:∀ x y z,¬lt y x->¬lt z y->¬lt z x
def qe(lt:Cm->Cm->Prop)(l:List Cm):Prop:=l.Pairwise fun x y=>¬lt y x
section
variable {f:Cm->Cm->Option Int} {lt:Cm->Cm->Prop}
theorem WO(x:Cm):(⟨x.yc,x.ya,x.yb⟩:Cm)=x:=rfl
theorem qe.app{B:List Cm}:qe lt (A++B)↔qe lt A/\qe lt B/\∀ x∈A,∀ y∈B,¬lt y x:=List.pairwise_append
theorem qe.le_last(C:Cmp f lt){y:Cm}(h:qe lt (A++[y])):∀ x∈A++[y],¬lt y x:=by
 intro x hx
 rcases List.mem_append.1 hx with hx | hx
 ·exact(qe.app.1 h).2.2 x hx y (by simp)
 ·rw[List.mem_singleton.1 hx];exact fun hc=>C.asym _ _ hc hc
theorem qe.first_le(C:Cmp f lt){y:Cm}(h:qe lt (y::A)):∀ x∈y::A,¬lt x y:=by
 intro x hx
 rcases List.mem_cons.1 hx with hx | hx
 ·rw[hx];exact fun hc=>C.asym _ _ hc hc
 ·exact(List.pairwise_cons.1 h).1 x hx
theorem ins4(C:Cmp f lt){k:List Cm->Option (List Cm)}{P:List Cm}{a:Int}(ha:a=P.length):∀(n:Nat) (A G Z:List Cm) (x:Cm) (j:Int),A.length<n->j=P.length+A.length->(P++(A++x::(G++Z))).length<1152921504606846976->qe lt (A++G)->(∀ g∈G,lt x g)->
  ∃ M,M.Perm (A++x::G)/\qe lt M/\wO a f k n (P++(A++x::(G++Z))) j=k (P++(M++Z))
 | 0,A,G,Z,x,j,h0,hj,hl,hs,hg=>by omega
 | n+1,A,G,Z,x,j,h0,hj,hl,hs,hg=>by
  have te:=hl
  simp only[List.length_append,List.length_cons] at te
  rw[wO]
  rcases List.eq_nil_or_concat A with rfl | ⟨A',y,rfl⟩
  ·have e:¬j>a:=by simp at hj;omega
   rw[if_neg (by simpa using e)]
   simp only[oB,Bool.false_eq_true,if_false]
   refine⟨x::G,by simp,List.pairwise_cons.2 ⟨fun g h=>C.asym _ _ (hg g h),by simpa [qe] using hs⟩,by simp⟩
  ·rw[List.concat_eq_append] at *
   rw[List.length_append] at h0 hj te
   simp only[List.length_singleton] at h0 hj te
   have e:j>a:=by omega
   have e1:P++(A'++[y]++x::(G++Z))=(P++A')++y::(x::(G++Z)):=by simp
   have e2:P++(A'++[y]++x::(G++Z))=(P++A'++[y])++x::(G++Z):=by simp
   have j1:i64 (j-1)=j-1:=xQ (by omega)
   rw[if_pos (decide_eq_true e),j1]
   have q1:(0:Int)<=j/\j<(((P++(A'++[y]++x::(G++Z))).length:Nat):Int):=by simp;omega
   have q2:(0:Int)<=j-1/\j-1<(((P++(A'++[y]++x::(G++Z))).length:Nat):Int):=by simp;omega
   have n1:nth (P++(A'++[y]++x::(G++Z))) j=x:=by rw[e2,dB (by simp;omega)]
   have n2:nth (P++(A'++[y]++x::(G++Z))) (j-1)=y:=by rw[e1,dB (by simp;omega)]
   rw[xJ q1,xJ q2,n1,n2]
   simp only[WO]
   obtain⟨v,v1,v2⟩:=C.eq x y
   rw[v1]
   simp only[oB]
   by_cases hv:v<0
   ·rw[if_pos (decide_eq_true hv),xJ q2,xJ q1,xJ (by rw[List.length_set];exact q2)]
    have s1:(P++(A'++[y]++x::(G++Z))).set j.toNat y=(P++A')++y::(y::(G++Z)):=by
     rw[e2,dC (by simp;omega)];simp
    have s2:((P++A')++y::(y::(G++Z))).set (j-1).toNat x=P++(A'++x::(y::G++Z)):=by
     rw[dC (by simp;omega)];simp
    rw[s1,s2]
    obtain⟨M,m1,m2,m3⟩:=ins4 C (k:=k) ha n A' (y::G) Z x (j-1) (by omega) (by omega) (by simp;omega) (by simpa using hs) (by
     intro g hg'
     rcases List.mem_cons.1 hg' with rfl | hg'
     ·exact v2.1 hv
     ·exact hg g hg')
    refine⟨M,m1.trans ?_,m2,m3⟩
    rw[List.append_assoc]
    exact(List.Perm.swap ..).append_left _
   ·rw[if_neg (by simpa using hv)]
    have hyx:¬lt x y:=fun h=>hv (v2.2 h)
    refine⟨A'++[y]++x::G,.refl _,?_,by simp⟩
    have h1:=qe.app.1 hs
    refine qe.app.2 ⟨h1.1,List.pairwise_cons.2 ⟨fun g h=>C.asym _ _ (hg g h),h1.2.1⟩,?_⟩
    intro u hu w hw
    rcases List.mem_cons.1 hw with rfl | hw
    ·exact C.tr _ _ _ (h1.1.le_last C u hu) hyx
    ·exact h1.2.2 u hu w hw
theorem ins3(C:Cmp f lt){k:List Cm->Option (List Cm)}{P:List Cm}{a b:Int}(ha:a=P.length):∀(n:Nat) (R A Z:List Cm) (i:Int),R.length<n->i=P.length+A.length->b=P.length+A.length+R.length->(P++(A++(R++Z))).length<1152921504606846976->qe lt A->
  ∃ M,M.Perm (A++R)/\qe lt M/\wu b a f k n (P++(A++(R++Z))) i=k (P++(M++Z))
 | 0,R,A,Z,i,h0,hi,hb,hl,hs=>by omega
 | n+1,[],A,Z,i,h0,hi,hb,hl,hs=>by
  rw[wu,if_neg (by simp at hb ⊢;omega)]
  exact⟨A,by simp,hs,by simp⟩
 | n+1,x::R,A,Z,i,h0,hi,hb,hl,hs=>by
  rw[wu]
  rw[List.length_cons] at h0 hb
  have te:=hl
  simp only[List.length_append,List.length_cons] at te
  rw[if_pos (decide_eq_true (by omega))]
  refine wD (P:=fun o=>∃ M,M.Perm (A++x::R)/\qe lt M/\o=k (P++(M++Z))) fun k1 wj=>?_
  refine wD (P:=fun o=>∃ M,M.Perm (A++x::R)/\qe lt M/\o=k (P++(M++Z))) fun k2 sG=>?_
  have hF:=wq
  obtain⟨M,m1,m2,m3⟩:=ins4 C (k:=k2) ha xR A [] (R++Z) x i (by omega) hi (by simp;omega) (by simpa using hs) (by simp)
  have ml:=m1.length_eq
  simp only[List.length_append,List.length_cons,List.length_nil] at ml
  obtain⟨M',p1,p2,p3⟩:=ins3 C (k:=k) ha n R M Z (i+1) (b:=b) (by omega) (by omega) (by omega) (by simp;omega) m2
  refine⟨M',p1.trans ((m1.append_right R).trans (by simp)),p2,?_⟩
  rw[show P++(A++(x::R++Z))=P++(A++x::([]++(R++Z))) by simp,m3,sG,wj,xQ (x:=i+1) (by omega),p3]
theorem MR(C:Cmp f lt){R Z:List Cm}{a b:Int}(ha:a=P.length)(hb:b=P.length+R.length)(hl:(P++(R++Z)).length<1152921504606846976):
  ∃ M,M.Perm R/\qe lt M/\wY (P++(R++Z)) a b f=some (P++(M++Z)):=by
 unfold wY
 refine wD (P:=fun o=>∃ M,M.Perm R/\qe lt M/\o=some (P++(M++Z))) fun k hk=>?_
 have hF:=wq
 have te:=hl
 simp only[List.length_append] at te
 rw[xQ (x:=a+1) (by omega)]
 cases R with
 | nil=>
  generalize xR=N at hF
  cases N with
  | zero=>omega
  | succ N=>
   rw[wu,if_neg (by simp at hb ⊢;omega),hk]
   exact⟨[],.refl _,.nil,rfl⟩
 | cons x R=>
  rw[List.length_cons] at hb te
  obtain⟨M,m1,m2,m3⟩:=ins3 C (k:=k) ha xR R [x] Z (a+1) (b:=b) (by omega) (by simp;omega) (by simp;omega) (by simp;omega) (List.pairwise_singleton ..)
  refine⟨M,m1,m2,?_⟩
  rw[show P++(x::R++Z)=P++([x]++(R++Z)) by simp,m3,hk]
theorem Tf{k:List Cm->Option (List Cm)}{P S Mi:List Cm}{a b n:Int}(ha:a=P.length):∀(m:Nat) (X1 X2 Y1 Y2:List Cm) (i:Int),X2.length<m->X1.length=Y1.length->X2.length=Y2.length->i=X1.length->n=X1.length+X2.length->b=P.length+X1.length+X2.length+Mi.length->(P++(Y1++(X2++(Mi++(X1++(Y2++S)))))).length<1152921504606846976->
  wI n b a k m (P++(Y1++(X2++(Mi++(X1++(Y2++S)))))) i=k (P++(Y1++Y2++(Mi++(X1++X2++S))))
 | 0,_,_,_,_,_,h0,_,_,_,_,_,_=>by omega
 | m+1,X1,[],Y1,[],i,h0,h1,h2,h3,h4,h5,hl=>by
  rw[wI,if_neg (by simp at h4 ⊢;omega)];simp
 | m+1,X1,x::X2,Y1,y::Y2,i,h0,h1,h2,h3,h4,h5,hl=>by
  have te:=hl
  simp only[List.length_append,List.length_cons] at te h0 h2 h4 h5
  rw[wI,if_pos (decide_eq_true (by omega)),xQ (x:=b+i) (by omega),xQ (x:=a+i) (by omega),xQ (x:=i+1) (by omega)]
  have e1:P++(Y1++(x::X2++(Mi++(X1++(y::Y2++S)))))=(P++Y1)++x::(X2++(Mi++(X1++(y::Y2++S)))):=by simp
  have e2:P++(Y1++(x::X2++(Mi++(X1++(y::Y2++S)))))=(P++Y1++x::X2++Mi++X1)++y::(Y2++S):=by simp
  have q1:(0:Int)<=b+i/\b+i<(((P++(Y1++(x::X2++(Mi++(X1++(y::Y2++S)))))).length:Nat):Int):=by simp;omega
  have q2:(0:Int)<=a+i/\a+i<(((P++(Y1++(x::X2++(Mi++(X1++(y::Y2++S)))))).length:Nat):Int):=by simp;omega
  have n1:nth (P++(Y1++(x::X2++(Mi++(X1++(y::Y2++S)))))) (b+i)=y:=by rw[e2,dB (by simp;omega)]
  have n2:nth (P++(Y1++(x::X2++(Mi++(X1++(y::Y2++S)))))) (a+i)=x:=by rw[e1,dB (by simp;omega)]
  rw[xJ q1,xJ q2,xJ (by rw[List.length_set];exact q1),n1,n2]
  simp only[WO]
  have s1:(P++(Y1++(x::X2++(Mi++(X1++(y::Y2++S)))))).set (a+i).toNat y=(P++Y1++y::X2++Mi++X1)++y::(Y2++S):=by
   rw[e1,dC (by simp;omega)];simp
  have s2:((P++Y1++y::X2++Mi++X1)++y::(Y2++S)).set (b+i).toNat x=P++(Y1++[y]++(X2++(Mi++(X1++[x]++(Y2++S))))):=by
   rw[dC (by simp;omega)];simp
  rw[s1,s2,Tf ha m (X1++[x]) X2 (Y1++[y]) Y2 (i+1) (by omega) (by simp;omega) (by omega) (by simp;omega) (by simp;omega) (by simp;omega) (by simp;omega)]
  simp
theorem XR{X Mi Y S:List Cm}{a b n:Int}(ha:a=P.length)(hb:b=P.length+X.length+Mi.length)(hn:n=X.length)(hxy:X.length=Y.length)(hl:(P++(X++(Mi++(Y++S)))).length<1152921504606846976):
  vJ (P++(X++(Mi++(Y++S)))) a b n f=some (P++(Y++(Mi++(X++S)))):=by
 unfold vJ
 refine wD (P:=fun o=>o=some (P++(Y++(Mi++(X++S))))) fun k hk=>?_
 have hF:=wq
 have te:=hl
 simp only[List.length_append] at te
 have:=Tf (k:=k) (P:=P) (S:=S) (Mi:=Mi) (b:=b) (n:=n) ha xR [] X [] Y 0 (by omega) rfl hxy rfl (by simp;omega) (by simp;omega) (by simpa using te)
 simp only[List.nil_append] at this
 rw[this,hk]
theorem UP{m:Int}{K:List Cm->Int->Option (List Cm)}{r:Option (List Cm)}(hK:∀(P U V S:List Cm),U.length=V.length->m=P.length+U.length->(P++(U++(V++S))).length<1152921504606846976->K (P++(U++(V++S))) U.length=some (P++(V++(U++S)))):
  ∀(n:Nat) (P U V S:List Cm) (i j:Int),U.length+V.length<n->0<U.length->0<V.length->i=U.length->j=V.length->m=P.length+U.length->(P++(U++(V++S))).length<1152921504606846976->
  wV m f K n (P++(U++(V++S))) i j=some (P++(V++(U++S)))
 | 0,_,_,_,_,_,_,h0,_,_,_,_,_,_=>by omega
 | n+1,P,U,V,S,i,j,h0,hu,hv,hi,hj,hm,hl=>by
  have te:=hl
  simp only[List.length_append] at te
  rw[wV]
  by_cases h:i≠j
  ·rw[if_pos (decide_eq_true h)]
   by_cases h2:i>j
   ·rw[if_pos (decide_eq_true h2),xQ (x:=m-i) (by omega),xQ (x:=i-j) (by omega)]
    have hU:U=U.take V.length++U.drop V.length:=(List.take_append_drop _ _).symm
    have l1:(U.take V.length).length=V.length:=by rw[List.length_take];omega
    have l2:(U.drop V.length).length=U.length-V.length:=List.length_drop
    generalize U.take V.length=U1 at hU l1
    generalize U.drop V.length=U2 at hU l2
    subst hU
    rw[List.length_append] at hm hi te h0
    rw[show P++(U1++U2++(V++S))=P++(U1++(U2++(V++S))) by simp,XR (by omega) (by omega) (by omega) l1 (by simp;omega)]
    simp only[oB]
    have:=UP (r:=r) hK n (P++V) U2 U1 S (i-j) j (by omega) (by omega) (by omega) (by omega) (by omega) (by simp;omega) (by simp;omega)
    rw[show P++(V++(U2++(U1++S)))=P++V++(U2++(U1++S)) by simp,this]
    simp
   ·rw[if_neg (by simpa using h2),xQ (x:=m-i) (by omega),xQ (x:=m+j) (by omega),xQ (x:=m+j-i) (by omega),xQ (x:=j-i) (by omega)]
    have hV:V=V.take (V.length-U.length)++V.drop (V.length-U.length):=(List.take_append_drop _ _).symm
    have l1:(V.take (V.length-U.length)).length=V.length-U.length:=by rw[List.length_take];omega
    have l2:(V.drop (V.length-U.length)).length=U.length:=by rw[List.length_drop];omega
    generalize V.take (V.length-U.length)=V1 at hV l1
    generalize V.drop (V.length-U.length)=V2 at hV l2
    subst hV
    rw[List.length_append] at hj te h0
    rw[show P++(U++(V1++V2++S))=P++(U++(V1++(V2++S))) by simp,XR (by omega) (by omega) (by omega) l2.symm (by simp;omega)]
    simp only[oB]
    have:=UP (r:=r) hK n P V2 V1 (U++S) i (j-i) (by omega) (by omega) (by omega) (by omega) (by omega) (by omega) (by simp;omega)
    rw[this]
    simp
  ·rw[if_neg (by simpa using h)]
   rw[hi]
   exact hK P U V S (by omega) hm hl
theorem SE{U V S:List Cm}{a m b:Int}(ha:a=P.length)(hm:m=P.length+U.length)(hb:b=P.length+U.length+V.length)(hu:0<U.length)(hv:0<V.length)(hl:(P++(U++(V++S))).length<1152921504606846976):
  jv (P++(U++(V++S))) a m b f=some (P++(V++(U++S))):=by
 unfold jv
 refine uY (P:=fun o=>o=some (P++(V++(U++S)))) fun k hk=>?_
 have hF:=wq
 have te:=hl
 simp only[List.length_append] at te
 rw[xQ (x:=m-a) (by omega),xQ (x:=b-m) (by omega)]
 refine UP (r:=none) ?_ xR P U V S (m-a) (b-m) (by omega) hu hv (by omega) (by omega) hm hl
 intro P U V S h1 h2 h3
 have h3':=h3
 simp only[List.length_append] at h3'
 rw[hk,xQ (by omega)]
 have:=XR (f:=f) (P:=P) (X:=U) (Mi:=[]) (Y:=V) (S:=S) (a:=m-U.length) (b:=m) (n:=U.length) (by omega) (by simp;omega) rfl h1 (by simpa using h3')
 simp only[List.nil_append] at this
 rw[this];rfl
end
end Go.Proofs.YtcahmabkeaijdaaGreat
namespace Go.Proofs.YtcahmabkeaijdaaGreat
open Go Go.RowKit Sep
section
variable {f:Cm->Cm->Option Int} {lt:Cm->Cm->Prop}
theorem UQ{d:List Cm}{i:Int}:(⟨(nth d i).yc,(nth d i).ya,(nth d i).yb⟩:Cm)=nth d i:=rfl
theorem bs6(C:Cmp f lt){k:Int->Option (List Cm)}{d:List Cm}{a m b:Int}(ha:0<=a/\a<d.length)(hm:0<=m)(hb:b<=d.length)(hd:d.length<1152921504606846976):∀(n:Nat) (i j:Int),j-i<n->m<=i->i<=j->j<=b->(i=m\/lt (nth d (i-1)) (nth d a))->(j=b\/¬lt (nth d j) (nth d a))->
  ∃ r,wP d a f k n i j=k r/\m<=r/\r<=b/\(r=m\/lt (nth d (r-1)) (nth d a))/\(r=b\/¬lt (nth d r) (nth d a))
 | 0,i,j,h0,h1,h2,h3,h4,h5=>by omega
 | n+1,i,j,h0,h1,h2,h3,h4,h5=>by
  rw[wP]
  by_cases h:i<j
  ·rw[if_pos (decide_eq_true h),cE (s:=i+j) (by omega) (by omega)]
   have q:(0:Int)<=(i+j) / 2/\(i+j) / 2<d.length:=by omega
   rw[xJ q,xJ ha]
   simp only[UQ]
   obtain⟨v,v1,v2⟩:=C.eq (nth d ((i+j) / 2)) (nth d a)
   rw[v1]
   simp only[oB]
   by_cases hv:v<0
   ·rw[if_pos (decide_eq_true hv),xQ (x:=(i+j) / 2+1) (by omega)]
    exact bs6 C ha hm hb hd n _ j (by omega) (by omega) (by omega) h3 (.inr (by rw[show(i+j) / 2+1-1=(i+j) / 2 by omega];exact v2.1 hv)) h5
   ·rw[if_neg (by simpa using hv)]
    exact bs6 C ha hm hb hd n i _ (by omega) h1 (by omega) (by omega) h4 (.inr fun hc=>hv (v2.2 hc))
  ·rw[if_neg (by simpa using h)]
   have:i=j:=by omega
   subst this
   exact⟨i,rfl,h1,h3,h4,h5⟩
theorem bs8(C:Cmp f lt){k:Int->Option (List Cm)}{d:List Cm}{a m:Int}(ha:0<=a)(hm:0<=m/\m<d.length)(hd:d.length<1152921504606846976):∀(n:Nat) (i j:Int),j-i<n->a<=i->i<=j->j<=m->(i=a\/¬lt (nth d m) (nth d (i-1)))->(j=m\/lt (nth d m) (nth d j))->
  ∃ r,wR m d f k n i j=k r/\a<=r/\r<=m/\(r=a\/¬lt (nth d m) (nth d (r-1)))/\(r=m\/lt (nth d m) (nth d r))
 | 0,i,j,h0,h1,h2,h3,h4,h5=>by omega
 | n+1,i,j,h0,h1,h2,h3,h4,h5=>by
  rw[wR]
  by_cases h:i<j
  ·rw[if_pos (decide_eq_true h),cE (s:=i+j) (by omega) (by omega)]
   have q:(0:Int)<=(i+j) / 2/\(i+j) / 2<d.length:=by omega
   rw[xJ hm,xJ q]
   simp only[UQ]
   obtain⟨v,v1,v2⟩:=C.eq (nth d m) (nth d ((i+j) / 2))
   rw[v1]
   simp only[oB]
   by_cases hv:v<0
   ·rw[if_neg (by simpa using hv)]
    exact bs8 C ha hm hd n i _ (by omega) h1 (by omega) (by omega) h4 (.inr (v2.1 hv))
   ·rw[if_pos (by simpa using hv),xQ (x:=(i+j) / 2+1) (by omega)]
    exact bs8 C ha hm hd n _ j (by omega) (by omega) (by omega) h3 (.inr (by rw[show(i+j) / 2+1-1=(i+j) / 2 by omega];exact fun hc=>hv (v2.2 hc))) h5
  ·rw[if_neg (by simpa using h)]
   have:i=j:=by omega
   subst this
   exact⟨i,rfl,h1,h3,h4,h5⟩
theorem UR(C:Cmp f lt){k:Int->Option (List Cm)}{d:List Cm}{a m b lo hi:Int}(h0:0<=lo)(hb:0<=a/\a<=b/\0<=m/\b<=d.length/\m<=d.length)(hd:d.length<1152921504606846976)(hh:hi<=d.length)(hp:hi<=(a+b) / 2+m)(hq:(a+b) / 2+m-1-lo<d.length):
  ∀(n:Nat) (i j:Int),j-i<n->lo<=i->i<=j->j<=hi->(i=lo\/¬lt (nth d ((a+b) / 2+m-i)) (nth d (i-1)))->(j=hi\/lt (nth d ((a+b) / 2+m-1-j)) (nth d j))->
  ∃ r,wJ a b m d f k n i j=k r/\lo<=r/\r<=hi/\(r=lo\/¬lt (nth d ((a+b) / 2+m-r)) (nth d (r-1)))/\(r=hi\/lt (nth d ((a+b) / 2+m-1-r)) (nth d r))
 | 0,i,j,h0,h1,h2,h3,h4,h5=>by omega
 | n+1,i,j,h0,h1,h2,h3,h4,h5=>by
  rw[wJ]
  by_cases h:i<j
  ·rw[if_pos (decide_eq_true h),cE (s:=i+j) (by omega) (by omega),cE (s:=a+b) (by omega) (by omega),xQ (x:=(a+b) / 2+m) (by omega),xQ (x:=(a+b) / 2+m-1) (by omega),xQ (x:=(a+b) / 2+m-1-(i+j) / 2) (by omega)]
   have q:(0:Int)<=(i+j) / 2/\(i+j) / 2<d.length:=by omega
   have q2:(0:Int)<=(a+b) / 2+m-1-(i+j) / 2/\(a+b) / 2+m-1-(i+j) / 2<d.length:=by omega
   rw[xJ q2,xJ q]
   simp only[UQ]
   obtain⟨v,v1,v2⟩:=C.eq (nth d ((a+b) / 2+m-1-(i+j) / 2)) (nth d ((i+j) / 2))
   rw[v1]
   simp only[oB]
   by_cases hv:v<0
   ·rw[if_neg (by simpa using hv)]
    exact UR C (by omega) hb hd hh hp hq n i _ (by omega) h1 (by omega) (by omega) h4 (.inr (v2.1 hv))
   ·rw[if_pos (by simpa using hv),xQ (x:=(i+j) / 2+1) (by omega)]
    exact UR C (by omega) hb hd hh hp hq n _ j (by omega) (by omega) (by omega) h3 (.inr (by rw[show(i+j) / 2+1-1=(i+j) / 2 by omega,show(a+b) / 2+m-((i+j) / 2+1)=(a+b) / 2+m-1-(i+j) / 2 by omega];exact fun hc=>hv (v2.2 hc))) h5
  ·rw[if_neg (by simpa using h)]
   have:i=j:=by omega
   subst this
   exact⟨i,rfl,h1,h3,h4,h5⟩
theorem mv7{k:List Cm->Option (List Cm)}{P S:List Cm}{x:Cm}{i:Int}:∀(n:Nat) (Q R:List Cm) (j:Int),R.length<n->j=P.length+Q.length->i=P.length+Q.length+1+R.length->(P++(Q++x::(R++S))).length<1152921504606846976->
  wQ i k n (P++(Q++x::(R++S))) j=k (P++(Q++(R++x::S)))
 | 0,Q,R,j,h0,hj,hi,hl=>by omega
 | n+1,Q,[],j,h0,hj,hi,hl=>by
  have te:=hl
  simp only[List.length_append,List.length_cons,List.length_nil] at te hi
  rw[wQ,xQ (x:=i-1) (by omega),if_neg (by simp;omega)];rfl
 | n+1,Q,y::R,j,h0,hj,hi,hl=>by
  have te:=hl
  simp only[List.length_append,List.length_cons] at te hi h0
  rw[wQ,xQ (x:=i-1) (by omega),if_pos (decide_eq_true (by omega)),xQ (x:=j+1) (by omega)]
  have e1:P++(Q++x::(y::R++S))=(P++Q)++x::(y::R++S):=by simp
  have e2:P++(Q++x::(y::R++S))=(P++Q++[x])++y::(R++S):=by simp
  have q1:(0:Int)<=j/\j<(((P++(Q++x::(y::R++S))).length:Nat):Int):=by simp;omega
  have q2:(0:Int)<=j+1/\j+1<(((P++(Q++x::(y::R++S))).length:Nat):Int):=by simp;omega
  have n1:nth (P++(Q++x::(y::R++S))) j=x:=by rw[e1,dB (by simp;omega)]
  have n2:nth (P++(Q++x::(y::R++S))) (j+1)=y:=by rw[e2,dB (by simp;omega)]
  rw[xJ q2,xJ q1,xJ (by rw[List.length_set];exact q2),n1,n2]
  simp only[WO]
  have s1:(P++(Q++x::(y::R++S))).set j.toNat y=(P++Q++[y])++y::(R++S):=by
   rw[e1,dC (by simp;omega)];simp
  have s2:((P++Q++[y])++y::(R++S)).set (j+1).toNat x=P++((Q++[y])++x::(R++S)):=by
   rw[dC (by simp;omega)];simp
  rw[s1,s2,mv7 n (Q++[y]) R (j+1) (by omega) (by simp;omega) (by simp;omega) (by simp;omega)]
  simp
theorem mv9{k:List Cm->Option (List Cm)}{P:List Cm}{y:Cm}{i:Int}(hi:i=P.length):∀(n:Nat) (R S:List Cm) (j:Int),R.length<n->j=P.length+R.length->(P++(R++y::S)).length<1152921504606846976->
  vw i k n (P++(R++y::S)) j=k (P++(y::(R++S)))
 | 0,R,S,j,h0,hj,hl=>by omega
 | n+1,R,S,j,h0,hj,hl=>by
  have te:=hl
  simp only[List.length_append,List.length_cons] at te
  rw[vw]
  rcases List.eq_nil_or_concat R with rfl | ⟨R,x,rfl⟩
  ·rw[if_neg (by simp at hj ⊢;omega)];rfl
  ·rw[List.concat_eq_append] at *
   simp only[List.length_append,List.length_singleton] at h0 hj te
   rw[if_pos (decide_eq_true (by omega)),xQ (x:=j-1) (by omega)]
   have e1:P++(R++[x]++y::S)=(P++R)++x::(y::S):=by simp
   have e2:P++(R++[x]++y::S)=(P++R++[x])++y::S:=by simp
   have q1:(0:Int)<=j/\j<(((P++(R++[x]++y::S)).length:Nat):Int):=by simp;omega
   have q2:(0:Int)<=j-1/\j-1<(((P++(R++[x]++y::S)).length:Nat):Int):=by simp;omega
   have n1:nth (P++(R++[x]++y::S)) j=y:=by rw[e2,dB (by simp;omega)]
   have n2:nth (P++(R++[x]++y::S)) (j-1)=x:=by rw[e1,dB (by simp;omega)]
   rw[xJ q2,xJ q1,xJ (by rw[List.length_set];exact q2),n1,n2]
   simp only[WO]
   have s1:(P++(R++[x]++y::S)).set j.toNat x=(P++R)++x::x::S:=by
    rw[e2,dC (by simp;omega)];simp
   have s2:((P++R)++x::x::S).set (j-1).toNat y=P++(R++y::(x::S)):=by
    rw[dC (by simp;omega)];simp
   first
   | rw[s1,s2,mv9 hi n R (x::S) (j-1) (by omega) (by omega) (by simp;omega)]
   | (
     have s1:(P++(R++[x]++y::S)).set (j-1).toNat y=(P++R)++y::y::S:=by
      rw[e1,dC (by simp;omega)]
     have s2:((P++R)++y::y::S).set j.toNat x=P++(R++y::(x::S)):=by
      rw[show(P++R)++y::y::S=(P++R++[y])++y::S by simp,dC (by simp;omega)];simp
     rw[s1,s2,mv9 hi n R (x::S) (j-1) (by omega) (by omega) (by simp;omega)])
   simp
end
end Go.Proofs.YtcahmabkeaijdaaGreat
namespace Go.Proofs.YtcahmabkeaijdaaGreat
open Go Go.RowKit Sep
section
variable {f:Cm->Cm->Option Int} {lt:Cm->Cm->Prop}
theorem Fz{α:Type}[Inhabited α]{P B S:List α}{i:Int}(h:P.length<=i/\i<P.length+B.length):nth (P++(B++S)) i=nth B (i-P.length):=by
 rw[jY (by simp;omega),jY (by omega)]
 rw[List.getElem_append_right (by omega),List.getElem_append_left (by omega)]
 congr 1;omega
theorem US{B:List Cm}{n:Nat}(hn:n<=B.length)(h0:0<n):∃ L,B.take n=L++[nth B ((n:Int)-1)]:=by
 refine⟨B.take (n-1),?_⟩
 have:=take_succ B (i:=(n:Int)-1) (by omega) (by omega)
 rw[show((n:Int)-1+1).toNat=n by omega,show((n:Int)-1).toNat=n-1 by omega] at this
 exact this
theorem MS{B:List Cm}{n:Nat}(hn:n<B.length):∃ L,B.drop n=nth B (n:Int)::L:=by
 have:=kL (l:=B) (i:=(n:Int)) (by omega) (by omega)
 exact⟨_,this⟩
theorem qe.take_le(C:Cmp f lt){B:List Cm}(h:qe lt B){n:Nat}(hn:n<=B.length){x:Cm}(hx:n=0\/¬lt x (nth B ((n:Int)-1))):∀ y∈B.take n,¬lt x y:=by
 intro y hy
 rcases hx with rfl | hx
 ·simp at hy
 ·by_cases h0:n=0
  ·subst h0;simp at hy
  ·obtain⟨L,hL⟩:=US hn (by omega)
   rw[hL] at hy
   have hs:qe lt (L++[nth B ((n:Int)-1)]):=by rw[<- hL];exact List.Pairwise.sublist (List.take_sublist _ _) h
   exact C.tr _ _ _ (hs.le_last C y hy) hx
theorem qe.le_drop(C:Cmp f lt){B:List Cm}(h:qe lt B){n:Nat}{x:Cm}(hx:B.length<=n\/¬lt (nth B (n:Int)) x):∀ y∈B.drop n,¬lt y x:=by
 intro y hy
 by_cases h0:n<B.length
 ·rcases hx with hx | hx
  ·omega
  ·obtain⟨L,hL⟩:=MS h0
   rw[hL] at hy
   have hs:qe lt (nth B (n:Int)::L):=by rw[<- hL];exact List.Pairwise.sublist (List.drop_sublist _ _) h
   exact C.tr _ _ _ hx (hs.first_le C y hy)
 ·rw[List.drop_eq_nil_of_le (by omega)] at hy;simp at hy
theorem Kv(C:Cmp f lt):∀(n:Nat) (P A B S:List Cm) (a m b:Int),A.length+B.length<=n->0<A.length->0<B.length->qe lt A->qe lt B->a=P.length->m=P.length+A.length->b=P.length+A.length+B.length->(P++(A++(B++S))).length<1152921504606846976->
  ∃ M,M.Perm (A++B)/\qe lt M/\wZ n (P++(A++(B++S))) a m b f=some (P++(M++S))
 | 0,P,A,B,S,a,m,b,h0,hA,hB,sA,sB,ha,hm,hb,hl=>by omega
 | n+1,P,A,B,S,a,m,b,h0,hA,hB,sA,sB,ha,hm,hb,hl=>by
  have te:=hl
  simp only[List.length_append] at te
  rw[wZ]
  have hF:=wq
  have hz:∀ x:Cm,¬lt x x:=fun x hc=>C.asym _ _ hc hc
  generalize hN:xR=N at hF ⊢
  refine fy (P:=fun o=>∃ M,M.Perm (A++B)/\qe lt M/\o=some (P++(M++S))) fun k0 zW=>?_
  rw[xQ (x:=m-a) (by omega)]
  by_cases c1:m-a=1
  ·rw[if_pos (decide_eq_true c1)]
   obtain⟨x,rfl⟩:∃ x,A=[x]:=by
    match A with
    | [x]=>exact⟨x,rfl⟩
    | []=>simp at hA
    | x::y::A=>simp at hm;omega
   simp only[List.length_singleton] at hm hb te
   refine wD (P:=fun o=>∃ M,M.Perm ([x]++B)/\qe lt M/\o=some (P++(M++S))) fun k1 wj=>?_
   have e1:P++([x]++(B++S))=P++x::(B++S):=rfl
   have e2:P++([x]++(B++S))=(P++[x])++(B++S):=by simp
   have n0:nth (P++([x]++(B++S))) a=x:=by rw[e1,dB ha]
   have nB:∀ i:Int,m<=i->i<b->nth (P++([x]++(B++S))) i=nth B (i-m):=by
    intro i h1 h2
    rw[e2,Fz (by simp;omega)]
    simp only[List.length_append,List.length_singleton]
    congr 1;omega
   obtain⟨r,r1,r2,r3,r4,r5⟩:=bs6 C (k:=k1) (d:=P++([x]++(B++S))) (a:=a) (m:=m) (b:=b) (by simp;omega) (by omega) (by simp;omega) hl N m b (by omega) (by omega) (by omega) (by omega) (.inl rfl) (.inl rfl)
   rw[r1,wj,n0] at *
   obtain⟨q,rfl⟩:∃ q:Nat,r=m+q:=⟨(r-m).toNat,by omega⟩
   have t1:∀ y∈B.take q,¬lt x y:=sB.take_le C (by omega) (by
    rcases r4 with h | h
    ·exact .inl (by omega)
    ·by_cases hq:q=0
     ·exact .inl hq
     ·rw[nB _ (by omega) (by omega),show m+(q:Int)-1-m=(q:Int)-1 by omega] at h
      exact .inr (C.asym _ _ h))
   have t2:∀ y∈B.drop q,¬lt y x:=sB.le_drop C (by
    rcases r5 with h | h
    ·exact .inl (by omega)
    ·by_cases hq:B.length<=q
     ·exact .inl hq
     ·rw[nB _ (by omega) (by omega),show m+(q:Int)-m=(q:Int) by omega] at h
      exact .inr h)
   have hBq:B=B.take q++B.drop q:=(List.take_append_drop _ _).symm
   have l1:(B.take q).length=q:=by rw[List.length_take];omega
   generalize B.take q=B1 at *
   generalize B.drop q=B2 at *
   subst hBq
   refine wD (P:=fun o=>∃ M,M.Perm ([x]++(B1++B2))/\qe lt M/\o=some (P++(M++S))) fun k2 sG=>?_
   have Cx:=qe.app.1 sB
   refine⟨B1++x::B2,List.perm_middle,qe.app.2 ⟨Cx.1,List.pairwise_cons.2 ⟨t2,Cx.2.1⟩,?_⟩,?_⟩
   ·intro u hu w hw
    rcases List.mem_cons.1 hw with rfl | hw
    ·exact t1 u hu
    ·exact Cx.2.2 u hu w hw
   ·simp only[List.length_append] at hb te
    have:=mv7 (k:=k2) (P:=P) (S:=B2++S) (x:=x) (i:=m+q) N [] B1 a (by omega) (by simp;omega) (by simp;omega) (by simp;omega)
    rw[show P++([x]++(B1++B2++S))=P++([]++x::(B1++(B2++S))) by simp,this,sG];simp
  ·rw[if_neg (by simpa using c1),zW]
   refine fy (P:=fun o=>∃ M,M.Perm (A++B)/\qe lt M/\o=some (P++(M++S))) fun k0 zW=>?_
   rw[xQ (x:=b-m) (by omega)]
   by_cases c2:b-m=1
   ·rw[if_pos (decide_eq_true c2)]
    obtain⟨y,rfl⟩:∃ y,B=[y]:=by
     match B with
     | [x]=>exact⟨x,rfl⟩
     | []=>simp at hB
     | x::y::A=>simp at hb;omega
    simp only[List.length_singleton] at hb te
    refine wD (P:=fun o=>∃ M,M.Perm (A++[y])/\qe lt M/\o=some (P++(M++S))) fun k1 wj=>?_
    have n0:nth (P++(A++([y]++S))) m=y:=by
     rw[show P++(A++([y]++S))=(P++A)++y::S by simp,dB (by simp;omega)]
    have nA:∀ i:Int,a<=i->i<m->nth (P++(A++([y]++S))) i=nth A (i-a):=by
     intro i h1 h2
     rw[Fz (by omega),ha]
    obtain⟨r,r1,r2,r3,r4,r5⟩:=bs8 C (k:=k1) (d:=P++(A++([y]++S))) (a:=a) (m:=m) (by omega) (by simp;omega) hl N a m (by omega) (by omega) (by omega) (by omega) (.inl rfl) (.inl rfl)
    rw[r1,wj,n0] at *
    obtain⟨q,rfl⟩:∃ q:Nat,r=a+q:=⟨(r-a).toNat,by omega⟩
    have t1:∀ x∈A.take q,¬lt y x:=sA.take_le C (by omega) (by
     rcases r4 with h | h
     ·exact .inl (by omega)
     ·by_cases hq:q=0
      ·exact .inl hq
      ·rw[nA _ (by omega) (by omega),show a+(q:Int)-1-a=(q:Int)-1 by omega] at h
       exact .inr h)
    have t2:∀ x∈A.drop q,¬lt x y:=sA.le_drop C (by
     rcases r5 with h | h
     ·exact .inl (by omega)
     ·by_cases hq:A.length<=q
      ·exact .inl hq
      ·rw[nA _ (by omega) (by omega),show a+(q:Int)-a=(q:Int) by omega] at h
       exact .inr (C.asym _ _ h))
    have hAq:A=A.take q++A.drop q:=(List.take_append_drop _ _).symm
    have l1:(A.take q).length=q:=by rw[List.length_take];omega
    generalize A.take q=A1 at *
    generalize A.drop q=A2 at *
    subst hAq
    refine wD (P:=fun o=>∃ M,M.Perm (A1++A2++[y])/\qe lt M/\o=some (P++(M++S))) fun k2 sG=>?_
    have Cy:=qe.app.1 sA
    refine⟨A1++y::A2,?_,qe.app.2 ⟨Cy.1,List.pairwise_cons.2 ⟨t2,Cy.2.1⟩,?_⟩,?_⟩
    ·rw[List.append_assoc];exact(List.perm_append_comm (l₁:=[y])).append_left _
    ·intro u hu w hw
     rcases List.mem_cons.1 hw with rfl | hw
     ·exact t1 u hu
     ·exact Cy.2.2 u hu w hw
    ·simp only[List.length_append] at hb hm te
     have:=mv9 (k:=k2) (P:=P++A1) (y:=y) (i:=a+q) (by simp;omega) N A2 S m (by omega) (by simp;omega) (by simp;omega)
     rw[show P++(A1++A2++([y]++S))=P++A1++(A2++y::S) by simp,this,sG];simp
   ·rw[if_neg (by simpa using c2),zW]
    refine uY (P:=fun o=>∃ M,M.Perm (A++B)/\qe lt M/\o=some (P++(M++S))) fun k2 sG=>?_
    rw[cE (s:=a+b) (by omega) (by omega)]
    have Hc:∀ lo hi:Int,(m>(a+b) / 2->lo=(a+b) / 2+m-b/\hi=(a+b) / 2)->(¬m>(a+b) / 2->lo=a/\hi=m)->∃ M,M.Perm (A++B)/\qe lt M/\k2 lo hi=some (P++(M++S)):=by
     intro lo hi hg hs
     rw[sG]
     refine wD (P:=fun o=>∃ M,M.Perm (A++B)/\qe lt M/\o=some (P++(M++S))) fun k3 Hd=>?_
     obtain⟨r,r1,r2,r3,r4,r5⟩:=UR C (k:=k3) (d:=P++(A++(B++S))) (a:=a) (m:=m) (b:=b) (lo:=lo) (hi:=hi) (by omega) (by simp;omega) hl (by simp;omega) (by omega) (by simp;omega) N lo hi (by omega) (by omega) (by omega) (by omega) (.inl rfl) (.inl rfl)
     rw[r1,Hd]
     simp only[cE (s:=a+b) (by omega) (by omega),xQ (x:=(a+b) / 2+m) (by omega),xQ (x:=(a+b) / 2+m-r) (by omega)]
     obtain⟨p,rfl⟩:∃ p:Nat,r=a+p:=⟨(r-a).toNat,by omega⟩
     obtain⟨q,hq⟩:∃ q:Nat,(a+b) / 2+m-(a+p)=m+q:=⟨((a+b) / 2-(a+p)).toNat,by omega⟩
     rw[hq] at r4 ⊢
     rw[show(a+b) / 2+m-1-(a+p)=m+q-1 by omega] at r5
     have hp:p<=A.length:=by omega
     have Eb:q<=B.length:=by omega
     have nA:∀ i:Int,a<=i->i<m->nth (P++(A++(B++S))) i=nth A (i-a):=by
      intro i h1 h2
      rw[Fz (by omega),ha]
     have nB:∀ i:Int,m<=i->i<b->nth (P++(A++(B++S))) i=nth B (i-m):=by
      intro i h1 h2
      rw[show P++(A++(B++S))=(P++A)++(B++S) by simp,Fz (by simp;omega)]
      simp only[List.length_append]
      congr 1;omega
     have F1:∀ x∈A.take p,∀ y∈B.drop q,¬lt y x:=by
      intro x hx y hy
      by_cases hq1:q<B.length
      ·by_cases zX:p=0
       ·subst zX;simp at hx
       ·have hr:¬lt (nth B (q:Int)) (nth A ((p:Int)-1)):=by
         rcases r4 with h | h
         ·omega
         ·rw[nB _ (by omega) (by omega),nA _ (by omega) (by omega),show m+(q:Int)-m=q by omega,show a+(p:Int)-1-a=(p:Int)-1 by omega] at h
          exact h
        have:=sA.take_le C hp (x:=nth B (q:Int)) (.inr hr) x hx
        exact sB.le_drop C (n:=q) (x:=x) (.inr this) y hy
      ·rw[List.drop_eq_nil_of_le (by omega)] at hy;simp at hy
     have F2:∀ x∈B.take q,∀ y∈A.drop p,¬lt y x:=by
      intro x hx y hy
      by_cases zX:p<A.length
      ·by_cases hq1:q=0
       ·subst hq1;simp at hx
       ·have hr:¬lt (nth A (p:Int)) (nth B ((q:Int)-1)):=by
         rcases r5 with h | h
         ·omega
         ·rw[nB _ (by omega) (by omega),nA _ (by omega) (by omega),show a+(p:Int)-a=p by omega,show m+(q:Int)-1-m=(q:Int)-1 by omega] at h
          exact C.asym _ _ h
        have:=sB.take_le C Eb (x:=nth A (p:Int)) (.inr hr) x hx
        exact sA.le_drop C (n:=p) (x:=x) (.inr this) y hy
      ·rw[List.drop_eq_nil_of_le (by omega)] at hy;simp at hy
     have hmid:(a+b) / 2=a+p+q:=by omega
     rw[hmid]
     clear nA nB r4 r5 r1
     have hAp:A=A.take p++A.drop p:=(List.take_append_drop _ _).symm
     have hBq:B=B.take q++B.drop q:=(List.take_append_drop _ _).symm
     have l1:(A.take p).length=p:=by rw[List.length_take];omega
     have l2:(B.take q).length=q:=by rw[List.length_take];omega
     generalize A.take p=A1 at *
     generalize A.drop p=A2 at *
     generalize B.take q=B1 at *
     generalize B.drop q=B2 at *
     subst hAp hBq
     simp only[List.length_append] at hm hb te h0 hA hB hp Eb
     have Cy:=qe.app.1 sA
     have Cx:=qe.app.1 sB
     refine wD (P:=fun o=>∃ M,M.Perm (A1++A2++(B1++B2))/\qe lt M/\o=some (P++(M++S))) fun k4 Hb=>?_
     have BO:∃ M,M.Perm (A1++A2++(B1++B2))/\qe lt M/\k4 (P++(A1++(B1++(A2++(B2++S)))))=some (P++(M++S)):=by
      rw[Hb]
      refine wD (P:=fun o=>∃ M,M.Perm (A1++A2++(B1++B2))/\qe lt M/\o=some (P++(M++S))) fun k5 hk5=>?_
      have second:∀ M1,M1.Perm (A1++B1)->qe lt M1->∃ M,M.Perm (A1++A2++(B1++B2))/\qe lt M/\k5 (P++(M1++(A2++(B2++S))))=some (P++(M++S)):=by
       intro M1 p1 s1
       have ml:=p1.length_eq
       rw[List.length_append] at ml
       have fin:∀ M2,M2.Perm (A2++B2)->qe lt M2->(M1++M2).Perm (A1++A2++(B1++B2))/\qe lt (M1++M2):=by
        intro M2 p2 s2
        constructor
        ·refine(p1.append p2).trans ?_
         rw[List.append_assoc,List.append_assoc]
         refine List.Perm.append_left _ ?_
         rw[<- List.append_assoc,<- List.append_assoc]
         exact List.perm_append_comm.append_right _
        ·refine qe.app.2 ⟨s1,s2,fun x hx y hy=>?_⟩
         rcases List.mem_append.1 (p1.mem_iff.1 hx) with hx | hx <;> rcases List.mem_append.1 (p2.mem_iff.1 hy) with hy | hy
         ·exact Cy.2.2 x hx y hy
         ·exact F1 x hx y hy
         ·exact F2 x hx y hy
         ·exact Cx.2.2 x hx y hy
       rw[hk5]
       by_cases c:a+p+q<m+q/\m+q<b
       ·rw[if_pos (by simpa using c)]
        obtain⟨M2,p2,s2,e2⟩:=Kv C n (P++M1) A2 B2 S (a+p+q) (m+q) b (by omega) (by omega) (by omega) Cy.2.1 Cx.2.1 (by simp;omega) (by simp;omega) (by simp;omega) (by simp;omega)
        obtain⟨f1,f2⟩:=fin M2 p2 s2
        rw[show P++(M1++(A2++(B2++S)))=P++M1++(A2++(B2++S)) by simp,e2]
        exact⟨M1++M2,f1,f2,by simp⟩
       ·rw[if_neg (by simpa using c)]
        have hz:qe lt (A2++B2):=by
         refine qe.app.2 ⟨Cy.2.1,Cx.2.1,fun x hx y hy=>?_⟩
         have h1:=List.length_pos_of_mem hx
         have h2:=List.length_pos_of_mem hy
         omega
        obtain⟨f1,f2⟩:=fin (A2++B2) (.refl _) hz
        exact⟨M1++(A2++B2),f1,f2,by simp⟩
      by_cases c:a<a+p/\a+p<a+p+q
      ·rw[if_pos (by simpa using c)]
       obtain⟨M1,p1,s1,e1⟩:=Kv C n P A1 B1 (A2++(B2++S)) a (a+p) (a+p+q) (by omega) (by omega) (by omega) Cy.1 Cx.1 ha (by omega) (by omega) (by simp;omega)
       rw[e1]
       exact second M1 p1 s1
      ·rw[if_neg (by simpa using c)]
       have hz:qe lt (A1++B1):=by
        refine qe.app.2 ⟨Cy.1,Cx.1,fun x hx y hy=>?_⟩
        have h1:=List.length_pos_of_mem hx
        have h2:=List.length_pos_of_mem hy
        omega
       have:=second (A1++B1) (.refl _) hz
       rw[show P++(A1++B1++(A2++(B2++S)))=P++(A1++(B1++(A2++(B2++S)))) by simp] at this
       exact this
     by_cases c:a+p<m/\m<m+q
     ·rw[if_pos (by simpa using c)]
      have:=SE (f:=f) (P:=P++A1) (U:=A2) (V:=B1) (S:=B2++S) (a:=a+p) (m:=m) (b:=m+q) (by simp;omega) (by simp;omega) (by simp;omega) (by omega) (by omega) (by simp;omega)
      rw[show P++(A1++A2++(B1++B2++S))=P++A1++(A2++(B1++(B2++S))) by simp,this]
      rw[show P++A1++(B1++(A2++(B2++S)))=P++(A1++(B1++(A2++(B2++S)))) by simp]
      exact BO
     ·rw[if_neg (by simpa using c)]
      have e:P++(A1++A2++(B1++B2++S))=P++(A1++(B1++(A2++(B2++S)))):=by
       by_cases z1:A2.length=0
       ·rw[List.eq_nil_of_length_eq_zero z1];simp
       ·rw[List.eq_nil_of_length_eq_zero (l:=B1) (by omega)];simp
      rw[e];exact BO
    by_cases c:m>(a+b) / 2
    ·rw[if_pos (decide_eq_true c),xQ (x:=(a+b) / 2+m) (by omega),xQ (x:=(a+b) / 2+m-b) (by omega)]
     exact Hc _ _ (fun _=>⟨rfl,rfl⟩) (fun h=>absurd c h)
    ·rw[if_neg (by simpa using c)]
     exact Hc _ _ (fun h=>absurd h c) (fun _=>⟨rfl,rfl⟩)
end
end Go.Proofs.YtcahmabkeaijdaaGreat
namespace Go.Proofs.YtcahmabkeaijdaaGreat
open Go Go.RowKit Sep
section
variable {f:Cm->Cm->Option Int} {lt:Cm->Cm->Prop}
inductive Blk (lt:Cm->Cm->Prop) (w:Nat):List Cm->Prop
 | last {l}:qe lt l->l.length<=w->Blk lt w l
 | cons {A R}:qe lt A->A.length=w->Blk lt w R->Blk lt w (A++R)
theorem Blk.sorted{w:Nat}{l:List Cm}(h:Blk lt w l)(hw:0<w)(hl:l.length<=w):qe lt l:=by
 cases h with
 | last h _=>exact h
 | cons h h2 h3=>
  rw[List.length_append] at hl
  rename_i A R
  rw[List.eq_nil_of_length_eq_zero (l:=R) (by omega),List.append_nil];exact h
theorem Blk.split{w:Nat}{l:List Cm}(h:Blk lt w l)(hl:w<l.length):∃ A R,l=A++R/\A.length=w/\qe lt A/\Blk lt w R:=by
 cases h with
 | last h h2=>omega
 | cons h h2 h3=>exact⟨_,_,rfl,h2,h,h3⟩
theorem GG(C:Cmp f lt){P A B S:List Cm}{a m b:Int}(hA:0<A.length)(hB:0<B.length)(sA:qe lt A)(sB:qe lt B)(ha:a=P.length)(hm:m=P.length+A.length)(hb:b=P.length+A.length+B.length)(hl:(P++(A++(B++S))).length<1152921504606846976):
  ∃ M,M.Perm (A++B)/\qe lt M/\j6 (P++(A++(B++S))) a m b f=some (P++(M++S)):=by
 have te:=hl
 simp only[List.length_append] at te
 unfold j6
 exact Kv C xR P A B S a m b (by rw[wq];omega) hA hB sA sB ha hm hb hl
theorem st4(C:Cmp f lt){N:Int}{K:List Cm->Int->Option (List Cm)}:∀(n:Nat) (P R:List Cm) (a b:Int),R.length<n->a=P.length->b=P.length+20->N=P.length+R.length->N<1152921504606846976->
  ∃ Q T,(Q++T).Perm R/\T.length<20/\(∀ T',qe lt T'->T'.length=T.length->Blk lt 20 (Q++T'))/\wW N f K n (P++R) a b=K (P++Q++T) ((P.length:Int)+Q.length)
 | 0,P,R,a,b,h0,ha,hb,hN,hl=>by omega
 | n+1,P,R,a,b,h0,ha,hb,hN,hl=>by
  rw[wW]
  by_cases h:b<=N
  ·rw[if_pos (decide_eq_true h)]
   have hR:R=R.take 20++R.drop 20:=(List.take_append_drop _ _).symm
   have l1:(R.take 20).length=20:=by rw[List.length_take];omega
   generalize R.take 20=R1 at *
   generalize R.drop 20=R2 at *
   subst hR
   rw[List.length_append] at h0 hN
   obtain⟨M,m1,m2,m3⟩:=MR C (P:=P) (R:=R1) (Z:=R2) (a:=a) (b:=b) ha (by omega) (by simp;omega)
   have ml:=m1.length_eq
   rw[m3]
   simp only[oB]
   obtain⟨Q,T,q1,q2,q3,q4⟩:=st4 C (N:=N) (K:=K) n (P++M) R2 b (b+20) (by omega) (by simp;omega) (by simp;omega) (by simp;omega) hl
   refine⟨M++Q,T,?_,q2,fun T' h1 h2=>?_,?_⟩
   ·rw[List.append_assoc];exact m1.append q1
   ·rw[List.append_assoc];exact .cons m2 (by omega) (q3 T' h1 h2)
   ·rw[xQ (x:=b+20) (by omega),show P++(M++R2)=P++M++R2 by simp,q4]
    congr 1
    ·simp
    ·simp;omega
  ·rw[if_neg (by simpa using h)]
   exact⟨[],R,by simp,by omega,fun T' h1 h2 => .last h1 (by simp;omega),by simp[ha]⟩
theorem st6(C:Cmp f lt){N w:Int}{W:Nat}(hw:w=W)(hW:0<W)(hwN:w<N){K:List Cm->Int->Option (List Cm)}:∀(n:Nat) (P R:List Cm) (a b:Int),R.length<n->a=P.length->b=P.length+2*w->N=P.length+R.length->N<1152921504606846976->Blk lt W R->
  ∃ Q T,(Q++T).Perm R/\T.length<2*W/\Blk lt W T/\(∀ T',qe lt T'->T'.length=T.length->Blk lt (2*W) (Q++T'))/\vK N w f K n (P++R) a b=K (P++Q++T) ((P.length:Int)+Q.length)
 | 0,P,R,a,b,h0,ha,hb,hN,hl,hB=>by omega
 | n+1,P,R,a,b,h0,ha,hb,hN,hl,hB=>by
  rw[vK]
  by_cases h:b<=N
  ·rw[if_pos (decide_eq_true h)]
   obtain⟨A,R',rfl,lA,sA,C4⟩:=hB.split (by omega)
   rw[List.length_append] at h0 hN
   obtain⟨B,R2,rfl,lB,sB,hB2⟩:∃ B R2,R'=B++R2/\B.length=W/\qe lt B/\Blk lt W R2:=by
    by_cases nU:W<R'.length
    ·exact C4.split nU
    ·exact⟨R',[],by simp,by omega,C4.sorted hW (by omega),.last .nil (by simp)⟩
   rw[List.length_append] at h0 hN
   obtain⟨M,m1,m2,m3⟩:=GG C (P:=P) (A:=A) (B:=B) (S:=R2) (a:=a) (m:=a+w) (b:=b) (by omega) (by omega) sA sB ha (by omega) (by omega) (by simp;omega)
   have ml:=m1.length_eq
   rw[List.length_append] at ml
   rw[xQ (x:=a+w) (by omega),show P++(A++(B++R2))=P++(A++(B++R2)) from rfl,m3]
   simp only[oB]
   obtain⟨Q,T,q1,q2,q3,q4,q5⟩:=st6 C hw hW hwN (K:=K) n (P++M) R2 b (b+2*w) (by omega) (by simp;omega) (by simp;omega) (by simp;omega) hl hB2
   refine⟨M++Q,T,?_,q2,q3,fun T' h1 h2=>?_,?_⟩
   ·rw[List.append_assoc,<- List.append_assoc A];exact m1.append q1
   ·rw[List.append_assoc];exact .cons m2 (by omega) (q4 T' h1 h2)
   ·rw[xQ (x:=2*w) (by omega),xQ (x:=b+2*w) (by omega),show P++(M++R2)=P++M++R2 by simp,q5]
    congr 1
    ·simp
    ·simp;omega
  ·rw[if_neg (by simpa using h)]
   exact⟨[],R,by simp,by omega,hB,fun T' h1 h2 => .last h1 (by simp;omega),by simp[ha]⟩
theorem st5(C:Cmp f lt){N:Int}{K:List Cm->Option (List Cm)}(hN:N<1152921504606846976):∀(n:Nat) (R:List Cm) (w:Int) (W:Nat),(N<n+w/\0<n)->0<W->w=W->w<=2*N+20->N=R.length->Blk lt W R->
  ∃ R',R'.Perm R/\qe lt R'/\wX N f K n R w=K R'
 | 0,R,w,W,h0,hW,hw,Ae,hl,hB=>by omega
 | n+1,R,w,W,h0,hW,hw,Ae,hl,hB=>by
  rw[wX]
  by_cases h:w<N
  ·rw[if_pos (decide_eq_true h)]
   refine wD (P:=fun o=>∃ R',R'.Perm R/\qe lt R'/\o=K R') fun k1 wj=>?_
   refine uY (P:=fun o=>∃ R',R'.Perm R/\qe lt R'/\o=K R') fun k2 sG=>?_
   have hF:=wq
   generalize hFU:xR=FU at hF sG ⊢
   obtain⟨Q,T,q1,q2,q3,q4,q5⟩:=st6 C hw hW h (K:=k2) FU [] R 0 (2*w) (by omega) (by simp) (by simp) (by simp;omega) hN hB
   have ql:=q1.length_eq
   rw[List.length_append] at ql
   simp only[List.nil_append,List.length_nil,Int.ofNat_zero,Int.zero_add] at q5
   rw[xQ (x:=2*w) (by omega),q5,sG]
   refine wD (P:=fun o=>∃ R',R'.Perm R/\qe lt R'/\o=K R') fun k3 Hd=>?_
   have fin:∀ T',T'.Perm T->qe lt T'->∃ R',R'.Perm R/\qe lt R'/\k3 (Q++T')=K R':=by
    intro T' t1 t2
    have tl:=t1.length_eq
    rw[Hd,wj,xQ (x:=w*2) (by omega)]
    obtain⟨R',r1,r2,r3⟩:=st5 C (K:=K) hN n (Q++T') (w*2) (2*W) (by omega) (by omega) (by omega) (by omega) (by simp;omega) (q4 T' t2 tl)
    exact⟨R',r1.trans ((t1.append_left Q).trans q1),r2,r3⟩
   rw[xQ (x:=(Q.length:Int)+w) (by omega)]
   by_cases h3:(Q.length:Int)+w<N
   ·rw[if_pos (decide_eq_true h3)]
    obtain⟨A,B,rfl,lA,sA,C4⟩:=q3.split (by omega)
    rw[List.length_append] at ql q2
    have sB:=C4.sorted hW (by omega)
    obtain⟨M,m1,m2,m3⟩:=GG C (P:=Q) (A:=A) (B:=B) (S:=[]) (a:=Q.length) (m:=Q.length+w) (b:=N) (by omega) (by omega) sA sB rfl (by omega) (by omega) (by simp;omega)
    simp only[List.append_nil] at m3
    rw[m3]
    exact fin M m1 m2
   ·rw[if_neg (by simpa using h3)]
    exact fin T (.refl _) (q3.sorted hW (by omega))
  ·rw[if_neg (by simpa using h)]
   exact⟨R,.refl _,hB.sorted hW (by omega),rfl⟩
theorem MT(C:Cmp f lt){R:List Cm}(hl:R.length<1152921504606846976):
  ∃ R',R'.Perm R/\qe lt R'/\qb R f=some R':=by
 unfold qb kD
 have hF:=wq
 generalize hFU:xR=FU at hF ⊢
 suffices h:∃ R',R'.Perm R/\qe lt R'/\(sK (fun(z19c:List yh) (z19d:Int)=>(wY z19c z19d R.length f).bind fun z19e=>qP (fun(z19f:List yh)=>some z19f) fun z19g=>wX R.length f z19g FU z19e 20) fun z19h=>wW R.length f z19h FU R 0 20)=some R' by
  obtain⟨R',h1,h2,h3⟩:=h
  refine⟨R',h1,h2,?_⟩
  rw[h3];rfl
 refine uY (P:=fun o=>∃ R',R'.Perm R/\qe lt R'/\o=some R') fun k1 wj=>?_
 obtain⟨Q,T,q1,q2,q3,q4⟩:=st4 C (N:=R.length) (K:=k1) FU [] R 0 20 (by omega) (by simp) (by simp) (by simp) (by omega)
 have ql:=q1.length_eq
 rw[List.length_append] at ql
 simp only[List.nil_append,List.length_nil,Int.ofNat_zero,Int.zero_add] at q4
 rw[q4,wj]
 obtain⟨M,m1,m2,m3⟩:=MR C (P:=Q) (R:=T) (Z:=[]) (a:=(Q.length:Int)) (b:=R.length) (by simp) (by omega) (by simp;omega)
 have ml:=m1.length_eq
 simp only[List.append_nil] at m3
 rw[m3]
 simp only[oB]
 refine wD (P:=fun o=>∃ R',R'.Perm R/\qe lt R'/\o=some R') fun k2 sG=>?_
 obtain⟨R',r1,r2,r3⟩:=st5 C (N:=R.length) (K:=k2) (by omega) FU (Q++M) 20 20 (by omega) (by omega) rfl (by omega) (by simp;omega) (q3 M m2 ml)
 exact⟨R',r1.trans ((m1.append_left Q).trans q1),r2,by rw[r3,sG]⟩
end
def Qv(a b:Cm):Prop:=a.yb<b.yb\/a.yb=b.yb/\(a.yc<b.yc\/a.yc=b.yc/\a.ya<b.ya)
instance (a b:Cm):Decidable (Qv a b):=inferInstanceAs (Decidable (_\/_))
theorem S0:Cmp (fun y0 y1=>fx y0 y1) Qv where
 eq x y:=by
  unfold fx
  simp only[nh,oB]
  rw[F9 (by simp)]
  refine⟨_,rfl,?_⟩
  unfold oG oG oG oG Jy Qv
  repeat' split
  repeat' split
  all_goals omega
 asym x y:=by unfold Qv;omega
 tr x y z:=by unfold Qv;omega
theorem WP{l:List Cm}(hl:l.length<1152921504606846976):∃ l',l'.Perm l/\qe Qv l'/\qO l=some l':=by
 obtain⟨R,h1,h2,h3⟩:=MT S0 hl
 refine⟨R,h1,h2,?_⟩
 unfold qO
 rw[h3];rfl
end Go.Proofs.YtcahmabkeaijdaaGreat
namespace Go.Proofs.YtcahmabkeaijdaaGreat
open Go Go.RowKit Sep
section
structure FewPR (c:Cf) (rs:List (List Hop)) (sent:List qT):Prop where
 m:c.fM.length<=8
 s:c.fS.length<=8
 l:c.fK.length<=20
 v:c.yg.length<=20
 r:rs.length<=20
 f:¬(sent.length>40/\sent.length<=4000)
 e:∀ r∈rs,r.length<=40
section
variable {c:Cf} {net:Int} {rs:List (List Hop)} {sent:List qT}
theorem Runs.iv(g:Sg c net rs sent):∀ {n:Nat} {S F:St},Runs c rs sent n S F->∀ {D:List Id},IV c net rs sent S D->∃ D',IV c net rs sent F D'
 | _,_,_,.done _ k,D,h=>⟨D,h.eq k⟩
 | _,_,_,.step e eZ hp hm he hr,D,h=>Runs.iv g hr ((VM g h hp hm).eq he)
structure RunsTo (c:Cf) (rs:List (List Hop)) (sent:List qT) (come lost:List Cm):Prop where
 run:∃ n F,Runs c rs sent n (init c rs sent) F/\come.Perm F.come/\lost.Perm F.lost
 sc:qe Qv come
 sl:qe Qv lost
 len:come.length+lost.length<=1280
theorem SF(g:Sg c net rs sent):∃ come lost,RunsTo c rs sent come lost/\my c net rs sent=some (come,lost,0):=by
 obtain⟨n,F,h1,h2⟩:=TZ g
 obtain⟨D,hD⟩:=h1.iv g (VO g)
 have hc:=hD.cl
 have hl:=hD.len g
 obtain⟨a,a1,a2,a3⟩:=WP (l:=F.come) (by omega)
 obtain⟨b,b1,b2,b3⟩:=WP (l:=F.lost) (by omega)
 refine⟨a,b,⟨⟨n,F,h1,a1,b1⟩,a2,b2,by rw[a1.length_eq,b1.length_eq];omega⟩,?_⟩
 rw[h2,a3,oB,b3,oB]
end
end
section
structure Rc where
 ev:Ev
 out:Option Int
def Rc.id(r:Rc):Id:=qy r.ev
def WQ(c:Cf)(r:Rc):Option Cm:=r.out.bind fun t=>if r.ev.yd.fX<nM c then some ⟨r.ev.yc,r.ev.yd.fX,t⟩ else none
def YJ(r:Rc):Option Cm:=if r.out=none then some ⟨r.ev.yc,r.ev.yd.ya,r.ev.yb⟩ else none
def root(rs:List (List Hop))(sent:List qT)(s:Int):Int:=(nth (route rs sent s) 0).ya
def dD(c:Cf)(sent:List qT)(s:Int)(h:Hop):Int:=(qv c (wc h)).yk.yl+(nth sent s).yo*(qv c (wc h)).yk.yr
section
variable {c:Cf} {net:Int} {rs:List (List Hop)} {sent:List qT}
structure JV (c:Cf) (net:Int) (rs:List (List Hop)) (sent:List qT) (S:St) (H:List Rc):Prop where
 iv:IV c net rs sent S (H.map Rc.id)
 come:S.come.Perm (H.filterMap (WQ c))
 lost:S.lost.Perm (H.filterMap YJ)
 ok:∀ r∈H,EOK rs sent r.ev
 root:∀ s h,(0<=s/\s<(sent.length:Int))->h∈route rs sent s->h.ya=root rs sent s->(s,h)∈H.map Rc.id++S.ag.map qy
 nxt:∀ r∈H,∀ t,r.out=some t->∀ y∈route rs sent r.ev.yc,y.ya=r.ev.yd.fX->(r.ev.yc,y)∈H.map Rc.id++S.ag.map qy
 src:∀ e,(e∈S.ag\/∃ r∈H,r.ev=e)->(e.yd.ya=Go.Proofs.YtcahmabkeaijdaaGreat.root rs sent e.yc/\e.yb=(nth sent e.yc).yb/\e.yA = -1)\/∃ r∈H,r.ev.yc=e.yc/\r.ev.yd.fX=e.yd.ya/\r.out=some e.yb
 out:∀ r∈H,∀ t,r.out=some t->r.ev.yb+dD c sent r.ev.yc r.ev.yd<=t/\t<=(S.pf (wc r.ev.yd)).yy
 ord:H.Pairwise fun a b=>tP b.ev a.ev/\(wc a.ev.yd=wc b.ev.yd->∀ t u,a.out=some t->b.out=some u->u<t)
 late:∀ e∈S.ag,∀ r∈H,tP r.ev e
 frs:∀ k,(S.pf k).yn.length<=(H.filter fun r=>decide (wc r.ev.yd=k)).length
theorem JV.eq{S T:St}{H:List Rc}(h:JV c net rs sent S H)(q:EQ S T):JV c net rs sent T H:=by
 have hm:∀ x,x∈S.ag.map qy↔x∈T.ag.map qy:=fun x=>(q.ag.map qy).mem_iff
 refine⟨h.iv.eq q,q.come.symm.trans h.come,q.lost.symm.trans h.lost,h.ok,?_,?_,?_,?_,h.ord,fun e he=>h.late e (q.ag.mem_iff.2 he),fun k=>by rw[<- q.pf];exact h.frs k⟩
 ·intro s x h1 h2 h3
  have:=h.root s x h1 h2 h3
  rw[List.mem_append] at this ⊢
  rwa [<- hm]
 ·intro r hr t ht y h1 h2
  have:=h.nxt r hr t ht y h1 h2
  rw[List.mem_append] at this ⊢
  rwa [<- hm]
 ·intro e he
  exact h.src e (he.imp q.ag.mem_iff.2 fun a=>a)
 ·rw[<- q.pf];exact h.out
theorem S1(g:Sg c net rs sent):JV c net rs sent (init c rs sent) []:=by
 refine⟨VO g,.refl _,.refl _,by simp,?_,by simp,?_,by simp,.nil,by simp,by simp[init,qv]⟩
 ·intro s h h1 h2 h3
  rw[List.map_nil,List.nil_append]
  refine List.mem_map.2 ⟨⟨(nth sent s).yb,-1,(nth sent s).yq,s,h⟩,VN.2 ⟨s.toNat,by omega,h,?_,?_,?_⟩,rfl⟩
  all_goals rw[Int.toNat_of_nonneg h1.1]
  ·exact h2
  ·exact h3
 ·intro e he
  rcases he with he | ⟨r,hr,_⟩
  ·obtain⟨i,hi,h,h1,h2,rfl⟩:=VN.1 he
   exact .inl ⟨h2,rfl,rfl⟩
  ·simp at hr
theorem KZ{p:Pt}{t size:Int}:(jP p t size).2.2.yn.length<=p.yn.length+1:=by
 unfold jP
 have:=bi (t:=t) (l:=p.yn)
 split
 ·show p.yn.length<=_;omega
 ·split <;> simp <;> omega
theorem S2(g:Sg c net rs sent){S:St}{H:List Rc}(h:JV c net rs sent S H){e:Ev}{eZ:List Ev}(hp:(e::eZ).Perm S.ag)(tK:∀ x∈S.ag,tP e x):
  ∃ o,JV c net rs sent (mA c rs sent e eZ S) (⟨e,o⟩::H)/\o=if (jP (S.pf (wc e.yd)) e.yb (nth sent e.yc).yo).2.1≠0 then none else some (ff (S.pf (wc e.yd)) e.yb (nth sent e.yc).yo):=by
 have zD:e∈S.ag:=hp.mem_iff.1 (by simp)
 have zj:∀ x∈eZ,x∈S.ag:=fun x hx=>hp.mem_iff.1 (List.mem_cons_of_mem _ hx)
 have hid:∀ x∈S.ag.map qy,x=qy e\/x∈eZ.map qy:=by
  intro x hx
  obtain⟨y,hy,rfl⟩:=List.mem_map.1 hx
  rcases List.mem_cons.1 (hp.mem_iff.2 hy) with rfl | hy
  ·exact .inl rfl
  ·exact .inr (List.mem_map.2 ⟨y,hy,rfl⟩)
 have he:=h.iv.ev e zD
 have jy:=h.iv.len g
 have ht:=h.iv.tm e zD
 have DU:=hp.length_eq
 rw[List.length_cons] at DU
 have hk:UK rs sent (wc e.yd):=⟨e.yc,e.yd,he.s,he.h,rfl⟩
 obtain⟨p1,p2,p3⟩:=h.iv.pi _ hk
 have ne:=(g.fr.each e.yc he.s.1 he.s.2).2.2.2.2
 have hc:=Qu p1 (size:=(nth sent e.yc).yo) ⟨ne.1,ne.2.1⟩ (t:=e.yb) ⟨h.iv.now _ hk e zD,by omega⟩
 have C3:=VM g h.iv hp tK
 have Cz:=h.iv.num (wc e.yd)
 have C5:e.yb+dD c sent e.yc e.yd<=ff (S.pf (wc e.yd)) e.yb (nth sent e.yc).yo/\(S.pf (wc e.yd)).yy<ff (S.pf (wc e.yd)) e.yb (nth sent e.yc).yo:=by
  have hm:=Y5 (a:=(nth sent e.yc).yo) (b:=(S.pf (wc e.yd)).yk.yr) ⟨ne.1,ne.2.1⟩ p1.slow
  unfold ff dD
  rw[<- Cz]
  omega
 have C0:∀ o:Option Int,∀ k,(upd S.pf (wc e.yd) (jP (S.pf (wc e.yd)) e.yb (nth sent e.yc).yo).2.2 k).yn.length<=(((⟨e,o⟩:Rc)::H).filter fun r=>decide (wc r.ev.yd=k)).length:=by
  intro o k
  have:=h.frs k
  rw[List.filter_cons]
  unfold upd
  by_cases q:k=wc e.yd
  ·subst q
   rw[if_pos rfl,if_pos (by simp),List.length_cons]
   have:=KZ (p:=S.pf (wc e.yd)) (t:=e.yb) (size:=(nth sent e.yc).yo)
   omega
  ·rw[if_neg q,if_neg (by simp;exact fun hc=>q hc.symm)];exact this
 have Az:∀ o:Option Int,∀ r∈(⟨e,o⟩:Rc)::H,EOK rs sent r.ev:=by
  intro o r hr
  rcases List.mem_cons.1 hr with rfl | hr
  ·exact he
  ·exact h.ok r hr
 have He:∀ o:Option Int,∀ x,(x∈eZ\/∃ r∈(⟨e,o⟩:Rc)::H,r.ev=x)->(x.yd.ya=root rs sent x.yc/\x.yb=(nth sent x.yc).yb/\x.yA = -1)\/∃ r∈(⟨e,o⟩:Rc)::H,r.ev.yc=x.yc/\r.ev.yd.fX=x.yd.ya/\r.out=some x.yb:=by
  intro o x hx
  have:x∈S.ag\/∃ r∈H,r.ev=x:=by
   rcases hx with hx | ⟨r,hr,rfl⟩
   ·exact .inl (zj x hx)
   ·rcases List.mem_cons.1 hr with rfl | hr
    ·exact .inl zD
    ·exact .inr ⟨r,hr,rfl⟩
  rcases h.src x this with a | ⟨r,hr,a⟩
  ·exact .inl a
  ·exact .inr ⟨r,List.mem_cons_of_mem _ hr,a⟩
 have C6:∀ o:Option Int,∀ x∈eZ,∀ r∈(⟨e,o⟩:Rc)::H,tP r.ev x:=by
  intro o x hx r hr
  rcases List.mem_cons.1 hr with rfl | hr
  ·exact tK x (zj x hx)
  ·exact h.late x (zj x hx) r hr
 have C7:∀(o:Option Int) (ag:List Ev),(∀ x∈eZ,x∈ag)->∀ s y,(0<=s/\s<(sent.length:Int))->y∈route rs sent s->y.ya=root rs sent s->(s,y)∈((⟨e,o⟩:Rc)::H).map Rc.id++ag.map qy:=by
  intro o ag hag s y h1 h2 h3
  rcases List.mem_append.1 (h.root s y h1 h2 h3) with a | a
  ·exact List.mem_append_left _ (List.mem_cons_of_mem _ a)
  ·rcases hid _ a with a | a
   ·exact List.mem_append_left _ (by rw[List.map_cons];exact List.mem_cons.2 (.inl a))
   ·obtain⟨z,hz,Bv⟩:=List.mem_map.1 a
    exact List.mem_append_right _ (List.mem_map.2 ⟨z,hag z hz,Bv⟩)
 have Hf:∀(o:Option Int) (ag:List Ev),(∀ x∈eZ,x∈ag)->∀ r∈H,∀ t,r.out=some t->∀ y∈route rs sent r.ev.yc,y.ya=r.ev.yd.fX->(r.ev.yc,y)∈((⟨e,o⟩:Rc)::H).map Rc.id++ag.map qy:=by
  intro o ag hag r hr t ht y h1 h2
  rcases List.mem_append.1 (h.nxt r hr t ht y h1 h2) with a | a
  ·exact List.mem_append_left _ (List.mem_cons_of_mem _ a)
  ·rcases hid _ a with a | a
   ·exact List.mem_append_left _ (by rw[List.map_cons];exact List.mem_cons.2 (.inl a))
   ·obtain⟨z,hz,Bv⟩:=List.mem_map.1 a
    exact List.mem_append_right _ (List.mem_map.2 ⟨z,hag z hz,Bv⟩)
 have Hg:∀ o:Option Int,(∀ t,o=some t->(S.pf (wc e.yd)).yy<t)->((⟨e,o⟩:Rc)::H).Pairwise fun a b=>tP b.ev a.ev/\(wc a.ev.yd=wc b.ev.yd->∀ t u,a.out=some t->b.out=some u->u<t):=by
  intro o ho
  refine List.pairwise_cons.2 ⟨fun b hb=>⟨h.late e zD b hb,fun hx t u h1 h2=>?_⟩,h.ord⟩
  have:=(h.out b hb u h2).2
  rw[<- hx] at this
  exact Int.lt_of_le_of_lt this (ho t h1)
 revert C3
 unfold mA
 by_cases hR:(jP (S.pf (wc e.yd)) e.yb (nth sent e.yc).yo).2.1≠0
 ·rw[if_pos hR]
  intro C3
  have hl:(jP (S.pf (wc e.yd)) e.yb (nth sent e.yc).yo).2.2.yy=(S.pf (wc e.yd)).yy:=by
   rcases hc.2.2.2.1 with a | a
   ·exact a.2
   ·exact absurd a.1 hR
  refine⟨none,⟨C3,h.come,?_,Az _,C7 _ _ (fun _ a=>a),?_,He _,?_,Hg _ (by simp),C6 _,C0 _⟩,by rw[if_pos hR]⟩
  ·rw[List.filterMap_cons]
   simp only[YJ,if_true]
   exact(List.perm_append_comm (l₂:=[_])).trans (h.lost.cons _)
  ·intro r hr t ht
   rcases List.mem_cons.1 hr with rfl | hr
   ·simp at ht
   ·exact Hf _ _ (fun _ a=>a) r hr t ht
  ·intro r hr t ht
   rcases List.mem_cons.1 hr with rfl | hr
   ·simp at ht
   ·have:=h.out r hr t ht
    refine⟨this.1,?_⟩
    simp only[upd]
    split
    ·rename_i q;rw[hl,<- q];exact this.2
    ·exact this.2
 ·rw[if_neg hR]
  intro C3
  have hl:(jP (S.pf (wc e.yd)) e.yb (nth sent e.yc).yo).1=ff (S.pf (wc e.yd)) e.yb (nth sent e.yc).yo/\(jP (S.pf (wc e.yd)) e.yb (nth sent e.yc).yo).2.2.yy=ff (S.pf (wc e.yd)) e.yb (nth sent e.yc).yo:=by
   rcases hc.2.2.2.1 with a | a
   ·exact absurd (by rw[a.1];decide) hR
   ·exact a.2
  rw[hl.1] at C3 ⊢
  refine⟨some (ff (S.pf (wc e.yd)) e.yb (nth sent e.yc).yo),⟨C3,?_,?_,Az _,C7 _ _ (fun _ a=>List.mem_append_right _ a),?_,?_,?_,Hg _ (by intro t ht;cases ht;exact C5.2),?_,C0 _⟩,by rw[if_neg hR]⟩
  ·rw[List.filterMap_cons]
   simp only[WQ,oB]
   by_cases q2:e.yd.fX<nM c
   ·simp only[if_pos q2]
    exact(List.perm_append_comm (l₂:=[_])).trans (h.come.cons _)
   ·simp only[if_neg q2]
    exact h.come
  ·rw[List.filterMap_cons]
   simp only[YJ]
   exact h.lost
  ·intro r hr t ht y h1 h2
   rcases List.mem_cons.1 hr with rfl | hr
   ·refine List.mem_append_right _ (List.mem_map.2 ⟨⟨ff (S.pf (wc e.yd)) e.yb (nth sent e.yc).yo,e.yd.fQ,(nth sent e.yc).yq,e.yc,y⟩,List.mem_append_left _ (bm.2 ⟨y,h1,h2,rfl⟩),rfl⟩)
   ·exact Hf _ _ (fun _ a=>List.mem_append_right _ a) r hr t ht y h1 h2
  ·intro x hx
   have:(x∈vy rs sent e.yd.fX (ff (S.pf (wc e.yd)) e.yb (nth sent e.yc).yo) e.yd.fQ e.yc)\/(x∈eZ\/∃ r∈(⟨e,some (ff (S.pf (wc e.yd)) e.yb (nth sent e.yc).yo)⟩:Rc)::H,r.ev=x):=by
    rcases hx with hx | hx
    ·rcases List.mem_append.1 hx with hx | hx
     ·exact .inl hx
     ·exact .inr (.inl hx)
    ·exact .inr (.inr hx)
   rcases this with hx | hx
   ·obtain⟨y,h1,h2,rfl⟩:=bm.1 hx
    exact .inr ⟨_,List.mem_cons_self ..,rfl,h2.symm,rfl⟩
   ·exact He _ x hx
  ·intro r hr t ht
   rcases List.mem_cons.1 hr with rfl | hr
   ·cases ht
    refine⟨C5.1,?_⟩
    simp only[upd,if_true]
    rw[hl.2];exact Int.le_refl _
   ·have:=h.out r hr t ht
    refine⟨this.1,?_⟩
    simp only[upd]
    split
    ·rename_i q;rw[hl.2];rw[q] at this;omega
    ·exact this.2
  ·intro x hx r hr
   rcases List.mem_append.1 hx with hx | hx
   ·obtain⟨y,h1,h2,rfl⟩:=bm.1 hx
    refine KY ?_
    show r.ev.yb<ff _ _ _
    rcases List.mem_cons.1 hr with rfl | hr
    ·show e.yb<_;omega
    ·have:=nD (h.late e zD r hr);omega
   ·exact C6 _ x hx r hr
end
end
section
variable {r:List Hop}{v:Nat}{H:List Rc}
def bk(r:List Hop)(w:Hop->Int):Nat->Int->Int
 | 0,_=>0
 | n+1,a=>if (nth r (n:Int)).fX=a then w (nth r (n:Int))+bk r w n (nth r (n:Int)).ya else bk r w n a
theorem YK{r:List Hop}{w:Hop->Int}{a:Int}:∀(n m:Nat),n<=m->(∀ j:Nat,n<=j->j<m->(nth r (j:Int)).fX≠a)->bk r w m a=bk r w n a
 | n,0,h,_=>by rw[show n=0 by omega]
 | n,m+1,h,hj=>by
  by_cases e:n=m+1
  ·rw[e]
  ·rw[bk,if_neg (hj m (by omega) (by omega))]
   exact YK n m (by omega) fun j h1 h2=>hj j h1 (by omega)
theorem G0{α:Type}{R:α->α->Prop}{l:List α}(h:l.Pairwise R){a b:α}(ha:a∈l)(hb:b∈l)(zJ:a≠b):R a b\/R b a:=by
 obtain⟨i,hi,rfl⟩:=List.getElem_of_mem ha
 obtain⟨j,hj,rfl⟩:=List.getElem_of_mem hb
 rw[List.pairwise_iff_getElem] at h
 rcases Nat.lt_trichotomy i j with hij | hij | hij
 ·exact .inl (h i j hi hj hij)
 ·subst hij;exact absurd rfl zJ
 ·exact .inr (h j i hj hi hij)
section
variable {c:Cf} {net:Int} {rs:List (List Hop)} {sent:List qT}
theorem VR.next_ne'(h:VR c net r){i j:Nat}(hi:i<r.length)(hj:j<r.length)(hij:i≠j):(nth r (i:Int)).fX≠(nth r (j:Int)).fX:=by
 rw[jY ⟨by omega,by omega⟩,jY ⟨by omega,by omega⟩]
 simp only[Int.toNat_natCast]
 rcases Nat.lt_or_gt_of_ne hij with q | q
 ·exact(h.idx hi hj q).1
 ·exact fun e=>(h.idx hj hi q).1 e.symm
theorem VR.prev(h:VR c net r)(hv:v<r.length):(nth r (v:Int)).ya=(nth r 0).ya\/∃ q:Nat,q<v/\(nth r (q:Int)).fX=(nth r (v:Int)).ya:=by
 rcases(h.cond (v:Int) (by omega) (by omega)).1 with a | ⟨q,q1,q2,q3⟩
 ·exact .inl a
 ·refine .inr ⟨q.toNat,by omega,?_⟩
  rw[Int.toNat_of_nonneg q1];exact q3
theorem VR.bk_start(h:VR c net r){w:Hop->Int}(hv:v<=r.length):bk r w v (nth r 0).ya=0:=by
 rw[YK 0 v (by omega) fun j _ h2=>h.next_ne _ (wn (by omega) (by omega))];rfl
theorem VR.bk_next(h:VR c net r){w:Hop->Int}{m:Nat}(hv:v<r.length)(hm:v+1<=m)(hm2:m<=r.length):bk r w m (nth r (v:Int)).fX=w (nth r (v:Int))+bk r w v (nth r (v:Int)).ya:=by
 rw[YK (v+1) m hm fun j h1 h2=>h.next_ne' (by omega) hv (by omega),bk,if_pos rfl]
theorem Rc.same(g:Sg c net rs sent){S:St}(h:JV c net rs sent S H){a b:Rc}(ha:a∈H)(hb:b∈H)(e:a.id=b.id):a=b:=by
 by_cases zJ:a=b
 ·exact zJ
 ·have Bm:=(List.nodup_append.1 h.iv.nd).1
  rw[List.nodup_iff_pairwise_ne,List.pairwise_map] at Bm
  rcases G0 Bm ha hb zJ with q | q
  ·exact absurd e q
  ·exact absurd e.symm q
theorem UT(g:Sg c net rs sent){s:Int}{h:Hop}(hs:0<=s/\s<sent.length)(hh:h∈route rs sent s):0<=dD c sent s h:=by
 have hp:=bn g (k:=wc h) ⟨s,h,hs,hh,rfl⟩
 have ne:=(g.fr.each s hs.1 hs.2).2.2.2.2
 have hm:=Y5 (a:=(nth sent s).yo) (b:=(qv c (wc h)).yk.yr) ⟨ne.1,ne.2.1⟩ hp.slow
 have:=hp.delay
 unfold dD;omega
theorem nE(g:Sg c net rs sent){S:St}(h:JV c net rs sent S H)(s:Int)(hs:0<=s/\s<sent.length):∀(v:Nat),v<(route rs sent s).length->∀ r∈H,r.ev.yc=s->r.ev.yd=nth (route rs sent s) (v:Int)->
  (nth sent s).yb+bk (route rs sent s) (dD c sent s) v (nth (route rs sent s) (v:Int)).ya<=r.ev.yb/\∀ t,r.out=some t->(nth sent s).yb+bk (route rs sent s) (dD c sent s) (v+1) (nth (route rs sent s) (v:Int)).fX<=t:=by
 intro v
 induction v using Nat.strongRecOn with
 | _ v ih=>
  intro hv r hr e1 e2
  have Ar:=g.route hs
  have DS:(nth sent s).yb+bk (route rs sent s) (dD c sent s) v (nth (route rs sent s) (v:Int)).ya<=r.ev.yb:=by
   rcases h.src r.ev (.inr ⟨r,hr,rfl⟩) with⟨a,b,_⟩ | ⟨r',hr',a,b,d⟩
   ·rw[e1] at a b
    rw[e2] at a
    rw[a]
    unfold root
    rw[Ar.bk_start (by omega),b];omega
   ·rw[e1] at a
    rw[e2] at b
    have hm':r'.ev.yd∈route rs sent s:=by rw[<- a];exact(h.ok r' hr').h
    rcases Ar.prev hv with q | ⟨q,q1,q2⟩
    ·exact absurd (b.trans q) (Ar.next_ne _ hm')
    ·have he:r'.ev.yd=nth (route rs sent s) (q:Int):=Ar.next_inj hm' (wn (by omega) (by omega)) (b.trans q2.symm)
     have:=(ih q q1 (by omega) r' hr' a he).2 _ d
     rw[q2] at this
     rw[YK (q+1) v (by omega) fun j h1 h2=>by rw[<- q2];exact Ar.next_ne' (by omega) (by omega) (by omega)]
     exact this
  refine⟨DS,fun t ht=>?_⟩
  have:=(h.out r hr t ht).1
  rw[e1,e2] at this
  rw[Ar.bk_next hv (Nat.le_refl _) (by omega)]
  omega
theorem UU{come:List Cm}(hp:come.Perm (H.filterMap (WQ c))){x:Cm}(hx:x∈come):∃ r∈H,r.ev.yc=x.yc/\r.ev.yd.fX=x.ya/\r.out=some x.yb/\x.ya<nM c:=by
 obtain⟨r,hr,he⟩:=List.mem_filterMap.1 (hp.mem_iff.1 hx)
 refine⟨r,hr,?_⟩
 unfold WQ at he
 cases ho:r.out with
 | none=>rw[ho] at he;simp at he
 | some t=>
  rw[ho,oB] at he
  split at he
  ·rename_i hn
   cases he
   exact⟨rfl,rfl,rfl,hn⟩
  ·simp at he
end
end
section
def qK(sent:List qT)(r:Rc):Int:=(nth sent r.ev.yc).yo
def uA(k:Ex):List Rc->Int
 | []=>0
 | r::H=>if wc r.ev.yd=k then r.out.getD (uA k H) else uA k H
def ve(sent:List qT)(k:Ex)(t:Int):List Rc->Int
 | []=>0
 | r::H=>(if wc r.ev.yd=k/\r.out.getD t>t then qK sent r else 0)+ve sent k t H
def pC(c:Cf)(sent:List qT):List Rc->Prop
 | []=>True
 | r::H=>pC c sent H/\(∀ t,r.out=some t->t=max (r.ev.yb+(qv c (wc r.ev.yd)).yk.yl) (uA (wc r.ev.yd) H)+qK sent r*(qv c (wc r.ev.yd)).yk.yr)/\
  (r.out=none->ve sent (wc r.ev.yd) r.ev.yb H+qK sent r>(qv c (wc r.ev.yd)).yk.fT)
theorem Kw(a b:List Fr):gY (a++b)=gY a+gY b:=by
 induction a with
 | nil=>simp[gY]
 | cons x a ih=>simp only[List.cons_append,gY,ih];omega
theorem Qw{t u:Int}(h:t<=u)(l:List Fr):gZ u (gZ t l)=gZ u l:=by
 unfold gZ
 rw[List.filter_filter]
 congr 1;funext x
 by_cases hx:x.yF>u
 ·simp[hx];omega
 ·simp[hx]
section
variable {c:Cf} {net:Int} {rs:List (List Hop)} {sent:List qT}
structure KV (c:Cf) (sent:List qT) (S:St) (H:List Rc):Prop where
 sv:pC c sent H
 last:∀ k,(S.pf k).yy=uA k H
 hold:∀ k t,(S.pf k).yH<=t->gY (gZ t (S.pf k).yn)=ve sent k t H
theorem KV.eq{S T:St}{H:List Rc}(h:KV c sent S H)(q:EQ S T):KV c sent T H:=⟨h.sv,by rw[<- q.pf];exact h.last,by rw[<- q.pf];exact h.hold⟩
theorem S3(g:Sg c net rs sent){S:St}{H:List Rc}(h:JV c net rs sent S H)(kv:KV c sent S H){e:Ev}{eZ:List Ev}(hp:(e::eZ).Perm S.ag)(tK:∀ x∈S.ag,tP e x):
  ∃ o,JV c net rs sent (mA c rs sent e eZ S) (⟨e,o⟩::H)/\KV c sent (mA c rs sent e eZ S) (⟨e,o⟩::H):=by
 obtain⟨o,ho,eo⟩:=S2 g h hp tK
 refine⟨o,ho,?_⟩
 have zD:e∈S.ag:=hp.mem_iff.1 (by simp)
 have he:=h.iv.ev e zD
 have jy:=h.iv.len g
 have ht:=h.iv.tm e zD
 have DU:=hp.length_eq
 rw[List.length_cons] at DU
 have hk:UK rs sent (wc e.yd):=⟨e.yc,e.yd,he.s,he.h,rfl⟩
 obtain⟨p1,p2,p3⟩:=h.iv.pi _ hk
 have ne:=(g.fr.each e.yc he.s.1 he.s.2).2.2.2.2
 have hnow:=h.iv.now _ hk e zD
 have Cz:=h.iv.num (wc e.yd)
 have hl:=kv.last (wc e.yd)
 have hh:=kv.hold (wc e.yd)
 have hpf:(mA c rs sent e eZ S).pf=upd S.pf (wc e.yd) (jP (S.pf (wc e.yd)) e.yb (nth sent e.yc).yo).2.2:=by unfold mA;split <;> rfl
 have hc:¬((nth sent e.yc).yo<1\/(nth sent e.yc).yo>72\/e.yb<(S.pf (wc e.yd)).yH\/e.yb>1073741824):=by omega
 have oth:∀ k,k≠wc e.yd->(mA c rs sent e eZ S).pf k=S.pf k:=fun k q=>by rw[hpf];exact if_neg q
 have own:(mA c rs sent e eZ S).pf (wc e.yd)=(jP (S.pf (wc e.yd)) e.yb (nth sent e.yc).yo).2.2:=by rw[hpf];exact if_pos rfl
 have l1:∀ k,k≠wc e.yd->uA k ((⟨e,o⟩:Rc)::H)=uA k H:=fun k q=>if_neg fun x=>q x.symm
 have h1:∀ k t,k≠wc e.yd->ve sent k t ((⟨e,o⟩:Rc)::H)=ve sent k t H:=fun k t q=>by
  rw[ve,if_neg fun x=>q x.1.symm];omega
 revert own eo
 unfold jP
 rw[if_neg hc]
 by_cases hf:gY (gZ e.yb (S.pf (wc e.yd)).yn)+(nth sent e.yc).yo>(S.pf (wc e.yd)).yk.fT
 ·rw[if_pos hf]
  simp only[ne_eq]
  rw[if_pos (by decide)]
  rintro rfl own
  refine⟨⟨kv.sv,fun t q=>by simp at q,fun _=>?_⟩,fun k=>?_,fun k t q=>?_⟩
  ·rw[<- Cz,<- hh _ hnow];exact hf
  ·by_cases e1:k=wc e.yd
   ·subst e1;rw[own];exact hl.trans (if_pos rfl).symm
   ·rw[oth k e1,l1 k e1];exact kv.last k
  ·by_cases e1:k=wc e.yd
   ·subst e1;rw[own] at q ⊢
    simp only at q ⊢
    rw[Qw q,hh t (by omega),ve,if_neg (by simp)];omega
   ·rw[oth k e1] at q ⊢;rw[h1 k t e1];exact kv.hold k t q
 ·rw[if_neg hf]
  simp only[ne_eq]
  rw[if_neg (by decide)]
  rintro rfl own
  refine⟨⟨kv.sv,fun t q=>?_,fun q=>by simp at q⟩,fun k=>?_,fun k t q=>?_⟩
  ·injection q with q;rw[<- q,<- Cz,<- hl];rfl
  ·by_cases e1:k=wc e.yd
   ·subst e1;rw[own];exact(if_pos rfl).symm
   ·rw[oth k e1,l1 k e1];exact kv.last k
  ·by_cases e1:k=wc e.yd
   ·subst e1;rw[own] at q ⊢
    simp only at q ⊢
    have hw:gZ t (gZ e.yb (S.pf (wc e.yd)).yn++[⟨(nth sent e.yc).yo,ff (S.pf (wc e.yd)) e.yb (nth sent e.yc).yo⟩])=gZ t (S.pf (wc e.yd)).yn++gZ t [⟨(nth sent e.yc).yo,ff (S.pf (wc e.yd)) e.yb (nth sent e.yc).yo⟩]:=by
     rw[<- Qw q (S.pf (wc e.yd)).yn];unfold gZ;rw[List.filter_append]
    rw[hw,Kw,hh t (by omega),ve]
    by_cases e2:ff (S.pf (wc e.yd)) e.yb (nth sent e.yc).yo>t
    ·rw[if_pos ⟨rfl,e2⟩];simp only[gZ,List.filter_cons,List.filter_nil,decide_eq_true e2,if_true,gY];unfold qK;simp only;omega
    ·rw[if_neg (fun x=>e2 x.2)];simp only[gZ,List.filter_cons,List.filter_nil,decide_eq_false e2,gY];simp[gY]
   ·rw[oth k e1] at q ⊢;rw[h1 k t e1];exact kv.hold k t q
theorem Runs.kv(g:Sg c net rs sent):∀ {n:Nat} {S F:St},Runs c rs sent n S F->∀ {H:List Rc},JV c net rs sent S H->KV c sent S H->∃ H',JV c net rs sent F H'/\KV c sent F H'
 | _,_,_,.done _ k,H,h,v=>⟨H,h.eq k,v.eq k⟩
 | _,_,_,.step e eZ hp hm he hr,H,h,v=>by
  obtain⟨o,ho,hv⟩:=S3 g h v hp hm
  exact Runs.kv g hr (ho.eq he) (hv.eq he)
theorem S4:KV c sent (init c rs sent) []:=⟨trivial,fun _=>rfl,fun _ _ _=>rfl⟩
theorem RunsTo.served(g:Sg c net rs sent){come lost:List Cm}(h:RunsTo c rs sent come lost):∃ F H,F.ag=[]/\JV c net rs sent F H/\pC c sent H/\come.Perm (H.filterMap (WQ c))/\lost.Perm (H.filterMap YJ):=by
 obtain⟨n,F,h1,h2,h3⟩:=h.run
 obtain⟨H,hH,hK⟩:=h1.kv g (S1 g) S4
 exact⟨F,H,h1.fin,hH,hK.sv,h2.trans hH.come,h3.trans hH.lost⟩
end
end
section
variable {r:Rc}{H:List Rc}
def wv{α:Type}(p:α->Bool)(f:α->Int):List α->Int
 | []=>0
 | x::l=>(if p x then f x else 0)+wv p f l
theorem YL{α:Type}{p q:α->Bool}{f:α->Int}:∀ {l:List α},(∀ x∈l,0<=f x)->(∀ x∈l,p x=true->q x=true)->wv p f l<=wv q f l
 | [],_,_=>Int.le_refl _
 | x::l,h,k=>by
  have ih:=YL (l:=l) (fun y hy=>h y (List.mem_cons_of_mem _ hy)) fun y hy=>k y (List.mem_cons_of_mem _ hy)
  have h1:=h x (by simp);have h2:=k x (by simp)
  simp only[wv]
  by_cases e:p x=true
  ·rw[if_pos e,if_pos (h2 e)];omega
  ·rw[if_neg e];split <;> omega
theorem rF{α:Type}{p:α->Bool}{f:α->Int}:∀ {l:List α},(∀ x∈l,0<=f x)->0<=wv p f l
 | [],_=>Int.le_refl _
 | x::l,h=>by
  have ih:=rF (p:=p) (l:=l) fun y hy=>h y (List.mem_cons_of_mem _ hy)
  have h1:=h x (by simp)
  simp only[wv];split <;> omega
theorem d7{α:Type}{p:α->Bool}{f:α->Int}:∀ {l:List α},(∀ x∈l,p x=false)->wv p f l=0
 | [],_=>rfl
 | x::l,h=>by
  simp only[wv];rw[if_neg (by rw[h x (by simp)];simp),d7 fun y hy=>h y (List.mem_cons_of_mem _ hy)];rfl
theorem ct{α:Type}{p q:α->Bool}{f:α->Int}:∀ {l:List α},(∀ x∈l,p x=q x)->wv p f l=wv q f l
 | [],_=>rfl
 | x::l,h=>by
  simp only[wv];rw[h x (by simp),ct fun y hy=>h y (List.mem_cons_of_mem _ hy)]
def jb(k:Ex)(r:Rc):Bool:=decide (wc r.ev.yd=k)&&r.out.isSome
def gL(k:Ex)(s:Int)(r:Rc):Bool:=jb k r&&decide (s<=r.ev.yb)
def d8(k:Ex)(s u:Int)(r:Rc):Bool:=jb k r&&decide (s<=r.ev.yb)&&decide (r.ev.yb<s+u)
section
variable {c:Cf} {sent:List qT} {k:Ex}
theorem mu:jb k r=true↔wc r.ev.yd=k/\∃ t,r.out=some t:=by
 unfold jb;simp[Option.isSome_iff_exists]
structure PH (c:Cf) (sent:List qT) (k:Ex) (H:List Rc):Prop where
 sv:pC c sent H
 so:H.Pairwise fun a b=>b.ev.yb<=a.ev.yb
 sz:∀ r∈H,1<=qK sent r
 t0:∀ r∈H,0<=r.ev.yb
theorem PH.tail(h:PH c sent k (r::H)):PH c sent k H:=⟨h.sv.1,(List.pairwise_cons.1 h.so).2,fun x hx=>h.sz x (List.mem_cons_of_mem _ hx),fun x hx=>h.t0 x (List.mem_cons_of_mem _ hx)⟩
theorem iG(h:¬jb k r=true):uA k (r::H)=uA k H:=by
 rw[uA]
 split
 ·rename_i e
  cases ho:r.out with
  | none=>rfl
  | some t=>exact absurd (mu.2 ⟨e,t,ho⟩) h
 ·rfl
theorem sQ{t:Int}(h:wc r.ev.yd=k)(ho:r.out=some t):uA k (r::H)=t:=by
 rw[uA,if_pos h,ho];rfl
theorem Qx:∀ {H:List Rc},(∀ r∈H,¬jb k r=true)->uA k H=0
 | [],_=>rfl
 | r::H,h=>by rw[iG (h r (by simp)),Qx fun x hx=>h x (List.mem_cons_of_mem _ hx)]
variable {la sl:Int} (Aq:(qv c k).yk.yl=la) (vL:(qv c k).yk.yr=sl) (l0:0<=la) (s1:1<=sl)
include Aq vL l0 s1
theorem PH.step(h:PH c sent k (r::H)){t:Int}(e:wc r.ev.yd=k)(ho:r.out=some t):t=max (r.ev.yb+la) (uA k H)+sl*qK sent r/\sl<=sl*qK sent r:=by
 subst e
 have:=h.sv.2.1 t ho
 rw[Aq,vL] at this
 rw[Int.mul_comm (qK sent r)] at this
 have h2:=h.sz r (by simp)
 have:=Int.mul_le_mul_of_nonneg_left h2 (show 0<=sl by omega)
 exact⟨by assumption,by omega⟩
theorem WR:∀ {H:List Rc},PH c sent k H->∀ r∈H,∀ t,wc r.ev.yd=k->r.out=some t->t<=uA k H/\r.ev.yb+la<t
 | [],_,r,hr,_,_,_=>by simp at hr
 | x::H,h,r,hr,t,e,ho=>by
  rcases List.mem_cons.1 hr with rfl | hr
  ·have:=h.step Aq vL l0 s1 e ho
   rw[sQ e ho];omega
  ·have ih:=WR h.tail r hr t e ho
   refine⟨?_,ih.2⟩
   by_cases hx:jb k x=true
   ·obtain⟨e2,u,hu⟩:=mu.1 hx
    have:=h.step Aq vL l0 s1 e2 hu
    rw[sQ e2 hu];omega
   ·rw[iG hx];exact ih.1
theorem busy:∀ {H:List Rc},PH c sent k H->(∃ r∈H,jb k r=true)->∃ s,(∃ r∈H,jb k r=true/\r.ev.yb=s)/\uA k H=s+la+sl*wv (gL k s) (qK sent) H/\
  ∀ r∈H,jb k r=true->∀ u,1<=u->s+u<=r.ev.yb->u<sl*wv (d8 k s u) (qK sent) H
 | [],_,⟨r,hr,_⟩=>by simp at hr
 | r::H,h,hex=>by
  have hs:=List.pairwise_cons.1 h.so
  have hz:=h.sz
  by_cases hr:jb k r=true
  ·obtain⟨e,t,ho⟩:=mu.1 hr
   obtain⟨ht,hm⟩:=h.step Aq vL l0 s1 e ho
   have ht0:=h.t0 r (by simp)
   by_cases hl:uA k H<=r.ev.yb+la
   ·refine⟨r.ev.yb,⟨r,by simp,hr,rfl⟩,?_,fun x hx As u hu hxu=>?_⟩
    ·rw[sQ e ho,wv,if_pos (by unfold gL;rw[hr];simp),d7,ht]
     ·rw[Int.add_zero];omega
     ·intro x hx
      by_cases ha:jb k x=true
      ·obtain⟨e2,u,hu⟩:=mu.1 ha
       have:=WR Aq vL l0 s1 h.tail x hx u e2 hu
       unfold gL;simp;intro _;omega
      ·unfold gL;simp[ha]
    ·rcases List.mem_cons.1 hx with rfl | hx
     ·omega
     ·have:=hs.1 x hx;omega
   ·have hex2:∃ r∈H,jb k r=true:=by
     refine Classical.byContradiction fun hc=>?_
     have:=Qx (k:=k) (H:=H) fun x hx ha=>hc ⟨x,hx,ha⟩
     omega
    obtain⟨s,⟨x,hx,As,BP⟩,h1,h2⟩:=busy h.tail hex2
    have hxr:=hs.1 x hx
    have CC:wv (gL k s) (qK sent) (r::H)=qK sent r+wv (gL k s) (qK sent) H:=by
     rw[wv,if_pos (by unfold gL;rw[hr];simp;omega)]
    have qm:∀ u,sl*wv (d8 k s u) (qK sent) H<=sl*wv (d8 k s u) (qK sent) (r::H):=fun u=>by
     refine Int.mul_le_mul_of_nonneg_left ?_ (by omega)
     have:=hz r (by simp)
     rw[wv];split <;> omega
    refine⟨s,⟨x,List.mem_cons_of_mem _ hx,As,BP⟩,?_,fun y hy hya u hu hyu=>?_⟩
    ·rw[sQ e ho,CC,Int.mul_add,ht];omega
    ·have hyr:y.ev.yb<=r.ev.yb:=by
      rcases List.mem_cons.1 hy with rfl | hy
      ·omega
      ·exact hs.1 y hy
     by_cases hq:∃ z∈H,jb k z=true/\s+u<=z.ev.yb
     ·obtain⟨z,AZ,Bv,C8⟩:=hq
      exact Int.lt_of_lt_of_le (h2 z AZ Bv u hu C8) (qm u)
     ·have he:wv (d8 k s u) (qK sent) H=wv (gL k s) (qK sent) H:=ct fun z AZ=>by
       unfold d8 gL
       by_cases ha:jb k z=true
       ·have:z.ev.yb<s+u:=by
         refine Classical.byContradiction fun hc=>hq ⟨z,AZ,ha,by omega⟩
        simp[this]
       ·simp[ha]
      have:=qm u
      rw[he] at this
      omega
  ·obtain⟨s,⟨x,hx,As,BP⟩,h1,h2⟩:=busy h.tail (by
    obtain⟨x,hx,ha⟩:=hex
    rcases List.mem_cons.1 hx with rfl | hx
    ·exact absurd ha hr
    ·exact⟨x,hx,ha⟩)
   refine⟨s,⟨x,List.mem_cons_of_mem _ hx,As,BP⟩,?_,fun y hy hya u hu hyu=>?_⟩
   ·rw[iG hr,wv,if_neg (by unfold gL;simp[hr]),Int.zero_add];exact h1
   ·rcases List.mem_cons.1 hy with rfl | hy
    ·exact absurd hya hr
    ·rw[wv,if_neg (by unfold d8;simp[hr]),Int.zero_add];exact h2 y hy hya u hu hyu
theorem d9:∀ {H:List Rc} {τ:Int},PH c sent k H->uA k H<=τ->ve sent k τ H=0
 | [],_,_,_=>rfl
 | r::H,τ,h,hl=>by
  rw[ve,if_neg]
  ·by_cases hr:jb k r=true
   ·obtain⟨e,t,ho⟩:=mu.1 hr
    have:=h.step Aq vL l0 s1 e ho
    rw[sQ e ho] at hl
    rw[d9 h.tail (by omega)];rfl
   ·rw[iG hr] at hl
    rw[d9 h.tail hl];rfl
  ·rintro⟨e,hc⟩
   cases ho:r.out with
   | none=>rw[ho] at hc;simp at hc
   | some t=>
    rw[ho] at hc
    have:=(WR Aq vL l0 s1 h r (by simp) t e ho).1
    simp only[Option.getD_some] at hc;omega
theorem Y7{most τ:Int}(t0:0<=τ):∀ {H:List Rc},PH c sent k H->(∀ r∈H,jb k r=true->qK sent r<=most)->uA k H<=τ\/∃ s X,(∃ r∈H,jb k r=true/\r.ev.yb=s)/\ve sent k τ H<=wv (gL k s) (qK sent) H-X+most/\0<=X/\τ<s+la+sl*X/\
  ∀ u,1<=u->s+u+la<=τ->u<sl*wv (d8 k s u) (qK sent) H
 | [],_,_ => .inl t0
 | r::H,h,hm=>by
  have hs:=List.pairwise_cons.1 h.so
  have hz:=h.sz
  have hmt:∀ x∈H,jb k x=true->qK sent x<=most:=fun x hx=>hm x (List.mem_cons_of_mem _ hx)
  by_cases hr:jb k r=true
  ·obtain⟨e,t,ho⟩:=mu.1 hr
   by_cases htt:t<=τ
   ·exact .inl (by rw[sQ e ho];exact htt)
   ·have C9:ve sent k τ (r::H)=qK sent r+ve sent k τ H:=by
     rw[ve,if_pos ⟨e,by rw[ho];simp only[Option.getD_some];omega⟩]
    by_cases hl:uA k H<=τ
    ·obtain⟨s,⟨x,hx,As,BP⟩,h1,h2⟩:=busy Aq vL l0 s1 h ⟨r,by simp,hr⟩
     have h0:=d9 Aq vL l0 s1 h.tail hl
     have D2:=hm r (by simp) hr
     rw[sQ e ho] at h1
     refine .inr ⟨s,wv (gL k s) (qK sent) (r::H),⟨x,hx,As,BP⟩,by omega,rF fun y hy=>by have:=hz y hy;omega,by omega,fun u hu hut=>?_⟩
     by_cases hq:∃ z∈r::H,jb k z=true/\s+u<=z.ev.yb
     ·obtain⟨z,AZ,Bv,C8⟩:=hq
      exact h2 z AZ Bv u hu C8
     ·have he:wv (d8 k s u) (qK sent) (r::H)=wv (gL k s) (qK sent) (r::H):=ct fun z AZ=>by
       unfold d8 gL
       by_cases ha:jb k z=true
       ·have:z.ev.yb<s+u:=by
         refine Classical.byContradiction fun hc=>hq ⟨z,AZ,ha,by omega⟩
        simp[this]
       ·simp[ha]
      rw[he];omega
    ·rcases Y7 t0 h.tail hmt with CK | ⟨s,X,⟨x,hx,As,BP⟩,h1,h2,h3,h4⟩
     ·exact absurd CK hl
     ·have hxr:=hs.1 x hx
      have CC:wv (gL k s) (qK sent) (r::H)=qK sent r+wv (gL k s) (qK sent) H:=by
       rw[wv,if_pos (by unfold gL;rw[hr];simp;omega)]
      refine .inr ⟨s,X,⟨x,List.mem_cons_of_mem _ hx,As,BP⟩,by omega,h2,h3,fun u hu hut=>?_⟩
      refine Int.lt_of_lt_of_le (h4 u hu hut) (Int.mul_le_mul_of_nonneg_left ?_ (by omega))
      have:=hz r (by simp)
      rw[wv];split <;> omega
  ·have C9:ve sent k τ (r::H)=ve sent k τ H:=by
    rw[ve,if_neg,Int.zero_add]
    rintro⟨e,hc⟩
    cases ho:r.out with
    | none=>rw[ho] at hc;simp at hc
    | some t=>exact hr (mu.2 ⟨e,t,ho⟩)
   rcases Y7 t0 h.tail hmt with CK | ⟨s,X,⟨x,hx,As,BP⟩,h1,h2,h3,h4⟩
   ·exact .inl (by rw[iG hr];exact CK)
   ·refine .inr ⟨s,X,⟨x,List.mem_cons_of_mem _ hx,As,BP⟩,?_,h2,h3,fun u hu hut=>?_⟩
    ·rw[C9,wv,if_neg (by unfold gL;simp[hr]),Int.zero_add];exact h1
    ·rw[wv,if_neg (by unfold d8;simp[hr]),Int.zero_add];exact h4 u hu hut
end
end
section
variable {H:List Rc}{S:St}
def lw(k:Ex)(s T:Int)(G:Rc->Bool)(r:Rc):Bool:=jb k r&&decide (s<=r.out.getD 0)&&decide (r.out.getD 0<=T)&&G r
section
variable {c:Cf} {sent:List qT} {k:Ex}
variable {la sl:Int} (Aq:(qv c k).yk.yl=la) (vL:(qv c k).yk.yr=sl) (l0:0<=la) (s1:1<=sl)
include Aq vL l0 s1
theorem XS{s wide:Int}{G:Rc->Bool}(w0:0<=wide):∀ {H:List Rc} (T:Int),PH c sent k H->(∀ r∈H,G r=true->qK sent r<=wide)->sl*wv (lw k s T G) (qK sent) H<=sl*wide+max 0 (T-s)
 | [],T,_,_=>by
  have:=Int.mul_le_mul_of_nonneg_left w0 (show 0<=sl by omega)
  simp only[wv];omega
 | r::H,T,h,hw=>by
  have hwt:∀ r∈H,G r=true->qK sent r<=wide:=fun x hx=>hw x (List.mem_cons_of_mem _ hx)
  by_cases hr:lw k s T G r=true
  ·have CY:=hr
   unfold lw at hr
   simp only[Bool.and_eq_true,decide_eq_true_eq] at hr
   obtain⟨⟨⟨ha,h1⟩,h2⟩,hg⟩:=hr
   obtain⟨e,t,ho⟩:=mu.1 ha
   rw[ho,Option.getD_some] at h1 h2
   obtain⟨ht,hm⟩:=h.step Aq vL l0 s1 e ho
   have qm:wv (lw k s T G) (qK sent) H=wv (lw k s (t-sl*qK sent r) G) (qK sent) H:=ct fun x hx=>by
    unfold lw
    by_cases As:jb k x=true
    ·obtain⟨e2,u,hu⟩:=mu.1 As
     have:=(WR Aq vL l0 s1 h.tail x hx u e2 hu).1
     rw[hu,Option.getD_some,show decide (u<=T)=true by simp;omega,show decide (u<=t-sl*qK sent r)=true by simp;omega]
    ·simp[As]
   rw[wv,if_pos CY,qm,Int.mul_add]
   by_cases hts:t-sl*qK sent r<s
   ·rw[d7]
    ·have:=Int.mul_le_mul_of_nonneg_left (hw r (by simp) hg) (show 0<=sl by omega)
     omega
    ·intro x hx
     unfold lw
     by_cases hq:s<=x.out.getD 0
     ·rw[show decide (x.out.getD 0<=t-sl*qK sent r)=false by simp;omega];simp
     ·rw[show decide (s<=x.out.getD 0)=false by simp;omega];simp
   ·have ih:=XS (s:=s) w0 (t-sl*qK sent r) h.tail hwt
    omega
  ·have ih:=XS (s:=s) w0 T h.tail hwt
   rw[wv,if_neg hr,Int.zero_add];exact ih
end
theorem Kx{w:Int->Int}:∀ {K L:List Int},K.Nodup->(∀ x∈K,x∈L)->(∀ x∈L,0<=w x)->wv (fun _=>true) w K<=wv (fun _=>true) w L
 | [],L,_,_,h=>rF h
 | x::K,L,hn,hs,h=>by
  have hn:=List.nodup_cons.1 hn
  have hx:=hs x (by simp)
  have key:∀ {L:List Int},x∈L->wv (fun _=>true) w L=w x+wv (fun _=>true) w (L.erase x):=by
   intro L hx
   induction L with
   | nil=>simp at hx
   | cons y L ih=>
    by_cases e:y=x
    ·subst e;rw[List.erase_cons_head];simp only[wv,if_true]
    ·rw[List.erase_cons_tail (by simpa using e)]
     simp only[wv,if_true]
     rw[ih ((List.mem_cons.1 hx).resolve_left fun q=>e q.symm)];omega
  rw[key hx]
  simp only[wv,if_true]
  have:=Kx (K:=K) (L:=L.erase x) hn.2 (fun y hy=>(List.mem_erase_of_ne fun e=>hn.1 (by rw[<- e];exact hy)).2 (hs y (List.mem_cons_of_mem _ hy))) fun y hy=>h y (List.mem_of_mem_erase hy)
  omega
def pD(p:Rc->Bool)(H:List Rc):List Int:=(H.filter p).map fun r=>r.ev.yc
theorem da{sent:List qT}{p:Rc->Bool}:∀ {H:List Rc},wv p (qK sent) H=wv (fun _=>true) (fun i=>(nth sent i).yo) (pD p H)
 | []=>rfl
 | r::H=>by
  unfold pD
  rw[wv,List.filter_cons,da]
  by_cases h:p r=true
  ·rw[if_pos h,if_pos h];simp only[List.map_cons,wv,if_true];rfl
  ·rw[if_neg h,if_neg h,Int.zero_add];rfl
theorem nF{p:Rc->Bool}{i:Int}:i∈pD p H↔∃ r∈H,p r=true/\r.ev.yc=i:=by
 unfold pD;simp only[List.mem_map,List.mem_filter]
 exact⟨fun⟨r,⟨a,b⟩,e⟩=>⟨r,a,b,e⟩,fun⟨r,a,b,e⟩=>⟨r,⟨a,b⟩,e⟩⟩
theorem MU{B w lo:Int}(hB:1<=B){l:List Int}(h:l.Pairwise fun a b=>a+B<=b\/b+B<=a)(hl:∀ x∈l,lo<=x/\x<=lo+w)(hw:0<=w):(l.length:Int)<=w / B+1:=by
 have Ae:0<=w / B:=Int.ediv_nonneg hw (by omega)
 have hn:(l.map fun x=>(x-lo) / B).Nodup:=by
  rw[List.nodup_iff_pairwise_ne,List.pairwise_map]
  refine h.imp fun {a b} zJ e=>?_
  have h1:=Int.emod_add_mul_ediv (a-lo) B;have h2:=Int.emod_add_mul_ediv (b-lo) B
  have h3:=Int.emod_nonneg (a-lo) (show B≠0 by omega);have h4:=Int.emod_lt_of_pos (a-lo) (show 0<B by omega)
  have h5:=Int.emod_nonneg (b-lo) (show B≠0 by omega);have h6:=Int.emod_lt_of_pos (b-lo) (show 0<B by omega)
  rw[e] at h1
  omega
 have:=Y6 _ ((List.range (w / B+1).toNat).map fun(i:Nat)=>(i:Int)) hn fun y hy=>by
  obtain⟨x,hx,rfl⟩:=List.mem_map.1 hy
  obtain⟨a,b⟩:=hl x hx
  have e0:0<=(x-lo) / B:=Int.ediv_nonneg (by omega) (by omega)
  have e1:(x-lo) / B<=w / B:=Int.ediv_le_ediv (by omega) (by omega)
  exact List.mem_map.2 ⟨((x-lo) / B).toNat,List.mem_range.2 (by omega),by omega⟩
 rw[List.length_map,List.length_map,List.length_range] at this
 omega
theorem WT{w:Int->Int}{M:Int}:∀ {K:List Int},(∀ x∈K,w x<=M)->wv (fun _=>true) w K<=M*K.length
 | [],_=>by simp[wv]
 | x::K,h=>by
  have ih:=WT (K:=K) fun y hy=>h y (List.mem_cons_of_mem _ hy)
  have:=h x (by simp)
  simp only[wv,if_true,List.length_cons]
  have e:M*((K.length+1:Nat):Int)=M*K.length+M:=by push_cast;rw[Int.mul_add];omega
  omega
theorem Y8{α β:Type}[DecidableEq β]{f:α->Int}{p:α->Bool}{key:α->β}:∀ {H:List α} {X:List β},X.Nodup->(∀ r∈H,p r=true->key r∈X)->wv p f H=wv (fun _=>true) (fun x=>wv (fun r=>p r&&decide (key r=x)) f H) X
 | [],X,_,_=>by
  have:∀ X:List β,wv (fun _=>true) (fun x=>wv (fun r=>p r&&decide (key r=x)) f ([]:List α)) X=0:=by
   intro X;induction X with
   | nil=>rfl
   | cons x X ih=>simp only[wv,if_true] at ih ⊢;rw[ih];rfl
  rw[this];rfl
 | r::H,X,hn,hk=>by
  have ih:=Y8 (H:=H) (f:=f) hn fun x hx=>hk x (List.mem_cons_of_mem _ hx)
  have one:∀ X:List β,X.Nodup->wv (fun _=>true) (fun x=>wv (fun r=>p r&&decide (key r=x)) f (r::H)) X=(if p r=true/\key r∈X then f r else 0)+wv (fun _=>true) (fun x=>wv (fun r=>p r&&decide (key r=x)) f H) X:=by
   intro X hn
   induction X with
   | nil=>simp[wv]
   | cons x X ihx=>
    have hn:=List.nodup_cons.1 hn
    have:=ihx hn.2
    simp only[wv,if_true] at this ⊢
    rw[this]
    by_cases hp:p r=true
    ·by_cases e:key r=x
     ·rw[if_pos (by simp[hp,e]),if_neg (by rintro⟨_,h⟩;exact hn.1 (e▸h)),if_pos ⟨hp,by rw[e];simp⟩];omega
     ·rw[if_neg (by simp[hp,e])]
      by_cases h2:key r∈X
      ·rw[if_pos ⟨hp,h2⟩,if_pos ⟨hp,List.mem_cons_of_mem _ h2⟩];omega
      ·rw[if_neg (fun h=>h2 h.2),if_neg]
       ·omega
       ·rintro⟨_,h⟩;rcases List.mem_cons.1 h with h | h
        ·exact e h
        ·exact h2 h
    ·rw[if_neg (by simp[hp]),if_neg (fun h=>hp h.1),if_neg (fun h=>hp h.1)];omega
  rw[one X hn,wv,ih]
  by_cases hp:p r=true
  ·rw[if_pos hp,if_pos ⟨hp,hk r (by simp) hp⟩]
  ·rw[if_neg hp,if_neg fun h=>hp h.1]
section
variable {c:Cf} {net:Int} {rs:List (List Hop)} {sent:List qT}
theorem GH(g:Sg c net rs sent)(h:JV c net rs sent S H){k:Ex}{p:Rc->Bool}(hp:∀ r∈H,p r=true->wc r.ev.yd=k):(pD p H).Nodup:=by
 have Bm:=(List.nodup_append.1 h.iv.nd).1
 rw[List.nodup_iff_pairwise_ne,List.pairwise_map] at Bm
 unfold pD
 rw[List.nodup_iff_pairwise_ne,List.pairwise_map,List.pairwise_filter]
 refine Bm.imp_of_mem ?_
 intro a b ha hb zJ pa pb e
 have ka:=h.ok a ha;have kb:=h.ok b hb
 have e1:=hp a ha pa;have e2:=hp b hb pb
 have e3:a.ev.yd.fQ=b.ev.yd.fQ:=by
  have:=e1.trans e2.symm
  unfold wc at this;injection this
 have e4:a.ev.yd=b.ev.yd:=(g.route ka.s).link_inj ka.h (by rw[e];exact kb.h) e3
 exact zJ (by unfold Rc.id qy;rw[e,e4])
theorem Y9(g:Sg c net rs sent)(h:JV c net rs sent S H){r:Rc}(hr:r∈H):
  (r.ev.yd.ya=root rs sent r.ev.yc/\r.ev.yb=(nth sent r.ev.yc).yb)\/∃ r'∈H,r'.ev.yc=r.ev.yc/\r'.ev.yd.fX=r.ev.yd.ya/\r'.out=some r.ev.yb:=by
 rcases h.src r.ev (.inr ⟨r,hr,rfl⟩) with a | a
 ·exact .inl ⟨a.1,a.2.1⟩
 ·exact .inr a
theorem FA(g:Sg c net rs sent)(h:JV c net rs sent S H)(sv:pC c sent H)(k:Ex):PH c sent k H:=by
 refine⟨sv,h.ord.imp fun h=>nD h.1,fun r hr=>?_,fun r hr=>(h.ok r hr).t⟩
 have:=(h.ok r hr).s
 exact(g.fr.each _ this.1 this.2).2.2.2.2.1
end
end
section
variable {S:St}{H:List Rc}
structure CF (c:Cf) (sent:List qT):Prop where
 ap:∀ i j:Int,0<=i->i<j->j<sent.length->(nth sent i).yq=(nth sent j).yq->(nth sent i).yb+ly c (nth sent i).yq<=(nth sent j).yb
 sz:∀ i:Int,0<=i->i<sent.length->(nth sent i).yo<=mx c (nth sent i).yq
theorem oI(c:Cf)(k:Ex):(qv c k).yk.yl=ju c k.ya:=by
 unfold qv ju;simp only
 by_cases h:nM c<=k.ya
 ·rw[if_pos h,if_pos (by omega)];rfl
 ·rw[if_neg h,if_neg (by omega)]
theorem pE(c:Cf)(k:Ex):(qv c k).yk.yr=qJ c k.fQ:=rfl
def lh(c:Cf)(r:List Hop)(n:Int):Int := - jn c (fun _=>0) r n
theorem XT{α:Type}{p:α->Bool}{f:α->Int}:∀(a b:List α),wv p f (a++b)=wv p f a+wv p f b
 | [],b=>by simp[wv]
 | x::a,b=>by simp only[List.cons_append,wv,XT a b];omega
theorem iH{α:Type}(f:α->Int):∀ l:List α,wv (fun _=>true) f l=gW (l.map f)
 | []=>rfl
 | x::l=>by simp only[wv,if_true,List.map_cons,gW,iH f l]
section
variable {c:Cf} {net:Int} {rs:List (List Hop)} {sent:List qT}
def Dl(D:Pl->Int)(H:List Rc)(q:Pl):Prop:=∀ r∈H,pk r.ev.yd=q->∀ t,r.out=some t->t<=r.ev.yb+D q
theorem Ky(g:Sg c net rs sent)(h:JV c net rs sent S H){D:Pl->Int}{l1 l2:List Pl}{p:Pl}(ho:qS rs (l1++p::l2))(hD:∀ q∈l1,Dl D H q){i:Int}(hi:0<=i/\i<(sent.length:Int)):
  ∀ x∈route rs sent i,(pk x∈l1\/pk x=p)->∀ r∈H,r.ev.yc=i->r.ev.yd=x->(nth sent i).yb+lh c (route rs sent i) x.ya<=r.ev.yb/\r.ev.yb<=(nth sent i).yb+lh c (route rs sent i) x.ya+jn c D (route rs sent i) x.ya:=by
 have hr:=g.route hi
 have zj:route rs sent i∈rs:=wn (g.vl hi).1 (g.vl hi).2
 refine hr.ind (P:=fun x=>(pk x∈l1\/pk x=p)->∀ r∈H,r.ev.yc=i->r.ev.yd=x->(nth sent i).yb+lh c (route rs sent i) x.ya<=r.ev.yb/\r.ev.yb<=(nth sent i).yb+lh c (route rs sent i) x.ya+jn c D (route rs sent i) x.ya) (fun x hx e _ r hrH er eh=>?_) (fun y hy x hx e ih hp r hrH er eh=>?_)
 ·subst eh
  unfold lh
  rw[e,hr.jn_start,hr.jn_start]
  rcases Y9 g h hrH with⟨_,a⟩ | ⟨r',hr',e1,e2,e3⟩
  ·rw[er] at a;omega
  ·have:=(h.ok r' hr').h
   rw[e1,er] at this
   exact absurd (e2.trans e) (hr.start _ this)
 ·subst eh
  have hq:=ho.clo g.va zj hx hp hy e
  rcases Y9 g h hrH with⟨a,_⟩ | ⟨r',hr',e1,e2,e3⟩
  ·rw[er] at a;exact absurd (e.trans a) (hr.start _ hy)
  ·have hm:=(h.ok r' hr').h
   rw[e1,er] at hm
   have eh:r'.ev.yd=y:=hr.uniq hm hy (e2.trans e.symm)
   obtain⟨i1,i2⟩:=ih (.inl hq) r' hr' (e1.trans er) eh
   have d1:=hD _ hq r' hr' (by rw[eh]) _ e3
   have d2:=(h.out r' hr' _ e3).1
   have hc:ju c y.ya+qJ c y.fQ<=dD c sent r'.ev.yc r'.ev.yd:=by
    unfold dD
    rw[oI,pE,e1,er,eh]
    have hs:=hr.hop g.small hy
    have h1:=(g.fr.each i hi.1 hi.2).2.2.2.2.1
    have:=Int.mul_le_mul_of_nonneg_right h1 (show 0<=qJ c y.fQ by have:=hs.s0;omega)
    show ju c y.ya+_<=ju c y.ya+_*qJ c y.fQ
    omega
   have j1:=hr.jn_next D hy
   have j2:=hr.jn_next (fun _=>0) hy
   unfold lh at *
   rw[<- e,j1,j2]
   omega
def put(k:Ex)(s t:Int)(r:Rc):Bool:=decide (wc r.ev.yd=k)&&decide (s<=r.ev.yb)&&decide (r.ev.yb<=s+t)
theorem tv{k:Ex}{s t:Int}{r:Rc}:put k s t r=true↔wc r.ev.yd=k/\s<=r.ev.yb/\r.ev.yb<=s+t:=by
 unfold put;simp[and_assoc]
def vlR(sent:List qT)(r:Rc):Int:=(nth sent r.ev.yc).yq
def Qy(rs:List (List Hop))(sent:List qT)(p:Pl)(r:Rc):Int:=od (route rs sent r.ev.yc) p
theorem Kz(g:Sg c net rs sent)(h:JV c net rs sent S H){r:Rc}(hr:r∈H):1<=qK sent r/\qK sent r<=72:=by
 have:=(h.ok r hr).s
 have:=(g.fr.each _ this.1 this.2).2.2.2.2
 exact⟨this.1,this.2.1⟩
theorem SG(g:Sg c net rs sent)(hV:gV c)(hC:CF c sent)(h:JV c net rs sent S H){D:Pl->Int}{l1 l2:List Pl}{p:Pl}(ho:qS rs (l1++p::l2))(hD:∀ q∈l1,Dl D H q){s t v:Int}(t0:0<=t)(v0:0<=v)(v1:v<rs.length)(hj:0<=jn c D (nth rs v) p.ya){q:Rc->Bool}(hq:∀ r∈H,q r=true->put p s t r=true/\vlR sent r=v):wv q (qK sent) H<=bd c (tj c rs D p v) t:=by
 obtain⟨m0,m1,b0,b1⟩:=hV.mx v0 (by have:=g.va.len;omega)
 rw[da]
 have hn:(pD q H).Nodup:=GH g h (k:=p) fun r hr e=>(tv.1 (hq r hr e).1).1
 have n8:∀ i∈pD q H,(0<=i/\i<(sent.length:Int))/\(nth sent i).yq=v/\s-lh c (nth rs v) p.ya-jn c D (nth rs v) p.ya<=(nth sent i).yb/\(nth sent i).yb<=s-lh c (nth rs v) p.ya+t:=by
  intro i hi
  obtain⟨r,hr,hqr,rfl⟩:=nF.1 hi
  obtain⟨h1,h2⟩:=hq r hr hqr
  obtain⟨e1,e2,e3⟩:=tv.1 h1
  have hs:=(h.ok r hr).s
  have DV:route rs sent r.ev.yc=nth rs v:=by unfold route;unfold vlR at h2;rw[h2]
  have hh:=Ky g h ho hD hs r.ev.yd (h.ok r hr).h (.inr e1) r hr rfl rfl
  have en:r.ev.yd.ya=p.ya:=by rw[<- e1];rfl
  rw[DV,en] at hh
  exact⟨hs,h2,by omega,by omega⟩
 have hb:wv (fun _=>true) (fun i=>(nth sent i).yo) (pD q H)<=mx c v*(pD q H).length:=WT fun i hi=>by
  obtain⟨a,b,_⟩:=n8 i hi
  have:=hC.sz i a.1 a.2
  rwa [b] at this
 have hl:((pD q H).length:Int)<=(t+jn c D (nth rs v) p.ya) / ly c v+1:=by
  have:=MU (B:=ly c v) (w:=t+jn c D (nth rs v) p.ya) (lo:=s-lh c (nth rs v) p.ya-jn c D (nth rs v) p.ya) (l:=(pD q H).map fun i=>(nth sent i).yb) (by omega) ?_ ?_ (by omega)
  ·rw[List.length_map] at this;exact this
  ·rw[List.pairwise_map]
   rw[List.nodup_iff_pairwise_ne] at hn
   refine hn.imp_of_mem fun {i j} hi hj hij=>?_
   obtain⟨a,b,_⟩:=n8 i hi
   obtain⟨a',b',_⟩:=n8 j hj
   rcases Int.lt_or_gt_of_ne hij with q | q
   ·have:=hC.ap i j a.1 q a'.2 (b.trans b'.symm);rw[b] at this;exact .inl this
   ·have:=hC.ap j i a'.1 q a.2 (b'.trans b.symm);rw[b'] at this;exact .inr this
  ·intro x hx
   obtain⟨i,hi,rfl⟩:=List.mem_map.1 hx
   obtain⟨_,_,c1,c2⟩:=n8 i hi
   omega
 have:=Int.mul_le_mul_of_nonneg_left hl (show 0<=mx c v by omega)
 show _<=mx c v*((t+jn c D (nth rs v) p.ya) / ly c v+1)
 omega
end
end
section
variable {S:St}{H:List Rc}{D:Pl->Int}{p:Pl}{t:Int}
section
variable {c:Cf} {net:Int} {rs:List (List Hop)} {sent:List qT}
theorem S5(g:Sg c net rs sent)(hV:gV c)(hC:CF c sent)(h:JV c net rs sent S H){l1 l2:List Pl}(ho:qS rs (l1++p::l2))(hD:∀ q∈l1,Dl D H q){s L:Int}(t0:0<=t)(hj:∀ v:Int,0<=v->v<rs.length->qp p (nth rs v)=true->0<=jn c D (nth rs v) p.ya):
  wv (fun r=>put p s t r&&decide (Qy rs sent p r=L)) (qK sent) H<=dz c (fws c rs D p) t L:=by
 rw[ny,<- iH]
 rw[Y8 (key:=vlR sent) (X:=pB rs p L rs.length) ((nw _ _).sublist List.filter_sublist)]
 ·rw[iH,iH]
  refine YI fun v hv=>?_
  obtain⟨v0,v1,hu,_⟩:=lY.1 hv
  refine SG (s:=s) g hV hC h ho hD t0 v0 v1 (hj v v0 v1 hu) fun r hr e=>?_
  simp only[Bool.and_eq_true,decide_eq_true_eq] at e
  exact⟨e.1.1,e.2⟩
 ·intro r hr e
  simp only[Bool.and_eq_true,decide_eq_true_eq] at e
  have hs:=(h.ok r hr).s
  have hv:=g.vl hs
  exact lY.2 ⟨hv.1,hv.2,bf.2 ⟨r.ev.yd,(h.ok r hr).h,(tv.1 e.1).1⟩,e.2⟩
def FB(c:Cf)(L n:Int):Int:=if fB c L=n then fA c L else fB c L
theorem VR.oth{r:List Hop}(h:VR c net r){x:Hop}(hx:x∈r):x.ya=FB c x.fQ x.fX:=by
 have:=h.hv x hx
 unfold Qq JN at this
 obtain⟨_,_,_,_,_,n9,_,_,ho⟩:=this
 unfold FB
 rcases ho with⟨a,b⟩ | ⟨a,b⟩
 ·rw[if_pos b];exact a.symm
 ·rw[if_neg (by rw[<- a];exact fun e=>n9 e.symm)];exact b.symm
def GRr(rs:List (List Hop))(sent:List qT)(p:Pl)(L:Int)(r:Rc):Bool:=qp p (route rs sent r.ev.yc)&&decide (od (route rs sent r.ev.yc) p=L)
theorem MV(g:Sg c net rs sent)(hV:gV c)(hC:CF c sent)(h:JV c net rs sent S H)(sv:pC c sent H){s L:Int}(t0:0<=t)(hL:0<=L)(hl:FwOK c (fws c rs D p)):
  wv (fun r=>put p s t r&&decide (Qy rs sent p r=L)) (qK sent) H<=oA c (fws c rs D p) L+t / max 1 (qJ c L):=by
 have hw:=WI hV hl L
 by_cases hex:∃ r∈H,put p s t r=true/\Qy rs sent p r=L
 ·have key:∀ r∈H,put p s t r=true->Qy rs sent p r=L->∃ x∈route rs sent r.ev.yc,x.fX=p.ya/\x.fQ=L/\x.ya=FB c L p.ya/\∃ r'∈H,r'.ev.yc=r.ev.yc/\r'.ev.yd=x/\r'.out=some r.ev.yb:=by
   intro r hr hp hk
   have hs:=(h.ok r hr).s
   have AJ:=g.route hs
   obtain⟨e1,_,_⟩:=tv.1 hp
   have en:r.ev.yd.ya=p.ya:=by rw[<- e1];rfl
   unfold Qy od at hk
   by_cases hi:(ky (route rs sent r.ev.yc) p.ya).2=true
   ·rw[if_pos hi] at hk
    obtain⟨x1,x2⟩:=rC hi
    refine⟨_,x1,x2,hk,?_,?_⟩
    ·have:=AJ.oth x1;rw[hk,x2] at this;exact this
    ·rcases Y9 g h hr with⟨a,_⟩ | ⟨r',hr',b1,b2,b3⟩
     ·exact absurd (x2.trans (en.symm.trans a)) (AJ.start _ x1)
     ·have hm:=(h.ok r' hr').h
      rw[b1] at hm
      exact⟨r',hr',b1,AJ.uniq hm x1 (b2.trans (en.trans x2.symm)),b3⟩
   ·rw[if_neg hi] at hk;omega
  obtain⟨r0,Ec,AI,zW⟩:=hex
  obtain⟨x0,hx0,n0,k0,o0,_⟩:=key r0 Ec AI zW
  have hq0:pk x0=(⟨FB c L p.ya,L⟩:Pl):=by unfold pk;rw[o0,k0]
  have hs0:=(h.ok r0 Ec).s
  have Da:=bn g (k:=pk x0) ⟨r0.ev.yc,x0,hs0,hx0,rfl⟩
  have vL:=Da.slow
  have Bo:=Da.delay
  have hslw:(qv c (pk x0)).yk.yr=qJ c L:=by rw[pE];unfold pk;rw[k0]
  have CH:=XS (k:=pk x0) (la:=(qv c (pk x0)).yk.yl) (sl:=qJ c L) (s:=s) (wide:=oA c (fws c rs D p) L) (G:=GRr rs sent p L) rfl hslw Bo.1 (by omega) hw.1 (s+t) (FA g h sv _) (fun r hr hg=>by
   unfold GRr at hg
   simp only[Bool.and_eq_true,decide_eq_true_eq] at hg
   have hs:=(h.ok r hr).s
   have hv:=g.vl hs
   rw[Km]
   exact Int.le_trans (hC.sz _ hs.1 hs.2) (XL (List.mem_map.2 ⟨_,lY.2 ⟨hv.1,hv.2,hg.1,hg.2⟩,rfl⟩)))
  have qm:wv (fun r=>put p s t r&&decide (Qy rs sent p r=L)) (qK sent) H<=wv (lw (pk x0) s (s+t) (GRr rs sent p L)) (qK sent) H:=by
   rw[da,da]
   refine Kx (GH g h (k:=p) fun r hr e=>?_) (fun i hi=>?_) fun i hi=>?_
   ·simp only[Bool.and_eq_true,decide_eq_true_eq] at e
    exact(tv.1 e.1).1
   ·obtain⟨r,hr,e,rfl⟩:=nF.1 hi
    simp only[Bool.and_eq_true,decide_eq_true_eq] at e
    obtain⟨x,hx,n1,k1,o1,r',hr',b1,b2,b3⟩:=key r hr e.1 e.2
    obtain⟨_,p1,p2⟩:=tv.1 e.1
    refine nF.2 ⟨r',hr',?_,b1⟩
    unfold lw GRr
    rw[b1,b3]
    simp only[Bool.and_eq_true,decide_eq_true_eq,Option.getD_some]
    refine⟨⟨⟨mu.2 ⟨?_,_,b3⟩,p1⟩,p2⟩,bf.2 ⟨_,(h.ok r hr).h,(tv.1 e.1).1⟩,e.2⟩
    rw[b2,hq0];unfold wc;rw[o1,k1]
   ·obtain⟨r,hr,_,rfl⟩:=nF.1 hi
    have:=(Kz g h hr).1
    show 0<=qK sent r
    omega
  rw[show s+t-s=t by omega,show max 0 t=t by omega] at CH
  rw[show max 1 (qJ c L)=qJ c L by omega]
  have h1:qJ c L*(wv (lw (pk x0) s (s+t) (GRr rs sent p L)) (qK sent) H-oA c (fws c rs D p) L)<=t:=by rw[Int.mul_sub];omega
  have h2:wv (lw (pk x0) s (s+t) (GRr rs sent p L)) (qK sent) H-oA c (fws c rs D p) L<=t / qJ c L:=(Int.le_ediv_iff_mul_le (by omega)).2 (by rw[Int.mul_comm];exact h1)
  omega
 ·rw[d7]
  ·have:0<=t / max 1 (qJ c L):=Int.ediv_nonneg t0 (by omega)
   omega
  ·intro r hr
   refine Bool.eq_false_iff.2 fun e=>hex ?_
   simp only[Bool.and_eq_true,decide_eq_true_eq] at e
   exact⟨r,hr,e.1,e.2⟩
theorem GJ(g:Sg c net rs sent)(hV:gV c)(hC:CF c sent)(h:JV c net rs sent S H)(sv:pC c sent H){l1 l2:List Pl}(ho:qS rs (l1++p::l2))(hD:∀ q∈l1,Dl D H q)(hl:FwOK c (fws c rs D p))(s:Int)(t0:0<=t):
  wv (put p s t) (qK sent) H<=iF c (fws c rs D p) t:=by
 unfold iF
 rw[Y8 (key:=Qy rs sent p) (X:=lks c) (nw _ _),iH]
 ·refine YI fun L hL=>?_
  have h1:=S5 g hV hC h ho hD (s:=s) (L:=L) t0 fun v v0 v1 hu=>hl.j0 (tj c rs D p v) (eE.2 ⟨v,v0,v1,hu,rfl⟩)
  unfold oC
  split
  ·exact h1
  ·exact Int.le_min.2 ⟨h1,MV g hV hC h sv t0 (by omega) hl⟩
 ·intro r hr e
  have hs:=(h.ok r hr).s
  have hv:=g.vl hs
  have:=bW g.small g.va p hv.1 hv.2
  exact tV.2 ⟨this.1,by have:=this.2.1;unfold Qy route;push_cast;omega⟩
end
end
section
variable {H:List Rc}{D:Pl->Int}
structure SBd (c:Cf) (rs:List (List Hop)) (D:Pl->Int) (p:Pl) (St:Int):Prop where
 d:∀ t,0<=t->(∀ u,1<=u->u<=t->u<qJ c p.fQ*iF c (fws c rs D p) (u-1))->VI (iF c (fws c rs D p)) (qJ c p.fQ) (ju c p.ya) t<=D p
 s:∀ t,0<=t->(∀ u,1<=u->u+ju c p.ya<=t->u<qJ c p.fQ*iF c (fws c rs D p) (u-1))->XM (iF c (fws c rs D p)) (qJ c p.fQ) (ju c p.ya) t+pN c (fws c rs D p)<=St
section
variable {c:Cf} {net:Int} {rs:List (List Hop)} {sent:List qT}
theorem PH.suffix{k:Ex}:∀ {a b:List Rc},PH c sent k (a++b)->PH c sent k b
 | [],_,h=>h
 | _::a,b,h=>PH.suffix (a:=a) h.tail
theorem FC(g:Sg c net rs sent)(hV:gV c)(hC:CF c sent){S:St}(h:JV c net rs sent S H)(sv:pC c sent H){l1 l2:List Pl}{p:Pl}(ho:qS rs (l1++p::l2))(hD:∀ q∈l1,Dl D H q)(hl:FwOK c (fws c rs D p)){St:Int}(hB:SBd c rs D p St):Dl D H p:=by
 intro r hr e t ht
 have hs:=(h.ok r hr).s
 have Da:=bn g (k:=p) ⟨r.ev.yc,r.ev.yd,hs,(h.ok r hr).h,e⟩
 have vL:=Da.slow
 have Bo:=Da.delay
 rw[pE] at vL
 rw[oI] at Bo
 obtain⟨H1,H2,rfl⟩:=List.append_of_mem hr
 have hph:=FA g h sv p
 have AO:=hph.suffix
 have An:jb p r=true:=mu.2 ⟨e,t,ht⟩
 obtain⟨s,⟨x,hx,As,BP⟩,b1,b2⟩:=busy (oI c p) (pE c p) Bo.1 vL.1 AO ⟨r,by simp,An⟩
 rw[sQ e ht] at b1
 have hso:=List.pairwise_cons.1 AO.so
 have qm:∀ y∈r::H2,y.ev.yb<=r.ev.yb:=fun y hy=>by
  rcases List.mem_cons.1 hy with rfl | hy
  ·omega
  ·exact hso.1 y hy
 have hz:∀ y∈H1++r::H2,0<=qK sent y:=fun y hy=>by have:=(Kz g h hy).1;omega
 have DW:∀ q:Rc->Bool,wv q (qK sent) (r::H2)<=wv q (qK sent) (H1++r::H2):=fun q=>by
  rw[XT]
  have:=rF (p:=q) (f:=qK sent) (l:=H1) fun y hy=>hz y (by simp[hy])
  omega
 have hxr:=qm x hx
 have hA:∀(q:Rc->Bool) (u:Int),0<=u->(∀ y∈r::H2,q y=true->put p s u y=true)->wv q (qK sent) (r::H2)<=iF c (fws c rs D p) u:=fun q u hu hq=>
  Int.le_trans (YL (fun y hy=>hz y (by simp at hy;rcases hy with hy | hy <;> simp[hy])) hq) (Int.le_trans (DW _) (GJ g hV hC h sv ho hD hl s hu))
 have DT:wv (gL p s) (qK sent) (r::H2)<=iF c (fws c rs D p) (r.ev.yb-s):=hA _ _ (by omega) fun y hy hq=>by
  unfold gL at hq
  simp only[Bool.and_eq_true,decide_eq_true_eq] at hq
  exact tv.2 ⟨(mu.1 hq.1).1,hq.2,by have:=qm y hy;omega⟩
 have:=hB.d (r.ev.yb-s) (by omega) fun u u1 ut=>by
  have h2:=b2 r (by simp) An u u1 (by omega)
  refine Int.lt_of_lt_of_le h2 (Int.mul_le_mul_of_nonneg_left (hA _ _ (by omega) fun y hy hq=>?_) (by omega))
  unfold d8 at hq
  simp only[Bool.and_eq_true,decide_eq_true_eq] at hq
  exact tv.2 ⟨(mu.1 hq.1.1).1,hq.1.2,by omega⟩
 unfold VI at this
 have h3:=Int.mul_le_mul_of_nonneg_left DT (show 0<=qJ c p.fQ by omega)
 omega
theorem FD(g:Sg c net rs sent)(hV:gV c)(hC:CF c sent){S:St}(h:JV c net rs sent S H)(sv:pC c sent H){l1 l2:List Pl}{p:Pl}(ho:qS rs (l1++p::l2))(hD:∀ q∈l1,Dl D H q)(hl:FwOK c (fws c rs D p)){St:Int}(hB:SBd c rs D p St){r:Rc}(hr:r∈H)(e:pk r.ev.yd=p)(hn:r.out=none):(qv c p).yk.fT<St:=by
 have hs:=(h.ok r hr).s
 have Da:=bn g (k:=p) ⟨r.ev.yc,r.ev.yd,hs,(h.ok r hr).h,e⟩
 have vL:=Da.slow
 have Bo:=Da.delay
 rw[pE] at vL
 rw[oI] at Bo
 obtain⟨H1,H2,rfl⟩:=List.append_of_mem hr
 have hph:=FA g h sv p
 have AO:=hph.suffix
 have hso:=List.pairwise_cons.1 AO.so
 have nU:(qv c p).yk.fT<ve sent p r.ev.yb H2+qK sent r:=by
  have:=AO.sv.2.2 hn
  have e2:wc r.ev.yd=p:=e
  rw[e2] at this
  omega
 refine Int.lt_of_lt_of_le nU ?_
 have qm:∀ y∈r::H2,y.ev.yb<=r.ev.yb:=fun y hy=>by
  rcases List.mem_cons.1 hy with rfl | hy
  ·omega
  ·exact hso.1 y hy
 have hz:∀ y∈H1++r::H2,0<=qK sent y:=fun y hy=>by have:=(Kz g h hy).1;omega
 have DW:∀ q:Rc->Bool,wv q (qK sent) (r::H2)<=wv q (qK sent) (H1++r::H2):=fun q=>by
  rw[XT]
  have:=rF (p:=q) (f:=qK sent) (l:=H1) fun y hy=>hz y (by simp[hy])
  omega
 have hA:∀(s:Int) (q:Rc->Bool) (u:Int),0<=u->(∀ y∈r::H2,q y=true->put p s u y=true)->wv q (qK sent) (r::H2)<=iF c (fws c rs D p) u:=fun s q u hu hq=>
  Int.le_trans (YL (fun y hy=>hz y (by simp at hy;rcases hy with hy | hy <;> simp[hy])) hq) (Int.le_trans (DW _) (GJ g hV hC h sv ho hD hl s hu))
 have Ba:∀ y∈H1++r::H2,wc y.ev.yd=p->qK sent y<=pN c (fws c rs D p):=fun y hy ey=>by
  have hys:=(h.ok y hy).s
  have hv:=g.vl hys
  refine Int.le_trans (hC.sz _ hys.1 hys.2) (XL (List.mem_map.2 ⟨tj c rs D p (nth sent y.ev.yc).yq,?_,rfl⟩))
  unfold fws
  exact List.mem_map.2 ⟨_,List.mem_filter.2 ⟨tV.2 ⟨hv.1,by omega⟩,bf.2 ⟨_,(h.ok y hy).h,ey⟩⟩,rfl⟩
 have hm0:0<=pN c (fws c rs D p):=rE _
 have hq0:∀(a b:Int),0<=b->1<=a->0<=(b+a-1) / a:=fun a b hb ha=>Int.ediv_nonneg (by omega) (by omega)
 have B6:∀ s,wv (gL p s) (qK sent) H2+(if s<=r.ev.yb then qK sent r else 0)<=iF c (fws c rs D p) (max 0 (r.ev.yb-s)):=fun s=>by
  refine Int.le_trans ?_ (hA s (fun y=>gL p s y||(decide (wc y.ev.yd=p)&&decide (s<=y.ev.yb)&&decide (y.ev.yb<=r.ev.yb))) _ (by omega) fun y hy hq=>?_)
  ·rw[wv]
   have h1:=YL (p:=gL p s) (q:=fun y=>gL p s y||(decide (wc y.ev.yd=p)&&decide (s<=y.ev.yb)&&decide (y.ev.yb<=r.ev.yb))) (f:=qK sent) (l:=H2) (fun y hy=>hz y (by simp[hy])) fun y hy hq=>by rw[hq];rfl
   have e2:wc r.ev.yd=p:=e
   have hzr:=hz r (by simp)
   by_cases hsr:s<=r.ev.yb
   ·rw[if_pos hsr,if_pos (by simp[e2,hsr])];omega
   ·rw[if_neg hsr];split <;> omega
  ·have hy2:=qm y hy
   simp only[Bool.or_eq_true,Bool.and_eq_true,decide_eq_true_eq] at hq
   rcases hq with hq | hq
   ·unfold gL at hq
    simp only[Bool.and_eq_true,decide_eq_true_eq] at hq
    exact tv.2 ⟨(mu.1 hq.1).1,hq.2,by omega⟩
   ·exact tv.2 ⟨hq.1.1,hq.1.2,by omega⟩
 rcases Y7 (most:=pN c (fws c rs D p)) (τ:=r.ev.yb) (oI c p) (pE c p) Bo.1 vL.1 (hph.t0 r (by simp)) AO.tail (fun y hy ha=>Ba y (by simp[hy]) (mu.1 ha).1) with CK | ⟨s,X,⟨x,hx,As,BP⟩,s1,s2,s3,s4⟩
 ·rw[d9 (oI c p) (pE c p) Bo.1 vL.1 AO.tail CK]
  have h1:=B6 r.ev.yb
  rw[if_pos (Int.le_refl _),show max 0 (r.ev.yb-r.ev.yb)=0 by omega] at h1
  have h0:0<=wv (gL p r.ev.yb) (qK sent) H2:=rF fun y hy=>hz y (by simp[hy])
  have h2:=hB.s 0 (by omega) fun u u1 ut=>by omega
  unfold XM at h2
  rw[show max (0-ju c p.ya) 0+qJ c p.fQ-1=qJ c p.fQ-1 by omega,Int.ediv_eq_zero_of_lt (by omega) (by omega)] at h2
  omega
 ·have hxr:=hso.1 x hx
  have h1:=B6 s
  rw[if_pos (by omega),show max 0 (r.ev.yb-s)=r.ev.yb-s by omega] at h1
  have h2:=hB.s (r.ev.yb-s) (by omega) fun u u1 ut=>by
   refine Int.lt_of_lt_of_le (s4 u u1 (by omega)) (Int.mul_le_mul_of_nonneg_left ?_ (by omega))
   have hw:wv (d8 p s u) (qK sent) H2<=wv (d8 p s u) (qK sent) (r::H2):=by
    have:=hz r (by simp)
    rw[wv];split <;> omega
   refine Int.le_trans hw (hA s _ _ (by omega) fun y hy hq=>?_)
   unfold d8 at hq
   simp only[Bool.and_eq_true,decide_eq_true_eq] at hq
   exact tv.2 ⟨(mu.1 hq.1.1).1,hq.1.2,by omega⟩
  unfold XM at h2
  have h3:(max (r.ev.yb-s-ju c p.ya) 0+qJ c p.fQ-1) / qJ c p.fQ<=X:=by
   refine Int.le_of_lt_add_one ((Int.ediv_lt_iff_lt_mul (by omega)).2 ?_)
   have e1:(X+1)*qJ c p.fQ=qJ c p.fQ*X+qJ c p.fQ:=by rw[Int.add_mul,Int.mul_comm];omega
   have e2:0<=qJ c p.fQ*X:=Int.mul_nonneg (by omega) s2
   omega
  omega
theorem Ya(g:Sg c net rs sent)(hV:gV c)(hC:CF c sent){S:St}(h:JV c net rs sent S H)(sv:pC c sent H){St:Pl->Int}{l:List Pl}(hp:l.Perm (PS rs))(ho:qS rs l)(hl:∀ p∈PS rs,FwOK c (fws c rs D p))(hB:∀ p∈PS rs,SBd c rs D p (St p)):
  (∀ r∈H,∀ t,r.out=some t->t<=r.ev.yb+D (pk r.ev.yd))/\∀ r∈H,r.out=none->(qv c (pk r.ev.yd)).yk.fT<St (pk r.ev.yd):=by
 have key:∀(n:Nat) (l1 l2:List Pl),l1.length=n->l=l1++l2->∀ q∈l1,Dl D H q:=by
  intro n
  induction n with
  | zero=>intro l1 l2 hn _ q hq;rw[List.length_eq_zero_iff.1 hn] at hq;cases hq
  | succ n ih=>
   intro l1 l2 hn e q hq
   have n9:l1≠[]:=by rintro rfl;cases hn
   have e0:=List.dropLast_concat_getLast n9
   generalize l1.dropLast=l0 at e0
   generalize l1.getLast n9=p at e0
   subst e0
   rw[List.length_append,List.length_singleton] at hn
   have e1:l=l0++p::l2:=by rw[e];simp
   have ih0:=ih l0 (p::l2) (by omega) e1
   rcases List.mem_append.1 hq with hq | hq
   ·exact ih0 q hq
   ·rw[List.mem_singleton.1 hq]
    have DR:p∈PS rs:=hp.mem_iff.1 (by rw[e1];simp)
    exact FC g hV hC h sv (e1▸ho) ih0 (hl p DR) (hB p DR)
 have n8:∀ r∈H,pk r.ev.yd∈PS rs:=fun r hr=>by
  have hs:=(h.ok r hr).s
  have hv:=g.vl hs
  exact(o9 rs _).2 ⟨_,wn hv.1 hv.2,_,(h.ok r hr).h,rfl⟩
 refine⟨fun r hr t ht=>key _ l [] rfl (by simp) _ (hp.mem_iff.2 (n8 r hr)) r hr rfl t ht,fun r hr hn=>?_⟩
 obtain⟨l1,l2,e⟩:=List.append_of_mem (hp.mem_iff.2 (n8 r hr))
 exact FD g hV hC h sv (e▸ho) (key _ l1 _ rfl e) (hl _ (n8 r hr)) (hB _ (n8 r hr)) hr rfl hn
end
end
section
def iI(c:Cf)(D:Pl->Int)(r:List Hop)(n:Int):Int:=lh c r n+jn c D r n
theorem MW{c:Cf}{net:Int}{r:List Hop}(h:VR c net r)(D:Pl->Int):iI c D r (nth r 0).ya=0:=by
 unfold iI lh;rw[h.jn_start,h.jn_start];rfl
theorem KA{c:Cf}{net:Int}{r:List Hop}(h:VR c net r)(D:Pl->Int){g:Hop}(hg:g∈r):iI c D r g.fX=iI c D r g.ya+D (pk g):=by
 unfold iI lh;rw[h.jn_next D hg,h.jn_next (fun _=>0) hg];omega
structure EV (c:Cf) (D:Pl->Int) (r:List Hop) (v:Int) (m:Nat) (s:ES):Prop where
 h:∀ n,wK s.sum n=true↔∃ q:Int,0<=q/\q<m/\(nth r q).fX=n
 g:∀ n,RK r m n->xC s.sum n 0=iI c D r n
 e:∀ q:Int,0<=q->q<m->0<=(nth r q).fX->(nth r q).fX<nM c->∃ e∈s.ends,e.yq=v/\e.ya=(nth r q).fX/\e.yl=iI c D r (nth r q).fX
theorem EV.all{c:Cf}{net:Int}{rs:List (List Hop)}(hS:Small c)(hv:VA c net rs){D:Pl->Int}{de:DM}{r:List Hop}(hr:r∈rs)(Bt:∀ h∈r,xC de (pk h) 0=D (pk h))(hD:∀ h∈r,-1073741824<=D (pk h)/\D (pk h)<=1073741824)(v:Int):∀ m:Nat,m<=r.length->EV c D r v m ((r.take m).foldl (pr c r de v) ⟨[],[]⟩)
 | 0,_=>by
  have Ar:=hv.each r hr
  refine⟨fun n=>?_,fun n hn=>?_,fun q q0 q1=>by omega⟩
  ·simp only[List.take_zero,List.foldl_nil,wK]
   exact⟨fun h=>by simp at h,fun⟨q,q0,q1,_⟩=>by omega⟩
  ·rcases hn with rfl | ⟨q,q0,q1,_⟩
   ·rw[MW Ar];rfl
   ·omega
 | m+1,hm=>by
  have Ar:=hv.each r hr
  have ih:=EV.all hS hv hr Bt hD v m (by omega)
  have e1:r.take (m+1)=r.take m++[nth r m]:=by
   rw[List.take_succ_eq_append_getElem (by omega),jY (i:=(m:Int)) ⟨by omega,by omega⟩];simp
  rw[e1,List.foldl_append]
  generalize (r.take m).foldl (pr c r de v) ⟨[],[]⟩=s at ih
  simp only[List.foldl_cons,List.foldl_nil]
  obtain⟨h1,h2,_,_⟩:=Ar.cond (m:Int) (by omega) (by omega)
  have n8:nth r (m:Int)∈r:=wn (by omega) (by omega)
  have w5:wK s.sum (nth r (m:Int)).fX=false:=by
   refine Bool.eq_false_iff.2 fun hc=>h2 (.inr ?_)
   exact(ih.h _).1 hc
  have zr:(nth r (m:Int)).fX≠(nth r 0).ya:=fun e=>h2 (.inl e)
  have DD:=QX (c:=c) (D:=D) hS hv (M:=1073741824) (by omega) hr hD (nth r (m:Int)).ya
  have Cr:=QX (c:=c) (D:=fun _=>0) hS hv (M:=0) (by omega) hr (fun _ _=>by omega) (nth r (m:Int)).ya
  have hd:=hD _ n8
  have hn:=KA Ar D n8
  have Ab:i64 (xC s.sum (nth r (m:Int)).ya 0+xC de (pk (nth r (m:Int))) 0)=iI c D r (nth r (m:Int)).fX:=by
   rw[ih.g _ h1,Bt _ n8,hn,xQ]
   unfold iI lh;omega
  unfold pr
  rw[if_neg (by simp[w5,zr]),Ab]
  refine⟨fun n=>?_,fun n hk=>?_,fun q q0 q1 n0 n1=>?_⟩
  ·simp only
   rw[cX,Bool.or_eq_true,decide_eq_true_eq,ih.h]
   constructor
   ·rintro(e | ⟨q,q0,q1,e⟩)
    ·exact⟨m,by omega,by omega,e.symm⟩
    ·exact⟨q,q0,by omega,e⟩
   ·rintro⟨q,q0,q1,e⟩
    by_cases hq:q=m
    ·subst hq;exact .inl e.symm
    ·exact .inr ⟨q,q0,by omega,e⟩
  ·simp only
   rw[jh]
   split
   ·rename_i e;rw[e]
   ·rename_i e
    refine ih.g n ?_
    rcases hk with hk | ⟨q,q0,q1,hk⟩
    ·exact .inl hk
    ·refine .inr ⟨q,q0,?_,hk⟩
     by_cases hq:q=m
     ·subst hq;exact absurd hk.symm e
     ·omega
  ·simp only
   by_cases hq:q=m
   ·subst hq
    rw[if_pos ⟨n0,n1⟩,jh,if_pos rfl]
    exact⟨_,List.mem_append_right _ (List.mem_singleton.2 rfl),rfl,rfl,rfl⟩
   ·obtain⟨e,he,e1,e2,e3⟩:=ih.e q q0 (by omega) n0 n1
    refine⟨e,?_,e1,e2,e3⟩
    split
    ·exact List.mem_append_left _ he
    ·exact he
theorem SH{c:Cf}{net:Int}{rs:List (List Hop)}(hS:Small c)(hv:VA c net rs){D:Pl->Int}{de:DM}{v:Int}(v0:0<=v)(v1:v<rs.length)(Bt:∀ h∈nth rs v,xC de (pk h) 0=D (pk h))(hD:∀ h∈nth rs v,-1073741824<=D (pk h)/\D (pk h)<=1073741824){g:Hop}(hg:g∈nth rs v)(n0:0<=g.fX)(n1:g.fX<nM c):
  ∃ e∈VE c rs de v,e.yq=v/\e.ya=g.fX/\e.yl=iI c D (nth rs v) g.ya+D (pk g):=by
 obtain⟨q,q0,q1,rfl⟩:=sm hg
 obtain⟨e,he,e1,e2,e3⟩:=(EV.all hS hv (wn v0 v1) Bt hD v _ (Nat.le_refl _)).e q q0 q1 n0 n1
 rw[List.take_length] at he
 exact⟨e,he,e1,e2,e3.trans (KA (hv.each _ (wn v0 v1)) D (wn q0 q1))⟩
section
variable {c:Cf} {net:Int} {rs:List (List Hop)} {sent:List qT}
theorem UV(g:Sg c net rs sent)(hV:gV c)(hC:CF c sent){S:St}{H:List Rc}(h:JV c net rs sent S H)(sv:pC c sent H){D:Pl->Int}{St:Pl->Int}{l:List Pl}(hp:l.Perm (PS rs))(ho:qS rs l)(hl:∀ p∈PS rs,FwOK c (fws c rs D p))(hB:∀ p∈PS rs,SBd c rs D p (St p)){r:Rc}(hr:r∈H){t:Int}(ht:r.out=some t):
  t<=(nth sent r.ev.yc).yb+(iI c D (route rs sent r.ev.yc) r.ev.yd.ya+D (pk r.ev.yd)):=by
 obtain⟨h1,_⟩:=Ya g hV hC h sv hp ho hl hB
 have hs:=(h.ok r hr).s
 have hv:=g.vl hs
 have hm:pk r.ev.yd∈PS rs:=(o9 rs _).2 ⟨_,wn hv.1 hv.2,_,(h.ok r hr).h,rfl⟩
 obtain⟨l1,l2,e⟩:=List.append_of_mem (hp.mem_iff.2 hm)
 have:=(Ky g h (e▸ho) (D:=D) (fun q hq r' hr' e' t' Bd=>by rw[<- e'];exact h1 r' hr' t' Bd) hs r.ev.yd (h.ok r hr).h (.inr rfl) r hr rfl rfl).2
 have h2:=h1 r hr t ht
 unfold iI
 omega
end
end
end Go.Proofs.YtcahmabkeaijdaaGreat

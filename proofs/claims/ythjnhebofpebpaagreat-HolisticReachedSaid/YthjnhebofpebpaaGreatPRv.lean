/- A part of this claim's proof. No conditions. -/
import Derived.Test.YthjnhebofpebpaaGreatP36a
set_option linter.all false
namespace Go.Proofs.YthjnhebofpebpaaGreat
open Go Go.RowKit Sep
variable {A P:List Cm}
theorem dm{α:Type}[Inhabited α]{P S:List α}{x:α}{i:Int}(h:i=P.length:=by simp;omega):nth (P++x::S) i=x:=by
 subst h;rw[kh (by simp;omega)];simp
theorem dp{α:Type}{P S:List α}{x y:α}{i:Int}(h:i=P.length:=by simp;omega):(P++x::S).set i.toNat y=P++y::S:=by
 subst h;rw[show((P.length:Nat):Int).toNat=P.length from rfl,List.set_append_right _ _ (Nat.le_refl _)];simp
theorem cw{s:Int}(h0:0<=s:=by omega)(h1:s<4611686018427387904:=by omega):i64 ((u64 (i64 s)) / 2 ^ min (1:Int).toNat 64)=s / 2:=by
 rw[xQ (x:=s) (by omega)]
 have e:u64 s=s:=by
  unfold u64;rw[show IntKind.wrap .u64 s=s % 18446744073709551616 from rfl];omega
 rw[e,show(2:Int) ^ min (1:Int).toNat 64=2 from rfl,xQ (by omega)]
structure Cmp (f:Cm->Cm->Option Int) (lt:Cm->Cm->Prop):Prop where
 eq:∀ x y,∃ v,f x y=some v/\(v<0↔lt x y)
 asym:∀ x y,lt x y->¬lt y x
 tr:∀ x y z,¬lt y x->¬lt z y->¬lt z x
def qk(lt:Cm->Cm->Prop)(l:List Cm):Prop:=l.Pairwise fun x y=>¬lt y x
section
variable {f:Cm->Cm->Option Int} {lt:Cm->Cm->Prop}
theorem Wp(x:Cm):(⟨x.yf,x.ya,x.yb⟩:Cm)=x:=rfl
theorem qk.app{B:List Cm}:qk lt (A++B)↔qk lt A/\qk lt B/\∀ x∈A,∀ y∈B,¬lt y x:=List.pairwise_append
theorem qk.le_last(C:Cmp f lt){y:Cm}(h:qk lt (A++[y])):∀ x∈A++[y],¬lt y x:=by
 intro x hx
 rcases List.mem_append.1 hx with hx | hx
 ·exact(qk.app.1 h).2.2 x hx y (by simp)
 ·rw[List.mem_singleton.1 hx];exact fun hc=>C.asym _ _ hc hc
theorem qk.first_le(C:Cmp f lt){y:Cm}(h:qk lt (y::A)):∀ x∈y::A,¬lt x y:=by
 intro x hx
 rcases List.mem_cons.1 hx with hx | hx
 ·rw[hx];exact fun hc=>C.asym _ _ hc hc
 ·exact(List.pairwise_cons.1 h).1 x hx
theorem ins4(C:Cmp f lt){k:List Cm->Option (List Cm)}{P:List Cm}{a:Int}(ha:a=P.length):∀(n:Nat) (A G Z:List Cm) (x:Cm) (j:Int),A.length<n->j=P.length+A.length->(P++(A++x::(G++Z))).length<1152921504606846976->qk lt (A++G)->(∀ g∈G,lt x g)->
  ∃ M,M.Perm (A++x::G)/\qk lt M/\wP a f k n (P++(A++x::(G++Z))) j=k (P++(M++Z))
 | 0,A,G,Z,x,j,h0,hj,hl,hs,hg=>by omega
 | n+1,A,G,Z,x,j,h0,hj,hl,hs,hg=>by
  have sF:=hl
  simp only[List.length_append,List.length_cons] at sF
  rw[wP]
  rcases List.eq_nil_or_concat A with rfl | ⟨A',y,rfl⟩
  ·have e:¬j>a:=by simp at hj;omega
   rw[Nw e]
   simp only[oB,Bool.false_eq_true,if_false]
   refine⟨x::G,by simp,List.pairwise_cons.2 ⟨fun g h=>C.asym _ _ (hg g h),by simpa [qk] using hs⟩,by simp⟩
  ·rw[List.concat_eq_append] at *
   rw[List.length_append] at h0 hj sF
   simp only[List.length_singleton] at h0 hj sF
   have e:j>a:=by omega
   have e1:P++(A'++[y]++x::(G++Z))=(P++A')++y::(x::(G++Z)):=by simp
   have e2:P++(A'++[y]++x::(G++Z))=(P++A'++[y])++x::(G++Z):=by simp
   have j1:i64 (j-1)=j-1:=xQ (by omega)
   rw[Nv e,j1]
   have q1:(0:Int)<=j/\j<(((P++(A'++[y]++x::(G++Z))).length:Nat):Int):=by simp;omega
   have q2:(0:Int)<=j-1/\j-1<(((P++(A'++[y]++x::(G++Z))).length:Nat):Int):=by simp;omega
   have n1:nth (P++(A'++[y]++x::(G++Z))) j=x:=by rw[e2,dm]
   have n2:nth (P++(A'++[y]++x::(G++Z))) (j-1)=y:=by rw[e1,dm]
   rw[xL q1,xL q2,n1,n2]
   simp only[Wp]
   obtain⟨v,v1,v2⟩:=C.eq x y
   rw[v1]
   simp only[oB]
   by_cases hv:v<0
   ·rw[Nv hv,xL q2,xL q1,xL (by rw[List.length_set];exact q2)]
    have s1:(P++(A'++[y]++x::(G++Z))).set j.toNat y=(P++A')++y::(y::(G++Z)):=by
     rw[e2,dp];simp
    have s2:((P++A')++y::(y::(G++Z))).set (j-1).toNat x=P++(A'++x::(y::G++Z)):=by
     rw[dp];simp
    rw[s1,s2]
    obtain⟨M,m1,m2,m3⟩:=ins4 C (k:=k) ha n A' (y::G) Z x (j-1) (by omega) (by omega) (by simp;omega) (by simpa using hs) (by
     intro g hg'
     rcases List.mem_cons.1 hg' with rfl | hg'
     ·exact v2.1 hv
     ·exact hg g hg')
    refine⟨M,m1.trans ?_,m2,m3⟩
    rw[List.append_assoc]
    exact(List.Perm.swap ..).append_left _
   ·rw[Nw hv]
    have hyx:¬lt x y:=fun h=>hv (v2.2 h)
    refine⟨A'++[y]++x::G,.refl _,?_,by simp⟩
    have h1:=qk.app.1 hs
    refine qk.app.2 ⟨h1.1,List.pairwise_cons.2 ⟨fun g h=>C.asym _ _ (hg g h),h1.2.1⟩,?_⟩
    intro u hu w hw
    rcases List.mem_cons.1 hw with rfl | hw
    ·exact C.tr _ _ _ (h1.1.le_last C u hu) hyx
    ·exact h1.2.2 u hu w hw
theorem ins3(C:Cmp f lt){k:List Cm->Option (List Cm)}{P:List Cm}{a b:Int}(ha:a=P.length):∀(n:Nat) (R A Z:List Cm) (i:Int),R.length<n->i=P.length+A.length->b=P.length+A.length+R.length->(P++(A++(R++Z))).length<1152921504606846976->qk lt A->
  ∃ M,M.Perm (A++R)/\qk lt M/\ws b a f k n (P++(A++(R++Z))) i=k (P++(M++Z))
 | 0,R,A,Z,i,h0,hi,hb,hl,hs=>by omega
 | n+1,[],A,Z,i,h0,hi,hb,hl,hs=>by
  rw[ws,if_neg (by simp at hb ⊢;omega)]
  exact⟨A,by simp,hs,by simp⟩
 | n+1,x::R,A,Z,i,h0,hi,hb,hl,hs=>by
  rw[ws]
  rw[List.length_cons] at h0 hb
  have sF:=hl
  simp only[List.length_append,List.length_cons] at sF
  rw[Nv (by omega)]
  refine wA (P:=fun o=>∃ M,M.Perm (A++x::R)/\qk lt M/\o=k (P++(M++Z))) fun k1 w5=>?_
  refine wA (P:=fun o=>∃ M,M.Perm (A++x::R)/\qk lt M/\o=k (P++(M++Z))) fun k2 qh=>?_
  have hF:=wi
  obtain⟨M,m1,m2,m3⟩:=ins4 C (k:=k2) ha xR A [] (R++Z) x i (by omega) hi (by simp;omega) (by simpa using hs) (by simp)
  have ml:=m1.length_eq
  simp only[List.length_append,List.length_cons,List.length_nil] at ml
  obtain⟨M',p1,p2,p3⟩:=ins3 C (k:=k) ha n R M Z (i+1) (b:=b) (by omega) (by omega) (by omega) (by simp;omega) m2
  refine⟨M',p1.trans ((m1.append_right R).trans (by simp)),p2,?_⟩
  rw[show P++(A++(x::R++Z))=P++(A++x::([]++(R++Z))) by simp,m3,qh,w5,xQ (x:=i+1) (by omega),p3]
theorem FW(C:Cmp f lt){R Z:List Cm}{a b:Int}(ha:a=P.length)(hb:b=P.length+R.length)(hl:(P++(R++Z)).length<1152921504606846976:=by simp;omega):
  ∃ M,M.Perm R/\qk lt M/\vc (P++(R++Z)) a b f=some (P++(M++Z)):=by
 unfold vc
 refine wA (P:=fun o=>∃ M,M.Perm R/\qk lt M/\o=some (P++(M++Z))) fun k hk=>?_
 have hF:=wi
 have sF:=hl
 simp only[List.length_append] at sF
 rw[xQ (x:=a+1) (by omega)]
 cases R with
 | nil=>
  generalize xR=N at hF
  cases N with
  | zero=>omega
  | succ N=>
   rw[ws,if_neg (by simp at hb ⊢;omega),hk]
   exact⟨[],.refl _,.nil,rfl⟩
 | cons x R=>
  rw[List.length_cons] at hb sF
  obtain⟨M,m1,m2,m3⟩:=ins3 C (k:=k) ha xR R [x] Z (a+1) (b:=b) (by omega) (by simp;omega) (by simp;omega) (by simp;omega) (List.pairwise_singleton ..)
  refine⟨M,m1,m2,?_⟩
  rw[show P++(x::R++Z)=P++([x]++(R++Z)) by simp,m3,hk]
theorem U7{k:List Cm->Option (List Cm)}{P S Mi:List Cm}{a b n:Int}(ha:a=P.length):∀(m:Nat) (X1 X2 Y1 Y2:List Cm) (i:Int),X2.length<m->X1.length=Y1.length->X2.length=Y2.length->i=X1.length->n=X1.length+X2.length->b=P.length+X1.length+X2.length+Mi.length->(P++(Y1++(X2++(Mi++(X1++(Y2++S)))))).length<1152921504606846976->
  wL n b a k m (P++(Y1++(X2++(Mi++(X1++(Y2++S)))))) i=k (P++(Y1++Y2++(Mi++(X1++X2++S))))
 | 0,_,_,_,_,_,h0,_,_,_,_,_,_=>by omega
 | m+1,X1,[],Y1,[],i,h0,h1,h2,h3,h4,h5,hl=>by
  rw[wL,if_neg (by simp at h4 ⊢;omega)];simp
 | m+1,X1,x::X2,Y1,y::Y2,i,h0,h1,h2,h3,h4,h5,hl=>by
  have sF:=hl
  simp only[List.length_append,List.length_cons] at sF h0 h2 h4 h5
  rw[wL,Nv (by omega),xQ (x:=b+i) (by omega),xQ (x:=a+i) (by omega),xQ (x:=i+1) (by omega)]
  have e1:P++(Y1++(x::X2++(Mi++(X1++(y::Y2++S)))))=(P++Y1)++x::(X2++(Mi++(X1++(y::Y2++S)))):=by simp
  have e2:P++(Y1++(x::X2++(Mi++(X1++(y::Y2++S)))))=(P++Y1++x::X2++Mi++X1)++y::(Y2++S):=by simp
  have q1:(0:Int)<=b+i/\b+i<(((P++(Y1++(x::X2++(Mi++(X1++(y::Y2++S)))))).length:Nat):Int):=by simp;omega
  have q2:(0:Int)<=a+i/\a+i<(((P++(Y1++(x::X2++(Mi++(X1++(y::Y2++S)))))).length:Nat):Int):=by simp;omega
  have n1:nth (P++(Y1++(x::X2++(Mi++(X1++(y::Y2++S)))))) (b+i)=y:=by rw[e2,dm]
  have n2:nth (P++(Y1++(x::X2++(Mi++(X1++(y::Y2++S)))))) (a+i)=x:=by rw[e1,dm]
  rw[xL q1,xL q2,xL (by rw[List.length_set];exact q1),n1,n2]
  simp only[Wp]
  have s1:(P++(Y1++(x::X2++(Mi++(X1++(y::Y2++S)))))).set (a+i).toNat y=(P++Y1++y::X2++Mi++X1)++y::(Y2++S):=by
   rw[e1,dp];simp
  have s2:((P++Y1++y::X2++Mi++X1)++y::(Y2++S)).set (b+i).toNat x=P++(Y1++[y]++(X2++(Mi++(X1++[x]++(Y2++S))))):=by
   rw[dp];simp
  rw[s1,s2,U7 ha m (X1++[x]) X2 (Y1++[y]) Y2 (i+1) (by omega) (by simp;omega) (by omega) (by simp;omega) (by simp;omega) (by simp;omega) (by simp;omega)]
  simp
theorem Xs{X Mi Y S:List Cm}{a b n:Int}(hb:b=P.length+X.length+Mi.length)(hn:n=X.length)(hxy:X.length=Y.length)(hl:(P++(X++(Mi++(Y++S)))).length<1152921504606846976)(ha:a=P.length:=by omega):
  vJ (P++(X++(Mi++(Y++S)))) a b n f=some (P++(Y++(Mi++(X++S)))):=by
 unfold vJ
 refine wA (P:=fun o=>o=some (P++(Y++(Mi++(X++S))))) fun k hk=>?_
 have hF:=wi
 have sF:=hl
 simp only[List.length_append] at sF
 have:=U7 (k:=k) (P:=P) (S:=S) (Mi:=Mi) (b:=b) (n:=n) ha xR [] X [] Y 0 (by omega) rfl hxy rfl (by simp;omega) (by simp;omega) (by simpa using sF)
 simp only[List.nil_append] at this
 rw[this,hk]
theorem MR{m:Int}{K:List Cm->Int->Option (List Cm)}{r:Option (List Cm)}(hK:∀(P U V S:List Cm),U.length=V.length->m=P.length+U.length->(P++(U++(V++S))).length<1152921504606846976->K (P++(U++(V++S))) U.length=some (P++(V++(U++S)))):
  ∀(n:Nat) (P U V S:List Cm) (i j:Int),U.length+V.length<n->0<U.length->0<V.length->i=U.length->j=V.length->m=P.length+U.length->(P++(U++(V++S))).length<1152921504606846976->
  wY m f K n (P++(U++(V++S))) i j=some (P++(V++(U++S)))
 | 0,_,_,_,_,_,_,h0,_,_,_,_,_,_=>by omega
 | n+1,P,U,V,S,i,j,h0,hu,hv,hi,hj,hm,hl=>by
  have sF:=hl
  simp only[List.length_append] at sF
  rw[wY]
  by_cases h:i≠j
  ·rw[Nv h]
   by_cases h2:i>j
   ·rw[Nv h2,xQ (x:=m-i) (by omega),xQ (x:=i-j) (by omega)]
    have hU:U=U.take V.length++U.drop V.length:=(List.take_append_drop _ _).symm
    have l1:(U.take V.length).length=V.length:=by rw[List.length_take];omega
    have l2:(U.drop V.length).length=U.length-V.length:=List.length_drop
    generalize U.take V.length=U1 at hU l1
    generalize U.drop V.length=U2 at hU l2
    subst hU
    rw[List.length_append] at hm hi sF h0
    rw[show P++(U1++U2++(V++S))=P++(U1++(U2++(V++S))) by simp,Xs (by omega) (by omega) l1 (by simp;omega)]
    simp only[oB]
    have:=MR (r:=r) hK n (P++V) U2 U1 S (i-j) j (by omega) (by omega) (by omega) (by omega) (by omega) (by simp;omega) (by simp;omega)
    rw[show P++(V++(U2++(U1++S)))=P++V++(U2++(U1++S)) by simp,this]
    simp
   ·rw[Nw h2,xQ (x:=m-i) (by omega),xQ (x:=m+j) (by omega),xQ (x:=m+j-i) (by omega),xQ (x:=j-i) (by omega)]
    have hV:V=V.take (V.length-U.length)++V.drop (V.length-U.length):=(List.take_append_drop _ _).symm
    have l1:(V.take (V.length-U.length)).length=V.length-U.length:=by rw[List.length_take];omega
    have l2:(V.drop (V.length-U.length)).length=U.length:=by rw[List.length_drop];omega
    generalize V.take (V.length-U.length)=V1 at hV l1
    generalize V.drop (V.length-U.length)=V2 at hV l2
    subst hV
    rw[List.length_append] at hj sF h0
    rw[show P++(U++(V1++V2++S))=P++(U++(V1++(V2++S))) by simp,Xs (by omega) (by omega) l2.symm (by simp;omega)]
    simp only[oB]
    have:=MR (r:=r) hK n P V2 V1 (U++S) i (j-i) (by omega) (by omega) (by omega) (by omega) (by omega) (by omega) (by simp;omega)
    rw[this]
    simp
  ·rw[Nw h]
   rw[hi]
   exact hK P U V S (by omega) hm hl
theorem Tr{U V S:List Cm}{a m b:Int}(ha:a=P.length)(hm:m=P.length+U.length)(hb:b=P.length+U.length+V.length)(hu:0<U.length)(hv:0<V.length)(hl:(P++(U++(V++S))).length<1152921504606846976):
  jy (P++(U++(V++S))) a m b f=some (P++(V++(U++S))):=by
 unfold jy
 refine tc (P:=fun o=>o=some (P++(V++(U++S)))) fun k hk=>?_
 have hF:=wi
 have sF:=hl
 simp only[List.length_append] at sF
 rw[xQ (x:=m-a) (by omega),xQ (x:=b-m) (by omega)]
 refine MR (r:=none) ?_ xR P U V S (m-a) (b-m) (by omega) hu hv (by omega) (by omega) hm hl
 intro P U V S h1 h2 h3
 have h3':=h3
 simp only[List.length_append] at h3'
 rw[hk,xQ (by omega)]
 have:=Xs (f:=f) (P:=P) (X:=U) (Mi:=[]) (Y:=V) (S:=S) (a:=m-U.length) (b:=m) (n:=U.length) (by simp;omega) rfl h1 (by simpa using h3')
 simp only[List.nil_append] at this
 rw[this];rfl
end
end Go.Proofs.YthjnhebofpebpaaGreat
namespace Go.Proofs.YthjnhebofpebpaaGreat
open Go Go.RowKit Sep
section
variable {f:Cm->Cm->Option Int} {lt:Cm->Cm->Prop}
theorem MS{d:List Cm}{i:Int}:(⟨(nth d i).yf,(nth d i).ya,(nth d i).yb⟩:Cm)=nth d i:=rfl
theorem bs6(C:Cmp f lt){k:Int->Option (List Cm)}{d:List Cm}{a m b:Int}(ha:0<=a/\a<d.length)(hm:0<=m)(hb:b<=d.length)(hd:d.length<1152921504606846976):∀(n:Nat) (i j:Int),j-i<n->m<=i->i<=j->j<=b->(i=m\/lt (nth d (i-1)) (nth d a))->(j=b\/¬lt (nth d j) (nth d a))->
  ∃ r,wQ d a f k n i j=k r/\m<=r/\r<=b/\(r=m\/lt (nth d (r-1)) (nth d a))/\(r=b\/¬lt (nth d r) (nth d a))
 | 0,i,j,h0,h1,h2,h3,h4,h5=>by omega
 | n+1,i,j,h0,h1,h2,h3,h4,h5=>by
  rw[wQ]
  by_cases h:i<j
  ·rw[Nv h,cw (s:=i+j)]
   have q:(0:Int)<=(i+j) / 2/\(i+j) / 2<d.length:=by omega
   rw[xL q,xL ha]
   simp only[MS]
   obtain⟨v,v1,v2⟩:=C.eq (nth d ((i+j) / 2)) (nth d a)
   rw[v1]
   simp only[oB]
   by_cases hv:v<0
   ·rw[Nv hv,xQ (x:=(i+j) / 2+1) (by omega)]
    exact bs6 C ha hm hb hd n _ j (by omega) (by omega) (by omega) h3 (.inr (by rw[show(i+j) / 2+1-1=(i+j) / 2 by omega];exact v2.1 hv)) h5
   ·rw[Nw hv]
    exact bs6 C ha hm hb hd n i _ (by omega) h1 (by omega) (by omega) h4 (.inr fun hc=>hv (v2.2 hc))
  ·rw[Nw h]
   have:i=j:=by omega
   subst this
   exact⟨i,rfl,h1,h3,h4,h5⟩
theorem bs8(C:Cmp f lt){k:Int->Option (List Cm)}{d:List Cm}{a m:Int}(ha:0<=a)(hm:0<=m/\m<d.length)(hd:d.length<1152921504606846976):∀(n:Nat) (i j:Int),j-i<n->a<=i->i<=j->j<=m->(i=a\/¬lt (nth d m) (nth d (i-1)))->(j=m\/lt (nth d m) (nth d j))->
  ∃ r,wS m d f k n i j=k r/\a<=r/\r<=m/\(r=a\/¬lt (nth d m) (nth d (r-1)))/\(r=m\/lt (nth d m) (nth d r))
 | 0,i,j,h0,h1,h2,h3,h4,h5=>by omega
 | n+1,i,j,h0,h1,h2,h3,h4,h5=>by
  rw[wS]
  by_cases h:i<j
  ·rw[Nv h,cw (s:=i+j)]
   have q:(0:Int)<=(i+j) / 2/\(i+j) / 2<d.length:=by omega
   rw[xL hm,xL q]
   simp only[MS]
   obtain⟨v,v1,v2⟩:=C.eq (nth d m) (nth d ((i+j) / 2))
   rw[v1]
   simp only[oB]
   by_cases hv:v<0
   ·rw[if_neg (by simpa using hv)]
    exact bs8 C ha hm hd n i _ (by omega) h1 (by omega) (by omega) h4 (.inr (v2.1 hv))
   ·rw[if_pos (by simpa using hv),xQ (x:=(i+j) / 2+1) (by omega)]
    exact bs8 C ha hm hd n _ j (by omega) (by omega) (by omega) h3 (.inr (by rw[show(i+j) / 2+1-1=(i+j) / 2 by omega];exact fun hc=>hv (v2.2 hc))) h5
  ·rw[Nw h]
   have:i=j:=by omega
   subst this
   exact⟨i,rfl,h1,h3,h4,h5⟩
theorem MT(C:Cmp f lt){k:Int->Option (List Cm)}{d:List Cm}{a m b lo hi:Int}(hb:0<=a/\a<=b/\0<=m/\b<=d.length/\m<=d.length)(hd:d.length<1152921504606846976)(hh:hi<=d.length)(hp:hi<=(a+b) / 2+m)(hq:(a+b) / 2+m-1-lo<d.length)(h0:0<=lo):
  ∀(n:Nat) (i j:Int),j-i<n->lo<=i->i<=j->j<=hi->(i=lo\/¬lt (nth d ((a+b) / 2+m-i)) (nth d (i-1)))->(j=hi\/lt (nth d ((a+b) / 2+m-1-j)) (nth d j))->
  ∃ r,wM a b m d f k n i j=k r/\lo<=r/\r<=hi/\(r=lo\/¬lt (nth d ((a+b) / 2+m-r)) (nth d (r-1)))/\(r=hi\/lt (nth d ((a+b) / 2+m-1-r)) (nth d r))
 | 0,i,j,h0,h1,h2,h3,h4,h5=>by omega
 | n+1,i,j,h0,h1,h2,h3,h4,h5=>by
  rw[wM]
  by_cases h:i<j
  ·rw[Nv h,cw (s:=i+j),cw (s:=a+b),xQ (x:=(a+b) / 2+m) (by omega),xQ (x:=(a+b) / 2+m-1) (by omega),xQ (x:=(a+b) / 2+m-1-(i+j) / 2) (by omega)]
   have q:(0:Int)<=(i+j) / 2/\(i+j) / 2<d.length:=by omega
   have q2:(0:Int)<=(a+b) / 2+m-1-(i+j) / 2/\(a+b) / 2+m-1-(i+j) / 2<d.length:=by omega
   rw[xL q2,xL q]
   simp only[MS]
   obtain⟨v,v1,v2⟩:=C.eq (nth d ((a+b) / 2+m-1-(i+j) / 2)) (nth d ((i+j) / 2))
   rw[v1]
   simp only[oB]
   by_cases hv:v<0
   ·rw[if_neg (by simpa using hv)]
    exact MT C hb hd hh hp hq (by omega) n i _ (by omega) h1 (by omega) (by omega) h4 (.inr (v2.1 hv))
   ·rw[if_pos (by simpa using hv),xQ (x:=(i+j) / 2+1) (by omega)]
    exact MT C hb hd hh hp hq (by omega) n _ j (by omega) (by omega) (by omega) h3 (.inr (by rw[show(i+j) / 2+1-1=(i+j) / 2 by omega,show(a+b) / 2+m-((i+j) / 2+1)=(a+b) / 2+m-1-(i+j) / 2 by omega];exact fun hc=>hv (v2.2 hc))) h5
  ·rw[Nw h]
   have:i=j:=by omega
   subst this
   exact⟨i,rfl,h1,h3,h4,h5⟩
theorem mv7{k:List Cm->Option (List Cm)}{P S:List Cm}{x:Cm}{i:Int}:∀(n:Nat) (Q R:List Cm) (j:Int),R.length<n->j=P.length+Q.length->i=P.length+Q.length+1+R.length->(P++(Q++x::(R++S))).length<1152921504606846976->
  wR i k n (P++(Q++x::(R++S))) j=k (P++(Q++(R++x::S)))
 | 0,Q,R,j,h0,hj,hi,hl=>by omega
 | n+1,Q,[],j,h0,hj,hi,hl=>by
  have sF:=hl
  simp only[List.length_append,List.length_cons,List.length_nil] at sF hi
  rw[wR,xQ (x:=i-1) (by omega),if_neg (by simp;omega)];rfl
 | n+1,Q,y::R,j,h0,hj,hi,hl=>by
  have sF:=hl
  simp only[List.length_append,List.length_cons] at sF hi h0
  rw[wR,xQ (x:=i-1) (by omega),Nv (by omega),xQ (x:=j+1) (by omega)]
  have e1:P++(Q++x::(y::R++S))=(P++Q)++x::(y::R++S):=by simp
  have e2:P++(Q++x::(y::R++S))=(P++Q++[x])++y::(R++S):=by simp
  have q1:(0:Int)<=j/\j<(((P++(Q++x::(y::R++S))).length:Nat):Int):=by simp;omega
  have q2:(0:Int)<=j+1/\j+1<(((P++(Q++x::(y::R++S))).length:Nat):Int):=by simp;omega
  have n1:nth (P++(Q++x::(y::R++S))) j=x:=by rw[e1,dm]
  have n2:nth (P++(Q++x::(y::R++S))) (j+1)=y:=by rw[e2,dm]
  rw[xL q2,xL q1,xL (by rw[List.length_set];exact q2),n1,n2]
  simp only[Wp]
  have s1:(P++(Q++x::(y::R++S))).set j.toNat y=(P++Q++[y])++y::(R++S):=by
   rw[e1,dp];simp
  have s2:((P++Q++[y])++y::(R++S)).set (j+1).toNat x=P++((Q++[y])++x::(R++S)):=by
   rw[dp];simp
  rw[s1,s2,mv7 n (Q++[y]) R (j+1) (by omega) (by simp;omega) (by simp;omega) (by simp;omega)]
  simp
theorem mv9{k:List Cm->Option (List Cm)}{P:List Cm}{y:Cm}{i:Int}(hi:i=P.length):∀(n:Nat) (R S:List Cm) (j:Int),R.length<n->j=P.length+R.length->(P++(R++y::S)).length<1152921504606846976->
  vx i k n (P++(R++y::S)) j=k (P++(y::(R++S)))
 | 0,R,S,j,h0,hj,hl=>by omega
 | n+1,R,S,j,h0,hj,hl=>by
  have sF:=hl
  simp only[List.length_append,List.length_cons] at sF
  rw[vx]
  rcases List.eq_nil_or_concat R with rfl | ⟨R,x,rfl⟩
  ·rw[if_neg (by simp at hj ⊢;omega)];rfl
  ·rw[List.concat_eq_append] at *
   simp only[List.length_append,List.length_singleton] at h0 hj sF
   rw[Nv (by omega),xQ (x:=j-1) (by omega)]
   have e1:P++(R++[x]++y::S)=(P++R)++x::(y::S):=by simp
   have e2:P++(R++[x]++y::S)=(P++R++[x])++y::S:=by simp
   have q1:(0:Int)<=j/\j<(((P++(R++[x]++y::S)).length:Nat):Int):=by simp;omega
   have q2:(0:Int)<=j-1/\j-1<(((P++(R++[x]++y::S)).length:Nat):Int):=by simp;omega
   have n1:nth (P++(R++[x]++y::S)) j=y:=by rw[e2,dm]
   have n2:nth (P++(R++[x]++y::S)) (j-1)=x:=by rw[e1,dm]
   rw[xL q2,xL q1,xL (by rw[List.length_set];exact q2),n1,n2]
   simp only[Wp]
   have s1:(P++(R++[x]++y::S)).set j.toNat x=(P++R)++x::x::S:=by
    rw[e2,dp];simp
   have s2:((P++R)++x::x::S).set (j-1).toNat y=P++(R++y::(x::S)):=by
    rw[dp];simp
   first
   | rw[s1,s2,mv9 hi n R (x::S) (j-1) (by omega) (by omega) (by simp;omega)]
   | (
     have s1:(P++(R++[x]++y::S)).set (j-1).toNat y=(P++R)++y::y::S:=by
      rw[e1,dp]
     have s2:((P++R)++y::y::S).set j.toNat x=P++(R++y::(x::S)):=by
      rw[show(P++R)++y::y::S=(P++R++[y])++y::S by simp,dp];simp
     rw[s1,s2,mv9 hi n R (x::S) (j-1) (by omega) (by omega) (by simp;omega)])
   simp
end
end Go.Proofs.YthjnhebofpebpaaGreat
namespace Go.Proofs.YthjnhebofpebpaaGreat
open Go Go.RowKit Sep
section
variable {f:Cm->Cm->Option Int} {lt:Cm->Cm->Prop}
theorem GF{α:Type}[Inhabited α]{P B S:List α}{i:Int}(h:P.length<=i/\i<P.length+B.length):nth (P++(B++S)) i=nth B (i-P.length):=by
 rw[kh (by simp;omega),kh (by omega)]
 rw[List.getElem_append_right (by omega),List.getElem_append_left (by omega)]
 congr 1;omega
theorem MU{B:List Cm}{n:Nat}(hn:n<=B.length)(h0:0<n):∃ L,B.take n=L++[nth B ((n:Int)-1)]:=by
 refine⟨B.take (n-1),?_⟩
 have:=take_succ B (i:=(n:Int)-1) (by omega)
 rw[show((n:Int)-1+1).toNat=n by omega,show((n:Int)-1).toNat=n-1 by omega] at this
 exact this
theorem FX{B:List Cm}{n:Nat}(hn:n<B.length):∃ L,B.drop n=nth B (n:Int)::L:=by
 have:=kZ (l:=B) (i:=(n:Int)) (by omega) (by omega)
 exact⟨_,this⟩
theorem qk.take_le(C:Cmp f lt){B:List Cm}(h:qk lt B){n:Nat}(hn:n<=B.length){x:Cm}(hx:n=0\/¬lt x (nth B ((n:Int)-1))):∀ y∈B.take n,¬lt x y:=by
 intro y hy
 rcases hx with rfl | hx
 ·simp at hy
 ·by_cases h0:n=0
  ·subst h0;simp at hy
  ·obtain⟨L,hL⟩:=MU hn (by omega)
   rw[hL] at hy
   have hs:qk lt (L++[nth B ((n:Int)-1)]):=by rw[<- hL];exact List.Pairwise.sublist (List.take_sublist _ _) h
   exact C.tr _ _ _ (hs.le_last C y hy) hx
theorem qk.le_drop(C:Cmp f lt){B:List Cm}(h:qk lt B){n:Nat}{x:Cm}(hx:B.length<=n\/¬lt (nth B (n:Int)) x):∀ y∈B.drop n,¬lt y x:=by
 intro y hy
 by_cases h0:n<B.length
 ·rcases hx with hx | hx
  ·omega
  ·obtain⟨L,hL⟩:=FX h0
   rw[hL] at hy
   have hs:qk lt (nth B (n:Int)::L):=by rw[<- hL];exact List.Pairwise.sublist (List.drop_sublist _ _) h
   exact C.tr _ _ _ hx (hs.first_le C y hy)
 ·rw[List.drop_eq_nil_of_le (by omega)] at hy;simp at hy
theorem JL(C:Cmp f lt):∀(n:Nat) (P A B S:List Cm) (a m b:Int),A.length+B.length<=n->0<A.length->0<B.length->qk lt A->qk lt B->a=P.length->m=P.length+A.length->b=P.length+A.length+B.length->(P++(A++(B++S))).length<1152921504606846976->
  ∃ M,M.Perm (A++B)/\qk lt M/\vf n (P++(A++(B++S))) a m b f=some (P++(M++S))
 | 0,P,A,B,S,a,m,b,h0,hA,hB,sA,sB,ha,hm,hb,hl=>by omega
 | n+1,P,A,B,S,a,m,b,h0,hA,hB,sA,sB,ha,hm,hb,hl=>by
  have sF:=hl
  simp only[List.length_append] at sF
  rw[vf]
  have hF:=wi
  have hz:∀ x:Cm,¬lt x x:=fun x hc=>C.asym _ _ hc hc
  generalize hN:xR=N at hF ⊢
  refine gN (P:=fun o=>∃ M,M.Perm (A++B)/\qk lt M/\o=some (P++(M++S))) fun k0 AB=>?_
  rw[xQ (x:=m-a) (by omega)]
  by_cases c1:m-a=1
  ·rw[Nv c1]
   obtain⟨x,rfl⟩:∃ x,A=[x]:=by
    match A with
    | [x]=>exact⟨x,rfl⟩
    | []=>simp at hA
    | x::y::A=>simp at hm;omega
   simp only[List.length_singleton] at hm hb sF
   refine wA (P:=fun o=>∃ M,M.Perm ([x]++B)/\qk lt M/\o=some (P++(M++S))) fun k1 w5=>?_
   have e1:P++([x]++(B++S))=P++x::(B++S):=rfl
   have e2:P++([x]++(B++S))=(P++[x])++(B++S):=by simp
   have n0:nth (P++([x]++(B++S))) a=x:=by rw[e1,dm (h:=ha)]
   have nB:∀ i:Int,m<=i->i<b->nth (P++([x]++(B++S))) i=nth B (i-m):=by
    intro i h1 h2
    rw[e2,GF (by simp;omega)]
    simp only[List.length_append,List.length_singleton]
    congr 1;omega
   obtain⟨r,r1,r2,r3,r4,r5⟩:=bs6 C (k:=k1) (d:=P++([x]++(B++S))) (a:=a) (m:=m) (b:=b) (by simp;omega) (by omega) (by simp;omega) hl N m b (by omega) (by omega) (by omega) (by omega) (.inl rfl) (.inl rfl)
   rw[r1,w5,n0] at *
   obtain⟨q,rfl⟩:∃ q:Nat,r=m+q:=⟨(r-m).toNat,by omega⟩
   have t1:∀ y∈B.take q,¬lt x y:=sB.take_le C (by omega) (by
    rcases r4 with h | h
    ·exact .inl (by omega)
    ·by_cases hq:q=0
     ·exact .inl hq
     ·rw[nB _ (by omega) (by omega),show m+(q:Int)-1-m=(q:Int)-1 by omega] at h
      exact .inr (C.asym _ _ h))
   have t2:∀ y∈B.drop q,¬lt y x:=sB.le_drop C (by
    rcases r5 with h | h
    ·exact .inl (by omega)
    ·by_cases hq:B.length<=q
     ·exact .inl hq
     ·rw[nB _ (by omega) (by omega),show m+(q:Int)-m=(q:Int) by omega] at h
      exact .inr h)
   have hBq:B=B.take q++B.drop q:=(List.take_append_drop _ _).symm
   have l1:(B.take q).length=q:=by rw[List.length_take];omega
   generalize B.take q=B1 at *
   generalize B.drop q=B2 at *
   subst hBq
   refine wA (P:=fun o=>∃ M,M.Perm ([x]++(B1++B2))/\qk lt M/\o=some (P++(M++S))) fun k2 qh=>?_
   have CL:=qk.app.1 sB
   refine⟨B1++x::B2,List.perm_middle,qk.app.2 ⟨CL.1,List.pairwise_cons.2 ⟨t2,CL.2.1⟩,?_⟩,?_⟩
   ·intro u hu w hw
    rcases List.mem_cons.1 hw with rfl | hw
    ·exact t1 u hu
    ·exact CL.2.2 u hu w hw
   ·simp only[List.length_append] at hb sF
    have:=mv7 (k:=k2) (P:=P) (S:=B2++S) (x:=x) (i:=m+q) N [] B1 a (by omega) (by simp;omega) (by simp;omega) (by simp;omega)
    rw[show P++([x]++(B1++B2++S))=P++([]++x::(B1++(B2++S))) by simp,this,qh];simp
  ·rw[Nw c1,AB]
   refine gN (P:=fun o=>∃ M,M.Perm (A++B)/\qk lt M/\o=some (P++(M++S))) fun k0 AB=>?_
   rw[xQ (x:=b-m) (by omega)]
   by_cases c2:b-m=1
   ·rw[Nv c2]
    obtain⟨y,rfl⟩:∃ y,B=[y]:=by
     match B with
     | [x]=>exact⟨x,rfl⟩
     | []=>simp at hB
     | x::y::A=>simp at hb;omega
    simp only[List.length_singleton] at hb sF
    refine wA (P:=fun o=>∃ M,M.Perm (A++[y])/\qk lt M/\o=some (P++(M++S))) fun k1 w5=>?_
    have n0:nth (P++(A++([y]++S))) m=y:=by
     rw[show P++(A++([y]++S))=(P++A)++y::S by simp,dm]
    have nA:∀ i:Int,a<=i->i<m->nth (P++(A++([y]++S))) i=nth A (i-a):=by
     intro i h1 h2
     rw[GF (by omega),ha]
    obtain⟨r,r1,r2,r3,r4,r5⟩:=bs8 C (k:=k1) (d:=P++(A++([y]++S))) (a:=a) (m:=m) (by omega) (by simp;omega) hl N a m (by omega) (by omega) (by omega) (by omega) (.inl rfl) (.inl rfl)
    rw[r1,w5,n0] at *
    obtain⟨q,rfl⟩:∃ q:Nat,r=a+q:=⟨(r-a).toNat,by omega⟩
    have t1:∀ x∈A.take q,¬lt y x:=sA.take_le C (by omega) (by
     rcases r4 with h | h
     ·exact .inl (by omega)
     ·by_cases hq:q=0
      ·exact .inl hq
      ·rw[nA _ (by omega) (by omega),show a+(q:Int)-1-a=(q:Int)-1 by omega] at h
       exact .inr h)
    have t2:∀ x∈A.drop q,¬lt x y:=sA.le_drop C (by
     rcases r5 with h | h
     ·exact .inl (by omega)
     ·by_cases hq:A.length<=q
      ·exact .inl hq
      ·rw[nA _ (by omega) (by omega),show a+(q:Int)-a=(q:Int) by omega] at h
       exact .inr (C.asym _ _ h))
    have hAq:A=A.take q++A.drop q:=(List.take_append_drop _ _).symm
    have l1:(A.take q).length=q:=by rw[List.length_take];omega
    generalize A.take q=A1 at *
    generalize A.drop q=A2 at *
    subst hAq
    refine wA (P:=fun o=>∃ M,M.Perm (A1++A2++[y])/\qk lt M/\o=some (P++(M++S))) fun k2 qh=>?_
    have CN:=qk.app.1 sA
    refine⟨A1++y::A2,?_,qk.app.2 ⟨CN.1,List.pairwise_cons.2 ⟨t2,CN.2.1⟩,?_⟩,?_⟩
    ·rw[List.append_assoc];exact(List.perm_append_comm (l₁:=[y])).append_left _
    ·intro u hu w hw
     rcases List.mem_cons.1 hw with rfl | hw
     ·exact t1 u hu
     ·exact CN.2.2 u hu w hw
    ·simp only[List.length_append] at hb hm sF
     have:=mv9 (k:=k2) (P:=P++A1) (y:=y) (i:=a+q) (by simp;omega) N A2 S m (by omega) (by simp;omega) (by simp;omega)
     rw[show P++(A1++A2++([y]++S))=P++A1++(A2++y::S) by simp,this,qh];simp
   ·rw[Nw c2,AB]
    refine tc (P:=fun o=>∃ M,M.Perm (A++B)/\qk lt M/\o=some (P++(M++S))) fun k2 qh=>?_
    rw[cw (s:=a+b)]
    have E3:∀ lo hi:Int,(m>(a+b) / 2->lo=(a+b) / 2+m-b/\hi=(a+b) / 2)->(¬m>(a+b) / 2->lo=a/\hi=m)->∃ M,M.Perm (A++B)/\qk lt M/\k2 lo hi=some (P++(M++S)):=by
     intro lo hi hg hs
     rw[qh]
     refine wA (P:=fun o=>∃ M,M.Perm (A++B)/\qk lt M/\o=some (P++(M++S))) fun k3 Ea=>?_
     obtain⟨r,r1,r2,r3,r4,r5⟩:=MT C (k:=k3) (d:=P++(A++(B++S))) (a:=a) (m:=m) (b:=b) (lo:=lo) (hi:=hi) (by simp;omega) hl (by simp;omega) (by omega) (by simp;omega) (by omega) N lo hi (by omega) (by omega) (by omega) (by omega) (.inl rfl) (.inl rfl)
     rw[r1,Ea]
     simp only[cw (s:=a+b),xQ (x:=(a+b) / 2+m) (by omega),xQ (x:=(a+b) / 2+m-r) (by omega)]
     obtain⟨p,rfl⟩:∃ p:Nat,r=a+p:=⟨(r-a).toNat,by omega⟩
     obtain⟨q,hq⟩:∃ q:Nat,(a+b) / 2+m-(a+p)=m+q:=⟨((a+b) / 2-(a+p)).toNat,by omega⟩
     rw[hq] at r4 ⊢
     rw[show(a+b) / 2+m-1-(a+p)=m+q-1 by omega] at r5
     have hp:p<=A.length:=by omega
     have C9:q<=B.length:=by omega
     have nA:∀ i:Int,a<=i->i<m->nth (P++(A++(B++S))) i=nth A (i-a):=by
      intro i h1 h2
      rw[GF (by omega),ha]
     have nB:∀ i:Int,m<=i->i<b->nth (P++(A++(B++S))) i=nth B (i-m):=by
      intro i h1 h2
      rw[show P++(A++(B++S))=(P++A)++(B++S) by simp,GF (by simp;omega)]
      simp only[List.length_append]
      congr 1;omega
     have F1:∀ x∈A.take p,∀ y∈B.drop q,¬lt y x:=by
      intro x hx y hy
      by_cases ER:q<B.length
      ·by_cases zw:p=0
       ·subst zw;simp at hx
       ·have hr:¬lt (nth B (q:Int)) (nth A ((p:Int)-1)):=by
         rcases r4 with h | h
         ·omega
         ·rw[nB _ (by omega) (by omega),nA _ (by omega) (by omega),show m+(q:Int)-m=q by omega,show a+(p:Int)-1-a=(p:Int)-1 by omega] at h
          exact h
        have:=sA.take_le C hp (x:=nth B (q:Int)) (.inr hr) x hx
        exact sB.le_drop C (n:=q) (x:=x) (.inr this) y hy
      ·rw[List.drop_eq_nil_of_le (by omega)] at hy;simp at hy
     have F2:∀ x∈B.take q,∀ y∈A.drop p,¬lt y x:=by
      intro x hx y hy
      by_cases zw:p<A.length
      ·by_cases ER:q=0
       ·subst ER;simp at hx
       ·have hr:¬lt (nth A (p:Int)) (nth B ((q:Int)-1)):=by
         rcases r5 with h | h
         ·omega
         ·rw[nB _ (by omega) (by omega),nA _ (by omega) (by omega),show a+(p:Int)-a=p by omega,show m+(q:Int)-1-m=(q:Int)-1 by omega] at h
          exact C.asym _ _ h
        have:=sB.take_le C C9 (x:=nth A (p:Int)) (.inr hr) x hx
        exact sA.le_drop C (n:=p) (x:=x) (.inr this) y hy
      ·rw[List.drop_eq_nil_of_le (by omega)] at hy;simp at hy
     have hmid:(a+b) / 2=a+p+q:=by omega
     rw[hmid]
     clear nA nB r4 r5 r1
     have hAp:A=A.take p++A.drop p:=(List.take_append_drop _ _).symm
     have hBq:B=B.take q++B.drop q:=(List.take_append_drop _ _).symm
     have l1:(A.take p).length=p:=by rw[List.length_take];omega
     have l2:(B.take q).length=q:=by rw[List.length_take];omega
     generalize A.take p=A1 at *
     generalize A.drop p=A2 at *
     generalize B.take q=B1 at *
     generalize B.drop q=B2 at *
     subst hAp hBq
     simp only[List.length_append] at hm hb sF h0 hA hB hp C9
     have CN:=qk.app.1 sA
     have CL:=qk.app.1 sB
     refine wA (P:=fun o=>∃ M,M.Perm (A1++A2++(B1++B2))/\qk lt M/\o=some (P++(M++S))) fun k4 E2=>?_
     have BU:∃ M,M.Perm (A1++A2++(B1++B2))/\qk lt M/\k4 (P++(A1++(B1++(A2++(B2++S)))))=some (P++(M++S)):=by
      rw[E2]
      refine wA (P:=fun o=>∃ M,M.Perm (A1++A2++(B1++B2))/\qk lt M/\o=some (P++(M++S))) fun k5 hk5=>?_
      have AP:∀ M1,M1.Perm (A1++B1)->qk lt M1->∃ M,M.Perm (A1++A2++(B1++B2))/\qk lt M/\k5 (P++(M1++(A2++(B2++S))))=some (P++(M++S)):=by
       intro M1 p1 s1
       have ml:=p1.length_eq
       rw[List.length_append] at ml
       have fin:∀ M2,M2.Perm (A2++B2)->qk lt M2->(M1++M2).Perm (A1++A2++(B1++B2))/\qk lt (M1++M2):=by
        intro M2 p2 s2
        constructor
        ·refine(p1.append p2).trans ?_
         rw[List.append_assoc,List.append_assoc]
         refine List.Perm.append_left _ ?_
         rw[<- List.append_assoc,<- List.append_assoc]
         exact List.perm_append_comm.append_right _
        ·refine qk.app.2 ⟨s1,s2,fun x hx y hy=>?_⟩
         rcases List.mem_append.1 (p1.mem_iff.1 hx) with hx | hx <;> rcases List.mem_append.1 (p2.mem_iff.1 hy) with hy | hy
         ·exact CN.2.2 x hx y hy
         ·exact F1 x hx y hy
         ·exact F2 x hx y hy
         ·exact CL.2.2 x hx y hy
       rw[hk5]
       by_cases c:a+p+q<m+q/\m+q<b
       ·rw[if_pos (by simpa using c)]
        obtain⟨M2,p2,s2,e2⟩:=JL C n (P++M1) A2 B2 S (a+p+q) (m+q) b (by omega) (by omega) (by omega) CN.2.1 CL.2.1 (by simp;omega) (by simp;omega) (by simp;omega) (by simp;omega)
        obtain⟨f1,f2⟩:=fin M2 p2 s2
        rw[show P++(M1++(A2++(B2++S)))=P++M1++(A2++(B2++S)) by simp,e2]
        exact⟨M1++M2,f1,f2,by simp⟩
       ·rw[if_neg (by simpa using c)]
        have hz:qk lt (A2++B2):=by
         refine qk.app.2 ⟨CN.2.1,CL.2.1,fun x hx y hy=>?_⟩
         have h1:=List.length_pos_of_mem hx
         have h2:=List.length_pos_of_mem hy
         omega
        obtain⟨f1,f2⟩:=fin (A2++B2) (.refl _) hz
        exact⟨M1++(A2++B2),f1,f2,by simp⟩
      by_cases c:a<a+p/\a+p<a+p+q
      ·rw[if_pos (by simpa using c)]
       obtain⟨M1,p1,s1,e1⟩:=JL C n P A1 B1 (A2++(B2++S)) a (a+p) (a+p+q) (by omega) (by omega) (by omega) CN.1 CL.1 ha (by omega) (by omega) (by simp;omega)
       rw[e1]
       exact AP M1 p1 s1
      ·rw[if_neg (by simpa using c)]
       have hz:qk lt (A1++B1):=by
        refine qk.app.2 ⟨CN.1,CL.1,fun x hx y hy=>?_⟩
        have h1:=List.length_pos_of_mem hx
        have h2:=List.length_pos_of_mem hy
        omega
       have:=AP (A1++B1) (.refl _) hz
       rw[show P++(A1++B1++(A2++(B2++S)))=P++(A1++(B1++(A2++(B2++S)))) by simp] at this
       exact this
     by_cases c:a+p<m/\m<m+q
     ·rw[if_pos (by simpa using c)]
      have:=Tr (f:=f) (P:=P++A1) (U:=A2) (V:=B1) (S:=B2++S) (a:=a+p) (m:=m) (b:=m+q) (by simp;omega) (by simp;omega) (by simp;omega) (by omega) (by omega) (by simp;omega)
      rw[show P++(A1++A2++(B1++B2++S))=P++A1++(A2++(B1++(B2++S))) by simp,this]
      rw[show P++A1++(B1++(A2++(B2++S)))=P++(A1++(B1++(A2++(B2++S)))) by simp]
      exact BU
     ·rw[if_neg (by simpa using c)]
      have e:P++(A1++A2++(B1++B2++S))=P++(A1++(B1++(A2++(B2++S)))):=by
       by_cases z1:A2.length=0
       ·rw[List.eq_nil_of_length_eq_zero z1];simp
       ·rw[List.eq_nil_of_length_eq_zero (l:=B1) (by omega)];simp
      rw[e];exact BU
    by_cases c:m>(a+b) / 2
    ·rw[Nv c,xQ (x:=(a+b) / 2+m) (by omega),xQ (x:=(a+b) / 2+m-b) (by omega)]
     exact E3 _ _ (fun _=>⟨rfl,rfl⟩) (fun h=>absurd c h)
    ·rw[Nw c]
     exact E3 _ _ (fun h=>absurd h c) (fun _=>⟨rfl,rfl⟩)
end
end Go.Proofs.YthjnhebofpebpaaGreat
namespace Go.Proofs.YthjnhebofpebpaaGreat
open Go Go.RowKit Sep
section
variable {f:Cm->Cm->Option Int} {lt:Cm->Cm->Prop}
inductive Blk (lt:Cm->Cm->Prop) (w:Nat):List Cm->Prop
 | last {l}:qk lt l->l.length<=w->Blk lt w l
 | cons {A R}:qk lt A->A.length=w->Blk lt w R->Blk lt w (A++R)
theorem Blk.sorted{w:Nat}{l:List Cm}(h:Blk lt w l)(hw:0<w)(hl:l.length<=w):qk lt l:=by
 cases h with
 | last h _=>exact h
 | cons h h2 h3=>
  rw[List.length_append] at hl
  rename_i A R
  rw[List.eq_nil_of_length_eq_zero (l:=R) (by omega),List.append_nil];exact h
theorem Blk.split{w:Nat}{l:List Cm}(h:Blk lt w l)(hl:w<l.length):∃ A R,l=A++R/\A.length=w/\qk lt A/\Blk lt w R:=by
 cases h with
 | last h h2=>omega
 | cons h h2 h3=>exact⟨_,_,rfl,h2,h,h3⟩
theorem KZ(C:Cmp f lt){P A B S:List Cm}{a m b:Int}(hA:0<A.length)(hB:0<B.length)(sA:qk lt A)(sB:qk lt B)(ha:a=P.length)(hm:m=P.length+A.length)(hb:b=P.length+A.length+B.length)(hl:(P++(A++(B++S))).length<1152921504606846976:=by simp;omega):
  ∃ M,M.Perm (A++B)/\qk lt M/\j9 (P++(A++(B++S))) a m b f=some (P++(M++S)):=by
 have sF:=hl
 simp only[List.length_append] at sF
 unfold j9
 exact JL C xR P A B S a m b (by rw[wi];omega) hA hB sA sB ha hm hb hl
theorem st4(C:Cmp f lt){N:Int}{K:List Cm->Int->Option (List Cm)}:∀(n:Nat) (P R:List Cm) (a b:Int),R.length<n->a=P.length->b=P.length+20->N=P.length+R.length->N<1152921504606846976->
  ∃ Q T,(Q++T).Perm R/\T.length<20/\(∀ T',qk lt T'->T'.length=T.length->Blk lt 20 (Q++T'))/\wZ N f K n (P++R) a b=K (P++Q++T) ((P.length:Int)+Q.length)
 | 0,P,R,a,b,h0,ha,hb,hN,hl=>by omega
 | n+1,P,R,a,b,h0,ha,hb,hN,hl=>by
  rw[wZ]
  by_cases h:b<=N
  ·rw[Nv h]
   have hR:R=R.take 20++R.drop 20:=(List.take_append_drop _ _).symm
   have l1:(R.take 20).length=20:=by rw[List.length_take];omega
   generalize R.take 20=R1 at *
   generalize R.drop 20=R2 at *
   subst hR
   rw[List.length_append] at h0 hN
   obtain⟨M,m1,m2,m3⟩:=FW C (P:=P) (R:=R1) (Z:=R2) (a:=a) (b:=b) ha (by omega)
   have ml:=m1.length_eq
   rw[m3]
   simp only[oB]
   obtain⟨Q,T,q1,q2,q3,q4⟩:=st4 C (N:=N) (K:=K) n (P++M) R2 b (b+20) (by omega) (by simp;omega) (by simp;omega) (by simp;omega) hl
   refine⟨M++Q,T,?_,q2,fun T' h1 h2=>?_,?_⟩
   ·rw[List.append_assoc];exact m1.append q1
   ·rw[List.append_assoc];exact .cons m2 (by omega) (q3 T' h1 h2)
   ·rw[xQ (x:=b+20) (by omega),show P++(M++R2)=P++M++R2 by simp,q4]
    congr 1
    ·simp
    ·simp;omega
  ·rw[Nw h]
   exact⟨[],R,by simp,by omega,fun T' h1 h2 => .last h1 (by simp;omega),by simp[ha]⟩
theorem st6(C:Cmp f lt){N w:Int}{W:Nat}(hw:w=W)(hW:0<W)(hwN:w<N){K:List Cm->Int->Option (List Cm)}:∀(n:Nat) (P R:List Cm) (a b:Int),R.length<n->a=P.length->b=P.length+2*w->N=P.length+R.length->N<1152921504606846976->Blk lt W R->
  ∃ Q T,(Q++T).Perm R/\T.length<2*W/\Blk lt W T/\(∀ T',qk lt T'->T'.length=T.length->Blk lt (2*W) (Q++T'))/\vK N w f K n (P++R) a b=K (P++Q++T) ((P.length:Int)+Q.length)
 | 0,P,R,a,b,h0,ha,hb,hN,hl,hB=>by omega
 | n+1,P,R,a,b,h0,ha,hb,hN,hl,hB=>by
  rw[vK]
  by_cases h:b<=N
  ·rw[Nv h]
   obtain⟨A,R',rfl,lA,sA,hB'⟩:=hB.split (by omega)
   rw[List.length_append] at h0 hN
   obtain⟨B,R2,rfl,lB,sB,hB2⟩:∃ B R2,R'=B++R2/\B.length=W/\qk lt B/\Blk lt W R2:=by
    by_cases nS:W<R'.length
    ·exact hB'.split nS
    ·exact⟨R',[],by simp,by omega,hB'.sorted hW (by omega),.last .nil (by simp)⟩
   rw[List.length_append] at h0 hN
   obtain⟨M,m1,m2,m3⟩:=KZ C (P:=P) (A:=A) (B:=B) (S:=R2) (a:=a) (m:=a+w) (b:=b) (by omega) (by omega) sA sB ha (by omega) (by omega)
   have ml:=m1.length_eq
   rw[List.length_append] at ml
   rw[xQ (x:=a+w) (by omega),show P++(A++(B++R2))=P++(A++(B++R2)) from rfl,m3]
   simp only[oB]
   obtain⟨Q,T,q1,q2,q3,q4,q5⟩:=st6 C hw hW hwN (K:=K) n (P++M) R2 b (b+2*w) (by omega) (by simp;omega) (by simp;omega) (by simp;omega) hl hB2
   refine⟨M++Q,T,?_,q2,q3,fun T' h1 h2=>?_,?_⟩
   ·rw[List.append_assoc,<- List.append_assoc A];exact m1.append q1
   ·rw[List.append_assoc];exact .cons m2 (by omega) (q4 T' h1 h2)
   ·rw[xQ (x:=2*w) (by omega),xQ (x:=b+2*w) (by omega),show P++(M++R2)=P++M++R2 by simp,q5]
    congr 1
    ·simp
    ·simp;omega
  ·rw[Nw h]
   exact⟨[],R,by simp,by omega,hB,fun T' h1 h2 => .last h1 (by simp;omega),by simp[ha]⟩
theorem st5(C:Cmp f lt){N:Int}{K:List Cm->Option (List Cm)}(hN:N<1152921504606846976):∀(n:Nat) (R:List Cm) (w:Int) (W:Nat),(N<n+w/\0<n)->0<W->w=W->w<=2*N+20->N=R.length->Blk lt W R->
  ∃ R',R'.Perm R/\qk lt R'/\vb N f K n R w=K R'
 | 0,R,w,W,h0,hW,hw,AD,hl,hB=>by omega
 | n+1,R,w,W,h0,hW,hw,AD,hl,hB=>by
  rw[vb]
  by_cases h:w<N
  ·rw[Nv h]
   refine wA (P:=fun o=>∃ R',R'.Perm R/\qk lt R'/\o=K R') fun k1 w5=>?_
   refine tc (P:=fun o=>∃ R',R'.Perm R/\qk lt R'/\o=K R') fun k2 qh=>?_
   have hF:=wi
   generalize hFU:xR=FU at hF qh ⊢
   obtain⟨Q,T,q1,q2,q3,q4,q5⟩:=st6 C hw hW h (K:=k2) FU [] R 0 (2*w) (by omega) (by simp) (by simp) (by simp;omega) hN hB
   have ql:=q1.length_eq
   rw[List.length_append] at ql
   simp only[List.nil_append,List.length_nil,Int.ofNat_zero,Int.zero_add] at q5
   rw[xQ (x:=2*w) (by omega),q5,qh]
   refine wA (P:=fun o=>∃ R',R'.Perm R/\qk lt R'/\o=K R') fun k3 Ea=>?_
   have fin:∀ T',T'.Perm T->qk lt T'->∃ R',R'.Perm R/\qk lt R'/\k3 (Q++T')=K R':=by
    intro T' t1 t2
    have tl:=t1.length_eq
    rw[Ea,w5,xQ (x:=w*2) (by omega)]
    obtain⟨R',r1,r2,r3⟩:=st5 C (K:=K) hN n (Q++T') (w*2) (2*W) (by omega) (by omega) (by omega) (by omega) (by simp;omega) (q4 T' t2 tl)
    exact⟨R',r1.trans ((t1.append_left Q).trans q1),r2,r3⟩
   rw[xQ (x:=(Q.length:Int)+w) (by omega)]
   by_cases h3:(Q.length:Int)+w<N
   ·rw[Nv h3]
    obtain⟨A,B,rfl,lA,sA,hB'⟩:=q3.split (by omega)
    rw[List.length_append] at ql q2
    have sB:=hB'.sorted hW (by omega)
    obtain⟨M,m1,m2,m3⟩:=KZ C (P:=Q) (A:=A) (B:=B) (S:=[]) (a:=Q.length) (m:=Q.length+w) (b:=N) (by omega) (by omega) sA sB rfl (by omega) (by omega)
    simp only[List.append_nil] at m3
    rw[m3]
    exact fin M m1 m2
   ·rw[Nw h3]
    exact fin T (.refl _) (q3.sorted hW (by omega))
  ·rw[Nw h]
   exact⟨R,.refl _,hB.sorted hW (by omega),rfl⟩
theorem FY(C:Cmp f lt){R:List Cm}(hl:R.length<1152921504606846976):
  ∃ R',R'.Perm R/\qk lt R'/\qf R f=some R':=by
 unfold qf kT
 have hF:=wi
 generalize hFU:xR=FU at hF ⊢
 suffices h:∃ R',R'.Perm R/\qk lt R'/\(sk (fun(z1iR:List yh) (z1iS:Int)=>(vc z1iR z1iS R.length f).bind fun z1iT=>qI (fun(z1iU:List yh)=>some z1iU) fun z1iV=>vb R.length f z1iV FU z1iT 20) fun z1iW=>wZ R.length f z1iW FU R 0 20)=some R' by
  obtain⟨R',h1,h2,h3⟩:=h
  refine⟨R',h1,h2,?_⟩
  rw[h3];rfl
 refine tc (P:=fun o=>∃ R',R'.Perm R/\qk lt R'/\o=some R') fun k1 w5=>?_
 obtain⟨Q,T,q1,q2,q3,q4⟩:=st4 C (N:=R.length) (K:=k1) FU [] R 0 20 (by omega) (by simp) (by simp) (by simp) (by omega)
 have ql:=q1.length_eq
 rw[List.length_append] at ql
 simp only[List.nil_append,List.length_nil,Int.ofNat_zero,Int.zero_add] at q4
 rw[q4,w5]
 obtain⟨M,m1,m2,m3⟩:=FW C (P:=Q) (R:=T) (Z:=[]) (a:=(Q.length:Int)) (b:=R.length) (by simp) (by omega)
 have ml:=m1.length_eq
 simp only[List.append_nil] at m3
 rw[m3]
 simp only[oB]
 refine wA (P:=fun o=>∃ R',R'.Perm R/\qk lt R'/\o=some R') fun k2 qh=>?_
 obtain⟨R',r1,r2,r3⟩:=st5 C (N:=R.length) (K:=k2) (by omega) FU (Q++M) 20 20 (by omega) (by omega) rfl (by omega) (by simp;omega) (q3 M m2 ml)
 exact⟨R',r1.trans ((m1.append_left Q).trans q1),r2,by rw[r3,qh]⟩
end
def VO(a b:Cm):Prop:=a.yb<b.yb\/a.yb=b.yb/\(a.yf<b.yf\/a.yf=b.yf/\a.ya<b.ya)
instance (a b:Cm):Decidable (VO a b):=inferInstanceAs (Decidable (_\/_))
theorem US:Cmp (fun y0 y1=>mi y0 y1) VO where
 eq x y:=by
  unfold mi
  simp only[n4,oB]
  rw[Gp]
  refine⟨_,rfl,?_⟩
  unfold oC oC oC oC QU VO
  repeat' split
  repeat' split
  all_goals omega
 asym x y:=by unfold VO;omega
 tr x y z:=by unfold VO;omega
theorem Wq{l:List Cm}(hl:l.length<1152921504606846976):∃ l',l'.Perm l/\qk VO l'/\qP l=some l':=by
 obtain⟨R,h1,h2,h3⟩:=FY US hl
 refine⟨R,h1,h2,?_⟩
 unfold qP
 rw[h3];rfl
end Go.Proofs.YthjnhebofpebpaaGreat
namespace Go.Proofs.YthjnhebofpebpaaGreat
open Go Go.RowKit Sep
section
structure FewPR (c:Cf) (rs:List (List Hop)) (sent:List jQ):Prop where
 m:c.fM.length<=8
 s:c.fS.length<=8
 l:c.fK.length<=20
 v:c.yc.length<=20
 r:rs.length<=20
 f:¬(sent.length>40/\sent.length<=4000)
 e:∀ r∈rs,r.length<=40
section
variable {c:Cf} {net:Int} {rs:List (List Hop)} {sent:List jQ}
theorem Runs.iv(g:Sg c net rs sent):∀ {n:Nat} {S F:St},Runs c rs sent n S F->∀ {D:List Id},IV c net rs sent S D->∃ D',IV c net rs sent F D'
 | _,_,_,.done _ k,D,h=>⟨D,h.eq k⟩
 | _,_,_,.step e eN hp hm he hr,D,h=>Runs.iv g hr ((V3 g h hp hm).eq he)
structure RunsTo (c:Cf) (rs:List (List Hop)) (sent:List jQ) (come lost:List Cm):Prop where
 run:∃ n F,Runs c rs sent n (init c rs sent) F/\come.Perm F.come/\lost.Perm F.lost
 sc:qk VO come
 sl:qk VO lost
 len:come.length+lost.length<=1280
theorem Ts(g:Sg c net rs sent):∃ come lost,RunsTo c rs sent come lost/\tA c net rs sent=some (come,lost,0):=by
 obtain⟨n,F,h1,h2⟩:=UR g
 obtain⟨D,hD⟩:=h1.iv g (V5 g)
 have hc:=hD.cl
 have hl:=hD.len g
 obtain⟨a,a1,a2,a3⟩:=Wq (l:=F.come) (by omega)
 obtain⟨b,b1,b2,b3⟩:=Wq (l:=F.lost) (by omega)
 refine⟨a,b,⟨⟨n,F,h1,a1,b1⟩,a2,b2,by rw[a1.length_eq,b1.length_eq];omega⟩,?_⟩
 rw[h2,a3,oB,b3,oB]
end
end
section
structure Rc where
 ev:Ev
 out:Option Int
def Rc.id(r:Rc):Id:=qv r.ev
def lY(c:Cf)(r:Rc):Option Cm:=r.out.bind fun t=>if r.ev.yg.fX<nM c then some ⟨r.ev.yf,r.ev.yg.fX,t⟩ else none
def Qe(r:Rc):Option Cm:=if r.out=none then some ⟨r.ev.yf,r.ev.yg.ya,r.ev.yb⟩ else none
def root(rs:List (List Hop))(sent:List jQ)(s:Int):Int:=(nth (route rs sent s) 0).ya
def iT(c:Cf)(sent:List jQ)(s:Int)(h:Hop):Int:=(qJ c (wd h)).yk.yl+(nth sent s).yo*(qJ c (wd h)).yk.yp
section
variable {c:Cf} {net:Int} {rs:List (List Hop)} {sent:List jQ}
structure JV (c:Cf) (net:Int) (rs:List (List Hop)) (sent:List jQ) (S:St) (H:List Rc):Prop where
 iv:IV c net rs sent S (H.map Rc.id)
 come:S.come.Perm (H.filterMap (lY c))
 lost:S.lost.Perm (H.filterMap Qe)
 ok:∀ r∈H,EOK rs sent r.ev
 root:∀ s h,(0<=s/\s<(sent.length:Int))->h∈route rs sent s->h.ya=root rs sent s->(s,h)∈H.map Rc.id++S.ag.map qv
 nxt:∀ r∈H,∀ t,r.out=some t->∀ y∈route rs sent r.ev.yf,y.ya=r.ev.yg.fX->(r.ev.yf,y)∈H.map Rc.id++S.ag.map qv
 src:∀ e,(e∈S.ag\/∃ r∈H,r.ev=e)->(e.yg.ya=Go.Proofs.YthjnhebofpebpaaGreat.root rs sent e.yf/\e.yb=(nth sent e.yf).yb/\e.yJ = -1)\/∃ r∈H,r.ev.yf=e.yf/\r.ev.yg.fX=e.yg.ya/\r.out=some e.yb
 out:∀ r∈H,∀ t,r.out=some t->r.ev.yb+iT c sent r.ev.yf r.ev.yg<=t/\t<=(S.pf (wd r.ev.yg)).yD
 ord:H.Pairwise fun a b=>tZ b.ev a.ev/\(wd a.ev.yg=wd b.ev.yg->∀ t u,a.out=some t->b.out=some u->u<t)
 late:∀ e∈S.ag,∀ r∈H,tZ r.ev e
 frs:∀ k,(S.pf k).yn.length<=(H.filter fun r=>decide (wd r.ev.yg=k)).length
theorem JV.eq{S T:St}{H:List Rc}(h:JV c net rs sent S H)(q:EQ S T):JV c net rs sent T H:=by
 have hm:∀ x,x∈S.ag.map qv↔x∈T.ag.map qv:=fun x=>(q.ag.map qv).mem_iff
 refine⟨h.iv.eq q,q.come.symm.trans h.come,q.lost.symm.trans h.lost,h.ok,?_,?_,?_,?_,h.ord,fun e he=>h.late e (q.ag.mem_iff.2 he),fun k=>by rw[<- q.pf];exact h.frs k⟩
 ·intro s x h1 h2 h3
  have:=h.root s x h1 h2 h3
  rw[List.mem_append] at this ⊢
  rwa [<- hm]
 ·intro r hr t ht y h1 h2
  have:=h.nxt r hr t ht y h1 h2
  rw[List.mem_append] at this ⊢
  rwa [<- hm]
 ·intro e he
  exact h.src e (he.imp q.ag.mem_iff.2 fun a=>a)
 ·rw[<- q.pf];exact h.out
theorem UT(g:Sg c net rs sent):JV c net rs sent (init c rs sent) []:=by
 refine⟨V5 g,.refl _,.refl _,by simp,?_,by simp,?_,by simp,.nil,by simp,by simp[init,qJ]⟩
 ·intro s h h1 h2 h3
  rw[List.map_nil,List.nil_append]
  refine List.mem_map.2 ⟨⟨(nth sent s).yb,-1,(nth sent s).yx,s,h⟩,V4.2 ⟨s.toNat,by omega,h,?_,?_,?_⟩,rfl⟩
  all_goals rw[Int.toNat_of_nonneg h1.1]
  ·exact h2
  ·exact h3
 ·intro e he
  rcases he with he | ⟨r,hr,_⟩
  ·obtain⟨i,hi,h,h1,h2,rfl⟩:=V4.1 he
   exact .inl ⟨h2,rfl,rfl⟩
  ·simp at hr
theorem Km{p:Pt}{t size:Int}:(kf p t size).2.2.yn.length<=p.yn.length+1:=by
 unfold kf
 have:=bf (t:=t) (l:=p.yn)
 split
 ·show p.yn.length<=_;omega
 ·split <;> simp <;> omega
theorem UU(g:Sg c net rs sent){S:St}{H:List Rc}(h:JV c net rs sent S H){e:Ev}{eN:List Ev}(hp:(e::eN).Perm S.ag)(xO:∀ x∈S.ag,tZ e x):
  ∃ o,JV c net rs sent (mJ c rs sent e eN S) (⟨e,o⟩::H)/\o=if (kf (S.pf (wd e.yg)) e.yb (nth sent e.yf).yo).2.1≠0 then none else some (fy (S.pf (wd e.yg)) e.yb (nth sent e.yf).yo):=by
 have zQ:e∈S.ag:=hp.mem_iff.1 (by simp)
 have zq:∀ x∈eN,x∈S.ag:=fun x hx=>hp.mem_iff.1 (List.mem_cons_of_mem _ hx)
 have hid:∀ x∈S.ag.map qv,x=qv e\/x∈eN.map qv:=by
  intro x hx
  obtain⟨y,hy,rfl⟩:=List.mem_map.1 hx
  rcases List.mem_cons.1 (hp.mem_iff.2 hy) with rfl | hy
  ·exact .inl rfl
  ·exact .inr (List.mem_map.2 ⟨y,hy,rfl⟩)
 have he:=h.iv.ev e zQ
 have eW:=h.iv.len g
 have ht:=h.iv.tm e zQ
 have DG:=hp.length_eq
 rw[List.length_cons] at DG
 have hk:UK rs sent (wd e.yg):=⟨e.yf,e.yg,he.s,he.h,rfl⟩
 obtain⟨p1,p2,p3⟩:=h.iv.pi _ hk
 have iL:=(g.fr.each e.yf he.s.1 he.s.2).2.2.2.2
 have hc:=VN p1 (size:=(nth sent e.yf).yo) ⟨iL.1,iL.2.1⟩ (t:=e.yb) ⟨h.iv.now _ hk e zQ,by omega⟩
 have Dd:=V3 g h.iv hp xO
 have CO:=h.iv.num (wd e.yg)
 have BV:e.yb+iT c sent e.yf e.yg<=fy (S.pf (wd e.yg)) e.yb (nth sent e.yf).yo/\(S.pf (wd e.yg)).yD<fy (S.pf (wd e.yg)) e.yb (nth sent e.yf).yo:=by
  have hm:=Wn (a:=(nth sent e.yf).yo) (b:=(S.pf (wd e.yg)).yk.yp) ⟨iL.1,iL.2.1⟩ p1.slow
  unfold fy iT
  rw[<- CO]
  omega
 have Ec:∀ o:Option Int,∀ k,(upd S.pf (wd e.yg) (kf (S.pf (wd e.yg)) e.yb (nth sent e.yf).yo).2.2 k).yn.length<=(((⟨e,o⟩:Rc)::H).filter fun r=>decide (wd r.ev.yg=k)).length:=by
  intro o k
  have:=h.frs k
  rw[List.filter_cons]
  unfold upd
  by_cases q:k=wd e.yg
  ·subst q
   rw[if_pos rfl,if_pos (by simp),List.length_cons]
   have:=Km (p:=S.pf (wd e.yg)) (t:=e.yb) (size:=(nth sent e.yf).yo)
   omega
  ·rw[if_neg q,if_neg (by simp;exact fun hc=>q hc.symm)];exact this
 have tg:∀ o:Option Int,∀ r∈(⟨e,o⟩:Rc)::H,EOK rs sent r.ev:=by
  intro o r hr
  rcases List.mem_cons.1 hr with rfl | hr
  ·exact he
  ·exact h.ok r hr
 have E4:∀ o:Option Int,∀ x,(x∈eN\/∃ r∈(⟨e,o⟩:Rc)::H,r.ev=x)->(x.yg.ya=root rs sent x.yf/\x.yb=(nth sent x.yf).yb/\x.yJ = -1)\/∃ r∈(⟨e,o⟩:Rc)::H,r.ev.yf=x.yf/\r.ev.yg.fX=x.yg.ya/\r.out=some x.yb:=by
  intro o x hx
  have:x∈S.ag\/∃ r∈H,r.ev=x:=by
   rcases hx with hx | ⟨r,hr,rfl⟩
   ·exact .inl (zq x hx)
   ·rcases List.mem_cons.1 hr with rfl | hr
    ·exact .inl zQ
    ·exact .inr ⟨r,hr,rfl⟩
  rcases h.src x this with a | ⟨r,hr,a⟩
  ·exact .inl a
  ·exact .inr ⟨r,List.mem_cons_of_mem _ hr,a⟩
 have De:∀ o:Option Int,∀ x∈eN,∀ r∈(⟨e,o⟩:Rc)::H,tZ r.ev x:=by
  intro o x hx r hr
  rcases List.mem_cons.1 hr with rfl | hr
  ·exact xO x (zq x hx)
  ·exact h.late x (zq x hx) r hr
 have Df:∀(o:Option Int) (ag:List Ev),(∀ x∈eN,x∈ag)->∀ s y,(0<=s/\s<(sent.length:Int))->y∈route rs sent s->y.ya=root rs sent s->(s,y)∈((⟨e,o⟩:Rc)::H).map Rc.id++ag.map qv:=by
  intro o ag EU s y h1 h2 h3
  rcases List.mem_append.1 (h.root s y h1 h2 h3) with a | a
  ·exact List.mem_append_left _ (List.mem_cons_of_mem _ a)
  ·rcases hid _ a with a | a
   ·exact List.mem_append_left _ (by rw[List.map_cons];exact List.mem_cons.2 (.inl a))
   ·obtain⟨z,hz,Bx⟩:=List.mem_map.1 a
    exact List.mem_append_right _ (List.mem_map.2 ⟨z,EU z hz,Bx⟩)
 have E5:∀(o:Option Int) (ag:List Ev),(∀ x∈eN,x∈ag)->∀ r∈H,∀ t,r.out=some t->∀ y∈route rs sent r.ev.yf,y.ya=r.ev.yg.fX->(r.ev.yf,y)∈((⟨e,o⟩:Rc)::H).map Rc.id++ag.map qv:=by
  intro o ag EU r hr t ht y h1 h2
  rcases List.mem_append.1 (h.nxt r hr t ht y h1 h2) with a | a
  ·exact List.mem_append_left _ (List.mem_cons_of_mem _ a)
  ·rcases hid _ a with a | a
   ·exact List.mem_append_left _ (by rw[List.map_cons];exact List.mem_cons.2 (.inl a))
   ·obtain⟨z,hz,Bx⟩:=List.mem_map.1 a
    exact List.mem_append_right _ (List.mem_map.2 ⟨z,EU z hz,Bx⟩)
 have E6:∀ o:Option Int,(∀ t,o=some t->(S.pf (wd e.yg)).yD<t)->((⟨e,o⟩:Rc)::H).Pairwise fun a b=>tZ b.ev a.ev/\(wd a.ev.yg=wd b.ev.yg->∀ t u,a.out=some t->b.out=some u->u<t):=by
  intro o ho
  refine List.pairwise_cons.2 ⟨fun b hb=>⟨h.late e zQ b hb,fun hx t u h1 h2=>?_⟩,h.ord⟩
  have:=(h.out b hb u h2).2
  rw[<- hx] at this
  exact Int.lt_of_le_of_lt this (ho t h1)
 revert Dd
 unfold mJ
 by_cases hR:(kf (S.pf (wd e.yg)) e.yb (nth sent e.yf).yo).2.1≠0
 ·rw[if_pos hR]
  intro Dd
  have hl:(kf (S.pf (wd e.yg)) e.yb (nth sent e.yf).yo).2.2.yD=(S.pf (wd e.yg)).yD:=by
   rcases hc.2.2.2.1 with a | a
   ·exact a.2
   ·exact absurd a.1 hR
  refine⟨none,⟨Dd,h.come,?_,tg _,Df _ _ (fun _ a=>a),?_,E4 _,?_,E6 _ (by simp),De _,Ec _⟩,by rw[if_pos hR]⟩
  ·rw[List.filterMap_cons]
   simp only[Qe,if_true]
   exact(List.perm_append_comm (l₂:=[_])).trans (h.lost.cons _)
  ·intro r hr t ht
   rcases List.mem_cons.1 hr with rfl | hr
   ·simp at ht
   ·exact E5 _ _ (fun _ a=>a) r hr t ht
  ·intro r hr t ht
   rcases List.mem_cons.1 hr with rfl | hr
   ·simp at ht
   ·have:=h.out r hr t ht
    refine⟨this.1,?_⟩
    simp only[upd]
    split
    ·rename_i q;rw[hl,<- q];exact this.2
    ·exact this.2
 ·rw[if_neg hR]
  intro Dd
  have hl:(kf (S.pf (wd e.yg)) e.yb (nth sent e.yf).yo).1=fy (S.pf (wd e.yg)) e.yb (nth sent e.yf).yo/\(kf (S.pf (wd e.yg)) e.yb (nth sent e.yf).yo).2.2.yD=fy (S.pf (wd e.yg)) e.yb (nth sent e.yf).yo:=by
   rcases hc.2.2.2.1 with a | a
   ·exact absurd (by rw[a.1];decide) hR
   ·exact a.2
  rw[hl.1] at Dd ⊢
  refine⟨some (fy (S.pf (wd e.yg)) e.yb (nth sent e.yf).yo),⟨Dd,?_,?_,tg _,Df _ _ (fun _ a=>List.mem_append_right _ a),?_,?_,?_,E6 _ (by intro t ht;cases ht;exact BV.2),?_,Ec _⟩,by rw[if_neg hR]⟩
  ·rw[List.filterMap_cons]
   simp only[lY,oB]
   by_cases q2:e.yg.fX<nM c
   ·simp only[if_pos q2]
    exact(List.perm_append_comm (l₂:=[_])).trans (h.come.cons _)
   ·simp only[if_neg q2]
    exact h.come
  ·rw[List.filterMap_cons]
   simp only[Qe]
   exact h.lost
  ·intro r hr t ht y h1 h2
   rcases List.mem_cons.1 hr with rfl | hr
   ·refine List.mem_append_right _ (List.mem_map.2 ⟨⟨fy (S.pf (wd e.yg)) e.yb (nth sent e.yf).yo,e.yg.fQ,(nth sent e.yf).yx,e.yf,y⟩,List.mem_append_left _ (bi.2 ⟨y,h1,h2,rfl⟩),rfl⟩)
   ·exact E5 _ _ (fun _ a=>List.mem_append_right _ a) r hr t ht y h1 h2
  ·intro x hx
   have:(x∈ve rs sent e.yg.fX (fy (S.pf (wd e.yg)) e.yb (nth sent e.yf).yo) e.yg.fQ e.yf)\/(x∈eN\/∃ r∈(⟨e,some (fy (S.pf (wd e.yg)) e.yb (nth sent e.yf).yo)⟩:Rc)::H,r.ev=x):=by
    rcases hx with hx | hx
    ·rcases List.mem_append.1 hx with hx | hx
     ·exact .inl hx
     ·exact .inr (.inl hx)
    ·exact .inr (.inr hx)
   rcases this with hx | hx
   ·obtain⟨y,h1,h2,rfl⟩:=bi.1 hx
    exact .inr ⟨_,List.mem_cons_self ..,rfl,h2.symm,rfl⟩
   ·exact E4 _ x hx
  ·intro r hr t ht
   rcases List.mem_cons.1 hr with rfl | hr
   ·cases ht
    refine⟨BV.1,?_⟩
    simp only[upd,if_true]
    rw[hl.2];exact Int.le_refl _
   ·have:=h.out r hr t ht
    refine⟨this.1,?_⟩
    simp only[upd]
    split
    ·rename_i q;rw[hl.2];rw[q] at this;omega
    ·exact this.2
  ·intro x hx r hr
   rcases List.mem_append.1 hx with hx | hx
   ·obtain⟨y,h1,h2,rfl⟩:=bi.1 hx
    refine Kl ?_
    show r.ev.yb<fy _ _ _
    rcases List.mem_cons.1 hr with rfl | hr
    ·show e.yb<_;omega
    ·have:=nx (h.late e zQ r hr);omega
   ·exact De _ x hx r hr
end
end
section
variable {H:List Rc}{r:List Hop}{v:Nat}{S:St}{come:List Cm}
def bk(r:List Hop)(w:Hop->Int):Nat->Int->Int
 | 0,_=>0
 | n+1,a=>if (nth r (n:Int)).fX=a then w (nth r (n:Int))+bk r w n (nth r (n:Int)).ya else bk r w n a
theorem Yk{r:List Hop}{w:Hop->Int}{a:Int}:∀(n m:Nat),n<=m->(∀ j:Nat,n<=j->j<m->(nth r (j:Int)).fX≠a)->bk r w m a=bk r w n a
 | n,0,h,_=>by rw[show n=0 by omega]
 | n,m+1,h,hj=>by
  by_cases e:n=m+1
  ·rw[e]
  ·rw[bk,if_neg (hj m (by omega) (by omega))]
   exact Yk n m (by omega) fun j h1 h2=>hj j h1 (by omega)
theorem Kn{α:Type}{R:α->α->Prop}{l:List α}(h:l.Pairwise R){a b:α}(ha:a∈l)(hb:b∈l)(zJ:a≠b):R a b\/R b a:=by
 obtain⟨i,hi,rfl⟩:=List.getElem_of_mem ha
 obtain⟨j,hj,rfl⟩:=List.getElem_of_mem hb
 rw[List.pairwise_iff_getElem] at h
 rcases Nat.lt_trichotomy i j with hij | hij | hij
 ·exact .inl (h i j hi hj hij)
 ·subst hij;exact absurd rfl zJ
 ·exact .inr (h j i hj hi hij)
section
variable {c:Cf} {net:Int} {rs:List (List Hop)} {sent:List jQ}
theorem VR.next_ne'(h:VR c net r){i j:Nat}(hi:i<r.length)(hj:j<r.length)(hij:i≠j):(nth r (i:Int)).fX≠(nth r (j:Int)).fX:=by
 rw[kh ⟨by omega,by omega⟩,kh ⟨by omega,by omega⟩]
 simp only[Int.toNat_natCast]
 rcases Nat.lt_or_gt_of_ne hij with q | q
 ·exact(h.idx hi hj q).1
 ·exact fun e=>(h.idx hj hi q).1 e.symm
theorem VR.prev(h:VR c net r)(hv:v<r.length):(nth r (v:Int)).ya=(nth r 0).ya\/∃ q:Nat,q<v/\(nth r (q:Int)).fX=(nth r (v:Int)).ya:=by
 rcases(h.cond (v:Int) (by omega) (by omega)).1 with a | ⟨q,q1,q2,q3⟩
 ·exact .inl a
 ·refine .inr ⟨q.toNat,by omega,?_⟩
  rw[Int.toNat_of_nonneg q1];exact q3
theorem VR.bk_start(h:VR c net r){w:Hop->Int}(hv:v<=r.length):bk r w v (nth r 0).ya=0:=by
 rw[Yk 0 v (by omega) fun j _ h2=>h.next_ne _ (wp (by omega) (by omega))];rfl
theorem VR.bk_next(h:VR c net r){w:Hop->Int}{m:Nat}(hv:v<r.length)(hm:v+1<=m)(hm2:m<=r.length):bk r w m (nth r (v:Int)).fX=w (nth r (v:Int))+bk r w v (nth r (v:Int)).ya:=by
 rw[Yk (v+1) m hm fun j h1 h2=>h.next_ne' (by omega) hv (by omega),bk,if_pos rfl]
theorem Rc.same(g:Sg c net rs sent)(h:JV c net rs sent S H){a b:Rc}(ha:a∈H)(hb:b∈H)(e:a.id=b.id):a=b:=by
 by_cases zJ:a=b
 ·exact zJ
 ·have Aq:=(List.nodup_append.1 h.iv.nd).1
  rw[List.nodup_iff_pairwise_ne,List.pairwise_map] at Aq
  rcases Kn Aq ha hb zJ with q | q
  ·exact absurd e q
  ·exact absurd e.symm q
theorem Qf(g:Sg c net rs sent)(h:JV c net rs sent S H)(s:Int)(hs:0<=s/\s<sent.length):∀(v:Nat),v<(route rs sent s).length->∀ r∈H,r.ev.yf=s->r.ev.yg=nth (route rs sent s) (v:Int)->
  (nth sent s).yb+bk (route rs sent s) (iT c sent s) v (nth (route rs sent s) (v:Int)).ya<=r.ev.yb/\∀ t,r.out=some t->(nth sent s).yb+bk (route rs sent s) (iT c sent s) (v+1) (nth (route rs sent s) (v:Int)).fX<=t:=by
 intro v
 induction v using Nat.strongRecOn with
 | _ v ih=>
  intro hv r hr e1 e2
  have zF:=g.route hs
  have CI:(nth sent s).yb+bk (route rs sent s) (iT c sent s) v (nth (route rs sent s) (v:Int)).ya<=r.ev.yb:=by
   rcases h.src r.ev (.inr ⟨r,hr,rfl⟩) with⟨a,b,_⟩ | ⟨r',hr',a,b,d⟩
   ·rw[e1] at a b
    rw[e2] at a
    rw[a]
    unfold root
    rw[zF.bk_start (by omega),b];omega
   ·rw[e1] at a
    rw[e2] at b
    have Cc:r'.ev.yg∈route rs sent s:=by rw[<- a];exact(h.ok r' hr').h
    rcases zF.prev hv with q | ⟨q,q1,q2⟩
    ·exact absurd (b.trans q) (zF.next_ne _ Cc)
    ·have he:r'.ev.yg=nth (route rs sent s) (q:Int):=zF.next_inj Cc (wp (by omega) (by omega)) (b.trans q2.symm)
     have:=(ih q q1 (by omega) r' hr' a he).2 _ d
     rw[q2] at this
     rw[Yk (q+1) v (by omega) fun j h1 h2=>by rw[<- q2];exact zF.next_ne' (by omega) (by omega) (by omega)]
     exact this
  refine⟨CI,fun t ht=>?_⟩
  have:=(h.out r hr t ht).1
  rw[e1,e2] at this
  rw[zF.bk_next hv (Nat.le_refl _) (by omega)]
  omega
theorem Xt(hp:come.Perm (H.filterMap (lY c))){x:Cm}(hx:x∈come):∃ r∈H,r.ev.yf=x.yf/\r.ev.yg.fX=x.ya/\r.out=some x.yb/\x.ya<nM c:=by
 obtain⟨r,hr,he⟩:=List.mem_filterMap.1 (hp.mem_iff.1 hx)
 refine⟨r,hr,?_⟩
 unfold lY at he
 cases ho:r.out with
 | none=>rw[ho] at he;simp at he
 | some t=>
  rw[ho,oB] at he
  split at he
  ·rename_i hn
   cases he
   exact⟨rfl,rfl,rfl,hn⟩
  ·simp at he
theorem MV(hp:come.Perm (H.filterMap (lY c))){r:Rc}(hr:r∈H){t:Int}(ht:r.out=some t)(hn:r.ev.yg.fX<nM c):(⟨r.ev.yf,r.ev.yg.fX,t⟩:Cm)∈come:=by
 refine hp.mem_iff.2 (List.mem_filterMap.2 ⟨r,hr,?_⟩)
 unfold lY
 rw[ht,oB,if_pos hn]
theorem FZ(g:Sg c net rs sent)(h:JV c net rs sent S H)(hp:come.Perm (H.filterMap (lY c))):come.Pairwise fun x y=>¬(x.yf=y.yf/\x.ya=y.ya):=by
 refine(hp.pairwise_iff (fun {x y} h1 h2=>h1 ⟨h2.1.symm,h2.2.symm⟩)).2 ?_
 have Aq:=(List.nodup_append.1 h.iv.nd).1
 rw[List.nodup_iff_pairwise_ne,List.pairwise_map] at Aq
 rw[List.pairwise_filterMap]
 refine Aq.imp_of_mem ?_
 intro a b ha hb zJ x hx y hy ⟨e1,e2⟩
 have f:∀ {r:Rc} {z:Cm},lY c r=some z->z.yf=r.ev.yf/\z.ya=r.ev.yg.fX:=by
  intro r z hz
  unfold lY at hz
  cases ho:r.out with
  | none=>rw[ho] at hz;simp at hz
  | some t=>
   rw[ho,oB] at hz
   split at hz
   ·cases hz;exact⟨rfl,rfl⟩
   ·simp at hz
 obtain⟨x1,x2⟩:=f hx
 obtain⟨y1,y2⟩:=f hy
 have ka:=h.ok a ha
 have kb:=h.ok b hb
 have es:a.ev.yf=b.ev.yf:=by rw[<- x1,<- y1,e1]
 have:a.ev.yg=b.ev.yg:=(g.route ka.s).next_inj ka.h (by rw[es];exact kb.h) (by rw[<- x2,<- y2,e2])
 exact zJ (by unfold Rc.id qv;rw[es,this])
end
end
section
def qN(sent:List jQ)(r:Rc):Int:=(nth sent r.ev.yf).yo
def uJ(k:Ex):List Rc->Int
 | []=>0
 | r::H=>if wd r.ev.yg=k then r.out.getD (uJ k H) else uJ k H
def vy(sent:List jQ)(k:Ex)(t:Int):List Rc->Int
 | []=>0
 | r::H=>(if wd r.ev.yg=k/\r.out.getD t>t then qN sent r else 0)+vy sent k t H
def pH(c:Cf)(sent:List jQ):List Rc->Prop
 | []=>True
 | r::H=>pH c sent H/\(∀ t,r.out=some t->t=max (r.ev.yb+(qJ c (wd r.ev.yg)).yk.yl) (uJ (wd r.ev.yg) H)+qN sent r*(qJ c (wd r.ev.yg)).yk.yp)/\
  (r.out=none->vy sent (wd r.ev.yg) r.ev.yb H+qN sent r>(qJ c (wd r.ev.yg)).yk.fT)
theorem JM(a b:List Fr):fk (a++b)=fk a+fk b:=by
 induction a with
 | nil=>simp[fk]
 | cons x a ih=>simp only[List.cons_append,fk,ih];omega
theorem VP{t u:Int}(h:t<=u)(l:List Fr):fl u (fl t l)=fl u l:=by
 unfold fl
 rw[List.filter_filter]
 congr 1;funext x
 by_cases hx:x.yN>u
 ·simp[hx];omega
 ·simp[hx]
section
variable {c:Cf} {net:Int} {rs:List (List Hop)} {sent:List jQ}
structure KV (c:Cf) (sent:List jQ) (S:St) (H:List Rc):Prop where
 sv:pH c sent H
 last:∀ k,(S.pf k).yD=uJ k H
 hold:∀ k t,(S.pf k).yP<=t->fk (fl t (S.pf k).yn)=vy sent k t H
theorem KV.eq{S T:St}{H:List Rc}(h:KV c sent S H)(q:EQ S T):KV c sent T H:=⟨h.sv,by rw[<- q.pf];exact h.last,by rw[<- q.pf];exact h.hold⟩
theorem UV(g:Sg c net rs sent){S:St}{H:List Rc}(h:JV c net rs sent S H)(kv:KV c sent S H){e:Ev}{eN:List Ev}(hp:(e::eN).Perm S.ag)(xO:∀ x∈S.ag,tZ e x):
  ∃ o,JV c net rs sent (mJ c rs sent e eN S) (⟨e,o⟩::H)/\KV c sent (mJ c rs sent e eN S) (⟨e,o⟩::H):=by
 obtain⟨o,ho,eo⟩:=UU g h hp xO
 refine⟨o,ho,?_⟩
 have zQ:e∈S.ag:=hp.mem_iff.1 (by simp)
 have he:=h.iv.ev e zQ
 have eW:=h.iv.len g
 have ht:=h.iv.tm e zQ
 have DG:=hp.length_eq
 rw[List.length_cons] at DG
 have hk:UK rs sent (wd e.yg):=⟨e.yf,e.yg,he.s,he.h,rfl⟩
 obtain⟨p1,p2,p3⟩:=h.iv.pi _ hk
 have iL:=(g.fr.each e.yf he.s.1 he.s.2).2.2.2.2
 have hnow:=h.iv.now _ hk e zQ
 have CO:=h.iv.num (wd e.yg)
 have hl:=kv.last (wd e.yg)
 have hh:=kv.hold (wd e.yg)
 have hpf:(mJ c rs sent e eN S).pf=upd S.pf (wd e.yg) (kf (S.pf (wd e.yg)) e.yb (nth sent e.yf).yo).2.2:=by unfold mJ;split <;> rfl
 have hc:¬((nth sent e.yf).yo<1\/(nth sent e.yf).yo>72\/e.yb<(S.pf (wd e.yg)).yP\/e.yb>1073741824):=by omega
 have oth:∀ k,k≠wd e.yg->(mJ c rs sent e eN S).pf k=S.pf k:=fun k q=>by rw[hpf];exact if_neg q
 have own:(mJ c rs sent e eN S).pf (wd e.yg)=(kf (S.pf (wd e.yg)) e.yb (nth sent e.yf).yo).2.2:=by rw[hpf];exact if_pos rfl
 have l1:∀ k,k≠wd e.yg->uJ k ((⟨e,o⟩:Rc)::H)=uJ k H:=fun k q=>if_neg fun x=>q x.symm
 have h1:∀ k t,k≠wd e.yg->vy sent k t ((⟨e,o⟩:Rc)::H)=vy sent k t H:=fun k t q=>by
  rw[vy,if_neg fun x=>q x.1.symm];omega
 revert own eo
 unfold kf
 rw[if_neg hc]
 by_cases hf:fk (fl e.yb (S.pf (wd e.yg)).yn)+(nth sent e.yf).yo>(S.pf (wd e.yg)).yk.fT
 ·rw[if_pos hf]
  simp only[ne_eq]
  rw[if_pos (by decide)]
  rintro rfl own
  refine⟨⟨kv.sv,fun t q=>by simp at q,fun _=>?_⟩,fun k=>?_,fun k t q=>?_⟩
  ·rw[<- CO,<- hh _ hnow];exact hf
  ·by_cases e1:k=wd e.yg
   ·subst e1;rw[own];exact hl.trans (if_pos rfl).symm
   ·rw[oth k e1,l1 k e1];exact kv.last k
  ·by_cases e1:k=wd e.yg
   ·subst e1;rw[own] at q ⊢
    simp only at q ⊢
    rw[VP q,hh t (by omega),vy,if_neg (by simp)];omega
   ·rw[oth k e1] at q ⊢;rw[h1 k t e1];exact kv.hold k t q
 ·rw[if_neg hf]
  simp only[ne_eq]
  rw[if_neg (by decide)]
  rintro rfl own
  refine⟨⟨kv.sv,fun t q=>?_,fun q=>by simp at q⟩,fun k=>?_,fun k t q=>?_⟩
  ·injection q with q;rw[<- q,<- CO,<- hl];rfl
  ·by_cases e1:k=wd e.yg
   ·subst e1;rw[own];exact(if_pos rfl).symm
   ·rw[oth k e1,l1 k e1];exact kv.last k
  ·by_cases e1:k=wd e.yg
   ·subst e1;rw[own] at q ⊢
    simp only at q ⊢
    have hw:fl t (fl e.yb (S.pf (wd e.yg)).yn++[⟨(nth sent e.yf).yo,fy (S.pf (wd e.yg)) e.yb (nth sent e.yf).yo⟩])=fl t (S.pf (wd e.yg)).yn++fl t [⟨(nth sent e.yf).yo,fy (S.pf (wd e.yg)) e.yb (nth sent e.yf).yo⟩]:=by
     rw[<- VP q (S.pf (wd e.yg)).yn];unfold fl;rw[List.filter_append]
    rw[hw,JM,hh t (by omega),vy]
    by_cases e2:fy (S.pf (wd e.yg)) e.yb (nth sent e.yf).yo>t
    ·rw[if_pos ⟨rfl,e2⟩];simp only[fl,List.filter_cons,List.filter_nil,decide_eq_true e2,if_true,fk];unfold qN;simp only;omega
    ·rw[if_neg (fun x=>e2 x.2)];simp only[fl,List.filter_cons,List.filter_nil,decide_eq_false e2,fk];simp[fk]
   ·rw[oth k e1] at q ⊢;rw[h1 k t e1];exact kv.hold k t q
theorem Runs.kv(g:Sg c net rs sent):∀ {n:Nat} {S F:St},Runs c rs sent n S F->∀ {H:List Rc},JV c net rs sent S H->KV c sent S H->∃ H',JV c net rs sent F H'/\KV c sent F H'
 | _,_,_,.done _ k,H,h,v=>⟨H,h.eq k,v.eq k⟩
 | _,_,_,.step e eN hp hm he hr,H,h,v=>by
  obtain⟨o,ho,hv⟩:=UV g h v hp hm
  exact Runs.kv g hr (ho.eq he) (hv.eq he)
theorem UW:KV c sent (init c rs sent) []:=⟨trivial,fun _=>rfl,fun _ _ _=>rfl⟩
theorem RunsTo.served(g:Sg c net rs sent){come lost:List Cm}(h:RunsTo c rs sent come lost):∃ F H,F.ag=[]/\JV c net rs sent F H/\pH c sent H/\come.Perm (H.filterMap (lY c))/\lost.Perm (H.filterMap Qe):=by
 obtain⟨n,F,h1,h2,h3⟩:=h.run
 obtain⟨H,hH,hK⟩:=h1.kv g (UT g) UW
 exact⟨F,H,h1.fin,hH,hK.sv,h2.trans hH.come,h3.trans hH.lost⟩
end
end
section
variable {r:Rc}{H:List Rc}
def wu{α:Type}(p:α->Bool)(f:α->Int):List α->Int
 | []=>0
 | x::l=>(if p x then f x else 0)+wu p f l
theorem Yl{α:Type}{p q:α->Bool}{f:α->Int}:∀ {l:List α},(∀ x∈l,0<=f x)->(∀ x∈l,p x=true->q x=true)->wu p f l<=wu q f l
 | [],_,_=>Int.le_refl _
 | x::l,h,k=>by
  have ih:=Yl (l:=l) (fun y hy=>h y (List.mem_cons_of_mem _ hy)) fun y hy=>k y (List.mem_cons_of_mem _ hy)
  have h1:=h x (by simp);have h2:=k x (by simp)
  simp only[wu]
  by_cases e:p x=true
  ·rw[if_pos e,if_pos (h2 e)];omega
  ·rw[if_neg e];split <;> omega
theorem rO{α:Type}{p:α->Bool}{f:α->Int}:∀ {l:List α},(∀ x∈l,0<=f x)->0<=wu p f l
 | [],_=>Int.le_refl _
 | x::l,h=>by
  have ih:=rO (p:=p) (l:=l) fun y hy=>h y (List.mem_cons_of_mem _ hy)
  have h1:=h x (by simp)
  simp only[wu];split <;> omega
theorem bX{α:Type}{p:α->Bool}{f:α->Int}:∀ {l:List α},(∀ x∈l,p x=false)->wu p f l=0
 | [],_=>rfl
 | x::l,h=>by
  simp only[wu];rw[if_neg (by rw[h x (by simp)];simp),bX fun y hy=>h y (List.mem_cons_of_mem _ hy)];rfl
theorem co{α:Type}{p q:α->Bool}{f:α->Int}:∀ {l:List α},(∀ x∈l,p x=q x)->wu p f l=wu q f l
 | [],_=>rfl
 | x::l,h=>by
  simp only[wu];rw[h x (by simp),co fun y hy=>h y (List.mem_cons_of_mem _ hy)]
def je(k:Ex)(r:Rc):Bool:=decide (wd r.ev.yg=k)&&r.out.isSome
def f8(k:Ex)(s:Int)(r:Rc):Bool:=je k r&&decide (s<=r.ev.yb)
def bY(k:Ex)(s u:Int)(r:Rc):Bool:=je k r&&decide (s<=r.ev.yb)&&decide (r.ev.yb<s+u)
section
variable {c:Cf} {sent:List jQ} {k:Ex}
theorem mF:je k r=true↔wd r.ev.yg=k/\∃ t,r.out=some t:=by
 unfold je;simp[Option.isSome_iff_exists]
structure PH (c:Cf) (sent:List jQ) (k:Ex) (H:List Rc):Prop where
 sv:pH c sent H
 so:H.Pairwise fun a b=>b.ev.yb<=a.ev.yb
 sz:∀ r∈H,1<=qN sent r
 t0:∀ r∈H,0<=r.ev.yb
theorem PH.tail(h:PH c sent k (r::H)):PH c sent k H:=⟨h.sv.1,(List.pairwise_cons.1 h.so).2,fun x hx=>h.sz x (List.mem_cons_of_mem _ hx),fun x hx=>h.t0 x (List.mem_cons_of_mem _ hx)⟩
theorem iG(h:¬je k r=true):uJ k (r::H)=uJ k H:=by
 rw[uJ]
 split
 ·rename_i e
  cases ho:r.out with
  | none=>rfl
  | some t=>exact absurd (mF.2 ⟨e,t,ho⟩) h
 ·rfl
theorem sX{t:Int}(h:wd r.ev.yg=k)(ho:r.out=some t):uJ k (r::H)=t:=by
 rw[uJ,if_pos h,ho];rfl
theorem VQ:∀ {H:List Rc},(∀ r∈H,¬je k r=true)->uJ k H=0
 | [],_=>rfl
 | r::H,h=>by rw[iG (h r (by simp)),VQ fun x hx=>h x (List.mem_cons_of_mem _ hx)]
variable {la sl:Int} (zX:(qJ c k).yk.yl=la) (vB:(qJ c k).yk.yp=sl) (l0:0<=la) (s1:1<=sl)
include zX vB l0 s1
theorem PH.step(h:PH c sent k (r::H)){t:Int}(e:wd r.ev.yg=k)(ho:r.out=some t):t=max (r.ev.yb+la) (uJ k H)+sl*qN sent r/\sl<=sl*qN sent r:=by
 subst e
 have:=h.sv.2.1 t ho
 rw[zX,vB] at this
 rw[Int.mul_comm (qN sent r)] at this
 have h2:=h.sz r (by simp)
 have:=Int.mul_le_mul_of_nonneg_left h2 (show 0<=sl by omega)
 exact⟨by assumption,by omega⟩
theorem Wr:∀ {H:List Rc},PH c sent k H->∀ r∈H,∀ t,wd r.ev.yg=k->r.out=some t->t<=uJ k H/\r.ev.yb+la<t
 | [],_,r,hr,_,_,_=>by simp at hr
 | x::H,h,r,hr,t,e,ho=>by
  rcases List.mem_cons.1 hr with rfl | hr
  ·have:=h.step zX vB l0 s1 e ho
   rw[sX e ho];omega
  ·have ih:=Wr h.tail r hr t e ho
   refine⟨?_,ih.2⟩
   by_cases hx:je k x=true
   ·obtain⟨e2,u,hu⟩:=mF.1 hx
    have:=h.step zX vB l0 s1 e2 hu
    rw[sX e2 hu];omega
   ·rw[iG hx];exact ih.1
theorem busy:∀ {H:List Rc},PH c sent k H->(∃ r∈H,je k r=true)->∃ s,(∃ r∈H,je k r=true/\r.ev.yb=s)/\uJ k H=s+la+sl*wu (f8 k s) (qN sent) H/\
  ∀ r∈H,je k r=true->∀ u,1<=u->s+u<=r.ev.yb->u<sl*wu (bY k s u) (qN sent) H
 | [],_,⟨r,hr,_⟩=>by simp at hr
 | r::H,h,hex=>by
  have hs:=List.pairwise_cons.1 h.so
  have hz:=h.sz
  by_cases hr:je k r=true
  ·obtain⟨e,t,ho⟩:=mF.1 hr
   obtain⟨ht,hm⟩:=h.step zX vB l0 s1 e ho
   have ht0:=h.t0 r (by simp)
   by_cases hl:uJ k H<=r.ev.yb+la
   ·refine⟨r.ev.yb,⟨r,by simp,hr,rfl⟩,?_,fun x hx AQ u hu hxu=>?_⟩
    ·rw[sX e ho,wu,if_pos (by unfold f8;rw[hr];simp),bX,ht]
     ·rw[Int.add_zero];omega
     ·intro x hx
      by_cases ha:je k x=true
      ·obtain⟨e2,u,hu⟩:=mF.1 ha
       have:=Wr zX vB l0 s1 h.tail x hx u e2 hu
       unfold f8;simp;intro _;omega
      ·unfold f8;simp[ha]
    ·rcases List.mem_cons.1 hx with rfl | hx
     ·omega
     ·have:=hs.1 x hx;omega
   ·have hex2:∃ r∈H,je k r=true:=by
     refine Classical.byContradiction fun hc=>?_
     have:=VQ (k:=k) (H:=H) fun x hx ha=>hc ⟨x,hx,ha⟩
     omega
    obtain⟨s,⟨x,hx,AQ,Bm⟩,h1,h2⟩:=busy h.tail hex2
    have hxr:=hs.1 x hx
    have CQ:wu (f8 k s) (qN sent) (r::H)=qN sent r+wu (f8 k s) (qN sent) H:=by
     rw[wu,if_pos (by unfold f8;rw[hr];simp;omega)]
    have xS:∀ u,sl*wu (bY k s u) (qN sent) H<=sl*wu (bY k s u) (qN sent) (r::H):=fun u=>by
     refine Int.mul_le_mul_of_nonneg_left ?_ (by omega)
     have:=hz r (by simp)
     rw[wu];split <;> omega
    refine⟨s,⟨x,List.mem_cons_of_mem _ hx,AQ,Bm⟩,?_,fun y hy hya u hu hyu=>?_⟩
    ·rw[sX e ho,CQ,Int.mul_add,ht];omega
    ·have hyr:y.ev.yb<=r.ev.yb:=by
      rcases List.mem_cons.1 hy with rfl | hy
      ·omega
      ·exact hs.1 y hy
     by_cases hq:∃ z∈H,je k z=true/\s+u<=z.ev.yb
     ·obtain⟨z,DQ,Bx,hz3⟩:=hq
      exact Int.lt_of_lt_of_le (h2 z DQ Bx u hu hz3) (xS u)
     ·have he:wu (bY k s u) (qN sent) H=wu (f8 k s) (qN sent) H:=co fun z DQ=>by
       unfold bY f8
       by_cases ha:je k z=true
       ·have:z.ev.yb<s+u:=by
         refine Classical.byContradiction fun hc=>hq ⟨z,DQ,ha,by omega⟩
        simp[this]
       ·simp[ha]
      have:=xS u
      rw[he] at this
      omega
  ·obtain⟨s,⟨x,hx,AQ,Bm⟩,h1,h2⟩:=busy h.tail (by
    obtain⟨x,hx,ha⟩:=hex
    rcases List.mem_cons.1 hx with rfl | hx
    ·exact absurd ha hr
    ·exact⟨x,hx,ha⟩)
   refine⟨s,⟨x,List.mem_cons_of_mem _ hx,AQ,Bm⟩,?_,fun y hy hya u hu hyu=>?_⟩
   ·rw[iG hr,wu,if_neg (by unfold f8;simp[hr]),Int.zero_add];exact h1
   ·rcases List.mem_cons.1 hy with rfl | hy
    ·exact absurd hya hr
    ·rw[wu,if_neg (by unfold bY;simp[hr]),Int.zero_add];exact h2 y hy hya u hu hyu
theorem bZ:∀ {H:List Rc} {τ:Int},PH c sent k H->uJ k H<=τ->vy sent k τ H=0
 | [],_,_,_=>rfl
 | r::H,τ,h,hl=>by
  rw[vy,if_neg]
  ·by_cases hr:je k r=true
   ·obtain⟨e,t,ho⟩:=mF.1 hr
    have:=h.step zX vB l0 s1 e ho
    rw[sX e ho] at hl
    rw[bZ h.tail (by omega)];rfl
   ·rw[iG hr] at hl
    rw[bZ h.tail hl];rfl
  ·rintro⟨e,hc⟩
   cases ho:r.out with
   | none=>rw[ho] at hc;simp at hc
   | some t=>
    rw[ho] at hc
    have:=(Wr zX vB l0 s1 h r (by simp) t e ho).1
    simp only[Option.getD_some] at hc;omega
theorem Y3{most τ:Int}(t0:0<=τ):∀ {H:List Rc},PH c sent k H->(∀ r∈H,je k r=true->qN sent r<=most)->uJ k H<=τ\/∃ s X,(∃ r∈H,je k r=true/\r.ev.yb=s)/\vy sent k τ H<=wu (f8 k s) (qN sent) H-X+most/\0<=X/\τ<s+la+sl*X/\
  ∀ u,1<=u->s+u+la<=τ->u<sl*wu (bY k s u) (qN sent) H
 | [],_,_ => .inl t0
 | r::H,h,hm=>by
  have hs:=List.pairwise_cons.1 h.so
  have hz:=h.sz
  have hmt:∀ x∈H,je k x=true->qN sent x<=most:=fun x hx=>hm x (List.mem_cons_of_mem _ hx)
  by_cases hr:je k r=true
  ·obtain⟨e,t,ho⟩:=mF.1 hr
   by_cases htt:t<=τ
   ·exact .inl (by rw[sX e ho];exact htt)
   ·have Dg:vy sent k τ (r::H)=qN sent r+vy sent k τ H:=by
     rw[vy,if_pos ⟨e,by rw[ho];simp only[Option.getD_some];omega⟩]
    by_cases hl:uJ k H<=τ
    ·obtain⟨s,⟨x,hx,AQ,Bm⟩,h1,h2⟩:=busy zX vB l0 s1 h ⟨r,by simp,hr⟩
     have h0:=bZ zX vB l0 s1 h.tail hl
     have DY:=hm r (by simp) hr
     rw[sX e ho] at h1
     refine .inr ⟨s,wu (f8 k s) (qN sent) (r::H),⟨x,hx,AQ,Bm⟩,by omega,rO fun y hy=>by have:=hz y hy;omega,by omega,fun u hu hut=>?_⟩
     by_cases hq:∃ z∈r::H,je k z=true/\s+u<=z.ev.yb
     ·obtain⟨z,DQ,Bx,hz3⟩:=hq
      exact h2 z DQ Bx u hu hz3
     ·have he:wu (bY k s u) (qN sent) (r::H)=wu (f8 k s) (qN sent) (r::H):=co fun z DQ=>by
       unfold bY f8
       by_cases ha:je k z=true
       ·have:z.ev.yb<s+u:=by
         refine Classical.byContradiction fun hc=>hq ⟨z,DQ,ha,by omega⟩
        simp[this]
       ·simp[ha]
      rw[he];omega
    ·rcases Y3 t0 h.tail hmt with CZ | ⟨s,X,⟨x,hx,AQ,Bm⟩,h1,h2,h3,h4⟩
     ·exact absurd CZ hl
     ·have hxr:=hs.1 x hx
      have CQ:wu (f8 k s) (qN sent) (r::H)=qN sent r+wu (f8 k s) (qN sent) H:=by
       rw[wu,if_pos (by unfold f8;rw[hr];simp;omega)]
      refine .inr ⟨s,X,⟨x,List.mem_cons_of_mem _ hx,AQ,Bm⟩,by omega,h2,h3,fun u hu hut=>?_⟩
      refine Int.lt_of_lt_of_le (h4 u hu hut) (Int.mul_le_mul_of_nonneg_left ?_ (by omega))
      have:=hz r (by simp)
      rw[wu];split <;> omega
  ·have Dg:vy sent k τ (r::H)=vy sent k τ H:=by
    rw[vy,if_neg,Int.zero_add]
    rintro⟨e,hc⟩
    cases ho:r.out with
    | none=>rw[ho] at hc;simp at hc
    | some t=>exact hr (mF.2 ⟨e,t,ho⟩)
   rcases Y3 t0 h.tail hmt with CZ | ⟨s,X,⟨x,hx,AQ,Bm⟩,h1,h2,h3,h4⟩
   ·exact .inl (by rw[iG hr];exact CZ)
   ·refine .inr ⟨s,X,⟨x,List.mem_cons_of_mem _ hx,AQ,Bm⟩,?_,h2,h3,fun u hu hut=>?_⟩
    ·rw[Dg,wu,if_neg (by unfold f8;simp[hr]),Int.zero_add];exact h1
    ·rw[wu,if_neg (by unfold bY;simp[hr]),Int.zero_add];exact h4 u hu hut
end
end
section
variable {H:List Rc}{S:St}
def lw(k:Ex)(s T:Int)(G:Rc->Bool)(r:Rc):Bool:=je k r&&decide (s<=r.out.getD 0)&&decide (r.out.getD 0<=T)&&G r
section
variable {c:Cf} {sent:List jQ} {k:Ex}
variable {la sl:Int} (zX:(qJ c k).yk.yl=la) (vB:(qJ c k).yk.yp=sl) (l0:0<=la) (s1:1<=sl)
include zX vB l0 s1
theorem Xu{s wide:Int}{G:Rc->Bool}(w0:0<=wide):∀ {H:List Rc} (T:Int),PH c sent k H->(∀ r∈H,G r=true->qN sent r<=wide)->sl*wu (lw k s T G) (qN sent) H<=sl*wide+max 0 (T-s)
 | [],T,_,_=>by
  have:=Int.mul_le_mul_of_nonneg_left w0 (show 0<=sl by omega)
  simp only[wu];omega
 | r::H,T,h,hw=>by
  have hwt:∀ r∈H,G r=true->qN sent r<=wide:=fun x hx=>hw x (List.mem_cons_of_mem _ hx)
  by_cases hr:lw k s T G r=true
  ·have Bt:=hr
   unfold lw at hr
   simp only[Bool.and_eq_true,decide_eq_true_eq] at hr
   obtain⟨⟨⟨ha,h1⟩,h2⟩,hg⟩:=hr
   obtain⟨e,t,ho⟩:=mF.1 ha
   rw[ho,Option.getD_some] at h1 h2
   obtain⟨ht,hm⟩:=h.step zX vB l0 s1 e ho
   have xS:wu (lw k s T G) (qN sent) H=wu (lw k s (t-sl*qN sent r) G) (qN sent) H:=co fun x hx=>by
    unfold lw
    by_cases AQ:je k x=true
    ·obtain⟨e2,u,hu⟩:=mF.1 AQ
     have:=(Wr zX vB l0 s1 h.tail x hx u e2 hu).1
     rw[hu,Option.getD_some,show decide (u<=T)=true by simp;omega,show decide (u<=t-sl*qN sent r)=true by simp;omega]
    ·simp[AQ]
   rw[wu,if_pos Bt,xS,Int.mul_add]
   by_cases hts:t-sl*qN sent r<s
   ·rw[bX]
    ·have:=Int.mul_le_mul_of_nonneg_left (hw r (by simp) hg) (show 0<=sl by omega)
     omega
    ·intro x hx
     unfold lw
     by_cases hq:s<=x.out.getD 0
     ·rw[show decide (x.out.getD 0<=t-sl*qN sent r)=false by simp;omega];simp
     ·rw[show decide (s<=x.out.getD 0)=false by simp;omega];simp
   ·have ih:=Xu (s:=s) w0 (t-sl*qN sent r) h.tail hwt
    omega
  ·have ih:=Xu (s:=s) w0 T h.tail hwt
   rw[wu,if_neg hr,Int.zero_add];exact ih
end
theorem JO{w:Int->Int}:∀ {K L:List Int},K.Nodup->(∀ x∈K,x∈L)->(∀ x∈L,0<=w x)->wu (fun _=>true) w K<=wu (fun _=>true) w L
 | [],L,_,_,h=>rO h
 | x::K,L,hn,hs,h=>by
  have hn:=List.nodup_cons.1 hn
  have hx:=hs x (by simp)
  have key:∀ {L:List Int},x∈L->wu (fun _=>true) w L=w x+wu (fun _=>true) w (L.erase x):=by
   intro L hx
   induction L with
   | nil=>simp at hx
   | cons y L ih=>
    by_cases e:y=x
    ·subst e;rw[List.erase_cons_head];simp only[wu,if_true]
    ·rw[List.erase_cons_tail (by simpa using e)]
     simp only[wu,if_true]
     rw[ih ((List.mem_cons.1 hx).resolve_left fun q=>e q.symm)];omega
  rw[key hx]
  simp only[wu,if_true]
  have:=JO (K:=K) (L:=L.erase x) hn.2 (fun y hy=>(List.mem_erase_of_ne fun e=>hn.1 (by rw[<- e];exact hy)).2 (hs y (List.mem_cons_of_mem _ hy))) fun y hy=>h y (List.mem_of_mem_erase hy)
  omega
def pI(p:Rc->Bool)(H:List Rc):List Int:=(H.filter p).map fun r=>r.ev.yf
theorem d4{sent:List jQ}{p:Rc->Bool}:∀ {H:List Rc},wu p (qN sent) H=wu (fun _=>true) (fun i=>(nth sent i).yo) (pI p H)
 | []=>rfl
 | r::H=>by
  unfold pI
  rw[wu,List.filter_cons,d4]
  by_cases h:p r=true
  ·rw[if_pos h,if_pos h];simp only[List.map_cons,wu,if_true];rfl
  ·rw[if_neg h,if_neg h,Int.zero_add];rfl
theorem nz{p:Rc->Bool}{i:Int}:i∈pI p H↔∃ r∈H,p r=true/\r.ev.yf=i:=by
 unfold pI;simp only[List.mem_map,List.mem_filter]
 exact⟨fun⟨r,⟨a,b⟩,e⟩=>⟨r,a,b,e⟩,fun⟨r,a,b,e⟩=>⟨r,⟨a,b⟩,e⟩⟩
theorem M0{B w lo:Int}(hB:1<=B){l:List Int}(h:l.Pairwise fun a b=>a+B<=b\/b+B<=a)(hl:∀ x∈l,lo<=x/\x<=lo+w)(hw:0<=w):(l.length:Int)<=w / B+1:=by
 have AD:0<=w / B:=Int.ediv_nonneg hw (by omega)
 have hn:(l.map fun x=>(x-lo) / B).Nodup:=by
  rw[List.nodup_iff_pairwise_ne,List.pairwise_map]
  refine h.imp fun {a b} zJ e=>?_
  have h1:=Int.emod_add_mul_ediv (a-lo) B;have h2:=Int.emod_add_mul_ediv (b-lo) B
  have h3:=Int.emod_nonneg (a-lo) (show B≠0 by omega);have h4:=Int.emod_lt_of_pos (a-lo) (show 0<B by omega)
  have h5:=Int.emod_nonneg (b-lo) (show B≠0 by omega);have h6:=Int.emod_lt_of_pos (b-lo) (show 0<B by omega)
  rw[e] at h1
  omega
 have:=oF _ ((List.range (w / B+1).toNat).map fun(i:Nat)=>(i:Int)) hn fun y hy=>by
  obtain⟨x,hx,rfl⟩:=List.mem_map.1 hy
  obtain⟨a,b⟩:=hl x hx
  have e0:0<=(x-lo) / B:=Int.ediv_nonneg (by omega) (by omega)
  have e1:(x-lo) / B<=w / B:=Int.ediv_le_ediv (by omega) (by omega)
  exact List.mem_map.2 ⟨((x-lo) / B).toNat,List.mem_range.2 (by omega),by omega⟩
 rw[List.length_map,List.length_map,List.length_range] at this
 omega
theorem Ws{w:Int->Int}{M:Int}:∀ {K:List Int},(∀ x∈K,w x<=M)->wu (fun _=>true) w K<=M*K.length
 | [],_=>by simp[wu]
 | x::K,h=>by
  have ih:=Ws (K:=K) fun y hy=>h y (List.mem_cons_of_mem _ hy)
  have:=h x (by simp)
  simp only[wu,if_true,List.length_cons]
  have e:M*((K.length+1:Nat):Int)=M*K.length+M:=by push_cast;rw[Int.mul_add];omega
  omega
theorem Y4{α β:Type}[DecidableEq β]{f:α->Int}{p:α->Bool}{key:α->β}:∀ {H:List α} {X:List β},X.Nodup->(∀ r∈H,p r=true->key r∈X)->wu p f H=wu (fun _=>true) (fun x=>wu (fun r=>p r&&decide (key r=x)) f H) X
 | [],X,_,_=>by
  have:∀ X:List β,wu (fun _=>true) (fun x=>wu (fun r=>p r&&decide (key r=x)) f ([]:List α)) X=0:=by
   intro X;induction X with
   | nil=>rfl
   | cons x X ih=>simp only[wu,if_true] at ih ⊢;rw[ih];rfl
  rw[this];rfl
 | r::H,X,hn,hk=>by
  have ih:=Y4 (H:=H) (f:=f) hn fun x hx=>hk x (List.mem_cons_of_mem _ hx)
  have one:∀ X:List β,X.Nodup->wu (fun _=>true) (fun x=>wu (fun r=>p r&&decide (key r=x)) f (r::H)) X=(if p r=true/\key r∈X then f r else 0)+wu (fun _=>true) (fun x=>wu (fun r=>p r&&decide (key r=x)) f H) X:=by
   intro X hn
   induction X with
   | nil=>simp[wu]
   | cons x X ihx=>
    have hn:=List.nodup_cons.1 hn
    have:=ihx hn.2
    simp only[wu,if_true] at this ⊢
    rw[this]
    by_cases hp:p r=true
    ·by_cases e:key r=x
     ·rw[if_pos (by simp[hp,e]),if_neg (by rintro⟨_,h⟩;exact hn.1 (e▸h)),if_pos ⟨hp,by rw[e];simp⟩];omega
     ·rw[if_neg (by simp[hp,e])]
      by_cases h2:key r∈X
      ·rw[if_pos ⟨hp,h2⟩,if_pos ⟨hp,List.mem_cons_of_mem _ h2⟩];omega
      ·rw[if_neg (fun h=>h2 h.2),if_neg]
       ·omega
       ·rintro⟨_,h⟩;rcases List.mem_cons.1 h with h | h
        ·exact e h
        ·exact h2 h
    ·rw[if_neg (by simp[hp]),if_neg (fun h=>hp h.1),if_neg (fun h=>hp h.1)];omega
  rw[one X hn,wu,ih]
  by_cases hp:p r=true
  ·rw[if_pos hp,if_pos ⟨hp,hk r (by simp) hp⟩]
  ·rw[if_neg hp,if_neg fun h=>hp h.1]
section
variable {c:Cf} {net:Int} {rs:List (List Hop)} {sent:List jQ}
theorem G0(g:Sg c net rs sent)(h:JV c net rs sent S H){k:Ex}{p:Rc->Bool}(hp:∀ r∈H,p r=true->wd r.ev.yg=k):(pI p H).Nodup:=by
 have Aq:=(List.nodup_append.1 h.iv.nd).1
 rw[List.nodup_iff_pairwise_ne,List.pairwise_map] at Aq
 unfold pI
 rw[List.nodup_iff_pairwise_ne,List.pairwise_map,List.pairwise_filter]
 refine Aq.imp_of_mem ?_
 intro a b ha hb zJ pa pb e
 have ka:=h.ok a ha;have kb:=h.ok b hb
 have e1:=hp a ha pa;have e2:=hp b hb pb
 have e3:a.ev.yg.fQ=b.ev.yg.fQ:=by
  have:=e1.trans e2.symm
  unfold wd at this;injection this
 have e4:a.ev.yg=b.ev.yg:=(g.route ka.s).link_inj ka.h (by rw[e];exact kb.h) e3
 exact zJ (by unfold Rc.id qv;rw[e,e4])
theorem iH(g:Sg c net rs sent)(h:JV c net rs sent S H){r:Rc}(hr:r∈H):
  (r.ev.yg.ya=root rs sent r.ev.yf/\r.ev.yb=(nth sent r.ev.yf).yb)\/∃ r'∈H,r'.ev.yf=r.ev.yf/\r'.ev.yg.fX=r.ev.yg.ya/\r'.out=some r.ev.yb:=by
 rcases h.src r.ev (.inr ⟨r,hr,rfl⟩) with a | a
 ·exact .inl ⟨a.1,a.2.1⟩
 ·exact .inr a
theorem GG(g:Sg c net rs sent)(h:JV c net rs sent S H)(sv:pH c sent H)(k:Ex):PH c sent k H:=by
 refine⟨sv,h.ord.imp fun h=>nx h.1,fun r hr=>?_,fun r hr=>(h.ok r hr).t⟩
 have:=(h.ok r hr).s
 exact(g.fr.each _ this.1 this.2).2.2.2.2.1
end
end
section
variable {rs:List (List Hop)}{p:Pl}{L:Int}{D:Pl->Int}
def JP(rs:List (List Hop))(p:Pl)(L:Int)(n:Nat):List Int:=(jE 0 n).filter fun v=>sJ p (nth rs v)&&decide (sW (nth rs v) p=L)
theorem V7{v:Int}{n:Nat}:v∈JP rs p L n↔0<=v/\v<n/\sJ p (nth rs v)=true/\sW (nth rs v) p=L:=by
 unfold JP
 rw[List.mem_filter,gX,Bool.and_eq_true,decide_eq_true_eq]
 constructor
 ·rintro⟨⟨a,b⟩,d,e⟩;exact⟨a,by omega,d,e⟩
 ·rintro⟨a,b,d,e⟩;exact⟨⟨a,by omega⟩,d,e⟩
theorem G1{c:Cf}(L:Int):((fws c rs D p).filter fun x=>decide (x.k=L))=(JP rs p L rs.length).map (uH c rs D p):=by
 unfold fws vls JP
 rw[List.filter_map,List.filter_filter]
 congr 1
 refine List.filter_congr fun v _=>?_
 show(decide (sW (nth rs v) p=L)&&sJ p (nth rs v))=_
 rw[Bool.and_comm]
theorem MW{c:Cf}{x:Int}:sL c (fws c rs D p) x L=gf ((JP rs p L rs.length).map fun v=>pX c (uH c rs D p v) x):=by
 unfold sL;rw[G1,List.map_map];rfl
theorem MX{c:Cf}:rV c (fws c rs D p) L=pG ((JP rs p L rs.length).map fun v=>mx c v):=by
 unfold rV;rw[G1,List.map_map];rfl
end
section
variable {S:St}{H:List Rc}
structure CF (c:Cf) (sent:List jQ):Prop where
 ap:∀ i j:Int,0<=i->i<j->j<sent.length->(nth sent i).yx=(nth sent j).yx->(nth sent i).yb+tY c (nth sent i).yx<=(nth sent j).yb
 sz:∀ i:Int,0<=i->i<sent.length->(nth sent i).yo<=mx c (nth sent i).yx
theorem sY(c:Cf)(k:Ex):(qJ c k).yk.yl=qu c k.ya:=by
 unfold qJ qu;simp only
 by_cases h:nM c<=k.ya
 ·rw[if_pos h,if_pos (by omega)];rfl
 ·rw[if_neg h,if_neg (by omega)]
theorem sa(c:Cf)(k:Ex):(qJ c k).yk.yp=wl c k.fQ:=rfl
def dY(c:Cf)(r:List Hop)(n:Int):Int := - jn c (fun _=>0) r n
theorem Xv{α:Type}{p:α->Bool}{f:α->Int}:∀(a b:List α),wu p f (a++b)=wu p f a+wu p f b
 | [],b=>by simp[wu]
 | x::a,b=>by simp only[List.cons_append,wu,Xv a b];omega
theorem iI{α:Type}(f:α->Int):∀ l:List α,wu (fun _=>true) f l=gf (l.map f)
 | []=>rfl
 | x::l=>by simp only[wu,if_true,List.map_cons,gf,iI f l]
section
variable {c:Cf} {net:Int} {rs:List (List Hop)} {sent:List jQ}
def Dl(D:Pl->Int)(H:List Rc)(q:Pl):Prop:=∀ r∈H,pk r.ev.yg=q->∀ t,r.out=some t->t<=r.ev.yb+D q
theorem M3(g:Sg c net rs sent)(h:JV c net rs sent S H){D:Pl->Int}{l1 l2:List Pl}{p:Pl}(ho:qC rs (l1++p::l2))(hD:∀ q∈l1,Dl D H q){i:Int}(hi:0<=i/\i<(sent.length:Int)):
  ∀ x∈route rs sent i,(pk x∈l1\/pk x=p)->∀ r∈H,r.ev.yf=i->r.ev.yg=x->(nth sent i).yb+dY c (route rs sent i) x.ya<=r.ev.yb/\r.ev.yb<=(nth sent i).yb+dY c (route rs sent i) x.ya+jn c D (route rs sent i) x.ya:=by
 have hr:=g.route hi
 have zq:route rs sent i∈rs:=wp (g.vl hi).1 (g.vl hi).2
 refine hr.ind (P:=fun x=>(pk x∈l1\/pk x=p)->∀ r∈H,r.ev.yf=i->r.ev.yg=x->(nth sent i).yb+dY c (route rs sent i) x.ya<=r.ev.yb/\r.ev.yb<=(nth sent i).yb+dY c (route rs sent i) x.ya+jn c D (route rs sent i) x.ya) (fun x hx e _ r DR er eh=>?_) (fun y hy x hx e ih hp r DR er eh=>?_)
 ·subst eh
  unfold dY
  rw[e,hr.jn_start,hr.jn_start]
  rcases iH g h DR with⟨_,a⟩ | ⟨r',hr',e1,e2,e3⟩
  ·rw[er] at a;omega
  ·have:=(h.ok r' hr').h
   rw[e1,er] at this
   exact absurd (e2.trans e) (hr.start _ this)
 ·subst eh
  have hq:=ho.clo g.va zq hx hp hy e
  rcases iH g h DR with⟨a,_⟩ | ⟨r',hr',e1,e2,e3⟩
  ·rw[er] at a;exact absurd (e.trans a) (hr.start _ hy)
  ·have hm:=(h.ok r' hr').h
   rw[e1,er] at hm
   have eh:r'.ev.yg=y:=hr.uniq hm hy (e2.trans e.symm)
   obtain⟨i1,i2⟩:=ih (.inl hq) r' hr' (e1.trans er) eh
   have d1:=hD _ hq r' hr' (by rw[eh]) _ e3
   have d2:=(h.out r' hr' _ e3).1
   have hc:qu c y.ya+wl c y.fQ<=iT c sent r'.ev.yf r'.ev.yg:=by
    unfold iT
    rw[sY,sa,e1,er,eh]
    have hs:=hr.hop g.small hy
    have h1:=(g.fr.each i hi.1 hi.2).2.2.2.2.1
    have:=Int.mul_le_mul_of_nonneg_right h1 (show 0<=wl c y.fQ by have:=hs.s0;omega)
    show qu c y.ya+_<=qu c y.ya+_*wl c y.fQ
    omega
   have j1:=hr.jn_next D hy
   have j2:=hr.jn_next (fun _=>0) hy
   unfold dY at *
   rw[<- e,j1,j2]
   omega
def put(k:Ex)(s t:Int)(r:Rc):Bool:=decide (wd r.ev.yg=k)&&decide (s<=r.ev.yb)&&decide (r.ev.yb<=s+t)
theorem tE{k:Ex}{s t:Int}{r:Rc}:put k s t r=true↔wd r.ev.yg=k/\s<=r.ev.yb/\r.ev.yb<=s+t:=by
 unfold put;simp[and_assoc]
def vlR(sent:List jQ)(r:Rc):Int:=(nth sent r.ev.yf).yx
def VT(rs:List (List Hop))(sent:List jQ)(p:Pl)(r:Rc):Int:=sW (route rs sent r.ev.yf) p
theorem JQ(g:Sg c net rs sent)(h:JV c net rs sent S H){r:Rc}(hr:r∈H):1<=qN sent r/\qN sent r<=72:=by
 have:=(h.ok r hr).s
 have:=(g.fr.each _ this.1 this.2).2.2.2.2
 exact⟨this.1,this.2.1⟩
theorem Tt(g:Sg c net rs sent)(hV:mI c)(hC:CF c sent)(h:JV c net rs sent S H){D:Pl->Int}{l1 l2:List Pl}{p:Pl}(ho:qC rs (l1++p::l2))(hD:∀ q∈l1,Dl D H q){s t v:Int}(t0:0<=t)(v0:0<=v)(v1:v<rs.length)(hj:0<=jn c D (nth rs v) p.ya){q:Rc->Bool}(hq:∀ r∈H,q r=true->put p s t r=true/\vlR sent r=v):wu q (qN sent) H<=pX c (uH c rs D p v) t:=by
 obtain⟨m0,m1,b0,b1⟩:=hV.mx v0 (by have:=g.va.len;omega)
 rw[d4]
 have hn:(pI q H).Nodup:=G0 g h (k:=p) fun r hr e=>(tE.1 (hq r hr e).1).1
 have oH:∀ i∈pI q H,(0<=i/\i<(sent.length:Int))/\(nth sent i).yx=v/\s-dY c (nth rs v) p.ya-jn c D (nth rs v) p.ya<=(nth sent i).yb/\(nth sent i).yb<=s-dY c (nth rs v) p.ya+t:=by
  intro i hi
  obtain⟨r,hr,hqr,rfl⟩:=nz.1 hi
  obtain⟨h1,h2⟩:=hq r hr hqr
  obtain⟨e1,e2,e3⟩:=tE.1 h1
  have hs:=(h.ok r hr).s
  have sQ:route rs sent r.ev.yf=nth rs v:=by unfold route;unfold vlR at h2;rw[h2]
  have hh:=M3 g h ho hD hs r.ev.yg (h.ok r hr).h (.inr e1) r hr rfl rfl
  have en:r.ev.yg.ya=p.ya:=by rw[<- e1];rfl
  rw[sQ,en] at hh
  exact⟨hs,h2,by omega,by omega⟩
 have hb:wu (fun _=>true) (fun i=>(nth sent i).yo) (pI q H)<=mx c v*(pI q H).length:=Ws fun i hi=>by
  obtain⟨a,b,_⟩:=oH i hi
  have:=hC.sz i a.1 a.2
  rwa [b] at this
 have hl:((pI q H).length:Int)<=(t+jn c D (nth rs v) p.ya) / tY c v+1:=by
  have:=M0 (B:=tY c v) (w:=t+jn c D (nth rs v) p.ya) (lo:=s-dY c (nth rs v) p.ya-jn c D (nth rs v) p.ya) (l:=(pI q H).map fun i=>(nth sent i).yb) (by omega) ?_ ?_ (by omega)
  ·rw[List.length_map] at this;exact this
  ·rw[List.pairwise_map]
   rw[List.nodup_iff_pairwise_ne] at hn
   refine hn.imp_of_mem fun {i j} hi hj hij=>?_
   obtain⟨a,b,_⟩:=oH i hi
   obtain⟨a',b',_⟩:=oH j hj
   rcases Int.lt_or_gt_of_ne hij with q | q
   ·have:=hC.ap i j a.1 q a'.2 (b.trans b'.symm);rw[b] at this;exact .inl this
   ·have:=hC.ap j i a'.1 q a.2 (b'.trans b.symm);rw[b'] at this;exact .inr this
  ·intro x hx
   obtain⟨i,hi,rfl⟩:=List.mem_map.1 hx
   obtain⟨_,_,c1,c2⟩:=oH i hi
   omega
 have:=Int.mul_le_mul_of_nonneg_left hl (show 0<=mx c v by omega)
 show _<=mx c v*((t+jn c D (nth rs v) p.ya) / tY c v+1)
 omega
end
end
section
variable {S:St}{H:List Rc}{D:Pl->Int}{p:Pl}{t:Int}
section
variable {c:Cf} {net:Int} {rs:List (List Hop)} {sent:List jQ}
theorem UX(g:Sg c net rs sent)(hV:mI c)(hC:CF c sent)(h:JV c net rs sent S H){l1 l2:List Pl}(ho:qC rs (l1++p::l2))(hD:∀ q∈l1,Dl D H q){s L:Int}(t0:0<=t)(hj:∀ v:Int,0<=v->v<rs.length->sJ p (nth rs v)=true->0<=jn c D (nth rs v) p.ya):
  wu (fun r=>put p s t r&&decide (VT rs sent p r=L)) (qN sent) H<=sL c (fws c rs D p) t L:=by
 rw[MW,<- iI]
 rw[Y4 (key:=vlR sent) (X:=JP rs p L rs.length) ((pT _ _).sublist List.filter_sublist)]
 ·rw[iI,iI]
  refine lU fun v hv=>?_
  obtain⟨v0,v1,hu,_⟩:=V7.1 hv
  refine Tt (s:=s) g hV hC h ho hD t0 v0 v1 (hj v v0 v1 hu) fun r hr e=>?_
  simp only[Bool.and_eq_true,decide_eq_true_eq] at e
  exact⟨e.1.1,e.2⟩
 ·intro r hr e
  simp only[Bool.and_eq_true,decide_eq_true_eq] at e
  have hs:=(h.ok r hr).s
  have hv:=g.vl hs
  exact V7.2 ⟨hv.1,hv.2,rx.2 ⟨r.ev.yg,(h.ok r hr).h,(tE.1 e.1).1⟩,e.2⟩
def GH(c:Cf)(L n:Int):Int:=if fB c L=n then fA c L else fB c L
theorem VR.oth{r:List Hop}(h:VR c net r){x:Hop}(hx:x∈r):x.ya=GH c x.fQ x.fX:=by
 have:=h.hv x hx
 unfold VJ JN at this
 obtain⟨_,_,_,_,_,oM,_,_,ho⟩:=this
 unfold GH
 rcases ho with⟨a,b⟩ | ⟨a,b⟩
 ·rw[if_pos b];exact a.symm
 ·rw[if_neg (by rw[<- a];exact fun e=>oM e.symm)];exact b.symm
def GRr(rs:List (List Hop))(sent:List jQ)(p:Pl)(L:Int)(r:Rc):Bool:=sJ p (route rs sent r.ev.yf)&&decide (sW (route rs sent r.ev.yf) p=L)
theorem M4(g:Sg c net rs sent)(hV:mI c)(hC:CF c sent)(h:JV c net rs sent S H)(sv:pH c sent H){s L:Int}(t0:0<=t)(hL:0<=L)(hl:FwOK c (fws c rs D p)):
  wu (fun r=>put p s t r&&decide (VT rs sent p r=L)) (qN sent) H<=rV c (fws c rs D p) L+t / max 1 (wl c L):=by
 have hw:=nq hV hl L
 by_cases hex:∃ r∈H,put p s t r=true/\VT rs sent p r=L
 ·have key:∀ r∈H,put p s t r=true->VT rs sent p r=L->∃ x∈route rs sent r.ev.yf,x.fX=p.ya/\x.fQ=L/\x.ya=GH c L p.ya/\∃ r'∈H,r'.ev.yf=r.ev.yf/\r'.ev.yg=x/\r'.out=some r.ev.yb:=by
   intro r hr hp hk
   have hs:=(h.ok r hr).s
   have D2:=g.route hs
   obtain⟨e1,_,_⟩:=tE.1 hp
   have en:r.ev.yg.ya=p.ya:=by rw[<- e1];rfl
   unfold VT sW at hk
   by_cases hi:(gj (route rs sent r.ev.yf) p.ya).2=true
   ·rw[if_pos hi] at hk
    obtain⟨x1,x2⟩:=dT hi
    refine⟨_,x1,x2,hk,?_,?_⟩
    ·have:=D2.oth x1;rw[hk,x2] at this;exact this
    ·rcases iH g h hr with⟨a,_⟩ | ⟨r',hr',b1,b2,b3⟩
     ·exact absurd (x2.trans (en.symm.trans a)) (D2.start _ x1)
     ·have hm:=(h.ok r' hr').h
      rw[b1] at hm
      exact⟨r',hr',b1,D2.uniq hm x1 (b2.trans (en.trans x2.symm)),b3⟩
   ·rw[if_neg hi] at hk;omega
  obtain⟨r0,hr0,Af,AB⟩:=hex
  obtain⟨x0,hx0,n0,k0,o0,_⟩:=key r0 hr0 Af AB
  have hq0:pk x0=(⟨GH c L p.ya,L⟩:Pl):=by unfold pk;rw[o0,k0]
  have Ed:=(h.ok r0 hr0).s
  have Dh:=ny g (k:=pk x0) ⟨r0.ev.yf,x0,Ed,hx0,rfl⟩
  have vB:=Dh.slow
  have Cd:=Dh.delay
  have hslw:(qJ c (pk x0)).yk.yp=wl c L:=by rw[sa];unfold pk;rw[k0]
  have CW:=Xu (k:=pk x0) (la:=(qJ c (pk x0)).yk.yl) (sl:=wl c L) (s:=s) (wide:=rV c (fws c rs D p) L) (G:=GRr rs sent p L) rfl hslw Cd.1 (by omega) hw.1 (s+t) (GG g h sv _) (fun r hr hg=>by
   unfold GRr at hg
   simp only[Bool.and_eq_true,decide_eq_true_eq] at hg
   have hs:=(h.ok r hr).s
   have hv:=g.vl hs
   rw[MX]
   exact Int.le_trans (hC.sz _ hs.1 hs.2) (Xn (List.mem_map.2 ⟨_,V7.2 ⟨hv.1,hv.2,hg.1,hg.2⟩,rfl⟩)))
  have xS:wu (fun r=>put p s t r&&decide (VT rs sent p r=L)) (qN sent) H<=wu (lw (pk x0) s (s+t) (GRr rs sent p L)) (qN sent) H:=by
   rw[d4,d4]
   refine JO (G0 g h (k:=p) fun r hr e=>?_) (fun i hi=>?_) fun i hi=>?_
   ·simp only[Bool.and_eq_true,decide_eq_true_eq] at e
    exact(tE.1 e.1).1
   ·obtain⟨r,hr,e,rfl⟩:=nz.1 hi
    simp only[Bool.and_eq_true,decide_eq_true_eq] at e
    obtain⟨x,hx,n1,k1,o1,r',hr',b1,b2,b3⟩:=key r hr e.1 e.2
    obtain⟨_,p1,p2⟩:=tE.1 e.1
    refine nz.2 ⟨r',hr',?_,b1⟩
    unfold lw GRr
    rw[b1,b3]
    simp only[Bool.and_eq_true,decide_eq_true_eq,Option.getD_some]
    refine⟨⟨⟨mF.2 ⟨?_,_,b3⟩,p1⟩,p2⟩,rx.2 ⟨_,(h.ok r hr).h,(tE.1 e.1).1⟩,e.2⟩
    rw[b2,hq0];unfold wd;rw[o1,k1]
   ·obtain⟨r,hr,_,rfl⟩:=nz.1 hi
    have:=(JQ g h hr).1
    show 0<=qN sent r
    omega
  rw[show s+t-s=t by omega,show max 0 t=t by omega] at CW
  rw[show max 1 (wl c L)=wl c L by omega]
  have h1:wl c L*(wu (lw (pk x0) s (s+t) (GRr rs sent p L)) (qN sent) H-rV c (fws c rs D p) L)<=t:=by rw[Int.mul_sub];omega
  have h2:wu (lw (pk x0) s (s+t) (GRr rs sent p L)) (qN sent) H-rV c (fws c rs D p) L<=t / wl c L:=(Int.le_ediv_iff_mul_le (by omega)).2 (by rw[Int.mul_comm];exact h1)
  omega
 ·rw[bX]
  ·have:0<=t / max 1 (wl c L):=Int.ediv_nonneg t0 (by omega)
   omega
  ·intro r hr
   refine Bool.eq_false_iff.2 fun e=>hex ?_
   simp only[Bool.and_eq_true,decide_eq_true_eq] at e
   exact⟨r,hr,e.1,e.2⟩
theorem G2(g:Sg c net rs sent)(hV:mI c)(hC:CF c sent)(h:JV c net rs sent S H)(sv:pH c sent H){l1 l2:List Pl}(ho:qC rs (l1++p::l2))(hD:∀ q∈l1,Dl D H q)(hl:FwOK c (fws c rs D p))(s:Int)(t0:0<=t):
  wu (put p s t) (qN sent) H<=g0 c (fws c rs D p) t:=by
 unfold g0
 rw[Y4 (key:=VT rs sent p) (X:=nP c) (pT _ _),iI]
 ·refine lU fun L hL=>?_
  have h1:=UX g hV hC h ho hD (s:=s) (L:=L) t0 fun v v0 v1 hu=>(hl.j0 (uH c rs D p v) (by
   unfold fws
   exact List.mem_map.2 ⟨v,List.mem_filter.2 ⟨gX.2 ⟨v0,by omega⟩,hu⟩,rfl⟩)).1
  unfold uv
  split
  ·exact h1
  ·exact Int.le_min.2 ⟨h1,M4 g hV hC h sv t0 (by omega) hl⟩
 ·intro r hr e
  have hs:=(h.ok r hr).s
  have hv:=g.vl hs
  have:=oE g.small g.va p hv.1 hv.2
  exact gX.2 ⟨this.1,by have:=this.2.1;unfold VT route;push_cast;omega⟩
end
end
section
variable {H:List Rc}{D:Pl->Int}
structure SBd (c:Cf) (rs:List (List Hop)) (D:Pl->Int) (p:Pl) (St:Int):Prop where
 d:∀ t,0<=t->(∀ u,1<=u->u<=t->u<wl c p.fQ*g0 c (fws c rs D p) (u-1))->lV (g0 c (fws c rs D p)) (wl c p.fQ) (qu c p.ya) t<=D p
 s:∀ t,0<=t->(∀ u,1<=u->u+qu c p.ya<=t->u<wl c p.fQ*g0 c (fws c rs D p) (u-1))->oy (g0 c (fws c rs D p)) (wl c p.fQ) (qu c p.ya) t+pU c (fws c rs D p)<=St
section
variable {c:Cf} {net:Int} {rs:List (List Hop)} {sent:List jQ}
theorem PH.suffix{k:Ex}:∀ {a b:List Rc},PH c sent k (a++b)->PH c sent k b
 | [],_,h=>h
 | _::a,b,h=>PH.suffix (a:=a) h.tail
theorem GI(g:Sg c net rs sent)(hV:mI c)(hC:CF c sent){S:St}(h:JV c net rs sent S H)(sv:pH c sent H){l1 l2:List Pl}{p:Pl}(ho:qC rs (l1++p::l2))(hD:∀ q∈l1,Dl D H q)(hl:FwOK c (fws c rs D p)){St:Int}(hB:SBd c rs D p St):Dl D H p:=by
 intro r hr e t ht
 have hs:=(h.ok r hr).s
 have Dh:=ny g (k:=p) ⟨r.ev.yf,r.ev.yg,hs,(h.ok r hr).h,e⟩
 have vB:=Dh.slow
 have Cd:=Dh.delay
 rw[sa] at vB
 rw[sY] at Cd
 obtain⟨H1,H2,rfl⟩:=List.append_of_mem hr
 have hph:=GG g h sv p
 have AS:=hph.suffix
 have Au:je p r=true:=mF.2 ⟨e,t,ht⟩
 obtain⟨s,⟨x,hx,AQ,Bm⟩,b1,b2⟩:=busy (sY c p) (sa c p) Cd.1 vB.1 AS ⟨r,by simp,Au⟩
 rw[sX e ht] at b1
 have DN:=List.pairwise_cons.1 AS.so
 have xS:∀ y∈r::H2,y.ev.yb<=r.ev.yb:=fun y hy=>by
  rcases List.mem_cons.1 hy with rfl | hy
  ·omega
  ·exact DN.1 y hy
 have hz:∀ y∈H1++r::H2,0<=qN sent y:=fun y hy=>by have:=(JQ g h hy).1;omega
 have DS:∀ q:Rc->Bool,wu q (qN sent) (r::H2)<=wu q (qN sent) (H1++r::H2):=fun q=>by
  rw[Xv]
  have:=rO (p:=q) (f:=qN sent) (l:=H1) fun y hy=>hz y (by simp[hy])
  omega
 have hxr:=xS x hx
 have hA:∀(q:Rc->Bool) (u:Int),0<=u->(∀ y∈r::H2,q y=true->put p s u y=true)->wu q (qN sent) (r::H2)<=g0 c (fws c rs D p) u:=fun q u hu hq=>
  Int.le_trans (Yl (fun y hy=>hz y (by simp at hy;rcases hy with hy | hy <;> simp[hy])) hq) (Int.le_trans (DS _) (G2 g hV hC h sv ho hD hl s hu))
 have DP:wu (f8 p s) (qN sent) (r::H2)<=g0 c (fws c rs D p) (r.ev.yb-s):=hA _ _ (by omega) fun y hy hq=>by
  unfold f8 at hq
  simp only[Bool.and_eq_true,decide_eq_true_eq] at hq
  exact tE.2 ⟨(mF.1 hq.1).1,hq.2,by have:=xS y hy;omega⟩
 have:=hB.d (r.ev.yb-s) (by omega) fun u u1 ut=>by
  have h2:=b2 r (by simp) Au u u1 (by omega)
  refine Int.lt_of_lt_of_le h2 (Int.mul_le_mul_of_nonneg_left (hA _ _ (by omega) fun y hy hq=>?_) (by omega))
  unfold bY at hq
  simp only[Bool.and_eq_true,decide_eq_true_eq] at hq
  exact tE.2 ⟨(mF.1 hq.1.1).1,hq.1.2,by omega⟩
 unfold lV at this
 have h3:=Int.mul_le_mul_of_nonneg_left DP (show 0<=wl c p.fQ by omega)
 omega
theorem GJ(g:Sg c net rs sent)(hV:mI c)(hC:CF c sent){S:St}(h:JV c net rs sent S H)(sv:pH c sent H){l1 l2:List Pl}{p:Pl}(ho:qC rs (l1++p::l2))(hD:∀ q∈l1,Dl D H q)(hl:FwOK c (fws c rs D p)){St:Int}(hB:SBd c rs D p St){r:Rc}(hr:r∈H)(e:pk r.ev.yg=p)(hn:r.out=none):(qJ c p).yk.fT<St:=by
 have hs:=(h.ok r hr).s
 have Dh:=ny g (k:=p) ⟨r.ev.yf,r.ev.yg,hs,(h.ok r hr).h,e⟩
 have vB:=Dh.slow
 have Cd:=Dh.delay
 rw[sa] at vB
 rw[sY] at Cd
 obtain⟨H1,H2,rfl⟩:=List.append_of_mem hr
 have hph:=GG g h sv p
 have AS:=hph.suffix
 have DN:=List.pairwise_cons.1 AS.so
 have nS:(qJ c p).yk.fT<vy sent p r.ev.yb H2+qN sent r:=by
  have:=AS.sv.2.2 hn
  have e2:wd r.ev.yg=p:=e
  rw[e2] at this
  omega
 refine Int.lt_of_lt_of_le nS ?_
 have xS:∀ y∈r::H2,y.ev.yb<=r.ev.yb:=fun y hy=>by
  rcases List.mem_cons.1 hy with rfl | hy
  ·omega
  ·exact DN.1 y hy
 have hz:∀ y∈H1++r::H2,0<=qN sent y:=fun y hy=>by have:=(JQ g h hy).1;omega
 have DS:∀ q:Rc->Bool,wu q (qN sent) (r::H2)<=wu q (qN sent) (H1++r::H2):=fun q=>by
  rw[Xv]
  have:=rO (p:=q) (f:=qN sent) (l:=H1) fun y hy=>hz y (by simp[hy])
  omega
 have hA:∀(s:Int) (q:Rc->Bool) (u:Int),0<=u->(∀ y∈r::H2,q y=true->put p s u y=true)->wu q (qN sent) (r::H2)<=g0 c (fws c rs D p) u:=fun s q u hu hq=>
  Int.le_trans (Yl (fun y hy=>hz y (by simp at hy;rcases hy with hy | hy <;> simp[hy])) hq) (Int.le_trans (DS _) (G2 g hV hC h sv ho hD hl s hu))
 have Da:∀ y∈H1++r::H2,wd y.ev.yg=p->qN sent y<=pU c (fws c rs D p):=fun y hy ey=>by
  have hys:=(h.ok y hy).s
  have hv:=g.vl hys
  refine Int.le_trans (hC.sz _ hys.1 hys.2) (Xn (List.mem_map.2 ⟨uH c rs D p (nth sent y.ev.yf).yx,?_,rfl⟩))
  unfold fws
  exact List.mem_map.2 ⟨_,List.mem_filter.2 ⟨gX.2 ⟨hv.1,by omega⟩,rx.2 ⟨_,(h.ok y hy).h,ey⟩⟩,rfl⟩
 have hm0:0<=pU c (fws c rs D p):=lX _
 have hq0:∀(a b:Int),0<=b->1<=a->0<=(b+a-1) / a:=fun a b hb ha=>Int.ediv_nonneg (by omega) (by omega)
 have hse:∀ s,wu (f8 p s) (qN sent) H2+(if s<=r.ev.yb then qN sent r else 0)<=g0 c (fws c rs D p) (max 0 (r.ev.yb-s)):=fun s=>by
  refine Int.le_trans ?_ (hA s (fun y=>f8 p s y||(decide (wd y.ev.yg=p)&&decide (s<=y.ev.yb)&&decide (y.ev.yb<=r.ev.yb))) _ (by omega) fun y hy hq=>?_)
  ·rw[wu]
   have h1:=Yl (p:=f8 p s) (q:=fun y=>f8 p s y||(decide (wd y.ev.yg=p)&&decide (s<=y.ev.yb)&&decide (y.ev.yb<=r.ev.yb))) (f:=qN sent) (l:=H2) (fun y hy=>hz y (by simp[hy])) fun y hy hq=>by rw[hq];rfl
   have e2:wd r.ev.yg=p:=e
   have hzr:=hz r (by simp)
   by_cases hsr:s<=r.ev.yb
   ·rw[if_pos hsr,if_pos (by simp[e2,hsr])];omega
   ·rw[if_neg hsr];split <;> omega
  ·have hy2:=xS y hy
   simp only[Bool.or_eq_true,Bool.and_eq_true,decide_eq_true_eq] at hq
   rcases hq with hq | hq
   ·unfold f8 at hq
    simp only[Bool.and_eq_true,decide_eq_true_eq] at hq
    exact tE.2 ⟨(mF.1 hq.1).1,hq.2,by omega⟩
   ·exact tE.2 ⟨hq.1.1,hq.1.2,by omega⟩
 rcases Y3 (most:=pU c (fws c rs D p)) (τ:=r.ev.yb) (sY c p) (sa c p) Cd.1 vB.1 (hph.t0 r (by simp)) AS.tail (fun y hy ha=>Da y (by simp[hy]) (mF.1 ha).1) with CZ | ⟨s,X,⟨x,hx,AQ,Bm⟩,s1,s2,s3,s4⟩
 ·rw[bZ (sY c p) (sa c p) Cd.1 vB.1 AS.tail CZ]
  have h1:=hse r.ev.yb
  rw[if_pos (Int.le_refl _),show max 0 (r.ev.yb-r.ev.yb)=0 by omega] at h1
  have h0:0<=wu (f8 p r.ev.yb) (qN sent) H2:=rO fun y hy=>hz y (by simp[hy])
  have h2:=hB.s 0 (by omega) fun u u1 ut=>by omega
  unfold oy at h2
  rw[show max (0-qu c p.ya) 0+wl c p.fQ-1=wl c p.fQ-1 by omega,Int.ediv_eq_zero_of_lt (by omega) (by omega)] at h2
  omega
 ·have hxr:=DN.1 x hx
  have h1:=hse s
  rw[if_pos (by omega),show max 0 (r.ev.yb-s)=r.ev.yb-s by omega] at h1
  have h2:=hB.s (r.ev.yb-s) (by omega) fun u u1 ut=>by
   refine Int.lt_of_lt_of_le (s4 u u1 (by omega)) (Int.mul_le_mul_of_nonneg_left ?_ (by omega))
   have hw:wu (bY p s u) (qN sent) H2<=wu (bY p s u) (qN sent) (r::H2):=by
    have:=hz r (by simp)
    rw[wu];split <;> omega
   refine Int.le_trans hw (hA s _ _ (by omega) fun y hy hq=>?_)
   unfold bY at hq
   simp only[Bool.and_eq_true,decide_eq_true_eq] at hq
   exact tE.2 ⟨(mF.1 hq.1.1).1,hq.1.2,by omega⟩
  unfold oy at h2
  have h3:(max (r.ev.yb-s-qu c p.ya) 0+wl c p.fQ-1) / wl c p.fQ<=X:=by
   refine Int.le_of_lt_add_one ((Int.ediv_lt_iff_lt_mul (by omega)).2 ?_)
   have e1:(X+1)*wl c p.fQ=wl c p.fQ*X+wl c p.fQ:=by rw[Int.add_mul,Int.mul_comm];omega
   have e2:0<=wl c p.fQ*X:=Int.mul_nonneg (by omega) s2
   omega
  omega
theorem VU(g:Sg c net rs sent)(hV:mI c)(hC:CF c sent){S:St}(h:JV c net rs sent S H)(sv:pH c sent H){St:Pl->Int}{l:List Pl}(hp:l.Perm (PS rs))(ho:qC rs l)(hl:∀ p∈PS rs,FwOK c (fws c rs D p))(hB:∀ p∈PS rs,SBd c rs D p (St p)):
  (∀ r∈H,∀ t,r.out=some t->t<=r.ev.yb+D (pk r.ev.yg))/\∀ r∈H,r.out=none->(qJ c (pk r.ev.yg)).yk.fT<St (pk r.ev.yg):=by
 have key:∀(n:Nat) (l1 l2:List Pl),l1.length=n->l=l1++l2->∀ q∈l1,Dl D H q:=by
  intro n
  induction n with
  | zero=>intro l1 l2 hn _ q hq;rw[List.length_eq_zero_iff.1 hn] at hq;cases hq
  | succ n ih=>
   intro l1 l2 hn e q hq
   have oM:l1≠[]:=by rintro rfl;cases hn
   have e0:=List.dropLast_concat_getLast oM
   generalize l1.dropLast=l0 at e0
   generalize l1.getLast oM=p at e0
   subst e0
   rw[List.length_append,List.length_singleton] at hn
   have e1:l=l0++p::l2:=by rw[e];simp
   have ih0:=ih l0 (p::l2) (by omega) e1
   rcases List.mem_append.1 hq with hq | hq
   ·exact ih0 q hq
   ·rw[List.mem_singleton.1 hq]
    have CH:p∈PS rs:=hp.mem_iff.1 (by rw[e1];simp)
    exact GI g hV hC h sv (e1▸ho) ih0 (hl p CH) (hB p CH)
 have oH:∀ r∈H,pk r.ev.yg∈PS rs:=fun r hr=>by
  have hs:=(h.ok r hr).s
  have hv:=g.vl hs
  exact(sG rs).2 ⟨_,wp hv.1 hv.2,_,(h.ok r hr).h,rfl⟩
 refine⟨fun r hr t ht=>key _ l [] rfl (by simp) _ (hp.mem_iff.2 (oH r hr)) r hr rfl t ht,fun r hr hn=>?_⟩
 obtain⟨l1,l2,e⟩:=List.append_of_mem (hp.mem_iff.2 (oH r hr))
 exact GJ g hV hC h sv (e▸ho) (key _ l1 _ rfl e) (hl _ (oH r hr)) (hB _ (oH r hr)) hr rfl hn
end
end
section
def bj(c:Cf)(D:Pl->Int)(r:List Hop)(n:Int):Int:=dY c r n+jn c D r n
theorem VV{c:Cf}{net:Int}{r:List Hop}(h:VR c net r)(D:Pl->Int):bj c D r (nth r 0).ya=0:=by
 unfold bj dY;rw[h.jn_start,h.jn_start];rfl
theorem Xw{c:Cf}{net:Int}{r:List Hop}(h:VR c net r)(D:Pl->Int){g:Hop}(hg:g∈r):bj c D r g.fX=bj c D r g.ya+D (pk g):=by
 unfold bj dY;rw[h.jn_next D hg,h.jn_next (fun _=>0) hg];omega
structure EV (c:Cf) (D:Pl->Int) (r:List Hop) (v:Int) (m:Nat) (s:ES):Prop where
 h:∀ n,vH s.sum n=true↔∃ q:Int,0<=q/\q<m/\(nth r q).fX=n
 g:∀ n,RK r m n->xI s.sum n 0=bj c D r n
 e:∀ q:Int,0<=q->q<m->0<=(nth r q).fX->(nth r q).fX<nM c->∃ e∈s.ends,e.yx=v/\e.ya=(nth r q).fX/\e.yl=bj c D r (nth r q).fX
theorem EV.all{c:Cf}{net:Int}{rs:List (List Hop)}(hS:Small c)(hv:VA c net rs){D:Pl->Int}{de:DM}{r:List Hop}(hr:r∈rs)(DT:∀ h∈r,xI de (pk h) 0=D (pk h))(hD:∀ h∈r,-1073741824<=D (pk h)/\D (pk h)<=1073741824)(v:Int):∀ m:Nat,m<=r.length->EV c D r v m ((r.take m).foldl (pF c r de v) ⟨[],[]⟩)
 | 0,_=>by
  have zF:=hv.each r hr
  refine⟨fun n=>?_,fun n hn=>?_,fun q q0 q1=>by omega⟩
  ·simp only[List.take_zero,List.foldl_nil,vH]
   exact⟨fun h=>by simp at h,fun⟨q,q0,q1,_⟩=>by omega⟩
  ·rcases hn with rfl | ⟨q,q0,q1,_⟩
   ·rw[VV zF];rfl
   ·omega
 | m+1,hm=>by
  have zF:=hv.each r hr
  have ih:=EV.all hS hv hr DT hD v m (by omega)
  have e1:r.take (m+1)=r.take m++[nth r m]:=by
   rw[List.take_succ_eq_append_getElem (by omega),kh (i:=(m:Int)) ⟨by omega,by omega⟩];simp
  rw[e1,List.foldl_append]
  generalize (r.take m).foldl (pF c r de v) ⟨[],[]⟩=s at ih
  simp only[List.foldl_cons,List.foldl_nil]
  obtain⟨h1,h2,_,_⟩:=zF.cond (m:Int) (by omega) (by omega)
  have oH:nth r (m:Int)∈r:=wp (by omega) (by omega)
  have AJ:vH s.sum (nth r (m:Int)).fX=false:=by
   refine Bool.eq_false_iff.2 fun hc=>h2 (.inr ?_)
   exact(ih.h _).1 hc
  have zo:(nth r (m:Int)).fX≠(nth r 0).ya:=fun e=>h2 (.inl e)
  have hb1:=Wm (c:=c) (D:=D) hS hv (M:=1073741824) hr hD (nth r (m:Int)).ya
  have BK:=Wm (c:=c) (D:=fun _=>0) hS hv (M:=0) hr (fun _ _=>by omega) (nth r (m:Int)).ya
  have hd:=hD _ oH
  have hn:=Xw zF D oH
  have Ai:i64 (xI s.sum (nth r (m:Int)).ya 0+xI de (pk (nth r (m:Int))) 0)=bj c D r (nth r (m:Int)).fX:=by
   rw[ih.g _ h1,DT _ oH,hn,xQ]
   unfold bj dY;omega
  unfold pF
  rw[if_neg (by simp[AJ,zo]),Ai]
  refine⟨fun n=>?_,fun n hk=>?_,fun q q0 q1 n0 n1=>?_⟩
  ·simp only
   rw[n6,Bool.or_eq_true,decide_eq_true_eq,ih.h]
   constructor
   ·rintro(e | ⟨q,q0,q1,e⟩)
    ·exact⟨m,by omega,by omega,e.symm⟩
    ·exact⟨q,q0,by omega,e⟩
   ·rintro⟨q,q0,q1,e⟩
    by_cases hq:q=m
    ·subst hq;exact .inl e.symm
    ·exact .inr ⟨q,q0,by omega,e⟩
  ·simp only
   rw[gW]
   split
   ·rename_i e;rw[e]
   ·rename_i e
    refine ih.g n ?_
    rcases hk with hk | ⟨q,q0,q1,hk⟩
    ·exact .inl hk
    ·refine .inr ⟨q,q0,?_,hk⟩
     by_cases hq:q=m
     ·subst hq;exact absurd hk.symm e
     ·omega
  ·simp only
   by_cases hq:q=m
   ·subst hq
    rw[if_pos ⟨n0,n1⟩,gW,if_pos rfl]
    exact⟨_,List.mem_append_right _ (List.mem_singleton.2 rfl),rfl,rfl,rfl⟩
   ·obtain⟨e,he,e1,e2,e3⟩:=ih.e q q0 (by omega) n0 n1
    refine⟨e,?_,e1,e2,e3⟩
    split
    ·exact List.mem_append_left _ he
    ·exact he
theorem Tu{c:Cf}{net:Int}{rs:List (List Hop)}(hS:Small c)(hv:VA c net rs){D:Pl->Int}{de:DM}{v:Int}(v0:0<=v)(v1:v<rs.length)(DT:∀ h∈nth rs v,xI de (pk h) 0=D (pk h))(hD:∀ h∈nth rs v,-1073741824<=D (pk h)/\D (pk h)<=1073741824){g:Hop}(hg:g∈nth rs v)(n0:0<=g.fX)(n1:g.fX<nM c):
  ∃ e∈VE c rs de v,e.yx=v/\e.ya=g.fX/\e.yl=bj c D (nth rs v) g.ya+D (pk g):=by
 obtain⟨q,q0,q1,rfl⟩:=tB hg
 obtain⟨e,he,e1,e2,e3⟩:=(EV.all hS hv (wp v0 v1) DT hD v _ (Nat.le_refl _)).e q q0 q1 n0 n1
 rw[List.take_length] at he
 exact⟨e,he,e1,e2,e3.trans (Xw (hv.each _ (wp v0 v1)) D (wp q0 q1))⟩
section
variable {c:Cf} {net:Int} {rs:List (List Hop)} {sent:List jQ}
theorem JR(g:Sg c net rs sent)(hV:mI c)(hC:CF c sent){S:St}{H:List Rc}(h:JV c net rs sent S H)(sv:pH c sent H){D:Pl->Int}{St:Pl->Int}{l:List Pl}(hp:l.Perm (PS rs))(ho:qC rs l)(hl:∀ p∈PS rs,FwOK c (fws c rs D p))(hB:∀ p∈PS rs,SBd c rs D p (St p)){r:Rc}(hr:r∈H){t:Int}(ht:r.out=some t):
  t<=(nth sent r.ev.yf).yb+(bj c D (route rs sent r.ev.yf) r.ev.yg.ya+D (pk r.ev.yg)):=by
 obtain⟨h1,_⟩:=VU g hV hC h sv hp ho hl hB
 have hs:=(h.ok r hr).s
 have hv:=g.vl hs
 have hm:pk r.ev.yg∈PS rs:=(sG rs).2 ⟨_,wp hv.1 hv.2,_,(h.ok r hr).h,rfl⟩
 obtain⟨l1,l2,e⟩:=List.append_of_mem (hp.mem_iff.2 hm)
 have:=(M3 g h (e▸ho) (D:=D) (fun q hq r' hr' e' t' BB=>by rw[<- e'];exact h1 r' hr' t' BB) hs r.ev.yg (h.ok r hr).h (.inr rfl) r hr rfl rfl).2
 have h2:=h1 r hr t ht
 unfold bj
 omega
end
end
section
theorem JS{α:Type}[Inhabited α]{l:List α}{i q:Int}{x:α}(h0:0<=i)(h1:i<l.length)(q0:0<=q)(q1:q<l.length):nth (l.set i.toNat x) q=if q=i then x else nth l q:=by
 rw[kh ⟨q0,by rw[List.length_set];exact q1⟩,List.getElem_set,kh ⟨q0,q1⟩]
 by_cases e:q=i
 ·rw[if_pos e,if_pos (by omega)]
 ·rw[if_neg e,if_neg (by omega)]
theorem MY{x n:Int}(h0:0<=x)(hn:0<n):0<=x.tmod n/\x.tmod n<n:=by
 rw[Int.tmod_eq_emod_of_nonneg h0];exact⟨Int.emod_nonneg _ (by omega),Int.emod_lt_of_pos _ hn⟩
end
section
variable {net:Int}
abbrev Sw:=yu
def qp(c:Cf)(l:List Sw):Cf:=⟨c.fM,c.yd,l,c.fK,c.yc,c.fH,c.fU,c.ye⟩
structure LG (c:Cf) (l:List Sw):Prop where
 len:l.length=c.fS.length
 nm:∀ i:Int,(nth l i).yB=(nth c.fS i).yB
 nt:∀ i:Int,(nth l i).yQ=(nth c.fS i).yQ
 dl:∀ i:Int,(nth l i).yl=(nth c.fS i).yl
 st:∀ i:Int,0<=(nth c.fS i).fT/\(nth c.fS i).fT<=1073741824->0<=(nth l i).fT/\(nth l i).fT<=1073741824
theorem LG.refl(c:Cf):LG c c.fS:=⟨rfl,fun _=>rfl,fun _=>rfl,fun _=>rfl,fun _ h=>h⟩
section
variable {c:Cf} {l:List Sw} (h:LG c l)
include h
theorem LG.name(i:Int):fJ (qp c l) i=fJ c i:=by
 unfold fJ kD qp
 simp only[h.len,h.nm]
theorem LG.nodes:kD (qp c l)=kD c:=by unfold kD qp;simp only[h.len]
theorem LG.findL(x:Int)(s:ByteArray)(k:Option Int):∀(n:Nat) (i:Int),vW x (qp c l) s k n i=vW x c s k n i
 | 0,i=>by rw[vW,vW]
 | n+1,i=>by
  rw[vW,vW]
  simp only[h.name,LG.findL x s k n]
theorem LG.find(s:ByteArray):jb (qp c l) s=jb c s:=by
 unfold jb
 simp only[h.nodes,h.findL]
theorem LG.fA(i:Int):Go.Proofs.YthjnhebofpebpaaGreat.fA (qp c l) i=Go.Proofs.YthjnhebofpebpaaGreat.fA c i:=by unfold Go.Proofs.YthjnhebofpebpaaGreat.fA;rw[h.find];rfl
theorem LG.fB(i:Int):Go.Proofs.YthjnhebofpebpaaGreat.fB (qp c l) i=Go.Proofs.YthjnhebofpebpaaGreat.fB c i:=by unfold Go.Proofs.YthjnhebofpebpaaGreat.fB;rw[h.find];rfl
theorem LG.fine{n:Int}(q:rt c net n):rt (qp c l) net n:=by
 obtain⟨h0,h1⟩:=q
 refine⟨h0,?_⟩
 rcases h1 with h1 | ⟨a,b,d,e⟩
 ·exact .inl h1
 ·right
  unfold sw at *
  rw[show nM (qp c l)=nM c from rfl,show(qp c l).fS=l from rfl,h.nt,h.dl]
  exact⟨a,b,d,h.st _ e⟩
theorem LG.jnP{k a b:Int}(q:JN c net k a b):JN (qp c l) net k a b:=by
 obtain⟨h1,h2,h3,h4,h5,h6,h7,h8,h9⟩:=q
 refine⟨h1,h2,h3,h4,h5,?_,?_,?_,?_⟩
 ·rw[h.fA,h.fB];exact h6
 ·rw[h.fA];exact h.fine h7
 ·rw[h.fB];exact h.fine h8
 ·rw[h.fA,h.fB];exact h9
theorem LG.small(q:Small c):Small (qp c l):=⟨q.m,by show l.length<=_;rw[h.len];exact q.s,q.l,q.v⟩
theorem LG.va{rs:List (List Hop)}(q:VA c net rs):VA (qp c l) net rs:=by
 refine⟨q.nt,q.len,q.most,fun r hr=>⟨(q.each r hr).len,fun x h1 h2=>?_⟩⟩
 obtain⟨a,b,d,e⟩:=(q.each r hr).cond x h1 h2
 exact⟨a,b,d,h.jnP e⟩
theorem LG.lat(n:Int):qu (qp c l) n=qu c n:=by unfold qu;rw[show nM (qp c l)=nM c from rfl,show(qp c l).fS=l from rfl,h.dl]
theorem LG.jn(D:Pl->Int)(r:List Hop)(n:Int):Go.Proofs.YthjnhebofpebpaaGreat.jn (qp c l) D r n=Go.Proofs.YthjnhebofpebpaaGreat.jn c D r n:=by
 have e:iE (qp c l) D=iE c D:=by funext mp x;unfold iE;rw[h.lat];rfl
 unfold Go.Proofs.YthjnhebofpebpaaGreat.jn;rw[e]
theorem LG.fws(rs:List (List Hop))(D:Pl->Int)(p:Pl):Go.Proofs.YthjnhebofpebpaaGreat.fws (qp c l) rs D p=Go.Proofs.YthjnhebofpebpaaGreat.fws c rs D p:=by
 unfold Go.Proofs.YthjnhebofpebpaaGreat.fws
 congr 1;funext v;unfold uH;rw[h.jn]
theorem LG.ok{rs:List (List Hop)}{D:Pl->Int}{p:Pl}(q:FwOK c (Go.Proofs.YthjnhebofpebpaaGreat.fws c rs D p)):FwOK (qp c l) (Go.Proofs.YthjnhebofpebpaaGreat.fws (qp c l) rs D p):=by
 rw[h.fws];exact⟨q.len,q.v0,q.k0,q.j0⟩
end
structure RG (c:Cf) (rs:List (List Hop)) (sent:List jQ) (D:Pl->Int) (come lost:List Cm):Prop where
 cm:∀ x∈come,(0<=x.yf/\x.yf<sent.length)/\(nth sent x.yf).yb<=x.yb/\∃ g∈route rs sent x.yf,g.fX=x.ya/\0<=g.fX/\g.fX<nM c/\x.yb-(nth sent x.yf).yb<=bj c D (route rs sent x.yf) g.ya+D (pk g)
 len:come.length<=1280
end
section
theorem HF.sb{c:Cf}{rs:List (List Hop)}{D:Pl->Int}(h:HF c rs D){net:Int}(hS:Small c)(hv:VA c net rs){p:Pl}(hp:p∈PS rs):SBd c rs D p (l9 c rs D p).fT:=by
 have hb:=h.b p hp
 have hl:=Y0 hS hv hp
 have hg:=Wl (g0 c (fws c rs D p)) (wl c p.fQ)
 have tg:=GE (A:=g0 c (fws c rs D p)) (s:=wl c p.fQ) hb
 unfold nR at hb
 refine⟨fun t t0 ht=>?_,fun t t0 ht=>?_⟩
 ·have:t<BZ (g0 c (fws c rs D p)) (wl c p.fQ):=by
   refine Classical.byContradiction fun hc=>?_
   have:=ht _ hg.1 (by omega)
   omega
  rw[h.d p hp]
  exact Wj (f:=lV _ _ _) t0 (by omega)
 ·have:t<BZ (g0 c (fws c rs D p)) (wl c p.fQ)+qu c p.ya:=by
   refine Classical.byContradiction fun hc=>?_
   have:=ht _ hg.1 (by omega)
   omega
  have:=Wj (f:=oy (g0 c (fws c rs D p)) (wl c p.fQ) (qu c p.ya)) (n:=(BZ (g0 c (fws c rs D p)) (wl c p.fQ)+qu c p.ya).toNat) t0 (by omega)
  show _<=p9 _ _+_
  omega
theorem HF.store{c:Cf}{rs:List (List Hop)}{D:Pl->Int}(h:HF c rs D){net:Int}(hf:FewP c rs)(hS:Small c)(hv:VA c net rs)(hV:mI c){p:Pl}(hp:p∈PS rs):0<=(l9 c rs D p).fT/\(l9 c rs D p).fT<=1073741824:=by
 have hb:=h.b p hp
 have hl:=Y0 hS hv hp
 have hg:=Wl (g0 c (fws c rs D p)) (wl c p.fQ)
 have tg:=h.ok hS hv p
 have hmo:=YN hV tg
 unfold nR at hb
 have hA:∀ t:Int,0<=t->t<=33768->g0 c (fws c rs D p) t<=21*(16*825840):=by
  intro t t0 t1
  have t8:∀ x∈fws c rs D p,0<=pX c x t/\pX c x t<=825840:=by
   intro x hx
   have CB:=tg.v0 x hx
   have hj0:=(tg.j0 x hx).1
   obtain⟨y,hy,hr,_,_,e,ej,_⟩:=JA hx
   have hj:=(Wm (c:=c) (D:=D) hS hv (M:=33768) hr (fun z hz=>by have:=h.rng hS hv hr hz;omega) y.ya).2
   obtain⟨a,b,d,_⟩:=hV.mx CB.1 CB.2
   unfold pX
   have h1:(t+x.j) / tY c x.v<=(t+x.j) / 100:=by
    refine(Int.le_ediv_iff_mul_le (by omega)).2 ?_
    have h2:=Int.ediv_mul_le (t+x.j) (show tY c x.v≠0 by omega)
    have h3:0<=(t+x.j) / tY c x.v:=Int.ediv_nonneg (by omega) (by omega)
    have h4:=Int.mul_le_mul_of_nonneg_left d h3
    omega
   have h3:0<=(t+x.j) / tY c x.v:=Int.ediv_nonneg (by omega) (by omega)
   have h5:(t+x.j) / tY c x.v+1<=11470:=by omega
   constructor
   ·exact Int.mul_nonneg (by omega) (by omega)
   ·have h6:=Int.mul_le_mul b h5 (by omega) (by omega)
    omega
  unfold g0
  have eW:=hf.l
  have h1:=l8 (f:=uv c (fws c rs D p) t) (M:=16*825840) (l:=nP c) fun L _=>by
   have h2:sL c (fws c rs D p) t L<=16*825840:=by
    unfold sL
    have h3:=l8 (f:=fun x=>pX c x t) (M:=825840) (l:=(fws c rs D p).filter fun x=>decide (x.k=L)) fun x hx=>(t8 x (List.mem_filter.1 hx).1).2
    have h4:((fws c rs D p).filter fun x=>decide (x.k=L)).length<=(fws c rs D p).length:=List.length_filter_le _ _
    have h5:=tg.len
    omega
   unfold uv
   split
   ·exact h2
   ·exact Int.le_trans (Int.min_le_left _ _) h2
  unfold nP at h1
  rw[b9] at h1
  unfold nP
  omega
 have hn:=nr (oy (g0 c (fws c rs D p)) (wl c p.fQ) (qu c p.ya)) (BZ (g0 c (fws c rs D p)) (wl c p.fQ)+qu c p.ya).toNat
 have hx:=aZ (f:=oy (g0 c (fws c rs D p)) (wl c p.fQ) (qu c p.ya)) (M:=21*(16*825840)) (n:=(BZ (g0 c (fws c rs D p)) (wl c p.fQ)+qu c p.ya).toNat) (by omega) fun t t0 t1=>by
  have h1:=hA t t0 (by omega)
  have h2:0<=(max (t-qu c p.ya) 0+wl c p.fQ-1) / wl c p.fQ:=Int.ediv_nonneg (by omega) (by omega)
  unfold oy;omega
 show 0<=p9 _ _+_/\p9 _ _+_<=_
 omega
end
section
section
variable {c:Cf} {net:Int} {rs:List (List Hop)} {sent:List jQ}
theorem M5(g:Sg c net rs sent){F:St}{H:List Rc}(h:JV c net rs sent F H)(hF:F.ag=[])(hn:∀ r∈H,r.out≠none){s:Int}(hs:0<=s/\s<(sent.length:Int)):∀ x∈route rs sent s,∃ r∈H,r.ev.yf=s/\r.ev.yg=x:=by
 have key:∀ x,(s,x)∈H.map Rc.id++F.ag.map qv->∃ r∈H,r.ev.yf=s/\r.ev.yg=x:=by
  intro x hx
  rw[hF,List.map_nil,List.append_nil] at hx
  obtain⟨r,hr,e⟩:=List.mem_map.1 hx
  unfold Rc.id qv at e
  injection e with e1 e2
  exact⟨r,hr,e1,e2⟩
 refine(g.route hs).ind (P:=fun x=>∃ r∈H,r.ev.yf=s/\r.ev.yg=x) (fun x hx e=>key x (h.root s x hs hx e)) (fun y hy x hx e ih=>?_)
 obtain⟨r,hr,e1,e2⟩:=ih
 cases ho:r.out with
 | none=>exact absurd ho (hn r hr)
 | some t=>
  have:=h.nxt r hr t ho x (by rw[e1];exact hx) (by rw[e2];exact e.symm)
  rw[e1] at this
  exact key x this
theorem UY(g:Sg c net rs sent){S:St}{H:List Rc}(h:JV c net rs sent S H){D:Pl->Int}{i:Int}(hi:0<=i/\i<(sent.length:Int))(hD:∀ x∈route rs sent i,D (pk x)<=qu c x.ya+(nth sent i).yo*wl c x.fQ):
  ∀ x∈route rs sent i,∀ r∈H,r.ev.yf=i->r.ev.yg=x->(nth sent i).yb+bj c D (route rs sent i) x.ya<=r.ev.yb:=by
 have hr:=g.route hi
 refine hr.ind (P:=fun x=>∀ r∈H,r.ev.yf=i->r.ev.yg=x->(nth sent i).yb+bj c D (route rs sent i) x.ya<=r.ev.yb) (fun x hx e r DR er eh=>?_) (fun y hy x hx e ih r DR er eh=>?_)
 ·subst eh
  have h0:=VV hr D
  rw[<- e] at h0
  rcases iH g h DR with⟨_,a⟩ | ⟨r',hr',e1,e2,e3⟩
  ·rw[er] at a;omega
  ·have:=(h.ok r' hr').h
   rw[e1,er] at this
   exact absurd (e2.trans e) (hr.start _ this)
 ·subst eh
  rcases iH g h DR with⟨a,_⟩ | ⟨r',hr',e1,e2,e3⟩
  ·rw[er] at a;exact absurd (e.trans a) (hr.start _ hy)
  ·have hm:=(h.ok r' hr').h
   rw[e1,er] at hm
   have eh:r'.ev.yg=y:=hr.uniq hm hy (e2.trans e.symm)
   have i1:=ih r' hr' (e1.trans er) eh
   have d2:=(h.out r' hr' _ e3).1
   have hc:iT c sent r'.ev.yf r'.ev.yg=qu c y.ya+(nth sent i).yo*wl c y.fQ:=by
    unfold iT
    rw[sY,sa,e1,er,eh];rfl
   have hd:=hD y hy
   have ht:=Xw hr D hy
   rw[e] at ht
   omega
end
theorem JT{f:Int->Int}{a:Int}(ha:0<=f a):∀ {l:List Int},l.Nodup->(∀ b∈l,b≠a->f b<=0)->gf (l.map f)<=f a
 | [],_,_=>ha
 | b::l,hn,h=>by
  have hn:=List.nodup_cons.1 hn
  simp only[List.map_cons,gf]
  by_cases e:b=a
  ·subst e
   have:gf (l.map f)<=0:=by
    have:=lU (f:=f) (g:=fun _=>0) (l:=l) fun x hx=>h x (List.mem_cons_of_mem _ hx) fun e=>hn.1 (e▸hx)
    have z:∀ l:List Int,gf (l.map fun _=>0)=0:=by
     intro l;induction l with
     | nil=>rfl
     | cons x l ih=>simp only[List.map_cons,gf,ih];rfl
    rw[z] at this;exact this
   omega
  ·have:=JT ha hn.2 fun x hx=>h x (List.mem_cons_of_mem _ hx)
   have:=h b (by simp) e
   omega
theorem Ko{c:Cf}{rs:List (List Hop)}{D:Pl->Int}(hF:HF c rs D){net:Int}(hS:Small c)(hv:VA c net rs)(hV:mI c){k:Int}(k0:0<=k)(k1:k<rs.length)(ha:∀ v:Int,0<=v->v<rs.length->v≠k->nth rs v=[])(Aw:∀ i j:Int,0<=i->i<c.fK.length->0<=j->j<c.fK.length->wl c i=wl c j){x:Hop}(hx:x∈nth rs k):
  D (pk x)<=qu c x.ya+mx c k*wl c x.fQ:=by
 have hm:pk x∈PS rs:=(sG rs).2 ⟨_,wp k0 k1,x,hx,rfl⟩
 have zF:=hv.each _ (wp k0 k1)
 have hop:=zF.hop hS hx
 have tg:=hF.ok hS hv (pk x)
 obtain⟨m0,m1,b0,b1⟩:=hV.mx k0 (by have:=hv.len;omega)
 have EW:=hF.b _ hm
 have hbg:=Wl (g0 c (fws c rs D (pk x))) (wl c x.fQ)
 have hone:∀ y∈fws c rs D (pk x),y=uH c rs D (pk x) k:=by
  intro y hy
  unfold fws at hy
  obtain⟨v,Bw,rfl⟩:=List.mem_map.1 hy
  obtain⟨h1,h2⟩:=List.mem_filter.1 Bw
  have h1:=gX.1 h1
  by_cases e:v=k
  ·rw[e]
  ·rw[ha v h1.1 (by omega) e] at h2
   simp[sJ] at h2
 have CI:uH c rs D (pk x) k∈fws c rs D (pk x):=List.mem_map.2 ⟨k,List.mem_filter.2 ⟨gX.2 ⟨k0,by omega⟩,rx.2 ⟨x,hx,rfl⟩⟩,rfl⟩
 have Aq:(fws c rs D (pk x)).length<=1:=by
  have hn:((fws c rs D (pk x)).map (·.v)).Nodup:=by
   unfold fws
   rw[List.map_map]
   have:((fun y:Fw=>y.v) ∘ uH c rs D (pk x))=id:=by funext v;rfl
   rw[this,List.map_id]
   exact(pT _ _).sublist List.filter_sublist
  have:=oF _ [k] hn fun v Bw=>by
   obtain⟨y,hy,rfl⟩:=List.mem_map.1 Bw
   rw[hone y hy];simp[uH]
  rw[List.length_map] at this;exact this
 have hl:fws c rs D (pk x)=[uH c rs D (pk x) k]:=by
  match hq:fws c rs D (pk x),Aq,CI with
  | [],_,h=>simp at h
  | [y],_,h=>rw[List.mem_singleton.1 h]
  | _::_::_,h,_=>simp at h
 have hA:∀ t:Int,0<=t->t<=4294967296->g0 c (fws c rs D (pk x)) t<=uv c (fws c rs D (pk x)) t (sW (nth rs k) (pk x)):=by
  intro t t0 t1
  unfold g0
  refine JT (rN hV tg t0 t1).1 (pT _ _) fun L _ oM=>?_
  have e1:sL c (fws c rs D (pk x)) t L=0:=by
   unfold sL
   rw[hl,List.filter_cons,if_neg (fun e=>oM (of_decide_eq_true e).symm)];rfl
  unfold uv
  split
  ·rw[e1];exact Int.le_refl _
  ·exact Int.le_trans (Int.min_le_left _ _) (by rw[e1];exact Int.le_refl _)
 have hgs:∀ t:Int,sL c (fws c rs D (pk x)) t (sW (nth rs k) (pk x))=pX c (uH c rs D (pk x) k) t:=by
  intro t
  unfold sL
  rw[hl,List.filter_cons,if_pos (by simp[uH])]
  simp[gf]
 have hA0:∀ t:Int,0<=t->t<=4294967296->g0 c (fws c rs D (pk x)) t<=pX c (uH c rs D (pk x) k) t:=fun t t0 t1=>by
  have:=hA t t0 t1
  unfold uv at this
  split at this
  ·rwa [hgs] at this
  ·exact Int.le_trans this (Int.le_trans (Int.min_le_left _ _) (by rw[hgs];exact Int.le_refl _))
 rw[hF.d _ hm]
 refine aZ (by have:=hop.d0;have:=hop.s0;have:=Int.mul_nonneg (show 0<=mx c k by omega) (show 0<=wl c x.fQ by omega);omega) fun t t0 t1=>?_
 have e0:(pk x).fQ=x.fQ:=rfl
 have e1:(pk x).ya=x.ya:=rfl
 rw[e0] at t1
 unfold nR at EW
 rw[e0] at EW
 have Ed:=hop.s0
 suffices h:wl c x.fQ*(g0 c (fws c rs D (pk x)) t-mx c k)<=t by
  rw[Int.mul_sub] at h
  unfold lV
  rw[e0,e1,Int.mul_comm (mx c k)]
  omega
 by_cases hL:sW (nth rs k) (pk x)<0
 ·-- from the node itself
  have jf:x.ya=(nth (nth rs k) 0).ya:=by
   rcases zF.from hx with e | ⟨y,hy,e⟩
   ·exact e
   ·unfold sW at hL
    rw[e1,<- e,zF.into hy,if_pos rfl] at hL
    have:=(zF.hop hS hy).l0
    simp only at hL;omega
  have hj:jn c D (nth rs k) x.ya=0:=by rw[jf];exact zF.jn_start D
  have t8:∀ t,pX c (uH c rs D (pk x) k) t=mx c k*(t / tY c k+1):=fun t=>by
   show mx c k*((t+jn c D (nth rs k) x.ya) / tY c k+1)=_
   rw[hj,Int.add_zero]
  by_cases ht:t<tY c k
  ·have h1:=hA0 t t0 (by omega)
   rw[t8,Int.ediv_eq_zero_of_lt t0 ht] at h1
   have:=Int.mul_nonneg (show 0<=wl c x.fQ by omega) (show 0<=mx c k-g0 c (fws c rs D (pk x)) t by omega)
   rw[Int.mul_sub] at this ⊢
   omega
  ·exfalso
   have E7:∀ t:Int,0<=t->t<=4294967296->pX c (uH c rs D (pk x) k) t<=g0 c (fws c rs D (pk x)) t:=fun t t0 t1=>by
    unfold g0
    have oH:sW (nth rs k) (pk x)∈nP c:=gX.2 ⟨(oE hS hv (pk x) k0 k1).1,by have:=(oE hS hv (pk x) k0 k1).2.1;push_cast;omega⟩
    have:=Xm (f:=uv c (fws c rs D (pk x)) t) (l:=nP c) (fun L _=>(rN hV tg t0 t1).1) oH
    unfold uv at this
    rw[if_pos hL,hgs] at this
    exact this
   have h1:=BZ_lt (A:=g0 c (fws c rs D (pk x))) (s:=wl c x.fQ) (b:=tY c k) (by omega) (by omega)
   have h2:=GE (A:=g0 c (fws c rs D (pk x))) (s:=wl c x.fQ) EW
   have h3:=E7 (BZ (g0 c (fws c rs D (pk x))) (wl c x.fQ)-1) (by omega) (by omega)
   have h4:=hA0 (tY c k-1) (by omega) (by omega)
   rw[t8] at h3 h4
   rw[Int.ediv_eq_zero_of_lt (by omega) (by omega)] at h4
   have h5:tY c k<wl c x.fQ*mx c k:=Int.lt_of_lt_of_le h1 (by have:=Int.mul_le_mul_of_nonneg_left h4 (show 0<=wl c x.fQ by omega);simpa using this)
   have h6:=Int.mul_le_mul_of_nonneg_left h3 (show 0<=wl c x.fQ by omega)
   generalize BZ (g0 c (fws c rs D (pk x))) (wl c x.fQ)=Y at *
   generalize hq:(Y-1) / tY c k=q at *
   have h7:Y<=tY c k*(q+1):=by
    have a:=Int.emod_add_mul_ediv (Y-1) (tY c k)
    have b:=Int.emod_lt_of_pos (Y-1) (show 0<tY c k by omega)
    rw[hq] at a
    rw[Int.mul_add];omega
   have hq0:0<=q:=by rw[<- hq];exact Int.ediv_nonneg (by omega) (by omega)
   have h8:tY c k*(q+1)<wl c x.fQ*mx c k*(q+1):=Int.mul_lt_mul_of_pos_right h5 (by omega)
   rw[Int.mul_assoc] at h8
   omega
 ·have h1:=hA t t0 (by omega)
  unfold uv at h1
  rw[if_neg hL] at h1
  have h2:=Int.le_trans h1 (Int.min_le_right _ _)
  have hw:rV c (fws c rs D (pk x)) (sW (nth rs k) (pk x))<=mx c k:=by
   unfold rV
   rw[hl,List.filter_cons,if_pos (by simp[uH])]
   simp only[List.filter_nil,List.map_cons,List.map_nil,pG]
   show max (mx c k) 0<=mx c k
   omega
  have hr:=oE hS hv (pk x) k0 k1
  have vB:=Aw (sW (nth rs k) (pk x)) x.fQ (by omega) hr.2.1 hop.l0 hop.l1
  rw[show max 1 (wl c (sW (nth rs k) (pk x)))=wl c x.fQ by rw[vB];omega] at h2
  have h3:g0 c (fws c rs D (pk x)) t-mx c k<=t / wl c x.fQ:=by omega
  have h4:=Int.mul_le_mul_of_nonneg_left h3 (show 0<=wl c x.fQ by omega)
  have h5:=Int.mul_ediv_self_le (x:=t) (k:=wl c x.fQ) (by omega)
  omega
end
end Go.Proofs.YthjnhebofpebpaaGreat

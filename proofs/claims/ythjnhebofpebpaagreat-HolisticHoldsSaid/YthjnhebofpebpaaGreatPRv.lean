/- A part of this claim's proof. No conditions. -/
import Derived.Test.YthjnhebofpebpaaGreatP36a
set_option linter.all false
namespace Go.Proofs.YthjnhebofpebpaaGreat
open Go Go.RowKit Sep
variable {A P:List Cm}
theorem dA{α:Type}[Inhabited α]{P S:List α}{x:α}{i:Int}(h:i=P.length:=by simp;omega):nth (P++x::S) i=x:=by
 subst h;rw[j6 (by simp;omega)];simp
theorem dB{α:Type}{P S:List α}{x y:α}{i:Int}(h:i=P.length:=by simp;omega):(P++x::S).set i.toNat y=P++y::S:=by
 subst h;rw[show((P.length:Nat):Int).toNat=P.length from rfl,List.set_append_right _ _ (Nat.le_refl _)];simp
theorem cF{s:Int}(h0:0<=s:=by omega)(h1:s<4611686018427387904:=by omega):i64 ((u64 (i64 s)) / 2 ^ min (1:Int).toNat 64)=s / 2:=by
 rw[xS (x:=s) (by omega)]
 have e:u64 s=s:=by
  unfold u64;rw[show IntKind.wrap .u64 s=s % 18446744073709551616 from rfl];omega
 rw[e,show(2:Int) ^ min (1:Int).toNat 64=2 from rfl,xS (by omega)]
structure Cmp (f:Cm->Cm->Option Int) (lt:Cm->Cm->Prop):Prop where
 eq:∀ x y,∃ v,f x y=some v/\(v<0↔lt x y)
 asym:∀ x y,lt x y->¬lt y x
 tr:∀ x y z,¬lt y x->¬lt z y->¬lt z x
def qq(lt:Cm->Cm->Prop)(l:List Cm):Prop:=l.Pairwise fun x y=>¬lt y x
section
variable {f:Cm->Cm->Option Int} {lt:Cm->Cm->Prop}
theorem WN(x:Cm):(⟨x.yd,x.ya,x.yc⟩:Cm)=x:=rfl
theorem qq.app{B:List Cm}:qq lt (A++B)↔qq lt A/\qq lt B/\∀ x∈A,∀ y∈B,¬lt y x:=List.pairwise_append
theorem qq.le_last(C:Cmp f lt){y:Cm}(h:qq lt (A++[y])):∀ x∈A++[y],¬lt y x:=by
 intro x hx
 rcases List.mem_append.1 hx with hx | hx
 ·exact(qq.app.1 h).2.2 x hx y (by simp)
 ·rw[List.mem_singleton.1 hx];exact fun hc=>C.asym _ _ hc hc
theorem qq.first_le(C:Cmp f lt){y:Cm}(h:qq lt (y::A)):∀ x∈y::A,¬lt x y:=by
 intro x hx
 rcases List.mem_cons.1 hx with hx | hx
 ·rw[hx];exact fun hc=>C.asym _ _ hc hc
 ·exact(List.pairwise_cons.1 h).1 x hx
theorem ins4(C:Cmp f lt){k:List Cm->Option (List Cm)}{P:List Cm}{a:Int}(ha:a=P.length):∀(n:Nat) (A G Z:List Cm) (x:Cm) (j:Int),A.length<n->j=P.length+A.length->(P++(A++x::(G++Z))).length<1152921504606846976->qq lt (A++G)->(∀ g∈G,lt x g)->
  ∃ M,M.Perm (A++x::G)/\qq lt M/\wW a f k n (P++(A++x::(G++Z))) j=k (P++(M++Z))
 | 0,A,G,Z,x,j,h0,hj,hl,hs,hg=>by omega
 | n+1,A,G,Z,x,j,h0,hj,hl,hs,hg=>by
  have sR:=hl
  simp only[List.length_append,List.length_cons] at sR
  rw[wW]
  rcases List.eq_nil_or_concat A with rfl | ⟨A',y,rfl⟩
  ·have e:¬j>a:=by simp at hj;omega
   rw[Nx e]
   simp only[oB,Bool.false_eq_true,if_false]
   refine⟨x::G,by simp,List.pairwise_cons.2 ⟨fun g h=>C.asym _ _ (hg g h),by simpa [qq] using hs⟩,by simp⟩
  ·rw[List.concat_eq_append] at *
   rw[List.length_append] at h0 hj sR
   simp only[List.length_singleton] at h0 hj sR
   have e:j>a:=by omega
   have e1:P++(A'++[y]++x::(G++Z))=(P++A')++y::(x::(G++Z)):=by simp
   have e2:P++(A'++[y]++x::(G++Z))=(P++A'++[y])++x::(G++Z):=by simp
   have j1:i64 (j-1)=j-1:=xS (by omega)
   rw[Nw e,j1]
   have q1:(0:Int)<=j/\j<(((P++(A'++[y]++x::(G++Z))).length:Nat):Int):=by simp;omega
   have q2:(0:Int)<=j-1/\j-1<(((P++(A'++[y]++x::(G++Z))).length:Nat):Int):=by simp;omega
   have n1:nth (P++(A'++[y]++x::(G++Z))) j=x:=by rw[e2,dA]
   have n2:nth (P++(A'++[y]++x::(G++Z))) (j-1)=y:=by rw[e1,dA]
   rw[xM q1,xM q2,n1,n2]
   simp only[WN]
   obtain⟨v,v1,v2⟩:=C.eq x y
   rw[v1]
   simp only[oB]
   by_cases hv:v<0
   ·rw[Nw hv,xM q2,xM q1,xM (by rw[List.length_set];exact q2)]
    have s1:(P++(A'++[y]++x::(G++Z))).set j.toNat y=(P++A')++y::(y::(G++Z)):=by
     rw[e2,dB];simp
    have s2:((P++A')++y::(y::(G++Z))).set (j-1).toNat x=P++(A'++x::(y::G++Z)):=by
     rw[dB];simp
    rw[s1,s2]
    obtain⟨M,m1,m2,m3⟩:=ins4 C (k:=k) ha n A' (y::G) Z x (j-1) (by omega) (by omega) (by simp;omega) (by simpa using hs) (by
     intro g hg'
     rcases List.mem_cons.1 hg' with rfl | hg'
     ·exact v2.1 hv
     ·exact hg g hg')
    refine⟨M,m1.trans ?_,m2,m3⟩
    rw[List.append_assoc]
    exact(List.Perm.swap ..).append_left _
   ·rw[Nx hv]
    have hyx:¬lt x y:=fun h=>hv (v2.2 h)
    refine⟨A'++[y]++x::G,.refl _,?_,by simp⟩
    have h1:=qq.app.1 hs
    refine qq.app.2 ⟨h1.1,List.pairwise_cons.2 ⟨fun g h=>C.asym _ _ (hg g h),h1.2.1⟩,?_⟩
    intro u hu w hw
    rcases List.mem_cons.1 hw with rfl | hw
    ·exact C.tr _ _ _ (h1.1.le_last C u hu) hyx
    ·exact h1.2.2 u hu w hw
theorem ins3(C:Cmp f lt){k:List Cm->Option (List Cm)}{P:List Cm}{a b:Int}(ha:a=P.length):∀(n:Nat) (R A Z:List Cm) (i:Int),R.length<n->i=P.length+A.length->b=P.length+A.length+R.length->(P++(A++(R++Z))).length<1152921504606846976->qq lt A->
  ∃ M,M.Perm (A++R)/\qq lt M/\wv b a f k n (P++(A++(R++Z))) i=k (P++(M++Z))
 | 0,R,A,Z,i,h0,hi,hb,hl,hs=>by omega
 | n+1,[],A,Z,i,h0,hi,hb,hl,hs=>by
  rw[wv,if_neg (by simp at hb ⊢;omega)]
  exact⟨A,by simp,hs,by simp⟩
 | n+1,x::R,A,Z,i,h0,hi,hb,hl,hs=>by
  rw[wv]
  rw[List.length_cons] at h0 hb
  have sR:=hl
  simp only[List.length_append,List.length_cons] at sR
  rw[Nw (by omega)]
  refine wx (P:=fun o=>∃ M,M.Perm (A++x::R)/\qq lt M/\o=k (P++(M++Z))) fun k1 w6=>?_
  refine wx (P:=fun o=>∃ M,M.Perm (A++x::R)/\qq lt M/\o=k (P++(M++Z))) fun k2 qI=>?_
  have hF:=wp
  obtain⟨M,m1,m2,m3⟩:=ins4 C (k:=k2) ha xT A [] (R++Z) x i (by omega) hi (by simp;omega) (by simpa using hs) (by simp)
  have ml:=m1.length_eq
  simp only[List.length_append,List.length_cons,List.length_nil] at ml
  obtain⟨M',p1,p2,p3⟩:=ins3 C (k:=k) ha n R M Z (i+1) (b:=b) (by omega) (by omega) (by omega) (by simp;omega) m2
  refine⟨M',p1.trans ((m1.append_right R).trans (by simp)),p2,?_⟩
  rw[show P++(A++(x::R++Z))=P++(A++x::([]++(R++Z))) by simp,m3,qI,w6,xS (x:=i+1) (by omega),p3]
theorem Me(C:Cmp f lt){R Z:List Cm}{a b:Int}(ha:a=P.length)(hb:b=P.length+R.length)(hl:(P++(R++Z)).length<1152921504606846976:=by simp;omega):
  ∃ M,M.Perm R/\qq lt M/\vk (P++(R++Z)) a b f=some (P++(M++Z)):=by
 unfold vk
 refine wx (P:=fun o=>∃ M,M.Perm R/\qq lt M/\o=some (P++(M++Z))) fun k hk=>?_
 have hF:=wp
 have sR:=hl
 simp only[List.length_append] at sR
 rw[xS (x:=a+1) (by omega)]
 cases R with
 | nil=>
  generalize xT=N at hF
  cases N with
  | zero=>omega
  | succ N=>
   rw[wv,if_neg (by simp at hb ⊢;omega),hk]
   exact⟨[],.refl _,.nil,rfl⟩
 | cons x R=>
  rw[List.length_cons] at hb sR
  obtain⟨M,m1,m2,m3⟩:=ins3 C (k:=k) ha xT R [x] Z (a+1) (b:=b) (by omega) (by simp;omega) (by simp;omega) (by simp;omega) (List.pairwise_singleton ..)
  refine⟨M,m1,m2,?_⟩
  rw[show P++(x::R++Z)=P++([x]++(R++Z)) by simp,m3,hk]
theorem Uq{k:List Cm->Option (List Cm)}{P S Mi:List Cm}{a b n:Int}(ha:a=P.length):∀(m:Nat) (X1 X2 Y1 Y2:List Cm) (i:Int),X2.length<m->X1.length=Y1.length->X2.length=Y2.length->i=X1.length->n=X1.length+X2.length->b=P.length+X1.length+X2.length+Mi.length->(P++(Y1++(X2++(Mi++(X1++(Y2++S)))))).length<1152921504606846976->
  wQ n b a k m (P++(Y1++(X2++(Mi++(X1++(Y2++S)))))) i=k (P++(Y1++Y2++(Mi++(X1++X2++S))))
 | 0,_,_,_,_,_,h0,_,_,_,_,_,_=>by omega
 | m+1,X1,[],Y1,[],i,h0,h1,h2,h3,h4,h5,hl=>by
  rw[wQ,if_neg (by simp at h4 ⊢;omega)];simp
 | m+1,X1,x::X2,Y1,y::Y2,i,h0,h1,h2,h3,h4,h5,hl=>by
  have sR:=hl
  simp only[List.length_append,List.length_cons] at sR h0 h2 h4 h5
  rw[wQ,Nw (by omega),xS (x:=b+i) (by omega),xS (x:=a+i) (by omega),xS (x:=i+1) (by omega)]
  have e1:P++(Y1++(x::X2++(Mi++(X1++(y::Y2++S)))))=(P++Y1)++x::(X2++(Mi++(X1++(y::Y2++S)))):=by simp
  have e2:P++(Y1++(x::X2++(Mi++(X1++(y::Y2++S)))))=(P++Y1++x::X2++Mi++X1)++y::(Y2++S):=by simp
  have q1:(0:Int)<=b+i/\b+i<(((P++(Y1++(x::X2++(Mi++(X1++(y::Y2++S)))))).length:Nat):Int):=by simp;omega
  have q2:(0:Int)<=a+i/\a+i<(((P++(Y1++(x::X2++(Mi++(X1++(y::Y2++S)))))).length:Nat):Int):=by simp;omega
  have n1:nth (P++(Y1++(x::X2++(Mi++(X1++(y::Y2++S)))))) (b+i)=y:=by rw[e2,dA]
  have n2:nth (P++(Y1++(x::X2++(Mi++(X1++(y::Y2++S)))))) (a+i)=x:=by rw[e1,dA]
  rw[xM q1,xM q2,xM (by rw[List.length_set];exact q1),n1,n2]
  simp only[WN]
  have s1:(P++(Y1++(x::X2++(Mi++(X1++(y::Y2++S)))))).set (a+i).toNat y=(P++Y1++y::X2++Mi++X1)++y::(Y2++S):=by
   rw[e1,dB];simp
  have s2:((P++Y1++y::X2++Mi++X1)++y::(Y2++S)).set (b+i).toNat x=P++(Y1++[y]++(X2++(Mi++(X1++[x]++(Y2++S))))):=by
   rw[dB];simp
  rw[s1,s2,Uq ha m (X1++[x]) X2 (Y1++[y]) Y2 (i+1) (by omega) (by simp;omega) (by omega) (by simp;omega) (by simp;omega) (by simp;omega) (by simp;omega)]
  simp
theorem XP{X Mi Y S:List Cm}{a b n:Int}(hb:b=P.length+X.length+Mi.length)(hn:n=X.length)(hxy:X.length=Y.length)(hl:(P++(X++(Mi++(Y++S)))).length<1152921504606846976)(ha:a=P.length:=by omega):
  vM (P++(X++(Mi++(Y++S)))) a b n f=some (P++(Y++(Mi++(X++S)))):=by
 unfold vM
 refine wx (P:=fun o=>o=some (P++(Y++(Mi++(X++S))))) fun k hk=>?_
 have hF:=wp
 have sR:=hl
 simp only[List.length_append] at sR
 have:=Uq (k:=k) (P:=P) (S:=S) (Mi:=Mi) (b:=b) (n:=n) ha xT [] X [] Y 0 (by omega) rfl hxy rfl (by simp;omega) (by simp;omega) (by simpa using sR)
 simp only[List.nil_append] at this
 rw[this,hk]
theorem U9{m:Int}{K:List Cm->Int->Option (List Cm)}{r:Option (List Cm)}(hK:∀(P U V S:List Cm),U.length=V.length->m=P.length+U.length->(P++(U++(V++S))).length<1152921504606846976->K (P++(U++(V++S))) U.length=some (P++(V++(U++S)))):
  ∀(n:Nat) (P U V S:List Cm) (i j:Int),U.length+V.length<n->0<U.length->0<V.length->i=U.length->j=V.length->m=P.length+U.length->(P++(U++(V++S))).length<1152921504606846976->
  vg m f K n (P++(U++(V++S))) i j=some (P++(V++(U++S)))
 | 0,_,_,_,_,_,_,h0,_,_,_,_,_,_=>by omega
 | n+1,P,U,V,S,i,j,h0,hu,hv,hi,hj,hm,hl=>by
  have sR:=hl
  simp only[List.length_append] at sR
  rw[vg]
  by_cases h:i≠j
  ·rw[Nw h]
   by_cases h2:i>j
   ·rw[Nw h2,xS (x:=m-i) (by omega),xS (x:=i-j) (by omega)]
    have hU:U=U.take V.length++U.drop V.length:=(List.take_append_drop _ _).symm
    have l1:(U.take V.length).length=V.length:=by rw[List.length_take];omega
    have l2:(U.drop V.length).length=U.length-V.length:=List.length_drop
    generalize U.take V.length=U1 at hU l1
    generalize U.drop V.length=U2 at hU l2
    subst hU
    rw[List.length_append] at hm hi sR h0
    rw[show P++(U1++U2++(V++S))=P++(U1++(U2++(V++S))) by simp,XP (by omega) (by omega) l1 (by simp;omega)]
    simp only[oB]
    have:=U9 (r:=r) hK n (P++V) U2 U1 S (i-j) j (by omega) (by omega) (by omega) (by omega) (by omega) (by simp;omega) (by simp;omega)
    rw[show P++(V++(U2++(U1++S)))=P++V++(U2++(U1++S)) by simp,this]
    simp
   ·rw[Nx h2,xS (x:=m-i) (by omega),xS (x:=m+j) (by omega),xS (x:=m+j-i) (by omega),xS (x:=j-i) (by omega)]
    have hV:V=V.take (V.length-U.length)++V.drop (V.length-U.length):=(List.take_append_drop _ _).symm
    have l1:(V.take (V.length-U.length)).length=V.length-U.length:=by rw[List.length_take];omega
    have l2:(V.drop (V.length-U.length)).length=U.length:=by rw[List.length_drop];omega
    generalize V.take (V.length-U.length)=V1 at hV l1
    generalize V.drop (V.length-U.length)=V2 at hV l2
    subst hV
    rw[List.length_append] at hj sR h0
    rw[show P++(U++(V1++V2++S))=P++(U++(V1++(V2++S))) by simp,XP (by omega) (by omega) l2.symm (by simp;omega)]
    simp only[oB]
    have:=U9 (r:=r) hK n P V2 V1 (U++S) i (j-i) (by omega) (by omega) (by omega) (by omega) (by omega) (by omega) (by simp;omega)
    rw[this]
    simp
  ·rw[Nx h]
   rw[hi]
   exact hK P U V S (by omega) hm hl
theorem TL{U V S:List Cm}{a m b:Int}(ha:a=P.length)(hm:m=P.length+U.length)(hb:b=P.length+U.length+V.length)(hu:0<U.length)(hv:0<V.length)(hl:(P++(U++(V++S))).length<1152921504606846976):
  jF (P++(U++(V++S))) a m b f=some (P++(V++(U++S))):=by
 unfold jF
 refine tg (P:=fun o=>o=some (P++(V++(U++S)))) fun k hk=>?_
 have hF:=wp
 have sR:=hl
 simp only[List.length_append] at sR
 rw[xS (x:=m-a) (by omega),xS (x:=b-m) (by omega)]
 refine U9 (r:=none) ?_ xT P U V S (m-a) (b-m) (by omega) hu hv (by omega) (by omega) hm hl
 intro P U V S h1 h2 h3
 have h3':=h3
 simp only[List.length_append] at h3'
 rw[hk,xS (by omega)]
 have:=XP (f:=f) (P:=P) (X:=U) (Mi:=[]) (Y:=V) (S:=S) (a:=m-U.length) (b:=m) (n:=U.length) (by simp;omega) rfl h1 (by simpa using h3')
 simp only[List.nil_append] at this
 rw[this];rfl
end
end Go.Proofs.YthjnhebofpebpaaGreat
namespace Go.Proofs.YthjnhebofpebpaaGreat
open Go Go.RowKit Sep
section
variable {f:Cm->Cm->Option Int} {lt:Cm->Cm->Prop}
theorem Ua{d:List Cm}{i:Int}:(⟨(nth d i).yd,(nth d i).ya,(nth d i).yc⟩:Cm)=nth d i:=rfl
theorem bs6(C:Cmp f lt){k:Int->Option (List Cm)}{d:List Cm}{a m b:Int}(ha:0<=a/\a<d.length)(hm:0<=m)(hb:b<=d.length)(hd:d.length<1152921504606846976):∀(n:Nat) (i j:Int),j-i<n->m<=i->i<=j->j<=b->(i=m\/lt (nth d (i-1)) (nth d a))->(j=b\/¬lt (nth d j) (nth d a))->
  ∃ r,wX d a f k n i j=k r/\m<=r/\r<=b/\(r=m\/lt (nth d (r-1)) (nth d a))/\(r=b\/¬lt (nth d r) (nth d a))
 | 0,i,j,h0,h1,h2,h3,h4,h5=>by omega
 | n+1,i,j,h0,h1,h2,h3,h4,h5=>by
  rw[wX]
  by_cases h:i<j
  ·rw[Nw h,cF (s:=i+j)]
   have q:(0:Int)<=(i+j) / 2/\(i+j) / 2<d.length:=by omega
   rw[xM q,xM ha]
   simp only[Ua]
   obtain⟨v,v1,v2⟩:=C.eq (nth d ((i+j) / 2)) (nth d a)
   rw[v1]
   simp only[oB]
   by_cases hv:v<0
   ·rw[Nw hv,xS (x:=(i+j) / 2+1) (by omega)]
    exact bs6 C ha hm hb hd n _ j (by omega) (by omega) (by omega) h3 (.inr (by rw[show(i+j) / 2+1-1=(i+j) / 2 by omega];exact v2.1 hv)) h5
   ·rw[Nx hv]
    exact bs6 C ha hm hb hd n i _ (by omega) h1 (by omega) (by omega) h4 (.inr fun hc=>hv (v2.2 hc))
  ·rw[Nx h]
   have:i=j:=by omega
   subst this
   exact⟨i,rfl,h1,h3,h4,h5⟩
theorem bs8(C:Cmp f lt){k:Int->Option (List Cm)}{d:List Cm}{a m:Int}(ha:0<=a)(hm:0<=m/\m<d.length)(hd:d.length<1152921504606846976):∀(n:Nat) (i j:Int),j-i<n->a<=i->i<=j->j<=m->(i=a\/¬lt (nth d m) (nth d (i-1)))->(j=m\/lt (nth d m) (nth d j))->
  ∃ r,wZ m d f k n i j=k r/\a<=r/\r<=m/\(r=a\/¬lt (nth d m) (nth d (r-1)))/\(r=m\/lt (nth d m) (nth d r))
 | 0,i,j,h0,h1,h2,h3,h4,h5=>by omega
 | n+1,i,j,h0,h1,h2,h3,h4,h5=>by
  rw[wZ]
  by_cases h:i<j
  ·rw[Nw h,cF (s:=i+j)]
   have q:(0:Int)<=(i+j) / 2/\(i+j) / 2<d.length:=by omega
   rw[xM hm,xM q]
   simp only[Ua]
   obtain⟨v,v1,v2⟩:=C.eq (nth d m) (nth d ((i+j) / 2))
   rw[v1]
   simp only[oB]
   by_cases hv:v<0
   ·rw[if_neg (by simpa using hv)]
    exact bs8 C ha hm hd n i _ (by omega) h1 (by omega) (by omega) h4 (.inr (v2.1 hv))
   ·rw[if_pos (by simpa using hv),xS (x:=(i+j) / 2+1) (by omega)]
    exact bs8 C ha hm hd n _ j (by omega) (by omega) (by omega) h3 (.inr (by rw[show(i+j) / 2+1-1=(i+j) / 2 by omega];exact fun hc=>hv (v2.2 hc))) h5
  ·rw[Nx h]
   have:i=j:=by omega
   subst this
   exact⟨i,rfl,h1,h3,h4,h5⟩
theorem Ub(C:Cmp f lt){k:Int->Option (List Cm)}{d:List Cm}{a m b lo hi:Int}(hb:0<=a/\a<=b/\0<=m/\b<=d.length/\m<=d.length)(hd:d.length<1152921504606846976)(hh:hi<=d.length)(hp:hi<=(a+b) / 2+m)(hq:(a+b) / 2+m-1-lo<d.length)(h0:0<=lo):
  ∀(n:Nat) (i j:Int),j-i<n->lo<=i->i<=j->j<=hi->(i=lo\/¬lt (nth d ((a+b) / 2+m-i)) (nth d (i-1)))->(j=hi\/lt (nth d ((a+b) / 2+m-1-j)) (nth d j))->
  ∃ r,wR a b m d f k n i j=k r/\lo<=r/\r<=hi/\(r=lo\/¬lt (nth d ((a+b) / 2+m-r)) (nth d (r-1)))/\(r=hi\/lt (nth d ((a+b) / 2+m-1-r)) (nth d r))
 | 0,i,j,h0,h1,h2,h3,h4,h5=>by omega
 | n+1,i,j,h0,h1,h2,h3,h4,h5=>by
  rw[wR]
  by_cases h:i<j
  ·rw[Nw h,cF (s:=i+j),cF (s:=a+b),xS (x:=(a+b) / 2+m) (by omega),xS (x:=(a+b) / 2+m-1) (by omega),xS (x:=(a+b) / 2+m-1-(i+j) / 2) (by omega)]
   have q:(0:Int)<=(i+j) / 2/\(i+j) / 2<d.length:=by omega
   have q2:(0:Int)<=(a+b) / 2+m-1-(i+j) / 2/\(a+b) / 2+m-1-(i+j) / 2<d.length:=by omega
   rw[xM q2,xM q]
   simp only[Ua]
   obtain⟨v,v1,v2⟩:=C.eq (nth d ((a+b) / 2+m-1-(i+j) / 2)) (nth d ((i+j) / 2))
   rw[v1]
   simp only[oB]
   by_cases hv:v<0
   ·rw[if_neg (by simpa using hv)]
    exact Ub C hb hd hh hp hq (by omega) n i _ (by omega) h1 (by omega) (by omega) h4 (.inr (v2.1 hv))
   ·rw[if_pos (by simpa using hv),xS (x:=(i+j) / 2+1) (by omega)]
    exact Ub C hb hd hh hp hq (by omega) n _ j (by omega) (by omega) (by omega) h3 (.inr (by rw[show(i+j) / 2+1-1=(i+j) / 2 by omega,show(a+b) / 2+m-((i+j) / 2+1)=(a+b) / 2+m-1-(i+j) / 2 by omega];exact fun hc=>hv (v2.2 hc))) h5
  ·rw[Nx h]
   have:i=j:=by omega
   subst this
   exact⟨i,rfl,h1,h3,h4,h5⟩
theorem mv7{k:List Cm->Option (List Cm)}{P S:List Cm}{x:Cm}{i:Int}:∀(n:Nat) (Q R:List Cm) (j:Int),R.length<n->j=P.length+Q.length->i=P.length+Q.length+1+R.length->(P++(Q++x::(R++S))).length<1152921504606846976->
  wY i k n (P++(Q++x::(R++S))) j=k (P++(Q++(R++x::S)))
 | 0,Q,R,j,h0,hj,hi,hl=>by omega
 | n+1,Q,[],j,h0,hj,hi,hl=>by
  have sR:=hl
  simp only[List.length_append,List.length_cons,List.length_nil] at sR hi
  rw[wY,xS (x:=i-1) (by omega),if_neg (by simp;omega)];rfl
 | n+1,Q,y::R,j,h0,hj,hi,hl=>by
  have sR:=hl
  simp only[List.length_append,List.length_cons] at sR hi h0
  rw[wY,xS (x:=i-1) (by omega),Nw (by omega),xS (x:=j+1) (by omega)]
  have e1:P++(Q++x::(y::R++S))=(P++Q)++x::(y::R++S):=by simp
  have e2:P++(Q++x::(y::R++S))=(P++Q++[x])++y::(R++S):=by simp
  have q1:(0:Int)<=j/\j<(((P++(Q++x::(y::R++S))).length:Nat):Int):=by simp;omega
  have q2:(0:Int)<=j+1/\j+1<(((P++(Q++x::(y::R++S))).length:Nat):Int):=by simp;omega
  have n1:nth (P++(Q++x::(y::R++S))) j=x:=by rw[e1,dA]
  have n2:nth (P++(Q++x::(y::R++S))) (j+1)=y:=by rw[e2,dA]
  rw[xM q2,xM q1,xM (by rw[List.length_set];exact q2),n1,n2]
  simp only[WN]
  have s1:(P++(Q++x::(y::R++S))).set j.toNat y=(P++Q++[y])++y::(R++S):=by
   rw[e1,dB];simp
  have s2:((P++Q++[y])++y::(R++S)).set (j+1).toNat x=P++((Q++[y])++x::(R++S)):=by
   rw[dB];simp
  rw[s1,s2,mv7 n (Q++[y]) R (j+1) (by omega) (by simp;omega) (by simp;omega) (by simp;omega)]
  simp
theorem mv9{k:List Cm->Option (List Cm)}{P:List Cm}{y:Cm}{i:Int}(hi:i=P.length):∀(n:Nat) (R S:List Cm) (j:Int),R.length<n->j=P.length+R.length->(P++(R++y::S)).length<1152921504606846976->
  vD i k n (P++(R++y::S)) j=k (P++(y::(R++S)))
 | 0,R,S,j,h0,hj,hl=>by omega
 | n+1,R,S,j,h0,hj,hl=>by
  have sR:=hl
  simp only[List.length_append,List.length_cons] at sR
  rw[vD]
  rcases List.eq_nil_or_concat R with rfl | ⟨R,x,rfl⟩
  ·rw[if_neg (by simp at hj ⊢;omega)];rfl
  ·rw[List.concat_eq_append] at *
   simp only[List.length_append,List.length_singleton] at h0 hj sR
   rw[Nw (by omega),xS (x:=j-1) (by omega)]
   have e1:P++(R++[x]++y::S)=(P++R)++x::(y::S):=by simp
   have e2:P++(R++[x]++y::S)=(P++R++[x])++y::S:=by simp
   have q1:(0:Int)<=j/\j<(((P++(R++[x]++y::S)).length:Nat):Int):=by simp;omega
   have q2:(0:Int)<=j-1/\j-1<(((P++(R++[x]++y::S)).length:Nat):Int):=by simp;omega
   have n1:nth (P++(R++[x]++y::S)) j=y:=by rw[e2,dA]
   have n2:nth (P++(R++[x]++y::S)) (j-1)=x:=by rw[e1,dA]
   rw[xM q2,xM q1,xM (by rw[List.length_set];exact q2),n1,n2]
   simp only[WN]
   have s1:(P++(R++[x]++y::S)).set j.toNat x=(P++R)++x::x::S:=by
    rw[e2,dB];simp
   have s2:((P++R)++x::x::S).set (j-1).toNat y=P++(R++y::(x::S)):=by
    rw[dB];simp
   first
   | rw[s1,s2,mv9 hi n R (x::S) (j-1) (by omega) (by omega) (by simp;omega)]
   | (
     have s1:(P++(R++[x]++y::S)).set (j-1).toNat y=(P++R)++y::y::S:=by
      rw[e1,dB]
     have s2:((P++R)++y::y::S).set j.toNat x=P++(R++y::(x::S)):=by
      rw[show(P++R)++y::y::S=(P++R++[y])++y::S by simp,dB];simp
     rw[s1,s2,mv9 hi n R (x::S) (j-1) (by omega) (by omega) (by simp;omega)])
   simp
end
end Go.Proofs.YthjnhebofpebpaaGreat
namespace Go.Proofs.YthjnhebofpebpaaGreat
open Go Go.RowKit Sep
section
variable {f:Cm->Cm->Option Int} {lt:Cm->Cm->Prop}
theorem GW{α:Type}[Inhabited α]{P B S:List α}{i:Int}(h:P.length<=i/\i<P.length+B.length):nth (P++(B++S)) i=nth B (i-P.length):=by
 rw[j6 (by simp;omega),j6 (by omega)]
 rw[List.getElem_append_right (by omega),List.getElem_append_left (by omega)]
 congr 1;omega
theorem Uc{B:List Cm}{n:Nat}(hn:n<=B.length)(h0:0<n):∃ L,B.take n=L++[nth B ((n:Int)-1)]:=by
 refine⟨B.take (n-1),?_⟩
 have:=take_succ B (i:=(n:Int)-1) (by omega)
 rw[show((n:Int)-1+1).toNat=n by omega,show((n:Int)-1).toNat=n-1 by omega] at this
 exact this
theorem Mf{B:List Cm}{n:Nat}(hn:n<B.length):∃ L,B.drop n=nth B (n:Int)::L:=by
 have:=g6 (l:=B) (i:=(n:Int)) (by omega) (by omega)
 exact⟨_,this⟩
theorem qq.take_le(C:Cmp f lt){B:List Cm}(h:qq lt B){n:Nat}(hn:n<=B.length){x:Cm}(hx:n=0\/¬lt x (nth B ((n:Int)-1))):∀ y∈B.take n,¬lt x y:=by
 intro y hy
 rcases hx with rfl | hx
 ·simp at hy
 ·by_cases h0:n=0
  ·subst h0;simp at hy
  ·obtain⟨L,hL⟩:=Uc hn (by omega)
   rw[hL] at hy
   have hs:qq lt (L++[nth B ((n:Int)-1)]):=by rw[<- hL];exact List.Pairwise.sublist (List.take_sublist _ _) h
   exact C.tr _ _ _ (hs.le_last C y hy) hx
theorem qq.le_drop(C:Cmp f lt){B:List Cm}(h:qq lt B){n:Nat}{x:Cm}(hx:B.length<=n\/¬lt (nth B (n:Int)) x):∀ y∈B.drop n,¬lt y x:=by
 intro y hy
 by_cases h0:n<B.length
 ·rcases hx with hx | hx
  ·omega
  ·obtain⟨L,hL⟩:=Mf h0
   rw[hL] at hy
   have hs:qq lt (nth B (n:Int)::L):=by rw[<- hL];exact List.Pairwise.sublist (List.drop_sublist _ _) h
   exact C.tr _ _ _ hx (hs.first_le C y hy)
 ·rw[List.drop_eq_nil_of_le (by omega)] at hy;simp at hy
theorem K9(C:Cmp f lt):∀(n:Nat) (P A B S:List Cm) (a m b:Int),A.length+B.length<=n->0<A.length->0<B.length->qq lt A->qq lt B->a=P.length->m=P.length+A.length->b=P.length+A.length+B.length->(P++(A++(B++S))).length<1152921504606846976->
  ∃ M,M.Perm (A++B)/\qq lt M/\vr n (P++(A++(B++S))) a m b f=some (P++(M++S))
 | 0,P,A,B,S,a,m,b,h0,hA,hB,sA,sB,ha,hm,hb,hl=>by omega
 | n+1,P,A,B,S,a,m,b,h0,hA,hB,sA,sB,ha,hm,hb,hl=>by
  have sR:=hl
  simp only[List.length_append] at sR
  rw[vr]
  have hF:=wp
  have hz:∀ x:Cm,¬lt x x:=fun x hc=>C.asym _ _ hc hc
  generalize hN:xT=N at hF ⊢
  refine mF (P:=fun o=>∃ M,M.Perm (A++B)/\qq lt M/\o=some (P++(M++S))) fun k0 AD=>?_
  rw[xS (x:=m-a) (by omega)]
  by_cases c1:m-a=1
  ·rw[Nw c1]
   obtain⟨x,rfl⟩:∃ x,A=[x]:=by
    match A with
    | [x]=>exact⟨x,rfl⟩
    | []=>simp at hA
    | x::y::A=>simp at hm;omega
   simp only[List.length_singleton] at hm hb sR
   refine wx (P:=fun o=>∃ M,M.Perm ([x]++B)/\qq lt M/\o=some (P++(M++S))) fun k1 w6=>?_
   have e1:P++([x]++(B++S))=P++x::(B++S):=rfl
   have e2:P++([x]++(B++S))=(P++[x])++(B++S):=by simp
   have n0:nth (P++([x]++(B++S))) a=x:=by rw[e1,dA (h:=ha)]
   have nB:∀ i:Int,m<=i->i<b->nth (P++([x]++(B++S))) i=nth B (i-m):=by
    intro i h1 h2
    rw[e2,GW (by simp;omega)]
    simp only[List.length_append,List.length_singleton]
    congr 1;omega
   obtain⟨r,r1,r2,r3,r4,r5⟩:=bs6 C (k:=k1) (d:=P++([x]++(B++S))) (a:=a) (m:=m) (b:=b) (by simp;omega) (by omega) (by simp;omega) hl N m b (by omega) (by omega) (by omega) (by omega) (.inl rfl) (.inl rfl)
   rw[r1,w6,n0] at *
   obtain⟨q,rfl⟩:∃ q:Nat,r=m+q:=⟨(r-m).toNat,by omega⟩
   have t1:∀ y∈B.take q,¬lt x y:=sB.take_le C (by omega) (by
    rcases r4 with h | h
    ·exact .inl (by omega)
    ·by_cases hq:q=0
     ·exact .inl hq
     ·rw[nB _ (by omega) (by omega),show m+(q:Int)-1-m=(q:Int)-1 by omega] at h
      exact .inr (C.asym _ _ h))
   have t2:∀ y∈B.drop q,¬lt y x:=sB.le_drop C (by
    rcases r5 with h | h
    ·exact .inl (by omega)
    ·by_cases hq:B.length<=q
     ·exact .inl hq
     ·rw[nB _ (by omega) (by omega),show m+(q:Int)-m=(q:Int) by omega] at h
      exact .inr h)
   have hBq:B=B.take q++B.drop q:=(List.take_append_drop _ _).symm
   have l1:(B.take q).length=q:=by rw[List.length_take];omega
   generalize B.take q=B1 at *
   generalize B.drop q=B2 at *
   subst hBq
   refine wx (P:=fun o=>∃ M,M.Perm ([x]++(B1++B2))/\qq lt M/\o=some (P++(M++S))) fun k2 qI=>?_
   have CL:=qq.app.1 sB
   refine⟨B1++x::B2,List.perm_middle,qq.app.2 ⟨CL.1,List.pairwise_cons.2 ⟨t2,CL.2.1⟩,?_⟩,?_⟩
   ·intro u hu w hw
    rcases List.mem_cons.1 hw with rfl | hw
    ·exact t1 u hu
    ·exact CL.2.2 u hu w hw
   ·simp only[List.length_append] at hb sR
    have:=mv7 (k:=k2) (P:=P) (S:=B2++S) (x:=x) (i:=m+q) N [] B1 a (by omega) (by simp;omega) (by simp;omega) (by simp;omega)
    rw[show P++([x]++(B1++B2++S))=P++([]++x::(B1++(B2++S))) by simp,this,qI];simp
  ·rw[Nx c1,AD]
   refine mF (P:=fun o=>∃ M,M.Perm (A++B)/\qq lt M/\o=some (P++(M++S))) fun k0 AD=>?_
   rw[xS (x:=b-m) (by omega)]
   by_cases c2:b-m=1
   ·rw[Nw c2]
    obtain⟨y,rfl⟩:∃ y,B=[y]:=by
     match B with
     | [x]=>exact⟨x,rfl⟩
     | []=>simp at hB
     | x::y::A=>simp at hb;omega
    simp only[List.length_singleton] at hb sR
    refine wx (P:=fun o=>∃ M,M.Perm (A++[y])/\qq lt M/\o=some (P++(M++S))) fun k1 w6=>?_
    have n0:nth (P++(A++([y]++S))) m=y:=by
     rw[show P++(A++([y]++S))=(P++A)++y::S by simp,dA]
    have nA:∀ i:Int,a<=i->i<m->nth (P++(A++([y]++S))) i=nth A (i-a):=by
     intro i h1 h2
     rw[GW (by omega),ha]
    obtain⟨r,r1,r2,r3,r4,r5⟩:=bs8 C (k:=k1) (d:=P++(A++([y]++S))) (a:=a) (m:=m) (by omega) (by simp;omega) hl N a m (by omega) (by omega) (by omega) (by omega) (.inl rfl) (.inl rfl)
    rw[r1,w6,n0] at *
    obtain⟨q,rfl⟩:∃ q:Nat,r=a+q:=⟨(r-a).toNat,by omega⟩
    have t1:∀ x∈A.take q,¬lt y x:=sA.take_le C (by omega) (by
     rcases r4 with h | h
     ·exact .inl (by omega)
     ·by_cases hq:q=0
      ·exact .inl hq
      ·rw[nA _ (by omega) (by omega),show a+(q:Int)-1-a=(q:Int)-1 by omega] at h
       exact .inr h)
    have t2:∀ x∈A.drop q,¬lt x y:=sA.le_drop C (by
     rcases r5 with h | h
     ·exact .inl (by omega)
     ·by_cases hq:A.length<=q
      ·exact .inl hq
      ·rw[nA _ (by omega) (by omega),show a+(q:Int)-a=(q:Int) by omega] at h
       exact .inr (C.asym _ _ h))
    have hAq:A=A.take q++A.drop q:=(List.take_append_drop _ _).symm
    have l1:(A.take q).length=q:=by rw[List.length_take];omega
    generalize A.take q=A1 at *
    generalize A.drop q=A2 at *
    subst hAq
    refine wx (P:=fun o=>∃ M,M.Perm (A1++A2++[y])/\qq lt M/\o=some (P++(M++S))) fun k2 qI=>?_
    have CN:=qq.app.1 sA
    refine⟨A1++y::A2,?_,qq.app.2 ⟨CN.1,List.pairwise_cons.2 ⟨t2,CN.2.1⟩,?_⟩,?_⟩
    ·rw[List.append_assoc];exact(List.perm_append_comm (l₁:=[y])).append_left _
    ·intro u hu w hw
     rcases List.mem_cons.1 hw with rfl | hw
     ·exact t1 u hu
     ·exact CN.2.2 u hu w hw
    ·simp only[List.length_append] at hb hm sR
     have:=mv9 (k:=k2) (P:=P++A1) (y:=y) (i:=a+q) (by simp;omega) N A2 S m (by omega) (by simp;omega) (by simp;omega)
     rw[show P++(A1++A2++([y]++S))=P++A1++(A2++y::S) by simp,this,qI];simp
   ·rw[Nx c2,AD]
    refine tg (P:=fun o=>∃ M,M.Perm (A++B)/\qq lt M/\o=some (P++(M++S))) fun k2 qI=>?_
    rw[cF (s:=a+b)]
    have Ha:∀ lo hi:Int,(m>(a+b) / 2->lo=(a+b) / 2+m-b/\hi=(a+b) / 2)->(¬m>(a+b) / 2->lo=a/\hi=m)->∃ M,M.Perm (A++B)/\qq lt M/\k2 lo hi=some (P++(M++S)):=by
     intro lo hi hg hs
     rw[qI]
     refine wx (P:=fun o=>∃ M,M.Perm (A++B)/\qq lt M/\o=some (P++(M++S))) fun k3 C8=>?_
     obtain⟨r,r1,r2,r3,r4,r5⟩:=Ub C (k:=k3) (d:=P++(A++(B++S))) (a:=a) (m:=m) (b:=b) (lo:=lo) (hi:=hi) (by simp;omega) hl (by simp;omega) (by omega) (by simp;omega) (by omega) N lo hi (by omega) (by omega) (by omega) (by omega) (.inl rfl) (.inl rfl)
     rw[r1,C8]
     simp only[cF (s:=a+b),xS (x:=(a+b) / 2+m) (by omega),xS (x:=(a+b) / 2+m-r) (by omega)]
     obtain⟨p,rfl⟩:∃ p:Nat,r=a+p:=⟨(r-a).toNat,by omega⟩
     obtain⟨q,hq⟩:∃ q:Nat,(a+b) / 2+m-(a+p)=m+q:=⟨((a+b) / 2-(a+p)).toNat,by omega⟩
     rw[hq] at r4 ⊢
     rw[show(a+b) / 2+m-1-(a+p)=m+q-1 by omega] at r5
     have hp:p<=A.length:=by omega
     have C7:q<=B.length:=by omega
     have nA:∀ i:Int,a<=i->i<m->nth (P++(A++(B++S))) i=nth A (i-a):=by
      intro i h1 h2
      rw[GW (by omega),ha]
     have nB:∀ i:Int,m<=i->i<b->nth (P++(A++(B++S))) i=nth B (i-m):=by
      intro i h1 h2
      rw[show P++(A++(B++S))=(P++A)++(B++S) by simp,GW (by simp;omega)]
      simp only[List.length_append]
      congr 1;omega
     have F1:∀ x∈A.take p,∀ y∈B.drop q,¬lt y x:=by
      intro x hx y hy
      by_cases E1:q<B.length
      ·by_cases zz:p=0
       ·subst zz;simp at hx
       ·have hr:¬lt (nth B (q:Int)) (nth A ((p:Int)-1)):=by
         rcases r4 with h | h
         ·omega
         ·rw[nB _ (by omega) (by omega),nA _ (by omega) (by omega),show m+(q:Int)-m=q by omega,show a+(p:Int)-1-a=(p:Int)-1 by omega] at h
          exact h
        have:=sA.take_le C hp (x:=nth B (q:Int)) (.inr hr) x hx
        exact sB.le_drop C (n:=q) (x:=x) (.inr this) y hy
      ·rw[List.drop_eq_nil_of_le (by omega)] at hy;simp at hy
     have F2:∀ x∈B.take q,∀ y∈A.drop p,¬lt y x:=by
      intro x hx y hy
      by_cases zz:p<A.length
      ·by_cases E1:q=0
       ·subst E1;simp at hx
       ·have hr:¬lt (nth A (p:Int)) (nth B ((q:Int)-1)):=by
         rcases r5 with h | h
         ·omega
         ·rw[nB _ (by omega) (by omega),nA _ (by omega) (by omega),show a+(p:Int)-a=p by omega,show m+(q:Int)-1-m=(q:Int)-1 by omega] at h
          exact C.asym _ _ h
        have:=sB.take_le C C7 (x:=nth A (p:Int)) (.inr hr) x hx
        exact sA.le_drop C (n:=p) (x:=x) (.inr this) y hy
      ·rw[List.drop_eq_nil_of_le (by omega)] at hy;simp at hy
     have hmid:(a+b) / 2=a+p+q:=by omega
     rw[hmid]
     clear nA nB r4 r5 r1
     have hAp:A=A.take p++A.drop p:=(List.take_append_drop _ _).symm
     have hBq:B=B.take q++B.drop q:=(List.take_append_drop _ _).symm
     have l1:(A.take p).length=p:=by rw[List.length_take];omega
     have l2:(B.take q).length=q:=by rw[List.length_take];omega
     generalize A.take p=A1 at *
     generalize A.drop p=A2 at *
     generalize B.take q=B1 at *
     generalize B.drop q=B2 at *
     subst hAp hBq
     simp only[List.length_append] at hm hb sR h0 hA hB hp C7
     have CN:=qq.app.1 sA
     have CL:=qq.app.1 sB
     refine wx (P:=fun o=>∃ M,M.Perm (A1++A2++(B1++B2))/\qq lt M/\o=some (P++(M++S))) fun k4 E9=>?_
     have BS:∃ M,M.Perm (A1++A2++(B1++B2))/\qq lt M/\k4 (P++(A1++(B1++(A2++(B2++S)))))=some (P++(M++S)):=by
      rw[E9]
      refine wx (P:=fun o=>∃ M,M.Perm (A1++A2++(B1++B2))/\qq lt M/\o=some (P++(M++S))) fun k5 hk5=>?_
      have AQ:∀ M1,M1.Perm (A1++B1)->qq lt M1->∃ M,M.Perm (A1++A2++(B1++B2))/\qq lt M/\k5 (P++(M1++(A2++(B2++S))))=some (P++(M++S)):=by
       intro M1 p1 s1
       have ml:=p1.length_eq
       rw[List.length_append] at ml
       have fin:∀ M2,M2.Perm (A2++B2)->qq lt M2->(M1++M2).Perm (A1++A2++(B1++B2))/\qq lt (M1++M2):=by
        intro M2 p2 s2
        constructor
        ·refine(p1.append p2).trans ?_
         rw[List.append_assoc,List.append_assoc]
         refine List.Perm.append_left _ ?_
         rw[<- List.append_assoc,<- List.append_assoc]
         exact List.perm_append_comm.append_right _
        ·refine qq.app.2 ⟨s1,s2,fun x hx y hy=>?_⟩
         rcases List.mem_append.1 (p1.mem_iff.1 hx) with hx | hx <;> rcases List.mem_append.1 (p2.mem_iff.1 hy) with hy | hy
         ·exact CN.2.2 x hx y hy
         ·exact F1 x hx y hy
         ·exact F2 x hx y hy
         ·exact CL.2.2 x hx y hy
       rw[hk5]
       by_cases c:a+p+q<m+q/\m+q<b
       ·rw[if_pos (by simpa using c)]
        obtain⟨M2,p2,s2,e2⟩:=K9 C n (P++M1) A2 B2 S (a+p+q) (m+q) b (by omega) (by omega) (by omega) CN.2.1 CL.2.1 (by simp;omega) (by simp;omega) (by simp;omega) (by simp;omega)
        obtain⟨f1,f2⟩:=fin M2 p2 s2
        rw[show P++(M1++(A2++(B2++S)))=P++M1++(A2++(B2++S)) by simp,e2]
        exact⟨M1++M2,f1,f2,by simp⟩
       ·rw[if_neg (by simpa using c)]
        have hz:qq lt (A2++B2):=by
         refine qq.app.2 ⟨CN.2.1,CL.2.1,fun x hx y hy=>?_⟩
         have h1:=List.length_pos_of_mem hx
         have h2:=List.length_pos_of_mem hy
         omega
        obtain⟨f1,f2⟩:=fin (A2++B2) (.refl _) hz
        exact⟨M1++(A2++B2),f1,f2,by simp⟩
      by_cases c:a<a+p/\a+p<a+p+q
      ·rw[if_pos (by simpa using c)]
       obtain⟨M1,p1,s1,e1⟩:=K9 C n P A1 B1 (A2++(B2++S)) a (a+p) (a+p+q) (by omega) (by omega) (by omega) CN.1 CL.1 ha (by omega) (by omega) (by simp;omega)
       rw[e1]
       exact AQ M1 p1 s1
      ·rw[if_neg (by simpa using c)]
       have hz:qq lt (A1++B1):=by
        refine qq.app.2 ⟨CN.1,CL.1,fun x hx y hy=>?_⟩
        have h1:=List.length_pos_of_mem hx
        have h2:=List.length_pos_of_mem hy
        omega
       have:=AQ (A1++B1) (.refl _) hz
       rw[show P++(A1++B1++(A2++(B2++S)))=P++(A1++(B1++(A2++(B2++S)))) by simp] at this
       exact this
     by_cases c:a+p<m/\m<m+q
     ·rw[if_pos (by simpa using c)]
      have:=TL (f:=f) (P:=P++A1) (U:=A2) (V:=B1) (S:=B2++S) (a:=a+p) (m:=m) (b:=m+q) (by simp;omega) (by simp;omega) (by simp;omega) (by omega) (by omega) (by simp;omega)
      rw[show P++(A1++A2++(B1++B2++S))=P++A1++(A2++(B1++(B2++S))) by simp,this]
      rw[show P++A1++(B1++(A2++(B2++S)))=P++(A1++(B1++(A2++(B2++S)))) by simp]
      exact BS
     ·rw[if_neg (by simpa using c)]
      have e:P++(A1++A2++(B1++B2++S))=P++(A1++(B1++(A2++(B2++S)))):=by
       by_cases z1:A2.length=0
       ·rw[List.eq_nil_of_length_eq_zero z1];simp
       ·rw[List.eq_nil_of_length_eq_zero (l:=B1) (by omega)];simp
      rw[e];exact BS
    by_cases c:m>(a+b) / 2
    ·rw[Nw c,xS (x:=(a+b) / 2+m) (by omega),xS (x:=(a+b) / 2+m-b) (by omega)]
     exact Ha _ _ (fun _=>⟨rfl,rfl⟩) (fun h=>absurd c h)
    ·rw[Nx c]
     exact Ha _ _ (fun h=>absurd h c) (fun _=>⟨rfl,rfl⟩)
end
end Go.Proofs.YthjnhebofpebpaaGreat
namespace Go.Proofs.YthjnhebofpebpaaGreat
open Go Go.RowKit Sep
section
variable {f:Cm->Cm->Option Int} {lt:Cm->Cm->Prop}
inductive Blk (lt:Cm->Cm->Prop) (w:Nat):List Cm->Prop
 | last {l}:qq lt l->l.length<=w->Blk lt w l
 | cons {A R}:qq lt A->A.length=w->Blk lt w R->Blk lt w (A++R)
theorem Blk.sorted{w:Nat}{l:List Cm}(h:Blk lt w l)(hw:0<w)(hl:l.length<=w):qq lt l:=by
 cases h with
 | last h _=>exact h
 | cons h h2 h3=>
  rw[List.length_append] at hl
  rename_i A R
  rw[List.eq_nil_of_length_eq_zero (l:=R) (by omega),List.append_nil];exact h
theorem Blk.split{w:Nat}{l:List Cm}(h:Blk lt w l)(hl:w<l.length):∃ A R,l=A++R/\A.length=w/\qq lt A/\Blk lt w R:=by
 cases h with
 | last h h2=>omega
 | cons h h2 h3=>exact⟨_,_,rfl,h2,h,h3⟩
theorem Gg(C:Cmp f lt){P A B S:List Cm}{a m b:Int}(hA:0<A.length)(hB:0<B.length)(sA:qq lt A)(sB:qq lt B)(ha:a=P.length)(hm:m=P.length+A.length)(hb:b=P.length+A.length+B.length)(hl:(P++(A++(B++S))).length<1152921504606846976:=by simp;omega):
  ∃ M,M.Perm (A++B)/\qq lt M/\jb (P++(A++(B++S))) a m b f=some (P++(M++S)):=by
 have sR:=hl
 simp only[List.length_append] at sR
 unfold jb
 exact K9 C xT P A B S a m b (by rw[wp];omega) hA hB sA sB ha hm hb hl
theorem st4(C:Cmp f lt){N:Int}{K:List Cm->Int->Option (List Cm)}:∀(n:Nat) (P R:List Cm) (a b:Int),R.length<n->a=P.length->b=P.length+20->N=P.length+R.length->N<1152921504606846976->
  ∃ Q T,(Q++T).Perm R/\T.length<20/\(∀ T',qq lt T'->T'.length=T.length->Blk lt 20 (Q++T'))/\vh N f K n (P++R) a b=K (P++Q++T) ((P.length:Int)+Q.length)
 | 0,P,R,a,b,h0,ha,hb,hN,hl=>by omega
 | n+1,P,R,a,b,h0,ha,hb,hN,hl=>by
  rw[vh]
  by_cases h:b<=N
  ·rw[Nw h]
   have hR:R=R.take 20++R.drop 20:=(List.take_append_drop _ _).symm
   have l1:(R.take 20).length=20:=by rw[List.length_take];omega
   generalize R.take 20=R1 at *
   generalize R.drop 20=R2 at *
   subst hR
   rw[List.length_append] at h0 hN
   obtain⟨M,m1,m2,m3⟩:=Me C (P:=P) (R:=R1) (Z:=R2) (a:=a) (b:=b) ha (by omega)
   have ml:=m1.length_eq
   rw[m3]
   simp only[oB]
   obtain⟨Q,T,q1,q2,q3,q4⟩:=st4 C (N:=N) (K:=K) n (P++M) R2 b (b+20) (by omega) (by simp;omega) (by simp;omega) (by simp;omega) hl
   refine⟨M++Q,T,?_,q2,fun T' h1 h2=>?_,?_⟩
   ·rw[List.append_assoc];exact m1.append q1
   ·rw[List.append_assoc];exact .cons m2 (by omega) (q3 T' h1 h2)
   ·rw[xS (x:=b+20) (by omega),show P++(M++R2)=P++M++R2 by simp,q4]
    congr 1
    ·simp
    ·simp;omega
  ·rw[Nx h]
   exact⟨[],R,by simp,by omega,fun T' h1 h2 => .last h1 (by simp;omega),by simp[ha]⟩
theorem st6(C:Cmp f lt){N w:Int}{W:Nat}(hw:w=W)(hW:0<W)(hwN:w<N){K:List Cm->Int->Option (List Cm)}:∀(n:Nat) (P R:List Cm) (a b:Int),R.length<n->a=P.length->b=P.length+2*w->N=P.length+R.length->N<1152921504606846976->Blk lt W R->
  ∃ Q T,(Q++T).Perm R/\T.length<2*W/\Blk lt W T/\(∀ T',qq lt T'->T'.length=T.length->Blk lt (2*W) (Q++T'))/\vN N w f K n (P++R) a b=K (P++Q++T) ((P.length:Int)+Q.length)
 | 0,P,R,a,b,h0,ha,hb,hN,hl,hB=>by omega
 | n+1,P,R,a,b,h0,ha,hb,hN,hl,hB=>by
  rw[vN]
  by_cases h:b<=N
  ·rw[Nw h]
   obtain⟨A,R',rfl,lA,sA,Df⟩:=hB.split (by omega)
   rw[List.length_append] at h0 hN
   obtain⟨B,R2,rfl,lB,sB,hB2⟩:∃ B R2,R'=B++R2/\B.length=W/\qq lt B/\Blk lt W R2:=by
    by_cases n8:W<R'.length
    ·exact Df.split n8
    ·exact⟨R',[],by simp,by omega,Df.sorted hW (by omega),.last .nil (by simp)⟩
   rw[List.length_append] at h0 hN
   obtain⟨M,m1,m2,m3⟩:=Gg C (P:=P) (A:=A) (B:=B) (S:=R2) (a:=a) (m:=a+w) (b:=b) (by omega) (by omega) sA sB ha (by omega) (by omega)
   have ml:=m1.length_eq
   rw[List.length_append] at ml
   rw[xS (x:=a+w) (by omega),show P++(A++(B++R2))=P++(A++(B++R2)) from rfl,m3]
   simp only[oB]
   obtain⟨Q,T,q1,q2,q3,q4,q5⟩:=st6 C hw hW hwN (K:=K) n (P++M) R2 b (b+2*w) (by omega) (by simp;omega) (by simp;omega) (by simp;omega) hl hB2
   refine⟨M++Q,T,?_,q2,q3,fun T' h1 h2=>?_,?_⟩
   ·rw[List.append_assoc,<- List.append_assoc A];exact m1.append q1
   ·rw[List.append_assoc];exact .cons m2 (by omega) (q4 T' h1 h2)
   ·rw[xS (x:=2*w) (by omega),xS (x:=b+2*w) (by omega),show P++(M++R2)=P++M++R2 by simp,q5]
    congr 1
    ·simp
    ·simp;omega
  ·rw[Nx h]
   exact⟨[],R,by simp,by omega,hB,fun T' h1 h2 => .last h1 (by simp;omega),by simp[ha]⟩
theorem st5(C:Cmp f lt){N:Int}{K:List Cm->Option (List Cm)}(hN:N<1152921504606846976):∀(n:Nat) (R:List Cm) (w:Int) (W:Nat),(N<n+w/\0<n)->0<W->w=W->w<=2*N+20->N=R.length->Blk lt W R->
  ∃ R',R'.Perm R/\qq lt R'/\vj N f K n R w=K R'
 | 0,R,w,W,h0,hW,hw,AF,hl,hB=>by omega
 | n+1,R,w,W,h0,hW,hw,AF,hl,hB=>by
  rw[vj]
  by_cases h:w<N
  ·rw[Nw h]
   refine wx (P:=fun o=>∃ R',R'.Perm R/\qq lt R'/\o=K R') fun k1 w6=>?_
   refine tg (P:=fun o=>∃ R',R'.Perm R/\qq lt R'/\o=K R') fun k2 qI=>?_
   have hF:=wp
   generalize hFU:xT=FU at hF qI ⊢
   obtain⟨Q,T,q1,q2,q3,q4,q5⟩:=st6 C hw hW h (K:=k2) FU [] R 0 (2*w) (by omega) (by simp) (by simp) (by simp;omega) hN hB
   have ql:=q1.length_eq
   rw[List.length_append] at ql
   simp only[List.nil_append,List.length_nil,Int.ofNat_zero,Int.zero_add] at q5
   rw[xS (x:=2*w) (by omega),q5,qI]
   refine wx (P:=fun o=>∃ R',R'.Perm R/\qq lt R'/\o=K R') fun k3 C8=>?_
   have fin:∀ T',T'.Perm T->qq lt T'->∃ R',R'.Perm R/\qq lt R'/\k3 (Q++T')=K R':=by
    intro T' t1 t2
    have tl:=t1.length_eq
    rw[C8,w6,xS (x:=w*2) (by omega)]
    obtain⟨R',r1,r2,r3⟩:=st5 C (K:=K) hN n (Q++T') (w*2) (2*W) (by omega) (by omega) (by omega) (by omega) (by simp;omega) (q4 T' t2 tl)
    exact⟨R',r1.trans ((t1.append_left Q).trans q1),r2,r3⟩
   rw[xS (x:=(Q.length:Int)+w) (by omega)]
   by_cases h3:(Q.length:Int)+w<N
   ·rw[Nw h3]
    obtain⟨A,B,rfl,lA,sA,Df⟩:=q3.split (by omega)
    rw[List.length_append] at ql q2
    have sB:=Df.sorted hW (by omega)
    obtain⟨M,m1,m2,m3⟩:=Gg C (P:=Q) (A:=A) (B:=B) (S:=[]) (a:=Q.length) (m:=Q.length+w) (b:=N) (by omega) (by omega) sA sB rfl (by omega) (by omega)
    simp only[List.append_nil] at m3
    rw[m3]
    exact fin M m1 m2
   ·rw[Nx h3]
    exact fin T (.refl _) (q3.sorted hW (by omega))
  ·rw[Nx h]
   exact⟨R,.refl _,hB.sorted hW (by omega),rfl⟩
theorem Mg(C:Cmp f lt){R:List Cm}(hl:R.length<1152921504606846976):
  ∃ R',R'.Perm R/\qq lt R'/\qi R f=some R':=by
 unfold qi kX
 have hF:=wp
 generalize hFU:xT=FU at hF ⊢
 suffices h:∃ R',R'.Perm R/\qq lt R'/\(sm (fun(z1jO:List yh) (z1jP:Int)=>(vk z1jO z1jP R.length f).bind fun z1jQ=>qt (fun(z1jR:List yh)=>some z1jR) fun z1jS=>vj R.length f z1jS FU z1jQ 20) fun z1jT=>vh R.length f z1jT FU R 0 20)=some R' by
  obtain⟨R',h1,h2,h3⟩:=h
  refine⟨R',h1,h2,?_⟩
  rw[h3];rfl
 refine tg (P:=fun o=>∃ R',R'.Perm R/\qq lt R'/\o=some R') fun k1 w6=>?_
 obtain⟨Q,T,q1,q2,q3,q4⟩:=st4 C (N:=R.length) (K:=k1) FU [] R 0 20 (by omega) (by simp) (by simp) (by simp) (by omega)
 have ql:=q1.length_eq
 rw[List.length_append] at ql
 simp only[List.nil_append,List.length_nil,Int.ofNat_zero,Int.zero_add] at q4
 rw[q4,w6]
 obtain⟨M,m1,m2,m3⟩:=Me C (P:=Q) (R:=T) (Z:=[]) (a:=(Q.length:Int)) (b:=R.length) (by simp) (by omega)
 have ml:=m1.length_eq
 simp only[List.append_nil] at m3
 rw[m3]
 simp only[oB]
 refine wx (P:=fun o=>∃ R',R'.Perm R/\qq lt R'/\o=some R') fun k2 qI=>?_
 obtain⟨R',r1,r2,r3⟩:=st5 C (N:=R.length) (K:=k2) (by omega) FU (Q++M) 20 20 (by omega) (by omega) rfl (by omega) (by simp;omega) (q3 M m2 ml)
 exact⟨R',r1.trans ((m1.append_left Q).trans q1),r2,by rw[r3,qI]⟩
end
def Qc(a b:Cm):Prop:=a.yc<b.yc\/a.yc=b.yc/\(a.yd<b.yd\/a.yd=b.yd/\a.ya<b.ya)
instance (a b:Cm):Decidable (Qc a b):=inferInstanceAs (Decidable (_\/_))
theorem Td:Cmp (fun y0 y1=>mj y0 y1) Qc where
 eq x y:=by
  unfold mj
  simp only[np,oB]
  rw[GG]
  refine⟨_,rfl,?_⟩
  unfold oG oG oG oG Jd Qc
  repeat' split
  repeat' split
  all_goals omega
 asym x y:=by unfold Qc;omega
 tr x y z:=by unfold Qc;omega
theorem WO{l:List Cm}(hl:l.length<1152921504606846976):∃ l',l'.Perm l/\qq Qc l'/\qV l=some l':=by
 obtain⟨R,h1,h2,h3⟩:=Mg Td hl
 refine⟨R,h1,h2,?_⟩
 unfold qV
 rw[h3];rfl
end Go.Proofs.YthjnhebofpebpaaGreat
namespace Go.Proofs.YthjnhebofpebpaaGreat
open Go Go.RowKit Sep
section
structure FewPR (c:Cf) (rs:List (List Hop)) (sent:List qZ):Prop where
 m:c.fM.length<=8
 s:c.fS.length<=8
 l:c.fK.length<=20
 v:c.yb.length<=20
 r:rs.length<=20
 f:¬(sent.length>40/\sent.length<=4000)
 e:∀ r∈rs,r.length<=40
section
variable {c:Cf} {net:Int} {rs:List (List Hop)} {sent:List qZ}
theorem Runs.iv(g:Sg c net rs sent):∀ {n:Nat} {S F:St},Runs c rs sent n S F->∀ {D:List Id},IV c net rs sent S D->∃ D',IV c net rs sent F D'
 | _,_,_,.done _ k,D,h=>⟨D,h.eq k⟩
 | _,_,_,.step e ir hp hm he hr,D,h=>Runs.iv g hr ((Vp g h hp hm).eq he)
structure RunsTo (c:Cf) (rs:List (List Hop)) (sent:List qZ) (come lost:List Cm):Prop where
 run:∃ n F,Runs c rs sent n (init c rs sent) F/\come.Perm F.come/\lost.Perm F.lost
 sc:qq Qc come
 sl:qq Qc lost
 len:come.length+lost.length<=1280
theorem TM(g:Sg c net rs sent):∃ come lost,RunsTo c rs sent come lost/\mN c net rs sent=some (come,lost,0):=by
 obtain⟨n,F,h1,h2⟩:=Tc g
 obtain⟨D,hD⟩:=h1.iv g (Vr g)
 have hc:=hD.cl
 have hl:=hD.len g
 obtain⟨a,a1,a2,a3⟩:=WO (l:=F.come) (by omega)
 obtain⟨b,b1,b2,b3⟩:=WO (l:=F.lost) (by omega)
 refine⟨a,b,⟨⟨n,F,h1,a1,b1⟩,a2,b2,by rw[a1.length_eq,b1.length_eq];omega⟩,?_⟩
 rw[h2,a3,oB,b3,oB]
end
end
section
structure Rc where
 ev:Ev
 out:Option Int
def Rc.id(r:Rc):Id:=qL r.ev
def WP(c:Cf)(r:Rc):Option Cm:=r.out.bind fun t=>if r.ev.yg.fX<nM c then some ⟨r.ev.yd,r.ev.yg.fX,t⟩ else none
def YD(r:Rc):Option Cm:=if r.out=none then some ⟨r.ev.yd,r.ev.yg.ya,r.ev.yc⟩ else none
def root(rs:List (List Hop))(sent:List qZ)(s:Int):Int:=(nth (route rs sent s) 0).ya
def dC(c:Cf)(sent:List qZ)(s:Int)(h:Hop):Int:=(qH c (wi h)).yk.yl+(nth sent s).yo*(qH c (wi h)).yk.yp
section
variable {c:Cf} {net:Int} {rs:List (List Hop)} {sent:List qZ}
structure JV (c:Cf) (net:Int) (rs:List (List Hop)) (sent:List qZ) (S:St) (H:List Rc):Prop where
 iv:IV c net rs sent S (H.map Rc.id)
 come:S.come.Perm (H.filterMap (WP c))
 lost:S.lost.Perm (H.filterMap YD)
 ok:∀ r∈H,EOK rs sent r.ev
 root:∀ s h,(0<=s/\s<(sent.length:Int))->h∈route rs sent s->h.ya=root rs sent s->(s,h)∈H.map Rc.id++S.ag.map qL
 nxt:∀ r∈H,∀ t,r.out=some t->∀ y∈route rs sent r.ev.yd,y.ya=r.ev.yg.fX->(r.ev.yd,y)∈H.map Rc.id++S.ag.map qL
 src:∀ e,(e∈S.ag\/∃ r∈H,r.ev=e)->(e.yg.ya=Go.Proofs.YthjnhebofpebpaaGreat.root rs sent e.yd/\e.yc=(nth sent e.yd).yc/\e.yJ = -1)\/∃ r∈H,r.ev.yd=e.yd/\r.ev.yg.fX=e.yg.ya/\r.out=some e.yc
 out:∀ r∈H,∀ t,r.out=some t->r.ev.yc+dC c sent r.ev.yd r.ev.yg<=t/\t<=(S.pf (wi r.ev.yg)).yE
 ord:H.Pairwise fun a b=>tZ b.ev a.ev/\(wi a.ev.yg=wi b.ev.yg->∀ t u,a.out=some t->b.out=some u->u<t)
 late:∀ e∈S.ag,∀ r∈H,tZ r.ev e
 frs:∀ k,(S.pf k).yn.length<=(H.filter fun r=>decide (wi r.ev.yg=k)).length
theorem JV.eq{S T:St}{H:List Rc}(h:JV c net rs sent S H)(q:EQ S T):JV c net rs sent T H:=by
 have hm:∀ x,x∈S.ag.map qL↔x∈T.ag.map qL:=fun x=>(q.ag.map qL).mem_iff
 refine⟨h.iv.eq q,q.come.symm.trans h.come,q.lost.symm.trans h.lost,h.ok,?_,?_,?_,?_,h.ord,fun e he=>h.late e (q.ag.mem_iff.2 he),fun k=>by rw[<- q.pf];exact h.frs k⟩
 ·intro s x h1 h2 h3
  have:=h.root s x h1 h2 h3
  rw[List.mem_append] at this ⊢
  rwa [<- hm]
 ·intro r hr t ht y h1 h2
  have:=h.nxt r hr t ht y h1 h2
  rw[List.mem_append] at this ⊢
  rwa [<- hm]
 ·intro e he
  exact h.src e (he.imp q.ag.mem_iff.2 fun a=>a)
 ·rw[<- q.pf];exact h.out
theorem Te(g:Sg c net rs sent):JV c net rs sent (init c rs sent) []:=by
 refine⟨Vr g,.refl _,.refl _,by simp,?_,by simp,?_,by simp,.nil,by simp,by simp[init,qH]⟩
 ·intro s h h1 h2 h3
  rw[List.map_nil,List.nil_append]
  refine List.mem_map.2 ⟨⟨(nth sent s).yc,-1,(nth sent s).yt,s,h⟩,Vq.2 ⟨s.toNat,by omega,h,?_,?_,?_⟩,rfl⟩
  all_goals rw[Int.toNat_of_nonneg h1.1]
  ·exact h2
  ·exact h3
 ·intro e he
  rcases he with he | ⟨r,hr,_⟩
  ·obtain⟨i,hi,h,h1,h2,rfl⟩:=Vq.1 he
   exact .inl ⟨h2,rfl,rfl⟩
  ·simp at hr
theorem KI{p:Pt}{t size:Int}:(kj p t size).2.2.yn.length<=p.yn.length+1:=by
 unfold kj
 have:=bw (t:=t) (l:=p.yn)
 split
 ·show p.yn.length<=_;omega
 ·split <;> simp <;> omega
theorem Tf(g:Sg c net rs sent){S:St}{H:List Rc}(h:JV c net rs sent S H){e:Ev}{ir:List Ev}(hp:(e::ir).Perm S.ag)(xJ:∀ x∈S.ag,tZ e x):
  ∃ o,JV c net rs sent (mO c rs sent e ir S) (⟨e,o⟩::H)/\o=if (kj (S.pf (wi e.yg)) e.yc (nth sent e.yd).yo).2.1≠0 then none else some (fy (S.pf (wi e.yg)) e.yc (nth sent e.yd).yo):=by
 have zG:e∈S.ag:=hp.mem_iff.1 (by simp)
 have zt:∀ x∈ir,x∈S.ag:=fun x hx=>hp.mem_iff.1 (List.mem_cons_of_mem _ hx)
 have hid:∀ x∈S.ag.map qL,x=qL e\/x∈ir.map qL:=by
  intro x hx
  obtain⟨y,hy,rfl⟩:=List.mem_map.1 hx
  rcases List.mem_cons.1 (hp.mem_iff.2 hy) with rfl | hy
  ·exact .inl rfl
  ·exact .inr (List.mem_map.2 ⟨y,hy,rfl⟩)
 have he:=h.iv.ev e zG
 have kM:=h.iv.len g
 have ht:=h.iv.tm e zG
 have CE:=hp.length_eq
 rw[List.length_cons] at CE
 have hk:UK rs sent (wi e.yg):=⟨e.yd,e.yg,he.s,he.h,rfl⟩
 obtain⟨p1,p2,p3⟩:=h.iv.pi _ hk
 have lp:=(g.fr.each e.yd he.s.1 he.s.2).2.2.2.2
 have hc:=Qb p1 (size:=(nth sent e.yd).yo) ⟨lp.1,lp.2.1⟩ (t:=e.yc) ⟨h.iv.now _ hk e zG,by omega⟩
 have De:=Vp g h.iv hp xJ
 have CO:=h.iv.num (wi e.yg)
 have Dg:e.yc+dC c sent e.yd e.yg<=fy (S.pf (wi e.yg)) e.yc (nth sent e.yd).yo/\(S.pf (wi e.yg)).yE<fy (S.pf (wi e.yg)) e.yc (nth sent e.yd).yo:=by
  have hm:=Yh (a:=(nth sent e.yd).yo) (b:=(S.pf (wi e.yg)).yk.yp) ⟨lp.1,lp.2.1⟩ p1.slow
  unfold fy dC
  rw[<- CO]
  omega
 have Db:∀ o:Option Int,∀ k,(upd S.pf (wi e.yg) (kj (S.pf (wi e.yg)) e.yc (nth sent e.yd).yo).2.2 k).yn.length<=(((⟨e,o⟩:Rc)::H).filter fun r=>decide (wi r.ev.yg=k)).length:=by
  intro o k
  have:=h.frs k
  rw[List.filter_cons]
  unfold upd
  by_cases q:k=wi e.yg
  ·subst q
   rw[if_pos rfl,if_pos (by simp),List.length_cons]
   have:=KI (p:=S.pf (wi e.yg)) (t:=e.yc) (size:=(nth sent e.yd).yo)
   omega
  ·rw[if_neg q,if_neg (by simp;exact fun hc=>q hc.symm)];exact this
 have vU:∀ o:Option Int,∀ r∈(⟨e,o⟩:Rc)::H,EOK rs sent r.ev:=by
  intro o r hr
  rcases List.mem_cons.1 hr with rfl | hr
  ·exact he
  ·exact h.ok r hr
 have Hb:∀ o:Option Int,∀ x,(x∈ir\/∃ r∈(⟨e,o⟩:Rc)::H,r.ev=x)->(x.yg.ya=root rs sent x.yd/\x.yc=(nth sent x.yd).yc/\x.yJ = -1)\/∃ r∈(⟨e,o⟩:Rc)::H,r.ev.yd=x.yd/\r.ev.yg.fX=x.yg.ya/\r.out=some x.yc:=by
  intro o x hx
  have:x∈S.ag\/∃ r∈H,r.ev=x:=by
   rcases hx with hx | ⟨r,hr,rfl⟩
   ·exact .inl (zt x hx)
   ·rcases List.mem_cons.1 hr with rfl | hr
    ·exact .inl zG
    ·exact .inr ⟨r,hr,rfl⟩
  rcases h.src x this with a | ⟨r,hr,a⟩
  ·exact .inl a
  ·exact .inr ⟨r,List.mem_cons_of_mem _ hr,a⟩
 have Dh:∀ o:Option Int,∀ x∈ir,∀ r∈(⟨e,o⟩:Rc)::H,tZ r.ev x:=by
  intro o x hx r hr
  rcases List.mem_cons.1 hr with rfl | hr
  ·exact xJ x (zt x hx)
  ·exact h.late x (zt x hx) r hr
 have Di:∀(o:Option Int) (ag:List Ev),(∀ x∈ir,x∈ag)->∀ s y,(0<=s/\s<(sent.length:Int))->y∈route rs sent s->y.ya=root rs sent s->(s,y)∈((⟨e,o⟩:Rc)::H).map Rc.id++ag.map qL:=by
  intro o ag E4 s y h1 h2 h3
  rcases List.mem_append.1 (h.root s y h1 h2 h3) with a | a
  ·exact List.mem_append_left _ (List.mem_cons_of_mem _ a)
  ·rcases hid _ a with a | a
   ·exact List.mem_append_left _ (by rw[List.map_cons];exact List.mem_cons.2 (.inl a))
   ·obtain⟨z,hz,Bt⟩:=List.mem_map.1 a
    exact List.mem_append_right _ (List.mem_map.2 ⟨z,E4 z hz,Bt⟩)
 have Hc:∀(o:Option Int) (ag:List Ev),(∀ x∈ir,x∈ag)->∀ r∈H,∀ t,r.out=some t->∀ y∈route rs sent r.ev.yd,y.ya=r.ev.yg.fX->(r.ev.yd,y)∈((⟨e,o⟩:Rc)::H).map Rc.id++ag.map qL:=by
  intro o ag E4 r hr t ht y h1 h2
  rcases List.mem_append.1 (h.nxt r hr t ht y h1 h2) with a | a
  ·exact List.mem_append_left _ (List.mem_cons_of_mem _ a)
  ·rcases hid _ a with a | a
   ·exact List.mem_append_left _ (by rw[List.map_cons];exact List.mem_cons.2 (.inl a))
   ·obtain⟨z,hz,Bt⟩:=List.mem_map.1 a
    exact List.mem_append_right _ (List.mem_map.2 ⟨z,E4 z hz,Bt⟩)
 have Hd:∀ o:Option Int,(∀ t,o=some t->(S.pf (wi e.yg)).yE<t)->((⟨e,o⟩:Rc)::H).Pairwise fun a b=>tZ b.ev a.ev/\(wi a.ev.yg=wi b.ev.yg->∀ t u,a.out=some t->b.out=some u->u<t):=by
  intro o ho
  refine List.pairwise_cons.2 ⟨fun b hb=>⟨h.late e zG b hb,fun hx t u h1 h2=>?_⟩,h.ord⟩
  have:=(h.out b hb u h2).2
  rw[<- hx] at this
  exact Int.lt_of_le_of_lt this (ho t h1)
 revert De
 unfold mO
 by_cases hR:(kj (S.pf (wi e.yg)) e.yc (nth sent e.yd).yo).2.1≠0
 ·rw[if_pos hR]
  intro De
  have hl:(kj (S.pf (wi e.yg)) e.yc (nth sent e.yd).yo).2.2.yE=(S.pf (wi e.yg)).yE:=by
   rcases hc.2.2.2.1 with a | a
   ·exact a.2
   ·exact absurd a.1 hR
  refine⟨none,⟨De,h.come,?_,vU _,Di _ _ (fun _ a=>a),?_,Hb _,?_,Hd _ (by simp),Dh _,Db _⟩,by rw[if_pos hR]⟩
  ·rw[List.filterMap_cons]
   simp only[YD,if_true]
   exact(List.perm_append_comm (l₂:=[_])).trans (h.lost.cons _)
  ·intro r hr t ht
   rcases List.mem_cons.1 hr with rfl | hr
   ·simp at ht
   ·exact Hc _ _ (fun _ a=>a) r hr t ht
  ·intro r hr t ht
   rcases List.mem_cons.1 hr with rfl | hr
   ·simp at ht
   ·have:=h.out r hr t ht
    refine⟨this.1,?_⟩
    simp only[upd]
    split
    ·rename_i q;rw[hl,<- q];exact this.2
    ·exact this.2
 ·rw[if_neg hR]
  intro De
  have hl:(kj (S.pf (wi e.yg)) e.yc (nth sent e.yd).yo).1=fy (S.pf (wi e.yg)) e.yc (nth sent e.yd).yo/\(kj (S.pf (wi e.yg)) e.yc (nth sent e.yd).yo).2.2.yE=fy (S.pf (wi e.yg)) e.yc (nth sent e.yd).yo:=by
   rcases hc.2.2.2.1 with a | a
   ·exact absurd (by rw[a.1];decide) hR
   ·exact a.2
  rw[hl.1] at De ⊢
  refine⟨some (fy (S.pf (wi e.yg)) e.yc (nth sent e.yd).yo),⟨De,?_,?_,vU _,Di _ _ (fun _ a=>List.mem_append_right _ a),?_,?_,?_,Hd _ (by intro t ht;cases ht;exact Dg.2),?_,Db _⟩,by rw[if_neg hR]⟩
  ·rw[List.filterMap_cons]
   simp only[WP,oB]
   by_cases q2:e.yg.fX<nM c
   ·simp only[if_pos q2]
    exact(List.perm_append_comm (l₂:=[_])).trans (h.come.cons _)
   ·simp only[if_neg q2]
    exact h.come
  ·rw[List.filterMap_cons]
   simp only[YD]
   exact h.lost
  ·intro r hr t ht y h1 h2
   rcases List.mem_cons.1 hr with rfl | hr
   ·refine List.mem_append_right _ (List.mem_map.2 ⟨⟨fy (S.pf (wi e.yg)) e.yc (nth sent e.yd).yo,e.yg.fQ,(nth sent e.yd).yt,e.yd,y⟩,List.mem_append_left _ (bB.2 ⟨y,h1,h2,rfl⟩),rfl⟩)
   ·exact Hc _ _ (fun _ a=>List.mem_append_right _ a) r hr t ht y h1 h2
  ·intro x hx
   have:(x∈vo rs sent e.yg.fX (fy (S.pf (wi e.yg)) e.yc (nth sent e.yd).yo) e.yg.fQ e.yd)\/(x∈ir\/∃ r∈(⟨e,some (fy (S.pf (wi e.yg)) e.yc (nth sent e.yd).yo)⟩:Rc)::H,r.ev=x):=by
    rcases hx with hx | hx
    ·rcases List.mem_append.1 hx with hx | hx
     ·exact .inl hx
     ·exact .inr (.inl hx)
    ·exact .inr (.inr hx)
   rcases this with hx | hx
   ·obtain⟨y,h1,h2,rfl⟩:=bB.1 hx
    exact .inr ⟨_,List.mem_cons_self ..,rfl,h2.symm,rfl⟩
   ·exact Hb _ x hx
  ·intro r hr t ht
   rcases List.mem_cons.1 hr with rfl | hr
   ·cases ht
    refine⟨Dg.1,?_⟩
    simp only[upd,if_true]
    rw[hl.2];exact Int.le_refl _
   ·have:=h.out r hr t ht
    refine⟨this.1,?_⟩
    simp only[upd]
    split
    ·rename_i q;rw[hl.2];rw[q] at this;omega
    ·exact this.2
  ·intro x hx r hr
   rcases List.mem_append.1 hx with hx | hx
   ·obtain⟨y,h1,h2,rfl⟩:=bB.1 hx
    refine KH ?_
    show r.ev.yc<fy _ _ _
    rcases List.mem_cons.1 hr with rfl | hr
    ·show e.yc<_;omega
    ·have:=nR (h.late e zG r hr);omega
   ·exact Dh _ x hx r hr
end
end
section
variable {r:List Hop}{v:Nat}{H:List Rc}
def bk(r:List Hop)(w:Hop->Int):Nat->Int->Int
 | 0,_=>0
 | n+1,a=>if (nth r (n:Int)).fX=a then w (nth r (n:Int))+bk r w n (nth r (n:Int)).ya else bk r w n a
theorem YF{r:List Hop}{w:Hop->Int}{a:Int}:∀(n m:Nat),n<=m->(∀ j:Nat,n<=j->j<m->(nth r (j:Int)).fX≠a)->bk r w m a=bk r w n a
 | n,0,h,_=>by rw[show n=0 by omega]
 | n,m+1,h,hj=>by
  by_cases e:n=m+1
  ·rw[e]
  ·rw[bk,if_neg (hj m (by omega) (by omega))]
   exact YF n m (by omega) fun j h1 h2=>hj j h1 (by omega)
theorem KJ{α:Type}{R:α->α->Prop}{l:List α}(h:l.Pairwise R){a b:α}(ha:a∈l)(hb:b∈l)(zT:a≠b):R a b\/R b a:=by
 obtain⟨i,hi,rfl⟩:=List.getElem_of_mem ha
 obtain⟨j,hj,rfl⟩:=List.getElem_of_mem hb
 rw[List.pairwise_iff_getElem] at h
 rcases Nat.lt_trichotomy i j with hij | hij | hij
 ·exact .inl (h i j hi hj hij)
 ·subst hij;exact absurd rfl zT
 ·exact .inr (h j i hj hi hij)
section
variable {c:Cf} {net:Int} {rs:List (List Hop)} {sent:List qZ}
theorem VR.next_ne'(h:VR c net r){i j:Nat}(hi:i<r.length)(hj:j<r.length)(hij:i≠j):(nth r (i:Int)).fX≠(nth r (j:Int)).fX:=by
 rw[j6 ⟨by omega,by omega⟩,j6 ⟨by omega,by omega⟩]
 simp only[Int.toNat_natCast]
 rcases Nat.lt_or_gt_of_ne hij with q | q
 ·exact(h.idx hi hj q).1
 ·exact fun e=>(h.idx hj hi q).1 e.symm
theorem VR.prev(h:VR c net r)(hv:v<r.length):(nth r (v:Int)).ya=(nth r 0).ya\/∃ q:Nat,q<v/\(nth r (q:Int)).fX=(nth r (v:Int)).ya:=by
 rcases(h.cond (v:Int) (by omega) (by omega)).1 with a | ⟨q,q1,q2,q3⟩
 ·exact .inl a
 ·refine .inr ⟨q.toNat,by omega,?_⟩
  rw[Int.toNat_of_nonneg q1];exact q3
theorem VR.bk_start(h:VR c net r){w:Hop->Int}(hv:v<=r.length):bk r w v (nth r 0).ya=0:=by
 rw[YF 0 v (by omega) fun j _ h2=>h.next_ne _ (ws (by omega) (by omega))];rfl
theorem VR.bk_next(h:VR c net r){w:Hop->Int}{m:Nat}(hv:v<r.length)(hm:v+1<=m)(hm2:m<=r.length):bk r w m (nth r (v:Int)).fX=w (nth r (v:Int))+bk r w v (nth r (v:Int)).ya:=by
 rw[YF (v+1) m hm fun j h1 h2=>h.next_ne' (by omega) hv (by omega),bk,if_pos rfl]
theorem Rc.same(g:Sg c net rs sent){S:St}(h:JV c net rs sent S H){a b:Rc}(ha:a∈H)(hb:b∈H)(e:a.id=b.id):a=b:=by
 by_cases zT:a=b
 ·exact zT
 ·have BB:=(List.nodup_append.1 h.iv.nd).1
  rw[List.nodup_iff_pairwise_ne,List.pairwise_map] at BB
  rcases KJ BB ha hb zT with q | q
  ·exact absurd e q
  ·exact absurd e.symm q
theorem Ud(g:Sg c net rs sent){s:Int}{h:Hop}(hs:0<=s/\s<sent.length)(hh:h∈route rs sent s):0<=dC c sent s h:=by
 have hp:=bC g (k:=wi h) ⟨s,h,hs,hh,rfl⟩
 have lp:=(g.fr.each s hs.1 hs.2).2.2.2.2
 have hm:=Yh (a:=(nth sent s).yo) (b:=(qH c (wi h)).yk.yp) ⟨lp.1,lp.2.1⟩ hp.slow
 have:=hp.delay
 unfold dC;omega
theorem Qz(g:Sg c net rs sent){S:St}(h:JV c net rs sent S H)(s:Int)(hs:0<=s/\s<sent.length):∀(v:Nat),v<(route rs sent s).length->∀ r∈H,r.ev.yd=s->r.ev.yg=nth (route rs sent s) (v:Int)->
  (nth sent s).yc+bk (route rs sent s) (dC c sent s) v (nth (route rs sent s) (v:Int)).ya<=r.ev.yc/\∀ t,r.out=some t->(nth sent s).yc+bk (route rs sent s) (dC c sent s) (v+1) (nth (route rs sent s) (v:Int)).fX<=t:=by
 intro v
 induction v using Nat.strongRecOn with
 | _ v ih=>
  intro hv r hr e1 e2
  have Ax:=g.route hs
  have DV:(nth sent s).yc+bk (route rs sent s) (dC c sent s) v (nth (route rs sent s) (v:Int)).ya<=r.ev.yc:=by
   rcases h.src r.ev (.inr ⟨r,hr,rfl⟩) with⟨a,b,_⟩ | ⟨r',hr',a,b,d⟩
   ·rw[e1] at a b
    rw[e2] at a
    rw[a]
    unfold root
    rw[Ax.bk_start (by omega),b];omega
   ·rw[e1] at a
    rw[e2] at b
    have B8:r'.ev.yg∈route rs sent s:=by rw[<- a];exact(h.ok r' hr').h
    rcases Ax.prev hv with q | ⟨q,q1,q2⟩
    ·exact absurd (b.trans q) (Ax.next_ne _ B8)
    ·have he:r'.ev.yg=nth (route rs sent s) (q:Int):=Ax.next_inj B8 (ws (by omega) (by omega)) (b.trans q2.symm)
     have:=(ih q q1 (by omega) r' hr' a he).2 _ d
     rw[q2] at this
     rw[YF (q+1) v (by omega) fun j h1 h2=>by rw[<- q2];exact Ax.next_ne' (by omega) (by omega) (by omega)]
     exact this
  refine⟨DV,fun t ht=>?_⟩
  have:=(h.out r hr t ht).1
  rw[e1,e2] at this
  rw[Ax.bk_next hv (Nat.le_refl _) (by omega)]
  omega
theorem Ue{come:List Cm}(hp:come.Perm (H.filterMap (WP c))){x:Cm}(hx:x∈come):∃ r∈H,r.ev.yd=x.yd/\r.ev.yg.fX=x.ya/\r.out=some x.yc/\x.ya<nM c:=by
 obtain⟨r,hr,he⟩:=List.mem_filterMap.1 (hp.mem_iff.1 hx)
 refine⟨r,hr,?_⟩
 unfold WP at he
 cases ho:r.out with
 | none=>rw[ho] at he;simp at he
 | some t=>
  rw[ho,oB] at he
  split at he
  ·rename_i hn
   cases he
   exact⟨rfl,rfl,rfl,hn⟩
  ·simp at he
end
end
section
def qT(sent:List qZ)(r:Rc):Int:=(nth sent r.ev.yd).yo
def uM(k:Ex):List Rc->Int
 | []=>0
 | r::H=>if wi r.ev.yg=k then r.out.getD (uM k H) else uM k H
def vw(sent:List qZ)(k:Ex)(t:Int):List Rc->Int
 | []=>0
 | r::H=>(if wi r.ev.yg=k/\r.out.getD t>t then qT sent r else 0)+vw sent k t H
def pJ(c:Cf)(sent:List qZ):List Rc->Prop
 | []=>True
 | r::H=>pJ c sent H/\(∀ t,r.out=some t->t=max (r.ev.yc+(qH c (wi r.ev.yg)).yk.yl) (uM (wi r.ev.yg) H)+qT sent r*(qH c (wi r.ev.yg)).yk.yp)/\
  (r.out=none->vw sent (wi r.ev.yg) r.ev.yc H+qT sent r>(qH c (wi r.ev.yg)).yk.fT)
theorem Ka(a b:List Fr):fk (a++b)=fk a+fk b:=by
 induction a with
 | nil=>simp[fk]
 | cons x a ih=>simp only[List.cons_append,fk,ih];omega
theorem Qd{t u:Int}(h:t<=u)(l:List Fr):fl u (fl t l)=fl u l:=by
 unfold fl
 rw[List.filter_filter]
 congr 1;funext x
 by_cases hx:x.yO>u
 ·simp[hx];omega
 ·simp[hx]
section
variable {c:Cf} {net:Int} {rs:List (List Hop)} {sent:List qZ}
structure KV (c:Cf) (sent:List qZ) (S:St) (H:List Rc):Prop where
 sv:pJ c sent H
 last:∀ k,(S.pf k).yE=uM k H
 hold:∀ k t,(S.pf k).yQ<=t->fk (fl t (S.pf k).yn)=vw sent k t H
theorem KV.eq{S T:St}{H:List Rc}(h:KV c sent S H)(q:EQ S T):KV c sent T H:=⟨h.sv,by rw[<- q.pf];exact h.last,by rw[<- q.pf];exact h.hold⟩
theorem Tg(g:Sg c net rs sent){S:St}{H:List Rc}(h:JV c net rs sent S H)(kv:KV c sent S H){e:Ev}{ir:List Ev}(hp:(e::ir).Perm S.ag)(xJ:∀ x∈S.ag,tZ e x):
  ∃ o,JV c net rs sent (mO c rs sent e ir S) (⟨e,o⟩::H)/\KV c sent (mO c rs sent e ir S) (⟨e,o⟩::H):=by
 obtain⟨o,ho,eo⟩:=Tf g h hp xJ
 refine⟨o,ho,?_⟩
 have zG:e∈S.ag:=hp.mem_iff.1 (by simp)
 have he:=h.iv.ev e zG
 have kM:=h.iv.len g
 have ht:=h.iv.tm e zG
 have CE:=hp.length_eq
 rw[List.length_cons] at CE
 have hk:UK rs sent (wi e.yg):=⟨e.yd,e.yg,he.s,he.h,rfl⟩
 obtain⟨p1,p2,p3⟩:=h.iv.pi _ hk
 have lp:=(g.fr.each e.yd he.s.1 he.s.2).2.2.2.2
 have hnow:=h.iv.now _ hk e zG
 have CO:=h.iv.num (wi e.yg)
 have hl:=kv.last (wi e.yg)
 have hh:=kv.hold (wi e.yg)
 have hpf:(mO c rs sent e ir S).pf=upd S.pf (wi e.yg) (kj (S.pf (wi e.yg)) e.yc (nth sent e.yd).yo).2.2:=by unfold mO;split <;> rfl
 have hc:¬((nth sent e.yd).yo<1\/(nth sent e.yd).yo>72\/e.yc<(S.pf (wi e.yg)).yQ\/e.yc>1073741824):=by omega
 have oth:∀ k,k≠wi e.yg->(mO c rs sent e ir S).pf k=S.pf k:=fun k q=>by rw[hpf];exact if_neg q
 have own:(mO c rs sent e ir S).pf (wi e.yg)=(kj (S.pf (wi e.yg)) e.yc (nth sent e.yd).yo).2.2:=by rw[hpf];exact if_pos rfl
 have l1:∀ k,k≠wi e.yg->uM k ((⟨e,o⟩:Rc)::H)=uM k H:=fun k q=>if_neg fun x=>q x.symm
 have h1:∀ k t,k≠wi e.yg->vw sent k t ((⟨e,o⟩:Rc)::H)=vw sent k t H:=fun k t q=>by
  rw[vw,if_neg fun x=>q x.1.symm];omega
 revert own eo
 unfold kj
 rw[if_neg hc]
 by_cases hf:fk (fl e.yc (S.pf (wi e.yg)).yn)+(nth sent e.yd).yo>(S.pf (wi e.yg)).yk.fT
 ·rw[if_pos hf]
  simp only[ne_eq]
  rw[if_pos (by decide)]
  rintro rfl own
  refine⟨⟨kv.sv,fun t q=>by simp at q,fun _=>?_⟩,fun k=>?_,fun k t q=>?_⟩
  ·rw[<- CO,<- hh _ hnow];exact hf
  ·by_cases e1:k=wi e.yg
   ·subst e1;rw[own];exact hl.trans (if_pos rfl).symm
   ·rw[oth k e1,l1 k e1];exact kv.last k
  ·by_cases e1:k=wi e.yg
   ·subst e1;rw[own] at q ⊢
    simp only at q ⊢
    rw[Qd q,hh t (by omega),vw,if_neg (by simp)];omega
   ·rw[oth k e1] at q ⊢;rw[h1 k t e1];exact kv.hold k t q
 ·rw[if_neg hf]
  simp only[ne_eq]
  rw[if_neg (by decide)]
  rintro rfl own
  refine⟨⟨kv.sv,fun t q=>?_,fun q=>by simp at q⟩,fun k=>?_,fun k t q=>?_⟩
  ·injection q with q;rw[<- q,<- CO,<- hl];rfl
  ·by_cases e1:k=wi e.yg
   ·subst e1;rw[own];exact(if_pos rfl).symm
   ·rw[oth k e1,l1 k e1];exact kv.last k
  ·by_cases e1:k=wi e.yg
   ·subst e1;rw[own] at q ⊢
    simp only at q ⊢
    have hw:fl t (fl e.yc (S.pf (wi e.yg)).yn++[⟨(nth sent e.yd).yo,fy (S.pf (wi e.yg)) e.yc (nth sent e.yd).yo⟩])=fl t (S.pf (wi e.yg)).yn++fl t [⟨(nth sent e.yd).yo,fy (S.pf (wi e.yg)) e.yc (nth sent e.yd).yo⟩]:=by
     rw[<- Qd q (S.pf (wi e.yg)).yn];unfold fl;rw[List.filter_append]
    rw[hw,Ka,hh t (by omega),vw]
    by_cases e2:fy (S.pf (wi e.yg)) e.yc (nth sent e.yd).yo>t
    ·rw[if_pos ⟨rfl,e2⟩];simp only[fl,List.filter_cons,List.filter_nil,decide_eq_true e2,if_true,fk];unfold qT;simp only;omega
    ·rw[if_neg (fun x=>e2 x.2)];simp only[fl,List.filter_cons,List.filter_nil,decide_eq_false e2,fk];simp[fk]
   ·rw[oth k e1] at q ⊢;rw[h1 k t e1];exact kv.hold k t q
theorem Runs.kv(g:Sg c net rs sent):∀ {n:Nat} {S F:St},Runs c rs sent n S F->∀ {H:List Rc},JV c net rs sent S H->KV c sent S H->∃ H',JV c net rs sent F H'/\KV c sent F H'
 | _,_,_,.done _ k,H,h,v=>⟨H,h.eq k,v.eq k⟩
 | _,_,_,.step e ir hp hm he hr,H,h,v=>by
  obtain⟨o,ho,hv⟩:=Tg g h v hp hm
  exact Runs.kv g hr (ho.eq he) (hv.eq he)
theorem Th:KV c sent (init c rs sent) []:=⟨trivial,fun _=>rfl,fun _ _ _=>rfl⟩
theorem RunsTo.served(g:Sg c net rs sent){come lost:List Cm}(h:RunsTo c rs sent come lost):∃ F H,F.ag=[]/\JV c net rs sent F H/\pJ c sent H/\come.Perm (H.filterMap (WP c))/\lost.Perm (H.filterMap YD):=by
 obtain⟨n,F,h1,h2,h3⟩:=h.run
 obtain⟨H,hH,hK⟩:=h1.kv g (Te g) Th
 exact⟨F,H,h1.fin,hH,hK.sv,h2.trans hH.come,h3.trans hH.lost⟩
end
end
section
variable {r:Rc}{H:List Rc}
def wz{α:Type}(p:α->Bool)(f:α->Int):List α->Int
 | []=>0
 | x::l=>(if p x then f x else 0)+wz p f l
theorem YG{α:Type}{p q:α->Bool}{f:α->Int}:∀ {l:List α},(∀ x∈l,0<=f x)->(∀ x∈l,p x=true->q x=true)->wz p f l<=wz q f l
 | [],_,_=>Int.le_refl _
 | x::l,h,k=>by
  have ih:=YG (l:=l) (fun y hy=>h y (List.mem_cons_of_mem _ hy)) fun y hy=>k y (List.mem_cons_of_mem _ hy)
  have h1:=h x (by simp);have h2:=k x (by simp)
  simp only[wz]
  by_cases e:p x=true
  ·rw[if_pos e,if_pos (h2 e)];omega
  ·rw[if_neg e];split <;> omega
theorem rN{α:Type}{p:α->Bool}{f:α->Int}:∀ {l:List α},(∀ x∈l,0<=f x)->0<=wz p f l
 | [],_=>Int.le_refl _
 | x::l,h=>by
  have ih:=rN (p:=p) (l:=l) fun y hy=>h y (List.mem_cons_of_mem _ hy)
  have h1:=h x (by simp)
  simp only[wz];split <;> omega
theorem db{α:Type}{p:α->Bool}{f:α->Int}:∀ {l:List α},(∀ x∈l,p x=false)->wz p f l=0
 | [],_=>rfl
 | x::l,h=>by
  simp only[wz];rw[if_neg (by rw[h x (by simp)];simp),db fun y hy=>h y (List.mem_cons_of_mem _ hy)];rfl
theorem cv{α:Type}{p q:α->Bool}{f:α->Int}:∀ {l:List α},(∀ x∈l,p x=q x)->wz p f l=wz q f l
 | [],_=>rfl
 | x::l,h=>by
  simp only[wz];rw[h x (by simp),cv fun y hy=>h y (List.mem_cons_of_mem _ hy)]
def jg(k:Ex)(r:Rc):Bool:=decide (wi r.ev.yg=k)&&r.out.isSome
def f6(k:Ex)(s:Int)(r:Rc):Bool:=jg k r&&decide (s<=r.ev.yc)
def dc(k:Ex)(s u:Int)(r:Rc):Bool:=jg k r&&decide (s<=r.ev.yc)&&decide (r.ev.yc<s+u)
section
variable {c:Cf} {sent:List qZ} {k:Ex}
theorem mJ:jg k r=true↔wi r.ev.yg=k/\∃ t,r.out=some t:=by
 unfold jg;simp[Option.isSome_iff_exists]
structure PH (c:Cf) (sent:List qZ) (k:Ex) (H:List Rc):Prop where
 sv:pJ c sent H
 so:H.Pairwise fun a b=>b.ev.yc<=a.ev.yc
 sz:∀ r∈H,1<=qT sent r
 t0:∀ r∈H,0<=r.ev.yc
theorem PH.tail(h:PH c sent k (r::H)):PH c sent k H:=⟨h.sv.1,(List.pairwise_cons.1 h.so).2,fun x hx=>h.sz x (List.mem_cons_of_mem _ hx),fun x hx=>h.t0 x (List.mem_cons_of_mem _ hx)⟩
theorem iK(h:¬jg k r=true):uM k (r::H)=uM k H:=by
 rw[uM]
 split
 ·rename_i e
  cases ho:r.out with
  | none=>rfl
  | some t=>exact absurd (mJ.2 ⟨e,t,ho⟩) h
 ·rfl
theorem sW{t:Int}(h:wi r.ev.yg=k)(ho:r.out=some t):uM k (r::H)=t:=by
 rw[uM,if_pos h,ho];rfl
theorem Qe:∀ {H:List Rc},(∀ r∈H,¬jg k r=true)->uM k H=0
 | [],_=>rfl
 | r::H,h=>by rw[iK (h r (by simp)),Qe fun x hx=>h x (List.mem_cons_of_mem _ hx)]
variable {la sl:Int} (zV:(qH c k).yk.yl=la) (zh:(qH c k).yk.yp=sl) (l0:0<=la) (s1:1<=sl)
include zV zh l0 s1
theorem PH.step(h:PH c sent k (r::H)){t:Int}(e:wi r.ev.yg=k)(ho:r.out=some t):t=max (r.ev.yc+la) (uM k H)+sl*qT sent r/\sl<=sl*qT sent r:=by
 subst e
 have:=h.sv.2.1 t ho
 rw[zV,zh] at this
 rw[Int.mul_comm (qT sent r)] at this
 have h2:=h.sz r (by simp)
 have:=Int.mul_le_mul_of_nonneg_left h2 (show 0<=sl by omega)
 exact⟨by assumption,by omega⟩
theorem WQ:∀ {H:List Rc},PH c sent k H->∀ r∈H,∀ t,wi r.ev.yg=k->r.out=some t->t<=uM k H/\r.ev.yc+la<t
 | [],_,r,hr,_,_,_=>by simp at hr
 | x::H,h,r,hr,t,e,ho=>by
  rcases List.mem_cons.1 hr with rfl | hr
  ·have:=h.step zV zh l0 s1 e ho
   rw[sW e ho];omega
  ·have ih:=WQ h.tail r hr t e ho
   refine⟨?_,ih.2⟩
   by_cases hx:jg k x=true
   ·obtain⟨e2,u,hu⟩:=mJ.1 hx
    have:=h.step zV zh l0 s1 e2 hu
    rw[sW e2 hu];omega
   ·rw[iK hx];exact ih.1
theorem busy:∀ {H:List Rc},PH c sent k H->(∃ r∈H,jg k r=true)->∃ s,(∃ r∈H,jg k r=true/\r.ev.yc=s)/\uM k H=s+la+sl*wz (f6 k s) (qT sent) H/\
  ∀ r∈H,jg k r=true->∀ u,1<=u->s+u<=r.ev.yc->u<sl*wz (dc k s u) (qT sent) H
 | [],_,⟨r,hr,_⟩=>by simp at hr
 | r::H,h,hex=>by
  have hs:=List.pairwise_cons.1 h.so
  have hz:=h.sz
  by_cases hr:jg k r=true
  ·obtain⟨e,t,ho⟩:=mJ.1 hr
   obtain⟨ht,hm⟩:=h.step zV zh l0 s1 e ho
   have ht0:=h.t0 r (by simp)
   by_cases hl:uM k H<=r.ev.yc+la
   ·refine⟨r.ev.yc,⟨r,by simp,hr,rfl⟩,?_,fun x hx Ay u hu hxu=>?_⟩
    ·rw[sW e ho,wz,if_pos (by unfold f6;rw[hr];simp),db,ht]
     ·rw[Int.add_zero];omega
     ·intro x hx
      by_cases ha:jg k x=true
      ·obtain⟨e2,u,hu⟩:=mJ.1 ha
       have:=WQ zV zh l0 s1 h.tail x hx u e2 hu
       unfold f6;simp;intro _;omega
      ·unfold f6;simp[ha]
    ·rcases List.mem_cons.1 hx with rfl | hx
     ·omega
     ·have:=hs.1 x hx;omega
   ·have hex2:∃ r∈H,jg k r=true:=by
     refine Classical.byContradiction fun hc=>?_
     have:=Qe (k:=k) (H:=H) fun x hx ha=>hc ⟨x,hx,ha⟩
     omega
    obtain⟨s,⟨x,hx,Ay,Bn⟩,h1,h2⟩:=busy h.tail hex2
    have hxr:=hs.1 x hx
    have CV:wz (f6 k s) (qT sent) (r::H)=qT sent r+wz (f6 k s) (qT sent) H:=by
     rw[wz,if_pos (by unfold f6;rw[hr];simp;omega)]
    have ze:∀ u,sl*wz (dc k s u) (qT sent) H<=sl*wz (dc k s u) (qT sent) (r::H):=fun u=>by
     refine Int.mul_le_mul_of_nonneg_left ?_ (by omega)
     have:=hz r (by simp)
     rw[wz];split <;> omega
    refine⟨s,⟨x,List.mem_cons_of_mem _ hx,Ay,Bn⟩,?_,fun y hy hya u hu hyu=>?_⟩
    ·rw[sW e ho,CV,Int.mul_add,ht];omega
    ·have hyr:y.ev.yc<=r.ev.yc:=by
      rcases List.mem_cons.1 hy with rfl | hy
      ·omega
      ·exact hs.1 y hy
     by_cases hq:∃ z∈H,jg k z=true/\s+u<=z.ev.yc
     ·obtain⟨z,DX,Bt,Dj⟩:=hq
      exact Int.lt_of_lt_of_le (h2 z DX Bt u hu Dj) (ze u)
     ·have he:wz (dc k s u) (qT sent) H=wz (f6 k s) (qT sent) H:=cv fun z DX=>by
       unfold dc f6
       by_cases ha:jg k z=true
       ·have:z.ev.yc<s+u:=by
         refine Classical.byContradiction fun hc=>hq ⟨z,DX,ha,by omega⟩
        simp[this]
       ·simp[ha]
      have:=ze u
      rw[he] at this
      omega
  ·obtain⟨s,⟨x,hx,Ay,Bn⟩,h1,h2⟩:=busy h.tail (by
    obtain⟨x,hx,ha⟩:=hex
    rcases List.mem_cons.1 hx with rfl | hx
    ·exact absurd ha hr
    ·exact⟨x,hx,ha⟩)
   refine⟨s,⟨x,List.mem_cons_of_mem _ hx,Ay,Bn⟩,?_,fun y hy hya u hu hyu=>?_⟩
   ·rw[iK hr,wz,if_neg (by unfold f6;simp[hr]),Int.zero_add];exact h1
   ·rcases List.mem_cons.1 hy with rfl | hy
    ·exact absurd hya hr
    ·rw[wz,if_neg (by unfold dc;simp[hr]),Int.zero_add];exact h2 y hy hya u hu hyu
theorem df:∀ {H:List Rc} {τ:Int},PH c sent k H->uM k H<=τ->vw sent k τ H=0
 | [],_,_,_=>rfl
 | r::H,τ,h,hl=>by
  rw[vw,if_neg]
  ·by_cases hr:jg k r=true
   ·obtain⟨e,t,ho⟩:=mJ.1 hr
    have:=h.step zV zh l0 s1 e ho
    rw[sW e ho] at hl
    rw[df h.tail (by omega)];rfl
   ·rw[iK hr] at hl
    rw[df h.tail hl];rfl
  ·rintro⟨e,hc⟩
   cases ho:r.out with
   | none=>rw[ho] at hc;simp at hc
   | some t=>
    rw[ho] at hc
    have:=(WQ zV zh l0 s1 h r (by simp) t e ho).1
    simp only[Option.getD_some] at hc;omega
theorem Yj{most τ:Int}(t0:0<=τ):∀ {H:List Rc},PH c sent k H->(∀ r∈H,jg k r=true->qT sent r<=most)->uM k H<=τ\/∃ s X,(∃ r∈H,jg k r=true/\r.ev.yc=s)/\vw sent k τ H<=wz (f6 k s) (qT sent) H-X+most/\0<=X/\τ<s+la+sl*X/\
  ∀ u,1<=u->s+u+la<=τ->u<sl*wz (dc k s u) (qT sent) H
 | [],_,_ => .inl t0
 | r::H,h,hm=>by
  have hs:=List.pairwise_cons.1 h.so
  have hz:=h.sz
  have hmt:∀ x∈H,jg k x=true->qT sent x<=most:=fun x hx=>hm x (List.mem_cons_of_mem _ hx)
  by_cases hr:jg k r=true
  ·obtain⟨e,t,ho⟩:=mJ.1 hr
   by_cases htt:t<=τ
   ·exact .inl (by rw[sW e ho];exact htt)
   ·have Dk:vw sent k τ (r::H)=qT sent r+vw sent k τ H:=by
     rw[vw,if_pos ⟨e,by rw[ho];simp only[Option.getD_some];omega⟩]
    by_cases hl:uM k H<=τ
    ·obtain⟨s,⟨x,hx,Ay,Bn⟩,h1,h2⟩:=busy zV zh l0 s1 h ⟨r,by simp,hr⟩
     have h0:=df zV zh l0 s1 h.tail hl
     have D5:=hm r (by simp) hr
     rw[sW e ho] at h1
     refine .inr ⟨s,wz (f6 k s) (qT sent) (r::H),⟨x,hx,Ay,Bn⟩,by omega,rN fun y hy=>by have:=hz y hy;omega,by omega,fun u hu hut=>?_⟩
     by_cases hq:∃ z∈r::H,jg k z=true/\s+u<=z.ev.yc
     ·obtain⟨z,DX,Bt,Dj⟩:=hq
      exact h2 z DX Bt u hu Dj
     ·have he:wz (dc k s u) (qT sent) (r::H)=wz (f6 k s) (qT sent) (r::H):=cv fun z DX=>by
       unfold dc f6
       by_cases ha:jg k z=true
       ·have:z.ev.yc<s+u:=by
         refine Classical.byContradiction fun hc=>hq ⟨z,DX,ha,by omega⟩
        simp[this]
       ·simp[ha]
      rw[he];omega
    ·rcases Yj t0 h.tail hmt with CY | ⟨s,X,⟨x,hx,Ay,Bn⟩,h1,h2,h3,h4⟩
     ·exact absurd CY hl
     ·have hxr:=hs.1 x hx
      have CV:wz (f6 k s) (qT sent) (r::H)=qT sent r+wz (f6 k s) (qT sent) H:=by
       rw[wz,if_pos (by unfold f6;rw[hr];simp;omega)]
      refine .inr ⟨s,X,⟨x,List.mem_cons_of_mem _ hx,Ay,Bn⟩,by omega,h2,h3,fun u hu hut=>?_⟩
      refine Int.lt_of_lt_of_le (h4 u hu hut) (Int.mul_le_mul_of_nonneg_left ?_ (by omega))
      have:=hz r (by simp)
      rw[wz];split <;> omega
  ·have Dk:vw sent k τ (r::H)=vw sent k τ H:=by
    rw[vw,if_neg,Int.zero_add]
    rintro⟨e,hc⟩
    cases ho:r.out with
    | none=>rw[ho] at hc;simp at hc
    | some t=>exact hr (mJ.2 ⟨e,t,ho⟩)
   rcases Yj t0 h.tail hmt with CY | ⟨s,X,⟨x,hx,Ay,Bn⟩,h1,h2,h3,h4⟩
   ·exact .inl (by rw[iK hr];exact CY)
   ·refine .inr ⟨s,X,⟨x,List.mem_cons_of_mem _ hx,Ay,Bn⟩,?_,h2,h3,fun u hu hut=>?_⟩
    ·rw[Dk,wz,if_neg (by unfold f6;simp[hr]),Int.zero_add];exact h1
    ·rw[wz,if_neg (by unfold dc;simp[hr]),Int.zero_add];exact h4 u hu hut
end
end
section
variable {H:List Rc}{S:St}
def lw(k:Ex)(s T:Int)(G:Rc->Bool)(r:Rc):Bool:=jg k r&&decide (s<=r.out.getD 0)&&decide (r.out.getD 0<=T)&&G r
section
variable {c:Cf} {sent:List qZ} {k:Ex}
variable {la sl:Int} (zV:(qH c k).yk.yl=la) (zh:(qH c k).yk.yp=sl) (l0:0<=la) (s1:1<=sl)
include zV zh l0 s1
theorem XQ{s wide:Int}{G:Rc->Bool}(w0:0<=wide):∀ {H:List Rc} (T:Int),PH c sent k H->(∀ r∈H,G r=true->qT sent r<=wide)->sl*wz (lw k s T G) (qT sent) H<=sl*wide+max 0 (T-s)
 | [],T,_,_=>by
  have:=Int.mul_le_mul_of_nonneg_left w0 (show 0<=sl by omega)
  simp only[wz];omega
 | r::H,T,h,hw=>by
  have hwt:∀ r∈H,G r=true->qT sent r<=wide:=fun x hx=>hw x (List.mem_cons_of_mem _ hx)
  by_cases hr:lw k s T G r=true
  ·have BF:=hr
   unfold lw at hr
   simp only[Bool.and_eq_true,decide_eq_true_eq] at hr
   obtain⟨⟨⟨ha,h1⟩,h2⟩,hg⟩:=hr
   obtain⟨e,t,ho⟩:=mJ.1 ha
   rw[ho,Option.getD_some] at h1 h2
   obtain⟨ht,hm⟩:=h.step zV zh l0 s1 e ho
   have ze:wz (lw k s T G) (qT sent) H=wz (lw k s (t-sl*qT sent r) G) (qT sent) H:=cv fun x hx=>by
    unfold lw
    by_cases Ay:jg k x=true
    ·obtain⟨e2,u,hu⟩:=mJ.1 Ay
     have:=(WQ zV zh l0 s1 h.tail x hx u e2 hu).1
     rw[hu,Option.getD_some,show decide (u<=T)=true by simp;omega,show decide (u<=t-sl*qT sent r)=true by simp;omega]
    ·simp[Ay]
   rw[wz,if_pos BF,ze,Int.mul_add]
   by_cases hts:t-sl*qT sent r<s
   ·rw[db]
    ·have:=Int.mul_le_mul_of_nonneg_left (hw r (by simp) hg) (show 0<=sl by omega)
     omega
    ·intro x hx
     unfold lw
     by_cases hq:s<=x.out.getD 0
     ·rw[show decide (x.out.getD 0<=t-sl*qT sent r)=false by simp;omega];simp
     ·rw[show decide (s<=x.out.getD 0)=false by simp;omega];simp
   ·have ih:=XQ (s:=s) w0 (t-sl*qT sent r) h.tail hwt
    omega
  ·have ih:=XQ (s:=s) w0 T h.tail hwt
   rw[wz,if_neg hr,Int.zero_add];exact ih
end
theorem Kb{w:Int->Int}:∀ {K L:List Int},K.Nodup->(∀ x∈K,x∈L)->(∀ x∈L,0<=w x)->wz (fun _=>true) w K<=wz (fun _=>true) w L
 | [],L,_,_,h=>rN h
 | x::K,L,hn,hs,h=>by
  have hn:=List.nodup_cons.1 hn
  have hx:=hs x (by simp)
  have key:∀ {L:List Int},x∈L->wz (fun _=>true) w L=w x+wz (fun _=>true) w (L.erase x):=by
   intro L hx
   induction L with
   | nil=>simp at hx
   | cons y L ih=>
    by_cases e:y=x
    ·subst e;rw[List.erase_cons_head];simp only[wz,if_true]
    ·rw[List.erase_cons_tail (by simpa using e)]
     simp only[wz,if_true]
     rw[ih ((List.mem_cons.1 hx).resolve_left fun q=>e q.symm)];omega
  rw[key hx]
  simp only[wz,if_true]
  have:=Kb (K:=K) (L:=L.erase x) hn.2 (fun y hy=>(List.mem_erase_of_ne fun e=>hn.1 (by rw[<- e];exact hy)).2 (hs y (List.mem_cons_of_mem _ hy))) fun y hy=>h y (List.mem_of_mem_erase hy)
  omega
def pK(p:Rc->Bool)(H:List Rc):List Int:=(H.filter p).map fun r=>r.ev.yd
theorem dg{sent:List qZ}{p:Rc->Bool}:∀ {H:List Rc},wz p (qT sent) H=wz (fun _=>true) (fun i=>(nth sent i).yo) (pK p H)
 | []=>rfl
 | r::H=>by
  unfold pK
  rw[wz,List.filter_cons,dg]
  by_cases h:p r=true
  ·rw[if_pos h,if_pos h];simp only[List.map_cons,wz,if_true];rfl
  ·rw[if_neg h,if_neg h,Int.zero_add];rfl
theorem nS{p:Rc->Bool}{i:Int}:i∈pK p H↔∃ r∈H,p r=true/\r.ev.yd=i:=by
 unfold pK;simp only[List.mem_map,List.mem_filter]
 exact⟨fun⟨r,⟨a,b⟩,e⟩=>⟨r,a,b,e⟩,fun⟨r,a,b,e⟩=>⟨r,⟨a,b⟩,e⟩⟩
theorem Mh{B w lo:Int}(hB:1<=B){l:List Int}(h:l.Pairwise fun a b=>a+B<=b\/b+B<=a)(hl:∀ x∈l,lo<=x/\x<=lo+w)(hw:0<=w):(l.length:Int)<=w / B+1:=by
 have AF:0<=w / B:=Int.ediv_nonneg hw (by omega)
 have hn:(l.map fun x=>(x-lo) / B).Nodup:=by
  rw[List.nodup_iff_pairwise_ne,List.pairwise_map]
  refine h.imp fun {a b} zT e=>?_
  have h1:=Int.emod_add_mul_ediv (a-lo) B;have h2:=Int.emod_add_mul_ediv (b-lo) B
  have h3:=Int.emod_nonneg (a-lo) (show B≠0 by omega);have h4:=Int.emod_lt_of_pos (a-lo) (show 0<B by omega)
  have h5:=Int.emod_nonneg (b-lo) (show B≠0 by omega);have h6:=Int.emod_lt_of_pos (b-lo) (show 0<B by omega)
  rw[e] at h1
  omega
 have:=Yi _ ((List.range (w / B+1).toNat).map fun(i:Nat)=>(i:Int)) hn fun y hy=>by
  obtain⟨x,hx,rfl⟩:=List.mem_map.1 hy
  obtain⟨a,b⟩:=hl x hx
  have e0:0<=(x-lo) / B:=Int.ediv_nonneg (by omega) (by omega)
  have e1:(x-lo) / B<=w / B:=Int.ediv_le_ediv (by omega) (by omega)
  exact List.mem_map.2 ⟨((x-lo) / B).toNat,List.mem_range.2 (by omega),by omega⟩
 rw[List.length_map,List.length_map,List.length_range] at this
 omega
theorem WR{w:Int->Int}{M:Int}:∀ {K:List Int},(∀ x∈K,w x<=M)->wz (fun _=>true) w K<=M*K.length
 | [],_=>by simp[wz]
 | x::K,h=>by
  have ih:=WR (K:=K) fun y hy=>h y (List.mem_cons_of_mem _ hy)
  have:=h x (by simp)
  simp only[wz,if_true,List.length_cons]
  have e:M*((K.length+1:Nat):Int)=M*K.length+M:=by push_cast;rw[Int.mul_add];omega
  omega
theorem Yk{α β:Type}[DecidableEq β]{f:α->Int}{p:α->Bool}{key:α->β}:∀ {H:List α} {X:List β},X.Nodup->(∀ r∈H,p r=true->key r∈X)->wz p f H=wz (fun _=>true) (fun x=>wz (fun r=>p r&&decide (key r=x)) f H) X
 | [],X,_,_=>by
  have:∀ X:List β,wz (fun _=>true) (fun x=>wz (fun r=>p r&&decide (key r=x)) f ([]:List α)) X=0:=by
   intro X;induction X with
   | nil=>rfl
   | cons x X ih=>simp only[wz,if_true] at ih ⊢;rw[ih];rfl
  rw[this];rfl
 | r::H,X,hn,hk=>by
  have ih:=Yk (H:=H) (f:=f) hn fun x hx=>hk x (List.mem_cons_of_mem _ hx)
  have one:∀ X:List β,X.Nodup->wz (fun _=>true) (fun x=>wz (fun r=>p r&&decide (key r=x)) f (r::H)) X=(if p r=true/\key r∈X then f r else 0)+wz (fun _=>true) (fun x=>wz (fun r=>p r&&decide (key r=x)) f H) X:=by
   intro X hn
   induction X with
   | nil=>simp[wz]
   | cons x X ihx=>
    have hn:=List.nodup_cons.1 hn
    have:=ihx hn.2
    simp only[wz,if_true] at this ⊢
    rw[this]
    by_cases hp:p r=true
    ·by_cases e:key r=x
     ·rw[if_pos (by simp[hp,e]),if_neg (by rintro⟨_,h⟩;exact hn.1 (e▸h)),if_pos ⟨hp,by rw[e];simp⟩];omega
     ·rw[if_neg (by simp[hp,e])]
      by_cases h2:key r∈X
      ·rw[if_pos ⟨hp,h2⟩,if_pos ⟨hp,List.mem_cons_of_mem _ h2⟩];omega
      ·rw[if_neg (fun h=>h2 h.2),if_neg]
       ·omega
       ·rintro⟨_,h⟩;rcases List.mem_cons.1 h with h | h
        ·exact e h
        ·exact h2 h
    ·rw[if_neg (by simp[hp]),if_neg (fun h=>hp h.1),if_neg (fun h=>hp h.1)];omega
  rw[one X hn,wz,ih]
  by_cases hp:p r=true
  ·rw[if_pos hp,if_pos ⟨hp,hk r (by simp) hp⟩]
  ·rw[if_neg hp,if_neg fun h=>hp h.1]
section
variable {c:Cf} {net:Int} {rs:List (List Hop)} {sent:List qZ}
theorem Gh(g:Sg c net rs sent)(h:JV c net rs sent S H){k:Ex}{p:Rc->Bool}(hp:∀ r∈H,p r=true->wi r.ev.yg=k):(pK p H).Nodup:=by
 have BB:=(List.nodup_append.1 h.iv.nd).1
 rw[List.nodup_iff_pairwise_ne,List.pairwise_map] at BB
 unfold pK
 rw[List.nodup_iff_pairwise_ne,List.pairwise_map,List.pairwise_filter]
 refine BB.imp_of_mem ?_
 intro a b ha hb zT pa pb e
 have ka:=h.ok a ha;have kb:=h.ok b hb
 have e1:=hp a ha pa;have e2:=hp b hb pb
 have e3:a.ev.yg.fQ=b.ev.yg.fQ:=by
  have:=e1.trans e2.symm
  unfold wi at this;injection this
 have e4:a.ev.yg=b.ev.yg:=(g.route ka.s).link_inj ka.h (by rw[e];exact kb.h) e3
 exact zT (by unfold Rc.id qL;rw[e,e4])
theorem Yl(g:Sg c net rs sent)(h:JV c net rs sent S H){r:Rc}(hr:r∈H):
  (r.ev.yg.ya=root rs sent r.ev.yd/\r.ev.yc=(nth sent r.ev.yd).yc)\/∃ r'∈H,r'.ev.yd=r.ev.yd/\r'.ev.yg.fX=r.ev.yg.ya/\r'.out=some r.ev.yc:=by
 rcases h.src r.ev (.inr ⟨r,hr,rfl⟩) with a | a
 ·exact .inl ⟨a.1,a.2.1⟩
 ·exact .inr a
theorem GX(g:Sg c net rs sent)(h:JV c net rs sent S H)(sv:pJ c sent H)(k:Ex):PH c sent k H:=by
 refine⟨sv,h.ord.imp fun h=>nR h.1,fun r hr=>?_,fun r hr=>(h.ok r hr).t⟩
 have:=(h.ok r hr).s
 exact(g.fr.each _ this.1 this.2).2.2.2.2.1
end
end
section
variable {rs:List (List Hop)}{p:Pl}{L:Int}{D:Pl->Int}
def Kc(rs:List (List Hop))(p:Pl)(L:Int)(n:Nat):List Int:=(ki 0 n).filter fun v=>ru p (nth rs v)&&decide (lz (nth rs v) p=L)
theorem Vt{v:Int}{n:Nat}:v∈Kc rs p L n↔0<=v/\v<n/\ru p (nth rs v)=true/\lz (nth rs v) p=L:=by
 unfold Kc
 rw[List.mem_filter,ub,Bool.and_eq_true,decide_eq_true_eq]
 constructor
 ·rintro⟨⟨a,b⟩,d,e⟩;exact⟨a,by omega,d,e⟩
 ·rintro⟨a,b,d,e⟩;exact⟨⟨a,by omega⟩,d,e⟩
theorem Gi{c:Cf}(L:Int):((fws c rs D p).filter fun x=>decide (x.k=L))=(Kc rs p L rs.length).map (lY c rs D p):=by
 unfold fws vls Kc
 rw[List.filter_map,List.filter_filter]
 congr 1
 refine List.filter_congr fun v _=>?_
 show(decide (lz (nth rs v) p=L)&&ru p (nth rs v))=_
 rw[Bool.and_comm]
theorem Uf{c:Cf}{x:Int}:o8 c (fws c rs D p) x L=mq ((Kc rs p L rs.length).map fun v=>ly c (lY c rs D p v) x):=by
 unfold o8;rw[Gi,List.map_map];rfl
theorem Ug{c:Cf}:o9 c (fws c rs D p) L=o7 ((Kc rs p L rs.length).map fun v=>mx c v):=by
 unfold o9;rw[Gi,List.map_map];rfl
end
section
variable {S:St}{H:List Rc}
structure CF (c:Cf) (sent:List qZ):Prop where
 ap:∀ i j:Int,0<=i->i<j->j<sent.length->(nth sent i).yt=(nth sent j).yt->(nth sent i).yc+pH c (nth sent i).yt<=(nth sent j).yc
 sz:∀ i:Int,0<=i->i<sent.length->(nth sent i).yo<=mx c (nth sent i).yt
theorem oI(c:Cf)(k:Ex):(qH c k).yk.yl=qN c k.ya:=by
 unfold qH qN;simp only
 by_cases h:nM c<=k.ya
 ·rw[if_pos h,if_pos (by omega)];rfl
 ·rw[if_neg h,if_neg (by omega)]
theorem pL(c:Cf)(k:Ex):(qH c k).yk.yp=wy c k.fQ:=rfl
def l9(c:Cf)(r:List Hop)(n:Int):Int := - jn c (fun _=>0) r n
theorem XR{α:Type}{p:α->Bool}{f:α->Int}:∀(a b:List α),wz p f (a++b)=wz p f a+wz p f b
 | [],b=>by simp[wz]
 | x::a,b=>by simp only[List.cons_append,wz,XR a b];omega
theorem iL{α:Type}(f:α->Int):∀ l:List α,wz (fun _=>true) f l=mq (l.map f)
 | []=>rfl
 | x::l=>by simp only[wz,if_true,List.map_cons,mq,iL f l]
section
variable {c:Cf} {net:Int} {rs:List (List Hop)} {sent:List qZ}
def Dl(D:Pl->Int)(H:List Rc)(q:Pl):Prop:=∀ r∈H,pk r.ev.yg=q->∀ t,r.out=some t->t<=r.ev.yc+D q
theorem Kd(g:Sg c net rs sent)(h:JV c net rs sent S H){D:Pl->Int}{l1 l2:List Pl}{p:Pl}(ho:qx rs (l1++p::l2))(hD:∀ q∈l1,Dl D H q){i:Int}(hi:0<=i/\i<(sent.length:Int)):
  ∀ x∈route rs sent i,(pk x∈l1\/pk x=p)->∀ r∈H,r.ev.yd=i->r.ev.yg=x->(nth sent i).yc+l9 c (route rs sent i) x.ya<=r.ev.yc/\r.ev.yc<=(nth sent i).yc+l9 c (route rs sent i) x.ya+jn c D (route rs sent i) x.ya:=by
 have hr:=g.route hi
 have zt:route rs sent i∈rs:=ws (g.vl hi).1 (g.vl hi).2
 refine hr.ind (P:=fun x=>(pk x∈l1\/pk x=p)->∀ r∈H,r.ev.yd=i->r.ev.yg=x->(nth sent i).yc+l9 c (route rs sent i) x.ya<=r.ev.yc/\r.ev.yc<=(nth sent i).yc+l9 c (route rs sent i) x.ya+jn c D (route rs sent i) x.ya) (fun x hx e _ r hrH er eh=>?_) (fun y hy x hx e ih hp r hrH er eh=>?_)
 ·subst eh
  unfold l9
  rw[e,hr.jn_start,hr.jn_start]
  rcases Yl g h hrH with⟨_,a⟩ | ⟨r',hr',e1,e2,e3⟩
  ·rw[er] at a;omega
  ·have:=(h.ok r' hr').h
   rw[e1,er] at this
   exact absurd (e2.trans e) (hr.start _ this)
 ·subst eh
  have hq:=ho.clo g.va zt hx hp hy e
  rcases Yl g h hrH with⟨a,_⟩ | ⟨r',hr',e1,e2,e3⟩
  ·rw[er] at a;exact absurd (e.trans a) (hr.start _ hy)
  ·have hm:=(h.ok r' hr').h
   rw[e1,er] at hm
   have eh:r'.ev.yg=y:=hr.uniq hm hy (e2.trans e.symm)
   obtain⟨i1,i2⟩:=ih (.inl hq) r' hr' (e1.trans er) eh
   have d1:=hD _ hq r' hr' (by rw[eh]) _ e3
   have d2:=(h.out r' hr' _ e3).1
   have hc:qN c y.ya+wy c y.fQ<=dC c sent r'.ev.yd r'.ev.yg:=by
    unfold dC
    rw[oI,pL,e1,er,eh]
    have hs:=hr.hop g.small hy
    have h1:=(g.fr.each i hi.1 hi.2).2.2.2.2.1
    have:=Int.mul_le_mul_of_nonneg_right h1 (show 0<=wy c y.fQ by have:=hs.s0;omega)
    show qN c y.ya+_<=qN c y.ya+_*wy c y.fQ
    omega
   have j1:=hr.jn_next D hy
   have j2:=hr.jn_next (fun _=>0) hy
   unfold l9 at *
   rw[<- e,j1,j2]
   omega
def put(k:Ex)(s t:Int)(r:Rc):Bool:=decide (wi r.ev.yg=k)&&decide (s<=r.ev.yc)&&decide (r.ev.yc<=s+t)
theorem tC{k:Ex}{s t:Int}{r:Rc}:put k s t r=true↔wi r.ev.yg=k/\s<=r.ev.yc/\r.ev.yc<=s+t:=by
 unfold put;simp[and_assoc]
def vlR(sent:List qZ)(r:Rc):Int:=(nth sent r.ev.yd).yt
def Qf(rs:List (List Hop))(sent:List qZ)(p:Pl)(r:Rc):Int:=lz (route rs sent r.ev.yd) p
theorem Ke(g:Sg c net rs sent)(h:JV c net rs sent S H){r:Rc}(hr:r∈H):1<=qT sent r/\qT sent r<=72:=by
 have:=(h.ok r hr).s
 have:=(g.fr.each _ this.1 this.2).2.2.2.2
 exact⟨this.1,this.2.1⟩
theorem TN(g:Sg c net rs sent)(hV:mm c)(hC:CF c sent)(h:JV c net rs sent S H){D:Pl->Int}{l1 l2:List Pl}{p:Pl}(ho:qx rs (l1++p::l2))(hD:∀ q∈l1,Dl D H q){s t v:Int}(t0:0<=t)(v0:0<=v)(v1:v<rs.length)(hj:0<=jn c D (nth rs v) p.ya){q:Rc->Bool}(hq:∀ r∈H,q r=true->put p s t r=true/\vlR sent r=v):wz q (qT sent) H<=ly c (lY c rs D p v) t:=by
 obtain⟨m0,m1,b0,b1⟩:=hV.mx v0 (by have:=g.va.len;omega)
 rw[dg]
 have hn:(pK q H).Nodup:=Gh g h (k:=p) fun r hr e=>(tC.1 (hq r hr e).1).1
 have qm:∀ i∈pK q H,(0<=i/\i<(sent.length:Int))/\(nth sent i).yt=v/\s-l9 c (nth rs v) p.ya-jn c D (nth rs v) p.ya<=(nth sent i).yc/\(nth sent i).yc<=s-l9 c (nth rs v) p.ya+t:=by
  intro i hi
  obtain⟨r,hr,hqr,rfl⟩:=nS.1 hi
  obtain⟨h1,h2⟩:=hq r hr hqr
  obtain⟨e1,e2,e3⟩:=tC.1 h1
  have hs:=(h.ok r hr).s
  have DY:route rs sent r.ev.yd=nth rs v:=by unfold route;unfold vlR at h2;rw[h2]
  have hh:=Kd g h ho hD hs r.ev.yg (h.ok r hr).h (.inr e1) r hr rfl rfl
  have en:r.ev.yg.ya=p.ya:=by rw[<- e1];rfl
  rw[DY,en] at hh
  exact⟨hs,h2,by omega,by omega⟩
 have hb:wz (fun _=>true) (fun i=>(nth sent i).yo) (pK q H)<=mx c v*(pK q H).length:=WR fun i hi=>by
  obtain⟨a,b,_⟩:=qm i hi
  have:=hC.sz i a.1 a.2
  rwa [b] at this
 have hl:((pK q H).length:Int)<=(t+jn c D (nth rs v) p.ya) / pH c v+1:=by
  have:=Mh (B:=pH c v) (w:=t+jn c D (nth rs v) p.ya) (lo:=s-l9 c (nth rs v) p.ya-jn c D (nth rs v) p.ya) (l:=(pK q H).map fun i=>(nth sent i).yc) (by omega) ?_ ?_ (by omega)
  ·rw[List.length_map] at this;exact this
  ·rw[List.pairwise_map]
   rw[List.nodup_iff_pairwise_ne] at hn
   refine hn.imp_of_mem fun {i j} hi hj hij=>?_
   obtain⟨a,b,_⟩:=qm i hi
   obtain⟨a',b',_⟩:=qm j hj
   rcases Int.lt_or_gt_of_ne hij with q | q
   ·have:=hC.ap i j a.1 q a'.2 (b.trans b'.symm);rw[b] at this;exact .inl this
   ·have:=hC.ap j i a'.1 q a.2 (b'.trans b.symm);rw[b'] at this;exact .inr this
  ·intro x hx
   obtain⟨i,hi,rfl⟩:=List.mem_map.1 hx
   obtain⟨_,_,c1,c2⟩:=qm i hi
   omega
 have:=Int.mul_le_mul_of_nonneg_left hl (show 0<=mx c v by omega)
 show _<=mx c v*((t+jn c D (nth rs v) p.ya) / pH c v+1)
 omega
end
end
section
variable {S:St}{H:List Rc}{D:Pl->Int}{p:Pl}{t:Int}
section
variable {c:Cf} {net:Int} {rs:List (List Hop)} {sent:List qZ}
theorem Ti(g:Sg c net rs sent)(hV:mm c)(hC:CF c sent)(h:JV c net rs sent S H){l1 l2:List Pl}(ho:qx rs (l1++p::l2))(hD:∀ q∈l1,Dl D H q){s L:Int}(t0:0<=t)(hj:∀ v:Int,0<=v->v<rs.length->ru p (nth rs v)=true->0<=jn c D (nth rs v) p.ya):
  wz (fun r=>put p s t r&&decide (Qf rs sent p r=L)) (qT sent) H<=o8 c (fws c rs D p) t L:=by
 rw[Uf,<- iL]
 rw[Yk (key:=vlR sent) (X:=Kc rs p L rs.length) ((cr _ _).sublist List.filter_sublist)]
 ·rw[iL,iL]
  refine cE fun v hv=>?_
  obtain⟨v0,v1,hu,_⟩:=Vt.1 hv
  refine TN (s:=s) g hV hC h ho hD t0 v0 v1 (hj v v0 v1 hu) fun r hr e=>?_
  simp only[Bool.and_eq_true,decide_eq_true_eq] at e
  exact⟨e.1.1,e.2⟩
 ·intro r hr e
  simp only[Bool.and_eq_true,decide_eq_true_eq] at e
  have hs:=(h.ok r hr).s
  have hv:=g.vl hs
  exact Vt.2 ⟨hv.1,hv.2,pI.2 ⟨r.ev.yg,(h.ok r hr).h,(tC.1 e.1).1⟩,e.2⟩
def GY(c:Cf)(L n:Int):Int:=if fB c L=n then fA c L else fB c L
theorem VR.oth{r:List Hop}(h:VR c net r){x:Hop}(hx:x∈r):x.ya=GY c x.fQ x.fX:=by
 have:=h.hv x hx
 unfold Q8 JN at this
 obtain⟨_,_,_,_,_,qA,_,_,ho⟩:=this
 unfold GY
 rcases ho with⟨a,b⟩ | ⟨a,b⟩
 ·rw[if_pos b];exact a.symm
 ·rw[if_neg (by rw[<- a];exact fun e=>qA e.symm)];exact b.symm
def GRr(rs:List (List Hop))(sent:List qZ)(p:Pl)(L:Int)(r:Rc):Bool:=ru p (route rs sent r.ev.yd)&&decide (lz (route rs sent r.ev.yd) p=L)
theorem Mj(g:Sg c net rs sent)(hV:mm c)(hC:CF c sent)(h:JV c net rs sent S H)(sv:pJ c sent H){s L:Int}(t0:0<=t)(hL:0<=L)(hl:FwOK c (fws c rs D p)):
  wz (fun r=>put p s t r&&decide (Qf rs sent p r=L)) (qT sent) H<=o9 c (fws c rs D p) L+t / max 1 (wy c L):=by
 have hw:=nJ hV hl L
 by_cases hex:∃ r∈H,put p s t r=true/\Qf rs sent p r=L
 ·have key:∀ r∈H,put p s t r=true->Qf rs sent p r=L->∃ x∈route rs sent r.ev.yd,x.fX=p.ya/\x.fQ=L/\x.ya=GY c L p.ya/\∃ r'∈H,r'.ev.yd=r.ev.yd/\r'.ev.yg=x/\r'.out=some r.ev.yc:=by
   intro r hr hp hk
   have hs:=(h.ok r hr).s
   have D9:=g.route hs
   obtain⟨e1,_,_⟩:=tC.1 hp
   have en:r.ev.yg.ya=p.ya:=by rw[<- e1];rfl
   unfold Qf lz at hk
   by_cases hi:(gk (route rs sent r.ev.yd) p.ya).2=true
   ·rw[if_pos hi] at hk
    obtain⟨x1,x2⟩:=ew hi
    refine⟨_,x1,x2,hk,?_,?_⟩
    ·have:=D9.oth x1;rw[hk,x2] at this;exact this
    ·rcases Yl g h hr with⟨a,_⟩ | ⟨r',hr',b1,b2,b3⟩
     ·exact absurd (x2.trans (en.symm.trans a)) (D9.start _ x1)
     ·have hm:=(h.ok r' hr').h
      rw[b1] at hm
      exact⟨r',hr',b1,D9.uniq hm x1 (b2.trans (en.trans x2.symm)),b3⟩
   ·rw[if_neg hi] at hk;omega
  obtain⟨r0,hr0,Af,AD⟩:=hex
  obtain⟨x0,hx0,n0,k0,o0,_⟩:=key r0 hr0 Af AD
  have hq0:pk x0=(⟨GY c L p.ya,L⟩:Pl):=by unfold pk;rw[o0,k0]
  have hs0:=(h.ok r0 hr0).s
  have Dm:=bC g (k:=pk x0) ⟨r0.ev.yd,x0,hs0,hx0,rfl⟩
  have zh:=Dm.slow
  have B9:=Dm.delay
  have hslw:(qH c (pk x0)).yk.yp=wy c L:=by rw[pL];unfold pk;rw[k0]
  have CX:=XQ (k:=pk x0) (la:=(qH c (pk x0)).yk.yl) (sl:=wy c L) (s:=s) (wide:=o9 c (fws c rs D p) L) (G:=GRr rs sent p L) rfl hslw B9.1 (by omega) hw.1 (s+t) (GX g h sv _) (fun r hr hg=>by
   unfold GRr at hg
   simp only[Bool.and_eq_true,decide_eq_true_eq] at hg
   have hs:=(h.ok r hr).s
   have hv:=g.vl hs
   rw[Ug]
   exact Int.le_trans (hC.sz _ hs.1 hs.2) (XJ (List.mem_map.2 ⟨_,Vt.2 ⟨hv.1,hv.2,hg.1,hg.2⟩,rfl⟩)))
  have ze:wz (fun r=>put p s t r&&decide (Qf rs sent p r=L)) (qT sent) H<=wz (lw (pk x0) s (s+t) (GRr rs sent p L)) (qT sent) H:=by
   rw[dg,dg]
   refine Kb (Gh g h (k:=p) fun r hr e=>?_) (fun i hi=>?_) fun i hi=>?_
   ·simp only[Bool.and_eq_true,decide_eq_true_eq] at e
    exact(tC.1 e.1).1
   ·obtain⟨r,hr,e,rfl⟩:=nS.1 hi
    simp only[Bool.and_eq_true,decide_eq_true_eq] at e
    obtain⟨x,hx,n1,k1,o1,r',hr',b1,b2,b3⟩:=key r hr e.1 e.2
    obtain⟨_,p1,p2⟩:=tC.1 e.1
    refine nS.2 ⟨r',hr',?_,b1⟩
    unfold lw GRr
    rw[b1,b3]
    simp only[Bool.and_eq_true,decide_eq_true_eq,Option.getD_some]
    refine⟨⟨⟨mJ.2 ⟨?_,_,b3⟩,p1⟩,p2⟩,pI.2 ⟨_,(h.ok r hr).h,(tC.1 e.1).1⟩,e.2⟩
    rw[b2,hq0];unfold wi;rw[o1,k1]
   ·obtain⟨r,hr,_,rfl⟩:=nS.1 hi
    have:=(Ke g h hr).1
    show 0<=qT sent r
    omega
  rw[show s+t-s=t by omega,show max 0 t=t by omega] at CX
  rw[show max 1 (wy c L)=wy c L by omega]
  have h1:wy c L*(wz (lw (pk x0) s (s+t) (GRr rs sent p L)) (qT sent) H-o9 c (fws c rs D p) L)<=t:=by rw[Int.mul_sub];omega
  have h2:wz (lw (pk x0) s (s+t) (GRr rs sent p L)) (qT sent) H-o9 c (fws c rs D p) L<=t / wy c L:=(Int.le_ediv_iff_mul_le (by omega)).2 (by rw[Int.mul_comm];exact h1)
  omega
 ·rw[db]
  ·have:0<=t / max 1 (wy c L):=Int.ediv_nonneg t0 (by omega)
   omega
  ·intro r hr
   refine Bool.eq_false_iff.2 fun e=>hex ?_
   simp only[Bool.and_eq_true,decide_eq_true_eq] at e
   exact⟨r,hr,e.1,e.2⟩
theorem Gj(g:Sg c net rs sent)(hV:mm c)(hC:CF c sent)(h:JV c net rs sent S H)(sv:pJ c sent H){l1 l2:List Pl}(ho:qx rs (l1++p::l2))(hD:∀ q∈l1,Dl D H q)(hl:FwOK c (fws c rs D p))(s:Int)(t0:0<=t):
  wz (put p s t) (qT sent) H<=mT c (fws c rs D p) t:=by
 unfold mT
 rw[Yk (key:=Qf rs sent p) (X:=Xa c) (cr _ _),iL]
 ·refine cE fun L hL=>?_
  have h1:=Ti g hV hC h ho hD (s:=s) (L:=L) t0 fun v v0 v1 hu=>(hl.j0 (lY c rs D p v) (by
   unfold fws
   exact List.mem_map.2 ⟨v,List.mem_filter.2 ⟨ub.2 ⟨v0,by omega⟩,hu⟩,rfl⟩)).1
  unfold rv
  split
  ·exact h1
  ·exact Int.le_min.2 ⟨h1,Mj g hV hC h sv t0 (by omega) hl⟩
 ·intro r hr e
  have hs:=(h.ok r hr).s
  have hv:=g.vl hs
  have:=Ye g.small g.va p hv.1 hv.2
  exact ub.2 ⟨this.1,by have:=this.2.1;unfold Qf route;push_cast;omega⟩
end
end
section
variable {H:List Rc}{D:Pl->Int}
structure SBd (c:Cf) (rs:List (List Hop)) (D:Pl->Int) (p:Pl) (St:Int):Prop where
 d:∀ t,0<=t->(∀ u,1<=u->u<=t->u<wy c p.fQ*mT c (fws c rs D p) (u-1))->iV (mT c (fws c rs D p)) (wy c p.fQ) (qN c p.ya) t<=D p
 s:∀ t,0<=t->(∀ u,1<=u->u+qN c p.ya<=t->u<wy c p.fQ*mT c (fws c rs D p) (u-1))->oA (mT c (fws c rs D p)) (wy c p.fQ) (qN c p.ya) t+pT c (fws c rs D p)<=St
section
variable {c:Cf} {net:Int} {rs:List (List Hop)} {sent:List qZ}
theorem PH.suffix{k:Ex}:∀ {a b:List Rc},PH c sent k (a++b)->PH c sent k b
 | [],_,h=>h
 | _::a,b,h=>PH.suffix (a:=a) h.tail
theorem GZ(g:Sg c net rs sent)(hV:mm c)(hC:CF c sent){S:St}(h:JV c net rs sent S H)(sv:pJ c sent H){l1 l2:List Pl}{p:Pl}(ho:qx rs (l1++p::l2))(hD:∀ q∈l1,Dl D H q)(hl:FwOK c (fws c rs D p)){St:Int}(hB:SBd c rs D p St):Dl D H p:=by
 intro r hr e t ht
 have hs:=(h.ok r hr).s
 have Dm:=bC g (k:=p) ⟨r.ev.yd,r.ev.yg,hs,(h.ok r hr).h,e⟩
 have zh:=Dm.slow
 have B9:=Dm.delay
 rw[pL] at zh
 rw[oI] at B9
 obtain⟨H1,H2,rfl⟩:=List.append_of_mem hr
 have hph:=GX g h sv p
 have AS:=hph.suffix
 have Av:jg p r=true:=mJ.2 ⟨e,t,ht⟩
 obtain⟨s,⟨x,hx,Ay,Bn⟩,b1,b2⟩:=busy (oI c p) (pL c p) B9.1 zh.1 AS ⟨r,by simp,Av⟩
 rw[sW e ht] at b1
 have DU:=List.pairwise_cons.1 AS.so
 have ze:∀ y∈r::H2,y.ev.yc<=r.ev.yc:=fun y hy=>by
  rcases List.mem_cons.1 hy with rfl | hy
  ·omega
  ·exact DU.1 y hy
 have hz:∀ y∈H1++r::H2,0<=qT sent y:=fun y hy=>by have:=(Ke g h hy).1;omega
 have DZ:∀ q:Rc->Bool,wz q (qT sent) (r::H2)<=wz q (qT sent) (H1++r::H2):=fun q=>by
  rw[XR]
  have:=rN (p:=q) (f:=qT sent) (l:=H1) fun y hy=>hz y (by simp[hy])
  omega
 have hxr:=ze x hx
 have hA:∀(q:Rc->Bool) (u:Int),0<=u->(∀ y∈r::H2,q y=true->put p s u y=true)->wz q (qT sent) (r::H2)<=mT c (fws c rs D p) u:=fun q u hu hq=>
  Int.le_trans (YG (fun y hy=>hz y (by simp at hy;rcases hy with hy | hy <;> simp[hy])) hq) (Int.le_trans (DZ _) (Gj g hV hC h sv ho hD hl s hu))
 have DW:wz (f6 p s) (qT sent) (r::H2)<=mT c (fws c rs D p) (r.ev.yc-s):=hA _ _ (by omega) fun y hy hq=>by
  unfold f6 at hq
  simp only[Bool.and_eq_true,decide_eq_true_eq] at hq
  exact tC.2 ⟨(mJ.1 hq.1).1,hq.2,by have:=ze y hy;omega⟩
 have:=hB.d (r.ev.yc-s) (by omega) fun u u1 ut=>by
  have h2:=b2 r (by simp) Av u u1 (by omega)
  refine Int.lt_of_lt_of_le h2 (Int.mul_le_mul_of_nonneg_left (hA _ _ (by omega) fun y hy hq=>?_) (by omega))
  unfold dc at hq
  simp only[Bool.and_eq_true,decide_eq_true_eq] at hq
  exact tC.2 ⟨(mJ.1 hq.1.1).1,hq.1.2,by omega⟩
 unfold iV at this
 have h3:=Int.mul_le_mul_of_nonneg_left DW (show 0<=wy c p.fQ by omega)
 omega
theorem F0(g:Sg c net rs sent)(hV:mm c)(hC:CF c sent){S:St}(h:JV c net rs sent S H)(sv:pJ c sent H){l1 l2:List Pl}{p:Pl}(ho:qx rs (l1++p::l2))(hD:∀ q∈l1,Dl D H q)(hl:FwOK c (fws c rs D p)){St:Int}(hB:SBd c rs D p St){r:Rc}(hr:r∈H)(e:pk r.ev.yg=p)(hn:r.out=none):(qH c p).yk.fT<St:=by
 have hs:=(h.ok r hr).s
 have Dm:=bC g (k:=p) ⟨r.ev.yd,r.ev.yg,hs,(h.ok r hr).h,e⟩
 have zh:=Dm.slow
 have B9:=Dm.delay
 rw[pL] at zh
 rw[oI] at B9
 obtain⟨H1,H2,rfl⟩:=List.append_of_mem hr
 have hph:=GX g h sv p
 have AS:=hph.suffix
 have DU:=List.pairwise_cons.1 AS.so
 have n8:(qH c p).yk.fT<vw sent p r.ev.yc H2+qT sent r:=by
  have:=AS.sv.2.2 hn
  have e2:wi r.ev.yg=p:=e
  rw[e2] at this
  omega
 refine Int.lt_of_lt_of_le n8 ?_
 have ze:∀ y∈r::H2,y.ev.yc<=r.ev.yc:=fun y hy=>by
  rcases List.mem_cons.1 hy with rfl | hy
  ·omega
  ·exact DU.1 y hy
 have hz:∀ y∈H1++r::H2,0<=qT sent y:=fun y hy=>by have:=(Ke g h hy).1;omega
 have DZ:∀ q:Rc->Bool,wz q (qT sent) (r::H2)<=wz q (qT sent) (H1++r::H2):=fun q=>by
  rw[XR]
  have:=rN (p:=q) (f:=qT sent) (l:=H1) fun y hy=>hz y (by simp[hy])
  omega
 have hA:∀(s:Int) (q:Rc->Bool) (u:Int),0<=u->(∀ y∈r::H2,q y=true->put p s u y=true)->wz q (qT sent) (r::H2)<=mT c (fws c rs D p) u:=fun s q u hu hq=>
  Int.le_trans (YG (fun y hy=>hz y (by simp at hy;rcases hy with hy | hy <;> simp[hy])) hq) (Int.le_trans (DZ _) (Gj g hV hC h sv ho hD hl s hu))
 have C9:∀ y∈H1++r::H2,wi y.ev.yg=p->qT sent y<=pT c (fws c rs D p):=fun y hy ey=>by
  have hys:=(h.ok y hy).s
  have hv:=g.vl hys
  refine Int.le_trans (hC.sz _ hys.1 hys.2) (XJ (List.mem_map.2 ⟨lY c rs D p (nth sent y.ev.yd).yt,?_,rfl⟩))
  unfold fws
  exact List.mem_map.2 ⟨_,List.mem_filter.2 ⟨ub.2 ⟨hv.1,by omega⟩,pI.2 ⟨_,(h.ok y hy).h,ey⟩⟩,rfl⟩
 have hm0:0<=pT c (fws c rs D p):=ib _
 have hq0:∀(a b:Int),0<=b->1<=a->0<=(b+a-1) / a:=fun a b hb ha=>Int.ediv_nonneg (by omega) (by omega)
 have hse:∀ s,wz (f6 p s) (qT sent) H2+(if s<=r.ev.yc then qT sent r else 0)<=mT c (fws c rs D p) (max 0 (r.ev.yc-s)):=fun s=>by
  refine Int.le_trans ?_ (hA s (fun y=>f6 p s y||(decide (wi y.ev.yg=p)&&decide (s<=y.ev.yc)&&decide (y.ev.yc<=r.ev.yc))) _ (by omega) fun y hy hq=>?_)
  ·rw[wz]
   have h1:=YG (p:=f6 p s) (q:=fun y=>f6 p s y||(decide (wi y.ev.yg=p)&&decide (s<=y.ev.yc)&&decide (y.ev.yc<=r.ev.yc))) (f:=qT sent) (l:=H2) (fun y hy=>hz y (by simp[hy])) fun y hy hq=>by rw[hq];rfl
   have e2:wi r.ev.yg=p:=e
   have hzr:=hz r (by simp)
   by_cases hsr:s<=r.ev.yc
   ·rw[if_pos hsr,if_pos (by simp[e2,hsr])];omega
   ·rw[if_neg hsr];split <;> omega
  ·have hy2:=ze y hy
   simp only[Bool.or_eq_true,Bool.and_eq_true,decide_eq_true_eq] at hq
   rcases hq with hq | hq
   ·unfold f6 at hq
    simp only[Bool.and_eq_true,decide_eq_true_eq] at hq
    exact tC.2 ⟨(mJ.1 hq.1).1,hq.2,by omega⟩
   ·exact tC.2 ⟨hq.1.1,hq.1.2,by omega⟩
 rcases Yj (most:=pT c (fws c rs D p)) (τ:=r.ev.yc) (oI c p) (pL c p) B9.1 zh.1 (hph.t0 r (by simp)) AS.tail (fun y hy ha=>C9 y (by simp[hy]) (mJ.1 ha).1) with CY | ⟨s,X,⟨x,hx,Ay,Bn⟩,s1,s2,s3,s4⟩
 ·rw[df (oI c p) (pL c p) B9.1 zh.1 AS.tail CY]
  have h1:=hse r.ev.yc
  rw[if_pos (Int.le_refl _),show max 0 (r.ev.yc-r.ev.yc)=0 by omega] at h1
  have h0:0<=wz (f6 p r.ev.yc) (qT sent) H2:=rN fun y hy=>hz y (by simp[hy])
  have h2:=hB.s 0 (by omega) fun u u1 ut=>by omega
  unfold oA at h2
  rw[show max (0-qN c p.ya) 0+wy c p.fQ-1=wy c p.fQ-1 by omega,Int.ediv_eq_zero_of_lt (by omega) (by omega)] at h2
  omega
 ·have hxr:=DU.1 x hx
  have h1:=hse s
  rw[if_pos (by omega),show max 0 (r.ev.yc-s)=r.ev.yc-s by omega] at h1
  have h2:=hB.s (r.ev.yc-s) (by omega) fun u u1 ut=>by
   refine Int.lt_of_lt_of_le (s4 u u1 (by omega)) (Int.mul_le_mul_of_nonneg_left ?_ (by omega))
   have hw:wz (dc p s u) (qT sent) H2<=wz (dc p s u) (qT sent) (r::H2):=by
    have:=hz r (by simp)
    rw[wz];split <;> omega
   refine Int.le_trans hw (hA s _ _ (by omega) fun y hy hq=>?_)
   unfold dc at hq
   simp only[Bool.and_eq_true,decide_eq_true_eq] at hq
   exact tC.2 ⟨(mJ.1 hq.1.1).1,hq.1.2,by omega⟩
  unfold oA at h2
  have h3:(max (r.ev.yc-s-qN c p.ya) 0+wy c p.fQ-1) / wy c p.fQ<=X:=by
   refine Int.le_of_lt_add_one ((Int.ediv_lt_iff_lt_mul (by omega)).2 ?_)
   have e1:(X+1)*wy c p.fQ=wy c p.fQ*X+wy c p.fQ:=by rw[Int.add_mul,Int.mul_comm];omega
   have e2:0<=wy c p.fQ*X:=Int.mul_nonneg (by omega) s2
   omega
  omega
theorem Ym(g:Sg c net rs sent)(hV:mm c)(hC:CF c sent){S:St}(h:JV c net rs sent S H)(sv:pJ c sent H){St:Pl->Int}{l:List Pl}(hp:l.Perm (PS rs))(ho:qx rs l)(hl:∀ p∈PS rs,FwOK c (fws c rs D p))(hB:∀ p∈PS rs,SBd c rs D p (St p)):
  (∀ r∈H,∀ t,r.out=some t->t<=r.ev.yc+D (pk r.ev.yg))/\∀ r∈H,r.out=none->(qH c (pk r.ev.yg)).yk.fT<St (pk r.ev.yg):=by
 have key:∀(n:Nat) (l1 l2:List Pl),l1.length=n->l=l1++l2->∀ q∈l1,Dl D H q:=by
  intro n
  induction n with
  | zero=>intro l1 l2 hn _ q hq;rw[List.length_eq_zero_iff.1 hn] at hq;cases hq
  | succ n ih=>
   intro l1 l2 hn e q hq
   have qA:l1≠[]:=by rintro rfl;cases hn
   have e0:=List.dropLast_concat_getLast qA
   generalize l1.dropLast=l0 at e0
   generalize l1.getLast qA=p at e0
   subst e0
   rw[List.length_append,List.length_singleton] at hn
   have e1:l=l0++p::l2:=by rw[e];simp
   have ih0:=ih l0 (p::l2) (by omega) e1
   rcases List.mem_append.1 hq with hq | hq
   ·exact ih0 q hq
   ·rw[List.mem_singleton.1 hq]
    have DT:p∈PS rs:=hp.mem_iff.1 (by rw[e1];simp)
    exact GZ g hV hC h sv (e1▸ho) ih0 (hl p DT) (hB p DT)
 have qm:∀ r∈H,pk r.ev.yg∈PS rs:=fun r hr=>by
  have hs:=(h.ok r hr).s
  have hv:=g.vl hs
  exact(sH rs).2 ⟨_,ws hv.1 hv.2,_,(h.ok r hr).h,rfl⟩
 refine⟨fun r hr t ht=>key _ l [] rfl (by simp) _ (hp.mem_iff.2 (qm r hr)) r hr rfl t ht,fun r hr hn=>?_⟩
 obtain⟨l1,l2,e⟩:=List.append_of_mem (hp.mem_iff.2 (qm r hr))
 exact F0 g hV hC h sv (e▸ho) (key _ l1 _ rfl e) (hl _ (qm r hr)) (hB _ (qm r hr)) hr rfl hn
end
end
section
def iM(c:Cf)(D:Pl->Int)(r:List Hop)(n:Int):Int:=l9 c r n+jn c D r n
theorem Mk{c:Cf}{net:Int}{r:List Hop}(h:VR c net r)(D:Pl->Int):iM c D r (nth r 0).ya=0:=by
 unfold iM l9;rw[h.jn_start,h.jn_start];rfl
theorem Kf{c:Cf}{net:Int}{r:List Hop}(h:VR c net r)(D:Pl->Int){g:Hop}(hg:g∈r):iM c D r g.fX=iM c D r g.ya+D (pk g):=by
 unfold iM l9;rw[h.jn_next D hg,h.jn_next (fun _=>0) hg];omega
structure EV (c:Cf) (D:Pl->Int) (r:List Hop) (v:Int) (m:Nat) (s:ES):Prop where
 h:∀ n,wS s.sum n=true↔∃ q:Int,0<=q/\q<m/\(nth r q).fX=n
 g:∀ n,RK r m n->xK s.sum n 0=iM c D r n
 e:∀ q:Int,0<=q->q<m->0<=(nth r q).fX->(nth r q).fX<nM c->∃ e∈s.ends,e.yt=v/\e.ya=(nth r q).fX/\e.yl=iM c D r (nth r q).fX
theorem EV.all{c:Cf}{net:Int}{rs:List (List Hop)}(hS:Small c)(hv:VA c net rs){D:Pl->Int}{de:DM}{r:List Hop}(hr:r∈rs)(Ej:∀ h∈r,xK de (pk h) 0=D (pk h))(hD:∀ h∈r,-1073741824<=D (pk h)/\D (pk h)<=1073741824)(v:Int):∀ m:Nat,m<=r.length->EV c D r v m ((r.take m).foldl (pG c r de v) ⟨[],[]⟩)
 | 0,_=>by
  have Ax:=hv.each r hr
  refine⟨fun n=>?_,fun n hn=>?_,fun q q0 q1=>by omega⟩
  ·simp only[List.take_zero,List.foldl_nil,wS]
   exact⟨fun h=>by simp at h,fun⟨q,q0,q1,_⟩=>by omega⟩
  ·rcases hn with rfl | ⟨q,q0,q1,_⟩
   ·rw[Mk Ax];rfl
   ·omega
 | m+1,hm=>by
  have Ax:=hv.each r hr
  have ih:=EV.all hS hv hr Ej hD v m (by omega)
  have e1:r.take (m+1)=r.take m++[nth r m]:=by
   rw[List.take_succ_eq_append_getElem (by omega),j6 (i:=(m:Int)) ⟨by omega,by omega⟩];simp
  rw[e1,List.foldl_append]
  generalize (r.take m).foldl (pG c r de v) ⟨[],[]⟩=s at ih
  simp only[List.foldl_cons,List.foldl_nil]
  obtain⟨h1,h2,_,_⟩:=Ax.cond (m:Int) (by omega) (by omega)
  have qm:nth r (m:Int)∈r:=ws (by omega) (by omega)
  have z7:wS s.sum (nth r (m:Int)).fX=false:=by
   refine Bool.eq_false_iff.2 fun hc=>h2 (.inr ?_)
   exact(ih.h _).1 hc
  have zr:(nth r (m:Int)).fX≠(nth r 0).ya:=fun e=>h2 (.inl e)
  have hb1:=nO (c:=c) (D:=D) hS hv (M:=1073741824) hr hD (nth r (m:Int)).ya
  have CI:=nO (c:=c) (D:=fun _=>0) hS hv (M:=0) hr (fun _ _=>by omega) (nth r (m:Int)).ya
  have hd:=hD _ qm
  have hn:=Kf Ax D qm
  have Aj:i64 (xK s.sum (nth r (m:Int)).ya 0+xK de (pk (nth r (m:Int))) 0)=iM c D r (nth r (m:Int)).fX:=by
   rw[ih.g _ h1,Ej _ qm,hn,xS]
   unfold iM l9;omega
  unfold pG
  rw[if_neg (by simp[z7,zr]),Aj]
  refine⟨fun n=>?_,fun n hk=>?_,fun q q0 q1 n0 n1=>?_⟩
  ·simp only
   rw[bc,Bool.or_eq_true,decide_eq_true_eq,ih.h]
   constructor
   ·rintro(e | ⟨q,q0,q1,e⟩)
    ·exact⟨m,by omega,by omega,e.symm⟩
    ·exact⟨q,q0,by omega,e⟩
   ·rintro⟨q,q0,q1,e⟩
    by_cases hq:q=m
    ·subst hq;exact .inl e.symm
    ·exact .inr ⟨q,q0,by omega,e⟩
  ·simp only
   rw[gG]
   split
   ·rename_i e;rw[e]
   ·rename_i e
    refine ih.g n ?_
    rcases hk with hk | ⟨q,q0,q1,hk⟩
    ·exact .inl hk
    ·refine .inr ⟨q,q0,?_,hk⟩
     by_cases hq:q=m
     ·subst hq;exact absurd hk.symm e
     ·omega
  ·simp only
   by_cases hq:q=m
   ·subst hq
    rw[if_pos ⟨n0,n1⟩,gG,if_pos rfl]
    exact⟨_,List.mem_append_right _ (List.mem_singleton.2 rfl),rfl,rfl,rfl⟩
   ·obtain⟨e,he,e1,e2,e3⟩:=ih.e q q0 (by omega) n0 n1
    refine⟨e,?_,e1,e2,e3⟩
    split
    ·exact List.mem_append_left _ he
    ·exact he
theorem TO{c:Cf}{net:Int}{rs:List (List Hop)}(hS:Small c)(hv:VA c net rs){D:Pl->Int}{de:DM}{v:Int}(v0:0<=v)(v1:v<rs.length)(Ej:∀ h∈nth rs v,xK de (pk h) 0=D (pk h))(hD:∀ h∈nth rs v,-1073741824<=D (pk h)/\D (pk h)<=1073741824){g:Hop}(hg:g∈nth rs v)(n0:0<=g.fX)(n1:g.fX<nM c):
  ∃ e∈VE c rs de v,e.yt=v/\e.ya=g.fX/\e.yl=iM c D (nth rs v) g.ya+D (pk g):=by
 obtain⟨q,q0,q1,rfl⟩:=rL hg
 obtain⟨e,he,e1,e2,e3⟩:=(EV.all hS hv (ws v0 v1) Ej hD v _ (Nat.le_refl _)).e q q0 q1 n0 n1
 rw[List.take_length] at he
 exact⟨e,he,e1,e2,e3.trans (Kf (hv.each _ (ws v0 v1)) D (ws q0 q1))⟩
section
variable {c:Cf} {net:Int} {rs:List (List Hop)} {sent:List qZ}
theorem Uh(g:Sg c net rs sent)(hV:mm c)(hC:CF c sent){S:St}{H:List Rc}(h:JV c net rs sent S H)(sv:pJ c sent H){D:Pl->Int}{St:Pl->Int}{l:List Pl}(hp:l.Perm (PS rs))(ho:qx rs l)(hl:∀ p∈PS rs,FwOK c (fws c rs D p))(hB:∀ p∈PS rs,SBd c rs D p (St p)){r:Rc}(hr:r∈H){t:Int}(ht:r.out=some t):
  t<=(nth sent r.ev.yd).yc+(iM c D (route rs sent r.ev.yd) r.ev.yg.ya+D (pk r.ev.yg)):=by
 obtain⟨h1,_⟩:=Ym g hV hC h sv hp ho hl hB
 have hs:=(h.ok r hr).s
 have hv:=g.vl hs
 have hm:pk r.ev.yg∈PS rs:=(sH rs).2 ⟨_,ws hv.1 hv.2,_,(h.ok r hr).h,rfl⟩
 obtain⟨l1,l2,e⟩:=List.append_of_mem (hp.mem_iff.2 hm)
 have:=(Kd g h (e▸ho) (D:=D) (fun q hq r' hr' e' t' Bh=>by rw[<- e'];exact h1 r' hr' t' Bh) hs r.ev.yg (h.ok r hr).h (.inr rfl) r hr rfl rfl).2
 have h2:=h1 r hr t ht
 unfold iM
 omega
end
end
section
variable {α:Type}{i:Int}
theorem lZ[Inhabited α]{a b:List α}(h0:0<=i)(h:i<a.length:=by omega):nth (a++b) i=nth a i:=by
 rw[j6 ⟨h0,by rw[List.length_append];omega⟩,j6 ⟨h0,h⟩,List.getElem_append_left]
theorem nT[Inhabited α]{a:List α}{x:α}(h:i=a.length:=by omega):nth (a++[x]) i=x:=by
 rw[j6 ⟨by omega,by rw[List.length_append,List.length_singleton];omega⟩,List.getElem_append_right (by omega)]
 simp[show i.toNat=a.length by omega]
theorem XS[Inhabited α]{l:List α}{q:Int}{x:α}(h0:0<=i)(q0:0<=q)(q1:q<l.length)(h1:i<l.length:=by omega):nth (l.set i.toNat x) q=if q=i then x else nth l q:=by
 rw[j6 ⟨q0,by rw[List.length_set];exact q1⟩,List.getElem_set,j6 ⟨q0,q1⟩]
 by_cases e:q=i
 ·rw[if_pos e,if_pos (by omega)]
 ·rw[if_neg e,if_neg (by omega)]
structure CG (c:Cf) (v:Int) (out:List qZ) (nx:List Int) (now:Int):Prop where
 len:(out.length:Int)=v
 nl:nx.length=c.yb.length
 nb:0<=now/\now<=v*20000
 xb:∀ q:Int,0<=q->q<nx.length->0<=nth nx q/\nth nx q<=v*20000
 e:∀ i:Int,0<=i->i<v->(0<=(nth out i).yc/\(nth out i).yc<=now)/\(0<=(nth out i).yt/\(nth out i).yt<c.yb.length)/\(1<=(nth out i).yo/\(nth out i).yo<=mx c (nth out i).yt)/\(nth out i).yc+pH c (nth out i).yt<=nth nx (nth out i).yt
 so:∀ i j:Int,0<=i->i<=j->j<v->(nth out i).yc<=(nth out j).yc
 ap:∀ i j:Int,0<=i->i<j->j<v->(nth out i).yt=(nth out j).yt->(nth out i).yc+pH c (nth out i).yt<=(nth out j).yc
theorem CG.step{c:Cf}(hV:mm c){v:Int}{out:List qZ}{nx:List Int}{now w z V:Int}(h:CG c v out nx now)(hw:0<=w/\w<2000)(v0:0<=V)(v1:V<c.yb.length)(hz:1<=z/\z<=mx c V):
  CG c (v+1) (out++[⟨max now (nth nx V)+w,V,z⟩]) (nx.set V.toNat (max now (nth nx V)+w+(nth c.yb V).yD)) (max now (nth nx V)+w):=by
 have hl:=h.len
 have hnl:=h.nl
 have hb:=hV.mx v0 v1
 unfold mx pH at hb
 obtain⟨a1,a2⟩:=h.nb
 obtain⟨b1,b2⟩:=h.xb V v0 (by omega)
 refine⟨by rw[List.length_append,List.length_singleton];omega,by rw[List.length_set];exact hnl,by omega,fun q q0 q1=>?_,fun i i0 i1=>?_,fun i j i0 ij j1=>?_,fun i j i0 ij j1 e=>?_⟩
 ·rw[List.length_set] at q1
  rw[XS v0 q0 q1]
  have:=h.xb q q0 q1
  split <;> omega
 ·by_cases hi:i<v
  ·rw[lZ i0]
   obtain⟨c1,c2,c3,c4⟩:=h.e i i0 hi
   refine⟨by omega,c2,c3,?_⟩
   rw[XS v0 c2.1 (by omega)]
   split
   ·rename_i e;unfold pH at c4 ⊢;rw[e] at c4 ⊢;omega
   ·exact c4
  ·rw[nT]
   simp only
   refine⟨by omega,⟨v0,v1⟩,hz,?_⟩
   rw[XS v0 v0 (by omega),if_pos rfl]
   exact Int.le_refl _
 ·by_cases hj:j<v
  ·rw[lZ i0,lZ (by omega)];exact h.so i j i0 ij hj
  ·rw[nT (i:=j)]
   by_cases hi:i<v
   ·rw[lZ i0]
    have:=(h.e i i0 hi).1;simp only;omega
   ·rw[nT (i:=i)];exact Int.le_refl _
 ·rw[lZ (i:=i) i0] at e ⊢
  by_cases hj:j<v
  ·rw[lZ (by omega)] at e ⊢;exact h.ap i j i0 ij hj e
  ·rw[nT (i:=j)] at e ⊢
   simp only at e ⊢
   have:=(h.e i i0 (by omega)).2.2.2
   rw[e] at this
   rw[e];omega
theorem XT{x n:Int}(h0:0<=x)(hn:0<n:=by omega):0<=x.tmod n/\x.tmod n<n:=by
 rw[Int.tmod_eq_emod_of_nonneg h0];exact⟨Int.emod_nonneg _ (by omega),Int.emod_lt_of_pos _ hn⟩
theorem Yn{c:Cf}(hV:mm c)(zQ:0<c.yb.length/\c.yb.length<=1000){wh sz wa:List Int}(Dn:∀ x∈wh,0<=x/\x<=255)(lp:∀ x∈sz,0<=x/\x<=255)(Ek:∀ x∈wa,0<=x/\x<=65535){k:List qZ->Option (List qZ)}:∀(n:Nat) (out:List qZ) (nx:List Int) (now v:Int),0<=v->v<=(wh.take ((min ((wh.length:Nat):Int) 40):Int).toNat).length->(wh.take ((min ((wh.length:Nat):Int) 40):Int).toNat).length<n+v->CG c v out nx now->
  ∃(o:List qZ) (D0:List Int) (AU v':Int),v'<=40/\CG c v' o D0 AU/\gF wh c sz wa k n out nx now v=k o
 | 0,out,nx,now,v,h0,h1,h2,h3=>by omega
 | n+1,out,nx,now,v,h0,h1,h2,h3=>by
  have n8:(wh.take ((min ((wh.length:Nat):Int) 40):Int).toNat).length<=40:=by rw[List.length_take];omega
  have hlt2:(wh.take ((min ((wh.length:Nat):Int) 40):Int).toNat).length<=wh.length:=by rw[List.length_take];omega
  rw[gF]
  by_cases h:v<(wh.take ((min ((wh.length:Nat):Int) 40):Int).toNat).length
  ·rw[Nw h,xM ⟨h0,h⟩,xM (by omega)]
   have hx:=Dn _ (List.mem_of_mem_take (ws h0 h))
   have Cd:=XT (x:=i64 (nth (wh.take ((min ((wh.length:Nat):Int) 40):Int).toNat) v)) (n:=((c.yb.length:Nat):Int)) (by rw[xS (by omega)];omega)
   generalize Int.tmod (i64 (nth (wh.take ((min ((wh.length:Nat):Int) 40):Int).toNat) v)) ((c.yb.length:Nat):Int)=V at Cd
   obtain⟨m0,m1,b0,b1⟩:=hV.mx Cd.1 Cd.2
   unfold pH at b0 b1
   have hnl:=h3.nl
   have EX:=h3.len
   refine wx (P:=fun o=>∃(o':List qZ) (D0:List Int) (AU v':Int),v'<=40/\CG c v' o' D0 AU/\o=k o') fun k1 w6=>?_
   have e1:∃ w,0<=w/\w<2000/\(if decide (v<((wa.length:Nat):Int)) then chk ((0:Int)<=v/\v<((wa.length:Nat):Int)) (k1 (Int.tmod (i64 (nth wa v)) 2000)) else k1 0)=k1 w:=by
    by_cases hw:v<wa.length
    ·have:=Ek _ (ws h0 hw)
     have:=XT (x:=i64 (nth wa v)) (n:=2000) (by rw[xS (by omega)];omega)
     exact⟨_,this.1,this.2,by rw[Nw hw,xM ⟨h0,hw⟩]⟩
    ·exact⟨0,by omega,by omega,by rw[Nx hw]⟩
   obtain⟨w,w0,w1,e1⟩:=e1
   rw[e1,w6,xM Cd]
   refine wx (P:=fun o=>∃(o':List qZ) (D0:List Int) (AU v':Int),v'<=40/\CG c v' o' D0 AU/\o=k o') fun k2 qI=>?_
   have e2:∃ z,1<=z/\z<=mx c V/\(chk ((decide (v<((sz.length:Nat):Int)))=true->((0:Int)<=v/\v<((sz.length:Nat):Int))) (if (decide (v<((sz.length:Nat):Int)))&&(decide ((bits .and .u8 (nth sz v) 1)=1)) then chk ((0:Int)<=v/\v<((sz.length:Nat):Int)) (chk ((((nth c.yb V).yz):Int)≠0) (k2 (i64 (1+(Int.tmod (i64 (nth sz v)) ((nth c.yb V).yz)))))) else k2 ((nth c.yb V).yz)))=k2 z:=by
    rw[xM (fun hc=>⟨h0,by simpa using hc⟩)]
    unfold mx at m0 m1 ⊢
    split
    ·rename_i hc
     simp only[Bool.and_eq_true,decide_eq_true_eq] at hc
     have:=lp _ (ws h0 hc.1)
     have:=XT (x:=i64 (nth sz v)) (n:=(nth c.yb V).yz) (by rw[xS (by omega)];omega)
     rw[xM ⟨h0,hc.1⟩,xM (by omega),xS (x:=1+_) (by omega)]
     exact⟨_,by omega,by omega,rfl⟩
    ·exact⟨_,m0,Int.le_refl _,rfl⟩
   obtain⟨z,z0,z1,e2⟩:=e2
   rw[e2,qI,xM ⟨Cd.1,by omega⟩]
   refine wx (P:=fun o=>∃(o':List qZ) (D0:List Int) (AU v':Int),v'<=40/\CG c v' o' D0 AU/\o=k o') fun k3 C8=>?_
   have e3:∃ u,0<=u/\u<2000/\(if decide (w<1000) then k3 0 else k3 w)=k3 u:=by
    split
    ·exact⟨0,by omega,by omega,rfl⟩
    ·exact⟨w,w0,w1,rfl⟩
   obtain⟨u,u0,u1,e3⟩:=e3
   have hnb:=h3.nb
   have hxb:=h3.xb V Cd.1 (by omega)
   rw[e3,C8,xM Cd,xM ⟨Cd.1,by omega⟩,xM (by rw[List.length_append,List.length_singleton];omega),xS (x:=max now (nth nx V)+u) (by omega),xS (x:=v+1) (by omega),xS (x:=max now (nth nx V)+u+_) (by omega)]
   exact Yn hV zQ Dn lp Ek n _ _ _ (v+1) (by omega) (by omega) (by omega) (h3.step hV ⟨u0,u1⟩ Cd.1 Cd.2 ⟨z0,z1⟩)
  ·rw[Nx h]
   exact⟨out,nx,now,v,by omega,h3,rfl⟩
theorem F3{c:Cf}(hV:mm c)(zQ:c.yb.length<=1000){wh sz wa:List Int}(Dn:∀ x∈wh,0<=x/\x<=255)(lp:∀ x∈sz,0<=x/\x<=255)(Ek:∀ x∈wa,0<=x/\x<=65535):
  ∃ sent,tY c wh sz wa=some sent/\FRm c 40 sent/\CF c sent:=by
 unfold tY
 by_cases h:c.yb.length=0
 ·rw[if_pos (by simp[h])]
  exact⟨[],rfl,⟨fun q q0 q1=>by simp at q1;omega,by simp⟩,⟨fun i j i0 ij j1=>by simp at j1;omega,fun i i0 i1=>by simp at i1;omega⟩⟩
 ·rw[if_neg (by simpa using h),xM (by omega)]
  have hF:=wp
  generalize xT=N at hF ⊢
  refine wx (P:=fun o=>∃ sent,o=some sent/\FRm c 40 sent/\CF c sent) fun k hk=>?_
  rw[xM (by omega)]
  have hr:∀(m:Nat) (q:Int),0<=q->q<m->nth (List.replicate m (0:Int)) q=0:=fun m q q0 q1=>by
   rw[j6 ⟨q0,by rw[List.length_replicate];exact q1⟩,List.getElem_replicate]
  have n8:(wh.take ((min ((wh.length:Nat):Int) 40):Int).toNat).length<=40:=by rw[List.length_take];omega
  obtain⟨o,nx,now,v,hv,hg,e⟩:=Yn (k:=k) hV ⟨by omega,zQ⟩ Dn lp Ek N [] (List.replicate (((c.yb.length:Nat):Int):Int).toNat (0:Int)) 0 0 (by omega) (by omega) (by omega) ⟨by simp,by rw[List.length_replicate];omega,by omega,fun q q0 q1=>by
    rw[List.length_replicate] at q1
    rw[hr _ q q0 q1];omega,fun i i0 i1=>by omega,fun i j i0 ij j1=>by omega,fun i j i0 ij j1=>by omega⟩
  have hl:=hg.len
  refine⟨o,by rw[e,hk],⟨fun q q0 q1=>?_,by omega⟩,⟨fun i j i0 ij j1=>hg.ap i j i0 ij (by omega),fun i i0 i1=>(hg.e i i0 (by omega)).2.2.1.2⟩⟩
  obtain⟨c1,c2,c3,c4⟩:=hg.e q q0 (by omega)
  have hm:=hV.mx c2.1 c2.2
  have hnb:=hg.nb
  exact⟨c1.1,by omega,c2.1,c2.2,c3.1,by omega,fun hq=>hg.so (q-1) q (by omega) (by omega) (by omega)⟩
end
section
variable {net:Int}{rs:List (List Hop)}{D:Pl->Int}{sent:List qZ}
abbrev Sw:=yw
def gi(c:Cf)(l:List Sw):Cf:=⟨c.fM,c.ye,l,c.fK,c.yb,c.fH,c.fU,c.yf⟩
structure LG (c:Cf) (l:List Sw):Prop where
 len:l.length=c.fS.length
 nm:∀ i:Int,(nth l i).yB=(nth c.fS i).yB
 nt:∀ i:Int,(nth l i).yV=(nth c.fS i).yV
 dl:∀ i:Int,(nth l i).yl=(nth c.fS i).yl
 st:∀ i:Int,0<=(nth c.fS i).fT/\(nth c.fS i).fT<=1073741824->0<=(nth l i).fT/\(nth l i).fT<=1073741824
theorem LG.refl(c:Cf):LG c c.fS:=⟨rfl,fun _=>rfl,fun _=>rfl,fun _=>rfl,fun _ h=>h⟩
section
variable {c:Cf} {l:List Sw} (h:LG c l)
include h
theorem LG.name(i:Int):fO (gi c l) i=fO c i:=by
 unfold fO kL gi
 simp only[h.len,h.nm]
theorem LG.nodes:kL (gi c l)=kL c:=by unfold kL gi;simp only[h.len]
theorem LG.findL(x:Int)(s:ByteArray)(k:Option Int):∀(n:Nat) (i:Int),vZ x (gi c l) s k n i=vZ x c s k n i
 | 0,i=>by rw[vZ,vZ]
 | n+1,i=>by
  rw[vZ,vZ]
  simp only[h.name,LG.findL x s k n]
theorem LG.find(s:ByteArray):jd (gi c l) s=jd c s:=by
 unfold jd
 simp only[h.nodes,h.findL]
theorem LG.fA(i:Int):Go.Proofs.YthjnhebofpebpaaGreat.fA (gi c l) i=Go.Proofs.YthjnhebofpebpaaGreat.fA c i:=by unfold Go.Proofs.YthjnhebofpebpaaGreat.fA;rw[h.find];rfl
theorem LG.fB(i:Int):Go.Proofs.YthjnhebofpebpaaGreat.fB (gi c l) i=Go.Proofs.YthjnhebofpebpaaGreat.fB c i:=by unfold Go.Proofs.YthjnhebofpebpaaGreat.fB;rw[h.find];rfl
theorem LG.fine{n:Int}(q:rn c net n):rn (gi c l) net n:=by
 obtain⟨h0,h1⟩:=q
 refine⟨h0,?_⟩
 rcases h1 with h1 | ⟨a,b,d,e⟩
 ·exact .inl h1
 ·right
  unfold sw at *
  rw[show nM (gi c l)=nM c from rfl,show(gi c l).fS=l from rfl,h.nt,h.dl]
  exact⟨a,b,d,h.st _ e⟩
theorem LG.jnP{k a b:Int}(q:JN c net k a b):JN (gi c l) net k a b:=by
 obtain⟨h1,h2,h3,h4,h5,h6,h7,h8,h9⟩:=q
 refine⟨h1,h2,h3,h4,h5,?_,?_,?_,?_⟩
 ·rw[h.fA,h.fB];exact h6
 ·rw[h.fA];exact h.fine h7
 ·rw[h.fB];exact h.fine h8
 ·rw[h.fA,h.fB];exact h9
theorem LG.small(q:Small c):Small (gi c l):=⟨q.m,by show l.length<=_;rw[h.len];exact q.s,q.l,q.v⟩
theorem LG.va(q:VA c net rs):VA (gi c l) net rs:=by
 refine⟨q.nt,q.len,q.most,fun r hr=>⟨(q.each r hr).len,fun x h1 h2=>?_⟩⟩
 obtain⟨a,b,d,e⟩:=(q.each r hr).cond x h1 h2
 exact⟨a,b,d,h.jnP e⟩
theorem LG.lat(n:Int):qN (gi c l) n=qN c n:=by unfold qN;rw[show nM (gi c l)=nM c from rfl,show(gi c l).fS=l from rfl,h.dl]
theorem LG.jn(D:Pl->Int)(r:List Hop)(n:Int):Go.Proofs.YthjnhebofpebpaaGreat.jn (gi c l) D r n=Go.Proofs.YthjnhebofpebpaaGreat.jn c D r n:=by
 have e:iI (gi c l) D=iI c D:=by funext mp x;unfold iI;rw[h.lat];rfl
 unfold Go.Proofs.YthjnhebofpebpaaGreat.jn;rw[e]
theorem LG.fws(rs:List (List Hop))(D:Pl->Int)(p:Pl):Go.Proofs.YthjnhebofpebpaaGreat.fws (gi c l) rs D p=Go.Proofs.YthjnhebofpebpaaGreat.fws c rs D p:=by
 unfold Go.Proofs.YthjnhebofpebpaaGreat.fws
 congr 1;funext v;unfold lY;rw[h.jn]
theorem LG.td(D:Pl->Int)(r:List Hop)(n:Int):iM (gi c l) D r n=iM c D r n:=by unfold iM l9;rw[h.jn,h.jn]
theorem LG.ok{p:Pl}(q:FwOK c (Go.Proofs.YthjnhebofpebpaaGreat.fws c rs D p)):FwOK (gi c l) (Go.Proofs.YthjnhebofpebpaaGreat.fws (gi c l) rs D p):=by
 rw[h.fws];exact⟨q.len,q.v0,q.k0,q.j0⟩
theorem LG.sb{p:Pl}{St:Int}(q:SBd c rs D p St):SBd (gi c l) rs D p St:=by
 refine⟨?_,?_⟩
 ·rw[h.fws,h.lat];exact q.d
 ·rw[h.fws,h.lat];exact q.s
theorem LG.sg(g:Sg c net rs sent):Sg (gi c l) net rs sent:=⟨h.small g.small,h.va g.va,⟨g.fr.each,g.fr.len⟩⟩
end
theorem LG.cf{c:Cf}{l:List Sw}(q:CF c sent):CF (gi c l) sent:=⟨q.ap,q.sz⟩
theorem Ml(c:Cf):gi c c.fS=c:=rfl
structure RG (c:Cf) (rs:List (List Hop)) (sent:List qZ) (D:Pl->Int) (come lost:List Cm):Prop where
 cm:∀ x∈come,(0<=x.yd/\x.yd<sent.length)/\(nth sent x.yd).yc<=x.yc/\∃ g∈route rs sent x.yd,g.fX=x.ya/\0<=g.fX/\g.fX<nM c/\x.yc-(nth sent x.yd).yc<=iM c D (route rs sent x.yd) g.ya+D (pk g)
 len:come.length<=1280
theorem Kg{c:Cf}(g:Sg c net rs sent)(hV:mm c)(hC:CF c sent){St:Pl->Int}{lo:List Pl}(hp:lo.Perm (PS rs))(ho:qx rs lo)(hl:∀ p∈PS rs,FwOK c (fws c rs D p))(hB:∀ p∈PS rs,SBd c rs D p (St p)){l:List Sw}(hL:LG c l):
  ∃ come lost,mN (gi c l) net rs sent=some (come,lost,0)/\RG c rs sent D come lost/\((∀ p∈PS rs,St p<=(qH (gi c l) p).yk.fT)->lost=[]):=by
 have g':=hL.sg g
 obtain⟨come,lost,hr,he⟩:=TM g'
 obtain⟨F,H,hF,hJ,hK,hc,He⟩:=hr.served g'
 have Df:∀ p∈PS rs,SBd (gi c l) rs D p (St p):=fun p hp=>hL.sb (hB p hp)
 have sR:∀ p∈PS rs,FwOK (gi c l) (fws (gi c l) rs D p):=fun p hp=>hL.ok (hl p hp)
 refine⟨come,lost,he,⟨fun x hx=>?_,?_⟩,fun ni=>?_⟩
 ·obtain⟨r,hr,e1,e2,e3,e4⟩:=Ue hc hx
  have hs:=(hJ.ok r hr).s
  have hce:=Uh g' hV (LG.cf hC) hJ hK hp ho sR Df hr e3
  have hm:=(hJ.ok r hr).h
  have hv:=g.vl hs
  have hhop:=(g.va.each _ (ws hv.1 hv.2)).hop g.small hm
  have ze:=(hJ.out r hr _ e3).1
  have hcp:=Ud g' hs hm
  have Dn:(nth sent r.ev.yd).yc<=r.ev.yc:=by
   obtain⟨l1,l2,e⟩:=List.append_of_mem (hp.mem_iff.2 ((sH rs).2 ⟨_,ws hv.1 hv.2,_,hm,rfl⟩))
   have ha:=Ym g' hV (LG.cf hC) hJ hK hp ho sR Df
   have:=(Kd g' hJ (e▸ho) (D:=D) (fun q hq r' hr' e' t' Bh=>by rw[<- e'];exact ha.1 r' hr' t' Bh) hs r.ev.yg hm (.inr rfl) r hr rfl rfl).1
   have h0:0<=l9 (gi c l) (route rs sent r.ev.yd) r.ev.yg.ya:=by
    refine(g'.route hs).ind (P:=fun x=>0<=l9 (gi c l) (route rs sent r.ev.yd) x.ya) (fun x hx e=>?_) (fun y hy x hx e ih=>?_) _ hm
    ·unfold l9;rw[e,(g'.route hs).jn_start];omega
    ·have hy2:=(g'.route hs).hop g'.small hy
     have:=hy2.s0;have:=hy2.d0
     unfold l9 at ih ⊢
     rw[<- e,(g'.route hs).jn_next _ hy];omega
   omega
  rw[e1] at hs Dn hce hm
  rw[hL.td] at hce
  refine⟨hs,by omega,_,hm,e2,hhop.x0,by rw[e2];exact e4,by omega⟩
 ·have:=hr.len;omega
 ·have z7:H.filterMap YD=[]:=by
   rw[List.filterMap_eq_nil_iff]
   intro r hr
   unfold YD
   rw[if_neg]
   intro hn
   have hs:=(hJ.ok r hr).s
   have hv:=g.vl hs
   have:=(Ym g' hV (LG.cf hC) hJ hK hp ho sR Df).2 r hr hn
   have:=ni (pk r.ev.yg) ((sH rs).2 ⟨_,ws hv.1 hv.2,_,(hJ.ok r hr).h,rfl⟩)
   omega
  rw[z7] at He
  exact List.perm_nil.1 He
end
section
theorem HF.sb{c:Cf}{rs:List (List Hop)}{D:Pl->Int}(h:HF c rs D){net:Int}(hS:Small c)(hv:VA c net rs){p:Pl}(hp:p∈PS rs):SBd c rs D p (ol c rs D p).fT:=by
 have hb:=h.b p hp
 have hl:=Yg hS hv hp
 have hg:=Qw (mT c (fws c rs D p)) (wy c p.fQ)
 have vU:=Up (A:=mT c (fws c rs D p)) (s:=wy c p.fQ) hb
 unfold Yf at hb
 refine⟨fun t t0 ht=>?_,fun t t0 ht=>?_⟩
 ·have:t<BZ (mT c (fws c rs D p)) (wy c p.fQ):=by
   refine Classical.byContradiction fun hc=>?_
   have:=ht _ hg.1 (by omega)
   omega
  rw[h.d p hp]
  exact WI (f:=iV _ _ _) t0 (by omega)
 ·have:t<BZ (mT c (fws c rs D p)) (wy c p.fQ)+qN c p.ya:=by
   refine Classical.byContradiction fun hc=>?_
   have:=ht _ hg.1 (by omega)
   omega
  have:=WI (f:=oA (mT c (fws c rs D p)) (wy c p.fQ) (qN c p.ya)) (n:=(BZ (mT c (fws c rs D p)) (wy c p.fQ)+qN c p.ya).toNat) t0 (by omega)
  show _<=p8 _ _+_
  omega
theorem HF.store{c:Cf}{rs:List (List Hop)}{D:Pl->Int}(h:HF c rs D){net:Int}(hf:FewP c rs)(hS:Small c)(hv:VA c net rs)(hV:mm c){p:Pl}(hp:p∈PS rs):0<=(ol c rs D p).fT/\(ol c rs D p).fT<=1073741824:=by
 have hb:=h.b p hp
 have hl:=Yg hS hv hp
 have hg:=Qw (mT c (fws c rs D p)) (wy c p.fQ)
 have vU:=h.ok hS hv p
 have hmo:=Xb hV vU
 unfold Yf at hb
 have hA:∀ t:Int,0<=t->t<=33768->mT c (fws c rs D p) t<=21*(16*825840):=by
  intro t t0 t1
  have w8:∀ x∈fws c rs D p,0<=ly c x t/\ly c x t<=825840:=by
   intro x hx
   have Cy:=vU.v0 x hx
   have hj0:=(vU.j0 x hx).1
   obtain⟨y,hy,hr,_,_,e,ej,_⟩:=JX hx
   have hj:=(nO (c:=c) (D:=D) hS hv (M:=33768) hr (fun z hz=>by have:=h.rng hS hv hr hz;omega) y.ya).2
   obtain⟨a,b,d,_⟩:=hV.mx Cy.1 Cy.2
   unfold ly
   have h1:(t+x.j) / pH c x.v<=(t+x.j) / 100:=by
    refine(Int.le_ediv_iff_mul_le (by omega)).2 ?_
    have h2:=Int.ediv_mul_le (t+x.j) (show pH c x.v≠0 by omega)
    have h3:0<=(t+x.j) / pH c x.v:=Int.ediv_nonneg (by omega) (by omega)
    have h4:=Int.mul_le_mul_of_nonneg_left d h3
    omega
   have h3:0<=(t+x.j) / pH c x.v:=Int.ediv_nonneg (by omega) (by omega)
   have h5:(t+x.j) / pH c x.v+1<=11470:=by omega
   constructor
   ·exact Int.mul_nonneg (by omega) (by omega)
   ·have h6:=Int.mul_le_mul b h5 (by omega) (by omega)
    omega
  unfold mT
  have kM:=hf.l
  have h1:=l8 (f:=rv c (fws c rs D p) t) (M:=16*825840) (l:=Xa c) fun L _=>by
   have h2:o8 c (fws c rs D p) t L<=16*825840:=by
    unfold o8
    have h3:=l8 (f:=fun x=>ly c x t) (M:=825840) (l:=(fws c rs D p).filter fun x=>decide (x.k=L)) fun x hx=>(w8 x (List.mem_filter.1 hx).1).2
    have h4:((fws c rs D p).filter fun x=>decide (x.k=L)).length<=(fws c rs D p).length:=List.length_filter_le _ _
    have h5:=vU.len
    omega
   unfold rv
   split
   ·exact h2
   ·exact Int.le_trans (Int.min_le_left _ _) h2
  unfold Xa at h1
  rw[bm] at h1
  unfold Xa
  omega
 have hn:=nK (oA (mT c (fws c rs D p)) (wy c p.fQ) (qN c p.ya)) (BZ (mT c (fws c rs D p)) (wy c p.fQ)+qN c p.ya).toNat
 have hx:=WK (f:=oA (mT c (fws c rs D p)) (wy c p.fQ) (qN c p.ya)) (M:=21*(16*825840)) (n:=(BZ (mT c (fws c rs D p)) (wy c p.fQ)+qN c p.ya).toNat) (by omega) fun t t0 t1=>by
  have h1:=hA t t0 (by omega)
  have h2:0<=(max (t-qN c p.ya) 0+wy c p.fQ-1) / wy c p.fQ:=Int.ediv_nonneg (by omega) (by omega)
  unfold oA;omega
 show 0<=p8 _ _+_/\p8 _ _+_<=_
 omega
end
end Go.Proofs.YthjnhebofpebpaaGreat

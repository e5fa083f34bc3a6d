/- A part of this claim's proof: models of functions, walks, plain laws. No conditions. -/
import Derived.Test.YtcahmabkeaijdaaGreatP35a
set_option linter.all false
namespace Go.Proofs.YtcahmabkeaijdaaGreat
open Go Go.RowKit Sep
section
def K4:List Int:=[100,200,400,800,1600,3200,6400,12800]
theorem Sj(b:Int):o5 b=some (decide (b∈K4)):=by
 unfold o5
 have hF:xR=(xR-9)+9:=by rw[wq]
 rw[hF]
 generalize xR-9=N
 refine fy (P:=fun o=>o=_) fun k hk=>?_
 have tf:∀(n:Nat) (x:Int),0<=x->x<=12800->kG b k (n+1) x=if x=b then some true else kG b k n (2*x):=fun n x h0 h1=>by
  rw[kG,if_pos (decide_eq_true h1),xQ (x:=x*2) (by omega),Int.mul_comm]
  by_cases h:x=b
  ·rw[if_pos (decide_eq_true h),if_pos h]
  ·rw[if_neg (by simpa using h),if_neg h]
 have DI:kG b k (N+1) (2*12800)=some false:=by
  rw[kG,if_neg (by decide),hk]
 rw[tf _ 100 (by omega) (by omega),tf _ (2*100) (by omega) (by omega),tf _ (2*(2*100)) (by omega) (by omega),tf _ (2*(2*(2*100))) (by omega) (by omega),tf _ (2*(2*(2*(2*100)))) (by omega) (by omega),tf _ (2*(2*(2*(2*(2*100))))) (by omega) (by omega),tf _ (2*(2*(2*(2*(2*(2*100)))))) (by omega) (by omega),tf _ (2*(2*(2*(2*(2*(2*(2*100))))))) (by omega) (by omega)]
 have:(2*(2*(2*(2*(2*(2*(2*(2*100)))))) ):Int)=2*12800:=by decide
 rw[this,DI]
 unfold K4
 repeat' split
 all_goals
  simp only[Option.some.injEq]
  first
  | (symm;rw[decide_eq_true_iff];simp only[List.mem_cons,List.not_mem_nil,or_false];omega)
  | (symm;rw[decide_eq_false_iff_not];simp only[List.mem_cons,List.not_mem_nil,or_false];omega)
def K5(v:yw):Prop:=v.yK∈K4/\1<=v.yC/\v.yC<=72
instance (v:yw):Decidable (K5 v):=inferInstanceAs (Decidable (_/\_))
theorem Sk(v:yw):jW v=some (!decide (K5 v)):=by
 unfold jW K5
 rw[Sj,oB]
 congr 1
 by_cases h1:v.yK∈K4 <;> by_cases h2:1<=v.yC <;> by_cases h3:v.yC<=72 <;> simp[h1,h2,h3] <;> omega
theorem aU{l:List yw}{k:Option Int}(hl:l.length<1000000000):∀(n:Nat) (v:Int),0<=v->v<=l.length->l.length<n+v->
  ((∃ i:Int,v<=i/\i<l.length/\¬K5 (nth l i)/\wU l (fun y0=>jW y0) k n v=some i)\/((∀ i:Int,v<=i->i<l.length->K5 (nth l i))/\wU l (fun y0=>jW y0) k n v=k))
 | 0,v,h0,h1,h2=>by omega
 | n+1,v,h0,h1,h2=>by
  rw[wU]
  by_cases h:v<l.length
  ·rw[if_pos (decide_eq_true h),xJ ⟨h0,h⟩]
   have e:(⟨(nth l v).yJ,(⟨((nth l v).yD).yO,((nth l v).yD).yW,((nth l v).yD).yZ⟩:yL),(nth l v).yK,(nth l v).yC,(nth l v).xa⟩:yw)=nth l v:=rfl
   rw[e,Sk,oB]
   by_cases hv:K5 (nth l v)
   ·rw[if_neg (by simpa using hv),xQ (x:=v+1) (by omega)]
    rcases aU hl n (v+1) (by omega) (by omega) (by omega) (k:=k) with⟨i,i1,i2,i3,i4⟩ | ⟨i1,i2⟩
    ·exact .inl ⟨i,by omega,i2,i3,i4⟩
    ·refine .inr ⟨fun i j1 j2=>?_,i2⟩
     by_cases e:i=v
     ·rw[e];exact hv
     ·exact i1 i (by omega) j2
   ·rw[if_pos (by simpa using hv)]
    exact .inl ⟨v,Int.le_refl _,h,hv,rfl⟩
  ·rw[if_neg (by simpa using h)]
   exact .inr ⟨fun i h1 h2=>by omega,rfl⟩
def Qi(c:Cf):Prop:=∀ v∈c.yg,K5 v
theorem Sm{c:Cf}(hl:c.yg.length<1000000000):∃ b,qH c.yg (fun y0=>jW y0)=some b/\(b=false↔Qi c):=by
 unfold qH kw
 have hF:=wq
 generalize xR=N at hF ⊢
 refine fy (P:=fun o=>∃ b,(o.bind fun x=>some (decide (x>=0)))=some b/\(b=false↔Qi c)) fun k hk=>?_
 rcases aU (k:=k) hl N 0 (by omega) (by omega) (by omega) with⟨i,i1,i2,i3,i4⟩ | ⟨i1,i2⟩
 ·refine⟨true,by rw[i4];simp[i1],?_⟩
  simp only[Bool.true_eq_false,false_iff]
  exact fun h=>i3 (h _ (wn i1 i2))
 ·refine⟨false,by rw[i2,hk];rfl,?_⟩
  simp only[true_iff]
  intro v hv
  obtain⟨i,j0,j1,rfl⟩:=sm hv
  exact i1 i j0 j1
theorem Qi.vls{c:Cf}(h:Qi c):gV c:=fun v hv=>by
 obtain⟨h1,h2,h3⟩:=h v hv
 refine⟨?_,h2,h3⟩
 unfold K4 at h1
 simp only[List.mem_cons,List.not_mem_nil,or_false] at h1
 omega
theorem VA.pi{c:Cf}{net:Int}{rs:List (List Hop)}(hS:Small c)(hv:VA c net rs){p:Pl}(hp:p∈PS rs):PI c p:=by
 obtain⟨r,hr,h,hh,rfl⟩:=(o9 rs p).1 hp
 obtain⟨i,i0,i1,rfl⟩:=sm hh
 obtain⟨_,_,_,j0,j1,_,_,_,_,jf1,jf2,jj⟩:=(hv.each r hr).cond i i0 i1
 have hA:=(QM hS (nth r i).fQ).2
 have hB:=(QN hS (nth r i).fQ).2
 refine⟨j0,j1,?_,?_⟩
 ·have a1:=jf1.1;have a2:=jf2.1
  show 0<=(nth r i).ya
  rcases jj with⟨e,_⟩ | ⟨_,e⟩ <;> omega
 ·show(nth r i).ya<nN c
  rcases jj with⟨e,_⟩ | ⟨_,e⟩ <;> omega
def w0:WS:=⟨[],0,[],[]⟩
theorem XF{c:Cf}{rs:List (List Hop)}:∀(l:List Pl) (s t:WS),mq c rs l s = .inl t->t.out.map fG=s.out.map fG++l/\t.out.length=s.out.length+l.length/\(s.e=0->t.e=0)
 | [],s,t,h=>by injection h with h;subst h;simp
 | p::l,s,t,h=>by
  rw[mq] at h
  split at h
  ·cases h
  ·rename_i he
   obtain⟨h1,h2,h3⟩:=XF l _ t h
   have e:(pq c rs s p).out=s.out++[(PO c rs s.bu s.de s.e p).1]:=rfl
   rw[e] at h1 h2
   refine⟨?_,?_,fun _=>h3 (by simpa using he)⟩
   ·rw[h1,List.map_append,List.append_assoc];rfl
   ·rw[h2];simp;omega
inductive CP (c:Cf) (net:Int) (rs:List (List Hop)):yM×Int->Prop
 | route:¬VA c net rs->CP c net rs (⟨[],[]⟩,310)
 | vl:VA c net rs->¬Qi c->CP c net rs (⟨[],[]⟩,350)
 | cycle (s:List Pl):VA c net rs->Qi c->Yq rs s->CP c net rs (⟨[],[]⟩,351)
 | err (l:List Pl) (e:Int):VA c net rs->Qi c->l.Perm (PS rs)->qS rs l->mq c rs l w0 = .inr e->e≠0->CP c net rs (⟨[],[]⟩,e)
 | ok (l:List Pl) (t:WS):VA c net rs->Qi c->l.Perm (PS rs)->qS rs l->mq c rs l w0 = .inl t->CP c net rs (⟨wH qh t.out,EN c rs (wH qh t.out)⟩,0)
theorem K6{c:Cf}{rs:List (List Hop)}:∀(l:List Pl) (s:WS) (e:Int),mq c rs l s = .inr e->e≠0
 | [],s,e,h=>by cases h
 | p::l,s,e,h=>by
  rw[mq] at h
  split at h
  ·rename_i he
   injection h with h;subst h;exact he
  ·exact K6 l _ e h
theorem Fp{c:Cf}{net:Int}{rs:List (List Hop)}(hf:FewP c rs):∃ x,ub c net rs=some x/\CP c net rs x:=by
 have hS:=hf.small
 have BG:∀ r∈rs,r.length<1000000000:=fun r hr=>by have:=hf.e r hr;omega
 have hrs:=hf.r
 obtain⟨b,q1,q2⟩:=JA hS (net:=net) (rs:=rs) BG (by omega)
 unfold ub
 rw[q1,oB]
 cases b with
 | false=>
  rw[if_pos (by rfl)]
  exact⟨_,rfl,.route fun h=>by have:=q2.2 h;cases this⟩
 | true=>
 have hv:=q2.1 rfl
 rw[if_neg (by simp)]
 obtain⟨b,r1,r2⟩:=Sm (c:=c) (by have:=hf.v;omega)
 rw[r1,oB]
 cases b with
 | true=>
  rw[if_pos rfl]
  exact⟨_,rfl,.vl hv fun h=>by have:=r2.2 h;cases this⟩
 | false=>
 have BH:=r2.1 rfl
 rw[if_neg (by simp)]
 have hps:=JF hf.e
 have h3:rs.length*40<=20*40:=Nat.mul_le_mul_right _ hrs
 rcases Uo (rs:=rs) (fun r h=>by have:=hf.e r h;omega) (by omega) with⟨l,e1,e2,e3⟩ | ⟨s,e1,e2⟩
 ·rw[e3,oB,if_neg (by simp)]
  have jy:=e1.length_eq
  refine wD (P:=fun o=>∃ x,o=some x/\CP c net rs x) fun k hk=>?_
  have hL:=Wz (l:=(l,0)) (k:=k) (rs:=rs) BH.vls hv.len BG hv.most hf.l hS (fun p hp=>hv.pi hS (e1.subset hp)) (by show l.length<=_;omega) xR 0 w0 (by omega) (by simp) (by rw[wq];show((l.length:Nat):Int)<_;omega) rfl
  simp only[Int.toNat_zero,List.drop_zero] at hL
  rw[show(0:Int)=w0.e from rfl,show([]:List PB)=w0.out from rfl,show([]:BM)=w0.bu from rfl,show([]:DM)=w0.de from rfl]
  rw[show jI (l,w0.e) c rs k xR w0.e w0.e w0.out w0.bu w0.de=jI (l,0) c rs k xR 0 w0.e w0.out w0.bu w0.de from rfl,hL]
  cases iT:mq c rs l w0 with
  | inr e=>exact⟨_,rfl,.err l e hv BH e1 e2 iT (K6 _ _ _ iT)⟩
  | inl t=>
   obtain⟨o1,o2,o3⟩:=XF l w0 t iT
   have hol:t.out.length=l.length:=by rw[o2];simp[w0]
   have hmap:t.out.map fG=l:=by rw[o1];simp[w0]
   simp only
   rw[hk,(Mv (by rw[hmap];exact e1.nodup_iff.2 (cY rs)) (by omega)).1,oB]
   rw[TL (net:=net) hS hv.each (by omega) (by rw[rg];omega),oB]
   exact⟨_,rfl,.ok l t hv BH e1 e2 iT⟩
 ·rw[e2,oB,if_pos (by simp)]
  exact⟨_,rfl,.cycle s hv BH e1⟩
end
section
variable {x y:R}{l:List (List B)}{s:SV}
theorem Fq{q:Rat}(h:(mk q).2=0):fits q=true/\(mk q).1=sn q:=by
 unfold mk at *
 split at h
 ·rename_i hf;rw[if_pos hf];exact⟨hf,rfl⟩
 ·cases h
theorem ol(h:(jw x y).2=0):(V x=true/\V y=true)/\V (jw x y).1=true/\val (jw x y).1=val x+val y:=by
 by_cases hv:V x=true/\V y=true
 ·unfold jw at *
  rw[Wp hv.1 hv.2] at *
  obtain⟨h1,h2⟩:=Fq (show(mk (val x+val y)).2=0 from h)
  refine⟨hv,?_⟩
  show V (mk (val x+val y)).1=true/\val (mk (val x+val y)).1=_
  rw[h2];exact⟨rU h1,ue _⟩
 ·unfold jw at h;rw[Gg hv] at h;cases h
theorem YA(h:(b9 x y).2=0):(V x=true/\V y=true)/\V (b9 x y).1=true/\val (b9 x y).1=val x-val y:=by
 by_cases hv:V x=true/\V y=true
 ·unfold b9 at *
  rw[aL hv.1 hv.2] at *
  obtain⟨h1,h2⟩:=Fq (show(mk (val x-val y)).2=0 from h)
  refine⟨hv,?_⟩
  show V (mk (val x-val y)).1=true/\val (mk (val x-val y)).1=_
  rw[h2];exact⟨rU h1,ue _⟩
 ·unfold b9 at h;rw[Gh hv] at h;cases h
theorem YB(h:(pQ x y).2=0):(V x=true/\V y=true)/\V (pQ x y).1=true/\val (pQ x y).1=val x*val y:=by
 by_cases hv:V x=true/\V y=true
 ·unfold pQ at *
  rw[Wq hv.1 hv.2] at *
  obtain⟨h1,h2⟩:=Fq (show(mk (val x*val y)).2=0 from h)
  refine⟨hv,?_⟩
  show V (mk (val x*val y)).1=true/\val (mk (val x*val y)).1=_
  rw[h2];exact⟨rU h1,ue _⟩
 ·unfold pQ at h;rw[Gi hv] at h;cases h
theorem T1(h0:y.fN≠0)(h:(nR x y).2=0):(V x=true/\V y=true)/\V (nR x y).1=true/\val (nR x y).1=val x / val y:=by
 by_cases hv:V x=true/\V y=true
 ·unfold nR at *
  rw[aM hv.1 hv.2 h0] at *
  obtain⟨h1,h2⟩:=Fq (show(mk (val x / val y)).2=0 from h)
  refine⟨hv,?_⟩
  show V (mk (val x / val y)).1=true/\val (mk (val x / val y)).1=_
  rw[h2];exact⟨rU h1,ue _⟩
 ·unfold nR at h;rw[Gj hv] at h;cases h
theorem aV{e:Int}{r:R×Int}(h:(CD e r).2=0):e=0/\r.2=0/\CD e r=r:=by
 by_cases he:e=0
 ·subst he
  by_cases hr:r.2=0
  ·exact⟨rfl,hr,Vu hr⟩
  ·rw[JU hr] at h;exact absurd h hr
 ·rw[l9 he] at h;exact absurd h he
theorem oz{e:Int}{r:R×Int}(h:(DO e r).2=0):e=0/\r.2=0/\(DO e r).1=r.1:=by
 unfold DO at *
 simp only at h
 by_cases he:e=0
 ·rw[if_pos he] at h
  refine⟨he,h,?_⟩
  simp[h]
 ·rw[if_neg he] at h;exact absurd h he
theorem K7(hx:V x=true)(hy:V y=true):CM x y=uZ (val x) (val y):=by
 unfold CM;rw[l7 hx hy];rfl
theorem My{t:Rat}{b:B}(h:b8 t b=true):fits (vq t b)=true:=by
 unfold b8 at h;simp only[Bool.and_eq_true] at h;exact h.2
theorem YC{c:List B}(h:c≠[])(t:Rat):∃ b∈c,AT c t=vq t b:=by
 obtain⟨b,hb,e⟩:=List.mem_map.1 (QO (t:=t) h).1
 exact⟨b,hb,e.symm⟩
theorem K8{c:List B}{t:Rat}{b:B}(hb:b∈c):AT c t<=vq t b:=(QO (t:=t) (List.ne_nil_of_mem hb)).2 _ (List.mem_map_of_mem hb)
theorem WA{c:List B}{t:R}(h:(iC c t).2=0):VC c=true/\GR t=true/\V (iC c t).1=true/\val (iC c t).1=AT c (val t):=by
 unfold iC at *
 by_cases hc:VC c=true/\GR t=true
 ·rw[Fe hc.1 hc.2] at *
  by_cases hf:c.all (b8 (val t))=true
  ·refine⟨hc.1,hc.2,?_⟩
   rw[if_pos hf]
   obtain⟨b,hb,e⟩:=YC (Wt hc.1) (val t)
   have h1:=My (List.all_eq_true.1 hf b hb)
   rw[<- e] at h1
   exact⟨rU h1,ue _⟩
  ·rw[if_neg hf] at h;cases h
 ·rw[Mh hc] at h;cases h
def TQ:List (List B)->Rat->Rat
 | [],_=>0
 | c::l,t=>AT c t+TQ l t
theorem QS{t:R}:∀(l:List (List B)) (a:R×Int),(rx t l a).2=0->(a.2=0/\(∀ c∈l,(iC c t).2=0))/\(V a.1=true->V (rx t l a).1=true/\val (rx t l a).1=val a.1+TQ l (val t))
 | [],a,h=>⟨⟨h,by simp⟩,fun hv=>⟨hv,by show val a.1=_;simp[TQ,Rat.add_zero]⟩⟩
 | c::l,a,h=>by
  rw[rx] at h ⊢
  obtain⟨⟨h1,h2⟩,h3⟩:=QS l _ h
  obtain⟨e1,e2,e3⟩:=aV h1
  have ha:a.2=0:=by
   by_cases hz:a.2=0
   ·exact hz
   ·rw[if_neg hz] at e1;exact absurd e1 hz
  rw[if_pos ha] at e1
  refine⟨⟨ha,fun d hd=>?_⟩,fun hv=>?_⟩
  ·rcases List.mem_cons.1 hd with rfl | hd
   ·exact e1
   ·exact h2 d hd
  ·obtain⟨q1,q2,q3⟩:=ol e2
   obtain⟨c1,c2,c3,c4⟩:=WA e1
   rw[e3] at h3
   obtain⟨r1,r2⟩:=h3 q2
   rw[e3]
   refine⟨r1,?_⟩
   rw[r2,q3,c4,TQ,Rat.add_assoc]
def RS(s:SV):Rat:=val s.fR
def LS(s:SV):Rat:=val s.fL
def Qj(l:List (List B))(s:SV)(t:Rat):Rat:=TQ l t / RS s-t+LS s
theorem UF{t:R}(hs:VS s=true)(h:(dv l s 0 t).2=0):(∀ c∈l,VC c=true/\GR t=true)/\V t=true/\V (dv l s 0 t).1=true/\val (dv l s 0 t).1=Qj l s (val t):=by
 have h0:=(iQ hs).2.1
 unfold dv at h ⊢
 simp only at h ⊢
 obtain⟨a1,a2,a3⟩:=aV h
 rw[a3]
 obtain⟨b1,b2,b3⟩:=aV a1
 rw[b3] at a2 ⊢
 obtain⟨c1,c2,c3⟩:=aV b1
 rw[c3] at b2 a2 ⊢
 obtain⟨⟨_,d1⟩,d2⟩:=QS l _ c1
 obtain⟨d3,d4⟩:=d2 dx
 obtain⟨e1,e2,e3⟩:=T1 (by omega) c2
 obtain⟨f1,f2,f3⟩:=YA b2
 obtain⟨g1,g2,g3⟩:=ol a2
 refine⟨fun c hc=>?_,f1.2,g2,?_⟩
 ·have:=WA (d1 c hc);exact⟨this.1,this.2.1⟩
 ·rw[g3,f3,e3,d4]
  have:val Z1=0:=by decide +kernel
  unfold Qj RS LS
  rw[this,Rat.zero_add]
section
variable {f:Int->R->R×Int}
theorem Gn(hf:∀ e t,e≠0->f e t=(Z1,e))(hV:∀ p,(f 0 p).2=0->V (f 0 p).1=true):∀(P:List R) (s:List R×Int),(P.foldl (kV f) s).2=0->(∀ b,s.1=[b]->V b=true)->(s.1=[]\/∃ b,s.1=[b])->
  s.2=0/\(∀ p∈P,(f 0 p).2=0)/\(∃ d,(P.foldl (kV f) s).1=[d]/\V d=true/\(s.1=[d]\/∃ p∈P,d=(f 0 p).1)/\(∀ b,s.1=[b]->val b<=val d)/\∀ p∈P,val (f 0 p).1<=val d)\/(P=[]/\s.2=0)
 | [],s,h,_,_ => .inr ⟨rfl,h⟩
 | p::P,s,h,hs,hb=>by
  refine .inl ?_
  have hz:s.2=0:=by
   by_cases hz:s.2=0
   ·exact hz
   ·rw[Vw hf (p::P) s hz] at h;exact h
  rw[List.foldl_cons] at h
  have AZ:(kV f s p).2=0:=by
   by_cases AZ:(kV f s p).2=0
   ·exact AZ
   ·rw[Vw hf P _ AZ] at h;exact absurd h AZ
  have hp:(f 0 p).2=0:=by
   have:(kV f s p).2=(f s.2 p).2:=rfl
   rw[this,hz] at AZ;exact AZ
  have hVp:=hV p hp
  have tf:∃ b,(kV f s p).1=[b]/\V b=true/\(s.1=[b]\/b=(f 0 p).1)/\(∀ b0,s.1=[b0]->val b0<=val b)/\val (f 0 p).1<=val b:=by
   unfold kV
   rw[hz]
   rcases hb with hb | ⟨b,hb⟩
   ·rw[hb];exact⟨_,rfl,hVp,.inr rfl,by simp,Rat.le_refl⟩
   ·rw[hb]
    simp only
    have hvb:=hs b hb
    by_cases hc:CM (f 0 p).1 b>0
    ·rw[if_pos hc]
     rw[K7 hVp hvb] at hc
     refine⟨_,rfl,hVp,.inr rfl,fun b0 h0=>?_,Rat.le_refl⟩
     have h0:b=b0:=by injection h0
     subst h0
     exact Rat.le_of_lt (Yt.1 hc)
    ·rw[if_neg hc]
     rw[K7 hVp hvb] at hc
     refine⟨b,rfl,hvb,.inl rfl,fun b0 h0=>?_,?_⟩
     ·have h0:b=b0:=by injection h0
      subst h0;exact Rat.le_refl
     ·exact Rat.not_lt.1 fun h=>hc (Yt.2 h)
  obtain⟨b,e1,e2,e3,e4,e5⟩:=tf
  rw[List.foldl_cons]
  rcases Gn hf hV P (kV f s p) h (fun b' hb'=>(List.cons.inj (e1.symm.trans hb')).1▸e2) (.inr ⟨b,e1⟩) with⟨_,q1,d,d1,d2,d3,d4,d5⟩ | ⟨q1,_⟩
  ·refine⟨hz,fun x hx=>?_,d,d1,d2,?_,fun b0 h0=>?_,fun x hx=>?_⟩
   ·rcases List.mem_cons.1 hx with rfl | hx
    ·exact hp
    ·exact q1 x hx
   ·rcases d3 with d3 | ⟨x,hx,d3⟩
    ·rw[e1] at d3
     have:b=d:=by injection d3
     subst this
     rcases e3 with e3 | e3
     ·exact .inl e3
     ·exact .inr ⟨p,by simp,e3⟩
    ·exact .inr ⟨x,List.mem_cons_of_mem _ hx,d3⟩
   ·exact Rat.le_trans (e4 b0 h0) (d4 b e1)
   ·rcases List.mem_cons.1 hx with rfl | hx
    ·exact Rat.le_trans e5 (d4 b e1)
    ·exact d5 x hx
  ·subst q1
   refine⟨hz,fun x hx=>?_,b,e1,e2,?_,e4,fun x hx=>?_⟩
   ·rw[List.mem_singleton.1 hx];exact hp
   ·rcases e3 with e3 | e3
    ·exact .inl e3
    ·exact .inr ⟨p,by simp,e3⟩
   ·rw[List.mem_singleton.1 hx];exact e5
theorem T2(hf:∀ e t,e≠0->f e t=(Z1,e))(hV:∀ p,(f 0 p).2=0->V (f 0 p).1=true){P:List R}(hP:P≠[])(h:(iZ f P).2=0):
  (∀ p∈P,(f 0 p).2=0/\val (f 0 p).1<=val (iZ f P).1)/\V (iZ f P).1=true/\∃ p∈P,(iZ f P).1=(f 0 p).1:=by
 unfold iZ at h ⊢
 simp only at h ⊢
 by_cases hz:(P.foldl (kV f) ([],0)).2≠0
 ·rw[if_pos hz] at h;exact absurd h hz
 ·rw[if_neg hz]
  rcases Gn hf hV P ([],0) (by simpa using hz) (by simp) (.inl rfl) with⟨_,q1,d,d1,d2,d3,d4,d5⟩ | ⟨q1,_⟩
  ·rw[d1]
   refine⟨fun p hp=>⟨q1 p hp,d5 p hp⟩,d2,?_⟩
   rcases d3 with d3 | d3
   ·cases d3
   ·exact d3
  ·exact absurd q1 hP
end
def rr(c:List B):Rat:=val (X8 c).1
theorem QT{c:List B}(h:VC c=true):(∃ d∈c,rr c=rq d)/\∀ x∈c,rr c<=rq x:=by
 obtain⟨d,e,hd,hm⟩:=Gd h
 have:rr c=rq d:=by unfold rr X8;rw[e];rfl
 rw[this]
 exact⟨⟨d,hd,rfl⟩,hm⟩
def RQ:List (List B)->Rat
 | []=>0
 | c::l=>rr c+RQ l
theorem QU:∀(l:List (List B)) (a r:R×Int),ba l a = .inr r->r.2=0->V a.1=true->a.2=0/\V r.1=true/\val r.1=val a.1+RQ l/\∀ c∈l,(pR c).2=0
 | [],a,r,h,h0,hv=>by
  injection h with h;subst h
  exact⟨h0,hv,by simp[RQ,Rat.add_zero],by simp⟩
 | c::l,a,r,h,h0,hv=>by
  rw[ba] at h
  split at h
  ·cases h
  ·rename_i hb
   by_cases ha:(CD a.2 (jw a.1 (X8 c).1)).2=0
   ·obtain⟨e1,e2,e3⟩:=aV ha
    obtain⟨q1,q2,q3⟩:=ol e2
    rw[e3] at h
    obtain⟨i1,i2,i3,i4⟩:=QU l _ r h h0 q2
    refine⟨e1,i2,?_,fun d hd=>?_⟩
    ·rw[i3,q3,RQ,Rat.add_assoc];rfl
    ·rcases List.mem_cons.1 hd with rfl | hd
     ·simpa using hb
     ·exact i4 d hd
   ·have:V (CD a.2 (jw a.1 (X8 c).1)).1=true:=by
     unfold CD at ha ⊢
     split
     ·exact dx
     ·split
      ·exact dx
      ·rename_i h1 h2;rw[if_neg h1,if_neg h2] at ha;exact absurd (by simpa using h2) ha
    exact absurd (QU l _ r h h0 this).1 ha
structure FIT (l:List (List B)) (s:SV):Prop where
 vc:∀ c∈l,VC c=true
 vs:VS s=true
 br:∀ c∈l,(pR c).2=0
 rate:RQ l<=RS s
theorem T3(h:rV l s=0):FIT l s:=by
 have hs:=JX h
 unfold rV at h
 split at h
 ·cases h
 ·rename_i hc
  simp only[Bool.or_eq_true,not_or,Bool.not_eq_true',Bool.not_eq_true] at hc
  obtain⟨⟨c1,c2⟩,_⟩:=hc
  have zq:∀ c∈l,VC c=true:=List.all_eq_true.1 (by simpa using c2)
  split at h
  ·rename_i e zy
   exfalso
   have:∀(l:List (List B)) (a:R×Int),ba l a = .inl e->e≠0:=by
    intro l
    induction l with
    | nil=>intro a h;cases h
    | cons c l ih=>
     intro a h
     rw[ba] at h
     split at h
     ·rename_i hb;injection h with h;subst h;exact hb
     ·exact ih _ h
   exact this l _ zy h
  ·rename_i r zy
   split at h
   ·rename_i hr;exact absurd h hr
   ·rename_i hr
    split at h
    ·cases h
    ·rename_i B9
     have Ec:r.2=0:=by simpa using hr
     obtain⟨_,i2,i3,i4⟩:=QU l _ r zy Ec dx
     refine⟨zq,hs,i4,?_⟩
     rw[K7 i2 (iQ hs).1] at B9
     have:val Z1=0:=by decide +kernel
     rw[this,Rat.zero_add] at i3
     have h5:val r.1<=val s.fR:=Rat.not_lt.1 fun h=>B9 (Yt.2 h)
     rw[i3] at h5;exact h5
theorem Vy(h:(DL l s).2=0):FIT l s/\V (DL l s).1=true/\(∀ p∈mD l [],(∀ c∈l,GR p=true)/\V p=true/\Qj l s (val p)<=val (DL l s).1)/\∃ p∈mD l [],val (DL l s).1=Qj l s (val p):=by
 unfold DL at h ⊢
 by_cases hc:rV l s=0
 ·rw[if_pos hc] at h ⊢
  have hf:=T3 hc
  obtain⟨h1,h2,p,h3,h4⟩:=T2 (f:=dv l s) (P:=mD l []) (fun e t he=>Ml he) (fun p hp=>(UF hf.vs hp).2.2.1) (by simp[mD]) h
  refine⟨hf,h2,fun q hq=>?_,p,h3,?_⟩
  ·obtain⟨a1,a2⟩:=h1 q hq
   obtain⟨b1,b2,b3,b4⟩:=UF hf.vs a1
   refine⟨fun c hc=>(b1 c hc).2,b2,?_⟩
   rw[<- b4];exact a2
  ·rw[h4];exact(UF hf.vs (h1 p h3).1).2.2.2
 ·rw[if_neg hc] at h;exact absurd h hc
end
section
variable {n:Int}
def WZ(n:Int):Rat:=Rat.divInt n 1
theorem ss(n:Int):WZ n=(n:Rat):=by
 unfold WZ
 first | exact Rat.divInt_one n | exact Rat.mkRat_one n | (show mkRat n 1=_;exact Rat.mkRat_one n) | simp[Rat.divInt] | (ext <;> simp[Rat.divInt])
theorem fI{m:Int}(h:m<=n):WZ m<=WZ n:=by rw[ss,ss];exact Rat.intCast_le_intCast.2 h
theorem sP(h:0<=n):0<=WZ n:=by have:=fI h;rwa [show WZ 0=0 by decide +kernel] at this
theorem pt(m n:Int):WZ (m+n)=WZ m+WZ n:=by rw[ss,ss,ss,Rat.intCast_add]
theorem ez(m n:Int):WZ (m*n)=WZ m*WZ n:=by rw[ss,ss,ss,Rat.intCast_mul]
theorem QV(n:Int):val ⟨n,1⟩=WZ n:=rfl
theorem TM{x:R}(hv:V x=true)(h:val x=WZ n):x=⟨n,1⟩:=by
 obtain⟨h1,h2⟩:=bQ hv
 rw[h,ss] at h1 h2
 have a1:n=x.fN:=h1
 have a2:(1:Int)=x.fD:=h2
 obtain⟨p,q⟩:=x
 simp only at a1 a2
 rw[a1,a2]
theorem T4{x:R}(hv:V x=true)(h:val x=WZ n):gw x=n:=by
 have e:=TM hv h
 obtain⟨f,h1,h2,h3,_⟩:=t6 hv
 unfold gw
 rw[h1]
 rw[e] at h2 h3
 simp only at h2 h3
 show f=n
 omega
theorem lV{w:Int}(h:1<=w/\w<=16):V ⟨1,w⟩=true/\0<val ⟨1,w⟩/\val ⟨1,w⟩*WZ w=1:=by
 have:w=1\/w=2\/w=3\/w=4\/w=5\/w=6\/w=7\/w=8\/w=9\/w=10\/w=11\/w=12\/w=13\/w=14\/w=15\/w=16:=by omega
 rcases this with rfl | rfl | rfl | rfl | rfl | rfl | rfl | rfl | rfl | rfl | rfl | rfl | rfl | rfl | rfl | rfl <;> decide +kernel
theorem WB{a b q:Rat}(h:a<=b)(hq:0<q):a / q<=b / q:=by
 rw[Rat.div_def,Rat.div_def]
 exact Rat.mul_le_mul_of_nonneg_right h (Rat.le_of_lt (Rat.inv_pos.2 hq))
theorem UG{σ w a:Rat}(h:σ*w=1):a / σ=a*w:=by
 have h0:σ≠0:=by rintro rfl;rw[Rat.zero_mul] at h;exact absurd h (by decide +kernel)
 have:σ⁻¹=w:=by
  have h1:σ⁻¹*(σ*w)=σ⁻¹:=by rw[h,Rat.mul_one]
  rw[<- Rat.mul_assoc,Rat.inv_mul_cancel _ h0,Rat.one_mul] at h1
  exact h1.symm
 rw[Rat.div_def,this]
end
section
variable {P:List Int}{l:List (List B)}{p:B×B}{t:Rat}{s:SV}{x n:Int}
theorem WE(h:0<ta p):bp p*ta p=eu p:=by
 unfold bp
 exact Rat.div_mul_cancel (by grind)
theorem bp_gt(h:0<ta p)(ht:vq t p.1<vq t p.2):t<bp p:=by
 have e:=WE h
 refine Rat.not_le.1 fun qm=>?_
 have:=Rat.mul_le_mul_of_nonneg_right qm (Rat.le_of_lt h)
 unfold vq at ht;unfold eu ta at *
 grind
theorem bp_le(h:0<ta p)(ht:vq t p.2<=vq t p.1):bp p<=t:=by
 have e:=WE h
 refine Rat.not_lt.1 fun nU=>?_
 have:=Rat.mul_lt_mul_of_pos_right nU h
 unfold vq at ht;unfold eu ta at *
 grind
theorem bp_lt(h:0<ta p)(ht:vq t p.2<vq t p.1):bp p<t:=by
 have e:=WE h
 refine Rat.not_le.1 fun qm=>?_
 have:=Rat.mul_le_mul_of_nonneg_right qm (Rat.le_of_lt h)
 unfold vq at ht;unfold eu ta at *
 grind
theorem T5(h:0<ta p)(ht:vq t p.1<=vq t p.2):t<=bp p:=by
 have e:=WE h
 refine Rat.not_lt.1 fun nU=>?_
 have:=Rat.mul_lt_mul_of_pos_right nU h
 unfold vq at ht;unfold eu ta at *
 grind
theorem bR:∀ {l:List B},(l.Pairwise fun x y=>bq x<bq y/\rq y<rq x)->∀ {x y:B},x∈l->y∈l->rq y<rq x->bq x<bq y
 | [],_,x,y,hx,_,_=>by simp at hx
 | z::l,h,x,y,hx,hy,hxy=>by
  obtain⟨h1,h2⟩:=List.pairwise_cons.1 h
  rcases List.mem_cons.1 hx with e | hx'
  ·subst e
   rcases List.mem_cons.1 hy with e | hy'
   ·subst e;grind
   ·exact(h1 y hy').1
  ·rcases List.mem_cons.1 hy with e | hy'
   ·subst e;have:=(h1 x hx').2;grind
   ·exact bR h2 hx' hy' hxy
def XG(c:List B)(q:Rat):Prop:=∃ p:B×B,p.1∈qD c/\p.2∈qD c/\bq p.1<bq p.2/\q=bp p
theorem stays{c:List B}(hc:∀ b∈c,GB b=true)(n9:c≠[]){x:Rat}(hx:0<=x):∃ b∈qD c,AT c x=vq x b/\
  (∀ lo:Rat,0<=lo->lo<x->(∀ q,XG c q->¬(lo<q/\q<=x))->AT c lo=vq lo b)/\
  (∀ hi:Rat,x<hi->(∀ q,XG c q->¬(x<=q/\q<hi))->AT c hi=vq hi b)/\
  ((∀ q,XG c q->¬x<=q)->∀ b'∈qD c,rq b<=rq b'):=by
 have hN:=Ge hc n9
 obtain⟨b,hb,eb⟩:=YC hN x
 have tK:∀ b'∈qD c,vq x b<=vq x b':=fun b' h=>by rw[<- eb];exact K8 h
 refine⟨b,hb,by rw[<- Vr hc n9 hx];exact eb,fun lo h0 xS w5=>?_,fun hi hhi w5=>?_,fun w5 b' hb'=>?_⟩
 ·rw[<- Vr hc n9 h0]
  refine Vp ⟨List.mem_map_of_mem hb,fun q hq=>?_⟩
  obtain⟨b',hb',rfl⟩:=List.mem_map.1 hq
  refine Rat.not_lt.1 fun nU=>?_
  have h1:=tK b' hb'
  have hr:rq b<rq b':=by
   refine Rat.not_le.1 fun qm=>?_
   have h2:=Rat.mul_le_mul_of_nonneg_right qm (show 0<=x-lo by grind)
   unfold vq at nU h1;grind
  have ET:=bR oa hb' hb hr
  have hD:0<ta (b',b):=by unfold ta;grind
  exact w5 _ ⟨(b',b),hb',hb,ET,rfl⟩ ⟨bp_gt (p:=(b',b)) hD nU,bp_le (p:=(b',b)) hD h1⟩
 ·have h0:0<=hi:=by grind
  rw[<- Vr hc n9 h0]
  refine Vp ⟨List.mem_map_of_mem hb,fun q hq=>?_⟩
  obtain⟨b',hb',rfl⟩:=List.mem_map.1 hq
  refine Rat.not_lt.1 fun nU=>?_
  have h1:=tK b' hb'
  have hr:rq b'<rq b:=by
   refine Rat.not_le.1 fun qm=>?_
   have h2:=Rat.mul_le_mul_of_nonneg_right qm (show 0<=hi-x by grind)
   unfold vq at nU h1;grind
  have ET:=bR oa hb hb' hr
  have hD:0<ta (b,b'):=by unfold ta;grind
  exact w5 _ ⟨(b,b'),hb,hb',ET,rfl⟩ ⟨T5 (p:=(b,b')) hD h1,bp_lt (p:=(b,b')) hD nU⟩
 ·refine Rat.not_lt.1 fun nU=>?_
  have ET:=bR oa hb hb' nU
  have hD:0<ta (b,b'):=by unfold ta;grind
  exact w5 _ ⟨(b,b'),hb,hb',ET,rfl⟩ (T5 (p:=(b,b')) hD (tK b' hb'))
theorem T6(h:∃ p∈P,p<=x):∃ lo∈P,lo<=x/\∀ p∈P,p<=x->p<=lo:=by
 obtain⟨p0,h0,h1⟩:=h
 have n9:(P.filter fun p=>decide (p<=x))≠[]:=List.ne_nil_of_mem (List.mem_filter.2 ⟨h0,decide_eq_true h1⟩)
 obtain⟨lo,xS,hm⟩:=aQ (fun p:Int => -(Rat.divInt p 1)) _ n9
 obtain⟨xS,h2⟩:=List.mem_filter.1 xS
 refine⟨lo,xS,of_decide_eq_true h2,fun p hp Bs=>?_⟩
 have:=hm p (List.mem_filter.2 ⟨hp,decide_eq_true Bs⟩)
 rcases Int.lt_or_le lo p with h3 | h3
 ·exfalso
  have h4:(0:Rat)<=Rat.divInt (p-lo-1) 1:=Rat.divInt_nonneg (by omega) (by decide)
  have h5:Rat.divInt p 1=Rat.divInt (p-lo-1) 1+Rat.divInt lo 1+1:=by
   have e1:(1:Rat)=Rat.divInt 1 1:=by decide +kernel
   rw[e1,Rat.divInt_add_divInt _ _ (by decide) (by decide),Rat.divInt_add_divInt _ _ (by decide) (by decide)]
   congr 1
   omega
  grind
 ·exact h3
theorem ex_hi(h:∃ p∈P,x<=p):∃ hi∈P,x<=hi/\∀ p∈P,x<=p->hi<=p:=by
 obtain⟨p0,h0,h1⟩:=h
 obtain⟨lo,h2,h3,h4⟩:=T6 (P:=P.map fun p => -p) (x := -x) ⟨-p0,List.mem_map.2 ⟨p0,h0,rfl⟩,by omega⟩
 obtain⟨p,hp,e⟩:=List.mem_map.1 h2
 refine⟨p,hp,by omega,fun q hq hqx=>?_⟩
 have:=h4 (-q) (List.mem_map.2 ⟨q,hq,rfl⟩) (by omega)
 omega
theorem eB(m n:Int):WZ m-WZ n=WZ (m-n):=by
 unfold WZ
 rw[Rat.divInt_sub_divInt _ _ (by decide) (by decide)]
 congr 1
 omega
theorem K9:WZ 1=1:=by decide +kernel
theorem bS{m:Int}(h:m<n):WZ m<WZ n:=by
 have h1:=fI (m:=m+1) (n:=n) (by omega)
 have h2:=eB (m+1) m
 rw[show m+1-m=1 by omega,K9] at h2
 grind
theorem lW{m:Int}(h:WZ m<WZ n):m<n:=by
 rcases Int.lt_or_le m n with h1 | h1
 ·exact h1
 ·have:=fI h1;grind
def ry(P:List Int)(q:Rat):Prop:=(∃ f∈P,WZ f<=q/\q<WZ (f+1))/\∃ e∈P,WZ (e-1)<q/\q<=WZ e
def aW(P:List Int)(U:Rat->Rat)(R:Rat):Prop:=∀ lo x:Int,0<=lo->lo<x->(∀ p∈P,p<=x->p<=lo)->∃ u0 u1:Rat,U (WZ lo)=u0+u1*WZ lo/\U (WZ x)=u0+u1*WZ x/\
 (∀ hi:Int,x<hi->(∀ p∈P,x<=p->hi<=p)->U (WZ hi)=u0+u1*WZ hi)/\((∀ p∈P,¬x<=p)->u1=R)
theorem QH(R:Rat):aW P (fun t=>R*t) R:=by
 intro lo x _ _ _
 exact⟨0,R,by grind,by grind,fun hi _ _=>by grind,fun _=>rfl⟩
def iD(R:Rat)(L:Int)(t:Rat):Rat:=if t<=WZ L then 0 else R*(t-WZ L)
theorem XH(R:Rat){L:Int}(hL:L∈P):aW P (iD R L) R:=by
 intro lo x h0 nU xS
 by_cases h:x<=L
 ·by_cases hx:x=L
  ·exfalso;have:=xS L hL (by omega);omega
  ·have hxL:x<L:=by omega
   refine⟨0,0,?_,?_,fun hi h1 h2=>?_,fun hn=>absurd h (hn L hL)⟩
   ·unfold iD;rw[if_pos (fI (by omega))];grind
   ·unfold iD;rw[if_pos (fI h)];grind
   ·have:=h2 L hL h
    unfold iD;rw[if_pos (fI this)];grind
 ·have hLl:=xS L hL (by omega)
  have key:∀ t:Int,L<=t->iD R L (WZ t) = -(R*WZ L)+R*WZ t:=by
   intro t ht
   unfold iD
   by_cases e:t=L
   ·rw[e,if_pos Rat.le_refl];grind
   ·rw[if_neg (Rat.not_le.2 (bS (by omega)))];grind
  exact⟨-(R*WZ L),R,key lo hLl,key x (by omega),fun hi h1 _=>key hi (by omega),fun _=>rfl⟩
theorem T7{P:List Int}:∀ {l:List (List B)},(∀ c∈l,VC c=true)->(∀ c∈l,∀ q,XG c q->ry P q)->∀ lo x:Int,0<=lo->lo<x->(∀ p∈P,p<=x->p<=lo)->
  ∃ u0 u1:Rat,TQ l (WZ lo)=u0+u1*WZ lo/\TQ l (WZ x)=u0+u1*WZ x/\(∀ hi:Int,x<hi->(∀ p∈P,x<=p->hi<=p)->TQ l (WZ hi)=u0+u1*WZ hi)/\((∀ p∈P,¬x<=p)->u1<=RQ l)
 | [],_,_,lo,x,_,_,_=>⟨0,0,by unfold TQ;grind,by unfold TQ;grind,fun hi _ _=>by unfold TQ;grind,fun _=>Rat.le_refl⟩
 | c::l,hv,hb,lo,x,h0,nU,xS=>by
  obtain⟨u0,u1,a1,a2,a3,a4⟩:=T7 (fun d hd=>hv d (List.mem_cons_of_mem _ hd)) (fun d hd=>hb d (List.mem_cons_of_mem _ hd)) lo x h0 nU xS
  have hc:=hv c (by simp)
  have hbc:=hb c (by simp)
  obtain⟨b,m,x1,l1,h1,r1⟩:=stays (l8 hc) (Wt hc) (sP (show 0<=x by omega))
  have noLo:∀ q,ry P q->¬(WZ lo<q/\q<=WZ x):=by
   rintro q ⟨_,e,he,e1,e2⟩ ⟨q1,q2⟩
   have:e-1<x:=lW (by grind)
   have h3:=xS e he (by omega)
   have:=fI h3
   grind
  have L1:=l1 (WZ lo) (sP h0) (bS nU) fun q hq=>noLo q (hbc q hq)
  refine⟨u0+bq b,u1+rq b,?_,?_,fun hi Ed g2=>?_,fun w5=>?_⟩
  ·rw[TQ,a1,L1];unfold vq;grind
  ·rw[TQ,a2,x1];unfold vq;grind
  ·have noHi:∀ q,ry P q->¬(WZ x<=q/\q<WZ hi):=by
    rintro q ⟨⟨f,hf,f1,f2⟩,_⟩ ⟨q1,q2⟩
    have:x<f+1:=lW (by grind)
    have h3:=g2 f hf (by omega)
    have:=fI h3
    grind
   have H1:=h1 (WZ hi) (bS Ed) fun q hq=>noHi q (hbc q hq)
   rw[TQ,a3 hi Ed g2,H1];unfold vq;grind
  ·have noB:∀ q,ry P q->¬WZ x<=q:=by
    rintro q ⟨⟨f,hf,f1,f2⟩,_⟩ q1
    have:x<f+1:=lW (by grind)
    exact w5 f hf (by omega)
   have R1:=r1 fun q hq=>noB q (hbc q hq)
   have h5:=a4 w5
   obtain⟨⟨d,hd,e⟩,_⟩:=QT hc
   obtain⟨a,ha,qm⟩:=nn (l8 hc) hd
   have:=R1 a ha
   have:=qm.2
   rw[RQ,e];grind
theorem Gp{U:Rat->Rat}{R:Rat}(hv:∀ c∈l,VC c=true)(hP0:0∈P)(EU:∀ p∈P,0<=p)(hb:∀ c∈l,∀ q,XG c q->ry P q)(hU:aW P U R)(hR:RQ l<=R)(hx:0<=x):
  ∃ p∈P,TQ l (WZ x)-U (WZ x)<=TQ l (WZ p)-U (WZ p):=by
 obtain⟨lo,xS,hlox,EW⟩:=T6 (P:=P) (x:=x) ⟨0,hP0,hx⟩
 by_cases e:lo=x
 ·exact⟨lo,xS,by rw[e];exact Rat.le_refl⟩
 have nU:lo<x:=by omega
 have EX:=EU lo xS
 obtain⟨u0,u1,ul,ux,uh,ur⟩:=hU lo x EX nU EW
 obtain⟨v0,v1,vl,vx,vh,vr⟩:=T7 hv hb lo x EX nU EW
 have wl:=bS nU
 have key:∀ {ρ t t':Rat},0<=ρ->t<=t'->ρ*t<=ρ*t':=fun h h'=>Rat.mul_le_mul_of_nonneg_left h' h
 by_cases hhi:∃ p∈P,x<=p
 ·obtain⟨hi,g0,g1,g2⟩:=ex_hi hhi
  by_cases e2:hi=x
  ·exact⟨hi,g0,by rw[e2];exact Rat.le_refl⟩
  have Ed:x<hi:=by omega
  have uH:=uh hi Ed g2
  have vH:=vh hi Ed g2
  have wh:=bS Ed
  rcases(Rat.le_total:u1<=v1\/v1<=u1) with hs | hs
  ·refine⟨hi,g0,?_⟩
   rw[vx,vH,ux,uH]
   have:=key (ρ:=v1-u1) (by grind) (Rat.le_of_lt wh)
   grind
  ·refine⟨lo,xS,?_⟩
   rw[vx,vl,ux,ul]
   have:=key (ρ:=u1-v1) (by grind) (Rat.le_of_lt wl)
   grind
 ·have w5:∀ p∈P,¬x<=p:=fun p hp h=>hhi ⟨p,hp,h⟩
  have h1:=vr w5
  have hu:=ur w5
  refine⟨lo,xS,?_⟩
  rw[vx,vl,ux,ul]
  have:=key (ρ:=u1-v1) (by grind) (Rat.le_of_lt wl)
  grind
theorem dy{d:Int}(hn:0<n)(hd:0<d):(0:Rat)<Rat.divInt n d:=by
 have h0:(0:Rat)<=Rat.divInt n d:=Rat.divInt_nonneg (by omega) (by omega)
 refine Rat.not_le.1 fun h=>?_
 have e:Rat.divInt n d=Rat.divInt 0 d:=by rw[Rat.zero_divInt];exact Rat.le_antisymm h h0
 have:=(Rat.divInt_eq_divInt_iff (by omega) (by omega)).1 e
 rw[Int.zero_mul] at this
 have:=Int.mul_pos hn hd
 omega
theorem aX{f N D:Int}(hD:0<D)(h:f*D<=N):WZ f<=Rat.divInt N D:=by
 have h1:(0:Rat)<=Rat.divInt (N-f*D) D:=Rat.divInt_nonneg (by omega) (by omega)
 have h2:Rat.divInt N D-WZ f=Rat.divInt (N-f*D) D:=by
  unfold WZ
  rw[Rat.divInt_sub_divInt _ _ (by omega) (by decide)]
  congr 1 <;> omega
 grind
theorem bT{f N D:Int}(hD:0<D)(h:N<f*D):Rat.divInt N D<WZ f:=by
 have h1:(0:Rat)<Rat.divInt (f*D-N) D:=dy (by omega) hD
 have h2:WZ f-Rat.divInt N D=Rat.divInt (f*D-N) D:=by
  unfold WZ
  rw[Rat.divInt_sub_divInt _ _ (by decide) (by omega)]
  congr 1 <;> omega
 grind
theorem Mz{x:R}(hx:V x=true):∃ f e:Int,qL x=some f/\kx x=some e/\ry [f,e] (val x)/\f<=e/\(0<=x.fN->0<=f)/\∀ M:Int,x.fN<=M*x.fD->e<=M:=by
 have hv:=hx
 simp only[V,decide_eq_true_eq] at hv
 have hD:0<x.fD:=by omega
 obtain⟨f,ef,f1,f2,_⟩:=t6 hx
 obtain⟨e,ee,e1,e2,_⟩:=Vt hx
 refine⟨f,e,ef,ee,⟨⟨f,by simp,aX hD f1,bT hD f2⟩,⟨e,by simp,?_,?_⟩⟩,?_,fun h=>?_,fun M h=>?_⟩
 ·have h1:(0:Rat)<Rat.divInt (x.fN-(e-1)*x.fD) x.fD:=dy (by omega) hD
  have h2:val x-WZ (e-1)=Rat.divInt (x.fN-(e-1)*x.fD) x.fD:=by
   unfold WZ val
   rw[Rat.divInt_sub_divInt _ _ (by omega) (by decide)]
   congr 1 <;> omega
  grind
 ·have h1:(0:Rat)<=Rat.divInt (e*x.fD-x.fN) x.fD:=Rat.divInt_nonneg (by omega) (by omega)
  have h2:WZ e-val x=Rat.divInt (e*x.fD-x.fN) x.fD:=by
   unfold WZ val
   rw[Rat.divInt_sub_divInt _ _ (by decide) (by omega)]
   congr 1 <;> omega
  grind
 ·refine Int.not_lt.1 fun h=>?_
  have:=Int.mul_le_mul_of_nonneg_right (show e+1<=f by omega) (show 0<=x.fD by omega)
  have e3:(e+1)*x.fD=e*x.fD+x.fD:=by rw[Int.add_mul,Int.one_mul]
  omega
 ·refine Int.not_lt.1 fun h'=>?_
  have:=Int.mul_le_mul_of_nonneg_right (show f+1<=0 by omega) (show 0<=x.fD by omega)
  rw[Int.zero_mul] at this
  omega
 ·refine Int.not_lt.1 fun h'=>?_
  have:=Int.mul_le_mul_of_nonneg_right (show M<=e-1 by omega) (show 0<=x.fD by omega)
  omega
theorem KW{Q:List Int}{q:Rat}(h:∀ p∈P,p∈Q)(hb:ry P q):ry Q q:=by
 obtain⟨⟨f,hf,f1⟩,⟨e,he,e1⟩⟩:=hb
 exact⟨⟨f,h f hf,f1⟩,⟨e,h e he,e1⟩⟩
def fc(l:List R):List Int:=l.flatMap fun x=>[gw x,nS x]
def bU(l:List (List B))(more:List R):List Int:=0::((l.flatMap fun c=>fc (pR c).1)++fc more)
theorem Gq(l:List R):oy l=(fc l).map fun n=>(⟨n,1⟩:R):=by
 unfold oy fc
 rw[List.map_flatMap]
 rfl
theorem eC(l:List (List B))(more:List R):mD l more=(bU l more).map fun n=>(⟨n,1⟩:R):=by
 unfold mD bU
 rw[List.map_cons,List.map_append,List.map_flatMap,<- Gq]
 simp only[Gq]
 rfl
theorem BRK_0{c:List B}(hc:VC c=true)(h:(pR c).2=0):(∀ v∈(pR c).1,V v=true)/\∀ q,XG c q->∃ v∈(pR c).1,val v=q:=by
 have hb:=aS hc
 unfold pR at *
 split at hb
 ·obtain⟨r,e,_,h2,h3,_⟩:=hb
  rw[e]
  refine⟨h3,fun q hq=>?_⟩
  obtain⟨p,p1,p2,p3,rfl⟩:=hq
  refine⟨sn (bp p),(h2 _).2 ⟨p,⟨p1,p2⟩,by unfold bl;exact decide_eq_true p3,rfl⟩,ue _⟩
 ·rw[hb] at h;cases h
theorem Sn{v:R}(hv:V v=true):ry [gw v,nS v] (val v):=by
 obtain⟨f,e,h1,h2,h3,_⟩:=Mz hv
 unfold gw nS
 rw[h1,h2];exact h3
theorem WF{more:List R}(hf:∀ c∈l,VC c=true/\(pR c).2=0):∀ c∈l,∀ q,XG c q->ry (bU l more) q:=by
 intro c hc q hq
 obtain⟨h1,h2⟩:=BRK_0 (hf c hc).1 (hf c hc).2
 obtain⟨v,hv,rfl⟩:=h2 q hq
 refine KW (fun p hp=>?_) (Sn (h1 v hv))
 unfold bU fc
 refine List.mem_cons_of_mem _ (List.mem_append_left _ ?_)
 exact List.mem_flatMap.2 ⟨c,hc,List.mem_flatMap.2 ⟨v,hv,hp⟩⟩
theorem Ka(h:VS s=true):0<RS s:=by
 obtain⟨h1,h2,_⟩:=iQ h
 have hv:=h1
 simp only[V,decide_eq_true_eq] at hv
 exact dy h2 (by omega)
theorem aY(h:0<RS s):Qj l s t=(TQ l t-RS s*t) / RS s+LS s:=by
 unfold Qj
 have h0:RS s≠0:=by grind
 have:(TQ l t-RS s*t) / RS s=TQ l t / RS s-t:=by
  rw[Rat.div_def,Rat.div_def,Rat.sub_eq_add_neg,Rat.add_mul,Rat.neg_mul,Rat.mul_comm (RS s) t,Rat.mul_assoc,Rat.mul_inv_cancel _ h0,Rat.mul_one,<- Rat.sub_eq_add_neg]
 rw[this]
theorem MA(h:(DL l s).2=0)(hx:0<=x):Qj l s (WZ x)<=val (DL l s).1:=by
 obtain⟨f,_,f3,_⟩:=Vy h
 have hR:=Ka f.vs
 have n8:∀ p∈bU l [],(⟨p,1⟩:R)∈mD l []:=fun p hp=>by rw[eC];exact List.mem_map_of_mem hp
 have zt:∀ p∈bU l [],0<=p:=fun p hp=>by
  by_cases hl:l=[]
  ·subst hl;unfold bU fc at hp;simp at hp;omega
  ·obtain⟨c,hc⟩:=List.exists_mem_of_ne_nil _ hl
   have:=(f3 _ (n8 p hp)).1 c hc
   unfold GR at this
   simp only[Bool.and_eq_true,decide_eq_true_eq] at this
   exact this.2
 obtain⟨p,hp,qm⟩:=Gp (U:=fun t=>RS s*t) (R:=RS s) f.vc (P:=bU l []) (by unfold bU;simp) zt (WF fun c hc=>⟨f.vc c hc,f.br c hc⟩) (QH _) f.rate hx
 have h2:=(f3 _ (n8 p hp)).2.2
 refine Rat.le_trans ?_ h2
 rw[aY hR,aY hR]
 have h3:=WB qm hR
 show _<=(TQ l (WZ p)-RS s*WZ p) / RS s+LS s
 grind
def X9(l:List (List B))(s:SV)(t:Rat):Rat:=TQ l t-if t<=LS s then 0 else RS s*(t-LS s)
theorem T8{x:R}(h:V x=true):val x<WZ 1073741825:=by
 obtain⟨f,_,_,h2,h3⟩:=t6 h
 have hD:0<x.fD:=by simp only[V,decide_eq_true_eq] at h;omega
 have h4:val x<WZ (f+1):=bT hD h2
 have h5:=fI (show f+1<=1073741825 by omega)
 grind
theorem UH{t:R}(hs:VS s=true)(ht:V t=true)(h:(bv l s 0 t).2=0):(∀ c∈l,VC c=true/\GR t=true)/\V (bv l s 0 t).1=true/\val (bv l s 0 t).1=X9 l s (val t)/\TQ l (val t)<WZ 1073741825:=by
 have hL:=(iQ hs).2.2.1
 have z1:val Z1=0:=by decide +kernel
 unfold bv at h ⊢
 simp only at h ⊢
 rw[K7 ht hL] at h ⊢
 by_cases hc:uZ (val t) (val s.fL)<=0
 ·rw[if_pos hc] at h ⊢
  obtain⟨⟨_,d1⟩,d2⟩:=QS l _ h
  obtain⟨d3,d4⟩:=d2 dx
  refine⟨fun c hc=>by have:=WA (d1 c hc);exact⟨this.1,this.2.1⟩,d3,?_,?_⟩
  ·rw[d4];unfold X9 LS
   rw[if_pos (cB.1 hc),z1];grind
  ·have:=T8 d3
   rw[d4,z1] at this;grind
 ·rw[if_neg hc] at h ⊢
  obtain⟨a1,a2,a3⟩:=aV h
  rw[a3]
  obtain⟨b1,b2,b3⟩:=aV a1
  rw[b3] at a2 ⊢
  obtain⟨c1,c2,c3⟩:=aV b1
  rw[c3] at b2 a2 ⊢
  obtain⟨⟨_,d1⟩,d2⟩:=QS l _ c1
  obtain⟨d3,d4⟩:=d2 dx
  obtain⟨e1,e2,e3⟩:=YA c2
  obtain⟨f1,f2,f3⟩:=YB b2
  obtain⟨g1,g2,g3⟩:=YA a2
  refine⟨fun c hc=>by have:=WA (d1 c hc);exact⟨this.1,this.2.1⟩,g2,?_,?_⟩
  ·rw[g3,f3,e3,d4];unfold X9 LS RS
   rw[if_neg (fun h=>hc (cB.2 h)),z1];grind
  ·have:=T8 d3
   rw[d4,z1] at this;grind
theorem Fs(hp:∀ p∈mD l [s.fL],V p=true)(h:(BL l s).2=0):FIT l s/\V (BL l s).1=true/\(∀ p∈mD l [s.fL],(∀ c∈l,GR p=true)/\X9 l s (val p)<=val (BL l s).1)/\∃ p∈mD l [s.fL],val (BL l s).1=X9 l s (val p)/\TQ l (val p)<WZ 1073741825:=by
 unfold BL at h ⊢
 by_cases hc:rV l s=0
 ·rw[if_pos hc] at h ⊢
  have hf:=T3 hc
  have key:∀ e t,e≠0->(fun e t=>if V t=true then bv l s e t else if e≠0 then(Z1,e) else(Z1,1)) e t=(Z1,e):=fun e t he=>by
   simp only
   split
   ·exact Mm he
   ·first | exact if_pos he | rfl
  have EY:∀(P:List R) (st:List R×Int),(∀ p∈P,V p=true)->P.foldl (kV (bv l s)) st=P.foldl (kV (fun e t=>if V t=true then bv l s e t else if e≠0 then(Z1,e) else(Z1,1))) st:=by
   intro P
   induction P with
   | nil=>intro st _;rfl
   | cons p P ih=>
    intro st hP
    rw[List.foldl_cons,List.foldl_cons,ih _ fun q hq=>hP q (List.mem_cons_of_mem _ hq)]
    congr 1
    unfold kV
    simp only[hP p (by simp),if_true]
  have hmx:iZ (bv l s) (mD l [s.fL])=iZ (fun e t=>if V t=true then bv l s e t else if e≠0 then(Z1,e) else(Z1,1)) (mD l [s.fL]):=by
   unfold iZ;rw[EY _ _ hp]
  rw[hmx] at h ⊢
  obtain⟨h1,h2,p,h3,h4⟩:=T2 (P:=mD l [s.fL]) key (fun p hq=>by
   by_cases hv:V p=true
   ·rw[if_pos hv] at hq ⊢;exact(UH hf.vs hv hq).2.1
   ·rw[if_neg hv] at hq;simp at hq) (by simp[mD]) h
  refine⟨hf,h2,fun q hq=>?_,p,h3,?_⟩
  ·obtain⟨a1,a2⟩:=h1 q hq
   rw[if_pos (hp q hq)] at a1 a2
   obtain⟨b1,b2,b3,_⟩:=UH hf.vs (hp q hq) a1
   refine⟨fun c hc=>(b1 c hc).2,?_⟩
   rw[<- b3];exact a2
  ·have a1:=(h1 p h3).1
   rw[if_pos (hp p h3)] at a1 h4
   rw[h4]
   exact(UH hf.vs (hp p h3) a1).2.2
 ·rw[if_neg hc] at h;exact absurd h hc
end
section
variable {l m:List (List B)}{s:SV}{x y:R}{t:Rat}{r:R×Int}
theorem MB{L:Int}(hL:s.fL=⟨L,1⟩)(hp:∀ p∈mD l [s.fL],V p=true/\0<=p.fN)(h:(BL l s).2=0){x:Int}(hx:0<=x):X9 l s (WZ x)<=val (BL l s).1:=by
 obtain⟨f,_,f3,_⟩:=Fs (fun p hq=>(hp p hq).1) h
 have hR:=Ka f.vs
 have hVL:=(iQ f.vs).2.2.1
 have Ee:LS s=WZ L:=by unfold LS;rw[hL];rfl
 have n8:∀ p∈bU l [s.fL],(⟨p,1⟩:R)∈mD l [s.fL]:=fun p hq=>by rw[eC];exact List.mem_map_of_mem hq
 have Dk:L∈bU l [s.fL]:=by
  have:gw s.fL=L:=T4 hVL (by rw[hL];rfl)
  unfold bU fc
  refine List.mem_cons_of_mem _ (List.mem_append_right _ ?_)
  simp[this]
 obtain⟨p,hq,qm⟩:=Gp (U:=iD (RS s) L) (R:=RS s) f.vc (P:=bU l [s.fL]) (by unfold bU;simp) (fun p hq=>(hp _ (n8 p hq)).2) (WF fun c hc=>⟨f.vc c hc,f.br c hc⟩) (XH _ Dk) f.rate hx
 have h2:=(f3 _ (n8 p hq)).2
 refine Rat.le_trans ?_ h2
 unfold X9
 rw[Ee]
 exact qm
def su(e:Int):Prop:=e=0\/e=3
theorem Ft(q:Rat):su (mk q).2/\((mk q).2=0->V (mk q).1=true):=by
 unfold mk su
 split
 ·rename_i h;exact⟨.inl rfl,fun _=>rU h⟩
 ·exact⟨.inr rfl,fun h=>by cases h⟩
theorem QW(hx:V x=true)(hy:V y=true):su (jw x y).2:=by unfold jw;rw[Wp hx hy];exact(Ft _).1
theorem Fu(hx:V x=true)(hy:V y=true):su (b9 x y).2:=by unfold b9;rw[aL hx hy];exact(Ft _).1
theorem T9(hx:V x=true)(hy:V y=true):su (pQ x y).2:=by unfold pQ;rw[Wq hx hy];exact(Ft _).1
theorem DIV_3(h0:y.fN≠0)(hx:V x=true)(hy:V y=true):su (nR x y).2:=by unfold nR;rw[aM hx hy h0];exact(Ft _).1
def bV(r:R×Int):Prop:=(r.2=0/\V r.1=true)\/r.2=3
theorem bV.e(h:bV r):su r.2:=h.elim (fun h => .inl h.1) .inr
theorem ATF_3{c:List B}{t:R}(hc:VC c=true)(ht:GR t=true):su (iC c t).2/\((iC c t).2=0->V (iC c t).1=true):=by
 refine⟨?_,fun h=>(WA h).2.2.1⟩
 unfold iC
 rw[Fe hc ht]
 show su (if _ then _ else _:R×Int).2
 split
 ·exact .inl rfl
 ·exact .inr rfl
theorem Fv{t:R}(ht:GR t=true):∀(l:List (List B)) (a:R×Int),(∀ c∈l,VC c=true)->bV a->bV (rx t l a)
 | [],a,_,ha=>ha
 | c::l,a,hl,ha=>by
  rw[rx]
  refine Fv ht l _ (fun d hd=>hl d (List.mem_cons_of_mem _ hd)) ?_
  rcases ha with⟨a1,a2⟩ | a1
  ·rw[if_pos a1]
   obtain⟨h1,h2⟩:=ATF_3 (hl c (by simp)) ht
   rcases h1 with h1 | h1
   ·rw[h1]
    rcases QW a2 (h2 h1) with h3 | h3
    ·rw[Vu h3];exact .inl ⟨h3,(ol h3).2.1⟩
    ·rw[JU (by omega)];exact .inr h3
   ·rw[l9 (by omega)];exact .inr h1
  ·rw[if_neg (by omega),a1,l9 (by omega)];exact .inr rfl
theorem bc{e:Int}(he:su e)(hr:e=0->bV r):bV (CD e r):=by
 rcases he with rfl | rfl
 ·rcases hr rfl with h | h
  ·rw[Vu h.1];exact .inl h
  ·rw[JU (by omega)];exact .inr h
 ·rw[l9 (by omega)];exact .inr rfl
theorem bV.val(h:bV r)(h0:r.2=0):V r.1=true:=by
 rcases h with h | h
 ·exact h.2
 ·omega
theorem dv_3{t:R}(hl:∀ c∈l,VC c=true)(hs:VS s=true)(ht:GR t=true):bV (dv l s 0 t):=by
 obtain⟨s1,s2,s3,s4⟩:=iQ hs
 have h1:=Fv ht l (Z1,0) hl (.inl ⟨rfl,dx⟩)
 unfold dv
 simp only
 have h2:bV (CD (rx t l (Z1,0)).2 (nR (rx t l (Z1,0)).1 s.fR)):=bc h1.e fun e=>by
  rcases DIV_3 (show s.fR.fN≠0 by omega) (h1.val e) s1 with h | h
  ·exact .inl ⟨h,(T1 (by omega) h).2.1⟩
  ·exact .inr h
 have h3:=bc (r:=b9 (CD (rx t l (Z1,0)).2 (nR (rx t l (Z1,0)).1 s.fR)).1 t) h2.e fun e=>by
  rcases Fu (h2.val e) (mL ht) with h | h
  ·exact .inl ⟨h,(YA h).2.1⟩
  ·exact .inr h
 exact bc h3.e fun e=>by
  rcases QW (h3.val e) s3 with h | h
  ·exact .inl ⟨h,(ol h).2.1⟩
  ·exact .inr h
theorem bv_3{t:R}(hl:∀ c∈l,VC c=true)(hs:VS s=true)(ht:GR t=true):bV (bv l s 0 t):=by
 obtain⟨s1,s2,s3,s4⟩:=iQ hs
 have h1:=Fv ht l (Z1,0) hl (.inl ⟨rfl,dx⟩)
 unfold bv
 simp only
 split
 ·exact h1
 ·have h2:bV (CD (rx t l (Z1,0)).2 (b9 t s.fL)):=bc h1.e fun e=>by
   rcases Fu (mL ht) s3 with h | h
   ·exact .inl ⟨h,(YA h).2.1⟩
   ·exact .inr h
  have h3:=bc (r:=pQ s.fR (CD (rx t l (Z1,0)).2 (b9 t s.fL)).1) h2.e fun e=>by
   rcases T9 s1 (h2.val e) with h | h
   ·exact .inl ⟨h,(YB h).2.1⟩
   ·exact .inr h
  exact bc h3.e fun e=>by
   have e1:(rx t l (Z1,0)).2=0:=by
    by_cases hz:(rx t l (Z1,0)).2=0
    ·exact hz
    ·rw[l9 hz] at e;rw[l9 hz] at e;exact absurd e hz
   rcases Fu (h1.val e1) (h3.val e) with h | h
   ·exact .inl ⟨h,(YA h).2.1⟩
   ·exact .inr h
theorem Ta{f:Int->R->R×Int}(hf:∀ e t,e≠0->f e t=(Z1,e)){P:List R}(hp:∀ p∈P,su (f 0 p).2):su (iZ f P).2:=by
 have key:∀(P:List R) (s:List R×Int),(∀ p∈P,su (f 0 p).2)->su s.2->su (P.foldl (kV f) s).2:=by
  intro P
  induction P with
  | nil=>intro s _ h;exact h
  | cons p P ih=>
   intro s hP hs
   rw[List.foldl_cons]
   refine ih _ (fun q hq=>hP q (List.mem_cons_of_mem _ hq)) ?_
   show su (f s.2 p).2
   rcases hs with h | h
   ·rw[h];exact hP p (by simp)
   ·rw[h,hf _ _ (by omega)];exact .inr rfl
 have h:=key P ([],0) hp (.inl rfl)
 unfold iZ
 simp only
 split
 ·exact h
 ·exact .inl rfl
theorem Gr{c:List B}(hc:VC c=true):su (pR c).2/\∀ v∈(pR c).1,V v=true/\0<=v.fN:=by
 have hb:=aS hc
 unfold pR
 split at hb
 ·obtain⟨r,e,_,h2,h3,_⟩:=hb
  rw[e]
  refine⟨.inl rfl,fun v hv=>⟨h3 v hv,?_⟩⟩
  obtain⟨p,⟨p1,p2⟩,p3,rfl⟩:=(h2 v).1 hv
  have h4:bq p.1<bq p.2:=of_decide_eq_true p3
  have h5:=aR oa p1 p2 h4
  have hD:0<ta p:=by unfold ta;grind
  have hA:0<=eu p:=by unfold eu;grind
  have:0<=bp p:=by
   unfold bp
   have:=WB hA hD
   rwa [Rat.div_def,Rat.zero_mul] at this
  show 0<=(sn (bp p)).fN
  unfold sn
  exact Rat.num_nonneg.2 this
 ·rw[hb];exact⟨.inr rfl,by simp⟩
theorem fc_GR{v:R}(h:V v=true/\0<=v.fN):GR ⟨gw v,1⟩=true/\GR ⟨nS v,1⟩=true:=by
 have hv:=h.1
 simp only[V,decide_eq_true_eq] at hv
 obtain⟨f,h1,h2,h3,h4,h5⟩:=t6 h.1
 obtain⟨e,g1,g2,g3,g4,g5⟩:=Vt h.1
 have hw:∀ n:Int,0<=n->n<=1073741824->GR ⟨n,1⟩=true:=fun n h0 hn=>by
  unfold GR V
  rw[Bool.and_eq_true,decide_eq_true_eq,decide_eq_true_eq]
  exact⟨⟨by show(1:Int)<=1;omega,by show(1:Int)<=1073741824;omega,by show -1073741824<=n;omega,by show n<=1073741824;omega,Nat.gcd_one_right _⟩,h0⟩
 unfold gw nS
 rw[h1,g1]
 refine⟨hw f ?_ h5,hw e ?_ g5⟩
 ·refine Int.not_lt.1 fun hc=>?_
  have:=Int.mul_le_mul_of_nonneg_right (show f+1<=0 by omega) (show 0<=v.fD by omega)
  rw[Int.zero_mul] at this
  omega
 ·refine Int.not_lt.1 fun hc=>?_
  have:=Int.mul_le_mul_of_nonneg_right (show e <= -1 by omega) (show 0<=v.fD by omega)
  omega
theorem aZ{more:List R}(hl:∀ c∈l,VC c=true)(hm:∀ x∈more,V x=true/\0<=x.fN):∀ p∈mD l more,GR p=true:=by
 intro p hp
 unfold mD at hp
 have key:∀ r:List R,(∀ v∈r,V v=true/\0<=v.fN)->∀ p∈oy r,GR p=true:=by
  intro r hr p hp
  unfold oy at hp
  obtain⟨v,hv,hp⟩:=List.mem_flatMap.1 hp
  have:=fc_GR (hr v hv)
  simp only[List.mem_cons,List.not_mem_nil,or_false] at hp
  rcases hp with rfl | rfl
  ·exact this.1
  ·exact this.2
 rcases List.mem_cons.1 hp with rfl | hp
 ·decide +kernel
 ·rcases List.mem_append.1 hp with hp | hp
  ·obtain⟨c,hc,hp⟩:=List.mem_flatMap.1 hp
   exact key _ (Gr (hl c hc)).2 p hp
  ·exact key _ hm p hp
theorem Tb:∀(l:List (List B)) (a:R×Int),(∀ c∈l,VC c=true)->bV a->(∃ e,ba l a = .inl e/\e=3)\/∃ r,ba l a = .inr r/\bV r
 | [],a,_,ha => .inr ⟨a,rfl,ha⟩
 | c::l,a,hl,ha=>by
  rw[ba]
  have hc:=hl c (by simp)
  rcases(Gr hc).1 with h | h
  ·rw[if_neg (by omega)]
   refine Tb l _ (fun d hd=>hl d (List.mem_cons_of_mem _ hd)) (bc ha.e fun e=>?_)
   rcases QW (ha.val e) (UB hc).2 with h | h
   ·exact .inl ⟨h,(ol h).2.1⟩
   ·exact .inr h
  ·rw[if_pos (by omega)];exact .inl ⟨_,rfl,h⟩
theorem Tc(DJ:l.length<=32)(hl:∀ c∈l,VC c=true)(hs:VS s=true)(hr:RQ l<=RS s):su (rV l s):=by
 unfold rV
 have zq:l.all VC=true:=List.all_eq_true.2 hl
 rw[if_neg (by simp[zq,hs];omega)]
 rcases Tb l (Z1,0) hl (.inl ⟨rfl,dx⟩) with⟨e,h1,h2⟩ | ⟨r,h1,h2⟩
 ·rw[h1];exact .inr h2
 ·rw[h1]
  simp only
  rcases h2 with h2 | h2
  ·rw[if_neg (by simp[h2.1])]
   obtain⟨_,i2,i3,_⟩:=QU l _ r h1 h2.1 dx
   have z1:val Z1=0:=by decide +kernel
   rw[z1,Rat.zero_add] at i3
   rw[if_neg]
   ·exact .inl rfl
   ·rw[K7 i2 (iQ hs).1,i3]
    exact fun h=>absurd (Yt.1 h) (Rat.not_lt.2 hr)
  ·rw[if_pos (by omega),h2];exact .inr rfl
theorem DL_3(DJ:l.length<=32)(hl:∀ c∈l,VC c=true)(hs:VS s=true)(hr:RQ l<=RS s):su (DL l s).2:=by
 unfold DL
 split
 ·exact Ta (fun e t he=>Ml he) fun p hp=>(dv_3 hl hs (aZ hl (by simp) p hp)).e
 ·exact Tc DJ hl hs hr
theorem BL_3(DJ:l.length<=32)(hl:∀ c∈l,VC c=true)(hs:VS s=true)(hr:RQ l<=RS s):su (BL l s).2:=by
 obtain⟨_,_,s3,s4⟩:=iQ hs
 unfold BL
 split
 ·exact Ta (fun e t he=>Mm he) fun p hp=>(bv_3 hl hs (aZ hl (by simp[s3,s4]) p hp)).e
 ·exact Tc DJ hl hs hr
def CLE(a b:List B):Prop:=VC a=true/\VC b=true/\∀ y∈b,∃ x∈a,iY x y
theorem CLE.at{a b:List B}(h:CLE a b)(ht:0<=t):AT a t<=AT b t:=by
 obtain⟨y,hy,e⟩:=YC (Wt h.2.1) t
 obtain⟨x,hx,qm⟩:=h.2.2 y hy
 rw[e]
 exact Rat.le_trans (K8 hx) (UZ qm ht)
theorem CLE.rr{a b:List B}(h:CLE a b):rr a<=rr b:=by
 obtain⟨⟨y,hy,e⟩,_⟩:=QT h.2.1
 obtain⟨x,hx,qm⟩:=h.2.2 y hy
 rw[e]
 exact Rat.le_trans ((QT h.1).2 x hx) qm.2
theorem MC{c:List B}(hc:VC c=true)(ht:0<=t):0<=AT c t:=by
 obtain⟨y,hy,e⟩:=YC (Wt hc) t
 rw[e];exact Se (l8 hc y hy) ht
theorem So{c:List B}(hc:VC c=true):0<=rr c:=by
 obtain⟨⟨y,hy,e⟩,_⟩:=QT hc
 rw[e];exact aN (iP (l8 hc y hy))
inductive LEC:List (List B)->List (List B)->Prop
 | nil:LEC [] []
 | both {a b:List B} {l m:List (List B)} (h:CLE a b) (t:LEC l m):LEC (a::l) (b::m)
 | skip {b:List B} {l m:List (List B)} (h:VC b=true) (t:LEC l m):LEC l (b::m)
theorem LEC.len(h:LEC l m):l.length<=m.length:=by
 induction h with
 | nil=>simp
 | both _ _ ih=>simpa using ih
 | skip _ _ ih=>simp;omega
theorem LEC.vc(h:LEC l m):∀ c∈l,VC c=true:=by
 induction h with
 | nil=>simp
 | both h _ ih=>
  intro c hc
  rcases List.mem_cons.1 hc with rfl | hc
  ·exact h.1
  ·exact ih c hc
 | skip _ _ ih=>exact ih
theorem LEC.tq(h:LEC l m)(ht:0<=t):TQ l t<=TQ m t:=by
 induction h with
 | nil=>exact Rat.le_refl
 | both h _ ih=>unfold TQ;have:=h.at ht;grind
 | skip h _ ih=>rw[show ∀(b:List B) m,TQ (b::m) t=AT b t+TQ m t from fun _ _=>rfl];have:=MC h ht;grind
theorem LEC.rq(h:LEC l m):RQ l<=RQ m:=by
 induction h with
 | nil=>exact Rat.le_refl
 | both h _ ih=>unfold RQ;have:=h.rr;grind
 | skip h _ ih=>rw[show ∀(b:List B) m,RQ (b::m)=rr b+RQ m from fun _ _=>rfl];have:=So h;grind
theorem LEC.app{l' m':List (List B)}(h:LEC l m)(k:LEC l' m'):LEC (l++l') (m++m'):=by
 induction h with
 | nil=>exact k
 | both h _ ih=>exact .both h ih
 | skip h _ ih=>exact .skip h ih
theorem Sp(h:∀ c∈l,VC c=true)(ht:0<=t):0<=TQ l t:=by
 induction l with
 | nil=>exact Rat.le_refl
 | cons c l ih=>
  have h1:=MC (h c (by simp)) ht
  have h2:=ih fun d hd=>h d (List.mem_cons_of_mem _ hd)
  unfold TQ;grind
theorem TN(h:rV l s=0):l.length<=32:=by
 unfold rV at h
 split at h
 ·cases h
 ·rename_i hc
  simp only[Bool.or_eq_true,not_or,decide_eq_true_eq] at hc
  omega
theorem Kb(h:(DL l s).2=0):l.length<=32:=by
 unfold DL at h
 split at h
 ·rename_i hc;exact TN hc
 ·rename_i hc;exact absurd h hc
theorem Gs(h:LEC l m)(hm:(DL m s).2=0):(DL l s).2=3\/((DL l s).2=0/\V (DL l s).1=true/\0<=val (DL l s).1/\V (DL m s).1=true/\val (DL l s).1<=val (DL m s).1):=by
 obtain⟨f,f1,_,_⟩:=Vy hm
 have DJ:=Kb hm
 have hl:=h.len
 rcases DL_3 (s:=s) (by omega) h.vc f.vs (Rat.le_trans h.rq f.rate) with h0 | h3
 ·refine .inr ⟨h0,?_⟩
  obtain⟨g,g1,g2,p,g3,g4⟩:=Vy h0
  have hR:=Ka f.vs
  have Ee:0<=LS s:=by
   obtain⟨_,_,a3,a4⟩:=iQ f.vs
   exact aN (by unfold GR;rw[a3];simpa using a4)
  refine⟨g1,?_,f1,?_⟩
  ·have hz:=(g2 Z1 (by simp[mD])).2.2
   have z1:val Z1=0:=by decide +kernel
   rw[z1] at hz
   refine Rat.le_trans ?_ hz
   rw[aY hR]
   have h5:=Sp h.vc (Rat.le_refl (a:=0))
   have h6:=WB (show(0:Rat)<=TQ l 0-RS s*0 by grind) hR
   rw[Rat.div_def,Rat.zero_mul] at h6
   grind
  ·rw[g4]
   have hp:=aZ h.vc (by simp) p g3
   rw[eC] at g3
   obtain⟨n,hn,rfl⟩:=List.mem_map.1 g3
   have hn0:0<=n:=by
    unfold GR at hp
    simp only[Bool.and_eq_true,decide_eq_true_eq] at hp
    exact hp.2
   refine Rat.le_trans ?_ (MA hm hn0)
   rw[QV,aY hR,aY hR]
   have h5:=h.tq (sP hn0)
   have h6:=WB (show TQ l (WZ n)-RS s*WZ n<=TQ m (WZ n)-RS s*WZ n by grind) hR
   grind
 ·exact .inl h3
theorem TO{L:Int}(hL:s.fL=⟨L,1⟩)(h:LEC l m)(hmv:∀ c∈m,VC c=true)(hd:(DL m s).2=0)(hm:(BL m s).2=0):(BL l s).2=3\/((BL l s).2=0/\V (BL l s).1=true/\V (BL m s).1=true/\val (BL l s).1<=val (BL m s).1):=by
 obtain⟨f,_,_,_⟩:=Vy hd
 obtain⟨_,_,a3,a4⟩:=iQ f.vs
 have DJ:=Kb hd
 have hl:=h.len
 have hpt:∀ {l:List (List B)},(∀ c∈l,VC c=true)->∀ p∈mD l [s.fL],V p=true/\0<=p.fN:=fun hl p hp=>by
  have:=aZ hl (by simp[a3,a4]) p hp
  exact⟨mL this,by unfold GR at this;simp only[Bool.and_eq_true,decide_eq_true_eq] at this;exact this.2⟩
 rcases BL_3 (s:=s) (by omega) h.vc f.vs (Rat.le_trans h.rq f.rate) with h0 | h3
 ·refine .inr ⟨h0,?_⟩
  obtain⟨g,g1,g2,p,g3,g4,_⟩:=Fs (fun p hp=>(hpt h.vc p hp).1) h0
  obtain⟨_,k1,_⟩:=Fs (fun p hp=>(hpt hmv p hp).1) hm
  refine⟨g1,k1,?_⟩
  rw[g4]
  have hp:=hpt h.vc p g3
  rw[eC] at g3
  obtain⟨n,hn,rfl⟩:=List.mem_map.1 g3
  refine Rat.le_trans ?_ (MB hL (hpt hmv) hm hp.2)
  rw[QV]
  unfold X9
  have h5:=h.tq (sP hp.2)
  have h6:∀ q:Rat,TQ l (WZ n)-q<=TQ m (WZ n)-q:=fun q=>by grind
  exact h6 _
 ·exact .inl h3
theorem XI(hx:V x=true)(hy:V y=true)(h:val x<=val y):gw x<=gw y:=by
 obtain⟨f,h1,h2,h3,_⟩:=t6 hx
 obtain⟨g,g1,g2,g3,_⟩:=t6 hy
 have hvx:=hx;have hvy:=hy
 simp only[V,decide_eq_true_eq] at hvx hvy
 unfold gw
 rw[h1,g1]
 show f<=g
 have a1:WZ f<=val x:=aX (by omega) h2
 have a2:val y<WZ (g+1):=bT (by omega) g3
 have:f<g+1:=lW (by grind)
 omega
theorem Gt(hx:V x=true)(h:0<=val x):0<=gw x:=by
 have h0:gw (⟨0,1⟩:R)=0:=T4 (by decide +kernel) (by decide +kernel)
 have:=XI (x:=⟨0,1⟩) (by decide +kernel) hx (by rw[show val (⟨0,1⟩:R)=0 by decide +kernel];exact h)
 omega
theorem Y0(hx:V x=true) : -1073741824<=gw x/\gw x<=1073741824:=by
 obtain⟨f,h1,_,_,h4,h5⟩:=t6 hx
 unfold gw;rw[h1];exact⟨h4,h5⟩
end
section
variable {x y1 y2:R}{p:Pl}{bu:BM}
def GV(x:R):Prop:=V x=true/\0<=val x
def RL(x y:R):Prop:=GV x/\GV y/\val x<=val y
theorem GV.gr(h:GV x):GR x=true:=by
 unfold GR
 rw[h.1,Bool.true_and,decide_eq_true_eq]
 obtain⟨h1,h2⟩:=bQ h.1
 rw[<- h1];exact Rat.num_nonneg.2 h.2
theorem GR.gv(h:GR x=true):GV x:=⟨mL h,aN h⟩
theorem nu{n:Int}(h:0<=n/\n<=1073741824):GV ⟨n,1⟩:=GR.gv (by
 unfold GR V
 rw[Bool.and_eq_true,decide_eq_true_eq,decide_eq_true_eq]
 exact⟨⟨by show(1:Int)<=1;omega,by show(1:Int)<=1073741824;omega,by show -1073741824<=n;omega,by show n<=1073741824;omega,Nat.gcd_one_right _⟩,h.1⟩)
theorem RL_w{m n:Int}(h:0<=m/\m<=n/\n<=1073741824):RL ⟨m,1⟩ ⟨n,1⟩:=⟨nu (by omega),nu (by omega),fI h.2.1⟩
theorem GV.refl(h:GV x):RL x x:=⟨h,h,Rat.le_refl⟩
theorem Vz(r:R×Int):(DO 3 r).2=3:=by unfold DO;simp
theorem Fx(r:R×Int):(DO 0 r).2=r.2:=by unfold DO;simp
theorem Kc{x1 x2:R}(h1:RL x1 y1)(h2:RL x2 y2)(hy:(DO 0 (jw y1 y2)).2=0):(DO 0 (jw x1 x2)).2=3\/((DO 0 (jw x1 x2)).2=0/\RL (DO 0 (jw x1 x2)).1 (DO 0 (jw y1 y2)).1):=by
 obtain⟨_,e2,e3⟩:=oz hy
 obtain⟨_,a2,a3⟩:=ol e2
 rw[Fx]
 rcases QW h1.1.1 h2.1.1 with h | h
 ·refine .inr ⟨h,?_⟩
  obtain⟨_,_,f3⟩:=oz (e:=0) (r:=jw x1 x2) (by rw[Fx];exact h)
  obtain⟨_,b2,b3⟩:=ol h
  rw[e3,f3]
  have p1:=h1.1.2;have p2:=h2.1.2;have p3:=h1.2.1.2;have p4:=h2.2.1.2;have p5:=h1.2.2;have p6:=h2.2.2
  exact⟨⟨b2,by rw[b3];grind⟩,⟨a2,by rw[a3];grind⟩,by rw[b3,a3];grind⟩
 ·exact .inl h
theorem Sq{x1 x2:R}(h1:RL x1 y1)(h2:RL x2 y2)(hy:(DO 0 (pQ y1 y2)).2=0):(DO 0 (pQ x1 x2)).2=3\/((DO 0 (pQ x1 x2)).2=0/\RL (DO 0 (pQ x1 x2)).1 (DO 0 (pQ y1 y2)).1):=by
 obtain⟨_,e2,e3⟩:=oz hy
 obtain⟨_,a2,a3⟩:=YB e2
 rw[Fx]
 rcases T9 h1.1.1 h2.1.1 with h | h
 ·refine .inr ⟨h,?_⟩
  obtain⟨_,_,f3⟩:=oz (e:=0) (r:=pQ x1 x2) (by rw[Fx];exact h)
  obtain⟨_,b2,b3⟩:=YB h
  rw[e3,f3]
  refine⟨⟨b2,by rw[b3];exact Rat.mul_nonneg h1.1.2 h2.1.2⟩,⟨a2,by rw[a3];exact Rat.mul_nonneg h1.2.1.2 h2.2.1.2⟩,?_⟩
  rw[b3,a3]
  exact Rat.le_trans (Rat.mul_le_mul_of_nonneg_right h1.2.2 h2.1.2) (Rat.mul_le_mul_of_nonneg_left h2.2.2 h1.2.1.2)
 ·exact .inl h
theorem VB(h1:GV y1)(h2:GV y2)(hy:(DO 0 (jw y1 y2)).2=0):GV (DO 0 (jw y1 y2)).1/\val y1<=val (DO 0 (jw y1 y2)).1:=by
 obtain⟨_,e2,e3⟩:=oz hy
 obtain⟨_,a2,a3⟩:=ol e2
 rw[e3]
 have p1:=h1.2;have p2:=h2.2
 exact⟨⟨a2,by rw[a3];grind⟩,by rw[a3];grind⟩
theorem TP(h1:GV y1)(h2:GV y2)(hy:(DO 0 (pQ y1 y2)).2=0):GV (DO 0 (pQ y1 y2)).1:=by
 obtain⟨_,e2,e3⟩:=oz hy
 obtain⟨_,a2,a3⟩:=YB e2
 rw[e3]
 exact⟨a2,by rw[a3];exact Rat.mul_nonneg h1.2 h2.2⟩
theorem YD{c:Cf}{v:Int}(hv:gV c)(h:0<=v/\v<c.yg.length):GV (RT c v):=by
 obtain⟨⟨h1,h2⟩,h3,h4⟩:=hv _ (wn h.1 h.2)
 have hf:fits (Rat.divInt (mx c v) (nth c.yg v).yK)=true:=dw (by omega) ⟨by unfold mx;omega,by omega⟩
 unfold RT
 rw[Yv hf]
 exact⟨rU hf,by rw[ue];exact divInt_nonneg (by unfold mx;omega) (by omega)⟩
structure LESS (c d:Cf) (rs nf:List (List Hop)):Prop where
 m:d.fM=c.fM
 s:d.fS=c.fS
 l:d.fK=c.fK
 vc:gV c
 vd:gV d
 lc:rs.length=c.yg.length
 ld:nf.length=d.yg.length
 len:nf.length=rs.length
 rt:∀ v:Int,0<=v->v<rs.length->nth nf v=nth rs v\/nth nf v=[]
 mx:∀ v:Int,0<=v->v<rs.length->mx d v<=mx c v
 rate:∀ v:Int,0<=v->v<rs.length->val (RT d v)<=val (RT c v)
structure GSR (s2 s1:GS):Prop where
 e2:s2.e=0
 e1:s1.e=0
 w:0<=s2.wide/\s2.wide<=s1.wide/\s1.wide<=72
 b:RL s2.b s1.b
 r:RL s2.r s1.r
theorem XJ{c:Cf}{s:GS}{v:Int}(h:(ob c bu p s v).e=0):s.e=0/\(DO s.e (jw s.b (xC bu ⟨v,p⟩ ⟨0,0⟩))).2=0:=by
 have h1:=(oz (show(DO (DO s.e (jw s.b (xC bu ⟨v,p⟩ ⟨0,0⟩))).2 (jw s.r (RT c v))).2=0 from h)).1
 exact⟨(oz h1).1,h1⟩
theorem lb{c:Cf}{bu:BM}{p:Pl}:∀(l:List Int) (s:GS),(l.foldl (ob c bu p) s).e=0->s.e=0
 | [],s,h=>h
 | v::l,s,h=>(XJ (lb l _ h)).1
theorem YF{c:Cf}{bu:BM}{p:Pl}:∀(l:List Int) (s:GS),s.e=3->(l.foldl (ob c bu p) s).e=3
 | [],s,h=>h
 | v::l,s,h=>by
  refine YF l _ ?_
  show(DO (DO s.e _).2 _).2=3
  rw[h,Vz,Vz]
theorem Qk{c d:Cf}{rs nf:List (List Hop)}(hL:LESS c d rs nf){bu2 bu1:BM}{l2 l1:List Int}(AM:l2.Sublist l1):∀ {s2 s1:GS},GSR s2 s1->(∀ x∈l1,(0<=x/\x<rs.length)/\GV (xC bu1 ⟨x,p⟩ ⟨0,0⟩))->(∀ x∈l2,RL (xC bu2 ⟨x,p⟩ ⟨0,0⟩) (xC bu1 ⟨x,p⟩ ⟨0,0⟩))->
  (l1.foldl (ob c bu1 p) s1).e=0->(l2.foldl (ob d bu2 p) s2).e=3\/GSR (l2.foldl (ob d bu2 p) s2) (l1.foldl (ob c bu1 p) s1):=by
 induction AM with
 | slnil=>intro s2 s1 h _ _ _;exact .inr h
 | cons x hs ih=>
  intro s2 s1 h h1 h2 he
  rw[List.foldl_cons] at he ⊢
  have hb:=lb _ _ he
  obtain⟨x1,x2⟩:=h1 x (by simp)
  have Bn:=(XJ hb).2
  rw[h.e1] at Bn
  have hr:(DO (DO s1.e (jw s1.b (xC bu1 ⟨x,p⟩ ⟨0,0⟩))).2 (jw s1.r (RT c x))).2=0:=hb
  rw[h.e1,Bn] at hr
  have g1:=VB h.b.2.1 x2 Bn
  have g2:=VB h.r.2.1 (YD hL.vc ⟨x1.1,by have:=hL.lc;omega⟩) hr
  have hmx:=hL.vc _ (wn x1.1 (show x<(c.yg.length:Int) by have:=hL.lc;omega))
  refine ih ⟨h.e2,hb,?_,?_,?_⟩ (fun y hy=>h1 y (List.mem_cons_of_mem _ hy)) h2 he
  ·have:=h.w
   refine⟨this.1,?_,?_⟩
   ·show s2.wide<=max s1.wide (mx c x);omega
   ·show max s1.wide (mx c x)<=72;unfold mx;omega
  ·show RL s2.b (DO s1.e (jw s1.b (xC bu1 ⟨x,p⟩ ⟨0,0⟩))).1
   rw[h.e1]
   exact⟨h.b.1,g1.1,Rat.le_trans h.b.2.2 g1.2⟩
  ·show RL s2.r (DO (DO s1.e (jw s1.b (xC bu1 ⟨x,p⟩ ⟨0,0⟩))).2 (jw s1.r (RT c x))).1
   rw[h.e1,Bn]
   exact⟨h.r.1,g2.1,Rat.le_trans h.r.2.2 g2.2⟩
 | cons_cons x hs ih=>
  intro s2 s1 h h1 h2 he
  rw[List.foldl_cons,List.foldl_cons] at *
  have hb:=lb _ _ he
  obtain⟨x1,x2⟩:=h1 x (by simp)
  have Bn:=(XJ hb).2
  rw[h.e1] at Bn
  have hr:(DO (DO s1.e (jw s1.b (xC bu1 ⟨x,p⟩ ⟨0,0⟩))).2 (jw s1.r (RT c x))).2=0:=hb
  rw[h.e1,Bn] at hr
  have hxd:0<=x/\x<(d.yg.length:Int):=⟨x1.1,by have:=hL.ld;have:=hL.len;omega⟩
  have hxc:0<=x/\x<(c.yg.length:Int):=⟨x1.1,by have:=hL.lc;omega⟩
  have AJ:RL (RT d x) (RT c x):=⟨YD hL.vd hxd,YD hL.vc hxc,hL.rate x x1.1 x1.2⟩
  have Aw:=hL.vc _ (wn hxc.1 hxc.2)
  have hmd:=hL.vd _ (wn hxd.1 hxd.2)
  have Dm:=hL.mx x x1.1 x1.2
  rcases Kc h.b (h2 x (by simp)) Bn with k | ⟨k1,k2⟩
  ·refine .inl (YF _ _ ?_)
   show(DO (DO s2.e (jw s2.b (xC bu2 ⟨x,p⟩ ⟨0,0⟩))).2 (jw s2.r (RT d x))).2=3
   rw[h.e2,k,Vz]
  ·rcases Kc h.r AJ hr with k | ⟨k3,k4⟩
   ·refine .inl (YF _ _ ?_)
    show(DO (DO s2.e (jw s2.b (xC bu2 ⟨x,p⟩ ⟨0,0⟩))).2 (jw s2.r (RT d x))).2=3
    rw[h.e2,k1];exact k
   ·refine ih ⟨?_,hb,?_,?_,?_⟩ (fun y hy=>h1 y (List.mem_cons_of_mem _ hy)) (fun y hy=>h2 y (List.mem_cons_of_mem _ hy)) he
    ·show(DO (DO s2.e (jw s2.b (xC bu2 ⟨x,p⟩ ⟨0,0⟩))).2 (jw s2.r (RT d x))).2=0
     rw[h.e2,k1];exact k3
    ·have:=h.w
     refine⟨?_,?_,?_⟩
     ·show 0<=max s2.wide (mx d x);omega
     ·show max s2.wide (mx d x)<=max s1.wide (mx c x);omega
     ·show max s1.wide (mx c x)<=72;unfold mx;omega
    ·show RL (DO s2.e (jw s2.b (xC bu2 ⟨x,p⟩ ⟨0,0⟩))).1 (DO s1.e (jw s1.b (xC bu1 ⟨x,p⟩ ⟨0,0⟩))).1
     rw[h.e1,h.e2];exact k2
    ·show RL (DO (DO s2.e (jw s2.b (xC bu2 ⟨x,p⟩ ⟨0,0⟩))).2 (jw s2.r (RT d x))).1 (DO (DO s1.e (jw s1.b (xC bu1 ⟨x,p⟩ ⟨0,0⟩))).2 (jw s1.r (RT c x))).1
     rw[h.e1,h.e2,Bn,k1];exact k4
structure LSR (s2 s1:List (List B)×Int):Prop where
 e2:s2.2=0
 e1:s1.2=0
 l:LEC s2.1 s1.1
theorem Kd{c:Cf}{lk:List (Int×List Int)}{s:List (List B)×Int}{q:Int}(h:(fF c lk bu p s q).2=0):s.2=0:=by
 unfold fF at h
 split at h
 ·exact h
 ·exact lb _ _ h
theorem cq{c:Cf}{lk:List (Int×List Int)}{bu:BM}{p:Pl}:∀(l:List Int) (s:List (List B)×Int),(l.foldl (fF c lk bu p) s).2=0->s.2=0
 | [],s,h=>h
 | v::l,s,h=>Kd (cq l _ h)
theorem lst_3{c:Cf}{lk:List (Int×List Int)}{s:List (List B)×Int}{q:Int}(h:s.2=3):(fF c lk bu p s q).2=3:=by
 unfold fF
 split
 ·exact h
 ·exact YF _ _ h
theorem VD{c:Cf}{lk:List (Int×List Int)}{bu:BM}{p:Pl}:∀(l:List Int) (s:List (List B)×Int),s.2=3->(l.foldl (fF c lk bu p) s).2=3
 | [],s,h=>h
 | v::l,s,h=>VD l _ (lst_3 h)
theorem Fy{y:R}(hx:GV x)(hy:GV y):GB ⟨x,y⟩=true:=by unfold GB;rw[hx.gr,hy.gr];rfl
theorem VC2{y z w:R}(hx:GV x)(hy:GV y)(hz:GV z)(hw:GV w):VC [(⟨x,y⟩:B),⟨z,w⟩]=true:=
 UY (fun b hb=>by
  simp only[List.mem_cons,List.not_mem_nil,or_false] at hb
  rcases hb with rfl | rfl
  ·exact Fy hx hy
  ·exact Fy hz hw) (by simp) (by simp)
theorem YG{c d:Cf}{rs nf:List (List Hop)}(hL:LESS c d rs nf){p:Pl}{bu2 bu1:BM}{lk2 lk1:List (Int×List Int)}(zO:∀ q:Int,∀ x∈xC lk1 q [],1<=(nth c.fK q).yr/\(nth c.fK q).yr<=16)(AM:∀ q,(xC lk2 q []).Sublist (xC lk1 q []))(h1:∀ q,∀ x∈xC lk1 q [],(0<=x/\x<rs.length)/\GV (xC bu1 ⟨x,p⟩ ⟨0,0⟩))(h2:∀ q,∀ x∈xC lk2 q [],RL (xC bu2 ⟨x,p⟩ ⟨0,0⟩) (xC bu1 ⟨x,p⟩ ⟨0,0⟩)):∀(l:List Int) (s2 s1:List (List B)×Int),LSR s2 s1->(l.foldl (fF c lk1 bu1 p) s1).2=0->
  (l.foldl (fF d lk2 bu2 p) s2).2=3\/LSR (l.foldl (fF d lk2 bu2 p) s2) (l.foldl (fF c lk1 bu1 p) s1)
 | [],s2,s1,h,_ => .inr h
 | q::l,s2,s1,h,he=>by
  rw[List.foldl_cons] at he
  rw[List.foldl_cons,List.foldl_cons]
  have hb:=cq _ _ he
  have z0:GV (⟨0,1⟩:R):=nu (by omega)
  by_cases hq1:xC lk1 q []=[]
  ·have Bi:xC lk2 q []=[]:=by have:=AM q;rw[hq1] at this;exact List.sublist_nil.1 this
   have e1:fF c lk1 bu1 p s1 q=s1:=by unfold fF;rw[if_pos hq1]
   have e2:fF d lk2 bu2 p s2 q=s2:=by unfold fF;rw[if_pos Bi]
   rw[e1] at he ⊢;rw[e2]
   exact YG hL zO AM h1 h2 l s2 s1 h he
  ·obtain⟨x0,hx0⟩:=List.exists_mem_of_ne_nil _ hq1
   obtain⟨w1,w2⟩:=zO q x0 hx0
   obtain⟨sv1,sv2,_⟩:=lV ⟨w1,w2⟩
   have gsl:GV (⟨1,(nth c.fK q).yr⟩:R):=⟨sv1,Rat.le_of_lt sv2⟩
   have EZ:((xC lk1 q []).foldl (ob c bu1 p) ⟨0,s1.2,⟨0,1⟩,⟨0,1⟩⟩).e=0:=by
    unfold fF at hb;rw[if_neg hq1] at hb;exact hb
   have BI:∀ s2e,s2e=0->GSR ⟨0,s2e,⟨0,1⟩,⟨0,1⟩⟩ ⟨0,s1.2,⟨0,1⟩,⟨0,1⟩⟩:=fun s2e e=>⟨e,h.e1,by simp,z0.refl,z0.refl⟩
   by_cases Bi:xC lk2 q []=[]
   ·have e2:fF d lk2 bu2 p s2 q=s2:=by unfold fF;rw[if_pos Bi]
    rw[e2]
    refine YG hL zO AM h1 h2 l s2 _ ⟨h.e2,hb,?_⟩ he
    rcases Qk hL (l2:=[]) (bu2:=bu2) (List.nil_sublist _) (BI 0 rfl) (h1 q) (by simp) EZ with k | k
    ·cases k
    ·unfold fF;rw[if_neg hq1]
     have:=h.l.app (l':=[]) (.skip (VC2 k.b.2.1 k.r.2.1 (nu (n:=((xC lk1 q []).foldl (ob c bu1 p) ⟨0,s1.2,⟨0,1⟩,⟨0,1⟩⟩).wide) (by have hw:=k.w;simp only[List.foldl_nil] at hw;omega)) gsl) .nil)
     rw[List.append_nil] at this
     exact this
   ·rcases Qk hL (AM q) (BI s2.2 h.e2) (h1 q) (h2 q) EZ with k | k
    ·refine .inl (VD _ _ ?_)
     unfold fF;rw[if_neg Bi];exact k
    ·refine YG hL zO AM h1 h2 l _ _ ⟨?_,hb,?_⟩ he
     ·unfold fF;rw[if_neg Bi];exact k.e2
     ·unfold fF;rw[if_neg hq1,if_neg Bi]
      refine h.l.app (.both ⟨?_,?_,?_⟩ .nil)
      ·rw[hL.l];exact VC2 k.b.1 k.r.1 (nu (by have:=k.w;omega)) gsl
      ·exact VC2 k.b.2.1 k.r.2.1 (nu (by have:=k.w;omega)) gsl
      ·intro y hy
       simp only[List.mem_cons,List.not_mem_nil,or_false] at hy
       rcases hy with rfl | rfl
       ·refine⟨_,List.mem_cons_self ..,?_⟩
        exact⟨k.b.2.2,k.r.2.2⟩
       ·refine⟨_,List.mem_cons_of_mem _ (List.mem_singleton.2 rfl),fI k.w.2.1,?_⟩
        rw[hL.l];exact Rat.le_refl
end
section
variable {p:Pl}{v:Int}{rs:List (List Hop)}{de:DM}{s:CS}
def gi(rs:List (List Hop))(p:Pl)(v:Int):Hop×Bool:=ky (nth rs v) p.ya
def rN(c:Cf)(rs:List (List Hop))(de:DM)(p:Pl)(e v:Int):R×Int:=DO e (pQ (RT c v) ⟨xC de (pk (gi rs p v).1) 0,1⟩)
def pX(c:Cf)(rs:List (List Hop))(de:DM)(p:Pl)(e v:Int)(bu:BM):R×Int:=DO (rN c rs de p e v).2 (jw (xC bu ⟨v,pk (gi rs p v).1⟩ ⟨0,0⟩) (rN c rs de p e v).1)
theorem iE{c:Cf}(h:qp p (nth rs v)=false):kh c rs de p s v=s:=by unfold kh;simp only[h,Bool.false_eq_true,if_false]
theorem cD{c:Cf}(h:qp p (nth rs v)=true)(hg:(gi rs p v).2=false):kh c rs de p s v=⟨s.own++[[⟨⟨mx c v,1⟩,RT c v⟩]],max s.most (mx c v),s.e,s.lk,w4 s.bu ⟨v,p⟩ ⟨mx c v,1⟩⟩:=by
 unfold gi at hg;unfold kh;simp only[h,hg,Bool.false_eq_true,if_false,if_true]
theorem eD{c:Cf}(h:qp p (nth rs v)=true)(hg:(gi rs p v).2=true):kh c rs de p s v =
  ⟨s.own,max s.most (mx c v),(pX c rs de p s.e v s.bu).2,w4 s.lk (gi rs p v).1.fQ (xC s.lk (gi rs p v).1.fQ []++[v]),w4 s.bu ⟨v,p⟩ (pX c rs de p s.e v s.bu).1⟩:=by
 unfold pX rN;unfold gi at hg ⊢;unfold kh;simp only[h,hg,if_true]
theorem Ke{c:Cf}(h:(kh c rs de p s v).e=0):s.e=0:=by
 cases hu:qp p (nth rs v) with
 | false=>rw[iE hu] at h;exact h
 | true=>
  cases hg:(gi rs p v).2 with
  | false=>rw[cD hu hg] at h;exact h
  | true=>
   rw[eD hu hg] at h
   have h1:(pX c rs de p s.e v s.bu).2=0:=h
   unfold pX at h1
   have h2:=(oz h1).1
   unfold rN at h2
   exact(oz h2).1
theorem WG{c:Cf}{rs:List (List Hop)}{de:DM}{p:Pl}:∀(l:List Int) (s:CS),(l.foldl (kh c rs de p) s).e=0->s.e=0
 | [],s,h=>h
 | v::l,s,h=>Ke (WG l _ h)
theorem cst_3{c:Cf}(h:s.e=3):(kh c rs de p s v).e=3:=by
 cases hu:qp p (nth rs v) with
 | false=>rw[iE hu];exact h
 | true=>
  cases hg:(gi rs p v).2 with
  | false=>rw[cD hu hg];exact h
  | true=>
   rw[eD hu hg]
   show(pX c rs de p s.e v s.bu).2=3
   unfold pX rN
   rw[h,Vz,Vz]
theorem Gu{c:Cf}{rs:List (List Hop)}{de:DM}{p:Pl}:∀(l:List Int) (s:CS),s.e=3->(l.foldl (kh c rs de p) s).e=3
 | [],s,h=>h
 | v::l,s,h=>Gu l _ (cst_3 h)
structure PRE (c d:Cf) (rs nf:List (List Hop)) (p:Pl) (bu2 bu1:BM) (zi xV:DM):Prop where
 g1:∀ v:Int,0<=v->v<rs.length->qp p (nth rs v)=true->(gi rs p v).2=true->pk (gi rs p v).1≠p/\GV (xC bu1 ⟨v,pk (gi rs p v).1⟩ ⟨0,0⟩)/\0<=xC xV (pk (gi rs p v).1) 0/\xC xV (pk (gi rs p v).1) 0<=1073741824
 g2:∀ v:Int,0<=v->v<rs.length->qp p (nth nf v)=true->(gi nf p v).2=true->RL (xC bu2 ⟨v,pk (gi nf p v).1⟩ ⟨0,0⟩) (xC bu1 ⟨v,pk (gi nf p v).1⟩ ⟨0,0⟩)/\0<=xC zi (pk (gi nf p v).1) 0/\xC zi (pk (gi nf p v).1) 0<=xC xV (pk (gi nf p v).1) 0
structure SR (rs nf:List (List Hop)) (p:Pl) (bu2 bu1:BM) (v:Int) (s2 s1:CS):Prop where
 e2:s2.e=0
 e1:s1.e=0
 own:LEC s2.own s1.own
 most:0<=s2.most/\s2.most<=s1.most/\s1.most<=72
 lk:∀ q,(xC s2.lk q []).Sublist (xC s1.lk q [])
 lk1:∀ q,∀ x∈xC s1.lk q [],(0<=x/\x<v)/\qp p (nth rs x)=true/\(gi rs p x).2=true/\(gi rs p x).1.fQ=q
 lk2:∀ q,∀ x∈xC s2.lk q [],qp p (nth nf x)=true
 b1:∀ x:Int,0<=x->x<v->qp p (nth rs x)=true->GV (xC s1.bu ⟨x,p⟩ ⟨0,0⟩)
 b2:∀ x:Int,0<=x->x<v->qp p (nth nf x)=true->RL (xC s2.bu ⟨x,p⟩ ⟨0,0⟩) (xC s1.bu ⟨x,p⟩ ⟨0,0⟩)
 k1:∀(x:Int) (q:Pl),q≠p->xC s1.bu ⟨x,q⟩ ⟨0,0⟩=xC bu1 ⟨x,q⟩ ⟨0,0⟩
 k2:∀(x:Int) (q:Pl),q≠p->xC s2.bu ⟨x,q⟩ ⟨0,0⟩=xC bu2 ⟨x,q⟩ ⟨0,0⟩
theorem VC1{x y:R}(hx:GV x)(hy:GV y):VC [(⟨x,y⟩:B)]=true:=UY (fun b hb=>by rw[List.mem_singleton.1 hb];exact Fy hx hy) (by simp) (by simp)
theorem lf{bu:BM}{x:Int}{q:Pl}{b:R}(h:q≠p):xC (w4 bu ⟨v,p⟩ b) (⟨x,q⟩:iR) ⟨0,0⟩=xC bu ⟨x,q⟩ ⟨0,0⟩:=by
 rw[jh,if_neg (fun e=>h (by injection e))]
theorem pw{bu:BM}{x:Int}{b:R}:xC (w4 bu ⟨v,p⟩ b) (⟨x,p⟩:iR) ⟨0,0⟩=if x=v then b else xC bu ⟨x,p⟩ ⟨0,0⟩:=by
 rw[jh]
 by_cases h:x=v
 ·subst h;rw[if_pos rfl,if_pos rfl]
 ·rw[if_neg h,if_neg (fun e=>h (by injection e))]
theorem TR{c d:Cf}{nf:List (List Hop)}(hL:LESS c d rs nf){bu2 bu1:BM}{zi xV:DM}(hP:PRE c d rs nf p bu2 bu1 zi xV)(h0:0<=v)(h1:v<rs.length){s2 s1:CS}(h:SR rs nf p bu2 bu1 v s2 s1)(he:(kh c rs xV p s1 v).e=0):
  (kh d nf zi p s2 v).e=3\/SR rs nf p bu2 bu1 (v+1) (kh d nf zi p s2 v) (kh c rs xV p s1 v):=by
 have hvc:0<=v/\v<(c.yg.length:Int):=⟨h0,by have:=hL.lc;omega⟩
 have hvd:0<=v/\v<(d.yg.length:Int):=⟨h0,by have:=hL.ld;have:=hL.len;omega⟩
 have Aw:=hL.vc _ (wn hvc.1 hvc.2)
 have hmd:=hL.vd _ (wn hvd.1 hvd.2)
 have Dm:=hL.mx v h0 h1
 have AJ:RL (RT d v) (RT c v):=⟨YD hL.vd hvd,YD hL.vc hvc,hL.rate v h0 h1⟩
 have AN:RL ⟨mx d v,1⟩ ⟨mx c v,1⟩:=RL_w (by unfold mx at *;omega)
 cases hu:qp p (nth rs v) with
 | false=>
  have AF:qp p (nth nf v)=false:=by
   rcases hL.rt v h0 h1 with e | e
   ·rw[e];exact hu
   ·rw[e];rfl
  rw[iE hu,iE AF]
  exact .inr ⟨h.e2,h.e1,h.own,h.most,h.lk,fun q x hx=>by have:=h.lk1 q x hx;exact⟨by omega,this.2⟩,h.lk2,
   fun x x0 x1 hx=>by
    by_cases e:x=v
    ·rw[e,hu] at hx;cases hx
    ·exact h.b1 x x0 (by omega) hx,
   fun x x0 x1 hx=>by
    by_cases e:x=v
    ·rw[e,AF] at hx;cases hx
    ·exact h.b2 x x0 (by omega) hx,h.k1,h.k2⟩
 | true=>
  cases hg:(gi rs p v).2 with
  | false=>
   rw[cD hu hg]
   cases AF:qp p (nth nf v) with
   | false=>
    rw[iE AF]
    refine .inr ⟨h.e2,h.e1,?_,?_,h.lk,fun q x hx=>by have:=h.lk1 q x hx;exact⟨by omega,this.2⟩,h.lk2,?_,?_,?_,h.k2⟩
    ·have:=h.own.app (l':=[]) (.skip (VC1 AN.2.1 AJ.2.1) .nil)
     rw[List.append_nil] at this;exact this
    ·have:=h.most;show 0<=s2.most/\s2.most<=max s1.most (mx c v)/\max s1.most (mx c v)<=72;unfold mx;omega
    ·intro x x0 x1 hx
     show GV (xC (w4 s1.bu ⟨v,p⟩ ⟨mx c v,1⟩) ⟨x,p⟩ ⟨0,0⟩)
     rw[pw]
     split
     ·exact AN.2.1
     ·exact h.b1 x x0 (by omega) hx
    ·intro x x0 x1 hx
     show RL (xC s2.bu ⟨x,p⟩ ⟨0,0⟩) (xC (w4 s1.bu ⟨v,p⟩ ⟨mx c v,1⟩) ⟨x,p⟩ ⟨0,0⟩)
     rw[pw]
     split
     ·rename_i e;rw[e,AF] at hx;cases hx
     ·exact h.b2 x x0 (by omega) hx
    ·intro x q hq
     show xC (w4 s1.bu ⟨v,p⟩ ⟨mx c v,1⟩) ⟨x,q⟩ ⟨0,0⟩=_
     rw[lf hq];exact h.k1 x q hq
   | true=>
    have Eg:nth nf v=nth rs v:=by
     rcases hL.rt v h0 h1 with e | e
     ·exact e
     ·rw[e] at AF;cases AF
    have hg':(gi nf p v).2=false:=by unfold gi at *;rw[Eg];exact hg
    rw[cD AF hg']
    refine .inr ⟨h.e2,h.e1,h.own.app (.both ⟨VC1 AN.1 AJ.1,VC1 AN.2.1 AJ.2.1,fun y hy=>?_⟩ .nil),?_,h.lk,fun q x hx=>by have:=h.lk1 q x hx;exact⟨by omega,this.2⟩,h.lk2,?_,?_,?_,?_⟩
    ·rw[List.mem_singleton.1 hy];exact⟨_,List.mem_cons_self ..,AN.2.2,AJ.2.2⟩
    ·have:=h.most;show 0<=max s2.most (mx d v)/\max s2.most (mx d v)<=max s1.most (mx c v)/\max s1.most (mx c v)<=72;unfold mx at *;omega
    ·intro x x0 x1 hx
     show GV (xC (w4 s1.bu ⟨v,p⟩ ⟨mx c v,1⟩) ⟨x,p⟩ ⟨0,0⟩)
     rw[pw]
     split
     ·exact AN.2.1
     ·exact h.b1 x x0 (by omega) hx
    ·intro x x0 x1 hx
     show RL (xC (w4 s2.bu ⟨v,p⟩ ⟨mx d v,1⟩) ⟨x,p⟩ ⟨0,0⟩) (xC (w4 s1.bu ⟨v,p⟩ ⟨mx c v,1⟩) ⟨x,p⟩ ⟨0,0⟩)
     rw[pw,pw]
     split
     ·exact AN
     ·exact h.b2 x x0 (by omega) hx
    ·intro x q hq
     show xC (w4 s1.bu ⟨v,p⟩ ⟨mx c v,1⟩) ⟨x,q⟩ ⟨0,0⟩=_
     rw[lf hq];exact h.k1 x q hq
    ·intro x q hq
     show xC (w4 s2.bu ⟨v,p⟩ ⟨mx d v,1⟩) ⟨x,q⟩ ⟨0,0⟩=_
     rw[lf hq];exact h.k2 x q hq
  | true=>
   obtain⟨p1,p2,p3,p4⟩:=hP.g1 v h0 h1 hu hg
   rw[eD hu hg] at he ⊢
   have he:(pX c rs xV p s1.e v s1.bu).2=0:=he
   have Cs:(rN c rs xV p 0 v).2=0:=by
    have h2:=(oz he).1
    rw[h.e1] at h2;exact h2
   have Ct:(DO 0 (jw (xC s1.bu ⟨v,pk (gi rs p v).1⟩ ⟨0,0⟩) (rN c rs xV p 0 v).1)).2=0:=by
    have h3:=he
    unfold pX at h3
    rw[h.e1,Cs] at h3;exact h3
   have ea1:pX c rs xV p s1.e v s1.bu=DO 0 (jw (xC s1.bu ⟨v,pk (gi rs p v).1⟩ ⟨0,0⟩) (rN c rs xV p 0 v).1):=by unfold pX;rw[h.e1,Cs]
   have gd1:GV (⟨xC xV (pk (gi rs p v).1) 0,1⟩:R):=nu ⟨p3,p4⟩
   have gm1:GV (rN c rs xV p 0 v).1:=TP AJ.2.1 gd1 Cs
   have gb1:GV (xC s1.bu ⟨v,pk (gi rs p v).1⟩ ⟨0,0⟩):=by rw[h.k1 v _ p1];exact p2
   have ga1:=(VB gb1 gm1 Ct).1
   rw[ea1]
   have E0:∀ q x,x∈xC (w4 s1.lk (gi rs p v).1.fQ (xC s1.lk (gi rs p v).1.fQ []++[v])) q []->(0<=x/\x<v+1)/\qp p (nth rs x)=true/\(gi rs p x).2=true/\(gi rs p x).1.fQ=q:=by
    intro q x hx
    rw[jh] at hx
    split at hx
    ·rename_i e
     rcases List.mem_append.1 hx with hx | hx
     ·have:=h.lk1 _ x hx;exact⟨by omega,this.2.1,this.2.2.1,by rw[this.2.2.2,e]⟩
     ·rw[List.mem_singleton.1 hx];exact⟨by omega,hu,hg,e.symm⟩
    ·have:=h.lk1 q x hx;exact⟨by omega,this.2⟩
   have DD:∀ x:Int,0<=x->x<v+1->qp p (nth rs x)=true->GV (xC (w4 s1.bu ⟨v,p⟩ (DO 0 (jw (xC s1.bu ⟨v,pk (gi rs p v).1⟩ ⟨0,0⟩) (rN c rs xV p 0 v).1)).1) ⟨x,p⟩ ⟨0,0⟩):=by
    intro x x0 x1 hx
    rw[pw]
    split
    ·exact ga1
    ·exact h.b1 x x0 (by omega) hx
   cases AF:qp p (nth nf v) with
   | false=>
    rw[iE AF]
    refine .inr ⟨h.e2,Ct,h.own,?_,fun q=>?_,E0,h.lk2,DD,?_,?_,h.k2⟩
    ·have:=h.most;show 0<=s2.most/\s2.most<=max s1.most (mx c v)/\max s1.most (mx c v)<=72;unfold mx;omega
    ·show(xC s2.lk q []).Sublist (xC (w4 s1.lk _ _) q [])
     rw[jh]
     split
     ·rename_i e;rw[<- e];exact(h.lk q).trans (List.sublist_append_left _ _)
     ·exact h.lk q
    ·intro x x0 x1 hx
     show RL (xC s2.bu ⟨x,p⟩ ⟨0,0⟩) (xC (w4 s1.bu ⟨v,p⟩ _) ⟨x,p⟩ ⟨0,0⟩)
     rw[pw]
     split
     ·rename_i e;rw[e,AF] at hx;cases hx
     ·exact h.b2 x x0 (by omega) hx
    ·intro x q hq
     show xC (w4 s1.bu ⟨v,p⟩ _) ⟨x,q⟩ ⟨0,0⟩=_
     rw[lf hq];exact h.k1 x q hq
   | true=>
    have Eg:nth nf v=nth rs v:=by
     rcases hL.rt v h0 h1 with e | e
     ·exact e
     ·rw[e] at AF;cases AF
    have DK:gi nf p v=gi rs p v:=by unfold gi;rw[Eg]
    have hg':(gi nf p v).2=true:=by rw[DK];exact hg
    obtain⟨q1,q2,q3⟩:=hP.g2 v h0 h1 AF hg'
    rw[eD AF hg']
    rw[DK] at q1 q2 q3 ⊢
    have Bt:RL (⟨xC zi (pk (gi rs p v).1) 0,1⟩:R) ⟨xC xV (pk (gi rs p v).1) 0,1⟩:=RL_w ⟨q2,q3,p4⟩
    have em:rN d nf zi p 0 v=DO 0 (pQ (RT d v) ⟨xC zi (pk (gi rs p v).1) 0,1⟩):=by unfold rN;rw[DK]
    have hb:RL (xC s2.bu ⟨v,pk (gi rs p v).1⟩ ⟨0,0⟩) (xC s1.bu ⟨v,pk (gi rs p v).1⟩ ⟨0,0⟩):=by rw[h.k1 v _ p1,h.k2 v _ p1];exact q1
    have ea2:pX d nf zi p s2.e v s2.bu=DO (rN d nf zi p 0 v).2 (jw (xC s2.bu ⟨v,pk (gi rs p v).1⟩ ⟨0,0⟩) (rN d nf zi p 0 v).1):=by unfold pX;rw[h.e2,DK]
    rw[ea2]
    rcases Sq AJ Bt Cs with k | ⟨k1,k2⟩
    ·refine .inl ?_
     show(DO (rN d nf zi p 0 v).2 _).2=3
     rw[em,k,Vz]
    ·rw[em,k1]
     rcases Kc hb k2 Ct with k | ⟨k3,k4⟩
     ·exact .inl k
     ·refine .inr ⟨k3,Ct,h.own,?_,fun q=>?_,E0,fun q x hx=>?_,DD,?_,?_,?_⟩
      ·have:=h.most;show 0<=max s2.most (mx d v)/\max s2.most (mx d v)<=max s1.most (mx c v)/\max s1.most (mx c v)<=72;unfold mx at *;omega
      ·show(xC (w4 s2.lk _ _) q []).Sublist (xC (w4 s1.lk _ _) q [])
       rw[jh,jh]
       split
       ·rename_i e;rw[<- e];exact(h.lk q).append (List.Sublist.refl _)
       ·exact h.lk q
      ·have hx:x∈xC (w4 s2.lk (gi rs p v).1.fQ (xC s2.lk (gi rs p v).1.fQ []++[v])) q []:=hx
       rw[jh] at hx
       split at hx
       ·rcases List.mem_append.1 hx with hx | hx
        ·exact h.lk2 _ x hx
        ·rw[List.mem_singleton.1 hx];exact AF
       ·exact h.lk2 q x hx
      ·intro x x0 x1 hx
       show RL (xC (w4 s2.bu ⟨v,p⟩ _) ⟨x,p⟩ ⟨0,0⟩) (xC (w4 s1.bu ⟨v,p⟩ _) ⟨x,p⟩ ⟨0,0⟩)
       rw[pw,pw]
       split
       ·exact k4
       ·exact h.b2 x x0 (by omega) hx
      ·intro x q hq
       show xC (w4 s1.bu ⟨v,p⟩ _) ⟨x,q⟩ ⟨0,0⟩=_
       rw[lf hq];exact h.k1 x q hq
      ·intro x q hq
       show xC (w4 s2.bu ⟨v,p⟩ _) ⟨x,q⟩ ⟨0,0⟩=_
       rw[lf hq];exact h.k2 x q hq
theorem Ql{c d:Cf}{rs nf:List (List Hop)}(hL:LESS c d rs nf){p:Pl}{bu2 bu1:BM}{zi xV:DM}(hP:PRE c d rs nf p bu2 bu1 zi xV):∀(n:Nat) (v:Int) (s2 s1:CS),0<=v->v+n=rs.length->SR rs nf p bu2 bu1 v s2 s1->((vA v n).foldl (kh c rs xV p) s1).e=0->
  ((vA v n).foldl (kh d nf zi p) s2).e=3\/SR rs nf p bu2 bu1 rs.length ((vA v n).foldl (kh d nf zi p) s2) ((vA v n).foldl (kh c rs xV p) s1)
 | 0,v,s2,s1,h0,h1,h,he=>by
  have:v=rs.length:=by omega
  subst this;exact .inr h
 | n+1,v,s2,s1,h0,h1,h,he=>by
  rw[vA,List.foldl_cons] at he
  rw[vA,List.foldl_cons,List.foldl_cons]
  rcases TR hL hP h0 (by omega) h (WG _ _ he) with k | k
  ·exact .inl (Gu _ _ k)
  ·exact Ql hL hP n (v+1) _ _ (by omega) (by omega) k he
theorem MD{c d:Cf}{nf:List (List Hop)}(hL:LESS c d rs nf){bu2 bu1:BM}{zi xV:DM}(hP:PRE c d rs nf p bu2 bu1 zi xV)(zO:∀ x:Int,0<=x->x<rs.length->(gi rs p x).2=true->1<=(nth c.fK (gi rs p x).1.fQ).yr/\(nth c.fK (gi rs p x).1.fQ).yr<=16)(he:(CU c rs bu1 xV 0 p).2.2.1=0):
  (CU d nf bu2 zi 0 p).2.2.1=3\/((CU d nf bu2 zi 0 p).2.2.1=0/\LEC (CU d nf bu2 zi 0 p).1 (CU c rs bu1 xV 0 p).1/\(0<=(CU d nf bu2 zi 0 p).2.1/\(CU d nf bu2 zi 0 p).2.1<=(CU c rs bu1 xV 0 p).2.1/\(CU c rs bu1 xV 0 p).2.1<=72)/\
   (∀ x:Int,0<=x->x<rs.length->qp p (nth nf x)=true->RL (xC (CU d nf bu2 zi 0 p).2.2.2 ⟨x,p⟩ ⟨0,0⟩) (xC (CU c rs bu1 xV 0 p).2.2.2 ⟨x,p⟩ ⟨0,0⟩))/\
   ∀(x:Int) (q:Pl),q≠p->xC (CU d nf bu2 zi 0 p).2.2.2 ⟨x,q⟩ ⟨0,0⟩=xC bu2 ⟨x,q⟩ ⟨0,0⟩):=by
 unfold CU at he ⊢
 simp only at he ⊢
 rw[hL.len,hL.l]
 have n4:SR rs nf p bu2 bu1 0 ⟨[],0,0,[],bu2⟩ ⟨[],0,0,[],bu1⟩:=⟨rfl,rfl,.nil,by simp,fun q=>by simp[xC],fun q x hx=>by simp[xC] at hx,fun q x hx=>by simp[xC] at hx,fun x x0 x1=>by omega,fun x x0 x1=>by omega,fun _ _ _=>rfl,fun _ _ _=>rfl⟩
 have hc:=cq _ _ he
 have hc:((vA 0 rs.length).foldl (kh c rs xV p) ⟨[],0,0,[],bu1⟩).e=0:=hc
 rcases Ql hL hP rs.length 0 _ _ (by omega) (by omega) n4 hc with k | k
 ·exact .inl (VD _ _ k)
 ·generalize (vA 0 rs.length).foldl (kh d nf zi p) ⟨[],0,0,[],bu2⟩=t2 at k ⊢
  generalize (vA 0 rs.length).foldl (kh c rs xV p) ⟨[],0,0,[],bu1⟩=t1 at k he ⊢
  rcases YG hL (lk2:=t2.lk) (lk1:=t1.lk) (bu2:=t2.bu) (bu1:=t1.bu) (p:=p) (fun q x hx=>by
    obtain⟨a1,a2,a3,a4⟩:=k.lk1 q x hx
    rw[<- a4];exact zO x a1.1 a1.2 a3) k.lk (fun q x hx=>by
    obtain⟨a1,a2,a3,a4⟩:=k.lk1 q x hx
    exact⟨a1,k.b1 x a1.1 a1.2 a2⟩) (fun q x hx=>by
    obtain⟨a1,_⟩:=k.lk1 q x ((k.lk q).subset hx)
    exact k.b2 x a1.1 a1.2 (k.lk2 q x hx)) (vA 0 c.fK.length) ([],t2.e) ([],t1.e) ⟨k.e2,k.e1,.nil⟩ he with m | m
  ·exact .inl m
  ·exact .inr ⟨m.e2,k.own.app m.l,k.most,k.b2,k.k2⟩
end
section
variable {rs:List (List Hop)}{p:Pl}{s:WS}{net:Int}
theorem Kf{c:Cf}{rs:List (List Hop)}{de:DM}{p:Pl}{x:Int}{q:Pl}(hq:q≠p):∀(l:List Int) (s:CS),xC (l.foldl (kh c rs de p) s).bu (⟨x,q⟩:iR) ⟨0,0⟩=xC s.bu ⟨x,q⟩ ⟨0,0⟩
 | [],s=>rfl
 | v::l,s=>by
  rw[List.foldl_cons,Kf hq l]
  cases hu:qp p (nth rs v) with
  | false=>rw[iE hu]
  | true=>
   cases hg:(gi rs p v).2 with
   | false=>
    rw[cD hu hg]
    exact lf hq
   | true=>
    rw[eD hu hg]
    exact lf hq
theorem px{c:Cf}{q:Pl}(hq:q≠p):(∀ x:Int,xC (pq c rs s p).bu (⟨x,q⟩:iR) ⟨0,0⟩=xC s.bu ⟨x,q⟩ ⟨0,0⟩)/\xC (pq c rs s p).de q 0=xC s.de q 0:=by
 refine⟨fun x=>?_,?_⟩
 ·show xC (CU c rs s.bu s.de s.e p).2.2.2 ⟨x,q⟩ ⟨0,0⟩=_
  unfold CU
  exact Kf hq _ _
 ·show xC (w4 s.de p _) q 0=_
  rw[jh,if_neg hq]
theorem XK{c:Cf}{rs:List (List Hop)}:∀(l:List Pl) (s t:WS),mq c rs l s = .inl t->(∀ q,q∉l->(∀ x:Int,xC t.bu (⟨x,q⟩:iR) ⟨0,0⟩=xC s.bu ⟨x,q⟩ ⟨0,0⟩)/\xC t.de q 0=xC s.de q 0)/\(∀ b∈s.out,b∈t.out)/\(s.e=0->t.e=0)
 | [],s,t,h=>by injection h with h;subst h;exact⟨fun _ _=>⟨fun _=>rfl,rfl⟩,fun _ h=>h,id⟩
 | p::l,s,t,h=>by
  rw[mq] at h
  split at h
  ·cases h
  ·rename_i he
   obtain⟨h1,h2,h3⟩:=XK l _ t h
   refine⟨fun q hq=>?_,fun b hb=>h2 b (List.mem_append_left _ hb),fun _=>h3 (by simpa using he)⟩
   obtain⟨a1,a2⟩:=h1 q (fun hc=>hq (List.mem_cons_of_mem _ hc))
   obtain⟨b1,b2⟩:=px (c:=c) (rs:=rs) (s:=s) (p:=p) (q:=q) (fun e=>hq (e▸List.mem_cons_self ..))
   exact⟨fun x=>(a1 x).trans (b1 x),a2.trans b2⟩
theorem Qm{c:Cf}{rs:List (List Hop)}:∀(l1:List Pl) (p:Pl) (l2:List Pl) (s0 t:WS),mq c rs (l1++p::l2) s0 = .inl t->∃ s,mq c rs l1 s0 = .inl s/\(pq c rs s p).e=0/\mq c rs l2 (pq c rs s p) = .inl t
 | [],p,l2,s0,t,h=>by
  rw[List.nil_append,mq] at h
  split at h
  ·cases h
  ·rename_i he;exact⟨s0,rfl,by simpa using he,h⟩
 | q::l1,p,l2,s0,t,h=>by
  rw[List.cons_append,mq] at h
  split at h
  ·cases h
  ·rename_i he
   obtain⟨s,h1,h2,h3⟩:=Qm l1 p l2 _ t h
   refine⟨s,?_,h2,h3⟩
   rw[mq,if_neg he];exact h1
structure SNAP (c:Cf) (rs:List (List Hop)) (t:WS) (l1:List Pl) (p:Pl) (s:WS):Prop where
 e:s.e=0
 we:(pq c rs s p).e=0
 bu:∀ q∈l1,∀ x:Int,xC s.bu (⟨x,q⟩:iR) ⟨0,0⟩=xC t.bu ⟨x,q⟩ ⟨0,0⟩
 de:∀ q∈l1,xC s.de q 0=xC t.de q 0
 bp:∀ x:Int,xC (pq c rs s p).bu (⟨x,p⟩:iR) ⟨0,0⟩=xC t.bu ⟨x,p⟩ ⟨0,0⟩
 dp:xC (pq c rs s p).de p 0=xC t.de p 0
 out:(PO c rs s.bu s.de s.e p).1∈t.out
theorem VF{c:Cf}{l:List Pl}{t:WS}(hn:l.Nodup)(h:mq c rs l w0 = .inl t){l1 l2:List Pl}(e:l=l1++p::l2):∃ s,SNAP c rs t l1 p s:=by
 subst e
 obtain⟨s,h1,h2,h3⟩:=Qm l1 p l2 w0 t h
 have hn2:=List.nodup_append.1 hn
 obtain⟨BE,hnl2⟩:=List.nodup_cons.1 hn2.2.1
 obtain⟨k1,k2,_⟩:=XK l2 _ t h3
 have key:∀ q∈l1,q≠p/\q∉l2:=fun q hq=>⟨fun e=>hn2.2.2 q hq p (by simp) e,fun hc=>hn2.2.2 q hq q (by simp[hc]) rfl⟩
 refine⟨s,(XK l1 w0 s h1).2.2 rfl,h2,fun q hq x=>?_,fun q hq=>?_,fun x=>((k1 p BE).1 x).symm,((k1 p BE).2).symm,k2 _ (by show _∈s.out++[_];simp)⟩
 ·rw[(k1 q (key q hq).2).1 x,(px (key q hq).1).1 x]
 ·rw[(k1 q (key q hq).2).2,(px (key q hq).1).2]
theorem VA.hop{c:Cf}(hS:Small c)(hv:VA c net rs){r:List Hop}(hr:r∈rs){h:Hop}(hh:h∈r):
  (0<=h.fQ/\h.fQ<c.fK.length)/\(1<=(nth c.fK h.fQ).yr/\(nth c.fK h.fQ).yr<=16)/\0<=lat c (pk h)/\lat c (pk h)<=1000:=by
 obtain⟨i,i0,i1,rfl⟩:=sm hh
 obtain⟨_,_,_,j0,j1,_,js1,js2,_,jf1,jf2,jj⟩:=(hv.each r hr).cond i i0 i1
 have Di:tX c net (nth r i).ya:=by
  rcases jj with⟨e,_⟩ | ⟨_,e⟩
  ·rw[<- e];exact jf1
  ·rw[<- e];exact jf2
 refine⟨⟨j0,j1⟩,⟨js1,js2⟩,?_⟩
 unfold lat pk
 simp only
 by_cases hn:(nth r i).ya-nM c>=0
 ·rw[if_pos hn]
  rcases Di.2 with h1 | ⟨_,h2,h3,_⟩
  ·omega
  ·exact⟨h2,h3⟩
 ·rw[if_neg hn];omega
theorem oH{v:Int}(h0:0<=v)(h1:v<rs.length)(hu:qp p (nth rs v)=true)(hg:(gi rs p v).2=true):cZ rs p (pk (gi rs p v).1)/\(gi rs p v).1∈nth rs v:=by
 unfold qp at hu
 obtain⟨h,hh,e⟩:=List.any_eq_true.1 hu
 have e:=of_decide_eq_true e
 have en:h.ya=p.ya:=congrArg z7.ya e
 unfold gi at hg ⊢
 exact⟨⟨nth rs v,wn h0 h1,h,hh,e,by rw[en];exact hg,by rw[en]⟩,(rC hg).1⟩
theorem er_0{x:Int}(h:er x=0):x=0:=by unfold er at h;split at h <;> omega
theorem fe_0{e a b:Int}(h:fe e a b=0):e=0/\a=0/\b=0:=by
 unfold fe at h
 by_cases he:e=0
 ·rw[if_pos he] at h
  by_cases ha:er a=0
  ·rw[if_pos ha] at h;exact⟨he,er_0 ha,er_0 h⟩
  ·rw[if_neg ha] at h;exact absurd h ha
 ·rw[if_neg he,if_neg he] at h;exact absurd h he
theorem LESS.refl{c:Cf}(hv:gV c)(hl:rs.length=c.yg.length):LESS c c rs rs:=⟨rfl,rfl,rfl,hv,hv,hl,hl,rfl,fun _ _ _ => .inl rfl,fun _ _ _=>Int.le_refl _,fun _ _ _=>Rat.le_refl⟩
structure I1 (rs:List (List Hop)) (ps:List Pl) (s:WS):Prop where
 bu:∀ q∈ps,∀ x:Int,0<=x->x<rs.length->qp q (nth rs x)=true->GV (xC s.bu ⟨x,q⟩ ⟨0,0⟩)
 de:∀ q∈ps,0<=xC s.de q 0/\xC s.de q 0<=1073741824
theorem YH{v:Int}(hm:(gi rs p v).1∈nth rs v):qp (pk (gi rs p v).1) (nth rs v)=true:=by
 unfold qp
 rw[List.any_eq_true]
 exact⟨_,hm,by simp⟩
theorem WH{c:Cf}(B6:s.e=0)(he:(pq c rs s p).e=0):(CU c rs s.bu s.de 0 p).2.2.1=0/\(DL (CU c rs s.bu s.de 0 p).1 (gz c p)).2=0/\(BL (CU c rs s.bu s.de 0 p).1 (gz c p)).2=0:=by
 have he2:fe (CU c rs s.bu s.de s.e p).2.2.1 (DL (CU c rs s.bu s.de s.e p).1 (gz c p)).2 (BL (CU c rs s.bu s.de s.e p).1 (gz c p)).2=0:=he
 rw[B6] at he2
 exact fe_0 he2
theorem I1.step{c:Cf}(hS:Small c)(hv:VA c net rs)(BH:gV c){ps:List Pl}(hi:I1 rs ps s)(hp:p∉ps)(DN:∀ q,cZ rs p q->q∈ps)(B6:s.e=0)(he:(pq c rs s p).e=0):I1 rs (ps++[p]) (pq c rs s p):=by
 obtain⟨e1,e2,e3⟩:=WH B6 he
 have hL:=LESS.refl BH hv.len
 have hP:PRE c c rs rs p s.bu s.bu s.de s.de:=by
  refine⟨fun v h0 h1 hu hg=>?_,fun v h0 h1 hu hg=>?_⟩
  all_goals
   obtain⟨a1,a2⟩:=oH h0 h1 hu hg
   have a3:=DN _ a1
   have a4:=hi.bu _ a3 v h0 h1 (YH a2)
   have a5:=hi.de _ a3
  ·exact⟨fun e=>hp (e▸a3),a4,a5.1,a5.2⟩
  ·exact⟨a4.refl,a5.1,Int.le_refl _⟩
 rcases MD hL hP (fun x h0 h1 hg=>by
   by_cases hu:qp p (nth rs x)=true
   ·exact(VA.hop hS hv (wn h0 h1) (oH h0 h1 hu hg).2).2.1
   ·-- the hop lies on a valid route in any case
    exact(VA.hop hS hv (wn h0 h1) (rC hg).1).2.1) e1 with k | ⟨_,k1,k2,k3,k4⟩
 ·rw[e1] at k;cases k
 ·have Bo:=Gs k1 e2
  rcases Bo with h3 | ⟨_,d1,d2,_,_⟩
  ·rw[e2] at h3;cases h3
  have Bt:xC (pq c rs s p).de p 0=gw (DL (CU c rs s.bu s.de 0 p).1 (gz c p)).1:=by
   show xC (w4 s.de p (gw (DL (CU c rs s.bu s.de s.e p).1 (gz c p)).1)) p 0=_
   rw[jh,if_pos rfl,B6]
  refine⟨fun q hq x h0 h1 hu=>?_,fun q hq=>?_⟩
  ·by_cases e:q=p
   ·subst e
    show GV (xC (CU c rs s.bu s.de s.e q).2.2.2 ⟨x,q⟩ ⟨0,0⟩)
    rw[B6];exact(k3 x h0 h1 hu).1
   ·rw[(px e).1]
    rcases List.mem_append.1 hq with hq | hq
    ·exact hi.bu q hq x h0 h1 hu
    ·exact absurd (List.mem_singleton.1 hq) e
  ·by_cases e:q=p
   ·subst e
    rw[Bt]
    exact⟨Gt d1 d2,(Y0 d1).2⟩
   ·rw[(px e).2]
    rcases List.mem_append.1 hq with hq | hq
    ·exact hi.de q hq
    ·exact absurd (List.mem_singleton.1 hq) e
theorem I1.run{c:Cf}{net:Int}{rs:List (List Hop)}(hS:Small c)(hv:VA c net rs)(BH:gV c):∀(l ps:List Pl) (s t:WS),I1 rs ps s->s.e=0->(ps++l).Nodup->qS rs (ps++l)->mq c rs l s = .inl t->I1 rs (ps++l) t
 | [],ps,s,t,hi,_,_,_,h=>by injection h with h;subst h;simpa using hi
 | p::l,ps,s,t,hi,B6,hn,ho,h=>by
  rw[mq] at h
  split at h
  ·cases h
  ·rename_i he
   have he:(pq c rs s p).e=0:=by simpa using he
   have hp:p∉ps:=fun hc=>(List.nodup_append.1 hn).2.2 p hc p (by simp) rfl
   have h1:=hi.step (p:=p) hS hv BH hp (fun q hq=>ho ps p l rfl q hq) B6 he
   have:=I1.run hS hv BH l (ps++[p]) _ t h1 he (by rw[List.append_assoc];exact hn) (by rw[List.append_assoc];exact ho) h
   rw[List.append_assoc] at this;exact this
structure I2 (nf:List (List Hop)) (t:WS) (ps:List Pl) (s:WS):Prop where
 e:s.e=0
 bu:∀ q∈ps,∀ x:Int,0<=x->x<nf.length->qp q (nth nf x)=true->RL (xC s.bu ⟨x,q⟩ ⟨0,0⟩) (xC t.bu ⟨x,q⟩ ⟨0,0⟩)
 de:∀ q∈ps,0<=xC s.de q 0/\xC s.de q 0<=xC t.de q 0
 out:∀ b∈s.out,fG b∈ps/\b.yl=xC s.de (fG b) 0/\∃ a∈t.out,fG a=fG b/\a.yl=xC t.de (fG b) 0/\b.fT<=a.fT
theorem I2.step{c d:Cf}{nf:List (List Hop)}(hS:Small c)(hv:VA c net rs)(hL:LESS c d rs nf){l:List Pl}{t:WS}(Bu:l.Perm (PS rs))(xS:qS rs l)(iT:mq c rs l w0 = .inl t){ps:List Pl}(hi:I2 nf t ps s)(hp:p∉ps)(hpp:p∈PS rs)(DN:∀ q,cZ nf p q->q∈ps):
  (pq d nf s p).e=3\/I2 nf t (ps++[p]) (pq d nf s p):=by
 have hn:l.Nodup:=Bu.nodup_iff.2 (cY rs)
 obtain⟨l1,l2,el⟩:=List.append_of_mem (Bu.symm.subset hpp)
 obtain⟨sp,hs⟩:=VF hn iT el
 have hI:I1 rs l t:=by
  have:=I1.run hS hv hL.vc l [] w0 t ⟨by simp,by simp⟩ rfl (by simpa using hn) (by simpa using xS) iT
  simpa using this
 have hpl1:p∉l1:=fun hc=>by rw[el] at hn;exact(List.nodup_append.1 hn).2.2 p hc p (by simp) rfl
 obtain⟨e1,e2,e3⟩:=WH hs.e hs.we
 have hP:PRE c d rs nf p s.bu sp.bu s.de sp.de:=by
  refine⟨fun v h0 h1 hu hg=>?_,fun v h0 h1 hu hg=>?_⟩
  ·obtain⟨a1,a2⟩:=oH h0 h1 hu hg
   have a3:=xS l1 p l2 el _ a1
   have a6:pk (gi rs p v).1∈l:=by rw[el];exact List.mem_append_left _ a3
   rw[hs.bu _ a3,hs.de _ a3]
   exact⟨fun e=>hpl1 (e▸a3),hI.bu _ a6 v h0 h1 (YH a2),(hI.de _ a6).1,(hI.de _ a6).2⟩
  ·have AL:v<nf.length:=by rw[hL.len];exact h1
   obtain⟨a1,a2⟩:=oH h0 AL hu hg
   have a3:=DN _ a1
   have Eg:nth nf v=nth rs v:=by
    rcases hL.rt v h0 h1 with e | e
    ·exact e
    ·rw[e] at hu;cases hu
   have DK:gi nf p v=gi rs p v:=by unfold gi;rw[Eg]
   have b1:=(oH h0 h1 (by rw[<- Eg];exact hu) (by rw[<- DK];exact hg)).1
   rw[<- DK] at b1
   have b3:=xS l1 p l2 el _ b1
   rw[hs.bu _ b3,hs.de _ b3]
   exact⟨hi.bu _ a3 v h0 AL (YH a2),hi.de _ a3⟩
 have Bk:gz d p=gz c p:=by unfold gz lat nM;rw[hL.l,hL.m,hL.s]
 rcases MD hL hP (fun x h0 h1 hg=>(VA.hop hS hv (wn h0 h1) (rC hg).1).2.1) e1 with k | ⟨k0,k1,k2,k3,k4⟩
 ·refine .inl ?_
  show fe (CU d nf s.bu s.de s.e p).2.2.1 _ _=3
  rw[hi.e,k];unfold fe;simp
 ·have hmv:∀ c'∈(CU c rs sp.bu sp.de 0 p).1,VC c'=true:=(Vy e2).1.vc
  rcases Gs k1 e2 with h3 | ⟨d0,d1,d2,d3,d4⟩
  ·refine .inl ?_
   show fe (CU d nf s.bu s.de s.e p).2.2.1 (DL (CU d nf s.bu s.de s.e p).1 (gz d p)).2 _=3
   rw[hi.e,k0,Bk,h3];unfold fe er;simp
  ·rcases TO (L:=lat c p) rfl k1 hmv e2 e3 with h3 | ⟨b0,b1,b2,b3⟩
   ·refine .inl ?_
    show fe (CU d nf s.bu s.de s.e p).2.2.1 (DL (CU d nf s.bu s.de s.e p).1 (gz d p)).2 (BL (CU d nf s.bu s.de s.e p).1 (gz d p)).2=3
    rw[hi.e,k0,Bk,d0,h3];unfold fe er;simp
   ·have hwe:(pq d nf s p).e=0:=by
     show fe (CU d nf s.bu s.de s.e p).2.2.1 (DL (CU d nf s.bu s.de s.e p).1 (gz d p)).2 (BL (CU d nf s.bu s.de s.e p).1 (gz d p)).2=0
     rw[hi.e,k0,Bk,d0,b0];unfold fe er;simp
    have E1:xC (pq d nf s p).de p 0=gw (DL (CU d nf s.bu s.de 0 p).1 (gz c p)).1:=by
     show xC (w4 s.de p (gw (DL (CU d nf s.bu s.de s.e p).1 (gz d p)).1)) p 0=_
     rw[jh,if_pos rfl,hi.e,Bk]
    have E2:xC t.de p 0=gw (DL (CU c rs sp.bu sp.de 0 p).1 (gz c p)).1:=by
     rw[<- hs.dp]
     show xC (w4 sp.de p (gw (DL (CU c rs sp.bu sp.de sp.e p).1 (gz c p)).1)) p 0=_
     rw[jh,if_pos rfl,hs.e]
    refine .inr ⟨hwe,fun q hq x h0 h1 hu=>?_,fun q hq=>?_,fun b hb=>?_⟩
    ·by_cases e:q=p
     ·subst e
      rw[<- hs.bp]
      show RL (xC (CU d nf s.bu s.de s.e q).2.2.2 ⟨x,q⟩ ⟨0,0⟩) (xC (CU c rs sp.bu sp.de sp.e q).2.2.2 ⟨x,q⟩ ⟨0,0⟩)
      rw[hi.e,hs.e]
      exact k3 x h0 (by rw[<- hL.len];exact h1) hu
     ·rw[(px e).1]
      rcases List.mem_append.1 hq with hq | hq
      ·exact hi.bu q hq x h0 h1 hu
      ·exact absurd (List.mem_singleton.1 hq) e
    ·by_cases e:q=p
     ·subst e
      rw[E1,E2]
      exact⟨Gt d1 d2,XI d1 d3 d4⟩
     ·rw[(px e).2]
      rcases List.mem_append.1 hq with hq | hq
      ·exact hi.de q hq
      ·exact absurd (List.mem_singleton.1 hq) e
    ·have hb:b∈s.out++[(PO d nf s.bu s.de s.e p).1]:=hb
     rcases List.mem_append.1 hb with hb | hb
     ·obtain⟨o1,o2,o3⟩:=hi.out b hb
      have e:fG b≠p:=fun e=>hp (e▸o1)
      refine⟨List.mem_append_left _ o1,?_,o3⟩
      rw[(px e).2];exact o2
     ·rw[List.mem_singleton.1 hb]
      have q1:fG (PO d nf s.bu s.de s.e p).1=p:=rfl
      rw[q1]
      refine⟨by simp,?_,(PO c rs sp.bu sp.de sp.e p).1,hs.out,rfl,?_,?_⟩
      ·rw[E1]
       show gw (DL (CU d nf s.bu s.de s.e p).1 (gz d p)).1=_
       rw[hi.e,Bk]
      ·rw[E2]
       show gw (DL (CU c rs sp.bu sp.de sp.e p).1 (gz c p)).1=_
       rw[hs.e]
      ·show i64 (gw (BL (CU d nf s.bu s.de s.e p).1 (gz d p)).1+(CU d nf s.bu s.de s.e p).2.1)<=i64 (gw (BL (CU c rs sp.bu sp.de sp.e p).1 (gz c p)).1+(CU c rs sp.bu sp.de sp.e p).2.1)
       rw[hi.e,hs.e,Bk]
       have f1:=Y0 b1;have f2:=Y0 b2;have f3:=XI b1 b2 b3
       rw[xQ (by omega),xQ (by omega)]
       omega
theorem I2.run{c d:Cf}{net:Int}{rs nf:List (List Hop)}(hS:Small c)(hv:VA c net rs)(hL:LESS c d rs nf){l:List Pl}{t:WS}(Bu:l.Perm (PS rs))(xS:qS rs l)(iT:mq c rs l w0 = .inl t):∀(m ps:List Pl) (s:WS),I2 nf t ps s->(ps++m).Nodup->(∀ q∈ps++m,q∈PS rs)->qS nf (ps++m)->
  mq d nf m s = .inr 3\/∃ u,mq d nf m s = .inl u/\I2 nf t (ps++m) u
 | [],ps,s,hi,_,_,_ => .inr ⟨s,rfl,by simpa using hi⟩
 | p::m,ps,s,hi,hn,hm,ho=>by
  have hp:p∉ps:=fun hc=>(List.nodup_append.1 hn).2.2 p hc p (by simp) rfl
  rw[mq]
  rcases hi.step (p:=p) hS hv hL Bu xS iT hp (hm p (by simp)) (fun q hq=>ho ps p m rfl q hq) with k | k
  ·rw[if_pos (by omega),k];exact .inl rfl
  ·rw[if_neg (by simp[k.e])]
   have:=I2.run hS hv hL Bu xS iT m (ps++[p]) _ k (by rw[List.append_assoc];exact hn) (by rw[List.append_assoc];exact hm) (by rw[List.append_assoc];exact ho)
   rw[List.append_assoc] at this;exact this
end
section
def ju(c:Cf)(n:Int):Int:=if n-nM c>=0 then(nth c.fS (n-nM c)).yl else 0
def qJ(c:Cf)(k:Int):Int:=(nth c.fK k).yr
structure HV (c:Cf) (h:Hop):Prop where
 l0:0<=h.fQ
 l1:h.fQ<c.fK.length
 n0:0<=h.ya
 n1:h.ya<nN c
 x0:0<=h.fX
 x1:h.fX<nN c
 s0:1<=qJ c h.fQ
 s1:qJ c h.fQ<=16
 d0:0<=ju c h.ya
 d1:ju c h.ya<=1000
theorem tX.lat{c:Cf}{net n:Int}(h:tX c net n):0<=n/\0<=ju c n/\ju c n<=1000:=by
 obtain⟨h0,h⟩:=h
 refine⟨h0,?_⟩
 unfold ju
 rcases h with h | ⟨_,h1,h2,_⟩
 ·rw[if_neg (by omega)];omega
 ·split
  ·exact⟨h1,h2⟩
  ·omega
theorem VR.hop{c:Cf}{net:Int}{r:List Hop}(hS:Small c)(h:VR c net r){x:Hop}(hx:x∈r):HV c x:=by
 obtain⟨i,i0,i1,rfl⟩:=sm hx
 obtain⟨_,_,_,l0,l1,_,s0,s1,_,fa,fb,ho⟩:=h.cond i i0 i1
 obtain⟨_,_,a2⟩:=QM hS (nth r i).fQ
 obtain⟨_,_,b2⟩:=QN hS (nth r i).fQ
 have ha:=fa.lat;have hb:=fb.lat
 rcases ho with⟨e1,e2⟩ | ⟨e1,e2⟩
 ·rw[e1] at ha a2;rw[e2] at hb b2
  exact⟨l0,l1,ha.1,a2,hb.1,b2,s0,s1,ha.2.1,ha.2.2⟩
 ·rw[e1] at ha a2;rw[e2] at hb b2
  exact⟨l0,l1,hb.1,b2,ha.1,a2,s0,s1,hb.2.1,hb.2.2⟩
def c0(c:Cf)(D:Pl->Int)(mp:List (Int×Int))(h:Hop):List (Int×Int):=w4 mp h.fX (xC mp h.ya 0+D (pk h)-ju c h.ya-qJ c h.fQ)
def jn(c:Cf)(D:Pl->Int)(r:List Hop)(n:Int):Int:=xC (r.foldl (c0 c D) []) n 0
theorem nv{c:Cf}{D:Pl->Int}{n:Int}:∀(l:List Hop) (mp:List (Int×Int)),(∀ g∈l,g.fX≠n)->xC (l.foldl (c0 c D) mp) n 0=xC mp n 0
 | [],mp,_=>rfl
 | g::l,mp,h=>by
  rw[List.foldl_cons,nv l _ fun x hx=>h x (List.mem_cons_of_mem _ hx)]
  unfold c0;rw[jh,if_neg fun e=>h g (by simp) e.symm]
theorem VR.rk{c:Cf}{net:Int}{r:List Hop}(h:VR c net r){v:Int}(v0:0<=v)(v1:v<r.length){q:Int}(q0:v<=q)(q1:q<r.length):(nth r q).fX≠(nth r v).ya:=by
 intro e
 obtain⟨h1,_⟩:=h.cond v v0 v1
 obtain⟨_,h2,_⟩:=h.cond q (by omega) q1
 rcases h1 with h1 | ⟨k,k0,k1,h1⟩
 ·exact h2 (.inl (e.trans h1))
 ·exact h2 (.inr ⟨k,k0,by omega,h1.trans e.symm⟩)
theorem Y3{r:List Hop}{v:Int}{g:Hop}(v0:0<=v)(hg:g∈r.drop v.toNat):∃ q:Int,v<=q/\q<r.length/\nth r q=g:=by
 obtain⟨i,hi,rfl⟩:=List.getElem_of_mem hg
 rw[List.length_drop] at hi
 refine⟨v.toNat+i,by omega,by omega,?_⟩
 rw[jY ⟨by omega,by omega⟩,List.getElem_drop]
 simp only[show((v.toNat:Int)+i).toNat=v.toNat+i by omega]
theorem Kg{c:Cf}{D:Pl->Int}{r:List Hop}{n:Int}(v:Nat):jn c D r n=xC ((r.drop v).foldl (c0 c D) ((r.take v).foldl (c0 c D) [])) n 0:=by
 unfold jn;rw[<- List.foldl_append,List.take_append_drop]
theorem VR.jn_take{c:Cf}{net:Int}{r:List Hop}(h:VR c net r)(D:Pl->Int){v:Int}(v0:0<=v)(v1:v<r.length):xC ((r.take v.toNat).foldl (c0 c D) []) (nth r v).ya 0=jn c D r (nth r v).ya:=by
 rw[Kg v.toNat]
 symm
 refine nv _ _ fun g hg=>?_
 obtain⟨q,q0,q1,rfl⟩:=Y3 v0 hg
 exact h.rk v0 v1 q0 q1
theorem VR.jn_next{c:Cf}{net:Int}{r:List Hop}(h:VR c net r)(D:Pl->Int){g:Hop}(hg:g∈r):jn c D r g.fX=jn c D r g.ya+D (pk g)-ju c g.ya-qJ c g.fQ:=by
 obtain⟨v,v0,v1,rfl⟩:=sm hg
 rw[<- h.jn_take D v0 v1]
 rw[Kg v.toNat,kP v0 v1,List.foldl_cons,nv]
 ·unfold c0;rw[jh,if_pos rfl]
 ·intro x hx e
  obtain⟨q,q0,q1,rfl⟩:=Y3 (v:=v+1) (by omega) (by rw[show(v+1).toNat=v.toNat+1 by omega];exact hx)
  obtain⟨_,h2,_⟩:=h.cond q (by omega) q1
  exact h2 (.inr ⟨v,v0,by omega,e.symm⟩)
theorem Gv{c:Cf}{D:Pl->Int}{r:List Hop}{n:Int}(h:∀ g∈r,g.fX≠n):jn c D r n=0:=by
 unfold jn;rw[nv _ _ h];rfl
theorem VR.start{c:Cf}{net:Int}{r:List Hop}(h:VR c net r):∀ g∈r,g.fX≠(nth r 0).ya:=by
 intro g hg e
 obtain⟨v,v0,v1,rfl⟩:=sm hg
 exact(h.cond v v0 v1).2.1 (.inl e)
theorem VR.jn_start{c:Cf}{net:Int}{r:List Hop}(h:VR c net r)(D:Pl->Int):jn c D r (nth r 0).ya=0:=Gv h.start
theorem VR.ind{c:Cf}{net:Int}{r:List Hop}(h:VR c net r){P:Hop->Prop}(hb:∀ x∈r,x.ya=(nth r 0).ya->P x)(hs:∀ g∈r,∀ x∈r,g.fX=x.ya->P g->P x):∀ x∈r,P x:=by
 have key:∀ n:Nat,∀ v:Int,0<=v->v<r.length->v.toNat<n->P (nth r v):=by
  intro n
  induction n with
  | zero=>intro v _ _ h;omega
  | succ n ih=>
   intro v v0 v1 hv
   rcases(h.cond v v0 v1).1 with e | ⟨q,q0,q1,e⟩
   ·exact hb _ (wn v0 v1) e
   ·exact hs _ (wn q0 (by omega)) _ (wn v0 v1) e (ih q q0 (by omega) (by omega))
 intro x hx
 obtain⟨v,v0,v1,rfl⟩:=sm hx
 exact key (v.toNat+1) v v0 v1 (by omega)
theorem Qn{c:Cf}{D:Pl->Int}(hS:Small c){M:Int}(hM:0<=M):∀(l:List Hop) (mp:List (Int×Int)) (B:Int),(∀ h∈l,HV c h /\ -M<=D (pk h)/\D (pk h)<=M)->(∀ n,-B<=xC mp n 0/\xC mp n 0<=B)->∀ n,-(B+l.length*(M+1016))<=xC (l.foldl (c0 c D) mp) n 0/\xC (l.foldl (c0 c D) mp) n 0<=B+l.length*(M+1016)
 | [],mp,B,_,h,n=>by have:=h n;simpa using this
 | g::l,mp,B,hh,h,n=>by
  have hg:=hh g (by simp)
  have:=Qn hS hM l (c0 c D mp g) (B+(M+1016)) (fun x hx=>hh x (List.mem_cons_of_mem _ hx)) (fun n=>by
   unfold c0;rw[jh]
   have h1:=h n;have h2:=h g.ya
   have a:=hg.1.s0;have b:=hg.1.s1;have d:=hg.1.d0;have e:=hg.1.d1
   split <;> omega) n
  rw[List.foldl_cons,List.length_cons]
  have e:((l.length+1:Nat):Int)*(M+1016)=l.length*(M+1016)+(M+1016):=by push_cast;rw[Int.add_mul];omega
  omega
theorem UI{c:Cf}{net:Int}{D:Pl->Int}{r:List Hop}(hS:Small c)(hv:VR c net r){M:Int}(hM:0<=M)(hD:∀ h∈r,-M<=D (pk h)/\D (pk h)<=M)(v:Nat)(n:Int) : -(32*(M+1016))<=xC ((r.take v).foldl (c0 c D) []) n 0/\xC ((r.take v).foldl (c0 c D) []) n 0<=32*(M+1016):=by
 have h:=Qn (c:=c) (D:=D) hS hM (r.take v) [] 0 (fun h hh=>⟨hv.hop hS (List.mem_of_mem_take hh),hD h (List.mem_of_mem_take hh)⟩) (fun n=>by simp[xC]) n
 have hl:(r.take v).length<=32:=by have:=hv.len;rw[List.length_take];omega
 have:((r.take v).length:Int)*(M+1016)<=32*(M+1016):=Int.mul_le_mul_of_nonneg_right (by omega) (by omega)
 omega
def gW:List Int->Int
 | []=>0
 | x::l=>x+gW l
theorem Xa(a b:List Int):gW (a++b)=gW a+gW b:=by
 induction a with
 | nil=>simp[gW]
 | cons x a ih=>simp only[List.cons_append,gW,ih];omega
theorem YI{α:Type}{f g:α->Int}:∀ {l:List α},(∀ x∈l,f x<=g x)->gW (l.map f)<=gW (l.map g)
 | [],_=>by simp[gW]
 | x::l,h=>by
  have:=YI (l:=l) fun y hy=>h y (List.mem_cons_of_mem _ hy)
  have:=h x (by simp)
  simp only[List.map_cons,gW];omega
theorem Xb{α:Type}{f:α->Int}{l:List α}(h:∀ x∈l,0<=f x):0<=gW (l.map f):=by
 have:=YI (f:=fun _=>0) (g:=f) h
 have e:∀ l:List α,gW (l.map fun _=>0)=0:=by
  intro l;induction l with
  | nil=>rfl
  | cons x l ih=>simp only[List.map_cons,gW,ih];rfl
 rw[e] at this;exact this
theorem Kh{α:Type}{f:α->Int}{l:List α}(h:∀ x∈l,0<=f x){x:α}(hx:x∈l):f x<=gW (l.map f):=by
 induction l with
 | nil=>simp at hx
 | cons y l ih=>
  have h1:=Xb (f:=f) (l:=l) fun z hz=>h z (List.mem_cons_of_mem _ hz)
  have h2:=h y (by simp)
  simp only[List.map_cons,gW]
  rcases List.mem_cons.1 hx with rfl | hx
  ·omega
  ·have:=ih (fun z hz=>h z (List.mem_cons_of_mem _ hz)) hx;omega
def tU:List Int->Int
 | []=>0
 | x::l=>max x (tU l)
theorem ME(l:List Int)(x:Int)(hx:0<=x):tU (l++[x])=max (tU l) x:=by
 induction l with
 | nil=>simp only[List.nil_append,tU];omega
 | cons y l ih=>simp only[List.cons_append,tU,ih];omega
theorem rE:∀ l:List Int,0<=tU l
 | []=>by simp[tU]
 | x::l=>by have:=rE l;simp only[tU];omega
theorem XL{l:List Int}{x:Int}(h:x∈l):x<=tU l:=by
 induction l with
 | nil=>simp at h
 | cons y l ih=>
  simp only[tU]
  rcases List.mem_cons.1 h with rfl | h
  ·omega
  ·have:=ih h;omega
theorem VG{l:List Int}{M:Int}(h0:0<=M)(h:∀ x∈l,x<=M):tU l<=M:=by
 induction l with
 | nil=>simpa [tU] using h0
 | cons y l ih=>
  have:=ih fun x hx=>h x (List.mem_cons_of_mem _ hx)
  have:=h y (by simp)
  simp only[tU];omega
theorem tV{x:Int}:∀ {n:Nat} {v:Int},x∈vA v n↔v<=x/\x<v+n
 | 0,v=>by simp only[vA,List.not_mem_nil,false_iff];omega
 | n+1,v=>by
  simp only[vA,List.mem_cons,tV (n:=n)]
  constructor
  ·rintro(rfl | h) <;> omega
  ·intro h
   by_cases e:x=v
   ·exact .inl e
   ·exact .inr (by omega)
theorem nw:∀(n:Nat) (v:Int),(vA v n).Nodup
 | 0,_=>by simp[vA]
 | n+1,v=>by
  simp only[vA,List.nodup_cons]
  exact⟨fun h=>by have:=tV.1 h;omega,nw n _⟩
theorem Ki:∀(n:Nat) (v:Int),(vA v n).length=n
 | 0,_=>rfl
 | n+1,v=>by simp only[vA,List.length_cons,Ki n]
theorem py:∀(n:Nat) (v:Int),vA v (n+1)=vA v n++[v+n]
 | 0,v=>by simp[vA]
 | n+1,v=>by
  rw[vA,py n (v+1)]
  simp only[vA,List.cons_append]
  rw[show v+1+(n:Int)=v+((n+1:Nat):Int) by push_cast;omega]
structure Fw where
 k:Int
 v:Int
 j:Int
def ly(c:Cf)(v:Int):Int:=(nth c.yg v).yK
def bd(c:Cf)(x:Fw)(t:Int):Int:=mx c x.v*((t+x.j) / ly c x.v+1)
def od(r:List Hop)(p:Pl):Int:=if (ky r p.ya).2 then(ky r p.ya).1.fQ else -1
def tj(c:Cf)(rs:List (List Hop))(D:Pl->Int)(p:Pl)(v:Int):Fw:=⟨od (nth rs v) p,v,jn c D (nth rs v) p.ya⟩
def vls(rs:List (List Hop))(p:Pl)(n:Nat):List Int:=(vA 0 n).filter fun v=>qp p (nth rs v)
def fws(c:Cf)(rs:List (List Hop))(D:Pl->Int)(p:Pl):List Fw:=(vls rs p rs.length).map (tj c rs D p)
def dz(c:Cf)(l:List Fw)(t L:Int):Int:=gW ((l.filter fun x=>decide (x.k=L)).map fun x=>bd c x t)
def oA(c:Cf)(l:List Fw)(L:Int):Int:=tU ((l.filter fun x=>decide (x.k=L)).map fun x=>mx c x.v)
def oC(c:Cf)(l:List Fw)(t L:Int):Int:=if L<0 then dz c l t L else min (dz c l t L) (oA c l L+t / max 1 (qJ c L))
def lks(c:Cf):List Int:=vA (-1) (c.fK.length+1)
def iF(c:Cf)(l:List Fw)(t:Int):Int:=gW ((lks c).map (oC c l t))
def pN(c:Cf)(l:List Fw):Int:=tU (l.map fun x=>mx c x.v)
structure FwOK (c:Cf) (l:List Fw):Prop where
 v0:∀ x∈l,0<=x.v/\x.v<c.yg.length
 k0:∀ x∈l,-1<=x.k/\x.k<c.fK.length
 j0:∀ x∈l,0<=x.j
theorem gV.mx{c:Cf}(h:gV c){v:Int}(h0:0<=v)(h1:v<c.yg.length):1<=mx c v/\mx c v<=72/\100<=ly c v/\ly c v<=12800:=by
 obtain⟨⟨a,b⟩,d,e⟩:=h _ (wn h0 h1)
 exact⟨d,e,a,b⟩
theorem VH{c:Cf}(hv:gV c){l:List Fw}(hl:FwOK c l){x:Fw}(hx:x∈l){t:Int}(h0:0<=t):1<=bd c x t:=by
 obtain⟨a,b,d,e⟩:=hv.mx (hl.v0 x hx).1 (hl.v0 x hx).2
 have hj:=hl.j0 x hx
 unfold bd
 have h2:0<=(t+x.j) / ly c x.v:=Int.ediv_nonneg (by omega) (by omega)
 have:=Int.mul_le_mul_of_nonneg_right a (show 0<=(t+x.j) / ly c x.v+1 by omega)
 omega
theorem WI{c:Cf}(hv:gV c){l:List Fw}(hl:FwOK c l)(L:Int):0<=oA c l L/\oA c l L<=72:=by
 unfold oA
 refine⟨rE _,VG (by omega) fun x hx=>?_⟩
 obtain⟨y,hy,rfl⟩:=List.mem_map.1 hx
 have hy:=(List.mem_filter.1 hy).1
 exact(hv.mx (hl.v0 y hy).1 (hl.v0 y hy).2).2.1
theorem KX{c:Cf}(hv:gV c){l:List Fw}(hl:FwOK c l){L:Int}{t:Int}(h0:0<=t):0<=oC c l t L:=by
 have hg:0<=dz c l t L:=Xb fun x hx=>by have:=VH hv hl (List.mem_filter.1 hx).1 h0;omega
 have hwb:=WI hv hl L
 unfold oC
 split
 ·exact hg
 ·have hd:0<=t / max 1 (qJ c L):=Int.ediv_nonneg h0 (by omega)
  omega
end
section
variable {rs:List (List Hop)}{p:Pl}{net:Int}{D:Pl->Int}{r:List Hop}{x:Fw}{ps:List PB}
def FL(c:Cf)(rs:List (List Hop))(D:Pl->Int)(p:Pl)(n:Nat):List Fw:=(vls rs p n).map (tj c rs D p)
theorem eE{c:Cf}{n:Nat}:x∈FL c rs D p n↔∃ v:Int,0<=v/\v<n/\qp p (nth rs v)=true/\x=tj c rs D p v:=by
 unfold FL vls
 simp only[List.mem_map,List.mem_filter,tV]
 constructor
 ·rintro⟨v,⟨⟨a,b⟩,d⟩,rfl⟩;exact⟨v,a,by omega,d,rfl⟩
 ·rintro⟨v,a,b,d,rfl⟩;exact⟨v,⟨⟨a,by omega⟩,d⟩,rfl⟩
theorem bf:qp p r=true↔∃ h∈r,pk h=p:=by
 unfold qp;simp
theorem bW{c:Cf}(hS:Small c)(hv:VA c net rs)(p:Pl){v:Int}(v0:0<=v)(v1:v<rs.length) : -1<=od (nth rs v) p/\od (nth rs v) p<c.fK.length/\(0<=od (nth rs v) p->1<=qJ c (od (nth rs v) p)/\qJ c (od (nth rs v) p)<=16):=by
 unfold od
 split
 ·rename_i h
  have:=(hv.each _ (wn v0 v1)).hop hS (rC h).1
  have a:=this.l0;have b:=this.l1;have d:=this.s0;have e:=this.s1
  exact⟨by omega,b,fun _=>⟨d,e⟩⟩
 ·exact⟨by omega,by omega,fun h=>absurd h (by omega)⟩
theorem FL_ok{c:Cf}(hS:Small c)(hv:VA c net rs)(hj:∀ x∈fws c rs D p,0<=x.j):FwOK c (fws c rs D p):=by
 have Ah:=hv.len
 refine⟨fun x hx=>?_,fun x hx=>?_,hj⟩
 ·obtain⟨v,v0,v1,_,rfl⟩:=eE.1 hx
  exact⟨v0,by show v<_;omega⟩
 ·obtain⟨v,v0,v1,_,rfl⟩:=eE.1 hx
  have:=bW hS hv p v0 v1
  exact⟨this.1,this.2.1⟩
def VI(A:Int->Int)(s la:Int)(t:Int):Int:=s*A t-t+la
def XM(A:Int->Int)(s la:Int)(t:Int):Int:=A t-(max (t-la) 0+s-1) / s
theorem qS.clo{c:Cf}(hv:VA c net rs){l1 l2:List Pl}(h:qS rs (l1++p::l2))(hr:r∈rs){x:Hop}(hx:x∈r)(hp:pk x∈l1\/pk x=p){g:Hop}(hg:g∈r)(e:g.fX=x.ya):pk g∈l1:=by
 have hpr:cZ rs (pk x) (pk g):=(M8 hv).1 ⟨r,hr,g,hg,x,hx,e,rfl,rfl⟩
 rcases hp with hp | hp
 ·obtain⟨a,b,e2⟩:=List.append_of_mem hp
  rw[e2]
  have:=h a (pk x) (b++p::l2) (by rw[e2];simp) _ hpr
  exact List.mem_append_left _ this
 ·exact h l1 p l2 rfl _ (hp▸hpr)
theorem QX{c:Cf}(hS:Small c)(hv:VA c net rs){M:Int}(hM:0<=M)(hr:r∈rs)(hD:∀ h∈r,-M<=D (pk h)/\D (pk h)<=M)(n:Int) : -(32*(M+1016))<=jn c D r n/\jn c D r n<=32*(M+1016):=by
 have h:=UI (c:=c) (D:=D) hS (hv.each r hr) hM hD r.length n
 rw[List.take_of_length_le (Nat.le_refl _)] at h
 exact h
theorem Sr{c:Cf}(hx:x∈fws c rs D p):∃ h∈nth rs x.v,nth rs x.v∈rs/\0<=x.v/\x.v<rs.length/\pk h=p/\x.j=jn c D (nth rs x.v) h.ya/\x.k=od (nth rs x.v) p:=by
 obtain⟨v,v0,v1,hu,rfl⟩:=eE.1 hx
 obtain⟨h,hh,e⟩:=bf.1 hu
 refine⟨h,hh,wn v0 v1,v0,v1,e,?_,rfl⟩
 rw[<- e];rfl
theorem Gw{c:Cf}(hv:gV c){l:List Fw}(hl:FwOK c l)(hx:x∈l){t:Int}(h0:0<=t):1<=iF c l t:=by
 have hb:=VH hv hl hx h0
 have hk:=hl.k0 x hx
 have hm:=hv.mx (hl.v0 x hx).1 (hl.v0 x hx).2
 have n8:x∈l.filter fun y=>decide (y.k=x.k):=List.mem_filter.2 ⟨hx,by simp⟩
 have hg:1<=dz c l t x.k:=by
  have:=Kh (f:=fun x=>bd c x t) (l:=l.filter fun y=>decide (y.k=x.k)) (fun y hy=>by have:=VH hv hl (List.mem_filter.1 hy).1 h0;omega) n8
  unfold dz;omega
 have hw:1<=oA c l x.k:=by
  have:=XL (x:=mx c x.v) (l:=(l.filter fun y=>decide (y.k=x.k)).map fun x=>mx c x.v) (List.mem_map.2 ⟨x,n8,rfl⟩)
  unfold oA;omega
 have hgv:1<=oC c l t x.k:=by
  have hd:0<=t / max 1 (qJ c x.k):=Int.ediv_nonneg h0 (by omega)
  unfold oC;split <;> omega
 have:=Kh (f:=oC c l t) (l:=lks c) (fun L _=>KX hv hl h0) (x:=x.k) (by unfold lks;exact tV.2 ⟨by omega,by push_cast;omega⟩)
 unfold iF;omega
theorem MF{c:Cf}(hS:Small c)(hv:VA c net rs)(hp:p∈PS rs):∃ r∈rs,∃ h∈r,pk h=p/\HV c h:=by
 obtain⟨r,hr,h,hh,e⟩:=(o9 rs p).1 hp
 exact⟨r,hr,h,hh,e,(hv.each r hr).hop hS hh⟩
theorem WK{c:Cf}(hS:Small c)(hv:VA c net rs)(hp:p∈PS rs):(1<=qJ c p.fQ/\qJ c p.fQ<=16)/\(0<=ju c p.ya/\ju c p.ya<=1000):=by
 obtain⟨r,hr,h,hh,rfl,hx⟩:=MF hS hv hp
 exact⟨⟨hx.s0,hx.s1⟩,⟨hx.d0,hx.d1⟩⟩
theorem Td{c:Cf}(hp:p∈PS rs):∃ x,x∈fws c rs D p:=by
 obtain⟨r,hr,h,hh,e⟩:=(o9 rs p).1 hp
 obtain⟨i,i0,i1,rfl⟩:=sm hr
 exact⟨_,eE.2 ⟨i,i0,i1,bf.2 ⟨h,hh,e⟩,rfl⟩⟩
theorem jn0{c:Cf}(hv:VA c net rs){l1 l2:List Pl}(ho:qS rs (l1++p::l2))(h:∀ q∈l1,ju c q.ya+qJ c q.fQ<=D q)(hr:r∈rs):∀ x∈r,(pk x∈l1\/pk x=p)->0<=jn c D r x.ya:=by
 have hv1:=hv.each r hr
 refine hv1.ind (P:=fun x=>(pk x∈l1\/pk x=p)->0<=jn c D r x.ya) (fun x hx e _=>?_) (fun g hg x hx e ih hp=>?_)
 ·rw[e,hv1.jn_start];exact Int.le_refl _
 ·have CZ:=ho.clo hv hr hx hp hg e
  have h1:=h _ CZ
  have h2:=ih (.inl CZ)
  rw[<- e,hv1.jn_next D hg]
  have e1:(pk g).ya=g.ya:=rfl
  have e2:(pk g).fQ=g.fQ:=rfl
  rw[e1,e2] at h1
  omega
theorem Kj{b:PB}:∀ {l:List PB},(l.map fG).Nodup->b∈l->xC (ew l) (fG b) 0=b.yl
 | [],_,h=>by cases h
 | a::l,hn,h=>by
  show xC (w4 (ew l) (fG a) a.yl) (fG b) 0=_
  rw[List.map_cons,List.nodup_cons] at hn
  rw[jh]
  by_cases e:fG b=fG a
  ·rw[if_pos e]
   rcases List.mem_cons.1 h with h | h
   ·rw[h]
   ·exact absurd (List.mem_map.2 ⟨b,h,e⟩) hn.1
  ·rw[if_neg e]
   rcases List.mem_cons.1 h with h | h
   ·exact absurd (by rw[h]) e
   ·exact Kj hn.2 h
theorem MH{α β:Type}{f:α->List β}{m:Nat}:∀ l:List α,(∀ x∈l,(f x).length<=m)->(l.flatMap f).length<=l.length*m
 | [],_=>by simp
 | x::l,h=>by
  rw[List.flatMap_cons,List.length_append,List.length_cons,Nat.succ_mul]
  have h1:=h x (by simp)
  have h2:=MH l fun y hy=>h y (List.mem_cons_of_mem _ hy)
  omega
theorem Ss{c:Cf}(hl:rs.length<=20)(he:∀ r∈rs,r.length<=40):(EN c rs ps).length<=1000000:=by
 unfold EN
 have:=MH (f:=fun v=>wH kg (VE c rs (ew ps) v)) (m:=40) (vA 0 rs.length) (fun v hv=>by
  have h4:=tV.1 hv
  rw[rg]
  exact Nat.le_trans Mw (he _ (wn (by omega) (by omega))))
 rw[Ki] at this
 have h3:rs.length*40<=20*40:=Nat.mul_le_mul_right _ hl
 omega
theorem Kk{c:Cf}{x:zw}:x∈EN c rs ps↔∃ v:Int,0<=v/\v<rs.length/\x∈VE c rs (ew ps) v:=by
 unfold EN
 rw[List.mem_flatMap]
 constructor
 ·rintro⟨v,hv,hx⟩
  have:=tV.1 hv
  exact⟨v,by omega,by omega,(kF _ _).subset hx⟩
 ·rintro⟨v,v0,v1,hx⟩
  exact⟨v,tV.2 ⟨v0,by omega⟩,(kF _ _).symm.subset hx⟩
theorem TS{c:Cf}{x y:zw}(hx:x∈EN c rs ps)(hy:y∈EN c rs ps)(h1:x.yq=y.yq)(h2:x.ya=y.ya):x=y:=by
 obtain⟨v,_,_,hx⟩:=Kk.1 hx
 obtain⟨w,_,_,hy⟩:=Kk.1 hy
 have iv:=K1 c rs (ew ps) v
 have iw:=K1 c rs (ew ps) w
 have e:v=w:=by have a:=(iv.vl x hx).1;have b:=(iw.vl y hy).1;omega
 subst e
 have hn:((VE c rs (ew ps) v).map (·.ya)).Nodup:=iv.nd
 obtain⟨i,hi,rfl⟩:=List.getElem_of_mem hx
 obtain⟨j,hj,rfl⟩:=List.getElem_of_mem hy
 have h3:((VE c rs (ew ps) v).map (·.ya))[i]'(by simpa using hi)=((VE c rs (ew ps) v).map (·.ya))[j]'(by simpa using hj):=by simpa using h2
 have:=(List.getElem_inj (h₀:=by simpa using hi) (h₁:=by simpa using hj) hn).1 h3
 subst this;rfl
end
section
variable {p:Pl}{rs:List (List Hop)}{D:Pl->Int}{L v x:Int}
theorem Kl(a b:List (List B))(t:Rat):TQ (a++b) t=TQ a t+TQ b t:=by
  induction a with
  | nil=>simp[TQ,Rat.zero_add]
  | cons c a ih=>simp only[List.cons_append,TQ,ih,Rat.add_assoc]
theorem WM{c:Cf}(hv:gV c)(h0:0<=v)(h1:v<c.yg.length):V (RT c v)=true/\0<=val (RT c v)/\val (RT c v)*WZ (ly c v)=WZ (mx c v):=by
  obtain⟨g1,g2⟩:=YD hv ⟨h0,h1⟩
  refine⟨g1,g2,?_⟩
  obtain⟨⟨b1,b2⟩,b3,b4⟩:=hv _ (wn h0 h1)
  have hf:fits (Rat.divInt (mx c v) (nth c.yg v).yK)=true:=dw (by omega) ⟨by unfold mx;omega,by omega⟩
  unfold RT ly
  rw[Yv hf,ue,ss,ss,Rat.divInt_eq_div]
  refine Rat.div_mul_cancel ?_
  have:(0:Rat)<((nth c.yg v).yK:Rat):=by
    have:=Rat.intCast_lt_intCast.2 (show(0:Int)<(nth c.yg v).yK by omega);simpa using this
  grind
theorem Gx{c:Cf}(hv:gV c){x:Fw}(h0:0<=x.v)(h1:x.v<c.yg.length){t:Int}:WZ (bd c x t)<=WZ (mx c x.v)+val (RT c x.v)*WZ x.j+val (RT c x.v)*WZ t:=by
  obtain⟨_,r0,r1⟩:=WM hv h0 h1
  obtain⟨m1,m2,b1,b2⟩:=hv.mx h0 h1
  unfold bd
  have hd:ly c x.v*((t+x.j) / ly c x.v)<=t+x.j:=Int.mul_ediv_self_le (by omega)
  have hd2:=fI hd
  rw[ez,pt] at hd2
  have h3:=Rat.mul_le_mul_of_nonneg_left hd2 r0
  rw[ez,pt,K9,<- r1]
  grind
theorem Su(b:B)(t:Rat):AT [b] t=vq t b:=by
  obtain⟨x,hx,e⟩:=YC (c:=[b]) (by simp) t
  rw[List.mem_singleton.1 hx] at e;exact e
theorem Sv(a b:B)(t:Rat){y:Rat}(h1:y<=vq t a)(h2:y<=vq t b):y<=AT [a,b] t:=by
  obtain⟨x,hx,e⟩:=YC (c:=[a,b]) (by simp) t
  rw[e]
  simp only[List.mem_cons,List.not_mem_nil,or_false] at hx
  rcases hx with rfl | rfl
  · exact h1
  · exact h2
theorem MI(rs:List (List Hop))(p:Pl)(v:Int):od (nth rs v) p=if (gi rs p v).2 then(gi rs p v).1.fQ else -1:=rfl
def pB(rs:List (List Hop))(p:Pl)(L:Int)(n:Nat):List Int:=(vA 0 n).filter fun v=>qp p (nth rs v)&&decide (od (nth rs v) p=L)
theorem lX(n:Nat):pB rs p L (n+1)=pB rs p L n++if qp p (nth rs n)=true/\od (nth rs n) p=L then[(n:Int)] else[]:=by
  unfold pB
  rw[py,List.filter_append,show(0:Int)+n=n by omega]
  by_cases h:qp p (nth rs n)=true/\od (nth rs n) p=L
  · rw[if_pos h];simp[h.1,h.2]
  · rw[if_neg h]
    have:(qp p (nth rs n)&&decide (od (nth rs n) p=L))=false:=by
      rw[Bool.eq_false_iff];intro hc;rw[Bool.and_eq_true,decide_eq_true_eq] at hc;exact h hc
    simp[this]
theorem lY{n:Nat}:v∈pB rs p L n↔0<=v/\v<n/\qp p (nth rs v)=true/\od (nth rs v) p=L:=by
  unfold pB
  rw[List.mem_filter,tV,Bool.and_eq_true,decide_eq_true_eq]
  constructor
  · rintro⟨⟨a,b⟩,d,e⟩;exact⟨a,by omega,d,e⟩
  · rintro⟨a,b,d,e⟩;exact⟨⟨a,by omega⟩,d,e⟩
theorem Gy{c:Cf}(L:Int):((fws c rs D p).filter fun x=>decide (x.k=L))=(pB rs p L rs.length).map (tj c rs D p):=by
  unfold fws vls pB
  rw[List.filter_map,List.filter_filter]
  congr 1
  refine List.filter_congr fun v _=>?_
  show(decide (od (nth rs v) p=L)&&qp p (nth rs v))=_
  rw[Bool.and_comm]
def BW(c:Cf)(rs:List (List Hop))(D:Pl->Int)(b:R)(v:Int)(p:Pl):Prop:=V b=true/\WZ (mx c v)+val (RT c v)*WZ (jn c D (nth rs v) p.ya)<=val b
structure CI (c:Cf) (rs:List (List Hop)) (D:Pl->Int) (p:Pl) (Cu:BM) (n:Nat) (s:CS):Prop where
  own:∀ x:Int,WZ (gW ((pB rs p (-1) n).map fun v=>bd c (tj c rs D p v) x))<=TQ s.own (WZ x)
  lk:∀ q,0<=q->xC s.lk q []=pB rs p q n
  bu:∀ v:Int,0<=v->v<n->qp p (nth rs v)=true->BW c rs D (xC s.bu ⟨v,p⟩ ⟨0,0⟩) v p
  keep:∀(x:Int) (q:Pl),q≠p->xC s.bu (⟨x,q⟩:iR) ⟨0,0⟩=xC Cu ⟨x,q⟩ ⟨0,0⟩
  most:s.most=tU (((vA 0 n).filter fun v=>qp p (nth rs v)).map fun v=>mx c v)
def PB4(c:Cf)(rs:List (List Hop))(D:Pl->Int)(p:Pl)(Cu:BM)(de:DM):Prop:=∀ v:Int,0<=v->v<rs.length->qp p (nth rs v)=true->(gi rs p v).2=true->
  pk (gi rs p v).1≠p/\BW c rs D (xC Cu ⟨v,pk (gi rs p v).1⟩ ⟨0,0⟩) v (pk (gi rs p v).1)/\D (pk (gi rs p v).1)<=xC de (pk (gi rs p v).1) 0
theorem Gz{bu:BM}{q:Pl}{b:R}(h:q≠p):xC (w4 bu ⟨v,p⟩ b) (⟨x,q⟩:iR) ⟨0,0⟩=xC bu ⟨x,q⟩ ⟨0,0⟩:=lf h
theorem CI.all{c:Cf}{net:Int}{rs:List (List Hop)}(hS:Small c)(hv:VA c net rs)(hV:gV c){D:Pl->Int}{p:Pl}{Cu:BM}{de:DM}(hP:PB4 c rs D p Cu de):∀ n:Nat,n<=rs.length->((vA 0 n).foldl (kh c rs de p) ⟨[],0,0,[],Cu⟩).e=0->CI c rs D p Cu n ((vA 0 n).foldl (kh c rs de p) ⟨[],0,0,[],Cu⟩)
  | 0,_,_=>⟨fun x=>by show WZ 0<=0;exact Rat.le_refl,fun q _=>rfl,fun v h0 h1=>by omega,fun _ _ _=>rfl,rfl⟩
  | n+1,hn,he=>by
    rw[py,List.foldl_append,show(0:Int)+n=n by omega] at he ⊢
    simp only[List.foldl_cons,List.foldl_nil] at he ⊢
    have E3:=Ke he
    have ih:=CI.all hS hv hV hP n (by omega) E3
    generalize (vA 0 n).foldl (kh c rs de p) ⟨[],0,0,[],Cu⟩=s at ih he E3 ⊢
    have v0:(0:Int)<=n:=by omega
    have v1:(n:Int)<rs.length:=by omega
    have v2:(n:Int)<c.yg.length:=by have:=hv.len;omega
    have hm:=hV.mx v0 v2
    have DP:((vA 0 (n+1)).filter fun v=>qp p (nth rs v))=((vA 0 n).filter fun v=>qp p (nth rs v))++if qp p (nth rs n)=true then[(n:Int)] else[]:=by
      rw[py,List.filter_append,show(0:Int)+n=n by omega]
      by_cases h:qp p (nth rs n)=true <;> simp[h]
    cases hu:qp p (nth rs n) with
    | false=>
      rw[iE hu]
      refine⟨fun x=>?_,fun q hq=>?_,fun v a b d=>?_,ih.keep,?_⟩
      · rw[lX,if_neg (by simp[hu]),List.append_nil];exact ih.own x
      · rw[lX,if_neg (by simp[hu]),List.append_nil];exact ih.lk q hq
      · by_cases e:v=n
        · rw[e,hu] at d;cases d
        · exact ih.bu v a (by omega) d
      · rw[DP,hu];simpa using ih.most
    | true=>
      rw[hu,if_pos rfl] at DP
      have Ba:max s.most (mx c n)=tU (((vA 0 (n+1)).filter fun v=>qp p (nth rs v)).map fun v=>mx c v):=by
        rw[DP,List.map_append,List.map_cons,List.map_nil,ME _ _ (by omega),ih.most]
      cases hg:(gi rs p n).2 with
      | false=>
        rw[cD hu hg] at he ⊢
        have hL:od (nth rs n) p = -1:=by rw[MI,hg];rfl
        have hj:jn c D (nth rs n) p.ya=0:=by
          refine Gv fun g CZ e=>?_
          have:=Xz CZ
          rw[e] at this
          have hg':(ky (nth rs n) p.ya).2=false:=hg
          rw[this] at hg';cases hg'
        obtain⟨r1,r2,r3⟩:=WM hV v0 v2
        refine⟨fun x=>?_,fun q hq=>?_,fun v a b d=>?_,fun x q hq=>?_,Ba⟩
        · rw[lX,if_pos ⟨hu,hL⟩,List.map_append,Xa,pt,Kl]
          have h1:=ih.own x
          have h2:=Gx hV (x:=tj c rs D p n) v0 v2 (t:=x)
          have ej:(tj c rs D p n).j=0:=hj
          rw[ej] at h2
          have e1:TQ [[(⟨⟨mx c n,1⟩,RT c n⟩:B)]] (WZ x)=WZ (mx c n)+val (RT c n)*WZ x:=by
            show AT _ _+0=_
            rw[Su,Rat.add_zero];rfl
          rw[e1]
          have e2:gW (([(n:Int)]).map fun v=>bd c (tj c rs D p v) x)=bd c (tj c rs D p n) x:=by simp[gW]
          rw[e2]
          have e3:WZ 0=0:=by decide +kernel
          rw[e3] at h2
          have e4:(tj c rs D p n).v=n:=rfl
          rw[e4] at h2
          grind
        · rw[lX,if_neg (by rw[hL];omega),List.append_nil];exact ih.lk q hq
        · show BW c rs D (xC (w4 s.bu ⟨n,p⟩ ⟨mx c n,1⟩) ⟨v,p⟩ ⟨0,0⟩) v p
          rw[pw]
          by_cases e:v=n
          · subst e
            rw[if_pos rfl]
            refine⟨(nu (by omega)).1,?_⟩
            rw[hj]
            have e3:WZ 0=0:=by decide +kernel
            rw[e3,Rat.mul_zero,Rat.add_zero];exact Rat.le_refl
          · rw[if_neg e];exact ih.bu v a (by omega) d
        · show xC (w4 s.bu ⟨n,p⟩ _) (⟨x,q⟩:iR) ⟨0,0⟩=_
          rw[Gz hq];exact ih.keep x q hq
      | true=>
        obtain⟨n9,hbw,Bt⟩:=hP n v0 v1 hu hg
        rw[eD hu hg] at he ⊢
        have he1:(pX c rs de p s.e n s.bu).2=0:=he
        have hL:od (nth rs n) p=(gi rs p n).1.fQ:=by rw[MI,hg];rfl
        have hL0:0<=od (nth rs n) p:=by
          have:=(hv.each _ (wn v0 v1)).hop hS (rC hg).1
          rw[hL];exact this.l0
        have hb:BW c rs D (pX c rs de p s.e n s.bu).1 n p:=by
          unfold pX at he1 ⊢
          obtain⟨a1,a2,a3⟩:=oz he1
          obtain⟨⟨b1,b2⟩,b3,b4⟩:=ol a2
          unfold rN at a1
          obtain⟨m1,m2,m3⟩:=oz a1
          obtain⟨⟨k1,k2⟩,k3,k4⟩:=YB m2
          rw[a3]
          refine⟨b3,?_⟩
          rw[b4]
          have em:val (rN c rs de p s.e n).1=val (RT c n)*WZ (xC de (pk (gi rs p n).1) 0):=by
            unfold rN;rw[m3,k4];rfl
          rw[em,ih.keep _ _ n9]
          have hr:=hv.each _ (wn v0 v1)
          have CZ:=(rC hg)
          have hh:=hr.hop hS CZ.1
          have ejn:=hr.jn_next D CZ.1
          have hgn:(ky (nth rs n) p.ya).1.fX=p.ya:=CZ.2
          rw[hgn] at ejn
          have qm:jn c D (nth rs n) p.ya<=jn c D (nth rs n) (pk (gi rs p n).1).ya+xC de (pk (gi rs p n).1) 0:=by
            have d0:=hh.d0;have s0:=hh.s0
            have e5:(pk (gi rs p n).1).ya=(ky (nth rs n) p.ya).1.ya:=rfl
            have e6:pk (gi rs p n).1=pk (ky (nth rs n) p.ya).1:=rfl
            rw[e5];rw[e6] at Bt ⊢
            omega
          have E4:=fI qm
          rw[pt] at E4
          obtain⟨_,r2,_⟩:=WM hV v0 v2
          have h5:=Rat.mul_le_mul_of_nonneg_left E4 r2
          have h6:=hbw.2
          grind
        refine⟨fun x=>?_,fun q hq=>?_,fun v a b d=>?_,fun x q hq=>?_,Ba⟩
        · rw[lX,if_neg (by omega),List.append_nil];exact ih.own x
        · show xC (w4 s.lk (gi rs p n).1.fQ (xC s.lk (gi rs p n).1.fQ []++[(n:Int)])) q []=_
          rw[jh,lX]
          by_cases e:q=(gi rs p n).1.fQ
          · rw[if_pos e,if_pos ⟨hu,by rw[hL,e]⟩,<- e,ih.lk q hq]
          · rw[if_neg e,if_neg (fun h=>e (by rw[<- h.2,hL])),List.append_nil];exact ih.lk q hq
        · show BW c rs D (xC (w4 s.bu ⟨n,p⟩ _) ⟨v,p⟩ ⟨0,0⟩) v p
          rw[pw]
          by_cases e:v=n
          · subst e;rw[if_pos rfl];exact hb
          · rw[if_neg e];exact ih.bu v a (by omega) d
        · show xC (w4 s.bu ⟨n,p⟩ _) (⟨x,q⟩:iR) ⟨0,0⟩=_
          rw[Gz hq];exact ih.keep x q hq
structure GI (s:GS) (f:Int->Int) (w:Int):Prop where
  b:V s.b=true
  r:V s.r=true
  f:∀ x:Int,WZ (f x)<=val s.b+val s.r*WZ x
  w:s.wide=w
theorem GI.fold{c:Cf}{rs:List (List Hop)}{D:Pl->Int}{p:Pl}{bu:BM}(hV:gV c)(hl:rs.length=c.yg.length):∀(l:List Int) (s:GS) (f:Int->Int) (w:Int),(∀ v∈l,(0<=v/\v<rs.length)/\BW c rs D (xC bu ⟨v,p⟩ ⟨0,0⟩) v p)->(l.foldl (ob c bu p) s).e=0->GI s f w->GI (l.foldl (ob c bu p) s) (fun x=>f x+gW (l.map fun v=>bd c (tj c rs D p v) x)) (l.foldl (fun a v=>max a (mx c v)) w)
  | [],s,f,w,_,_,h=>⟨h.b,h.r,fun x=>by simpa [gW] using h.f x,h.w⟩
  | v::l,s,f,w,hb,he,h=>by
    rw[List.foldl_cons] at he ⊢
    rw[List.foldl_cons]
    have he1:=lb l _ he
    have he2:(DO (DO s.e (jw s.b (xC bu ⟨v,p⟩ ⟨0,0⟩))).2 (jw s.r (RT c v))).2=0:=he1
    obtain⟨a1,a2,a3⟩:=oz he2
    obtain⟨b1,b2,b3⟩:=oz a1
    obtain⟨⟨_,_⟩,c3,c4⟩:=ol a2
    obtain⟨⟨_,_⟩,d3,d4⟩:=ol b2
    obtain⟨⟨v0,v1⟩,hw⟩:=hb v (by simp)
    have:=GI.fold (D:=D) hV hl l (ob c bu p s v) (fun x=>f x+bd c (tj c rs D p v) x) (max w (mx c v)) (fun y hy=>hb y (List.mem_cons_of_mem _ hy)) he ⟨?_,?_,fun x=>?_,?_⟩
    · refine⟨this.b,this.r,fun x=>?_,this.w⟩
      have h1:=this.f x
      simp only[List.map_cons,gW]
      rw[<- Int.add_assoc];exact h1
    · show V (DO s.e (jw s.b (xC bu ⟨v,p⟩ ⟨0,0⟩))).1=true
      rw[b3];exact d3
    · show V (DO (DO s.e (jw s.b (xC bu ⟨v,p⟩ ⟨0,0⟩))).2 (jw s.r (RT c v))).1=true
      rw[a3];exact c3
    · show WZ (f x+bd c (tj c rs D p v) x)<=val (DO s.e (jw s.b (xC bu ⟨v,p⟩ ⟨0,0⟩))).1+val (DO (DO s.e (jw s.b (xC bu ⟨v,p⟩ ⟨0,0⟩))).2 (jw s.r (RT c v))).1*WZ x
      rw[b3,d4,a3,c4,pt]
      have h1:=h.f x
      have h2:=Gx hV (x:=tj c rs D p v) v0 (by show v<_;omega) (t:=x)
      have e4:(tj c rs D p v).v=v:=rfl
      have e5:(tj c rs D p v).j=jn c D (nth rs v) p.ya:=rfl
      rw[e4,e5] at h2
      have h3:=hw.2
      grind
    · show max s.wide (mx c v)=_
      rw[h.w]
theorem Y4{c:Cf}:∀(l:List Int) (w:Int),0<=w->l.foldl (fun a v=>max a (mx c v)) w=max w (tU (l.map fun v=>mx c v))
  | [],w,h=>by simp only[List.foldl_nil,List.map_nil,tU];omega
  | v::l,w,h=>by
    rw[List.foldl_cons,Y4 l _ (by omega)]
    simp only[List.map_cons,tU];omega
theorem ny{c:Cf}:dz c (fws c rs D p) x L=gW ((pB rs p L rs.length).map fun v=>bd c (tj c rs D p v) x):=by
  unfold dz;rw[Gy,List.map_map];rfl
theorem Km{c:Cf}:oA c (fws c rs D p) L=tU ((pB rs p L rs.length).map fun v=>mx c v):=by
  unfold oA;rw[Gy,List.map_map];rfl
theorem UJ{s:Int}(hs:1<=s/\s<=16):WZ (x / s)<=val ⟨1,s⟩*WZ x:=by
  obtain⟨_,h1,h2⟩:=lV hs
  have h3:=fI (Int.mul_ediv_self_le (x:=x) (k:=s) (by omega))
  rw[ez] at h3
  have h4:=Rat.mul_le_mul_of_nonneg_left h3 (Rat.le_of_lt h1)
  rw[<- Rat.mul_assoc,h2,Rat.one_mul] at h4
  exact h4
theorem GA{c:Cf}{net:Int}{rs:List (List Hop)}(hS:Small c)(hv:VA c net rs)(hV:gV c){D:Pl->Int}{p:Pl}{lk:List (Int×List Int)}{bu:BM}(CJ:∀ q,0<=q->xC lk q []=pB rs p q rs.length)(hbu:∀ v:Int,0<=v->v<rs.length->qp p (nth rs v)=true->BW c rs D (xC bu ⟨v,p⟩ ⟨0,0⟩) v p):∀(m:Nat) (s:List (List B)×Int),((vA 0 m).foldl (fF c lk bu p) s).2=0->
    ∀ x:Int,0<=x->TQ s.1 (WZ x)+WZ (gW ((vA 0 m).map (oC c (fws c rs D p) x)))<=TQ ((vA 0 m).foldl (fF c lk bu p) s).1 (WZ x)
  | 0,s,_,x,hx=>by
    show TQ s.1 (WZ x)+WZ 0<=TQ s.1 (WZ x)
    have e3:WZ 0=0:=by decide +kernel
    rw[e3,Rat.add_zero];exact Rat.le_refl
  | m+1,s,he,x,hx=>by
    rw[py,List.foldl_append,show(0:Int)+m=m by omega] at he ⊢
    simp only[List.foldl_cons,List.foldl_nil] at he ⊢
    have ih:=GA hS hv hV CJ hbu m s (Kd he) x hx
    generalize (vA 0 m).foldl (fF c lk bu p) s=s1 at ih he ⊢
    rw[List.map_append,Xa,pt]
    have e2:gW (([(m:Int)]).map (oC c (fws c rs D p) x))=oC c (fws c rs D p) x m:=by simp[gW]
    rw[e2]
    have em:¬((m:Int)<0):=by omega
    have hgv:oC c (fws c rs D p) x m=min (dz c (fws c rs D p) x m) (oA c (fws c rs D p) m+x / max 1 (qJ c m)):=if_neg em
    unfold fF at he ⊢
    rw[CJ m (by omega)] at he ⊢
    split
    · rename_i hz
      rw[if_pos hz] at he
      have h0:oC c (fws c rs D p) x m<=0:=by
        have:dz c (fws c rs D p) x m=0:=by rw[ny,hz];rfl
        rw[hgv];omega
      have h1:=fI h0
      have e3:WZ 0=0:=by decide +kernel
      rw[e3] at h1
      grind
    · rename_i hz
      rw[if_neg hz] at he
      simp only at he ⊢
      have hG:=GI.fold (rs:=rs) (D:=D) (p:=p) (bu:=bu) hV hv.len (pB rs p m rs.length) ⟨0,s1.2,⟨0,1⟩,⟨0,1⟩⟩ (fun _=>0) 0 (fun v E5=>by
        obtain⟨a,b,d,e⟩:=lY.1 E5
        exact⟨⟨a,b⟩,hbu v a b d⟩) he ⟨show V ⟨0,1⟩=true by decide,show V ⟨0,1⟩=true by decide,fun y=>by
          have e3:WZ 0=0:=by decide +kernel
          have e4:val ⟨0,1⟩=0:=by decide +kernel
          rw[e3,e4,Rat.zero_mul,Rat.add_zero];exact Rat.le_refl,rfl⟩
      have vL:1<=qJ c m/\qJ c m<=16:=by
        obtain⟨v,E5⟩:=List.exists_mem_of_ne_nil _ hz
        obtain⟨a,b,d,e⟩:=lY.1 E5
        have:=(bW hS hv p a b).2.2 (by omega)
        rwa [e] at this
      rw[Kl]
      have hw:=hG.w
      rw[Y4 _ 0 (by omega)] at hw
      have Ae:(List.foldl (ob c bu p) ⟨0,s1.2,⟨0,1⟩,⟨0,1⟩⟩ (pB rs p m rs.length)).wide=oA c (fws c rs D p) m:=by
        rw[hw,Km]
        have:=rE ((pB rs p m rs.length).map fun v=>mx c v)
        omega
      have hf:=hG.f x
      simp only[Int.zero_add] at hf
      rw[<- ny] at hf
      have hAT:WZ (oC c (fws c rs D p) x m)<=AT [(⟨(List.foldl (ob c bu p) ⟨0,s1.2,⟨0,1⟩,⟨0,1⟩⟩ (pB rs p m rs.length)).b,(List.foldl (ob c bu p) ⟨0,s1.2,⟨0,1⟩,⟨0,1⟩⟩ (pB rs p m rs.length)).r⟩:B),⟨⟨(List.foldl (ob c bu p) ⟨0,s1.2,⟨0,1⟩,⟨0,1⟩⟩ (pB rs p m rs.length)).wide,1⟩,⟨1,(nth c.fK m).yr⟩⟩] (WZ x):=by
        refine Sv _ _ _ ?_ ?_
        · refine Rat.le_trans (fI ?_) hf
          rw[hgv];omega
        · show _<=WZ _+val ⟨1,qJ c m⟩*WZ x
          rw[Ae]
          have h1:=UJ (x:=x) vL
          have h2:oC c (fws c rs D p) x m<=oA c (fws c rs D p) m+x / qJ c m:=by
            rw[hgv,show max 1 (qJ c m)=qJ c m by omega];omega
          have h3:=fI h2
          rw[pt] at h3
          grind
      have e5:∀ a:List B,TQ [a] (WZ x)=AT a (WZ x):=fun a=>by show AT a (WZ x)+0=_;rw[Rat.add_zero]
      rw[e5]
      grind
def QC(a:List B):Prop:=∀ x:Int,0<=x->AT a (WZ x)<=WZ (72+x)
theorem QC.of{a:List B}{b:B}{w:Int}(hb:b∈a)(hw:w<=72)(e:b.yi=⟨w,1⟩)(hr:val b.fR<=1):QC a:=fun x hx=>by
  refine Rat.le_trans (K8 hb) ?_
  have h1:=Rat.mul_le_mul_of_nonneg_right hr (sP hx)
  have h2:=fI hw
  show val b.yi+val b.fR*WZ x<=_
  rw[e,QV,pt]
  grind
theorem MJ{r:Rat}{a b:Int}(hb:0<b)(h:r*WZ b=WZ a)(qm:a<=b):r<=1:=by
  have h0:(0:Rat)<WZ b:=by have:=bS hb;rwa [show WZ 0=0 by decide +kernel] at this
  refine Rat.not_lt.1 fun h1=>?_
  have h2:=Rat.mul_lt_mul_of_pos_right h1 h0
  rw[h,Rat.one_mul] at h2
  have:=lW h2
  omega
theorem MK{c:Cf}{rs:List (List Hop)}{de:DM}{p:Pl}(hV:gV c)(hl:rs.length=c.yg.length):∀(m:Nat) (s:CS),m<=rs.length->(∀ a∈s.own,QC a)->∀ a∈((vA 0 m).foldl (kh c rs de p) s).own,QC a
  | 0,s,_,h=>h
  | m+1,s,hm,h=>by
    rw[py,List.foldl_append,show(0:Int)+m=m by omega]
    simp only[List.foldl_cons,List.foldl_nil]
    have ih:=MK (de:=de) (p:=p) hV hl m s (by omega) h
    generalize (vA 0 m).foldl (kh c rs de p) s=s1 at ih ⊢
    unfold kh
    simp only
    split
    · split
      · exact ih
      · intro a ha
        rcases List.mem_append.1 ha with ha | ha
        · exact ih a ha
        · rw[List.mem_singleton.1 ha]
          have h1:=hV.mx (v:=m) (by omega) (by omega)
          obtain⟨_,_,h2⟩:=WM hV (v:=m) (by omega) (by omega)
          exact QC.of (List.mem_singleton.2 rfl) h1.2.1 rfl (MJ (by omega) h2 (by omega))
    · exact ih
theorem ML{c:Cf}{net:Int}{rs:List (List Hop)}(hS:Small c)(hv:VA c net rs)(hV:gV c){p:Pl}{lk:List (Int×List Int)}{bu:BM}(CJ:∀ q,0<=q->xC lk q []=pB rs p q rs.length):∀(m:Nat) (s:List (List B)×Int),(∀ a∈s.1,QC a)->∀ a∈((vA 0 m).foldl (fF c lk bu p) s).1,QC a
  | 0,s,h=>h
  | m+1,s,h=>by
    rw[py,List.foldl_append,show(0:Int)+m=m by omega]
    simp only[List.foldl_cons,List.foldl_nil]
    have ih:=ML hS hv hV (p:=p) (bu:=bu) CJ m s h
    generalize (vA 0 m).foldl (fF c lk bu p) s=s1 at ih ⊢
    unfold fF
    rw[CJ m (by omega)]
    split
    · exact ih
    · rename_i hz
      intro a ha
      rcases List.mem_append.1 ha with ha | ha
      · exact ih a ha
      · rw[List.mem_singleton.1 ha]
        obtain⟨v,E5⟩:=List.exists_mem_of_ne_nil _ hz
        obtain⟨a,b,d,e⟩:=lY.1 E5
        have vL:=(bW hS hv p a b).2.2 (by omega)
        rw[e] at vL
        have hw:∀(l:List Int) (s:GS),(l.foldl (ob c bu p) s).wide=l.foldl (fun a v=>max a (mx c v)) s.wide:=fun l=>by
          induction l with
          | nil=>intro s;rfl
          | cons v l ih=>intro s;rw[List.foldl_cons,List.foldl_cons,ih];rfl
        refine QC.of (w:=((pB rs p m rs.length).foldl (ob c bu p) ⟨0,s1.2,⟨0,1⟩,⟨0,1⟩⟩).wide) (List.mem_cons_of_mem _ (List.mem_singleton.2 rfl)) ?_ rfl ?_
        · rw[hw,Y4 _ _ (Int.le_refl 0)]
          have:=VG (M:=72) (by omega) (l:=(pB rs p m rs.length).map fun v=>mx c v) fun x hx=>by
            obtain⟨y,hy,rfl⟩:=List.mem_map.1 hx
            obtain⟨y0,y1,_⟩:=lY.1 hy
            exact(hV.mx y0 (by have:=hv.len;omega)).2.1
          show max 0 _<=72
          omega
        · obtain⟨_,_,h3⟩:=lV vL
          exact MJ (a:=1) (by omega) (by rw[K9];exact h3) vL.1
theorem MM{c:Cf}{net:Int}(hS:Small c)(hv:VA c net rs)(hV:gV c){bu:BM}{de:DM}(hP:PB4 c rs D p bu de)(he:(CU c rs bu de 0 p).2.2.1=0):
    (∀ x:Int,0<=x->WZ (iF c (fws c rs D p) x)<=TQ (CU c rs bu de 0 p).1 (WZ x))/\(CU c rs bu de 0 p).2.1=pN c (fws c rs D p)/\(∀ v:Int,0<=v->v<rs.length->qp p (nth rs v)=true->BW c rs D (xC (CU c rs bu de 0 p).2.2.2 ⟨v,p⟩ ⟨0,0⟩) v p)/\∀ a∈(CU c rs bu de 0 p).1,QC a:=by
  unfold CU at he ⊢
  simp only at he ⊢
  have E3:((vA 0 rs.length).foldl (kh c rs de p) ⟨[],0,0,[],bu⟩).e=0:=cq _ (_,_) he
  have hC:=CI.all hS hv hV hP rs.length (Nat.le_refl _) E3
  have hO:=MK (de:=de) (p:=p) hV hv.len rs.length ⟨[],0,0,[],bu⟩ (Nat.le_refl _) (by simp)
  generalize (vA 0 rs.length).foldl (kh c rs de p) ⟨[],0,0,[],bu⟩=s at he E3 hC hO ⊢
  refine⟨fun x hx=>?_,?_,hC.bu,fun a ha=>(List.mem_append.1 ha).elim (hO a) (ML hS hv hV hC.lk _ ([],s.e) (by simp) a)⟩
  · have h1:=hC.own x
    have h2:=GA hS hv hV hC.lk hC.bu c.fK.length ([],s.e) he x hx
    rw[Kl]
    have e1:iF c (fws c rs D p) x=gW ((pB rs p (-1) rs.length).map fun v=>bd c (tj c rs D p v) x)+gW ((vA 0 c.fK.length).map (oC c (fws c rs D p) x)):=by
      unfold iF lks
      rw[vA,List.map_cons,gW,<- ny]
      rfl
    rw[e1,pt]
    have e2:TQ ([]:List (List B)) (WZ x)=0:=rfl
    rw[e2] at h2
    grind
  · rw[hC.most]
    unfold pN fws vls
    rw[List.map_map];rfl
theorem MN{y:R}{n:Int}(hy:V y=true)(h:WZ n<=val y):n<=gw y:=by
  obtain⟨f,e,h1,h2,_⟩:=t6 hy
  have ef:gw y=f:=by unfold gw;rw[e];rfl
  rw[ef]
  have hD:0<y.fD:=by
    simp only[V,decide_eq_true_eq] at hy;omega
  have h3:val y<WZ (f+1):=bT hD h2
  have h5:WZ n<WZ (f+1):=by grind
  have h4:=lW h5
  omega
theorem Te{x:Int}(hx:0<=x):∀ {l:List (List B)},(∀ a∈l,QC a)->TQ l (WZ x)<=WZ (l.length*(72+x))
  | [],_=>by
    show(0:Rat)<=_
    exact sP (by simp)
  | a::l,h=>by
    have h1:=h a (by simp) x hx
    have h2:=Te hx fun b hb=>h b (List.mem_cons_of_mem _ hb)
    rw[TQ,List.length_cons,show((l.length+1:Nat):Int)*(72+x)=(72+x)+l.length*(72+x) by push_cast;rw[Int.add_mul];omega,pt]
    grind
theorem UL{c:Cf}{l:List (List B)}{A:Int->Int}(hs:1<=qJ c p.fQ/\qJ c p.fQ<=16)(Aq:0<=ju c p.ya/\ju c p.ya<=1000)(hd:(DL l (gz c p)).2=0)(hb:(BL l (gz c p)).2=0)(hQ:∀ a∈l,QC a)(hA:∀ x:Int,0<=x->WZ (A x)<=TQ l (WZ x)):
    V (DL l (gz c p)).1=true/\V (BL l (gz c p)).1=true/\gw (BL l (gz c p)).1<=1073741752/\∀ x:Int,0<=x->VI A (qJ c p.fQ) (ju c p.ya) x<=gw (DL l (gz c p)).1/\XM A (qJ c p.fQ) (ju c p.ya) x<=gw (BL l (gz c p)).1:=by
  obtain⟨f,ER,_,_⟩:=Vy hd
  have hL:(gz c p).fL=⟨ju c p.ya,1⟩:=rfl
  have hR:RS (gz c p)=val ⟨1,qJ c p.fQ⟩:=rfl
  have Ee:LS (gz c p)=WZ (ju c p.ya):=rfl
  have hlV:=nu (n:=ju c p.ya) (by omega)
  have DQ:∀ q∈mD l [(gz c p).fL],V q=true/\0<=q.fN:=by
    intro q hq
    have:=aZ (more:=[(gz c p).fL]) f.vc (fun y hy=>by
      rw[List.mem_singleton.1 hy];exact⟨hlV.1,Aq.1⟩) q hq
    simp only[GR,Bool.and_eq_true,decide_eq_true_eq] at this
    exact this
  obtain⟨_,hbv,_,y,hy,b1,b2⟩:=Fs (fun q hq=>(DQ q hq).1) hb
  refine⟨ER,hbv,Int.not_lt.1 fun hc=>?_,fun x hx=>⟨MN ER ?_,MN hbv ?_⟩⟩
  · have DJ:=Kb hd
    obtain⟨f,e,h1,_⟩:=t6 hbv
    have ef:gw (BL l (gz c p)).1=f:=by unfold gw;rw[e];rfl
    have hD:0<(BL l (gz c p)).1.fD:=by simp only[V,decide_eq_true_eq] at hbv;omega
    have h2:WZ f<=val (BL l (gz c p)).1:=aX hD h1
    have h3:=fI (show 1073741753<=f by omega)
    have E6:=(DQ y hy).2
    rw[eC] at hy
    obtain⟨n,_,rfl⟩:=List.mem_map.1 hy
    rw[QV] at b1 b2
    have E6:0<=n:=E6
    have h4:=Te (l:=l) E6 hQ
    have h5:val (BL l (gz c p)).1<=WZ 1073741752:=by
      rw[b1]
      unfold X9
      rw[Ee,hR]
      obtain⟨_,s2,s3⟩:=lV hs
      by_cases hn:n<=33000000
      · have h7:((l.length:Nat):Int)*(72+n)<=32*(72+n):=Int.mul_le_mul_of_nonneg_right (by omega) (by omega)
        refine Rat.le_trans ?_ (Rat.le_trans h4 (fI (by omega)))
        split
        · grind
        · rename_i nU
          have h8:WZ (ju c p.ya)<=WZ n:=Rat.le_of_lt (Rat.not_le.1 nU)
          have h9:=Rat.mul_nonneg (Rat.le_of_lt s2) (show 0<=WZ n-WZ (ju c p.ya) by grind)
          grind
      · rw[if_neg (Rat.not_le.2 (bS (by omega)))]
        have h8:=Rat.mul_le_mul_of_nonneg_left (fI (show qJ c p.fQ*1600<=n-ju c p.ya by omega)) (Rat.le_of_lt s2)
        rw[ez,<- Rat.mul_assoc,s3,Rat.one_mul,<- eB] at h8
        have h9:=fI (show(1073741825:Int)-1600<=1073741752 by omega)
        rw[<- eB] at h9
        grind
    have h6:=bS (show(1073741752:Int)<1073741753 by omega)
    grind
  · have h1:=MA hd hx
    obtain⟨_,h2,h3⟩:=lV hs
    unfold Qj at h1
    rw[hR,Ee,UG h3] at h1
    have h4:=hA x hx
    have h5:(0:Rat)<=WZ (qJ c p.fQ):=sP (by omega)
    have h6:=Rat.mul_le_mul_of_nonneg_right h4 h5
    unfold VI
    rw[pt,<- eB,ez]
    grind
  · have h1:=MB hL DQ hb hx
    obtain⟨_,h2,h3⟩:=lV hs
    unfold X9 at h1
    rw[hR,Ee] at h1
    have h4:=hA x hx
    unfold XM
    rw[<- eB]
    have zW:0<=(max (x-ju c p.ya) 0+qJ c p.fQ-1) / qJ c p.fQ:=Int.ediv_nonneg (by omega) (by omega)
    have hk:max (x-ju c p.ya) 0<=qJ c p.fQ*((max (x-ju c p.ya) 0+qJ c p.fQ-1) / qJ c p.fQ):=by
      have:=Int.lt_mul_ediv_self_add (x:=max (x-ju c p.ya) 0+qJ c p.fQ-1) (k:=qJ c p.fQ) (by omega)
      omega
    generalize (max (x-ju c p.ya) 0+qJ c p.fQ-1) / qJ c p.fQ=k at hk zW ⊢
    have wj:(0:Rat)<=WZ k:=sP zW
    split at h1
    · grind
    · rename_i nU
      have EP:ju c p.ya<x:=by
        refine Int.not_le.1 fun hc=>nU (fI hc)
      have h5:=fI (show x-ju c p.ya<=qJ c p.fQ*k by omega)
      rw[<- eB,ez] at h5
      have h6:=Rat.mul_le_mul_of_nonneg_left h5 (Rat.le_of_lt h2)
      rw[<- Rat.mul_assoc,h3,Rat.one_mul] at h6
      grind
def Db(t:WS)(q:Pl):Int:=xC t.de q 0
theorem PB4.of{c:Cf}{l1 l2:List Pl}{t s:WS}(ho:qS rs (l1++p::l2))(hn:(l1++p::l2).Nodup)(hs:SNAP c rs t l1 p s)(qm:∀ q∈l1,D q<=Db t q)(hb:∀ q∈l1,∀ v:Int,0<=v->v<rs.length->qp q (nth rs v)=true->BW c rs D (xC t.bu ⟨v,q⟩ ⟨0,0⟩) v q):PB4 c rs D p s.bu s.de:=by
  intro v v0 v1 hu hg
  obtain⟨a1,a2⟩:=oH v0 v1 hu hg
  have hm:=ho l1 p l2 rfl _ a1
  refine⟨fun e=>?_,?_,?_⟩
  · rw[e] at hm
    exact(List.nodup_append.1 hn).2.2 p hm p (by simp) rfl
  · rw[hs.bu _ hm];exact hb _ hm v v0 v1 (YH a2)
  · rw[hs.de _ hm];exact qm _ hm
theorem Kn{c:Cf}{net:Int}{rs:List (List Hop)}(hS:Small c)(hv:VA c net rs)(hV:gV c){l:List Pl}{t:WS}(hn:l.Nodup)(ho:qS rs l)(hr:mq c rs l w0 = .inl t){D:Pl->Int}:∀(n:Nat) (l1 l2:List Pl),l1.length=n->l=l1++l2->(∀ q∈l1,D q<=Db t q)->∀ q∈l1,∀ v:Int,0<=v->v<rs.length->qp q (nth rs v)=true->BW c rs D (xC t.bu ⟨v,q⟩ ⟨0,0⟩) v q
  | 0,l1,l2,hl,_,_,q,hq=>by rw[List.length_eq_zero_iff.1 hl] at hq;cases hq
  | n+1,l1,l2,hl,e,qm,q,hq=>by
    have n9:l1≠[]:=by rintro rfl;cases hl
    have e0:=List.dropLast_concat_getLast n9
    generalize l1.dropLast=l0 at e0
    generalize l1.getLast n9=p at e0
    subst e0
    have Ey:l0.length=n:=by rw[List.length_append,List.length_singleton] at hl;omega
    have e1:l=l0++p::l2:=by rw[e];simp
    have ih:=Kn hS hv hV hn ho hr (D:=D) n l0 (p::l2) Ey e1 (fun q hq=>qm q (List.mem_append_left _ hq))
    rcases List.mem_append.1 hq with hq | hq
    · exact ih q hq
    · rw[List.mem_singleton.1 hq]
      obtain⟨s,hs⟩:=VF hn hr e1
      have hP:=PB4.of (e1▸ho) (e1▸hn) hs (fun q hq=>qm q (List.mem_append_left _ hq)) ih
      have hfe:=WH hs.e hs.we
      intro v v0 v1 hu
      rw[<- hs.bp v]
      have:=(MM hS hv hV hP hfe.1).2.2.1 v v0 v1 hu
      show BW c rs D (xC (CU c rs s.bu s.de s.e p).2.2.2 ⟨v,p⟩ ⟨0,0⟩) v p
      rw[hs.e];exact this
theorem Qo{c:Cf}{net:Int}(hS:Small c)(hv:VA c net rs)(hV:gV c){l:List Pl}{t:WS}(hp:l.Perm (PS rs))(ho:qS rs l)(hr:mq c rs l w0 = .inl t){l1 l2:List Pl}(e:l=l1++p::l2)(qm:∀ q∈l1,D q<=Db t q):
    ∃ b∈t.out,fG b=p/\b.yl=Db t p/\(Db t p<=1073741824/\b.fT<=1073741824)/\∀ x:Int,0<=x->VI (iF c (fws c rs D p)) (qJ c p.fQ) (ju c p.ya) x<=Db t p/\XM (iF c (fws c rs D p)) (qJ c p.fQ) (ju c p.ya) x+pN c (fws c rs D p)<=b.fT:=by
  have hn:l.Nodup:=hp.nodup_iff.2 (cY rs)
  have DR:p∈PS rs:=hp.subset (by rw[e];simp)
  obtain⟨s,hs⟩:=VF hn hr e
  have hP:=PB4.of (e▸ho) (e▸hn) hs qm (Kn hS hv hV hn ho hr l1.length l1 (p::l2) rfl e qm)
  obtain⟨f1,f2,f3⟩:=WH hs.e hs.we
  obtain⟨c1,c2,_,c4⟩:=MM hS hv hV hP f1
  obtain⟨s1,s2⟩:=WK hS hv DR
  obtain⟨d1,d2,d4,d3⟩:=UL s1 s2 f2 f3 c4 c1
  have hd:Db t p=gw (DL (CU c rs s.bu s.de 0 p).1 (gz c p)).1:=by
    unfold Db
    rw[<- hs.dp]
    show xC (w4 s.de p (gw (DL (CU c rs s.bu s.de s.e p).1 (gz c p)).1)) p 0=_
    rw[jh,if_pos rfl,hs.e]
  have hb:=Y0 d2
  have n4:i64 (gw (BL (CU c rs s.bu s.de s.e p).1 (gz c p)).1+(CU c rs s.bu s.de s.e p).2.1)=gw (BL (CU c rs s.bu s.de 0 p).1 (gz c p)).1+pN c (fws c rs D p)/\pN c (fws c rs D p)<=72:=by
    have Dm:0<=pN c (fws c rs D p)/\pN c (fws c rs D p)<=72:=by
      unfold pN
      refine⟨rE _,VG (by omega) fun m hm=>?_⟩
      obtain⟨y,hy,rfl⟩:=List.mem_map.1 hm
      obtain⟨v,v0,v1,_,rfl⟩:=eE.1 hy
      exact(hV.mx (v:=v) v0 (by have:=hv.len;omega)).2.1
    rw[hs.e,c2,xQ (by omega)]
    exact⟨rfl,Dm.2⟩
  refine⟨_,hs.out,rfl,?_,⟨?_,?_⟩,fun x hx=>?_⟩
  · show gw (DL (CU c rs s.bu s.de s.e p).1 (gz c p)).1=_
    rw[hs.e,hd]
  · rw[hd];exact(Y0 d1).2
  · show i64 _<=_
    rw[n4.1];omega
  · rw[hd]
    refine⟨(d3 x hx).1,?_⟩
    show _<=i64 _
    rw[n4.1]
    have:=(d3 x hx).2
    omega
end
section
abbrev Ev:=yp
variable {l:List Ev}{i j:Int}
def bX(a b:Ev):Prop:=a.yb<b.yb\/a.yb=b.yb/\(a.yA<b.yA\/a.yA=b.yA/\(a.yG<b.yG\/a.yG=b.yG/\a.yc<b.yc))
instance (a b:Ev):Decidable (bX a b):=inferInstanceAs (Decidable (_\/_))
def tP(a b:Ev):Prop:=¬bX b a
theorem nz(a:Ev):tP a a:=by unfold tP bX;omega
theorem bY{a b c:Ev}(h:tP a b)(k:tP b c):tP a c:=by unfold tP bX at *;omega
theorem cr{a b:Ev}(h:bX a b):tP a b:=by unfold tP bX at *;omega
theorem MO(a b:Ev):∃ v,kH a b=some v/\(v<0↔bX a b):=by
 unfold kH
 simp only[nh,oB]
 rw[F9 (by simp)]
 refine⟨_,rfl,?_⟩
 unfold oG oG oG oG oG Jy bX
 repeat' split
 all_goals omega
theorem VJ(hi:0<=i/\i<l.length)(hj:0<=j/\j<l.length):jr l i j=some (decide (bX (nth l i) (nth l j))):=by
 unfold jr
 rw[xJ hi,xJ hj]
 obtain⟨v,h1,h2⟩:=MO (nth l i) (nth l j)
 show(kH (nth l i) (nth l j)).bind _=_
 rw[h1]
 simp only[oB,h2]
def bh(l:List Ev)(i j:Int):List Ev:=(l.set i.toNat (nth l j)).set j.toNat (nth l i)
theorem VK(hi:0<=i/\i<l.length)(hj:0<=j/\j<l.length):js l i j=some (bh l i j):=by
 unfold js
 rw[xJ hj,xJ hi,xJ (by rw[List.length_set];exact hj)]
 rfl
theorem uJ(l:List Ev)(i j:Int):(bh l i j).length=l.length:=by simp[bh]
theorem tu{x:Int}(hi:0<=i/\i<l.length)(hj:0<=j/\j<l.length)(hx:0<=x/\x<l.length):
  nth (bh l i j) x=if x=j then nth l i else if x=i then nth l j else nth l x:=by
 rw[jY (l:=bh l i j) (by rw[uJ];exact hx),jY hx]
 unfold bh
 rw[List.getElem_set,List.getElem_set]
 by_cases h1:x=j
 ·subst h1;simp
 ·rw[if_neg (by omega),if_neg h1]
  by_cases h2:x=i
  ·subst h2;simp
  ·rw[if_neg (by omega),if_neg h2]
theorem XN(hi:0<=i/\i<l.length)(hj:0<=j/\j<l.length):(bh l i j).Perm l:=by
 unfold bh
 rw[jY hi,jY hj]
 exact List.set_set_perm (by omega) (by omega)
def vN(x:Int):Int:=(x-1) / 2
def HP(l:List Ev)(n:Int):Prop:=∀ x:Int,0<x->x<n->tP (nth l (vN x)) (nth l x)
def HU(l:List Ev)(n j:Int):Prop:=(∀ x:Int,0<x->x<n->x≠j->tP (nth l (vN x)) (nth l x))/\(0<j->∀ x:Int,0<x->x<n->vN x=j->tP (nth l (vN j)) (nth l x))
theorem GC{k:List Ev->Option (List Ev)}:∀(f:Nat) (j:Int) (l:List Ev),0<=j->j<l.length->l.length<9000000000000000000->j<f->HU l l.length j->
  ∃ l',jA k f j l=k l'/\l'.Perm l/\HP l' l'.length
 | 0,j,l,h0,h1,h2,h3,h4=>by omega
 | f+1,j,l,h0,h1,h2,h3,h4=>by
  rw[jA]
  have ei:i64 (Int.tdiv (i64 (j-1)) 2)=if j=0 then 0 else vN j:=by
   rw[xQ (x:=j-1) (by omega)]
   by_cases hj:j=0
   ·subst hj;rw[if_pos rfl];rfl
   ·rw[if_neg hj,Int.tdiv_eq_ediv_of_nonneg (by omega),xQ (by omega)];rfl
  rw[ei]
  by_cases hj:j=0
  ·subst hj
   simp only[if_true,decide_true,oB]
   refine⟨l,rfl,.refl _,fun x hx hn=>h4.1 x hx hn (by omega)⟩
  ·simp only[hj,if_false]
   have hp:vN j<j/\0<=vN j:=by unfold vN;omega
   rw[if_neg (by simp;omega),VJ ⟨h0,h1⟩ ⟨hp.2,by omega⟩]
   simp only[oB]
   by_cases hl:bX (nth l j) (nth l (vN j))
   ·simp only[hl,decide_true,Bool.not_true,Bool.false_eq_true,if_false]
    rw[VK ⟨hp.2,by omega⟩ ⟨h0,h1⟩]
    simp only[oB]
    have Dt:(0<=vN j/\vN j<l.length):=⟨hp.2,by omega⟩
    have hu:HU (bh l (vN j) j) (bh l (vN j) j).length (vN j):=by
     rw[uJ]
     refine⟨fun x hx hn n9=>?_,fun h0' x hx hn Bs=>?_⟩
     ·have Bs:0<=vN x/\vN x<x:=by unfold vN;omega
      rw[tu Dt ⟨h0,h1⟩ ⟨Bs.1,by omega⟩,tu Dt ⟨h0,h1⟩ ⟨by omega,hn⟩]
      by_cases e1:x=j
      ·subst e1
       rw[if_neg (by omega),if_pos rfl,if_pos rfl]
       exact cr hl
      ·rw[if_neg e1,if_neg n9]
       by_cases e2:vN x=j
       ·rw[if_pos e2]
        exact h4.2 (by omega) x hx hn e2
       ·rw[if_neg e2]
        by_cases e3:vN x=vN j
        ·rw[if_pos e3]
         have:=h4.1 x hx hn e1
         rw[e3] at this
         exact bY (cr hl) this
        ·rw[if_neg e3];exact h4.1 x hx hn e1
     ·have hpp:0<=vN (vN j)/\vN (vN j)<vN j:=by unfold vN at *;omega
      rw[tu Dt ⟨h0,h1⟩ ⟨hpp.1,by omega⟩,tu Dt ⟨h0,h1⟩ ⟨by omega,hn⟩]
      rw[if_neg (by omega),if_neg (by omega)]
      by_cases e1:x=j
      ·rw[if_pos e1];exact h4.1 (vN j) h0' (by omega) (by omega)
      ·have hxx:x≠vN j:=by
        have:vN x<x:=by unfold vN;omega
        omega
       rw[if_neg e1,if_neg hxx]
       have a1:=h4.1 x hx hn e1
       rw[Bs] at a1
       exact bY (h4.1 (vN j) h0' (by omega) (by omega)) a1
    obtain⟨l',e1,e2,e3⟩:=GC (k:=k) f (vN j) (bh l (vN j) j) hp.2 (by rw[uJ];omega) (by rw[uJ];omega) (by omega) hu
    exact⟨l',e1,e2.trans (XN Dt ⟨h0,h1⟩),e3⟩
   ·simp only[hl,decide_false,Bool.not_false,if_true]
    refine⟨l,rfl,.refl _,fun x hx hn=>?_⟩
    by_cases e:x=j
    ·subst e;exact hl
    ·exact h4.1 x hx hn e
theorem TT{x:Ev}(hl:(l.length:Int)<1000000000)(h:HP l l.length):∃ l',kI l x=some l'/\l'.Perm (x::l)/\HP l' l'.length:=by
 unfold kI mQ go
 rw[xJ (by simp;omega)]
 simp only[oB]
 unfold uy
 have jy:((l++[x]).length:Int)=l.length+1:=by simp
 rw[jy,xQ (by omega)]
 have DS:∀ y:Int,0<=y->y<l.length->nth (l++[x]) y=nth l y:=fun y h0 h1=>by
  rw[jY (l:=l++[x]) ⟨h0,by omega⟩,jY (l:=l) ⟨h0,h1⟩,List.getElem_append_left]
 have hu:HU (l++[x]) (l++[x]).length (l.length+1-1):=by
  rw[jy]
  refine⟨fun y hy hn n9=>?_,fun h0 y hy hn hp=>?_⟩
  ·have:0<=vN y/\vN y<y:=by unfold vN;omega
   rw[DS _ this.1 (by omega),DS y (by omega) (by omega)]
   exact h y hy (by omega)
  ·exfalso
   have:vN y<y:=by unfold vN;omega
   omega
 refine wD (P:=fun o=>∃ l',(o.bind fun z=>some z)=some l'/\l'.Perm (x::l)/\HP l' l'.length) fun k hk=>?_
 obtain⟨l',e1,e2,e3⟩:=GC (k:=k) xR (l.length+1-1) (l++[x]) (by omega) (by omega) (by omega) (by rw[wq];omega) hu
 rw[e1,hk]
 exact⟨l',rfl,e2.trans (List.perm_append_comm (l₁:=l) (l₂:=[x])),e3⟩
def HD(l:List Ev)(n i:Int):Prop:=(∀ x:Int,0<x->x<n->vN x≠i->tP (nth l (vN x)) (nth l x))/\(0<i->∀ x:Int,0<x->x<n->vN x=i->tP (nth l (vN i)) (nth l x))
theorem Qp{n:Int}{k:Int->List Ev->Option (Bool×List Ev)}:∀(f:Nat) (i:Int) (l:List Ev),0<=i->n<=l.length->l.length<1000000000->i<=l.length->l.length<f+i->HD l n i->
  ∃ i' l',qq n k f i l=k i' l'/\l'.Perm l/\HP l' n/\(∀ x:Int,n<=x->x<l.length->nth l' x=nth l x)
 | 0,i,l,h0,h1,h2,h3,h4,h5=>by omega
 | f+1,i,l,h0,h1,h2,h3,h4,h5=>by
  rw[qq]
  rw[xQ (x:=2*i) (by omega),xQ (x:=2*i+1) (by omega),xQ (x:=2*i+1+1) (by omega)]
  by_cases hs:2*i+1>=n
  ·rw[if_pos (by simp[hs])]
   refine⟨i,l,rfl,.refl _,fun x hx hn=>h5.1 x hx hn ?_,fun _ _ _=>rfl⟩
   unfold vN;omega
  ·rw[if_neg (by simp only[Bool.or_eq_true,decide_eq_true_eq];omega)]
   have key:∀ j:Int,(j=2*i+1\/j=2*i+2)->j<n->(∀ x:Int,0<x->x<n->vN x=i->tP (nth l j) (nth l x))->
     ∃ i' l',((jr l j i).bind fun x=>if (!x)=true then k i l else(js l i j).bind fun x=>qq n k f j x)=k i' l'/\l'.Perm l/\HP l' n/\(∀ x:Int,n<=x->x<l.length->nth l' x=nth l x):=by
    intro j hj hjn tK
    have tW:vN j=i:=by unfold vN;omega
    have Cv:0<=j/\j<l.length:=by omega
    have Cw:0<=i/\i<l.length:=by omega
    rw[VJ Cv Cw]
    simp only[oB]
    by_cases hl:bX (nth l j) (nth l i)
    ·simp only[hl,decide_true,Bool.not_true,Bool.false_eq_true,if_false]
     rw[VK Cw Cv]
     simp only[oB]
     have hd:HD (bh l i j) n j:=by
      refine⟨fun x hx hn hp=>?_,fun _ x hx hn hp=>?_⟩
      ·have Bs:0<=vN x/\vN x<x:=by unfold vN;omega
       rw[tu Cw Cv ⟨Bs.1,by omega⟩,tu Cw Cv ⟨by omega,by omega⟩,if_neg hp]
       by_cases e1:vN x=i
       ·rw[if_pos e1]
        by_cases e2:x=j
        ·rw[if_pos e2];exact cr hl
        ·rw[if_neg e2,if_neg (by omega)];exact tK x hx hn e1
       ·rw[if_neg e1]
        by_cases e2:x=j
        ·subst e2;exact absurd tW e1
        ·rw[if_neg e2]
         by_cases e3:x=i
         ·rw[if_pos e3]
          have:=h5.2 (by omega) j (by omega) hjn tW
          rw[e3];exact this
         ·rw[if_neg e3];exact h5.1 x hx hn e1
      ·have Bs:vN x<x:=by unfold vN;omega
       rw[tW,tu Cw Cv Cw,tu Cw Cv ⟨by omega,by omega⟩,if_neg (by omega),if_pos rfl,if_neg (by omega),if_neg (by omega)]
       have:=h5.1 x hx hn (by omega)
       rw[hp] at this;exact this
     obtain⟨i',l',e1,e2,e3,e4⟩:=Qp (n:=n) (k:=k) f j (bh l i j) Cv.1 (by rw[uJ];exact h1) (by rw[uJ];exact h2) (by rw[uJ];omega) (by rw[uJ];omega) hd
     refine⟨i',l',e1,e2.trans (XN Cw Cv),e3,fun x hx hn=>?_⟩
     rw[e4 x hx (by rw[uJ];exact hn),tu Cw Cv ⟨by omega,hn⟩,if_neg (by omega),if_neg (by omega)]
    ·simp only[hl,decide_false,Bool.not_false,if_true]
     refine⟨i,l,rfl,.refl _,fun x hx hn=>?_,fun _ _ _=>rfl⟩
     by_cases e:vN x=i
     ·rw[e];exact bY hl (tK x hx hn e)
     ·exact h5.1 x hx hn e
   refine wD (P:=fun o=>∃ i' l',o=k i' l'/\l'.Perm l/\HP l' n/\(∀ x:Int,n<=x->x<l.length->nth l' x=nth l x)) fun kk xO=>?_
   have hch:∀ x:Int,0<x->vN x=i->x=2*i+1\/x=2*i+2:=fun x hx hp=>by unfold vN at hp;omega
   by_cases h6:2*i+1+1<n
   ·rw[if_pos (decide_eq_true h6),VJ ⟨by omega,by omega⟩ ⟨by omega,by omega⟩]
    simp only[oB,decide_eq_true_eq]
    by_cases h7:bX (nth l (2*i+1+1)) (nth l (2*i+1))
    ·rw[if_pos h7,xO]
     refine key _ (by omega) h6 fun x hx hn hp=>?_
     rcases hch x hx hp with rfl | rfl
     ·exact cr h7
     ·rw[show 2*i+2=2*i+1+1 by omega];exact nz _
    ·rw[if_neg h7,xO]
     refine key _ (by omega) (by omega) fun x hx hn hp=>?_
     rcases hch x hx hp with rfl | rfl
     ·exact nz _
     ·rw[show 2*i+2=2*i+1+1 by omega];exact h7
   ·rw[if_neg (by simpa using h6)]
    simp only[oB,Bool.false_eq_true,if_false]
    rw[xO]
    refine key _ (by omega) (by omega) fun x hx hn hp=>?_
    rcases hch x hx hp with rfl | rfl
    ·exact nz _
    ·omega
theorem TU{n:Int}(h:HP l n):∀(m:Nat) (x:Int),x=m->x<n->tP (nth l 0) (nth l x):=by
 intro m
 induction m using Nat.strongRecOn with
 | _ m ih=>
  intro x hx hn
  by_cases h0:x=0
  ·rw[h0];exact nz _
  ·have hp:0<=vN x/\vN x<x:=by unfold vN;omega
   exact bY (ih (vN x).toNat (by omega) (vN x) (by omega) (by omega)) (h x (by omega) hn)
theorem TV{n:Int}(h1:n<=l.length)(h2:l.length<1000000000)(h5:HD l n 0):
  ∃ b l',gU l 0 n=some (b,l')/\l'.Perm l/\HP l' n/\(∀ x:Int,n<=x->x<l.length->nth l' x=nth l x):=by
 unfold gU
 refine uY (P:=fun o=>∃ b l',o=some (b,l')/\l'.Perm l/\HP l' n/\(∀ x:Int,n<=x->x<l.length->nth l' x=nth l x)) fun k hk=>?_
 have hF:=wq
 generalize xR=N at hF ⊢
 obtain⟨i',l',e1,e2,e3,e4⟩:=Qp (n:=n) (k:=k) N 0 l (by omega) h1 h2 (by omega) (by omega) h5
 rw[e1,hk]
 exact⟨_,l',rfl,e2,e3,e4⟩
theorem Sx(h0:l≠[])(hl:(l.length:Int)<1000000000)(h:HP l l.length):∃ e l',fu l=some (e,l')/\(e::l').Perm l/\HP l' l'.length/\∀ x∈l,tP e x:=by
 have zt:0<(l.length:Int):=by cases l with | nil=>exact absurd rfl h0 | cons=>simp
 unfold fu go
 simp only[oB]
 rw[xQ (x:=(l.length:Int)-1) (by omega),VK ⟨by omega,zt⟩ ⟨by omega,by omega⟩]
 simp only[oB]
 have Be:(0:Int)<=0/\(0:Int)<l.length:=⟨by omega,zt⟩
 have BJ:(0:Int)<=(l.length:Int)-1/\(l.length:Int)-1<l.length:=⟨by omega,by omega⟩
 have hd:HD (bh l 0 ((l.length:Int)-1)) ((l.length:Int)-1) 0:=by
  refine⟨fun x hx hn hp=>?_,fun h=>absurd h (by omega)⟩
  have Bs:0<=vN x/\vN x<x:=by unfold vN;omega
  rw[tu Be BJ ⟨Bs.1,by omega⟩,tu Be BJ ⟨by omega,by omega⟩,if_neg (by omega),if_neg hp,if_neg (by omega),if_neg (by omega)]
  exact h x hx (by omega)
 obtain⟨b',l',e1,e2,e3,e4⟩:=TV (n:=(l.length:Int)-1) (l:=bh l 0 ((l.length:Int)-1)) (by rw[uJ];omega) (by rw[uJ];omega) hd
 rw[e1]
 have jy:(l'.length:Int)=l.length:=by have:=e2.length_eq;rw[uJ] at this;omega
 simp only[oB]
 unfold uc
 rw[jy,xQ (by omega),xJ ⟨by omega,by omega⟩,xJ ⟨by omega,by omega⟩]
 simp only[oB]
 have E7:nth l' ((l.length:Int)-1)=nth l 0:=by
  rw[e4 _ (Int.le_refl _) (by rw[uJ];omega),tu Be BJ BJ,if_pos rfl]
 have happ:l'=l'.take ((l.length:Int)-1).toNat++[nth l' ((l.length:Int)-1)]:=by
  have h1:((l.length:Int)-1).toNat<l'.length:=by omega
  rw[jY ⟨by omega,by omega⟩,List.take_append_getElem h1,List.take_of_length_le (by omega)]
 refine⟨nth l' ((l.length:Int)-1),l'.take ((l.length:Int)-1).toNat,rfl,?_,?_,?_⟩
 ·refine List.Perm.trans ?_ (e2.trans (XN Be BJ))
  refine List.Perm.trans ?_ (List.Perm.of_eq happ.symm)
  exact(List.perm_append_comm (l₁:=[_]))
 ·intro x hx hn
  rw[List.length_take] at hn
  have Bs:0<=vN x/\vN x<x:=by unfold vN;omega
  have DS:∀ y:Int,0<=y->y<(l.length:Int)-1->nth (l'.take ((l.length:Int)-1).toNat) y=nth l' y:=fun y a b=>by
   rw[jY (l:=l'.take _) ⟨a,by rw[List.length_take];omega⟩,jY (l:=l') ⟨a,by omega⟩,List.getElem_take]
  rw[DS _ Bs.1 (by omega),DS x (by omega) (by omega)]
  exact e3 x hx (by omega)
 ·intro x hx
  rw[E7]
  obtain⟨i,hi,rfl⟩:=List.getElem_of_mem hx
  have:=TU h i (i:Int) rfl (by omega)
  rw[jY (l:=l) (i:=(i:Int)) ⟨by omega,by omega⟩] at this
  simpa using this
end
end Go.Proofs.YtcahmabkeaijdaaGreat

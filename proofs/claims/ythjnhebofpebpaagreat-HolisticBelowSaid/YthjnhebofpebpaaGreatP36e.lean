/- A part of this claim's proof: models of functions, walks, plain laws. No conditions. -/
import Derived.Test.YthjnhebofpebpaaGreatP35g
set_option linter.all false
namespace Go.Proofs.YthjnhebofpebpaaGreat
open Go Go.RowKit Sep
/-! ### the order -/
theorem ycP{l:List Pl×Int}{k:List S36->Option (List S36×Int)}(hl:l.1.length<=1000000):∀(n:Nat) (o:List S36) (v:Int),0<=v->v<=l.1.length->l.1.length<n+v->o.length=v->
  y4n l k n o v=k (o++(l.1.drop v.toNat).map fun p=>⟨p.fNode,p.fQ,0,0⟩)
 | 0,o,v,h0,h1,h2,h3=>by omega
 | n+1,o,v,h0,h1,h2,h3=>by
  rw[y4n]
  by_cases h:v<l.1.length
  ·rw[if_pos (decide_eq_true h),yt ⟨h0,h⟩,yt (by simp;omega),y42 h0 h,yz (x:=v+1) (by omega)]
   rw[ycP hl n _ (v+1) (by omega) (by omega) (by omega) (by simp;omega),show(v+1).toNat=v.toNat+1 by omega]
   simp
  ·rw[if_neg (by simpa using h),List.drop_eq_nil_of_le (by omega)];simp
theorem yim{c:Cf}{net:Int}{rs:List (List Hop)}(hf:FewP c rs)(hv:VA c net rs):
  (∃ l,l.Perm (PS rs)/\y21 rs l/\y4X c net rs=some (l.map fun p=>⟨p.fNode,p.fQ,0,0⟩,0))\/(∃ s,y9L rs s/\y4X c net rs=some ([],351)):=by
 unfold y4X
 obtain⟨b,q1,q2⟩:=yf4 hf.small (net:=net) (rs:=rs) (fun r hr=>by have:=hf.e r hr;omega) (by have:=hf.r;omega)
 rw[q1,q2.2 hv,oB,if_neg (by simp)]
 have hps:=yc2 hf.e
 have hr:=hf.r
 have h3:rs.length*40<=20*40:=Nat.mul_le_mul_right _ hr
 rcases yhS (rs:=rs) (fun r h=>by have:=hf.e r h;omega) (by omega) with⟨l,e1,e2,e3⟩ | ⟨s,e1,e2⟩
 ·rw[e3,oB]
  have hlen:=e1.length_eq
  refine .inl ⟨l,e1,e2,?_⟩
  refine y28 (P:=fun o=>o=_) fun k hk=>?_
  rw[ycP (l:=(l,0)) (by show l.length<=_;omega) yy [] 0 (by omega) (by omega) (by rw[yV];show((l.length:Nat):Int)<_;omega) rfl,hk]
  simp
 ·rw[e2,oB]
  refine .inr ⟨s,e1,?_⟩
  refine y28 (P:=fun o=>o=_) fun k hk=>?_
  rw[ycP (l:=([],351)) (by simp) yy [] 0 (by omega) (by simp) (by rw[yV];simp) rfl,hk]
  simp
/-! ### the errors of the calculus are small numbers -/
def Er(e:Int):Prop:=0<=e/\e<=9
theorem ErN{e:Int}(h:e=0\/e=2\/e=3\/e=6):Er e:=by unfold Er;omega
theorem mk_er(q:Rat):Er (mk q).2:=by unfold mk Er;split <;> simp
theorem ybc(x y:R):Er (ADD x y).2:=by
 unfold ADD
 by_cases h:V x=true/\V y=true
 ·rw[ydy h.1 h.2];exact mk_er _
 ·rw[ygw h];exact ErN (by first | exact .inl rfl | exact .inr (.inl rfl) | exact .inr (.inr (.inl rfl)) | exact .inr (.inr (.inr rfl)))
theorem yin(x y:R):Er (SUB x y).2:=by
 unfold SUB
 by_cases h:V x=true/\V y=true
 ·rw[yc4 h.1 h.2];exact mk_er _
 ·rw[ygx h];exact ErN (by first | exact .inl rfl | exact .inr (.inl rfl) | exact .inr (.inr (.inl rfl)) | exact .inr (.inr (.inr rfl)))
theorem MUL_er(x y:R):Er (MUL x y).2:=by
 unfold MUL
 by_cases h:V x=true/\V y=true
 ·rw[ydz h.1 h.2];exact mk_er _
 ·rw[ygy h];exact ErN (by first | exact .inl rfl | exact .inr (.inl rfl) | exact .inr (.inr (.inl rfl)) | exact .inr (.inr (.inr rfl)))
theorem DIV_er(x y:R)(h0:y.fN≠0):Er (DIV x y).2:=by
 unfold DIV
 by_cases h:V x=true/\V y=true
 ·rw[yc5 h.1 h.2 h0];exact mk_er _
 ·rw[ygz h];exact ErN (by first | exact .inl rfl | exact .inr (.inl rfl) | exact .inr (.inr (.inl rfl)) | exact .inr (.inr (.inr rfl)))
theorem yaE{e:Int}{r:R×Int}(h1:Er e)(h2:Er r.2):Er (CD e r).2:=by
 unfold CD;split
 ·exact h1
 ·split <;> exact h2
theorem ATF_er(c:List B)(t:R):Er (ATF c t).2:=by
 unfold ATF
 by_cases h:VC c=true/\GR t=true
 ·rw[at_eq h.1 h.2]
  show Er (if c.all (yak (val t)) then(ofQ (AT c (val t)),0) else(⟨0,0⟩,3):R×Int).2
  split <;> exact ErN (by first | exact .inl rfl | exact .inr (.inl rfl) | exact .inr (.inr (.inl rfl)) | exact .inr (.inr (.inr rfl)))
 ·rw[yi0 h];exact ErN (by first | exact .inl rfl | exact .inr (.inl rfl) | exact .inr (.inr (.inl rfl)) | exact .inr (.inr (.inr rfl)))
theorem BRK_er(c:List B):Er (BRK c).2:=by
 unfold BRK
 cases h:VC c with
 | true=>
  have:=ybv h
  split at this
  ·obtain⟨r,e,_⟩:=this
   rw[e];exact ErN (by first | exact .inl rfl | exact .inr (.inl rfl) | exact .inr (.inr (.inl rfl)) | exact .inr (.inr (.inr rfl)))
  ·rw[this];exact ErN (by first | exact .inl rfl | exact .inr (.inl rfl) | exact .inr (.inr (.inl rfl)) | exact .inr (.inr (.inr rfl)))
 | false=>rw[yfO h];exact ErN (by first | exact .inl rfl | exact .inr (.inl rfl) | exact .inr (.inr (.inl rfl)) | exact .inr (.inr (.inr rfl)))
theorem yio(t:R):∀(l:List (List B)) (a:R×Int),Er a.2->Er (tot t l a).2
 | [],a,h=>h
 | c::l,a,h=>by
  rw[tot]
  refine yio t l _ (yaE ?_ (ybc _ _))
  split
  ·exact ATF_er c t
  ·exact h
theorem dv_er{l:List (List B)}{s:SV}(h0:s.fRate.fN≠0){e:Int}(he:Er e)(t:R):Er (dv l s e t).2:=by
 unfold dv
 exact yaE (yaE (yaE (yio _ _ _ he) (DIV_er _ _ h0)) (yin _ _)) (ybc _ _)
theorem bv_er{l:List (List B)}{s:SV}{e:Int}(he:Er e)(t:R):Er (bv l s e t).2:=by
 unfold bv
 have h:=yio t l (Z1,e) he
 simp only
 split
 ·exact h
 ·exact yaE (yaE (yaE h (yin _ _)) (MUL_er _ _)) (yin _ _)
theorem mxv_er{f:Int->R->R×Int}(hf:∀ e t,Er e->Er (f e t).2)(P:List R):Er (mxv f P).2:=by
 have h:∀(P:List R) (s:List R×Int),Er s.2->Er (P.foldl (stp f) s).2:=by
  intro P
  induction P with
  | nil=>intro s h;exact h
  | cons p P ih=>intro s h;rw[List.foldl_cons];exact ih _ (hf _ _ h)
 have:=h P ([],0) (ErN (.inl rfl))
 unfold mxv
 simp only
 split
 ·exact this
 ·exact ErN (by first | exact .inl rfl | exact .inr (.inl rfl) | exact .inr (.inr (.inl rfl)) | exact .inr (.inr (.inr rfl)))
theorem yip:∀(l:List (List B)) (a:R×Int),Er a.2->match ckl l a with | .inl e=>Er e | .inr r=>Er r.2
 | [],a,h=>h
 | c::l,a,h=>by
  rw[ckl]
  split
  ·rename_i e he
   split at he
   ·injection he with he;subst he;exact BRK_er c
   ·have:=yip l _ (yaE h (ybc a.1 (RTF c).1));rw[he] at this;exact this
  ·rename_i e he
   split at he
   ·cases he
   ·have:=yip l _ (yaE h (ybc a.1 (RTF c).1));rw[he] at this;exact this
theorem CKF_er(l:List (List B))(s:SV):Er (CKF l s):=by
 unfold CKF
 split
 ·exact ErN (by first | exact .inl rfl | exact .inr (.inl rfl) | exact .inr (.inr (.inl rfl)) | exact .inr (.inr (.inr rfl)))
 ·have h:=yip l (Z1,0) (ErN (.inl rfl))
  split
  ·rename_i e he;rw[he] at h;exact h
  ·rename_i r he;rw[he] at h
   split
   ·exact h
   ·split <;> exact ErN (by first | exact .inl rfl | exact .inr (.inl rfl) | exact .inr (.inr (.inl rfl)) | exact .inr (.inr (.inr rfl)))
theorem DL_er(l:List (List B))(s:SV)(h0:s.fRate.fN≠0):Er (DL l s).2:=by
 unfold DL
 split
 ·exact mxv_er (fun e t he=>dv_er h0 he t) _
 ·exact CKF_er l s
theorem BL_er(l:List (List B))(s:SV):Er (BL l s).2:=by
 unfold BL
 split
 ·exact mxv_er (fun e t he=>bv_er he t) _
 ·exact CKF_er l s
theorem DO_er{e:Int}{r:R×Int}(h1:Er e)(h2:Er r.2):Er (DO e r).2:=by
 unfold DO;simp only;split
 ·exact h2
 ·exact h1
theorem CU_er{c:Cf}{rs:List (List Hop)}{bu:BM}{de:DM}{e:Int}{p:Pl}(he:Er e):Er (CU c rs bu de e p).2.2.1:=by
 have h1:∀(l:List Int) (s:CS),Er s.e->Er (l.foldl (cst c rs de p) s).e:=by
  intro l
  induction l with
  | nil=>intro s h;exact h
  | cons v l ih=>
   intro s h;rw[List.foldl_cons];refine ih _ ?_
   unfold cst;simp only
   split
   ·split
    ·exact DO_er (DO_er h (MUL_er _ _)) (ybc _ _)
    ·exact h
   ·exact h
 have h2:∀(bu:BM) (l:List Int) (s:GS),Er s.e->Er (l.foldl (gst c bu p) s).e:=by
  intro bu l
  induction l with
  | nil=>intro s h;exact h
  | cons v l ih=>intro s h;rw[List.foldl_cons];exact ih _ (DO_er (DO_er h (ybc _ _)) (ybc _ _))
 have h3:∀(lk:List (Int×List Int)) (bu:BM) (l:List Int) (s:List (List B)×Int),Er s.2->Er (l.foldl (lst c lk bu p) s).2:=by
  intro lk bu l
  induction l with
  | nil=>intro s h;exact h
  | cons q l ih=>
   intro s h;rw[List.foldl_cons];refine ih _ ?_
   unfold lst;split
   ·exact h
   ·exact h2 _ _ _ h
 unfold CU
 exact h3 _ _ _ _ (h1 _ _ he)
theorem z11D{e a b:Int}(h1:Er e)(h2:Er a)(h3:Er b):fe e a b=352\/Er (fe e a b):=by
 unfold fe er Er at *
 repeat' split
 all_goals omega
theorem zLG{c:Cf}{rs:List (List Hop)}:∀(l:List Pl) (s:WS) (e:Int),s.e=0->y4H c rs l s = .inr e->e≠350
 | [],s,e,_,h=>by cases h
 | p::l,s,e,h0,h=>by
  rw[y4H] at h
  split at h
  ·injection h with h;subst h
   show fe _ _ _≠350
   rcases z11D (CU_er (c:=c) (rs:=rs) (bu:=s.bu) (de:=s.de) (p:=p) (e:=s.e) (by rw[h0];exact ErN (by first | exact .inl rfl | exact .inr (.inl rfl) | exact .inr (.inr (.inl rfl)) | exact .inr (.inr (.inr rfl))))) (DL_er (CU c rs s.bu s.de s.e p).1 (srv c p) (by show(1:Int)≠0;decide)) (BL_er (CU c rs s.bu s.de s.e p).1 (srv c p)) with h | h
   ·rw[h];decide
   ·unfold Er at h;omega
  ·rename_i hn
   exact zLG l _ e (by simpa using hn) h
end Go.Proofs.YthjnhebofpebpaaGreat
namespace Go.Proofs.YthjnhebofpebpaaGreat
open Go Go.RowKit Sep
variable {rs:List (List Hop)}{net:Int}{p:Pl}{D:Pl->Int}{l1 l2:List Pl}{r:List Hop}
/-! ### all ports -/
def bzH(c:Cf)(rs:List (List Hop))(D:Pl->Int)(p:Pl):Int:=BZ (Arr c (fws c rs D p)) (slw c p.fQ)
def pbH(c:Cf)(rs:List (List Hop))(D:Pl->Int)(p:Pl):PB:=HB c (Arr c (fws c rs D p)) (y77 c (fws c rs D p)) p
def dD(de:DM):Pl->Int:=fun q=>yd de q 0
def yan(c:Cf)(rs:List (List Hop)):List Pl->DM->List PB->Option (DM×List PB)
 | [],de,out=>some (de,out)
 | p::l,de,out=>if bzH c rs (dD de) p<=32768 then yan c rs l (yC de p (pbH c rs (dD de) p).fDelay) (out++[pbH c rs (dD de) p]) else none
structure HI (c:Cf) (ps:List Pl) (D:Pl->Int):Prop where
 i:∀ q∈ps,y20 c q.fNode+slw c q.fQ<=D q/\D q<=33768
 o:∀ q,q∉ps->D q=0
theorem y21.clo{c:Cf}(hv:VA c net rs)(h:y21 rs (l1++p::l2))(hr:r∈rs){x:Hop}(hx:x∈r)(hp:pk x∈l1\/pk x=p){g:Hop}(hg:g∈r)(e:g.fNext=x.fNode):pk g∈l1:=by
 have hpr:yb5 rs (pk x) (pk g):=(ygV hv).1 ⟨r,hr,g,hg,x,hx,e,rfl,rfl⟩
 rcases hp with hp | hp
 ·obtain⟨a,b,e2⟩:=List.append_of_mem hp
  rw[e2]
  have:=h a (pk x) (b++p::l2) (by rw[e2];simp) _ hpr
  exact List.mem_append_left _ this
 ·exact h l1 p l2 rfl _ (hp▸hpr)
theorem HI.rng{c:Cf}(hS:Small c)(hv:VA c net rs){ps:List Pl}(h:HI c ps D)(hr:r∈rs){x:Hop}(hx:x∈r):0<=D (pk x)/\D (pk x)<=33768:=by
 have hh:=(hv.each r hr).hop hS hx
 by_cases hq:pk x∈ps
 ·have:=h.i _ hq
  have e1:(pk x).fNode=x.fNode:=rfl
  have e2:(pk x).fQ=x.fQ:=rfl
  rw[e1,e2] at this
  have:=hh.s0;have:=hh.d0
  omega
 ·rw[h.o _ hq];omega
theorem HI.jn0{c:Cf}(hS:Small c)(hv:VA c net rs)(ho:y21 rs (l1++p::l2))(h:HI c l1 D)(hr:r∈rs):∀ x∈r,(pk x∈l1\/pk x=p)->0<=jn c D r x.fNode:=by
 have hv1:=hv.each r hr
 refine hv1.ind (P:=fun x=>(pk x∈l1\/pk x=p)->0<=jn c D r x.fNode) (fun x hx e _=>?_) (fun g hg x hx e ih hp=>?_)
 ·rw[e,hv1.jn_start];exact Int.le_refl _
 ·have hgm:=ho.clo hv hr hx hp hg e
  have h1:=h.i _ hgm
  have h2:=ih (.inl hgm)
  rw[<- e,hv1.jn_next D hg]
  have e1:(pk g).fNode=g.fNode:=rfl
  have e2:(pk g).fQ=g.fQ:=rfl
  rw[e1,e2] at h1
  omega
theorem jn_up{c:Cf}(hS:Small c)(hv:VA c net rs){M:Int}(hM:0<=M)(hr:r∈rs)(hD:∀ h∈r,-M<=D (pk h)/\D (pk h)<=M)(n:Int) : -(32*(M+1016))<=jn c D r n/\jn c D r n<=32*(M+1016):=by
 have h:=yii (c:=c) (D:=D) hS (hv.each r hr) hM hD r.length n
 rw[List.take_of_length_le (Nat.le_refl _)] at h
 exact h
theorem fw_use{c:Cf}{x:Fw}(hx:x∈fws c rs D p):∃ h∈nth rs x.v,nth rs x.v∈rs/\0<=x.v/\x.v<rs.length/\pk h=p/\x.j=jn c D (nth rs x.v) h.fNode/\x.k=fwL (nth rs x.v) p:=by
 obtain⟨v,v0,v1,hu,rfl⟩:=yc9.1 hx
 obtain⟨h,hh,e⟩:=y8C.1 hu
 refine⟨h,hh,yO v0 v1,v0,v1,e,?_,rfl⟩
 rw[<- e];rfl
theorem HI.ok{c:Cf}(hS:Small c)(hv:VA c net rs)(ho:y21 rs (l1++p::l2))(h:HI c l1 D):FwOK c (fws c rs D p):=by
 refine FL_ok hS hv fun x hx=>?_
 obtain⟨y,hy,hr,_,_,e,ej,_⟩:=fw_use hx
 have h1:=h.jn0 hS hv ho hr y hy (.inr e)
 have h2:=jn_up (c:=c) (D:=D) hS hv (M:=33768) (by omega) hr (fun z hz=>by have:=h.rng hS hv hr hz;omega) y.fNode
 rw[ej];omega
theorem Arr_pos{c:Cf}(hv:VLs c){l:List Fw}(hl:FwOK c l){x:Fw}(hx:x∈l){t:Int}(h0:0<=t)(h1:t<=4294967296):1<=Arr c l t:=by
 have hb:=(y8M hv hl hx h0 h1).1
 have hk:=hl.k0 x hx
 have hm:=hv.mx (hl.v0 x hx).1 (hl.v0 x hx).2
 have hmem:x∈l.filter fun y=>decide (y.k=x.k):=List.mem_filter.2 ⟨hx,by simp⟩
 have hg:1<=y8A c l t x.k:=by
  have:=yij (f:=fun x=>byt c x t) (l:=l.filter fun y=>decide (y.k=x.k)) (fun y hy=>by have:=(y8M hv hl (List.mem_filter.1 hy).1 h0 h1).1;omega) hmem
  unfold y8A;omega
 have hw:1<=y8B c l x.k:=by
  have:=maxI_mem (x:=mx c x.v) (l:=(l.filter fun y=>decide (y.k=x.k)).map fun x=>mx c x.v) (List.mem_map.2 ⟨x,hmem,rfl⟩)
  unfold y8B;omega
 have hgv:1<=y5H c l t x.k:=by
  have hd:0<=t / max 1 (slw c x.k):=Int.ediv_nonneg h0 (by omega)
  unfold y5H;split <;> omega
 have:=yij (f:=y5H c l t) (l:=lks c) (fun L _=>(y9M hv hl h0 h1).1) (x:=x.k) (by unfold lks;exact y6u.2 ⟨by omega,by push_cast;omega⟩)
 unfold Arr;omega
theorem yiO{c:Cf}(hv:VLs c){l:List Fw}(hl:FwOK c l):0<=y77 c l/\y77 c l<=72:=by
 unfold y77
 refine⟨y8o _,ygH (by omega) fun x hx=>?_⟩
 obtain⟨y,hy,rfl⟩:=List.mem_map.1 hx
 exact(hv.mx (hl.v0 y hy).1 (hl.v0 y hy).2).2.1
theorem PS_hop{c:Cf}(hS:Small c)(hv:VA c net rs)(hp:p∈PS rs):∃ r∈rs,∃ h∈r,pk h=p/\HV c h:=by
 obtain⟨r,hr,h,hh,e⟩:=(y7N rs p).1 hp
 exact⟨r,hr,h,hh,e,(hv.each r hr).hop hS hh⟩
theorem ybd{c:Cf}(hS:Small c)(hv:VA c net rs)(hp:p∈PS rs):(1<=slw c p.fQ/\slw c p.fQ<=16)/\(0<=y20 c p.fNode/\y20 c p.fNode<=1000):=by
 obtain⟨r,hr,h,hh,rfl,hx⟩:=PS_hop hS hv hp
 exact⟨⟨hx.s0,hx.s1⟩,⟨hx.d0,hx.d1⟩⟩
theorem fw_ex{c:Cf}{net:Int}(hp:p∈PS rs):∃ x,x∈fws c rs D p:=by
 obtain⟨r,hr,h,hh,e⟩:=(y7N rs p).1 hp
 obtain⟨i,i0,i1,rfl⟩:=y65 hr
 exact⟨_,yc9.2 ⟨i,i0,i1,y8C.2 ⟨h,hh,e⟩,rfl⟩⟩
theorem hport_at{c:Cf}(hS:Small c)(hv:VA c net rs)(hV:VLs c)(ho:y21 rs (l1++p::l2))(hp:p∈PS rs){de:DM}(h:HI c l1 (dD de)):
  y5o c rs p de=some (if bzH c rs (dD de) p<=32768 then(pbH c rs (dD de) p,0) else(⟨0,0,0,0⟩,360)):=by
 have hok:=h.ok hS hv ho
 obtain⟨fs,e,ht⟩:=yiN (p:=p) (de:=de) hS hv hV (fun r hr x hx=>by have:0<=yd de (pk x) 0/\yd de (pk x) 0<=33768:=h.rng hS hv hr hx;omega) hok.j0
 obtain⟨h1,h2⟩:=ybd hS hv hp
 exact hport_eq hS (hv.pi hS hp) ⟨fun t t0 t1=>ydR hS hV hok t0 t1⟩ e (yiO hV hok) ht h1 h2
theorem HI.put{c:Cf}(hS:Small c)(hv:VA c net rs)(hV:VLs c)(ho:y21 rs (l1++p::l2))(hp:p∈PS rs){de:DM}(h:HI c l1 (dD de))(hb:bzH c rs (dD de) p<=32768):HI c (l1++[p]) (dD (yC de p (pbH c rs (dD de) p).fDelay)):=by
 have hok:=h.ok hS hv ho
 obtain⟨h1,h2⟩:=ybd hS hv hp
 obtain⟨x,hx⟩:=fw_ex (c:=c) (net:=net) (D:=dD de) hp
 have hd:=HB_delay (A:=Arr c (fws c rs (dD de) p)) (most:=y77 c (fws c rs (dD de) p)) (fun t t' _ ht=>Arr_mono hV hok ht) (Arr_pos hV hok hx (t:=0) (by omega) (by omega)) h1 h2 hb
 refine⟨fun q hq=>?_,fun q hq=>?_⟩
 ·unfold dD;rw[y1u]
  by_cases e:q=p
  ·rw[if_pos e,e];exact hd
  ·rw[if_neg e]
   rcases List.mem_append.1 hq with hq | hq
   ·exact h.i q hq
   ·exact absurd (List.mem_singleton.1 hq) e
 ·unfold dD;rw[y1u,if_neg (fun e=>hq (by rw[e];simp))]
  exact h.o q fun hm=>hq (List.mem_append_left _ hm)
theorem yeO{c:Cf}{net:Int}{rs:List (List Hop)}{l:List Pl}{e0:Int}{k:List PB->Option (S39×Int)}(hS:Small c)(hv:VA c net rs)(hV:VLs c)(hlp:∀ p∈l,p∈PS rs)(ho:y21 rs l)(hle:l.length<=100000):
  ∀(n:Nat) (v:Int) (de:DM) (out:List PB),0<=v->v<=l.length->l.length<n+v->out.length=v->HI c (l.take v.toNat) (dD de)->
   y37 (l.map fun p=>(⟨p.fNode,p.fQ,0,0⟩:S36),e0) c rs k n v de out=match yan c rs (l.drop v.toNat) de out with | some t=>k t.2 | none=>some (⟨[],[]⟩,360)
 | 0,v,de,out,h0,h1,h2,h3,h4=>by omega
 | n+1,v,de,out,h0,h1,h2,h3,h4=>by
  rw[y37]
  have hml:(((l.map fun p=>(⟨p.fNode,p.fQ,0,0⟩:S36)).length:Nat):Int)=l.length:=by rw[List.length_map]
  simp only[hml]
  by_cases h:v<l.length
  ·have hsp:l=l.take v.toNat++nth l v::l.drop (v.toNat+1):=by rw[<- y42 h0 h,List.take_append_drop]
   have hpm:=hlp _ (yO h0 h)
   rw[if_pos (decide_eq_true h),yt ⟨h0,h⟩,y42 h0 h,yan]
   have en:nth (l.map fun p=>(⟨p.fNode,p.fQ,0,0⟩:S36)) v=⟨(nth l v).fNode,(nth l v).fQ,0,0⟩:=by
    rw[y87 ⟨h0,by rw[List.length_map];exact h⟩,List.getElem_map,<- y87 ⟨h0,h⟩]
   have ho2:y21 rs (l.take v.toNat++nth l v::l.drop (v.toNat+1)):=hsp▸ho
   rw[en]
   have ep:(⟨(nth l v).fNode,(nth l v).fQ⟩:z8)=nth l v:=rfl
   simp only[ep]
   rw[hport_at hS hv hV ho2 hpm h4,oB]
   by_cases hb:bzH c rs (dD de) (nth l v)<=32768
   ·rw[if_pos hb,if_pos hb,if_neg (by simp)]
    have hol:(out++[pbH c rs (dD de) (nth l v)]).length=v+1:=by rw[List.length_append,List.length_singleton];push_cast;omega
    rw[yt (by rw[hol];omega),yz (x:=v+1) (by omega)]
    have h5:=h4.put hS hv hV ho2 hpm hb
    have et:l.take (v+1).toNat=l.take v.toNat++[nth l v]:=by
     rw[show(v+1).toNat=v.toNat+1 by omega,List.take_succ_eq_append_getElem (by omega),y87 ⟨h0,h⟩]
    rw[<- et] at h5
    rw[yeO hS hv hV hlp ho hle n (v+1) _ _ (by omega) (by omega) (by omega) hol h5,show(v+1).toNat=v.toNat+1 by omega]
   ·rw[if_neg hb,if_neg hb,if_pos (by simp)]
  ·rw[if_neg (by simpa using h),List.drop_eq_nil_of_le (by omega),yan]
theorem yiq{c:Cf}{rs:List (List Hop)}:∀(l:List Pl) (de:DM) (out:List PB) (t:DM×List PB),yan c rs l de out=some t->t.2.map pbk=out.map pbk++l/\t.2.length=out.length+l.length
 | [],de,out,t,h=>by injection h with h;subst h;simp
 | p::l,de,out,t,h=>by
  rw[yan] at h
  split at h
  ·obtain⟨h1,h2⟩:=yiq l _ _ t h
   rw[h1,h2]
   refine⟨?_,by simp;omega⟩
   rw[List.map_append]
   simp only[List.map_cons,List.map_nil,List.append_assoc,List.cons_append,List.nil_append]
   rfl
  ·cases h
theorem hsort_eq{l:List PB}(hn:(l.map pbk).Nodup)(hs:l.length<=1000000)(hb:∀ b∈l,-1000000000<=b.fNode/\b.fNode<=1000000000 /\ -1000000000<=b.fQ/\b.fQ<=1000000000):
  yS l (fun y0 y1=>y14 y0 y1)=some (yK y14 l)/\(yK y14 l).Pairwise fun a b=>¬plt (pbk b) (pbk a):=by
 have hp:∀ x∈l,∀ y∈l,∃ v,y14 x y=some v/\(v<0↔plt (pbk x) (pbk y))/\(v<=0↔¬plt (pbk y) (pbk x)):=by
  intro x hx y hy
  have:=hb x hx;have:=hb y hy
  unfold y14 plt pbk
  simp only[ne_eq,decide_eq_true_eq]
  by_cases e:x.fNode=y.fNode
  ·rw[if_neg (by simpa using e),yz (by omega)]
   exact⟨_,rfl,by omega,by omega⟩
  ·rw[if_pos (by simpa using e),yz (by omega)]
   exact⟨_,rfl,by omega,by omega⟩
 have hinj:∀ x∈l,∀ y∈l,pbk x=pbk y->x=y:=by
  intro x hx y hy e
  obtain⟨i,hi,rfl⟩:=List.getElem_of_mem hx
  obtain⟨j,hj,rfl⟩:=List.getElem_of_mem hy
  have h1:(l.map pbk)[i]'(by simpa using hi)=(l.map pbk)[j]'(by simpa using hj):=by simpa using e
  have:=(List.getElem_inj (h₀:=by simpa using hi) (h₁:=by simpa using hj) hn).1 h1
  subst this;rfl
 obtain⟨ho,hsrt⟩:=ye6 (p:=y14) (lt:=fun a b=>plt (pbk a) (pbk b)) (l:=l) hp (fun x y=>yf5 _ _) (fun x y z=>yhN _ _ _) (fun x hx y hy h1 h2=>hinj x hx y hy (yfI _ _ h1 h2))
 refine⟨?_,hsrt⟩
 unfold yS y4i y2E
 rw[ye7 (by omega),yt (by omega),oB]
 have hb:=ycE l.length (by omega)
 rw[Int.toNat_natCast,yt ⟨⟨rfl,rfl⟩,by omega,by omega,by omega⟩,yt ho,oB]
theorem ydU:∀ {a b:List Pl},a.Perm b->a.Nodup->a.Pairwise (fun x y=>¬plt y x)->b.Pairwise (fun x y=>¬plt y x)->a=b
 | [],b,hp,_,_,_=>by have:=hp.length_eq;cases b with | nil=>rfl | cons y b=>simp at this
 | x::a,[],hp,_,_,_=>by have:=hp.length_eq;simp at this
 | x::a,y::b,hp,hn,ha,hb=>by
  have hxy:x=y:=by
   have h1:x∈y::b:=hp.subset (by simp)
   have h2:y∈x::a:=hp.symm.subset (by simp)
   rcases List.mem_cons.1 h1 with h1 | h1
   ·exact h1
   rcases List.mem_cons.1 h2 with h2 | h2
   ·exact h2.symm
   exact yfI _ _ ((List.pairwise_cons.1 hb).1 x h1) ((List.pairwise_cons.1 ha).1 y h2)
  subst hxy
  rw[ydU hp.cons_inv (List.nodup_cons.1 hn).2 (List.pairwise_cons.1 ha).2 (List.pairwise_cons.1 hb).2]
theorem yh9(hr:∀ r∈rs,r.length<=1000)(hl:rs.length<=100):(PS rs).Pairwise fun a b=>¬plt b a:=by
 refine(yhO ?_).2
 have h1:=ycF (allH rs) []
 have h2:=yf6 hr
 have h3:rs.length*1000<=100*1000:=Nat.mul_le_mul_right _ hl
 simp only[List.length_nil] at h1
 omega
inductive HC (c:Cf) (net:Int) (rs:List (List Hop)):S39×Int->Prop
 | route:¬VA c net rs->HC c net rs (⟨[],[]⟩,310)
 | vl:VA c net rs->¬VOK c->HC c net rs (⟨[],[]⟩,350)
 | cycle (s:List Pl):VA c net rs->VOK c->y9L rs s->HC c net rs (⟨[],[]⟩,351)
 | busy (l:List Pl):VA c net rs->VOK c->l.Perm (PS rs)->y21 rs l->yan c rs l [] []=none->HC c net rs (⟨[],[]⟩,360)
 | ok (l:List Pl) (t:DM×List PB):VA c net rs->VOK c->l.Perm (PS rs)->y21 rs l->yan c rs l [] []=some t->(yK y14 t.2).map pbk=PS rs->HC c net rs (⟨yK y14 t.2,EN c rs (yK y14 t.2)⟩,0)
theorem HC_eq{c:Cf}(hf:FewP c rs):∃ x,y4A c net rs=some x/\HC c net rs x:=by
 have hS:=hf.small
 have hr1:∀ r∈rs,r.length<1000000000:=fun r hr=>by have:=hf.e r hr;omega
 have hrs:=hf.r
 obtain⟨y,cy,hcp⟩:=yfU (net:=net) hf
 unfold y4A
 by_cases hv:VA c net rs
 ·have hps:=yc2 hf.e
  have h3:rs.length*40<=20*40:=Nat.mul_le_mul_right _ hrs
  rw[cy]
  by_cases hvo:VOK c
  ·have hy:y.2≠350:=by
    cases hcp with
    | route h=>exact absurd hv h
    | vl _ h=>exact absurd hvo h
    | cycle=>decide
    | err l e _ _ _ _ h _=>exact zLG l w0 e rfl h
    | ok=>exact(show(0:Int)≠350 by decide)
   rcases yim (net:=net) hf hv with⟨l,e1,e2,e3⟩ | ⟨s,e1,e2⟩
   ·have hlen:=e1.length_eq
    rw[e3,oB,if_neg (by simp),oB,if_neg (by simpa using hy),if_neg (by simp)]
    refine y28 (P:=fun o=>∃ x,o=some x/\HC c net rs x) fun k hk=>?_
    have hL:=yeO (l:=l) (e0:=0) (k:=k) hS hv hvo.vls (fun p hp=>e1.subset hp) e2 (by omega) yy 0 [] [] (by omega) (by omega) (by rw[yV];omega) rfl ⟨by simp,fun q _=>rfl⟩
    simp only[Int.toNat_zero,List.drop_zero] at hL
    rw[hL]
    cases hrun:yan c rs l [] [] with
    | none=>exact⟨_,rfl,.busy l hv hvo e1 e2 hrun⟩
    | some t=>
     obtain⟨o1,o2⟩:=yiq l [] [] t hrun
     have hol:t.2.length=l.length:=by rw[o2];simp
     have hmap:t.2.map pbk=l:=by rw[o1];simp
     have hnd:(t.2.map pbk).Nodup:=by rw[hmap];exact e1.nodup_iff.2 (y5x rs)
     simp only
     have hso:=hsort_eq (l:=t.2) hnd (by omega) (fun b hb=>by
      have hm:pbk b∈PS rs:=e1.subset (by rw[<- hmap];exact List.mem_map.2 ⟨b,hb,rfl⟩)
      have:=hv.pi hS hm
      have a:=this.l0;have b1:=this.l1;have d:=this.n0;have f:=this.n1
      have:=hS.l;have:=hS.m;have:=hS.s
      unfold nN at f
      have e4:(pbk b).fNode=b.fNode:=rfl
      have e5:(pbk b).fQ=b.fQ:=rfl
      omega)
     rw[hk,hso.1,oB,yjg (net:=net) hS hv.each (by omega) (by rw[y63];omega),oB]
     have hpp:((yK y14 t.2).map pbk).Perm (PS rs):=by
      refine((y2C _ _).map pbk).trans ?_
      rw[hmap];exact e1
     refine⟨_,rfl,.ok l t hv hvo e1 e2 hrun (ydU hpp (hpp.nodup_iff.2 (y5x rs)) ?_ (yh9 (fun r hr=>by have:=hf.e r hr;omega) (by omega)))⟩
     rw[List.pairwise_map]
     exact hso.2
   ·rw[e2,oB,if_neg (by simp),oB,if_neg (by simpa using hy),if_pos (by simp)]
    exact⟨_,rfl,.cycle s hv hvo e1⟩
  ·have hy:y=(⟨[],[]⟩,350):=by
    cases hcp with
    | route h=>exact absurd hv h
    | vl _ h=>rfl
    | cycle _ _ h=>exact absurd h hvo
    | err _ _ _ h=>exact absurd h hvo
    | ok _ _ _ h=>exact absurd h hvo
   subst hy
   rcases yim (net:=net) hf hv with⟨l,e1,e2,e3⟩ | ⟨s,e1,e2⟩
   ·rw[e3,oB,if_neg (by simp),oB,if_pos (by simp)]
    exact⟨_,rfl,.vl hv hvo⟩
   ·rw[e2,oB,if_neg (by simp),oB,if_pos (by simp)]
    exact⟨_,rfl,.vl hv hvo⟩
 ·have ho:y4X c net rs=some ([],310):=by
   unfold y4X
   obtain⟨b,q1,q2⟩:=yf4 hS (net:=net) (rs:=rs) hr1 (by omega)
   have hb:b=false:=by
    cases b with
    | false=>rfl
    | true=>exact absurd (q2.1 rfl) hv
   rw[q1,hb];rfl
  rw[ho,oB,if_pos (by simp)]
  exact⟨_,rfl,.route hv⟩
end Go.Proofs.YthjnhebofpebpaaGreat
namespace Go.Proofs.YthjnhebofpebpaaGreat
open Go Go.RowKit Sep
variable {rs:List (List Hop)}{net:Int}{D:Pl->Int}
/-! ### the delays that are computed: they satisfy their own equations -/
structure HF (c:Cf) (rs:List (List Hop)) (D:Pl->Int):Prop where
 b:∀ p∈PS rs,bzH c rs D p<=32768
 d:∀ p∈PS rs,D p=(pbH c rs D p).fDelay
 r:∀ p∈PS rs,y20 c p.fNode+slw c p.fQ<=D p/\D p<=33768
 z:∀ p,p∉PS rs->D p=0
theorem ykG{c:Cf}(hv:VA c net rs){l1 l2:List Pl}{p:Pl}(ho:y21 rs (l1++p::l2)){D':Pl->Int}(h:∀ q∈l1,D q=D' q):fws c rs D p=fws c rs D' p:=by
 unfold fws
 refine List.map_congr_left fun v hvm=>?_
 obtain⟨hv0,hu⟩:=List.mem_filter.1 hvm
 have hv1:=y6u.1 hv0
 have hr:=yO (l:=rs) (i:=v) (by omega) (by omega)
 obtain⟨x,hx,e⟩:=y8C.1 hu
 have hn:p.fNode=x.fNode:=by rw[<- e];rfl
 unfold y61
 rw[hn,(hv.each _ hr).jn_eq (D:=D) (D':=D') (S:=fun q=>q∈l1\/q=p) (fun y hy hs g hg eg=>?_) x hx (.inr e)]
 have:=ho.clo hv hr hy hs hg eg
 exact⟨.inl this,h _ this⟩
theorem yir{c:Cf}{net:Int}{rs:List (List Hop)}(hS:Small c)(hv:VA c net rs)(hV:VLs c):∀(l2 l1:List Pl) (de:DM) (out:List PB) (t:DM×List PB),(l1++l2).Nodup->(∀ p∈l1++l2,p∈PS rs)->y21 rs (l1++l2)->HI c l1 (dD de)->yan c rs l2 de out=some t->
  (∀ q,q∉l2->dD t.1 q=dD de q)/\HI c (l1++l2) (dD t.1)/\(∀ p∈l2,bzH c rs (dD t.1) p<=32768/\dD t.1 p=(pbH c rs (dD t.1) p).fDelay)/\t.2=out++l2.map (pbH c rs (dD t.1))
 | [],l1,de,out,t,hn,hp,ho,hi,h=>by
  injection h with h;subst h
  simpa using hi
 | p::l2,l1,de,out,t,hn,hp,ho,hi,h=>by
  rw[yan] at h
  split at h
  ·rename_i hb
   have hpm:=hp p (by simp)
   have e1:(l1++[p])++l2=l1++p::l2:=by simp
   have hp2:p∉l2:=by
    have:=(List.nodup_append.1 hn).2.1
    exact(List.nodup_cons.1 this).1
   have hp1:∀ q∈l1,q≠p:=by
    intro q hq e
    exact(List.nodup_append.1 hn).2.2 q hq p (by simp) e
   have hl12:∀ q∈l1,q∉l2:=by
    intro q hq h2
    exact(List.nodup_append.1 hn).2.2 q hq q (List.mem_cons_of_mem _ h2) rfl
   obtain⟨k1,k2,k3,k4⟩:=yir hS hv hV l2 (l1++[p]) _ _ t (by rw[e1];exact hn) (by rw[e1];exact hp) (by rw[e1];exact ho) (hi.put hS hv hV ho hpm hb) h
   have hag:∀ q∈l1,dD de q=dD t.1 q:=by
    intro q hq
    rw[k1 q (hl12 q hq)]
    unfold dD;rw[y1u,if_neg (hp1 q hq)]
   have hfw:=ykG hv ho hag
   have hpb:pbH c rs (dD de) p=pbH c rs (dD t.1) p:=by unfold pbH;rw[hfw]
   have hbz:bzH c rs (dD de) p=bzH c rs (dD t.1) p:=by unfold bzH;rw[hfw]
   refine⟨fun q hq=>?_,by rw[<- e1];exact k2,fun q hq=>?_,?_⟩
   ·rw[k1 q fun hm=>hq (List.mem_cons_of_mem _ hm)]
    unfold dD;rw[y1u,if_neg (fun e=>hq (by rw[e];simp))]
   ·rcases List.mem_cons.1 hq with rfl | hq
    ·refine⟨hbz▸hb,?_⟩
     rw[k1 q hp2,<- hpb]
     show yd (yC de q _) q 0=_
     rw[y1u,if_pos rfl]
    ·exact k3 q hq
   ·rw[k4,hpb];simp
  ·cases h
theorem HC_fix{c:Cf}(hS:Small c)(hv:VA c net rs)(hV:VLs c){l:List Pl}{t:DM×List PB}(hp:l.Perm (PS rs))(ho:y21 rs l)(h:yan c rs l [] []=some t):HF c rs (dD t.1)/\t.2=l.map (pbH c rs (dD t.1)):=by
 obtain⟨k1,k2,k3,k4⟩:=yir hS hv hV l [] [] [] t (by simpa using hp.nodup_iff.2 (y5x rs)) (fun p hm=>hp.subset (by simpa using hm)) (by simpa using ho) ⟨by simp,fun q _=>rfl⟩ h
 simp only[List.nil_append] at *
 refine⟨⟨fun p hm=>(k3 p (hp.symm.subset hm)).1,fun p hm=>(k3 p (hp.symm.subset hm)).2,fun p hm=>k2.i p (hp.symm.subset hm),fun p hm=>k2.o p fun hq=>hm (hp.subset hq)⟩,k4⟩
theorem jn_pos{c:Cf}(hv:VA c net rs)(hD:∀ p∈PS rs,y20 c p.fNode+slw c p.fQ<=D p){r:List Hop}(hr:r∈rs):∀ x∈r,0<=jn c D r x.fNode:=by
 have hv1:=hv.each r hr
 refine hv1.ind (P:=fun x=>0<=jn c D r x.fNode) (fun x hx e=>?_) (fun g hg x hx e ih=>?_)
 ·rw[e,hv1.jn_start];exact Int.le_refl _
 ·have h1:=hD (pk g) ((y7N rs _).2 ⟨r,hr,g,hg,rfl⟩)
  rw[<- e,hv1.jn_next D hg]
  have e1:(pk g).fNode=g.fNode:=rfl
  have e2:(pk g).fQ=g.fQ:=rfl
  rw[e1,e2] at h1
  omega
theorem HF.rng{c:Cf}(h:HF c rs D)(hS:Small c)(hv:VA c net rs){r:List Hop}(hr:r∈rs){x:Hop}(hx:x∈r):0<=D (pk x)/\D (pk x)<=33768:=by
 have hm:pk x∈PS rs:=(y7N rs _).2 ⟨r,hr,x,hx,rfl⟩
 have h1:=h.r _ hm
 have h2:=ybd hS hv hm
 omega
theorem HF.ok{c:Cf}(h:HF c rs D)(hS:Small c)(hv:VA c net rs)(p:Pl):FwOK c (fws c rs D p):=by
 refine FL_ok hS hv fun x hx=>?_
 obtain⟨y,hy,hr,_,_,e,ej,_⟩:=fw_use hx
 have h1:=jn_pos hv (fun p hm=>(h.r p hm).1) hr y hy
 have h2:=jn_up (c:=c) (D:=D) hS hv (M:=33768) (by omega) hr (fun z hz=>by have:=h.rng hS hv hr hz;omega) y.fNode
 rw[ej];omega
/-! ### less comes, less is delayed -/
structure LH (c d:Cf) (rs rs':List (List Hop)):Prop where
 m:d.fM=c.fM
 s:d.fS=c.fS
 l:d.fK=c.fK
 vc:VLs c
 vd:VLs d
 len:rs'.length=rs.length
 r:∀ v:Int,0<=v->v<rs.length->nth rs' v=nth rs v\/nth rs' v=[]
 mx:∀ v:Int,0<=v->v<rs.length->mx d v<=mx c v
 bg:∀ v:Int,0<=v->v<rs.length->bgV d v=bgV c v
theorem LH.lat{c d:Cf}{rs':List (List Hop)}(h:LH c d rs rs')(n:Int):y20 d n=y20 c n:=by unfold y20 nM;rw[h.m,h.s]
theorem LH.slw{c d:Cf}{rs rs':List (List Hop)}(h:LH c d rs rs')(n:Int):slw d n=slw c n:=by unfold Go.Proofs.YthjnhebofpebpaaGreat.slw;rw[h.l]
theorem LH.uses{c d:Cf}{rs rs':List (List Hop)}(h:LH c d rs rs'){v:Int}(v0:0<=v)(v1:v<rs.length){p:Pl}(hu:uses p (nth rs' v)=true):nth rs' v=nth rs v:=by
 rcases h.r v v0 v1 with e | e
 ·exact e
 ·rw[e] at hu;simp[Go.Proofs.YthjnhebofpebpaaGreat.uses] at hu
theorem LH.ps{c d:Cf}{rs':List (List Hop)}(h:LH c d rs rs'){p:Pl}(hp:p∈PS rs'):p∈PS rs:=by
 obtain⟨r,hr,x,hx,e⟩:=(y7N rs' p).1 hp
 obtain⟨v,v0,v1,rfl⟩:=y65 hr
 rw[h.len] at v1
 rw[h.uses v0 v1 (p:=p) (y8C.2 ⟨x,hx,e⟩)] at hx
 exact(y7N rs p).2 ⟨_,yO v0 v1,x,hx,e⟩
structure LW (c d:Cf) (rs rs':List (List Hop)) (D D':Pl->Int) (p:Pl):Prop where
 j:∀ v:Int,0<=v->v<rs.length->uses p (nth rs' v)=true->jn d D' (nth rs' v) p.fNode<=jn c D (nth rs v) p.fNode
end Go.Proofs.YthjnhebofpebpaaGreat
namespace Go.Proofs.YthjnhebofpebpaaGreat
open Go Go.RowKit Sep
variable {rs:List (List Hop)}{D:Pl->Int}
/-! ### the ends -/
theorem ycQ{b:PB}:∀ {l:List PB},(l.map pbk).Nodup->b∈l->yd (dem l) (pbk b) 0=b.fDelay
 | [],_,h=>by cases h
 | a::l,hn,h=>by
  show yd (yC (dem l) (pbk a) a.fDelay) (pbk b) 0=_
  rw[List.map_cons,List.nodup_cons] at hn
  rw[y1u]
  by_cases e:pbk b=pbk a
  ·rw[if_pos e]
   rcases List.mem_cons.1 h with h | h
   ·rw[h]
   ·exact absurd (List.mem_map.2 ⟨b,h,e⟩) hn.1
  ·rw[if_neg e]
   rcases List.mem_cons.1 h with h | h
   ·exact absurd (by rw[h]) e
   ·exact ycQ hn.2 h
structure ERH (s2 s1:ES) (n:Int):Prop where
 h:∀ k,y2A s2.sum k=y2A s1.sum k
 s:∀ k,0<=yd s2.sum k 0/\yd s2.sum k 0<=yd s1.sum k 0/\yd s1.sum k 0<=n*1073741824
 e:∀ x∈s2.ends,∃ y∈s1.ends,x.fVL=y.fVL/\x.fNode=y.fNode/\x.fDelay<=y.fDelay
theorem ERH.step{c d:Cf}(hm:nM d=nM c){r:List Hop}{v:Int}{de2 de1:DM}{h:Hop}(hd:0<=yd de2 (pk h) 0/\yd de2 (pk h) 0<=yd de1 (pk h) 0/\yd de1 (pk h) 0<=1073741824){s2 s1:ES}{n:Int}(hn:0<=n/\n<=1000)(hi:ERH s2 s1 n):ERH (est d r de2 v s2 h) (est c r de1 v s1 h) (n+1):=by
 unfold est
 rw[hi.h h.fNext]
 split
 ·exact⟨hi.h,fun k=>by have:=hi.s k;omega,hi.e⟩
 ·have hs:=hi.s h.fNode
  have hsum:0<=i64 (yd s2.sum h.fNode 0+yd de2 (pk h) 0)/\i64 (yd s2.sum h.fNode 0+yd de2 (pk h) 0)<=i64 (yd s1.sum h.fNode 0+yd de1 (pk h) 0)/\i64 (yd s1.sum h.fNode 0+yd de1 (pk h) 0)<=(n+1)*1073741824:=by
   rw[yz (by omega),yz (by omega)]
   omega
  simp only
  refine⟨fun k=>?_,fun k=>?_,?_⟩
  ·show y2A (yC _ _ _) k=y2A (yC _ _ _) k
   rw[y8x,y8x,hi.h k]
  ·show 0<=yd (yC _ _ _) k 0/\yd (yC _ _ _) k 0<=yd (yC _ _ _) k 0/\yd (yC _ _ _) k 0<=_
   rw[y1u,y1u]
   by_cases e:k=h.fNext
   ·rw[if_pos e,if_pos e];exact hsum
   ·rw[if_neg e,if_neg e];have:=hi.s k;omega
  ·rw[hm]
   split
   ·intro x hx
    have hx:x∈s2.ends++[_]:=hx
    rcases List.mem_append.1 hx with hx | hx
    ·obtain⟨y,hy,e⟩:=hi.e x hx
     exact⟨y,List.mem_append_left _ hy,e⟩
    ·rw[List.mem_singleton.1 hx]
     refine⟨_,List.mem_append_right _ (List.mem_singleton.2 rfl),rfl,rfl,?_⟩
     show yd (yC _ _ _) h.fNext 0<=yd (yC _ _ _) h.fNext 0
     rw[y1u,y1u,if_pos rfl,if_pos rfl]
     exact hsum.2.1
   ·exact hi.e
theorem ERH.fold{c d:Cf}(hm:nM d=nM c){r:List Hop}{v:Int}{de2 de1:DM}:∀(hs:List Hop) {s2 s1:ES} {n:Int},(∀ h∈hs,0<=yd de2 (pk h) 0/\yd de2 (pk h) 0<=yd de1 (pk h) 0/\yd de1 (pk h) 0<=1073741824)->0<=n->n+hs.length<=1000->ERH s2 s1 n->
  ERH (hs.foldl (est d r de2 v) s2) (hs.foldl (est c r de1 v) s1) (n+hs.length)
 | [],s2,s1,n,_,_,_,h=>by simpa using h
 | h::hs,s2,s1,n,hd,h0,h1,hi=>by
  rw[List.foldl_cons,List.foldl_cons]
  rw[List.length_cons] at h1
  have:=ERH.fold (c:=c) (d:=d) hm (r:=r) (v:=v) hs (fun x hx=>hd x (List.mem_cons_of_mem _ hx)) (n:=n+1) (by omega) (by omega) (hi.step hm (r:=r) (v:=v) (hd h (List.mem_cons_self ..)) (by omega))
  rw[List.length_cons,show n+((hs.length+1:Nat):Int)=n+1+(hs.length:Int) by omega]
  exact this
theorem VE_lessH{c d:Cf}{rs':List (List Hop)}(hm:nM d=nM c){v:Int}(h0:0<=v)(h1:v<rs.length)(hrt:nth rs' v=nth rs v\/nth rs' v=[])(hlen:(nth rs v).length<=1000){de2 de1:DM}(hd:∀ h∈nth rs' v,0<=yd de2 (pk h) 0/\yd de2 (pk h) 0<=yd de1 (pk h) 0/\yd de1 (pk h) 0<=1073741824):
  ∀ x∈VE d rs' de2 v,∃ y∈VE c rs de1 v,x.fVL=y.fVL/\x.fNode=y.fNode/\x.fDelay<=y.fDelay:=by
 intro x hx
 unfold VE at hx ⊢
 rcases hrt with e | e
 ·rw[e] at hx hd
  have:=ERH.fold (c:=c) (d:=d) hm (r:=nth rs v) (v:=v) (de2:=de2) (de1:=de1) (nth rs v) (s2:=⟨[],[]⟩) (s1:=⟨[],[]⟩) (n:=0) hd (by omega) (by omega) ⟨fun _=>rfl,fun k=>⟨by show(0:Int)<=0;omega,by show(0:Int)<=0;omega,by show(0:Int)<=_;omega⟩,by simp⟩
  exact this.e x hx
 ·rw[e] at hx;cases hx
def yao(c:Cf)(rs:List (List Hop))(D:Pl->Int)(ps:List PB):Prop:=ps.map pbk=PS rs/\∀ b∈ps,b=pbH c rs D (pbk b)
theorem pbk_pbH{c:Cf}(p:Pl):pbk (pbH c rs D p)=p:=rfl
theorem yao.of{c:Cf}{l:List Pl}{t:DM×List PB}(h1:(yK y14 t.2).map pbk=PS rs)(h2:t.2=l.map (pbH c rs (dD t.1))):yao c rs (dD t.1) (yK y14 t.2):=by
 refine⟨h1,fun b hb=>?_⟩
 have hb:=(y2C _ _).subset hb
 rw[h2] at hb
 obtain⟨p,hp,rfl⟩:=List.mem_map.1 hb
 rw[pbk_pbH]
theorem yao.nd{c:Cf}{ps:List PB}(h:yao c rs D ps):(ps.map pbk).Nodup:=by rw[h.1];exact y5x rs
theorem yao.dem{c:Cf}{rs:List (List Hop)}{D:Pl->Int}{ps:List PB}(h:yao c rs D ps)(hF:HF c rs D){p:Pl}(hp:p∈PS rs):yd (dem ps) p 0=D p:=by
 rw[<- h.1] at hp
 obtain⟨b,hb,rfl⟩:=List.mem_map.1 hp
 rw[ycQ h.nd hb,hF.d (pbk b) (by rw[<- h.1];exact hp),<- h.2 b hb]
theorem yao.get{c:Cf}{ps:List PB}(h:yao c rs D ps){p:Pl}(hp:p∈PS rs):∃ b∈ps,pbk b=p/\b=pbH c rs D p:=by
 rw[<- h.1] at hp
 obtain⟨b,hb,rfl⟩:=List.mem_map.1 hp
 exact⟨b,hb,rfl,h.2 b hb⟩
theorem HC_ok{c:Cf}{net:Int}(hS:Small c){x:S39×Int}(h:HC c net rs x)(h0:x.2=0):VA c net rs/\VOK c/\∃ D ps l,l.Perm (PS rs)/\y21 rs l/\HF c rs D/\yao c rs D ps/\x=(⟨ps,EN c rs ps⟩,0):=by
 cases h with
 | route _=>cases h0
 | vl _ _=>cases h0
 | cycle _ _ _ _=>cases h0
 | busy _ _ _ _ _ _=>cases h0
 | ok l t hv hvo hp ho hr hs=>
  obtain⟨hF,ht⟩:=HC_fix hS hv hvo.vls hp ho hr
  exact⟨hv,hvo,dD t.1,_,l,hp,ho,hF,yao.of hs ht,rfl⟩
theorem flatMH{α β:Type}{f:α->List β}{m:Nat}:∀ l:List α,(∀ x∈l,(f x).length<=m)->(l.flatMap f).length<=l.length*m
 | [],_=>by simp
 | x::l,h=>by
  rw[List.flatMap_cons,List.length_append,List.length_cons,Nat.succ_mul]
  have h1:=h x (by simp)
  have h2:=flatMH l fun y hy=>h y (List.mem_cons_of_mem _ hy)
  omega
theorem EN_len{c:Cf}{ps:List PB}(hl:rs.length<=20)(he:∀ r∈rs,r.length<=40):(EN c rs ps).length<=1000000:=by
 unfold EN
 have:=flatMH (f:=fun v=>yK y1g (VE c rs (dem ps) v)) (m:=40) (y1r 0 rs.length) (fun v hv=>by
  have h4:=y6u.1 hv
  rw[y63]
  exact Nat.le_trans VE_len (he _ (yO (by omega) (by omega))))
 rw[ycO] at this
 have h3:rs.length*40<=20*40:=Nat.mul_le_mul_right _ hl
 omega
theorem yao.len{c:Cf}{ps:List PB}(h:yao c rs D ps)(hl:rs.length<=20)(he:∀ r∈rs,r.length<=40):ps.length<=1000000:=by
 have h1:=yc2 he
 have h2:ps.length=(PS rs).length:=by rw[<- h.1,List.length_map]
 have h3:rs.length*40<=20*40:=Nat.mul_le_mul_right _ hl
 omega
theorem yg7{c:Cf}{ps:List PB}{x:zj}:x∈EN c rs ps↔∃ v:Int,0<=v/\v<rs.length/\x∈VE c rs (dem ps) v:=by
 unfold EN
 rw[List.mem_flatMap]
 constructor
 ·rintro⟨v,hv,hx⟩
  have:=y6u.1 hv
  exact⟨v,by omega,by omega,(y2C _ _).subset hx⟩
 ·rintro⟨v,v0,v1,hx⟩
  exact⟨v,y6u.2 ⟨v0,by omega⟩,(y2C _ _).symm.subset hx⟩
theorem EN_uniq{c:Cf}{ps:List PB}{x y:zj}(hx:x∈EN c rs ps)(hy:y∈EN c rs ps)(h1:x.fVL=y.fVL)(h2:x.fNode=y.fNode):x=y:=by
 obtain⟨v,_,_,hx⟩:=yg7.1 hx
 obtain⟨w,_,_,hy⟩:=yg7.1 hy
 have iv:=yfT c rs (dem ps) v
 have iw:=yfT c rs (dem ps) w
 have e:v=w:=by have a:=(iv.vl x hx).1;have b:=(iw.vl y hy).1;omega
 subst e
 have hn:((VE c rs (dem ps) v).map (·.fNode)).Nodup:=iv.nd
 obtain⟨i,hi,rfl⟩:=List.getElem_of_mem hx
 obtain⟨j,hj,rfl⟩:=List.getElem_of_mem hy
 have h3:((VE c rs (dem ps) v).map (·.fNode))[i]'(by simpa using hi)=((VE c rs (dem ps) v).map (·.fNode))[j]'(by simpa using hj):=by simpa using h2
 have:=(List.getElem_inj (h₀:=by simpa using hi) (h₁:=by simpa using hj) hn).1 h3
 subst this;rfl
/-! ### less is sent -/
theorem LH.jn{c d:Cf}{net:Int}{rs':List (List Hop)}(hL:LH c d rs rs')(hv:VA c net rs)(hv':VA d net rs'){D':Pl->Int}{S:Pl->Prop}{p:Pl}(hp:S p)(hS:∀ r∈rs',∀ x∈r,S (pk x)->∀ g∈r,g.fNext=x.fNode->S (pk g)/\D' (pk g)<=D (pk g)):LW c d rs rs' D D' p:=by
 refine⟨fun v v0 v1 hu=>?_⟩
 have er:=hL.uses v0 v1 hu
 have hm':=yO (l:=rs') (i:=v) v0 (by rw[hL.len];exact v1)
 have h1:=hv'.each _ hm'
 have h2:=hv.each _ (yO v0 v1)
 rw[<- er] at h2 ⊢
 obtain⟨x,hx,e⟩:=y8C.1 hu
 have:=h1.jn_le h2 (fun g _=>⟨hL.lat _,hL.slw _⟩) (D:=D') (D':=D) (S:=S) (hS _ hm') x hx (by rw[e];exact hp)
 have en:p.fNode=x.fNode:=by rw[<- e];rfl
 rw[en];exact this
end Go.Proofs.YthjnhebofpebpaaGreat
namespace Go.Proofs.YthjnhebofpebpaaGreat
open Go Go.RowKit Sep
variable {p:Pl}{rs:List (List Hop)}{D:Pl->Int}{L v x:Int}
/-! ### the curves of the network calculus lie above what comes -/
theorem yis(a b:List (List B))(t:Rat):TQ (a++b) t=TQ a t+TQ b t:=by
 induction a with
 | nil=>simp[TQ,Rat.zero_add]
 | cons c a ih=>simp only[List.cons_append,TQ,ih,Rat.add_assoc]
theorem yit{c:Cf}(hv:VLs c)(h0:0<=v)(h1:v<c.fVLs.length):V (RT c v)=true/\0<=val (RT c v)/\val (RT c v)*WZ (bgV c v)=WZ (mx c v):=by
 obtain⟨g1,g2⟩:=yel hv ⟨h0,h1⟩
 refine⟨g1,g2,?_⟩
 obtain⟨⟨b1,b2⟩,b3,b4⟩:=hv _ (yO h0 h1)
 have hf:fits (Rat.divInt (mx c v) (nth c.fVLs v).fBag)=true:=ybD (by omega) ⟨by unfold mx;omega,by omega⟩
 unfold RT bgV
 rw[yec hf,y5p,y6N,y6N,Rat.divInt_eq_div]
 refine Rat.div_mul_cancel ?_
 have:(0:Rat)<((nth c.fVLs v).fBag:Rat):=by
  have:=Rat.intCast_lt_intCast.2 (show(0:Int)<(nth c.fVLs v).fBag by omega);simpa using this
 grind
theorem yjr{c:Cf}(hv:VLs c){x:Fw}(h0:0<=x.v)(h1:x.v<c.fVLs.length){t:Int}:WZ (byt c x t)<=WZ (mx c x.v)+val (RT c x.v)*WZ x.j+val (RT c x.v)*WZ t:=by
 obtain⟨_,r0,r1⟩:=yit hv h0 h1
 obtain⟨m1,m2,b1,b2⟩:=hv.mx h0 h1
 unfold byt
 have hd:bgV c x.v*((t+x.j) / bgV c x.v)<=t+x.j:=Int.mul_ediv_self_le (by omega)
 have hd2:=y5R hd
 rw[ydH,y98] at hd2
 have h3:=Rat.mul_le_mul_of_nonneg_left hd2 r0
 rw[ydH,y98,WZ_one,<- r1]
 grind
theorem AT_one(b:B)(t:Rat):AT [b] t=vq t b:=by
 obtain⟨x,hx,e⟩:=yej (c:=[b]) (by simp) t
 rw[List.mem_singleton.1 hx] at e;exact e
theorem AT_two(a b:B)(t:Rat){y:Rat}(h1:y<=vq t a)(h2:y<=vq t b):y<=AT [a,b] t:=by
 obtain⟨x,hx,e⟩:=yej (c:=[a,b]) (by simp) t
 rw[e]
 simp only[List.mem_cons,List.not_mem_nil,or_false] at hx
 rcases hx with rfl | rfl
 ·exact h1
 ·exact h2
theorem fwL_gi(rs:List (List Hop))(p:Pl)(v:Int):fwL (nth rs v) p=if (gi rs p v).2 then(gi rs p v).1.fQ else -1:=rfl
def sel(rs:List (List Hop))(p:Pl)(L:Int)(n:Nat):List Int:=(y1r 0 n).filter fun v=>uses p (nth rs v)&&decide (fwL (nth rs v) p=L)
theorem y9G(n:Nat):sel rs p L (n+1)=sel rs p L n++if uses p (nth rs n)=true/\fwL (nth rs n) p=L then[(n:Int)] else[]:=by
 unfold sel
 rw[y8L,List.filter_append,show(0:Int)+n=n by omega]
 by_cases h:uses p (nth rs n)=true/\fwL (nth rs n) p=L
 ·rw[if_pos h];simp[h.1,h.2]
 ·rw[if_neg h]
  have:(uses p (nth rs n)&&decide (fwL (nth rs n) p=L))=false:=by
   rw[Bool.eq_false_iff];intro hc;rw[Bool.and_eq_true,decide_eq_true_eq] at hc;exact h hc
  simp[this]
theorem yjs{n:Nat}:v∈sel rs p L n↔0<=v/\v<n/\uses p (nth rs v)=true/\fwL (nth rs v) p=L:=by
 unfold sel
 rw[List.mem_filter,y6u,Bool.and_eq_true,decide_eq_true_eq]
 constructor
 ·rintro⟨⟨a,b⟩,d,e⟩;exact⟨a,by omega,d,e⟩
 ·rintro⟨a,b,d,e⟩;exact⟨⟨a,by omega⟩,d,e⟩
theorem yjt{c:Cf}(L:Int):((fws c rs D p).filter fun x=>decide (x.k=L))=(sel rs p L rs.length).map (y61 c rs D p):=by
 unfold fws vls sel
 rw[List.filter_map,List.filter_filter]
 congr 1
 refine List.filter_congr fun v _=>?_
 show(decide (fwL (nth rs v) p=L)&&uses p (nth rs v))=_
 rw[Bool.and_comm]
def BW(c:Cf)(rs:List (List Hop))(D:Pl->Int)(b:R)(v:Int)(p:Pl):Prop:=V b=true/\WZ (mx c v)+val (RT c v)*WZ (jn c D (nth rs v) p.fNode)<=val b
structure CI (c:Cf) (rs:List (List Hop)) (D:Pl->Int) (p:Pl) (bu0:BM) (n:Nat) (s:CS):Prop where
 own:∀ x:Int,WZ (y2H ((sel rs p (-1) n).map fun v=>byt c (y61 c rs D p v) x))<=TQ s.own (WZ x)
 lk:∀ q,0<=q->yd s.lk q []=sel rs p q n
 bu:∀ v:Int,0<=v->v<n->uses p (nth rs v)=true->BW c rs D (yd s.bu ⟨v,p⟩ ⟨0,0⟩) v p
 keep:∀(x:Int) (q:Pl),q≠p->yd s.bu (⟨x,q⟩:yam) ⟨0,0⟩=yd bu0 ⟨x,q⟩ ⟨0,0⟩
 most:s.most=y6t (((y1r 0 n).filter fun v=>uses p (nth rs v)).map fun v=>mx c v)
def PB4(c:Cf)(rs:List (List Hop))(D:Pl->Int)(p:Pl)(bu0:BM)(de:DM):Prop:=∀ v:Int,0<=v->v<rs.length->uses p (nth rs v)=true->(gi rs p v).2=true->
 pk (gi rs p v).1≠p/\BW c rs D (yd bu0 ⟨v,pk (gi rs p v).1⟩ ⟨0,0⟩) v (pk (gi rs p v).1)/\D (pk (gi rs p v).1)<=yd de (pk (gi rs p v).1) 0
theorem yju{bu:BM}{q:Pl}{b:R}(h:q≠p):yd (yC bu ⟨v,p⟩ b) (⟨x,q⟩:yam) ⟨0,0⟩=yd bu ⟨x,q⟩ ⟨0,0⟩:=y9a h
theorem CI.all{c:Cf}{net:Int}{rs:List (List Hop)}(hS:Small c)(hv:VA c net rs)(hV:VLs c){D:Pl->Int}{p:Pl}{bu0:BM}{de:DM}(hP:PB4 c rs D p bu0 de):∀ n:Nat,n<=rs.length->((y1r 0 n).foldl (cst c rs de p) ⟨[],0,0,[],bu0⟩).e=0->CI c rs D p bu0 n ((y1r 0 n).foldl (cst c rs de p) ⟨[],0,0,[],bu0⟩)
 | 0,_,_=>⟨fun x=>by show WZ 0<=0;exact Rat.le_refl,fun q _=>rfl,fun v h0 h1=>by omega,fun _ _ _=>rfl,rfl⟩
 | n+1,hn,he=>by
  rw[y8L,List.foldl_append,show(0:Int)+n=n by omega] at he ⊢
  simp only[List.foldl_cons,List.foldl_nil] at he ⊢
  have he0:=yif he
  have ih:=CI.all hS hv hV hP n (by omega) he0
  generalize (y1r 0 n).foldl (cst c rs de p) ⟨[],0,0,[],bu0⟩=s at ih he he0 ⊢
  have v0:(0:Int)<=n:=by omega
  have v1:(n:Int)<rs.length:=by omega
  have v2:(n:Int)<c.fVLs.length:=by have:=hv.len;omega
  have hm:=hV.mx v0 v2
  have esel:((y1r 0 (n+1)).filter fun v=>uses p (nth rs v))=((y1r 0 n).filter fun v=>uses p (nth rs v))++if uses p (nth rs n)=true then[(n:Int)] else[]:=by
   rw[y8L,List.filter_append,show(0:Int)+n=n by omega]
   by_cases h:uses p (nth rs n)=true <;> simp[h]
  cases hu:uses p (nth rs n) with
  | false=>
   rw[ya9 hu]
   refine⟨fun x=>?_,fun q hq=>?_,fun v a b d=>?_,ih.keep,?_⟩
   ·rw[y9G,if_neg (by simp[hu]),List.append_nil];exact ih.own x
   ·rw[y9G,if_neg (by simp[hu]),List.append_nil];exact ih.lk q hq
   ·by_cases e:v=n
    ·rw[e,hu] at d;cases d
    ·exact ih.bu v a (by omega) d
   ·rw[esel,hu];simpa using ih.most
  | true=>
   rw[hu,if_pos rfl] at esel
   have hmost:max s.most (mx c n)=y6t (((y1r 0 (n+1)).filter fun v=>uses p (nth rs v)).map fun v=>mx c v):=by
    rw[esel,List.map_append,List.map_cons,List.map_nil,ydP _ _ (by omega),ih.most]
   cases hg:(gi rs p n).2 with
   | false=>
    rw[yaL hu hg] at he ⊢
    have hL:fwL (nth rs n) p = -1:=by rw[fwL_gi,hg];rfl
    have hj:jn c D (nth rs n) p.fNode=0:=by
     refine yjo fun g hgm e=>?_
     have:=yf7 hgm
     rw[e] at this
     have hg':(y39 (nth rs n) p.fNode).2=false:=hg
     rw[this] at hg';cases hg'
    obtain⟨r1,r2,r3⟩:=yit hV v0 v2
    refine⟨fun x=>?_,fun q hq=>?_,fun v a b d=>?_,fun x q hq=>?_,hmost⟩
    ·rw[y9G,if_pos ⟨hu,hL⟩,List.map_append,yeM,y98,yis]
     have h1:=ih.own x
     have h2:=yjr hV (x:=y61 c rs D p n) v0 v2 (t:=x)
     have ej:(y61 c rs D p n).j=0:=hj
     rw[ej] at h2
     have e1:TQ [[(⟨⟨mx c n,1⟩,RT c n⟩:B)]] (WZ x)=WZ (mx c n)+val (RT c n)*WZ x:=by
      show AT _ _+0=_
      rw[AT_one,Rat.add_zero];rfl
     rw[e1]
     have e2:y2H (([(n:Int)]).map fun v=>byt c (y61 c rs D p v) x)=byt c (y61 c rs D p n) x:=by simp[y2H]
     rw[e2]
     have e3:WZ 0=0:=by decide +kernel
     rw[e3] at h2
     have e4:(y61 c rs D p n).v=n:=rfl
     rw[e4] at h2
     grind
    ·rw[y9G,if_neg (by rw[hL];omega),List.append_nil];exact ih.lk q hq
    ·show BW c rs D (yd (yC s.bu ⟨n,p⟩ ⟨mx c n,1⟩) ⟨v,p⟩ ⟨0,0⟩) v p
     rw[y7O]
     by_cases e:v=n
     ·subst e
      rw[if_pos rfl]
      refine⟨(GV_w (by omega)).1,?_⟩
      rw[hj]
      have e3:WZ 0=0:=by decide +kernel
      rw[e3,Rat.mul_zero,Rat.add_zero];exact Rat.le_refl
     ·rw[if_neg e];exact ih.bu v a (by omega) d
    ·show yd (yC s.bu ⟨n,p⟩ _) (⟨x,q⟩:yam) ⟨0,0⟩=_
     rw[yju hq];exact ih.keep x q hq
   | true=>
    obtain⟨hne,hbw,hde⟩:=hP n v0 v1 hu hg
    rw[yc8 hu hg] at he ⊢
    have he1:(y8i c rs de p s.e n s.bu).2=0:=he
    have hL:fwL (nth rs n) p=(gi rs p n).1.fQ:=by rw[fwL_gi,hg];rfl
    have hL0:0<=fwL (nth rs n) p:=by
     have:=(hv.each _ (yO v0 v1)).hop hS (y88 hg).1
     rw[hL];exact this.l0
    have hb:BW c rs D (y8i c rs de p s.e n s.bu).1 n p:=by
     unfold y8i at he1 ⊢
     obtain⟨a1,a2,a3⟩:=y8z he1
     obtain⟨⟨b1,b2⟩,b3,b4⟩:=y8q a2
     unfold y7o at a1
     obtain⟨m1,m2,m3⟩:=y8z a1
     obtain⟨⟨k1,k2⟩,k3,k4⟩:=yei m2
     rw[a3]
     refine⟨b3,?_⟩
     rw[b4]
     have em:val (y7o c rs de p s.e n).1=val (RT c n)*WZ (yd de (pk (gi rs p n).1) 0):=by
      unfold y7o;rw[m3,k4];rfl
     rw[em,ih.keep _ _ hne]
     have hr:=hv.each _ (yO v0 v1)
     have hgm:=(y88 hg)
     have hh:=hr.hop hS hgm.1
     have ejn:=hr.jn_next D hgm.1
     have hgn:(y39 (nth rs n) p.fNode).1.fNext=p.fNode:=hgm.2
     rw[hgn] at ejn
     have hle:jn c D (nth rs n) p.fNode<=jn c D (nth rs n) (pk (gi rs p n).1).fNode+yd de (pk (gi rs p n).1) 0:=by
      have d0:=hh.d0;have s0:=hh.s0
      have e5:(pk (gi rs p n).1).fNode=(y39 (nth rs n) p.fNode).1.fNode:=rfl
      have e6:pk (gi rs p n).1=pk (y39 (nth rs n) p.fNode).1:=rfl
      rw[e5];rw[e6] at hde ⊢
      omega
     have hle2:=y5R hle
     rw[y98] at hle2
     obtain⟨_,r2,_⟩:=yit hV v0 v2
     have h5:=Rat.mul_le_mul_of_nonneg_left hle2 r2
     have h6:=hbw.2
     grind
    refine⟨fun x=>?_,fun q hq=>?_,fun v a b d=>?_,fun x q hq=>?_,hmost⟩
    ·rw[y9G,if_neg (by omega),List.append_nil];exact ih.own x
    ·show yd (yC s.lk (gi rs p n).1.fQ (yd s.lk (gi rs p n).1.fQ []++[(n:Int)])) q []=_
     rw[y1u,y9G]
     by_cases e:q=(gi rs p n).1.fQ
     ·rw[if_pos e,if_pos ⟨hu,by rw[hL,e]⟩,<- e,ih.lk q hq]
     ·rw[if_neg e,if_neg (fun h=>e (by rw[<- h.2,hL])),List.append_nil];exact ih.lk q hq
    ·show BW c rs D (yd (yC s.bu ⟨n,p⟩ _) ⟨v,p⟩ ⟨0,0⟩) v p
     rw[y7O]
     by_cases e:v=n
     ·subst e;rw[if_pos rfl];exact hb
     ·rw[if_neg e];exact ih.bu v a (by omega) d
    ·show yd (yC s.bu ⟨n,p⟩ _) (⟨x,q⟩:yam) ⟨0,0⟩=_
     rw[yju hq];exact ih.keep x q hq
structure GI (s:GS) (f:Int->Int) (w:Int):Prop where
 b:V s.b=true
 r:V s.r=true
 f:∀ x:Int,WZ (f x)<=val s.b+val s.r*WZ x
 w:s.wide=w
theorem GI.fold{c:Cf}{rs:List (List Hop)}{D:Pl->Int}{p:Pl}{bu:BM}(hV:VLs c)(hl:rs.length=c.fVLs.length):∀(l:List Int) (s:GS) (f:Int->Int) (w:Int),(∀ v∈l,(0<=v/\v<rs.length)/\BW c rs D (yd bu ⟨v,p⟩ ⟨0,0⟩) v p)->(l.foldl (gst c bu p) s).e=0->GI s f w->GI (l.foldl (gst c bu p) s) (fun x=>f x+y2H (l.map fun v=>byt c (y61 c rs D p v) x)) (l.foldl (fun a v=>max a (mx c v)) w)
 | [],s,f,w,_,_,h=>⟨h.b,h.r,fun x=>by simpa [y2H] using h.f x,h.w⟩
 | v::l,s,f,w,hb,he,h=>by
  rw[List.foldl_cons] at he ⊢
  rw[List.foldl_cons]
  have he1:=y99 l _ he
  have he2:(DO (DO s.e (ADD s.b (yd bu ⟨v,p⟩ ⟨0,0⟩))).2 (ADD s.r (RT c v))).2=0:=he1
  obtain⟨a1,a2,a3⟩:=y8z he2
  obtain⟨b1,b2,b3⟩:=y8z a1
  obtain⟨⟨_,_⟩,c3,c4⟩:=y8q a2
  obtain⟨⟨_,_⟩,d3,d4⟩:=y8q b2
  obtain⟨⟨v0,v1⟩,hw⟩:=hb v (by simp)
  have:=GI.fold (D:=D) hV hl l (gst c bu p s v) (fun x=>f x+byt c (y61 c rs D p v) x) (max w (mx c v)) (fun y hy=>hb y (List.mem_cons_of_mem _ hy)) he ⟨?_,?_,fun x=>?_,?_⟩
  ·refine⟨this.b,this.r,fun x=>?_,this.w⟩
   have h1:=this.f x
   simp only[List.map_cons,y2H]
   rw[<- Int.add_assoc];exact h1
  ·show V (DO s.e (ADD s.b (yd bu ⟨v,p⟩ ⟨0,0⟩))).1=true
   rw[b3];exact d3
  ·show V (DO (DO s.e (ADD s.b (yd bu ⟨v,p⟩ ⟨0,0⟩))).2 (ADD s.r (RT c v))).1=true
   rw[a3];exact c3
  ·show WZ (f x+byt c (y61 c rs D p v) x)<=val (DO s.e (ADD s.b (yd bu ⟨v,p⟩ ⟨0,0⟩))).1+val (DO (DO s.e (ADD s.b (yd bu ⟨v,p⟩ ⟨0,0⟩))).2 (ADD s.r (RT c v))).1*WZ x
   rw[b3,d4,a3,c4,y98]
   have h1:=h.f x
   have h2:=yjr hV (x:=y61 c rs D p v) v0 (by show v<_;omega) (t:=x)
   have e4:(y61 c rs D p v).v=v:=rfl
   have e5:(y61 c rs D p v).j=jn c D (nth rs v) p.fNode:=rfl
   rw[e4,e5] at h2
   have h3:=hw.2
   grind
  ·show max s.wide (mx c v)=_
   rw[h.w]
theorem yha{c:Cf}:∀(l:List Int) (w:Int),0<=w->l.foldl (fun a v=>max a (mx c v)) w=max w (y6t (l.map fun v=>mx c v))
 | [],w,h=>by simp only[List.foldl_nil,List.map_nil,y6t];omega
 | v::l,w,h=>by
  rw[List.foldl_cons,yha l _ (by omega)]
  simp only[List.map_cons,y6t];omega
theorem yfi{c:Cf}:y8A c (fws c rs D p) x L=y2H ((sel rs p L rs.length).map fun v=>byt c (y61 c rs D p v) x):=by
 unfold y8A;rw[yjt,List.map_map];rfl
theorem gwid_sel{c:Cf}:y8B c (fws c rs D p) L=y6t ((sel rs p L rs.length).map fun v=>mx c v):=by
 unfold y8B;rw[yjt,List.map_map];rfl
theorem link_rat{s:Int}(hs:1<=s/\s<=16):WZ (x / s)<=val ⟨1,s⟩*WZ x:=by
 obtain⟨_,h1,h2⟩:=ycL hs
 have h3:=y5R (Int.mul_ediv_self_le (x:=x) (k:=s) (by omega))
 rw[ydH] at h3
 have h4:=Rat.mul_le_mul_of_nonneg_left h3 (Rat.le_of_lt h1)
 rw[<- Rat.mul_assoc,h2,Rat.one_mul] at h4
 exact h4
theorem yjv{c:Cf}{net:Int}{rs:List (List Hop)}(hS:Small c)(hv:VA c net rs)(hV:VLs c){D:Pl->Int}{p:Pl}{lk:List (Int×List Int)}{bu:BM}(hlk:∀ q,0<=q->yd lk q []=sel rs p q rs.length)(hbu:∀ v:Int,0<=v->v<rs.length->uses p (nth rs v)=true->BW c rs D (yd bu ⟨v,p⟩ ⟨0,0⟩) v p):∀(m:Nat) (s:List (List B)×Int),((y1r 0 m).foldl (lst c lk bu p) s).2=0->
  ∀ x:Int,0<=x->TQ s.1 (WZ x)+WZ (y2H ((y1r 0 m).map (y5H c (fws c rs D p) x)))<=TQ ((y1r 0 m).foldl (lst c lk bu p) s).1 (WZ x)
 | 0,s,_,x,hx=>by
  show TQ s.1 (WZ x)+WZ 0<=TQ s.1 (WZ x)
  have e3:WZ 0=0:=by decide +kernel
  rw[e3,Rat.add_zero];exact Rat.le_refl
 | m+1,s,he,x,hx=>by
  rw[y8L,List.foldl_append,show(0:Int)+m=m by omega] at he ⊢
  simp only[List.foldl_cons,List.foldl_nil] at he ⊢
  have ih:=yjv hS hv hV hlk hbu m s (yie he) x hx
  generalize (y1r 0 m).foldl (lst c lk bu p) s=s1 at ih he ⊢
  rw[List.map_append,yeM,y98]
  have e2:y2H (([(m:Int)]).map (y5H c (fws c rs D p) x))=y5H c (fws c rs D p) x m:=by simp[y2H]
  rw[e2]
  have em:¬((m:Int)<0):=by omega
  have hgv:y5H c (fws c rs D p) x m=min (y8A c (fws c rs D p) x m) (y8B c (fws c rs D p) m+x / max 1 (slw c m)):=if_neg em
  unfold lst at he ⊢
  rw[hlk m (by omega)] at he ⊢
  split
  ·rename_i hz
   rw[if_pos hz] at he
   have h0:y5H c (fws c rs D p) x m<=0:=by
    have:y8A c (fws c rs D p) x m=0:=by rw[yfi,hz];rfl
    rw[hgv];omega
   have h1:=y5R h0
   have e3:WZ 0=0:=by decide +kernel
   rw[e3] at h1
   grind
  ·rename_i hz
   rw[if_neg hz] at he
   simp only at he ⊢
   have hG:=GI.fold (rs:=rs) (D:=D) (p:=p) (bu:=bu) hV hv.len (sel rs p m rs.length) ⟨0,s1.2,⟨0,1⟩,⟨0,1⟩⟩ (fun _=>0) 0 (fun v hvm=>by
    obtain⟨a,b,d,e⟩:=yjs.1 hvm
    exact⟨⟨a,b⟩,hbu v a b d⟩) he ⟨show V ⟨0,1⟩=true by decide,show V ⟨0,1⟩=true by decide,fun y=>by
     have e3:WZ 0=0:=by decide +kernel
     have e4:val ⟨0,1⟩=0:=by decide +kernel
     rw[e3,e4,Rat.zero_mul,Rat.add_zero];exact Rat.le_refl,rfl⟩
   have hsl:1<=slw c m/\slw c m<=16:=by
    obtain⟨v,hvm⟩:=List.exists_mem_of_ne_nil _ hz
    obtain⟨a,b,d,e⟩:=yjs.1 hvm
    have:=(ydS hS hv p a b).2.2 (by omega)
    rwa [e] at this
   rw[yis]
   have hw:=hG.w
   rw[yha _ 0 (by omega)] at hw
   have hw2:(List.foldl (gst c bu p) ⟨0,s1.2,⟨0,1⟩,⟨0,1⟩⟩ (sel rs p m rs.length)).wide=y8B c (fws c rs D p) m:=by
    rw[hw,gwid_sel]
    have:=y8o ((sel rs p m rs.length).map fun v=>mx c v)
    omega
   have hf:=hG.f x
   simp only[Int.zero_add] at hf
   rw[<- yfi] at hf
   have hAT:WZ (y5H c (fws c rs D p) x m)<=AT [(⟨(List.foldl (gst c bu p) ⟨0,s1.2,⟨0,1⟩,⟨0,1⟩⟩ (sel rs p m rs.length)).b,(List.foldl (gst c bu p) ⟨0,s1.2,⟨0,1⟩,⟨0,1⟩⟩ (sel rs p m rs.length)).r⟩:B),⟨⟨(List.foldl (gst c bu p) ⟨0,s1.2,⟨0,1⟩,⟨0,1⟩⟩ (sel rs p m rs.length)).wide,1⟩,⟨1,(nth c.fK m).fSlow⟩⟩] (WZ x):=by
    refine AT_two _ _ _ ?_ ?_
    ·refine Rat.le_trans (y5R ?_) hf
     rw[hgv];omega
    ·show _<=WZ _+val ⟨1,slw c m⟩*WZ x
     rw[hw2]
     have h1:=link_rat (x:=x) hsl
     have h2:y5H c (fws c rs D p) x m<=y8B c (fws c rs D p) m+x / slw c m:=by
      rw[hgv,show max 1 (slw c m)=slw c m by omega];omega
     have h3:=y5R h2
     rw[y98] at h3
     grind
   have e5:∀ a:List B,TQ [a] (WZ x)=AT a (WZ x):=fun a=>by show AT a (WZ x)+0=_;rw[Rat.add_zero]
   rw[e5]
   grind
theorem CU_low{c:Cf}{net:Int}(hS:Small c)(hv:VA c net rs)(hV:VLs c){bu:BM}{de:DM}(hP:PB4 c rs D p bu de)(he:(CU c rs bu de 0 p).2.2.1=0):
  (∀ x:Int,0<=x->WZ (Arr c (fws c rs D p) x)<=TQ (CU c rs bu de 0 p).1 (WZ x))/\(CU c rs bu de 0 p).2.1=y77 c (fws c rs D p)/\∀ v:Int,0<=v->v<rs.length->uses p (nth rs v)=true->BW c rs D (yd (CU c rs bu de 0 p).2.2.2 ⟨v,p⟩ ⟨0,0⟩) v p:=by
 unfold CU at he ⊢
 simp only at he ⊢
 have he0:((y1r 0 rs.length).foldl (cst c rs de p) ⟨[],0,0,[],bu⟩).e=0:=yaD _ (_,_) he
 have hC:=CI.all hS hv hV hP rs.length (Nat.le_refl _) he0
 generalize (y1r 0 rs.length).foldl (cst c rs de p) ⟨[],0,0,[],bu⟩=s at he he0 hC ⊢
 refine⟨fun x hx=>?_,?_,hC.bu⟩
 ·have h1:=hC.own x
  have h2:=yjv hS hv hV hC.lk hC.bu c.fK.length ([],s.e) he x hx
  rw[yis]
  have e1:Arr c (fws c rs D p) x=y2H ((sel rs p (-1) rs.length).map fun v=>byt c (y61 c rs D p v) x)+y2H ((y1r 0 c.fK.length).map (y5H c (fws c rs D p) x)):=by
   unfold Arr lks
   rw[y1r,List.map_cons,y2H,<- yfi]
   rfl
  rw[e1,y98]
  have e2:TQ ([]:List (List B)) (WZ x)=0:=rfl
  rw[e2] at h2
  grind
 ·rw[hC.most]
  unfold y77 fws vls
  rw[List.map_map];rfl
theorem le_flr{y:R}{n:Int}(hy:V y=true)(h:WZ n<=val y):n<=flr y:=by
 obtain⟨f,e,h1,h2,_⟩:=y6s hy
 have ef:flr y=f:=by unfold flr;rw[e];rfl
 rw[ef]
 have hD:0<y.fD:=by
  simp only[V,decide_eq_true_eq] at hy;omega
 have h3:val y<WZ (f+1):=ydJ hD h2
 have h5:WZ n<WZ (f+1):=by grind
 have h4:=yba h5
 omega
theorem yjw{y:R}(hy:V y=true) : -1073741824<=flr y/\flr y<=1073741824:=by
 obtain⟨f,e,_,_,h3⟩:=y6s hy
 have ef:flr y=f:=by unfold flr;rw[e];rfl
 rw[ef];exact h3
theorem port_low{c:Cf}{l:List (List B)}{A:Int->Int}(hs:1<=slw c p.fQ/\slw c p.fQ<=16)(hla:0<=y20 c p.fNode/\y20 c p.fNode<=1000)(hd:(DL l (srv c p)).2=0)(hb:(BL l (srv c p)).2=0)(hA:∀ x:Int,0<=x->WZ (A x)<=TQ l (WZ x)):
  V (DL l (srv c p)).1=true/\V (BL l (srv c p)).1=true/\∀ x:Int,0<=x->y9E A (slw c p.fQ) (y20 c p.fNode) x<=flr (DL l (srv c p)).1/\y9F A (slw c p.fQ) (y20 c p.fNode) x<=flr (BL l (srv c p)).1:=by
 obtain⟨f,hdv,_,_⟩:=DL_0 hd
 have hL:(srv c p).fL=⟨y20 c p.fNode,1⟩:=rfl
 have hR:RS (srv c p)=val ⟨1,slw c p.fQ⟩:=rfl
 have hLS:LS (srv c p)=WZ (y20 c p.fNode):=rfl
 have hlV:=GV_w (n:=y20 c p.fNode) (by omega)
 have hpts:∀ q∈PTS l [(srv c p).fL],V q=true/\0<=q.fN:=by
  intro q hq
  have:=ydL (more:=[(srv c p).fL]) f.vc (fun y hy=>by
   rw[List.mem_singleton.1 hy];exact⟨hlV.1,hla.1⟩) q hq
  simp only[GR,Bool.and_eq_true,decide_eq_true_eq] at this
  exact this
 obtain⟨_,hbv,_,_⟩:=BL_0 (fun q hq=>(hpts q hq).1) hb
 refine⟨hdv,hbv,fun x hx=>⟨le_flr hdv ?_,le_flr hbv ?_⟩⟩
 ·have h1:=DL_sup hd hx
  obtain⟨_,h2,h3⟩:=ycL hs
  unfold phi at h1
  rw[hR,hLS,div_slow h3] at h1
  have h4:=hA x hx
  have h5:(0:Rat)<=WZ (slw c p.fQ):=y8J (by omega)
  have h6:=Rat.mul_le_mul_of_nonneg_right h4 h5
  unfold y9E
  rw[y98,<- yfY,ydH]
  grind
 ·have h1:=BL_sup hL hpts hb hx
  obtain⟨_,h2,h3⟩:=ycL hs
  unfold psi at h1
  rw[hR,hLS] at h1
  have h4:=hA x hx
  unfold y9F
  rw[<- yfY]
  have hk0:0<=(max (x-y20 c p.fNode) 0+slw c p.fQ-1) / slw c p.fQ:=Int.ediv_nonneg (by omega) (by omega)
  have hk:max (x-y20 c p.fNode) 0<=slw c p.fQ*((max (x-y20 c p.fNode) 0+slw c p.fQ-1) / slw c p.fQ):=by
   have:=Int.lt_mul_ediv_self_add (x:=max (x-y20 c p.fNode) 0+slw c p.fQ-1) (k:=slw c p.fQ) (by omega)
   omega
  generalize (max (x-y20 c p.fNode) 0+slw c p.fQ-1) / slw c p.fQ=k at hk hk0 ⊢
  have hk1:(0:Rat)<=WZ k:=y8J hk0
  split at h1
  ·grind
  ·rename_i hlt
   have hx2:y20 c p.fNode<x:=by
    refine Int.not_le.1 fun hc=>hlt (y5R hc)
   have h5:=y5R (show x-y20 c p.fNode<=slw c p.fQ*k by omega)
   rw[<- yfY,ydH] at h5
   have h6:=Rat.mul_le_mul_of_nonneg_left h5 (Rat.le_of_lt h2)
   rw[<- Rat.mul_assoc,h3,Rat.one_mul] at h6
   grind
/-! ### the whole computation -/
def Db(t:WS)(q:Pl):Int:=yd t.de q 0
theorem PB4.of{c:Cf}{l1 l2:List Pl}{t s:WS}(ho:y21 rs (l1++p::l2))(hn:(l1++p::l2).Nodup)(hs:SNAP c rs t l1 p s)(hle:∀ q∈l1,D q<=Db t q)(hb:∀ q∈l1,∀ v:Int,0<=v->v<rs.length->uses q (nth rs v)=true->BW c rs D (yd t.bu ⟨v,q⟩ ⟨0,0⟩) v q):PB4 c rs D p s.bu s.de:=by
 intro v v0 v1 hu hg
 obtain⟨a1,a2⟩:=y8K v0 v1 hu hg
 have hm:=ho l1 p l2 rfl _ a1
 refine⟨fun e=>?_,?_,?_⟩
 ·rw[e] at hm
  exact(List.nodup_append.1 hn).2.2 p hm p (by simp) rfl
 ·rw[hs.bu _ hm];exact hb _ hm v v0 v1 (yep a2)
 ·rw[hs.de _ hm];exact hle _ hm
theorem yiu{c:Cf}{net:Int}{rs:List (List Hop)}(hS:Small c)(hv:VA c net rs)(hV:VLs c){l:List Pl}{t:WS}(hn:l.Nodup)(ho:y21 rs l)(hr:y4H c rs l w0 = .inl t){D:Pl->Int}:∀(n:Nat) (l1 l2:List Pl),l1.length=n->l=l1++l2->(∀ q∈l1,D q<=Db t q)->∀ q∈l1,∀ v:Int,0<=v->v<rs.length->uses q (nth rs v)=true->BW c rs D (yd t.bu ⟨v,q⟩ ⟨0,0⟩) v q
 | 0,l1,l2,hl,_,_,q,hq=>by rw[List.length_eq_zero_iff.1 hl] at hq;cases hq
 | n+1,l1,l2,hl,e,hle,q,hq=>by
  have hne:l1≠[]:=by rintro rfl;cases hl
  have e0:=List.dropLast_concat_getLast hne
  generalize l1.dropLast=l0 at e0
  generalize l1.getLast hne=p at e0
  subst e0
  have hl0:l0.length=n:=by rw[List.length_append,List.length_singleton] at hl;omega
  have e1:l=l0++p::l2:=by rw[e];simp
  have ih:=yiu hS hv hV hn ho hr (D:=D) n l0 (p::l2) hl0 e1 (fun q hq=>hle q (List.mem_append_left _ hq))
  rcases List.mem_append.1 hq with hq | hq
  ·exact ih q hq
  ·rw[List.mem_singleton.1 hq]
   obtain⟨s,hs⟩:=yeo hn hr e1
   have hP:=PB4.of (e1▸ho) (e1▸hn) hs (fun q hq=>hle q (List.mem_append_left _ hq)) ih
   have hfe:=ydM hs.e hs.we
   intro v v0 v1 hu
   rw[<- hs.bp v]
   have:=(CU_low hS hv hV hP hfe.1).2.2 v v0 v1 hu
   show BW c rs D (yd (CU c rs s.bu s.de s.e p).2.2.2 ⟨v,p⟩ ⟨0,0⟩) v p
   rw[hs.e];exact this
theorem yhb{c:Cf}{net:Int}(hS:Small c)(hv:VA c net rs)(hV:VLs c){l:List Pl}{t:WS}(hp:l.Perm (PS rs))(ho:y21 rs l)(hr:y4H c rs l w0 = .inl t){l1 l2:List Pl}(e:l=l1++p::l2)(hle:∀ q∈l1,D q<=Db t q):
  ∃ b∈t.out,pbk b=p/\b.fDelay=Db t p/\∀ x:Int,0<=x->y9E (Arr c (fws c rs D p)) (slw c p.fQ) (y20 c p.fNode) x<=Db t p/\y9F (Arr c (fws c rs D p)) (slw c p.fQ) (y20 c p.fNode) x+y77 c (fws c rs D p)<=b.fT:=by
 have hn:l.Nodup:=hp.nodup_iff.2 (y5x rs)
 have hpm:p∈PS rs:=hp.subset (by rw[e];simp)
 obtain⟨s,hs⟩:=yeo hn hr e
 have hP:=PB4.of (e▸ho) (e▸hn) hs hle (yiu hS hv hV hn ho hr l1.length l1 (p::l2) rfl e hle)
 obtain⟨f1,f2,f3⟩:=ydM hs.e hs.we
 obtain⟨c1,c2,_⟩:=CU_low hS hv hV hP f1
 obtain⟨s1,s2⟩:=ybd hS hv hpm
 obtain⟨d1,d2,d3⟩:=port_low s1 s2 f2 f3 c1
 have hd:Db t p=flr (DL (CU c rs s.bu s.de 0 p).1 (srv c p)).1:=by
  unfold Db
  rw[<- hs.dp]
  show yd (yC s.de p (flr (DL (CU c rs s.bu s.de s.e p).1 (srv c p)).1)) p 0=_
  rw[y1u,if_pos rfl,hs.e]
 refine⟨_,hs.out,rfl,?_,fun x hx=>?_⟩
 ·show flr (DL (CU c rs s.bu s.de s.e p).1 (srv c p)).1=_
  rw[hs.e,hd]
 ·rw[hd]
  refine⟨(d3 x hx).1,?_⟩
  show _<=i64 (flr (BL (CU c rs s.bu s.de s.e p).1 (srv c p)).1+(CU c rs s.bu s.de s.e p).2.1)
  have hb:=yjw d2
  have hmm:0<=(CU c rs s.bu s.de 0 p).2.1/\(CU c rs s.bu s.de 0 p).2.1<=72:=by
   rw[c2];unfold y77
   refine⟨y8o _,ygH (by omega) fun m hm=>?_⟩
   obtain⟨y,hy,rfl⟩:=List.mem_map.1 hm
   obtain⟨v,v0,v1,_,rfl⟩:=yc9.1 hy
   exact(hV.mx (v:=v) v0 (by have:=hv.len;omega)).2.1
  rw[hs.e,yz (by omega),<- c2]
  have:=(d3 x hx).2
  omega
end Go.Proofs.YthjnhebofpebpaaGreat

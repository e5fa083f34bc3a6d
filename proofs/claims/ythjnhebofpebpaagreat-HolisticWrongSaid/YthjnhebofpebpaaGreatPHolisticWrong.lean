/- A part of this claim's proof: models of functions, walks, plain laws. No conditions. -/
import Derived.Test.YthjnhebofpebpaaGreatP35h
import Derived.Test.YthjnhebofpebpaaGreatWHolisticWrong
set_option linter.all false
namespace Go.Proofs.YthjnhebofpebpaaGreat
open Go Go.RowKit Sep
variable {net:Int}
theorem XA:fk=some true:=by kernel_rfl
/-! ### other virtual links -/
structure SN (c d:Cf):Prop where
 m:d.fM=c.fM
 s:d.fS=c.fS
 l:d.fK=c.fK
theorem SN.find{c d:Cf}(h:SN c d)(nm:ByteArray):vP d nm=vP c nm:=by
 have h1:∀ i,kz d i=kz c i:=fun i=>by
  unfold kz ke;rw[h.m,h.s]
 have h2:∀(k:Option Int) (x:Int) (n:Nat) (v:Int),vu x d nm k n v=vu x c nm k n v:=by
  intro k x n
  induction n with
  | zero=>intro v;rfl
  | succ n ih=>intro v;rw[vu,vu,h1];simp only[ih]
 unfold vP ke
 rw[h.m,h.s]
 simp only[oB]
 unfold mh
 exact h2 _ _ _ _
theorem SN.vr{c d:Cf}(h:SN c d){r:List Hop}(hv:VR c net r):VR d net r:=by
 refine⟨hv.len,fun v h0 h1=>?_⟩
 have hc:=hv.cond v h0 h1
 unfold pZ JN sO sw nM fA fB at hc ⊢
 simp only[h.find,h.m,h.s,h.l]
 exact hc
theorem np{c:Cf}{rs:List (List Hop)}(hf:FewP c rs)(h:¬VA c net rs):ww c net rs=some (⟨[],[]⟩,310):=by
 obtain⟨x,h1,h2⟩:=dY (net:=net) hf
 rw[h1]
 cases h2 with
 | route _=>rfl
 | vl a _=>exact absurd a h
 | cycle _ a _ _=>exact absurd a h
 | busy _ a _ _ _ _=>exact absurd a h
 | ok _ _ a _ _ _ _ _=>exact absurd a h
theorem XB{c:Cf}{rs:List (List Hop)}(hf:FewP c rs)(h:VA c net rs)(hv:¬rH c):ww c net rs=some (⟨[],[]⟩,350):=by
 obtain⟨x,h1,h2⟩:=dY (net:=net) hf
 rw[h1]
 cases h2 with
 | route a=>exact absurd h a
 | vl _ _=>rfl
 | cycle _ _ a _=>exact absurd a hv
 | busy _ _ a _ _ _=>exact absurd a hv
 | ok _ _ _ a _ _ _ _=>exact absurd a hv
/-! ### the example -/
abbrev vE(m:Int):z6:=⟨⟨#[]⟩,(⟨⟨#[]⟩,⟨#[]⟩,⟨#[]⟩⟩:yf),100,m,[]⟩
abbrev cE(a b:Int):Cf:=⟨([(⟨⟨#[109]⟩,0,0,[]⟩:yt),(⟨⟨#[110]⟩,0,0,[]⟩:yt)]:List yt),[],([(⟨⟨#[115]⟩,0,16,100⟩:yw)]:List yw),([(⟨⟨#[109]⟩,⟨#[115]⟩,0,1⟩:yx),(⟨⟨#[110]⟩,⟨#[115]⟩,0,1⟩:yx)]:List yx),[vE a,vE b],[],[],[]⟩
abbrev rE:List (List Hop):=[[⟨0,2,0⟩,⟨2,1,1⟩],[⟨0,2,0⟩,⟨2,1,1⟩]]
theorem good:(ww (cE 40 51) 0 rE).map (·.2)=some 0:=by kernel_rfl
theorem fewE(a b:Int):FewP (cE a b) rE:=⟨by simp,by simp,by simp,by simp,by simp,by intro r hr;simp at hr;subst hr;simp⟩
theorem Vr:VA (cE 40 51) 0 rE/\∃ l,l.Perm (PS rE)/\qo rE l:=by
 obtain⟨x,h1,h2⟩:=dY (net:=0) (fewE 40 51)
 have hg:=good
 rw[h1] at hg
 injection hg with hg
 cases h2 with
 | route _=>cases hg
 | vl _ _=>cases hg
 | cycle _ _ _ _=>cases hg
 | busy _ _ _ _ _ _=>cases hg
 | ok l _ a _ b d _ _=>exact⟨a,l,b,d⟩
theorem arrE{D:Pl->Int}{t:Int}(h0:0<=t):102*(t / 100+1)<=sm (cE 51 51) (mc (cE 51 51) rE D ⟨0,0⟩) t:=by
 have hv:=Vr.1
 have hj:jn (cE 51 51) D [⟨0,2,0⟩,⟨2,1,1⟩] 0=0:=((SN.mk rfl rfl rfl:SN (cE 40 51) (cE 51 51)).vr (hv.each _ (by simp))).jn_start D
 have e:mc (cE 51 51) rE D ⟨0,0⟩=[⟨-1,0,0⟩,⟨-1,1,0⟩]:=by
  show[om (cE 51 51) rE D ⟨0,0⟩ 0,om (cE 51 51) rE D ⟨0,0⟩ 1]=_
  unfold om
  show[(⟨-1,0,jn (cE 51 51) D [⟨0,2,0⟩,⟨2,1,1⟩] 0⟩:Fw),⟨-1,1,jn (cE 51 51) D [⟨0,2,0⟩,⟨2,1,1⟩] 0⟩]=_
  rw[hj]
 rw[e]
 show 102*(t / 100+1)<=(51*((t+0) / 100+1)+(51*((t+0) / 100+1)+0))+(min 0 (0+t / 1)+(min 0 (0+t / 1)+0))
 omega
theorem over:ww (cE 51 51) 0 rE=some (⟨[],[]⟩,360):=by
 obtain⟨BB,l0,z2,ho0⟩:=Vr
 have hf:=fewE 51 51
 have hv:VA (cE 51 51) 0 rE:=⟨BB.nt,BB.len,BB.most,fun r hr=>(SN.mk rfl rfl rfl:SN (cE 40 51) (cE 51 51)).vr (BB.each r hr)⟩
 have Ap:rH (cE 51 51):=by
  intro v hv
  have hv:v∈[vE 51,vE 51]:=hv
  simp at hv
  subst hv
  unfold ie cn
  simp
 obtain⟨x,h1,h2⟩:=dY (net:=0) hf
 rw[h1]
 cases h2 with
 | route a=>exact absurd hv a
 | vl _ a=>exact absurd Ap a
 | cycle s _ _ a=>
  exact(a.no hv (fun p=>((l0.idxOf p:Nat):Int)) (fun p _=>by omega) fun p q he=>by
   have:=ho0.idx hv z2 he
   show((l0.idxOf p:Nat):Int)<((l0.idxOf q:Nat):Int)
   omega).elim
 | busy _ _ _ _ _ _=>rfl
 | ok l t _ _ a b d _=>
  exfalso
  have hfx:=(Qr hf.small hv Ap.vls a b d).1
  have hm:(⟨0,0⟩:Pl)∈PS rE:=(uO rE _).2 ⟨_,List.mem_cons_self,⟨0,2,0⟩,List.mem_cons_self,rfl⟩
  have h3:=hfx.b _ hm
  unfold bw at h3
  have h4:=Vp h3
  have h5:=Xy (sm (cE 51 51) (mc (cE 51 51) rE (dD t.1) ⟨0,0⟩)) (slw (cE 51 51) (⟨0,0⟩:Pl).fQ)
  have h6:=arrE (D:=dD t.1) (t:=BZ (sm (cE 51 51) (mc (cE 51 51) rE (dD t.1) ⟨0,0⟩)) (slw (cE 51 51) (⟨0,0⟩:Pl).fQ)-1) (by omega)
  generalize BZ (sm (cE 51 51) (mc (cE 51 51) rE (dD t.1) ⟨0,0⟩)) (slw (cE 51 51) (⟨0,0⟩:Pl).fQ)=B at *
  have h7:slw (cE 51 51) (⟨0,0⟩:Pl).fQ=1:=rfl
  rw[h7] at h4
  omega
theorem law(c:Cf)(net:Int)(rs:List (List Hop))(which CG:Int)(hw:0<=which/\which<=255)(hy:0<=CG/\CG<=255):gB c net rs which CG=some true:=by
 unfold gB
 rw[XA]
 obtain⟨b1,q1,q2⟩:=Qa c rs
 rw[q1,oB]
 cases b1 with
 | false=>rfl
 | true=>
 have hf:=q2.1 rfl
 by_cases hz:c.yb.length=0
 ·rw[if_pos (by simp[hz])];rfl
 rw[if_neg (by simp[hz])]
 obtain⟨x,x1,x2⟩:=dY (net:=net) hf
 rw[x1,oB]
 by_cases hx:x.2≠0
 ·rw[if_pos (by simpa using hx)];rfl
 rw[if_neg (by simpa using hx)]
 have D6:VA c net rs/\rH c:=by
  cases x2 with
  | route _=>exact absurd (by decide) hx
  | vl _ _=>exact absurd (by decide) hx
  | cycle _ _ _ _=>exact absurd (by decide) hx
  | busy _ _ _ _ _ _=>exact absurd (by decide) hx
  | ok _ _ a b _ _ _ _=>exact⟨a,b⟩
 obtain⟨hv,Ap⟩:=D6
 clear x1 x2 hx
 have hfv:=hf.v
 rw[xA (by omega),xA (by simp;omega),xD (x:=which) (by omega)]
 simp only[List.nil_append]
 have hk:0<=Int.tmod which ((c.yb.length:Nat):Int)/\Int.tmod which ((c.yb.length:Nat):Int)<((c.yb.length:Nat):Int):=by
  rw[Int.tmod_eq_emod_of_nonneg hw.1]
  exact⟨Int.emod_nonneg _ (by omega),Int.emod_lt_of_pos _ (by omega)⟩
 generalize Int.tmod which ((c.yb.length:Nat):Int)=q at hk
 have hty:Int.tmod CG 4=0\/Int.tmod CG 4=1\/Int.tmod CG 4=2\/Int.tmod CG 4=3:=by
  rw[Int.tmod_eq_emod_of_nonneg hy.1];omega
 generalize Int.tmod CG 4=y at hty
 refine YJ (P:=fun o=>o=some true) fun k AX=>?_
 -- what a rejection leads to
 have key:∀(rT:List (List Hop)) (rb:Int) (vls:List z6),FewP (⟨c.fM,c.yd,c.fS,c.fK,vls,c.fH,c.fU,c.yc⟩:Cf) rT->ww (⟨c.fM,c.yd,c.fS,c.fK,vls,c.fH,c.fU,c.yc⟩:Cf) net rT=some (⟨[],[]⟩,rb)->k rT rb vls=some true:=by
  intro rT rb vls Cp h
  rw[AX,h,oB]
  have hz:i64 ((((([]:List yl)).length:Nat):Int)+(((([]:List zo)).length:Nat):Int))=0:=by decide +kernel
  rw[if_neg (by simp only[hz];simp)]
  have hr:=Cp.r
  have hd:Int.tdiv ((rT.length:Nat):Int) 2=((rT.length:Nat):Int) / 2:=Int.tdiv_eq_ediv_of_nonneg (by omega)
  rw[hd,xD (by omega),xA (by omega)]
  have hf2:FewP (⟨c.fM,c.yd,c.fS,c.fK,vls,c.fH,c.fU,c.yc⟩:Cf) (rT.take (((rT.length:Nat):Int) / 2).toNat):=⟨Cp.m,Cp.s,Cp.l,Cp.v,by rw[List.length_take];omega,fun r hr=>Cp.e r (List.mem_of_mem_take hr)⟩
  have hJ:∃ js,qZ (⟨c.fM,c.yd,c.fS,c.fK,vls,c.fH,c.fU,c.yc⟩:Cf) (rT.take (((rT.length:Nat):Int) / 2).toNat) []=some js/\js.length<=rT.length:=by
   rcases Xz hf2 (ps:=[]) (by simp) (fun r hr h hh=>⟨by show(-1099511627776:Int)<=0;omega,by show(0:Int)<=1099511627776;omega⟩) with⟨_,e⟩ | ⟨_,e⟩
   ·exact⟨_,e,by unfold JT;rw[List.length_map,List.length_take];omega⟩
   ·exact⟨_,e,by simp⟩
  obtain⟨js,e,hjs⟩:=hJ
  rw[e,oB,oB,if_neg (by simpa using hjs)]
  clear h AX hz e hjs hd
  show(gv).bind _=some true
  unfold gv
  rw[oB,xA (by decide),xA (by decide +kernel)]
  have h1:=over
  obtain⟨y,h2,h3⟩:∃ y,ww (cE 40 51) 0 rE=some y/\y.2=0:=by
   have hg:=good
   cases hc:ww (cE 40 51) 0 rE with
   | none=>rw[hc] at hg;cases hg
   | some y=>rw[hc] at hg;injection hg with hg;exact⟨y,rfl,hg⟩
  refine(congrArg (fun o=>Option.bind o _) (show _=some ((⟨[],[]⟩:yz),(360:Int)) from h1)).trans ?_
  rw[oB,xA (by decide),xA (by decide),xA (by decide +kernel)]
  refine(congrArg (fun o=>Option.bind o _) (show _=some y from h2)).trans ?_
  rw[oB,if_pos (by simp[h3])]
  rfl
 have hSN:∀ vls:List z6,SN c (⟨c.fM,c.yd,c.fS,c.fK,vls,c.fH,c.fU,c.yc⟩:Cf):=fun _=>⟨rfl,rfl,rfl⟩
 have D7:∀ vls:List z6,vls.length=c.yb.length->FewP (⟨c.fM,c.yd,c.fS,c.fK,vls,c.fH,c.fU,c.yc⟩:Cf) rs:=fun vls h=>⟨hf.m,hf.s,hf.l,by show vls.length<=20;omega,hf.r,hf.e⟩
 have hVA:∀ vls:List z6,vls.length=c.yb.length->VA (⟨c.fM,c.yd,c.fS,c.fK,vls,c.fH,c.fU,c.yc⟩:Cf) net rs:=fun vls h=>⟨hv.nt,by show rs.length=vls.length;rw[h];exact hv.len,hv.most,fun r hr=>(hSN vls).vr (hv.each r hr)⟩
 -- a virtual mM that is not valid
 have bad:∀(vls:List z6) (u:z6),¬ie u->vls.length=c.yb.length->k rs 350 (vls.set q.toNat u)=some true:=by
  intro vls u hu hl
  refine key _ _ _ (D7 _ (by rw[List.length_set];exact hl)) (XB (D7 _ (by rw[List.length_set];exact hl)) (hVA _ (by rw[List.length_set];exact hl)) fun h=>hu (h u ?_))
  show u∈vls.set q.toNat u
  exact List.mem_set (by omega) u
 rcases hty with rfl | rfl | rfl | rfl
 ·rw[if_pos (by decide),xA hk]
  exact bad _ _ (by unfold ie cn;simp) rfl
 ·rw[if_neg (by decide),if_pos (by decide),xA hk]
  exact bad _ _ (by unfold ie;simp) rfl
 ·rw[if_neg (by decide),if_neg (by decide),if_pos (by decide),xA hk,xA (by rw[List.length_set];exact hk)]
  exact bad _ _ (by unfold ie cn;simp) (by rw[List.length_set])
 ·rw[if_neg (by decide),if_neg (by decide),if_neg (by decide),if_pos (by decide)]
  have B1:=hv.len
  rw[xA ⟨by omega,by omega,by omega⟩]
  have hf3:FewP (⟨c.fM,c.yd,c.fS,c.fK,c.yb,c.fH,c.fU,c.yc⟩:Cf) (rs.drop (1:Int).toNat):=⟨hf.m,hf.s,hf.l,hf.v,by rw[List.length_drop];have:=hf.r;omega,fun r hr=>hf.e r (List.mem_of_mem_drop hr)⟩
  refine key _ _ _ hf3 (np hf3 fun h=>?_)
  have h1:=h.len
  rw[List.length_drop] at h1
  have h1:rs.length-1=c.yb.length:=h1
  omega
end Go.Proofs.YthjnhebofpebpaaGreat

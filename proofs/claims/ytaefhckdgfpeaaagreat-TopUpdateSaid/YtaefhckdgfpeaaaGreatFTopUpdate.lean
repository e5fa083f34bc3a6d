/-
 Whatever the input, the law TopUpdate returns true, and its arguments read behind the call as before it. No conditions.
-/
import Derived.Test.YtaefhckdgfpeaaaGreatPKn
import Derived.Test.YtaefhckdgfpeaaaGreatZMem
import Derived.Test.YtaefhckdgfpeaaaGreatRows
set_option linter.all false
namespace Go.Proofs.YtaefhckdgfpeaaaGreat.topUpdate
open Go.ChangeShapes Go.WideShapes Go.ChangeAt Go.RowKit Sep
set_option linter.unusedVariables false
abbrev kd250 (a:ym):Prop:=(-9223372036854775808<=a.xA/\a.xA<=9223372036854775807)/\(-9223372036854775808<=a.xB/\a.xB<=9223372036854775807)
theorem el_9 {H:Type} {enc:TypeId×Value->H} {W:World} {tV:Nat->Bool} {wv:Bool} (n:Nat) (cs:List Value) (y:DataW H×List MemPlace) (h:DataW.trod enc Tryz.prog W 0 tV wv n 9 cs=some y) (hl:cs.length=1):∃ a:ByteArray,(cs=e9 a)/\(True):=by
 obtain⟨a,rfl,-,-⟩:=DataW.trod_string Tryz.underlying9 h
 exact⟨a,rfl,trivial⟩
theorem el_3 {H:Type} {enc:TypeId×Value->H} {W:World} {tV:Nat->Bool} {wv:Bool} (n:Nat) (cs:List Value) (y:DataW H×List MemPlace) (h:DataW.trod enc Tryz.prog W 0 tV wv n 3 cs=some y) (hl:cs.length=1):∃ a:Int,(cs=e3 a)/\(-9223372036854775808<=a/\a<=9223372036854775807):=by
 obtain⟨a,rfl,-,wf⟩:=DataW.trod_int Tryz.underlying3 h
 exact⟨a,rfl,Go.bounds_i64 wf⟩
theorem z1Mc {H:Type} {enc:TypeId×Value->H} {W:World} {tV:Nat->Bool} {wv:Bool} (n:Nat) (cs:List Value) (y:DataW H×List MemPlace) (h:DataW.trod enc Tryz.prog W 0 tV wv n 250 cs=some y) (hl:cs.length=4):∃ a:ym,(cs=j5 a)/\(kd250 a):=by
 obtain⟨y0,m0,h0⟩:=bI 0 Tryz.underlying250 h rfl
 have c0:Tryz.prog.cellsOf 9=1:=by kernel_rfl
 try dsimp only at h0
 rw[c0] at h0
 obtain⟨a0,r0,k0⟩:=el_9 _ _ _ h0 (by simp[hl])
 obtain⟨y1,m1,h1⟩:=bI 1 Tryz.underlying250 h rfl
 have c1:Tryz.prog.cellsOf 3=1:=by kernel_rfl
 try dsimp only at h1
 rw[c1] at h1
 obtain⟨a1,r1,k1⟩:=el_3 _ _ _ h1 (by simp[hl])
 obtain⟨y2,m2,h2⟩:=bI 2 Tryz.underlying250 h rfl
 have c2:Tryz.prog.cellsOf 9=1:=by kernel_rfl
 try dsimp only at h2
 rw[c2] at h2
 obtain⟨a2,r2,k2⟩:=el_9 _ _ _ h2 (by simp[hl])
 obtain⟨y3,m3,h3⟩:=bI 3 Tryz.underlying250 h rfl
 have c3:Tryz.prog.cellsOf 3=1:=by kernel_rfl
 try dsimp only at h3
 rw[c3] at h3
 obtain⟨a3,r3,k3⟩:=el_3 _ _ _ h3 (by simp[hl])
 obtain⟨u0,u1,u2,u3,rfl⟩:∃ u0 u1 u2 u3,cs=[u0,u1,u2,u3]:=by match cs,hl with | [u0,u1,u2,u3],_=>exact⟨_,_,_,_,rfl⟩
 simp[e9] at r0
 simp[e3] at r1
 simp[e9] at r2
 simp[e3] at r3
 exact⟨⟨a0,a1,a2,a3⟩,by simp[j5, *],⟨k1,k3⟩⟩
theorem el_5 {H:Type} {enc:TypeId×Value->H} {W:World} {tV:Nat->Bool} {wv:Bool} (n:Nat) (cs:List Value) (y:DataW H×List MemPlace) (h:DataW.trod enc Tryz.prog W 0 tV wv n 5 cs=some y) (hl:cs.length=1):∃ a:Int,(cs=e5 a)/\(0<=a/\a<=255):=by
 obtain⟨a,rfl,-,wf⟩:=DataW.trod_int Tryz.underlying5 h
 exact⟨a,rfl,Go.bounds_u8 wf⟩
theorem own:ownKnob Tryz.prog.godebug=none:=by kernel_rfl
theorem laid:laidOutB Tryz.prog=true:=by kernel_rfl
set_option maxRecDepth 100000 in
theorem lifted (os:Os) (zQ:os.Started) (H:Type) (enc:TypeId×Value->H):
  ReturnsInHanded {} Tryz.checked os 3 .any (Rows.topUpdateSpec.pre6 enc Tryz.prog Tryz.f3 Rows.topUpdateRow.domain false) (Rows.topUpdateSpec.post enc Tryz.prog Tryz.f3 false true false false):=by
 refine returnsInHanded_of_change (C:=Tryz.checked) own zQ (by kernel_rfl) Tryz.func3
  (ChangeSpec.witness6 (enc:=enc) (C:=Tryz.checked) false ⟨#[],#[.slice none 0 0,.slice none 0 0,.slice none 0 0,.int .u64 0,.int .u8 0,.int .u8 0,.int .u8 0],[]⟩ 8 (by kernel_rfl) (by kernel_rfl) (by kernel_rfl) (by kernel_rfl)) ?_
 intro W base args ds gs zd CY hW hcnd _
 have Af:∀(j:Nat) t v,Tryz.f3.params[j]?=some t->args[j]?=some v->Value.okWide Tryz.prog W .any base t v:=CY
 have Cc:=hW
 obtain⟨p,q,hA0,hV,rfl,hfz,hnd⟩:=hW
 have hA:DataW.TrodAll enc Tryz.prog W 0 (fun _=>true) true Tryz.f3.params.toList args.toList ds p:=hA0
 rw[Tryz.params3] at hA Af
 obtain⟨v0,vs0,d0,ds0,p0,q0,hargs,rfl,rfl,h0,r0⟩:=trodAll_cons hA
 obtain⟨v1,vs1,d1,ds1,p1,q1,rfl,rfl,rfl,h1,r1⟩:=trodAll_cons r0
 obtain⟨v2,vs2,d2,ds2,p2,q2,rfl,rfl,rfl,h2,r2⟩:=trodAll_cons r1
 obtain⟨v3,vs3,d3,ds3,p3,q3,rfl,rfl,rfl,h3,r3⟩:=trodAll_cons r2
 obtain⟨v4,vs4,d4,ds4,p4,q4,rfl,rfl,rfl,h4,r4⟩:=trodAll_cons r3
 obtain⟨v5,vs5,d5,ds5,p5,q5,rfl,rfl,rfl,h5,r5⟩:=trodAll_cons r4
 obtain⟨v6,vs6,d6,ds6,p6,q6,rfl,rfl,rfl,h6,r6⟩:=trodAll_cons r5
 obtain⟨rfl,rfl,rfl⟩:=trodAll_nil r6
 obtain rfl:args = #[v0,v1,v2,v3,v4,v5,v6]:=by cases args;simp_all
 obtain⟨rfl,rfl⟩:=trodVars_none hV
 obtain⟨nD,m0,nb,x0,rfl,hs0,hL0⟩:=Vw (Pr:=fun r x=>(r=j5 x)/\(kd250 x)) (sz:=4) Tryz.underlying22 (by kernel_rfl) (by decide) z1Mc (Af 0 22 v0 rfl rfl) h0
 unfold maxLen at hL0
 obtain⟨rfl,Bn⟩:=YP hs0
 have bd0:=Bn.all (q:=fun x=>kd250 x) (fun _ _ h=>h.2)
 replace Bn:=Bn.weak (Pr':=(fun r x=>r=j5 x)) (fun _ _ h=>h.1)
 obtain⟨Bc,m1,zx,x1,rfl,Be,hL1⟩:=Vw (Pr:=fun r x=>(r=e5 x)/\(0<=x/\x<=255)) (sz:=1) Tryz.underlying23 (by kernel_rfl) (by decide) el_5 (Af 1 23 v1 rfl rfl) h1
 unfold maxLen at hL1
 obtain⟨rfl,hz1⟩:=YP Be
 have bd1:=hz1.all (q:=fun x=>0<=x/\x<=255) (fun _ _ h=>h.2)
 replace hz1:=hz1.weak (Pr':=(fun r x=>r=e5 x)) (fun _ _ h=>h.1)
 obtain⟨Ch,m2,AG,x2,rfl,BW,hL2⟩:=Vw (Pr:=fun r x=>(r=e5 x)/\(0<=x/\x<=255)) (sz:=1) Tryz.underlying23 (by kernel_rfl) (by decide) el_5 (Af 2 23 v2 rfl rfl) h2
 unfold maxLen at hL2
 obtain⟨rfl,hz2⟩:=YP BW
 have bd2:=hz2.all (q:=fun x=>0<=x/\x<=255) (fun _ _ h=>h.2)
 replace hz2:=hz2.weak (Pr':=(fun r x=>r=e5 x)) (fun _ _ h=>h.1)
 obtain⟨x3,rfl,hd3,hp3,wf3⟩:=open_int Tryz.underlying24 (Af 3 24 v3 rfl rfl) h3
 have bd3:=Go.bounds_u64 wf3
 obtain⟨x4,rfl,hd4,hp4,wf4⟩:=open_int Tryz.underlying5 (Af 4 5 v4 rfl rfl) h4
 have bd4:=Go.bounds_u8 wf4
 obtain⟨x5,rfl,hd5,hp5,wf5⟩:=open_int Tryz.underlying5 (Af 5 5 v5 rfl rfl) h5
 have bd5:=Go.bounds_u8 wf5
 obtain⟨x6,rfl,hd6,hp6,wf6⟩:=open_int Tryz.underlying5 (Af 6 5 v6 rfl rfl) h6
 have bd6:=Go.bounds_u8 wf6
 have CZ:=law x0 x1 x2 x3 x4 x5 x6 bd1 bd2 bd4 bd5 bd6
 refine(Vk (Z:=ZW W) (z6q:=nD) (z6r:=nb) (zNy:=Bc) (zNz:=zx) (zNA:=Ch) (zNB:=AG) (z3S:=x0) (z3k:=x1) (z3l:=x2) (z3D:=x3) (z4y:=x4) (z4l:=x5) (z4m:=x6) (r:=true) CZ (ZW_pz W) Bn hz1 hz2).mono fun e W' ⟨he,hh⟩=>?_
 subst he
 exact⟨_,rfl,Ge laid (by kernel_rfl) rfl rfl Tryz.underlying4 Cc (fun _=>⟨rfl,rfl,rfl⟩) hh.below⟩
theorem jand {a b:Bool} (h:a=true) (k:b=true):(a&&b)=true:=by rw[h,k];rfl
theorem jf0:(Rows.topUpdateRow.wf (OpenSpec.ofChange Rows.topUpdateSpec))=true:=by kernel_rfl
theorem jf1:(laidOutB Tryz.pinned.checked.prog)=true:=by kernel_rfl
theorem jf2:(mapsRowed Tryz.pinned.checked.prog)=true:=by kernel_rfl
theorem jf3:(Tryz.f3.params.all (Tryz.pinned.checked.prog.readableRec ·))=true:=by kernel_rfl
theorem jf4:(namedTie Tryz.pinned.checked.prog Rows.topUpdateRow.named Rows.topUpdateSpec.vars)=true:=by kernel_rfl
theorem jf5:((Rows.topUpdateRow.stops == []))=true:=by kernel_rfl
theorem jf6:((Tryz.pinned.checked.prog.stops == []))=true:=by kernel_rfl
theorem jf7:((Rows.topUpdateRow.knobs == []))=true:=by kernel_rfl
theorem jf8:((Tryz.pinned.checked.prog.stopKnobs == []))=true:=by kernel_rfl
theorem jf9:((Rows.topUpdateRow.inPlace == Tryz.pinned.checked.prog.inPlace 3))=true:=by kernel_rfl
theorem jf10:((Rows.topUpdateRow.unfollowed == Tryz.pinned.checked.prog.unfollowed 3))=true:=by kernel_rfl
theorem jf11:((Rows.topUpdateRow.recurses == Tryz.pinned.checked.prog.recurses 3))=true:=by kernel_rfl
theorem jf12:((Rows.topUpdateRow.named == Tryz.pinned.checked.prog.varsNamed 3))=true:=by kernel_rfl
theorem jf13:((Rows.topUpdateRow.maps == (Tryz.f3.params.toList++Rows.topUpdateSpec.plain.varTypes Tryz.pinned.checked.prog).any (Tryz.pinned.checked.prog.mapsRec ·)))=true:=by kernel_rfl
theorem jf14:((Rows.topUpdateRow.ifaces == (Tryz.f3.params.toList++Rows.topUpdateSpec.plain.varTypes Tryz.pinned.checked.prog).any (Tryz.pinned.checked.prog.ifacesRec ·)))=true:=by kernel_rfl
theorem jf15:((Rows.topUpdateRow.mapsOut == Tryz.pinned.checked.prog.mapsAmong Tryz.f3.resultTypes.toList))=true:=by kernel_rfl
theorem jf16:((Rows.topUpdateRow.loops == (Tryz.f3.params.toList++Rows.topUpdateSpec.plain.varTypes Tryz.pinned.checked.prog).any (Tryz.pinned.checked.prog.loopsFrom ·)))=true:=by kernel_rfl
theorem jf17:((Rows.topUpdateRow.wideKeys == (Tryz.f3.params.toList++Rows.topUpdateSpec.plain.varTypes Tryz.pinned.checked.prog++Tryz.f3.resultTypes.toList).any (Tryz.pinned.checked.prog.wideKeysFrom ·)))=true:=by kernel_rfl
theorem jf18:(Rows.topUpdateSpec.vars.all (Tryz.pinned.checked.prog.varReadable ·))=true:=by kernel_rfl
theorem jf19:(Tryz.f3.resultTypes.all (fun t=>Tryz.pinned.checked.prog.readableRec t&&decide (t<Tryz.pinned.checked.prog.types.size)))=true:=by kernel_rfl
theorem jf20:((Rows.topUpdateRow.ifacesOut == Tryz.f3.resultTypes.toList.any (Tryz.pinned.checked.prog.ifacesRec ·)))=true:=by kernel_rfl
theorem jf21:((Rows.topUpdateRow.loopsOut == Tryz.f3.resultTypes.toList.any (Tryz.pinned.checked.prog.loopsFrom ·)))=true:=by kernel_rfl
theorem jf22:((Rows.topUpdateRow.plainKeys == Tryz.pinned.checked.prog.plainKeys))=true:=by kernel_rfl
theorem jf23:(Rows.topUpdateRow.shortTexts.isNone)=true:=by kernel_rfl
theorem jf24:(Tryz.pinned.checked.prog.stopsHeard)=true:=by kernel_rfl
theorem jf25:(Tryz.pinned.checked.prog.mayEnter)=true:=by kernel_rfl
theorem jf26:((Rows.topUpdateRow.lifted == Tryz.pinned.checked.prog.liftsFinal))=true:=by kernel_rfl
theorem jf27:((Tryz.pinned.checked.prog.make == some Rows.topUpdateRow.make))=true:=by kernel_rfl
theorem jf28:((Rows.topUpdateRow.kinds == (if Rows.topUpdateRow.domain.isEmpty then[] else Tryz.f3.params.toList.map fun t=>match Tryz.pinned.checked.prog.underlying t with | some (.int k)=>some k | _=>none)))=true:=by kernel_rfl
theorem jf29:((Rows.topUpdateRow.pinned == Rows.topUpdateRow.pinnedBy))=true:=by kernel_rfl
theorem jf30:((Rows.topUpdateRow.veiled == (Tryz.f3.params.toList++Rows.topUpdateSpec.plain.varTypes Tryz.pinned.checked.prog++Tryz.f3.resultTypes.toList).any (Tryz.pinned.checked.prog.veiledRec ·)))=true:=by kernel_rfl
theorem jf31:(Rows.topUpdateRow.veiledFits Tryz.pinned.checked.prog Tryz.f3.params.toList (Tryz.f3.params.toList++Rows.topUpdateSpec.plain.varTypes Tryz.pinned.checked.prog++Tryz.f3.resultTypes.toList))=true:=by kernel_rfl
set_option maxRecDepth 100000 in
theorem jclosed:joinedFacts Tryz.pinned.checked.prog 3 Tryz.f3 Rows.topUpdateSpec Rows.topUpdateRow=true:=by
 unfold joinedFacts
 exact(jand (jand (jand (jand (jand (jand (jand (jand (jand (jand (jand (jand (jand (jand (jand (jand (jand (jand (jand (jand (jand (jand (jand (jand (jand (jand (jand (jand (jand (jand (jand jf0 jf1) jf2) jf3) jf4) jf5) jf6) jf7) jf8) jf9) jf10) jf11) jf12) jf13) jf14) jf15) jf16) jf17) jf18) jf19) jf20) jf21) jf22) jf23) jf24) jf25) jf26) jf27) jf28) jf29) jf30) jf31)
theorem over:Rows.topUpdateRow.holds Tryz.pinned (OpenSpec.ofChange Rows.topUpdateSpec):=
 OpenClaim.holds_of_wide 3 Tryz.f3 rfl rfl rfl rfl rfl rfl rfl ⟨rfl,rfl,rfl,rfl,rfl⟩ rfl rfl rfl rfl rfl (by kernel_rfl) Tryz.func3 jclosed
  (of_decide_eq_true (by kernel_rfl)) (by unfold Func.isWrapper;first | (rw[if_pos (by decide +kernel)];kernel_rfl) | (rw[if_neg (by decide +kernel)];exact⟨rfl,rfl⟩))
  (fun os zQ H enc _=>lifted os zQ H enc)
theorem proved:Rows.TopUpdateSaid:=over
#print axioms proved
end Go.Proofs.YtaefhckdgfpeaaaGreat.topUpdate

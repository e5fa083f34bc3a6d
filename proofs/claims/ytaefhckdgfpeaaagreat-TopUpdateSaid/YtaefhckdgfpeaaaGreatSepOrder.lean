/- A part of this claim's proof: several operations of a region that could come next. No conditions. -/
import Derived.Test.YtaefhckdgfpeaaaGreatSepCore
import Derived.WalkKit
import Derived.ProofKit
import Derived.OpenShut
set_option linter.all false
namespace Sep
open Go Go.RowKit
section
variable {i fuel':Nat}{A0 A1 A2 A3 G A4:Type}{QD:Act->World->Prop}{f:FuncId}{vs:Array Value}
variable [Rnd]
def vl(P:Program)(n:Nat)(F:List Nat)(Ek:World)(ops:Array Oper)(tl:Nat->Bool)(Ls:List Asrt)(Q:Act->World->Prop)(fuel:Nat)(listed:Array Bool)(env:List (Nat×Value))(L:List Asrt)(i:Nat):Prop:=
 ∀ a w,SS n F Ek env L a w->∀ w',Ext w w'->opN P ops i (fun a' rx=>((tl i=false->Ext w' rx)/\(XV ops i=false->Hp F Ek w' Ls->Hp F Ek rx Ls))/\mZ P ops tl (fun w=>Hp F Ek w Ls) Q fuel (listed.setIfInBounds i true) a' rx) a w'
section
variable {P:Program} {n:Nat} {F:List Nat} {Ek:World} {ops:Array Oper} {tl:Nat->Bool} {Ls:List Asrt} {fuel:Nat} {listed:Array Bool}
 {env:List (Nat×Value)} {L Lc Lr R:List Asrt} {o:Oper} {Q:Act->World->Prop} {dd:Nat}
theorem vl.nil:∀ i∈([]:List Nat),vl P n F Ek ops tl Ls Q fuel listed env L i:=fun _ h=>(by cases h)
theorem vl.cons{j:Nat}{is:List Nat}(h:vl P n F Ek ops tl Ls Q fuel listed env L j)(hs:∀ i∈is,vl P n F Ek ops tl Ls Q fuel listed env L i):∀ i∈j::is,vl P n F Ek ops tl Ls Q fuel listed env L i:=by
 intro i hi
 rcases List.mem_cons.1 hi with rfl | hi
 ·exact h
 ·exact hs i hi
theorem WD.choose(is:List Nat)(hr:Region.ready .any ops listed=is)(uQ:is.isEmpty=false)(k:∀ i∈is,vl P n F Ek ops tl Ls Q fuel listed env L i):WD P n F Ek ops tl Ls Q (fuel+1) listed env L:=by
 intro a w h w' e
 rw[hr]
 refine⟨fun h0=>(by rw[h0] at uQ;cases uQ),fun j hj=>k j hj a w h w' e⟩
theorem vl.forced{φ:G->Prop}{val:G->Value}{L':G->List Asrt}{d:Nat}(hi:ops[i]?=some o)(hg:gd env ops o=some true)(hd:o.dst=some d)(ng:Nat.blt d n=true)(hq:∀ a w,SS n F Ek env L a w->∃ g w',(execOp a.eval o).run P w = .ok (.value (val g)) w'/\φ g/\Hp F Ek w' (L' g)/\(tl i=false->Ext w w'))(nE:tl i=true->∀ g,wS (L' g) Ls)(k:∀ g,φ g->WD P n F Ek ops tl Ls Q fuel (listed.setIfInBounds i true) ((d,val g)::env) (L' g)):vl P n F Ek ops tl Ls Q fuel listed env L i:=by
 intro a w h w' e
 have h':=h.world (h.hp.ext e)
 obtain⟨g,rx,kA,tt,hp,hx⟩:=hq a w' h'
 unfold opN
 simp only[hi,js h' hg,if_true,kA,Oper.vT,hd]
 refine⟨⟨hx,fun _ h0=>?_⟩,k g tt _ _ (h'.put ng _ hp)⟩
 cases ht:tl i with
 | false=>exact h0.ext (hx ht)
 | true=>exact(nE ht g).hp hp
theorem vl.forced0{L':List Asrt}(hi:ops[i]?=some o)(hg:gd env ops o=some true)(hd:o.dst=none)(ht:tl i=true)(nE:wS L' Ls)(hq:∀ a w,SS n F Ek env L a w->∃ w',nn P o a w w'/\Hp F Ek w' L')(k:WD P n F Ek ops tl Ls Q fuel (listed.setIfInBounds i true) env L'):vl P n F Ek ops tl Ls Q fuel listed env L i:=by
 intro a w h w' e
 have h':=h.world (h.hp.ext e)
 obtain⟨rx,kA,hp⟩:=hq a w' h'
 unfold opN
 rcases kA with kA | ⟨v,kA⟩
 ·simp only[hi,js h' hg,if_true,kA,Oper.vT,hd]
  exact⟨⟨fun hf=>(by rw[ht] at hf;cases hf),fun _ _=>nE.hp hp⟩,k _ _ (h'.world hp)⟩
 ·simp only[hi,js h' hg,if_true,kA,Oper.vT,hd]
  exact⟨⟨fun hf=>(by rw[ht] at hf;cases hf),fun _ _=>nE.hp hp⟩,k _ _ (h'.world hp)⟩
theorem vl.forcedCall{φ:G->Prop}{val:G->Value}{M:G->List Asrt}{Lc Lr:List Asrt}{d:Nat}(hi:ops[i]?=some o)(hg:gd env ops o=some true)(hd:o.dst=some d)(ng:Nat.blt d n=true)(ht:(tl i=true/\∀ g,wS (M g++Lr) Ls)\/Lc=[])(kA:∀ a w,SS n F Ek env L a w->(execOp a.eval o).run P w = .ok (.enter f vs) w)(hs:Sel L Lc Lr)(hc:∀ w,Hp F Ek w L->Calls P f vs w fun e w'=>∃ g,e = .returned (val g)/\φ g/\Hp (Lc.flatMap (·.fp)) w w' (M g))(k:∀ g,φ g->WD P n F Ek ops tl Ls Q fuel (listed.setIfInBounds i true) ((d,val g)::env) (M g++Lr)):vl P n F Ek ops tl Ls Q fuel listed env L i:=by
 intro a w h w' e
 have h':=h.world (h.hp.ext e)
 unfold opN
 simp only[hi,js h' hg,if_true,kA a w' h',Oper.vT,hd]
 refine(hc w' h'.hp).mono ?_
 rintro e' rx ⟨g,rfl,tt,hp⟩
 have zo:=h'.hp.call hs hp
 refine⟨_,rfl,⟨fun hf=>?_,fun _ h0=>?_⟩,k g tt _ _ (h'.put ng _ zo)⟩
 ·rcases ht with ht | rfl
  ·rw[ht.1] at hf;cases hf
  ·exact hp.toExt
 ·rcases ht with ht | rfl
  ·exact(ht.2 g).hp zo
  ·exact h0.ext hp.toExt
theorem vl.new{φ:G->Prop}{val:G->Value}{L':G->List Asrt}{o:Oper}{tl:Nat->Bool}{Ls:List Asrt}{fuel:Nat}{listed:Array Bool}[hi:Ej ops[i]? (some o)][hg:Ej (gd env ops o) (some true)][hd:Ej o.dst (some dd)][ng:Ej (Nat.blt dd n) true](hq:Yg P n F Ek env L o φ val L')(nE:tl i=true->∀ g,wS (L' g) Ls)(k:∀ g,φ g->WD P n F Ek ops tl Ls QD fuel (listed.setIfInBounds i true) ((dd,val g)::env) (L' g)):vl P n F Ek ops tl Ls QD fuel listed env L i:=
 vl.forced hi.1 hg.1 hd.1 ng.1 (fun a w h=>let ⟨g,w',h1,h2,h3,h4⟩:=hq a w h;⟨g,w',h1,h2,h3,fun _=>h4⟩) nE k
theorem vl.old{φ:G->Prop}{val:G->Value}{L':G->List Asrt}{o:Oper}{tl:Nat->Bool}{Ls:List Asrt}{fuel:Nat}{listed:Array Bool}(hi:ops[i]?=some o)(hg:gd env ops o=some true)(hd:o.dst=some dd)(ng:Nat.blt dd n=true)(ht:tl i=true)(nE:∀ g,wS (L' g) Ls)(hq:Ef P n F Ek env L o φ val L')(k:∀ g,φ g->WD P n F Ek ops tl Ls QD fuel (listed.setIfInBounds i true) ((dd,val g)::env) (L' g)):vl P n F Ek ops tl Ls QD fuel listed env L i:=
 vl.forced hi hg hd ng (fun a w h=>let ⟨g,w',h1,h2,h3⟩:=hq a w h;⟨g,w',h1,h2,h3,fun hf=>by rw[ht] at hf;cases hf⟩) (fun _=>nE) k
theorem vl.call0{o:Oper}{tl:Nat->Bool}{Ls:List Asrt}{fuel:Nat}{listed:Array Bool}{φ:Prop}{val:Value}{M:List Asrt}(hi:ops[i]?=some o)(hg:gd env ops o=some true)(hd:o.dst=some dd)(ng:Nat.blt dd n=true)(ht:(tl i=true/\(wS (M++Lr) Ls))\/Lc=[])(kA:∀ a w,SS n F Ek env L a w->(execOp a.eval o).run P w = .ok (.enter f vs) w)(hs:Sel L Lc Lr)(hc:∀ w,Hp F Ek w L->Calls P f vs w fun e w'=>e = .returned val/\φ/\Hp (fps Lc) w w' M)(k:φ->WD P n F Ek ops tl Ls QD fuel (listed.setIfInBounds i true) ((dd,val)::env) (M++Lr)):vl P n F Ek ops tl Ls QD fuel listed env L i:=
 vl.forcedCall (G:=Unit) (φ:=fun _=>φ) (val:=fun _=>val) (M:=fun _=>M) hi hg hd ng (ht.imp (fun h=>⟨h.1,fun _=>h.2⟩) id) kA hs
  (fun w h=>(hc w h).mono fun e w'=>by rintro⟨h1,h2,h3⟩;exact⟨(),h1,h2,h3⟩) (fun _ h=>k  h)
theorem vl.call1{o:Oper}{tl:Nat->Bool}{Ls:List Asrt}{fuel:Nat}{listed:Array Bool}{φ:A0->Prop}{val:A0->Value}{M:A0->List Asrt}(hi:ops[i]?=some o)(hg:gd env ops o=some true)(hd:o.dst=some dd)(ng:Nat.blt dd n=true)(ht:(tl i=true/\(∀ x0,wS ((M x0)++Lr) Ls))\/Lc=[])(kA:∀ a w,SS n F Ek env L a w->(execOp a.eval o).run P w = .ok (.enter f vs) w)(hs:Sel L Lc Lr)(hc:∀ w,Hp F Ek w L->Calls P f vs w fun e w'=>∃ x0,e = .returned (val x0)/\(φ x0)/\Hp (fps Lc) w w' (M x0))(k:∀ x0,(φ x0)->WD P n F Ek ops tl Ls QD fuel (listed.setIfInBounds i true) ((dd,val x0)::env) ((M x0)++Lr)):vl P n F Ek ops tl Ls QD fuel listed env L i:=
 vl.forcedCall (G:=A0) (φ:=fun g=>(φ g)) (val:=fun g=>(val g)) (M:=fun g=>(M g)) hi hg hd ng (ht.imp (fun h=>⟨h.1,fun g=>h.2 g⟩) id) kA hs
  (fun w h=>(hc w h).mono fun e w'=>by rintro⟨x0,h1,h2,h3⟩;exact⟨x0,h1,h2,h3⟩) (fun g h=>k g h)
theorem vl.call2{o:Oper}{tl:Nat->Bool}{Ls:List Asrt}{fuel:Nat}{listed:Array Bool}{φ:A0->A1->Prop}{val:A0->A1->Value}{M:A0->A1->List Asrt}(hi:ops[i]?=some o)(hg:gd env ops o=some true)(hd:o.dst=some dd)(ng:Nat.blt dd n=true)(ht:(tl i=true/\(∀ x0 x1,wS ((M x0 x1)++Lr) Ls))\/Lc=[])(kA:∀ a w,SS n F Ek env L a w->(execOp a.eval o).run P w = .ok (.enter f vs) w)(hs:Sel L Lc Lr)(hc:∀ w,Hp F Ek w L->Calls P f vs w fun e w'=>∃ x0 x1,e = .returned (val x0 x1)/\(φ x0 x1)/\Hp (fps Lc) w w' (M x0 x1))(k:∀ x0 x1,(φ x0 x1)->WD P n F Ek ops tl Ls QD fuel (listed.setIfInBounds i true) ((dd,val x0 x1)::env) ((M x0 x1)++Lr)):vl P n F Ek ops tl Ls QD fuel listed env L i:=
 vl.forcedCall (G:=A0×A1) (φ:=fun g=>(φ g.1 g.2)) (val:=fun g=>(val g.1 g.2)) (M:=fun g=>(M g.1 g.2)) hi hg hd ng (ht.imp (fun h=>⟨h.1,fun g=>h.2 g.1 g.2⟩) id) kA hs
  (fun w h=>(hc w h).mono fun e w'=>by rintro⟨x0,x1,h1,h2,h3⟩;exact⟨⟨x0,x1⟩,h1,h2,h3⟩) (fun g h=>k g.1 g.2 h)
theorem vl.call3{o:Oper}{tl:Nat->Bool}{Ls:List Asrt}{fuel:Nat}{listed:Array Bool}{φ:A0->A1->A2->Prop}{val:A0->A1->A2->Value}{M:A0->A1->A2->List Asrt}(hi:ops[i]?=some o)(hg:gd env ops o=some true)(hd:o.dst=some dd)(ng:Nat.blt dd n=true)(ht:(tl i=true/\(∀ x0 x1 x2,wS ((M x0 x1 x2)++Lr) Ls))\/Lc=[])(kA:∀ a w,SS n F Ek env L a w->(execOp a.eval o).run P w = .ok (.enter f vs) w)(hs:Sel L Lc Lr)(hc:∀ w,Hp F Ek w L->Calls P f vs w fun e w'=>∃ x0 x1 x2,e = .returned (val x0 x1 x2)/\(φ x0 x1 x2)/\Hp (fps Lc) w w' (M x0 x1 x2))(k:∀ x0 x1 x2,(φ x0 x1 x2)->WD P n F Ek ops tl Ls QD fuel (listed.setIfInBounds i true) ((dd,val x0 x1 x2)::env) ((M x0 x1 x2)++Lr)):vl P n F Ek ops tl Ls QD fuel listed env L i:=
 vl.forcedCall (G:=A0×A1×A2) (φ:=fun g=>(cu3 φ g)) (val:=fun g=>(cu3 val g)) (M:=fun g=>(cu3 M g)) hi hg hd ng (ht.imp (fun h=>⟨h.1,fun g=>h.2 g.1 g.2.1 g.2.2⟩) id) kA hs
  (fun w h=>(hc w h).mono fun e w'=>by rintro⟨x0,x1,x2,h1,h2,h3⟩;exact⟨⟨x0,x1,x2⟩,h1,h2,h3⟩) (fun g h=>k g.1 g.2.1 g.2.2 h)
theorem vl.call4{o:Oper}{tl:Nat->Bool}{Ls:List Asrt}{fuel:Nat}{listed:Array Bool}{φ:A0->A1->A2->A3->Prop}{val:A0->A1->A2->A3->Value}{M:A0->A1->A2->A3->List Asrt}(hi:ops[i]?=some o)(hg:gd env ops o=some true)(hd:o.dst=some dd)(ng:Nat.blt dd n=true)(ht:(tl i=true/\(∀ x0 x1 x2 x3,wS ((M x0 x1 x2 x3)++Lr) Ls))\/Lc=[])(kA:∀ a w,SS n F Ek env L a w->(execOp a.eval o).run P w = .ok (.enter f vs) w)(hs:Sel L Lc Lr)(hc:∀ w,Hp F Ek w L->Calls P f vs w fun e w'=>∃ x0 x1 x2 x3,e = .returned (val x0 x1 x2 x3)/\(φ x0 x1 x2 x3)/\Hp (fps Lc) w w' (M x0 x1 x2 x3))(k:∀ x0 x1 x2 x3,(φ x0 x1 x2 x3)->WD P n F Ek ops tl Ls QD fuel (listed.setIfInBounds i true) ((dd,val x0 x1 x2 x3)::env) ((M x0 x1 x2 x3)++Lr)):vl P n F Ek ops tl Ls QD fuel listed env L i:=
 vl.forcedCall (G:=A0×A1×A2×A3) (φ:=fun g=>(cu4 φ g)) (val:=fun g=>(cu4 val g)) (M:=fun g=>(cu4 M g)) hi hg hd ng (ht.imp (fun h=>⟨h.1,fun g=>h.2 g.1 g.2.1 g.2.2.1 g.2.2.2⟩) id) kA hs
  (fun w h=>(hc w h).mono fun e w'=>by rintro⟨x0,x1,x2,x3,h1,h2,h3⟩;exact⟨⟨x0,x1,x2,x3⟩,h1,h2,h3⟩) (fun g h=>k g.1 g.2.1 g.2.2.1 g.2.2.2 h)
theorem vl.call5{o:Oper}{tl:Nat->Bool}{Ls:List Asrt}{fuel:Nat}{listed:Array Bool}{φ:A0->A1->A2->A3->A4->Prop}{val:A0->A1->A2->A3->A4->Value}{M:A0->A1->A2->A3->A4->List Asrt}(hi:ops[i]?=some o)(hg:gd env ops o=some true)(hd:o.dst=some dd)(ng:Nat.blt dd n=true)(ht:(tl i=true/\(∀ x0 x1 x2 x3 x4,wS ((M x0 x1 x2 x3 x4)++Lr) Ls))\/Lc=[])(kA:∀ a w,SS n F Ek env L a w->(execOp a.eval o).run P w = .ok (.enter f vs) w)(hs:Sel L Lc Lr)(hc:∀ w,Hp F Ek w L->Calls P f vs w fun e w'=>∃ x0 x1 x2 x3 x4,e = .returned (val x0 x1 x2 x3 x4)/\(φ x0 x1 x2 x3 x4)/\Hp (fps Lc) w w' (M x0 x1 x2 x3 x4))(k:∀ x0 x1 x2 x3 x4,(φ x0 x1 x2 x3 x4)->WD P n F Ek ops tl Ls QD fuel (listed.setIfInBounds i true) ((dd,val x0 x1 x2 x3 x4)::env) ((M x0 x1 x2 x3 x4)++Lr)):vl P n F Ek ops tl Ls QD fuel listed env L i:=
 vl.forcedCall (G:=A0×A1×A2×A3×A4) (φ:=fun g=>(cu5 φ g)) (val:=fun g=>(cu5 val g)) (M:=fun g=>(cu5 M g)) hi hg hd ng (ht.imp (fun h=>⟨h.1,fun g=>h.2 g.1 g.2.1 g.2.2.1 g.2.2.2.1 g.2.2.2.2⟩) id) kA hs
  (fun w h=>(hc w h).mono fun e w'=>by rintro⟨x0,x1,x2,x3,x4,h1,h2,h3⟩;exact⟨⟨x0,x1,x2,x3,x4⟩,h1,h2,h3⟩) (fun g h=>k g.1 g.2.1 g.2.2.1 g.2.2.2.1 g.2.2.2.2 h)
theorem Lw{L' M:List Asrt}{env':List (Nat×Value)}(hs:Sel L L' M)(hr:Restr env env')(k:WD P n F Ek ops tl Ls Q fuel listed env' L'):WD P n F Ek ops tl Ls Q fuel listed env L:=
 fun a w h=>k a w ((h.restr hr).drop hs)
theorem Hh(wi:A0->List (Nat×Value))(L1:A0->List Asrt)(φ:A0->Prop)(ni:Array Bool)(k2:∀ x0,(φ x0)->WD P n F Ek ops tl Ls Q fuel' ni (wi x0) (L1 x0))(k1:(∀ x0,(φ x0)->WD P n F Ek ops tl Ls Q fuel' ni (wi x0) (L1 x0))->WD P n F Ek ops tl Ls Q fuel listed env L):WD P n F Ek ops tl Ls Q fuel listed env L:=k1 k2
theorem De(wi:A0->A1->List (Nat×Value))(L1:A0->A1->List Asrt)(φ:A0->A1->Prop)(ni:Array Bool)(k2:∀ x0 x1,(φ x0 x1)->WD P n F Ek ops tl Ls Q fuel' ni (wi x0 x1) (L1 x0 x1))(k1:(∀ x0 x1,(φ x0 x1)->WD P n F Ek ops tl Ls Q fuel' ni (wi x0 x1) (L1 x0 x1))->WD P n F Ek ops tl Ls Q fuel listed env L):WD P n F Ek ops tl Ls Q fuel listed env L:=k1 k2
theorem Hs(wi:A0->A1->A2->List (Nat×Value))(L1:A0->A1->A2->List Asrt)(φ:A0->A1->A2->Prop)(ni:Array Bool)(k2:∀ x0 x1 x2,(φ x0 x1 x2)->WD P n F Ek ops tl Ls Q fuel' ni (wi x0 x1 x2) (L1 x0 x1 x2))(k1:(∀ x0 x1 x2,(φ x0 x1 x2)->WD P n F Ek ops tl Ls Q fuel' ni (wi x0 x1 x2) (L1 x0 x1 x2))->WD P n F Ek ops tl Ls Q fuel listed env L):WD P n F Ek ops tl Ls Q fuel listed env L:=k1 k2
theorem Hg(wi:A0->A1->A2->A3->List (Nat×Value))(L1:A0->A1->A2->A3->List Asrt)(φ:A0->A1->A2->A3->Prop)(ni:Array Bool)(k2:∀ x0 x1 x2 x3,(φ x0 x1 x2 x3)->WD P n F Ek ops tl Ls Q fuel' ni (wi x0 x1 x2 x3) (L1 x0 x1 x2 x3))(k1:(∀ x0 x1 x2 x3,(φ x0 x1 x2 x3)->WD P n F Ek ops tl Ls Q fuel' ni (wi x0 x1 x2 x3) (L1 x0 x1 x2 x3))->WD P n F Ek ops tl Ls Q fuel listed env L):WD P n F Ek ops tl Ls Q fuel listed env L:=k1 k2
theorem Dz(wi:A0->A1->A2->A3->A4->List (Nat×Value))(L1:A0->A1->A2->A3->A4->List Asrt)(φ:A0->A1->A2->A3->A4->Prop)(ni:Array Bool)(k2:∀ x0 x1 x2 x3 x4,(φ x0 x1 x2 x3 x4)->WD P n F Ek ops tl Ls Q fuel' ni (wi x0 x1 x2 x3 x4) (L1 x0 x1 x2 x3 x4))(k1:(∀ x0 x1 x2 x3 x4,(φ x0 x1 x2 x3 x4)->WD P n F Ek ops tl Ls Q fuel' ni (wi x0 x1 x2 x3 x4) (L1 x0 x1 x2 x3 x4))->WD P n F Ek ops tl Ls Q fuel listed env L):WD P n F Ek ops tl Ls Q fuel listed env L:=k1 k2
theorem H0{A5:Type}(wi:A0->A1->A2->A3->A4->A5->List (Nat×Value))(L1:A0->A1->A2->A3->A4->A5->List Asrt)(φ:A0->A1->A2->A3->A4->A5->Prop)(ni:Array Bool)(k2:∀ x0 x1 x2 x3 x4 x5,(φ x0 x1 x2 x3 x4 x5)->WD P n F Ek ops tl Ls Q fuel' ni (wi x0 x1 x2 x3 x4 x5) (L1 x0 x1 x2 x3 x4 x5))(k1:(∀ x0 x1 x2 x3 x4 x5,(φ x0 x1 x2 x3 x4 x5)->WD P n F Ek ops tl Ls Q fuel' ni (wi x0 x1 x2 x3 x4 x5) (L1 x0 x1 x2 x3 x4 x5))->WD P n F Ek ops tl Ls Q fuel listed env L):WD P n F Ek ops tl Ls Q fuel listed env L:=k1 k2
end
end
section
variable [Rnd]
theorem si:∀ u∈([]:List Value),u.oneCell'=true:=by simp
theorem uv{v:Value}{vs:List Value}[h:Ej v.oneCell' true](t:∀ u∈vs,u.oneCell'=true):∀ u∈v::vs,u.oneCell'=true:=by
 intro u hu
 rcases List.mem_cons.1 hu with rfl | hu
 ·exact h.1
 ·exact t u hu
theorem vm{α:Type}{enc:α->List Value}(h:∀ x,∀ u∈enc x,u.oneCell'=true)(l:List α):∀ u∈l.flatMap enc,u.oneCell'=true:=by
 intro u hu
 obtain⟨x,_,hx⟩:=List.mem_flatMap.1 hu
 exact h x u hx
section
variable {P:Program} {n:Nat} {F:List Nat} {Ek:World} {env:List (Nat×Value)} {L Lc Lr R:List Asrt} {ops:Array Oper} {Q:Exit->Act->World->Prop} {na l:List Oper}
 {dd:Nat} {d:Option Tmp} {ty:TypeId} {pos:String} {after:Array Edge} {g:Option (Nat×Bool)} {x y:Operand} {v u:Value} {t e T:TypeId} {sz by_:Nat}
theorem wY{bo:Option Addr}{k capk:Nat}{news:List Value}{sz':Nat}(hm:Pick L (row (.slice bo k capk) e sz' news) R):∀ w,Hp F Ek w L->news≠[]->∃ A,bo=some A/\∀ j u,news[j]?=some u->w.cell? (A.add j)=some u:=by
 intro w h uQ
 obtain⟨b,hb,hc⟩:=h.cellsRow .nil hm uQ
 exact⟨_,hb,hc.2⟩
theorem WD.nilRow{tl:Nat->Bool}{Ls:List Asrt}{fuel:Nat}{listed:Array Bool}{QD:Act->World->Prop}(e:TypeId)(sz:Nat)(k:WD P n F Ek ops tl Ls QD fuel listed env (row (.slice none 0 0) e sz []::L)):WD P n F Ek ops tl Ls QD fuel listed env L:=fun a w h=>k a w (h.world (h.hp.nilRow e sz))
theorem qW{b off s:Nat}{cs ds:List Value}(hm:Pick L (stb b T cs) R)(hd:(cs.drop off).take s=ds):∀ w,Hp F Ek w L->∀ j u,ds[j]?=some u->w.cell? ((⟨b,off,none⟩:Addr).add j)=some u:=by
 subst hd
 refine Kc hm (fun j u hu=>?_)
 rw[List.getElem?_take] at hu
 split at hu
 ·simpa using hu
 ·cases hu
theorem iZ{ao:Option Addr}{m cap lo hi:Nat}{lx nY:Option Operand}{lv hv:Option Value}(ht:elT P t e sz by_)(hx:eo env x=some (.slice ao m cap))(hl:∀ a w,SS n F Ek env L a w->lx.map a.eval=lv)(hh:∀ a w,SS n F Ek env L a w->nY.map a.eval=hv)(AA:match lv with | none=>lo=0 | some (.int _ q)=>q=lo | _=>False)(Aj:match hv with | none=>hi=m | some (.int _ q)=>q=hi | _=>False)(h1:lo<=hi)(h2:hi<=cap)(h3:hv=none->m<=cap):
  Qt P n F Ek env L ⟨d,.slice t x lx nY none,ty,pos,after,g⟩ (.slice (if cap=lo then ao else ao.map (·.add (lo*sz))) (hi-lo) (cap-lo)):=by
 intro a w h
 obtain⟨inf,z,Bl,hz,nP,_,_⟩:=ht.inf
 have AS:P.underlying t=some (.slice (P.elem t)):=by simp[Program.elem,ht.sl]
 have e1:P.elem t=e:=by simp[Program.elem,ht.sl]
 have hs:(Go.sizeOf (P.elem t)).run P w = .ok sz w:=by simp[Go.sizeOf,typeInfo,e1,Bl,nP]
 simp only[execOp,h.eval hx,hl a w h,hh a w h,Option.map_none]
 rw[Sem.run_bind,run_sliceAt_slice w t _ _ _ _ AS]
 cases lv with
 | none=>
  subst AA
  cases hv with
  | none=>subst Aj;rw[run_slice_all w t ao hi cap AS,hs];simp[sliced]
  | some q=>
   cases q <;> simp only at Aj
   case int k q=>subst Aj;rw[run_slice_h w t ao m cap AS k _ (by omega) (by omega),hs];simp[sliced]
 | some p=>
  cases p <;> simp only at AA
  case int k p=>
   subst AA
   cases hv with
   | none=>subst Aj;rw[run_slice_l w t ao hi cap AS k _ (by omega) (by omega),hs];simp[sliced]
   | some q=>
    cases q <;> simp only at Aj
    case int k' q=>subst Aj;rw[run_slice_lh w t ao m cap AS k k' _ _ (by omega) (by omega) (by omega),hs];simp[sliced]
theorem gU.call{w:World}{A:Addr}{cs:List Value}(h:gU F Ek A cs)(hp:Hp F Ek w L)(hs:Sel L Lc Lr)(uQ:cs≠[]):gU (fps Lc) w A cs:=h.at hp hs.fps uQ
end
end
section
variable {α:Type}{m cap:Nat}{cs:List Value}
variable [Rnd]
theorem vB{b k:Nat}:(⟨b,0,none⟩:Addr).add k=⟨b,k,none⟩:=by rw[Addr.add_lit,Nat.zero_add]
theorem YL{α:Type}{enc:α->List Value}{sz:Nat}(hl:∀ x,(enc x).length=sz):∀(l:List α) (i:Nat),i<=l.length->(l.flatMap enc).drop (i*sz)=(l.drop i).flatMap enc
 | _,0,_=>by simp
 | [],i+1,h=>by simp at h
 | x::l,i+1,h=>by
  rw[List.flatMap_cons,Nat.succ_mul,Nat.add_comm,<- hl x,<- List.drop_drop,List.drop_left,hl x]
  simpa using YL hl l i (by simpa using h)
theorem YM{α:Type}{enc:α->List Value}{sz:Nat}(hl:∀ x,(enc x).length=sz):∀(l:List α) (i:Nat),i<=l.length->(l.flatMap enc).take (i*sz)=(l.take i).flatMap enc
 | _,0,_=>by simp
 | [],i+1,h=>by simp at h
 | x::l,i+1,h=>by
  rw[List.flatMap_cons,Nat.succ_mul,Nat.add_comm,<- hl x,List.take_length_add_append,hl x,YM hl l i (by simpa using h)]
  simp
theorem tL{enc:α->List Value}{sz:Nat}(hl:∀ x,(enc x).length=sz)(l:List α):(l.flatMap enc).length=l.length*sz:=by
 induction l with
 | nil=>simp
 | cons x l ih=>rw[List.flatMap_cons,List.length_append,hl,ih,List.length_cons,Nat.succ_mul,Nat.add_comm]
theorem qm[Inhabited α]{enc:α->List Value}{sz:Nat}(hl:∀ x,(enc x).length=sz){l:List α}{i:Int}(h0:0<=i)(h1:i<l.length):
  ∀(j:Nat) (u:Value),(enc (nth l i))[j]?=some u->(l.flatMap enc)[i.toNat*sz+j]?=some u:=by
 intro j u hu
 have hi:i.toNat<l.length:=by omega
 rw[<- List.getElem?_drop,YL hl l i.toNat (by omega),List.drop_eq_getElem_cons hi,List.flatMap_cons,ti h0 h1]
 rw[List.getElem?_append_left (List.getElem?_eq_some_iff.1 hu).1]
 exact hu
theorem d9[Inhabited α]{enc:α->List Value}{sz:Nat}(hl:∀ x,(enc x).length=sz){l:List α}{i:Int}{y:α}{k:Nat}{vs:List Value}(h0:0<=i)(h1:i<l.length)[hy:Ej (mf (enc (nth l i)) k vs) (enc y)](hk:k+vs.length<=sz):mf (l.flatMap enc) (i.toNat*sz+k) vs=(l.set i.toNat y).flatMap enc:=by
 have hy:=hy.1
 have hi:i.toNat<l.length:=by omega
 obtain⟨m,rfl⟩:∃ m:Nat,i=m:=⟨i.toNat,by omega⟩
 simp only[Int.toNat_natCast] at *
 have e1:l=l.take m++nth l (m:Int)::l.drop (m+1):=by
  rw[<- ti (Int.natCast_nonneg m) h1]
  simp
 have nj:(l.take m).length=m:=by simp;omega
 have e2:l.set m y=l.take m++y::l.drop (m+1):=by
  rw[List.set_eq_take_append_cons_drop,if_pos hi]
 have e3:((l.take m).flatMap enc).length=m*sz:=by rw[tL hl,nj]
 rw[e2,List.flatMap_append,List.flatMap_cons,<- hy]
 have e4:l.flatMap enc=(l.take m).flatMap enc++(enc (nth l (m:Int))++(l.drop (m+1)).flatMap enc):=by
  conv=>lhs;rw[e1,List.flatMap_append,List.flatMap_cons]
 rw[e4]
 unfold mf
 have hz:(enc (nth l (m:Int))).length=sz:=hl _
 rw[<- e3,List.take_length_add_append,List.take_append_of_le_length (by omega),Nat.add_assoc,List.drop_length_add_append,List.drop_append_of_le_length (by omega)]
 simp[List.append_assoc]
def Vv(F:List Nat)(w w':World):Prop:=w.heap.size<=w'.heap.size/\∀ k,k<w.heap.size->k∉F->w'.heap[k]?=w.heap[k]?
theorem Vv.refl(F:List Nat)(w:World):Vv F w w:=⟨Nat.le_refl _,fun _ _ _=>rfl⟩
theorem Vv.trans{F:List Nat}{a b c:World}(h:Vv F a b)(k:Vv [] b c):Vv F a c:=
 ⟨Nat.le_trans h.1 k.1,fun i hi hf=>(k.2 i (Nat.lt_of_lt_of_le hi h.1) (by simp)).trans (h.2 i hi hf)⟩
section
variable {P:Program} {n:Nat} {F:List Nat} {Ek:World} {env:List (Nat×Value)} {L Lc Lr R:List Asrt} {ops:Array Oper} {Q:Exit->Act->World->Prop} {na l:List Oper}
 {dd:Nat} {d:Option Tmp} {ty:TypeId} {pos:String} {after:Array Edge} {g:Option (Nat×Bool)} {x y:Operand} {v u:Value} {t e T:TypeId} {sz by_:Nat}
theorem Hp.vr{w:World}{ao:Option Addr}(hm:Pick L (row (.slice ao m cap) e sz cs) R)(h:Hp F Ek w L)(uQ:m≠0):∃ b,ao=some ⟨b,0,none⟩:=by
 rcases(h.rowShape hm).2.2.2 with⟨_,h0,_⟩ | h0
 ·exact absurd h0 uQ
 ·exact h0
theorem JQ{b i c:Nat}{ao:Option Addr}{ds:List Value}{z:Value}(ht:elT P t e sz by_)(hz:vk P e z)(hx:eo env x=some (.slice ao (m-i) c))(hao:ao=(if cap=i then some ⟨b,0,none⟩ else(some ⟨b,0,none⟩:Option Addr).map (·.add (i*sz))))(hi:i<=m)(h1:∀ u∈(Builtin.zeroCells z.cells (m-i)).toList,u.oneCell'=true)(hm:Pick L (row (.slice (some ⟨b,0,none⟩) m cap) e sz cs) R)(zZ:cs.take (i*sz)++(Builtin.zeroCells z.cells (m-i)).toList=ds):
  Yh P n F Ek env L ⟨none,.call ⟨.builtin .clear,#[x],#[t]⟩,ty,pos,after,g⟩ (row (.slice (some ⟨b,0,none⟩) m cap) e sz ds::R):=by
 intro a w h
 obtain⟨wK,BR,_,_⟩:=h.hp.rowShape hm
 obtain⟨inf,z',Bq,nd,nP,_,Az⟩:=ht.inf
 have hzz:z=z':=by
  have:=congrFun hz w
  simp[zeroValue,typeInfo,Bq,nd] at this
  exact this.symm
 have hzl:(Builtin.zeroCells z.cells (m-i)).toList.length=(m-i)*sz:=by rw[hzz];simp[size_zeroCells,Az]
 have hmi:m*sz=i*sz+(m-i)*sz:=by rw[<- Nat.add_mul];congr 1;omega
 by_cases h0:m-i=0
 ·refine⟨w,.inr ⟨.tuple #[],?_⟩,?_⟩
  ·have nY:eo env x=some (.slice ao 0 c):=by rw[hx,h0]
   cases ao <;> simp[execOp,h.eval nY,resolve,invoke,builtin,Builtin.clear_,run_underlying ht.sl]
  ·have:ds=cs:=by
    rw[<- zZ,h0]
    have:m=i:=by omega
    subst this
    simp[Builtin.zeroCells,<- wK]
   rw[this];exact h.hp.front hm
 ·have uQ:cap≠i:=by omega
  simp only[uQ,if_false,Option.map_some,vB] at hao
  subst hao
  obtain⟨w',nE,hp⟩:=h.hp.rowPut (P:=P) (vs:=(Builtin.zeroCells z.cells (m-i)).toList) (off:=i*sz) h1 hm (by omega)
  refine⟨w',.inr ⟨.tuple #[],?_⟩,?_⟩
  ·have hzr:=congrFun hz w
   obtain⟨j,hj⟩:∃ j,m-i=j+1:=⟨m-i-1,by omega⟩
   rw[hj] at hx nE
   simp[execOp,h.eval hx,resolve,invoke,builtin,Builtin.clear_,run_underlying ht.sl,hzr,nE]
  ·have:mf cs (i*sz) (Builtin.zeroCells z.cells (m-i)).toList=ds:=by
    rw[<- zZ,mf,List.drop_eq_nil_of_le (by omega),List.append_nil]
   rw[<- this];exact hp
theorem H7{b i:Nat}{nY:Operand}{kk:IntKind}{q:Int}(hg:gd env ops ⟨some dd,.slice t x none (some nY) none,ty,pos,after,g⟩=some true)(ng:Nat.blt dd n=true)(ht:elT P t e sz by_)(hx:eo env x=some (.slice (some ⟨b,0,none⟩) m cap))(hh:eo env nY=some (.int kk q))(hm:Pick L (row (.slice (some ⟨b,0,none⟩) m cap) e sz cs) R)(hq:q=i)(hi:i<=m)(k:WL P n F Ek ops Q na ((dd,.slice (some ⟨b,0,none⟩) i cap)::env) (row (.slice (some ⟨b,0,none⟩) i cap) e sz (cs.take (i*sz))::R)):
  WL P n F Ek ops Q (⟨some dd,.slice t x none (some nY) none,ty,pos,after,g⟩::na) env L:=by
 refine Es (fun w h=>h.rowShape hm) fun hs=>?_
 obtain⟨wK,BR,Cx,_⟩:=hs
 have hv:(if cap=0 then(some ⟨b,0,none⟩:Option Addr) else(some ⟨b,0,none⟩:Option Addr).map (·.add (0*sz)))=some ⟨b,0,none⟩:=by split <;> simp[Addr.add]
 refine Hr hg rfl ng (iZ (lo:=0) (hi:=i) ht hx (lv:=none) (hv:=some (.int kk q)) (fun _ _ _=>rfl) (fun a w h=>by rw[Option.map_some,h.eval hh]) rfl hq (by omega) (by omega) (by simp)) ?_
 rw[hv,Nat.sub_zero,Nat.sub_zero]
 intro a w h
 refine k a w (h.world ((h.hp.front hm).upd (x:=row (.slice (some ⟨b,0,none⟩) m cap) e sz cs) (y:=row (.slice (some ⟨b,0,none⟩) i cap) e sz (cs.take (i*sz))) .here rfl ⟨rfl,Nat.le_refl _⟩ rfl (Nat.le_refl _) (fun _ _ _=>rfl) ?_ ?_))
 ·obtain⟨m',e',iA⟩:=h.hp.ok _ hm.mem
  rcases iA.2 with⟨zC,_⟩ | ⟨b0,tP,nZ,zC,BF,BT,z6,zI,zL,zM⟩
  ·cases zC
  injection zC with e1 e2 e3
  injection e1 with e1
  injection e1 with e1
  subst e1 e2 e3
  have hmi:i*sz<=m*sz:=Nat.mul_le_mul_right _ hi
  refine⟨i,_,by simp;omega,.inr ⟨b,cap,nZ,rfl,BF,BT,by omega,zI,zL,?_⟩⟩
  rw[<- zM,List.take_take];congr 1;omega
 ·intro b' hb'
  simp[row,Value.ownBlock] at hb'
  subst hb'
  have:=h.hp.lt _ hm.mem b' (by simp[row,Value.ownBlock])
  exact⟨this,.inl (by simp[row,Value.ownBlock])⟩
end
end
section
variable [Rnd]
theorem bi{α:Type}{enc:α->List Value}{sz:Nat}(hl:∀ x,(enc x).length=sz)(nP:0<sz):∀(l:List α) (i:Nat),(l.flatMap enc)[i]?=(l[i / sz]?).bind (fun x=>(enc x)[i % sz]?)
 | [],i=>by simp
 | x::l,i=>by
  rw[List.flatMap_cons]
  by_cases h:i<sz
  ·rw[List.getElem?_append_left (by rw[hl];exact h),Nat.div_eq_of_lt h,Nat.mod_eq_of_lt h]
   simp
  ·rw[List.getElem?_append_right (by rw[hl];omega),hl,bi hl nP l]
   have h1:i / sz=(i-sz) / sz+1:=by rw[Nat.div_eq_sub_div nP (by omega)]
   have h2:i % sz=(i-sz) % sz:=by rw[Nat.mod_eq_sub_mod (by omega)]
   rw[h1,h2]
   simp
theorem ca{α:Type}{enc:α->List Value}{sz:Nat}{z0:α}{zc:Array Value}(hl:∀ x,(enc x).length=sz)(nP:0<sz)(hz:zc=(enc z0).toArray)(k:Nat):
  (Builtin.zeroCells zc k).toList=(List.replicate k z0).flatMap enc:=by
 subst hz
 apply List.ext_getElem?
 intro i
 rw[bi hl nP]
 simp only[Builtin.zeroCells,Array.getElem?_toList,Array.getElem?_map,List.size_toArray,hl,List.getElem?_replicate]
 have hm:i % sz<sz:=Nat.mod_lt _ nP
 by_cases h:i<k*sz
 ·have h1:i / sz<k:=(Nat.div_lt_iff_lt_mul nP).2 h
  have h2:(Array.range (k*sz))[i]?=some i:=by simp[h]
  rw[h2,if_pos h1]
  have h3:i % sz<(enc z0).length:=by rw[hl];exact hm
  simp[h3]
 ·have h1:¬i / sz<k:=fun hc=>h ((Nat.div_lt_iff_lt_mul nP).1 hc)
  have h2:(Array.range (k*sz))[i]?=none:=by simp;omega
  rw[h2,if_neg h1];rfl
theorem Me{α:Type}{enc:α->List Value}{sz:Nat}{z0:α}{zc:Array Value}{k:Nat}(hl:∀ x,(enc x).length=sz)(nP:0<sz)(hz:zc=(enc z0).toArray)(ho:∀ x,∀ u∈enc x,u.oneCell'=true):
  ∀ u∈(Builtin.zeroCells zc k).toList,u.oneCell'=true:=by
 rw[ca hl nP hz];exact vm ho _
section
variable {P:Program} {n:Nat} {F:List Nat} {Ek:World} {env:List (Nat×Value)} {L Lc Lr R:List Asrt} {ops:Array Oper} {Q:Exit->Act->World->Prop} {na l:List Oper}
 {dd:Nat} {d:Option Tmp} {ty:TypeId} {pos:String} {after:Array Edge} {g:Option (Nat×Bool)} {x y:Operand} {v u:Value} {t e T:TypeId} {sz by_:Nat}
end
end
end Sep
namespace Sep
open Go Go.RowKit Go.ChangeShapes Go.WideShapes Go.ChangeAt
section
variable {W:World}{α:Type}{sz:Nat}{v:Value}
variable [Rnd]
section
variable {H:Type} {enc:TypeId×Value->H} {P:Program}
theorem Yi(hl:laidOutB P=true){W W':World}(hb:Below W.heap.size W W'):∀ {ts:List TypeId} {vs:List Value} {ds:List (DataW H)} {p:List MemPlace},
  (∀ t∈ts,P.readableRec t=true/\t<P.types.size)->DataW.TrodAll enc P W 0 (fun _=>true) true ts vs ds p->(∀ x∈p,x.block<W.heap.size)->
  DataW.TrodAll enc P W' 0 (fun b=>decide (b<W.heap.size)) true ts vs ds p
 | [],_,_,_,_,h,_=>by obtain⟨rfl,rfl,rfl⟩:=trodAll_nil h;exact trodAll_mk0
 | t::ts,_,_,_,hr,h,tW=>by
  obtain⟨v,vs',d,ds',p,q,rfl,rfl,rfl,h1,h2⟩:=trodAll_cons h
  have ht:=hr t (by simp)
  exact trodAll_cons_mk (Below.trod hl ht.1 ht.2 h1 hb (fun x hx=>tW x (List.mem_append_left _ hx)))
   (Yi hl hb (fun t' h'=>hr t' (List.mem_cons_of_mem _ h')) h2 (fun x hx=>tW x (List.mem_append_right _ hx)))
theorem Ge{f:Func}{s:ChangeSpec}{Cy:Bool}{W':World}{args:Array Value}{ds gs:List (DataW H)}{zd:List MemPlace}{tb:TypeId}(hl:laidOutB P=true)(vj:(f.params.toList.all fun t=>P.readableRec t&&decide (t<P.types.size))=true)(hv:s.vars=[])(hrt:f.resultTypes = #[tb])(hub:P.underlying tb=some .bool)(hW:DataW.Whole enc P f.params.toList s.vars false W args.toList ds gs zd)(hres:gs=[]->(s.fn H (ds++gs)).results=[.lit (.bool true)]/\(s.fn H (ds++gs)).args=ds/\(s.fn H (ds++gs)).vars=[])(hb:Below W.heap.size W W'):
  s.post enc P f false Cy false false W args (.bool true) W':=by
 have hp:∀ t∈f.params.toList,P.readableRec t=true/\t<P.types.size:=by
  intro t ht
  have:=List.all_eq_true.1 vj t ht
  simpa using this
 have Cc:=hW
 obtain⟨p,q,hA,hV,hpq,hfz,hnd⟩:=hW
 have tW:=Cc.lt
 rw[hv] at hV
 obtain⟨rfl,rfl⟩:=trodVars_none hV
 obtain⟨h1,h2,h3⟩:=hres rfl
 have hbp:zd=p:=by simpa using hpq
 subst hbp
 refine⟨ds,[],zd,[],zd,[],Cc,?_,?_,?_,?_,fun h=>by cases h⟩
 ·rw[h1]
  rw[show f.resultTypes.toList=[tb] by rw[hrt],show(Value.bool true).resultList f.resultTypes.size=[Value.bool true] by rw[hrt];rfl]
  exact trodAll_mk1 (shut_bool hub _)
 ·rw[h2];exact Yi hl hb hp hA tW
 ·rw[h3,hv];rfl
 ·exact hb.frame _
theorem KD{Pr:List Value->α->Prop}{tV:Nat->Bool}{wv:Bool}{t e:TypeId}{fuel:Nat}{x:DataW H×List MemPlace}(ht:P.underlying t=some (.slice e))(hc:P.cellsOf e=sz)(nP:0<sz)(hel:∀ n cs y,DataW.trod enc P W 0 tV wv n e cs=some y->cs.length=sz->∃ a:α,Pr cs a)(hv:∃ a len cap,v = .slice a len cap)(h:DataW.trod enc P W 0 tV wv fuel t v.cells.toList=some x):
  ∃(ao:Option Addr) (m cap:Nat) (l:List α),v = .slice ao m cap/\sS [] W v sz Pr l/\l.length<=maxLen:=by
 obtain⟨ao,m,cap,rfl⟩:=hv
 rcases DataW.trod_slice ht h with⟨h0,-⟩ | ⟨a,len,tP,BG,na,n,_,h0,-,-,AU,hm,nj,hels,-,-⟩
 ·simp[Value.cells] at h0
  obtain⟨rfl,rfl,rfl⟩:=h0
  exact⟨none,0,0,[],rfl,sS.nil _ _ _ _,by simp⟩
 ·simp[Value.cells] at h0
  obtain⟨rfl,rfl,rfl⟩:=h0
  have key:∀ i:Fin m,∃(r:List Value) (b:α),r.length=sz/\(∀ j,j<sz->W.cell? ((a.add (i.val*sz)).add j)=r[j]?)/\Pr r b:=by
   intro ⟨i,hi⟩
   have h1:=hels i hi
   have h2:∃ y,BG[i]?=some y:=⟨BG[i],by simp⟩
   obtain⟨y,hy⟩:=h2
   rw[hy,Option.bind_eq_some_iff] at h1
   obtain⟨cs,zF,Cz⟩:=h1
   obtain⟨-,h3,h4⟩:=World.cells?_some zF
   rw[hc] at h3
   obtain⟨b,hb⟩:=hel n cs y Cz h3
   exact⟨cs,b,h3,fun j hj=>by rw[<- h4 j (by omega),hc],hb⟩
  have key2:∃ g:Fin m->List Value×α,∀ i,(g i).1.length=sz/\(∀ j,j<sz->W.cell? ((a.add (i.val*sz)).add j)=(g i).1[j]?)/\Pr (g i).1 (g i).2:=
   ⟨fun i=>((key i).choose,(key i).choose_spec.choose),fun i=>(key i).choose_spec.choose_spec⟩
  obtain⟨g,hg⟩:=key2
  refine⟨some a,m,cap,(List.finRange m).map fun i=>(g i).2,rfl,⟨(List.finRange m).map fun i=>(g i).1,⟨⟨some a,cap,by simp,by simpa using AU,hm,fun _=>⟨a,rfl,by simp,?_⟩⟩,?_⟩,by simp,?_⟩,by simp;omega⟩
  ·intro j u hu
   have Cw:((List.finRange m).map fun i=>(g i).1).flatten.length=m*sz:=by
    rw[List.length_flatten,List.map_map]
    have:(List.map (List.length ∘ fun i=>(g i).1) (List.finRange m))=List.replicate m sz:=by
     apply List.ext_getElem
     ·simp
     ·intro i h1 h2;simp[(hg _).1]
    rw[this];simp
   have hj:j<m*sz:=by
    have:=(List.getElem?_eq_some_iff.1 hu).1
    omega
   have hq:j / sz<m:=Nat.div_lt_of_lt_mul (by rw[Nat.mul_comm];exact hj)
   have hr:=Nat.mod_lt j nP
   have hrow:((List.finRange m).map fun i=>(g i).1)[j / sz]?=some (g ⟨j / sz,hq⟩).1:=by simp[hq]
   obtain⟨tl,Cs⟩:=bH (sz:=sz) (rows:=(List.finRange m).map fun i=>(g i).1) (fun r hr=>by
    obtain⟨i,_,rfl⟩:=List.mem_map.1 hr;exact(hg i).1) hrow
   have e1:j=j / sz*sz+j % sz:=by rw[Nat.mul_comm];exact(Nat.div_add_mod j sz).symm
   have e2:((List.finRange m).map fun i=>(g i).1).flatten[j]?=(g ⟨j / sz,hq⟩).1[j % sz]?:=by
    have:=congrArg (fun z=>z[j % sz]?) Cs
    simp only[List.getElem?_drop] at this
    rw[<- e1] at this
    rw[this,List.getElem?_append_left (by rw[(hg _).1];exact hr)]
   have h3:=(hg ⟨j / sz,hq⟩).2.1 (j % sz) hr
   rw[<- e2,hu] at h3
   rw[<- h3,Addr.sh,<- e1]
  ·intro r hr
   obtain⟨i,_,rfl⟩:=List.mem_map.1 hr
   exact(hg i).1
  ·intro i r x h1 h2
   simp only[List.getElem?_map,Option.map_eq_some_iff] at h1 h2
   obtain⟨k,hk,rfl⟩:=h1
   obtain⟨k',zD,rfl⟩:=h2
   rw[hk] at zD
   cases zD
   exact(hg k).2.2
theorem Vw{Pr:List Value->α->Prop}{tV:Nat->Bool}{wv:Bool}{t e:TypeId}{base:Nat}{d:DataW H}{ps:List MemPlace}(ht:P.underlying t=some (.slice e))(hc:P.cellsOf e=sz)(nP:0<sz)(hel:∀ n cs y,DataW.trod enc P W 0 tV wv n e cs=some y->cs.length=sz->∃ a:α,Pr cs a)(BE:Value.okWide P W .any base t v)(h:DataW.Trod enc P W 0 tV wv t v d ps):
  ∃(ao:Option Addr) (m cap:Nat) (l:List α),v = .slice ao m cap/\sS [] W (.slice ao m cap) sz Pr l/\l.length<=maxLen:=by
 obtain⟨fuel,hf⟩:=h
 obtain⟨ao,m,cap,l,rfl,h1,h2⟩:=KD ht hc nP hel (okWide_slice ht BE) hf
 exact⟨ao,m,cap,l,rfl,h1,h2⟩
theorem sS.all{F:List Nat}{w:World}{Pr:List Value->α->Prop}{l:List α}{q:α->Prop}(h:sS F w v sz Pr l)(hq:∀ r x,Pr r x->q x):∀ x∈l,q x:=by
 obtain⟨rows,_,hl,hP⟩:=h
 intro x hx
 obtain⟨i,hi,rfl⟩:=List.getElem_of_mem hx
 exact hq _ _ (hP i rows[i] l[i] (by simp) (by simp))
end
end
end Sep

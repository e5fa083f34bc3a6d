/- A part of this claim's proof: memory that is never written again, as a pool of blocks. No conditions. -/
import Derived.Test.YthjnhebofpebpaaGreatSepCore
import Derived.Laws.MakeOwn
import Derived.Test.YthjnhebofpebpaaGreatSepFrame
import Derived.RangeFuncLeaves
import Derived.Lib.AppendZeros
import Derived.Shelf.SlSortCmp.PdqK
set_option linter.all false
namespace Sep
open Go Go.RowKit
section
variable {cs ds:List Value}{α:Type}{sz:Nat}{A:Addr}{x:Asrt}
variable [Rnd]
/-! ### memory that is never written again: a pool of blocks -/
abbrev Zp:=List (Nat×Obj)
def sR(Z:Zp)(w:World):Prop:=∀ p∈Z,w.heap[p.1]?=some p.2
def PZ(F:List Nat)(w₀:World)(Z:Zp):Prop:=sR Z w₀/\∀ p∈Z,p.1∉F
def fz(Z:Zp):Asrt where
 fp:=Z.map (·.1)
 ok w:=sR Z w
 loc w w' h hl hk:=fun p hp=>by rw[h p.1 (List.mem_map.2 ⟨p,hp,rfl⟩) (hl p.1 (List.mem_map.2 ⟨p,hp,rfl⟩))];exact hk p hp
def ZC(Z:Zp)(A:Addr)(cs:List Value):Prop:=∀ w,sR Z w->∀ j u,cs[j]?=some u->w.cell? (A.add j)=some u
def xm(Z Z':Zp):Prop:=∀ w,sR Z' w->sR Z w
def ZA(Z:Zp)(x:Asrt):Prop:=∀ w,sR Z w->x.ok w
theorem xm.refl(Z:Zp):xm Z Z:=fun _ h=>h
theorem xm.trans{a b c:Zp}(h:xm a b)(k:xm b c):xm a c:=fun w hw=>h w (k w hw)
theorem xm.left(a b:Zp):xm a (a++b):=fun _ h p hp=>h p (List.mem_append_left _ hp)
theorem zl{a b:Zp}:xm a (a++b):=xm.left a b
theorem xm.right(a b:Zp):xm b (a++b):=fun _ h p hp=>h p (List.mem_append_right _ hp)
theorem sR.app{a b:Zp}{w:World}(h:sR a w)(k:sR b w):sR (a++b) w:=fun p hp=>(List.mem_append.1 hp).elim (h p) (k p)
theorem sR.nil(w:World):sR [] w:=fun _ h=>by cases h
theorem xm.app{a b c:Zp}(h:xm b c):xm (a++b) (a++c):=fun w hw=>((xm.left a c) w hw).app (h w ((xm.right a c) w hw))
theorem ZC.mono{Z Z':Zp}(h:ZC Z A cs)(k:xm Z Z'):ZC Z' A cs:=fun w hw=>h w (k w hw)
theorem ZA.mono{Z Z':Zp}(h:ZA Z x)(k:xm Z Z'):ZA Z' x:=fun w hw=>h w (k w hw)
def PV(F:List Nat)(w₀:World)(L:List Asrt)(Z:Zp):Prop:=∀ w,Hp F w₀ w L->sR Z w
section
variable {F:List Nat} {w₀:World} {L Lc Lr R R':List Asrt} {Z Zn:Zp}
theorem sR.lt{w:World}(h:sR Z w):∀ p∈Z,p.1<w.heap.size:=fun p hp=>(Array.getElem?_eq_some_iff.1 (h p hp)).1
theorem PZ.pv(h:PZ F w₀ Z):PV F w₀ L Z:=fun w hp p hpz=>by
 rw[hp.block p.1 (h.1.lt p hpz) (h.2 p hpz)];exact h.1 p hpz
theorem PZ.pv2(h:PZ F w₀ Z)(hm:Pick L (fz Zn) R):PV F w₀ L (Z++Zn):=fun w hp=>(h.pv w hp).app (hp.ok _ hm.mem)
theorem PZ.call{w:World}(h:PZ F w₀ Z)(hp:Hp F w₀ w L)(hs:Sel L Lc Lr):PZ (fps Lc) w Z:=
 ⟨h.pv w hp,fun p hpz hb=>by
  obtain⟨x,hx,zC⟩:=hs.fps _ hb
  rcases hp.ow x hx _ zC with h1 | h1
  ·exact h.2 p hpz h1
  ·have:=h.1.lt p hpz;omega⟩
theorem Hp.apart{w:World}(hp:Hp F w₀ w L)(hs:Sel L Lc Lr)(hm:x∈Lr):∀ b∈x.fp,b∉fps Lc:=by
 intro b hb hc
 obtain⟨y,hy,xn⟩:=List.mem_flatMap.1 hc
 have h0:(Lc++Lr).Pairwise fun x y=>∀ b∈x.fp,b∉y.fp:=
  (List.Perm.pairwise_iff (fun {x y} hxy b hb hc=>hxy b hc hb) hs.perm).1 hp.sep
 exact(List.pairwise_append.1 h0).2.2 y hy _ hm b xn hb
theorem PZ.call2{w:World}(h:PZ F w₀ Z)(hp:Hp F w₀ w L)(hs:Sel L Lc Lr)(hm:Pick Lr (fz Zn) R):PZ (fps Lc) w (Z++Zn):=by
 have h1:=h.call hp hs
 refine⟨h1.1.app (hp.ok _ (hs.memr hm.mem)),fun p hpz=>?_⟩
 rcases List.mem_append.1 hpz with hpz | hpz
 ·exact h1.2 p hpz
 ·exact hp.apart hs hm.mem _ (List.mem_map.2 ⟨p,hpz,rfl⟩)
def ot(w:World)(bs:List Nat):Zp:=bs.filterMap fun b=>(w.heap[b]?).map fun o=>(b,o)
theorem Y1(w:World)(bs:List Nat):sR (ot w bs) w:=by
 intro p hp
 obtain⟨b,_,hb⟩:=List.mem_filterMap.1 hp
 simp only[Option.map_eq_some_iff] at hb
 obtain⟨o,ho,rfl⟩:=hb
 exact ho
theorem cD{w:World}{bs:List Nat}{p:Nat×Obj}(hp:p∈ot w bs):p.1∈bs:=by
 obtain⟨b,hb,hq⟩:=List.mem_filterMap.1 hp
 simp only[Option.map_eq_some_iff] at hq
 obtain⟨o,ho,rfl⟩:=hq
 exact hb
theorem cE{w w':World}{bs:List Nat}{b:Nat}(h:sR (ot w bs) w')(hb:b∈bs)(hl:b<w.heap.size):w'.heap[b]?=w.heap[b]?:=by
 have h1:w.heap[b]?=some w.heap[b]:=Array.getElem?_eq_getElem hl
 rw[h1]
 exact h (b,w.heap[b]) (List.mem_filterMap.2 ⟨b,hb,by rw[h1];rfl⟩)
theorem PZ.lend{w:World}{B:List Asrt}(h:PZ (fps Lc) w Z)(hp:Hp F w₀ w L)(hs:Sel L Lc Lr)(hb:∀ x∈B,x∈Lr):PZ (fps Lc) w (Z++ot w (fps B)):=by
 refine⟨h.1.app (Y1 _ _),fun p hpz=>?_⟩
 rcases List.mem_append.1 hpz with hpz | hpz
 ·exact h.2 p hpz
 ·obtain⟨x,hx,zC⟩:=List.mem_flatMap.1 (cD hpz)
  exact hp.apart hs (hb x hx) _ zC
theorem Hp.lent{w:World}{B:List Asrt}(hp:Hp F w₀ w L)(hs:Sel L Lc Lr)(hb:∀ x∈B,x∈Lr)(hx:x∈B)(Z:Zp):ZA (Z++ot w (fps B)) x:=by
 intro w' mT
 have h1:=(xm.right Z _) w' mT
 have hm:=hs.memr (hb x hx)
 exact x.loc w w' (fun b zC hl=>cE h1 (List.mem_flatMap.2 ⟨x,hx,zC⟩) hl) (hp.lt x hm) (hp.ok x hm)
theorem Hp.pool{w:World}(h:Hp F w₀ w L):Hp F w₀ w (fz []::L):=
 h.add (sR.nil w) (by simp[fz]) (by simp[fz]) (by simp[fz])
theorem Sel.d9{α:Type}(x y:α):∀ R:List α,Sel (x::y::R) R [x,y]
 | [] => .nil
 | z::R => .cons (.there (.there .here)) (Sel.d9 x y R)
theorem Hp.freeze{w:World}(hm:Pick L x R)(hz:Pick R (fz Zn) R')(h:Hp F w₀ w L):∃ lI,xm Zn lI/\ZA lI x/\Hp F w₀ w (fz lI::R'):=by
 have h1:Hp F w₀ w (x::fz Zn::R'):=h.sub (.cons hm (.cons hz .all))
 have hx:=h1.lt x (by simp)
 refine⟨ot w x.fp++Zn,xm.right _ _,fun w' mT=>?_,?_⟩
 ·exact x.loc w w' (fun b hb hl=>cE ((xm.left _ _) w' mT) hb hl) hx (h1.ok x (by simp))
 ·have hR:=h1.sub (L':=R') (M:=x::fz Zn::[]) ?_
  ·refine hR.add (x:=fz (ot w x.fp++Zn)) ((Y1 _ _).app (h1.ok (fz Zn) (by simp))) ?_ ?_ ?_
   all_goals
    simp only[fz,List.map_append,List.mem_append]
   ·rintro b (hb | hb)
    ·obtain⟨p,hp,rfl⟩:=List.mem_map.1 hb
     exact hx _ (cD hp)
    ·exact h1.lt (fz Zn) (by simp) b hb
   ·rintro b (hb | hb)
    ·obtain⟨p,hp,rfl⟩:=List.mem_map.1 hb
     exact h1.ow x (by simp) _ (cD hp)
    ·exact h1.ow (fz Zn) (by simp) b hb
   ·rintro y hy b (hb | hb) hc
    ·obtain⟨p,hp,rfl⟩:=List.mem_map.1 hb
     exact(List.pairwise_cons.1 h1.sep).1 y (by simp[hy]) _ (cD hp) hc
    ·exact(List.pairwise_cons.1 (List.pairwise_cons.1 h1.sep).2).1 y hy b hb hc
  ·exact Sel.d9 x (fz Zn) R'
theorem Hp.merge{w:World}{Z1 Z2:Zp}(hm:Pick L (fz Z1) R)(hz:Pick R (fz Z2) R')(h:Hp F w₀ w L):Hp F w₀ w (fz (Z2++Z1)::R'):=by
 have h1:Hp F w₀ w (fz Z1::fz Z2::R'):=h.sub (.cons hm (.cons hz .all))
 have hR:=h1.sub (Sel.d9 (fz Z1) (fz Z2) R')
 refine hR.add (x:=fz (Z2++Z1)) ((h1.ok (fz Z2) (by simp)).app (h1.ok (fz Z1) (by simp))) ?_ ?_ ?_
 all_goals simp only[fz,List.map_append,List.mem_append]
 ·rintro b (hb | hb)
  ·exact h1.lt (fz Z2) (by simp) b hb
  ·exact h1.lt (fz Z1) (by simp) b hb
 ·rintro b (hb | hb)
  ·exact h1.ow (fz Z2) (by simp) b hb
  ·exact h1.ow (fz Z1) (by simp) b hb
 ·rintro y hy b (hb | hb) hc
  ·exact(List.pairwise_cons.1 (List.pairwise_cons.1 h1.sep).2).1 y hy b hb hc
  ·exact(List.pairwise_cons.1 h1.sep).1 y (by simp[hy]) b hb hc
end
/-! ### reading -/
theorem ZC.sub{Z:Zp}(h:ZC Z A cs)(k:Nat):ZC Z (A.add k) (cs.drop k):=
 fun w hw j u hu=>by rw[Addr.sj];exact h w hw _ _ (by simpa using hu)
theorem ZC.pre{Z:Zp}(h:ZC Z A (cs++ds)):ZC Z A cs:=
 fun w hw j u hu=>h w hw j u (by
  have hj:j<cs.length:=(List.getElem?_eq_some_iff.1 hu).1
  rw[List.getElem?_append_left hj];exact hu)
theorem ZA.stb{Z:Zp}{b:Nat}{T:TypeId}{cs:List Value}(h:ZA Z (stb b T cs)):ZC Z ⟨b,0,none⟩ cs:=by
 intro w hw j u hu
 have:=iJ.1 (h w hw)
 rw[Addr.add_lit,cell_of_row w b _ _ T (0,0) this]
 simpa using hu
section
variable {F:List Nat} {w₀:World} {L R:List Asrt} {Z:Zp} {v:Value}
theorem q9(pv:PV F w₀ L Z)(hc:ZC Z A cs)(hv:cs[0]?=some v):∀ w,Hp F w₀ w L->w.cell? A=some v:=by
 intro w h
 have:=hc w (pv w h) 0 v hv
 simpa [Addr.add] using this
theorem xM{k:Nat}(pv:PV F w₀ L Z)(hc:ZC Z A cs)(hv:cs[k]?=some v):∀ w,Hp F w₀ w L->w.cell? (A.add k)=some v:=
 fun w h=>hc w (pv w h) k v hv
theorem vQ(pv:PV F w₀ L Z)(hc:ZC Z A cs):∀ w,Hp F w₀ w L->∀ j u,cs[j]?=some u->w.cell? (A.add j)=some u:=fun w h=>hc w (pv w h)
theorem iN{off s:Nat}(pv:PV F w₀ L Z)(hc:ZC Z A cs)(hd:(cs.drop off).take s=ds):∀ w,Hp F w₀ w L->∀ j u,ds[j]?=some u->w.cell? ((A.add off).add j)=some u:=by
 subst hd
 intro w h j u hu
 refine(hc.sub off) w (pv w h) j u ?_
 rw[List.getElem?_take] at hu
 split at hu
 ·exact hu
 ·cases hu
end
/-! ### slices in the pool -/
def RR{α:Type}(sz:Nat)(Pr:List Value->α->Prop)(cs:List Value)(l:List α):Prop:=
 ∃ rows:List (List Value),rows.flatten=cs/\(∀ r∈rows,r.length=sz)/\rows.length=l.length/\∀(i:Nat) (r:List Value) (x:α),rows[i]?=some r->l[i]?=some x->Pr r x
def ZS{α:Type}(Z:Zp)(sz:Nat)(Pr:List Value->α->Prop)(ao:Option Addr)(cap:Nat)(l:List α):Prop:=
 l.length<=cap/\cap<=maxLen/\∃ cs,RR sz Pr cs l/\(l≠[]->∃ A,ao=some A/\ZC Z A cs)
theorem ZS.nil(Z:Zp)(sz:Nat)(Pr:List Value->α->Prop):ZS Z sz Pr none 0 []:=
 ⟨by simp,by simp,[],⟨[],rfl,by simp,rfl,by simp⟩,fun h=>absurd rfl h⟩
theorem ZS.mono{α:Type}{Z Z':Zp}{sz:Nat}{Pr:List Value->α->Prop}{ao:Option Addr}{cap:Nat}{l:List α}(h:ZS Z sz Pr ao cap l)(k:xm Z Z'):ZS Z' sz Pr ao cap l:=by
 obtain⟨h1,h2,cs,h3,h4⟩:=h
 exact⟨h1,h2,cs,h3,fun ov=>let ⟨A,hA,hc⟩:=h4 ov;⟨A,hA,hc.mono k⟩⟩
theorem RR.weak{Pr Pr':List Value->α->Prop}{l:List α}(h:RR sz Pr cs l)(k:∀ r x,Pr r x->Pr' r x):RR sz Pr' cs l:=by
 obtain⟨rows,h1,h2,h3,h4⟩:=h
 exact⟨rows,h1,h2,h3,fun i r x hr hx=>k r x (h4 i r x hr hx)⟩
theorem ZS.weak{α:Type}{Z:Zp}{sz:Nat}{Pr Pr':List Value->α->Prop}{ao:Option Addr}{cap:Nat}{l:List α}(h:ZS Z sz Pr ao cap l)(k:∀ r x,Pr r x->Pr' r x):ZS Z sz Pr' ao cap l:=by
 obtain⟨h1,h2,cs,h3,h4⟩:=h
 exact⟨h1,h2,cs,h3.weak k,h4⟩
theorem RR.flat{enc:α->List Value}(hl:∀ x,(enc x).length=sz)(l:List α):RR sz (fun r x=>r=enc x) (l.flatMap enc) l:=by
 refine⟨l.map enc,by rw[List.flatMap_def],?_,by simp,?_⟩
 ·intro r hr;obtain⟨x,_,rfl⟩:=List.mem_map.1 hr;exact hl x
 ·intro i r x hr hx
  rw[List.getElem?_map,hx] at hr
  simpa using hr.symm
theorem RR.toFlat{enc:α->List Value}{l:List α}(h:RR sz (fun r x=>r=enc x) cs l):cs=l.flatMap enc:=by
 obtain⟨rows,h1,h2,h3,h4⟩:=h
 have hr:rows=l.map enc:=by
  apply List.ext_getElem?
  intro i
  rw[List.getElem?_map]
  cases hx:l[i]? with
  | none=>
   have:rows[i]?=none:=by rw[List.getElem?_eq_none_iff] at hx ⊢;omega
   simp[this]
  | some x=>
   have mO:i<rows.length:=by have:=(List.getElem?_eq_some_iff.1 hx).1;omega
   have:=h4 i _ x (List.getElem?_eq_getElem mO) hx
   rw[List.getElem?_eq_getElem mO,this];rfl
 rw[<- h1,hr,List.flatMap_def]
theorem RR.nil(sz:Nat)(Pr:List Value->α->Prop):RR sz Pr [] []:=⟨[],rfl,by simp,rfl,by simp⟩
theorem RR.one{Pr:List Value->α->Prop}{r:List Value}{x:α}(hl:r.length=sz)(h:Pr r x):RR sz Pr r [x]:=
 ⟨[r],by simp,by simpa using hl,rfl,fun i r' x' hr hx=>by
  cases i with
  | zero=>simp at hr hx;subst hr hx;exact h
  | succ i=>simp at hr⟩
theorem RR.cons{Pr:List Value->α->Prop}{r:List Value}{x:α}{l:List α}(hl:r.length=sz)(h:Pr r x)(t:RR sz Pr cs l):RR sz Pr (r++cs) (x::l):=by
 obtain⟨rows,h1,h2,h3,h4⟩:=t
 refine⟨r::rows,by simp[h1],?_,by simp[h3],?_⟩
 ·intro r' hr;rcases List.mem_cons.1 hr with rfl | hr
  ·exact hl
  ·exact h2 r' hr
 ·intro i r' x' hr hx
  cases i with
  | zero=>simp at hr hx;subst hr hx;exact h
  | succ i=>exact h4 i r' x' (by simpa using hr) (by simpa using hx)
theorem RR.app{Pr:List Value->α->Prop}{l m:List α}(h:RR sz Pr cs l)(k:RR sz Pr ds m):RR sz Pr (cs++ds) (l++m):=by
 obtain⟨r1,a1,a2,a3,a4⟩:=h
 obtain⟨r2,b1,b2,b3,b4⟩:=k
 refine⟨r1++r2,by simp[a1,b1],?_,by simp[a3,b3],?_⟩
 ·intro r hr;rcases List.mem_append.1 hr with hr | hr
  ·exact a2 r hr
  ·exact b2 r hr
 ·intro i r x hr hx
  by_cases hi:i<r1.length
  ·rw[List.getElem?_append_left hi] at hr
   rw[List.getElem?_append_left (by omega)] at hx
   exact a4 i r x hr hx
  ·rw[List.getElem?_append_right (by omega)] at hr
   rw[List.getElem?_append_right (by omega)] at hx
   exact b4 _ r x hr (by rw[a3];exact hx)
theorem RR.len{Pr:List Value->α->Prop}{l:List α}(h:RR sz Pr cs l):cs.length=l.length*sz:=by
 obtain⟨rows,h1,h2,h3,h4⟩:=h
 rw[<- h1,<- h3]
 clear h1 h3 h4
 induction rows with
 | nil=>simp
 | cons r rs ih=>rw[List.flatten_cons,List.length_append,h2 r (by simp),ih (fun r hr=>h2 r (List.mem_cons_of_mem _ hr)),List.length_cons,Nat.succ_mul,Nat.add_comm]
theorem RR.elem[Inhabited α]{Pr:List Value->α->Prop}{l:List α}(h:RR sz Pr cs l){i:Int}(h0:0<=i)(h1:i<l.length):
  ∃ r tl,r.length=sz/\cs.drop (i.toNat*sz)=r++tl/\Pr r (nth l i):=by
 obtain⟨rows,a1,a2,a3,a4⟩:=h
 have BV:i.toNat<rows.length:=by omega
 have hr:rows[i.toNat]?=some rows[i.toNat]:=List.getElem?_eq_getElem BV
 obtain⟨tl,ht⟩:=oI a2 hr
 refine⟨rows[i.toNat],tl,a2 _ (List.getElem_mem BV),by rw[<- a1];exact ht,?_⟩
 rw[<- uH h0 h1]
 exact a4 _ _ _ hr (List.getElem?_eq_getElem (by omega))
theorem ZS.elem{α:Type}[Inhabited α]{Z:Zp}{sz:Nat}{Pr:List Value->α->Prop}{ao:Option Addr}{cap:Nat}{l:List α}(h:ZS Z sz Pr ao cap l){i:Int}(h0:0<=i)(h1:i<l.length):
  ∃ A r,ao=some A/\ZC Z (A.add (i.toNat*sz)) r/\r.length=sz/\Pr r (nth l i):=by
 obtain⟨_,_,cs,h3,h4⟩:=h
 obtain⟨A,hA,hc⟩:=h4 (by rintro rfl;simp at h1;omega)
 obtain⟨r,tl,hr,hd,hP⟩:=h3.elem h0 h1
 have h5:=hc.sub (i.toNat*sz)
 rw[hd] at h5
 exact⟨A,r,hA,h5.pre,hr,hP⟩
theorem da{sz:Nat}:∀(rows:List (List Value)) (k:Nat),(∀ r∈rows,r.length=sz)->k<=rows.length->rows.flatten.drop (k*sz)=(rows.drop k).flatten
 | [],k,_,hk=>by simp at hk;subst hk;simp
 | r::rs,0,_,_=>by simp
 | r::rs,k+1,hr,hk=>by
  have h0:r.length=sz:=hr r (by simp)
  rw[List.flatten_cons,Nat.succ_mul,Nat.add_comm,<- h0,<- List.drop_drop,List.drop_left,h0]
  simpa using da rs k (fun r h=>hr r (List.mem_cons_of_mem _ h)) (by simpa using hk)
theorem ZS.sub{α:Type}{Z:Zp}{sz:Nat}{Pr:List Value->α->Prop}{ao:Option Addr}{cap:Nat}{l:List α}(h:ZS Z sz Pr ao cap l){lo hi:Nat}(h1:lo<=hi)(h2:hi<=l.length):
  ZS Z sz Pr (if cap=lo then ao else ao.map (·.add (lo*sz))) (cap-lo) ((l.take hi).drop lo):=by
 obtain⟨g1,g2,cs,⟨rows,a1,a2,a3,a4⟩,h4⟩:=h
 refine⟨by simp;omega,by omega,((rows.take hi).drop lo).flatten,⟨(rows.take hi).drop lo,rfl,?_,by simp[a3],?_⟩,?_⟩
 ·intro r hr;exact a2 r (List.mem_of_mem_take (List.mem_of_mem_drop hr))
 ·intro i r x hr hx
  simp only[List.getElem?_drop,List.getElem?_take] at hr hx
  split at hr
  ·rename_i mO;simp only[mO,if_true] at hx;exact a4 _ _ _ hr hx
  ·cases hr
 ·intro ov
  have mO:lo<hi:=by
   rcases Nat.lt_or_ge lo hi with h' | h'
   ·exact h'
   ·exact absurd (List.drop_eq_nil_of_le (by simp;omega)) ov
  obtain⟨A,rfl,hc⟩:=h4 (by rintro rfl;simp at h2;omega)
  have xo:cap≠lo:=by omega
  refine⟨A.add (lo*sz),by simp[xo],?_⟩
  have:=hc.sub (lo*sz)
  rw[<- a1,da rows lo a2 (by omega)] at this
  have e:rows.drop lo=(rows.take hi).drop lo++rows.drop hi:=by
   rw[<- List.drop_append_of_le_length (by simp;omega),List.take_append_drop]
  rw[e,List.flatten_append] at this
  exact this.pre
theorem ZA.row{α:Type}{Z:Zp}{sz:Nat}{Pr:List Value->α->Prop}{ao:Option Addr}{cap:Nat}{e:TypeId}{cs:List Value}{l:List α}(h:ZA Z (row (.slice ao l.length cap) e sz cs))(hr:RR sz Pr cs l)(hw:∃ w,sR Z w):ZS Z sz Pr ao cap l:=by
 obtain⟨w,hw⟩:=hw
 obtain⟨n,h1,h2⟩:=h w hw
 rcases h2 with⟨hv,hn⟩ | ⟨b,lO,lL,hv,_,hh,zL,xE,zx,zS⟩
 ·injection hv with e1 e2 e3
  subst e1 e3
  have hl:l=[]:=List.eq_nil_of_length_eq_zero e2
  subst hl
  exact⟨by simp,by simp,cs,hr,fun ov=>absurd rfl ov⟩
 ·injection hv with e1 e2 e3
  subst e1 e3
  refine⟨by omega,xE,cs,hr,fun _=>⟨_,rfl,?_⟩⟩
  intro w' mT j u hu
  obtain⟨n',k1⟩:=h w' mT
  exact World.ownsRow.cells (g:=b) k1 rfl j u hu
end
section
variable {α A0 A1 A2 A3 A4:Type}{cs cs':List Value}{ao bo:Option Addr}{cap bb mU:Nat}{i:Int}{kk:IntKind}{t':TypeId}{ex:Exit}
variable [Rnd]
/-! ### the model's steps -/
def chk{R:Type}(p:Prop)[Decidable p](k:Option R):Option R:=if p then k else none
theorem xq{R:Type}{p:Prop}[Decidable p]{k:Option R}{r:R}(h:chk p k=some r):p/\k=some r:=by
 unfold chk at h;split at h
 ·exact⟨by assumption,h⟩
 ·cases h
theorem xr{R:Type}{p:Prop}[Decidable p]{k:Option R}(h:p):chk p k=k:=if_pos h
theorem z8{A R:Type}{o:Option A}{F:A->Option R}{r:R}(h:o.bind F=some r):∃ x,o=some x/\F x=some r:=Option.bind_eq_some_iff.1 h
theorem q7{R:Type}{b:Bool}{x y:Option R}{r:R}(h:(if b=true then x else y)=some r)(hb:b=true):x=some r:=by rw[if_pos hb] at h;exact h
theorem q8{R:Type}{b:Bool}{x y:Option R}{r:R}(h:(if b=true then x else y)=some r)(hb:b=false):y=some r:=by rw[if_neg (by rw[hb];exact Bool.false_ne_true)] at h;exact h
def g8{R:Type}(K:Option R)(F:Option R->Option R):Option R:=F K
theorem wJ{R:Type}{K:Option R}{F:Option R->Option R}{r:R}(h:g8 K F=some r):∃ k,k=K/\F k=some r:=⟨K,rfl,h⟩
def vk{R A0:Type}(K:A0->Option R)(F:(A0->Option R)->Option R):Option R:=F K
theorem xS{R:Type}{K:A0->Option R}{F:(A0->Option R)->Option R}{r:R}(h:vk K F=some r):∃ k:A0->Option R,(∀ x0,k x0=K x0)/\F k=some r:=⟨K,fun _=>rfl,h⟩
def tZ{R A0 A1:Type}(K:A0->A1->Option R)(F:(A0->A1->Option R)->Option R):Option R:=F K
theorem jE{R:Type}{K:A0->A1->Option R}{F:(A0->A1->Option R)->Option R}{r:R}(h:tZ K F=some r):∃ k:A0->A1->Option R,(∀ x0 x1,k x0 x1=K x0 x1)/\F k=some r:=⟨K,fun _ _=>rfl,h⟩
def Yp{R A0 A1 A2:Type}(K:A0->A1->A2->Option R)(F:(A0->A1->A2->Option R)->Option R):Option R:=F K
theorem l8{R:Type}{K:A0->A1->A2->Option R}{F:(A0->A1->A2->Option R)->Option R}{r:R}(h:Yp K F=some r):∃ k:A0->A1->A2->Option R,(∀ x0 x1 x2,k x0 x1 x2=K x0 x1 x2)/\F k=some r:=⟨K,fun _ _ _=>rfl,h⟩
def jp4{R A0 A1 A2 A3:Type}(K:A0->A1->A2->A3->Option R)(F:(A0->A1->A2->A3->Option R)->Option R):Option R:=F K
theorem Xs{R:Type}{K:A0->A1->A2->A3->Option R}{F:(A0->A1->A2->A3->Option R)->Option R}{r:R}(h:jp4 K F=some r):∃ k:A0->A1->A2->A3->Option R,(∀ x0 x1 x2 x3,k x0 x1 x2 x3=K x0 x1 x2 x3)/\F k=some r:=⟨K,fun _ _ _ _=>rfl,h⟩
def jp5{R A0 A1 A2 A3 A4:Type}(K:A0->A1->A2->A3->A4->Option R)(F:(A0->A1->A2->A3->A4->Option R)->Option R):Option R:=F K
theorem nr{R:Type}{K:A0->A1->A2->A3->A4->Option R}{F:(A0->A1->A2->A3->A4->Option R)->Option R}{r:R}(h:jp5 K F=some r):∃ k:A0->A1->A2->A3->A4->Option R,(∀ x0 x1 x2 x3 x4,k x0 x1 x2 x3 x4=K x0 x1 x2 x3 x4)/\F k=some r:=⟨K,fun _ _ _ _ _=>rfl,h⟩
def jp6{R A0 A1 A2 A3 A4 A5:Type}(K:A0->A1->A2->A3->A4->A5->Option R)(F:(A0->A1->A2->A3->A4->A5->Option R)->Option R):Option R:=F K
theorem JZ{R A5:Type}{K:A0->A1->A2->A3->A4->A5->Option R}{F:(A0->A1->A2->A3->A4->A5->Option R)->Option R}{r:R}(h:jp6 K F=some r):∃ k:A0->A1->A2->A3->A4->A5->Option R,(∀ x0 x1 x2 x3 x4 x5,k x0 x1 x2 x3 x4 x5=K x0 x1 x2 x3 x4 x5)/\F k=some r:=⟨K,fun _ _ _ _ _ _=>rfl,h⟩
def xC:Nat:=18446744073709551616
theorem xN:xC=18446744073709551616:=rfl
def i64(x:Int):Int:=IntKind.wrap .i64 x
def i16(x:Int):Int:=IntKind.wrap .i16 x
def i8(x:Int):Int:=IntKind.wrap .i8 x
def u64(x:Int):Int:=IntKind.wrap .u64 x
def u8(x:Int):Int:=IntKind.wrap .u8 x
theorem xD{x:Int}(h : -9223372036854775808<=x/\x<=9223372036854775807):i64 x=x:=w64 h
section
variable {P:Program} {n:Nat} {F:List Nat} {w₀:World} {env:List (Nat×Value)} {L Lc Lr R R':List Asrt} {eA:Array Oper} {Q:Exit->Act->World->Prop} {ir l:List Oper}
 {dd:Nat} {d:Option Tmp} {ty:TypeId} {pos:String} {after:Array Edge} {g:Option (Nat×Bool)} {x y:Operand} {v u:Value} {t e T:TypeId} {sz rJ:Nat} {Z Zn:Zp}
 {tl:Nat->Bool} {Ls:List Asrt} {fuel:Nat} {listed:Array Bool} {QD:Act->World->Prop}
/-! ### elements of pool slices -/
theorem L0[Inhabited α]{Pr:List Value->α->Prop}{ls:List α}(hg:gd env eA ⟨some dd,.indexAddr t x y,ty,pos,after,g⟩=some true)(kS:Nat.blt dd n=true)(ht:elT P t e sz rJ)(hx:eo env x=some (.slice ao ls.length cap))(hy:eo env y=some (.int kk i))(hs:ZS Z sz Pr ao cap ls)(BW:0<=i/\i<ls.length)(k:∀ A r,ZC Z A r->r.length=sz->Pr r (Sep.nth ls i)->WL P n F w₀ eA Q ir ((dd,.pointer (some A))::env) L):
  WL P n F w₀ eA Q (⟨some dd,.indexAddr t x y,ty,pos,after,g⟩::ir) env L:=by
 obtain⟨A,r,rfl,hc,hl,hp⟩:=hs.elem BW.1 BW.2
 exact WL.a hg rfl kS (w7 ht hx hy BW.1 BW.2 rfl) (k _ r hc hl hp)
theorem L2{j:Nat}[Inhabited α]{Pr:List Value->α->Prop}{ls:List α}(wX:tX eA=true)(hi:eA[j]?=some ⟨some dd,.indexAddr t x y,ty,pos,after,g⟩)(hr:(Region.ready .any eA listed).contains j=true)(hf:uf eA (fun _=>false) listed j=true)(hg:gd env eA ⟨some dd,.indexAddr t x y,ty,pos,after,g⟩=some true)(kS:Nat.blt dd n=true)(ht:elT P t e sz rJ)(hx:eo env x=some (.slice ao ls.length cap))(hy:eo env y=some (.int kk i))(hs:ZS Z sz Pr ao cap ls)(BW:0<=i/\i<ls.length)(k:∀ A r,ZC Z A r->r.length=sz->Pr r (Sep.nth ls i)->WD P n F w₀ eA tl Ls QD fuel (listed.setIfInBounds j true) ((dd,.pointer (some A))::env) L):
  WD P n F w₀ eA tl Ls QD (fuel+1) listed env L:=by
 obtain⟨A,r,rfl,hc,hl,hp⟩:=hs.elem BW.1 BW.2
 exact WD.a wX hi hr hf hg rfl kS (fun _=>w7 ht hx hy BW.1 BW.2 rfl) (k _ r hc hl hp)
/-! ### parts of pool slices -/
theorem WL.zsub{Pr:List Value->α->Prop}{ls CE:List α}{lo hi:Int}{lx hx':Option Operand}{lv hv:Option Value}(hg:gd env eA ⟨some dd,.slice t x lx hx' none,ty,pos,after,g⟩=some true)(kS:Nat.blt dd n=true)(ht:elT P t e sz rJ)(hx:eo env x=some (.slice ao ls.length cap))(hs:ZS Z sz Pr ao cap ls)(hl:∀ a w,SS n F w₀ env L a w->lx.map a.eval=lv)(hh:∀ a w,SS n F w₀ env L a w->hx'.map a.eval=hv)(AP:match lv with | none=>lo=0 | some (.int _ q)=>q=lo | _=>False)(Ak:match hv with | none=>hi=ls.length | some (.int _ q)=>q=hi | _=>False)(hb:0<=lo/\lo<=hi/\hi<=ls.length)(C5:CE=(ls.take hi.toNat).drop lo.toNat)(k:∀ zw lO,ZS Z sz Pr zw lO CE->WL P n F w₀ eA Q ir ((dd,.slice zw CE.length lO)::env) L):
  WL P n F w₀ eA Q (⟨some dd,.slice t x lx hx' none,ty,pos,after,g⟩::ir) env L:=by
 subst C5
 obtain⟨h0,h1,h2⟩:=hb
 have zL:=hs.1
 refine WL.a hg rfl kS (sI (lo:=lo.toNat) (hi:=hi.toNat) ht hx (lv:=lv) (hv:=hv) hl hh ?_ ?_ (by omega) (by omega) (fun _=>zL)) ?_
 ·split at AP
  ·subst AP;rfl
  ·subst AP;simp;omega
  ·cases AP
 ·split at Ak
  ·subst Ak;simp
  ·subst Ak;simp;omega
  ·cases Ak
 have h3:=hs.sub (lo:=lo.toNat) (hi:=hi.toNat) (by omega) (by omega)
 have h4:hi.toNat-lo.toNat=((ls.take hi.toNat).drop lo.toNat).length:=by simp;omega
 rw[h4]
 exact k _ _ h3
theorem WD.zsub{j:Nat}{Pr:List Value->α->Prop}{ls CE:List α}{lo hi:Int}{lx hx':Option Operand}{lv hv:Option Value}(wX:tX eA=true)(BN:eA[j]?=some ⟨some dd,.slice t x lx hx' none,ty,pos,after,g⟩)(hr:(Region.ready .any eA listed).contains j=true)(hf:uf eA (fun _=>false) listed j=true)(hg:gd env eA ⟨some dd,.slice t x lx hx' none,ty,pos,after,g⟩=some true)(kS:Nat.blt dd n=true)(ht:elT P t e sz rJ)(hx:eo env x=some (.slice ao ls.length cap))(hs:ZS Z sz Pr ao cap ls)(hl:∀ w₀ a w,SS n [] w₀ env [] a w->lx.map a.eval=lv)(hh:∀ w₀ a w,SS n [] w₀ env [] a w->hx'.map a.eval=hv)(AP:match lv with | none=>lo=0 | some (.int _ q)=>q=lo | _=>False)(Ak:match hv with | none=>hi=ls.length | some (.int _ q)=>q=hi | _=>False)(hb:0<=lo/\lo<=hi/\hi<=ls.length)(C5:CE=(ls.take hi.toNat).drop lo.toNat)(k:∀ zw lO,ZS Z sz Pr zw lO CE->WD P n F w₀ eA tl Ls QD fuel (listed.setIfInBounds j true) ((dd,.slice zw CE.length lO)::env) L):
  WD P n F w₀ eA tl Ls QD (fuel+1) listed env L:=by
 subst C5
 obtain⟨h0,h1,h2⟩:=hb
 have zL:=hs.1
 refine WD.a wX BN hr hf hg rfl kS (fun w₀=>sI (lo:=lo.toNat) (hi:=hi.toNat) ht hx (lv:=lv) (hv:=hv) (hl w₀) (hh w₀) ?_ ?_ (by omega) (by omega) (fun _=>zL)) ?_
 ·split at AP
  ·subst AP;rfl
  ·subst AP;simp;omega
  ·cases AP
 ·split at Ak
  ·subst Ak;simp
  ·subst Ak;simp;omega
  ·cases Ak
 have h3:=hs.sub (lo:=lo.toNat) (hi:=hi.toNat) (by omega) (by omega)
 have h4:hi.toNat-lo.toNat=((ls.take hi.toNat).drop lo.toNat).length:=by simp;omega
 rw[h4]
 exact k _ _ h3
theorem ixo{z:Operand}(h:eo env z=some v):∀ a w,SS n F w₀ env L a w->(some z).map a.eval=some v:=fun a w hs=>by rw[Option.map_some,hs.eval h]
theorem ixn:∀ a w,SS n F w₀ env L a w->(none:Option Operand).map a.eval=none:=fun _ _ _=>rfl
/-! ### owned slices as_ lists of data -/
theorem Xt{enc:α->List Value}{ls:List α}{sz':Nat}(pv:PV F w₀ L Z)(h:ZS Z sz' (fun r x=>r=enc x) bo mU ls):
  ∀ w,Hp F w₀ w L->ls.flatMap enc≠[]->∃ A,bo=some A/\∀ j u,(ls.flatMap enc)[j]?=some u->w.cell? (A.add j)=some u:=by
 intro w hw ov
 obtain⟨_,_,cs,h3,h4⟩:=h
 obtain⟨A,hA,hc⟩:=h4 (by rintro rfl;simp at ov)
 rw[h3.toFlat] at hc
 exact⟨A,hA,hc w (pv w hw)⟩
theorem vT{enc:α->List Value}{l1 l2:List α}{news:List Value}{dty:TypeId}(ht:elT P t e sz rJ)(hx:eo env x=some (.slice ao l1.length cap))(hy:eo env y=some (.slice bo l2.length mU))(hm:Pick L (row (.slice ao l1.length cap) e sz cs) R)(iS:∀ x,(enc x).length=sz)(CA:cs=l1.flatMap enc)(hn:news=l2.flatMap enc)(zm:∀ w,Hp F w₀ w L->news≠[]->∃ A,bo=some A/\∀ j u,news[j]?=some u->w.cell? (A.add j)=some u)(h1:∀ u∈news,u.oneCell'=true)(hb:((l1++l2).length:Int)*rJ<=140737488355328/\((l1++l2).length:Int)<=4611686018427387904):
  Ef P n F w₀ env L ⟨d,.call ⟨.builtin .append,#[x,y],#[t,t]⟩,dty,pos,after,g⟩ (fun _:Option Addr×Nat=>True) (fun p => .slice p.1 (l1++l2).length p.2) (fun p=>row (.slice p.1 (l1++l2).length p.2) e sz ((l1++l2).flatMap enc)::R):=by
 subst CA hn
 have:=Xp (n:=n) (dty:=dty) (d:=d) (pos:=pos) (after:=after) (g:=g) ht hx hy hm (by rw[sm iS]) zm h1 (by simp[maxLen] at *;omega) (by rw[List.length_append] at hb;omega)
 rw[List.length_append,List.flatMap_append]
 exact this
theorem sn{Pr:List Value->α->Prop}{l1 l2:List α}{news:List Value}{dty:TypeId}(ht:elT P t e sz rJ)(hx:eo env x=some (.slice ao l1.length cap))(hy:eo env y=some (.slice bo l2.length mU))(hm:Pick L (row (.slice ao l1.length cap) e sz cs) R)(hn:RR sz Pr news l2)(zm:∀ w,Hp F w₀ w L->news≠[]->∃ A,bo=some A/\∀ j u,news[j]?=some u->w.cell? (A.add j)=some u)(h1:∀ u∈news,u.oneCell'=true)(hb:((l1++l2).length:Int)*rJ<=140737488355328/\((l1++l2).length:Int)<=4611686018427387904):
  Ef P n F w₀ env L ⟨d,.call ⟨.builtin .append,#[x,y],#[t,t]⟩,dty,pos,after,g⟩ (fun _:Option Addr×Nat=>True) (fun p => .slice p.1 (l1++l2).length p.2) (fun p=>row (.slice p.1 (l1++l2).length p.2) e sz (cs++news)::R):=by
 have:=Xp (n:=n) (dty:=dty) (d:=d) (pos:=pos) (after:=after) (g:=g) ht hx hy hm hn.len zm h1 (by simp[maxLen] at *;omega) (by rw[List.length_append] at hb;omega)
 rw[List.length_append]
 exact this
theorem db{l:List α}{z0:α}(h:0<=i/\i<=l.length):(l.take i.toNat++List.replicate (l.length-i.toNat) z0).length=l.length:=by
 simp;omega
theorem WL.QQ{enc:α->List Value}{ls:List α}{hx':Operand}(hg:gd env eA ⟨some dd,.slice t x none (some hx') none,ty,pos,after,g⟩=some true)(kS:Nat.blt dd n=true)(ht:elT P t e sz rJ)(hx:eo env x=some (.slice ao ls.length cap))(hh:eo env hx'=some (.int kk i))(hm:Pick L (row (.slice ao ls.length cap) e sz (ls.flatMap enc)) R)(hl:∀ x,(enc x).length=sz)(hi:0<=i/\i<=ls.length)(k:∀ zw lO,WL P n F w₀ eA Q ir ((dd,.slice zw (ls.take i.toNat).length lO)::env) (row (.slice zw (ls.take i.toNat).length lO) e sz ((ls.take i.toNat).flatMap enc)::R)):
  WL P n F w₀ eA Q (⟨some dd,.slice t x none (some hx') none,ty,pos,after,g⟩::ir) env L:=by
 have iS:(ls.take i.toNat).length=i.toNat:=by simp;omega
 refine WL.know (fun w h=>h.rowShape hm) fun hs=>?_
 obtain⟨xo,Au,C3,hs | ⟨b,rfl⟩⟩:=hs
 ·obtain⟨rfl,h0,rfl⟩:=hs
  have CF:ls=[]:=List.eq_nil_of_length_eq_zero h0
  subst CF
  refine WL.a hg rfl kS (sI (lo:=0) (hi:=0) ht hx (lv:=none) (hv:=some (.int kk i)) (fun _ _ _=>rfl) (fun a w h=>by rw[Option.map_some,h.eval hh]) rfl (by simp at hi;omega) (by omega) (by omega) (by simp)) ?_
  intro a w h
  have:=k none 0 a w
  simp only[List.take_nil,List.length_nil,List.flatMap_nil] at this
  exact this (h.world (h.hp.front hm))
 ·refine WL.rowHi (i:=i.toNat) hg kS ht hx hh hm (by omega) (by omega) ?_
  rw[lU hl ls _ (by omega)]
  have:=k (some ⟨b,0,none⟩) cap
  rw[iS] at this
  exact this
theorem WL.QR{ls:List α}{lx:Operand}(hg:gd env eA ⟨some dd,.slice t x (some lx) none none,ty,pos,after,g⟩=some true)(kS:Nat.blt dd n=true)(ht:elT P t e sz rJ)(hx:eo env x=some (.slice ao ls.length cap))(hh:eo env lx=some (.int kk i))(hm:Pick L (row (.slice ao ls.length cap) e sz cs) R)(hi:0<=i/\i<=ls.length)(k:∀ zw c,zw=(if cap=i.toNat then ao else ao.map (·.add (i.toNat*sz)))->WL P n F w₀ eA Q ir ((dd,.slice zw (ls.length-i.toNat) c)::env) L):
  WL P n F w₀ eA Q (⟨some dd,.slice t x (some lx) none none,ty,pos,after,g⟩::ir) env L:=by
 refine WL.know (fun w h=>h.rowShape hm) fun hs=>?_
 obtain⟨xo,Au,C3,_⟩:=hs
 exact WL.a hg rfl kS (sI (lo:=i.toNat) (hi:=ls.length) ht hx (lv:=some (.int kk i)) (hv:=none) (fun a w h=>by rw[Option.map_some,h.eval hh]) (fun _ _ _=>rfl) (by simp;omega) rfl (by omega) Au (fun _=>Au)) (k _ _ rfl)
theorem Xu{enc:α->List Value}{z0:α}{l:List α}{c:Nat}{zw:Option Addr}{z:Value}(ht:elT P t e sz rJ)(hz:qB P e z)(hx:eo env x=some (.slice zw (l.length-i.toNat) c))(hao:zw=(if cap=i.toNat then ao else ao.map (·.add (i.toNat*sz))))(hi:0<=i/\i<=l.length)(hl:∀ x,(enc x).length=sz)(lK:0<sz)(hzc:z.cells=(enc z0).toArray)(ho:∀ x,∀ u∈enc x,u.oneCell'=true)(hm:Pick L (row (.slice ao l.length cap) e sz (l.flatMap enc)) R):
  d6 P n F w₀ env L ⟨none,.call ⟨.builtin .clear,#[x],#[t]⟩,ty,pos,after,g⟩ (row (.slice ao l.length cap) e sz ((l.take i.toNat++List.replicate (l.length-i.toNat) z0).flatMap enc)::R):=by
 intro a w h
 obtain⟨xo,Au,C3,hs⟩:=h.hp.rowShape hm
 rcases hs with⟨rfl,h0,rfl⟩ | ⟨b,rfl⟩
 ·have CF:l=[]:=List.eq_nil_of_length_eq_zero h0
  subst CF
  have hx':eo env x=some (.slice zw 0 c):=by rw[hx];simp
  refine⟨w,.inr ⟨.tuple #[],?_⟩,by simpa using h.hp.front hm⟩
  cases zw <;> simp[execOp,h.eval hx',resolve,invoke,builtin,Builtin.clear_,run_underlying ht.sl]
 ·exact eV ht hz hx hao (by omega) (Vn hl lK hzc ho) hm (Qc hl lK hzc (by omega)) a w h
/-! ### the pool grows -/
theorem Hp.freezeS{w:World}{Pr:List Value->α->Prop}{ls:List α}(hm:Pick L (row (.slice ao ls.length cap) e sz cs) R)(hz:Pick R (fz Zn) R')(hp:PZ F w₀ Z)(hr:RR sz Pr cs ls)(h:Hp F w₀ w L):
  ∃ lI,xm (Z++Zn) (Z++lI)/\ZS (Z++lI) sz Pr ao cap ls/\Hp F w₀ w (fz lI::R'):=by
 obtain⟨lI,h1,h2,h3⟩:=h.freeze hm hz
 refine⟨lI,h1.app,?_,h3⟩
 exact ZA.row (h2.mono (xm.right _ _)) hr ⟨w,(hp.pv w h3).app (h3.ok (fz lI) (by simp))⟩
theorem Hp.freezeC{w:World}{b:Nat}(hm:Pick L (stb b T cs) R)(hz:Pick R (fz Zn) R')(h:Hp F w₀ w L):
  ∃ lI,xm (Z++Zn) (Z++lI)/\ZC (Z++lI) ⟨b,0,none⟩ cs/\Hp F w₀ w (fz lI::R'):=by
 obtain⟨lI,h1,h2,h3⟩:=h.freeze hm hz
 exact⟨lI,h1.app,(h2.mono (xm.right _ _)).stb,h3⟩
theorem PZ.now{w:World}(h:PZ F w₀ Z)(hp:Hp F w₀ w L):PZ [] w Z:=⟨h.pv w hp,by simp⟩
theorem PZ.le{w:World}{Z Z':Zp}(h:PZ [] w Z')(k:xm Z Z'):PZ [] w Z:=⟨k w h.1,by simp⟩
theorem ZC.part{Z:Zp}{A:Addr}{off s:Nat}{ds:List Value}(h:ZC Z A cs)(hd:(cs.drop off).take s=ds):ZC Z (A.add off) ds:=by
 subst hd
 intro w hw j u hu
 refine(h.sub off) w hw j u ?_
 rw[List.getElem?_take] at hu
 split at hu
 ·exact hu
 ·cases hu
theorem Xv{enc:α->List Value}{sz k s:Nat}(hl:∀ x,(enc x).length=sz){l:List α}(h0:0<=i)(h1:i<l.length)(hk:k+s<=sz):i.toNat*sz+k+s<=(l.flatMap enc).length:=by
 rw[sm hl]
 have h2:(i.toNat+1)*sz<=l.length*sz:=Nat.mul_le_mul_right _ (by omega)
 rw[Nat.succ_mul] at h2
 omega
theorem GA{a b:Bool}{t:TypeId}(ht:P.underlying t=some .bool)(hx:eo env x=some (.bool a))(hy:eo env y=some (.bool b)):Qt P n F w₀ env L ⟨d,.binOp .neq t x y t',ty,pos,after,g⟩ (.bool (a != b)):=by
 intro a' w h;simp[execOp,h.eval hx,h.eval hy,eqGuard_at_bool,run_neq_bool w t a b ht];cases a <;> cases b <;> rfl
structure EqT {α:Type} [DecidableEq α] (P:Program) (t:TypeId) (enc:α->List Value):Prop where
 eq:∀(u v:α) (w:World),(Op.equalIn 10000 t (.agg (enc u).toArray) (.agg (enc v).toArray)).run P w = .ok (decide (u=v)) w
 guard:P.eqGuardType P.depth t=false
theorem pw[DecidableEq α]{enc:α->List Value}{a b:α}{t:TypeId}(ht:EqT P t enc)(hx:eo env x=some (.agg (enc a).toArray))(hy:eo env y=some (.agg (enc b).toArray)):Qt P n F w₀ env L ⟨d,.binOp .eql t x y t',ty,pos,after,g⟩ (.bool (decide (a=b))):=by
 intro a' w h;simp[execOp,h.eval hx,h.eval hy,run_eqGuard_agg w .eql t x y _ _ ht.guard,run_eql_struct,ht.eq a b w]
theorem cF[DecidableEq α]{enc:α->List Value}{a b:α}{t:TypeId}(ht:EqT P t enc)(hx:eo env x=some (.agg (enc a).toArray))(hy:eo env y=some (.agg (enc b).toArray)):Qt P n F w₀ env L ⟨d,.binOp .neq t x y t',ty,pos,after,g⟩ (.bool (decide (a≠b))):=by
 intro a' w h;simp[execOp,h.eval hx,h.eval hy,run_eqGuard_agg w .neq t x y _ _ ht.guard,run_neq_struct,ht.eq a b w]
theorem Y2{r tl:List Value}{k:Nat}(h:cs.drop k=r++tl):∀(j:Nat) (u:Value),r[j]?=some u->cs[k+j]?=some u:=by
 intro j u hu
 rw[<- List.getElem?_drop,h,List.getElem?_append_left (List.getElem?_eq_some_iff.1 hu).1]
 exact hu
theorem px{m m':Nat}(h:m=m'):Value.slice ao m cap = .slice ao m' cap:=by rw[h]
theorem xm.xX(a b c:Zp):xm ((a++b)++c) (a++(b++c)):=by rw[List.append_assoc];exact xm.refl _
theorem WL.freezeS{l:List Oper}{α:Type}{Pr:List Value->α->Prop}{ao:Option Addr}{cap:Nat}{cs:List Value}{ls:List α}(hm:Pick L (row (.slice ao ls.length cap) e sz cs) R)(hz:Pick R (fz Zn) R')(hp:PZ F w₀ Z)(hr:RR sz Pr cs ls)(k:∀ lI,xm (Z++Zn) (Z++lI)->ZS (Z++lI) sz Pr ao cap ls->WL P n F w₀ eA Q l env (fz lI::R')):WL P n F w₀ eA Q l env L:=fun a w h=>by
 obtain⟨lI,h1,h2,h3⟩:=h.hp.freezeS hm hz hp hr
 exact k lI h1 h2 a w (h.world h3)
theorem WL.freezeC{l:List Oper}{bb:Nat}{cs:List Value}(hm:Pick L (stb bb T cs) R)(hz:Pick R (fz Zn) R')(k:∀ lI,xm (Z++Zn) (Z++lI)->ZC (Z++lI) ⟨bb,0,none⟩ cs->WL P n F w₀ eA Q l env (fz lI::R')):WL P n F w₀ eA Q l env L:=fun a w h=>by
 obtain⟨lI,h1,h2,h3⟩:=h.hp.freezeC hm hz
 exact k lI h1 h2 a w (h.world h3)
theorem WL.pool{l:List Oper}(k:WL P n F w₀ eA Q l env (fz []::L)):WL P n F w₀ eA Q l env L:=fun a w h=>k a w (h.world h.hp.pool)
theorem WL.merge{l:List Oper}{Z1 Z2:Zp}(hm:Pick L (fz Z1) R)(hz:Pick R (fz Z2) R')(k:WL P n F w₀ eA Q l env (fz (Z2++Z1)::R')):WL P n F w₀ eA Q l env L:=fun a w h=>k a w (h.world (h.hp.merge hm hz))
theorem WL.relen{l:List Oper}(hm:Pick L (row v e sz cs) R)(h:v=u)(k:WL P n F w₀ eA Q l env (row u e sz cs::R)):WL P n F w₀ eA Q l env L:=by
 subst h
 exact fun a w hs=>k a w (hs.world (hs.hp.front hm))
theorem WL.restb{l:List Oper}(hm:Pick L (stb bb T cs) R)(h:cs=cs')(k:WL P n F w₀ eA Q l env (stb bb T cs'::R)):WL P n F w₀ eA Q l env L:=by
 subst h
 exact fun a w hs=>k a w (hs.world (hs.hp.front hm))
theorem Mh{l:List Oper}{i:Nat}(hv:lk env i=some v)(h:v=u)(k:WL P n F w₀ eA Q l ((i,u)::env) L):WL P n F w₀ eA Q l env L:=by
 subst h
 refine fun a w hs=>k a w ⟨hs.defers,hs.size,fun j x hx=>?_,hs.hp⟩
 simp only[lk] at hx
 by_cases hj:j=i
 ·subst hj;simp at hx;subst hx;exact hs.ev _ _ hv
 ·rw[si hj] at hx;exact hs.ev j x hx
theorem WC.freezeS{cc:Code}{α:Type}{Pr:List Value->α->Prop}{ao:Option Addr}{cap:Nat}{cs:List Value}{ls:List α}(hm:Pick L (row (.slice ao ls.length cap) e sz cs) R)(hz:Pick R (fz Zn) R')(hp:PZ F w₀ Z)(hr:RR sz Pr cs ls)(k:∀ lI,xm (Z++Zn) (Z++lI)->ZS (Z++lI) sz Pr ao cap ls->WC P n F w₀ Q cc env (fz lI::R')):WC P n F w₀ Q cc env L:=fun a w h=>by
 obtain⟨lI,h1,h2,h3⟩:=h.hp.freezeS hm hz hp hr
 exact k lI h1 h2 a w (h.world h3)
theorem WC.freezeC{cc:Code}{bb:Nat}{cs:List Value}(hm:Pick L (stb bb T cs) R)(hz:Pick R (fz Zn) R')(k:∀ lI,xm (Z++Zn) (Z++lI)->ZC (Z++lI) ⟨bb,0,none⟩ cs->WC P n F w₀ Q cc env (fz lI::R')):WC P n F w₀ Q cc env L:=fun a w h=>by
 obtain⟨lI,h1,h2,h3⟩:=h.hp.freezeC hm hz
 exact k lI h1 h2 a w (h.world h3)
theorem WC.pool{cc:Code}(k:WC P n F w₀ Q cc env (fz []::L)):WC P n F w₀ Q cc env L:=fun a w h=>k a w (h.world h.hp.pool)
theorem WC.merge{cc:Code}{Z1 Z2:Zp}(hm:Pick L (fz Z1) R)(hz:Pick R (fz Z2) R')(k:WC P n F w₀ Q cc env (fz (Z2++Z1)::R')):WC P n F w₀ Q cc env L:=fun a w h=>k a w (h.world (h.hp.merge hm hz))
theorem WC.relen{cc:Code}(hm:Pick L (row v e sz cs) R)(h:v=u)(k:WC P n F w₀ Q cc env (row u e sz cs::R)):WC P n F w₀ Q cc env L:=by
 subst h
 exact fun a w hs=>k a w (hs.world (hs.hp.front hm))
theorem WC.restb{cc:Code}(hm:Pick L (stb bb T cs) R)(h:cs=cs')(k:WC P n F w₀ Q cc env (stb bb T cs'::R)):WC P n F w₀ Q cc env L:=by
 subst h
 exact fun a w hs=>k a w (hs.world (hs.hp.front hm))
theorem WC.repin{cc:Code}{i:Nat}(hv:lk env i=some v)(h:v=u)(k:WC P n F w₀ Q cc ((i,u)::env) L):WC P n F w₀ Q cc env L:=by
 subst h
 refine fun a w hs=>k a w ⟨hs.defers,hs.size,fun j x hx=>?_,hs.hp⟩
 simp only[lk] at hx
 by_cases hj:j=i
 ·subst hj;simp at hx;subst hx;exact hs.ev _ _ hv
 ·rw[si hj] at hx;exact hs.ev j x hx
theorem WX.freezeS{ex:Exit}{α:Type}{Pr:List Value->α->Prop}{ao:Option Addr}{cap:Nat}{cs:List Value}{ls:List α}(hm:Pick L (row (.slice ao ls.length cap) e sz cs) R)(hz:Pick R (fz Zn) R')(hp:PZ F w₀ Z)(hr:RR sz Pr cs ls)(k:∀ lI,xm (Z++Zn) (Z++lI)->ZS (Z++lI) sz Pr ao cap ls->WX n F w₀ Q ex env (fz lI::R')):WX n F w₀ Q ex env L:=fun a w h=>by
 obtain⟨lI,h1,h2,h3⟩:=h.hp.freezeS hm hz hp hr
 exact k lI h1 h2 a w (h.world h3)
theorem WX.freezeC{ex:Exit}{bb:Nat}{cs:List Value}(hm:Pick L (stb bb T cs) R)(hz:Pick R (fz Zn) R')(k:∀ lI,xm (Z++Zn) (Z++lI)->ZC (Z++lI) ⟨bb,0,none⟩ cs->WX n F w₀ Q ex env (fz lI::R')):WX n F w₀ Q ex env L:=fun a w h=>by
 obtain⟨lI,h1,h2,h3⟩:=h.hp.freezeC hm hz
 exact k lI h1 h2 a w (h.world h3)
theorem WX.pool{ex:Exit}(k:WX n F w₀ Q ex env (fz []::L)):WX n F w₀ Q ex env L:=fun a w h=>k a w (h.world h.hp.pool)
theorem WX.merge{ex:Exit}{Z1 Z2:Zp}(hm:Pick L (fz Z1) R)(hz:Pick R (fz Z2) R')(k:WX n F w₀ Q ex env (fz (Z2++Z1)::R')):WX n F w₀ Q ex env L:=fun a w h=>k a w (h.world (h.hp.merge hm hz))
theorem WX.relen(hm:Pick L (row v e sz cs) R)(h:v=u)(k:WX n F w₀ Q ex env (row u e sz cs::R)):WX n F w₀ Q ex env L:=by
 subst h
 exact fun a w hs=>k a w (hs.world (hs.hp.front hm))
theorem WX.restb(hm:Pick L (stb bb T cs) R)(h:cs=cs')(k:WX n F w₀ Q ex env (stb bb T cs'::R)):WX n F w₀ Q ex env L:=by
 subst h
 exact fun a w hs=>k a w (hs.world (hs.hp.front hm))
theorem WX.repin{i:Nat}(hv:lk env i=some v)(h:v=u)(k:WX n F w₀ Q ex ((i,u)::env) L):WX n F w₀ Q ex env L:=by
 subst h
 refine fun a w hs=>k a w ⟨hs.defers,hs.size,fun j x hx=>?_,hs.hp⟩
 simp only[lk] at hx
 by_cases hj:j=i
 ·subst hj;simp at hx;subst hx;exact hs.ev _ _ hv
 ·rw[si hj] at hx;exact hs.ev j x hx
theorem WX.nilRow{ex:Exit}(e:TypeId)(sz:Nat)(k:WX n F w₀ Q ex env (row (.slice none 0 0) e sz []::L)):WX n F w₀ Q ex env L:=fun a w h=>k a w (h.world (h.hp.nilRow e sz))
theorem WD.freezeS{α:Type}{Pr:List Value->α->Prop}{ao:Option Addr}{cap:Nat}{cs:List Value}{ls:List α}(hm:Pick L (row (.slice ao ls.length cap) e sz cs) R)(hz:Pick R (fz Zn) R')(hp:PZ F w₀ Z)(hr:RR sz Pr cs ls)(k:∀ lI,xm (Z++Zn) (Z++lI)->ZS (Z++lI) sz Pr ao cap ls->WD P n F w₀ eA tl Ls QD fuel listed env (fz lI::R')):WD P n F w₀ eA tl Ls QD fuel listed env L:=fun a w h=>by
 obtain⟨lI,h1,h2,h3⟩:=h.hp.freezeS hm hz hp hr
 exact k lI h1 h2 a w (h.world h3)
theorem WD.freezeC{bb:Nat}{cs:List Value}(hm:Pick L (stb bb T cs) R)(hz:Pick R (fz Zn) R')(k:∀ lI,xm (Z++Zn) (Z++lI)->ZC (Z++lI) ⟨bb,0,none⟩ cs->WD P n F w₀ eA tl Ls QD fuel listed env (fz lI::R')):WD P n F w₀ eA tl Ls QD fuel listed env L:=fun a w h=>by
 obtain⟨lI,h1,h2,h3⟩:=h.hp.freezeC hm hz
 exact k lI h1 h2 a w (h.world h3)
theorem WD.pool(k:WD P n F w₀ eA tl Ls QD fuel listed env (fz []::L)):WD P n F w₀ eA tl Ls QD fuel listed env L:=fun a w h=>k a w (h.world h.hp.pool)
theorem WD.merge{Z1 Z2:Zp}(hm:Pick L (fz Z1) R)(hz:Pick R (fz Z2) R')(k:WD P n F w₀ eA tl Ls QD fuel listed env (fz (Z2++Z1)::R')):WD P n F w₀ eA tl Ls QD fuel listed env L:=fun a w h=>k a w (h.world (h.hp.merge hm hz))
theorem WD.relen(hm:Pick L (row v e sz cs) R)(h:v=u)(k:WD P n F w₀ eA tl Ls QD fuel listed env (row u e sz cs::R)):WD P n F w₀ eA tl Ls QD fuel listed env L:=by
 subst h
 exact fun a w hs=>k a w (hs.world (hs.hp.front hm))
theorem WD.restb(hm:Pick L (stb bb T cs) R)(h:cs=cs')(k:WD P n F w₀ eA tl Ls QD fuel listed env (stb bb T cs'::R)):WD P n F w₀ eA tl Ls QD fuel listed env L:=by
 subst h
 exact fun a w hs=>k a w (hs.world (hs.hp.front hm))
theorem WD.repin{i:Nat}(hv:lk env i=some v)(h:v=u)(k:WD P n F w₀ eA tl Ls QD fuel listed ((i,u)::env) L):WD P n F w₀ eA tl Ls QD fuel listed env L:=by
 subst h
 refine fun a w hs=>k a w ⟨hs.defers,hs.size,fun j x hx=>?_,hs.hp⟩
 simp only[lk] at hx
 by_cases hj:j=i
 ·subst hj;simp at hx;subst hx;exact hs.ev _ _ hv
 ·rw[si hj] at hx;exact hs.ev j x hx
theorem WC.mid{G:Type}(φ:G->Prop)(hI:G->List (Nat×Value))(LI:G->List Asrt){c:Code}(k1:WC P n F w₀ (Exit.then (fun a w=>∃ g,φ g/\SS n F w₀ (hI g) (LI g) a w) Q) c env L)(k2:∀ g,φ g->WX n F w₀ Q .normal (hI g) (LI g)):WC P n F w₀ Q c env L:=by
 intro a w h
 refine Go.wpIn_mono (k1 a w h) ?_
 intro e a' w' hq
 cases e with
 | normal=>obtain⟨g,sA,hs⟩:=hq;exact k2 g sA a' w' hs
 | _=>exact hq
theorem WC.mid0(φ:Prop)(hI:List (Nat×Value))(LI:List Asrt){c:Code}(k1:WC P n F w₀ (Exit.then (fun a w=>∃ _g:Unit,φ/\SS n F w₀ hI LI a w) Q) c env L)(k2:φ->WX n F w₀ Q .normal hI LI):WC P n F w₀ Q c env L:=
 WC.mid (G:=Unit) (fun _=>φ) (fun _=>hI) (fun _=>LI) k1 (fun _ h=>k2 h)
theorem WC.iO(φ:A0->A1->Prop)(hI:A0->A1->List (Nat×Value))(LI:A0->A1->List Asrt){c:Code}(k1:WC P n F w₀ (Exit.then (fun a w=>∃ g:A0×A1,(φ g.1 g.2)/\SS n F w₀ (hI g.1 g.2) (LI g.1 g.2) a w) Q) c env L)(k2:∀ x0 x1,(φ x0 x1)->WX n F w₀ Q .normal (hI x0 x1) (LI x0 x1)):WC P n F w₀ Q c env L:=
 WC.mid (G:=A0×A1) (fun g=>(φ g.1 g.2)) (fun g=>(hI g.1 g.2)) (fun g=>(LI g.1 g.2)) k1 (fun g h=>k2 g.1 g.2 h)
theorem WC.ei(φ:A0->A1->A2->Prop)(hI:A0->A1->A2->List (Nat×Value))(LI:A0->A1->A2->List Asrt){c:Code}(k1:WC P n F w₀ (Exit.then (fun a w=>∃ g:A0×A1×A2,(cu3 φ g)/\SS n F w₀ (cu3 hI g) (cu3 LI g) a w) Q) c env L)(k2:∀ x0 x1 x2,(φ x0 x1 x2)->WX n F w₀ Q .normal (hI x0 x1 x2) (LI x0 x1 x2)):WC P n F w₀ Q c env L:=
 WC.mid (G:=A0×A1×A2) (fun g=>(cu3 φ g)) (fun g=>(cu3 hI g)) (fun g=>(cu3 LI g)) k1 (fun g h=>k2 g.1 g.2.1 g.2.2 h)
theorem WC.mid4(φ:A0->A1->A2->A3->Prop)(hI:A0->A1->A2->A3->List (Nat×Value))(LI:A0->A1->A2->A3->List Asrt){c:Code}(k1:WC P n F w₀ (Exit.then (fun a w=>∃ g:A0×A1×A2×A3,(cu4 φ g)/\SS n F w₀ (cu4 hI g) (cu4 LI g) a w) Q) c env L)(k2:∀ x0 x1 x2 x3,(φ x0 x1 x2 x3)->WX n F w₀ Q .normal (hI x0 x1 x2 x3) (LI x0 x1 x2 x3)):WC P n F w₀ Q c env L:=
 WC.mid (G:=A0×A1×A2×A3) (fun g=>(cu4 φ g)) (fun g=>(cu4 hI g)) (fun g=>(cu4 LI g)) k1 (fun g h=>k2 g.1 g.2.1 g.2.2.1 g.2.2.2 h)
theorem WC.mid7{A5 A6:Type}(φ:A0->A1->A2->A3->A4->A5->A6->Prop)(hI:A0->A1->A2->A3->A4->A5->A6->List (Nat×Value))(LI:A0->A1->A2->A3->A4->A5->A6->List Asrt){c:Code}(k1:WC P n F w₀ (Exit.then (fun a w=>∃ g:A0×A1×A2×A3×A4×A5×A6,(cu7 φ g)/\SS n F w₀ (cu7 hI g) (cu7 LI g) a w) Q) c env L)(k2:∀ x0 x1 x2 x3 x4 x5 x6,(φ x0 x1 x2 x3 x4 x5 x6)->WX n F w₀ Q .normal (hI x0 x1 x2 x3 x4 x5 x6) (LI x0 x1 x2 x3 x4 x5 x6)):WC P n F w₀ Q c env L:=
 WC.mid (G:=A0×A1×A2×A3×A4×A5×A6) (fun g=>(cu7 φ g)) (fun g=>(cu7 hI g)) (fun g=>(cu7 LI g)) k1 (fun g h=>k2 g.1 g.2.1 g.2.2.1 g.2.2.2.1 g.2.2.2.2.1 g.2.2.2.2.2.1 g.2.2.2.2.2.2 h)
end
theorem cK{R:Type}{p:Prop}[Decidable p]{k:Option R}{r:R}{q:Prop}(h:chk p k=some r)(g:p->k=some r->q):q:=let⟨a,b⟩:=xq h;g a b
theorem bK{A R:Type}{o:Option A}{F:A->Option R}{r:R}{q:Prop}(h:o.bind F=some r)(g:∀ x,o=some x->F x=some r->q):q:=let⟨x,a,b⟩:=z8 h;g x a b
theorem jK0{R:Type}{K:Option R}{F:Option R->Option R}{r:R}{q:Prop}(h:g8 K F=some r)(g:∀ k,k=K->F k=some r->q):q:=let⟨k,a,b⟩:=wJ h;g k a b
theorem jK1{R A0:Type}{K:A0->Option R}{F:(A0->Option R)->Option R}{r:R}{q:Prop}(h:vk K F=some r)(g:∀ k:A0->Option R,(∀ x0,k x0=K x0)->F k=some r->q):q:=let⟨k,a,b⟩:=xS h;g k a b
theorem jK2{R A0 A1:Type}{K:A0->A1->Option R}{F:(A0->A1->Option R)->Option R}{r:R}{q:Prop}(h:tZ K F=some r)(g:∀ k:A0->A1->Option R,(∀ x0 x1,k x0 x1=K x0 x1)->F k=some r->q):q:=let⟨k,a,b⟩:=jE h;g k a b
theorem jK3{R A0 A1 A2:Type}{K:A0->A1->A2->Option R}{F:(A0->A1->A2->Option R)->Option R}{r:R}{q:Prop}(h:Yp K F=some r)(g:∀ k:A0->A1->A2->Option R,(∀ x0 x1 x2,k x0 x1 x2=K x0 x1 x2)->F k=some r->q):q:=let⟨k,a,b⟩:=l8 h;g k a b
theorem jK4{R A0 A1 A2 A3:Type}{K:A0->A1->A2->A3->Option R}{F:(A0->A1->A2->A3->Option R)->Option R}{r:R}{q:Prop}(h:jp4 K F=some r)(g:∀ k:A0->A1->A2->A3->Option R,(∀ x0 x1 x2 x3,k x0 x1 x2 x3=K x0 x1 x2 x3)->F k=some r->q):q:=let⟨k,a,b⟩:=Xs h;g k a b
theorem jK5{R A0 A1 A2 A3 A4:Type}{K:A0->A1->A2->A3->A4->Option R}{F:(A0->A1->A2->A3->A4->Option R)->Option R}{r:R}{q:Prop}(h:jp5 K F=some r)(g:∀ k:A0->A1->A2->A3->A4->Option R,(∀ x0 x1 x2 x3 x4,k x0 x1 x2 x3 x4=K x0 x1 x2 x3 x4)->F k=some r->q):q:=let⟨k,a,b⟩:=nr h;g k a b
theorem jK6{R A0 A1 A2 A3 A4 A5:Type}{K:A0->A1->A2->A3->A4->A5->Option R}{F:(A0->A1->A2->A3->A4->A5->Option R)->Option R}{r:R}{q:Prop}(h:jp6 K F=some r)(g:∀ k:A0->A1->A2->A3->A4->A5->Option R,(∀ x0 x1 x2 x3 x4 x5,k x0 x1 x2 x3 x4 x5=K x0 x1 x2 x3 x4 x5)->F k=some r->q):q:=let⟨k,a,b⟩:=JZ h;g k a b
end
section
/-! ### sorting -/
end
section
variable {α:Type}{i:Int}
variable [Rnd]
/-! ### plain laws of the loops that the library's generic functions make -/
theorem jU[Inhabited α]{l:List α}(h0:0<=i)(h:i<l.length):l.drop i.toNat=nth l i::l.drop (i+1).toNat:=by
 rw[show(i+1).toNat=i.toNat+1 from by omega,List.drop_eq_getElem_cons (by omega),uH h0 h]
theorem ge{l:List α}(h:¬i<l.length):l.drop i.toNat=[]:=List.drop_eq_nil_of_le (by omega)
theorem w4[Inhabited α]{l:List α}(h0:0<=i)(h:i<l.length):nth l i∈l:=by
 rw[<- uH h0 h];exact List.getElem_mem _
theorem take_succ[Inhabited α](l:List α)(h0:0<=i)(h:i<l.length):l.take (i+1).toNat=l.take i.toNat++[nth l i]:=by
 rw[show(i+1).toNat=i.toNat+1 from by omega,List.take_succ_eq_append_getElem (by omega),uH h0 h]
theorem GC{n:Nat}(h0:0<=i)(h:i<n)(hn:(n:Int)<=9223372036854775807):i64 (i+1)=i+1:=xD (by omega)
theorem Qd[Inhabited α]{s:List α}{f:α->Option Bool}{p:α->Bool}{k:Option Int}{L:Nat->Int->Option Int}(hL:∀ n i,L (n+1) i=if decide (i<((s.length:Nat):Int)) then chk ((0:Int)<=i/\i<((s.length:Nat):Int)) ((f (nth s i)).bind fun x=>if x then some i else L n (i64 (i+1))) else k)(hf:∀ x∈s,f x=some (p x))(hs:(s.length:Int)<=9223372036854775807):
  ∀(n:Nat) (i:Int),0<=i->i<=s.length->s.length-i<n->L n i=match (s.drop i.toNat).findIdx? p with | some j=>some (i+j) | none=>k:=by
 intro n
 induction n with
 | zero=>intro i h0 h1 h2;omega
 | succ n ih=>
  intro i h0 h1 h2
  rw[hL]
  by_cases hi:i<s.length
  ·rw[if_pos (by simpa using hi),xr ⟨h0,hi⟩,hf _ (w4 h0 hi),oB,jU h0 hi,List.findIdx?_cons]
   cases hp:p (nth s i)
   ·rw[if_neg (by simp),if_neg (by simp),GC h0 hi hs,ih (i+1) (by omega) (by omega) (by omega)]
    cases List.findIdx? p (s.drop (i+1).toNat) with
    | none=>rfl
    | some j=>simp;omega
   ·simp
  ·rw[if_neg (by simpa using hi),ge hi];rfl
theorem nV[Inhabited α]{s:List α}{f:α->Option Bool}{p:α->Bool}{L:Option Int->Nat->Int->Option Int}(hL:∀ k n i,L k (n+1) i=if decide (i<((s.length:Nat):Int)) then chk ((0:Int)<=i/\i<((s.length:Nat):Int)) ((f (nth s i)).bind fun x=>if x then some i else L k n (i64 (i+1))) else k)(hf:∀ x∈s,f x=some (p x))(hs:(s.length:Int)<=4611686018427387000):
  (g8 (some (-1)) fun k=>L k xC 0)=some (match s.findIdx? p with | some j=>(j:Int) | none => -1):=by
 simp only[g8]
 rw[Qd (hL (some (-1))) hf (by omega) xC 0 (by omega) (by omega) (by rw[xN];omega)]
 simp only[Int.toNat_zero,List.drop_zero]
 cases s.findIdx? p with
 | none=>rfl
 | some j=>simp
theorem bM{s:List α}{p:α->Bool}{o:Option Int}(h:o=some (match s.findIdx? p with | some j=>(j:Int) | none => -1)):(o.bind fun x=>some (decide (x>=0)))=some (s.any p):=by
 rw[h,oB]
 congr 1
 cases hq:s.findIdx? p with
 | none=>
  have:=List.findIdx?_eq_none_iff.1 hq
  simp only[show ¬((-1:Int)>=0) from by omega,decide_false]
  symm
  rw[List.any_eq_false]
  intro x hx;simp[this x hx]
 | some j=>
  obtain⟨hj,hpj,_⟩:=List.findIdx?_eq_some_iff_getElem.1 hq
  simp only[ge_iff_le,Int.natCast_nonneg,decide_true]
  symm
  rw[List.any_eq_true]
  exact⟨s[j],List.getElem_mem _,hpj⟩
/-! ### order statistics -/
end
section
variable {α:Type}{sz fuel:Nat}{iC:Nat->Bool}{ll:Bool}{t:TypeId}
variable [Rnd]
def ZW(W:World):Zp:=ot W (List.range W.heap.size)
theorem ZW_pz(W:World):PZ [] W (ZW W):=⟨Y1 _ _,by simp⟩
theorem G3{W w:World}{A:Addr}{u:Value}(h:sR (ZW W) w)(hc:W.cell? A=some u):w.cell? A=some u:=by
 have mO:=block_lt_of_cell hc
 rw[<- hc]
 exact World.cell?_of_block (cE h (List.mem_range.2 mO) mO)
theorem dc{W:World}{ao:Option Addr}{m cap:Nat}{Pr:List Value->α->Prop}{l:List α}(h:tf [] W (.slice ao m cap) sz Pr l):m=l.length/\ZS (ZW W) sz Pr ao cap l:=by
 refine⟨h.len,?_⟩
 obtain⟨rows,⟨⟨zw,lO,hv,h1,h2,h3⟩,iS⟩,hl,hP⟩:=h
 injection hv with e1 e2 e3
 subst e1 e3
 refine⟨by omega,h2,rows.flatten,⟨rows,rfl,iS,hl,hP⟩,fun ov=>?_⟩
 obtain⟨A,hA,hc⟩:=h3 (by rintro rfl;exact ov (List.eq_nil_of_length_eq_zero (by simpa using hl.symm)))
 exact⟨A,hA,fun w hw j u hu=>G3 hw (hc.2 j u hu)⟩
theorem ZS.all{Z:Zp}{Pr:List Value->α->Prop}{ao:Option Addr}{cap:Nat}{l:List α}{q:α->Prop}(h:ZS Z sz Pr ao cap l)(hq:∀ r x,Pr r x->q x):∀ x∈l,q x:=by
 obtain⟨_,_,cs,⟨rows,_,_,hl,hP⟩,_⟩:=h
 intro x hx
 obtain⟨i,hi,rfl⟩:=List.getElem_of_mem hx
 exact hq _ _ (hP i rows[i] l[i] (by simp) (by simp))
section
variable {H:Type} {enc:TypeId×Value->H} {P:Program} {W:World}
open Go.ChangeShapes Go.WideShapes Go.ChangeAt
variable [Rnd]
theorem xI{base:Nat}{fs:Array Field}{f:Field}{cs:List Value}{x:DataW H×List MemPlace}(i:Nat)(ht:P.underlying t=some (.struct fs))(h:DataW.trod enc P W base iC ll fuel t cs=some x)(BN:fs.toList[i]?=some f):
  ∃ y n,DataW.trod enc P W base iC ll n f.type ((cs.drop f.offset).take (P.cellsOf f.type))=some y:=by
 obtain⟨xs,n,_,rfl,hl,iS,hf⟩:=DataW.trod_struct ht h
 have hi:fs[i]?=some f:=by simpa using BN
 have h1:=hf i f hi
 have h2:i<xs.length:=by rw[iS];exact(Array.getElem?_eq_some_iff.1 hi).1
 exact⟨xs[i],n,by rw[h1];exact List.getElem?_eq_getElem h2⟩
theorem GD{base n:Nat}{fs:Array Field}{v:Value}{x:DataW H×List MemPlace}(zk:Value.okWide P W .any base t v)(hf:DataW.trod enc P W 0 iC ll fuel t v.cells.toList=some x)(ht:P.underlying t=some (.struct fs))(hn:P.cellsOf t=n):
  ∃ cs:List Value,v = .agg cs.toArray/\cs.length=n/\DataW.trod enc P W 0 iC ll fuel t cs=some x:=by
 obtain⟨xs,rfl,hs⟩:=okWide_struct ht zk
 exact⟨xs.toList,by simp,by rw[Array.length_toList,hs,hn],hf⟩
theorem jV{Pr:List Value->α->Prop}{e:TypeId}{cs:List Value}{x:DataW H×List MemPlace}(ht:P.underlying t=some (.slice e))(hc:P.cellsOf e=sz)(lK:0<sz)(Du:∀ n cs y,DataW.trod enc P W 0 iC ll n e cs=some y->cs.length=sz->∃ a:α,Pr cs a)(h:DataW.trod enc P W 0 iC ll fuel t cs=some x):
  ∃(ao:Option Addr) (cap:Nat) (l:List α),cs=[.slice ao l.length cap]/\ZS (ZW W) sz Pr ao cap l/\l.length<=maxLen:=by
 have hv:∃ a len cap,cs=[.slice a len cap]:=by
  rcases DataW.trod_slice ht h with⟨h0,-⟩ | ⟨a,len,lO,Bn,ir,n,_,h0,-⟩
  ·exact⟨none,0,0,h0⟩
  ·exact⟨some a,len,lO,h0⟩
 obtain⟨a,len,cap,rfl⟩:=hv
 obtain⟨ao,m,lO,l,hv,hs,hL⟩:=nU (v := .slice a len cap) ht hc lK Du ⟨a,len,cap,rfl⟩ h
 injection hv with e1 e2 e3
 subst e1 e2 e3
 obtain⟨rfl,hz⟩:=dc hs
 exact⟨a,cap,l,rfl,hz,hL⟩
end
end
section
variable {vs:List Value}
/-! ### many assertions as_ one -/
def vE(L:List Asrt):Asrt where
 fp:=fps L
 ok w:=(∀ x∈L,x.ok w)/\L.Pairwise (fun x y:Asrt=>∀ b∈x.fp,b∉y.fp)
 loc w w' h hl hk:=⟨fun x hx=>x.loc w w' (fun b hb=>h b (List.mem_flatMap.2 ⟨x,hx,hb⟩)) (fun b hb=>hl b (List.mem_flatMap.2 ⟨x,hx,hb⟩)) (hk.1 x hx),hk.2⟩
section
variable {F:List Nat} {w₀ w w':World} {L M R:List Asrt}
theorem Hp.open_(h:Hp F w₀ w (vE M::R)):Hp F w₀ w (M++R):=by
 have h0:=h.ok _ (List.mem_cons_self ..)
 have hs:=List.pairwise_cons.1 h.sep
 refine⟨h.os,h.tape,h.output,h.size,h.block,fun x hx=>?_,fun x hx b hb=>?_,fun x hx b hb=>?_,List.pairwise_append.2 ⟨h0.2,hs.2,fun x hx y hy b hb=>?_⟩⟩
 ·rcases List.mem_append.1 hx with hx | hx
  ·exact h0.1 x hx
  ·exact h.ok x (List.mem_cons_of_mem _ hx)
 ·rcases List.mem_append.1 hx with hx | hx
  ·exact h.lt _ (List.mem_cons_self ..) b (List.mem_flatMap.2 ⟨x,hx,hb⟩)
  ·exact h.lt x (List.mem_cons_of_mem _ hx) b hb
 ·rcases List.mem_append.1 hx with hx | hx
  ·exact h.ow _ (List.mem_cons_self ..) b (List.mem_flatMap.2 ⟨x,hx,hb⟩)
  ·exact h.ow x (List.mem_cons_of_mem _ hx) b hb
 ·exact hs.1 y hy b (List.mem_flatMap.2 ⟨x,hx,hb⟩)
theorem Hp.pS(h:Hp F w₀ w (M++R)):Hp F w₀ w (vE M::R):=by
 obtain⟨h1,h2,h3⟩:=List.pairwise_append.1 h.sep
 have hb:∀ b∈(vE M).fp,∃ x∈M,b∈x.fp:=fun b hb=>List.mem_flatMap.1 hb
 refine⟨h.os,h.tape,h.output,h.size,h.block,fun x hx=>?_,fun x hx b zC=>?_,fun x hx b zC=>?_,List.pairwise_cons.2 ⟨fun y hy b zC=>?_,h2⟩⟩
 ·rcases List.mem_cons.1 hx with rfl | hx
  ·exact⟨fun y hy=>h.ok y (List.mem_append_left _ hy),h1⟩
  ·exact h.ok x (List.mem_append_right _ hx)
 ·rcases List.mem_cons.1 hx with rfl | hx
  ·obtain⟨y,hy,xn⟩:=hb b zC;exact h.lt y (List.mem_append_left _ hy) b xn
  ·exact h.lt x (List.mem_append_right _ hx) b zC
 ·rcases List.mem_cons.1 hx with rfl | hx
  ·obtain⟨y,hy,xn⟩:=hb b zC;exact h.ow y (List.mem_append_left _ hy) b xn
  ·exact h.ow x (List.mem_append_right _ hx) b zC
 ·obtain⟨x,hx,xn⟩:=hb b zC;exact h3 x hx y hy b xn
theorem Hp.pickAll{R':List Asrt}(h:Hp F w₀ w L)(hp:Pick L (vE M) R'):Hp F w₀ w (M++R'):=by
 refine Hp.open_ (h.sub (M:=[]) ?_)
 exact .cons hp Sel.all
theorem Hp.selAll(h:Hp F w₀ w L)(hs:Sel L M R):Hp F w₀ w (vE M::R):=by
 refine Hp.pS ?_
 have:∀ {L M R:List Asrt},Sel L M R->Sel L (M++R) []:=by
  intro L M R h
  induction h with
  | nil=>exact Sel.all
  | cons h _ ih=>exact .cons h ih
 exact h.sub (this hs)
theorem Hp.setBlk{b:Nat}{o o':Obj}(h:Hp F w₀ w L)(hp:Pick L (w5 b o) R):Hp F w₀ (w.putObj b o') (w5 b o'::R):=by
 have h':Hp F w₀ w (w5 b o::R):=h.sub (M:=[]) (.cons hp Sel.all)
 have mO:b<w.heap.size:=h'.lt _ (List.mem_cons_self ..) b (by simp[w5])
 have hb:=(List.pairwise_cons.1 h'.sep).1
 have how:=h'.ow _ (List.mem_cons_self ..) b (by simp[w5])
 have Dv:∀ k,k≠b->(w.putObj b o').heap[k]?=w.heap[k]?:=fun k hk=>World.putObj_heap_other hk
 refine⟨h'.os,⟨h'.tape.t,h'.tape.d⟩,h'.output,by rw[World.putObj_size];exact h'.size,fun k hk hf=>?_,fun x hx=>?_,fun x hx c hc=>?_,fun x hx c hc=>?_,List.pairwise_cons.2 ⟨fun y hy c hc=>hb y hy c hc,(List.pairwise_cons.1 h'.sep).2⟩⟩
 ·rw[Dv k (fun e=>by subst e;rcases how with h1 | h1;exact hf h1;omega)];exact h'.block k hk hf
 ·rcases List.mem_cons.1 hx with rfl | hx
  ·exact World.putObj_heap_same mO
  ·refine x.loc w _ (fun c hc _=>Dv c (fun e=>?_)) (fun c hc=>h'.lt x (List.mem_cons_of_mem _ hx) c hc) (h'.ok x (List.mem_cons_of_mem _ hx))
   exact hb x hx b (by simp[w5]) (e▸hc)
 ·rw[World.putObj_size]
  rcases List.mem_cons.1 hx with rfl | hx
  ·simp[w5] at hc;subst hc;exact mO
  ·exact h'.lt x (List.mem_cons_of_mem _ hx) c hc
 ·rcases List.mem_cons.1 hx with rfl | hx
  ·simp[w5] at hc;subst hc;exact how
  ·exact h'.ow x (List.mem_cons_of_mem _ hx) c hc
end
/-! ### a loop over a function -/
def uI(fn:FuncId)(tmps:Array Value)(ps:List Tmp)(as_ bo:Code)(D:Nat)(st:LoopState)(pe:Option Code):Obj:=
 .loop { state:=st,pending:=pe,fn:=fn,tmps:=tmps,params:=ps.toArray,assign:=as_,body:=bo,defers:=D }
def sa:Option Code->LoopState
 | none => .ready
 | some _ => .done
abbrev Rc:=LoopState->Option Code->Obj
def fY(cs:List Code):Nat->Option Code
 | 0=>none
 | i+1=>cs[i]?
abbrev lV(l:Nat):Rnd:=⟨some l,[]⟩
abbrev mk1(D:Nat):List Deferred:=[{ target := .collected D,args := #[] }]
abbrev mR(D:Nat):Rnd:=⟨none,mk1 D⟩
abbrev jl(D:Nat):Asrt:=w5 D (.deferred (some []))
def df(P:Program)(Z:Zp)(l:Nat){α σ G H:Type}(av:H->α->List Value)(ar:H->α->List Asrt)(Y:α->σ->Option (Bool×σ))(J:G->σ->Asrt)(Φ:G->σ->Prop):Prop:=
 ∀(x:α) (h:H) (g:G) (s:σ) (b:Bool) (s':σ) (w:World),Y x s=some (b,s')->Φ g s->Hp (fps (ar h x++[J g s])) w w (ar h x++[J g s])->PZ (fps (ar h x++[J g s])) w Z->
  ∃ fn tmps as_ bo,(Instr.yield l (av h x).toArray).run P w = .ok (.round l fn tmps as_ bo) w/\
   RoundIn Fence.wide 0 P l fn tmps as_ bo w fun e w'=>∃ g',e = .returned (.bool b)/\Φ g' s'/\Hp (fps (ar h x++[J g s])) w w' [J g' s']
def el:List Tmp->List Value->List (Nat×Value)->List (Nat×Value)
 | p::ps,v::vs,env=>el ps vs ((p,v)::env)
 | _,_,env=>env
theorem Ev.fold:∀(ps:List Tmp) (vs:List Value) (env:List (Nat×Value)) (tmps:Array Value),Ev env tmps->(∀ p∈ps,p<tmps.size)->
  Ev (el ps vs env) ((ps.zip vs).foldl (fun t x=>t.setIfInBounds x.1 x.2) tmps)
 | [],_,_,_,h,_=>by simpa [el] using h
 | _::_,[],_,_,h,_=>by simpa [el] using h
 | p::ps,v::vs,env,tmps,h,hp=>by
  simp only[el,List.zip_cons_cons,List.foldl_cons]
  exact Ev.fold ps vs _ _ (h.put p v (hp p (List.mem_cons_self ..))) (fun q hq=>by simpa using hp q (List.mem_cons_of_mem _ hq))
theorem Yq:∀(ps:List (Tmp×Value)) (tmps:Array Value),(ps.foldl (fun t x=>t.setIfInBounds x.1 x.2) tmps).size=tmps.size
 | [],_=>rfl
 | p::ps,tmps=>by rw[List.foldl_cons,Yq ps];simp
def Xw(P:Program)(l:Nat)(bo:Code)(R:Ending->World->Prop):Exit->Act->World->Prop:=
 Exit.then (fun pf pg=>∃ AN,(Instr.beginRound l).run P pg = .ok () AN/\bo.wpIn (@FN (lV l)) 0 P (roundPost P l R) pf AN) (fun _ _ _=>False)
section
variable {P:Program} {n:Nat} {F:List Nat} {w₀:World} {env:List (Nat×Value)} {L L':List Asrt} {l D:Nat} {R:Ending->World->Prop} {fn:FuncId} {tmps:Array Value} {ps:List Tmp} {as_ bo:Code} {rc:Rc}
theorem lW{Z:Zp}{α σ G H:Type}{av:H->α->List Value}{ar:H->α->List Asrt}{Y:α->σ->Option (Bool×σ)}{LI:G->σ->List Asrt}{pc:σ->Option Code}{Φ:G->σ->Prop}(Dx:rc=uI fn tmps ps as_ bo D)(hev:Ev env tmps)(lK:tmps.size=n)(hl:∀ h x,(av h x).length=ps.length)(C6:∀ p∈ps,p<n)(k:∀ x h g s b s' F w,Y x s=some (b,s')->Φ g s->PZ F w Z->
   @WC (lV l) P n F w (Xw P l bo fun e w'=>∃ g',e = .returned (.bool b)/\Φ g' s'/\Hp F w w' [vE (LI g' s'++[w5 l (rc (sa (pc s')) (pc s'))])]) as_ (el ps (av h x) env)
    (ar h x++(LI g s++[w5 l (rc (sa (pc s)) (pc s))]))):
  df P Z l av ar Y (fun g s=>vE (LI g s++[w5 l (rc (sa (pc s)) (pc s))])) Φ:=by
 subst Dx
 intro x h g s b s' w hY sA hp hz
 have hop:Hp (fps (ar h x++[vE (LI g s++[w5 l (uI fn tmps ps as_ bo D (sa (pc s)) (pc s))])])) w w (ar h x++(LI g s++[w5 l (uI fn tmps ps as_ bo D (sa (pc s)) (pc s))])):=by
  have C7:Pick (ar h x++[vE (LI g s++[w5 l (uI fn tmps ps as_ bo D (sa (pc s)) (pc s))])]) (vE (LI g s++[w5 l (uI fn tmps ps as_ bo D (sa (pc s)) (pc s))])) (ar h x):=by
   generalize ar h x=A
   induction A with
   | nil=>exact .here
   | cons a A ih=>exact .there ih
  have:=hp.pickAll C7
  have wI:∀(A B:List Asrt),Sel (A++B) (B++A) []:=by
   intro A B
   have h1:∀(A B C:List Asrt),Sel (A++B) C []->∀ a,Sel (A++a::B) (a::C) []:=by
    intro A B C h a
    refine .cons ?_ h
    clear h
    induction A with
    | nil=>exact .here
    | cons x A ih=>exact .there ih
   induction B generalizing A with
   | nil=>simpa using Sel.all
   | cons b B ih=>simpa using h1 A B _ (by simpa using ih A) b
  exact this.sub (wI _ _)
 have hb:w.heap[l]?=some (uI fn tmps ps as_ bo D (sa (pc s)) (pc s)):=
  hop.ok (w5 l (uI fn tmps ps as_ bo D (sa (pc s)) (pc s))) (by simp)
 refine⟨_,_,_,_,run_yield hb (by simp[hl]),roundIn_of_wpIn (F := @FN (lV l)) (l:=l) trivial ?_⟩
 refine k x h g s b s' _ w hY sA hz _ w (@SS.mk (lV l) _ _ _ _ _ _ _ rfl ?_ ?_ hop)
 ·have hz:=Yq (ps.zip (av h x)) tmps
  simp only[<- Array.foldl_toList,Array.toList_zip] at *
  simpa [lK] using hz
 ·have hz:=Ev.fold ps (av h x) env tmps hev (fun p hp=>by rw[lK];exact C6 p hp)
  simp only[<- Array.foldl_toList,Array.toList_zip] at *
  simpa using hz
theorem WX.cG(Dx:rc=uI fn tmps ps as_ bo D)(hp:Pick L (w5 l (rc .ready none)) L')(k : @WC (lV l) P n F w₀ (roundPost P l R) bo env (w5 l (rc .busy none)::L')):
  @WX (lV l) n F w₀ (Xw P l bo R) .normal env L:=by
 subst Dx
 letI:Rnd:=lV l
 intro a w h
 have hb:w.heap[l]?=some (uI fn tmps ps as_ bo D .ready none):=h.hp.ok _ hp.mem
 exact⟨_,run_beginRound hb rfl,k a _ (@SS.mk (lV l) _ _ _ _ _ _ _ h.defers h.size h.ev (h.hp.setBlk hp))⟩
theorem WX.tn(Dx:rc=uI fn tmps ps as_ bo D)(hp:Pick L (w5 l (rc .busy none)) L')(k:∀ w',Hp F w₀ w' (w5 l (rc .ready none)::L')->R (.returned (.bool true)) w') : @WX (lV l) n F w₀ (roundPost P l R) .normal env L:=by
 subst Dx
 letI:Rnd:=lV l
 intro a w h
 have hb:w.heap[l]?=some (uI fn tmps ps as_ bo D .busy none):=h.hp.ok _ hp.mem
 exact⟨_,_,run_endRound none hb,k _ (h.hp.setBlk hp)⟩
def WJ(P:Program)(n:Nat)(F:List Nat)(w₀:World)(Q:Exit->Act->World->Prop)(D:Nat)(env:List (Nat×Value))(L:List Asrt):Option Code->Prop
 | none => @WX (mR D) n F w₀ Q .normal env L
 | some c => @WC (mR D) P n F w₀ Q c env L
theorem WC.rangeFunc{g:Operand}{f:FuncId}{caps:List Value}{Q:Exit->Act->World->Prop}(hg:eo env g=some (.func (.func f) #[] caps.toArray))(hcf:∀ args w,(callFunc f args).run P w = .ok (.enter f args) w)(k:∀ fn tmps l D (rc:Rc),rc=uI fn tmps ps as_ bo D->Ev env tmps->tmps.size=n->∀ w,Hp F w₀ w (w5 l (rc .ready none)::jl D::L)->
   Calls P f (.func (.yield l) #[] #[]::caps).toArray w fun e w'=>∃ v pe L',e = .returned v/\Hp F w₀ w' (w5 l (rc (sa pe) pe)::L')/\WJ P n F w₀ Q D env L' pe):
  @WC Rnd.base P n F w₀ Q (.rangeFunc g ps.toArray as_ bo) env L:=by
 intro a w h
 refine wpIn_rangeFunc fun fn _=>?_
 have xv:=(h.hp.alloc (.deferred (some []))).alloc (uI fn a.tmps ps as_ bo w.heap.size .ready none)
 rw[World.size_alloc] at xv
 refine⟨w.heap.size+1,mk1 w.heap.size,_,{ target := .fn (.func f) caps.toArray,args := #[.func (.yield (w.heap.size+1)) #[] #[]] },(w.alloc (.deferred (some []))).alloc (uI fn a.tmps ps as_ bo w.heap.size .ready none),f,(.func (.yield (w.heap.size+1)) #[] #[]::caps).toArray,(w.alloc (.deferred (some []))).alloc (uI fn a.tmps ps as_ bo w.heap.size .ready none),run_enterLoop_outer ..,?_,fun _ _=>trivial,?_,fun h=>by simp[FN] at h,?_⟩
 ·have he:=h.eval hg
  simp only[resolve,rangeCall]
  rw[he]
  simp[Deferred.ofValue,Act.eval,uI]
 ·simp[invoke,hcf]
 ·refine(Vk (k fn a.tmps _ _ _ rfl h.ev h.size _ xv)).mono ?_
  rintro e w' ⟨v,pe,L',rfl,hp,hj⟩
  have hb:w'.heap[w.heap.size+1]?=some (uI fn a.tmps ps as_ bo w.heap.size (sa pe) pe):=hp.ok _ (List.mem_cons_self ..)
  have zU:Hp F w₀ (w'.putObj (w.heap.size+1) (uI fn a.tmps ps as_ bo w.heap.size .exhausted pe)) L':=
   (hp.setBlk (o':=uI fn a.tmps ps as_ bo w.heap.size .exhausted pe) .here).sub (L':=L') (M:=[w5 (w.heap.size+1) (uI fn a.tmps ps as_ bo w.heap.size .exhausted pe)]) (by
    have:∀(x:Asrt) (L:List Asrt),Sel (x::L) L [x]:=by
     intro x L
     induction L with
     | nil=>exact .nil
     | cons y L ih=>exact .cons (.there .here) ih
    exact this _ _)
  refine⟨pe,_,run_endLoop hb (by cases pe <;> simp[sa]),?_⟩
  have hd:a.defers=[]:=h.defers
  cases pe with
  | none=>exact hj _ _ (@SS.mk (mR w.heap.size) _ _ _ _ _ _ _ (by simp[hd];rfl) h.size h.ev zU)
  | some c=>exact hj _ _ (@SS.mk (mR w.heap.size) _ _ _ _ _ _ _ (by simp[hd];rfl) h.size h.ev zU)
end
section
variable {P:Program} {n:Nat} {F:List Nat} {w₀:World} {Q:Exit->Act->World->Prop} {D p i:Nat} {env:List (Nat×Value)} {L:List Asrt} {cs:List Code} {c:Code}
theorem wjN(k : @WX (mR D) n F w₀ Q .normal env L):WJ P n F w₀ Q D env L (fY [] p):=by
 cases p with
 | zero=>exact k
 | succ p=>simpa [fY,WJ] using k
theorem l9{α β:Type}{a b:α}{c d:β}(h:some (a,c)=some (b,d)):a=b/\c=d:=by simpa using h
theorem WC.eqL[Rnd]{c:Code}{L':List Asrt}(h:L=L')(k:WC P n F w₀ Q c env L'):WC P n F w₀ Q c env L:=h▸k
end
/-! the function's end, with the loop's mark -/
section
variable {P:Program} {n:Nat} {F:List Nat} {w₀:World} {env:List (Nat×Value)} {L L':List Asrt} {D:Nat} {R:Ending->World->Prop}
theorem Calls.pP{f:FuncId}{fn:Func}{c:Code}{w:World}{n:Nat}{pre:List Asrt}(hf:P.funcs[f]?=some fn)(hb:fn.body=some c)(hn:fn.ntmps=n)(lK:Nat.ble vs.length n=true)(iq:Hp (fps pre) w w pre)(he:po 0 vs=env)(k : @WC Rnd.base P n (fps pre) w (bodyPostM (@FN Rnd.base) 0 P fn R) c env pre):Calls P f vs.toArray w R:=by
 subst he
 refine Xl (m:=0) (callsIn_of_wp_marks (F := @FN Rnd.base) hf hb trivial (k _ _ (@SS.mk Rnd.base _ _ _ _ _ _ _ rfl ?_ ?_ iq)) rfl)
 ·have:=Nat.le_of_ble_eq_true lK
  simp[hn];omega
 ·intro i v hv
  obtain⟨_,h⟩:=aZ vs 0 i v hv
  have mO:i<vs.length:=by have:=(List.getElem?_eq_some_iff.1 h).1;simpa using this
  rw[Array.getElem?_append_left (by simpa using mO)]
  simpa using h
theorem WX.dg{fn:Func}{rs:List ResultVar}(hr:fn.results=rs.toArray)(hv:ResV P F w₀ env L rs vs)(k:∀ w,Hp F w₀ w L->R (.returned (io vs)) w):
  @WX Rnd.base n F w₀ (bodyPostM (@FN Rnd.base) 0 P fn R) .ret env L:=fun a w h=>by
 have hd:a.defers=[]:=h.defers
 show LeavesInM _ _ _ _ _ _ a.defers _ _
 rw[hd];exact⟨_,hv.run hr h,k w h.hp⟩
theorem WX.sp{fn:Func}{rs:List ResultVar}(hp:Pick L (jl D) L')(hr:fn.results=rs.toArray)(hv:ResV P F w₀ env (w5 D (.deferred none)::L') rs vs)(k:∀ w,Hp F w₀ w (w5 D (.deferred none)::L')->R (.returned (io vs)) w):
  @WX (mR D) n F w₀ (bodyPostM (@FN Rnd.base) 0 P fn R) .ret env L:=fun a w h=>by
 letI:Rnd:=mR D
 have hd:a.defers=mk1 D:=h.defers
 have hb:w.heap[D]?=some (.deferred (some [])):=h.hp.ok _ hp.mem
 show LeavesInM _ _ _ _ _ _ a.defers _ _
 rw[hd]
 have zU:=h.hp.setBlk (o' := .deferred none) hp
 refine⟨by simp,.inl ⟨D,_,rfl,run_takeDeferred hb,?_⟩⟩
 exact⟨_,hv.run hr (@SS.mk (mR D) _ _ _ _ _ _ _ h.defers h.size h.ev zU),k _ zU⟩
end
/-! the iterator's side -/
section
variable [Rnd] {P:Program} {n:Nat} {F:List Nat} {w₀:World} {env:List (Nat×Value)} {L Lr:List Asrt} {eA:Array Oper} {Q:Exit->Act->World->Prop} {ir:List Oper}
 {dd:Nat} {ty:TypeId} {pos:String} {after:Array Edge} {gu:Option (Nat×Bool)}
theorem WL.yield{Z:Zp}{l:Nat}{α σ G H:Type}{av:H->α->List Value}{ar:H->α->List Asrt}{Y:α->σ->Option (Bool×σ)}{J:G->σ->Asrt}{Φ:G->σ->Prop}{c:Operand}{xs:List Operand}{CB:Array TypeId}{x:α}{h:H}{g:G}{s s':σ}{b:Bool}(hY:df P Z l av ar Y J Φ)(hg:gd env eA ⟨some dd,.call ⟨.value c,xs.toArray,CB⟩,ty,pos,after,gu⟩=some true)(kS:Nat.blt dd n=true)(hc:eo env c=some (.func (.yield l) #[] #[]))(he:Eos env xs (av h x))(hs:Sel L (ar h x++[J g s]) Lr)(hb:Y x s=some (b,s'))(sA:Φ g s)(hz:∀ w,Hp F w₀ w L->PZ (fps (ar h x++[J g s])) w Z)(k:∀ g',Φ g' s'->WL P n F w₀ eA Q ir ((dd,.bool b)::env) ([J g' s']++Lr)):
  WL P n F w₀ eA Q (⟨some dd,.call ⟨.value c,xs.toArray,CB⟩,ty,pos,after,gu⟩::ir) env L:=by
 intro a w CG
 refine pR (jL CG hg) ?_
 obtain⟨fn,tmps,as_,bo,hy,hr⟩:=hY x h g s b s' w hb sA (CG.hp.owns hs) (hz w CG.hp)
 refine⟨fun _ _=>trivial,?_⟩
 have hm:=he.map CG
 have iB:(execOp a.eval ⟨some dd,.call ⟨.value c,xs.toArray,CB⟩,ty,pos,after,gu⟩).run P w = .ok (.round l fn tmps as_ bo) w:=by
  simp[execOp,resolve,CG.eval hc,Deferred.ofValue,invoke,hm,hy]
 rw[lQ _ iB (fun d e=>by cases e),Oper.uponIn_round]
 refine⟨fun h=>by simp[FN] at h,RoundIn.mono (F:=FN) (show RoundIn FN 0 P l fn tmps as_ bo w _ from hr) ?_⟩
 rintro e w' ⟨g',rfl,Cu,hp⟩
 exact k g' Cu _ _ (CG.put kS _ (CG.hp.call hs hp))
end
end
section
/-! ### slices of slices that are written in place: the inner slices are owned too -/
abbrev MG(α:Type):=List ((Option Addr×Nat)×List α)
def em{α:Type}(p:(Option Addr×Nat)×List α):List Value:=[.slice p.1.1 p.2.length p.1.2]
section
variable {F:List Nat} {w₀ w:World} {L R R' R'':List Asrt} {e:TypeId} {sz:Nat} {α:Type} {enc:α->List Value} {m:MG α} {l:List (List α)} {i:Int} {Z Zn:Zp}
theorem Hp.perm{M:List Asrt}(h:Hp F w₀ w L)(p:L.Perm M):Hp F w₀ w M:=
 ⟨h.os,h.tape,h.output,h.size,h.block,fun x hx=>h.ok x (p.mem_iff.2 hx),fun x hx=>h.lt x (p.mem_iff.2 hx),fun x hx=>h.ow x (p.mem_iff.2 hx),
  (List.Perm.pairwise_iff (fun {x y} hxy b hb hc=>hxy b hc hb) p).1 h.sep⟩
theorem PZ.left{a b:Zp}{w:World}(h:PZ F w (a++b)):PZ F w a:=⟨fun p hp=>h.1 p (List.mem_append_left _ hp),fun p hp=>h.2 p (List.mem_append_left _ hp)⟩
end
section
variable [Rnd]
variable {P:Program} {n:Nat} {F:List Nat} {w₀:World} {env:List (Nat×Value)} {L R R' R'':List Asrt} {eA:Array Oper} {Q:Exit->Act->World->Prop} {lo:List Oper} {cc:Code} {ex:Exit}
 {e oe:TypeId} {sz:Nat} {α:Type} {enc:α->List Value} {m:MG α} {l:List (List α)} {i:Int} {Z Zn:Zp} {tl:Nat->Bool} {Ls:List Asrt} {fuel:Nat} {listed:Array Bool} {QD:Act->World->Prop}
end
section
variable [Rnd]
variable {P:Program} {n:Nat} {F:List Nat} {w₀:World} {env:List (Nat×Value)} {L:List Asrt} {d:Option Tmp} {ty:TypeId} {pos:String} {after:Array Edge} {g:Option (Nat×Bool)} {x y:Operand} {t t' e:TypeId}
end
/-! ### some cells of a block -/
inductive Ks (cs:List Value):List (Nat×Value)->Prop
 | nil:Ks cs []
 | cons {k:Nat} {v:Value} {ks:List (Nat×Value)} (h:cs[k]?=some v) (t:Ks cs ks):Ks cs ((k,v)::ks)
theorem Ks.get{cs:List Value}{ks:List (Nat×Value)}(h:Ks cs ks):∀ p∈ks,cs[p.1]?=some p.2:=by
 induction h with
 | nil=>intro p hp;cases hp
 | cons h _ ih=>
  intro p hp
  rcases List.mem_cons.1 hp with rfl | hp
  ·exact h
  ·exact ih p hp
def sq(b:Nat)(T:TypeId)(ks:List (Nat×Value)):Asrt where
 fp:=[b]
 ok w:=∃ cs,(stb b T cs).ok w/\Ks cs ks
 loc w w' h hl hk:=by
  obtain⟨cs,h1,h2⟩:=hk
  exact⟨cs,(stb b T cs).loc w w' (by simpa [iK] using h) (by simpa [iK] using hl) h1,h2⟩
theorem Wk.stb{b:Nat}{T:TypeId}{cs:List Value}{ks:List (Nat×Value)}{L M:List Asrt}(h:Ks cs ks)(t:Wk L M):Wk (Sep.stb b T cs::L) (sq b T ks::M):=
 .any rfl (fun _ hk=>⟨cs,hk,h⟩) t
theorem fZ{F:List Nat}{w₀:World}{L R:List Asrt}{b off:Nat}{T:TypeId}{ks:List (Nat×Value)}{v:Value}(hm:Pick L (sq b T ks) R)(hv:(off,v)∈ks):∀ w,Hp F w₀ w L->w.cell? ⟨b,off,none⟩=some v:=by
 intro w h
 obtain⟨cs,h1,h2⟩:=h.ok _ hm.mem
 rw[cell_of_row w b off _ T (0,0) (iJ.1 h1)]
 simpa using h2.get _ hv
end
section
variable {x y:Code}{A1:Type}
section
variable {P:Program} {n:Nat} {F:List Nat} {w₀:World} {env:List (Nat×Value)} {L:List Asrt} {Q:Exit->Act->World->Prop}
theorem WC.cH{G:Type}(D:G->Nat)(φ:G->Prop)(hI:G->List (Nat×Value))(LI:G->List Asrt)(k1 : @WC Rnd.base P n F w₀ (Exit.then (fun a w=>∃ g,φ g /\ @SS (mR (D g)) n F w₀ (hI g) (LI g) a w) Q) x env L)(k2:∀ g,φ g -> @WC (mR (D g)) P n F w₀ Q y (hI g) (LI g)) : @WC Rnd.base P n F w₀ Q (.seq x y) env L:=by
 intro a w h
 refine wpIn_seq (Go.wpIn_mono (k1 a w h) ?_)
 intro e a' w' hq
 cases e with
 | normal=>obtain⟨g,sA,hs⟩:=hq;exact k2 g sA a' w' hs
 | _=>exact hq
theorem WX.midR{G:Type}{D:G->Nat}{φ:G->Prop}{hI:G->List (Nat×Value)}{LI:G->List Asrt}{M:List Asrt}(g:G)(sA:φ g)(hr:Restr env (hI g))(hL:Sel L (LI g) M):
  @WX (mR (D g)) n F w₀ (Exit.then (fun a w=>∃ g,φ g /\ @SS (mR (D g)) n F w₀ (hI g) (LI g) a w) Q) .normal env L:=
 fun _ _ h=>⟨g,sA,@SS.drop (mR (D g)) _ _ _ _ _ _ _ _ _ (@SS.restr (mR (D g)) _ _ _ _ _ _ _ _ h hr) hL⟩
theorem WC.midR{G:Type}(D:G->Nat)(φ:G->Prop)(hI:G->List (Nat×Value))(LI:G->List Asrt){c:Code}(k1 : @WC Rnd.base P n F w₀ (Exit.then (fun a w=>∃ g,φ g /\ @SS (mR (D g)) n F w₀ (hI g) (LI g) a w) Q) c env L)(k2:∀ g,φ g -> @WX (mR (D g)) n F w₀ Q .normal (hI g) (LI g)) : @WC Rnd.base P n F w₀ Q c env L:=by
 intro a w h
 refine Go.wpIn_mono (k1 a w h) ?_
 intro e a' w' hq
 cases e with
 | normal=>obtain⟨g,sA,hs⟩:=hq;exact k2 g sA a' w' hs
 | _=>exact hq
theorem WC.WZ(φ:Nat->A1->Prop)(hI:Nat->A1->List (Nat×Value))(LI:Nat->A1->List Asrt)(k1 : @WC Rnd.base P n F w₀ (Exit.then (fun a w=>∃ g:Nat×A1,(φ g.1 g.2) /\ @SS (mR g.1) n F w₀ (hI g.1 g.2) (LI g.1 g.2) a w) Q) x env L)(k2:∀ x0 x1,(φ x0 x1) -> @WC (mR x0) P n F w₀ Q y (hI x0 x1) (LI x0 x1)) : @WC Rnd.base P n F w₀ Q (.seq x y) env L:=
 WC.cH (G:=Nat×A1) (fun g=>g.1) (fun g=>(φ g.1 g.2)) (fun g=>(hI g.1 g.2)) (fun g=>(LI g.1 g.2)) k1 (fun g h=>k2 g.1 g.2 h)
theorem WC.eW{A2 A3 A4:Type}(φ:Nat->A1->A2->A3->A4->Prop)(hI:Nat->A1->A2->A3->A4->List (Nat×Value))(LI:Nat->A1->A2->A3->A4->List Asrt)(k1 : @WC Rnd.base P n F w₀ (Exit.then (fun a w=>∃ g:Nat×A1×A2×A3×A4,(cu5 φ g) /\ @SS (mR g.1) n F w₀ (cu5 hI g) (cu5 LI g) a w) Q) x env L)(k2:∀ x0 x1 x2 x3 x4,(φ x0 x1 x2 x3 x4) -> @WC (mR x0) P n F w₀ Q y (hI x0 x1 x2 x3 x4) (LI x0 x1 x2 x3 x4)) : @WC Rnd.base P n F w₀ Q (.seq x y) env L:=
 WC.cH (G:=Nat×A1×A2×A3×A4) (fun g=>g.1) (fun g=>(cu5 φ g)) (fun g=>(cu5 hI g)) (fun g=>(cu5 LI g)) k1 (fun g h=>k2 g.1 g.2.1 g.2.2.1 g.2.2.2.1 g.2.2.2.2 h)
theorem WC.V0{A2 A3 A4 A5:Type}(φ:Nat->A1->A2->A3->A4->A5->Prop)(hI:Nat->A1->A2->A3->A4->A5->List (Nat×Value))(LI:Nat->A1->A2->A3->A4->A5->List Asrt)(k1 : @WC Rnd.base P n F w₀ (Exit.then (fun a w=>∃ g:Nat×A1×A2×A3×A4×A5,(cu6 φ g) /\ @SS (mR g.1) n F w₀ (cu6 hI g) (cu6 LI g) a w) Q) x env L)(k2:∀ x0 x1 x2 x3 x4 x5,(φ x0 x1 x2 x3 x4 x5) -> @WC (mR x0) P n F w₀ Q y (hI x0 x1 x2 x3 x4 x5) (LI x0 x1 x2 x3 x4 x5)) : @WC Rnd.base P n F w₀ Q (.seq x y) env L:=
 WC.cH (G:=Nat×A1×A2×A3×A4×A5) (fun g=>g.1) (fun g=>(cu6 φ g)) (fun g=>(cu6 hI g)) (fun g=>(cu6 LI g)) k1 (fun g h=>k2 g.1 g.2.1 g.2.2.1 g.2.2.2.1 g.2.2.2.2.1 g.2.2.2.2.2 h)
end
end
section
/-! ### maps as_ lists of keys and values, in the order in which the keys came -/
def xx{κ α:Type}[DecidableEq κ]:List (κ×α)->κ->α->α
 | [],_,d=>d
 | p::l,k,d=>if k=p.1 then p.2 else xx l k d
def ji{κ α:Type}[DecidableEq κ]:List (κ×α)->κ->Bool
 | [],_=>false
 | p::l,k=>if k=p.1 then true else ji l k
def xT{κ α:Type}[DecidableEq κ]:List (κ×α)->κ->α->List (κ×α)
 | [],k,v=>[(k,v)]
 | p::l,k,v=>if k=p.1 then(p.1,v)::l else p::xT l k v
def uJ(es:Array MapEntry)(iw:Nat):Prop:=(∀ x∈es.toList,x.born<iw)/\(es.toList.map (·.born)).Nodup
theorem uJ.empty:uJ #[] 0:=⟨by simp,by simp⟩
theorem uJ.push{es:Array MapEntry}{iw:Nat}(h:uJ es iw)(k v:Value):uJ (es.push { key:=k,val:=v,born:=iw }) (iw+1):=by
 refine⟨?_,?_⟩
 ·intro x hx
  simp only[Array.toList_push,List.mem_append,List.mem_singleton] at hx
  rcases hx with hx | rfl
  ·exact Nat.lt_succ_of_lt (h.1 x hx)
  ·exact Nat.lt_succ_self _
 ·simp only[Array.toList_push,List.map_append,List.map_cons,List.map_nil]
  refine List.nodup_append.2 ⟨h.2,by simp,?_⟩
  intro a ha b hb
  obtain⟨x,hx,rfl⟩:=List.mem_map.1 ha
  simp at hb
  have:=h.1 x hx
  omega
theorem uJ.modify{es:Array MapEntry}{iw:Nat}(h:uJ es iw)(i:Nat)(f:MapEntry->MapEntry)(hf:∀ e,(f e).born=e.born):uJ (es.modify i f) iw:=by
 have hm:(es.modify i f).toList.map (·.born)=es.toList.map (·.born):=by
  rw[Array.toList_modify]
  apply List.ext_getElem?
  intro j
  simp only[List.getElem?_map,List.getElem?_modify]
  cases es.toList[j]? with
  | none=>simp
  | some e=>by_cases zK:i=j <;> simp[zK,hf]
 refine⟨?_,by rw[hm];exact h.2⟩
 intro x hx
 have:x.born∈(es.modify i f).toList.map (·.born):=List.mem_map.2 ⟨x,hx,rfl⟩
 rw[hm] at this
 obtain⟨y,hy,he⟩:=List.mem_map.1 this
 rw[<- he];exact h.1 y hy
def xB{κ α:Type}(b:Nat)(ek:κ->Value)(ev:α->Value)(l:List (κ×α)):Asrt where
 fp:=[b]
 ok w:=∃ es iw,w.heap[b]?=some (.map es iw)/\es.toList.map (fun e=>(e.key,e.val))=l.map (fun p=>(ek p.1,ev p.2))/\uJ es iw
 loc w w' h hl hk:=by
  obtain⟨es,iw,h1,h2⟩:=hk
  exact⟨es,iw,by rw[h b (by simp) (hl b (by simp))];exact h1,h2⟩
structure KeyT (P:Program) (kt:TypeId) {κ:Type} [DecidableEq κ] (ek:κ->Value):Prop where
 chk:∀(b:Bool) (k:κ) (w:World),(Instr.checkKey b 10000 kt (ek k)).run P w = .ok () w
 find:∀(k:κ) (es:List MapEntry) (ks:List κ) (w:World),es.map (·.key)=ks.map ek->
  (Instr.findKey kt (ek k) es).run P w = .ok ((ks.findIdx? fun k'=>decide (k=k')).map fun i=>(i,((es[i]?).map (·.val)).getD undef)) w
 stays:∀(k:κ) (w:World),(Instr.keyThatStays (ek k) (ek k)).run P w = .ok (ek k) w
section
variable {κ α:Type} [DecidableEq κ]
theorem eX{kk:IntKind}(a:Int):∀(es:List MapEntry) (ks:List Int) (i:Nat),es.map (·.key)=ks.map (Value.int kk)->
  Instr.findNow (.int kk) (.int kk a) es i=some ((ks.findIdx? fun k'=>decide (a=k')).map fun j=>(i+j,((es[j]?).map (·.val)).getD undef))
 | [],[],i,_=>rfl
 | [],_::_,_,h=>by simp at h
 | _::_,[],_,h=>by simp at h
 | e::es,k::ks,i,h=>by
  simp only[List.map_cons,List.cons.injEq] at h
  unfold Instr.findNow
  rw[h.1]
  simp only[Instr.sameNow,if_true]
  by_cases hk:a=k
  ·subst hk;simp[List.findIdx?_cons]
  ·have:(a == k)=false:=by simp[hk]
   rw[this]
   simp only
   rw[eX a es ks (i+1) h.2,List.findIdx?_cons]
   simp only[hk,decide_false,Bool.false_eq_true,if_false]
   cases ks.findIdx? (fun k'=>decide (a=k')) with
   | none=>rfl
   | some j=>simp;omega
theorem dh(a b:ByteArray):(a == b)=decide (a=b):=by
 rw[Bool.eq_iff_iff,MapKept.bytes_beq,decide_eq_true_eq]
theorem eY(a:ByteArray):∀(es:List MapEntry) (ks:List ByteArray) (i:Nat),es.map (·.key)=ks.map Value.string->
  Instr.findNow .string (.string a) es i=some ((ks.findIdx? fun k'=>decide (a=k')).map fun j=>(i+j,((es[j]?).map (·.val)).getD undef))
 | [],[],i,_=>rfl
 | [],_::_,_,h=>by simp at h
 | _::_,[],_,h=>by simp at h
 | e::es,k::ks,i,h=>by
  simp only[List.map_cons,List.cons.injEq] at h
  unfold Instr.findNow
  rw[h.1]
  simp only[Instr.sameNow]
  rw[dh]
  by_cases hk:a=k
  ·subst hk;simp[List.findIdx?_cons]
  ·rw[decide_eq_false hk]
   simp only
   rw[eY a es ks (i+1) h.2,List.findIdx?_cons]
   simp only[hk,decide_false,Bool.false_eq_true,if_false]
   cases ks.findIdx? (fun k'=>decide (a=k')) with
   | none=>rfl
   | some j=>simp;omega
theorem K0{P:Program}{kt:TypeId}(h:P.underlying kt=some .string):KeyT P kt Value.string where
 chk b k w:=MapKept.run_checkKey h (by simp[MapKept.IsKey]) b 9999
 find k es ks w hk:=by
  unfold Instr.findKey
  simp only[Sem.run_bind,run_underlying h,Result.andThen]
  rw[eY k es ks 0 hk]
  simp
 stays k w:=by simp[Instr.keyThatStays,Instr.sameBits,dh]
theorem K1{P:Program}{kt:TypeId}{kk:IntKind}(h:P.underlying kt=some (.int kk)):KeyT P kt (Value.int kk) where
 chk b k w:=MapKept.run_checkKey h (by simp[MapKept.IsKey]) b 9999
 find k es ks w hk:=by
  unfold Instr.findKey
  simp only[Sem.run_bind,run_underlying h,Result.andThen]
  rw[eX k es ks 0 hk]
  simp
 stays k w:=by simp[Instr.keyThatStays,Instr.sameBits]
theorem pT{ek:κ->Value}{ev:α->Value}{k:κ}{d:α}:∀(l:List (κ×α)) (es:List MapEntry),es.map (fun e=>(e.key,e.val))=l.map (fun p=>(ek p.1,ev p.2))->
  (match ((l.map (·.1)).findIdx? fun k'=>decide (k=k')).map fun i=>(i,((es[i]?).map (·.val)).getD undef) with | some p=>p.2 | none=>ev d)=ev (xx l k d)
 | [],[],_=>rfl
 | [],_::_,h=>by simp at h
 | _::_,[],h=>by simp at h
 | p::l,e::es,h=>by
  simp only[List.map_cons,List.cons.injEq,Prod.mk.injEq] at h
  rw[List.map_cons,List.findIdx?_cons]
  unfold xx
  by_cases hk:k=p.1
  ·simp[hk,h.1.2]
  ·simp only[hk,decide_false,Bool.false_eq_true,if_false]
   rw[<- pT l es h.2]
   cases (l.map (·.1)).findIdx? (fun k'=>decide (k=k')) <;> simp
theorem di{k:κ}:∀(l:List (κ×α)),((l.map (·.1)).findIdx? fun k'=>decide (k=k')).isSome=ji l k
 | []=>rfl
 | p::l=>by
  rw[List.map_cons,List.findIdx?_cons]
  unfold ji
  by_cases hk:k=p.1
  ·simp[hk]
  ·simp only[hk,decide_false,Bool.false_eq_true,if_false]
   rw[<- di l]
   cases (l.map (·.1)).findIdx? (fun k'=>decide (k=k')) <;> simp
theorem pU{ek:κ->Value}{ev:α->Value}{k:κ}{v:α}:∀(l:List (κ×α)) (es:List MapEntry) (i:Nat),es.map (fun e=>(e.key,e.val))=l.map (fun p=>(ek p.1,ev p.2))->
  ((l.map (·.1)).findIdx? fun k'=>decide (k=k'))=some i->
  i<es.length/\((es[i]?).map (·.key)).getD undef=ek k/\(es.modify i fun e=>{ e with key:=ek k,val:=ev v }).map (fun e=>(e.key,e.val))=(xT l k v).map (fun p=>(ek p.1,ev p.2))
 | [],es,i,_,hf=>by simp at hf
 | _::_,[],_,h,_=>by simp at h
 | p::l,e::es,i,h,hf=>by
  simp only[List.map_cons,List.cons.injEq,Prod.mk.injEq] at h
  rw[List.map_cons,List.findIdx?_cons] at hf
  unfold xT
  by_cases hk:k=p.1
  ·subst hk
   simp at hf
   subst hf
   simp[h.1.1,h.2]
  ·simp only[hk,decide_false,Bool.false_eq_true,if_false] at hf
   rw[Option.map_eq_some_iff] at hf
   obtain⟨j,hj,rfl⟩:=hf
   obtain⟨h1,h2,h3⟩:=pU (v:=v) l es j h.2 hj
   refine⟨by simp;omega,by simpa using h2,?_⟩
   rw[if_neg hk,List.modify_succ_cons,List.map_cons,List.map_cons,h3,h.1.1,h.1.2]
theorem pV{k:κ}{v:α}:∀(l:List (κ×α)),((l.map (·.1)).findIdx? fun k'=>decide (k=k'))=none->xT l k v=l++[(k,v)]
 | [],_=>rfl
 | p::l,hf=>by
  rw[List.map_cons,List.findIdx?_cons] at hf
  unfold xT
  by_cases hk:k=p.1
  ·simp[hk] at hf
  ·simp only[hk,decide_false,Bool.false_eq_true,if_false,Option.map_eq_none_iff] at hf
   rw[if_neg hk,pV l hf];rfl
theorem oX{ek:κ->Value}{ev:α->Value}{l:List (κ×α)}{es:List MapEntry}(h:es.map (fun e=>(e.key,e.val))=l.map (fun p=>(ek p.1,ev p.2))):es.map (·.key)=(l.map (·.1)).map ek:=by
 have:=congrArg (List.map (·.1)) h
 rw[List.map_map,List.map_map] at this
 rw[List.map_map]
 exact this
end
section
variable [Rnd]
variable {P:Program} {n:Nat} {F:List Nat} {w₀:World} {env:List (Nat×Value)} {L R:List Asrt} {d:Option Tmp} {ty:TypeId} {pos:String} {after:Array Edge} {g:Option (Nat×Bool)} {x y z:Operand} {t kt e:TypeId}
 {κ α:Type} [DecidableEq κ] {ek:κ->Value} {ev:α->Value} {l:List (κ×α)} {b:Nat} {k:κ} {v dflt:α} {zv:Value}
theorem jN(ek:κ->Value)(ev:α->Value):eU P n F w₀ env L ⟨d,.makeMap t none,ty,pos,after,g⟩ (fun _:Nat=>True) (fun b => .map (some b)) (fun b=>xB b ek ev []::L):=by
 intro a w h
 refine⟨w.heap.size,w.alloc (.map #[] 0),?_,trivial,?_,.alloc _ _⟩
 ·simp[execOp,run_makeMap]
 ·exact Wk.hp (Wk.any (x:=w5 w.heap.size (.map #[] 0)) (y:=xB w.heap.size ek ev []) rfl (fun w' hk=>⟨#[],0,hk,rfl,uJ.empty⟩) (Wk.refl L)) (h.hp.alloc _)
theorem QS{w:World}(K:KeyT P kt ek)(ht:P.underlying t=some (.map kt e))(hz:qB P e zv)(hd:zv=ev dflt)(hp:Hp F w₀ w L)(hm:Pick L (xB b ek ev l) R):
  (Instr.lookup t (.map (some b)) (ek k) false).run P w = .ok (ev (xx l k dflt)) w:=by
 obtain⟨es,iw,hb,he,lJ⟩:=hp.ok _ hm.mem
 have h1:=K.find k es.toList (l.map (·.1)) w (oX he)
 have h2:=pT (ek:=ek) (ev:=ev) (k:=k) (d:=dflt) l es.toList he
 have CH:=congrFun hz w
 simp only[Instr.lookup,Sem.run_bind,run_underlying ht,Result.andThen,MapKept.run_getObj_map hb,K.chk]
 cases hf:(l.map (·.1)).findIdx? (fun k'=>decide (k=k')) with
 | none=>rw[hf] at h1 h2;simp only[Option.map_none] at h1 h2;simp[h1,CH,hd,h2]
 | some i=>rw[hf] at h1 h2;simp only[Option.map_some,Array.getElem?_toList] at h1 h2;simp[h1,h2]
theorem Qe{w:World}(K:KeyT P kt ek)(ht:P.underlying t=some (.map kt e))(hz:qB P e zv)(hd:zv=ev dflt)(hp:Hp F w₀ w L)(hm:Pick L (xB b ek ev l) R):
  (Instr.lookup t (.map (some b)) (ek k) true).run P w = .ok (.tuple #[ev (xx l k dflt),.bool (ji l k)]) w:=by
 obtain⟨es,iw,hb,he,lJ⟩:=hp.ok _ hm.mem
 have h1:=K.find k es.toList (l.map (·.1)) w (oX he)
 have h2:=pT (ek:=ek) (ev:=ev) (k:=k) (d:=dflt) l es.toList he
 have h3:=di (k:=k) l
 have CH:=congrFun hz w
 simp only[Instr.lookup,Sem.run_bind,run_underlying ht,Result.andThen,MapKept.run_getObj_map hb,K.chk]
 cases hf:(l.map (·.1)).findIdx? (fun k'=>decide (k=k')) with
 | none=>rw[hf] at h1 h2 h3;simp only[Option.map_none] at h1 h2;rw[<- h3];simp[h1,CH,hd,h2]
 | some i=>rw[hf] at h1 h2 h3;simp only[Option.map_some,Array.getElem?_toList] at h1 h2;rw[<- h3];simp[h1,h2]
theorem j8(K:KeyT P kt ek)(ht:P.underlying t=some (.map kt e))(hz:qB P e zv)(hd:zv=ev dflt)(hx:eo env x=some (.map (some b)))(hy:eo env y=some (ek k))(hm:Pick L (xB b ek ev l) R):
  Qt P n F w₀ env L ⟨d,.lookup t x y false,ty,pos,after,g⟩ (ev (xx l k dflt)):=by
 intro a w h
 simp[execOp,h.eval hx,h.eval hy,QS K ht hz hd h.hp hm]
theorem QT(K:KeyT P kt ek)(ht:P.underlying t=some (.map kt e))(hz:qB P e zv)(hd:zv=ev dflt)(hx:eo env x=some (.map (some b)))(hy:eo env y=some (ek k))(hm:Pick L (xB b ek ev l) R):
  Qt P n F w₀ env L ⟨d,.lookup t x y true,ty,pos,after,g⟩ (.tuple #[ev (xx l k dflt),.bool (ji l k)]):=by
 intro a w h
 simp[execOp,h.eval hx,h.eval hy,Qe K ht hz hd h.hp hm]
theorem Hp.setMap{w:World}{l':List (κ×α)}{es':Array MapEntry}{c':Nat}(h:Hp F w₀ w L)(hm:Pick L (xB b ek ev l) R)(he:es'.toList.map (fun e=>(e.key,e.val))=l'.map (fun p=>(ek p.1,ev p.2)))(lJ:uJ es' c'):
  Hp F w₀ { w with heap:=w.heap.setIfInBounds b (.map es' c') } (xB b ek ev l'::R):=by
 have mO:b<w.heap.size:=(h.front hm).lt _ (List.mem_cons_self ..) b (by simp[xB])
 refine(h.front hm).upd (x:=xB b ek ev l) (y:=xB b ek ev l') .here rfl ⟨rfl,Nat.le_refl _⟩ rfl (by simp) (fun k _ Aj=>?_) ⟨es',c',by simp[mO],he,lJ⟩ ?_
 ·have:b≠k:=fun e=>Aj (by simp[xB,e])
  simp[Array.getElem?_setIfInBounds,this]
 ·intro b' hb'
  simp only[xB,List.mem_singleton] at hb'
  subst hb'
  exact⟨by simpa using mO,.inl (by simp[xB])⟩
theorem kw{vv:Value}(K:KeyT P kt ek)(ht:P.underlying t=some (.map kt e))(hx:eo env x=some (.map (some b)))(hy:eo env y=some (ek k))(hv:eo env z=some vv)(CI:vv=ev v)(hm:Pick L (xB b ek ev l) R):
  d6 P n F w₀ env L ⟨none,.mapUpdate t x y z,ty,pos,after,g⟩ (xB b ek ev (xT l k v)::R):=by
 intro a w h
 subst CI
 obtain⟨es,iw,hb,he,lJ⟩:=h.hp.ok _ hm.mem
 have h1:=K.find k es.toList (l.map (·.1)) w (oX he)
 cases hf:(l.map (·.1)).findIdx? (fun k'=>decide (k=k')) with
 | none=>
  rw[hf] at h1
  refine⟨{ w with heap:=w.heap.setIfInBounds b (.map (es.push { key:=ek k,val:=ev v,born:=iw }) (iw+1)) },.inl ?_,h.hp.setMap hm ?_ (lJ.push _ _)⟩
  ·simp[execOp,h.eval hx,h.eval hy,h.eval hv,Instr.mapUpdate,Sem.run_bind,run_underlying ht,Result.andThen,MapKept.run_getObj_map hb,K.chk,h1,MapKept.run_setObj_map _ hb]
  ·rw[pV l hf];simp[he]
 | some i=>
  rw[hf] at h1
  obtain⟨i1,i2,i3⟩:=pU (v:=v) l es.toList i he hf
  have Dy:i<es.size:=by simpa using i1
  have i2':((es[i]?).map (·.key)).getD (ek k)=ek k:=by
   have e:es[i]?=some es[i]:=Array.getElem?_eq_getElem Dy
   rw[Array.getElem?_toList,e] at i2
   rw[e];simpa using i2
  refine⟨{ w with heap:=w.heap.setIfInBounds b (.map (es.modify i fun e=>{ e with key:=ek k,val:=ev v }) iw) },.inl ?_,h.hp.setMap hm ?_ (lJ.modify _ _ (fun _=>rfl))⟩
  ·simp[execOp,h.eval hx,h.eval hy,h.eval hv,Instr.mapUpdate,Sem.run_bind,run_underlying ht,Result.andThen,MapKept.run_getObj_map hb,K.chk,h1,i2',K.stays,MapKept.run_setObj_map _ hb]
  ·rw[<- i3,Array.toList_modify]
theorem kH{vv:Value}(K:KeyT P kt ek)(ht:P.underlying t=some (.map kt e))(hx:eo env x=some (.map (some b)))(hy:eo env y=some (ek k))(hv:eo env z=some vv)(CI:vv=ev v)(hm:Pick L (xB b ek ev l) R):
  d6 P n F w₀ env L ⟨none,.insert t x y z,ty,pos,after,g⟩ (xB b ek ev (xT l k v)::R):=by
 intro a w h
 subst CI
 obtain⟨es,iw,hb,he,lJ⟩:=h.hp.ok _ hm.mem
 have h1:=K.find k es.toList (l.map (·.1)) w (oX he)
 cases hf:(l.map (·.1)).findIdx? (fun k'=>decide (k=k')) with
 | none=>
  rw[hf] at h1
  refine⟨{ w with heap:=w.heap.setIfInBounds b (.map (es.push { key:=ek k,val:=ev v,born:=iw }) (iw+1)) },.inl ?_,h.hp.setMap hm ?_ (lJ.push _ _)⟩
  ·simp[execOp,h.eval hx,h.eval hy,h.eval hv,Instr.mapUpdate,Sem.run_bind,run_underlying ht,Result.andThen,MapKept.run_getObj_map hb,K.chk,h1,MapKept.run_setObj_map _ hb]
  ·rw[pV l hf];simp[he]
 | some i=>
  rw[hf] at h1
  obtain⟨i1,i2,i3⟩:=pU (v:=v) l es.toList i he hf
  have Dy:i<es.size:=by simpa using i1
  have i2':((es[i]?).map (·.key)).getD (ek k)=ek k:=by
   have e:es[i]?=some es[i]:=Array.getElem?_eq_getElem Dy
   rw[Array.getElem?_toList,e] at i2
   rw[e];simpa using i2
  refine⟨{ w with heap:=w.heap.setIfInBounds b (.map (es.modify i fun e=>{ e with key:=ek k,val:=ev v }) iw) },.inl ?_,h.hp.setMap hm ?_ (lJ.modify _ _ (fun _=>rfl))⟩
  ·simp[execOp,h.eval hx,h.eval hy,h.eval hv,Instr.mapUpdate,Sem.run_bind,run_underlying ht,Result.andThen,MapKept.run_getObj_map hb,K.chk,h1,i2',K.stays,MapKept.run_setObj_map _ hb]
  ·rw[<- i3,Array.toList_modify]
theorem eu{r:α}(K:KeyT P kt ek)(ht:P.underlying t=some (.map kt e))(hz:qB P e zv)(hd:zv=ev dflt)(hx:eo env x=some (.map (some b)))(hy:eo env y=some (ek k))(hm:Pick L (xB b ek ev l) R)(hr:xx l k dflt=r):
  Qt P n F w₀ env L ⟨d,.lookup t x y false,ty,pos,after,g⟩ (ev r):=hr▸j8 K ht hz hd hx hy hm
theorem Xx{a b:ByteArray}(hx:eo env x=some (.string a))(hy:eo env y=some (.string b)){t':TypeId}:Qt P n F w₀ env L ⟨d,.binOp .eql t x y t',ty,pos,after,g⟩ (.bool (decide (a=b))):=by
 intro a' w h
 simp[execOp,h.eval hx,h.eval hy,eqGuard_at_string,binOp_string_eql,<- beq_toListBytes,dh]
theorem ew{a b:ByteArray}{r:Bool}(hr:decide (a=b)=r)(hx:eo env x=some (.string a))(hy:eo env y=some (.string b)){t':TypeId}:Qt P n F w₀ env L ⟨d,.binOp .eql t x y t',ty,pos,after,g⟩ (.bool r):=hr▸Xx hx hy
def K2(P:Program)(t f off:Nat)(ft:TypeId):Prop:=∃ fs fd,P.underlying t=some (.struct fs)/\fs[f]?=some fd/\fd.type=ft/\fd.offset=off
theorem G4{P:Program}{t f off:Nat}{ft:TypeId}{fs:Array Field}{fd:Field}(h:P.underlying t=some (.struct fs))(hf:fs[f]?=some fd)(ht:fd.type=ft)(ho:fd.offset=off):K2 P t f off ft:=⟨fs,fd,h,hf,ht,ho⟩
theorem K4{f off s:Nat}{ft:TypeId}{cs cs':Array Value}(hf:K2 P t f off ft)(h1:uG P ft s)(hx:eo env x=some (.agg cs))(hv:cs.extract off (off+s)=cs'):Qt P n F w₀ env L ⟨d,.field t x f,ty,pos,after,g⟩ (.agg cs'):=by
 intro a w h
 obtain⟨fs,fd,e1,e2,rfl,rfl⟩:=hf
 have h2:=congrFun h1.1 w
 have h3:=congrFun h1.2 w
 simp[execOp,h.eval hx,Instr.field,run_underlying e1,e2,asAgg,part,h2,h3,hv]
end
end
section
variable [Rnd] {P:Program} {n:Nat} {F:List Nat} {w₀:World} {env:List (Nat×Value)} {L Lc Lr R:List Asrt} {eA:Array Oper} {Q:Exit->Act->World->Prop} {ir l:List Oper}
 {dd:Nat} {d:Option Tmp} {ty:TypeId} {pos:String} {after:Array Edge} {g:Option (Nat×Bool)} {x y:Operand} {v u:Value} {t e T:TypeId} {sz rJ:Nat}
theorem ns{b sz:Nat}{o j:Int}(h0:0<=o)(h1:0<=j):(⟨b,o.toNat*sz,none⟩:Addr).add (j.toNat*sz)=⟨b,(o+j).toNat*sz,none⟩:=by
 rw[Addr.add_lit,<- Nat.add_mul,Int.toNat_add h0 h1]
theorem WL.QU{α:Type}{ls:List α}{b:Nat}{cs:List Value}{cap:Nat}{i:Int}{lx:Operand}{kk:IntKind}(hg:gd env eA ⟨some dd,.slice t x (some lx) none none,ty,pos,after,g⟩=some true)(kS:Nat.blt dd n=true)(ht:elT P t e sz rJ)(hx:eo env x=some (.slice (some ⟨b,0,none⟩) ls.length cap))(hh:eo env lx=some (.int kk i))(hm:Pick L (row (.slice (some ⟨b,0,none⟩) ls.length cap) e sz cs) R)(hi:0<=i/\i<ls.length)(k:WL P n F w₀ eA Q ir ((dd,.slice (some ⟨b,i.toNat*sz,none⟩) (ls.length-i.toNat) (cap-i.toNat))::env) L):
  WL P n F w₀ eA Q (⟨some dd,.slice t x (some lx) none none,ty,pos,after,g⟩::ir) env L:=by
 refine WL.know (fun w h=>h.rowShape hm) fun hs=>?_
 obtain⟨xo,Au,C3,_⟩:=hs
 refine WL.a (n:=n) hg rfl kS (sI (lo:=i.toNat) (hi:=ls.length) ht hx (lv:=some (.int kk i)) (hv:=none) (fun a w h=>by rw[Option.map_some,h.eval hh]) (fun _ _ _=>rfl) (show i=((i.toNat:Nat):Int) by omega) rfl (by omega) Au (fun _=>Au)) ?_
 rw[if_neg (by omega),Option.map_some,Addr.add_lit,Nat.zero_add]
 exact k
end
section
variable {o:Oper}{vs cs:List Value}{s:Nat}
section seg
variable [Rnd]
variable {P:Program} {n:Nat} {F:List Nat} {w₀:World} {env:List (Nat×Value)} {L Lc Lr R:List Asrt} {eA:Array Oper} {Q:Exit->Act->World->Prop} {ir:List Oper}
def Xy(i:Nat):List (Nat×Value)->Bool
 | []=>false
 | p::r=>bif Nat.beq i p.1 then true else Xy i r
def dj:Nat->List (Nat×Value)->List (Nat×Value)->Bool
 | 0,_,_=>true
 | _+1,[],_=>true
 | k+1,p::r,e=>bif Xy p.1 e then false else dj k r e
theorem Vp{i:Nat}:∀ {e:List (Nat×Value)},Xy i e=false->lk e i=none
 | [],_=>rfl
 | (j,v)::r,h=>by
  simp only[Xy] at h
  simp only[lk]
  cases hb:Nat.beq i j with
  | true=>rw[hb] at h;simp at h
  | false=>rw[hb] at h;simp at h ⊢;exact Vp h
theorem nu:∀(k:Nat) {lL e:List (Nat×Value)},dj k lL e=true->∀ i v,lk e i=some v->lk (lL.drop k) i=some v->lk lL i=some v
 | 0,lL,e,_,i,v,_,h=>by simpa using h
 | k+1,[],e,_,i,v,_,h=>by simp[lk] at h
 | k+1,(j,u)::r,e,hf,i,v,he,h=>by
  simp only[dj] at hf
  cases hk:Xy j e with
  | true=>rw[hk] at hf;simp at hf
  | false=>
   rw[hk] at hf;simp at hf
   have zK:i≠j:=fun zK=>by subst zK;rw[Vp hk] at he;cases he
   simp only[lk];rw[si zK];exact nu k hf i v he (by simpa using h)
theorem SS.of{env':List (Nat×Value)}{a:Act}{w:World}(h:SS n F w₀ env L a w)(hr:∀ i v,lk env' i=some v->lk env i=some v):SS n F w₀ env' L a w:=
 ⟨h.defers,h.size,fun i v hv=>h.ev i v (hr i v hv),h.hp⟩
def nW(n:Nat)(eA:Array Oper):List Oper->List (Nat×Value)->Option (List (Nat×Value))
 | [],e=>some e
 | o::l,e=>match gd e eA o,o.dst with
  | some false,some d=>bif Nat.blt d n then nW n eA l ((d,undef)::e) else none
  | _,_=>none
theorem WL.Xz:∀ {l1 ir:List Oper} {env env':List (Nat×Value)},nW n eA l1 env=some env'->WL P n F w₀ eA Q ir env' L->WL P n F w₀ eA Q (l1++ir) env L
 | [],ir,env,env',h,k=>by simp only[nW,Option.some.injEq] at h;subst h;exact k
 | o::l1,ir,env,env',h,k=>by
  simp only[nW] at h
  split at h
  ·rename_i d hg hd
   cases hn:Nat.blt d n with
   | false=>rw[hn] at h;simp at h
   | true=>rw[hn] at h;simp only[cond_true] at h;exact WL.e hg hd hn (WL.Xz h k)
  ·cases h
def pickE(n:Nat)(eA:Array Oper)(env:List (Nat×Value))(o:Oper):Option (Nat×Value):=
 match gd env eA o,o.dst,o.op with
 | some true,some d,.pick c x y=>bif Nat.blt d n then(match eo env c with
  | some (.bool b)=>(eo env (bif b then x else y)).map fun v=>(d,v)
  | _=>none) else none
 | _,_,_=>none
theorem WL.V1{d:Nat}{v:Value}(h:pickE n eA env o=some (d,v))(k:WL P n F w₀ eA Q ir ((d,v)::env) L):WL P n F w₀ eA Q (o::ir) env L:=by
 obtain⟨dst,op,ty,pos,after,g⟩:=o
 unfold Sep.pickE at h
 split at h
 ·rename_i d' c x y hg hd hop
  simp only at hd hop
  subst hd hop
  cases hn:Nat.blt d' n with
  | false=>rw[hn] at h;simp at h
  | true=>
   rw[hn] at h;simp only[cond_true] at h
   split at h
   ·rename_i b hc
    rw[Option.map_eq_some_iff] at h
    obtain⟨v',hv,he⟩:=h
    injection he with h1 h2;subst h1 h2
    cases b
    ·exact WL.a hg rfl hn (qf hc hv) k
    ·exact WL.a hg rfl hn (qe hc hv) k
   ·cases h
 ·cases h
theorem Ly{lL e:List (Nat×Value)}{pd:Nat}{y B:Bool}{M L':List Asrt}(hB:y=B)(hk:dj (lL.length-e.length) lL e=true)(he:lL.drop (lL.length-e.length)=e)(hL:Sel L L' M):
  WL P n F w₀ eA (Exit.then (fun a w=>∃ _g:Unit,True/\SS n F w₀ ((pd,.bool B)::e) L' a w) Q) [] ((pd,.bool y)::lL) L:=by
 subst hB
 intro a w h
 refine⟨(),trivial,(h.of (env':=(pd,.bool y)::e) fun i v hv=>?_).drop hL⟩
 simp only[lk] at hv ⊢
 cases hb:Nat.beq i pd with
 | true=>rw[hb] at hv;simpa using hv
 | false=>rw[hb] at hv;simp only[cond_false] at hv ⊢;exact nu _ hk i v hv (by rw[he];exact hv)
theorem Lx(uD:Bool)(m sl:Nat){pd:Nat}{b B:Bool}{l:List Oper}{e':List (Nat×Value)}(hlk:lk env sl=some (.bool b))(hm:l[m]?=some o)(hsk:nW n eA (l.take m) ((sl,.bool (!uD))::env)=some e')(C7:pickE n eA e' o=some (pd,.bool (!uD)))(hf:dj (e'.length-env.length-1) e' ((sl,.bool (!uD))::env)=true)(he:e'.drop (e'.length-env.length-1)=(sl,.bool (!uD))::env)(hB:b = !uD->B = !uD)(k1:∀ Q',b=uD->WL P n F w₀ eA (Exit.then (fun a w=>∃ _g:Unit,True/\SS n F w₀ ((pd,.bool B)::(sl,.bool uD)::env) L a w) Q') (l.take (m+1)) ((sl,.bool uD)::env) L)(k2:WL P n F w₀ eA Q (l.drop (m+1)) ((pd,.bool B)::env) L):WL P n F w₀ eA Q l env L:=by
 have Dz:∀ c,b=c->∀ i v,lk env i=some v->lk ((sl,.bool c)::env) i=some v:=fun c hc i v hv=>by
  simp only[lk]
  cases hb:Nat.beq i sl with
  | false=>simpa using hv
  | true=>
   have:i=sl:=Nat.eq_of_beq_eq_true hb
   subst this;rw[hlk] at hv;rw[<- hc];simpa using hv
 have hpd:∀ c,b=c->∀ i v,lk ((pd,.bool B)::env) i=some v->lk ((pd,.bool B)::(sl,.bool c)::env) i=some v:=fun c hc i v hv=>by
  unfold lk at hv ⊢
  cases hb:Nat.beq i pd with
  | true=>rw[hb] at hv;simpa using hv
  | false=>rw[hb] at hv;simp only[cond_false] at hv ⊢;exact Dz c hc i v hv
 have DA:∀ c,b=c->∀ a w,SS n F w₀ env L a w->SS n F w₀ ((sl,.bool c)::env) L a w:=fun c hc a w h=>h.of fun i v hv=>by
  simp only[lk] at hv
  cases hb:Nat.beq i sl with
  | false=>rw[hb] at hv;simpa using hv
  | true=>
   have:i=sl:=Nat.eq_of_beq_eq_true hb
   subst this;rw[hb] at hv;simp only[cond_true] at hv;rw[<- hv,<- hc];exact hlk
 refine WL.cut (G:=Unit) (fun _=>True) (fun _=>(pd,.bool B)::env) (fun _=>L) (m+1) ?_ (fun _ _=>k2)
 by_cases hb:b=uD
 ·refine WL.cut (G:=Unit) (fun _=>True) (fun _=>(pd,.bool B)::(sl,.bool uD)::env) (fun _=>L) (m+1) ?_ (fun _ _=>?_)
  ·rw[List.take_take,Nat.min_self]
   exact fun a w h=>k1 _ hb a w (DA uD hb a w h)
  ·rw[List.drop_eq_nil_of_le (by simp;omega)]
   exact fun a w h=>⟨(),trivial,h.of (hpd uD hb)⟩
 ·have hb':b = !uD:=by cases b <;> cases uD <;> simp_all
  have CJ:l.take (m+1)=l.take m++[o]:=by rw[List.take_add_one,hm];rfl
  rw[CJ]
  intro a w h
  refine(WL.Xz hsk (WL.V1 C7 ?_)) a w (DA _ hb' a w h)
  intro a w h
  refine⟨(),trivial,h.of fun i v hv=>?_⟩
  have h1:=hpd _ hb' i v hv
  rw[hB hb'] at h1
  simp only[lk] at h1 ⊢
  cases Cl:Nat.beq i pd with
  | true=>rw[Cl] at h1;simpa using h1
  | false=>
   rw[Cl] at h1;simp only[cond_false] at h1 ⊢
   refine nu _ hf i v (by simpa only [lk] using h1) ?_
   rw[he];simpa only [lk] using h1
end seg
/-! ### operations that compute alone -/
section pu
variable [Rnd]
variable {P:Program} {n:Nat} {F:List Nat} {w₀:World} {env:List (Nat×Value)} {L Lc Lr R:List Asrt} {eA:Array Oper} {Q:Exit->Act->World->Prop} {ir:List Oper}
def KL:BinOp->IntKind->Int->Int->Option Value
 | .add,k,p,q=>some (.int k (k.wrap (p+q)))
 | .sub,k,p,q=>some (.int k (k.wrap (p-q)))
 | .mul,k,p,q=>some (.int k (k.wrap (p*q)))
 | .lss,_,p,q=>some (.bool (decide (p<q)))
 | .leq,_,p,q=>some (.bool (decide (p<=q)))
 | .gtr,_,p,q=>some (.bool (decide (p>q)))
 | .geq,_,p,q=>some (.bool (decide (p>=q)))
 | .eql,_,p,q=>some (.bool (decide (p=q)))
 | .neq,_,p,q=>some (.bool (decide (p≠q)))
 | _,_,_,_=>none
def puV(env:List (Nat×Value)):Op->Option Value
 | .move x=>eo env x
 | .assign x=>eo env x
 | .pick c x y=>match eo env c with
  | some (.bool true)=>eo env x
  | some (.bool false)=>eo env y
  | _=>none
 | .extract x i=>match eo env x with
  | some (.tuple vs)=>vs.toList[i]?
  | _=>none
 | .unOp .not _ x=>match eo env x with
  | some (.bool b)=>some (.bool (!b))
  | _=>none
 | .binOp op _ x y _=>match eo env x,eo env y with
  | some (.int k p),some (.int k' q)=>if k=k' then KL op k p q else none
  | _,_=>none
 | _=>none
def puE(n:Nat)(eA:Array Oper)(env:List (Nat×Value))(o:Oper):Option (Nat×Value):=
 match gd env eA o,o.dst with
 | some true,some d=>bif Nat.blt d n then(match puV env o.op with | some v=>some (d,v) | none=>none) else none
 | _,_=>none
theorem puV_q{op:Op}{v:Value}{d:Option Tmp}{ty:TypeId}{pos:String}{after:Array Edge}{g:Option (Nat×Bool)}(h:puV env op=some v):Qt P n F w₀ env L ⟨d,op,ty,pos,after,g⟩ v:=by
 cases op <;> simp only[puV] at h <;> try cases h
 case move x=>exact q_m h
 case assign x=>exact q_z h
 case pick c x y=>
  split at h
  ·rename_i hc;exact qe hc h
  ·rename_i hc;exact qf hc h
  ·cases h
 case extract x i=>
  split at h
  ·rename_i vs hx;exact te (vs:=vs.toList) (by rw[hx]) h
  ·cases h
 case unOp o t x=>
  cases o <;> simp only[puV] at h <;> try cases h
  split at h
  ·rename_i b hx;injection h with h;subst h;exact cz hx
  ·cases h
 case binOp o t x y t'=>
  split at h
  ·rename_i k p k' q hx hy
   split at h
   ·rename_i hk;subst hk
    cases o <;> simp only[KL] at h <;> try cases h
    ·exact tY hx hy rfl
    ·exact tj hx hy rfl
    ·exact tk hx hy rfl
    ·exact sG hx hy
    ·exact eh hx hy
    ·exact lR hx hy
    ·exact Qa hx hy
    ·exact lS hx hy
    ·exact Xc hx hy
   ·cases h
  ·cases h
theorem La{d:Nat}{v:Value}(h:puE n eA env o=some (d,v))(k:WL P n F w₀ eA Q ir ((d,v)::env) L):WL P n F w₀ eA Q (o::ir) env L:=by
 obtain⟨dst,op,ty,pos,after,g⟩:=o
 cases hg:gd env eA ⟨dst,op,ty,pos,after,g⟩ with
 | none=>simp[puE,hg] at h
 | some b=>
 cases b with
 | false=>simp[puE,hg] at h
 | true=>
 cases dst with
 | none=>simp[puE,hg] at h
 | some d'=>
  simp only[puE,hg] at h
  cases hn:Nat.blt d' n with
  | false=>rw[hn] at h;simp at h
  | true=>
   rw[hn] at h;simp only[cond_true] at h
   split at h
   ·rename_i v' hv
    injection h with h;injection h with h1 h2;subst h1 h2
    exact WL.a hg rfl hn (puV_q hv) k
   ·cases h
end pu
theorem bN(h:(vs.all fun u=>u.oneCell')=true):∀ u∈vs,u.oneCell'=true:=List.all_eq_true.1 h
section st
variable [Rnd]
variable {P:Program} {n:Nat} {F:List Nat} {w₀:World} {env:List (Nat×Value)} {L Lc Lr R:List Asrt} {eA:Array Oper} {Q:Exit->Act->World->Prop} {ir:List Oper}
 {d:Option Tmp} {ty:TypeId} {pos:String} {after:Array Edge} {g:Option (Nat×Bool)} {v u:Value} {x y:Operand} {t T:TypeId}
theorem xz{b:Nat}(hT:gL P t s)(hx:eo env x=some (.pointer (some ⟨b,0,none⟩)))(hy:eo env y=some v)(hv:v.cells=vs.toArray)(hm:Pick L (stb b T cs) R)(hl:Nat.beq cs.length vs.length=true)(hs:vs.length=s)(h1:(vs.all fun u=>u.oneCell')=true):
  d6 P n F w₀ env L ⟨none,.store t x y,ty,pos,after,g⟩ (stb b T vs::R):=by
 have hl':=Nat.eq_of_beq_eq_true hl
 refine Vm hT hx hy hv hs (bN h1) hm (by omega) ?_
 simp[rv,<- hl']
theorem jF{b off:Nat}{ds:List Value}(hT:gL P t s)(hx:eo env x=some (.pointer (some ⟨b,off,none⟩)))(hy:eo env y=some v)(hv:v.cells=vs.toArray)(hs:vs.length=s)(h1:(vs.all fun u=>u.oneCell')=true)(hm:Pick L (stb b T cs) R)(wH:Nat.ble (off+s) cs.length=true)(An:rv cs off vs=ds):
  d6 P n F w₀ env L ⟨none,.store t x y,ty,pos,after,g⟩ (stb b T ds::R):=Vm hT hx hy hv hs (bN h1) hm (Nat.le_of_ble_eq_true wH) An
theorem xw{A:Addr}(hT:uG P t s)(hx:eo env x=some (.pointer (some A)))(hR:∀ w,Hp F w₀ w L->∀ j u,cs[j]?=some u->w.cell? (A.add j)=some u)(hl:cs.length=s):
  Qt P n F w₀ env L ⟨d,.load t x,ty,pos,after,g⟩ (.agg cs.toArray):=wu hT hx hl hR
end st
end
end Sep
namespace Sep
open Go Go.RowKit Go.Sort Go.Proofs
section
section plain
variable {α:Type}
def tD(p:α->α->Option Int)(x y:α):Int:=(p x y).getD 0
def sJ(p:α->α->Option Int)(x:α):List α->List α
 | []=>[x]
 | y::l=>if tD p x y<=0 then x::y::l else y::sJ p x l
def w6(p:α->α->Option Int):List α->List α
 | []=>[]
 | x::l=>sJ p x (w6 p l)
theorem cI(p:α->α->Option Int)(x:α)(l:List α):(sJ p x l).Perm (x::l):=by
 induction l with
 | nil=>exact .refl _
 | cons y l ih=>
  unfold sJ
  split
  ·exact .refl _
  ·exact(ih.cons y).trans (.swap x y l)
theorem vX(p:α->α->Option Int)(l:List α):(w6 p l).Perm l:=by
 induction l with
 | nil=>exact .refl _
 | cons x l ih=>exact(cI p x _).trans (ih.cons x)
theorem mj(p:α->α->Option Int)(l:List α):(w6 p l).length=l.length:=(vX p l).length_eq
def XA[DecidableEq α](p:α->α->Option Int):List α->Bool
 | []=>true
 | x::l=>l.all (fun y=>x == y||(decide (tD p x y<0) && !decide (tD p y x<0)))&&XA p l
def ry[DecidableEq α](p:α->α->Option Int)(r:List α):Bool:=
 (r.all fun x=>(r.all fun y=>(p x y).isSome) && !decide (tD p x x<0))&&XA p r
theorem cJ[DecidableEq α](p:α->α->Option Int)(r:List α):XA p r=true↔r.Pairwise (fun x y=>x=y\/(tD p x y<0/\¬tD p y x<0)):=by
 induction r with
 | nil=>simp[XA]
 | cons x l ih=>simp[XA,ih,List.pairwise_cons]
theorem Y3[DecidableEq α]{p:α->α->Option Int}{r:List α}(h:ry p r=true){x y:α}(hx:x∈r)(hy:y∈r):(tD p x y<0)↔r.idxOf x<r.idxOf y:=by
 simp only[ry,Bool.and_eq_true,List.all_eq_true,Bool.not_eq_true',decide_eq_false_iff_not,cJ] at h
 obtain⟨h1,h2⟩:=h
 have ix:=List.idxOf_lt_length_of_mem hx
 have iy:=List.idxOf_lt_length_of_mem hy
 have gx:r[r.idxOf x]=x:=List.getElem_idxOf ix
 have gy:r[r.idxOf y]=y:=List.getElem_idxOf iy
 rw[List.pairwise_iff_getElem] at h2
 constructor
 ·intro hl
  rcases Nat.lt_trichotomy (r.idxOf x) (r.idxOf y) with h3 | h3 | h3
  ·exact h3
  ·exfalso
   have:x=y:=by rw[<- gx,<- gy];simp only[h3]
   subst this
   exact(h1 x hx).2 hl
  ·exfalso
   rcases h2 _ _ iy ix h3 with h4 | ⟨_,h4⟩
   ·rw[gx,gy] at h4;subst h4;omega
   ·rw[gx,gy] at h4;exact h4 hl
 ·intro h3
  rcases h2 _ _ ix iy h3 with h4 | ⟨h4,_⟩
  ·rw[gx,gy] at h4;subst h4;omega
  ·rw[gx,gy] at h4;exact h4
theorem QV[DecidableEq α]{p:α->α->Option Int}{r:List α}(h:ry p r=true){x y:α}(hx:x∈r)(hy:y∈r):p x y=some (tD p x y):=by
 simp only[ry,Bool.and_eq_true,List.all_eq_true] at h
 have:=(h.1 x hx).1 y hy
 unfold tD
 cases hp:p x y with
 | none=>rw[hp] at this;cases this
 | some v=>rfl
end plain
theorem K5{α:Type}[Inhabited α]{enc:α->List Value}{k:Nat}(hk:∀ x,(enc x).length=k)(h0:0<k)(d:Array α):flatK enc k d=(d.toList.flatMap enc).toArray:=by
 have hs:(flatK enc k d).size=(d.toList.flatMap enc).toArray.size:=by simp[sm hk,-List.length_flatMap]
 apply Array.ext hs
 intro i h1 h2
 have hi:i<d.size*k:=by simpa using h1
 have hd:i / k<d.size:=(Nat.div_lt_iff_lt_mul h0).2 hi
 have hm:i % k<(enc d[i / k]!).length:=by rw[hk];exact Nat.mod_lt _ h0
 have e1:(flatK enc k d)[i]=(flatK enc k d)[i]!:=by rw[getElem!_pos _ i h1]
 have e2:(d.toList.flatMap enc)[i]?=some (enc d[i / k]!)[i % k]:=by
  rw[oq hk h0]
  rw[List.getElem?_eq_getElem (by simpa using hd)]
  simp only[oB,Array.getElem_toList]
  simp only[getElem!_pos d (i / k) hd] at hm ⊢
  exact List.getElem?_eq_getElem hm
 rw[e1,get_flatK _ _ _ _ hi,List.getElem_toArray]
 have e3:=List.getElem?_eq_some_iff.1 e2
 obtain⟨_,e3⟩:=e3
 rw[e3,getElem!_pos (enc d[i / k]!) _ hm]
variable [Rnd]
theorem G5{Z:Zp}{w w':World}(h:∀ p∈Z,w'.heap[p.1]?=w.heap[p.1]?)(hz:sR Z w):sR Z w':=fun p hp=>by rw[h p hp];exact hz p hp
theorem Hp.asGrow{w w':World}(h:Hp [] w w' []):∃ q os',w'=grow (w.drewN q) os':=by
 refine⟨w'.drawn-w.drawn,w'.heap.extract w.heap.size w'.heap.size,?_⟩
 have hd:=h.tape.d
 have zV:w'.heap=w.heap++w'.heap.extract w.heap.size w'.heap.size:=by
  apply Array.ext_getElem?
  intro k
  rw[Array.getElem?_append]
  split
  ·rename_i hk
   exact h.block k hk (by simp)
  ·rename_i hk
   rw[Array.getElem?_extract]
   have:=h.size
   by_cases h2:k<w'.heap.size
   ·rw[if_pos (by omega),show w.heap.size+(k-w.heap.size)=k by omega]
   ·rw[if_neg (by omega),Array.getElem?_eq_none (by omega)]
 obtain⟨hp,tp,dr,os,out⟩:=w'
 simp only[grow,World.drewN] at *
 have e1:=h.os;have e2:=h.tape.t;have e3:=h.output
 simp only at e1 e2 e3 hd
 rw[<- zV,e1,e2,e3]
 congr 1
 omega
theorem pW{α:Type}[DecidableEq α]{P:Program}{f:FuncId}{e:TypeId}{k:Nat}{enc:α->List Value}(hk:∀ x,(enc x).length=k)(h0:0<k)(h1:∀ x,∀ v∈enc x,v.oneCell'=true)(hS:∀(β:Type) [Inhabited β] (enc:β->List Value) (cf:β->β->Int) (g:Nat) (cb:Array Value) (_:SWO (ltOf cf)) (w5 off cap:Nat) (d0:Array β) (w0:World)
   (_:∀ args w,(callFunc g args).run P w = .ok (.enter g args) w) (_:CmpLays P g cb enc k cf w5 off d0.size w0) (_:RowK enc k w0 w5 off d0)
   (N a b lM:Nat) (d:Array β) (w:World),b-a<N->d0.size=d.size->SWK enc k w0 w5 off d w->a<=b->b<=d.size->d.size<4611686018427387904->lM<4611686018427387904->Below (ltOf cf) a b d->
   Calls P f #[.slice (some ⟨w5,off,none⟩) d.size cap,.int .i64 a,.int .i64 b,.int .i64 lM,.func (.func g) #[] cb] w fun e w'=>e = .returned (.tuple #[])/\SWK enc k w0 w5 off (pdq (ltOf cf) d a b lM true true) w')(hN:∀(p:Option Addr) (cap:Nat) (xF:Int) (fv:Value) (w:World),Calls P f #[.slice p 0 cap,.int .i64 0,.int .i64 0,.int .i64 xF,fv] w fun e w'=>e = .returned (.tuple #[])/\w'=w){Z:Zp}{ao:Option Addr}{cap:Nat}{AQ:FuncId}{caps:List Value}{l r:List α}{a b xF:Int}{p:α->α->Option Int}{w₀:World}(hz:PZ (fps [row (.slice ao l.length cap) e k (l.flatMap enc)]) w₀ Z)(hcf:∀ args w,(callFunc AQ args).run P w = .ok (.enter AQ args) w)(hf:∀ w:World,PZ [] w Z->∀(x0 x1:α) (r:Int),p x0 x1=some r->Calls P AQ (([.agg (enc x0).toArray,.agg (enc x1).toArray]:List Value)++caps).toArray w fun e w'=>e = .returned (.int .i64 r)/\Hp [] w w' [])(hb:(a=0/\b=((l.length:Nat):Int))/\(0<=xF/\xF<4611686018427387904/\l.length<4611686018427387904))(ho:ry p (w6 p l)=true)(hr:r=w6 p l)(iq:Hp (fps [row (.slice ao l.length cap) e k (l.flatMap enc)]) w₀ w₀ [row (.slice ao l.length cap) e k (l.flatMap enc)]):
  Calls P f #[.slice ao l.length cap,.int .i64 a,.int .i64 b,.int .i64 xF,.func (.func AQ) #[] caps.toArray] w₀ fun en w'=>en = .returned (.tuple #[])/\(r.length=l.length)/\Hp (fps [row (.slice ao l.length cap) e k (l.flatMap enc)]) w₀ w' [row (.slice ao r.length cap) e k (r.flatMap enc)]:=by
 obtain⟨⟨rfl,rfl⟩,hl1,hl2,iS⟩:=hb
 have Ay:r.length=l.length:=by rw[hr,mj]
 by_cases DB:l.length=0
 ·have:l=[]:=List.eq_nil_of_length_eq_zero DB
  subst this
  subst hr
  refine(hN ao cap xF _ w₀).mono ?_
  rintro en w' ⟨rfl,rfl⟩
  exact⟨rfl,rfl,iq⟩
 obtain⟨n,CA,hv⟩:=iq.ok (row (.slice ao l.length cap) e k (l.flatMap enc)) (by simp)
 rcases hv with⟨hv,hn⟩ | ⟨bb,lO,lL,hv,_,hh,zL,xE,zx,zS⟩
 ·injection hv with _ e2 _;omega
 injection hv with e1 e2 e3
 subst e1 e2 e3
 have hbk:=iq.lt (row (.slice (some ⟨bb,0,none⟩) l.length cap) e k (l.flatMap enc)) (by simp) bb (by simp[row,Value.ownBlock])
 -- the elements as_ a type of their own
 let β:={x:α // x∈l}
 haveI:Inhabited β:=⟨⟨l[0]'(by omega),List.getElem_mem _⟩⟩
 let ut:β->List Value:=fun x=>enc x.1
 let cf:β->β->Int:=fun x y=>tD p x.1 y.1
 have vC:∀ x:β,x.1∈w6 p l:=fun x=>(vX p l).mem_iff.2 x.2
 have mO:∀ x y:β,ltOf cf x y=true↔(w6 p l).idxOf x.1<(w6 p l).idxOf y.1:=fun x y=>by
  rw[<- Y3 ho (vC x) (vC y)];simp[ltOf,cf]
 have hlf:∀ x y:β,ltOf cf x y=false↔¬(w6 p l).idxOf x.1<(w6 p l).idxOf y.1:=fun x y=>by
  rw[<- mO x y];cases ltOf cf x y <;> simp
 have hO:SWO (ltOf cf):=by
  refine⟨fun x=>?_,fun x y z h1 h2=>?_,fun x y z h1 h2=>?_⟩
  ·rw[hlf];omega
  ·rw[mO] at h1 h2 ⊢;omega
  ·rw[hlf] at h1 h2 ⊢;omega
 have hU:∀ x y:β,ltOf cf x y=false->ltOf cf y x=false->x=y:=fun x y h1 h2=>by
  rw[hlf] at h1 h2
  have e1:(w6 p l).idxOf x.1=(w6 p l).idxOf y.1:=by omega
  apply Subtype.ext
  have ix:=List.idxOf_lt_length_of_mem (vC x)
  have iy:=List.idxOf_lt_length_of_mem (vC y)
  rw[<- List.getElem_idxOf ix,<- List.getElem_idxOf iy]
  simp only[e1]
 let d:Array β:=l.attach.toArray
 have An:d.size=l.length:=by show List.length l.attach=l.length;exact List.length_attach
 have hdl:d.toList.flatMap ut=l.flatMap enc:=by
  show l.attach.flatMap (fun x=>enc x.1)=_
  have h3:=congrArg (List.flatMap enc) (List.attach_map_subtype_val l)
  rw[List.flatMap_map] at h3
  exact h3
 have BK:∀ d:Array β,flatK ut k d=(d.toList.flatMap ut).toArray:=fun d=>K5 (fun x=>hk x.1) h0 d
 have hll:(l.flatMap enc).length=l.length*k:=sm hk l
 have hck:l.length*k<=cap*k:=Nat.mul_le_mul_right k zL
 have hcur:∀ j,j<l.length*k->lL[j]?=(l.flatMap enc)[j]?:=by
  intro j hj
  rw[<- zS,List.getElem?_take,if_pos (by omega)]
  simp
 have hH:HoldsK ut k w₀ bb 0 d:=by
  intro j hj
  have Ds:j<l.length*k:=by rw[size_flatK,An] at hj;exact hj
  refine⟨?_,?_⟩
  ·rw[Nat.zero_add,cell_of_row w₀ bb j _ e (0,0) hh,hcur j Ds,getElem!_pos _ j hj]
   simp only[BK,hdl,id,List.getElem_toArray]
   exact List.getElem?_eq_getElem (by omega)
  ·simp[World.frozen?,hh,Nat.zero_add]
 have zV:∀(m:Nat) (os:Array Obj) (dk:Array β) (k':Nat),(sortWorldK ut k w₀ bb 0 m dk os).heap[k']?=if k'=bb then some (.cells (putCells id 0 (flatK ut k dk) lL) e (0,0)) else if k'<w₀.heap.size then w₀.heap[k']? else os[k'-w₀.heap.size]?:=by
  intro m os dk k'
  simp only[sortWorldK,putRowK,grow,putRow,mapBlock,Sort.ahead,Array.getElem?_append,Array.size_modify,Array.getElem?_modify]
  by_cases hk:k'=bb
  ·subst hk
   have hh2:=(Array.getElem?_eq_some_iff.1 hh).2
   simp[hbk,hh2,onCells]
  ·have:¬bb=k':=fun h=>hk h.symm
   simp[hk,this]
 have lK:∀(m:Nat) (os:Array Obj) (dk:Array β),(sortWorldK ut k w₀ bb 0 m dk os).heap.size=w₀.heap.size+os.size:=by
  intro m os dk
  simp[sortWorldK,putRowK,grow,putRow,mapBlock,Sort.ahead]
 have hZ:∀(m:Nat) (os:Array Obj) (dk:Array β),PZ [] (sortWorldK ut k w₀ bb 0 m dk os) Z:=by
  intro m os dk
  refine⟨G5 (w:=w₀) (fun q hq=>?_) hz.1,fun _ _=>by simp⟩
  rw[zV]
  have h3:q.1≠bb:=by
   intro h4
   exact hz.2 q hq (by rw[h4];simp[row,Value.ownBlock])
  rw[if_neg h3,if_pos (hz.1.lt q hq)]
 have hC:CmpLays P AQ caps.toArray ut k cf bb 0 d.size w₀:=by
  intro m os dk hdk x y
  have h:=hf _ (hZ m os dk) x.1 y.1 _ (QV ho (vC x) (vC y))
  have ea:(([.agg (enc x.1).toArray,.agg (enc y.1).toArray]:List Value)++caps).toArray = #[.agg (ut x).toArray,.agg (ut y).toArray]++caps.toArray:=by simp[ut]
  rw[ea] at h
  refine h.mono ?_
  rintro en w' ⟨rfl,hp⟩
  exact⟨rfl,hp.asGrow⟩
 have hR:RowK ut k w₀ bb 0 d:=⟨fun x=>hk x.1,fun x=>h1 x.1,hH,hbk⟩
 have hlm:((xF.toNat:Nat):Int)=xF:=Int.toNat_of_nonneg hl1
 have hc:=hS β ut cf AQ caps.toArray hO bb 0 cap d w₀ hcf hC hR (d.size+1) 0 d.size xF.toNat d w₀ (by omega) rfl (SWK.start hH) (Nat.zero_le _) (Nat.le_refl _) (by omega) (by omega) (Or.inl rfl)
 rw[hlm,An] at hc
 refine hc.mono ?_
 rintro en w' ⟨rfl,m,os,rfl⟩
 refine⟨rfl,Ay,?_⟩
 -- what the row holds now
 have hp:=pdq_sorts (ltOf cf) hO d 0 d.size xF.toNat true true (Nat.zero_le _) (Nat.le_refl _) (Or.inl rfl)
 rw[An] at hp
 generalize hd':pdq (ltOf cf) d 0 l.length xF.toNat true true=d' at hp ⊢
 have hs':d'.size=l.length:=hp.1.1.trans An
 have hu1:=sorted_unique_holds hO hU d d' (by rw[An];exact hp.1) (by rw[An];exact hp.2)
 have wI:d'.toList.Perm l.attach:=by rw[hu1];exact(List.mergeSort_perm _ _)
 have BX:(d'.toList.map (·.1))=r:=by
  have xv:(d'.toList.map (·.1)).Perm (w6 p l):=by
   refine(wI.map _).trans ?_
   rw[List.attach_map_subtype_val]
   exact(vX p l).symm
  have hw1:(d'.toList.map (·.1)).Pairwise fun x y=>¬tD p y x<0:=by
   rw[List.pairwise_map,List.pairwise_iff_getElem]
   intro i j hi hj zK
   have h3:=hp.2 i j (Nat.zero_le _) zK (by rw[<- hs'];simpa using hj)
   rw[getElem!_pos d' j (by simpa using hj),getElem!_pos d' i (by simpa using hi)] at h3
   simpa [ltOf,cf] using h3
  have Bo:(w6 p l).Pairwise fun x y=>¬tD p y x<0:=by
   have h3:=ho
   simp only[ry,Bool.and_eq_true,List.all_eq_true,Bool.not_eq_true',decide_eq_false_iff_not,cJ] at h3
   refine(List.Pairwise.imp_of_mem ?_ h3.2)
   intro x y hx hy hxy
   rcases hxy with rfl | hxy
   ·exact(h3.1 x hx).2
   ·exact hxy.2
  rw[hr]
  refine List.Perm.eq_of_pairwise (le:=fun x y=>¬tD p y x<0) ?_ hw1 Bo xv
  intro x y hx hy h3 h4
  have hx':x∈w6 p l:=xv.mem_iff.1 hx
  have hy':y∈w6 p l:=by first | exact hy | exact xv.mem_iff.1 hy
  rw[Y3 ho hy' hx'] at h3
  rw[Y3 ho hx' hy'] at h4
  have ix:=List.idxOf_lt_length_of_mem hx'
  have iy:=List.idxOf_lt_length_of_mem hy'
  rw[<- List.getElem_idxOf ix,<- List.getElem_idxOf iy]
  simp only[show(w6 p l).idxOf x=(w6 p l).idxOf y by omega]
 have hrf:flatK ut k d'=(r.flatMap enc).toArray:=by
  rw[BK,<- BX,List.flatMap_map]
 have hrk:r.length*k=l.length*k:=by rw[Ay]
 have DC:(r.flatMap enc).length=r.length*k:=sm hk r
 refine⟨rfl,⟨rfl,by simp[sortWorldK,putRowK,grow,putRow,mapBlock,Sort.ahead]⟩,rfl,by rw[lK];omega,?_,?_,?_,?_,by simp⟩
 ·intro k' Aj hf
  rw[zV]
  have:k'≠bb:=by rintro rfl;exact hf (by simp[row,Value.ownBlock])
  simp[this,Aj]
 ·intro x hx
  simp only[List.mem_singleton] at hx;subst hx
  refine⟨r.length,DC,.inr ⟨bb,cap,putCells id 0 (flatK ut k d') lL,rfl,Nat.zero_le _,by rw[zV];simp,by omega,xE,by simp[putCells];omega,?_⟩⟩
  apply List.ext_getElem?
  intro j
  rw[List.getElem?_take,hrf]
  by_cases hj:j<r.length*k
  ·rw[if_pos hj]
   have hjc:j<lL.size:=by omega
   simp only[putCells,Array.getElem?_toList,Array.getElem?_mapIdx,Array.getElem?_eq_getElem hjc,Option.map_some]
   rw[if_pos ⟨Nat.zero_le _,by simp only[List.size_toArray];omega⟩,Nat.sub_zero,getElem!_pos _ j (by simp only[List.size_toArray];omega)]
   simp only[id,List.getElem_toArray]
   exact(List.getElem?_eq_getElem (by omega)).symm
  ·rw[if_neg hj,List.getElem?_eq_none (by omega)]
 ·intro x hx b' hb'
  simp only[List.mem_singleton] at hx;subst hx
  simp[row,Value.ownBlock] at hb'
  subst hb'
  rw[lK];omega
 ·intro x hx b' hb'
  simp only[List.mem_singleton] at hx;subst hx
  simp[row,Value.ownBlock] at hb'
  subst hb'
  exact .inl (by simp[row,Value.ownBlock])
end
end Sep
namespace Sep
open Go Go.RowKit
section
def sb(i:Nat)(acc:Array Bool)(o:Oper):Array Bool:=acc.push (o.after.any fun e=>Region.binds .any e&&(Nat.beq e.on i||acc.getD e.on false))
def Yr(i:Nat)(oi:Oper)(eA:Array Oper)(tl:Nat->Bool):List Oper->List Bool->Nat->Nat->Bool
 | [],[],_,_=>true
 | oj::os,lj::ls,j,W=>
  if (oj.after.any fun e=>Region.binds .any e&&(Nat.beq e.on i||Nat.testBit W e.on)) then !lj&&Yr i oi eA tl os ls (j+1) (W ||| (1 <<< j))
  else(Nat.beq j i||lj||(oi.apart eA oj && !tl j))&&Yr i oi eA tl os ls (j+1) W
 | _,_,_,_=>false
def KM(eA:Array Oper)(tl:Nat->Bool)(listed:Array Bool)(i:Nat):Bool:=
 match eA[i]? with
 | none=>false
 | some oi=>Yr i oi eA tl eA.toList listed.toList 0 0
theorem XB{i:Nat}{oi:Oper}{eA:Array Oper}{tl:Nat->Bool}:∀(os:List Oper) (ls:List Bool) (j W:Nat) (acc:Array Bool),acc.size=j->(∀ k,acc.getD k false=W.testBit k)->Yr i oi eA tl os ls j W=true->
  ls.length=os.length/\(os.foldl (sb i) acc).size=j+os.length/\(∀ k,k<j->(os.foldl (sb i) acc).getD k false=acc.getD k false)/\
  ∀(m:Nat) (oj:Oper) (lj:Bool),os[m]?=some oj->ls[m]?=some lj->
   ((os.foldl (sb i) acc).getD (j+m) false=true->lj=false/\(oj.after.any fun e=>Region.binds .any e&&(Nat.beq e.on i||(os.foldl (sb i) acc).getD e.on false))=true)/\
   ((os.foldl (sb i) acc).getD (j+m) false=false->j+m=i\/lj=true\/(oi.apart eA oj=true/\tl (j+m)=false))
 | [],[],j,W,acc,hs,hW,h=>⟨rfl,hs,fun _ _=>rfl,fun m oj lj h1 _=>by simp at h1⟩
 | [],_::_,j,W,acc,hs,hW,h=>by simp[Yr] at h
 | _::_,[],j,W,acc,hs,hW,h=>by simp[Yr] at h
 | oj::os,lj::ls,j,W,acc,hs,hW,h=>by
  rw[Yr] at h
  have hfun:(fun e:Edge=>Region.binds .any e&&(Nat.beq e.on i||Nat.testBit W e.on))=(fun e=>Region.binds .any e&&(Nat.beq e.on i||acc.getD e.on false)):=by
   funext e;rw[hW]
  rw[hfun] at h
  have Bp:∀(b:Bool) (k:Nat),(acc.push b).getD k false=if k=j then b else acc.getD k false:=by
   intro b k
   by_cases hk:k=j
   ·subst hk;subst hs;simp
   ·rw[if_neg hk]
    rcases Nat.lt_or_ge k acc.size with h' | h'
    ·simp[Array.getD,h',Nat.lt_succ_of_lt h',Array.getElem_push_lt h']
    ·have h1:¬k<acc.size:=by omega
     have h2:¬k<acc.size+1:=by omega
     simp[Array.getD,h1,h2]
  have key:∀(b:Bool) (W':Nat),sb i acc oj=acc.push b->(∀ k,(acc.push b).getD k false=W'.testBit k)->Yr i oi eA tl os ls (j+1) W'=true->
    ((b=true->lj=false)/\(b=false->j=i\/lj=true\/(oi.apart eA oj=true/\tl j=false)))->(oj.after.any fun e=>Region.binds .any e&&(Nat.beq e.on i||acc.getD e.on false))=b->
    (lj::ls).length=(oj::os).length/\((oj::os).foldl (sb i) acc).size=j+(oj::os).length/\(∀ k,k<j->((oj::os).foldl (sb i) acc).getD k false=acc.getD k false)/\
    ∀(m:Nat) (DD:Oper) (DE:Bool),(oj::os)[m]?=some DD->(lj::ls)[m]?=some DE->
     (((oj::os).foldl (sb i) acc).getD (j+m) false=true->DE=false/\(DD.after.any fun e=>Region.binds .any e&&(Nat.beq e.on i||((oj::os).foldl (sb i) acc).getD e.on false))=true)/\
     (((oj::os).foldl (sb i) acc).getD (j+m) false=false->j+m=i\/DE=true\/(oi.apart eA DD=true/\tl (j+m)=false)):=by
   intro b W' hb C4 hg hc hbe
   obtain⟨i1,i2,i3,i4⟩:=XB os ls (j+1) W' (acc.push b) (by simp[hs]) C4 hg
   rw[List.foldl_cons,hb]
   have hj:=i3 j (by omega)
   rw[Bp,if_pos rfl] at hj
   refine⟨by simp[i1],by rw[i2];simp;omega,fun k hk=>?_,fun m DD DE h1 h2=>?_⟩
   ·rw[i3 k (by omega),Bp,if_neg (by omega)]
   ·cases m with
    | zero=>
     simp only[List.getElem?_cons_zero,Option.some.injEq] at h1 h2
     subst h1 h2
     rw[Nat.add_zero,hj]
     refine⟨fun hbt=>⟨hc.1 hbt,?_⟩,fun hbf=>hc.2 hbf⟩
     rw[hbt] at hbe
     rw[Array.any_eq_true] at hbe ⊢
     obtain⟨q,hq,he⟩:=hbe
     refine⟨q,hq,?_⟩
     simp only[Bool.and_eq_true,Bool.or_eq_true] at he ⊢
     refine⟨he.1,he.2.imp id fun h4=>?_⟩
     have h5:oj.after[q].on<j:=by
      rcases Nat.lt_or_ge oj.after[q].on j with h' | h'
      ·exact h'
      ·have h6:¬oj.after[q].on<acc.size:=by omega
       simp[Array.getD,h6] at h4
     rw[i3 _ (by omega),Bp,if_neg (by omega)];exact h4
    | succ m=>
     simp only[List.getElem?_cons_succ] at h1 h2
     have:=i4 m DD DE h1 h2
     rw[show j+1+m=j+(m+1) by omega] at this
     exact this
  by_cases hb:(oj.after.any fun e=>Region.binds .any e&&(Nat.beq e.on i||acc.getD e.on false))=true
  ·rw[if_pos hb] at h
   simp only[Bool.and_eq_true,Bool.not_eq_true'] at h
   refine key true _ (by unfold sb;rw[hb]) (fun k=>?_) h.2 ⟨fun _=>h.1,fun h'=>by cases h'⟩ hb
   rw[Bp,Nat.testBit_or,Nat.one_shiftLeft,Nat.testBit_two_pow,hW]
   by_cases hk:k=j
   ·subst hk;simp
   ·have:¬j=k:=fun h=>hk h.symm
    simp[hk,this]
  ·rw[if_neg hb] at h
   simp only[Bool.and_eq_true,Bool.or_eq_true,Bool.not_eq_true'] at h
   have hb':=Bool.eq_false_iff.2 hb
   refine key false _ (by unfold sb;rw[hb']) (fun k=>?_) h.2 ⟨fun h'=>(by cases h'),fun _=>?_⟩ hb'
   ·rw[Bp]
    by_cases hk:k=j
    ·subst hk
     rw[if_pos rfl,<- hW]
     have h6:¬k<acc.size:=by omega
     simp[Array.getD,h6]
    ·rw[if_neg hk,hW]
   ·rcases h.1 with(h1 | h1) | h1
    ·exact .inl (Nat.eq_of_beq_eq_true h1)
    ·exact .inr (.inl h1)
    ·exact .inr (.inr h1)
theorem zP{eA:Array Oper}{tl:Nat->Bool}{listed:Array Bool}{i:Nat}(h:KM eA tl listed i=true:=by kernel_rfl):uf eA tl listed i=true:=by
 unfold KM at h
 unfold uf
 cases hi:eA[i]? with
 | none=>rw[hi] at h;cases h
 | some oi=>
  rw[hi] at h
  obtain⟨i1,i2,i3,i4⟩:=XB eA.toList listed.toList 0 0 #[] rfl (fun k=>by simp[Array.getD]) h
  have hw:eA.toList.foldl (sb i) #[]=fh eA i:=by unfold fh;rw[<- Array.foldl_toList];rfl
  rw[hw] at i2 i3 i4
  have C5:listed.size=eA.size:=by simpa using i1
  simp only[Bool.and_eq_true,List.all_eq_true,List.mem_range]
  have lK:(fh eA i).size=eA.size:=by simpa using i2
  refine⟨by rw[lK];exact Nat.beq_refl _,fun j hj=>?_⟩
  have h1:eA.toList[j]?=some eA[j]:=by simp[hj]
  have h2:listed.toList[j]?=some (listed[j]'(by omega)):=by simp[C5,hj]
  have h3:=i4 j _ _ h1 h2
  rw[Nat.zero_add] at h3
  have h4:eA[j]?=some eA[j]:=Array.getElem?_eq_getElem hj
  have h5:listed.getD j true=listed[j]'(by omega):=by simp[Array.getD,C5,hj]
  rw[h4,h5]
  cases hb:(fh eA i).getD j false with
  | true=>
   have h6:=h3.1 hb
   simp only[h6.1,Bool.not_true,Bool.false_or,Bool.not_false,Bool.true_and,Bool.or_true,Bool.true_or,and_true]
   exact h6.2
  | false=>
   have h6:=h3.2 hb
   simp only[Bool.not_false,Bool.true_or,true_and,Bool.or_false]
   rcases h6 with h6 | h6 | h6
   ·subst h6;simp[Nat.beq_refl]
   ·rw[h6];simp
   ·rw[h6.1,h6.2];simp
def QW(eA:Array Oper)(listed:Array Bool)(i:Nat):Bool:=
 match eA[i]? with
 | none=>false
 | some o => !listed.getD i true&&o.after.all fun e => !Region.binds .any e||listed.getD e.on false
theorem zO{eA:Array Oper}{listed:Array Bool}{i:Nat}(h:QW eA listed i=true:=by kernel_rfl):(Region.ready .any eA listed).contains i=true:=by
 unfold QW at h
 cases hi:eA[i]? with
 | none=>rw[hi] at h;cases h
 | some o=>
  rw[hi] at h
  simp only[Bool.and_eq_true,Bool.not_eq_true',Array.all_eq_true_iff_forall_mem,Bool.or_eq_true] at h
  have hm:i∈Region.ready .any eA listed:=mem_ready.2 ⟨h.1,o,hi,fun e he hb=>by
   rcases h.2 e he with h1 | h1
   ·rw[hb] at h1;cases h1
   ·exact h1⟩
  simpa using hm
section
variable [Rnd]
theorem WD.d{P:Program}{n:Nat}{F:List Nat}{w₀:World}{env:List (Nat×Value)}{L:List Asrt}{eA:Array Oper}{tl:Nat->Bool}{Ls:List Asrt}{fuel:Nat}{listed:Array Bool}{Q:Act->World->Prop}(iU:Array Bool)(h:listed=iU)(k:WD P n F w₀ eA tl Ls Q fuel iU env L):WD P n F w₀ eA tl Ls Q fuel listed env L:=h▸k
end
section freezeo
variable [Rnd] {P:Program} {n:Nat} {F:List Nat} {w₀:World} {eA:Array Oper} {tl:Nat->Bool} {Ls:List Asrt} {Q:Act->World->Prop} {fuel:Nat} {listed:Array Bool} {env:List (Nat×Value)} {L R R':List Asrt} {Z Zn:Zp} {i:Nat} {e sz:Nat} {T:TypeId}
theorem wF.freezeS{α:Type}{Pr:List Value->α->Prop}{ao:Option Addr}{cap:Nat}{cs:List Value}{ls:List α}(hm:Pick L (row (.slice ao ls.length cap) e sz cs) R)(hz:Pick R (fz Zn) R')(hp:PZ F w₀ Z)(hr:RR sz Pr cs ls)(k:∀ lI,xm (Z++Zn) (Z++lI)->ZS (Z++lI) sz Pr ao cap ls->wF P n F w₀ eA tl Ls Q fuel listed env (fz lI::R') i):wF P n F w₀ eA tl Ls Q fuel listed env L i:=fun a w h=>by
 obtain⟨lI,h1,h2,h3⟩:=h.hp.freezeS hm hz hp hr
 exact k lI h1 h2 a w (h.world h3)
theorem wF.freezeC{bb:Nat}{cs:List Value}(hm:Pick L (stb bb T cs) R)(hz:Pick R (fz Zn) R')(k:∀ lI,xm (Z++Zn) (Z++lI)->ZC (Z++lI) ⟨bb,0,none⟩ cs->wF P n F w₀ eA tl Ls Q fuel listed env (fz lI::R') i):wF P n F w₀ eA tl Ls Q fuel listed env L i:=fun a w h=>by
 obtain⟨lI,h1,h2,h3⟩:=h.hp.freezeC hm hz
 exact k lI h1 h2 a w (h.world h3)
end freezeo
/-! ### calls: what a callee is given, said once -/
section calls
variable [Rnd]
variable {P:Program} {F:List Nat} {w₀:World} {L Lc Lr R R' B:List Asrt} {Z Zn:Zp} {f:FuncId} {vs:Array Value} {Q:World->Ending->World->Prop}
theorem cc(hz:PZ F w₀ Z)(hs:Sel L Lc Lr)(hc:∀ w,PZ (fps Lc) w Z->Hp (fps Lc) w w Lc->Calls P f vs w (Q w)):∀ w,Hp F w₀ w L->Calls P f vs w (Q w):=
 fun w hw=>hc w (hz.call hw hs) (hw.owns hs)
theorem jH(hz:PZ F w₀ Z)(hs:Sel L Lc Lr)(hm:Pick Lr (fz Zn) R)(hc:∀ w,PZ (fps Lc) w (Z++Zn)->Hp (fps Lc) w w Lc->Calls P f vs w (Q w)):∀ w,Hp F w₀ w L->Calls P f vs w (Q w):=
 fun w hw=>hc w (hz.call2 hw hs hm) (hw.owns hs)
theorem sc(hz:PZ F w₀ Z)(hs:Sel L Lc Lr)(hb:Sel Lr B R')(hc:∀ w,PZ (fps Lc) w (Z++ot w (fps B))->Hp (fps Lc) w w Lc->(∀ x,x∈B->∀ Z':Zp,ZA (Z'++ot w (fps B)) x)->Calls P f vs w (Q w)):∀ w,Hp F w₀ w L->Calls P f vs w (Q w):=
 fun w hw=>hc w ((hz.call hw hs).lend hw hs (fun _ hx'=>hb.mem hx')) (hw.owns hs) (fun _ hx Z'=>hw.lent hs (fun _ hx'=>hb.mem hx') hx Z')
theorem py(hz:PZ F w₀ Z)(hs:Sel L Lc Lr)(hm:Pick Lr (fz Zn) R)(hb:Sel Lr B R')(hc:∀ w,PZ (fps Lc) w ((Z++Zn)++ot w (fps B))->Hp (fps Lc) w w Lc->(∀ x,x∈B->∀ Z':Zp,ZA (Z'++ot w (fps B)) x)->Calls P f vs w (Q w)):∀ w,Hp F w₀ w L->Calls P f vs w (Q w):=
 fun w hw=>hc w ((hz.call2 hw hs hm).lend hw hs (fun _ hx'=>hb.mem hx')) (hw.owns hs) (fun _ hx Z'=>hw.lent hs (fun _ hx'=>hb.mem hx') hx Z')
end calls
end
section
section unroll
variable [Rnd] {P:Program} {n:Nat} {F:List Nat} {w₀:World} {Q:Exit->Act->World->Prop} {env:List (Nat×Value)} {L:List Asrt} {c:Code}
def nX(P:Program)(Q:Exit->Act->World->Prop)(c:Code)(a:Act)(w:World):Prop:=
 ∀(b:Frame) (k:List Item) (cs:List Frame),b.roundOf=FN.round->FN.fn b.fn->FN.room (cs.length+1+0)->
  ∃ e a' w',Q e a' w'/\ArrivesIn (Machine.fenced P FN) P (lone (b.atR a (.code c :: .inLoop c::k)) cs w) b k cs e a' w'
theorem nX.of(h:WC P n F w₀ (Exit.then (nX P Q c) Q) c env L):∀ a w,SS n F w₀ env L a w->nX P Q c a w:=by
 intro a w hs b k cs C2 hb BU
 obtain⟨e,pf,pg,hq,oQ⟩:=h a w hs b (.inLoop c::k) cs C2 hb BU
 cases e with
 | normal=>
  have hq:nX P Q c pf pg:=hq
  obtain⟨Cv,Cw,AN,Bi,zA⟩:=hq b k cs C2 hb BU
  exact⟨Cv,Cw,AN,Bi,.of_steps (StepsIn.trans oQ (.one (fenced_calm hb BU rfl) stepR_inLoop)) zA⟩
 | exit id=>exact⟨_,pf,pg,hq,.pass (x := .inLoop c) rfl (fun _ _ => .inl (by simp)) oQ⟩
 | goto l=>exact⟨_,pf,pg,hq,.pass (x := .inLoop c) rfl (fun _ _ => .inl (by simp)) oQ⟩
 | ret=>exact⟨_,pf,pg,hq,.pass (x := .inLoop c) rfl (fun _ _ => .inl (by simp)) oQ⟩
 | panic ch=>exact⟨_,pf,pg,hq,.pass (x := .inLoop c) rfl (fun _ _ => .inl (by simp)) oQ⟩
 | outgrown=>exact⟨_,pf,pg,hq,.pass (x := .inLoop c) rfl (fun _ _ => .inl (by simp)) oQ⟩
end unroll
end
section
variable [Rnd]
section
variable {P:Program} {n:Nat} {F:List Nat} {w₀:World} {env:List (Nat×Value)} {L Lc Lr R:List Asrt} {eA:Array Oper} {Q:Exit->Act->World->Prop} {ir:List Oper} {dd:Nat}
theorem WL.Qf{A0 A1 A2 A3 A4 A5 A6 A7 A8 A9 mP nA tv uC wW xR zq zB Ah AO BJ Cx:Type}{o:Oper}{φ:A0->A1->A2->A3->A4->A5->A6->A7->A8->A9->mP->nA->tv->uC->wW->xR->zq->zB->Ah->AO->BJ->Cx->Prop}{val:A0->A1->A2->A3->A4->A5->A6->A7->A8->A9->mP->nA->tv->uC->wW->xR->zq->zB->Ah->AO->BJ->Cx->Value}{M:A0->A1->A2->A3->A4->A5->A6->A7->A8->A9->mP->nA->tv->uC->wW->xR->zq->zB->Ah->AO->BJ->Cx->List Asrt}{f:FuncId}{vs:Array Value}(hg:gd env eA o=some true)(hd:o.dst=some dd)(kS:Nat.blt dd n=true)(iB:∀ a w,SS n F w₀ env L a w->(execOp a.eval o).run P w = .ok (.enter f vs) w)(hs:Sel L Lc Lr)(hc:∀ w,Hp F w₀ w L->Calls P f vs w fun e w'=>∃ x0 x1 x2 x3 x4 x5 x6 x7 x8 x9 zy Ax BY B0 B1 B2 B3 B4 B5 B6 B7 B8,e = .returned (val x0 x1 x2 x3 x4 x5 x6 x7 x8 x9 zy Ax BY B0 B1 B2 B3 B4 B5 B6 B7 B8)/\(φ x0 x1 x2 x3 x4 x5 x6 x7 x8 x9 zy Ax BY B0 B1 B2 B3 B4 B5 B6 B7 B8)/\Hp (fps Lc) w w' (M x0 x1 x2 x3 x4 x5 x6 x7 x8 x9 zy Ax BY B0 B1 B2 B3 B4 B5 B6 B7 B8))(k:∀ x0 x1 x2 x3 x4 x5 x6 x7 x8 x9 zy Ax BY B0 B1 B2 B3 B4 B5 B6 B7 B8,(φ x0 x1 x2 x3 x4 x5 x6 x7 x8 x9 zy Ax BY B0 B1 B2 B3 B4 B5 B6 B7 B8)->WL P n F w₀ eA Q ir ((dd,val x0 x1 x2 x3 x4 x5 x6 x7 x8 x9 zy Ax BY B0 B1 B2 B3 B4 B5 B6 B7 B8)::env) ((M x0 x1 x2 x3 x4 x5 x6 x7 x8 x9 zy Ax BY B0 B1 B2 B3 B4 B5 B6 B7 B8)++Lr)):WL P n F w₀ eA Q (o::ir) env L:=
 WL.enter (G:=A0×A1×A2×A3×A4×A5×A6×A7×A8×A9×mP×nA×tv×uC×wW×xR×zq×zB×Ah×AO×BJ×Cx) (φ:=fun g=>(cu22 φ g)) (val:=fun g=>(cu22 val g)) (M:=fun g=>(cu22 M g)) hg hd kS iB hs
  (fun w h=>(hc w h).mono fun e w'=>by rintro⟨x0,x1,x2,x3,x4,x5,x6,x7,x8,x9,zy,Ax,BY,B0,B1,B2,B3,B4,B5,B6,B7,B8,h1,h2,h3⟩;exact⟨⟨x0,x1,x2,x3,x4,x5,x6,x7,x8,x9,zy,Ax,BY,B0,B1,B2,B3,B4,B5,B6,B7,B8⟩,h1,h2,h3⟩) (fun g h=>k g.1 g.2.1 g.2.2.1 g.2.2.2.1 g.2.2.2.2.1 g.2.2.2.2.2.1 g.2.2.2.2.2.2.1 g.2.2.2.2.2.2.2.1 g.2.2.2.2.2.2.2.2.1 g.2.2.2.2.2.2.2.2.2.1 g.2.2.2.2.2.2.2.2.2.2.1 g.2.2.2.2.2.2.2.2.2.2.2.1 g.2.2.2.2.2.2.2.2.2.2.2.2.1 g.2.2.2.2.2.2.2.2.2.2.2.2.2.1 g.2.2.2.2.2.2.2.2.2.2.2.2.2.2.1 g.2.2.2.2.2.2.2.2.2.2.2.2.2.2.2.1 g.2.2.2.2.2.2.2.2.2.2.2.2.2.2.2.2.1 g.2.2.2.2.2.2.2.2.2.2.2.2.2.2.2.2.2.1 g.2.2.2.2.2.2.2.2.2.2.2.2.2.2.2.2.2.2.1 g.2.2.2.2.2.2.2.2.2.2.2.2.2.2.2.2.2.2.2.1 g.2.2.2.2.2.2.2.2.2.2.2.2.2.2.2.2.2.2.2.2.1 g.2.2.2.2.2.2.2.2.2.2.2.2.2.2.2.2.2.2.2.2.2 h)
end
end
end Sep

/- A part of this claim's proof: memory that is never written again, as a pool of blocks. No conditions. -/
import Derived.Test.YtcahmabkeaijdaaGreatSepCore
import Derived.Laws.MakeOwn
import Derived.Test.YtcahmabkeaijdaaGreatSepFrame
import Derived.RangeFuncLeaves
import Derived.Lib.AppendZeros
import Derived.Shelf.SlSortCmp.PdqK
set_option linter.all false
namespace Sep
open Go Go.RowKit
section
variable {cs ds:List Value}{w:World}{α:Type}{A:Addr}{sz:Nat}{x:Asrt}
variable [Rnd]
abbrev Zp:=List (Nat×Obj)
def pO(Z:Zp)(w:World):Prop:=∀ p∈Z,w.heap[p.1]?=some p.2
def PZ(F:List Nat)(Nv:World)(Z:Zp):Prop:=pO Z Nv/\∀ p∈Z,p.1∉F
def fz(Z:Zp):Asrt where
 fp:=Z.map (·.1)
 ok w:=pO Z w
 loc w w' h hl hk:=fun p hp=>by rw[h p.1 (List.mem_map.2 ⟨p,hp,rfl⟩) (hl p.1 (List.mem_map.2 ⟨p,hp,rfl⟩))];exact hk p hp
def ZC(Z:Zp)(A:Addr)(cs:List Value):Prop:=∀ w,pO Z w->∀ j u,cs[j]?=some u->w.cell? (A.add j)=some u
def xN(Z Z':Zp):Prop:=∀ w,pO Z' w->pO Z w
def ZA(Z:Zp)(x:Asrt):Prop:=∀ w,pO Z w->x.ok w
theorem xN.refl(Z:Zp):xN Z Z:=fun _ h=>h
theorem xN.trans{a b c:Zp}(h:xN a b)(k:xN b c):xN a c:=fun w hw=>h w (k w hw)
theorem xN.left(a b:Zp):xN a (a++b):=fun _ h p hp=>h p (List.mem_append_left _ hp)
theorem zl{a b:Zp}:xN a (a++b):=xN.left a b
theorem xN.right(a b:Zp):xN b (a++b):=fun _ h p hp=>h p (List.mem_append_right _ hp)
theorem pO.app{a b:Zp}(h:pO a w)(k:pO b w):pO (a++b) w:=fun p hp=>(List.mem_append.1 hp).elim (h p) (k p)
theorem pO.nil(w:World):pO [] w:=fun _ h=>by cases h
theorem xN.app{a b c:Zp}(h:xN b c):xN (a++b) (a++c):=fun w hw=>((xN.left a c) w hw).app (h w ((xN.right a c) w hw))
theorem ZC.mono{Z Z':Zp}(h:ZC Z A cs)(k:xN Z Z'):ZC Z' A cs:=fun w hw=>h w (k w hw)
theorem ZA.mono{Z Z':Zp}(h:ZA Z x)(k:xN Z Z'):ZA Z' x:=fun w hw=>h w (k w hw)
def PV(F:List Nat)(Nv:World)(L:List Asrt)(Z:Zp):Prop:=∀ w,Hp F Nv w L->pO Z w
section
variable {F:List Nat} {Nv:World} {L Lc Lr R R':List Asrt} {Z Zn:Zp}
theorem pO.lt(h:pO Z w):∀ p∈Z,p.1<w.heap.size:=fun p hp=>(Array.getElem?_eq_some_iff.1 (h p hp)).1
theorem PZ.pv(h:PZ F Nv Z):PV F Nv L Z:=fun w hp p hpz=>by
 rw[hp.block p.1 (h.1.lt p hpz) (h.2 p hpz)];exact h.1 p hpz
theorem PZ.pv2(h:PZ F Nv Z)(hm:Pick L (fz Zn) R):PV F Nv L (Z++Zn):=fun w hp=>(h.pv w hp).app (hp.ok _ hm.mem)
theorem PZ.call(h:PZ F Nv Z)(hp:Hp F Nv w L)(hs:Sel L Lc Lr):PZ (fps Lc) w Z:=
 ⟨h.pv w hp,fun p hpz hb=>by
  obtain⟨x,hx,zR⟩:=hs.fps _ hb
  rcases hp.ow x hx _ zR with h1 | h1
  ·exact h.2 p hpz h1
  ·have:=h.1.lt p hpz;omega⟩
theorem Hp.apart(hp:Hp F Nv w L)(hs:Sel L Lc Lr)(hm:x∈Lr):∀ b∈x.fp,b∉fps Lc:=by
 intro b hb hc
 obtain⟨y,hy,xE⟩:=List.mem_flatMap.1 hc
 have h0:(Lc++Lr).Pairwise fun x y=>∀ b∈x.fp,b∉y.fp:=
  (List.Perm.pairwise_iff (fun {x y} hxy b hb hc=>hxy b hc hb) hs.perm).1 hp.sep
 exact(List.pairwise_append.1 h0).2.2 y hy _ hm b xE hb
theorem PZ.call2(h:PZ F Nv Z)(hp:Hp F Nv w L)(hs:Sel L Lc Lr)(hm:Pick Lr (fz Zn) R):PZ (fps Lc) w (Z++Zn):=by
 have h1:=h.call hp hs
 refine⟨h1.1.app (hp.ok _ (hs.memr hm.mem)),fun p hpz=>?_⟩
 rcases List.mem_append.1 hpz with hpz | hpz
 ·exact h1.2 p hpz
 ·exact hp.apart hs hm.mem _ (List.mem_map.2 ⟨p,hpz,rfl⟩)
def iK(w:World)(bs:List Nat):Zp:=bs.filterMap fun b=>(w.heap[b]?).map fun o=>(b,o)
theorem WW(w:World)(bs:List Nat):pO (iK w bs) w:=by
 intro p hp
 obtain⟨b,_,hb⟩:=List.mem_filterMap.1 hp
 simp only[Option.map_eq_some_iff] at hb
 obtain⟨o,ho,rfl⟩:=hb
 exact ho
theorem eL{bs:List Nat}{p:Nat×Obj}(hp:p∈iK w bs):p.1∈bs:=by
 obtain⟨b,hb,hq⟩:=List.mem_filterMap.1 hp
 simp only[Option.map_eq_some_iff] at hq
 obtain⟨o,ho,rfl⟩:=hq
 exact hb
theorem eM{w':World}{bs:List Nat}{b:Nat}(h:pO (iK w bs) w')(hb:b∈bs)(hl:b<w.heap.size):w'.heap[b]?=w.heap[b]?:=by
 have h1:w.heap[b]?=some w.heap[b]:=Array.getElem?_eq_getElem hl
 rw[h1]
 exact h (b,w.heap[b]) (List.mem_filterMap.2 ⟨b,hb,by rw[h1];rfl⟩)
theorem PZ.lend{B:List Asrt}(h:PZ (fps Lc) w Z)(hp:Hp F Nv w L)(hs:Sel L Lc Lr)(hb:∀ x∈B,x∈Lr):PZ (fps Lc) w (Z++iK w (fps B)):=by
 refine⟨h.1.app (WW _ _),fun p hpz=>?_⟩
 rcases List.mem_append.1 hpz with hpz | hpz
 ·exact h.2 p hpz
 ·obtain⟨x,hx,zR⟩:=List.mem_flatMap.1 (eL hpz)
  exact hp.apart hs (hb x hx) _ zR
theorem Hp.lent{B:List Asrt}(hp:Hp F Nv w L)(hs:Sel L Lc Lr)(hb:∀ x∈B,x∈Lr)(hx:x∈B)(Z:Zp):ZA (Z++iK w (fps B)) x:=by
 intro w' qA
 have h1:=(xN.right Z _) w' qA
 have hm:=hs.memr (hb x hx)
 exact x.loc w w' (fun b zR hl=>eM h1 (List.mem_flatMap.2 ⟨x,hx,zR⟩) hl) (hp.lt x hm) (hp.ok x hm)
theorem Hp.pool(h:Hp F Nv w L):Hp F Nv w (fz []::L):=
 h.add (pO.nil w) (by simp[fz]) (by simp[fz]) (by simp[fz])
theorem Sel.ad{α:Type}(x y:α):∀ R:List α,Sel (x::y::R) R [x,y]
 | [] => .nil
 | z::R => .cons (.there (.there .here)) (Sel.ad x y R)
theorem Hp.freeze(hm:Pick L x R)(hz:Pick R (fz Zn) R')(h:Hp F Nv w L):∃ tg,xN Zn tg/\ZA tg x/\Hp F Nv w (fz tg::R'):=by
 have h1:Hp F Nv w (x::fz Zn::R'):=h.sub (.cons hm (.cons hz .all))
 have hx:=h1.lt x (by simp)
 refine⟨iK w x.fp++Zn,xN.right _ _,fun w' qA=>?_,?_⟩
 ·exact x.loc w w' (fun b hb hl=>eM ((xN.left _ _) w' qA) hb hl) hx (h1.ok x (by simp))
 ·have hR:=h1.sub (L':=R') (M:=x::fz Zn::[]) ?_
  ·refine hR.add (x:=fz (iK w x.fp++Zn)) ((WW _ _).app (h1.ok (fz Zn) (by simp))) ?_ ?_ ?_
   all_goals
    simp only[fz,List.map_append,List.mem_append]
   ·rintro b (hb | hb)
    ·obtain⟨p,hp,rfl⟩:=List.mem_map.1 hb
     exact hx _ (eL hp)
    ·exact h1.lt (fz Zn) (by simp) b hb
   ·rintro b (hb | hb)
    ·obtain⟨p,hp,rfl⟩:=List.mem_map.1 hb
     exact h1.ow x (by simp) _ (eL hp)
    ·exact h1.ow (fz Zn) (by simp) b hb
   ·rintro y hy b (hb | hb) hc
    ·obtain⟨p,hp,rfl⟩:=List.mem_map.1 hb
     exact(List.pairwise_cons.1 h1.sep).1 y (by simp[hy]) _ (eL hp) hc
    ·exact(List.pairwise_cons.1 (List.pairwise_cons.1 h1.sep).2).1 y hy b hb hc
  ·exact Sel.ad x (fz Zn) R'
theorem Hp.merge{Z1 Z2:Zp}(hm:Pick L (fz Z1) R)(hz:Pick R (fz Z2) R')(h:Hp F Nv w L):Hp F Nv w (fz (Z2++Z1)::R'):=by
 have h1:Hp F Nv w (fz Z1::fz Z2::R'):=h.sub (.cons hm (.cons hz .all))
 have hR:=h1.sub (Sel.ad (fz Z1) (fz Z2) R')
 refine hR.add (x:=fz (Z2++Z1)) ((h1.ok (fz Z2) (by simp)).app (h1.ok (fz Z1) (by simp))) ?_ ?_ ?_
 all_goals simp only[fz,List.map_append,List.mem_append]
 ·rintro b (hb | hb)
  ·exact h1.lt (fz Z2) (by simp) b hb
  ·exact h1.lt (fz Z1) (by simp) b hb
 ·rintro b (hb | hb)
  ·exact h1.ow (fz Z2) (by simp) b hb
  ·exact h1.ow (fz Z1) (by simp) b hb
 ·rintro y hy b (hb | hb) hc
  ·exact(List.pairwise_cons.1 (List.pairwise_cons.1 h1.sep).2).1 y hy b hb hc
  ·exact(List.pairwise_cons.1 h1.sep).1 y (by simp[hy]) b hb hc
end
theorem ZC.sub{Z:Zp}(h:ZC Z A cs)(k:Nat):ZC Z (A.add k) (cs.drop k):=
 fun w hw j u hu=>by rw[Addr.p9];exact h w hw _ _ (by simpa using hu)
theorem ZC.pre{Z:Zp}(h:ZC Z A (cs++ds)):ZC Z A cs:=
 fun w hw j u hu=>h w hw j u (by
  have hj:j<cs.length:=(List.getElem?_eq_some_iff.1 hu).1
  rw[List.getElem?_append_left hj];exact hu)
theorem ZA.stb{Z:Zp}{b:Nat}{T:TypeId}{cs:List Value}(h:ZA Z (stb b T cs)):ZC Z ⟨b,0,none⟩ cs:=by
 intro w hw j u hu
 have:=dF.1 (h w hw)
 rw[Addr.add_lit,cell_of_row w b _ _ T (0,0) this]
 simpa using hu
section
variable {F:List Nat} {Nv:World} {L R:List Asrt} {Z:Zp} {v:Value}
theorem mG(pv:PV F Nv L Z)(hc:ZC Z A cs)[hv:Nu cs[0]? (some v)]:∀ w,Hp F Nv w L->w.cell? A=some v:=by
 intro w h
 have:=hc w (pv w h) 0 v hv.1
 simpa [Addr.add] using this
theorem wA{k:Nat}(pv:PV F Nv L Z)(hc:ZC Z A cs)[hv:Nu cs[k]? (some v)]:∀ w,Hp F Nv w L->w.cell? (A.add k)=some v:=
 fun w h=>hc w (pv w h) k v hv.1
theorem qV(pv:PV F Nv L Z)(hc:ZC Z A cs):∀ w,Hp F Nv w L->∀ j u,cs[j]?=some u->w.cell? (A.add j)=some u:=fun w h=>hc w (pv w h)
theorem dH{off s:Nat}(pv:PV F Nv L Z)(hc:ZC Z A cs)(hd:(cs.drop off).take s=ds):∀ w,Hp F Nv w L->∀ j u,ds[j]?=some u->w.cell? ((A.add off).add j)=some u:=by
 subst hd
 intro w h j u hu
 refine(hc.sub off) w (pv w h) j u ?_
 rw[List.getElem?_take] at hu
 split at hu
 ·exact hu
 ·cases hu
end
def RR{α:Type}(sz:Nat)(Pr:List Value->α->Prop)(cs:List Value)(l:List α):Prop:=
 ∃ rows:List (List Value),rows.flatten=cs/\(∀ r∈rows,r.length=sz)/\rows.length=l.length/\∀(i:Nat) (r:List Value) (x:α),rows[i]?=some r->l[i]?=some x->Pr r x
def ZS{α:Type}(Z:Zp)(sz:Nat)(Pr:List Value->α->Prop)(ao:Option Addr)(cap:Nat)(l:List α):Prop:=
 l.length<=cap/\cap<=maxLen/\∃ cs,RR sz Pr cs l/\(l≠[]->∃ A,ao=some A/\ZC Z A cs)
theorem ZS.nil(Z:Zp)(sz:Nat)(Pr:List Value->α->Prop):ZS Z sz Pr none 0 []:=
 ⟨by simp,by simp,[],⟨[],rfl,by simp,rfl,by simp⟩,fun h=>absurd rfl h⟩
theorem ZS.mono{α:Type}{Z Z':Zp}{sz:Nat}{Pr:List Value->α->Prop}{ao:Option Addr}{cap:Nat}{l:List α}(h:ZS Z sz Pr ao cap l)(k:xN Z Z'):ZS Z' sz Pr ao cap l:=by
 obtain⟨h1,h2,cs,h3,h4⟩:=h
 exact⟨h1,h2,cs,h3,fun n9=>let ⟨A,hA,hc⟩:=h4 n9;⟨A,hA,hc.mono k⟩⟩
theorem RR.weak{Pr Pr':List Value->α->Prop}{l:List α}(h:RR sz Pr cs l)(k:∀ r x,Pr r x->Pr' r x):RR sz Pr' cs l:=by
 obtain⟨rows,h1,h2,h3,h4⟩:=h
 exact⟨rows,h1,h2,h3,fun i r x hr hx=>k r x (h4 i r x hr hx)⟩
theorem ZS.weak{α:Type}{Z:Zp}{sz:Nat}{Pr Pr':List Value->α->Prop}{ao:Option Addr}{cap:Nat}{l:List α}(h:ZS Z sz Pr ao cap l)(k:∀ r x,Pr r x->Pr' r x):ZS Z sz Pr' ao cap l:=by
 obtain⟨h1,h2,cs,h3,h4⟩:=h
 exact⟨h1,h2,cs,h3.weak k,h4⟩
theorem RR.flat{enc:α->List Value}(hl:∀ x,(enc x).length=sz)(l:List α):RR sz (fun r x=>r=enc x) (l.flatMap enc) l:=by
 refine⟨l.map enc,by rw[List.flatMap_def],?_,by simp,?_⟩
 ·intro r hr;obtain⟨x,_,rfl⟩:=List.mem_map.1 hr;exact hl x
 ·intro i r x hr hx
  rw[List.getElem?_map,hx] at hr
  simpa using hr.symm
theorem RR.toFlat{enc:α->List Value}{l:List α}(h:RR sz (fun r x=>r=enc x) cs l):cs=l.flatMap enc:=by
 obtain⟨rows,h1,h2,h3,h4⟩:=h
 have hr:rows=l.map enc:=by
  apply List.ext_getElem?
  intro i
  rw[List.getElem?_map]
  cases hx:l[i]? with
  | none=>
   have:rows[i]?=none:=by rw[List.getElem?_eq_none_iff] at hx ⊢;omega
   simp[this]
  | some x=>
   have nU:i<rows.length:=by have:=(List.getElem?_eq_some_iff.1 hx).1;omega
   have:=h4 i _ x (List.getElem?_eq_getElem nU) hx
   rw[List.getElem?_eq_getElem nU,this];rfl
 rw[<- h1,hr,List.flatMap_def]
theorem RR.nil(sz:Nat)(Pr:List Value->α->Prop):RR sz Pr [] []:=⟨[],rfl,by simp,rfl,by simp⟩
theorem RR.cons{Pr:List Value->α->Prop}{r:List Value}{x:α}{l:List α}(hl:r.length=sz)(h:Pr r x)(t:RR sz Pr cs l):RR sz Pr (r++cs) (x::l):=by
 obtain⟨rows,h1,h2,h3,h4⟩:=t
 refine⟨r::rows,by simp[h1],?_,by simp[h3],?_⟩
 ·intro r' hr;rcases List.mem_cons.1 hr with rfl | hr
  ·exact hl
  ·exact h2 r' hr
 ·intro i r' x' hr hx
  cases i with
  | zero=>simp at hr hx;subst hr hx;exact h
  | succ i=>exact h4 i r' x' (by simpa using hr) (by simpa using hx)
theorem RR.app{Pr:List Value->α->Prop}{l m:List α}(h:RR sz Pr cs l)(k:RR sz Pr ds m):RR sz Pr (cs++ds) (l++m):=by
 obtain⟨r1,a1,a2,a3,a4⟩:=h
 obtain⟨r2,b1,b2,b3,b4⟩:=k
 refine⟨r1++r2,by simp[a1,b1],?_,by simp[a3,b3],?_⟩
 ·intro r hr;rcases List.mem_append.1 hr with hr | hr
  ·exact a2 r hr
  ·exact b2 r hr
 ·intro i r x hr hx
  by_cases hi:i<r1.length
  ·rw[List.getElem?_append_left hi] at hr
   rw[List.getElem?_append_left (by omega)] at hx
   exact a4 i r x hr hx
  ·rw[List.getElem?_append_right (by omega)] at hr
   rw[List.getElem?_append_right (by omega)] at hx
   exact b4 _ r x hr (by rw[a3];exact hx)
theorem RR.len{Pr:List Value->α->Prop}{l:List α}(h:RR sz Pr cs l):cs.length=l.length*sz:=by
 obtain⟨rows,h1,h2,h3,h4⟩:=h
 rw[<- h1,<- h3]
 clear h1 h3 h4
 induction rows with
 | nil=>simp
 | cons r rs ih=>rw[List.flatten_cons,List.length_append,h2 r (by simp),ih (fun r hr=>h2 r (List.mem_cons_of_mem _ hr)),List.length_cons,Nat.succ_mul,Nat.add_comm]
theorem RR.elem[Inhabited α]{Pr:List Value->α->Prop}{l:List α}(h:RR sz Pr cs l){i:Int}(h0:0<=i)(h1:i<l.length):
  ∃ r tl,r.length=sz/\cs.drop (i.toNat*sz)=r++tl/\Pr r (nth l i):=by
 obtain⟨rows,a1,a2,a3,a4⟩:=h
 have hir:i.toNat<rows.length:=by omega
 have hr:rows[i.toNat]?=some rows[i.toNat]:=List.getElem?_eq_getElem hir
 obtain⟨tl,ht⟩:=eI a2 hr
 refine⟨rows[i.toNat],tl,a2 _ (List.getElem_mem hir),by rw[<- a1];exact ht,?_⟩
 rw[<- tY h0 h1]
 exact a4 _ _ _ hr (List.getElem?_eq_getElem (by omega))
theorem ZS.elem{α:Type}[Inhabited α]{Z:Zp}{sz:Nat}{Pr:List Value->α->Prop}{ao:Option Addr}{cap:Nat}{l:List α}(h:ZS Z sz Pr ao cap l){i:Int}(h0:0<=i)(h1:i<l.length):
  ∃ A r,ao=some A/\ZC Z (A.add (i.toNat*sz)) r/\r.length=sz/\Pr r (nth l i):=by
 obtain⟨_,_,cs,h3,h4⟩:=h
 obtain⟨A,hA,hc⟩:=h4 (by rintro rfl;simp at h1;omega)
 obtain⟨r,tl,hr,hd,hP⟩:=h3.elem h0 h1
 have h5:=hc.sub (i.toNat*sz)
 rw[hd] at h5
 exact⟨A,r,hA,h5.pre,hr,hP⟩
theorem ae{sz:Nat}:∀(rows:List (List Value)) (k:Nat),(∀ r∈rows,r.length=sz)->k<=rows.length->rows.flatten.drop (k*sz)=(rows.drop k).flatten
 | [],k,_,hk=>by simp at hk;subst hk;simp
 | r::rs,0,_,_=>by simp
 | r::rs,k+1,hr,hk=>by
  have h0:r.length=sz:=hr r (by simp)
  rw[List.flatten_cons,Nat.succ_mul,Nat.add_comm,<- h0,<- List.drop_drop,List.drop_left,h0]
  simpa using ae rs k (fun r h=>hr r (List.mem_cons_of_mem _ h)) (by simpa using hk)
theorem ZS.sub{α:Type}{Z:Zp}{sz:Nat}{Pr:List Value->α->Prop}{ao:Option Addr}{cap:Nat}{l:List α}(h:ZS Z sz Pr ao cap l){lo hi:Nat}(h1:lo<=hi)(h2:hi<=l.length):
  ZS Z sz Pr (if cap=lo then ao else ao.map (·.add (lo*sz))) (cap-lo) ((l.take hi).drop lo):=by
 obtain⟨g1,g2,cs,⟨rows,a1,a2,a3,a4⟩,h4⟩:=h
 refine⟨by simp;omega,by omega,((rows.take hi).drop lo).flatten,⟨(rows.take hi).drop lo,rfl,?_,by simp[a3],?_⟩,?_⟩
 ·intro r hr;exact a2 r (List.mem_of_mem_take (List.mem_of_mem_drop hr))
 ·intro i r x hr hx
  simp only[List.getElem?_drop,List.getElem?_take] at hr hx
  split at hr
  ·rename_i nU;simp only[nU,if_true] at hx;exact a4 _ _ _ hr hx
  ·cases hr
 ·intro n9
  have nU:lo<hi:=by
   rcases Nat.lt_or_ge lo hi with h' | h'
   ·exact h'
   ·exact absurd (List.drop_eq_nil_of_le (by simp;omega)) n9
  obtain⟨A,rfl,hc⟩:=h4 (by rintro rfl;simp at h2;omega)
  have xD:cap≠lo:=by omega
  refine⟨A.add (lo*sz),by simp[xD],?_⟩
  have:=hc.sub (lo*sz)
  rw[<- a1,ae rows lo a2 (by omega)] at this
  have e:rows.drop lo=(rows.take hi).drop lo++rows.drop hi:=by
   rw[<- List.drop_append_of_le_length (by simp;omega),List.take_append_drop]
  rw[e,List.flatten_append] at this
  exact this.pre
theorem ZA.row{α:Type}{Z:Zp}{sz:Nat}{Pr:List Value->α->Prop}{ao:Option Addr}{cap:Nat}{e:TypeId}{cs:List Value}{l:List α}(h:ZA Z (row (.slice ao l.length cap) e sz cs))(hr:RR sz Pr cs l)(hw:∃ w,pO Z w):ZS Z sz Pr ao cap l:=by
 obtain⟨w,hw⟩:=hw
 obtain⟨n,h1,h2⟩:=h w hw
 rcases h2 with⟨hv,hn⟩ | ⟨b,n7,pA,hv,_,hh,Ad,zk,zN,Ak⟩
 ·injection hv with e1 e2 e3
  subst e1 e3
  have hl:l=[]:=List.eq_nil_of_length_eq_zero e2
  subst hl
  exact⟨by simp,by simp,cs,hr,fun n9=>absurd rfl n9⟩
 ·injection hv with e1 e2 e3
  subst e1 e3
  refine⟨by omega,zk,cs,hr,fun _=>⟨_,rfl,?_⟩⟩
  intro w' qA j u hu
  obtain⟨n',k1⟩:=h w' qA
  exact World.ownsRow.cells (g:=b) k1 rfl j u hu
end
section
variable {α A0 A1 A2 A3 A4:Type}{cs cs':List Value}{ao bo:Option Addr}{cap bb qr:Nat}{i:Int}{kk:IntKind}{ex:Exit}{dty t':TypeId}{w:World}
variable [Rnd]
def chk{R:Type}(p:Prop)[Decidable p](k:Option R):Option R:=if p then k else none
theorem xH{R:Type}{p:Prop}[Decidable p]{k:Option R}{r:R}(h:chk p k=some r):p/\k=some r:=by
 unfold chk at h;split at h
 ·exact⟨by assumption,h⟩
 ·cases h
theorem xJ{R:Type}{p:Prop}[Decidable p]{k:Option R}(h:p):chk p k=k:=if_pos h
theorem z8{A R:Type}{o:Option A}{F:A->Option R}{r:R}(h:o.bind F=some r):∃ x,o=some x/\F x=some r:=Option.bind_eq_some_iff.1 h
theorem jD{R:Type}{b:Bool}{x y:Option R}{r:R}(h:(if b=true then x else y)=some r)(hb:b=true):x=some r:=by rw[if_pos hb] at h;exact h
theorem jE{R:Type}{b:Bool}{x y:Option R}{r:R}(h:(if b=true then x else y)=some r)(hb:b=false):y=some r:=by rw[if_neg (by rw[hb];exact Bool.false_ne_true)] at h;exact h
def uB{R:Type}(K:Option R)(F:Option R->Option R):Option R:=F K
theorem qB{R:Type}{K:Option R}{F:Option R->Option R}{r:R}(h:uB K F=some r):∃ k,k=K/\F k=some r:=⟨K,rfl,h⟩
def qP{R A0:Type}(K:A0->Option R)(F:(A0->Option R)->Option R):Option R:=F K
theorem wo{R:Type}{K:A0->Option R}{F:(A0->Option R)->Option R}{r:R}(h:qP K F=some r):∃ k:A0->Option R,(∀ x0,k x0=K x0)/\F k=some r:=⟨K,fun _=>rfl,h⟩
def sK{R A0 A1:Type}(K:A0->A1->Option R)(F:(A0->A1->Option R)->Option R):Option R:=F K
theorem jZ{R:Type}{K:A0->A1->Option R}{F:(A0->A1->Option R)->Option R}{r:R}(h:sK K F=some r):∃ k:A0->A1->Option R,(∀ x0 x1,k x0 x1=K x0 x1)/\F k=some r:=⟨K,fun _ _=>rfl,h⟩
def jp3{R A0 A1 A2:Type}(K:A0->A1->A2->Option R)(F:(A0->A1->A2->Option R)->Option R):Option R:=F K
theorem Xf{R:Type}{K:A0->A1->A2->Option R}{F:(A0->A1->A2->Option R)->Option R}{r:R}(h:jp3 K F=some r):∃ k:A0->A1->A2->Option R,(∀ x0 x1 x2,k x0 x1 x2=K x0 x1 x2)/\F k=some r:=⟨K,fun _ _ _=>rfl,h⟩
def jp4{R A0 A1 A2 A3:Type}(K:A0->A1->A2->A3->Option R)(F:(A0->A1->A2->A3->Option R)->Option R):Option R:=F K
theorem Xg{R:Type}{K:A0->A1->A2->A3->Option R}{F:(A0->A1->A2->A3->Option R)->Option R}{r:R}(h:jp4 K F=some r):∃ k:A0->A1->A2->A3->Option R,(∀ x0 x1 x2 x3,k x0 x1 x2 x3=K x0 x1 x2 x3)/\F k=some r:=⟨K,fun _ _ _ _=>rfl,h⟩
def jp5{R A0 A1 A2 A3 A4:Type}(K:A0->A1->A2->A3->A4->Option R)(F:(A0->A1->A2->A3->A4->Option R)->Option R):Option R:=F K
theorem Xh{R:Type}{K:A0->A1->A2->A3->A4->Option R}{F:(A0->A1->A2->A3->A4->Option R)->Option R}{r:R}(h:jp5 K F=some r):∃ k:A0->A1->A2->A3->A4->Option R,(∀ x0 x1 x2 x3 x4,k x0 x1 x2 x3 x4=K x0 x1 x2 x3 x4)/\F k=some r:=⟨K,fun _ _ _ _ _=>rfl,h⟩
def jp6{R A0 A1 A2 A3 A4 A5:Type}(K:A0->A1->A2->A3->A4->A5->Option R)(F:(A0->A1->A2->A3->A4->A5->Option R)->Option R):Option R:=F K
theorem U5{R A5:Type}{K:A0->A1->A2->A3->A4->A5->Option R}{F:(A0->A1->A2->A3->A4->A5->Option R)->Option R}{r:R}(h:jp6 K F=some r):∃ k:A0->A1->A2->A3->A4->A5->Option R,(∀ x0 x1 x2 x3 x4 x5,k x0 x1 x2 x3 x4 x5=K x0 x1 x2 x3 x4 x5)/\F k=some r:=⟨K,fun _ _ _ _ _ _=>rfl,h⟩
def xR:Nat:=18446744073709551616
theorem wq:xR=18446744073709551616:=rfl
def i64(x:Int):Int:=IntKind.wrap .i64 x
def i16(x:Int):Int:=IntKind.wrap .i16 x
def i8(x:Int):Int:=IntKind.wrap .i8 x
def u64(x:Int):Int:=IntKind.wrap .u64 x
def u8(x:Int):Int:=IntKind.wrap .u8 x
theorem xQ{x:Int}(h : -9223372036854775808<=x/\x<=9223372036854775807):i64 x=x:=w64 h
section
variable {P:Program} {n:Nat} {F:List Nat} {Nv:World} {env:List (Nat×Value)} {L Lc Lr R R':List Asrt} {eA:Array Oper} {Q:Exit->Act->World->Prop} {eZ l:List Oper}
 {dd:Nat} {d:Option Tmp} {ty:TypeId} {pos:String} {after:Array Edge} {g:Option (Nat×Bool)} {x y:Operand} {v u:Value} {t e T:TypeId} {sz tT:Nat} {Z Zn:Zp}
 {tl:Nat->Bool} {Ls:List Asrt} {fuel:Nat} {listed:Array Bool} {QD:Act->World->Prop}
theorem L3[Inhabited α]{Pr:List Value->α->Prop}{ls:List α}[hg:Nu (gd env eA ⟨some dd,.indexAddr t x y,ty,pos,after,g⟩) (some true)][lp:Nu (Nat.blt dd n) true](ht:elT P t e sz tT)[hx:Nu (eo env x) (some (.slice ao ls.length cap))][hy:Nu (eo env y) (some (.int kk i))](hs:ZS Z sz Pr ao cap ls)(Ca:0<=i/\i<ls.length)(k:∀ A r,ZC Z A r->r.length=sz->Pr r (Sep.nth ls i)->WL P n F Nv eA Q eZ ((dd,.pointer (some A))::env) L):
  WL P n F Nv eA Q (⟨some dd,.indexAddr t x y,ty,pos,after,g⟩::eZ) env L:=by
 obtain⟨A,r,rfl,hc,hl,hp⟩:=hs.elem Ca.1 Ca.2
 exact Oa hg.1 rfl lp.1 (xY ht (hx:=⟨hx.1⟩) (hy:=⟨hy.1⟩) Ca.1 Ca.2 rfl) (k _ r hc hl hp)
theorem Nf{j:Nat}[Inhabited α]{Pr:List Value->α->Prop}{ls:List α}(zr:rO eA=true)[hi:Nu eA[j]? (some ⟨some dd,.indexAddr t x y,ty,pos,after,g⟩)](hr:(Region.ready .any eA listed).contains j=true)(hf:tw eA (fun _=>false) listed j=true)[hg:Nu (gd env eA ⟨some dd,.indexAddr t x y,ty,pos,after,g⟩) (some true)][lp:Nu (Nat.blt dd n) true](ht:elT P t e sz tT)[hx:Nu (eo env x) (some (.slice ao ls.length cap))][hy:Nu (eo env y) (some (.int kk i))](hs:ZS Z sz Pr ao cap ls)(Ca:0<=i/\i<ls.length)(k:∀ A r,ZC Z A r->r.length=sz->Pr r (Sep.nth ls i)->WD P n F Nv eA tl Ls QD fuel (listed.setIfInBounds j true) ((dd,.pointer (some A))::env) L):
  WD P n F Nv eA tl Ls QD (fuel+1) listed env L:=by
 obtain⟨A,r,rfl,hc,hl,hp⟩:=hs.elem Ca.1 Ca.2
 exact Ps zr hi.1 hr hf hg.1 rfl lp.1 (fun _=>xY ht (hx:=⟨hx.1⟩) (hy:=⟨hy.1⟩) Ca.1 Ca.2 rfl) (k _ r hc hl hp)
theorem Pb{Pr:List Value->α->Prop}{ls Dq:List α}{lo hi:Int}{lx hx':Option Operand}{lv hv:Option Value}(hg:gd env eA ⟨some dd,.slice t x lx hx' none,ty,pos,after,g⟩=some true)(lp:Nat.blt dd n=true)(ht:elT P t e sz tT)(hx:eo env x=some (.slice ao ls.length cap))(hs:ZS Z sz Pr ao cap ls)(hl:∀ a w,SS n F Nv env L a w->lx.map a.eval=lv)(hh:∀ a w,SS n F Nv env L a w->hx'.map a.eval=hv)(Bf:match lv with | none=>lo=0 | some (.int _ q)=>q=lo | _=>False)(AA:match hv with | none=>hi=ls.length | some (.int _ q)=>q=hi | _=>False)(hb:0<=lo/\lo<=hi/\hi<=ls.length)(CH:Dq=(ls.take hi.toNat).drop lo.toNat)(k:∀ zS n7,ZS Z sz Pr zS n7 Dq->WL P n F Nv eA Q eZ ((dd,.slice zS Dq.length n7)::env) L):
  WL P n F Nv eA Q (⟨some dd,.slice t x lx hx' none,ty,pos,after,g⟩::eZ) env L:=by
 subst CH
 obtain⟨h0,h1,h2⟩:=hb
 have Ad:=hs.1
 refine Oa hg rfl lp (pF (lo:=lo.toNat) (hi:=hi.toNat) ht hx (lv:=lv) (hv:=hv) hl hh ?_ ?_ (by omega) (by omega) (fun _=>Ad)) ?_
 ·split at Bf
  ·subst Bf;rfl
  ·subst Bf;simp;omega
  ·cases Bf
 ·split at AA
  ·subst AA;simp
  ·subst AA;simp;omega
  ·cases AA
 have h3:=hs.sub (lo:=lo.toNat) (hi:=hi.toNat) (by omega) (by omega)
 have h4:hi.toNat-lo.toNat=((ls.take hi.toNat).drop lo.toNat).length:=by simp;omega
 rw[h4]
 exact k _ _ h3
theorem Pc{j:Nat}{Pr:List Value->α->Prop}{ls Dq:List α}{lo hi:Int}{lx hx':Option Operand}{lv hv:Option Value}(zr:rO eA=true)(BB:eA[j]?=some ⟨some dd,.slice t x lx hx' none,ty,pos,after,g⟩)(hr:(Region.ready .any eA listed).contains j=true)(hf:tw eA (fun _=>false) listed j=true)(hg:gd env eA ⟨some dd,.slice t x lx hx' none,ty,pos,after,g⟩=some true)(lp:Nat.blt dd n=true)(ht:elT P t e sz tT)(hx:eo env x=some (.slice ao ls.length cap))(hs:ZS Z sz Pr ao cap ls)(hl:∀ Nv a w,SS n [] Nv env [] a w->lx.map a.eval=lv)(hh:∀ Nv a w,SS n [] Nv env [] a w->hx'.map a.eval=hv)(Bf:match lv with | none=>lo=0 | some (.int _ q)=>q=lo | _=>False)(AA:match hv with | none=>hi=ls.length | some (.int _ q)=>q=hi | _=>False)(hb:0<=lo/\lo<=hi/\hi<=ls.length)(CH:Dq=(ls.take hi.toNat).drop lo.toNat)(k:∀ zS n7,ZS Z sz Pr zS n7 Dq->WD P n F Nv eA tl Ls QD fuel (listed.setIfInBounds j true) ((dd,.slice zS Dq.length n7)::env) L):
  WD P n F Nv eA tl Ls QD (fuel+1) listed env L:=by
 subst CH
 obtain⟨h0,h1,h2⟩:=hb
 have Ad:=hs.1
 refine Ps zr BB hr hf hg rfl lp (fun Nv=>pF (lo:=lo.toNat) (hi:=hi.toNat) ht hx (lv:=lv) (hv:=hv) (hl Nv) (hh Nv) ?_ ?_ (by omega) (by omega) (fun _=>Ad)) ?_
 ·split at Bf
  ·subst Bf;rfl
  ·subst Bf;simp;omega
  ·cases Bf
 ·split at AA
  ·subst AA;simp
  ·subst AA;simp;omega
  ·cases AA
 have h3:=hs.sub (lo:=lo.toNat) (hi:=hi.toNat) (by omega) (by omega)
 have h4:hi.toNat-lo.toNat=((ls.take hi.toNat).drop lo.toNat).length:=by simp;omega
 rw[h4]
 exact k _ _ h3
theorem ixo{z:Operand}(h:eo env z=some v):∀ a w,SS n F Nv env L a w->(some z).map a.eval=some v:=fun a w hs=>by rw[Option.map_some,hs.eval h]
theorem ixn:∀ a w,SS n F Nv env L a w->(none:Option Operand).map a.eval=none:=fun _ _ _=>rfl
theorem S6{enc:α->List Value}{ls:List α}{sz':Nat}(pv:PV F Nv L Z)(h:ZS Z sz' (fun r x=>r=enc x) bo qr ls):
  ∀ w,Hp F Nv w L->ls.flatMap enc≠[]->∃ A,bo=some A/\∀ j u,(ls.flatMap enc)[j]?=some u->w.cell? (A.add j)=some u:=by
 intro w hw n9
 obtain⟨_,_,cs,h3,h4⟩:=h
 obtain⟨A,hA,hc⟩:=h4 (by rintro rfl;simp at n9)
 rw[h3.toFlat] at hc
 exact⟨A,hA,hc w (pv w hw)⟩
theorem kK{enc:α->List Value}{l1 l2:List α}{vy:List Value}(ht:elT P t e sz tT)[hx:Nu (eo env x) (some (.slice ao l1.length cap))][hy:Nu (eo env y) (some (.slice bo l2.length qr))](hm:Pick L (row (.slice ao l1.length cap) e sz cs) R)(jy:∀ x,(enc x).length=sz)[Dn:Nu cs (l1.flatMap enc)][hn:Nu vy (l2.flatMap enc)](zA:∀ w,Hp F Nv w L->vy≠[]->∃ A,bo=some A/\∀ j u,vy[j]?=some u->w.cell? (A.add j)=some u)(h1:∀ u∈vy,u.oneCell'=true)(hb:((l1++l2).length:Int)*tT<=140737488355328/\((l1++l2).length:Int)<=4611686018427387904):
  Ef P n F Nv env L ⟨d,.call ⟨.builtin .append,#[x,y],#[t,t]⟩,dty,pos,after,g⟩ (fun _:Option Addr×Nat=>True) (fun p => .slice p.1 (l1++l2).length p.2) (fun p=>row (.slice p.1 (l1++l2).length p.2) e sz ((l1++l2).flatMap enc)::R):=by
 have hx:=hx.1
 have hy:=hy.1
 have Dn:=Dn.1
 have hn:=hn.1
 subst Dn hn
 have:=J3 (n:=n) (dty:=dty) (d:=d) (pos:=pos) (after:=after) (g:=g) ht hx hy hm (by rw[pg jy]) zA h1 (by simp[maxLen] at *;omega) (by rw[List.length_append] at hb;omega)
 rw[List.length_append,List.flatMap_append]
 exact this
theorem af{Pr:List Value->α->Prop}{l1 l2:List α}{vy:List Value}(ht:elT P t e sz tT)(hx:eo env x=some (.slice ao l1.length cap))(hy:eo env y=some (.slice bo l2.length qr))(hm:Pick L (row (.slice ao l1.length cap) e sz cs) R)(hn:RR sz Pr vy l2)(zA:∀ w,Hp F Nv w L->vy≠[]->∃ A,bo=some A/\∀ j u,vy[j]?=some u->w.cell? (A.add j)=some u)(h1:∀ u∈vy,u.oneCell'=true)(hb:((l1++l2).length:Int)*tT<=140737488355328/\((l1++l2).length:Int)<=4611686018427387904):
  Ef P n F Nv env L ⟨d,.call ⟨.builtin .append,#[x,y],#[t,t]⟩,dty,pos,after,g⟩ (fun _:Option Addr×Nat=>True) (fun p => .slice p.1 (l1++l2).length p.2) (fun p=>row (.slice p.1 (l1++l2).length p.2) e sz (cs++vy)::R):=by
 have:=J3 (n:=n) (dty:=dty) (d:=d) (pos:=pos) (after:=after) (g:=g) ht hx hy hm hn.len zA h1 (by simp[maxLen] at *;omega) (by rw[List.length_append] at hb;omega)
 rw[List.length_append]
 exact this
theorem oR{l:List α}{z0:α}(h:0<=i/\i<=l.length):(l.take i.toNat++List.replicate (l.length-i.toNat) z0).length=l.length:=by
 simp;omega
theorem O3{enc:α->List Value}{ls:List α}{hx':Operand}(hg:gd env eA ⟨some dd,.slice t x none (some hx') none,ty,pos,after,g⟩=some true)(lp:Nat.blt dd n=true)(ht:elT P t e sz tT)(hx:eo env x=some (.slice ao ls.length cap))(hh:eo env hx'=some (.int kk i))(hm:Pick L (row (.slice ao ls.length cap) e sz (ls.flatMap enc)) R)(hl:∀ x,(enc x).length=sz)(hi:0<=i/\i<=ls.length)(k:∀ zS n7,WL P n F Nv eA Q eZ ((dd,.slice zS (ls.take i.toNat).length n7)::env) (row (.slice zS (ls.take i.toNat).length n7) e sz ((ls.take i.toNat).flatMap enc)::R)):
  WL P n F Nv eA Q (⟨some dd,.slice t x none (some hx') none,ty,pos,after,g⟩::eZ) env L:=by
 have jy:(ls.take i.toNat).length=i.toNat:=by simp;omega
 refine Nj (fun w h=>h.rowShape hm) fun hs=>?_
 obtain⟨xD,Aw,B9,hs | ⟨b,rfl⟩⟩:=hs
 ·obtain⟨rfl,h0,rfl⟩:=hs
  have Dr:ls=[]:=List.eq_nil_of_length_eq_zero h0
  subst Dr
  refine Oa hg rfl lp (pF (lo:=0) (hi:=0) ht hx (lv:=none) (hv:=some (.int kk i)) (fun _ _ _=>rfl) (fun a w h=>by rw[Option.map_some,h.eval hh]) rfl (by simp at hi;omega) (by omega) (by omega) (by simp)) ?_
  intro a w h
  have:=k none 0 a w
  simp only[List.take_nil,List.length_nil,List.flatMap_nil] at this
  exact this (h.world (h.hp.front hm))
 ·refine O1 (i:=i.toNat) hg lp ht hx hh hm (by omega) (by omega) ?_
  rw[bG hl ls _ (by omega)]
  have:=k (some ⟨b,0,none⟩) cap
  rw[jy] at this
  exact this
theorem Pi{ls:List α}{lx:Operand}(hg:gd env eA ⟨some dd,.slice t x (some lx) none none,ty,pos,after,g⟩=some true)(lp:Nat.blt dd n=true)(ht:elT P t e sz tT)(hx:eo env x=some (.slice ao ls.length cap))(hh:eo env lx=some (.int kk i))(hm:Pick L (row (.slice ao ls.length cap) e sz cs) R)(hi:0<=i/\i<=ls.length)(k:∀ zS c,zS=(if cap=i.toNat then ao else ao.map (·.add (i.toNat*sz)))->WL P n F Nv eA Q eZ ((dd,.slice zS (ls.length-i.toNat) c)::env) L):
  WL P n F Nv eA Q (⟨some dd,.slice t x (some lx) none none,ty,pos,after,g⟩::eZ) env L:=by
 refine Nj (fun w h=>h.rowShape hm) fun hs=>?_
 obtain⟨xD,Aw,B9,_⟩:=hs
 exact Oa hg rfl lp (pF (lo:=i.toNat) (hi:=ls.length) ht hx (lv:=some (.int kk i)) (hv:=none) (fun a w h=>by rw[Option.map_some,h.eval hh]) (fun _ _ _=>rfl) (by simp;omega) rfl (by omega) Aw (fun _=>Aw)) (k _ _ rfl)
theorem ai{enc:α->List Value}{z0:α}{l:List α}{c:Nat}{zS:Option Addr}{z:Value}(ht:elT P t e sz tT)(hz:jk P e z)(hx:eo env x=some (.slice zS (l.length-i.toNat) c))(hao:zS=(if cap=i.toNat then ao else ao.map (·.add (i.toNat*sz))))(hi:0<=i/\i<=l.length)(hl:∀ x,(enc x).length=sz)(ne:0<sz)(hzc:z.cells=(enc z0).toArray)(ho:∀ x,∀ u∈enc x,u.oneCell'=true)(hm:Pick L (row (.slice ao l.length cap) e sz (l.flatMap enc)) R):
  aa P n F Nv env L ⟨none,.call ⟨.builtin .clear,#[x],#[t]⟩,ty,pos,after,g⟩ (row (.slice ao l.length cap) e sz ((l.take i.toNat++List.replicate (l.length-i.toNat) z0).flatMap enc)::R):=by
 intro a w h
 obtain⟨xD,Aw,B9,hs⟩:=h.hp.rowShape hm
 rcases hs with⟨rfl,h0,rfl⟩ | ⟨b,rfl⟩
 ·have Dr:l=[]:=List.eq_nil_of_length_eq_zero h0
  subst Dr
  have hx':eo env x=some (.slice zS 0 c):=by rw[hx];simp
  refine⟨w,.inr ⟨.tuple #[],?_⟩,by simpa using h.hp.front hm⟩
  cases zS <;> simp[execOp,h.eval hx',resolve,invoke,builtin,Builtin.clear_,run_underlying ht.sl]
 ·exact YT ht hz hx hao (by omega) (G4 hl ne hzc ho) hm (GN hl ne hzc (by omega)) a w h
theorem U6(r:List α){sz:Nat}(hl:r.length=sz)(n m:Nat)(h:n<=m):((List.replicate m r).flatten).take (n*sz)=(List.replicate n r).flatten:=by
 obtain⟨d,rfl⟩:∃ d,m=n+d:=⟨m-n,by omega⟩
 rw[<- List.replicate_append_replicate,List.flatten_append]
 have e:(List.replicate n r).flatten.length=n*sz:=by simp[hl]
 rw[<- e,List.take_left]
theorem QA{r:List Value}{zc:Array Value}(ne:0<r.length)(hz:zc=r.toArray)(k:Nat):(Builtin.zeroCells zc k).toList=(List.replicate k r).flatten:=by
 have h:=pG (α:=Unit) (enc:=fun _=>r) (sz:=r.length) (z0:=()) (zc:=zc) (fun _=>rfl) ne hz k
 rw[h]
 induction k with
 | zero=>rfl
 | succ k ih=>rw[List.replicate_succ,List.flatMap_cons,List.replicate_succ,List.flatten_cons];congr 1;exact ih (pG (α:=Unit) (enc:=fun _=>r) (sz:=r.length) (z0:=()) (zc:=zc) (fun _=>rfl) ne hz k)
theorem KG{r:List Value}{z0:α}{z:Value}{kl kc:IntKind}{ln c:Int}(ht:elT P t e sz tT)(hz:jk P e z)(hx:eo env x=some (.int kl ln))(hy:eo env y=some (.int kc c))(hl:r.length=sz)(hzc:z.cells=r.toArray)(hb:0<=ln/\ln<=c/\c*tT<=140737488355328/\c<=4611686018427387904):
  nZ P n F Nv env L ⟨d,.makeSlice t x y,dty,pos,after,g⟩ (fun _:Nat=>True) (fun b => .slice (some ⟨b,0,none⟩) (List.replicate ln.toNat z0).length c.toNat) (fun b=>row (.slice (some ⟨b,0,none⟩) (List.replicate ln.toNat z0).length c.toNat) e sz (List.replicate ln.toNat r).flatten::L):=by
 intro a w h
 obtain⟨h0,h1,h2,h3⟩:=hb
 obtain⟨inf,z',B8,hz',ne,xE,B4⟩:=ht.inf
 have hzz:z=z':=by
  have:=congrFun hz w
  simp[zeroValue,typeInfo,B8,hz'] at this
  exact this.symm
 subst hzz
 have zt:=ht.pos
 have iT:=run_make (P:=P) w t e inf z ht.sl B8 hz' kl kc ln c h0 h1 (by rw[xE,Int.mul_comm];omega) (by omega)
 have Ds:madeCells z.cells (c.toNat*inf.size)=Builtin.zeroCells z.cells c.toNat:=by rw[ne,<- B4];rfl
 refine⟨w.heap.size,w.alloc (.cells (Builtin.zeroCells z.cells c.toNat) e),?_,trivial,?_,.alloc _ _⟩
 ·simp only[execOp,h.eval hx,h.eval hy]
  rw[Ds] at iT
  simp[iT,List.length_replicate]
 ·refine(h.hp.ext (.alloc w _)).add ?_ (by simp[row,Value.ownBlock]) (by simp[row,Value.ownBlock,h.hp.size]) ?_
  ·refine⟨ln.toNat,by simp[hl],.inr ⟨w.heap.size,c.toNat,Builtin.zeroCells z.cells c.toNat,by simp,Nat.zero_le _,heap_alloc_new w _,by omega,by unfold maxLen;omega,by simp[Builtin.zeroCells,B4],?_⟩⟩
   rw[QA (by omega) hzc,U6 r hl _ _ (by omega)]
  ·intro y hy b hb hc
   simp[row,Value.ownBlock] at hb
   have:=h.hp.lt y hy b hc
   omega
theorem U7{enc:α->List Value}(x:α)(n:Nat):(List.replicate n (enc x)).flatten=(List.replicate n x).flatMap enc:=by
 rw[List.flatMap_def,List.map_replicate]
theorem Hp.freezeS{Pr:List Value->α->Prop}{ls:List α}(hm:Pick L (row (.slice ao ls.length cap) e sz cs) R)(hz:Pick R (fz Zn) R')(hp:PZ F Nv Z)(hr:RR sz Pr cs ls)(h:Hp F Nv w L):
  ∃ tg,xN (Z++Zn) (Z++tg)/\ZS (Z++tg) sz Pr ao cap ls/\Hp F Nv w (fz tg::R'):=by
 obtain⟨tg,h1,h2,h3⟩:=h.freeze hm hz
 refine⟨tg,h1.app,?_,h3⟩
 exact ZA.row (h2.mono (xN.right _ _)) hr ⟨w,(hp.pv w h3).app (h3.ok (fz tg) (by simp))⟩
theorem PZ.now(h:PZ F Nv Z)(hp:Hp F Nv w L):PZ [] w Z:=⟨h.pv w hp,by simp⟩
theorem PZ.le{Z Z':Zp}(h:PZ [] w Z')(k:xN Z Z'):PZ [] w Z:=⟨k w h.1,by simp⟩
theorem ZC.part{Z:Zp}{A:Addr}{off s:Nat}{ds:List Value}(h:ZC Z A cs)(hd:(cs.drop off).take s=ds):ZC Z (A.add off) ds:=by
 subst hd
 intro w hw j u hu
 refine(h.sub off) w hw j u ?_
 rw[List.getElem?_take] at hu
 split at hu
 ·exact hu
 ·cases hu
theorem ma{enc:α->List Value}{sz k s:Nat}(hl:∀ x,(enc x).length=sz){l:List α}(h0:0<=i)(h1:i<l.length)(hk:k+s<=sz):i.toNat*sz+k+s<=(l.flatMap enc).length:=by
 rw[pg hl]
 have h2:(i.toNat+1)*sz<=l.length*sz:=Nat.mul_le_mul_right _ (by omega)
 rw[Nat.succ_mul] at h2
 omega
theorem S7{a b:Bool}{t:TypeId}(ht:P.underlying t=some .bool)(hx:eo env x=some (.bool a))(hy:eo env y=some (.bool b)):Qt P n F Nv env L ⟨d,.binOp .neq t x y t',ty,pos,after,g⟩ (.bool (a != b)):=by
 intro a' w h;simp[execOp,h.eval hx,h.eval hy,eqGuard_at_bool,run_neq_bool w t a b ht];cases a <;> cases b <;> rfl
structure EqT {α:Type} [DecidableEq α] (P:Program) (t:TypeId) (enc:α->List Value):Prop where
 eq:∀(u v:α) (w:World),(Op.equalIn 10000 t (.agg (enc u).toArray) (.agg (enc v).toArray)).run P w = .ok (decide (u=v)) w
 guard:P.eqGuardType P.depth t=false
theorem oq[DecidableEq α]{enc:α->List Value}{a b:α}{t:TypeId}(ht:EqT P t enc)[hx:Nu (eo env x) (some (.agg (enc a).toArray))][hy:Nu (eo env y) (some (.agg (enc b).toArray))]:Qt P n F Nv env L ⟨d,.binOp .eql t x y t',ty,pos,after,g⟩ (.bool (decide (a=b))):=by
 intro a' w h;simp[execOp,h.eval hx.1,h.eval hy.1,run_eqGuard_agg w .eql t x y _ _ ht.guard,run_eql_struct,ht.eq a b w]
theorem eN[DecidableEq α]{enc:α->List Value}{a b:α}{t:TypeId}(ht:EqT P t enc)(hx:eo env x=some (.agg (enc a).toArray))(hy:eo env y=some (.agg (enc b).toArray)):Qt P n F Nv env L ⟨d,.binOp .neq t x y t',ty,pos,after,g⟩ (.bool (decide (a≠b))):=by
 intro a' w h;simp[execOp,h.eval hx,h.eval hy,run_eqGuard_agg w .neq t x y _ _ ht.guard,run_neq_struct,ht.eq a b w]
theorem qs{m m':Nat}(h:m=m'):Value.slice ao m cap = .slice ao m' cap:=by rw[h]
theorem xN.qC(a b c:Zp):xN ((a++b)++c) (a++(b++c)):=by rw[List.append_assoc];exact xN.refl _
theorem WL.freezeS{l:List Oper}{α:Type}{Pr:List Value->α->Prop}{ao:Option Addr}{cap:Nat}{cs:List Value}{ls:List α}(hm:Pick L (row (.slice ao ls.length cap) e sz cs) R)(hz:Pick R (fz Zn) R')(hp:PZ F Nv Z)(hr:RR sz Pr cs ls)(k:∀ tg,xN (Z++Zn) (Z++tg)->ZS (Z++tg) sz Pr ao cap ls->WL P n F Nv eA Q l env (fz tg::R')):WL P n F Nv eA Q l env L:=fun a w h=>by
 obtain⟨tg,h1,h2,h3⟩:=h.hp.freezeS hm hz hp hr
 exact k tg h1 h2 a w (h.world h3)
theorem WL.pool{l:List Oper}(k:WL P n F Nv eA Q l env (fz []::L)):WL P n F Nv eA Q l env L:=fun a w h=>k a w (h.world h.hp.pool)
theorem WL.merge{l:List Oper}{Z1 Z2:Zp}(hm:Pick L (fz Z1) R)(hz:Pick R (fz Z2) R')(k:WL P n F Nv eA Q l env (fz (Z2++Z1)::R')):WL P n F Nv eA Q l env L:=fun a w h=>k a w (h.world (h.hp.merge hm hz))
theorem Ow{l:List Oper}(hm:Pick L (row v e sz cs) R)(h:cs=cs')(k:WL P n F Nv eA Q l env (row v e sz cs'::R)):WL P n F Nv eA Q l env L:=by
 subst h
 exact fun a w hs=>k a w (hs.world (hs.hp.front hm))
theorem H9{l:List Oper}(hm:Pick L (row v e sz cs) R)(h:v=u)(k:WL P n F Nv eA Q l env (row u e sz cs::R)):WL P n F Nv eA Q l env L:=by
 subst h
 exact fun a w hs=>k a w (hs.world (hs.hp.front hm))
theorem H3{l:List Oper}(hm:Pick L (stb bb T cs) R)(h:cs=cs')(k:WL P n F Nv eA Q l env (stb bb T cs'::R)):WL P n F Nv eA Q l env L:=by
 subst h
 exact fun a w hs=>k a w (hs.world (hs.hp.front hm))
theorem L7{l:List Oper}{i:Nat}(hv:lk env i=some v)(h:v=u)(k:WL P n F Nv eA Q l ((i,u)::env) L):WL P n F Nv eA Q l env L:=by
 subst h
 refine fun a w hs=>k a w ⟨hs.defers,hs.size,fun j x hx=>?_,hs.hp⟩
 simp only[lk] at hx
 by_cases hj:j=i
 ·subst hj;simp at hx;subst hx;exact hs.ev _ _ hv
 ·rw[p7 hj] at hx;exact hs.ev j x hx
theorem WC.freezeS{cc:Code}{α:Type}{Pr:List Value->α->Prop}{ao:Option Addr}{cap:Nat}{cs:List Value}{ls:List α}(hm:Pick L (row (.slice ao ls.length cap) e sz cs) R)(hz:Pick R (fz Zn) R')(hp:PZ F Nv Z)(hr:RR sz Pr cs ls)(k:∀ tg,xN (Z++Zn) (Z++tg)->ZS (Z++tg) sz Pr ao cap ls->WC P n F Nv Q cc env (fz tg::R')):WC P n F Nv Q cc env L:=fun a w h=>by
 obtain⟨tg,h1,h2,h3⟩:=h.hp.freezeS hm hz hp hr
 exact k tg h1 h2 a w (h.world h3)
theorem WC.pool{cc:Code}(k:WC P n F Nv Q cc env (fz []::L)):WC P n F Nv Q cc env L:=fun a w h=>k a w (h.world h.hp.pool)
theorem WC.merge{cc:Code}{Z1 Z2:Zp}(hm:Pick L (fz Z1) R)(hz:Pick R (fz Z2) R')(k:WC P n F Nv Q cc env (fz (Z2++Z1)::R')):WC P n F Nv Q cc env L:=fun a w h=>k a w (h.world (h.hp.merge hm hz))
theorem Pw{cc:Code}(hm:Pick L (row v e sz cs) R)(h:cs=cs')(k:WC P n F Nv Q cc env (row v e sz cs'::R)):WC P n F Nv Q cc env L:=by
 subst h
 exact fun a w hs=>k a w (hs.world (hs.hp.front hm))
theorem P9{cc:Code}(hm:Pick L (row v e sz cs) R)(h:v=u)(k:WC P n F Nv Q cc env (row u e sz cs::R)):WC P n F Nv Q cc env L:=by
 subst h
 exact fun a w hs=>k a w (hs.world (hs.hp.front hm))
theorem P7{cc:Code}(hm:Pick L (stb bb T cs) R)(h:cs=cs')(k:WC P n F Nv Q cc env (stb bb T cs'::R)):WC P n F Nv Q cc env L:=by
 subst h
 exact fun a w hs=>k a w (hs.world (hs.hp.front hm))
theorem P8{cc:Code}{i:Nat}(hv:lk env i=some v)(h:v=u)(k:WC P n F Nv Q cc ((i,u)::env) L):WC P n F Nv Q cc env L:=by
 subst h
 refine fun a w hs=>k a w ⟨hs.defers,hs.size,fun j x hx=>?_,hs.hp⟩
 simp only[lk] at hx
 by_cases hj:j=i
 ·subst hj;simp at hx;subst hx;exact hs.ev _ _ hv
 ·rw[p7 hj] at hx;exact hs.ev j x hx
theorem WX.freezeS{ex:Exit}{α:Type}{Pr:List Value->α->Prop}{ao:Option Addr}{cap:Nat}{cs:List Value}{ls:List α}(hm:Pick L (row (.slice ao ls.length cap) e sz cs) R)(hz:Pick R (fz Zn) R')(hp:PZ F Nv Z)(hr:RR sz Pr cs ls)(k:∀ tg,xN (Z++Zn) (Z++tg)->ZS (Z++tg) sz Pr ao cap ls->WX n F Nv Q ex env (fz tg::R')):WX n F Nv Q ex env L:=fun a w h=>by
 obtain⟨tg,h1,h2,h3⟩:=h.hp.freezeS hm hz hp hr
 exact k tg h1 h2 a w (h.world h3)
theorem WX.pool{ex:Exit}(k:WX n F Nv Q ex env (fz []::L)):WX n F Nv Q ex env L:=fun a w h=>k a w (h.world h.hp.pool)
theorem WX.merge{ex:Exit}{Z1 Z2:Zp}(hm:Pick L (fz Z1) R)(hz:Pick R (fz Z2) R')(k:WX n F Nv Q ex env (fz (Z2++Z1)::R')):WX n F Nv Q ex env L:=fun a w h=>k a w (h.world (h.hp.merge hm hz))
theorem Pu(hm:Pick L (row v e sz cs) R)(h:cs=cs')(k:WX n F Nv Q ex env (row v e sz cs'::R)):WX n F Nv Q ex env L:=by
 subst h
 exact fun a w hs=>k a w (hs.world (hs.hp.front hm))
theorem P0(hm:Pick L (row v e sz cs) R)(h:v=u)(k:WX n F Nv Q ex env (row u e sz cs::R)):WX n F Nv Q ex env L:=by
 subst h
 exact fun a w hs=>k a w (hs.world (hs.hp.front hm))
theorem Px(hm:Pick L (stb bb T cs) R)(h:cs=cs')(k:WX n F Nv Q ex env (stb bb T cs'::R)):WX n F Nv Q ex env L:=by
 subst h
 exact fun a w hs=>k a w (hs.world (hs.hp.front hm))
theorem Py{i:Nat}(hv:lk env i=some v)(h:v=u)(k:WX n F Nv Q ex ((i,u)::env) L):WX n F Nv Q ex env L:=by
 subst h
 refine fun a w hs=>k a w ⟨hs.defers,hs.size,fun j x hx=>?_,hs.hp⟩
 simp only[lk] at hx
 by_cases hj:j=i
 ·subst hj;simp at hx;subst hx;exact hs.ev _ _ hv
 ·rw[p7 hj] at hx;exact hs.ev j x hx
theorem WX.nilRow{ex:Exit}(e:TypeId)(sz:Nat)(k:WX n F Nv Q ex env (row (.slice none 0 0) e sz []::L)):WX n F Nv Q ex env L:=fun a w h=>k a w (h.world (h.hp.nilRow e sz))
theorem WD.freezeS{α:Type}{Pr:List Value->α->Prop}{ao:Option Addr}{cap:Nat}{cs:List Value}{ls:List α}(hm:Pick L (row (.slice ao ls.length cap) e sz cs) R)(hz:Pick R (fz Zn) R')(hp:PZ F Nv Z)(hr:RR sz Pr cs ls)(k:∀ tg,xN (Z++Zn) (Z++tg)->ZS (Z++tg) sz Pr ao cap ls->WD P n F Nv eA tl Ls QD fuel listed env (fz tg::R')):WD P n F Nv eA tl Ls QD fuel listed env L:=fun a w h=>by
 obtain⟨tg,h1,h2,h3⟩:=h.hp.freezeS hm hz hp hr
 exact k tg h1 h2 a w (h.world h3)
theorem WD.pool(k:WD P n F Nv eA tl Ls QD fuel listed env (fz []::L)):WD P n F Nv eA tl Ls QD fuel listed env L:=fun a w h=>k a w (h.world h.hp.pool)
theorem WD.merge{Z1 Z2:Zp}(hm:Pick L (fz Z1) R)(hz:Pick R (fz Z2) R')(k:WD P n F Nv eA tl Ls QD fuel listed env (fz (Z2++Z1)::R')):WD P n F Nv eA tl Ls QD fuel listed env L:=fun a w h=>k a w (h.world (h.hp.merge hm hz))
theorem Pv(hm:Pick L (row v e sz cs) R)(h:cs=cs')(k:WD P n F Nv eA tl Ls QD fuel listed env (row v e sz cs'::R)):WD P n F Nv eA tl Ls QD fuel listed env L:=by
 subst h
 exact fun a w hs=>k a w (hs.world (hs.hp.front hm))
theorem N4(hm:Pick L (row v e sz cs) R)(h:v=u)(k:WD P n F Nv eA tl Ls QD fuel listed env (row u e sz cs::R)):WD P n F Nv eA tl Ls QD fuel listed env L:=by
 subst h
 exact fun a w hs=>k a w (hs.world (hs.hp.front hm))
theorem O4(hm:Pick L (stb bb T cs) R)(h:cs=cs')(k:WD P n F Nv eA tl Ls QD fuel listed env (stb bb T cs'::R)):WD P n F Nv eA tl Ls QD fuel listed env L:=by
 subst h
 exact fun a w hs=>k a w (hs.world (hs.hp.front hm))
theorem Nk{i:Nat}(hv:lk env i=some v)(h:v=u)(k:WD P n F Nv eA tl Ls QD fuel listed ((i,u)::env) L):WD P n F Nv eA tl Ls QD fuel listed env L:=by
 subst h
 refine fun a w hs=>k a w ⟨hs.defers,hs.size,fun j x hx=>?_,hs.hp⟩
 simp only[lk] at hx
 by_cases hj:j=i
 ·subst hj;simp at hx;subst hx;exact hs.ev _ _ hv
 ·rw[p7 hj] at hx;exact hs.ev j x hx
theorem Oh{G:Type}(φ:G->Prop)(iA:G->List (Nat×Value))(LI:G->List Asrt){c:Code}(k1:WC P n F Nv (Exit.then (fun a w=>∃ g,φ g/\SS n F Nv (iA g) (LI g) a w) Q) c env L)(k2:∀ g,φ g->WX n F Nv Q .normal (iA g) (LI g)):WC P n F Nv Q c env L:=by
 intro a w h
 refine Go.wpIn_mono (k1 a w h) ?_
 intro e a' w' hq
 cases e with
 | normal=>obtain⟨g,t8,hs⟩:=hq;exact k2 g t8 a' w' hs
 | _=>exact hq
theorem Od(φ:A0->Prop)(iA:A0->List (Nat×Value))(LI:A0->List Asrt){c:Code}(k1:WC P n F Nv (Exit.then (fun a w=>∃ g:A0,(φ g)/\SS n F Nv (iA g) (LI g) a w) Q) c env L)(k2:∀ x0,(φ x0)->WX n F Nv Q .normal (iA x0) (LI x0)):WC P n F Nv Q c env L:=
 Oh (G:=A0) (fun g=>(φ g)) (fun g=>(iA g)) (fun g=>(LI g)) k1 (fun g h=>k2 g h)
theorem Ov(φ:A0->A1->Prop)(iA:A0->A1->List (Nat×Value))(LI:A0->A1->List Asrt){c:Code}(k1:WC P n F Nv (Exit.then (fun a w=>∃ g:A0×A1,(φ g.1 g.2)/\SS n F Nv (iA g.1 g.2) (LI g.1 g.2) a w) Q) c env L)(k2:∀ x0 x1,(φ x0 x1)->WX n F Nv Q .normal (iA x0 x1) (LI x0 x1)):WC P n F Nv Q c env L:=
 Oh (G:=A0×A1) (fun g=>(φ g.1 g.2)) (fun g=>(iA g.1 g.2)) (fun g=>(LI g.1 g.2)) k1 (fun g h=>k2 g.1 g.2 h)
theorem Oq(φ:A0->A1->A2->Prop)(iA:A0->A1->A2->List (Nat×Value))(LI:A0->A1->A2->List Asrt){c:Code}(k1:WC P n F Nv (Exit.then (fun a w=>∃ g:A0×A1×A2,(cu3 φ g)/\SS n F Nv (cu3 iA g) (cu3 LI g) a w) Q) c env L)(k2:∀ x0 x1 x2,(φ x0 x1 x2)->WX n F Nv Q .normal (iA x0 x1 x2) (LI x0 x1 x2)):WC P n F Nv Q c env L:=
 Oh (G:=A0×A1×A2) (fun g=>(cu3 φ g)) (fun g=>(cu3 iA g)) (fun g=>(cu3 LI g)) k1 (fun g h=>k2 g.1 g.2.1 g.2.2 h)
theorem Pe{A5 A6:Type}(φ:A0->A1->A2->A3->A4->A5->A6->Prop)(iA:A0->A1->A2->A3->A4->A5->A6->List (Nat×Value))(LI:A0->A1->A2->A3->A4->A5->A6->List Asrt){c:Code}(k1:WC P n F Nv (Exit.then (fun a w=>∃ g:A0×A1×A2×A3×A4×A5×A6,(cu7 φ g)/\SS n F Nv (cu7 iA g) (cu7 LI g) a w) Q) c env L)(k2:∀ x0 x1 x2 x3 x4 x5 x6,(φ x0 x1 x2 x3 x4 x5 x6)->WX n F Nv Q .normal (iA x0 x1 x2 x3 x4 x5 x6) (LI x0 x1 x2 x3 x4 x5 x6)):WC P n F Nv Q c env L:=
 Oh (G:=A0×A1×A2×A3×A4×A5×A6) (fun g=>(cu7 φ g)) (fun g=>(cu7 iA g)) (fun g=>(cu7 LI g)) k1 (fun g h=>k2 g.1 g.2.1 g.2.2.1 g.2.2.2.1 g.2.2.2.2.1 g.2.2.2.2.2.1 g.2.2.2.2.2.2 h)
end
theorem cK{R:Type}{p:Prop}[Decidable p]{k:Option R}{r:R}{q:Prop}(h:chk p k=some r)(g:p->k=some r->q):q:=let⟨a,b⟩:=xH h;g a b
theorem bK{A R:Type}{o:Option A}{F:A->Option R}{r:R}{q:Prop}(h:o.bind F=some r)(g:∀ x,o=some x->F x=some r->q):q:=let⟨x,a,b⟩:=z8 h;g x a b
theorem jK0{R:Type}{K:Option R}{F:Option R->Option R}{r:R}{q:Prop}(h:uB K F=some r)(g:∀ k,k=K->F k=some r->q):q:=let⟨k,a,b⟩:=qB h;g k a b
theorem jK1{R A0:Type}{K:A0->Option R}{F:(A0->Option R)->Option R}{r:R}{q:Prop}(h:qP K F=some r)(g:∀ k:A0->Option R,(∀ x0,k x0=K x0)->F k=some r->q):q:=let⟨k,a,b⟩:=wo h;g k a b
theorem jK2{R A0 A1:Type}{K:A0->A1->Option R}{F:(A0->A1->Option R)->Option R}{r:R}{q:Prop}(h:sK K F=some r)(g:∀ k:A0->A1->Option R,(∀ x0 x1,k x0 x1=K x0 x1)->F k=some r->q):q:=let⟨k,a,b⟩:=jZ h;g k a b
theorem jK3{R A0 A1 A2:Type}{K:A0->A1->A2->Option R}{F:(A0->A1->A2->Option R)->Option R}{r:R}{q:Prop}(h:jp3 K F=some r)(g:∀ k:A0->A1->A2->Option R,(∀ x0 x1 x2,k x0 x1 x2=K x0 x1 x2)->F k=some r->q):q:=let⟨k,a,b⟩:=Xf h;g k a b
theorem jK4{R A0 A1 A2 A3:Type}{K:A0->A1->A2->A3->Option R}{F:(A0->A1->A2->A3->Option R)->Option R}{r:R}{q:Prop}(h:jp4 K F=some r)(g:∀ k:A0->A1->A2->A3->Option R,(∀ x0 x1 x2 x3,k x0 x1 x2 x3=K x0 x1 x2 x3)->F k=some r->q):q:=let⟨k,a,b⟩:=Xg h;g k a b
theorem jK5{R A0 A1 A2 A3 A4:Type}{K:A0->A1->A2->A3->A4->Option R}{F:(A0->A1->A2->A3->A4->Option R)->Option R}{r:R}{q:Prop}(h:jp5 K F=some r)(g:∀ k:A0->A1->A2->A3->A4->Option R,(∀ x0 x1 x2 x3 x4,k x0 x1 x2 x3 x4=K x0 x1 x2 x3 x4)->F k=some r->q):q:=let⟨k,a,b⟩:=Xh h;g k a b
theorem jK6{R A0 A1 A2 A3 A4 A5:Type}{K:A0->A1->A2->A3->A4->A5->Option R}{F:(A0->A1->A2->A3->A4->A5->Option R)->Option R}{r:R}{q:Prop}(h:jp6 K F=some r)(g:∀ k:A0->A1->A2->A3->A4->A5->Option R,(∀ x0 x1 x2 x3 x4 x5,k x0 x1 x2 x3 x4 x5=K x0 x1 x2 x3 x4 x5)->F k=some r->q):q:=let⟨k,a,b⟩:=U5 h;g k a b
end
end Sep
namespace Sep
section
open Go Go.RowKit
end
end Sep
namespace Sep
open Go Go.RowKit
section
variable {α:Type}{i:Int}
variable [Rnd]
theorem kL[Inhabited α]{l:List α}(h0:0<=i)(h:i<l.length):l.drop i.toNat=nth l i::l.drop (i+1).toNat:=by
 rw[show(i+1).toNat=i.toNat+1 from by omega,List.drop_eq_getElem_cons (by omega),tY h0 h]
theorem f6{l:List α}(h:¬i<l.length):l.drop i.toNat=[]:=List.drop_eq_nil_of_le (by omega)
theorem wn[Inhabited α]{l:List α}(h0:0<=i)(h:i<l.length):nth l i∈l:=by
 rw[<- tY h0 h];exact List.getElem_mem _
theorem take_succ[Inhabited α](l:List α)(h0:0<=i)(h:i<l.length):l.take (i+1).toNat=l.take i.toNat++[nth l i]:=by
 rw[show(i+1).toNat=i.toNat+1 from by omega,List.take_succ_eq_append_getElem (by omega),tY h0 h]
theorem S8{n:Nat}(h0:0<=i)(h:i<n)(hn:(n:Int)<=9223372036854775807):i64 (i+1)=i+1:=xQ (by omega)
theorem c6[Inhabited α]{s:List α}{f:α->Option Bool}{p:α->Bool}{k:Option Int}{L:Nat->Int->Option Int}(hL:∀ n i,L (n+1) i=if decide (i<((s.length:Nat):Int)) then chk ((0:Int)<=i/\i<((s.length:Nat):Int)) ((f (nth s i)).bind fun x=>if x then some i else L n (i64 (i+1))) else k)(hf:∀ x∈s,f x=some (p x))(hs:(s.length:Int)<=9223372036854775807):
  ∀(n:Nat) (i:Int),0<=i->i<=s.length->s.length-i<n->L n i=match (s.drop i.toNat).findIdx? p with | some j=>some (i+j) | none=>k:=by
 intro n
 induction n with
 | zero=>intro i h0 h1 h2;omega
 | succ n ih=>
  intro i h0 h1 h2
  rw[hL]
  by_cases hi:i<s.length
  ·rw[if_pos (by simpa using hi),xJ ⟨h0,hi⟩,hf _ (wn h0 hi),oB,kL h0 hi,List.findIdx?_cons]
   cases hp:p (nth s i)
   ·rw[if_neg (by simp),if_neg (by simp),S8 h0 hi hs,ih (i+1) (by omega) (by omega) (by omega)]
    cases List.findIdx? p (s.drop (i+1).toNat) with
    | none=>rfl
    | some j=>simp;omega
   ·simp
  ·rw[if_neg (by simpa using hi),f6 hi];rfl
theorem W0[Inhabited α]{s:List α}{f:α->Option Bool}{p:α->Bool}{L:Option Int->Nat->Int->Option Int}(hL:∀ k n i,L k (n+1) i=if decide (i<((s.length:Nat):Int)) then chk ((0:Int)<=i/\i<((s.length:Nat):Int)) ((f (nth s i)).bind fun x=>if x then some i else L k n (i64 (i+1))) else k)(hf:∀ x∈s,f x=some (p x))(hs:(s.length:Int)<=4611686018427387000):
  (uB (some (-1)) fun k=>L k xR 0)=some (match s.findIdx? p with | some j=>(j:Int) | none => -1):=by
 simp only[uB]
 rw[c6 (hL (some (-1))) hf (by omega) xR 0 (by omega) (by omega) (by rw[wq];omega)]
 simp only[Int.toNat_zero,List.drop_zero]
 cases s.findIdx? p with
 | none=>rfl
 | some j=>simp
theorem nJ{s:List α}{p:α->Bool}{o:Option Int}(h:o=some (match s.findIdx? p with | some j=>(j:Int) | none => -1)):(o.bind fun x=>some (decide (x>=0)))=some (s.any p):=by
 rw[h,oB]
 congr 1
 cases hq:s.findIdx? p with
 | none=>
  have:=List.findIdx?_eq_none_iff.1 hq
  simp only[show ¬((-1:Int)>=0) from by omega,decide_false]
  symm
  rw[List.any_eq_false]
  intro x hx;simp[this x hx]
 | some j=>
  obtain⟨hj,Dt,_⟩:=List.findIdx?_eq_some_iff_getElem.1 hq
  simp only[ge_iff_le,Int.natCast_nonneg,decide_true]
  symm
  rw[List.any_eq_true]
  exact⟨s[j],List.getElem_mem _,Dt⟩
end
section
variable {α:Type}{sz fuel:Nat}{iU:Nat->Bool}{t:TypeId}
variable [Rnd]
def ZW(W:World):Zp:=iK W (List.range W.heap.size)
theorem ZW_pz(W:World):PZ [] W (ZW W):=⟨WW _ _,by simp⟩
theorem Th{W w:World}{A:Addr}{u:Value}(h:pO (ZW W) w)(hc:W.cell? A=some u):w.cell? A=some u:=by
 have nU:=block_lt_of_cell hc
 rw[<- hc]
 exact World.cell?_of_block (eM h (List.mem_range.2 nU) nU)
theorem ic{W:World}{ao:Option Addr}{m cap:Nat}{Pr:List Value->α->Prop}{l:List α}(h:rR [] W (.slice ao m cap) sz Pr l):m=l.length/\ZS (ZW W) sz Pr ao cap l:=by
 refine⟨h.len,?_⟩
 obtain⟨rows,⟨⟨zS,n7,hv,h1,h2,h3⟩,jy⟩,hl,hP⟩:=h
 injection hv with e1 e2 e3
 subst e1 e3
 refine⟨by omega,h2,rows.flatten,⟨rows,rfl,jy,hl,hP⟩,fun n9=>?_⟩
 obtain⟨A,hA,hc⟩:=h3 (by rintro rfl;exact n9 (List.eq_nil_of_length_eq_zero (by simpa using hl.symm)))
 exact⟨A,hA,fun w hw j u hu=>Th hw (hc.2 j u hu)⟩
theorem ZS.all{Z:Zp}{Pr:List Value->α->Prop}{ao:Option Addr}{cap:Nat}{l:List α}{q:α->Prop}(h:ZS Z sz Pr ao cap l)(hq:∀ r x,Pr r x->q x):∀ x∈l,q x:=by
 obtain⟨_,_,cs,⟨rows,_,_,hl,hP⟩,_⟩:=h
 intro x hx
 obtain⟨i,hi,rfl⟩:=List.getElem_of_mem hx
 exact hq _ _ (hP i rows[i] l[i] (by simp) (by simp))
section
variable {H:Type} {enc:TypeId×Value->H} {P:Program} {W:World}
open Go.ChangeShapes Go.WideShapes Go.ChangeAt
variable [Rnd]
theorem xX{ve:Bool}{base:Nat}{fs:Array Field}{f:Field}{cs:List Value}{x:DataW H×List MemPlace}(i:Nat)(ht:P.underlying t=some (.struct fs))(h:DataW.trod enc P W base iU ve fuel t cs=some x)[BB:Nu fs.toList[i]? (some f)]:
  ∃ y n,DataW.trod enc P W base iU ve n f.type ((cs.drop f.offset).take (P.cellsOf f.type))=some y:=by
 obtain⟨xs,n,_,rfl,hl,jy,hf⟩:=DataW.trod_struct ht h
 have hi:fs[i]?=some f:=by simpa using BB.1
 have h1:=hf i f hi
 have h2:i<xs.length:=by rw[jy];exact(Array.getElem?_eq_some_iff.1 hi).1
 exact⟨xs[i],n,by rw[h1];exact List.getElem?_eq_getElem h2⟩
theorem S9{ve:Bool}{base n:Nat}{fs:Array Field}{v:Value}{x:DataW H×List MemPlace}(Az:Value.okWide P W .any base t v)(hf:DataW.trod enc P W 0 iU ve fuel t v.cells.toList=some x)(ht:P.underlying t=some (.struct fs))(hn:P.cellsOf t=n):
  ∃ cs:List Value,v = .agg cs.toArray/\cs.length=n/\DataW.trod enc P W 0 iU ve fuel t cs=some x:=by
 obtain⟨xs,rfl,hs⟩:=okWide_struct ht Az
 exact⟨xs.toList,by simp,by rw[Array.length_toList,hs,hn],hf⟩
theorem kW{Pr:List Value->α->Prop}{ve:Bool}{e:TypeId}{cs:List Value}{x:DataW H×List MemPlace}(ht:P.underlying t=some (.slice e))(hc:P.cellsOf e=sz)(ne:0<sz)(Dp:∀ n cs y,DataW.trod enc P W 0 iU ve n e cs=some y->cs.length=sz->∃ a:α,Pr cs a)(h:DataW.trod enc P W 0 iU ve fuel t cs=some x):
  ∃(ao:Option Addr) (cap:Nat) (l:List α),cs=[.slice ao l.length cap]/\ZS (ZW W) sz Pr ao cap l/\l.length<=maxLen:=by
 have hv:∃ a len cap,cs=[.slice a len cap]:=by
  rcases DataW.trod_slice ht h with⟨h0,-⟩ | ⟨a,len,n7,BC,eZ,n,_,h0,-⟩
  ·exact⟨none,0,0,h0⟩
  ·exact⟨some a,len,n7,h0⟩
 obtain⟨a,len,cap,rfl⟩:=hv
 obtain⟨ao,m,n7,l,hv,hs,hL⟩:=XZ (v := .slice a len cap) ht hc ne Dp ⟨a,len,cap,rfl⟩ h
 injection hv with e1 e2 e3
 subst e1 e2 e3
 obtain⟨rfl,hz⟩:=ic hs
 exact⟨a,cap,l,rfl,hz,hL⟩
end
end
section
variable {vs:List Value}
def jt(L:List Asrt):Asrt where
 fp:=fps L
 ok w:=(∀ x∈L,x.ok w)/\L.Pairwise (fun x y:Asrt=>∀ b∈x.fp,b∉y.fp)
 loc w w' h hl hk:=⟨fun x hx=>x.loc w w' (fun b hb=>h b (List.mem_flatMap.2 ⟨x,hx,hb⟩)) (fun b hb=>hl b (List.mem_flatMap.2 ⟨x,hx,hb⟩)) (hk.1 x hx),hk.2⟩
section
variable {F:List Nat} {Nv w w':World} {L M R:List Asrt}
theorem Hp.open_(h:Hp F Nv w (jt M::R)):Hp F Nv w (M++R):=by
 have h0:=h.ok _ (List.mem_cons_self ..)
 have hs:=List.pairwise_cons.1 h.sep
 refine⟨h.os,h.tape,h.output,h.size,h.block,fun x hx=>?_,fun x hx b hb=>?_,fun x hx b hb=>?_,List.pairwise_append.2 ⟨h0.2,hs.2,fun x hx y hy b hb=>?_⟩⟩
 ·rcases List.mem_append.1 hx with hx | hx
  ·exact h0.1 x hx
  ·exact h.ok x (List.mem_cons_of_mem _ hx)
 ·rcases List.mem_append.1 hx with hx | hx
  ·exact h.lt _ (List.mem_cons_self ..) b (List.mem_flatMap.2 ⟨x,hx,hb⟩)
  ·exact h.lt x (List.mem_cons_of_mem _ hx) b hb
 ·rcases List.mem_append.1 hx with hx | hx
  ·exact h.ow _ (List.mem_cons_self ..) b (List.mem_flatMap.2 ⟨x,hx,hb⟩)
  ·exact h.ow x (List.mem_cons_of_mem _ hx) b hb
 ·exact hs.1 y hy b (List.mem_flatMap.2 ⟨x,hx,hb⟩)
theorem Hp.oD(h:Hp F Nv w (M++R)):Hp F Nv w (jt M::R):=by
 obtain⟨h1,h2,h3⟩:=List.pairwise_append.1 h.sep
 have hb:∀ b∈(jt M).fp,∃ x∈M,b∈x.fp:=fun b hb=>List.mem_flatMap.1 hb
 refine⟨h.os,h.tape,h.output,h.size,h.block,fun x hx=>?_,fun x hx b zR=>?_,fun x hx b zR=>?_,List.pairwise_cons.2 ⟨fun y hy b zR=>?_,h2⟩⟩
 ·rcases List.mem_cons.1 hx with rfl | hx
  ·exact⟨fun y hy=>h.ok y (List.mem_append_left _ hy),h1⟩
  ·exact h.ok x (List.mem_append_right _ hx)
 ·rcases List.mem_cons.1 hx with rfl | hx
  ·obtain⟨y,hy,xE⟩:=hb b zR;exact h.lt y (List.mem_append_left _ hy) b xE
  ·exact h.lt x (List.mem_append_right _ hx) b zR
 ·rcases List.mem_cons.1 hx with rfl | hx
  ·obtain⟨y,hy,xE⟩:=hb b zR;exact h.ow y (List.mem_append_left _ hy) b xE
  ·exact h.ow x (List.mem_append_right _ hx) b zR
 ·obtain⟨x,hx,xE⟩:=hb b zR;exact h3 x hx y hy b xE
theorem Hp.pickAll{R':List Asrt}(h:Hp F Nv w L)(hp:Pick L (jt M) R'):Hp F Nv w (M++R'):=by
 refine Hp.open_ (h.sub (M:=[]) ?_)
 exact .cons hp Sel.all
theorem Hp.selAll(h:Hp F Nv w L)(hs:Sel L M R):Hp F Nv w (jt M::R):=by
 refine Hp.oD ?_
 have:∀ {L M R:List Asrt},Sel L M R->Sel L (M++R) []:=by
  intro L M R h
  induction h with
  | nil=>exact Sel.all
  | cons h _ ih=>exact .cons h ih
 exact h.sub (this hs)
theorem Hp.setBlk{b:Nat}{o o':Obj}(h:Hp F Nv w L)(hp:Pick L (wr b o) R):Hp F Nv (w.putObj b o') (wr b o'::R):=by
 have h':Hp F Nv w (wr b o::R):=h.sub (M:=[]) (.cons hp Sel.all)
 have nU:b<w.heap.size:=h'.lt _ (List.mem_cons_self ..) b (by simp[wr])
 have hb:=(List.pairwise_cons.1 h'.sep).1
 have how:=h'.ow _ (List.mem_cons_self ..) b (by simp[wr])
 have Ep:∀ k,k≠b->(w.putObj b o').heap[k]?=w.heap[k]?:=fun k hk=>World.putObj_heap_other hk
 refine⟨h'.os,⟨h'.tape.t,h'.tape.d⟩,h'.output,by rw[World.putObj_size];exact h'.size,fun k hk hf=>?_,fun x hx=>?_,fun x hx c hc=>?_,fun x hx c hc=>?_,List.pairwise_cons.2 ⟨fun y hy c hc=>hb y hy c hc,(List.pairwise_cons.1 h'.sep).2⟩⟩
 ·rw[Ep k (fun e=>by subst e;rcases how with h1 | h1;exact hf h1;omega)];exact h'.block k hk hf
 ·rcases List.mem_cons.1 hx with rfl | hx
  ·exact World.putObj_heap_same nU
  ·refine x.loc w _ (fun c hc _=>Ep c (fun e=>?_)) (fun c hc=>h'.lt x (List.mem_cons_of_mem _ hx) c hc) (h'.ok x (List.mem_cons_of_mem _ hx))
   exact hb x hx b (by simp[wr]) (e▸hc)
 ·rw[World.putObj_size]
  rcases List.mem_cons.1 hx with rfl | hx
  ·simp[wr] at hc;subst hc;exact nU
  ·exact h'.lt x (List.mem_cons_of_mem _ hx) c hc
 ·rcases List.mem_cons.1 hx with rfl | hx
  ·simp[wr] at hc;subst hc;exact how
  ·exact h'.ow x (List.mem_cons_of_mem _ hx) c hc
end
def tZ(fn:FuncId)(tmps:Array Value)(ps:List Tmp)(as_ bo:Code)(D:Nat)(st:LoopState)(pe:Option Code):Obj:=
 .loop { state:=st,pending:=pe,fn:=fn,tmps:=tmps,params:=ps.toArray,assign:=as_,body:=bo,defers:=D }
def pY:Option Code->LoopState
 | none => .ready
 | some _ => .done
abbrev Rc:=LoopState->Option Code->Obj
def sL(cs:List Code):Nat->Option Code
 | 0=>none
 | i+1=>cs[i]?
abbrev dI(l:Nat):Rnd:=⟨some l,[]⟩
abbrev mk1(D:Nat):List Deferred:=[{ target := .collected D,args := #[] }]
abbrev sM(D:Nat):Rnd:=⟨none,mk1 D⟩
abbrev gS(D:Nat):Asrt:=wr D (.deferred (some []))
def W1(P:Program)(Z:Zp)(l:Nat){α σ G H:Type}(av:H->α->List Value)(ar:H->α->List Asrt)(Y:α->σ->Option (Bool×σ))(J:G->σ->Asrt)(Φ:G->σ->Prop):Prop:=
 ∀(x:α) (h:H) (g:G) (s:σ) (b:Bool) (s':σ) (w:World),Y x s=some (b,s')->Φ g s->Hp (fps (ar h x++[J g s])) w w (ar h x++[J g s])->PZ (fps (ar h x++[J g s])) w Z->
  ∃ fn tmps as_ bo,(Instr.yield l (av h x).toArray).run P w = .ok (.round l fn tmps as_ bo) w/\
   RoundIn Fence.wide 0 P l fn tmps as_ bo w fun e w'=>∃ g',e = .returned (.bool b)/\Φ g' s'/\Hp (fps (ar h x++[J g s])) w w' [J g' s']
def Yi:List Tmp->List Value->List (Nat×Value)->List (Nat×Value)
 | p::ps,v::vs,env=>Yi ps vs ((p,v)::env)
 | _,_,env=>env
theorem Ev.fold:∀(ps:List Tmp) (vs:List Value) (env:List (Nat×Value)) (tmps:Array Value),Ev env tmps->(∀ p∈ps,p<tmps.size)->
  Ev (Yi ps vs env) ((ps.zip vs).foldl (fun t x=>t.setIfInBounds x.1 x.2) tmps)
 | [],_,_,_,h,_=>by simpa [Yi] using h
 | _::_,[],_,_,h,_=>by simpa [Yi] using h
 | p::ps,v::vs,env,tmps,h,hp=>by
  simp only[Yi,List.zip_cons_cons,List.foldl_cons]
  exact Ev.fold ps vs _ _ (h.put p v (hp p (List.mem_cons_self ..))) (fun q hq=>by simpa using hp q (List.mem_cons_of_mem _ hq))
theorem VV:∀(ps:List (Tmp×Value)) (tmps:Array Value),(ps.foldl (fun t x=>t.setIfInBounds x.1 x.2) tmps).size=tmps.size
 | [],_=>rfl
 | p::ps,tmps=>by rw[List.foldl_cons,VV ps];simp
def J4(P:Program)(l:Nat)(bo:Code)(R:Ending->World->Prop):Exit->Act->World->Prop:=
 Exit.then (fun sY sZ=>∃ Bb,(Instr.beginRound l).run P sZ = .ok () Bb/\bo.wpIn (@FN (dI l)) 0 P (roundPost P l R) sY Bb) (fun _ _ _=>False)
section
variable {P:Program} {n:Nat} {F:List Nat} {Nv:World} {env:List (Nat×Value)} {L L':List Asrt} {l D:Nat} {R:Ending->World->Prop} {fn:FuncId} {tmps:Array Value} {ps:List Tmp} {as_ bo:Code} {rc:Rc}
theorem aj{Z:Zp}{α σ G H:Type}{av:H->α->List Value}{ar:H->α->List Asrt}{Y:α->σ->Option (Bool×σ)}{LI:G->σ->List Asrt}{pc:σ->Option Code}{Φ:G->σ->Prop}(Er:rc=tZ fn tmps ps as_ bo D)(Es:Ev env tmps)(ne:tmps.size=n)(hl:∀ h x,(av h x).length=ps.length)(hps:∀ p∈ps,p<n)(k:∀ x h g s b s' F w,Y x s=some (b,s')->Φ g s->PZ F w Z->
   @WC (dI l) P n F w (J4 P l bo fun e w'=>∃ g',e = .returned (.bool b)/\Φ g' s'/\Hp F w w' [jt (LI g' s'++[wr l (rc (pY (pc s')) (pc s'))])]) as_ (Yi ps (av h x) env)
    (ar h x++(LI g s++[wr l (rc (pY (pc s)) (pc s))]))):
  W1 P Z l av ar Y (fun g s=>jt (LI g s++[wr l (rc (pY (pc s)) (pc s))])) Φ:=by
 subst Er
 intro x h g s b s' w hY t8 hp hz
 have hop:Hp (fps (ar h x++[jt (LI g s++[wr l (tZ fn tmps ps as_ bo D (pY (pc s)) (pc s))])])) w w (ar h x++(LI g s++[wr l (tZ fn tmps ps as_ bo D (pY (pc s)) (pc s))])):=by
  have hpk:Pick (ar h x++[jt (LI g s++[wr l (tZ fn tmps ps as_ bo D (pY (pc s)) (pc s))])]) (jt (LI g s++[wr l (tZ fn tmps ps as_ bo D (pY (pc s)) (pc s))])) (ar h x):=by
   generalize ar h x=A
   induction A with
   | nil=>exact .here
   | cons a A ih=>exact .there ih
  have:=hp.pickAll hpk
  have uX:∀(A B:List Asrt),Sel (A++B) (B++A) []:=by
   intro A B
   have h1:∀(A B C:List Asrt),Sel (A++B) C []->∀ a,Sel (A++a::B) (a::C) []:=by
    intro A B C h a
    refine .cons ?_ h
    clear h
    induction A with
    | nil=>exact .here
    | cons x A ih=>exact .there ih
   induction B generalizing A with
   | nil=>simpa using Sel.all
   | cons b B ih=>simpa using h1 A B _ (by simpa using ih A) b
  exact this.sub (uX _ _)
 have hb:w.heap[l]?=some (tZ fn tmps ps as_ bo D (pY (pc s)) (pc s)):=
  hop.ok (wr l (tZ fn tmps ps as_ bo D (pY (pc s)) (pc s))) (by simp)
 refine⟨_,_,_,_,run_yield hb (by simp[hl]),roundIn_of_wpIn (F := @FN (dI l)) (l:=l) trivial ?_⟩
 refine k x h g s b s' _ w hY t8 hz _ w (@SS.mk (dI l) _ _ _ _ _ _ _ rfl ?_ ?_ hop)
 ·have hz:=VV (ps.zip (av h x)) tmps
  simp only[<- Array.foldl_toList,Array.toList_zip] at *
  simpa [ne] using hz
 ·have hz:=Ev.fold ps (av h x) env tmps Es (fun p hp=>by rw[ne];exact hps p hp)
  simp only[<- Array.foldl_toList,Array.toList_zip] at *
  simpa using hz
theorem Bh(Er:rc=tZ fn tmps ps as_ bo D)(hp:Pick L (wr l (rc .ready none)) L')(k : @WC (dI l) P n F Nv (roundPost P l R) bo env (wr l (rc .busy none)::L')):
  @WX (dI l) n F Nv (J4 P l bo R) .normal env L:=by
 subst Er
 letI:Rnd:=dI l
 intro a w h
 have hb:w.heap[l]?=some (tZ fn tmps ps as_ bo D .ready none):=h.hp.ok _ hp.mem
 exact⟨_,run_beginRound hb rfl,k a _ (@SS.mk (dI l) _ _ _ _ _ _ _ h.defers h.size h.ev (h.hp.setBlk hp))⟩
theorem Ob(Er:rc=tZ fn tmps ps as_ bo D)(hp:Pick L (wr l (rc .busy none)) L')(k:∀ w',Hp F Nv w' (wr l (rc .ready none)::L')->R (.returned (.bool true)) w') : @WX (dI l) n F Nv (roundPost P l R) .normal env L:=by
 subst Er
 letI:Rnd:=dI l
 intro a w h
 have hb:w.heap[l]?=some (tZ fn tmps ps as_ bo D .busy none):=h.hp.ok _ hp.mem
 exact⟨_,_,run_endRound none hb,k _ (h.hp.setBlk hp)⟩
def WJ(P:Program)(n:Nat)(F:List Nat)(Nv:World)(Q:Exit->Act->World->Prop)(D:Nat)(env:List (Nat×Value))(L:List Asrt):Option Code->Prop
 | none => @WX (sM D) n F Nv Q .normal env L
 | some c => @WC (sM D) P n F Nv Q c env L
theorem H8{g:Operand}{f:FuncId}{caps:List Value}{Q:Exit->Act->World->Prop}(hg:eo env g=some (.func (.func f) #[] caps.toArray))(D5:∀ args w,(callFunc f args).run P w = .ok (.enter f args) w)(k:∀ fn tmps l D (rc:Rc),rc=tZ fn tmps ps as_ bo D->Ev env tmps->tmps.size=n->∀ w,Hp F Nv w (wr l (rc .ready none)::gS D::L)->
   Calls P f (.func (.yield l) #[] #[]::caps).toArray w fun e w'=>∃ v pe L',e = .returned v/\Hp F Nv w' (wr l (rc (pY pe) pe)::L')/\WJ P n F Nv Q D env L' pe):
  @WC Rnd.base P n F Nv Q (.rangeFunc g ps.toArray as_ bo) env L:=by
 intro a w h
 refine wpIn_rangeFunc fun fn _=>?_
 have zX:=(h.hp.alloc (.deferred (some []))).alloc (tZ fn a.tmps ps as_ bo w.heap.size .ready none)
 rw[World.size_alloc] at zX
 refine⟨w.heap.size+1,mk1 w.heap.size,_,{ target := .fn (.func f) caps.toArray,args := #[.func (.yield (w.heap.size+1)) #[] #[]] },(w.alloc (.deferred (some []))).alloc (tZ fn a.tmps ps as_ bo w.heap.size .ready none),f,(.func (.yield (w.heap.size+1)) #[] #[]::caps).toArray,(w.alloc (.deferred (some []))).alloc (tZ fn a.tmps ps as_ bo w.heap.size .ready none),run_enterLoop_outer ..,?_,fun _ _=>trivial,?_,fun h=>by simp[FN] at h,?_⟩
 ·have he:=h.eval hg
  simp only[resolve,rangeCall]
  rw[he]
  simp[Deferred.ofValue,Act.eval,tZ]
 ·simp[invoke,D5]
 ·refine(G1 (k fn a.tmps _ _ _ rfl h.ev h.size _ zX)).mono ?_
  rintro e w' ⟨v,pe,L',rfl,hp,hj⟩
  have hb:w'.heap[w.heap.size+1]?=some (tZ fn a.tmps ps as_ bo w.heap.size (pY pe) pe):=hp.ok _ (List.mem_cons_self ..)
  have Al:Hp F Nv (w'.putObj (w.heap.size+1) (tZ fn a.tmps ps as_ bo w.heap.size .exhausted pe)) L':=
   (hp.setBlk (o':=tZ fn a.tmps ps as_ bo w.heap.size .exhausted pe) .here).sub (L':=L') (M:=[wr (w.heap.size+1) (tZ fn a.tmps ps as_ bo w.heap.size .exhausted pe)]) (by
    have:∀(x:Asrt) (L:List Asrt),Sel (x::L) L [x]:=by
     intro x L
     induction L with
     | nil=>exact .nil
     | cons y L ih=>exact .cons (.there .here) ih
    exact this _ _)
  refine⟨pe,_,run_endLoop hb (by cases pe <;> simp[pY]),?_⟩
  have hd:a.defers=[]:=h.defers
  cases pe with
  | none=>exact hj _ _ (@SS.mk (sM w.heap.size) _ _ _ _ _ _ _ (by simp[hd];rfl) h.size h.ev Al)
  | some c=>exact hj _ _ (@SS.mk (sM w.heap.size) _ _ _ _ _ _ _ (by simp[hd];rfl) h.size h.ev Al)
end
section
variable {P:Program} {n:Nat} {F:List Nat} {Nv:World} {Q:Exit->Act->World->Prop} {D p i:Nat} {env:List (Nat×Value)} {L:List Asrt} {cs:List Code} {c:Code}
theorem wjN(k : @WX (sM D) n F Nv Q .normal env L):WJ P n F Nv Q D env L (sL [] p):=by
 cases p with
 | zero=>exact k
 | succ p=>simpa [sL,WJ] using k
theorem dJ{α β:Type}{a b:α}{c d:β}(h:some (a,c)=some (b,d)):a=b/\c=d:=by simpa using h
theorem Om[Rnd]{c:Code}{L':List Asrt}(h:L=L')(k:WC P n F Nv Q c env L'):WC P n F Nv Q c env L:=h▸k
end
section
variable {P:Program} {n:Nat} {F:List Nat} {Nv:World} {env:List (Nat×Value)} {L L':List Asrt} {D:Nat} {R:Ending->World->Prop}
theorem At{f:FuncId}{fn:Func}{c:Code}{w:World}{n:Nat}{pre:List Asrt}(hf:P.funcs[f]?=some fn)(hb:fn.body=some c)(hn:fn.ntmps=n)(ne:Nat.ble vs.length n=true)(ip:Hp (fps pre) w w pre)(he:lC 0 vs=env)(k : @WC Rnd.base P n (fps pre) w (bodyPostM (@FN Rnd.base) 0 P fn R) c env pre):Calls P f vs.toArray w R:=by
 subst he
 refine QY (m:=0) (callsIn_of_wp_marks (F := @FN Rnd.base) hf hb trivial (k _ _ (@SS.mk Rnd.base _ _ _ _ _ _ _ rfl ?_ ?_ ip)) rfl)
 ·have:=Nat.le_of_ble_eq_true ne
  simp[hn];omega
 ·intro i v hv
  obtain⟨_,h⟩:=WU vs 0 i v hv
  have nU:i<vs.length:=by have:=(List.getElem?_eq_some_iff.1 h).1;simpa using this
  rw[Array.getElem?_append_left (by simpa using nU)]
  simpa using h
theorem O0{fn:Func}{rs:List ResultVar}(hr:fn.results=rs.toArray)(hv:ResV P F Nv env L rs vs)(k:∀ w,Hp F Nv w L->R (.returned (cF vs)) w):
  @WX Rnd.base n F Nv (bodyPostM (@FN Rnd.base) 0 P fn R) .ret env L:=fun a w h=>by
 have hd:a.defers=[]:=h.defers
 show LeavesInM _ _ _ _ _ _ a.defers _ _
 rw[hd];exact⟨_,hv.run hr h,k w h.hp⟩
theorem Oc{fn:Func}{rs:List ResultVar}(hp:Pick L (gS D) L')(hr:fn.results=rs.toArray)(hv:ResV P F Nv env (wr D (.deferred none)::L') rs vs)(k:∀ w,Hp F Nv w (wr D (.deferred none)::L')->R (.returned (cF vs)) w):
  @WX (sM D) n F Nv (bodyPostM (@FN Rnd.base) 0 P fn R) .ret env L:=fun a w h=>by
 letI:Rnd:=sM D
 have hd:a.defers=mk1 D:=h.defers
 have hb:w.heap[D]?=some (.deferred (some [])):=h.hp.ok _ hp.mem
 show LeavesInM _ _ _ _ _ _ a.defers _ _
 rw[hd]
 have Al:=h.hp.setBlk (o' := .deferred none) hp
 refine⟨by simp,.inl ⟨D,_,rfl,run_takeDeferred hb,?_⟩⟩
 exact⟨_,hv.run hr (@SS.mk (sM D) _ _ _ _ _ _ _ h.defers h.size h.ev Al),k _ Al⟩
end
section
variable [Rnd] {P:Program} {n:Nat} {F:List Nat} {Nv:World} {env:List (Nat×Value)} {L Lr:List Asrt} {eA:Array Oper} {Q:Exit->Act->World->Prop} {eZ:List Oper}
 {dd:Nat} {ty:TypeId} {pos:String} {after:Array Edge} {gu:Option (Nat×Bool)}
theorem H6{Z:Zp}{l:Nat}{α σ G H:Type}{av:H->α->List Value}{ar:H->α->List Asrt}{Y:α->σ->Option (Bool×σ)}{J:G->σ->Asrt}{Φ:G->σ->Prop}{c:Operand}{xs:List Operand}{BA:Array TypeId}{x:α}{h:H}{g:G}{s s':σ}{b:Bool}(hY:W1 P Z l av ar Y J Φ)[hg:Nu (gd env eA ⟨some dd,.call ⟨.value c,xs.toArray,BA⟩,ty,pos,after,gu⟩) (some true)][lp:Nu (Nat.blt dd n) true](hc:eo env c=some (.func (.yield l) #[] #[]))(he:Eos env xs (av h x))(hs:Sel L (ar h x++[J g s]) Lr)(hb:Y x s=some (b,s'))(t8:Φ g s)(hz:∀ w,Hp F Nv w L->PZ (fps (ar h x++[J g s])) w Z)(k:∀ g',Φ g' s'->WL P n F Nv eA Q eZ ((dd,.bool b)::env) ([J g' s']++Lr)):
  WL P n F Nv eA Q (⟨some dd,.call ⟨.value c,xs.toArray,BA⟩,ty,pos,after,gu⟩::eZ) env L:=by
 intro a w Du
 refine ia (kE Du hg.1) ?_
 obtain⟨fn,tmps,as_,bo,hy,hr⟩:=hY x h g s b s' w hb t8 (Du.hp.owns hs) (hz w Du.hp)
 refine⟨fun _ _=>trivial,?_⟩
 have hm:=he.map Du
 have iT:(execOp a.eval ⟨some dd,.call ⟨.value c,xs.toArray,BA⟩,ty,pos,after,gu⟩).run P w = .ok (.round l fn tmps as_ bo) w:=by
  simp[execOp,resolve,Du.eval hc,Deferred.ofValue,invoke,hm,hy]
 rw[bE _ iT (fun d e=>by cases e),Oper.uponIn_round]
 refine⟨fun h=>by simp[FN] at h,RoundIn.mono (F:=FN) (show RoundIn FN 0 P l fn tmps as_ bo w _ from hr) ?_⟩
 rintro e w' ⟨g',rfl,De,hp⟩
 exact k g' De _ _ (Du.put lp.1 _ (Du.hp.call hs hp))
end
end
section
abbrev MG(α:Type):=List ((Option Addr×Nat)×List α)
def em{α:Type}(p:(Option Addr×Nat)×List α):List Value:=[.slice p.1.1 p.2.length p.1.2]
section
variable {F:List Nat} {Nv w:World} {L R R' R'':List Asrt} {e:TypeId} {sz:Nat} {α:Type} {enc:α->List Value} {m:MG α} {l:List (List α)} {i:Int} {Z Zn:Zp}
theorem Hp.perm{M:List Asrt}(h:Hp F Nv w L)(p:L.Perm M):Hp F Nv w M:=
 ⟨h.os,h.tape,h.output,h.size,h.block,fun x hx=>h.ok x (p.mem_iff.2 hx),fun x hx=>h.lt x (p.mem_iff.2 hx),fun x hx=>h.ow x (p.mem_iff.2 hx),
  (List.Perm.pairwise_iff (fun {x y} hxy b hb hc=>hxy b hc hb) p).1 h.sep⟩
theorem PZ.left{a b:Zp}{w:World}(h:PZ F w (a++b)):PZ F w a:=⟨fun p hp=>h.1 p (List.mem_append_left _ hp),fun p hp=>h.2 p (List.mem_append_left _ hp)⟩
end
section
variable [Rnd]
variable {P:Program} {n:Nat} {F:List Nat} {Nv:World} {env:List (Nat×Value)} {L R R' R'':List Asrt} {eA:Array Oper} {Q:Exit->Act->World->Prop} {lo:List Oper} {cc:Code} {ex:Exit}
 {e oe:TypeId} {sz:Nat} {α:Type} {enc:α->List Value} {m:MG α} {l:List (List α)} {i:Int} {Z Zn:Zp} {tl:Nat->Bool} {Ls:List Asrt} {fuel:Nat} {listed:Array Bool} {QD:Act->World->Prop}
end
section
variable [Rnd]
variable {P:Program} {n:Nat} {F:List Nat} {Nv:World} {env:List (Nat×Value)} {L:List Asrt} {d:Option Tmp} {ty:TypeId} {pos:String} {after:Array Edge} {g:Option (Nat×Bool)} {x y:Operand} {t t' e:TypeId}
end
inductive Ks (cs:List Value):List (Nat×Value)->Prop
 | nil:Ks cs []
 | cons {k:Nat} {v:Value} {ks:List (Nat×Value)} (h:cs[k]?=some v) (t:Ks cs ks):Ks cs ((k,v)::ks)
theorem Ks.get{cs:List Value}{ks:List (Nat×Value)}(h:Ks cs ks):∀ p∈ks,cs[p.1]?=some p.2:=by
 induction h with
 | nil=>intro p hp;cases hp
 | cons h _ ih=>
  intro p hp
  rcases List.mem_cons.1 hp with rfl | hp
  ·exact h
  ·exact ih p hp
def rG(b:Nat)(T:TypeId)(ks:List (Nat×Value)):Asrt where
 fp:=[b]
 ok w:=∃ cs,(stb b T cs).ok w/\Ks cs ks
 loc w w' h hl hk:=by
  obtain⟨cs,h1,h2⟩:=hk
  exact⟨cs,(stb b T cs).loc w w' (by simpa [dG] using h) (by simpa [dG] using hl) h1,h2⟩
theorem Wk.stb{b:Nat}{T:TypeId}{cs:List Value}{ks:List (Nat×Value)}{L M:List Asrt}(h:Ks cs ks)(t:Wk L M):Wk (Sep.stb b T cs::L) (rG b T ks::M):=
 .any rfl (fun _ hk=>⟨cs,hk,h⟩) t
theorem mH{F:List Nat}{Nv:World}{L R:List Asrt}{b off:Nat}{T:TypeId}{ks:List (Nat×Value)}{v:Value}(hm:Pick L (rG b T ks) R)(hv:(off,v)∈ks):∀ w,Hp F Nv w L->w.cell? ⟨b,off,none⟩=some v:=by
 intro w h
 obtain⟨cs,h1,h2⟩:=h.ok _ hm.mem
 rw[cell_of_row w b off _ T (0,0) (dF.1 h1)]
 simpa using h2.get _ hv
end
section
variable {x y:Code}
section
variable {P:Program} {n:Nat} {F:List Nat} {Nv:World} {env:List (Nat×Value)} {L:List Asrt} {Q:Exit->Act->World->Prop}
theorem Po{G:Type}(D:G->Nat)(φ:G->Prop)(iA:G->List (Nat×Value))(LI:G->List Asrt)(k1 : @WC Rnd.base P n F Nv (Exit.then (fun a w=>∃ g,φ g /\ @SS (sM (D g)) n F Nv (iA g) (LI g) a w) Q) x env L)(k2:∀ g,φ g -> @WC (sM (D g)) P n F Nv Q y (iA g) (LI g)) : @WC Rnd.base P n F Nv Q (.seq x y) env L:=by
 intro a w h
 refine wpIn_seq (Go.wpIn_mono (k1 a w h) ?_)
 intro e a' w' hq
 cases e with
 | normal=>obtain⟨g,t8,hs⟩:=hq;exact k2 g t8 a' w' hs
 | _=>exact hq
theorem Of{G:Type}{D:G->Nat}{φ:G->Prop}{iA:G->List (Nat×Value)}{LI:G->List Asrt}{M:List Asrt}(g:G)(t8:φ g)(hr:Restr env (iA g))(hL:Sel L (LI g) M):
  @WX (sM (D g)) n F Nv (Exit.then (fun a w=>∃ g,φ g /\ @SS (sM (D g)) n F Nv (iA g) (LI g) a w) Q) .normal env L:=
 fun _ _ h=>⟨g,t8,@SS.drop (sM (D g)) _ _ _ _ _ _ _ _ _ (@SS.restr (sM (D g)) _ _ _ _ _ _ _ _ h hr) hL⟩
theorem Re{G:Type}(D:G->Nat)(φ:G->Prop)(iA:G->List (Nat×Value))(LI:G->List Asrt){c:Code}(k1 : @WC Rnd.base P n F Nv (Exit.then (fun a w=>∃ g,φ g /\ @SS (sM (D g)) n F Nv (iA g) (LI g) a w) Q) c env L)(k2:∀ g,φ g -> @WX (sM (D g)) n F Nv Q .normal (iA g) (LI g)) : @WC Rnd.base P n F Nv Q c env L:=by
 intro a w h
 refine Go.wpIn_mono (k1 a w h) ?_
 intro e a' w' hq
 cases e with
 | normal=>obtain⟨g,t8,hs⟩:=hq;exact k2 g t8 a' w' hs
 | _=>exact hq
theorem Pn{A1 A2 A3 A4:Type}(φ:Nat->A1->A2->A3->A4->Prop)(iA:Nat->A1->A2->A3->A4->List (Nat×Value))(LI:Nat->A1->A2->A3->A4->List Asrt)(k1 : @WC Rnd.base P n F Nv (Exit.then (fun a w=>∃ g:Nat×A1×A2×A3×A4,(cu5 φ g) /\ @SS (sM g.1) n F Nv (cu5 iA g) (cu5 LI g) a w) Q) x env L)(k2:∀ x0 x1 x2 x3 x4,(φ x0 x1 x2 x3 x4) -> @WC (sM x0) P n F Nv Q y (iA x0 x1 x2 x3 x4) (LI x0 x1 x2 x3 x4)) : @WC Rnd.base P n F Nv Q (.seq x y) env L:=
 Po (G:=Nat×A1×A2×A3×A4) (fun g=>g.1) (fun g=>(cu5 φ g)) (fun g=>(cu5 iA g)) (fun g=>(cu5 LI g)) k1 (fun g h=>k2 g.1 g.2.1 g.2.2.1 g.2.2.2.1 g.2.2.2.2 h)
theorem Ra{A1 A2 A3 A4 A5:Type}(φ:Nat->A1->A2->A3->A4->A5->Prop)(iA:Nat->A1->A2->A3->A4->A5->List (Nat×Value))(LI:Nat->A1->A2->A3->A4->A5->List Asrt)(k1 : @WC Rnd.base P n F Nv (Exit.then (fun a w=>∃ g:Nat×A1×A2×A3×A4×A5,(cu6 φ g) /\ @SS (sM g.1) n F Nv (cu6 iA g) (cu6 LI g) a w) Q) x env L)(k2:∀ x0 x1 x2 x3 x4 x5,(φ x0 x1 x2 x3 x4 x5) -> @WC (sM x0) P n F Nv Q y (iA x0 x1 x2 x3 x4 x5) (LI x0 x1 x2 x3 x4 x5)) : @WC Rnd.base P n F Nv Q (.seq x y) env L:=
 Po (G:=Nat×A1×A2×A3×A4×A5) (fun g=>g.1) (fun g=>(cu6 φ g)) (fun g=>(cu6 iA g)) (fun g=>(cu6 LI g)) k1 (fun g h=>k2 g.1 g.2.1 g.2.2.1 g.2.2.2.1 g.2.2.2.2.1 g.2.2.2.2.2 h)
end
end
section
variable {w:World}
def xC{κ α:Type}[DecidableEq κ]:List (κ×α)->κ->α->α
 | [],_,d=>d
 | p::l,k,d=>if k=p.1 then p.2 else xC l k d
def wK{κ α:Type}[DecidableEq κ]:List (κ×α)->κ->Bool
 | [],_=>false
 | p::l,k=>if k=p.1 then true else wK l k
def w4{κ α:Type}[DecidableEq κ]:List (κ×α)->κ->α->List (κ×α)
 | [],k,v=>[(k,v)]
 | p::l,k,v=>if k=p.1 then(p.1,v)::l else p::w4 l k v
def re(es:Array MapEntry)(jF:Nat):Prop:=(∀ x∈es.toList,x.born<jF)/\(es.toList.map (·.born)).Nodup
theorem re.empty:re #[] 0:=⟨by simp,by simp⟩
theorem re.push{es:Array MapEntry}{jF:Nat}(h:re es jF)(k v:Value):re (es.push { key:=k,val:=v,born:=jF }) (jF+1):=by
 refine⟨?_,?_⟩
 ·intro x hx
  simp only[Array.toList_push,List.mem_append,List.mem_singleton] at hx
  rcases hx with hx | rfl
  ·exact Nat.lt_succ_of_lt (h.1 x hx)
  ·exact Nat.lt_succ_self _
 ·simp only[Array.toList_push,List.map_append,List.map_cons,List.map_nil]
  refine List.nodup_append.2 ⟨h.2,by simp,?_⟩
  intro a ha b hb
  obtain⟨x,hx,rfl⟩:=List.mem_map.1 ha
  simp at hb
  have:=h.1 x hx
  omega
theorem re.modify{es:Array MapEntry}{jF:Nat}(h:re es jF)(i:Nat)(f:MapEntry->MapEntry)(hf:∀ e,(f e).born=e.born):re (es.modify i f) jF:=by
 have hm:(es.modify i f).toList.map (·.born)=es.toList.map (·.born):=by
  rw[Array.toList_modify]
  apply List.ext_getElem?
  intro j
  simp only[List.getElem?_map,List.getElem?_modify]
  cases es.toList[j]? with
  | none=>simp
  | some e=>by_cases hij:i=j <;> simp[hij,hf]
 refine⟨?_,by rw[hm];exact h.2⟩
 intro x hx
 have:x.born∈(es.modify i f).toList.map (·.born):=List.mem_map.2 ⟨x,hx,rfl⟩
 rw[hm] at this
 obtain⟨y,hy,he⟩:=List.mem_map.1 this
 rw[<- he];exact h.1 y hy
def xU{κ α:Type}(b:Nat)(ek:κ->Value)(ev:α->Value)(l:List (κ×α)):Asrt where
 fp:=[b]
 ok w:=∃ es jF,w.heap[b]?=some (.map es jF)/\es.toList.map (fun e=>(e.key,e.val))=l.map (fun p=>(ek p.1,ev p.2))/\re es jF
 loc w w' h hl hk:=by
  obtain⟨es,jF,h1,h2⟩:=hk
  exact⟨es,jF,by rw[h b (by simp) (hl b (by simp))];exact h1,h2⟩
structure KeyT (P:Program) (kt:TypeId) {κ:Type} [DecidableEq κ] (ek:κ->Value):Prop where
 chk:∀(b:Bool) (k:κ) (w:World),(Instr.checkKey b 10000 kt (ek k)).run P w = .ok () w
 find:∀(k:κ) (es:List MapEntry) (ks:List κ) (w:World),es.map (·.key)=ks.map ek->
  (Instr.findKey kt (ek k) es).run P w = .ok ((ks.findIdx? fun k'=>decide (k=k')).map fun i=>(i,((es[i]?).map (·.val)).getD undef)) w
 stays:∀(k:κ) (w:World),(Instr.keyThatStays (ek k) (ek k)).run P w = .ok (ek k) w
section
variable {κ α:Type} [DecidableEq κ]
theorem YV{kk:IntKind}(a:Int):∀(es:List MapEntry) (ks:List Int) (i:Nat),es.map (·.key)=ks.map (Value.int kk)->
  Instr.findNow (.int kk) (.int kk a) es i=some ((ks.findIdx? fun k'=>decide (a=k')).map fun j=>(i+j,((es[j]?).map (·.val)).getD undef))
 | [],[],i,_=>rfl
 | [],_::_,_,h=>by simp at h
 | _::_,[],_,h=>by simp at h
 | e::es,k::ks,i,h=>by
  simp only[List.map_cons,List.cons.injEq] at h
  unfold Instr.findNow
  rw[h.1]
  simp only[Instr.sameNow,if_true]
  by_cases hk:a=k
  ·subst hk;simp[List.findIdx?_cons]
  ·have:(a == k)=false:=by simp[hk]
   rw[this]
   simp only
   rw[YV a es ks (i+1) h.2,List.findIdx?_cons]
   simp only[hk,decide_false,Bool.false_eq_true,if_false]
   cases ks.findIdx? (fun k'=>decide (a=k')) with
   | none=>rfl
   | some j=>simp;omega
theorem al(a b:ByteArray):(a == b)=decide (a=b):=by
 rw[Bool.eq_iff_iff,MapKept.bytes_beq,decide_eq_true_eq]
theorem YW(a:ByteArray):∀(es:List MapEntry) (ks:List ByteArray) (i:Nat),es.map (·.key)=ks.map Value.string->
  Instr.findNow .string (.string a) es i=some ((ks.findIdx? fun k'=>decide (a=k')).map fun j=>(i+j,((es[j]?).map (·.val)).getD undef))
 | [],[],i,_=>rfl
 | [],_::_,_,h=>by simp at h
 | _::_,[],_,h=>by simp at h
 | e::es,k::ks,i,h=>by
  simp only[List.map_cons,List.cons.injEq] at h
  unfold Instr.findNow
  rw[h.1]
  simp only[Instr.sameNow]
  rw[al]
  by_cases hk:a=k
  ·subst hk;simp[List.findIdx?_cons]
  ·rw[decide_eq_false hk]
   simp only
   rw[YW a es ks (i+1) h.2,List.findIdx?_cons]
   simp only[hk,decide_false,Bool.false_eq_true,if_false]
   cases ks.findIdx? (fun k'=>decide (a=k')) with
   | none=>rfl
   | some j=>simp;omega
theorem U8{P:Program}{kt:TypeId}(h:P.underlying kt=some .string):KeyT P kt Value.string where
 chk b k w:=MapKept.run_checkKey h (by simp[MapKept.IsKey]) b 9999
 find k es ks w hk:=by
  unfold Instr.findKey
  simp only[Sem.run_bind,run_underlying h,Result.andThen]
  rw[YW k es ks 0 hk]
  simp
 stays k w:=by simp[Instr.keyThatStays,Instr.sameBits,al]
theorem U9{P:Program}{kt:TypeId}{kk:IntKind}(h:P.underlying kt=some (.int kk)):KeyT P kt (Value.int kk) where
 chk b k w:=MapKept.run_checkKey h (by simp[MapKept.IsKey]) b 9999
 find k es ks w hk:=by
  unfold Instr.findKey
  simp only[Sem.run_bind,run_underlying h,Result.andThen]
  rw[YV k es ks 0 hk]
  simp
 stays k w:=by simp[Instr.keyThatStays,Instr.sameBits]
theorem bH{ek:κ->Value}{ev:α->Value}{k:κ}{d:α}:∀(l:List (κ×α)) (es:List MapEntry),es.map (fun e=>(e.key,e.val))=l.map (fun p=>(ek p.1,ev p.2))->
  (match ((l.map (·.1)).findIdx? fun k'=>decide (k=k')).map fun i=>(i,((es[i]?).map (·.val)).getD undef) with | some p=>p.2 | none=>ev d)=ev (xC l k d)
 | [],[],_=>rfl
 | [],_::_,h=>by simp at h
 | _::_,[],h=>by simp at h
 | p::l,e::es,h=>by
  simp only[List.map_cons,List.cons.injEq,Prod.mk.injEq] at h
  rw[List.map_cons,List.findIdx?_cons]
  unfold xC
  by_cases hk:k=p.1
  ·simp[hk,h.1.2]
  ·simp only[hk,decide_false,Bool.false_eq_true,if_false]
   rw[<- bH l es h.2]
   cases (l.map (·.1)).findIdx? (fun k'=>decide (k=k')) <;> simp
theorem am{k:κ}:∀(l:List (κ×α)),((l.map (·.1)).findIdx? fun k'=>decide (k=k')).isSome=wK l k
 | []=>rfl
 | p::l=>by
  rw[List.map_cons,List.findIdx?_cons]
  unfold wK
  by_cases hk:k=p.1
  ·simp[hk]
  ·simp only[hk,decide_false,Bool.false_eq_true,if_false]
   rw[<- am l]
   cases (l.map (·.1)).findIdx? (fun k'=>decide (k=k')) <;> simp
theorem ie{ek:κ->Value}{ev:α->Value}{k:κ}{v:α}:∀(l:List (κ×α)) (es:List MapEntry) (i:Nat),es.map (fun e=>(e.key,e.val))=l.map (fun p=>(ek p.1,ev p.2))->
  ((l.map (·.1)).findIdx? fun k'=>decide (k=k'))=some i->
  i<es.length/\((es[i]?).map (·.key)).getD undef=ek k/\(es.modify i fun e=>{ e with key:=ek k,val:=ev v }).map (fun e=>(e.key,e.val))=(w4 l k v).map (fun p=>(ek p.1,ev p.2))
 | [],es,i,_,hf=>by simp at hf
 | _::_,[],_,h,_=>by simp at h
 | p::l,e::es,i,h,hf=>by
  simp only[List.map_cons,List.cons.injEq,Prod.mk.injEq] at h
  rw[List.map_cons,List.findIdx?_cons] at hf
  unfold w4
  by_cases hk:k=p.1
  ·subst hk
   simp at hf
   subst hf
   simp[h.1.1,h.2]
  ·simp only[hk,decide_false,Bool.false_eq_true,if_false] at hf
   rw[Option.map_eq_some_iff] at hf
   obtain⟨j,hj,rfl⟩:=hf
   obtain⟨h1,h2,h3⟩:=ie (v:=v) l es j h.2 hj
   refine⟨by simp;omega,by simpa using h2,?_⟩
   rw[if_neg hk,List.modify_succ_cons,List.map_cons,List.map_cons,h3,h.1.1,h.1.2]
theorem ig{k:κ}{v:α}:∀(l:List (κ×α)),((l.map (·.1)).findIdx? fun k'=>decide (k=k'))=none->w4 l k v=l++[(k,v)]
 | [],_=>rfl
 | p::l,hf=>by
  rw[List.map_cons,List.findIdx?_cons] at hf
  unfold w4
  by_cases hk:k=p.1
  ·simp[hk] at hf
  ·simp only[hk,decide_false,Bool.false_eq_true,if_false,Option.map_eq_none_iff] at hf
   rw[if_neg hk,ig l hf];rfl
theorem dK{ek:κ->Value}{ev:α->Value}{l:List (κ×α)}{es:List MapEntry}(h:es.map (fun e=>(e.key,e.val))=l.map (fun p=>(ek p.1,ev p.2))):es.map (·.key)=(l.map (·.1)).map ek:=by
 have:=congrArg (List.map (·.1)) h
 rw[List.map_map,List.map_map] at this
 rw[List.map_map]
 exact this
end
section
variable [Rnd]
variable {P:Program} {n:Nat} {F:List Nat} {Nv:World} {env:List (Nat×Value)} {L R:List Asrt} {d:Option Tmp} {ty:TypeId} {pos:String} {after:Array Edge} {g:Option (Nat×Bool)} {x y z:Operand} {t kt e:TypeId}
 {κ α:Type} [DecidableEq κ] {ek:κ->Value} {ev:α->Value} {l:List (κ×α)} {b:Nat} {k:κ} {v dflt:α} {zv:Value}
theorem fh(ek:κ->Value)(ev:α->Value):nZ P n F Nv env L ⟨d,.makeMap t none,ty,pos,after,g⟩ (fun _:Nat=>True) (fun b => .map (some b)) (fun b=>xU b ek ev []::L):=by
 intro a w h
 refine⟨w.heap.size,w.alloc (.map #[] 0),?_,trivial,?_,.alloc _ _⟩
 ·simp[execOp,run_makeMap]
 ·exact Wk.hp (Wk.any (x:=wr w.heap.size (.map #[] 0)) (y:=xU w.heap.size ek ev []) rfl (fun w' hk=>⟨#[],0,hk,rfl,re.empty⟩) (Wk.refl L)) (h.hp.alloc _)
theorem FM(K:KeyT P kt ek)(ht:P.underlying t=some (.map kt e))(hz:jk P e zv)(hd:zv=ev dflt)(hp:Hp F Nv w L)(hm:Pick L (xU b ek ev l) R):
  (Instr.lookup t (.map (some b)) (ek k) false).run P w = .ok (ev (xC l k dflt)) w:=by
 obtain⟨es,jF,hb,he,n4⟩:=hp.ok _ hm.mem
 have h1:=K.find k es.toList (l.map (·.1)) w (dK he)
 have h2:=bH (ek:=ek) (ev:=ev) (k:=k) (d:=dflt) l es.toList he
 have Et:=congrFun hz w
 simp only[Instr.lookup,Sem.run_bind,run_underlying ht,Result.andThen,MapKept.run_getObj_map hb,K.chk]
 cases hf:(l.map (·.1)).findIdx? (fun k'=>decide (k=k')) with
 | none=>rw[hf] at h1 h2;simp only[Option.map_none] at h1 h2;simp[h1,Et,hd,h2]
 | some i=>rw[hf] at h1 h2;simp only[Option.map_some,Array.getElem?_toList] at h1 h2;simp[h1,h2]
theorem GO(K:KeyT P kt ek)(ht:P.underlying t=some (.map kt e))(hz:jk P e zv)(hd:zv=ev dflt)(hp:Hp F Nv w L)(hm:Pick L (xU b ek ev l) R):
  (Instr.lookup t (.map (some b)) (ek k) true).run P w = .ok (.tuple #[ev (xC l k dflt),.bool (wK l k)]) w:=by
 obtain⟨es,jF,hb,he,n4⟩:=hp.ok _ hm.mem
 have h1:=K.find k es.toList (l.map (·.1)) w (dK he)
 have h2:=bH (ek:=ek) (ev:=ev) (k:=k) (d:=dflt) l es.toList he
 have h3:=am (k:=k) l
 have Et:=congrFun hz w
 simp only[Instr.lookup,Sem.run_bind,run_underlying ht,Result.andThen,MapKept.run_getObj_map hb,K.chk]
 cases hf:(l.map (·.1)).findIdx? (fun k'=>decide (k=k')) with
 | none=>rw[hf] at h1 h2 h3;simp only[Option.map_none] at h1 h2;rw[<- h3];simp[h1,Et,hd,h2]
 | some i=>rw[hf] at h1 h2 h3;simp only[Option.map_some,Array.getElem?_toList] at h1 h2;rw[<- h3];simp[h1,h2]
theorem ku(K:KeyT P kt ek)(ht:P.underlying t=some (.map kt e))(hz:jk P e zv)[hd:Nu zv (ev dflt)][hx:Nu (eo env x) (some (.map (some b)))][hy:Nu (eo env y) (some (ek k))](hm:Pick L (xU b ek ev l) R):
  Qt P n F Nv env L ⟨d,.lookup t x y false,ty,pos,after,g⟩ (ev (xC l k dflt)):=by
 intro a w h
 simp[execOp,h.eval hx.1,h.eval hy.1,FM K ht hz hd.1 h.hp hm]
theorem VW(K:KeyT P kt ek)(ht:P.underlying t=some (.map kt e))(hz:jk P e zv)(hd:zv=ev dflt)(hx:eo env x=some (.map (some b)))(hy:eo env y=some (ek k))(hm:Pick L (xU b ek ev l) R):
  Qt P n F Nv env L ⟨d,.lookup t x y true,ty,pos,after,g⟩ (.tuple #[ev (xC l k dflt),.bool (wK l k)]):=by
 intro a w h
 simp[execOp,h.eval hx,h.eval hy,GO K ht hz hd h.hp hm]
theorem Hp.setMap{l':List (κ×α)}{es':Array MapEntry}{c':Nat}(h:Hp F Nv w L)(hm:Pick L (xU b ek ev l) R)(he:es'.toList.map (fun e=>(e.key,e.val))=l'.map (fun p=>(ek p.1,ev p.2)))(n4:re es' c'):
  Hp F Nv { w with heap:=w.heap.setIfInBounds b (.map es' c') } (xU b ek ev l'::R):=by
 have nU:b<w.heap.size:=(h.front hm).lt _ (List.mem_cons_self ..) b (by simp[xU])
 refine(h.front hm).upd (x:=xU b ek ev l) (y:=xU b ek ev l') .here rfl ⟨rfl,Nat.le_refl _⟩ rfl (by simp) (fun k _ vV=>?_) ⟨es',c',by simp[nU],he,n4⟩ ?_
 ·have:b≠k:=fun e=>vV (by simp[xU,e])
  simp[Array.getElem?_setIfInBounds,this]
 ·intro b' hb'
  simp only[xU,List.mem_singleton] at hb'
  subst hb'
  exact⟨by simpa using nU,.inl (by simp[xU])⟩
theorem mO{vv:Value}(K:KeyT P kt ek)(ht:P.underlying t=some (.map kt e))[hx:Nu (eo env x) (some (.map (some b)))][hy:Nu (eo env y) (some (ek k))][hv:Nu (eo env z) (some vv)][Dv:Nu vv (ev v)](hm:Pick L (xU b ek ev l) R):
  aa P n F Nv env L ⟨none,.mapUpdate t x y z,ty,pos,after,g⟩ (xU b ek ev (w4 l k v)::R):=by
 have Dv:=Dv.1
 intro a w h
 subst Dv
 obtain⟨es,jF,hb,he,n4⟩:=h.hp.ok _ hm.mem
 have h1:=K.find k es.toList (l.map (·.1)) w (dK he)
 cases hf:(l.map (·.1)).findIdx? (fun k'=>decide (k=k')) with
 | none=>
  rw[hf] at h1
  refine⟨{ w with heap:=w.heap.setIfInBounds b (.map (es.push { key:=ek k,val:=ev v,born:=jF }) (jF+1)) },.inl ?_,h.hp.setMap hm ?_ (n4.push _ _)⟩
  ·simp[execOp,h.eval hx.1,h.eval hy.1,h.eval hv.1,Instr.mapUpdate,Sem.run_bind,run_underlying ht,Result.andThen,MapKept.run_getObj_map hb,K.chk,h1,MapKept.run_setObj_map _ hb]
  ·rw[ig l hf];simp[he]
 | some i=>
  rw[hf] at h1
  obtain⟨i1,i2,i3⟩:=ie (v:=v) l es.toList i he hf
  have Eu:i<es.size:=by simpa using i1
  have i2':((es[i]?).map (·.key)).getD (ek k)=ek k:=by
   have e:es[i]?=some es[i]:=Array.getElem?_eq_getElem Eu
   rw[Array.getElem?_toList,e] at i2
   rw[e];simpa using i2
  refine⟨{ w with heap:=w.heap.setIfInBounds b (.map (es.modify i fun e=>{ e with key:=ek k,val:=ev v }) jF) },.inl ?_,h.hp.setMap hm ?_ (n4.modify _ _ (fun _=>rfl))⟩
  ·simp[execOp,h.eval hx.1,h.eval hy.1,h.eval hv.1,Instr.mapUpdate,Sem.run_bind,run_underlying ht,Result.andThen,MapKept.run_getObj_map hb,K.chk,h1,i2',K.stays,MapKept.run_setObj_map _ hb]
  ·rw[<- i3,Array.toList_modify]
theorem gB{vv:Value}(K:KeyT P kt ek)(ht:P.underlying t=some (.map kt e))[hx:Nu (eo env x) (some (.map (some b)))][hy:Nu (eo env y) (some (ek k))][hv:Nu (eo env z) (some vv)][Dv:Nu vv (ev v)](hm:Pick L (xU b ek ev l) R):
  aa P n F Nv env L ⟨none,.insert t x y z,ty,pos,after,g⟩ (xU b ek ev (w4 l k v)::R):=by
 have Dv:=Dv.1
 intro a w h
 subst Dv
 obtain⟨es,jF,hb,he,n4⟩:=h.hp.ok _ hm.mem
 have h1:=K.find k es.toList (l.map (·.1)) w (dK he)
 cases hf:(l.map (·.1)).findIdx? (fun k'=>decide (k=k')) with
 | none=>
  rw[hf] at h1
  refine⟨{ w with heap:=w.heap.setIfInBounds b (.map (es.push { key:=ek k,val:=ev v,born:=jF }) (jF+1)) },.inl ?_,h.hp.setMap hm ?_ (n4.push _ _)⟩
  ·simp[execOp,h.eval hx.1,h.eval hy.1,h.eval hv.1,Instr.mapUpdate,Sem.run_bind,run_underlying ht,Result.andThen,MapKept.run_getObj_map hb,K.chk,h1,MapKept.run_setObj_map _ hb]
  ·rw[ig l hf];simp[he]
 | some i=>
  rw[hf] at h1
  obtain⟨i1,i2,i3⟩:=ie (v:=v) l es.toList i he hf
  have Eu:i<es.size:=by simpa using i1
  have i2':((es[i]?).map (·.key)).getD (ek k)=ek k:=by
   have e:es[i]?=some es[i]:=Array.getElem?_eq_getElem Eu
   rw[Array.getElem?_toList,e] at i2
   rw[e];simpa using i2
  refine⟨{ w with heap:=w.heap.setIfInBounds b (.map (es.modify i fun e=>{ e with key:=ek k,val:=ev v }) jF) },.inl ?_,h.hp.setMap hm ?_ (n4.modify _ _ (fun _=>rfl))⟩
  ·simp[execOp,h.eval hx.1,h.eval hy.1,h.eval hv.1,Instr.mapUpdate,Sem.run_bind,run_underlying ht,Result.andThen,MapKept.run_getObj_map hb,K.chk,h1,i2',K.stays,MapKept.run_setObj_map _ hb]
  ·rw[<- i3,Array.toList_modify]
theorem Yj{r:α}(K:KeyT P kt ek)(ht:P.underlying t=some (.map kt e))(hz:jk P e zv)(hd:zv=ev dflt)(hx:eo env x=some (.map (some b)))(hy:eo env y=some (ek k))(hm:Pick L (xU b ek ev l) R)(hr:xC l k dflt=r):
  Qt P n F Nv env L ⟨d,.lookup t x y false,ty,pos,after,g⟩ (ev r):=hr▸ku K ht hz (hd:=⟨hd⟩) (hx:=⟨hx⟩) (hy:=⟨hy⟩) hm
theorem FO{a b:ByteArray}(hx:eo env x=some (.string a))(hy:eo env y=some (.string b)){t':TypeId}:Qt P n F Nv env L ⟨d,.binOp .eql t x y t',ty,pos,after,g⟩ (.bool (decide (a=b))):=by
 intro a' w h
 simp[execOp,h.eval hx,h.eval hy,eqGuard_at_string,binOp_string_eql,<- beq_toListBytes,al]
theorem Yk{a b:ByteArray}{r:Bool}(hr:decide (a=b)=r)(hx:eo env x=some (.string a))(hy:eo env y=some (.string b)){t':TypeId}:Qt P n F Nv env L ⟨d,.binOp .eql t x y t',ty,pos,after,g⟩ (.bool r):=hr▸FO hx hy
def Ua(P:Program)(t f off:Nat)(ft:TypeId):Prop:=∃ fs fd,P.underlying t=some (.struct fs)/\fs[f]?=some fd/\fd.type=ft/\fd.offset=off
theorem Ti{P:Program}{t f off:Nat}{ft:TypeId}{fs:Array Field}{fd:Field}(h:P.underlying t=some (.struct fs))(hf:fs[f]?=some fd)(ht:fd.type=ft)(ho:fd.offset=off):Ua P t f off ft:=⟨fs,fd,h,hf,ht,ho⟩
theorem Ub{f off s:Nat}{ft:TypeId}{cs cs':Array Value}(hf:Ua P t f off ft)(h1:uK P ft s)(hx:eo env x=some (.agg cs))(hv:cs.extract off (off+s)=cs'):Qt P n F Nv env L ⟨d,.field t x f,ty,pos,after,g⟩ (.agg cs'):=by
 intro a w h
 obtain⟨fs,fd,e1,e2,rfl,rfl⟩:=hf
 have h2:=congrFun h1.1 w
 have h3:=congrFun h1.2 w
 simp[execOp,h.eval hx,Instr.field,run_underlying e1,e2,asAgg,part,h2,h3,hv]
end
end
section
variable [Rnd] {P:Program} {n:Nat} {F:List Nat} {Nv:World} {env:List (Nat×Value)} {L Lc Lr R:List Asrt} {eA:Array Oper} {Q:Exit->Act->World->Prop} {eZ l:List Oper}
 {dd:Nat} {d:Option Tmp} {ty:TypeId} {pos:String} {after:Array Edge} {g:Option (Nat×Bool)} {x y:Operand} {v u:Value} {t e T:TypeId} {sz tT:Nat}
theorem Xi{b sz:Nat}{o j:Int}(h0:0<=o)(h1:0<=j):(⟨b,o.toNat*sz,none⟩:Addr).add (j.toNat*sz)=⟨b,(o+j).toNat*sz,none⟩:=by
 rw[Addr.add_lit,<- Nat.add_mul,Int.toNat_add h0 h1]
theorem P3{α:Type}{ls:List α}{b:Nat}{cs:List Value}{cap:Nat}{i:Int}{lx:Operand}{kk:IntKind}(hg:gd env eA ⟨some dd,.slice t x (some lx) none none,ty,pos,after,g⟩=some true)(lp:Nat.blt dd n=true)(ht:elT P t e sz tT)(hx:eo env x=some (.slice (some ⟨b,0,none⟩) ls.length cap))(hh:eo env lx=some (.int kk i))(hm:Pick L (row (.slice (some ⟨b,0,none⟩) ls.length cap) e sz cs) R)(hi:0<=i/\i<ls.length)(k:WL P n F Nv eA Q eZ ((dd,.slice (some ⟨b,i.toNat*sz,none⟩) (ls.length-i.toNat) (cap-i.toNat))::env) L):
  WL P n F Nv eA Q (⟨some dd,.slice t x (some lx) none none,ty,pos,after,g⟩::eZ) env L:=by
 refine Nj (fun w h=>h.rowShape hm) fun hs=>?_
 obtain⟨xD,Aw,B9,_⟩:=hs
 refine Oa (n:=n) hg rfl lp (pF (lo:=i.toNat) (hi:=ls.length) ht hx (lv:=some (.int kk i)) (hv:=none) (fun a w h=>by rw[Option.map_some,h.eval hh]) (fun _ _ _=>rfl) (show i=((i.toNat:Nat):Int) by omega) rfl (by omega) Aw (fun _=>Aw)) ?_
 rw[if_neg (by omega),Option.map_some,Addr.add_lit,Nat.zero_add]
 exact k
end
section
variable {o:Oper}{vs cs:List Value}{s:Nat}
section seg
variable [Rnd]
variable {P:Program} {n:Nat} {F:List Nat} {Nv:World} {env:List (Nat×Value)} {L Lc Lr R:List Asrt} {eA:Array Oper} {Q:Exit->Act->World->Prop} {eZ:List Oper}
def J5(i:Nat):List (Nat×Value)->Bool
 | []=>false
 | p::r=>bif Nat.beq i p.1 then true else J5 i r
def aq:Nat->List (Nat×Value)->List (Nat×Value)->Bool
 | 0,_,_=>true
 | _+1,[],_=>true
 | k+1,p::r,e=>bif J5 p.1 e then false else aq k r e
theorem G5{i:Nat}:∀ {e:List (Nat×Value)},J5 i e=false->lk e i=none
 | [],_=>rfl
 | (j,v)::r,h=>by
  simp only[J5] at h
  simp only[lk]
  cases hb:Nat.beq i j with
  | true=>rw[hb] at h;simp at h
  | false=>rw[hb] at h;simp at h ⊢;exact G5 h
theorem Xj:∀(k:Nat) {pA e:List (Nat×Value)},aq k pA e=true->∀ i v,lk e i=some v->lk (pA.drop k) i=some v->lk pA i=some v
 | 0,pA,e,_,i,v,_,h=>by simpa using h
 | k+1,[],e,_,i,v,_,h=>by simp[lk] at h
 | k+1,(j,u)::r,e,hf,i,v,he,h=>by
  simp only[aq] at hf
  cases hk:J5 j e with
  | true=>rw[hk] at hf;simp at hf
  | false=>
   rw[hk] at hf;simp at hf
   have hij:i≠j:=fun hij=>by subst hij;rw[G5 hk] at he;cases he
   simp only[lk];rw[p7 hij];exact Xj k hf i v he (by simpa using h)
theorem SS.of{env':List (Nat×Value)}{a:Act}{w:World}(h:SS n F Nv env L a w)(hr:∀ i v,lk env' i=some v->lk env i=some v):SS n F Nv env' L a w:=
 ⟨h.defers,h.size,fun i v hv=>h.ev i v (hr i v hv),h.hp⟩
def W3(n:Nat)(eA:Array Oper):List Oper->List (Nat×Value)->Option (List (Nat×Value))
 | [],e=>some e
 | o::l,e=>match gd e eA o,o.dst with
  | some false,some d=>bif Nat.blt d n then W3 n eA l ((d,undef)::e) else none
  | _,_=>none
theorem Pk:∀ {l1 eZ:List Oper} {env env':List (Nat×Value)},W3 n eA l1 env=some env'->WL P n F Nv eA Q eZ env' L->WL P n F Nv eA Q (l1++eZ) env L
 | [],eZ,env,env',h,k=>by simp only[W3,Option.some.injEq] at h;subst h;exact k
 | o::l1,eZ,env,env',h,k=>by
  simp only[W3] at h
  split at h
  ·rename_i d hg hd
   cases hn:Nat.blt d n with
   | false=>rw[hn] at h;simp at h
   | true=>rw[hn] at h;simp only[cond_true] at h;exact WL.e hg hd (lp:=⟨hn⟩) (Pk h k)
  ·cases h
def pickE(n:Nat)(eA:Array Oper)(env:List (Nat×Value))(o:Oper):Option (Nat×Value):=
 match gd env eA o,o.dst,o.op with
 | some true,some d,.pick c x y=>bif Nat.blt d n then(match eo env c with
  | some (.bool b)=>(eo env (bif b then x else y)).map fun v=>(d,v)
  | _=>none) else none
 | _,_,_=>none
theorem P1{d:Nat}{v:Value}(h:pickE n eA env o=some (d,v))(k:WL P n F Nv eA Q eZ ((d,v)::env) L):WL P n F Nv eA Q (o::eZ) env L:=by
 obtain⟨dst,op,ty,pos,after,g⟩:=o
 unfold Sep.pickE at h
 split at h
 ·rename_i d' c x y hg hd hop
  simp only at hd hop
  subst hd hop
  cases hn:Nat.blt d' n with
  | false=>rw[hn] at h;simp at h
  | true=>
   rw[hn] at h;simp only[cond_true] at h
   split at h
   ·rename_i b hc
    rw[Option.map_eq_some_iff] at h
    obtain⟨v',hv,he⟩:=h
    injection he with h1 h2;subst h1 h2
    cases b
    ·exact Oa hg rfl hn (qF (hc:=⟨hc⟩) (hy:=⟨hv⟩)) k
    ·exact Oa hg rfl hn (qE (hc:=⟨hc⟩) (hx:=⟨hv⟩)) k
   ·cases h
 ·cases h
theorem Lx{pA e:List (Nat×Value)}{pd:Nat}{y B:Bool}{M L':List Asrt}(hB:y=B)[hk:Nu (aq (pA.length-e.length) pA e) true](he:pA.drop (pA.length-e.length)=e)(hL:Sel L L' M):
  WL P n F Nv eA (Exit.then (fun a w=>∃ _g:Unit,True/\SS n F Nv ((pd,.bool B)::e) L' a w) Q) [] ((pd,.bool y)::pA) L:=by
 subst hB
 intro a w h
 refine⟨(),trivial,(h.of (env':=(pd,.bool y)::e) fun i v hv=>?_).drop hL⟩
 simp only[lk] at hv ⊢
 cases hb:Nat.beq i pd with
 | true=>rw[hb] at hv;simpa using hv
 | false=>rw[hb] at hv;simp only[cond_false] at hv ⊢;exact Xj _ hk.1 i v hv (by rw[he];exact hv)
theorem Lw(w7:Bool)(m sl:Nat){pd:Nat}{b B:Bool}{l:List Oper}{e':List (Nat×Value)}[CJ:Nu (lk env sl) (some (.bool b))][hm:Nu l[m]? (some o)][hsk:Nu (W3 n eA (l.take m) ((sl,.bool (!w7))::env)) (some e')][hpk:Nu (pickE n eA e' o) (some (pd,.bool (!w7)))][hf:Nu (aq (e'.length-env.length-1) e' ((sl,.bool (!w7))::env)) true][he:Nu (e'.drop (e'.length-env.length-1)) ((sl,.bool (!w7))::env)](hB:b = !w7->B = !w7)(k1:∀ Q',b=w7->WL P n F Nv eA (Exit.then (fun a w=>∃ _g:Unit,True/\SS n F Nv ((pd,.bool B)::(sl,.bool w7)::env) L a w) Q') (l.take (m+1)) ((sl,.bool w7)::env) L)(k2:WL P n F Nv eA Q (l.drop (m+1)) ((pd,.bool B)::env) L):WL P n F Nv eA Q l env L:=by
 have CJ:=CJ.1
 have hm:=hm.1
 have hsk:=hsk.1
 have hpk:=hpk.1
 have hf:=hf.1
 have he:=he.1
 have vL:∀ c,b=c->∀ i v,lk env i=some v->lk ((sl,.bool c)::env) i=some v:=fun c hc i v hv=>by
  simp only[lk]
  cases hb:Nat.beq i sl with
  | false=>simpa using hv
  | true=>
   have:i=sl:=Nat.eq_of_beq_eq_true hb
   subst this;rw[CJ] at hv;rw[<- hc];simpa using hv
 have hpd:∀ c,b=c->∀ i v,lk ((pd,.bool B)::env) i=some v->lk ((pd,.bool B)::(sl,.bool c)::env) i=some v:=fun c hc i v hv=>by
  unfold lk at hv ⊢
  cases hb:Nat.beq i pd with
  | true=>rw[hb] at hv;simpa using hv
  | false=>rw[hb] at hv;simp only[cond_false] at hv ⊢;exact vL c hc i v hv
 have Ew:∀ c,b=c->∀ a w,SS n F Nv env L a w->SS n F Nv ((sl,.bool c)::env) L a w:=fun c hc a w h=>h.of fun i v hv=>by
  simp only[lk] at hv
  cases hb:Nat.beq i sl with
  | false=>rw[hb] at hv;simpa using hv
  | true=>
   have:i=sl:=Nat.eq_of_beq_eq_true hb
   subst this;rw[hb] at hv;simp only[cond_true] at hv;rw[<- hv,<- hc];exact CJ
 refine Ol (G:=Unit) (fun _=>True) (fun _=>(pd,.bool B)::env) (fun _=>L) (m+1) ?_ (fun _ _=>k2)
 by_cases hb:b=w7
 ·refine Ol (G:=Unit) (fun _=>True) (fun _=>(pd,.bool B)::(sl,.bool w7)::env) (fun _=>L) (m+1) ?_ (fun _ _=>?_)
  ·rw[List.take_take,Nat.min_self]
   exact fun a w h=>k1 _ hb a w (Ew w7 hb a w h)
  ·rw[List.drop_eq_nil_of_le (by simp;omega)]
   exact fun a w h=>⟨(),trivial,h.of (hpd w7 hb)⟩
 ·have hb':b = !w7:=by cases b <;> cases w7 <;> simp_all
  have hm':l.take (m+1)=l.take m++[o]:=by rw[List.take_add_one,hm];rfl
  rw[hm']
  intro a w h
  refine(Pk hsk (P1 hpk ?_)) a w (Ew _ hb' a w h)
  intro a w h
  refine⟨(),trivial,h.of fun i v hv=>?_⟩
  have h1:=hpd _ hb' i v hv
  rw[hB hb'] at h1
  simp only[lk] at h1 ⊢
  cases hbb:Nat.beq i pd with
  | true=>rw[hbb] at h1;simpa using h1
  | false=>
   rw[hbb] at h1;simp only[cond_false] at h1 ⊢
   refine Xj _ hf i v (by simpa only [lk] using h1) ?_
   rw[he];simpa only [lk] using h1
end seg
section pu
variable [Rnd]
variable {P:Program} {n:Nat} {F:List Nat} {Nv:World} {env:List (Nat×Value)} {L Lc Lr R:List Asrt} {eA:Array Oper} {Q:Exit->Act->World->Prop} {eZ:List Oper}
def UW:BinOp->IntKind->Int->Int->Option Value
 | .add,k,p,q=>some (.int k (k.wrap (p+q)))
 | .sub,k,p,q=>some (.int k (k.wrap (p-q)))
 | .mul,k,p,q=>some (.int k (k.wrap (p*q)))
 | .lss,_,p,q=>some (.bool (decide (p<q)))
 | .leq,_,p,q=>some (.bool (decide (p<=q)))
 | .gtr,_,p,q=>some (.bool (decide (p>q)))
 | .geq,_,p,q=>some (.bool (decide (p>=q)))
 | .eql,_,p,q=>some (.bool (decide (p=q)))
 | .neq,_,p,q=>some (.bool (decide (p≠q)))
 | _,_,_,_=>none
def puV(env:List (Nat×Value)):Op->Option Value
 | .move x=>eo env x
 | .assign x=>eo env x
 | .pick c x y=>match eo env c with
  | some (.bool true)=>eo env x
  | some (.bool false)=>eo env y
  | _=>none
 | .extract x i=>match eo env x with
  | some (.tuple vs)=>vs.toList[i]?
  | _=>none
 | .unOp .not _ x=>match eo env x with
  | some (.bool b)=>some (.bool (!b))
  | _=>none
 | .binOp op _ x y _=>match eo env x,eo env y with
  | some (.int k p),some (.int k' q)=>if k=k' then UW op k p q else none
  | _,_=>none
 | _=>none
def puE(n:Nat)(eA:Array Oper)(env:List (Nat×Value))(o:Oper):Option (Nat×Value):=
 match gd env eA o,o.dst with
 | some true,some d=>bif Nat.blt d n then(match puV env o.op with | some v=>some (d,v) | none=>none) else none
 | _,_=>none
theorem puV_q{op:Op}{v:Value}{d:Option Tmp}{ty:TypeId}{pos:String}{after:Array Edge}{g:Option (Nat×Bool)}(h:puV env op=some v):Qt P n F Nv env L ⟨d,op,ty,pos,after,g⟩ v:=by
 cases op <;> simp only[puV] at h <;> try cases h
 case move x=>exact q_m (hx:=⟨h⟩)
 case assign x=>exact q_z (hx:=⟨h⟩)
 case pick c x y=>
  split at h
  ·rename_i hc;exact qE (hc:=⟨hc⟩) (hx:=⟨h⟩)
  ·rename_i hc;exact qF (hc:=⟨hc⟩) (hy:=⟨h⟩)
  ·cases h
 case extract x i=>
  split at h
  ·rename_i vs hx;exact mv (vs:=vs.toList) (hx:=⟨(by rw[hx])⟩) (hi:=⟨h⟩)
  ·cases h
 case unOp o t x=>
  cases o <;> simp only[puV] at h <;> try cases h
  split at h
  ·rename_i b hx;injection h with h;subst h;exact Yd hx
  ·cases h
 case binOp o t x y t'=>
  split at h
  ·rename_i k p k' q hx hy
   split at h
   ·rename_i hk;subst hk
    cases o <;> simp only[UW] at h <;> try cases h
    ·exact rP (hx:=⟨hx⟩) (hy:=⟨hy⟩)
    ·exact sR (hx:=⟨hx⟩) (hy:=⟨hy⟩)
    ·exact rQ (hx:=⟨hx⟩) (hy:=⟨hy⟩)
    ·exact eH hx hy
    ·exact GL hx hy
    ·exact sS (hx:=⟨hx⟩) (hy:=⟨hy⟩)
    ·exact GK hx hy
    ·exact sT (hx:=⟨hx⟩) (hy:=⟨hy⟩)
    ·exact QK hx hy
   ·cases h
  ·cases h
theorem La{d:Nat}{v:Value}(h:puE n eA env o=some (d,v))(k:WL P n F Nv eA Q eZ ((d,v)::env) L):WL P n F Nv eA Q (o::eZ) env L:=by
 obtain⟨dst,op,ty,pos,after,g⟩:=o
 cases hg:gd env eA ⟨dst,op,ty,pos,after,g⟩ with
 | none=>simp[puE,hg] at h
 | some b=>
 cases b with
 | false=>simp[puE,hg] at h
 | true=>
 cases dst with
 | none=>simp[puE,hg] at h
 | some d'=>
  simp only[puE,hg] at h
  cases hn:Nat.blt d' n with
  | false=>rw[hn] at h;simp at h
  | true=>
   rw[hn] at h;simp only[cond_true] at h
   split at h
   ·rename_i v' hv
    injection h with h;injection h with h1 h2;subst h1 h2
    exact Oa hg rfl hn (puV_q hv) k
   ·cases h
end pu
theorem sN[h:Nu (vs.all fun u=>u.oneCell') true]:∀ u∈vs,u.oneCell'=true:=List.all_eq_true.1 h.1
section st
variable [Rnd]
variable {P:Program} {n:Nat} {F:List Nat} {Nv:World} {env:List (Nat×Value)} {L Lc Lr R:List Asrt} {eA:Array Oper} {Q:Exit->Act->World->Prop} {eZ:List Oper}
 {d:Option Tmp} {ty:TypeId} {pos:String} {after:Array Edge} {g:Option (Nat×Bool)} {v u:Value} {x y:Operand} {t T:TypeId}
theorem xP{b:Nat}(hT:gA P t s)[hx:Nu (eo env x) (some (.pointer (some ⟨b,0,none⟩)))][hy:Nu (eo env y) (some v)][hv:Nu v.cells vs.toArray](hm:Pick L (stb b T cs) R)[hl:Nu (Nat.beq cs.length vs.length) true][hs:Nu (Nat.beq vs.length s) true][h1:Nu (vs.all fun u=>u.oneCell') true]:
  aa P n F Nv env L ⟨none,.store t x y,ty,pos,after,g⟩ (stb b T vs::R):=by
 have hx:=hx.1
 have hy:=hy.1
 have hv:=hv.1
 have hl:=hl.1
 have hs:=Nat.eq_of_beq_eq_true hs.1
 have h1:=h1.1
 have te:=Nat.eq_of_beq_eq_true hl
 refine G3 hT hx hy hv hs (sN (h:=⟨h1⟩)) hm (by omega) ?_
 simp[oo,<- te]
theorem kO{b off:Nat}{ds:List Value}(hT:gA P t s)[hx:Nu (eo env x) (some (.pointer (some ⟨b,off,none⟩)))][hy:Nu (eo env y) (some v)][hv:Nu v.cells vs.toArray][hs:Nu (Nat.beq vs.length s) true][h1:Nu (vs.all fun u=>u.oneCell') true](hm:Pick L (stb b T cs) R)[xF:Nu (Nat.ble (off+s) cs.length) true][AG:Nu (oo cs off vs) ds]:
  aa P n F Nv env L ⟨none,.store t x y,ty,pos,after,g⟩ (stb b T ds::R):=G3 hT hx.1 hy.1 hv.1 (Nat.eq_of_beq_eq_true hs.1) (sN (h:=⟨h1.1⟩)) hm (Nat.le_of_ble_eq_true xF.1) AG.1
theorem xK{A:Addr}(hT:uK P t s)[hx:Nu (eo env x) (some (.pointer (some A)))](hR:∀ w,Hp F Nv w L->∀ j u,cs[j]?=some u->w.cell? (A.add j)=some u)[hl:Nu (Nat.beq cs.length s) true]:
  Qt P n F Nv env L ⟨d,.load t x,ty,pos,after,g⟩ (.agg cs.toArray):=wi hT (hx:=⟨hx.1⟩) (hl:=⟨Eq.mpr Nat.beq_eq (Nat.eq_of_beq_eq_true hl.1)⟩) hR
end st
end
end Sep
namespace Sep
open Go Go.RowKit Go.Sort Go.Proofs
section
section plain
variable {α:Type}
def rf(p:α->α->Option Int)(x y:α):Int:=(p x y).getD 0
def pI(p:α->α->Option Int)(x:α):List α->List α
 | []=>[x]
 | y::l=>if rf p x y<=0 then x::y::l else y::pI p x l
def wH(p:α->α->Option Int):List α->List α
 | []=>[]
 | x::l=>pI p x (wH p l)
theorem eO(p:α->α->Option Int)(x:α)(l:List α):(pI p x l).Perm (x::l):=by
 induction l with
 | nil=>exact .refl _
 | cons y l ih=>
  unfold pI
  split
  ·exact .refl _
  ·exact(ih.cons y).trans (.swap x y l)
theorem kF(p:α->α->Option Int)(l:List α):(wH p l).Perm l:=by
 induction l with
 | nil=>exact .refl _
 | cons x l ih=>exact(eO p x _).trans (ih.cons x)
theorem rg(p:α->α->Option Int)(l:List α):(wH p l).length=l.length:=(kF p l).length_eq
def J7[DecidableEq α](p:α->α->Option Int):List α->Bool
 | []=>true
 | x::l=>l.all (fun y=>x == y||(decide (rf p x y<0) && !decide (rf p y x<0)))&&J7 p l
def ot[DecidableEq α](p:α->α->Option Int)(r:List α):Bool:=
 (r.all fun x=>(r.all fun y=>(p x y).isSome) && !decide (rf p x x<0))&&J7 p r
theorem eP[DecidableEq α](p:α->α->Option Int)(r:List α):J7 p r=true↔r.Pairwise (fun x y=>x=y\/(rf p x y<0/\¬rf p y x<0)):=by
 induction r with
 | nil=>simp[J7]
 | cons x l ih=>simp[J7,ih,List.pairwise_cons]
theorem WY[DecidableEq α]{p:α->α->Option Int}{r:List α}(h:ot p r=true){x y:α}(hx:x∈r)(hy:y∈r):(rf p x y<0)↔r.idxOf x<r.idxOf y:=by
 simp only[ot,Bool.and_eq_true,List.all_eq_true,Bool.not_eq_true',decide_eq_false_iff_not,eP] at h
 obtain⟨h1,h2⟩:=h
 have ix:=List.idxOf_lt_length_of_mem hx
 have iy:=List.idxOf_lt_length_of_mem hy
 have gx:r[r.idxOf x]=x:=List.getElem_idxOf ix
 have gy:r[r.idxOf y]=y:=List.getElem_idxOf iy
 rw[List.pairwise_iff_getElem] at h2
 constructor
 ·intro hl
  rcases Nat.lt_trichotomy (r.idxOf x) (r.idxOf y) with h3 | h3 | h3
  ·exact h3
  ·exfalso
   have:x=y:=by rw[<- gx,<- gy];simp only[h3]
   subst this
   exact(h1 x hx).2 hl
  ·exfalso
   rcases h2 _ _ iy ix h3 with h4 | ⟨_,h4⟩
   ·rw[gx,gy] at h4;subst h4;omega
   ·rw[gx,gy] at h4;exact h4 hl
 ·intro h3
  rcases h2 _ _ ix iy h3 with h4 | ⟨h4,_⟩
  ·rw[gx,gy] at h4;subst h4;omega
  ·rw[gx,gy] at h4;exact h4
theorem FQ[DecidableEq α]{p:α->α->Option Int}{r:List α}(h:ot p r=true){x y:α}(hx:x∈r)(hy:y∈r):p x y=some (rf p x y):=by
 simp only[ot,Bool.and_eq_true,List.all_eq_true] at h
 have:=(h.1 x hx).1 y hy
 unfold rf
 cases hp:p x y with
 | none=>rw[hp] at this;cases this
 | some v=>rfl
end plain
theorem Uc{α:Type}[Inhabited α]{enc:α->List Value}{k:Nat}(hk:∀ x,(enc x).length=k)(h0:0<k)(d:Array α):flatK enc k d=(d.toList.flatMap enc).toArray:=by
 have hs:(flatK enc k d).size=(d.toList.flatMap enc).toArray.size:=by simp[pg hk,-List.length_flatMap]
 apply Array.ext hs
 intro i h1 h2
 have hi:i<d.size*k:=by simpa using h1
 have hd:i / k<d.size:=(Nat.div_lt_iff_lt_mul h0).2 hi
 have hm:i % k<(enc d[i / k]!).length:=by rw[hk];exact Nat.mod_lt _ h0
 have e1:(flatK enc k d)[i]=(flatK enc k d)[i]!:=by rw[getElem!_pos _ i h1]
 have e2:(d.toList.flatMap enc)[i]?=some (enc d[i / k]!)[i % k]:=by
  rw[iJ hk h0]
  rw[List.getElem?_eq_getElem (by simpa using hd)]
  simp only[oB,Array.getElem_toList]
  simp only[getElem!_pos d (i / k) hd] at hm ⊢
  exact List.getElem?_eq_getElem hm
 rw[e1,get_flatK _ _ _ _ hi,List.getElem_toArray]
 have e3:=List.getElem?_eq_some_iff.1 e2
 obtain⟨_,e3⟩:=e3
 rw[e3,getElem!_pos (enc d[i / k]!) _ hm]
variable [Rnd]
theorem Tj{Z:Zp}{w w':World}(h:∀ p∈Z,w'.heap[p.1]?=w.heap[p.1]?)(hz:pO Z w):pO Z w':=fun p hp=>by rw[h p hp];exact hz p hp
theorem Hp.asGrow{w w':World}(h:Hp [] w w' []):∃ q os',w'=grow (w.drewN q) os':=by
 refine⟨w'.drawn-w.drawn,w'.heap.extract w.heap.size w'.heap.size,?_⟩
 have hd:=h.tape.d
 have Am:w'.heap=w.heap++w'.heap.extract w.heap.size w'.heap.size:=by
  apply Array.ext_getElem?
  intro k
  rw[Array.getElem?_append]
  split
  ·rename_i hk
   exact h.block k hk (by simp)
  ·rename_i hk
   rw[Array.getElem?_extract]
   have:=h.size
   by_cases h2:k<w'.heap.size
   ·rw[if_pos (by omega),show w.heap.size+(k-w.heap.size)=k by omega]
   ·rw[if_neg (by omega),Array.getElem?_eq_none (by omega)]
 obtain⟨hp,tp,dr,os,out⟩:=w'
 simp only[grow,World.drewN] at *
 have e1:=h.os;have e2:=h.tape.t;have e3:=h.output
 simp only at e1 e2 e3 hd
 rw[<- Am,e1,e2,e3]
 congr 1
 omega
theorem ii{α:Type}[DecidableEq α]{P:Program}{f:FuncId}{e:TypeId}{k:Nat}{enc:α->List Value}(hk:∀ x,(enc x).length=k)(h0:0<k)(h1:∀ x,∀ v∈enc x,v.oneCell'=true)(hS:∀(β:Type) [Inhabited β] (enc:β->List Value) (cf:β->β->Int) (g:Nat) (cb:Array Value) (_:SWO (ltOf cf)) (wr off cap:Nat) (d0:Array β) (w0:World)
   (_:∀ args w,(callFunc g args).run P w = .ok (.enter g args) w) (_:CmpLays P g cb enc k cf wr off d0.size w0) (_:RowK enc k w0 wr off d0)
   (N a b n6:Nat) (d:Array β) (w:World),b-a<N->d0.size=d.size->SWK enc k w0 wr off d w->a<=b->b<=d.size->d.size<4611686018427387904->n6<4611686018427387904->Below (ltOf cf) a b d->
   Calls P f #[.slice (some ⟨wr,off,none⟩) d.size cap,.int .i64 a,.int .i64 b,.int .i64 n6,.func (.func g) #[] cb] w fun e w'=>e = .returned (.tuple #[])/\SWK enc k w0 wr off (pdq (ltOf cf) d a b n6 true true) w')(hN:∀(p:Option Addr) (cap:Nat) (zm:Int) (fv:Value) (w:World),Calls P f #[.slice p 0 cap,.int .i64 0,.int .i64 0,.int .i64 zm,fv] w fun e w'=>e = .returned (.tuple #[])/\w'=w){Z:Zp}{ao:Option Addr}{cap:Nat}{D6:FuncId}{caps:List Value}{l r:List α}{a b zm:Int}{p:α->α->Option Int}{Nv:World}(hz:PZ (fps [row (.slice ao l.length cap) e k (l.flatMap enc)]) Nv Z)(D5:∀ args w,(callFunc D6 args).run P w = .ok (.enter D6 args) w)(hf:∀ w:World,PZ [] w Z->∀(x0 x1:α) (r:Int),p x0 x1=some r->Calls P D6 (([.agg (enc x0).toArray,.agg (enc x1).toArray]:List Value)++caps).toArray w fun e w'=>e = .returned (.int .i64 r)/\Hp [] w w' [])(hb:(a=0/\b=((l.length:Nat):Int))/\(0<=zm/\zm<4611686018427387904/\l.length<4611686018427387904))(ho:ot p (wH p l)=true)(hr:r=wH p l)(ip:Hp (fps [row (.slice ao l.length cap) e k (l.flatMap enc)]) Nv Nv [row (.slice ao l.length cap) e k (l.flatMap enc)]):
  Calls P f #[.slice ao l.length cap,.int .i64 a,.int .i64 b,.int .i64 zm,.func (.func D6) #[] caps.toArray] Nv fun en w'=>en = .returned (.tuple #[])/\(r.length=l.length)/\Hp (fps [row (.slice ao l.length cap) e k (l.flatMap enc)]) Nv w' [row (.slice ao r.length cap) e k (r.flatMap enc)]:=by
 obtain⟨⟨rfl,rfl⟩,hl1,CK,jy⟩:=hb
 have D7:r.length=l.length:=by rw[hr,rg]
 by_cases Ey:l.length=0
 ·have:l=[]:=List.eq_nil_of_length_eq_zero Ey
  subst this
  subst hr
  refine(hN ao cap zm _ Nv).mono ?_
  rintro en w' ⟨rfl,rfl⟩
  exact⟨rfl,rfl,ip⟩
 obtain⟨n,Dn,hv⟩:=ip.ok (row (.slice ao l.length cap) e k (l.flatMap enc)) (by simp)
 rcases hv with⟨hv,hn⟩ | ⟨bb,n7,pA,hv,_,hh,Ad,zk,zN,Ak⟩
 ·injection hv with _ e2 _;omega
 injection hv with e1 e2 e3
 subst e1 e2 e3
 have Bn:=ip.lt (row (.slice (some ⟨bb,0,none⟩) l.length cap) e k (l.flatMap enc)) (by simp) bb (by simp[row,Value.ownBlock])
 let β:={x:α // x∈l}
 haveI:Inhabited β:=⟨⟨l[0]'(by omega),List.getElem_mem _⟩⟩
 let vW:β->List Value:=fun x=>enc x.1
 let cf:β->β->Int:=fun x y=>rf p x.1 y.1
 have n8:∀ x:β,x.1∈wH p l:=fun x=>(kF p l).mem_iff.2 x.2
 have nU:∀ x y:β,ltOf cf x y=true↔(wH p l).idxOf x.1<(wH p l).idxOf y.1:=fun x y=>by
  rw[<- WY ho (n8 x) (n8 y)];simp[ltOf,cf]
 have hlf:∀ x y:β,ltOf cf x y=false↔¬(wH p l).idxOf x.1<(wH p l).idxOf y.1:=fun x y=>by
  rw[<- nU x y];cases ltOf cf x y <;> simp
 have hO:SWO (ltOf cf):=by
  refine⟨fun x=>?_,fun x y z h1 h2=>?_,fun x y z h1 h2=>?_⟩
  ·rw[hlf];omega
  ·rw[nU] at h1 h2 ⊢;omega
  ·rw[hlf] at h1 h2 ⊢;omega
 have hU:∀ x y:β,ltOf cf x y=false->ltOf cf y x=false->x=y:=fun x y h1 h2=>by
  rw[hlf] at h1 h2
  have e1:(wH p l).idxOf x.1=(wH p l).idxOf y.1:=by omega
  apply Subtype.ext
  have ix:=List.idxOf_lt_length_of_mem (n8 x)
  have iy:=List.idxOf_lt_length_of_mem (n8 y)
  rw[<- List.getElem_idxOf ix,<- List.getElem_idxOf iy]
  simp only[e1]
 let d:Array β:=l.attach.toArray
 have AG:d.size=l.length:=by show List.length l.attach=l.length;exact List.length_attach
 have Bo:d.toList.flatMap vW=l.flatMap enc:=by
  show l.attach.flatMap (fun x=>enc x.1)=_
  have h3:=congrArg (List.flatMap enc) (List.attach_map_subtype_val l)
  rw[List.flatMap_map] at h3
  exact h3
 have Dk:∀ d:Array β,flatK vW k d=(d.toList.flatMap vW).toArray:=fun d=>Uc (fun x=>hk x.1) h0 d
 have hll:(l.flatMap enc).length=l.length*k:=pg hk l
 have hck:l.length*k<=cap*k:=Nat.mul_le_mul_right k Ad
 have Ds:∀ j,j<l.length*k->pA[j]?=(l.flatMap enc)[j]?:=by
  intro j hj
  rw[<- Ak,List.getElem?_take,if_pos (by omega)]
  simp
 have hH:HoldsK vW k Nv bb 0 d:=by
  intro j hj
  have En:j<l.length*k:=by rw[size_flatK,AG] at hj;exact hj
  refine⟨?_,?_⟩
  ·rw[Nat.zero_add,cell_of_row Nv bb j _ e (0,0) hh,Ds j En,getElem!_pos _ j hj]
   simp only[Dk,Bo,id,List.getElem_toArray]
   exact List.getElem?_eq_getElem (by omega)
  ·simp[World.frozen?,hh,Nat.zero_add]
 have Am:∀(m:Nat) (os:Array Obj) (dk:Array β) (k':Nat),(sortWorldK vW k Nv bb 0 m dk os).heap[k']?=if k'=bb then some (.cells (putCells id 0 (flatK vW k dk) pA) e (0,0)) else if k'<Nv.heap.size then Nv.heap[k']? else os[k'-Nv.heap.size]?:=by
  intro m os dk k'
  simp only[sortWorldK,putRowK,grow,putRow,mapBlock,Sort.ahead,Array.getElem?_append,Array.size_modify,Array.getElem?_modify]
  by_cases hk:k'=bb
  ·subst hk
   have hh2:=(Array.getElem?_eq_some_iff.1 hh).2
   simp[Bn,hh2,onCells]
  ·have:¬bb=k':=fun h=>hk h.symm
   simp[hk,this]
 have ne:∀(m:Nat) (os:Array Obj) (dk:Array β),(sortWorldK vW k Nv bb 0 m dk os).heap.size=Nv.heap.size+os.size:=by
  intro m os dk
  simp[sortWorldK,putRowK,grow,putRow,mapBlock,Sort.ahead]
 have hZ:∀(m:Nat) (os:Array Obj) (dk:Array β),PZ [] (sortWorldK vW k Nv bb 0 m dk os) Z:=by
  intro m os dk
  refine⟨Tj (w:=Nv) (fun q hq=>?_) hz.1,fun _ _=>by simp⟩
  rw[Am]
  have h3:q.1≠bb:=by
   intro h4
   exact hz.2 q hq (by rw[h4];simp[row,Value.ownBlock])
  rw[if_neg h3,if_pos (hz.1.lt q hq)]
 have hC:CmpLays P D6 caps.toArray vW k cf bb 0 d.size Nv:=by
  intro m os dk hdk x y
  have h:=hf _ (hZ m os dk) x.1 y.1 _ (FQ ho (n8 x) (n8 y))
  have ea:(([.agg (enc x.1).toArray,.agg (enc y.1).toArray]:List Value)++caps).toArray = #[.agg (vW x).toArray,.agg (vW y).toArray]++caps.toArray:=by simp[vW]
  rw[ea] at h
  refine h.mono ?_
  rintro en w' ⟨rfl,hp⟩
  exact⟨rfl,hp.asGrow⟩
 have hR:RowK vW k Nv bb 0 d:=⟨fun x=>hk x.1,fun x=>h1 x.1,hH,Bn⟩
 have hlm:((zm.toNat:Nat):Int)=zm:=Int.toNat_of_nonneg hl1
 have hc:=hS β vW cf D6 caps.toArray hO bb 0 cap d Nv D5 hC hR (d.size+1) 0 d.size zm.toNat d Nv (by omega) rfl (SWK.start hH) (Nat.zero_le _) (Nat.le_refl _) (by omega) (by omega) (Or.inl rfl)
 rw[hlm,AG] at hc
 refine hc.mono ?_
 rintro en w' ⟨rfl,m,os,rfl⟩
 refine⟨rfl,D7,?_⟩
 have hp:=pdq_sorts (ltOf cf) hO d 0 d.size zm.toNat true true (Nat.zero_le _) (Nat.le_refl _) (Or.inl rfl)
 rw[AG] at hp
 generalize hd':pdq (ltOf cf) d 0 l.length zm.toNat true true=d' at hp ⊢
 have hs':d'.size=l.length:=hp.1.1.trans AG
 have hu1:=sorted_unique_holds hO hU d d' (by rw[AG];exact hp.1) (by rw[AG];exact hp.2)
 have uX:d'.toList.Perm l.attach:=by rw[hu1];exact(List.mergeSort_perm _ _)
 have Cb:(d'.toList.map (·.1))=r:=by
  have zX:(d'.toList.map (·.1)).Perm (wH p l):=by
   refine(uX.map _).trans ?_
   rw[List.attach_map_subtype_val]
   exact(kF p l).symm
  have hw1:(d'.toList.map (·.1)).Pairwise fun x y=>¬rf p y x<0:=by
   rw[List.pairwise_map,List.pairwise_iff_getElem]
   intro i j hi hj hij
   have h3:=hp.2 i j (Nat.zero_le _) hij (by rw[<- hs'];simpa using hj)
   rw[getElem!_pos d' j (by simpa using hj),getElem!_pos d' i (by simpa using hi)] at h3
   simpa [ltOf,cf] using h3
  have Ae:(wH p l).Pairwise fun x y=>¬rf p y x<0:=by
   have h3:=ho
   simp only[ot,Bool.and_eq_true,List.all_eq_true,Bool.not_eq_true',decide_eq_false_iff_not,eP] at h3
   refine(List.Pairwise.imp_of_mem ?_ h3.2)
   intro x y hx hy hxy
   rcases hxy with rfl | hxy
   ·exact(h3.1 x hx).2
   ·exact hxy.2
  rw[hr]
  refine List.Perm.eq_of_pairwise (le:=fun x y=>¬rf p y x<0) ?_ hw1 Ae zX
  intro x y hx hy h3 h4
  have hx':x∈wH p l:=zX.mem_iff.1 hx
  have hy':y∈wH p l:=by first | exact hy | exact zX.mem_iff.1 hy
  rw[WY ho hy' hx'] at h3
  rw[WY ho hx' hy'] at h4
  have ix:=List.idxOf_lt_length_of_mem hx'
  have iy:=List.idxOf_lt_length_of_mem hy'
  rw[<- List.getElem_idxOf ix,<- List.getElem_idxOf iy]
  simp only[show(wH p l).idxOf x=(wH p l).idxOf y by omega]
 have hrf:flatK vW k d'=(r.flatMap enc).toArray:=by
  rw[Dk,<- Cb,List.flatMap_map]
 have hrk:r.length*k=l.length*k:=by rw[D7]
 have Ez:(r.flatMap enc).length=r.length*k:=pg hk r
 refine⟨rfl,⟨rfl,by simp[sortWorldK,putRowK,grow,putRow,mapBlock,Sort.ahead]⟩,rfl,by rw[ne];omega,?_,?_,?_,?_,by simp⟩
 ·intro k' vV hf
  rw[Am]
  have:k'≠bb:=by rintro rfl;exact hf (by simp[row,Value.ownBlock])
  simp[this,vV]
 ·intro x hx
  simp only[List.mem_singleton] at hx;subst hx
  refine⟨r.length,Ez,.inr ⟨bb,cap,putCells id 0 (flatK vW k d') pA,rfl,Nat.zero_le _,by rw[Am];simp,by omega,zk,by simp[putCells];omega,?_⟩⟩
  apply List.ext_getElem?
  intro j
  rw[List.getElem?_take,hrf]
  by_cases hj:j<r.length*k
  ·rw[if_pos hj]
   have hjc:j<pA.size:=by omega
   simp only[putCells,Array.getElem?_toList,Array.getElem?_mapIdx,Array.getElem?_eq_getElem hjc,Option.map_some]
   rw[if_pos ⟨Nat.zero_le _,by simp only[List.size_toArray];omega⟩,Nat.sub_zero,getElem!_pos _ j (by simp only[List.size_toArray];omega)]
   simp only[id,List.getElem_toArray]
   exact(List.getElem?_eq_getElem (by omega)).symm
  ·rw[if_neg hj,List.getElem?_eq_none (by omega)]
 ·intro x hx b' hb'
  simp only[List.mem_singleton] at hx;subst hx
  simp[row,Value.ownBlock] at hb'
  subst hb'
  rw[ne];omega
 ·intro x hx b' hb'
  simp only[List.mem_singleton] at hx;subst hx
  simp[row,Value.ownBlock] at hb'
  subst hb'
  exact .inl (by simp[row,Value.ownBlock])
end
end Sep
namespace Sep
open Go Go.RowKit
section
def rS(i:Nat)(jb:Array Bool)(o:Oper):Array Bool:=jb.push (o.after.any fun e=>Region.binds .any e&&(Nat.beq e.on i||jb.getD e.on false))
def VX(i:Nat)(oi:Oper)(eA:Array Oper)(tl:Nat->Bool):List Oper->List Bool->Nat->Nat->Bool
 | [],[],_,_=>true
 | oj::os,lj::ls,j,W=>
  if (oj.after.any fun e=>Region.binds .any e&&(Nat.beq e.on i||Nat.testBit W e.on)) then !lj&&VX i oi eA tl os ls (j+1) (W ||| (1 <<< j))
  else(Nat.beq j i||lj||(oi.apart eA oj && !tl j))&&VX i oi eA tl os ls (j+1) W
 | _,_,_,_=>false
def UX(eA:Array Oper)(tl:Nat->Bool)(listed:Array Bool)(i:Nat):Bool:=
 match eA[i]? with
 | none=>false
 | some oi=>VX i oi eA tl eA.toList listed.toList 0 0
theorem J8{i:Nat}{oi:Oper}{eA:Array Oper}{tl:Nat->Bool}:∀(os:List Oper) (ls:List Bool) (j W:Nat) (jb:Array Bool),jb.size=j->(∀ k,jb.getD k false=W.testBit k)->VX i oi eA tl os ls j W=true->
  ls.length=os.length/\(os.foldl (rS i) jb).size=j+os.length/\(∀ k,k<j->(os.foldl (rS i) jb).getD k false=jb.getD k false)/\
  ∀(m:Nat) (oj:Oper) (lj:Bool),os[m]?=some oj->ls[m]?=some lj->
   ((os.foldl (rS i) jb).getD (j+m) false=true->lj=false/\(oj.after.any fun e=>Region.binds .any e&&(Nat.beq e.on i||(os.foldl (rS i) jb).getD e.on false))=true)/\
   ((os.foldl (rS i) jb).getD (j+m) false=false->j+m=i\/lj=true\/(oi.apart eA oj=true/\tl (j+m)=false))
 | [],[],j,W,jb,hs,hW,h=>⟨rfl,hs,fun _ _=>rfl,fun m oj lj h1 _=>by simp at h1⟩
 | [],_::_,j,W,jb,hs,hW,h=>by simp[VX] at h
 | _::_,[],j,W,jb,hs,hW,h=>by simp[VX] at h
 | oj::os,lj::ls,j,W,jb,hs,hW,h=>by
  rw[VX] at h
  have hfun:(fun e:Edge=>Region.binds .any e&&(Nat.beq e.on i||Nat.testBit W e.on))=(fun e=>Region.binds .any e&&(Nat.beq e.on i||jb.getD e.on false)):=by
   funext e;rw[hW]
  rw[hfun] at h
  have An:∀(b:Bool) (k:Nat),(jb.push b).getD k false=if k=j then b else jb.getD k false:=by
   intro b k
   by_cases hk:k=j
   ·subst hk;subst hs;simp
   ·rw[if_neg hk]
    rcases Nat.lt_or_ge k jb.size with h' | h'
    ·simp[Array.getD,h',Nat.lt_succ_of_lt h',Array.getElem_push_lt h']
    ·have h1:¬k<jb.size:=by omega
     have h2:¬k<jb.size+1:=by omega
     simp[Array.getD,h1,h2]
  have key:∀(b:Bool) (W':Nat),rS i jb oj=jb.push b->(∀ k,(jb.push b).getD k false=W'.testBit k)->VX i oi eA tl os ls (j+1) W'=true->
    ((b=true->lj=false)/\(b=false->j=i\/lj=true\/(oi.apart eA oj=true/\tl j=false)))->(oj.after.any fun e=>Region.binds .any e&&(Nat.beq e.on i||jb.getD e.on false))=b->
    (lj::ls).length=(oj::os).length/\((oj::os).foldl (rS i) jb).size=j+(oj::os).length/\(∀ k,k<j->((oj::os).foldl (rS i) jb).getD k false=jb.getD k false)/\
    ∀(m:Nat) (EA:Oper) (EB:Bool),(oj::os)[m]?=some EA->(lj::ls)[m]?=some EB->
     (((oj::os).foldl (rS i) jb).getD (j+m) false=true->EB=false/\(EA.after.any fun e=>Region.binds .any e&&(Nat.beq e.on i||((oj::os).foldl (rS i) jb).getD e.on false))=true)/\
     (((oj::os).foldl (rS i) jb).getD (j+m) false=false->j+m=i\/EB=true\/(oi.apart eA EA=true/\tl (j+m)=false)):=by
   intro b W' hb D4 hg hc hbe
   obtain⟨i1,i2,i3,i4⟩:=J8 os ls (j+1) W' (jb.push b) (by simp[hs]) D4 hg
   rw[List.foldl_cons,hb]
   have hj:=i3 j (by omega)
   rw[An,if_pos rfl] at hj
   refine⟨by simp[i1],by rw[i2];simp;omega,fun k hk=>?_,fun m EA EB h1 h2=>?_⟩
   ·rw[i3 k (by omega),An,if_neg (by omega)]
   ·cases m with
    | zero=>
     simp only[List.getElem?_cons_zero,Option.some.injEq] at h1 h2
     subst h1 h2
     rw[Nat.add_zero,hj]
     refine⟨fun hbt=>⟨hc.1 hbt,?_⟩,fun hbf=>hc.2 hbf⟩
     rw[hbt] at hbe
     rw[Array.any_eq_true] at hbe ⊢
     obtain⟨q,hq,he⟩:=hbe
     refine⟨q,hq,?_⟩
     simp only[Bool.and_eq_true,Bool.or_eq_true] at he ⊢
     refine⟨he.1,he.2.imp id fun h4=>?_⟩
     have h5:oj.after[q].on<j:=by
      rcases Nat.lt_or_ge oj.after[q].on j with h' | h'
      ·exact h'
      ·have h6:¬oj.after[q].on<jb.size:=by omega
       simp[Array.getD,h6] at h4
     rw[i3 _ (by omega),An,if_neg (by omega)];exact h4
    | succ m=>
     simp only[List.getElem?_cons_succ] at h1 h2
     have:=i4 m EA EB h1 h2
     rw[show j+1+m=j+(m+1) by omega] at this
     exact this
  by_cases hb:(oj.after.any fun e=>Region.binds .any e&&(Nat.beq e.on i||jb.getD e.on false))=true
  ·rw[if_pos hb] at h
   simp only[Bool.and_eq_true,Bool.not_eq_true'] at h
   refine key true _ (by unfold rS;rw[hb]) (fun k=>?_) h.2 ⟨fun _=>h.1,fun h'=>by cases h'⟩ hb
   rw[An,Nat.testBit_or,Nat.one_shiftLeft,Nat.testBit_two_pow,hW]
   by_cases hk:k=j
   ·subst hk;simp
   ·have:¬j=k:=fun h=>hk h.symm
    simp[hk,this]
  ·rw[if_neg hb] at h
   simp only[Bool.and_eq_true,Bool.or_eq_true,Bool.not_eq_true'] at h
   have hb':=Bool.eq_false_iff.2 hb
   refine key false _ (by unfold rS;rw[hb']) (fun k=>?_) h.2 ⟨fun h'=>(by cases h'),fun _=>?_⟩ hb'
   ·rw[An]
    by_cases hk:k=j
    ·subst hk
     rw[if_pos rfl,<- hW]
     have h6:¬k<jb.size:=by omega
     simp[Array.getD,h6]
    ·rw[if_neg hk,hW]
   ·rcases h.1 with(h1 | h1) | h1
    ·exact .inl (Nat.eq_of_beq_eq_true h1)
    ·exact .inr (.inl h1)
    ·exact .inr (.inr h1)
theorem z2C{eA:Array Oper}{tl:Nat->Bool}{listed:Array Bool}{i:Nat}(h:UX eA tl listed i=true:=by kernel_rfl):tw eA tl listed i=true:=by
 unfold UX at h
 unfold tw
 cases hi:eA[i]? with
 | none=>rw[hi] at h;cases h
 | some oi=>
  rw[hi] at h
  obtain⟨i1,i2,i3,i4⟩:=J8 eA.toList listed.toList 0 0 #[] rfl (fun k=>by simp[Array.getD]) h
  have hw:eA.toList.foldl (rS i) #[]=mE eA i:=by unfold mE;rw[<- Array.foldl_toList];rfl
  rw[hw] at i2 i3 i4
  have CH:listed.size=eA.size:=by simpa using i1
  simp only[Bool.and_eq_true,List.all_eq_true,List.mem_range]
  have ne:(mE eA i).size=eA.size:=by simpa using i2
  refine⟨by rw[ne];exact Nat.beq_refl _,fun j hj=>?_⟩
  have h1:eA.toList[j]?=some eA[j]:=by simp[hj]
  have h2:listed.toList[j]?=some (listed[j]'(by omega)):=by simp[CH,hj]
  have h3:=i4 j _ _ h1 h2
  rw[Nat.zero_add] at h3
  have h4:eA[j]?=some eA[j]:=Array.getElem?_eq_getElem hj
  have h5:listed.getD j true=listed[j]'(by omega):=by simp[Array.getD,CH,hj]
  rw[h4,h5]
  cases hb:(mE eA i).getD j false with
  | true=>
   have h6:=h3.1 hb
   simp only[h6.1,Bool.not_true,Bool.false_or,Bool.not_false,Bool.true_and,Bool.or_true,Bool.true_or,and_true]
   exact h6.2
  | false=>
   have h6:=h3.2 hb
   simp only[Bool.not_false,Bool.true_or,true_and,Bool.or_false]
   rcases h6 with h6 | h6 | h6
   ·subst h6;simp[Nat.beq_refl]
   ·rw[h6];simp
   ·rw[h6.1,h6.2];simp
def FR(eA:Array Oper)(listed:Array Bool)(i:Nat):Bool:=
 match eA[i]? with
 | none=>false
 | some o => !listed.getD i true&&o.after.all fun e => !Region.binds .any e||listed.getD e.on false
theorem z2B{eA:Array Oper}{listed:Array Bool}{i:Nat}(h:FR eA listed i=true:=by kernel_rfl):(Region.ready .any eA listed).contains i=true:=by
 unfold FR at h
 cases hi:eA[i]? with
 | none=>rw[hi] at h;cases h
 | some o=>
  rw[hi] at h
  simp only[Bool.and_eq_true,Bool.not_eq_true',Array.all_eq_true_iff_forall_mem,Bool.or_eq_true] at h
  have hm:i∈Region.ready .any eA listed:=mem_ready.2 ⟨h.1,o,hi,fun e he hb=>by
   rcases h.2 e he with h1 | h1
   ·rw[hb] at h1;cases h1
   ·exact h1⟩
  simpa using hm
section
variable [Rnd]
theorem WD.d{P:Program}{n:Nat}{F:List Nat}{Nv:World}{env:List (Nat×Value)}{L:List Asrt}{eA:Array Oper}{tl:Nat->Bool}{Ls:List Asrt}{fuel:Nat}{listed:Array Bool}{Q:Act->World->Prop}(xI:Array Bool)(h:listed=xI)(k:WD P n F Nv eA tl Ls Q fuel xI env L):WD P n F Nv eA tl Ls Q fuel listed env L:=h▸k
end
section freezeo
variable [Rnd] {P:Program} {n:Nat} {F:List Nat} {Nv:World} {eA:Array Oper} {tl:Nat->Bool} {Ls:List Asrt} {Q:Act->World->Prop} {fuel:Nat} {listed:Array Bool} {env:List (Nat×Value)} {L R R':List Asrt} {Z Zn:Zp} {i:Nat} {e sz:Nat} {T:TypeId}
theorem um.freezeS{α:Type}{Pr:List Value->α->Prop}{ao:Option Addr}{cap:Nat}{cs:List Value}{ls:List α}(hm:Pick L (row (.slice ao ls.length cap) e sz cs) R)(hz:Pick R (fz Zn) R')(hp:PZ F Nv Z)(hr:RR sz Pr cs ls)(k:∀ tg,xN (Z++Zn) (Z++tg)->ZS (Z++tg) sz Pr ao cap ls->um P n F Nv eA tl Ls Q fuel listed env (fz tg::R') i):um P n F Nv eA tl Ls Q fuel listed env L i:=fun a w h=>by
 obtain⟨tg,h1,h2,h3⟩:=h.hp.freezeS hm hz hp hr
 exact k tg h1 h2 a w (h.world h3)
end freezeo
section calls
variable [Rnd]
variable {P:Program} {F:List Nat} {Nv:World} {L Lc Lr R R' B:List Asrt} {Z Zn:Zp} {f:FuncId} {vs:Array Value} {Q:World->Ending->World->Prop}
theorem cc(hz:PZ F Nv Z)(hs:Sel L Lc Lr)(hc:∀ w,PZ (fps Lc) w Z->Hp (fps Lc) w w Lc->Calls P f vs w (Q w)):∀ w,Hp F Nv w L->Calls P f vs w (Q w):=
 fun w hw=>hc w (hz.call hw hs) (hw.owns hs)
theorem sO(hz:PZ F Nv Z)(hs:Sel L Lc Lr)(hm:Pick Lr (fz Zn) R)(hc:∀ w,PZ (fps Lc) w (Z++Zn)->Hp (fps Lc) w w Lc->Calls P f vs w (Q w)):∀ w,Hp F Nv w L->Calls P f vs w (Q w):=
 fun w hw=>hc w (hz.call2 hw hs hm) (hw.owns hs)
theorem uC(hz:PZ F Nv Z)(hs:Sel L Lc Lr)(hb:Sel Lr B R')(hc:∀ w,PZ (fps Lc) w (Z++iK w (fps B))->Hp (fps Lc) w w Lc->(∀ x,x∈B->∀ Z':Zp,ZA (Z'++iK w (fps B)) x)->Calls P f vs w (Q w)):∀ w,Hp F Nv w L->Calls P f vs w (Q w):=
 fun w hw=>hc w ((hz.call hw hs).lend hw hs (fun _ hx'=>hb.mem hx')) (hw.owns hs) (fun _ hx Z'=>hw.lent hs (fun _ hx'=>hb.mem hx') hx Z')
theorem eQ(hz:PZ F Nv Z)(hs:Sel L Lc Lr)(hm:Pick Lr (fz Zn) R)(hb:Sel Lr B R')(hc:∀ w,PZ (fps Lc) w ((Z++Zn)++iK w (fps B))->Hp (fps Lc) w w Lc->(∀ x,x∈B->∀ Z':Zp,ZA (Z'++iK w (fps B)) x)->Calls P f vs w (Q w)):∀ w,Hp F Nv w L->Calls P f vs w (Q w):=
 fun w hw=>hc w ((hz.call2 hw hs hm).lend hw hs (fun _ hx'=>hb.mem hx')) (hw.owns hs) (fun _ hx Z'=>hw.lent hs (fun _ hx'=>hb.mem hx') hx Z')
end calls
end
section
section unroll
variable [Rnd] {P:Program} {n:Nat} {F:List Nat} {Nv:World} {Q:Exit->Act->World->Prop} {env:List (Nat×Value)} {L:List Asrt} {c:Code}
def W4(P:Program)(Q:Exit->Act->World->Prop)(c:Code)(a:Act)(w:World):Prop:=
 ∀(b:Frame) (k:List Item) (cs:List Frame),b.roundOf=FN.round->FN.fn b.fn->FN.room (cs.length+1+0)->
  ∃ e a' w',Q e a' w'/\ArrivesIn (Machine.fenced P FN) P (lone (b.atR a (.code c :: .inLoop c::k)) cs w) b k cs e a' w'
theorem W4.of(h:WC P n F Nv (Exit.then (W4 P Q c) Q) c env L):∀ a w,SS n F Nv env L a w->W4 P Q c a w:=by
 intro a w hs b k cs D3 hb zj
 obtain⟨e,sY,sZ,hq,sV⟩:=h a w hs b (.inLoop c::k) cs D3 hb zj
 cases e with
 | normal=>
  have hq:W4 P Q c sY sZ:=hq
  obtain⟨Df,Dg,Bb,Bw,zP⟩:=hq b k cs D3 hb zj
  exact⟨Df,Dg,Bb,Bw,.of_steps (StepsIn.trans sV (.one (fenced_calm hb zj rfl) stepR_inLoop)) zP⟩
 | exit id=>exact⟨_,sY,sZ,hq,.pass (x := .inLoop c) rfl (fun _ _ => .inl (by simp)) sV⟩
 | goto l=>exact⟨_,sY,sZ,hq,.pass (x := .inLoop c) rfl (fun _ _ => .inl (by simp)) sV⟩
 | ret=>exact⟨_,sY,sZ,hq,.pass (x := .inLoop c) rfl (fun _ _ => .inl (by simp)) sV⟩
 | panic ch=>exact⟨_,sY,sZ,hq,.pass (x := .inLoop c) rfl (fun _ _ => .inl (by simp)) sV⟩
 | outgrown=>exact⟨_,sY,sZ,hq,.pass (x := .inLoop c) rfl (fun _ _ => .inl (by simp)) sV⟩
end unroll
end
section
variable [Rnd]
section
variable {P:Program} {n:Nat} {F:List Nat} {Nv:World} {env:List (Nat×Value)} {L Lc Lr R:List Asrt} {eA:Array Oper} {Q:Exit->Act->World->Prop} {eZ:List Oper} {dd:Nat}
theorem P2{A0 A1 A2 A3 A4 A5 A6 A7 A8 A9 oL sk vg wL zd zo zH zQ Ax Bc B0 Dh:Type}{o:Oper}{φ:A0->A1->A2->A3->A4->A5->A6->A7->A8->A9->oL->sk->vg->wL->zd->zo->zH->zQ->Ax->Bc->B0->Dh->Prop}{val:A0->A1->A2->A3->A4->A5->A6->A7->A8->A9->oL->sk->vg->wL->zd->zo->zH->zQ->Ax->Bc->B0->Dh->Value}{M:A0->A1->A2->A3->A4->A5->A6->A7->A8->A9->oL->sk->vg->wL->zd->zo->zH->zQ->Ax->Bc->B0->Dh->List Asrt}{f:FuncId}{vs:Array Value}(hg:gd env eA o=some true)(hd:o.dst=some dd)(lp:Nat.blt dd n=true)(iT:∀ a w,SS n F Nv env L a w->(execOp a.eval o).run P w = .ok (.enter f vs) w)(hs:Sel L Lc Lr)(hc:∀ w,Hp F Nv w L->Calls P f vs w fun e w'=>∃ x0 x1 x2 x3 x4 x5 x6 x7 x8 x9 zL AU Cc Cd Ce Cg Ch Ci Cj Ck Cl Cn,e = .returned (val x0 x1 x2 x3 x4 x5 x6 x7 x8 x9 zL AU Cc Cd Ce Cg Ch Ci Cj Ck Cl Cn)/\(φ x0 x1 x2 x3 x4 x5 x6 x7 x8 x9 zL AU Cc Cd Ce Cg Ch Ci Cj Ck Cl Cn)/\Hp (fps Lc) w w' (M x0 x1 x2 x3 x4 x5 x6 x7 x8 x9 zL AU Cc Cd Ce Cg Ch Ci Cj Ck Cl Cn))(k:∀ x0 x1 x2 x3 x4 x5 x6 x7 x8 x9 zL AU Cc Cd Ce Cg Ch Ci Cj Ck Cl Cn,(φ x0 x1 x2 x3 x4 x5 x6 x7 x8 x9 zL AU Cc Cd Ce Cg Ch Ci Cj Ck Cl Cn)->WL P n F Nv eA Q eZ ((dd,val x0 x1 x2 x3 x4 x5 x6 x7 x8 x9 zL AU Cc Cd Ce Cg Ch Ci Cj Ck Cl Cn)::env) ((M x0 x1 x2 x3 x4 x5 x6 x7 x8 x9 zL AU Cc Cd Ce Cg Ch Ci Cj Ck Cl Cn)++Lr)):WL P n F Nv eA Q (o::eZ) env L:=
 N8 (G:=A0×A1×A2×A3×A4×A5×A6×A7×A8×A9×oL×sk×vg×wL×zd×zo×zH×zQ×Ax×Bc×B0×Dh) (φ:=fun g=>(cu22 φ g)) (val:=fun g=>(cu22 val g)) (M:=fun g=>(cu22 M g)) hg hd lp iT hs
  (fun w h=>(hc w h).mono fun e w'=>by rintro⟨x0,x1,x2,x3,x4,x5,x6,x7,x8,x9,zL,AU,Cc,Cd,Ce,Cg,Ch,Ci,Cj,Ck,Cl,Cn,h1,h2,h3⟩;exact⟨⟨x0,x1,x2,x3,x4,x5,x6,x7,x8,x9,zL,AU,Cc,Cd,Ce,Cg,Ch,Ci,Cj,Ck,Cl,Cn⟩,h1,h2,h3⟩) (fun g h=>k g.1 g.2.1 g.2.2.1 g.2.2.2.1 g.2.2.2.2.1 g.2.2.2.2.2.1 g.2.2.2.2.2.2.1 g.2.2.2.2.2.2.2.1 g.2.2.2.2.2.2.2.2.1 g.2.2.2.2.2.2.2.2.2.1 g.2.2.2.2.2.2.2.2.2.2.1 g.2.2.2.2.2.2.2.2.2.2.2.1 g.2.2.2.2.2.2.2.2.2.2.2.2.1 g.2.2.2.2.2.2.2.2.2.2.2.2.2.1 g.2.2.2.2.2.2.2.2.2.2.2.2.2.2.1 g.2.2.2.2.2.2.2.2.2.2.2.2.2.2.2.1 g.2.2.2.2.2.2.2.2.2.2.2.2.2.2.2.2.1 g.2.2.2.2.2.2.2.2.2.2.2.2.2.2.2.2.2.1 g.2.2.2.2.2.2.2.2.2.2.2.2.2.2.2.2.2.2.1 g.2.2.2.2.2.2.2.2.2.2.2.2.2.2.2.2.2.2.2.1 g.2.2.2.2.2.2.2.2.2.2.2.2.2.2.2.2.2.2.2.2.1 g.2.2.2.2.2.2.2.2.2.2.2.2.2.2.2.2.2.2.2.2.2 h)
end
end
section
variable {v0 v1 v2 v3 v4 v5 v6 v7 v8 v9 Af AB AC AV AW Bp B5 CL CN CO CQ D8 v22:Value}{α:Type}{i0 i1 i2 i3 i4 i5 i7 i9 Ag AD AE AX AY Bq CT CV CW CX D9 Ea:Nat}{z y:Code}
section
variable [Rnd] {P:Program} {n:Nat} {F:List Nat} {Nv:World} {env:List (Nat×Value)} {L Lc Lr R:List Asrt} {eA:Array Oper} {Q:Exit->Act->World->Prop} {eZ:List Oper} {o:Oper} {v:Value}
 {tl:Nat->Bool} {Ls:List Asrt} {fuel:Nat} {listed:Array Bool} {QD:Act->World->Prop}
theorem Lj{R:Type}{c:Operand}{x:Code}{b:Bool}{u v:Option R}{r:R}{Q:Exit->Act->World->Prop}[hc:Nu (eo env c) (some (.bool b))](h:(if b=true then u else v)=some r)(ht:b=true->u=some r->WC P n F Nv Q x env L)(hf:b=false->v=some r->WC P n F Nv Q y env L):WC P n F Nv Q (.cond c x y) env L:=WC.cond hc.1 (fun e=>ht e (jD h e)) (fun e=>hf e (jE h e))
theorem Lf(i:Nat){d:Nat}(hi:(eA[i]?,o.dst)=(some o,some d))(hq:∀ {Nv} a w,SS n [] Nv env [] a w->(execOp a.eval o).run P w = .ok (.value v) w)(k:WD P n F Nv eA tl Ls QD fuel (listed.setIfInBounds i true) ((d,v)::env) L)(zr:rO eA=true:=by kernel_rfl)(hr:(Region.ready .any eA listed).contains i=true:=by exact z2B (by kernel_rfl))(hf:tw eA (fun _=>false) listed i=true:=by exact z2C (by kernel_rfl))(hg:gd env eA o=some true:=by exact rfl)(lp:Nat.blt d n=true:=by exact rfl):WD P n F Nv eA tl Ls QD (fuel+1) listed env L:=Ps zr (Prod.mk.inj hi).1 hr hf hg (Prod.mk.inj hi).2 lp (fun _=>hq) k
theorem Lg(i:Nat){d:Nat}(hi:(eA[i]?,o.dst)=(some o,some d))(hq:∀ a w,SS n F Nv env L a w->(execOp a.eval o).run P w = .ok (.value v) w)(k:WD P n F Nv eA tl Ls QD fuel (listed.setIfInBounds i true) ((d,v)::env) L)(zr:rO eA=true:=by kernel_rfl)(hr:(Region.ready .any eA listed).contains i=true:=by exact z2B (by kernel_rfl))(hf:tw eA tl listed i=true:=by exact z2C (by kernel_rfl))(hg:gd env eA o=some true:=by exact rfl)(lp:Nat.blt d n=true:=by exact rfl):WD P n F Nv eA tl Ls QD (fuel+1) listed env L:=WD.e zr (Prod.mk.inj hi).1 hr hf hg (Prod.mk.inj hi).2 lp hq k
theorem Nb(i:Nat){d:Nat}(hi:(eA[i]?,o.dst)=(some o,some d))(hs:wT L Ls)(hq:∀ a w,SS n F Nv env Ls a w->(execOp a.eval o).run P w = .ok (.value v) w)(k:WD P n F Nv eA tl Ls QD fuel (listed.setIfInBounds i true) ((d,v)::env) L)(zr:rO eA=true:=by kernel_rfl)(hr:(Region.ready .any eA listed).contains i=true:=by exact z2B (by kernel_rfl))(hf:tw eA (fun _=>false) listed i=true:=by exact z2C (by kernel_rfl))(hg:gd env eA o=some true:=by exact rfl)(lp:Nat.blt d n=true:=by exact rfl):WD P n F Nv eA tl Ls QD (fuel+1) listed env L:=Ox zr (Prod.mk.inj hi).1 hr hf hg (Prod.mk.inj hi).2 lp hs hq k
theorem Lk(i:Nat){d:Nat}(hi:(eA[i]?,o.dst)=(some o,some d))(k:WD P n F Nv eA tl Ls QD fuel (listed.setIfInBounds i true) ((d,undef)::env) L)(zr:rO eA=true:=by kernel_rfl)(hr:(Region.ready .any eA listed).contains i=true:=by exact z2B (by kernel_rfl))(hf:tw eA (fun _=>false) listed i=true:=by exact z2C (by kernel_rfl))(hg:gd env eA o=some false:=by exact rfl)(lp:Nat.blt d n=true:=by exact rfl):WD P n F Nv eA tl Ls QD (fuel+1) listed env L:=WD.b zr (Prod.mk.inj hi).1 hr hf hg (Prod.mk.inj hi).2 lp k
theorem L4{f:FuncId}{vs:Array Value}(i:Nat){d:Nat}(hi:(eA[i]?,o.dst)=(some o,some d))(iT:∀ a w,SS n F Nv env L a w->(execOp a.eval o).run P w = .ok (.enter f vs) w)(hc:∀ w,Hp F Nv w L->Calls P f vs w fun e w'=>e = .returned v/\Hp [] w w' [])(k:WD P n F Nv eA tl Ls QD fuel (listed.setIfInBounds i true) ((d,v)::env) L)(zr:rO eA=true:=by kernel_rfl)(hr:(Region.ready .any eA listed).contains i=true:=by exact z2B (by kernel_rfl))(hf:tw eA tl listed i=true:=by exact z2C (by kernel_rfl))(hg:gd env eA o=some true:=by exact rfl)(lp:Nat.blt d n=true:=by exact rfl):WD P n F Nv eA tl Ls QD (fuel+1) listed env L:=Rf zr (Prod.mk.inj hi).1 hr hf hg (Prod.mk.inj hi).2 lp iT hc k
theorem Le(d:Nat)(hq:∀ a w,SS n F Nv env L a w->(execOp a.eval o).run P w = .ok (.value v) w)(k:WL P n F Nv eA Q eZ ((d,v)::env) L)(hg:gd env eA o=some true:=by exact rfl)(hd:o.dst=some d:=by exact rfl)(lp:Nat.blt d n=true:=by exact rfl):WL P n F Nv eA Q (o::eZ) env L:=Oa hg hd lp hq k
theorem Lh{G:Type}{φ:G->Prop}{val:G->Value}{L':G->List Asrt}(d:Nat)(hq:nZ P n F Nv env L o φ val L')(k:∀ g,φ g->WL P n F Nv eA Q eZ ((d,val g)::env) (L' g))(hg:gd env eA o=some true:=by exact rfl)(hd:o.dst=some d:=by exact rfl)(lp:Nat.blt d n=true:=by exact rfl):WL P n F Nv eA Q (o::eZ) env L:=WL.new hg hd lp hq k
theorem WL.fA{G:Type}{φ:G->Prop}{val:G->Value}{L':G->List Asrt}(d:Nat)(hq:Ef P n F Nv env L o φ val L')(k:∀ g,φ g->WL P n F Nv eA Q eZ ((d,val g)::env) (L' g))(hg:gd env eA o=some true:=by exact rfl)(hd:o.dst=some d:=by exact rfl)(lp:Nat.blt d n=true:=by exact rfl):WL P n F Nv eA Q (o::eZ) env L:=O2 hg hd lp hq k
theorem Lm{f:FuncId}{vs:Array Value}{M:List Asrt}(d:Nat)(iT:∀ a w,SS n F Nv env L a w->(execOp a.eval o).run P w = .ok (.enter f vs) w)(hs:Sel L Lc Lr)(hc:∀ w,Hp F Nv w L->Calls P f vs w fun e w'=>e = .returned v/\Hp (fps Lc) w w' M)(k:WL P n F Nv eA Q eZ ((d,v)::env) (M++Lr))(hg:gd env eA o=some true:=by exact rfl)(hd:o.dst=some d:=by exact rfl)(lp:Nat.blt d n=true:=by exact rfl):WL P n F Nv eA Q (o::eZ) env L:=WL.b hg hd lp iT hs hc k
end
section
variable [Rnd] {P:Program} {f:FuncId} {fn:Func} {c:Code} {w:World} {R:Ending->World->Prop} {n:Nat} {pre:List Asrt}
theorem Co(hf:P.funcs[f]?=some fn)(hn:fn.ntmps=n)(hb:fn.body=some c)(k : @WC Rnd.base P n [] w (bodyPost P fn R) c [] [])(ne:Nat.ble 0 n=true:=by exact rfl):Calls P f #[] w R:=N3 (vs:=[]) (pre:=[]) hf hb hn ne (Hp.nil w _) rfl k
theorem H7(hf:P.funcs[f]?=some fn)(hn:fn.ntmps=n)(ip:Hp (fps pre) w w pre)(hb:fn.body=some c)(k : @WC Rnd.base P n (fps pre) w (bodyPost P fn R) c [(0,v0)] pre)(ne:Nat.ble 1 n=true:=by exact rfl):Calls P f #[v0] w R:=N3 (vs:=[v0]) (pre:=pre) hf hb hn ne ip rfl k
theorem L8(hf:P.funcs[f]?=some fn)(hn:fn.ntmps=n)(hb:fn.body=some c)(k : @WC Rnd.base P n [] w (bodyPost P fn R) c [(0,v0)] [])(ne:Nat.ble 1 n=true:=by exact rfl):Calls P f #[v0] w R:=N3 (vs:=[v0]) (pre:=[]) hf hb hn ne (Hp.nil w _) rfl k
theorem Ni(hf:P.funcs[f]?=some fn)(hn:fn.ntmps=n)(ip:Hp (fps pre) w w pre)(hb:fn.body=some c)(k : @WC Rnd.base P n (fps pre) w (bodyPost P fn R) c [(0,v0),(1,v1)] pre)(ne:Nat.ble 2 n=true:=by exact rfl):Calls P f #[v0,v1] w R:=N3 (vs:=[v0,v1]) (pre:=pre) hf hb hn ne ip rfl k
theorem Lz(hf:P.funcs[f]?=some fn)(hn:fn.ntmps=n)(hb:fn.body=some c)(k : @WC Rnd.base P n [] w (bodyPost P fn R) c [(0,v0),(1,v1)] [])(ne:Nat.ble 2 n=true:=by exact rfl):Calls P f #[v0,v1] w R:=N3 (vs:=[v0,v1]) (pre:=[]) hf hb hn ne (Hp.nil w _) rfl k
theorem N6(hf:P.funcs[f]?=some fn)(hn:fn.ntmps=n)(ip:Hp (fps pre) w w pre)(hb:fn.body=some c)(k : @WC Rnd.base P n (fps pre) w (bodyPost P fn R) c [(0,v0),(1,v1),(2,v2)] pre)(ne:Nat.ble 3 n=true:=by exact rfl):Calls P f #[v0,v1,v2] w R:=N3 (vs:=[v0,v1,v2]) (pre:=pre) hf hb hn ne ip rfl k
theorem N1(hf:P.funcs[f]?=some fn)(hn:fn.ntmps=n)(hb:fn.body=some c)(k : @WC Rnd.base P n [] w (bodyPost P fn R) c [(0,v0),(1,v1),(2,v2)] [])(ne:Nat.ble 3 n=true:=by exact rfl):Calls P f #[v0,v1,v2] w R:=N3 (vs:=[v0,v1,v2]) (pre:=[]) hf hb hn ne (Hp.nil w _) rfl k
theorem H4(hf:P.funcs[f]?=some fn)(hn:fn.ntmps=n)(ip:Hp (fps pre) w w pre)(hb:fn.body=some c)(k : @WC Rnd.base P n (fps pre) w (bodyPost P fn R) c [(0,v0),(1,v1),(2,v2),(3,v3)] pre)(ne:Nat.ble 4 n=true:=by exact rfl):Calls P f #[v0,v1,v2,v3] w R:=N3 (vs:=[v0,v1,v2,v3]) (pre:=pre) hf hb hn ne ip rfl k
theorem Oe(hf:P.funcs[f]?=some fn)(hn:fn.ntmps=n)(hb:fn.body=some c)(k : @WC Rnd.base P n [] w (bodyPost P fn R) c [(0,v0),(1,v1),(2,v2),(3,v3)] [])(ne:Nat.ble 4 n=true:=by exact rfl):Calls P f #[v0,v1,v2,v3] w R:=N3 (vs:=[v0,v1,v2,v3]) (pre:=[]) hf hb hn ne (Hp.nil w _) rfl k
theorem Dx(hf:P.funcs[f]?=some fn)(hn:fn.ntmps=n)(ip:Hp (fps pre) w w pre)(hb:fn.body=some c)(k : @WC Rnd.base P n (fps pre) w (bodyPost P fn R) c [(0,v0),(1,v1),(2,v2),(3,v3),(4,v4)] pre)(ne:Nat.ble 5 n=true:=by exact rfl):Calls P f #[v0,v1,v2,v3,v4] w R:=N3 (vs:=[v0,v1,v2,v3,v4]) (pre:=pre) hf hb hn ne ip rfl k
theorem Oz(hf:P.funcs[f]?=some fn)(hn:fn.ntmps=n)(hb:fn.body=some c)(k : @WC Rnd.base P n [] w (bodyPost P fn R) c [(0,v0),(1,v1),(2,v2),(3,v3),(4,v4)] [])(ne:Nat.ble 5 n=true:=by exact rfl):Calls P f #[v0,v1,v2,v3,v4] w R:=N3 (vs:=[v0,v1,v2,v3,v4]) (pre:=[]) hf hb hn ne (Hp.nil w _) rfl k
theorem Oy(hf:P.funcs[f]?=some fn)(hn:fn.ntmps=n)(hb:fn.body=some c)(k : @WC Rnd.base P n [] w (bodyPost P fn R) c [(0,v0),(1,v1),(2,v2),(3,v3),(4,v4),(5,v5)] [])(ne:Nat.ble 6 n=true:=by exact rfl):Calls P f #[v0,v1,v2,v3,v4,v5] w R:=N3 (vs:=[v0,v1,v2,v3,v4,v5]) (pre:=[]) hf hb hn ne (Hp.nil w _) rfl k
end
theorem Restr.r2{env:List (Nat×Value)}(h0:Sep.lk env i0=some v0)(h1:Sep.lk env i1=some v1):Restr env [(i0,v0),(i1,v1)] := .cons h0 (.cons h1 .nil)
theorem Restr.r3{env:List (Nat×Value)}(h0:Sep.lk env i0=some v0)(h1:Sep.lk env i1=some v1)(h2:Sep.lk env i2=some v2):Restr env [(i0,v0),(i1,v1),(i2,v2)] := .cons h0 (.cons h1 (.cons h2 .nil))
theorem Restr.r4{env:List (Nat×Value)}(h0:Sep.lk env i0=some v0)(h1:Sep.lk env i1=some v1)(h2:Sep.lk env i2=some v2)(h3:Sep.lk env i3=some v3):Restr env [(i0,v0),(i1,v1),(i2,v2),(i3,v3)] := .cons h0 (.cons h1 (.cons h2 (.cons h3 .nil)))
theorem Restr.r5{env:List (Nat×Value)}(h0:Sep.lk env i0=some v0)(h1:Sep.lk env i1=some v1)(h2:Sep.lk env i2=some v2)(h3:Sep.lk env i3=some v3)(h4:Sep.lk env i4=some v4):Restr env [(i0,v0),(i1,v1),(i2,v2),(i3,v3),(i4,v4)] := .cons h0 (.cons h1 (.cons h2 (.cons h3 (.cons h4 .nil))))
theorem Eos.r2{env:List (Nat×Value)}{i0 i1:Operand}(h0:Sep.eo env i0=some v0)(h1:Sep.eo env i1=some v1):Eos env [i0,i1] [v0,v1] := .cons h0 (.cons h1 .nil)
theorem Eos.r3{env:List (Nat×Value)}{i0 i1 i2:Operand}(h0:Sep.eo env i0=some v0)(h1:Sep.eo env i1=some v1)(h2:Sep.eo env i2=some v2):Eos env [i0,i1,i2] [v0,v1,v2] := .cons h0 (.cons h1 (.cons h2 .nil))
theorem Eos.r4{env:List (Nat×Value)}{i0 i1 i2 i3:Operand}(h0:Sep.eo env i0=some v0)(h1:Sep.eo env i1=some v1)(h2:Sep.eo env i2=some v2)(h3:Sep.eo env i3=some v3):Eos env [i0,i1,i2,i3] [v0,v1,v2,v3] := .cons h0 (.cons h1 (.cons h2 (.cons h3 .nil)))
theorem Eos.r5{env:List (Nat×Value)}{i0 i1 i2 i3 i4:Operand}(h0:Sep.eo env i0=some v0)(h1:Sep.eo env i1=some v1)(h2:Sep.eo env i2=some v2)(h3:Sep.eo env i3=some v3)(h4:Sep.eo env i4=some v4):Eos env [i0,i1,i2,i3,i4] [v0,v1,v2,v3,v4] := .cons h0 (.cons h1 (.cons h2 (.cons h3 (.cons h4 .nil))))
theorem Sel.s2{x0 x1:α}{L R1 R2:List α}(h0:Pick L x0 R1)(h1:Pick R1 x1 R2):Sel L [x0,x1] R2 := .cons h0 (.cons h1 .nil)
theorem Sel.s3{x0 x1 x2:α}{L R1 R2 R3:List α}(h0:Pick L x0 R1)(h1:Pick R1 x1 R2)(h2:Pick R2 x2 R3):Sel L [x0,x1,x2] R3 := .cons h0 (.cons h1 (.cons h2 .nil))
theorem Sel.s4{x0 x1 x2 x3:α}{L R1 R2 R3 R4:List α}(h0:Pick L x0 R1)(h1:Pick R1 x1 R2)(h2:Pick R2 x2 R3)(h3:Pick R3 x3 R4):Sel L [x0,x1,x2,x3] R4 := .cons h0 (.cons h1 (.cons h2 (.cons h3 .nil)))
theorem Sel.s5{x0 x1 x2 x3 x4:α}{L R1 R2 R3 R4 R5:List α}(h0:Pick L x0 R1)(h1:Pick R1 x1 R2)(h2:Pick R2 x2 R3)(h3:Pick R3 x3 R4)(h4:Pick R4 x4 R5):Sel L [x0,x1,x2,x3,x4] R5 := .cons h0 (.cons h1 (.cons h2 (.cons h3 (.cons h4 .nil))))
theorem Sel.s6{x0 x1 x2 x3 x4 x5:α}{L R1 R2 R3 R4 R5 R6:List α}(h0:Pick L x0 R1)(h1:Pick R1 x1 R2)(h2:Pick R2 x2 R3)(h3:Pick R3 x3 R4)(h4:Pick R4 x4 R5)(h5:Pick R5 x5 R6):Sel L [x0,x1,x2,x3,x4,x5] R6 := .cons h0 (.cons h1 (.cons h2 (.cons h3 (.cons h4 (.cons h5 .nil)))))
theorem Sel.s7{x0 x1 x2 x3 x4 x5 x6:α}{L R1 R2 R3 R4 R5 R6 R7:List α}(h0:Pick L x0 R1)(h1:Pick R1 x1 R2)(h2:Pick R2 x2 R3)(h3:Pick R3 x3 R4)(h4:Pick R4 x4 R5)(h5:Pick R5 x5 R6)(h6:Pick R6 x6 R7):Sel L [x0,x1,x2,x3,x4,x5,x6] R7 := .cons h0 (.cons h1 (.cons h2 (.cons h3 (.cons h4 (.cons h5 (.cons h6 .nil))))))
theorem Sel.s8{x0 x1 x2 x3 x4 x5 x6 x7:α}{L R1 R2 R3 R4 R5 R6 R7 R8:List α}(h0:Pick L x0 R1)(h1:Pick R1 x1 R2)(h2:Pick R2 x2 R3)(h3:Pick R3 x3 R4)(h4:Pick R4 x4 R5)(h5:Pick R5 x5 R6)(h6:Pick R6 x6 R7)(h7:Pick R7 x7 R8):Sel L [x0,x1,x2,x3,x4,x5,x6,x7] R8 := .cons h0 (.cons h1 (.cons h2 (.cons h3 (.cons h4 (.cons h5 (.cons h6 (.cons h7 .nil)))))))
theorem Sel.s9{x0 x1 x2 x3 x4 x5 x6 x7 x8:α}{L R1 R2 R3 R4 R5 R6 R7 R8 R9:List α}(h0:Pick L x0 R1)(h1:Pick R1 x1 R2)(h2:Pick R2 x2 R3)(h3:Pick R3 x3 R4)(h4:Pick R4 x4 R5)(h5:Pick R5 x5 R6)(h6:Pick R6 x6 R7)(h7:Pick R7 x7 R8)(h8:Pick R8 x8 R9):Sel L [x0,x1,x2,x3,x4,x5,x6,x7,x8] R9 := .cons h0 (.cons h1 (.cons h2 (.cons h3 (.cons h4 (.cons h5 (.cons h6 (.cons h7 (.cons h8 .nil))))))))
theorem Sel.s10{x0 x1 x2 x3 x4 x5 x6 x7 x8 x9:α}{L R1 R2 R3 R4 R5 R6 R7 R8 R9 EK:List α}(h0:Pick L x0 R1)(h1:Pick R1 x1 R2)(h2:Pick R2 x2 R3)(h3:Pick R3 x3 R4)(h4:Pick R4 x4 R5)(h5:Pick R5 x5 R6)(h6:Pick R6 x6 R7)(h7:Pick R7 x7 R8)(h8:Pick R8 x8 R9)(h9:Pick R9 x9 EK):Sel L [x0,x1,x2,x3,x4,x5,x6,x7,x8,x9] EK := .cons h0 (.cons h1 (.cons h2 (.cons h3 (.cons h4 (.cons h5 (.cons h6 (.cons h7 (.cons h8 (.cons h9 .nil)))))))))
theorem Sel.s11{x0 x1 x2 x3 x4 x5 x6 x7 x8 x9 zL:α}{L R1 R2 R3 R4 R5 R6 R7 R8 R9 EK R11:List α}(h0:Pick L x0 R1)(h1:Pick R1 x1 R2)(h2:Pick R2 x2 R3)(h3:Pick R3 x3 R4)(h4:Pick R4 x4 R5)(h5:Pick R5 x5 R6)(h6:Pick R6 x6 R7)(h7:Pick R7 x7 R8)(h8:Pick R8 x8 R9)(h9:Pick R9 x9 EK)(zM:Pick EK zL R11):Sel L [x0,x1,x2,x3,x4,x5,x6,x7,x8,x9,zL] R11 := .cons h0 (.cons h1 (.cons h2 (.cons h3 (.cons h4 (.cons h5 (.cons h6 (.cons h7 (.cons h8 (.cons h9 (.cons zM .nil))))))))))
theorem Sel.a2  {x0 x1 : α} {R : List α} : Sel (x0 :: x1 :: R) [x0, x1] R := .s2 .here .here
theorem Sel.a3  {x0 x1 x2 : α} {R : List α} : Sel (x0 :: x1 :: x2 :: R) [x0, x1, x2] R := .s3 .here .here .here
theorem Sel.a4  {x0 x1 x2 x3 : α} {R : List α} : Sel (x0 :: x1 :: x2 :: x3 :: R) [x0, x1, x2, x3] R := .s4 .here .here .here .here
theorem Sel.a5  {x0 x1 x2 x3 x4 : α} {R : List α} : Sel (x0 :: x1 :: x2 :: x3 :: x4 :: R) [x0, x1, x2, x3, x4] R := .s5 .here .here .here .here .here
theorem Sel.a6  {x0 x1 x2 x3 x4 x5 : α} {R : List α} : Sel (x0 :: x1 :: x2 :: x3 :: x4 :: x5 :: R) [x0, x1, x2, x3, x4, x5] R := .s6 .here .here .here .here .here .here
theorem Sel.a7  {x0 x1 x2 x3 x4 x5 x6 : α} {R : List α} : Sel (x0 :: x1 :: x2 :: x3 :: x4 :: x5 :: x6 :: R) [x0, x1, x2, x3, x4, x5, x6] R := .s7 .here .here .here .here .here .here .here
theorem Sel.a8  {x0 x1 x2 x3 x4 x5 x6 x7 : α} {R : List α} : Sel (x0 :: x1 :: x2 :: x3 :: x4 :: x5 :: x6 :: x7 :: R) [x0, x1, x2, x3, x4, x5, x6, x7] R := .s8 .here .here .here .here .here .here .here .here
theorem Sel.a9  {x0 x1 x2 x3 x4 x5 x6 x7 x8 : α} {R : List α} : Sel (x0 :: x1 :: x2 :: x3 :: x4 :: x5 :: x6 :: x7 :: x8 :: R) [x0, x1, x2, x3, x4, x5, x6, x7, x8] R := .s9 .here .here .here .here .here .here .here .here .here
def puK (n:Nat)(eA:Array Oper):Nat->List Oper->List (Nat×Value)->Option (List Oper×List (Nat×Value))
 | 0,l,e=>some (l,e)
 | k+1,l,e=>match l with
  | []=>none
  | o::l=>(puE n eA e o).bind fun p=>puK n eA k l (p::e)
section
variable [Rnd] {P:Program}{n:Nat}{F:List Nat}{Nv:World}{env e':List (Nat×Value)}{L:List Asrt}{eA:Array Oper}{Q:Exit->Act->World->Prop}{l l':List Oper}
theorem puU:∀{k:Nat}{l:List Oper}{env:List (Nat×Value)},puK n eA k l env=some (l',e')->WL P n F Nv eA Q l' e' L->WL P n F Nv eA Q l env L
 | 0,_,_,h,k=>by cases h;exact k
 | _+1,[],_,h,_=>by cases h
 | j+1,o::l,env,h,k=>by
  rw[puK] at h
  cases hp:puE n eA env o with
  | none=>rw[hp] at h;cases h
  | some p=>
   rw[hp] at h
   exact La hp (puU (k:=j) h k)
theorem B0q{Q2:Exit->Act->World->Prop}{id:Nat}(k:WL P n F Nv l'.toArray (Exit.then (fun a w=>z.wpIn FN 0 P Q2 a w) Q2) l' env L):WC P n F Nv Q2 (.seq (.region id l'.toArray false) z) env L:=WC.b (Ld (k))
theorem B1q{Q2:Exit->Act->World->Prop}{id:Nat}(h:puK n l.toArray 1 l env=some (l',e'))(k:WL P n F Nv l.toArray (Exit.then (fun a w=>z.wpIn FN 0 P Q2 a w) Q2) l' e' L):WC P n F Nv Q2 (.seq (.region id l.toArray false) z) env L:=WC.b (Ld (puU (k:=1) h (k)))
theorem B1n{Q2:Exit->Act->World->Prop}{id:Nat}(h:puK n l.toArray 1 l env=some ([],e'))(k:WC P n F Nv Q2 z e' L):WC P n F Nv Q2 (.seq (.region id l.toArray false) z) env L:=WC.b (Ld (puU (k:=1) h (WL.nil (Lb k))))
theorem B2q{Q2:Exit->Act->World->Prop}{id:Nat}(h:puK n l.toArray 2 l env=some (l',e'))(k:WL P n F Nv l.toArray (Exit.then (fun a w=>z.wpIn FN 0 P Q2 a w) Q2) l' e' L):WC P n F Nv Q2 (.seq (.region id l.toArray false) z) env L:=WC.b (Ld (puU (k:=2) h (k)))
theorem B2n{Q2:Exit->Act->World->Prop}{id:Nat}(h:puK n l.toArray 2 l env=some ([],e'))(k:WC P n F Nv Q2 z e' L):WC P n F Nv Q2 (.seq (.region id l.toArray false) z) env L:=WC.b (Ld (puU (k:=2) h (WL.nil (Lb k))))
theorem B3q{Q2:Exit->Act->World->Prop}{id:Nat}(h:puK n l.toArray 3 l env=some (l',e'))(k:WL P n F Nv l.toArray (Exit.then (fun a w=>z.wpIn FN 0 P Q2 a w) Q2) l' e' L):WC P n F Nv Q2 (.seq (.region id l.toArray false) z) env L:=WC.b (Ld (puU (k:=3) h (k)))
theorem B3n{Q2:Exit->Act->World->Prop}{id:Nat}(h:puK n l.toArray 3 l env=some ([],e'))(k:WC P n F Nv Q2 z e' L):WC P n F Nv Q2 (.seq (.region id l.toArray false) z) env L:=WC.b (Ld (puU (k:=3) h (WL.nil (Lb k))))
theorem B4n{Q2:Exit->Act->World->Prop}{id:Nat}(h:puK n l.toArray 4 l env=some ([],e'))(k:WC P n F Nv Q2 z e' L):WC P n F Nv Q2 (.seq (.region id l.toArray false) z) env L:=WC.b (Ld (puU (k:=4) h (WL.nil (Lb k))))
theorem D1q{QQ:Exit->Act->World->Prop}{id:Nat}(h:puK n l.toArray 1 l env=some (l',e'))(k:WL P n F Nv l.toArray QQ l' e' L):WC P n F Nv QQ (.region id l.toArray false) env L:=Ld (puU (k:=1) h (k))
theorem D2q{QQ:Exit->Act->World->Prop}{id:Nat}(h:puK n l.toArray 2 l env=some (l',e'))(k:WL P n F Nv l.toArray QQ l' e' L):WC P n F Nv QQ (.region id l.toArray false) env L:=Ld (puU (k:=2) h (k))
theorem D3q{QQ:Exit->Act->World->Prop}{id:Nat}(h:puK n l.toArray 3 l env=some (l',e'))(k:WL P n F Nv l.toArray QQ l' e' L):WC P n F Nv QQ (.region id l.toArray false) env L:=Ld (puU (k:=3) h (k))
theorem D4q{QQ:Exit->Act->World->Prop}{id:Nat}(h:puK n l.toArray 4 l env=some (l',e'))(k:WL P n F Nv l.toArray QQ l' e' L):WC P n F Nv QQ (.region id l.toArray false) env L:=Ld (puU (k:=4) h (k))
theorem Q0n(k:WC P n F Nv Q y env L):WL P n F Nv eA (Exit.then (fun a w=>y.wpIn FN 0 P Q a w) Q) [] env L:=(WL.nil (Lb k))
theorem Q1n(h:puK n eA 1 l env=some ([],e'))(k:WC P n F Nv Q y e' L):WL P n F Nv eA (Exit.then (fun a w=>y.wpIn FN 0 P Q a w) Q) l env L:=puU (k:=1) h (WL.nil (Lb k))
theorem Q2q{QQ:Exit->Act->World->Prop}(h:puK n eA 2 l env=some (l',e'))(k:WL P n F Nv eA QQ l' e' L):WL P n F Nv eA QQ l env L:=puU (k:=2) h (k)
theorem Q2n(h:puK n eA 2 l env=some ([],e'))(k:WC P n F Nv Q y e' L):WL P n F Nv eA (Exit.then (fun a w=>y.wpIn FN 0 P Q a w) Q) l env L:=puU (k:=2) h (WL.nil (Lb k))
theorem Q3q{QQ:Exit->Act->World->Prop}(h:puK n eA 3 l env=some (l',e'))(k:WL P n F Nv eA QQ l' e' L):WL P n F Nv eA QQ l env L:=puU (k:=3) h (k)
theorem Q5n(h:puK n eA 5 l env=some ([],e'))(k:WC P n F Nv Q y e' L):WL P n F Nv eA (Exit.then (fun a w=>y.wpIn FN 0 P Q a w) Q) l env L:=puU (k:=5) h (WL.nil (Lb k))
end
theorem Restr.qo{env:List (Nat×Value)}:∀{l:List (Nat×Value)},l.map (fun p=>Sep.lk env p.1)=l.map (fun p=>some p.2)->Restr env l
 | [],_=>.nil
 | _::_,h=>by
  rw[List.map_cons,List.map_cons] at h
  injection h with a b
  exact .cons a (Restr.qo b)
theorem Eos.qo{env:List (Nat×Value)}:∀{os:List Operand}{ws:List Value},os.map (fun o=>Sep.eo env o)=ws.map some->Eos env os ws
 | [],[],_=>.nil
 | _::_,_::_,h=>by
  rw[List.map_cons,List.map_cons] at h
  injection h with a b
  exact .cons a (Eos.qo b)
 | [],_::_,h=>by cases h
 | _::_,[],h=>by cases h
section
variable [Rnd]{P:Program}{n:Nat}{F:List Nat}{Nv:World}{env:List (Nat×Value)}{L M K:List Asrt}{fn:Func}{u:Value}
theorem Nl{t:Nat}{v:Value}(hr:fn.results=[ResultVar.tmp t].toArray)(h1:Sep.lk env t=some v:=by exact rfl)(h2:v=u:=by exact rfl):@WX Rnd.base n F Nv (bodyPost P fn fun e w'=>e = .returned u/\Hp F Nv w' []) .ret env L:=Li hr (.tmp h1 .nil) fun w hw=>⟨by rw[h2];rfl,hw.sub .nil⟩
theorem Nm{rs:List ResultVar}{vs:List Value}(hr:fn.results=rs.toArray)(hv:ResV P F Nv env L rs vs)(hs:Sel L K M)(h2:cF vs=u:=by exact rfl):@WX Rnd.base n F Nv (bodyPost P fn fun e w'=>e = .returned u/\Hp F Nv w' K) .ret env L:=Li hr hv fun w hw=>⟨by rw[h2],hw.sub hs⟩
end
def Np(env:List (Nat×Value)):List Operand->Option (List Value)
 | []=>some []
 | o::os=>match Sep.eo env o with
  | none=>none
  | some v=>match Np env os with
   | none=>none
   | some vs=>some (v::vs)
theorem Nq{env:List (Nat×Value)}:∀{l:List Operand}{vs:List Value},Np env l=some vs->Eos env l vs
 | [],_,h=>by cases h;exact .nil
 | o::l,vs,h=>by
  unfold Np at h
  split at h
  ·cases h
  ·rename_i h1
   split at h
   ·cases h
   ·rename_i h2;cases h;exact .cons h1 (Nq h2)
section
variable [Rnd]{P:Program}{n:Nat}{F:List Nat}{Nv:World}{env:List (Nat×Value)}{L:List Asrt}{eA:Array Oper}{Q:Exit->Act->World->Prop}{ir:List Oper}{f:FuncId}{l:List Operand}{CB:Array TypeId}{vs:List Value}{d:Nat}{d':Option Tmp}{ty:TypeId}{pos:String}{after:Array Edge}{g:Option (Nat×Bool)}{v:Value}{Z:Zp}
theorem Ns(Bm:∀ args w,(callFunc f args).run P w = .ok (.enter f args) w)[he:Nu (Np env l) (some vs)]:∀ a w,SS n F Nv env L a w->(execOp a.eval ⟨d',.call ⟨.value (.func f),l.toArray,CB⟩,ty,pos,after,g⟩).run P w = .ok (.enter f vs.toArray) w:=za Bm (Nq he.1)
theorem Nr(Bm:∀ args w,(callFunc f args).run P w = .ok (.enter f args) w)[he:Nu (Np env l) (some vs)](hz:PZ F Nv Z)(hc:∀{w},PZ [] w Z->Calls P f vs.toArray w fun e w'=>e = .returned v/\Hp [] w w' [])(k:WL P n F Nv eA Q ir ((d,v)::env) L)(hg:gd env eA ⟨some d,.call ⟨.value (.func f),l.toArray,CB⟩,ty,pos,after,g⟩=some true:=by exact rfl)(hk:Nat.blt d n=true:=by exact rfl):WL P n F Nv eA Q (⟨some d,.call ⟨.value (.func f),l.toArray,CB⟩,ty,pos,after,g⟩::ir) env L:=Lm d (Ns Bm) .nil (cc hz .nil fun _ pz _=>hc pz) k hg (lp:=hk)
end
section
variable [Rnd]{P:Program}{n:Nat}{F:List Nat}{Nv:World}{env:List (Nat×Value)}{L R:List Asrt}{d:Option Tmp}{ty:TypeId}{pos:String}{after:Array Edge}{g:Option (Nat×Bool)}{x:Operand}{v:Value}{t T:TypeId}{b off:Nat}{cs:List Value}
theorem Nt(hT:mz P t)(hm:Pick L (stb b T cs) R)[hx:Nu (eo env x) (some (.pointer (some ⟨b,off,none⟩)))][hv:Nu cs[off]? (some v)]:Qt P n F Nv env L ⟨d,.load t x,ty,pos,after,g⟩ v:=xB hT hx.1 (xG hm hv.1)
end
theorem Restr.q{env l:List (Nat×Value)}[h:Nu (l.map fun p=>Sep.lk env p.1) (l.map fun p=>some p.2)]:Restr env l:=Restr.qo h.1
theorem Eos.q{env:List (Nat×Value)}{os:List Operand}{ws:List Value}[h:Nu (os.map fun o=>Sep.eo env o) (ws.map some)]:Eos env os ws:=Eos.qo h.1
theorem Restr.ap{env:List (Nat×Value)}:∀{a b:List (Nat×Value)},Restr env a->Restr env b->Restr env (a++b)
 | _,_,.nil,h=>h
 | _,_,.cons x t,h=>.cons x (Restr.ap t h)
theorem Restr.t{env l:List (Nat×Value)}(N:Nat)[h:Nu ((l.take N).map fun p=>Sep.lk env p.1) ((l.take N).map fun p=>some p.2)](k:Restr env (l.drop N)):Restr env l:=by
 have u:=Restr.ap (Restr.qo h.1) k
 rwa[List.take_append_drop] at u
end
section
theorem nK{P:Program}{kt:TypeId}{κ:Type}[DecidableEq κ]{ek:κ->Value}(zy:∀ u v w,(Op.equal kt (ek u) (ek v)).run P w = .ok (decide (u=v)) w)(k:κ):
  ∀(es:List MapEntry) (ks:List κ) (i:Nat) (w:World),es.map (·.key)=ks.map ek->
   (Instr.findAsking kt (ek k) es i).run P w = .ok ((ks.findIdx? fun k'=>decide (k=k')).map fun j=>(i+j,((es[j]?).map (·.val)).getD undef)) w
 | [],[],i,w,_=>by simp[Instr.findAsking]
 | [],_::_,_,_,h=>by simp at h
 | _::_,[],_,_,h=>by simp at h
 | e::es,k'::ks,i,w,h=>by
  simp only[List.map_cons,List.cons.injEq] at h
  unfold Instr.findAsking
  rw[h.1]
  simp only[Sem.run_bind,zy,Result.andThen_ok,List.findIdx?_cons]
  by_cases hk:k=k'
  ·subst hk;simp
  ·simp only[hk,decide_false,Bool.false_eq_true,if_false]
   rw[nK zy k es ks (i+1) w h.2]
   cases ks.findIdx? (fun k'=>decide (k=k')) with
   | none=>rfl
   | some j=>simp;omega
theorem eR{P:Program}{kt:TypeId}{κ:Type}[DecidableEq κ]{enc:κ->List Value}{dd:TypeDesc}(hd:P.underlying kt=some dd)(hs:∀ a b,Instr.sameNow dd (.agg a) (.agg b)=none)(hchk:∀ b k w,(Instr.checkKey b 10000 kt (.agg (enc k).toArray)).run P w = .ok () w)(zy:∀ u v w,(Op.equal kt (.agg (enc u).toArray) (.agg (enc v).toArray)).run P w = .ok (decide (u=v)) w)(EL:∀ k,Instr.sameBits 10000 (.agg (enc k).toArray) (.agg (enc k).toArray)=true):KeyT P kt (fun x => .agg (enc x).toArray) where
 chk:=hchk
 find k es ks w hk:=by
  unfold Instr.findKey
  simp only[Sem.run_bind,run_underlying hd,Result.andThen_ok]
  cases es with
  | nil=>cases ks with
   | nil=>simp[Instr.findNow]
   | cons=>simp at hk
  | cons e es=>cases ks with
   | nil=>simp at hk
   | cons k' ks=>
    have h0:Instr.findNow dd (.agg (enc k).toArray) (e::es) 0=none:=by
     unfold Instr.findNow
     simp only[List.map_cons,List.cons.injEq] at hk
     rw[hk.1,hs]
    rw[h0]
    have:=nK (P:=P) (kt:=kt) (ek:=fun x=>Value.agg (enc x).toArray) zy k (e::es) (k'::ks) 0 w hk
    simpa using this
 stays k w:=by simp[Instr.keyThatStays,EL]
end
end Sep

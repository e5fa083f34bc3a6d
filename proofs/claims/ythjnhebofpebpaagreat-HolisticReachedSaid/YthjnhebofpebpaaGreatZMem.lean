/- A part of this claim's proof: memory that is never written again, as a pool of blocks. No conditions. -/
import Derived.Test.YthjnhebofpebpaaGreatSepTail
import Derived.Laws.MakeOwn
import Derived.RangeFuncLeaves
import Derived.Lib.AppendZeros
import Derived.Shelf.SlSortCmp.PdqK
set_option linter.all false
namespace Sep
open Go Go.RowKit
section
variable {cs ds:List Value}{w:World}{α:Type}{sz:Nat}{A:Addr}{x:Asrt}
variable [Rnd]
abbrev Zp:=List (Nat×Obj)
def pV(Z:Zp)(w:World):Prop:=∀ p∈Z,w.heap[p.1]?=some p.2
def PZ(F:List Nat)(Nx:World)(Z:Zp):Prop:=pV Z Nx/\∀ p∈Z,p.1∉F
def fz(Z:Zp):Asrt where
 fp:=Z.map (·.1)
 ok w:=pV Z w
 loc w w' h hl hk:=fun p hp=>by rw[h p.1 (List.mem_map.2 ⟨p,hp,rfl⟩) (hl p.1 (List.mem_map.2 ⟨p,hp,rfl⟩))];exact hk p hp
def ZC(Z:Zp)(A:Addr)(cs:List Value):Prop:=∀ w,pV Z w->∀ j u,cs[j]?=some u->w.cell? (A.add j)=some u
def xE(Z Z':Zp):Prop:=∀ w,pV Z' w->pV Z w
def ZA(Z:Zp)(x:Asrt):Prop:=∀ w,pV Z w->x.ok w
theorem xE.refl(Z:Zp):xE Z Z:=fun _ h=>h
theorem xE.trans{a b c:Zp}(h:xE a b)(k:xE b c):xE a c:=fun w hw=>h w (k w hw)
theorem xE.left(a b:Zp):xE a (a++b):=fun _ h p hp=>h p (List.mem_append_left _ hp)
theorem zl{a b:Zp}:xE a (a++b):=xE.left a b
theorem xE.right(a:Zp){b:Zp}:xE b (a++b):=fun _ h p hp=>h p (List.mem_append_right _ hp)
theorem pV.app{a b:Zp}(h:pV a w)(k:pV b w):pV (a++b) w:=fun p hp=>(List.mem_append.1 hp).elim (h p) (k p)
theorem pV.nil(w:World):pV [] w:=fun _ h=>by cases h
theorem xE.app{a b c:Zp}(h:xE b c):xE (a++b) (a++c):=fun w hw=>((xE.left a c) w hw).app (h w ((xE.right a (b:=c)) w hw))
theorem ZC.mono{Z Z':Zp}(h:ZC Z A cs)(k:xE Z Z'):ZC Z' A cs:=fun w hw=>h w (k w hw)
theorem ZA.mono{Z Z':Zp}(h:ZA Z x)(k:xE Z Z'):ZA Z' x:=fun w hw=>h w (k w hw)
def PV(F:List Nat)(Nx:World)(L:List Asrt)(Z:Zp):Prop:=∀ w,Hp F Nx w L->pV Z w
section
variable {F:List Nat} {Nx:World} {L Lc Lr R R':List Asrt} {Z Zn:Zp}
theorem pV.lt(h:pV Z w):∀ p∈Z,p.1<w.heap.size:=fun p hp=>(Array.getElem?_eq_some_iff.1 (h p hp)).1
theorem PZ.pv(h:PZ F Nx Z):PV F Nx L Z:=fun w hp p hpz=>by
 rw[hp.block p.1 (h.1.lt p hpz) (h.2 p hpz)];exact h.1 p hpz
theorem PZ.pv2(h:PZ F Nx Z)(hm:Pick L (fz Zn) R):PV F Nx L (Z++Zn):=fun w hp=>(h.pv w hp).app (hp.ok _ hm.mem)
theorem PZ.call(h:PZ F Nx Z)(hp:Hp F Nx w L)(hs:Sel L Lc Lr):PZ (fps Lc) w Z:=
 ⟨h.pv w hp,fun p hpz hb=>by
  obtain⟨x,hx,Ae⟩:=hs.fps _ hb
  rcases hp.ow x hx _ Ae with h1 | h1
  ·exact h.2 p hpz h1
  ·have:=h.1.lt p hpz;omega⟩
theorem Hp.apart(hp:Hp F Nx w L)(hs:Sel L Lc Lr)(hm:x∈Lr):∀ b∈x.fp,b∉fps Lc:=by
 intro b hb hc
 obtain⟨y,hy,t8⟩:=List.mem_flatMap.1 hc
 have h0:(Lc++Lr).Pairwise fun x y=>∀ b∈x.fp,b∉y.fp:=
  (List.Perm.pairwise_iff (fun {x y} hxy b hb hc=>hxy b hc hb) hs.perm).1 hp.sep
 exact(List.pairwise_append.1 h0).2.2 y hy _ hm b t8 hb
theorem PZ.call2(h:PZ F Nx Z)(hp:Hp F Nx w L)(hs:Sel L Lc Lr)(hm:Pick Lr (fz Zn) R):PZ (fps Lc) w (Z++Zn):=by
 have h1:=h.call hp hs
 refine⟨h1.1.app (hp.ok _ (hs.memr hm.mem)),fun p hpz=>?_⟩
 rcases List.mem_append.1 hpz with hpz | hpz
 ·exact h1.2 p hpz
 ·exact hp.apart hs hm.mem _ (List.mem_map.2 ⟨p,hpz,rfl⟩)
def iK(w:World)(bs:List Nat):Zp:=bs.filterMap fun b=>(w.heap[b]?).map fun o=>(b,o)
theorem Wv{w:World}{bs:List Nat}:pV (iK w bs) w:=by
 intro p hp
 obtain⟨b,_,hb⟩:=List.mem_filterMap.1 hp
 simp only[Option.map_eq_some_iff] at hb
 obtain⟨o,ho,rfl⟩:=hb
 exact ho
theorem em{bs:List Nat}{p:Nat×Obj}(hp:p∈iK w bs):p.1∈bs:=by
 obtain⟨b,hb,hq⟩:=List.mem_filterMap.1 hp
 simp only[Option.map_eq_some_iff] at hq
 obtain⟨o,ho,rfl⟩:=hq
 exact hb
theorem eu{w':World}{bs:List Nat}{b:Nat}(h:pV (iK w bs) w')(hb:b∈bs)(hl:b<w.heap.size):w'.heap[b]?=w.heap[b]?:=by
 have h1:w.heap[b]?=some w.heap[b]:=Array.getElem?_eq_getElem hl
 rw[h1]
 exact h (b,w.heap[b]) (List.mem_filterMap.2 ⟨b,hb,by rw[h1];rfl⟩)
theorem PZ.lend{B:List Asrt}(h:PZ (fps Lc) w Z)(hp:Hp F Nx w L)(hs:Sel L Lc Lr)(hb:∀ x∈B,x∈Lr):PZ (fps Lc) w (Z++iK w (fps B)):=by
 refine⟨h.1.app (Wv),fun p hpz=>?_⟩
 rcases List.mem_append.1 hpz with hpz | hpz
 ·exact h.2 p hpz
 ·obtain⟨x,hx,Ae⟩:=List.mem_flatMap.1 (em hpz)
  exact hp.apart hs (hb x hx) _ Ae
theorem Hp.lent{B:List Asrt}(hp:Hp F Nx w L)(hs:Sel L Lc Lr)(hb:∀ x∈B,x∈Lr)(hx:x∈B)(Z:Zp):ZA (Z++iK w (fps B)) x:=by
 intro w' oN
 have h1:=(xE.right Z) w' oN
 have hm:=hs.memr (hb x hx)
 exact x.loc w w' (fun b Ae hl=>eu h1 (List.mem_flatMap.2 ⟨x,hx,Ae⟩) hl) (hp.lt x hm) (hp.ok x hm)
theorem Hp.pool(h:Hp F Nx w L):Hp F Nx w (fz []::L):=
 h.add (pV.nil w) (by simp[fz]) (by simp[fz]) (by simp[fz])
theorem Sel.ad{α:Type}(x y:α):∀ R:List α,Sel (x::y::R) R [x,y]
 | [] => .nil
 | z::R => .cons (.there (.there .here)) (Sel.ad x y R)
theorem Hp.freeze(hm:Pick L x R)(hz:Pick R (fz Zn) R')(h:Hp F Nx w L):∃ jt,xE Zn jt/\ZA jt x/\Hp F Nx w (fz jt::R'):=by
 have h1:Hp F Nx w (x::fz Zn::R'):=h.sub (.cons hm (.cons hz .all))
 have hx:=h1.lt x (by simp)
 refine⟨iK w x.fp++Zn,xE.right _,fun w' oN=>?_,?_⟩
 ·exact x.loc w w' (fun b hb hl=>eu ((xE.left _ _) w' oN) hb hl) hx (h1.ok x (by simp))
 ·have hR:=h1.sub (L':=R') (M:=x::fz Zn::[]) ?_
  ·refine hR.add (x:=fz (iK w x.fp++Zn)) ((Wv).app (h1.ok (fz Zn) (by simp))) ?_ ?_ ?_
   all_goals
    simp only[fz,List.map_append,List.mem_append]
   ·rintro b (hb | hb)
    ·obtain⟨p,hp,rfl⟩:=List.mem_map.1 hb
     exact hx _ (em hp)
    ·exact h1.lt (fz Zn) (by simp) b hb
   ·rintro b (hb | hb)
    ·obtain⟨p,hp,rfl⟩:=List.mem_map.1 hb
     exact h1.ow x (by simp) _ (em hp)
    ·exact h1.ow (fz Zn) (by simp) b hb
   ·rintro y hy b (hb | hb) hc
    ·obtain⟨p,hp,rfl⟩:=List.mem_map.1 hb
     exact(List.pairwise_cons.1 h1.sep).1 y (by simp[hy]) _ (em hp) hc
    ·exact(List.pairwise_cons.1 (List.pairwise_cons.1 h1.sep).2).1 y hy b hb hc
  ·exact Sel.ad x (fz Zn) R'
theorem Hp.merge{Z1 Z2:Zp}(hm:Pick L (fz Z1) R)(hz:Pick R (fz Z2) R')(h:Hp F Nx w L):Hp F Nx w (fz (Z2++Z1)::R'):=by
 have h1:Hp F Nx w (fz Z1::fz Z2::R'):=h.sub (.cons hm (.cons hz .all))
 have hR:=h1.sub (Sel.ad (fz Z1) (fz Z2) R')
 refine hR.add (x:=fz (Z2++Z1)) ((h1.ok (fz Z2) (by simp)).app (h1.ok (fz Z1) (by simp))) ?_ ?_ ?_
 all_goals simp only[fz,List.map_append,List.mem_append]
 ·rintro b (hb | hb)
  ·exact h1.lt (fz Z2) (by simp) b hb
  ·exact h1.lt (fz Z1) (by simp) b hb
 ·rintro b (hb | hb)
  ·exact h1.ow (fz Z2) (by simp) b hb
  ·exact h1.ow (fz Z1) (by simp) b hb
 ·rintro y hy b (hb | hb) hc
  ·exact(List.pairwise_cons.1 (List.pairwise_cons.1 h1.sep).2).1 y hy b hb hc
  ·exact(List.pairwise_cons.1 h1.sep).1 y (by simp[hy]) b hb hc
end
theorem ZC.sub{Z:Zp}(h:ZC Z A cs)(k:Nat):ZC Z (A.add k) (cs.drop k):=
 fun w hw j u hu=>by rw[Addr.po];exact h w hw _ _ (by simpa using hu)
theorem ZC.pre{Z:Zp}(h:ZC Z A (cs++ds)):ZC Z A cs:=
 fun w hw j u hu=>h w hw j u (by
  have hj:j<cs.length:=(List.getElem?_eq_some_iff.1 hu).1
  rw[List.getElem?_append_left hj];exact hu)
theorem ZA.stb{Z:Zp}{b:Nat}{T:TypeId}{cs:List Value}(h:ZA Z (stb b T cs)):ZC Z ⟨b,0,none⟩ cs:=by
 intro w hw j u hu
 have:=dt.1 (h w hw)
 rw[Addr.add_lit,cell_of_row w b _ _ T (0,0) this]
 simpa using hu
section
variable {F:List Nat} {Nx:World} {L R:List Asrt} {Z:Zp} {v:Value}
theorem kN(pv:PV F Nx L Z)(hc:ZC Z A cs)[hv:Nu cs[0]? (some v)]:∀ w,Hp F Nx w L->w.cell? A=some v:=by
 intro w h
 have:=hc w (pv w h) 0 v hv.1
 simpa [Addr.add] using this
theorem wq{k:Nat}(pv:PV F Nx L Z)(hc:ZC Z A cs)[hv:Nu cs[k]? (some v)]:∀ w,Hp F Nx w L->w.cell? (A.add k)=some v:=
 fun w h=>hc w (pv w h) k v hv.1
theorem qx(pv:PV F Nx L Z)(hc:ZC Z A cs):∀ w,Hp F Nx w L->∀ j u,cs[j]?=some u->w.cell? (A.add j)=some u:=fun w h=>hc w (pv w h)
theorem dw{off s:Nat}(pv:PV F Nx L Z)(hc:ZC Z A cs)(hd:(cs.drop off).take s=ds):∀ w,Hp F Nx w L->∀ j u,ds[j]?=some u->w.cell? ((A.add off).add j)=some u:=by
 subst hd
 intro w h j u hu
 refine(hc.sub off) w (pv w h) j u ?_
 rw[List.getElem?_take] at hu
 split at hu
 ·exact hu
 ·cases hu
end
def RR{α:Type}(sz:Nat)(Pr:List Value->α->Prop)(cs:List Value)(l:List α):Prop:=
 ∃ rows:List (List Value),rows.flatten=cs/\(∀ r∈rows,r.length=sz)/\rows.length=l.length/\∀(i:Nat) (r:List Value) (x:α),rows[i]?=some r->l[i]?=some x->Pr r x
def ZS{α:Type}(Z:Zp)(sz:Nat)(Pr:List Value->α->Prop)(ao:Option Addr)(cap:Nat)(l:List α):Prop:=
 l.length<=cap/\cap<=maxLen/\∃ cs,RR sz Pr cs l/\(l≠[]->∃ A,ao=some A/\ZC Z A cs)
theorem ZS.nil(Z:Zp)(sz:Nat)(Pr:List Value->α->Prop):ZS Z sz Pr none 0 []:=
 ⟨by simp,by simp,[],⟨[],rfl,by simp,rfl,by simp⟩,fun h=>absurd rfl h⟩
theorem ZS.mono{α:Type}{Z Z':Zp}{sz:Nat}{Pr:List Value->α->Prop}{ao:Option Addr}{cap:Nat}{l:List α}(h:ZS Z sz Pr ao cap l)(k:xE Z Z'):ZS Z' sz Pr ao cap l:=by
 obtain⟨h1,h2,cs,h3,h4⟩:=h
 exact⟨h1,h2,cs,h3,fun oM=>let ⟨A,hA,hc⟩:=h4 oM;⟨A,hA,hc.mono k⟩⟩
theorem RR.weak{Pr Pr':List Value->α->Prop}{l:List α}(h:RR sz Pr cs l)(k:∀ r x,Pr r x->Pr' r x):RR sz Pr' cs l:=by
 obtain⟨rows,h1,h2,h3,h4⟩:=h
 exact⟨rows,h1,h2,h3,fun i r x hr hx=>k r x (h4 i r x hr hx)⟩
theorem ZS.weak{α:Type}{Z:Zp}{sz:Nat}{Pr Pr':List Value->α->Prop}{ao:Option Addr}{cap:Nat}{l:List α}(h:ZS Z sz Pr ao cap l)(k:∀ r x,Pr r x->Pr' r x):ZS Z sz Pr' ao cap l:=by
 obtain⟨h1,h2,cs,h3,h4⟩:=h
 exact⟨h1,h2,cs,h3.weak k,h4⟩
theorem RR.flat{enc:α->List Value}{l:List α}(hl:∀ x,(enc x).length=sz:=by exact fun _=>U):RR sz (fun r x=>r=enc x) (l.flatMap enc) l:=by
 refine⟨l.map enc,by rw[List.flatMap_def],?_,by simp,?_⟩
 ·intro r hr;obtain⟨x,_,rfl⟩:=List.mem_map.1 hr;exact hl x
 ·intro i r x hr hx
  rw[List.getElem?_map,hx] at hr
  simpa using hr.symm
theorem RR.toFlat{enc:α->List Value}{l:List α}(h:RR sz (fun r x=>r=enc x) cs l):cs=l.flatMap enc:=by
 obtain⟨rows,h1,h2,h3,h4⟩:=h
 have hr:rows=l.map enc:=by
  apply List.ext_getElem?
  intro i
  rw[List.getElem?_map]
  cases hx:l[i]? with
  | none=>
   have:rows[i]?=none:=by rw[List.getElem?_eq_none_iff] at hx ⊢;omega
   simp[this]
  | some x=>
   have nS:i<rows.length:=by have:=(List.getElem?_eq_some_iff.1 hx).1;omega
   have:=h4 i _ x (List.getElem?_eq_getElem nS) hx
   rw[List.getElem?_eq_getElem nS,this];rfl
 rw[<- h1,hr,List.flatMap_def]
theorem RR.nil(sz:Nat)(Pr:List Value->α->Prop):RR sz Pr [] []:=⟨[],rfl,by simp,rfl,by simp⟩
theorem RR.one{Pr:List Value->α->Prop}{r:List Value}{x:α}(hl:r.length=sz)(h:Pr r x):RR sz Pr r [x]:=
 ⟨[r],by simp,by simpa using hl,rfl,fun i r' x' hr hx=>by
  cases i with
  | zero=>simp at hr hx;subst hr hx;exact h
  | succ i=>simp at hr⟩
theorem RR.cons{Pr:List Value->α->Prop}{r:List Value}{x:α}{l:List α}(hl:r.length=sz)(h:Pr r x)(t:RR sz Pr cs l):RR sz Pr (r++cs) (x::l):=by
 obtain⟨rows,h1,h2,h3,h4⟩:=t
 refine⟨r::rows,by simp[h1],?_,by simp[h3],?_⟩
 ·intro r' hr;rcases List.mem_cons.1 hr with rfl | hr
  ·exact hl
  ·exact h2 r' hr
 ·intro i r' x' hr hx
  cases i with
  | zero=>simp at hr hx;subst hr hx;exact h
  | succ i=>exact h4 i r' x' (by simpa using hr) (by simpa using hx)
theorem RR.app{Pr:List Value->α->Prop}{l m:List α}(h:RR sz Pr cs l)(k:RR sz Pr ds m):RR sz Pr (cs++ds) (l++m):=by
 obtain⟨r1,a1,a2,a3,a4⟩:=h
 obtain⟨r2,b1,b2,b3,b4⟩:=k
 refine⟨r1++r2,by simp[a1,b1],?_,by simp[a3,b3],?_⟩
 ·intro r hr;rcases List.mem_append.1 hr with hr | hr
  ·exact a2 r hr
  ·exact b2 r hr
 ·intro i r x hr hx
  by_cases hi:i<r1.length
  ·rw[List.getElem?_append_left hi] at hr
   rw[List.getElem?_append_left (by omega)] at hx
   exact a4 i r x hr hx
  ·rw[List.getElem?_append_right (by omega)] at hr
   rw[List.getElem?_append_right (by omega)] at hx
   exact b4 _ r x hr (by rw[a3];exact hx)
theorem RR.len{Pr:List Value->α->Prop}{l:List α}(h:RR sz Pr cs l):cs.length=l.length*sz:=by
 obtain⟨rows,h1,h2,h3,h4⟩:=h
 rw[<- h1,<- h3]
 clear h1 h3 h4
 induction rows with
 | nil=>simp
 | cons r rs ih=>rw[List.flatten_cons,List.length_append,h2 r (by simp),ih (fun r hr=>h2 r (List.mem_cons_of_mem _ hr)),List.length_cons,Nat.succ_mul,Nat.add_comm]
theorem RR.elem[Inhabited α]{Pr:List Value->α->Prop}{l:List α}(h:RR sz Pr cs l){i:Int}(h0:0<=i)(h1:i<l.length):
  ∃ r tl,r.length=sz/\cs.drop (i.toNat*sz)=r++tl/\Pr r (nth l i):=by
 obtain⟨rows,a1,a2,a3,a4⟩:=h
 have Bp:i.toNat<rows.length:=by omega
 have hr:rows[i.toNat]?=some rows[i.toNat]:=List.getElem?_eq_getElem Bp
 obtain⟨tl,ht⟩:=iX a2 hr
 refine⟨rows[i.toNat],tl,a2 _ (List.getElem_mem Bp),by rw[<- a1];exact ht,?_⟩
 rw[<- sj h0 h1]
 exact a4 _ _ _ hr (List.getElem?_eq_getElem (by omega))
theorem ZS.elem{α:Type}[Inhabited α]{Z:Zp}{sz:Nat}{Pr:List Value->α->Prop}{ao:Option Addr}{cap:Nat}{l:List α}(h:ZS Z sz Pr ao cap l){i:Int}(h0:0<=i)(h1:i<l.length):
  ∃ A r,ao=some A/\ZC Z (A.add (i.toNat*sz)) r/\r.length=sz/\Pr r (nth l i):=by
 obtain⟨_,_,cs,h3,h4⟩:=h
 obtain⟨A,hA,hc⟩:=h4 (by rintro rfl;simp at h1;omega)
 obtain⟨r,tl,hr,hd,hP⟩:=h3.elem h0 h1
 have h5:=hc.sub (i.toNat*sz)
 rw[hd] at h5
 exact⟨A,r,hA,h5.pre,hr,hP⟩
theorem ae{sz:Nat}:∀(rows:List (List Value)) (k:Nat),(∀ r∈rows,r.length=sz)->k<=rows.length->rows.flatten.drop (k*sz)=(rows.drop k).flatten
 | [],k,_,hk=>by simp at hk;subst hk;simp
 | r::rs,0,_,_=>by simp
 | r::rs,k+1,hr,hk=>by
  have h0:r.length=sz:=hr r (by simp)
  rw[List.flatten_cons,Nat.succ_mul,Nat.add_comm,<- h0,<- List.drop_drop,List.drop_left,h0]
  simpa using ae rs k (fun r h=>hr r (List.mem_cons_of_mem _ h)) (by simpa using hk)
theorem ZS.sub{α:Type}{Z:Zp}{sz:Nat}{Pr:List Value->α->Prop}{ao:Option Addr}{cap:Nat}{l:List α}(h:ZS Z sz Pr ao cap l){lo hi:Nat}(h1:lo<=hi)(h2:hi<=l.length):
  ZS Z sz Pr (if cap=lo then ao else ao.map (·.add (lo*sz))) (cap-lo) ((l.take hi).drop lo):=by
 obtain⟨g1,g2,cs,⟨rows,a1,a2,a3,a4⟩,h4⟩:=h
 refine⟨by simp;omega,by omega,((rows.take hi).drop lo).flatten,⟨(rows.take hi).drop lo,rfl,?_,by simp[a3],?_⟩,?_⟩
 ·intro r hr;exact a2 r (List.mem_of_mem_take (List.mem_of_mem_drop hr))
 ·intro i r x hr hx
  simp only[List.getElem?_drop,List.getElem?_take] at hr hx
  split at hr
  ·rename_i nS;simp only[nS,if_true] at hx;exact a4 _ _ _ hr hx
  ·cases hr
 ·intro oM
  have nS:lo<hi:=by
   rcases Nat.lt_or_ge lo hi with h' | h'
   ·exact h'
   ·exact absurd (List.drop_eq_nil_of_le (by simp;omega)) oM
  obtain⟨A,rfl,hc⟩:=h4 (by rintro rfl;simp at h2;omega)
  have vL:cap≠lo:=by omega
  refine⟨A.add (lo*sz),by simp[vL],?_⟩
  have:=hc.sub (lo*sz)
  rw[<- a1,ae rows lo a2 (by omega)] at this
  have e:rows.drop lo=(rows.take hi).drop lo++rows.drop hi:=by
   rw[<- List.drop_append_of_le_length (by simp;omega),List.take_append_drop]
  rw[e,List.flatten_append] at this
  exact this.pre
theorem ZA.row{α:Type}{Z:Zp}{sz:Nat}{Pr:List Value->α->Prop}{ao:Option Addr}{cap:Nat}{e:TypeId}{cs:List Value}{l:List α}(h:ZA Z (row (.slice ao l.length cap) e sz cs))(hr:RR sz Pr cs l)(hw:∃ w,pV Z w):ZS Z sz Pr ao cap l:=by
 obtain⟨w,hw⟩:=hw
 obtain⟨n,h1,h2⟩:=h w hw
 rcases h2 with⟨hv,hn⟩ | ⟨b,li,kA,hv,_,hh,zr,zj,zU,Ap⟩
 ·injection hv with e1 e2 e3
  subst e1 e3
  have hl:l=[]:=List.eq_nil_of_length_eq_zero e2
  subst hl
  exact⟨by simp,by simp,cs,hr,fun oM=>absurd rfl oM⟩
 ·injection hv with e1 e2 e3
  subst e1 e3
  refine⟨by omega,zj,cs,hr,fun _=>⟨_,rfl,?_⟩⟩
  intro w' oN j u hu
  obtain⟨n',k1⟩:=h w' oN
  exact World.ownsRow.cells (g:=b) k1 rfl j u hu
end
section
variable {α A0 A1 A2 A3 A4:Type}{cs cs' r:List Value}{ao bo:Option Addr}{cap bb oO:Nat}{i:Int}{kk:IntKind}{w:World}{dty t':TypeId}{ex:Exit}
variable [Rnd]
def chk{R:Type}(p:Prop)[Decidable p](k:Option R):Option R:=if p then k else none
theorem xG{R:Type}{p:Prop}[Decidable p]{k:Option R}{r:R}(h:chk p k=some r):p/\k=some r:=by
 unfold chk at h;split at h
 ·exact⟨by assumption,h⟩
 ·cases h
theorem xL{R:Type}{p:Prop}[Decidable p]{k:Option R}(h:p):chk p k=k:=if_pos h
theorem za{A R:Type}{o:Option A}{F:A->Option R}{r:R}(h:o.bind F=some r):∃ x,o=some x/\F x=some r:=Option.bind_eq_some_iff.1 h
theorem qY{R:Type}{b:Bool}{x y:Option R}{r:R}(h:(if b=true then x else y)=some r)(hb:b=true):x=some r:=by rw[if_pos hb] at h;exact h
theorem qZ{R:Type}{b:Bool}{x y:Option R}{r:R}(h:(if b=true then x else y)=some r)(hb:b=false):y=some r:=by rw[if_neg (by rw[hb];exact Bool.false_ne_true)] at h;exact h
def mZ{R:Type}(K:Option R)(F:Option R->Option R):Option R:=F K
theorem qj{R:Type}{K:Option R}{F:Option R->Option R}{r:R}(h:mZ K F=some r):∃ k,k=K/\F k=some r:=⟨K,rfl,h⟩
def qI{R A0:Type}(K:A0->Option R)(F:(A0->Option R)->Option R):Option R:=F K
theorem wg{R:Type}{K:A0->Option R}{F:(A0->Option R)->Option R}{r:R}(h:qI K F=some r):∃ k:A0->Option R,(∀ x0,k x0=K x0)/\F k=some r:=⟨K,fun _=>rfl,h⟩
def sk{R A0 A1:Type}(K:A0->A1->Option R)(F:(A0->A1->Option R)->Option R):Option R:=F K
theorem jR{R:Type}{K:A0->A1->Option R}{F:(A0->A1->Option R)->Option R}{r:R}(h:sk K F=some r):∃ k:A0->A1->Option R,(∀ x0 x1,k x0 x1=K x0 x1)/\F k=some r:=⟨K,fun _ _=>rfl,h⟩
def Va{R A0 A1 A2:Type}(K:A0->A1->A2->Option R)(F:(A0->A1->A2->Option R)->Option R):Option R:=F K
theorem cC{R:Type}{K:A0->A1->A2->Option R}{F:(A0->A1->A2->Option R)->Option R}{r:R}(h:Va K F=some r):∃ k:A0->A1->A2->Option R,(∀ x0 x1 x2,k x0 x1 x2=K x0 x1 x2)/\F k=some r:=⟨K,fun _ _ _=>rfl,h⟩
def jp4{R A0 A1 A2 A3:Type}(K:A0->A1->A2->A3->Option R)(F:(A0->A1->A2->A3->Option R)->Option R):Option R:=F K
theorem YT{R:Type}{K:A0->A1->A2->A3->Option R}{F:(A0->A1->A2->A3->Option R)->Option R}{r:R}(h:jp4 K F=some r):∃ k:A0->A1->A2->A3->Option R,(∀ x0 x1 x2 x3,k x0 x1 x2 x3=K x0 x1 x2 x3)/\F k=some r:=⟨K,fun _ _ _ _=>rfl,h⟩
def jp5{R A0 A1 A2 A3 A4:Type}(K:A0->A1->A2->A3->A4->Option R)(F:(A0->A1->A2->A3->A4->Option R)->Option R):Option R:=F K
theorem YU{R:Type}{K:A0->A1->A2->A3->A4->Option R}{F:(A0->A1->A2->A3->A4->Option R)->Option R}{r:R}(h:jp5 K F=some r):∃ k:A0->A1->A2->A3->A4->Option R,(∀ x0 x1 x2 x3 x4,k x0 x1 x2 x3 x4=K x0 x1 x2 x3 x4)/\F k=some r:=⟨K,fun _ _ _ _ _=>rfl,h⟩
def jp6{R A0 A1 A2 A3 A4 A5:Type}(K:A0->A1->A2->A3->A4->A5->Option R)(F:(A0->A1->A2->A3->A4->A5->Option R)->Option R):Option R:=F K
theorem Mb{R A5:Type}{K:A0->A1->A2->A3->A4->A5->Option R}{F:(A0->A1->A2->A3->A4->A5->Option R)->Option R}{r:R}(h:jp6 K F=some r):∃ k:A0->A1->A2->A3->A4->A5->Option R,(∀ x0 x1 x2 x3 x4 x5,k x0 x1 x2 x3 x4 x5=K x0 x1 x2 x3 x4 x5)/\F k=some r:=⟨K,fun _ _ _ _ _ _=>rfl,h⟩
def xR:Nat:=18446744073709551616
theorem wi:xR=18446744073709551616:=rfl
def i64(x:Int):Int:=IntKind.wrap .i64 x
def i16(x:Int):Int:=IntKind.wrap .i16 x
def i8(x:Int):Int:=IntKind.wrap .i8 x
def u64(x:Int):Int:=IntKind.wrap .u64 x
def u8(x:Int):Int:=IntKind.wrap .u8 x
theorem xQ{x:Int}(h : -9223372036854775808<=x/\x<=9223372036854775807):i64 x=x:=w64 h
section
variable {P:Program} {n:Nat} {F:List Nat} {Nx:World} {env:List (Nat×Value)} {L Lc Lr R R':List Asrt} {eA:Array Oper} {Q:Exit->Act->World->Prop} {eN l:List Oper}
 {dd:Nat} {d:Option Tmp} {ty:TypeId} {pos:String} {after:Array Edge} {g:Option (Nat×Bool)} {x y:Operand} {v u:Value} {t e T:TypeId} {sz sS:Nat} {Z Zn:Zp}
 {tl:Nat->Bool} {Ls:List Asrt} {fuel:Nat} {listed:Array Bool} {QD:Act->World->Prop}
theorem L2[Inhabited α]{Pr:List Value->α->Prop}{ls:List α}[hg:Nu (gd env eA ⟨some dd,.indexAddr t x y,ty,pos,after,g⟩) (some true)][eZ:Nu (Nat.blt dd n) true](ht:elT P t e sz sS)[hx:Nu (eo env x) (some (.slice ao ls.length cap))][hy:Nu (eo env y) (some (.int kk i))](hs:ZS Z sz Pr ao cap ls)(Ck:0<=i/\i<ls.length)(k:∀ A r,ZC Z A r->r.length=sz->Pr r (Sep.nth ls i)->WL P n F Nx eA Q eN ((dd,.pointer (some A))::env) L):
  WL P n F Nx eA Q (⟨some dd,.indexAddr t x y,ty,pos,after,g⟩::eN) env L:=by
 obtain⟨A,r,rfl,hc,hl,hp⟩:=hs.elem Ck.1 Ck.2
 exact Oh hg.1 rfl eZ.1 (w3 ht (hx:=⟨hx.1⟩) (hy:=⟨hy.1⟩) Ck.1 Ck.2 rfl) (k _ r hc hl hp)
theorem L5{j:Nat}[Inhabited α]{Pr:List Value->α->Prop}{ls:List α}[hi:Nu eA[j]? (some ⟨some dd,.indexAddr t x y,ty,pos,after,g⟩)][hg:Nu (gd env eA ⟨some dd,.indexAddr t x y,ty,pos,after,g⟩) (some true)][eZ:Nu (Nat.blt dd n) true](ht:elT P t e sz sS)[hx:Nu (eo env x) (some (.slice ao ls.length cap))][hy:Nu (eo env y) (some (.int kk i))](hs:ZS Z sz Pr ao cap ls)(Ck:0<=i/\i<ls.length)(k:∀ A r,ZC Z A r->r.length=sz->Pr r (Sep.nth ls i)->WD P n F Nx eA tl Ls QD fuel (listed.setIfInBounds j true) ((dd,.pointer (some A))::env) L)(zo:rW eA=true:=by kernel_rfl)(hr:(Region.ready .any eA listed).contains j=true:=by exact z2m)(hf:tG eA (fun _=>false) listed j=true:=by exact z2n):
  WD P n F Nx eA tl Ls QD (fuel+1) listed env L:=by
 obtain⟨A,r,rfl,hc,hl,hp⟩:=hs.elem Ck.1 Ck.2
 exact P0 zo hi.1 hr hf hg.1 rfl eZ.1 (fun _=>w3 ht (hx:=⟨hx.1⟩) (hy:=⟨hy.1⟩) Ck.1 Ck.2 rfl) (k _ r hc hl hp)
theorem Rj{Pr:List Value->α->Prop}{ls Dq:List α}{lo hi:Int}{lx hx':Option Operand}{lv hv:Option Value}(hg:gd env eA ⟨some dd,.slice t x lx hx' none,ty,pos,after,g⟩=some true)(eZ:Nat.blt dd n=true)(ht:elT P t e sz sS)(hx:eo env x=some (.slice ao ls.length cap))(hs:ZS Z sz Pr ao cap ls)(hl:∀ a w,SS n F Nx env L a w->lx.map a.eval=lv)(hh:∀ a w,SS n F Nx env L a w->hx'.map a.eval=hv)(Bi:match lv with | none=>lo=0 | some (.int _ q)=>q=lo | _=>False)(AC:match hv with | none=>hi=ls.length | some (.int _ q)=>q=hi | _=>False)(hb:0<=lo/\lo<=hi/\hi<=ls.length)(CW:Dq=(ls.take hi.toNat).drop lo.toNat)(k:∀ zM li,ZS Z sz Pr zM li Dq->WL P n F Nx eA Q eN ((dd,.slice zM Dq.length li)::env) L):
  WL P n F Nx eA Q (⟨some dd,.slice t x lx hx' none,ty,pos,after,g⟩::eN) env L:=by
 subst CW
 obtain⟨h0,h1,h2⟩:=hb
 have zr:=hs.1
 refine Oh hg rfl eZ (pK (lo:=lo.toNat) (hi:=hi.toNat) ht hx (lv:=lv) (hv:=hv) hl hh ?_ ?_ (fun _=>zr)) ?_
 ·split at Bi
  ·subst Bi;rfl
  ·subst Bi;simp;omega
  ·cases Bi
 ·split at AC
  ·subst AC;simp
  ·subst AC;simp;omega
  ·cases AC
 have h3:=hs.sub (lo:=lo.toNat) (hi:=hi.toNat) (by omega) (by omega)
 have h4:hi.toNat-lo.toNat=((ls.take hi.toNat).drop lo.toNat).length:=by simp;omega
 rw[h4]
 exact k _ _ h3
theorem Pi{j:Nat}{Pr:List Value->α->Prop}{ls Dq:List α}{lo hi:Int}{lx hx':Option Operand}{lv hv:Option Value}(zo:rW eA=true)(BF:eA[j]?=some ⟨some dd,.slice t x lx hx' none,ty,pos,after,g⟩)(hr:(Region.ready .any eA listed).contains j=true)(hf:tG eA (fun _=>false) listed j=true)(hg:gd env eA ⟨some dd,.slice t x lx hx' none,ty,pos,after,g⟩=some true)(eZ:Nat.blt dd n=true)(ht:elT P t e sz sS)(hx:eo env x=some (.slice ao ls.length cap))(hs:ZS Z sz Pr ao cap ls)(hl:∀ Nx a w,SS n [] Nx env [] a w->lx.map a.eval=lv)(hh:∀ Nx a w,SS n [] Nx env [] a w->hx'.map a.eval=hv)(Bi:match lv with | none=>lo=0 | some (.int _ q)=>q=lo | _=>False)(AC:match hv with | none=>hi=ls.length | some (.int _ q)=>q=hi | _=>False)(hb:0<=lo/\lo<=hi/\hi<=ls.length)(CW:Dq=(ls.take hi.toNat).drop lo.toNat)(k:∀ zM li,ZS Z sz Pr zM li Dq->WD P n F Nx eA tl Ls QD fuel (listed.setIfInBounds j true) ((dd,.slice zM Dq.length li)::env) L):
  WD P n F Nx eA tl Ls QD (fuel+1) listed env L:=by
 subst CW
 obtain⟨h0,h1,h2⟩:=hb
 have zr:=hs.1
 refine P0 zo BF hr hf hg rfl eZ (fun Nx=>pK (lo:=lo.toNat) (hi:=hi.toNat) ht hx (lv:=lv) (hv:=hv) (hl Nx) (hh Nx) ?_ ?_ (fun _=>zr)) ?_
 ·split at Bi
  ·subst Bi;rfl
  ·subst Bi;simp;omega
  ·cases Bi
 ·split at AC
  ·subst AC;simp
  ·subst AC;simp;omega
  ·cases AC
 have h3:=hs.sub (lo:=lo.toNat) (hi:=hi.toNat) (by omega) (by omega)
 have h4:hi.toNat-lo.toNat=((ls.take hi.toNat).drop lo.toNat).length:=by simp;omega
 rw[h4]
 exact k _ _ h3
theorem ixo{z:Operand}(h:eo env z=some v):∀ a w,SS n F Nx env L a w->(some z).map a.eval=some v:=fun a w hs=>by rw[Option.map_some,hs.eval h]
theorem ixn:∀ a w,SS n F Nx env L a w->(none:Option Operand).map a.eval=none:=fun _ _ _=>rfl
theorem T0{enc:α->List Value}{ls:List α}{sz':Nat}(pv:PV F Nx L Z)(h:ZS Z sz' (fun r x=>r=enc x) bo oO ls):
  ∀ w,Hp F Nx w L->ls.flatMap enc≠[]->∃ A,bo=some A/\∀ j u,(ls.flatMap enc)[j]?=some u->w.cell? (A.add j)=some u:=by
 intro w hw oM
 obtain⟨_,_,cs,h3,h4⟩:=h
 obtain⟨A,hA,hc⟩:=h4 (by rintro rfl;simp at oM)
 rw[h3.toFlat] at hc
 exact⟨A,hA,hc w (pv w hw)⟩
theorem kG{enc:α->List Value}{l1 l2:List α}{ve:List Value}(ht:elT P t e sz sS)[hx:Nu (eo env x) (some (.slice ao l1.length cap))][hy:Nu (eo env y) (some (.slice bo l2.length oO))](hm:Pick L (row (.slice ao l1.length cap) e sz cs) R)[Ci:Nu cs (l1.flatMap enc)][hn:Nu ve (l2.flatMap enc)](zz:∀ w,Hp F Nx w L->ve≠[]->∃ A,bo=some A/\∀ j u,ve[j]?=some u->w.cell? (A.add j)=some u)(h1:∀ u∈ve,u.oneCell'=true)(hb:((l1++l2).length:Int)*sS<=140737488355328/\((l1++l2).length:Int)<=4611686018427387904)(eW:∀ x,(enc x).length=sz:=by exact fun _=>U):
  Ef P n F Nx env L ⟨d,.call ⟨.builtin .append,#[x,y],#[t,t]⟩,dty,pos,after,g⟩ (fun _:Option Addr×Nat=>True) (fun p => .slice p.1 (l1++l2).length p.2) (fun p=>row (.slice p.1 (l1++l2).length p.2) e sz ((l1++l2).flatMap enc)::R):=by
 have hx:=hx.1
 have hy:=hy.1
 have Ci:=Ci.1
 have hn:=hn.1
 subst Ci hn
 have:=Ql (n:=n) (dty:=dty) (d:=d) (pos:=pos) (after:=after) (g:=g) ht hx hy hm (by rw[pp eW]) zz h1 (by simp[maxLen] at *;omega) (by rw[List.length_append] at hb;omega)
 rw[List.length_append,List.flatMap_append]
 exact this
theorem oz{Pr:List Value->α->Prop}{l1 l2:List α}{ve:List Value}(ht:elT P t e sz sS)[hx:Nu (eo env x) (some (.slice ao l1.length cap))][hy:Nu (eo env y) (some (.slice bo l2.length oO))](hm:Pick L (row (.slice ao l1.length cap) e sz cs) R)(hn:RR sz Pr ve l2)(zz:∀ w,Hp F Nx w L->ve≠[]->∃ A,bo=some A/\∀ j u,ve[j]?=some u->w.cell? (A.add j)=some u)(h1:∀ u∈ve,u.oneCell'=true)(hb:((l1++l2).length:Int)*sS<=140737488355328/\((l1++l2).length:Int)<=4611686018427387904):
  Ef P n F Nx env L ⟨d,.call ⟨.builtin .append,#[x,y],#[t,t]⟩,dty,pos,after,g⟩ (fun _:Option Addr×Nat=>True) (fun p => .slice p.1 (l1++l2).length p.2) (fun p=>row (.slice p.1 (l1++l2).length p.2) e sz (cs++ve)::R):=by
 have hx:=hx.1
 have hy:=hy.1
 have:=Ql (n:=n) (dty:=dty) (d:=d) (pos:=pos) (after:=after) (g:=g) ht hx hy hm hn.len zz h1 (by simp[maxLen] at *;omega) (by rw[List.length_append] at hb;omega)
 rw[List.length_append]
 exact this
theorem oR{l:List α}{z0:α}(h:0<=i/\i<=l.length):(l.take i.toNat++List.replicate (l.length-i.toNat) z0).length=l.length:=by
 simp;omega
theorem Pa{enc:α->List Value}{ls:List α}{hx':Operand}(hg:gd env eA ⟨some dd,.slice t x none (some hx') none,ty,pos,after,g⟩=some true)(eZ:Nat.blt dd n=true)(ht:elT P t e sz sS)(hx:eo env x=some (.slice ao ls.length cap))(hh:eo env hx'=some (.int kk i))(hm:Pick L (row (.slice ao ls.length cap) e sz (ls.flatMap enc)) R)(hi:0<=i/\i<=ls.length)(k:∀ zM li,WL P n F Nx eA Q eN ((dd,.slice zM (ls.take i.toNat).length li)::env) (row (.slice zM (ls.take i.toNat).length li) e sz ((ls.take i.toNat).flatMap enc)::R))(hl:∀ x,(enc x).length=sz:=by exact fun _=>U):
  WL P n F Nx eA Q (⟨some dd,.slice t x none (some hx') none,ty,pos,after,g⟩::eN) env L:=by
 have eW:(ls.take i.toNat).length=i.toNat:=by simp;omega
 refine N4 (fun w h=>h.rowShape hm) fun hs=>?_
 obtain⟨vL,AW,D1,hs | ⟨b,rfl⟩⟩:=hs
 ·obtain⟨rfl,h0,rfl⟩:=hs
  have Dr:ls=[]:=List.eq_nil_of_length_eq_zero h0
  subst Dr
  refine Oh hg rfl eZ (pK (lo:=0) (hi:=0) ht hx (lv:=none) (hv:=some (.int kk i)) (fun _ _ _=>rfl) (fun a w h=>by rw[Option.map_some,h.eval hh]) rfl (by simp at hi;omega) (by simp)) ?_
  intro a w h
  have:=k none 0 a w
  simp only[List.take_nil,List.length_nil,List.flatMap_nil] at this
  exact this (h.world (h.hp.front hm))
 ·refine O8 (i:=i.toNat) hg eZ ht hx hh hm (by omega) (by omega) ?_
  rw[bF hl ls _ (by omega)]
  have:=k (some ⟨b,0,none⟩) cap
  rw[eW] at this
  exact this
theorem Po{ls:List α}{lx:Operand}(hg:gd env eA ⟨some dd,.slice t x (some lx) none none,ty,pos,after,g⟩=some true)(eZ:Nat.blt dd n=true)(ht:elT P t e sz sS)(hx:eo env x=some (.slice ao ls.length cap))(hh:eo env lx=some (.int kk i))(hm:Pick L (row (.slice ao ls.length cap) e sz cs) R)(hi:0<=i/\i<=ls.length)(k:∀ zM c,zM=(if cap=i.toNat then ao else ao.map (·.add (i.toNat*sz)))->WL P n F Nx eA Q eN ((dd,.slice zM (ls.length-i.toNat) c)::env) L):
  WL P n F Nx eA Q (⟨some dd,.slice t x (some lx) none none,ty,pos,after,g⟩::eN) env L:=by
 refine N4 (fun w h=>h.rowShape hm) fun hs=>?_
 obtain⟨vL,AW,D1,_⟩:=hs
 exact Oh hg rfl eZ (pK (lo:=i.toNat) (hi:=ls.length) ht hx (lv:=some (.int kk i)) (hv:=none) (fun a w h=>by rw[Option.map_some,h.eval hh]) (fun _ _ _=>rfl) (by simp;omega) rfl (h2:=AW) (fun _=>AW)) (k _ _ rfl)
theorem ah{enc:α->List Value}{z0:α}{l:List α}{c:Nat}{zM:Option Addr}{z:Value}(ht:elT P t e sz sS)(hz:qw P e z)(hx:eo env x=some (.slice zM (l.length-i.toNat) c))(hao:zM=(if cap=i.toNat then ao else ao.map (·.add (i.toNat*sz))))(hi:0<=i/\i<=l.length)(hl:∀ x,(enc x).length=sz)(hzc:z.cells=(enc z0).toArray)(ho:∀ x,∀ u∈enc x,u.oneCell'=true)(hm:Pick L (row (.slice ao l.length cap) e sz (l.flatMap enc)) R)(iL:0<sz:=by decide):
  nZ P n F Nx env L ⟨none,.call ⟨.builtin .clear,#[x],#[t]⟩,ty,pos,after,g⟩ (row (.slice ao l.length cap) e sz ((l.take i.toNat++List.replicate (l.length-i.toNat) z0).flatMap enc)::R):=by
 intro a w h
 obtain⟨vL,AW,D1,hs⟩:=h.hp.rowShape hm
 rcases hs with⟨rfl,h0,rfl⟩ | ⟨b,rfl⟩
 ·have Dr:l=[]:=List.eq_nil_of_length_eq_zero h0
  subst Dr
  have hx':eo env x=some (.slice zM 0 c):=by rw[hx];simp
  refine⟨w,.inr ⟨.tuple #[],?_⟩,by simpa using h.hp.front hm⟩
  cases zM <;> simp[execOp,h.eval hx',resolve,invoke,builtin,Builtin.clear_,run_underlying ht.sl]
 ·exact Yu ht hz hx hao (by omega) (Kt hl iL hzc ho) hm (G6 hl iL hzc (by omega)) a w h
theorem Mc(r:List α){sz:Nat}(hl:r.length=sz){n m:Nat}(h:n<=m):((List.replicate m r).flatten).take (n*sz)=(List.replicate n r).flatten:=by
 obtain⟨d,rfl⟩:∃ d,m=n+d:=⟨m-n,by omega⟩
 rw[<- List.replicate_append_replicate,List.flatten_append]
 have e:(List.replicate n r).flatten.length=n*sz:=by simp[hl]
 rw[<- e,List.take_left]
theorem VY{zc:Array Value}(iL:0<r.length)(hz:zc=r.toArray)(k:Nat):(Builtin.zeroCells zc k).toList=(List.replicate k r).flatten:=by
 have h:=pL (α:=Unit) (enc:=fun _=>r) (sz:=r.length) (z0:=()) (zc:=zc) (fun _=>rfl) iL hz k
 rw[h]
 induction k with
 | zero=>rfl
 | succ k ih=>rw[List.replicate_succ,List.flatMap_cons,List.replicate_succ,List.flatten_cons];congr 1;exact ih (pL (α:=Unit) (enc:=fun _=>r) (sz:=r.length) (z0:=()) (zc:=zc) (fun _=>rfl) iL hz k)
theorem RR.repl{α:Type}{sz:Nat}{Pr:List Value->α->Prop}{r:List Value}{x:α}(hl:r.length=sz)(h:Pr r x):∀ n:Nat,RR sz Pr (List.replicate n r).flatten (List.replicate n x)
 | 0=>RR.nil _ _
 | n+1=>by rw[List.replicate_succ,List.replicate_succ,List.flatten_cons];exact RR.cons hl h (RR.repl hl h n)
theorem JY{z0:α}{z:Value}{kl kc:IntKind}{ln c:Int}(ht:elT P t e sz sS)(hz:qw P e z)(hx:eo env x=some (.int kl ln))(hy:eo env y=some (.int kc c))(hl:r.length=sz)(hzc:z.cells=r.toArray)(hb:0<=ln/\ln<=c/\c*sS<=140737488355328/\c<=4611686018427387904):
  nY P n F Nx env L ⟨d,.makeSlice t x y,dty,pos,after,g⟩ (fun _:Nat=>True) (fun b => .slice (some ⟨b,0,none⟩) (List.replicate ln.toNat z0).length c.toNat) (fun b=>row (.slice (some ⟨b,0,none⟩) (List.replicate ln.toNat z0).length c.toNat) e sz (List.replicate ln.toNat r).flatten::L):=by
 intro a w h
 obtain⟨h0,h1,h2,h3⟩:=hb
 obtain⟨inf,z',Cj,hz',iL,t8,Cb⟩:=ht.inf
 have hzz:z=z':=by
  have:=congrFun hz w
  simp[zeroValue,typeInfo,Cj,hz'] at this
  exact this.symm
 subst hzz
 have zN:=ht.pos
 have eT:=run_make (P:=P) w t e inf z ht.sl Cj hz' kl kc ln c h0 h1 (by rw[t8,Int.mul_comm];omega) (by omega)
 have Ds:madeCells z.cells (c.toNat*inf.size)=Builtin.zeroCells z.cells c.toNat:=by rw[iL,<- Cb];rfl
 refine⟨w.heap.size,w.alloc (.cells (Builtin.zeroCells z.cells c.toNat) e),?_,trivial,?_,.alloc _ _⟩
 ·simp only[execOp,h.eval hx,h.eval hy]
  rw[Ds] at eT
  simp[eT,List.length_replicate]
 ·refine(h.hp.ext (.alloc w _)).add ?_ (by simp[row,Value.ownBlock]) (by simp[row,Value.ownBlock,h.hp.size]) ?_
  ·refine⟨ln.toNat,by simp[hl],.inr ⟨w.heap.size,c.toNat,Builtin.zeroCells z.cells c.toNat,by simp,Nat.zero_le _,heap_alloc_new w _,by omega,by unfold maxLen;omega,by simp[Builtin.zeroCells,Cb],?_⟩⟩
   rw[VY (by omega) hzc,Mc r hl (by omega)]
  ·intro y hy b hb hc
   simp[row,Value.ownBlock] at hb
   have:=h.hp.lt y hy b hc
   omega
theorem Hp.freezeS{Pr:List Value->α->Prop}{ls:List α}(hm:Pick L (row (.slice ao ls.length cap) e sz cs) R)(hz:Pick R (fz Zn) R')(hp:PZ F Nx Z)(hr:RR sz Pr cs ls)(h:Hp F Nx w L):
  ∃ jt,xE (Z++Zn) (Z++jt)/\ZS (Z++jt) sz Pr ao cap ls/\Hp F Nx w (fz jt::R'):=by
 obtain⟨jt,h1,h2,h3⟩:=h.freeze hm hz
 refine⟨jt,h1.app,?_,h3⟩
 exact ZA.row (h2.mono (xE.right _)) hr ⟨w,(hp.pv w h3).app (h3.ok (fz jt) (by simp))⟩
theorem Hp.freezeC{b:Nat}(hm:Pick L (stb b T cs) R)(hz:Pick R (fz Zn) R')(h:Hp F Nx w L):
  ∃ jt,xE (Z++Zn) (Z++jt)/\ZC (Z++jt) ⟨b,0,none⟩ cs/\Hp F Nx w (fz jt::R'):=by
 obtain⟨jt,h1,h2,h3⟩:=h.freeze hm hz
 exact⟨jt,h1.app,(h2.mono (xE.right _)).stb,h3⟩
theorem PZ.now(h:PZ F Nx Z)(hp:Hp F Nx w L):PZ [] w Z:=⟨h.pv w hp,by simp⟩
theorem PZ.le{Z Z':Zp}(h:PZ [] w Z')(k:xE Z Z'):PZ [] w Z:=⟨k w h.1,by simp⟩
theorem ZC.part{Z:Zp}{A:Addr}{off s:Nat}{ds:List Value}(h:ZC Z A cs)(hd:(cs.drop off).take s=ds):ZC Z (A.add off) ds:=by
 subst hd
 intro w hw j u hu
 refine(h.sub off) w hw j u ?_
 rw[List.getElem?_take] at hu
 split at hu
 ·exact hu
 ·cases hu
theorem mS{enc:α->List Value}{sz k s:Nat}{l:List α}(h0:0<=i)(h1:i<l.length)(hl:∀ x,(enc x).length=sz:=by exact fun _=>U)(hk:k+s<=sz:=by decide):i.toNat*sz+k+s<=(l.flatMap enc).length:=by
 rw[pp hl]
 have h2:(i.toNat+1)*sz<=l.length*sz:=Nat.mul_le_mul_right _ (by omega)
 rw[Nat.succ_mul] at h2
 omega
theorem T1{a b:Bool}{t:TypeId}(ht:P.underlying t=some .bool)(hx:eo env x=some (.bool a))(hy:eo env y=some (.bool b)):Qt P n F Nx env L ⟨d,.binOp .neq t x y t',ty,pos,after,g⟩ (.bool (a != b)):=by
 intro a' w h;simp[execOp,h.eval hx,h.eval hy,eqGuard_at_bool,run_neq_bool w t a b ht];cases a <;> cases b <;> rfl
structure EqT {α:Type} [DecidableEq α] (P:Program) (t:TypeId) (enc:α->List Value):Prop where
 eq:∀(u v:α) (w:World),(Op.equalIn 10000 t (.agg (enc u).toArray) (.agg (enc v).toArray)).run P w = .ok (decide (u=v)) w
 guard:P.eqGuardType P.depth t=false
theorem lz[DecidableEq α]{enc:α->List Value}{a b:α}{t:TypeId}(ht:EqT P t enc)[hx:Nu (eo env x) (some (.agg (enc a).toArray))][hy:Nu (eo env y) (some (.agg (enc b).toArray))]:Qt P n F Nx env L ⟨d,.binOp .eql t x y t',ty,pos,after,g⟩ (.bool (decide (a=b))):=by
 intro a' w h;simp[execOp,h.eval hx.1,h.eval hy.1,run_eqGuard_agg w .eql t x y _ _ ht.guard,run_eql_struct,ht.eq a b w]
theorem ew[DecidableEq α]{enc:α->List Value}{a b:α}{t:TypeId}(ht:EqT P t enc)(hx:eo env x=some (.agg (enc a).toArray))(hy:eo env y=some (.agg (enc b).toArray)):Qt P n F Nx env L ⟨d,.binOp .neq t x y t',ty,pos,after,g⟩ (.bool (decide (a≠b))):=by
 intro a' w h;simp[execOp,h.eval hx,h.eval hy,run_eqGuard_agg w .neq t x y _ _ ht.guard,run_neq_struct,ht.eq a b w]
theorem Ua{tl:List Value}{k:Nat}(h:cs.drop k=r++tl):∀(j:Nat) (u:Value),r[j]?=some u->cs[k+j]?=some u:=by
 intro j u hu
 rw[<- List.getElem?_drop,h,List.getElem?_append_left (List.getElem?_eq_some_iff.1 hu).1]
 exact hu
theorem qB{m m':Nat}(h:m=m'):Value.slice ao m cap = .slice ao m' cap:=by rw[h]
theorem xE.wv{a b c:Zp}:xE ((a++b)++c) (a++(b++c)):=by rw[List.append_assoc];exact xE.refl _
theorem WL.freezeS{l:List Oper}{α:Type}{Pr:List Value->α->Prop}{ao:Option Addr}{cap:Nat}{cs:List Value}{ls:List α}(hm:Pick L (row (.slice ao ls.length cap) e sz cs) R)(hz:Pick R (fz Zn) R')(hp:PZ F Nx Z)(hr:RR sz Pr cs ls)(k:∀ jt,xE (Z++Zn) (Z++jt)->ZS (Z++jt) sz Pr ao cap ls->WL P n F Nx eA Q l env (fz jt::R')):WL P n F Nx eA Q l env L:=fun a w h=>by
 obtain⟨jt,h1,h2,h3⟩:=h.hp.freezeS hm hz hp hr
 exact k jt h1 h2 a w (h.world h3)
theorem WL.freezeC{l:List Oper}{bb:Nat}{cs:List Value}(hm:Pick L (stb bb T cs) R)(hz:Pick R (fz Zn) R')(k:∀ jt,xE (Z++Zn) (Z++jt)->ZC (Z++jt) ⟨bb,0,none⟩ cs->WL P n F Nx eA Q l env (fz jt::R')):WL P n F Nx eA Q l env L:=fun a w h=>by
 obtain⟨jt,h1,h2,h3⟩:=h.hp.freezeC hm hz
 exact k jt h1 h2 a w (h.world h3)
theorem WL.pool{l:List Oper}(k:WL P n F Nx eA Q l env (fz []::L)):WL P n F Nx eA Q l env L:=fun a w h=>k a w (h.world h.hp.pool)
theorem WL.merge{l:List Oper}{Z1 Z2:Zp}(hm:Pick L (fz Z1) R)(hz:Pick R (fz Z2) R')(k:WL P n F Nx eA Q l env (fz (Z2++Z1)::R')):WL P n F Nx eA Q l env L:=fun a w h=>k a w (h.world (h.hp.merge hm hz))
theorem Dy{l:List Oper}(hm:Pick L (row v e sz cs) R)(h:v=u)(k:WL P n F Nx eA Q l env (row u e sz cs::R)):WL P n F Nx eA Q l env L:=by
 subst h
 exact fun a w hs=>k a w (hs.world (hs.hp.front hm))
theorem N9{l:List Oper}(hm:Pick L (stb bb T cs) R)(h:cs=cs')(k:WL P n F Nx eA Q l env (stb bb T cs'::R)):WL P n F Nx eA Q l env L:=by
 subst h
 exact fun a w hs=>k a w (hs.world (hs.hp.front hm))
theorem L9{l:List Oper}{i:Nat}(hv:lk env i=some v)(h:v=u)(k:WL P n F Nx eA Q l ((i,u)::env) L):WL P n F Nx eA Q l env L:=by
 subst h
 refine fun a w hs=>k a w ⟨hs.defers,hs.size,fun j x hx=>?_,hs.hp⟩
 simp only[lk] at hx
 by_cases hj:j=i
 ·subst hj;simp at hx;subst hx;exact hs.ev _ _ hv
 ·rw[pm hj] at hx;exact hs.ev j x hx
theorem WC.freezeS{cc:Code}{α:Type}{Pr:List Value->α->Prop}{ao:Option Addr}{cap:Nat}{cs:List Value}{ls:List α}(hm:Pick L (row (.slice ao ls.length cap) e sz cs) R)(hz:Pick R (fz Zn) R')(hp:PZ F Nx Z)(hr:RR sz Pr cs ls)(k:∀ jt,xE (Z++Zn) (Z++jt)->ZS (Z++jt) sz Pr ao cap ls->WC P n F Nx Q cc env (fz jt::R')):WC P n F Nx Q cc env L:=fun a w h=>by
 obtain⟨jt,h1,h2,h3⟩:=h.hp.freezeS hm hz hp hr
 exact k jt h1 h2 a w (h.world h3)
theorem WC.freezeC{cc:Code}{bb:Nat}{cs:List Value}(hm:Pick L (stb bb T cs) R)(hz:Pick R (fz Zn) R')(k:∀ jt,xE (Z++Zn) (Z++jt)->ZC (Z++jt) ⟨bb,0,none⟩ cs->WC P n F Nx Q cc env (fz jt::R')):WC P n F Nx Q cc env L:=fun a w h=>by
 obtain⟨jt,h1,h2,h3⟩:=h.hp.freezeC hm hz
 exact k jt h1 h2 a w (h.world h3)
theorem WC.pool{cc:Code}(k:WC P n F Nx Q cc env (fz []::L)):WC P n F Nx Q cc env L:=fun a w h=>k a w (h.world h.hp.pool)
theorem WC.merge{cc:Code}{Z1 Z2:Zp}(hm:Pick L (fz Z1) R)(hz:Pick R (fz Z2) R')(k:WC P n F Nx Q cc env (fz (Z2++Z1)::R')):WC P n F Nx Q cc env L:=fun a w h=>k a w (h.world (h.hp.merge hm hz))
theorem Re{cc:Code}(hm:Pick L (row v e sz cs) R)(h:v=u)(k:WC P n F Nx Q cc env (row u e sz cs::R)):WC P n F Nx Q cc env L:=by
 subst h
 exact fun a w hs=>k a w (hs.world (hs.hp.front hm))
theorem Rb{cc:Code}(hm:Pick L (stb bb T cs) R)(h:cs=cs')(k:WC P n F Nx Q cc env (stb bb T cs'::R)):WC P n F Nx Q cc env L:=by
 subst h
 exact fun a w hs=>k a w (hs.world (hs.hp.front hm))
theorem Rd{cc:Code}{i:Nat}(hv:lk env i=some v)(h:v=u)(k:WC P n F Nx Q cc ((i,u)::env) L):WC P n F Nx Q cc env L:=by
 subst h
 refine fun a w hs=>k a w ⟨hs.defers,hs.size,fun j x hx=>?_,hs.hp⟩
 simp only[lk] at hx
 by_cases hj:j=i
 ·subst hj;simp at hx;subst hx;exact hs.ev _ _ hv
 ·rw[pm hj] at hx;exact hs.ev j x hx
theorem WX.freezeS{ex:Exit}{α:Type}{Pr:List Value->α->Prop}{ao:Option Addr}{cap:Nat}{cs:List Value}{ls:List α}(hm:Pick L (row (.slice ao ls.length cap) e sz cs) R)(hz:Pick R (fz Zn) R')(hp:PZ F Nx Z)(hr:RR sz Pr cs ls)(k:∀ jt,xE (Z++Zn) (Z++jt)->ZS (Z++jt) sz Pr ao cap ls->WX n F Nx Q ex env (fz jt::R')):WX n F Nx Q ex env L:=fun a w h=>by
 obtain⟨jt,h1,h2,h3⟩:=h.hp.freezeS hm hz hp hr
 exact k jt h1 h2 a w (h.world h3)
theorem WX.freezeC{ex:Exit}{bb:Nat}{cs:List Value}(hm:Pick L (stb bb T cs) R)(hz:Pick R (fz Zn) R')(k:∀ jt,xE (Z++Zn) (Z++jt)->ZC (Z++jt) ⟨bb,0,none⟩ cs->WX n F Nx Q ex env (fz jt::R')):WX n F Nx Q ex env L:=fun a w h=>by
 obtain⟨jt,h1,h2,h3⟩:=h.hp.freezeC hm hz
 exact k jt h1 h2 a w (h.world h3)
theorem WX.pool{ex:Exit}(k:WX n F Nx Q ex env (fz []::L)):WX n F Nx Q ex env L:=fun a w h=>k a w (h.world h.hp.pool)
theorem WX.merge{ex:Exit}{Z1 Z2:Zp}(hm:Pick L (fz Z1) R)(hz:Pick R (fz Z2) R')(k:WX n F Nx Q ex env (fz (Z2++Z1)::R')):WX n F Nx Q ex env L:=fun a w h=>k a w (h.world (h.hp.merge hm hz))
theorem P3(hm:Pick L (row v e sz cs) R)(h:v=u)(k:WX n F Nx Q ex env (row u e sz cs::R)):WX n F Nx Q ex env L:=by
 subst h
 exact fun a w hs=>k a w (hs.world (hs.hp.front hm))
theorem P1(hm:Pick L (stb bb T cs) R)(h:cs=cs')(k:WX n F Nx Q ex env (stb bb T cs'::R)):WX n F Nx Q ex env L:=by
 subst h
 exact fun a w hs=>k a w (hs.world (hs.hp.front hm))
theorem P2{i:Nat}(hv:lk env i=some v)(h:v=u)(k:WX n F Nx Q ex ((i,u)::env) L):WX n F Nx Q ex env L:=by
 subst h
 refine fun a w hs=>k a w ⟨hs.defers,hs.size,fun j x hx=>?_,hs.hp⟩
 simp only[lk] at hx
 by_cases hj:j=i
 ·subst hj;simp at hx;subst hx;exact hs.ev _ _ hv
 ·rw[pm hj] at hx;exact hs.ev j x hx
theorem WX.nilRow{ex:Exit}(e:TypeId)(sz:Nat)(k:WX n F Nx Q ex env (row (.slice none 0 0) e sz []::L)):WX n F Nx Q ex env L:=fun a w h=>k a w (h.world (h.hp.nilRow e sz))
theorem WD.freezeS{α:Type}{Pr:List Value->α->Prop}{ao:Option Addr}{cap:Nat}{cs:List Value}{ls:List α}(hm:Pick L (row (.slice ao ls.length cap) e sz cs) R)(hz:Pick R (fz Zn) R')(hp:PZ F Nx Z)(hr:RR sz Pr cs ls)(k:∀ jt,xE (Z++Zn) (Z++jt)->ZS (Z++jt) sz Pr ao cap ls->WD P n F Nx eA tl Ls QD fuel listed env (fz jt::R')):WD P n F Nx eA tl Ls QD fuel listed env L:=fun a w h=>by
 obtain⟨jt,h1,h2,h3⟩:=h.hp.freezeS hm hz hp hr
 exact k jt h1 h2 a w (h.world h3)
theorem WD.freezeC{bb:Nat}{cs:List Value}(hm:Pick L (stb bb T cs) R)(hz:Pick R (fz Zn) R')(k:∀ jt,xE (Z++Zn) (Z++jt)->ZC (Z++jt) ⟨bb,0,none⟩ cs->WD P n F Nx eA tl Ls QD fuel listed env (fz jt::R')):WD P n F Nx eA tl Ls QD fuel listed env L:=fun a w h=>by
 obtain⟨jt,h1,h2,h3⟩:=h.hp.freezeC hm hz
 exact k jt h1 h2 a w (h.world h3)
theorem WD.pool(k:WD P n F Nx eA tl Ls QD fuel listed env (fz []::L)):WD P n F Nx eA tl Ls QD fuel listed env L:=fun a w h=>k a w (h.world h.hp.pool)
theorem WD.merge{Z1 Z2:Zp}(hm:Pick L (fz Z1) R)(hz:Pick R (fz Z2) R')(k:WD P n F Nx eA tl Ls QD fuel listed env (fz (Z2++Z1)::R')):WD P n F Nx eA tl Ls QD fuel listed env L:=fun a w h=>k a w (h.world (h.hp.merge hm hz))
theorem N7(hm:Pick L (row v e sz cs) R)(h:v=u)(k:WD P n F Nx eA tl Ls QD fuel listed env (row u e sz cs::R)):WD P n F Nx eA tl Ls QD fuel listed env L:=by
 subst h
 exact fun a w hs=>k a w (hs.world (hs.hp.front hm))
theorem P9(hm:Pick L (stb bb T cs) R)(h:cs=cs')(k:WD P n F Nx eA tl Ls QD fuel listed env (stb bb T cs'::R)):WD P n F Nx eA tl Ls QD fuel listed env L:=by
 subst h
 exact fun a w hs=>k a w (hs.world (hs.hp.front hm))
theorem N3{i:Nat}(hv:lk env i=some v)(h:v=u)(k:WD P n F Nx eA tl Ls QD fuel listed ((i,u)::env) L):WD P n F Nx eA tl Ls QD fuel listed env L:=by
 subst h
 refine fun a w hs=>k a w ⟨hs.defers,hs.size,fun j x hx=>?_,hs.hp⟩
 simp only[lk] at hx
 by_cases hj:j=i
 ·subst hj;simp at hx;subst hx;exact hs.ev _ _ hv
 ·rw[pm hj] at hx;exact hs.ev j x hx
theorem Oo{G:Type}(φ:G->Prop)(eQ:G->List (Nat×Value))(LI:G->List Asrt){c:Code}(k1:WC P n F Nx (Exit.then (fun a w=>∃ g,φ g/\SS n F Nx (eQ g) (LI g) a w) Q) c env L)(k2:∀ g,φ g->WX n F Nx Q .normal (eQ g) (LI g)):WC P n F Nx Q c env L:=by
 intro a w h
 refine Go.wpIn_mono (k1 a w h) ?_
 intro e a' w' hq
 cases e with
 | normal=>obtain⟨g,tq,hs⟩:=hq;exact k2 g tq a' w' hs
 | _=>exact hq
theorem Ok(φ:A0->Prop)(eQ:A0->List (Nat×Value))(LI:A0->List Asrt){c:Code}(k1:WC P n F Nx (Exit.then (fun a w=>∃ g:A0,(φ g)/\SS n F Nx (eQ g) (LI g) a w) Q) c env L)(k2:∀ x0,(φ x0)->WX n F Nx Q .normal (eQ x0) (LI x0)):WC P n F Nx Q c env L:=
 Oo (G:=A0) (fun g=>(φ g)) (fun g=>(eQ g)) (fun g=>(LI g)) k1 (fun g h=>k2 g h)
theorem Oj(φ:A0->A1->Prop)(eQ:A0->A1->List (Nat×Value))(LI:A0->A1->List Asrt){c:Code}(k1:WC P n F Nx (Exit.then (fun a w=>∃ g:A0×A1,(φ g.1 g.2)/\SS n F Nx (eQ g.1 g.2) (LI g.1 g.2) a w) Q) c env L)(k2:∀ x0 x1,(φ x0 x1)->WX n F Nx Q .normal (eQ x0 x1) (LI x0 x1)):WC P n F Nx Q c env L:=
 Oo (G:=A0×A1) (fun g=>(φ g.1 g.2)) (fun g=>(eQ g.1 g.2)) (fun g=>(LI g.1 g.2)) k1 (fun g h=>k2 g.1 g.2 h)
theorem O4(φ:A0->A1->A2->Prop)(eQ:A0->A1->A2->List (Nat×Value))(LI:A0->A1->A2->List Asrt){c:Code}(k1:WC P n F Nx (Exit.then (fun a w=>∃ g:A0×A1×A2,(cu3 φ g)/\SS n F Nx (cu3 eQ g) (cu3 LI g) a w) Q) c env L)(k2:∀ x0 x1 x2,(φ x0 x1 x2)->WX n F Nx Q .normal (eQ x0 x1 x2) (LI x0 x1 x2)):WC P n F Nx Q c env L:=
 Oo (G:=A0×A1×A2) (fun g=>(cu3 φ g)) (fun g=>(cu3 eQ g)) (fun g=>(cu3 LI g)) k1 (fun g h=>k2 g.1 g.2.1 g.2.2 h)
theorem Pk{A5 A6:Type}(φ:A0->A1->A2->A3->A4->A5->A6->Prop)(eQ:A0->A1->A2->A3->A4->A5->A6->List (Nat×Value))(LI:A0->A1->A2->A3->A4->A5->A6->List Asrt){c:Code}(k1:WC P n F Nx (Exit.then (fun a w=>∃ g:A0×A1×A2×A3×A4×A5×A6,(cu7 φ g)/\SS n F Nx (cu7 eQ g) (cu7 LI g) a w) Q) c env L)(k2:∀ x0 x1 x2 x3 x4 x5 x6,(φ x0 x1 x2 x3 x4 x5 x6)->WX n F Nx Q .normal (eQ x0 x1 x2 x3 x4 x5 x6) (LI x0 x1 x2 x3 x4 x5 x6)):WC P n F Nx Q c env L:=
 Oo (G:=A0×A1×A2×A3×A4×A5×A6) (fun g=>(cu7 φ g)) (fun g=>(cu7 eQ g)) (fun g=>(cu7 LI g)) k1 (fun g h=>k2 g.1 g.2.1 g.2.2.1 g.2.2.2.1 g.2.2.2.2.1 g.2.2.2.2.2.1 g.2.2.2.2.2.2 h)
end
theorem cK{R:Type}{p:Prop}[Decidable p]{k:Option R}{r:R}{q:Prop}(h:chk p k=some r)(g:p->k=some r->q):q:=let⟨a,b⟩:=xG h;g a b
theorem bK{A R:Type}{o:Option A}{F:A->Option R}{r:R}{q:Prop}(h:o.bind F=some r)(g:∀ x,o=some x->F x=some r->q):q:=let⟨x,a,b⟩:=za h;g x a b
theorem jK0{R:Type}{K:Option R}{F:Option R->Option R}{r:R}{q:Prop}(h:mZ K F=some r)(g:∀ k,k=K->F k=some r->q):q:=let⟨k,a,b⟩:=qj h;g k a b
theorem jK1{R A0:Type}{K:A0->Option R}{F:(A0->Option R)->Option R}{r:R}{q:Prop}(h:qI K F=some r)(g:∀ k:A0->Option R,(∀ x0,k x0=K x0)->F k=some r->q):q:=let⟨k,a,b⟩:=wg h;g k a b
theorem jK2{R A0 A1:Type}{K:A0->A1->Option R}{F:(A0->A1->Option R)->Option R}{r:R}{q:Prop}(h:sk K F=some r)(g:∀ k:A0->A1->Option R,(∀ x0 x1,k x0 x1=K x0 x1)->F k=some r->q):q:=let⟨k,a,b⟩:=jR h;g k a b
theorem jK3{R A0 A1 A2:Type}{K:A0->A1->A2->Option R}{F:(A0->A1->A2->Option R)->Option R}{r:R}{q:Prop}(h:Va K F=some r)(g:∀ k:A0->A1->A2->Option R,(∀ x0 x1 x2,k x0 x1 x2=K x0 x1 x2)->F k=some r->q):q:=let⟨k,a,b⟩:=cC h;g k a b
theorem jK4{R A0 A1 A2 A3:Type}{K:A0->A1->A2->A3->Option R}{F:(A0->A1->A2->A3->Option R)->Option R}{r:R}{q:Prop}(h:jp4 K F=some r)(g:∀ k:A0->A1->A2->A3->Option R,(∀ x0 x1 x2 x3,k x0 x1 x2 x3=K x0 x1 x2 x3)->F k=some r->q):q:=let⟨k,a,b⟩:=YT h;g k a b
theorem jK5{R A0 A1 A2 A3 A4:Type}{K:A0->A1->A2->A3->A4->Option R}{F:(A0->A1->A2->A3->A4->Option R)->Option R}{r:R}{q:Prop}(h:jp5 K F=some r)(g:∀ k:A0->A1->A2->A3->A4->Option R,(∀ x0 x1 x2 x3 x4,k x0 x1 x2 x3 x4=K x0 x1 x2 x3 x4)->F k=some r->q):q:=let⟨k,a,b⟩:=YU h;g k a b
theorem jK6{R A0 A1 A2 A3 A4 A5:Type}{K:A0->A1->A2->A3->A4->A5->Option R}{F:(A0->A1->A2->A3->A4->A5->Option R)->Option R}{r:R}{q:Prop}(h:jp6 K F=some r)(g:∀ k:A0->A1->A2->A3->A4->A5->Option R,(∀ x0 x1 x2 x3 x4 x5,k x0 x1 x2 x3 x4 x5=K x0 x1 x2 x3 x4 x5)->F k=some r->q):q:=let⟨k,a,b⟩:=Mb h;g k a b
end
end Sep
namespace Sep
section
open Go Go.RowKit
end
end Sep
namespace Sep
open Go Go.RowKit
section
variable {α:Type}{i:Int}
variable [Rnd]
theorem kZ[Inhabited α]{l:List α}(h0:0<=i)(h:i<l.length):l.drop i.toNat=nth l i::l.drop (i+1).toNat:=by
 rw[show(i+1).toNat=i.toNat+1 from by omega,List.drop_eq_getElem_cons (by omega),sj h0 h]
theorem fo{l:List α}(h:¬i<l.length):l.drop i.toNat=[]:=List.drop_eq_nil_of_le (by omega)
theorem wp[Inhabited α]{l:List α}(h0:0<=i)(h:i<l.length):nth l i∈l:=by
 rw[<- sj h0 h];exact List.getElem_mem _
theorem take_succ[Inhabited α](l:List α)(h:i<l.length)(h0:0<=i:=by omega):l.take (i+1).toNat=l.take i.toNat++[nth l i]:=by
 rw[show(i+1).toNat=i.toNat+1 from by omega,List.take_succ_eq_append_getElem (by omega),sj h0 h]
theorem T2{n:Nat}(h0:0<=i)(h:i<n)(hn:(n:Int)<=9223372036854775807):i64 (i+1)=i+1:=xQ (by omega)
theorem iZ[Inhabited α]{s:List α}{f:α->Option Bool}{p:α->Bool}{k:Option Int}{L:Nat->Int->Option Int}(hL:∀ n i,L (n+1) i=if decide (i<((s.length:Nat):Int)) then chk ((0:Int)<=i/\i<((s.length:Nat):Int)) ((f (nth s i)).bind fun x=>if x then some i else L n (i64 (i+1))) else k)(hf:∀ x∈s,f x=some (p x))(hs:(s.length:Int)<=9223372036854775807):
  ∀(n:Nat) (i:Int),0<=i->i<=s.length->s.length-i<n->L n i=match (s.drop i.toNat).findIdx? p with | some j=>some (i+j) | none=>k:=by
 intro n
 induction n with
 | zero=>intro i h0 h1 h2;omega
 | succ n ih=>
  intro i h0 h1 h2
  rw[hL]
  by_cases hi:i<s.length
  ·rw[if_pos (by simpa using hi),xL ⟨h0,hi⟩,hf _ (wp h0 hi),oB,kZ h0 hi,List.findIdx?_cons]
   cases hp:p (nth s i)
   ·rw[if_neg (by simp),if_neg (by simp),T2 h0 hi hs,ih (i+1) (by omega) (by omega) (by omega)]
    cases List.findIdx? p (s.drop (i+1).toNat) with
    | none=>rfl
    | some j=>simp;omega
   ·simp
  ·rw[if_neg (by simpa using hi),fo hi];rfl
theorem XB[Inhabited α]{s:List α}{f:α->Option Bool}{p:α->Bool}{L:Option Int->Nat->Int->Option Int}(hL:∀ k n i,L k (n+1) i=if decide (i<((s.length:Nat):Int)) then chk ((0:Int)<=i/\i<((s.length:Nat):Int)) ((f (nth s i)).bind fun x=>if x then some i else L k n (i64 (i+1))) else k)(hf:∀ x∈s,f x=some (p x))(hs:(s.length:Int)<=4611686018427387000):
  (mZ (some (-1)) fun k=>L k xR 0)=some (match s.findIdx? p with | some j=>(j:Int) | none => -1):=by
 simp only[mZ]
 rw[iZ (hL (some (-1))) hf (by omega) xR 0 (by omega) (by omega) (by rw[wi];omega)]
 simp only[Int.toNat_zero,List.drop_zero]
 cases s.findIdx? p with
 | none=>rfl
 | some j=>simp
theorem nF{s:List α}{p:α->Bool}{o:Option Int}(h:o=some (match s.findIdx? p with | some j=>(j:Int) | none => -1)):(o.bind fun x=>some (decide (x>=0)))=some (s.any p):=by
 rw[h,oB]
 congr 1
 cases hq:s.findIdx? p with
 | none=>
  have:=List.findIdx?_eq_none_iff.1 hq
  simp only[show ¬((-1:Int)>=0) from by omega,decide_false]
  symm
  rw[List.any_eq_false]
  intro x hx;simp[this x hx]
 | some j=>
  obtain⟨hj,Dt,_⟩:=List.findIdx?_eq_some_iff_getElem.1 hq
  simp only[ge_iff_le,Int.natCast_nonneg,decide_true]
  symm
  rw[List.any_eq_true]
  exact⟨s[j],List.getElem_mem _,Dt⟩
end
section
variable {α:Type}{sz fuel:Nat}{eV:Nat->Bool}{t:TypeId}
variable [Rnd]
def ZW(W:World):Zp:=iK W (List.range W.heap.size)
theorem ZW_pz(W:World):PZ [] W (ZW W):=⟨Wv,by simp⟩
theorem Ub{W w:World}{A:Addr}{u:Value}(h:pV (ZW W) w)(hc:W.cell? A=some u):w.cell? A=some u:=by
 have nS:=block_lt_of_cell hc
 rw[<- hc]
 exact World.cell?_of_block (eu h (List.mem_range.2 nS) nS)
theorem Vc{W:World}{ao:Option Addr}{m cap:Nat}{Pr:List Value->α->Prop}{l:List α}(h:sV [] W (.slice ao m cap) sz Pr l):m=l.length/\ZS (ZW W) sz Pr ao cap l:=by
 refine⟨h.len,?_⟩
 obtain⟨rows,⟨⟨zM,li,hv,h1,h2,h3⟩,eW⟩,hl,hP⟩:=h
 injection hv with e1 e2 e3
 subst e1 e3
 refine⟨by omega,h2,rows.flatten,⟨rows,rfl,eW,hl,hP⟩,fun oM=>?_⟩
 obtain⟨A,hA,hc⟩:=h3 (by rintro rfl;exact oM (List.eq_nil_of_length_eq_zero (by simpa using hl.symm)))
 exact⟨A,hA,fun w hw j u hu=>Ub hw (hc.2 j u hu)⟩
theorem ZS.all{Z:Zp}{Pr:List Value->α->Prop}{ao:Option Addr}{cap:Nat}{l:List α}{q:α->Prop}(h:ZS Z sz Pr ao cap l)(hq:∀ r x,Pr r x->q x):∀ x∈l,q x:=by
 obtain⟨_,_,cs,⟨rows,_,_,hl,hP⟩,_⟩:=h
 intro x hx
 obtain⟨i,hi,rfl⟩:=List.getElem_of_mem hx
 exact hq _ _ (hP i rows[i] l[i] (by simp) (by simp))
section
variable {H:Type} {enc:TypeId×Value->H} {P:Program} {W:World}
open Go.ChangeShapes Go.WideShapes Go.ChangeAt
variable [Rnd]
theorem xW{vy:Bool}{base:Nat}{fs:Array Field}{f:Field}{cs:List Value}{x:DataW H×List MemPlace}(i:Nat)(ht:P.underlying t=some (.struct fs))(h:DataW.trod enc P W base eV vy fuel t cs=some x)[BF:Nu fs.toList[i]? (some f)]:
  ∃ y n,DataW.trod enc P W base eV vy n f.type ((cs.drop f.offset).take (P.cellsOf f.type))=some y:=by
 obtain⟨xs,n,_,rfl,hl,eW,hf⟩:=DataW.trod_struct ht h
 have hi:fs[i]?=some f:=by simpa using BF.1
 have h1:=hf i f hi
 have h2:i<xs.length:=by rw[eW];exact(Array.getElem?_eq_some_iff.1 hi).1
 exact⟨xs[i],n,by rw[h1];exact List.getElem?_eq_getElem h2⟩
theorem T3{vy:Bool}{base n:Nat}{fs:Array Field}{v:Value}{x:DataW H×List MemPlace}(tg:Value.okWide P W .any base t v)(hf:DataW.trod enc P W 0 eV vy fuel t v.cells.toList=some x)(ht:P.underlying t=some (.struct fs))(hn:P.cellsOf t=n):
  ∃ cs:List Value,v = .agg cs.toArray/\cs.length=n/\DataW.trod enc P W 0 eV vy fuel t cs=some x:=by
 obtain⟨xs,rfl,hs⟩:=okWide_struct ht tg
 exact⟨xs.toList,by simp,by rw[Array.length_toList,hs,hn],hf⟩
theorem gk{Pr:List Value->α->Prop}{vy:Bool}{e:TypeId}{cs:List Value}{x:DataW H×List MemPlace}(ht:P.underlying t=some (.slice e))(CV:∀ n cs y,DataW.trod enc P W 0 eV vy n e cs=some y->cs.length=sz->∃ a:α,Pr cs a)(h:DataW.trod enc P W 0 eV vy fuel t cs=some x)(hc:P.cellsOf e=sz:=by kernel_rfl)(iL:0<sz:=by decide):
  ∃(ao:Option Addr) (cap:Nat) (l:List α),cs=[.slice ao l.length cap]/\ZS (ZW W) sz Pr ao cap l/\l.length<=maxLen:=by
 have hv:∃ a len cap,cs=[.slice a len cap]:=by
  rcases DataW.trod_slice ht h with⟨h0,-⟩ | ⟨a,len,li,BG,eN,n,_,h0,-⟩
  ·exact⟨none,0,0,h0⟩
  ·exact⟨some a,len,li,h0⟩
 obtain⟨a,len,cap,rfl⟩:=hv
 obtain⟨ao,m,li,l,hv,hs,hL⟩:=XA (v := .slice a len cap) ht hc iL CV ⟨a,len,cap,rfl⟩ h
 injection hv with e1 e2 e3
 subst e1 e2 e3
 obtain⟨rfl,hz⟩:=Vc hs
 exact⟨a,cap,l,rfl,hz,hL⟩
end
end
section
variable {vs:List Value}
def qs(L:List Asrt):Asrt where
 fp:=fps L
 ok w:=(∀ x∈L,x.ok w)/\L.Pairwise (fun x y:Asrt=>∀ b∈x.fp,b∉y.fp)
 loc w w' h hl hk:=⟨fun x hx=>x.loc w w' (fun b hb=>h b (List.mem_flatMap.2 ⟨x,hx,hb⟩)) (fun b hb=>hl b (List.mem_flatMap.2 ⟨x,hx,hb⟩)) (hk.1 x hx),hk.2⟩
section
variable {F:List Nat} {Nx w w':World} {L M R:List Asrt}
theorem Hp.open_(h:Hp F Nx w (qs M::R)):Hp F Nx w (M++R):=by
 have h0:=h.ok _ (List.mem_cons_self ..)
 have hs:=List.pairwise_cons.1 h.sep
 refine⟨h.os,h.tape,h.output,h.size,h.block,fun x hx=>?_,fun x hx b hb=>?_,fun x hx b hb=>?_,List.pairwise_append.2 ⟨h0.2,hs.2,fun x hx y hy b hb=>?_⟩⟩
 ·rcases List.mem_append.1 hx with hx | hx
  ·exact h0.1 x hx
  ·exact h.ok x (List.mem_cons_of_mem _ hx)
 ·rcases List.mem_append.1 hx with hx | hx
  ·exact h.lt _ (List.mem_cons_self ..) b (List.mem_flatMap.2 ⟨x,hx,hb⟩)
  ·exact h.lt x (List.mem_cons_of_mem _ hx) b hb
 ·rcases List.mem_append.1 hx with hx | hx
  ·exact h.ow _ (List.mem_cons_self ..) b (List.mem_flatMap.2 ⟨x,hx,hb⟩)
  ·exact h.ow x (List.mem_cons_of_mem _ hx) b hb
 ·exact hs.1 y hy b (List.mem_flatMap.2 ⟨x,hx,hb⟩)
theorem Hp.pq(h:Hp F Nx w (M++R)):Hp F Nx w (qs M::R):=by
 obtain⟨h1,h2,h3⟩:=List.pairwise_append.1 h.sep
 have hb:∀ b∈(qs M).fp,∃ x∈M,b∈x.fp:=fun b hb=>List.mem_flatMap.1 hb
 refine⟨h.os,h.tape,h.output,h.size,h.block,fun x hx=>?_,fun x hx b Ae=>?_,fun x hx b Ae=>?_,List.pairwise_cons.2 ⟨fun y hy b Ae=>?_,h2⟩⟩
 ·rcases List.mem_cons.1 hx with rfl | hx
  ·exact⟨fun y hy=>h.ok y (List.mem_append_left _ hy),h1⟩
  ·exact h.ok x (List.mem_append_right _ hx)
 ·rcases List.mem_cons.1 hx with rfl | hx
  ·obtain⟨y,hy,t8⟩:=hb b Ae;exact h.lt y (List.mem_append_left _ hy) b t8
  ·exact h.lt x (List.mem_append_right _ hx) b Ae
 ·rcases List.mem_cons.1 hx with rfl | hx
  ·obtain⟨y,hy,t8⟩:=hb b Ae;exact h.ow y (List.mem_append_left _ hy) b t8
  ·exact h.ow x (List.mem_append_right _ hx) b Ae
 ·obtain⟨x,hx,t8⟩:=hb b Ae;exact h3 x hx y hy b t8
theorem Hp.pickAll{R':List Asrt}(h:Hp F Nx w L)(hp:Pick L (qs M) R'):Hp F Nx w (M++R'):=by
 refine Hp.open_ (h.sub (M:=[]) ?_)
 exact .cons hp Sel.all
theorem Hp.selAll(h:Hp F Nx w L)(hs:Sel L M R):Hp F Nx w (qs M::R):=by
 refine Hp.pq ?_
 have:∀ {L M R:List Asrt},Sel L M R->Sel L (M++R) []:=by
  intro L M R h
  induction h with
  | nil=>exact Sel.all
  | cons h _ ih=>exact .cons h ih
 exact h.sub (this hs)
theorem Hp.setBlk{b:Nat}{o o':Obj}(h:Hp F Nx w L)(hp:Pick L (wm b o) R):Hp F Nx (w.putObj b o') (wm b o'::R):=by
 have h':Hp F Nx w (wm b o::R):=h.sub (M:=[]) (.cons hp Sel.all)
 have nS:b<w.heap.size:=h'.lt _ (List.mem_cons_self ..) b (by simp[wm])
 have hb:=(List.pairwise_cons.1 h'.sep).1
 have how:=h'.ow _ (List.mem_cons_self ..) b (by simp[wm])
 have Em:∀ k,k≠b->(w.putObj b o').heap[k]?=w.heap[k]?:=fun k hk=>World.putObj_heap_other hk
 refine⟨h'.os,⟨h'.tape.t,h'.tape.d⟩,h'.output,by rw[World.putObj_size];exact h'.size,fun k hk hf=>?_,fun x hx=>?_,fun x hx c hc=>?_,fun x hx c hc=>?_,List.pairwise_cons.2 ⟨fun y hy c hc=>hb y hy c hc,(List.pairwise_cons.1 h'.sep).2⟩⟩
 ·rw[Em k (fun e=>by subst e;rcases how with h1 | h1;exact hf h1;omega)];exact h'.block k hk hf
 ·rcases List.mem_cons.1 hx with rfl | hx
  ·exact World.putObj_heap_same nS
  ·refine x.loc w _ (fun c hc _=>Em c (fun e=>?_)) (fun c hc=>h'.lt x (List.mem_cons_of_mem _ hx) c hc) (h'.ok x (List.mem_cons_of_mem _ hx))
   exact hb x hx b (by simp[wm]) (e▸hc)
 ·rw[World.putObj_size]
  rcases List.mem_cons.1 hx with rfl | hx
  ·simp[wm] at hc;subst hc;exact nS
  ·exact h'.lt x (List.mem_cons_of_mem _ hx) c hc
 ·rcases List.mem_cons.1 hx with rfl | hx
  ·simp[wm] at hc;subst hc;exact how
  ·exact h'.ow x (List.mem_cons_of_mem _ hx) c hc
end
def sm(fn:FuncId)(tmps:Array Value)(ps:List Tmp)(as_ bo:Code)(D:Nat)(st:LoopState)(pe:Option Code):Obj:=
 .loop { state:=st,pending:=pe,fn:=fn,tmps:=tmps,params:=ps.toArray,assign:=as_,body:=bo,defers:=D }
def rX:Option Code->LoopState
 | none => .ready
 | some _ => .done
abbrev Rc:=LoopState->Option Code->Obj
def uf(cs:List Code):Nat->Option Code
 | 0=>none
 | i+1=>cs[i]?
abbrev bG(l:Nat):Rnd:=⟨some l,[]⟩
abbrev mk1(D:Nat):List Deferred:=[{ target := .collected D,args := #[] }]
abbrev ti(D:Nat):Rnd:=⟨none,mk1 D⟩
abbrev kj(D:Nat):Asrt:=wm D (.deferred (some []))
def ai(P:Program)(Z:Zp)(l:Nat){α σ G H:Type}(av:H->α->List Value)(ar:H->α->List Asrt)(Y:α->σ->Option (Bool×σ))(J:G->σ->Asrt)(Φ:G->σ->Prop):Prop:=
 ∀(x:α) (h:H) (g:G) (s:σ) (b:Bool) (s':σ) (w:World),Y x s=some (b,s')->Φ g s->Hp (fps (ar h x++[J g s])) w w (ar h x++[J g s])->PZ (fps (ar h x++[J g s])) w Z->
  ∃ fn tmps as_ bo,(Instr.yield l (av h x).toArray).run P w = .ok (.round l fn tmps as_ bo) w/\
   RoundIn Fence.wide 0 P l fn tmps as_ bo w fun e w'=>∃ g',e = .returned (.bool b)/\Φ g' s'/\Hp (fps (ar h x++[J g s])) w w' [J g' s']
def Y5:List Tmp->List Value->List (Nat×Value)->List (Nat×Value)
 | p::ps,v::vs,env=>Y5 ps vs ((p,v)::env)
 | _,_,env=>env
theorem Ev.fold:∀(ps:List Tmp) (vs:List Value) (env:List (Nat×Value)) (tmps:Array Value),Ev env tmps->(∀ p∈ps,p<tmps.size)->
  Ev (Y5 ps vs env) ((ps.zip vs).foldl (fun t x=>t.setIfInBounds x.1 x.2) tmps)
 | [],_,_,_,h,_=>by simpa [Y5] using h
 | _::_,[],_,_,h,_=>by simpa [Y5] using h
 | p::ps,v::vs,env,tmps,h,hp=>by
  simp only[Y5,List.zip_cons_cons,List.foldl_cons]
  exact Ev.fold ps vs _ _ (h.put p v (hp p (List.mem_cons_self ..))) (fun q hq=>by simpa using hp q (List.mem_cons_of_mem _ hq))
theorem Vd:∀(ps:List (Tmp×Value)) (tmps:Array Value),(ps.foldl (fun t x=>t.setIfInBounds x.1 x.2) tmps).size=tmps.size
 | [],_=>rfl
 | p::ps,tmps=>by rw[List.foldl_cons,Vd ps];simp
def Qo(P:Program)(l:Nat)(bo:Code)(R:Ending->World->Prop):Exit->Act->World->Prop:=
 Exit.then (fun ri rj=>∃ Bf,(Instr.beginRound l).run P rj = .ok () Bf/\bo.wpIn (@FN (bG l)) 0 P (roundPost P l R) ri Bf) (fun _ _ _=>False)
section
variable {P:Program} {n:Nat} {F:List Nat} {Nx:World} {env:List (Nat×Value)} {L L':List Asrt} {l D:Nat} {R:Ending->World->Prop} {fn:FuncId} {tmps:Array Value} {ps:List Tmp} {as_ bo:Code} {rc:Rc}
theorem bH{Z:Zp}{α σ G H:Type}{av:H->α->List Value}{ar:H->α->List Asrt}{Y:α->σ->Option (Bool×σ)}{LI:G->σ->List Asrt}{pc:σ->Option Code}{Φ:G->σ->Prop}(En:rc=sm fn tmps ps as_ bo D)(CX:Ev env tmps)(iL:tmps.size=n)(k:∀ x h g s b s' F w,Y x s=some (b,s')->Φ g s->PZ F w Z->
   @WC (bG l) P n F w (Qo P l bo fun e w'=>∃ g',e = .returned (.bool b)/\Φ g' s'/\Hp F w w' [qs (LI g' s'++[wm l (rc (rX (pc s')) (pc s'))])]) as_ (Y5 ps (av h x) env)
    (ar h x++(LI g s++[wm l (rc (rX (pc s)) (pc s))])))(hl:∀ h x,(av h x).length=ps.length:=by exact fun _ _=>U)(Eo:∀ p∈ps,p<n:=by decide):
  ai P Z l av ar Y (fun g s=>qs (LI g s++[wm l (rc (rX (pc s)) (pc s))])) Φ:=by
 subst En
 intro x h g s b s' w hY tq hp hz
 have hop:Hp (fps (ar h x++[qs (LI g s++[wm l (sm fn tmps ps as_ bo D (rX (pc s)) (pc s))])])) w w (ar h x++(LI g s++[wm l (sm fn tmps ps as_ bo D (rX (pc s)) (pc s))])):=by
  have hpk:Pick (ar h x++[qs (LI g s++[wm l (sm fn tmps ps as_ bo D (rX (pc s)) (pc s))])]) (qs (LI g s++[wm l (sm fn tmps ps as_ bo D (rX (pc s)) (pc s))])) (ar h x):=by
   generalize ar h x=A
   induction A with
   | nil=>exact .here
   | cons a A ih=>exact .there ih
  have:=hp.pickAll hpk
  have tN:∀(A B:List Asrt),Sel (A++B) (B++A) []:=by
   intro A B
   have h1:∀(A B C:List Asrt),Sel (A++B) C []->∀ a,Sel (A++a::B) (a::C) []:=by
    intro A B C h a
    refine .cons ?_ h
    clear h
    induction A with
    | nil=>exact .here
    | cons x A ih=>exact .there ih
   induction B generalizing A with
   | nil=>simpa using Sel.all
   | cons b B ih=>simpa using h1 A B _ (by simpa using ih A) b
  exact this.sub (tN _ _)
 have hb:w.heap[l]?=some (sm fn tmps ps as_ bo D (rX (pc s)) (pc s)):=
  hop.ok (wm l (sm fn tmps ps as_ bo D (rX (pc s)) (pc s))) (by simp)
 refine⟨_,_,_,_,run_yield hb (by simp[hl]),roundIn_of_wpIn (F := @FN (bG l)) (l:=l) trivial ?_⟩
 refine k x h g s b s' _ w hY tq hz _ w (@SS.mk (bG l) _ _ _ _ _ _ _ rfl ?_ ?_ hop)
 ·have hz:=Vd (ps.zip (av h x)) tmps
  simp only[<- Array.foldl_toList,Array.toList_zip] at *
  simpa [iL] using hz
 ·have hz:=Ev.fold ps (av h x) env tmps CX (fun p hp=>by rw[iL];exact Eo p hp)
  simp only[<- Array.foldl_toList,Array.toList_zip] at *
  simpa using hz
theorem Bl(En:rc=sm fn tmps ps as_ bo D)(hp:Pick L (wm l (rc .ready none)) L')(k : @WC (bG l) P n F Nx (roundPost P l R) bo env (wm l (rc .busy none)::L')):
  @WX (bG l) n F Nx (Qo P l bo R) .normal env L:=by
 subst En
 letI:Rnd:=bG l
 intro a w h
 have hb:w.heap[l]?=some (sm fn tmps ps as_ bo D .ready none):=h.hp.ok _ hp.mem
 exact⟨_,run_beginRound hb rfl,k a _ (@SS.mk (bG l) _ _ _ _ _ _ _ h.defers h.size h.ev (h.hp.setBlk hp))⟩
theorem Of(En:rc=sm fn tmps ps as_ bo D)(hp:Pick L (wm l (rc .busy none)) L')(k:∀ w',Hp F Nx w' (wm l (rc .ready none)::L')->R (.returned (.bool true)) w') : @WX (bG l) n F Nx (roundPost P l R) .normal env L:=by
 subst En
 letI:Rnd:=bG l
 intro a w h
 have hb:w.heap[l]?=some (sm fn tmps ps as_ bo D .busy none):=h.hp.ok _ hp.mem
 exact⟨_,_,run_endRound none hb,k _ (h.hp.setBlk hp)⟩
def WJ(P:Program)(n:Nat)(F:List Nat)(Nx:World)(Q:Exit->Act->World->Prop)(D:Nat)(env:List (Nat×Value))(L:List Asrt):Option Code->Prop
 | none => @WX (ti D) n F Nx Q .normal env L
 | some c => @WC (ti D) P n F Nx Q c env L
theorem H7{g:Operand}{f:FuncId}{caps:List Value}{Q:Exit->Act->World->Prop}(hg:eo env g=some (.func (.func f) #[] caps.toArray))(Du:∀ args w,(callFunc f args).run P w = .ok (.enter f args) w)(k:∀ fn tmps l D (rc:Rc),rc=sm fn tmps ps as_ bo D->Ev env tmps->tmps.size=n->∀ w,Hp F Nx w (wm l (rc .ready none)::kj D::L)->
   Calls P f (.func (.yield l) #[] #[]::caps).toArray w fun e w'=>∃ v pe L',e = .returned v/\Hp F Nx w' (wm l (rc (rX pe) pe)::L')/\WJ P n F Nx Q D env L' pe):
  @WC Rnd.base P n F Nx Q (.rangeFunc g ps.toArray as_ bo) env L:=by
 intro a w h
 refine wpIn_rangeFunc fun fn _=>?_
 have zw:=(h.hp.alloc (.deferred (some []))).alloc (sm fn a.tmps ps as_ bo w.heap.size .ready none)
 rw[World.size_alloc] at zw
 refine⟨w.heap.size+1,mk1 w.heap.size,_,{ target := .fn (.func f) caps.toArray,args := #[.func (.yield (w.heap.size+1)) #[] #[]] },(w.alloc (.deferred (some []))).alloc (sm fn a.tmps ps as_ bo w.heap.size .ready none),f,(.func (.yield (w.heap.size+1)) #[] #[]::caps).toArray,(w.alloc (.deferred (some []))).alloc (sm fn a.tmps ps as_ bo w.heap.size .ready none),run_enterLoop_outer ..,?_,fun _ _=>trivial,?_,fun h=>by simp[FN] at h,?_⟩
 ·have he:=h.eval hg
  simp only[resolve,rangeCall]
  rw[he]
  simp[Deferred.ofValue,Act.eval,sm]
 ·simp[invoke,Du]
 ·refine(Kp (k fn a.tmps _ _ _ rfl h.ev h.size _ zw)).mono ?_
  rintro e w' ⟨v,pe,L',rfl,hp,hj⟩
  have hb:w'.heap[w.heap.size+1]?=some (sm fn a.tmps ps as_ bo w.heap.size (rX pe) pe):=hp.ok _ (List.mem_cons_self ..)
  have Ar:Hp F Nx (w'.putObj (w.heap.size+1) (sm fn a.tmps ps as_ bo w.heap.size .exhausted pe)) L':=
   (hp.setBlk (o':=sm fn a.tmps ps as_ bo w.heap.size .exhausted pe) .here).sub (L':=L') (M:=[wm (w.heap.size+1) (sm fn a.tmps ps as_ bo w.heap.size .exhausted pe)]) (by
    have:∀(x:Asrt) (L:List Asrt),Sel (x::L) L [x]:=by
     intro x L
     induction L with
     | nil=>exact .nil
     | cons y L ih=>exact .cons (.there .here) ih
    exact this _ _)
  refine⟨pe,_,run_endLoop hb (by cases pe <;> simp[rX]),?_⟩
  have hd:a.defers=[]:=h.defers
  cases pe with
  | none=>exact hj _ _ (@SS.mk (ti w.heap.size) _ _ _ _ _ _ _ (by simp[hd];rfl) h.size h.ev Ar)
  | some c=>exact hj _ _ (@SS.mk (ti w.heap.size) _ _ _ _ _ _ _ (by simp[hd];rfl) h.size h.ev Ar)
end
section
variable {P:Program} {n:Nat} {F:List Nat} {Nx:World} {Q:Exit->Act->World->Prop} {D p i:Nat} {env:List (Nat×Value)} {L:List Asrt} {cs:List Code} {c:Code}
theorem wjN(k : @WX (ti D) n F Nx Q .normal env L):WJ P n F Nx Q D env L (uf [] p):=by
 cases p with
 | zero=>exact k
 | succ p=>simpa [uf,WJ] using k
theorem cD{α β:Type}{a b:α}{c d:β}(h:some (a,c)=some (b,d)):a=b/\c=d:=by simpa using h
theorem Oq[Rnd]{c:Code}{L':List Asrt}(h:L=L')(k:WC P n F Nx Q c env L'):WC P n F Nx Q c env L:=h▸k
end
section
variable {P:Program} {n:Nat} {F:List Nat} {Nx:World} {env:List (Nat×Value)} {L L':List Asrt} {D:Nat} {R:Ending->World->Prop}
theorem Ob{f:FuncId}{fn:Func}{c:Code}{w:World}{n:Nat}{pre:List Asrt}(hf:P.funcs[f]?=some fn)(hb:fn.body=some c)(hn:fn.ntmps=n)(iL:Nat.ble vs.length n=true)(eO:Hp (fps pre) w w pre)(he:lr 0 vs=env)(k : @WC Rnd.base P n (fps pre) w (bodyPostM (@FN Rnd.base) 0 P fn R) c env pre):Calls P f vs.toArray w R:=by
 subst he
 refine Qg (m:=0) (callsIn_of_wp_marks (F := @FN Rnd.base) hf hb trivial (k _ _ (@SS.mk Rnd.base _ _ _ _ _ _ _ rfl ?_ ?_ eO)) rfl)
 ·have:=Nat.le_of_ble_eq_true iL
  simp[hn];omega
 ·intro i v hv
  obtain⟨_,h⟩:=Wt vs 0 i v hv
  have nS:i<vs.length:=by have:=(List.getElem?_eq_some_iff.1 h).1;simpa using this
  rw[Array.getElem?_append_left (by simpa using nS)]
  simpa using h
theorem O7{fn:Func}{rs:List ResultVar}(hr:fn.results=rs.toArray)(hv:ResV P F Nx env L rs vs)(k:∀ w,Hp F Nx w L->R (.returned (cx vs)) w):
  @WX Rnd.base n F Nx (bodyPostM (@FN Rnd.base) 0 P fn R) .ret env L:=fun a w h=>by
 have hd:a.defers=[]:=h.defers
 show LeavesInM _ _ _ _ _ _ a.defers _ _
 rw[hd];exact⟨_,hv.run hr h,k w h.hp⟩
theorem Og{fn:Func}{rs:List ResultVar}(hp:Pick L (kj D) L')(hr:fn.results=rs.toArray)(hv:ResV P F Nx env (wm D (.deferred none)::L') rs vs)(k:∀ w,Hp F Nx w (wm D (.deferred none)::L')->R (.returned (cx vs)) w):
  @WX (ti D) n F Nx (bodyPostM (@FN Rnd.base) 0 P fn R) .ret env L:=fun a w h=>by
 letI:Rnd:=ti D
 have hd:a.defers=mk1 D:=h.defers
 have hb:w.heap[D]?=some (.deferred (some [])):=h.hp.ok _ hp.mem
 show LeavesInM _ _ _ _ _ _ a.defers _ _
 rw[hd]
 have Ar:=h.hp.setBlk (o' := .deferred none) hp
 refine⟨by simp,.inl ⟨D,_,rfl,run_takeDeferred hb,?_⟩⟩
 exact⟨_,hv.run hr (@SS.mk (ti D) _ _ _ _ _ _ _ h.defers h.size h.ev Ar),k _ Ar⟩
end
section
variable [Rnd] {P:Program} {n:Nat} {F:List Nat} {Nx:World} {env:List (Nat×Value)} {L Lr:List Asrt} {eA:Array Oper} {Q:Exit->Act->World->Prop} {eN:List Oper}
 {dd:Nat} {ty:TypeId} {pos:String} {after:Array Edge} {gu:Option (Nat×Bool)}
theorem H8{Z:Zp}{l:Nat}{α σ G H:Type}{av:H->α->List Value}{ar:H->α->List Asrt}{Y:α->σ->Option (Bool×σ)}{J:G->σ->Asrt}{Φ:G->σ->Prop}{c:Operand}{xs:List Operand}{BE:Array TypeId}{x:α}{h:H}{g:G}{s s':σ}{b:Bool}(hY:ai P Z l av ar Y J Φ)[hg:Nu (gd env eA ⟨some dd,.call ⟨.value c,xs.toArray,BE⟩,ty,pos,after,gu⟩) (some true)][eZ:Nu (Nat.blt dd n) true](hc:eo env c=some (.func (.yield l) #[] #[]))(he:Eos env xs (av h x))(hs:Sel L (ar h x++[J g s]) Lr)(hb:Y x s=some (b,s'))(tq:Φ g s)(hz:∀ w,Hp F Nx w L->PZ (fps (ar h x++[J g s])) w Z)(k:∀ g',Φ g' s'->WL P n F Nx eA Q eN ((dd,.bool b)::env) ([J g' s']++Lr)):
  WL P n F Nx eA Q (⟨some dd,.call ⟨.value c,xs.toArray,BE⟩,ty,pos,after,gu⟩::eN) env L:=by
 intro a w CY
 refine lZ (kU CY hg.1) ?_
 obtain⟨fn,tmps,as_,bo,hy,hr⟩:=hY x h g s b s' w hb tq (CY.hp.owns hs) (hz w CY.hp)
 refine⟨fun _ _=>trivial,?_⟩
 have hm:=he.map CY
 have eT:(execOp a.eval ⟨some dd,.call ⟨.value c,xs.toArray,BE⟩,ty,pos,after,gu⟩).run P w = .ok (.round l fn tmps as_ bo) w:=by
  simp[execOp,resolve,CY.eval hc,Deferred.ofValue,invoke,hm,hy]
 rw[bD eT (fun d e=>by cases e),Oper.uponIn_round]
 refine⟨fun h=>by simp[FN] at h,RoundIn.mono (F:=FN) (show RoundIn FN 0 P l fn tmps as_ bo w _ from hr) ?_⟩
 rintro e w' ⟨g',rfl,Dj,hp⟩
 exact k g' Dj _ _ (CY.put eZ.1 _ (CY.hp.call hs hp))
end
end
section
abbrev MG(α:Type):=List ((Option Addr×Nat)×List α)
section
variable {F:List Nat} {Nx w:World} {L R R' R'':List Asrt} {e:TypeId} {sz:Nat} {α:Type} {enc:α->List Value} {m:MG α} {l:List (List α)} {i:Int} {Z Zn:Zp}
theorem Hp.perm{M:List Asrt}(h:Hp F Nx w L)(p:L.Perm M):Hp F Nx w M:=
 ⟨h.os,h.tape,h.output,h.size,h.block,fun x hx=>h.ok x (p.mem_iff.2 hx),fun x hx=>h.lt x (p.mem_iff.2 hx),fun x hx=>h.ow x (p.mem_iff.2 hx),
  (List.Perm.pairwise_iff (fun {x y} hxy b hb hc=>hxy b hc hb) p).1 h.sep⟩
theorem PZ.left{a b:Zp}{w:World}(h:PZ F w (a++b)):PZ F w a:=⟨fun p hp=>h.1 p (List.mem_append_left _ hp),fun p hp=>h.2 p (List.mem_append_left _ hp)⟩
end
section
variable [Rnd]
variable {P:Program} {n:Nat} {F:List Nat} {Nx:World} {env:List (Nat×Value)} {L R R' R'':List Asrt} {eA:Array Oper} {Q:Exit->Act->World->Prop} {lo:List Oper} {cc:Code} {ex:Exit}
 {e oe:TypeId} {sz:Nat} {α:Type} {enc:α->List Value} {m:MG α} {l:List (List α)} {i:Int} {Z Zn:Zp} {tl:Nat->Bool} {Ls:List Asrt} {fuel:Nat} {listed:Array Bool} {QD:Act->World->Prop}
end
section
variable [Rnd]
variable {P:Program} {n:Nat} {F:List Nat} {Nx:World} {env:List (Nat×Value)} {L:List Asrt} {d:Option Tmp} {ty:TypeId} {pos:String} {after:Array Edge} {g:Option (Nat×Bool)} {x y:Operand} {t t' e:TypeId}
end
inductive Ks (cs:List Value):List (Nat×Value)->Prop
 | nil:Ks cs []
 | cons {k:Nat} {v:Value} {ks:List (Nat×Value)} (h:cs[k]?=some v) (t:Ks cs ks):Ks cs ((k,v)::ks)
theorem Ks.get{cs:List Value}{ks:List (Nat×Value)}(h:Ks cs ks):∀ p∈ks,cs[p.1]?=some p.2:=by
 induction h with
 | nil=>intro p hp;cases hp
 | cons h _ ih=>
  intro p hp
  rcases List.mem_cons.1 hp with rfl | hp
  ·exact h
  ·exact ih p hp
def re(b:Nat)(T:TypeId)(ks:List (Nat×Value)):Asrt where
 fp:=[b]
 ok w:=∃ cs,(stb b T cs).ok w/\Ks cs ks
 loc w w' h hl hk:=by
  obtain⟨cs,h1,h2⟩:=hk
  exact⟨cs,(stb b T cs).loc w w' (by simpa [du] using h) (by simpa [du] using hl) h1,h2⟩
theorem Wk.stb{b:Nat}{T:TypeId}{cs:List Value}{ks:List (Nat×Value)}{L M:List Asrt}(h:Ks cs ks)(t:Wk L M):Wk (Sep.stb b T cs::L) (re b T ks::M):=
 .any rfl (fun _ hk=>⟨cs,hk,h⟩) t
theorem mC{F:List Nat}{Nx:World}{L R:List Asrt}{b off:Nat}{T:TypeId}{ks:List (Nat×Value)}{v:Value}(hm:Pick L (re b T ks) R)(hv:(off,v)∈ks):∀ w,Hp F Nx w L->w.cell? ⟨b,off,none⟩=some v:=by
 intro w h
 obtain⟨cs,h1,h2⟩:=h.ok _ hm.mem
 rw[cell_of_row w b off _ T (0,0) (dt.1 h1)]
 simpa using h2.get _ hv
end
section
variable {x y:Code}{A1:Type}
section
variable {P:Program} {n:Nat} {F:List Nat} {Nx:World} {env:List (Nat×Value)} {L:List Asrt} {Q:Exit->Act->World->Prop}
theorem Pf{G:Type}(D:G->Nat)(φ:G->Prop)(eQ:G->List (Nat×Value))(LI:G->List Asrt)(k1 : @WC Rnd.base P n F Nx (Exit.then (fun a w=>∃ g,φ g /\ @SS (ti (D g)) n F Nx (eQ g) (LI g) a w) Q) x env L)(k2:∀ g,φ g -> @WC (ti (D g)) P n F Nx Q y (eQ g) (LI g)) : @WC Rnd.base P n F Nx Q (.seq x y) env L:=by
 intro a w h
 refine wpIn_seq (Go.wpIn_mono (k1 a w h) ?_)
 intro e a' w' hq
 cases e with
 | normal=>obtain⟨g,tq,hs⟩:=hq;exact k2 g tq a' w' hs
 | _=>exact hq
theorem Oe{G:Type}{D:G->Nat}{φ:G->Prop}{eQ:G->List (Nat×Value)}{LI:G->List Asrt}{M:List Asrt}(g:G)(tq:φ g)(hr:Restr env (eQ g))(hL:Sel L (LI g) M):
  @WX (ti (D g)) n F Nx (Exit.then (fun a w=>∃ g,φ g /\ @SS (ti (D g)) n F Nx (eQ g) (LI g) a w) Q) .normal env L:=
 fun _ _ h=>⟨g,tq,@SS.drop (ti (D g)) _ _ _ _ _ _ _ _ _ (@SS.restr (ti (D g)) _ _ _ _ _ _ _ _ h hr) hL⟩
theorem Rk{G:Type}(D:G->Nat)(φ:G->Prop)(eQ:G->List (Nat×Value))(LI:G->List Asrt){c:Code}(k1 : @WC Rnd.base P n F Nx (Exit.then (fun a w=>∃ g,φ g /\ @SS (ti (D g)) n F Nx (eQ g) (LI g) a w) Q) c env L)(k2:∀ g,φ g -> @WX (ti (D g)) n F Nx Q .normal (eQ g) (LI g)) : @WC Rnd.base P n F Nx Q c env L:=by
 intro a w h
 refine Go.wpIn_mono (k1 a w h) ?_
 intro e a' w' hq
 cases e with
 | normal=>obtain⟨g,tq,hs⟩:=hq;exact k2 g tq a' w' hs
 | _=>exact hq
theorem Rg(φ:Nat->A1->Prop)(eQ:Nat->A1->List (Nat×Value))(LI:Nat->A1->List Asrt)(k1 : @WC Rnd.base P n F Nx (Exit.then (fun a w=>∃ g:Nat×A1,(φ g.1 g.2) /\ @SS (ti g.1) n F Nx (eQ g.1 g.2) (LI g.1 g.2) a w) Q) x env L)(k2:∀ x0 x1,(φ x0 x1) -> @WC (ti x0) P n F Nx Q y (eQ x0 x1) (LI x0 x1)) : @WC Rnd.base P n F Nx Q (.seq x y) env L:=
 Pf (G:=Nat×A1) (fun g=>g.1) (fun g=>(φ g.1 g.2)) (fun g=>(eQ g.1 g.2)) (fun g=>(LI g.1 g.2)) k1 (fun g h=>k2 g.1 g.2 h)
theorem Pv{A2 A3 A4:Type}(φ:Nat->A1->A2->A3->A4->Prop)(eQ:Nat->A1->A2->A3->A4->List (Nat×Value))(LI:Nat->A1->A2->A3->A4->List Asrt)(k1 : @WC Rnd.base P n F Nx (Exit.then (fun a w=>∃ g:Nat×A1×A2×A3×A4,(cu5 φ g) /\ @SS (ti g.1) n F Nx (cu5 eQ g) (cu5 LI g) a w) Q) x env L)(k2:∀ x0 x1 x2 x3 x4,(φ x0 x1 x2 x3 x4) -> @WC (ti x0) P n F Nx Q y (eQ x0 x1 x2 x3 x4) (LI x0 x1 x2 x3 x4)) : @WC Rnd.base P n F Nx Q (.seq x y) env L:=
 Pf (G:=Nat×A1×A2×A3×A4) (fun g=>g.1) (fun g=>(cu5 φ g)) (fun g=>(cu5 eQ g)) (fun g=>(cu5 LI g)) k1 (fun g h=>k2 g.1 g.2.1 g.2.2.1 g.2.2.2.1 g.2.2.2.2 h)
theorem Rf{A2 A3 A4 A5:Type}(φ:Nat->A1->A2->A3->A4->A5->Prop)(eQ:Nat->A1->A2->A3->A4->A5->List (Nat×Value))(LI:Nat->A1->A2->A3->A4->A5->List Asrt)(k1 : @WC Rnd.base P n F Nx (Exit.then (fun a w=>∃ g:Nat×A1×A2×A3×A4×A5,(cu6 φ g) /\ @SS (ti g.1) n F Nx (cu6 eQ g) (cu6 LI g) a w) Q) x env L)(k2:∀ x0 x1 x2 x3 x4 x5,(φ x0 x1 x2 x3 x4 x5) -> @WC (ti x0) P n F Nx Q y (eQ x0 x1 x2 x3 x4 x5) (LI x0 x1 x2 x3 x4 x5)) : @WC Rnd.base P n F Nx Q (.seq x y) env L:=
 Pf (G:=Nat×A1×A2×A3×A4×A5) (fun g=>g.1) (fun g=>(cu6 φ g)) (fun g=>(cu6 eQ g)) (fun g=>(cu6 LI g)) k1 (fun g h=>k2 g.1 g.2.1 g.2.2.1 g.2.2.2.1 g.2.2.2.2.1 g.2.2.2.2.2 h)
end
end
section
variable {w:World}
def xI{κ α:Type}[DecidableEq κ]:List (κ×α)->κ->α->α
 | [],_,d=>d
 | p::l,k,d=>if k=p.1 then p.2 else xI l k d
def vH{κ α:Type}[DecidableEq κ]:List (κ×α)->κ->Bool
 | [],_=>false
 | p::l,k=>if k=p.1 then true else vH l k
def w6{κ α:Type}[DecidableEq κ]:List (κ×α)->κ->α->List (κ×α)
 | [],k,v=>[(k,v)]
 | p::l,k,v=>if k=p.1 then(p.1,v)::l else p::w6 l k v
def sn(es:Array MapEntry)(eS:Nat):Prop:=(∀ x∈es.toList,x.born<eS)/\(es.toList.map (·.born)).Nodup
theorem sn.empty:sn #[] 0:=⟨by simp,by simp⟩
theorem sn.push{es:Array MapEntry}{eS:Nat}(h:sn es eS)(k v:Value):sn (es.push { key:=k,val:=v,born:=eS }) (eS+1):=by
 refine⟨?_,?_⟩
 ·intro x hx
  simp only[Array.toList_push,List.mem_append,List.mem_singleton] at hx
  rcases hx with hx | rfl
  ·exact Nat.lt_succ_of_lt (h.1 x hx)
  ·exact Nat.lt_succ_self _
 ·simp only[Array.toList_push,List.map_append,List.map_cons,List.map_nil]
  refine List.nodup_append.2 ⟨h.2,by simp,?_⟩
  intro a ha b hb
  obtain⟨x,hx,rfl⟩:=List.mem_map.1 ha
  simp at hb
  have:=h.1 x hx
  omega
theorem sn.modify{es:Array MapEntry}{eS:Nat}(h:sn es eS)(i:Nat)(f:MapEntry->MapEntry)(hf:∀ e,(f e).born=e.born):sn (es.modify i f) eS:=by
 have hm:(es.modify i f).toList.map (·.born)=es.toList.map (·.born):=by
  rw[Array.toList_modify]
  apply List.ext_getElem?
  intro j
  simp only[List.getElem?_map,List.getElem?_modify]
  cases es.toList[j]? with
  | none=>simp
  | some e=>by_cases hij:i=j <;> simp[hij,hf]
 refine⟨?_,by rw[hm];exact h.2⟩
 intro x hx
 have:x.born∈(es.modify i f).toList.map (·.born):=List.mem_map.2 ⟨x,hx,rfl⟩
 rw[hm] at this
 obtain⟨y,hy,he⟩:=List.mem_map.1 this
 rw[<- he];exact h.1 y hy
def xN{κ α:Type}(b:Nat)(ek:κ->Value)(ev:α->Value)(l:List (κ×α)):Asrt where
 fp:=[b]
 ok w:=∃ es eS,w.heap[b]?=some (.map es eS)/\es.toList.map (fun e=>(e.key,e.val))=l.map (fun p=>(ek p.1,ev p.2))/\sn es eS
 loc w w' h hl hk:=by
  obtain⟨es,eS,h1,h2⟩:=hk
  exact⟨es,eS,by rw[h b (by simp) (hl b (by simp))];exact h1,h2⟩
structure KeyT (P:Program) (kt:TypeId) {κ:Type} [DecidableEq κ] (ek:κ->Value):Prop where
 chk:∀(b:Bool) (k:κ) (w:World),(Instr.checkKey b 10000 kt (ek k)).run P w = .ok () w
 find:∀(k:κ) (es:List MapEntry) (ks:List κ) (w:World),es.map (·.key)=ks.map ek->
  (Instr.findKey kt (ek k) es).run P w = .ok ((ks.findIdx? fun k'=>decide (k=k')).map fun i=>(i,((es[i]?).map (·.val)).getD undef)) w
 stays:∀(k:κ) (w:World),(Instr.keyThatStays (ek k) (ek k)).run P w = .ok (ek k) w
section
variable {κ α:Type} [DecidableEq κ]
theorem Yw{kk:IntKind}(a:Int):∀(es:List MapEntry) (ks:List Int) (i:Nat),es.map (·.key)=ks.map (Value.int kk)->
  Instr.findNow (.int kk) (.int kk a) es i=some ((ks.findIdx? fun k'=>decide (a=k')).map fun j=>(i+j,((es[j]?).map (·.val)).getD undef))
 | [],[],i,_=>rfl
 | [],_::_,_,h=>by simp at h
 | _::_,[],_,h=>by simp at h
 | e::es,k::ks,i,h=>by
  simp only[List.map_cons,List.cons.injEq] at h
  unfold Instr.findNow
  rw[h.1]
  simp only[Instr.sameNow,if_true]
  by_cases hk:a=k
  ·subst hk;simp[List.findIdx?_cons]
  ·have:(a == k)=false:=by simp[hk]
   rw[this]
   simp only
   rw[Yw a es ks (i+1) h.2,List.findIdx?_cons]
   simp only[hk,decide_false,Bool.false_eq_true,if_false]
   cases ks.findIdx? (fun k'=>decide (a=k')) with
   | none=>rfl
   | some j=>simp;omega
theorem ak(a b:ByteArray):(a == b)=decide (a=b):=by
 rw[Bool.eq_iff_iff,MapKept.bytes_beq,decide_eq_true_eq]
theorem Yx(a:ByteArray):∀(es:List MapEntry) (ks:List ByteArray) (i:Nat),es.map (·.key)=ks.map Value.string->
  Instr.findNow .string (.string a) es i=some ((ks.findIdx? fun k'=>decide (a=k')).map fun j=>(i+j,((es[j]?).map (·.val)).getD undef))
 | [],[],i,_=>rfl
 | [],_::_,_,h=>by simp at h
 | _::_,[],_,h=>by simp at h
 | e::es,k::ks,i,h=>by
  simp only[List.map_cons,List.cons.injEq] at h
  unfold Instr.findNow
  rw[h.1]
  simp only[Instr.sameNow]
  rw[ak]
  by_cases hk:a=k
  ·subst hk;simp[List.findIdx?_cons]
  ·rw[decide_eq_false hk]
   simp only
   rw[Yx a es ks (i+1) h.2,List.findIdx?_cons]
   simp only[hk,decide_false,Bool.false_eq_true,if_false]
   cases ks.findIdx? (fun k'=>decide (a=k')) with
   | none=>rfl
   | some j=>simp;omega
theorem Md{P:Program}{kt:TypeId}(h:P.underlying kt=some .string):KeyT P kt Value.string where
 chk b k w:=MapKept.run_checkKey h (by simp[MapKept.IsKey]) b 9999
 find k es ks w hk:=by
  unfold Instr.findKey
  simp only[Sem.run_bind,run_underlying h,Result.andThen]
  rw[Yx k es ks 0 hk]
  simp
 stays k w:=by simp[Instr.keyThatStays,Instr.sameBits,ak]
theorem Me{P:Program}{kt:TypeId}{kk:IntKind}(h:P.underlying kt=some (.int kk)):KeyT P kt (Value.int kk) where
 chk b k w:=MapKept.run_checkKey h (by simp[MapKept.IsKey]) b 9999
 find k es ks w hk:=by
  unfold Instr.findKey
  simp only[Sem.run_bind,run_underlying h,Result.andThen]
  rw[Yw k es ks 0 hk]
  simp
 stays k w:=by simp[Instr.keyThatStays,Instr.sameBits]
theorem ib{ek:κ->Value}{ev:α->Value}{k:κ}{d:α}:∀(l:List (κ×α)) (es:List MapEntry),es.map (fun e=>(e.key,e.val))=l.map (fun p=>(ek p.1,ev p.2))->
  (match ((l.map (·.1)).findIdx? fun k'=>decide (k=k')).map fun i=>(i,((es[i]?).map (·.val)).getD undef) with | some p=>p.2 | none=>ev d)=ev (xI l k d)
 | [],[],_=>rfl
 | [],_::_,h=>by simp at h
 | _::_,[],h=>by simp at h
 | p::l,e::es,h=>by
  simp only[List.map_cons,List.cons.injEq,Prod.mk.injEq] at h
  rw[List.map_cons,List.findIdx?_cons]
  unfold xI
  by_cases hk:k=p.1
  ·simp[hk,h.1.2]
  ·simp only[hk,decide_false,Bool.false_eq_true,if_false]
   rw[<- ib l es h.2]
   cases (l.map (·.1)).findIdx? (fun k'=>decide (k=k')) <;> simp
theorem am{k:κ}:∀(l:List (κ×α)),((l.map (·.1)).findIdx? fun k'=>decide (k=k')).isSome=vH l k
 | []=>rfl
 | p::l=>by
  rw[List.map_cons,List.findIdx?_cons]
  unfold vH
  by_cases hk:k=p.1
  ·simp[hk]
  ·simp only[hk,decide_false,Bool.false_eq_true,if_false]
   rw[<- am l]
   cases (l.map (·.1)).findIdx? (fun k'=>decide (k=k')) <;> simp
theorem ic{ek:κ->Value}{ev:α->Value}{k:κ}{v:α}:∀(l:List (κ×α)) (es:List MapEntry) (i:Nat),es.map (fun e=>(e.key,e.val))=l.map (fun p=>(ek p.1,ev p.2))->
  ((l.map (·.1)).findIdx? fun k'=>decide (k=k'))=some i->
  i<es.length/\((es[i]?).map (·.key)).getD undef=ek k/\(es.modify i fun e=>{ e with key:=ek k,val:=ev v }).map (fun e=>(e.key,e.val))=(w6 l k v).map (fun p=>(ek p.1,ev p.2))
 | [],es,i,_,hf=>by simp at hf
 | _::_,[],_,h,_=>by simp at h
 | p::l,e::es,i,h,hf=>by
  simp only[List.map_cons,List.cons.injEq,Prod.mk.injEq] at h
  rw[List.map_cons,List.findIdx?_cons] at hf
  unfold w6
  by_cases hk:k=p.1
  ·subst hk
   simp at hf
   subst hf
   simp[h.1.1,h.2]
  ·simp only[hk,decide_false,Bool.false_eq_true,if_false] at hf
   rw[Option.map_eq_some_iff] at hf
   obtain⟨j,hj,rfl⟩:=hf
   obtain⟨h1,h2,h3⟩:=ic (v:=v) l es j h.2 hj
   refine⟨by simp;omega,by simpa using h2,?_⟩
   rw[if_neg hk,List.modify_succ_cons,List.map_cons,List.map_cons,h3,h.1.1,h.1.2]
theorem ie{k:κ}{v:α}:∀(l:List (κ×α)),((l.map (·.1)).findIdx? fun k'=>decide (k=k'))=none->w6 l k v=l++[(k,v)]
 | [],_=>rfl
 | p::l,hf=>by
  rw[List.map_cons,List.findIdx?_cons] at hf
  unfold w6
  by_cases hk:k=p.1
  ·simp[hk] at hf
  ·simp only[hk,decide_false,Bool.false_eq_true,if_false,Option.map_eq_none_iff] at hf
   rw[if_neg hk,ie l hf];rfl
theorem cr{ek:κ->Value}{ev:α->Value}{l:List (κ×α)}{es:List MapEntry}(h:es.map (fun e=>(e.key,e.val))=l.map (fun p=>(ek p.1,ev p.2))):es.map (·.key)=(l.map (·.1)).map ek:=by
 have:=congrArg (List.map (·.1)) h
 rw[List.map_map,List.map_map] at this
 rw[List.map_map]
 exact this
end
section
variable [Rnd]
variable {P:Program} {n:Nat} {F:List Nat} {Nx:World} {env:List (Nat×Value)} {L R:List Asrt} {d:Option Tmp} {ty:TypeId} {pos:String} {after:Array Edge} {g:Option (Nat×Bool)} {x y z:Operand} {t kt e:TypeId}
 {κ α:Type} [DecidableEq κ] {ek:κ->Value} {ev:α->Value} {l:List (κ×α)} {b:Nat} {k:κ} {v dflt:α} {zv:Value}
theorem kH(ek:κ->Value)(ev:α->Value):nY P n F Nx env L ⟨d,.makeMap t none,ty,pos,after,g⟩ (fun _:Nat=>True) (fun b => .map (some b)) (fun b=>xN b ek ev []::L):=by
 intro a w h
 refine⟨w.heap.size,w.alloc (.map #[] 0),?_,trivial,?_,.alloc _ _⟩
 ·simp[execOp,run_makeMap]
 ·exact Wk.hp (Wk.any (x:=wm w.heap.size (.map #[] 0)) (y:=xN w.heap.size ek ev []) rfl (fun w' hk=>⟨#[],0,hk,rfl,sn.empty⟩) (Wk.refl L)) (h.hp.alloc _)
theorem GP(K:KeyT P kt ek)(ht:P.underlying t=some (.map kt e))(hz:qw P e zv)(hd:zv=ev dflt)(hp:Hp F Nx w L)(hm:Pick L (xN b ek ev l) R):
  (Instr.lookup t (.map (some b)) (ek k) false).run P w = .ok (ev (xI l k dflt)) w:=by
 obtain⟨es,eS,hb,he,jf⟩:=hp.ok _ hm.mem
 have h1:=K.find k es.toList (l.map (·.1)) w (cr he)
 have h2:=ib (ek:=ek) (ev:=ev) (k:=k) (d:=dflt) l es.toList he
 have Dv:=congrFun hz w
 simp only[Instr.lookup,Sem.run_bind,run_underlying ht,Result.andThen,MapKept.run_getObj_map hb,K.chk]
 cases hf:(l.map (·.1)).findIdx? (fun k'=>decide (k=k')) with
 | none=>rw[hf] at h1 h2;simp only[Option.map_none] at h1 h2;simp[h1,Dv,hd,h2]
 | some i=>rw[hf] at h1 h2;simp only[Option.map_some,Array.getElem?_toList] at h1 h2;simp[h1,h2]
theorem G7(K:KeyT P kt ek)(ht:P.underlying t=some (.map kt e))(hz:qw P e zv)(hd:zv=ev dflt)(hp:Hp F Nx w L)(hm:Pick L (xN b ek ev l) R):
  (Instr.lookup t (.map (some b)) (ek k) true).run P w = .ok (.tuple #[ev (xI l k dflt),.bool (vH l k)]) w:=by
 obtain⟨es,eS,hb,he,jf⟩:=hp.ok _ hm.mem
 have h1:=K.find k es.toList (l.map (·.1)) w (cr he)
 have h2:=ib (ek:=ek) (ev:=ev) (k:=k) (d:=dflt) l es.toList he
 have h3:=am (k:=k) l
 have Dv:=congrFun hz w
 simp only[Instr.lookup,Sem.run_bind,run_underlying ht,Result.andThen,MapKept.run_getObj_map hb,K.chk]
 cases hf:(l.map (·.1)).findIdx? (fun k'=>decide (k=k')) with
 | none=>rw[hf] at h1 h2 h3;simp only[Option.map_none] at h1 h2;rw[<- h3];simp[h1,Dv,hd,h2]
 | some i=>rw[hf] at h1 h2 h3;simp only[Option.map_some,Array.getElem?_toList] at h1 h2;rw[<- h3];simp[h1,h2]
theorem jg(K:KeyT P kt ek)(ht:P.underlying t=some (.map kt e))(hz:qw P e zv)[hd:Nu zv (ev dflt)][hx:Nu (eo env x) (some (.map (some b)))][hy:Nu (eo env y) (some (ek k))](hm:Pick L (xN b ek ev l) R):
  Qt P n F Nx env L ⟨d,.lookup t x y false,ty,pos,after,g⟩ (ev (xI l k dflt)):=by
 intro a w h
 simp[execOp,h.eval hx.1,h.eval hy.1,GP K ht hz hd.1 h.hp hm]
theorem GQ(K:KeyT P kt ek)(ht:P.underlying t=some (.map kt e))(hz:qw P e zv)(hd:zv=ev dflt)(hx:eo env x=some (.map (some b)))(hy:eo env y=some (ek k))(hm:Pick L (xN b ek ev l) R):
  Qt P n F Nx env L ⟨d,.lookup t x y true,ty,pos,after,g⟩ (.tuple #[ev (xI l k dflt),.bool (vH l k)]):=by
 intro a w h
 simp[execOp,h.eval hx,h.eval hy,G7 K ht hz hd h.hp hm]
theorem Hp.setMap{l':List (κ×α)}{es':Array MapEntry}{c':Nat}(h:Hp F Nx w L)(hm:Pick L (xN b ek ev l) R)(he:es'.toList.map (fun e=>(e.key,e.val))=l'.map (fun p=>(ek p.1,ev p.2)))(jf:sn es' c'):
  Hp F Nx { w with heap:=w.heap.setIfInBounds b (.map es' c') } (xN b ek ev l'::R):=by
 have nS:b<w.heap.size:=(h.front hm).lt _ (List.mem_cons_self ..) b (by simp[xN])
 refine(h.front hm).upd (x:=xN b ek ev l) (y:=xN b ek ev l') .here rfl ⟨rfl,Nat.le_refl _⟩ rfl (by simp) (fun k _ vQ=>?_) ⟨es',c',by simp[nS],he,jf⟩ ?_
 ·have:b≠k:=fun e=>vQ (by simp[xN,e])
  simp[Array.getElem?_setIfInBounds,this]
 ·intro b' hb'
  simp only[xN,List.mem_singleton] at hb'
  subst hb'
  exact⟨by simpa using nS,.inl (by simp[xN])⟩
theorem kV{vv:Value}(K:KeyT P kt ek)(ht:P.underlying t=some (.map kt e))[hx:Nu (eo env x) (some (.map (some b)))][hy:Nu (eo env y) (some (ek k))][hv:Nu (eo env z) (some vv)][Dw:Nu vv (ev v)](hm:Pick L (xN b ek ev l) R):
  nZ P n F Nx env L ⟨none,.mapUpdate t x y z,ty,pos,after,g⟩ (xN b ek ev (w6 l k v)::R):=by
 have Dw:=Dw.1
 intro a w h
 subst Dw
 obtain⟨es,eS,hb,he,jf⟩:=h.hp.ok _ hm.mem
 have h1:=K.find k es.toList (l.map (·.1)) w (cr he)
 cases hf:(l.map (·.1)).findIdx? (fun k'=>decide (k=k')) with
 | none=>
  rw[hf] at h1
  refine⟨{ w with heap:=w.heap.setIfInBounds b (.map (es.push { key:=ek k,val:=ev v,born:=eS }) (eS+1)) },.inl ?_,h.hp.setMap hm ?_ (jf.push _ _)⟩
  ·simp[execOp,h.eval hx.1,h.eval hy.1,h.eval hv.1,Instr.mapUpdate,Sem.run_bind,run_underlying ht,Result.andThen,MapKept.run_getObj_map hb,K.chk,h1,MapKept.run_setObj_map _ hb]
  ·rw[ie l hf];simp[he]
 | some i=>
  rw[hf] at h1
  obtain⟨i1,i2,i3⟩:=ic (v:=v) l es.toList i he hf
  have Ep:i<es.size:=by simpa using i1
  have i2':((es[i]?).map (·.key)).getD (ek k)=ek k:=by
   have e:es[i]?=some es[i]:=Array.getElem?_eq_getElem Ep
   rw[Array.getElem?_toList,e] at i2
   rw[e];simpa using i2
  refine⟨{ w with heap:=w.heap.setIfInBounds b (.map (es.modify i fun e=>{ e with key:=ek k,val:=ev v }) eS) },.inl ?_,h.hp.setMap hm ?_ (jf.modify _ _ (fun _=>rfl))⟩
  ·simp[execOp,h.eval hx.1,h.eval hy.1,h.eval hv.1,Instr.mapUpdate,Sem.run_bind,run_underlying ht,Result.andThen,MapKept.run_getObj_map hb,K.chk,h1,i2',K.stays,MapKept.run_setObj_map _ hb]
  ·rw[<- i3,Array.toList_modify]
theorem gQ{vv:Value}(K:KeyT P kt ek)(ht:P.underlying t=some (.map kt e))[hx:Nu (eo env x) (some (.map (some b)))][hy:Nu (eo env y) (some (ek k))][hv:Nu (eo env z) (some vv)][Dw:Nu vv (ev v)](hm:Pick L (xN b ek ev l) R):
  nZ P n F Nx env L ⟨none,.insert t x y z,ty,pos,after,g⟩ (xN b ek ev (w6 l k v)::R):=by
 have Dw:=Dw.1
 intro a w h
 subst Dw
 obtain⟨es,eS,hb,he,jf⟩:=h.hp.ok _ hm.mem
 have h1:=K.find k es.toList (l.map (·.1)) w (cr he)
 cases hf:(l.map (·.1)).findIdx? (fun k'=>decide (k=k')) with
 | none=>
  rw[hf] at h1
  refine⟨{ w with heap:=w.heap.setIfInBounds b (.map (es.push { key:=ek k,val:=ev v,born:=eS }) (eS+1)) },.inl ?_,h.hp.setMap hm ?_ (jf.push _ _)⟩
  ·simp[execOp,h.eval hx.1,h.eval hy.1,h.eval hv.1,Instr.mapUpdate,Sem.run_bind,run_underlying ht,Result.andThen,MapKept.run_getObj_map hb,K.chk,h1,MapKept.run_setObj_map _ hb]
  ·rw[ie l hf];simp[he]
 | some i=>
  rw[hf] at h1
  obtain⟨i1,i2,i3⟩:=ic (v:=v) l es.toList i he hf
  have Ep:i<es.size:=by simpa using i1
  have i2':((es[i]?).map (·.key)).getD (ek k)=ek k:=by
   have e:es[i]?=some es[i]:=Array.getElem?_eq_getElem Ep
   rw[Array.getElem?_toList,e] at i2
   rw[e];simpa using i2
  refine⟨{ w with heap:=w.heap.setIfInBounds b (.map (es.modify i fun e=>{ e with key:=ek k,val:=ev v }) eS) },.inl ?_,h.hp.setMap hm ?_ (jf.modify _ _ (fun _=>rfl))⟩
  ·simp[execOp,h.eval hx.1,h.eval hy.1,h.eval hv.1,Instr.mapUpdate,Sem.run_bind,run_underlying ht,Result.andThen,MapKept.run_getObj_map hb,K.chk,h1,i2',K.stays,MapKept.run_setObj_map _ hb]
  ·rw[<- i3,Array.toList_modify]
theorem Y6{r:α}(K:KeyT P kt ek)(ht:P.underlying t=some (.map kt e))(hz:qw P e zv)(hd:zv=ev dflt)(hx:eo env x=some (.map (some b)))(hy:eo env y=some (ek k))(hm:Pick L (xN b ek ev l) R)(hr:xI l k dflt=r:=by rfl):
  Qt P n F Nx env L ⟨d,.lookup t x y false,ty,pos,after,g⟩ (ev r):=hr▸jg K ht hz (hd:=⟨hd⟩) (hx:=⟨hx⟩) (hy:=⟨hy⟩) hm
theorem GT{a b:ByteArray}(hx:eo env x=some (.string a))(hy:eo env y=some (.string b)){t':TypeId}:Qt P n F Nx env L ⟨d,.binOp .eql t x y t',ty,pos,after,g⟩ (.bool (decide (a=b))):=by
 intro a' w h
 simp[execOp,h.eval hx,h.eval hy,eqGuard_at_string,binOp_string_eql,<- beq_toListBytes,ak]
theorem Y7{a b:ByteArray}{r:Bool}(hx:eo env x=some (.string a))(hy:eo env y=some (.string b)){t':TypeId}(hr:decide (a=b)=r:=by decide):Qt P n F Nx env L ⟨d,.binOp .eql t x y t',ty,pos,after,g⟩ (.bool r):=hr▸GT hx hy
def Mf(P:Program)(t f off:Nat)(ft:TypeId):Prop:=∃ fs fd,P.underlying t=some (.struct fs)/\fs[f]?=some fd/\fd.type=ft/\fd.offset=off
theorem Uc{P:Program}{t f off:Nat}{ft:TypeId}{fs:Array Field}{fd:Field}(h:P.underlying t=some (.struct fs))(hf:fs[f]?=some fd)(ht:fd.type=ft)(ho:fd.offset=off):Mf P t f off ft:=⟨fs,fd,h,hf,ht,ho⟩
theorem Mg{f off s:Nat}{ft:TypeId}{cs cs':Array Value}(hf:Mf P t f off ft)(h1:uD P ft s)(hx:eo env x=some (.agg cs))(hv:cs.extract off (off+s)=cs'):Qt P n F Nx env L ⟨d,.field t x f,ty,pos,after,g⟩ (.agg cs'):=by
 intro a w h
 obtain⟨fs,fd,e1,e2,rfl,rfl⟩:=hf
 have h2:=congrFun h1.1 w
 have h3:=congrFun h1.2 w
 simp[execOp,h.eval hx,Instr.field,run_underlying e1,e2,asAgg,part,h2,h3,hv]
end
end
section
variable [Rnd] {P:Program} {n:Nat} {F:List Nat} {Nx:World} {env:List (Nat×Value)} {L Lc Lr R:List Asrt} {eA:Array Oper} {Q:Exit->Act->World->Prop} {eN l:List Oper}
 {dd:Nat} {d:Option Tmp} {ty:TypeId} {pos:String} {after:Array Edge} {g:Option (Nat×Bool)} {x y:Operand} {v u:Value} {t e T:TypeId} {sz sS:Nat}
theorem YV{b sz:Nat}{o j:Int}(h0:0<=o)(h1:0<=j):(⟨b,o.toNat*sz,none⟩:Addr).add (j.toNat*sz)=⟨b,(o+j).toNat*sz,none⟩:=by
 rw[Addr.add_lit,<- Nat.add_mul,Int.toNat_add h0 h1]
theorem P5{α:Type}{ls:List α}{b:Nat}{cs:List Value}{cap:Nat}{i:Int}{lx:Operand}{kk:IntKind}(hg:gd env eA ⟨some dd,.slice t x (some lx) none none,ty,pos,after,g⟩=some true)(eZ:Nat.blt dd n=true)(ht:elT P t e sz sS)(hx:eo env x=some (.slice (some ⟨b,0,none⟩) ls.length cap))(hh:eo env lx=some (.int kk i))(hm:Pick L (row (.slice (some ⟨b,0,none⟩) ls.length cap) e sz cs) R)(hi:0<=i/\i<ls.length)(k:WL P n F Nx eA Q eN ((dd,.slice (some ⟨b,i.toNat*sz,none⟩) (ls.length-i.toNat) (cap-i.toNat))::env) L):
  WL P n F Nx eA Q (⟨some dd,.slice t x (some lx) none none,ty,pos,after,g⟩::eN) env L:=by
 refine N4 (fun w h=>h.rowShape hm) fun hs=>?_
 obtain⟨vL,AW,D1,_⟩:=hs
 refine Oh (n:=n) hg rfl eZ (pK (lo:=i.toNat) (hi:=ls.length) ht hx (lv:=some (.int kk i)) (hv:=none) (fun a w h=>by rw[Option.map_some,h.eval hh]) (fun _ _ _=>rfl) (show i=((i.toNat:Nat):Int) by omega) rfl (h2:=AW) (fun _=>AW)) ?_
 rw[if_neg (by omega),Option.map_some,Addr.add_lit,Nat.zero_add]
 exact k
end
section
variable {o:Oper}{vs cs:List Value}{s:Nat}
section seg
variable [Rnd]
variable {P:Program} {n:Nat} {F:List Nat} {Nx:World} {env:List (Nat×Value)} {L Lc Lr R:List Asrt} {eA:Array Oper} {Q:Exit->Act->World->Prop} {eN:List Oper}
def Qp(i:Nat):List (Nat×Value)->Bool
 | []=>false
 | p::r=>bif Nat.beq i p.1 then true else Qp i r
def aq:Nat->List (Nat×Value)->List (Nat×Value)->Bool
 | 0,_,_=>true
 | _+1,[],_=>true
 | k+1,p::r,e=>bif Qp p.1 e then false else aq k r e
theorem Ku{i:Nat}:∀ {e:List (Nat×Value)},Qp i e=false->lk e i=none
 | [],_=>rfl
 | (j,v)::r,h=>by
  simp only[Qp] at h
  simp only[lk]
  cases hb:Nat.beq i j with
  | true=>rw[hb] at h;simp at h
  | false=>rw[hb] at h;simp at h ⊢;exact Ku h
theorem YW:∀(k:Nat) {kA e:List (Nat×Value)},aq k kA e=true->∀ i v,lk e i=some v->lk (kA.drop k) i=some v->lk kA i=some v
 | 0,kA,e,_,i,v,_,h=>by simpa using h
 | k+1,[],e,_,i,v,_,h=>by simp[lk] at h
 | k+1,(j,u)::r,e,hf,i,v,he,h=>by
  simp only[aq] at hf
  cases hk:Qp j e with
  | true=>rw[hk] at hf;simp at hf
  | false=>
   rw[hk] at hf;simp at hf
   have hij:i≠j:=fun hij=>by subst hij;rw[Ku hk] at he;cases he
   simp only[lk];rw[pm hij];exact YW k hf i v he (by simpa using h)
theorem SS.of{env':List (Nat×Value)}{a:Act}{w:World}(h:SS n F Nx env L a w)(hr:∀ i v,lk env' i=some v->lk env i=some v):SS n F Nx env' L a w:=
 ⟨h.defers,h.size,fun i v hv=>h.ev i v (hr i v hv),h.hp⟩
def XC(n:Nat)(eA:Array Oper):List Oper->List (Nat×Value)->Option (List (Nat×Value))
 | [],e=>some e
 | o::l,e=>match gd e eA o,o.dst with
  | some false,some d=>bif Nat.blt d n then XC n eA l ((d,undef)::e) else none
  | _,_=>none
theorem Pq:∀ {l1 eN:List Oper} {env env':List (Nat×Value)},XC n eA l1 env=some env'->WL P n F Nx eA Q eN env' L->WL P n F Nx eA Q (l1++eN) env L
 | [],eN,env,env',h,k=>by simp only[XC,Option.some.injEq] at h;subst h;exact k
 | o::l1,eN,env,env',h,k=>by
  simp only[XC] at h
  split at h
  ·rename_i d hg hd
   cases hn:Nat.blt d n with
   | false=>rw[hn] at h;simp at h
   | true=>rw[hn] at h;simp only[cond_true] at h;exact WL.e hg hd (eZ:=⟨hn⟩) (Pq h k)
  ·cases h
def pickE(n:Nat)(eA:Array Oper)(env:List (Nat×Value))(o:Oper):Option (Nat×Value):=
 match gd env eA o,o.dst,o.op with
 | some true,some d,.pick c x y=>bif Nat.blt d n then(match eo env c with
  | some (.bool b)=>(eo env (bif b then x else y)).map fun v=>(d,v)
  | _=>none) else none
 | _,_,_=>none
theorem P4{d:Nat}{v:Value}(h:pickE n eA env o=some (d,v))(k:WL P n F Nx eA Q eN ((d,v)::env) L):WL P n F Nx eA Q (o::eN) env L:=by
 obtain⟨dst,op,ty,pos,after,g⟩:=o
 unfold Sep.pickE at h
 split at h
 ·rename_i d' c x y hg hd hop
  simp only at hd hop
  subst hd hop
  cases hn:Nat.blt d' n with
  | false=>rw[hn] at h;simp at h
  | true=>
   rw[hn] at h;simp only[cond_true] at h
   split at h
   ·rename_i b hc
    rw[Option.map_eq_some_iff] at h
    obtain⟨v',hv,he⟩:=h
    injection he with h1 h2;subst h1 h2
    cases b
    ·exact Oh hg rfl hn (qX (hc:=⟨hc⟩) (hy:=⟨hv⟩)) k
    ·exact Oh hg rfl hn (qW (hc:=⟨hc⟩) (hx:=⟨hv⟩)) k
   ·cases h
 ·cases h
theorem Lz{kA e:List (Nat×Value)}{pd:Nat}{y B:Bool}{M L':List Asrt}(hB:y=B)[hk:Nu (aq (kA.length-e.length) kA e) true](he:kA.drop (kA.length-e.length)=e)(hL:Sel L L' M):
  WL P n F Nx eA (Exit.then (fun a w=>∃ _g:Unit,True/\SS n F Nx ((pd,.bool B)::e) L' a w) Q) [] ((pd,.bool y)::kA) L:=by
 subst hB
 intro a w h
 refine⟨(),trivial,(h.of (env':=(pd,.bool y)::e) fun i v hv=>?_).drop hL⟩
 simp only[lk] at hv ⊢
 cases hb:Nat.beq i pd with
 | true=>rw[hb] at hv;simpa using hv
 | false=>rw[hb] at hv;simp only[cond_false] at hv ⊢;exact YW _ hk.1 i v hv (by rw[he];exact hv)
theorem Ly(xD:Bool)(m sl:Nat){pd:Nat}{b B:Bool}{l:List Oper}{e':List (Nat×Value)}[hlk:Nu (lk env sl) (some (.bool b))][hm:Nu l[m]? (some o)][hsk:Nu (XC n eA (l.take m) ((sl,.bool (!xD))::env)) (some e')][hpk:Nu (pickE n eA e' o) (some (pd,.bool (!xD)))][hf:Nu (aq (e'.length-env.length-1) e' ((sl,.bool (!xD))::env)) true][he:Nu (e'.drop (e'.length-env.length-1)) ((sl,.bool (!xD))::env)](k1:∀ Q',b=xD->WL P n F Nx eA (Exit.then (fun a w=>∃ _g:Unit,True/\SS n F Nx ((pd,.bool B)::(sl,.bool xD)::env) L a w) Q') (l.take (m+1)) ((sl,.bool xD)::env) L)(k2:WL P n F Nx eA Q (l.drop (m+1)) ((pd,.bool B)::env) L)(hB:b = !xD->B = !xD:=by exact fun h=>(kR h).symm):WL P n F Nx eA Q l env L:=by
 have hlk:=hlk.1
 have hm:=hm.1
 have hsk:=hsk.1
 have hpk:=hpk.1
 have hf:=hf.1
 have he:=he.1
 have vB:∀ c,b=c->∀ i v,lk env i=some v->lk ((sl,.bool c)::env) i=some v:=fun c hc i v hv=>by
  simp only[lk]
  cases hb:Nat.beq i sl with
  | false=>simpa using hv
  | true=>
   have:i=sl:=Nat.eq_of_beq_eq_true hb
   subst this;rw[hlk] at hv;rw[<- hc];simpa using hv
 have hpd:∀ c,b=c->∀ i v,lk ((pd,.bool B)::env) i=some v->lk ((pd,.bool B)::(sl,.bool c)::env) i=some v:=fun c hc i v hv=>by
  unfold lk at hv ⊢
  cases hb:Nat.beq i pd with
  | true=>rw[hb] at hv;simpa using hv
  | false=>rw[hb] at hv;simp only[cond_false] at hv ⊢;exact vB c hc i v hv
 have Es:∀ c,b=c->∀ a w,SS n F Nx env L a w->SS n F Nx ((sl,.bool c)::env) L a w:=fun c hc a w h=>h.of fun i v hv=>by
  simp only[lk] at hv
  cases hb:Nat.beq i sl with
  | false=>rw[hb] at hv;simpa using hv
  | true=>
   have:i=sl:=Nat.eq_of_beq_eq_true hb
   subst this;rw[hb] at hv;simp only[cond_true] at hv;rw[<- hv,<- hc];exact hlk
 refine Oz (G:=Unit) (fun _=>True) (fun _=>(pd,.bool B)::env) (fun _=>L) (m+1) ?_ (fun _ _=>k2)
 by_cases hb:b=xD
 ·refine Oz (G:=Unit) (fun _=>True) (fun _=>(pd,.bool B)::(sl,.bool xD)::env) (fun _=>L) (m+1) ?_ (fun _ _=>?_)
  ·rw[List.take_take,Nat.min_self]
   exact fun a w h=>k1 _ hb a w (Es xD hb a w h)
  ·rw[List.drop_eq_nil_of_le (by simp;omega)]
   exact fun a w h=>⟨(),trivial,h.of (hpd xD hb)⟩
 ·have hb':b = !xD:=by cases b <;> cases xD <;> simp_all
  have Cc:l.take (m+1)=l.take m++[o]:=by rw[List.take_add_one,hm];rfl
  rw[Cc]
  intro a w h
  refine(Pq hsk (P4 hpk ?_)) a w (Es _ hb' a w h)
  intro a w h
  refine⟨(),trivial,h.of fun i v hv=>?_⟩
  have h1:=hpd _ hb' i v hv
  rw[hB hb'] at h1
  simp only[lk] at h1 ⊢
  cases Et:Nat.beq i pd with
  | true=>rw[Et] at h1;simpa using h1
  | false=>
   rw[Et] at h1;simp only[cond_false] at h1 ⊢
   refine YW _ hf i v (by simpa only [lk] using h1) ?_
   rw[he];simpa only [lk] using h1
end seg
section pu
variable [Rnd]
variable {P:Program} {n:Nat} {F:List Nat} {Nx:World} {env:List (Nat×Value)} {L Lc Lr R:List Asrt} {eA:Array Oper} {Q:Exit->Act->World->Prop} {eN:List Oper}
def MZ:BinOp->IntKind->Int->Int->Option Value
 | .add,k,p,q=>some (.int k (k.wrap (p+q)))
 | .sub,k,p,q=>some (.int k (k.wrap (p-q)))
 | .mul,k,p,q=>some (.int k (k.wrap (p*q)))
 | .lss,_,p,q=>some (.bool (decide (p<q)))
 | .leq,_,p,q=>some (.bool (decide (p<=q)))
 | .gtr,_,p,q=>some (.bool (decide (p>q)))
 | .geq,_,p,q=>some (.bool (decide (p>=q)))
 | .eql,_,p,q=>some (.bool (decide (p=q)))
 | .neq,_,p,q=>some (.bool (decide (p≠q)))
 | _,_,_,_=>none
def puV(env:List (Nat×Value)):Op->Option Value
 | .move x=>eo env x
 | .assign x=>eo env x
 | .pick c x y=>match eo env c with
  | some (.bool true)=>eo env x
  | some (.bool false)=>eo env y
  | _=>none
 | .extract x i=>match eo env x with
  | some (.tuple vs)=>vs.toList[i]?
  | _=>none
 | .unOp .not _ x=>match eo env x with
  | some (.bool b)=>some (.bool (!b))
  | _=>none
 | .binOp op _ x y _=>match eo env x,eo env y with
  | some (.int k p),some (.int k' q)=>if k=k' then MZ op k p q else none
  | _,_=>none
 | _=>none
def puE(n:Nat)(eA:Array Oper)(env:List (Nat×Value))(o:Oper):Option (Nat×Value):=
 match gd env eA o,o.dst with
 | some true,some d=>bif Nat.blt d n then(match puV env o.op with | some v=>some (d,v) | none=>none) else none
 | _,_=>none
theorem puV_q{op:Op}{v:Value}{d:Option Tmp}{ty:TypeId}{pos:String}{after:Array Edge}{g:Option (Nat×Bool)}(h:puV env op=some v):Qt P n F Nx env L ⟨d,op,ty,pos,after,g⟩ v:=by
 cases op <;> simp only[puV] at h <;> try cases h
 case move x=>exact q_m (hx:=⟨h⟩)
 case assign x=>exact q_z (hx:=⟨h⟩)
 case pick c x y=>
  split at h
  ·rename_i hc;exact qW (hc:=⟨hc⟩) (hx:=⟨h⟩)
  ·rename_i hc;exact qX (hc:=⟨hc⟩) (hy:=⟨h⟩)
  ·cases h
 case extract x i=>
  split at h
  ·rename_i vs hx;exact fF (vs:=vs.toList) (hx:=⟨(by rw[hx])⟩) (hi:=⟨h⟩)
  ·cases h
 case unOp o t x=>
  cases o <;> simp only[puV] at h <;> try cases h
  split at h
  ·rename_i b hx;injection h with h;subst h;exact Xz hx
  ·cases h
 case binOp o t x y t'=>
  split at h
  ·rename_i k p k' q hx hy
   split at h
   ·rename_i hk;subst hk
    cases o <;> simp only[MZ] at h <;> try cases h
    ·exact uC (hx:=⟨hx⟩) (hy:=⟨hy⟩)
    ·exact td (hx:=⟨hx⟩) (hy:=⟨hy⟩)
    ·exact sZ (hx:=⟨hx⟩) (hy:=⟨hy⟩)
    ·exact e8 hx hy
    ·exact Xy hx hy
    ·exact ra (hx:=⟨hx⟩) (hy:=⟨hy⟩)
    ·exact G4 hx hy
    ·exact pJ (hx:=⟨hx⟩) (hy:=⟨hy⟩)
    ·exact Q5 hx hy
   ·cases h
  ·cases h
theorem La{d:Nat}{v:Value}(h:puE n eA env o=some (d,v))(k:WL P n F Nx eA Q eN ((d,v)::env) L):WL P n F Nx eA Q (o::eN) env L:=by
 obtain⟨dst,op,ty,pos,after,g⟩:=o
 cases hg:gd env eA ⟨dst,op,ty,pos,after,g⟩ with
 | none=>simp[puE,hg] at h
 | some b=>
 cases b with
 | false=>simp[puE,hg] at h
 | true=>
 cases dst with
 | none=>simp[puE,hg] at h
 | some d'=>
  simp only[puE,hg] at h
  cases hn:Nat.blt d' n with
  | false=>rw[hn] at h;simp at h
  | true=>
   rw[hn] at h;simp only[cond_true] at h
   split at h
   ·rename_i v' hv
    injection h with h;injection h with h1 h2;subst h1 h2
    exact Oh hg rfl hn (puV_q hv) k
   ·cases h
end pu
theorem ry[h:Nu (vs.all fun u=>u.oneCell') true]:∀ u∈vs,u.oneCell'=true:=List.all_eq_true.1 h.1
section st
variable [Rnd]
variable {P:Program} {n:Nat} {F:List Nat} {Nx:World} {env:List (Nat×Value)} {L Lc Lr R:List Asrt} {eA:Array Oper} {Q:Exit->Act->World->Prop} {eN:List Oper}
 {d:Option Tmp} {ty:TypeId} {pos:String} {after:Array Edge} {g:Option (Nat×Bool)} {v u:Value} {x y:Operand} {t T:TypeId}
theorem xP{b:Nat}(hT:kM P t s)[hx:Nu (eo env x) (some (.pointer (some ⟨b,0,none⟩)))][hy:Nu (eo env y) (some v)][hv:Nu v.cells vs.toArray](hm:Pick L (stb b T cs) R)[hl:Nu (Nat.beq cs.length vs.length) true][hs:Nu (Nat.beq vs.length s) true][h1:Nu (vs.all fun u=>u.oneCell') true]:
  nZ P n F Nx env L ⟨none,.store t x y,ty,pos,after,g⟩ (stb b T vs::R):=by
 have hx:=hx.1
 have hy:=hy.1
 have hv:=hv.1
 have hl:=hl.1
 have hs:=Nat.eq_of_beq_eq_true hs.1
 have h1:=h1.1
 have sF:=Nat.eq_of_beq_eq_true hl
 refine Kr hT hx hy hv hs (ry (h:=⟨h1⟩)) hm (by omega) ?_
 simp[uE,<- sF]
theorem jh{b off:Nat}{ds:List Value}(hT:kM P t s)[hx:Nu (eo env x) (some (.pointer (some ⟨b,off,none⟩)))][hy:Nu (eo env y) (some v)][hv:Nu v.cells vs.toArray][hs:Nu (Nat.beq vs.length s) true][h1:Nu (vs.all fun u=>u.oneCell') true](hm:Pick L (stb b T cs) R)[wc:Nu (Nat.ble (off+s) cs.length) true][AK:Nu (uE cs off vs) ds]:
  nZ P n F Nx env L ⟨none,.store t x y,ty,pos,after,g⟩ (stb b T ds::R):=Kr hT hx.1 hy.1 hv.1 (Nat.eq_of_beq_eq_true hs.1) (ry (h:=⟨h1.1⟩)) hm (Nat.le_of_ble_eq_true wc.1) AK.1
theorem xK{A:Addr}(hT:uD P t s)[hx:Nu (eo env x) (some (.pointer (some A)))](hR:∀ w,Hp F Nx w L->∀ j u,cs[j]?=some u->w.cell? (A.add j)=some u)[hl:Nu (Nat.beq cs.length s) true]:
  Qt P n F Nx env L ⟨d,.load t x,ty,pos,after,g⟩ (.agg cs.toArray):=wn hT (hx:=⟨hx.1⟩) (hl:=⟨Eq.mpr Nat.beq_eq (Nat.eq_of_beq_eq_true hl.1)⟩) hR
end st
end
end Sep
namespace Sep
open Go Go.RowKit Go.Sort Go.Proofs
section
section plain
variable {α:Type}
def rz(p:α->α->Option Int)(x y:α):Int:=(p x y).getD 0
def pM(p:α->α->Option Int)(x:α):List α->List α
 | []=>[x]
 | y::l=>if rz p x y<=0 then x::y::l else y::pM p x l
def wx(p:α->α->Option Int):List α->List α
 | []=>[]
 | x::l=>pM p x (wx p l)
theorem eB(p:α->α->Option Int)(x:α)(l:List α):(pM p x l).Perm (x::l):=by
 induction l with
 | nil=>exact .refl _
 | cons y l ih=>
  unfold pM
  split
  ·exact .refl _
  ·exact(ih.cons y).trans (.swap x y l)
theorem jS(p:α->α->Option Int)(l:List α):(wx p l).Perm l:=by
 induction l with
 | nil=>exact .refl _
 | cons x l ih=>exact(eB p x _).trans (ih.cons x)
theorem tv(p:α->α->Option Int)(l:List α):(wx p l).length=l.length:=(jS p l).length_eq
def Qr[DecidableEq α](p:α->α->Option Int):List α->Bool
 | []=>true
 | x::l=>l.all (fun y=>x == y||(decide (rz p x y<0) && !decide (rz p y x<0)))&&Qr p l
def oq[DecidableEq α](p:α->α->Option Int)(r:List α):Bool:=
 (r.all fun x=>(r.all fun y=>(p x y).isSome) && !decide (rz p x x<0))&&Qr p r
theorem eC[DecidableEq α](p:α->α->Option Int)(r:List α):Qr p r=true↔r.Pairwise (fun x y=>x=y\/(rz p x y<0/\¬rz p y x<0)):=by
 induction r with
 | nil=>simp[Qr]
 | cons x l ih=>simp[Qr,ih,List.pairwise_cons]
theorem Ww[DecidableEq α]{p:α->α->Option Int}{r:List α}(h:oq p r=true){x y:α}(hx:x∈r)(hy:y∈r):(rz p x y<0)↔r.idxOf x<r.idxOf y:=by
 simp only[oq,Bool.and_eq_true,List.all_eq_true,Bool.not_eq_true',decide_eq_false_iff_not,eC] at h
 obtain⟨h1,h2⟩:=h
 have ix:=List.idxOf_lt_length_of_mem hx
 have iy:=List.idxOf_lt_length_of_mem hy
 have gx:r[r.idxOf x]=x:=List.getElem_idxOf ix
 have gy:r[r.idxOf y]=y:=List.getElem_idxOf iy
 rw[List.pairwise_iff_getElem] at h2
 constructor
 ·intro hl
  rcases Nat.lt_trichotomy (r.idxOf x) (r.idxOf y) with h3 | h3 | h3
  ·exact h3
  ·exfalso
   have:x=y:=by rw[<- gx,<- gy];simp only[h3]
   subst this
   exact(h1 x hx).2 hl
  ·exfalso
   rcases h2 _ _ iy ix h3 with h4 | ⟨_,h4⟩
   ·rw[gx,gy] at h4;subst h4;omega
   ·rw[gx,gy] at h4;exact h4 hl
 ·intro h3
  rcases h2 _ _ ix iy h3 with h4 | ⟨h4,_⟩
  ·rw[gx,gy] at h4;subst h4;omega
  ·rw[gx,gy] at h4;exact h4
theorem GV[DecidableEq α]{p:α->α->Option Int}{r:List α}(h:oq p r=true){x y:α}(hx:x∈r)(hy:y∈r):p x y=some (rz p x y):=by
 simp only[oq,Bool.and_eq_true,List.all_eq_true] at h
 have:=(h.1 x hx).1 y hy
 unfold rz
 cases hp:p x y with
 | none=>rw[hp] at this;cases this
 | some v=>rfl
end plain
theorem Mh{α:Type}[Inhabited α]{enc:α->List Value}{k:Nat}(hk:∀ x,(enc x).length=k)(h0:0<k)(d:Array α):flatK enc k d=(d.toList.flatMap enc).toArray:=by
 have hs:(flatK enc k d).size=(d.toList.flatMap enc).toArray.size:=by simp[pp hk,-List.length_flatMap]
 apply Array.ext hs
 intro i h1 h2
 have hi:i<d.size*k:=by simpa using h1
 have hd:i / k<d.size:=(Nat.div_lt_iff_lt_mul h0).2 hi
 have hm:i % k<(enc d[i / k]!).length:=by rw[hk];exact Nat.mod_lt _ h0
 have e1:(flatK enc k d)[i]=(flatK enc k d)[i]!:=by rw[getElem!_pos _ i h1]
 have e2:(d.toList.flatMap enc)[i]?=some (enc d[i / k]!)[i % k]:=by
  rw[iJ hk h0]
  rw[List.getElem?_eq_getElem (by simpa using hd)]
  simp only[oB,Array.getElem_toList]
  simp only[getElem!_pos d (i / k) hd] at hm ⊢
  exact List.getElem?_eq_getElem hm
 rw[e1,get_flatK _ _ _ _ hi,List.getElem_toArray]
 have e3:=List.getElem?_eq_some_iff.1 e2
 obtain⟨_,e3⟩:=e3
 rw[e3,getElem!_pos (enc d[i / k]!) _ hm]
variable [Rnd]
theorem Ud{Z:Zp}{w w':World}(h:∀ p∈Z,w'.heap[p.1]?=w.heap[p.1]?)(hz:pV Z w):pV Z w':=fun p hp=>by rw[h p hp];exact hz p hp
theorem Hp.asGrow{w w':World}(h:Hp [] w w' []):∃ q os',w'=grow (w.drewN q) os':=by
 refine⟨w'.drawn-w.drawn,w'.heap.extract w.heap.size w'.heap.size,?_⟩
 have hd:=h.tape.d
 have As:w'.heap=w.heap++w'.heap.extract w.heap.size w'.heap.size:=by
  apply Array.ext_getElem?
  intro k
  rw[Array.getElem?_append]
  split
  ·rename_i hk
   exact h.block k hk (by simp)
  ·rename_i hk
   rw[Array.getElem?_extract]
   have:=h.size
   by_cases h2:k<w'.heap.size
   ·rw[if_pos (by omega),show w.heap.size+(k-w.heap.size)=k by omega]
   ·rw[if_neg (by omega),Array.getElem?_eq_none (by omega)]
 obtain⟨hp,tp,dr,os,out⟩:=w'
 simp only[grow,World.drewN] at *
 have e1:=h.os;have e2:=h.tape.t;have e3:=h.output
 simp only at e1 e2 e3 hd
 rw[<- As,e1,e2,e3]
 congr 1
 omega
theorem ig{α:Type}[DecidableEq α]{P:Program}{f:FuncId}{e:TypeId}{k:Nat}{enc:α->List Value}(h1:∀ x,∀ v∈enc x,v.oneCell'=true)(hS:∀(β:Type) [Inhabited β] (enc:β->List Value) (cf:β->β->Int) (g:Nat) (cb:Array Value) (_:SWO (ltOf cf)) (wm off cap:Nat) (d0:Array β) (w0:World)
   (_:∀ args w,(callFunc g args).run P w = .ok (.enter g args) w) (_:CmpLays P g cb enc k cf wm off d0.size w0) (_:RowK enc k w0 wm off d0)
   (N a b kI:Nat) (d:Array β) (w:World),b-a<N->d0.size=d.size->SWK enc k w0 wm off d w->a<=b->b<=d.size->d.size<4611686018427387904->kI<4611686018427387904->Below (ltOf cf) a b d->
   Calls P f #[.slice (some ⟨wm,off,none⟩) d.size cap,.int .i64 a,.int .i64 b,.int .i64 kI,.func (.func g) #[] cb] w fun e w'=>e = .returned (.tuple #[])/\SWK enc k w0 wm off (pdq (ltOf cf) d a b kI true true) w')(hN:∀(p:Option Addr) (cap:Nat) (zk:Int) (fv:Value) (w:World),Calls P f #[.slice p 0 cap,.int .i64 0,.int .i64 0,.int .i64 zk,fv] w fun e w'=>e = .returned (.tuple #[])/\w'=w){Z:Zp}{ao:Option Addr}{cap:Nat}{Bj:FuncId}{caps:List Value}{l r:List α}{a b zk:Int}{p:α->α->Option Int}{Nx:World}(hz:PZ (fps [row (.slice ao l.length cap) e k (l.flatMap enc)]) Nx Z)(Du:∀ args w,(callFunc Bj args).run P w = .ok (.enter Bj args) w)(hf:∀ w:World,PZ [] w Z->∀(x0 x1:α) (r:Int),p x0 x1=some r->Calls P Bj (([.agg (enc x0).toArray,.agg (enc x1).toArray]:List Value)++caps).toArray w fun e w'=>e = .returned (.int .i64 r)/\Hp [] w w' [])(hb:(a=0/\b=((l.length:Nat):Int))/\(0<=zk/\zk<4611686018427387904/\l.length<4611686018427387904))(ho:oq p (wx p l)=true)(hr:r=wx p l)(eO:Hp (fps [row (.slice ao l.length cap) e k (l.flatMap enc)]) Nx Nx [row (.slice ao l.length cap) e k (l.flatMap enc)])(hk:∀ x,(enc x).length=k:=by exact fun _=>U)(h0:0<k:=by decide):
  Calls P f #[.slice ao l.length cap,.int .i64 a,.int .i64 b,.int .i64 zk,.func (.func Bj) #[] caps.toArray] Nx fun en w'=>en = .returned (.tuple #[])/\(r.length=l.length)/\Hp (fps [row (.slice ao l.length cap) e k (l.flatMap enc)]) Nx w' [row (.slice ao r.length cap) e k (r.flatMap enc)]:=by
 obtain⟨⟨rfl,rfl⟩,hl1,CZ,eW⟩:=hb
 have Cl:r.length=l.length:=by rw[hr,tv]
 by_cases Eu:l.length=0
 ·have:l=[]:=List.eq_nil_of_length_eq_zero Eu
  subst this
  subst hr
  refine(hN ao cap zk _ Nx).mono ?_
  rintro en w' ⟨rfl,rfl⟩
  exact⟨rfl,rfl,eO⟩
 obtain⟨n,Ci,hv⟩:=eO.ok (row (.slice ao l.length cap) e k (l.flatMap enc)) (by simp)
 rcases hv with⟨hv,hn⟩ | ⟨bb,li,kA,hv,_,hh,zr,zj,zU,Ap⟩
 ·injection hv with _ e2 _;omega
 injection hv with e1 e2 e3
 subst e1 e2 e3
 have hbk:=eO.lt (row (.slice (some ⟨bb,0,none⟩) l.length cap) e k (l.flatMap enc)) (by simp) bb (by simp[row,Value.ownBlock])
 let β:={x:α // x∈l}
 haveI:Inhabited β:=⟨⟨l[0]'(by omega),List.getElem_mem _⟩⟩
 let wo:β->List Value:=fun x=>enc x.1
 let cf:β->β->Int:=fun x y=>rz p x.1 y.1
 have oH:∀ x:β,x.1∈wx p l:=fun x=>(jS p l).mem_iff.2 x.2
 have nS:∀ x y:β,ltOf cf x y=true↔(wx p l).idxOf x.1<(wx p l).idxOf y.1:=fun x y=>by
  rw[<- Ww ho (oH x) (oH y)];simp[ltOf,cf]
 have hlf:∀ x y:β,ltOf cf x y=false↔¬(wx p l).idxOf x.1<(wx p l).idxOf y.1:=fun x y=>by
  rw[<- nS x y];cases ltOf cf x y <;> simp
 have hO:SWO (ltOf cf):=by
  refine⟨fun x=>?_,fun x y z h1 h2=>?_,fun x y z h1 h2=>?_⟩
  ·rw[hlf];omega
  ·rw[nS] at h1 h2 ⊢;omega
  ·rw[hlf] at h1 h2 ⊢;omega
 have hU:∀ x y:β,ltOf cf x y=false->ltOf cf y x=false->x=y:=fun x y h1 h2=>by
  rw[hlf] at h1 h2
  have e1:(wx p l).idxOf x.1=(wx p l).idxOf y.1:=by omega
  apply Subtype.ext
  have ix:=List.idxOf_lt_length_of_mem (oH x)
  have iy:=List.idxOf_lt_length_of_mem (oH y)
  rw[<- List.getElem_idxOf ix,<- List.getElem_idxOf iy]
  simp only[e1]
 let d:Array β:=l.attach.toArray
 have AK:d.size=l.length:=by show List.length l.attach=l.length;exact List.length_attach
 have Cd:d.toList.flatMap wo=l.flatMap enc:=by
  show l.attach.flatMap (fun x=>enc x.1)=_
  have h3:=congrArg (List.flatMap enc) (List.attach_map_subtype_val l)
  rw[List.flatMap_map] at h3
  exact h3
 have D0:∀ d:Array β,flatK wo k d=(d.toList.flatMap wo).toArray:=fun d=>Mh (fun x=>hk x.1) h0 d
 have hll:(l.flatMap enc).length=l.length*k:=pp hk l
 have hck:l.length*k<=cap*k:=Nat.mul_le_mul_right k zr
 have Ds:∀ j,j<l.length*k->kA[j]?=(l.flatMap enc)[j]?:=by
  intro j hj
  rw[<- Ap,List.getElem?_take,if_pos (by omega)]
  simp
 have hH:HoldsK wo k Nx bb 0 d:=by
  intro j hj
  have Ek:j<l.length*k:=by rw[size_flatK,AK] at hj;exact hj
  refine⟨?_,?_⟩
  ·rw[Nat.zero_add,cell_of_row Nx bb j _ e (0,0) hh,Ds j Ek,getElem!_pos _ j hj]
   simp only[D0,Cd,id,List.getElem_toArray]
   exact List.getElem?_eq_getElem (by omega)
  ·simp[World.frozen?,hh,Nat.zero_add]
 have As:∀(m:Nat) (os:Array Obj) (dk:Array β) (k':Nat),(sortWorldK wo k Nx bb 0 m dk os).heap[k']?=if k'=bb then some (.cells (putCells id 0 (flatK wo k dk) kA) e (0,0)) else if k'<Nx.heap.size then Nx.heap[k']? else os[k'-Nx.heap.size]?:=by
  intro m os dk k'
  simp only[sortWorldK,putRowK,grow,putRow,mapBlock,Sort.ahead,Array.getElem?_append,Array.size_modify,Array.getElem?_modify]
  by_cases hk:k'=bb
  ·subst hk
   have hh2:=(Array.getElem?_eq_some_iff.1 hh).2
   simp[hbk,hh2,onCells]
  ·have:¬bb=k':=fun h=>hk h.symm
   simp[hk,this]
 have iL:∀(m:Nat) (os:Array Obj) (dk:Array β),(sortWorldK wo k Nx bb 0 m dk os).heap.size=Nx.heap.size+os.size:=by
  intro m os dk
  simp[sortWorldK,putRowK,grow,putRow,mapBlock,Sort.ahead]
 have hZ:∀(m:Nat) (os:Array Obj) (dk:Array β),PZ [] (sortWorldK wo k Nx bb 0 m dk os) Z:=by
  intro m os dk
  refine⟨Ud (w:=Nx) (fun q hq=>?_) hz.1,fun _ _=>by simp⟩
  rw[As]
  have h3:q.1≠bb:=by
   intro h4
   exact hz.2 q hq (by rw[h4];simp[row,Value.ownBlock])
  rw[if_neg h3,if_pos (hz.1.lt q hq)]
 have hC:CmpLays P Bj caps.toArray wo k cf bb 0 d.size Nx:=by
  intro m os dk hdk x y
  have h:=hf _ (hZ m os dk) x.1 y.1 _ (GV ho (oH x) (oH y))
  have ea:(([.agg (enc x.1).toArray,.agg (enc y.1).toArray]:List Value)++caps).toArray = #[.agg (wo x).toArray,.agg (wo y).toArray]++caps.toArray:=by simp[wo]
  rw[ea] at h
  refine h.mono ?_
  rintro en w' ⟨rfl,hp⟩
  exact⟨rfl,hp.asGrow⟩
 have hR:RowK wo k Nx bb 0 d:=⟨fun x=>hk x.1,fun x=>h1 x.1,hH,hbk⟩
 have hlm:((zk.toNat:Nat):Int)=zk:=Int.toNat_of_nonneg hl1
 have hc:=hS β wo cf Bj caps.toArray hO bb 0 cap d Nx Du hC hR (d.size+1) 0 d.size zk.toNat d Nx (by omega) rfl (SWK.start hH) (Nat.zero_le _) (Nat.le_refl _) (by omega) (by omega) (Or.inl rfl)
 rw[hlm,AK] at hc
 refine hc.mono ?_
 rintro en w' ⟨rfl,m,os,rfl⟩
 refine⟨rfl,Cl,?_⟩
 have hp:=pdq_sorts (ltOf cf) hO d 0 d.size zk.toNat true true (Nat.zero_le _) (Nat.le_refl _) (Or.inl rfl)
 rw[AK] at hp
 generalize hd':pdq (ltOf cf) d 0 l.length zk.toNat true true=d' at hp ⊢
 have hs':d'.size=l.length:=hp.1.1.trans AK
 have hu1:=sorted_unique_holds hO hU d d' (by rw[AK];exact hp.1) (by rw[AK];exact hp.2)
 have tN:d'.toList.Perm l.attach:=by rw[hu1];exact(List.mergeSort_perm _ _)
 have Cn:(d'.toList.map (·.1))=r:=by
  have zw:(d'.toList.map (·.1)).Perm (wx p l):=by
   refine(tN.map _).trans ?_
   rw[List.attach_map_subtype_val]
   exact(jS p l).symm
  have hw1:(d'.toList.map (·.1)).Pairwise fun x y=>¬rz p y x<0:=by
   rw[List.pairwise_map,List.pairwise_iff_getElem]
   intro i j hi hj hij
   have h3:=hp.2 i j (Nat.zero_le _) hij (by rw[<- hs'];simpa using hj)
   rw[getElem!_pos d' j (by simpa using hj),getElem!_pos d' i (by simpa using hi)] at h3
   simpa [ltOf,cf] using h3
  have AD:(wx p l).Pairwise fun x y=>¬rz p y x<0:=by
   have h3:=ho
   simp only[oq,Bool.and_eq_true,List.all_eq_true,Bool.not_eq_true',decide_eq_false_iff_not,eC] at h3
   refine(List.Pairwise.imp_of_mem ?_ h3.2)
   intro x y hx hy hxy
   rcases hxy with rfl | hxy
   ·exact(h3.1 x hx).2
   ·exact hxy.2
  rw[hr]
  refine List.Perm.eq_of_pairwise (le:=fun x y=>¬rz p y x<0) ?_ hw1 AD zw
  intro x y hx hy h3 h4
  have hx':x∈wx p l:=zw.mem_iff.1 hx
  have hy':y∈wx p l:=by first | exact hy | exact zw.mem_iff.1 hy
  rw[Ww ho hy' hx'] at h3
  rw[Ww ho hx' hy'] at h4
  have ix:=List.idxOf_lt_length_of_mem hx'
  have iy:=List.idxOf_lt_length_of_mem hy'
  rw[<- List.getElem_idxOf ix,<- List.getElem_idxOf iy]
  simp only[show(wx p l).idxOf x=(wx p l).idxOf y by omega]
 have hrf:flatK wo k d'=(r.flatMap enc).toArray:=by
  rw[D0,<- Cn,List.flatMap_map]
 have hrk:r.length*k=l.length*k:=by rw[Cl]
 have Ew:(r.flatMap enc).length=r.length*k:=pp hk r
 refine⟨rfl,⟨rfl,by simp[sortWorldK,putRowK,grow,putRow,mapBlock,Sort.ahead]⟩,rfl,by rw[iL];omega,?_,?_,?_,?_,by simp⟩
 ·intro k' vQ hf
  rw[As]
  have:k'≠bb:=by rintro rfl;exact hf (by simp[row,Value.ownBlock])
  simp[this,vQ]
 ·intro x hx
  simp only[List.mem_singleton] at hx;subst hx
  refine⟨r.length,Ew,.inr ⟨bb,cap,putCells id 0 (flatK wo k d') kA,rfl,Nat.zero_le _,by rw[As];simp,by omega,zj,by simp[putCells];omega,?_⟩⟩
  apply List.ext_getElem?
  intro j
  rw[List.getElem?_take,hrf]
  by_cases hj:j<r.length*k
  ·rw[if_pos hj]
   have hjc:j<kA.size:=by omega
   simp only[putCells,Array.getElem?_toList,Array.getElem?_mapIdx,Array.getElem?_eq_getElem hjc,Option.map_some]
   rw[if_pos ⟨Nat.zero_le _,by simp only[List.size_toArray];omega⟩,Nat.sub_zero,getElem!_pos _ j (by simp only[List.size_toArray];omega)]
   simp only[id,List.getElem_toArray]
   exact(List.getElem?_eq_getElem (by omega)).symm
  ·rw[if_neg hj,List.getElem?_eq_none (by omega)]
 ·intro x hx b' hb'
  simp only[List.mem_singleton] at hx;subst hx
  simp[row,Value.ownBlock] at hb'
  subst hb'
  rw[iL];omega
 ·intro x hx b' hb'
  simp only[List.mem_singleton] at hx;subst hx
  simp[row,Value.ownBlock] at hb'
  subst hb'
  exact .inl (by simp[row,Value.ownBlock])
end
end Sep
namespace Sep
open Go Go.RowKit
section
def rY(i:Nat)(je:Array Bool)(o:Oper):Array Bool:=je.push (o.after.any fun e=>Region.binds .any e&&(Nat.beq e.on i||je.getD e.on false))
def Ve(i:Nat)(oi:Oper)(eA:Array Oper)(tl:Nat->Bool):List Oper->List Bool->Nat->Nat->Bool
 | [],[],_,_=>true
 | oj::os,lj::ls,j,W=>
  if (oj.after.any fun e=>Region.binds .any e&&(Nat.beq e.on i||Nat.testBit W e.on)) then !lj&&Ve i oi eA tl os ls (j+1) (W ||| (1 <<< j))
  else(Nat.beq j i||lj||(oi.apart eA oj && !tl j))&&Ve i oi eA tl os ls (j+1) W
 | _,_,_,_=>false
def U0(eA:Array Oper)(tl:Nat->Bool)(listed:Array Bool)(i:Nat):Bool:=
 match eA[i]? with
 | none=>false
 | some oi=>Ve i oi eA tl eA.toList listed.toList 0 0
theorem Qs{i:Nat}{oi:Oper}{eA:Array Oper}{tl:Nat->Bool}:∀(os:List Oper) (ls:List Bool) (j W:Nat) (je:Array Bool),je.size=j->(∀ k,je.getD k false=W.testBit k)->Ve i oi eA tl os ls j W=true->
  ls.length=os.length/\(os.foldl (rY i) je).size=j+os.length/\(∀ k,k<j->(os.foldl (rY i) je).getD k false=je.getD k false)/\
  ∀(m:Nat) (oj:Oper) (lj:Bool),os[m]?=some oj->ls[m]?=some lj->
   ((os.foldl (rY i) je).getD (j+m) false=true->lj=false/\(oj.after.any fun e=>Region.binds .any e&&(Nat.beq e.on i||(os.foldl (rY i) je).getD e.on false))=true)/\
   ((os.foldl (rY i) je).getD (j+m) false=false->j+m=i\/lj=true\/(oi.apart eA oj=true/\tl (j+m)=false))
 | [],[],j,W,je,hs,hW,h=>⟨rfl,hs,fun _ _=>rfl,fun m oj lj h1 _=>by simp at h1⟩
 | [],_::_,j,W,je,hs,hW,h=>by simp[Ve] at h
 | _::_,[],j,W,je,hs,hW,h=>by simp[Ve] at h
 | oj::os,lj::ls,j,W,je,hs,hW,h=>by
  rw[Ve] at h
  have hfun:(fun e:Edge=>Region.binds .any e&&(Nat.beq e.on i||Nat.testBit W e.on))=(fun e=>Region.binds .any e&&(Nat.beq e.on i||je.getD e.on false)):=by
   funext e;rw[hW]
  rw[hfun] at h
  have Au:∀(b:Bool) (k:Nat),(je.push b).getD k false=if k=j then b else je.getD k false:=by
   intro b k
   by_cases hk:k=j
   ·subst hk;subst hs;simp
   ·rw[if_neg hk]
    rcases Nat.lt_or_ge k je.size with h' | h'
    ·simp[Array.getD,h',Nat.lt_succ_of_lt h',Array.getElem_push_lt h']
    ·have h1:¬k<je.size:=by omega
     have h2:¬k<je.size+1:=by omega
     simp[Array.getD,h1,h2]
  have key:∀(b:Bool) (W':Nat),rY i je oj=je.push b->(∀ k,(je.push b).getD k false=W'.testBit k)->Ve i oi eA tl os ls (j+1) W'=true->
    ((b=true->lj=false)/\(b=false->j=i\/lj=true\/(oi.apart eA oj=true/\tl j=false)))->(oj.after.any fun e=>Region.binds .any e&&(Nat.beq e.on i||je.getD e.on false))=b->
    (lj::ls).length=(oj::os).length/\((oj::os).foldl (rY i) je).size=j+(oj::os).length/\(∀ k,k<j->((oj::os).foldl (rY i) je).getD k false=je.getD k false)/\
    ∀(m:Nat) (Ey:Oper) (Ez:Bool),(oj::os)[m]?=some Ey->(lj::ls)[m]?=some Ez->
     (((oj::os).foldl (rY i) je).getD (j+m) false=true->Ez=false/\(Ey.after.any fun e=>Region.binds .any e&&(Nat.beq e.on i||((oj::os).foldl (rY i) je).getD e.on false))=true)/\
     (((oj::os).foldl (rY i) je).getD (j+m) false=false->j+m=i\/Ez=true\/(oi.apart eA Ey=true/\tl (j+m)=false)):=by
   intro b W' hb D3 hg hc hbe
   obtain⟨i1,i2,i3,i4⟩:=Qs os ls (j+1) W' (je.push b) (by simp[hs]) D3 hg
   rw[List.foldl_cons,hb]
   have hj:=i3 j (by omega)
   rw[Au,if_pos rfl] at hj
   refine⟨by simp[i1],by rw[i2];simp;omega,fun k hk=>?_,fun m Ey Ez h1 h2=>?_⟩
   ·rw[i3 k (by omega),Au,if_neg (by omega)]
   ·cases m with
    | zero=>
     simp only[List.getElem?_cons_zero,Option.some.injEq] at h1 h2
     subst h1 h2
     rw[Nat.add_zero,hj]
     refine⟨fun hbt=>⟨hc.1 hbt,?_⟩,fun hbf=>hc.2 hbf⟩
     rw[hbt] at hbe
     rw[Array.any_eq_true] at hbe ⊢
     obtain⟨q,hq,he⟩:=hbe
     refine⟨q,hq,?_⟩
     simp only[Bool.and_eq_true,Bool.or_eq_true] at he ⊢
     refine⟨he.1,he.2.imp id fun h4=>?_⟩
     have h5:oj.after[q].on<j:=by
      rcases Nat.lt_or_ge oj.after[q].on j with h' | h'
      ·exact h'
      ·have h6:¬oj.after[q].on<je.size:=by omega
       simp[Array.getD,h6] at h4
     rw[i3 _ (by omega),Au,if_neg (by omega)];exact h4
    | succ m=>
     simp only[List.getElem?_cons_succ] at h1 h2
     have:=i4 m Ey Ez h1 h2
     rw[show j+1+m=j+(m+1) by omega] at this
     exact this
  by_cases hb:(oj.after.any fun e=>Region.binds .any e&&(Nat.beq e.on i||je.getD e.on false))=true
  ·rw[if_pos hb] at h
   simp only[Bool.and_eq_true,Bool.not_eq_true'] at h
   refine key true _ (by unfold rY;rw[hb]) (fun k=>?_) h.2 ⟨fun _=>h.1,fun h'=>by cases h'⟩ hb
   rw[Au,Nat.testBit_or,Nat.one_shiftLeft,Nat.testBit_two_pow,hW]
   by_cases hk:k=j
   ·subst hk;simp
   ·have:¬j=k:=fun h=>hk h.symm
    simp[hk,this]
  ·rw[if_neg hb] at h
   simp only[Bool.and_eq_true,Bool.or_eq_true,Bool.not_eq_true'] at h
   have hb':=Bool.eq_false_iff.2 hb
   refine key false _ (by unfold rY;rw[hb']) (fun k=>?_) h.2 ⟨fun h'=>(by cases h'),fun _=>?_⟩ hb'
   ·rw[Au]
    by_cases hk:k=j
    ·subst hk
     rw[if_pos rfl,<- hW]
     have h6:¬k<je.size:=by omega
     simp[Array.getD,h6]
    ·rw[if_neg hk,hW]
   ·rcases h.1 with(h1 | h1) | h1
    ·exact .inl (Nat.eq_of_beq_eq_true h1)
    ·exact .inr (.inl h1)
    ·exact .inr (.inr h1)
theorem z2n{eA:Array Oper}{tl:Nat->Bool}{listed:Array Bool}{i:Nat}(h:U0 eA tl listed i=true:=by kernel_rfl):tG eA tl listed i=true:=by
 unfold U0 at h
 unfold tG
 cases hi:eA[i]? with
 | none=>rw[hi] at h;cases h
 | some oi=>
  rw[hi] at h
  obtain⟨i1,i2,i3,i4⟩:=Qs eA.toList listed.toList 0 0 #[] rfl (fun k=>by simp[Array.getD]) h
  have hw:eA.toList.foldl (rY i) #[]=mQ eA i:=by unfold mQ;rw[<- Array.foldl_toList];rfl
  rw[hw] at i2 i3 i4
  have CW:listed.size=eA.size:=by simpa using i1
  simp only[Bool.and_eq_true,List.all_eq_true,List.mem_range]
  have iL:(mQ eA i).size=eA.size:=by simpa using i2
  refine⟨by rw[iL];exact Nat.beq_refl _,fun j hj=>?_⟩
  have h1:eA.toList[j]?=some eA[j]:=by simp[hj]
  have h2:listed.toList[j]?=some (listed[j]'(by omega)):=by simp[CW,hj]
  have h3:=i4 j _ _ h1 h2
  rw[Nat.zero_add] at h3
  have h4:eA[j]?=some eA[j]:=Array.getElem?_eq_getElem hj
  have h5:listed.getD j true=listed[j]'(by omega):=by simp[Array.getD,CW,hj]
  rw[h4,h5]
  cases hb:(mQ eA i).getD j false with
  | true=>
   have h6:=h3.1 hb
   simp only[h6.1,Bool.not_true,Bool.false_or,Bool.not_false,Bool.true_and,Bool.or_true,Bool.true_or,and_true]
   exact h6.2
  | false=>
   have h6:=h3.2 hb
   simp only[Bool.not_false,Bool.true_or,true_and,Bool.or_false]
   rcases h6 with h6 | h6 | h6
   ·subst h6;simp[Nat.beq_refl]
   ·rw[h6];simp
   ·rw[h6.1,h6.2];simp
def GW(eA:Array Oper)(listed:Array Bool)(i:Nat):Bool:=
 match eA[i]? with
 | none=>false
 | some o => !listed.getD i true&&o.after.all fun e => !Region.binds .any e||listed.getD e.on false
theorem z2m{eA:Array Oper}{listed:Array Bool}{i:Nat}(h:GW eA listed i=true:=by kernel_rfl):(Region.ready .any eA listed).contains i=true:=by
 unfold GW at h
 cases hi:eA[i]? with
 | none=>rw[hi] at h;cases h
 | some o=>
  rw[hi] at h
  simp only[Bool.and_eq_true,Bool.not_eq_true',Array.all_eq_true_iff_forall_mem,Bool.or_eq_true] at h
  have hm:i∈Region.ready .any eA listed:=mem_ready.2 ⟨h.1,o,hi,fun e he hb=>by
   rcases h.2 e he with h1 | h1
   ·rw[hb] at h1;cases h1
   ·exact h1⟩
  simpa using hm
section
variable [Rnd]
theorem WD.d{P:Program}{n:Nat}{F:List Nat}{Nx:World}{env:List (Nat×Value)}{L:List Asrt}{eA:Array Oper}{tl:Nat->Bool}{Ls:List Asrt}{fuel:Nat}{listed:Array Bool}{Q:Act->World->Prop}(iM:Array Bool)(k:WD P n F Nx eA tl Ls Q fuel iM env L)(h:listed=iM:=by kernel_rfl):WD P n F Nx eA tl Ls Q fuel listed env L:=h▸k
end
section freezeo
variable [Rnd] {P:Program} {n:Nat} {F:List Nat} {Nx:World} {eA:Array Oper} {tl:Nat->Bool} {Ls:List Asrt} {Q:Act->World->Prop} {fuel:Nat} {listed:Array Bool} {env:List (Nat×Value)} {L R R':List Asrt} {Z Zn:Zp} {i:Nat} {e sz:Nat} {T:TypeId}
theorem vP.freezeS{α:Type}{Pr:List Value->α->Prop}{ao:Option Addr}{cap:Nat}{cs:List Value}{ls:List α}(hm:Pick L (row (.slice ao ls.length cap) e sz cs) R)(hz:Pick R (fz Zn) R')(hp:PZ F Nx Z)(hr:RR sz Pr cs ls)(k:∀ jt,xE (Z++Zn) (Z++jt)->ZS (Z++jt) sz Pr ao cap ls->vP P n F Nx eA tl Ls Q fuel listed env (fz jt::R') i):vP P n F Nx eA tl Ls Q fuel listed env L i:=fun a w h=>by
 obtain⟨jt,h1,h2,h3⟩:=h.hp.freezeS hm hz hp hr
 exact k jt h1 h2 a w (h.world h3)
theorem vP.freezeC{bb:Nat}{cs:List Value}(hm:Pick L (stb bb T cs) R)(hz:Pick R (fz Zn) R')(k:∀ jt,xE (Z++Zn) (Z++jt)->ZC (Z++jt) ⟨bb,0,none⟩ cs->vP P n F Nx eA tl Ls Q fuel listed env (fz jt::R') i):vP P n F Nx eA tl Ls Q fuel listed env L i:=fun a w h=>by
 obtain⟨jt,h1,h2,h3⟩:=h.hp.freezeC hm hz
 exact k jt h1 h2 a w (h.world h3)
end freezeo
section calls
variable [Rnd]
variable {P:Program} {F:List Nat} {Nx:World} {L Lc Lr R R' B:List Asrt} {Z Zn:Zp} {f:FuncId} {vs:Array Value} {Q:World->Ending->World->Prop}
theorem cc(hz:PZ F Nx Z)(hs:Sel L Lc Lr)(hc:∀ w,PZ (fps Lc) w Z->Hp (fps Lc) w w Lc->Calls P f vs w (Q w)):∀ w,Hp F Nx w L->Calls P f vs w (Q w):=
 fun w hw=>hc w (hz.call hw hs) (hw.owns hs)
theorem ms(hz:PZ F Nx Z)(hs:Sel L Lc Lr)(hm:Pick Lr (fz Zn) R)(hc:∀ w,PZ (fps Lc) w (Z++Zn)->Hp (fps Lc) w w Lc->Calls P f vs w (Q w)):∀ w,Hp F Nx w L->Calls P f vs w (Q w):=
 fun w hw=>hc w (hz.call2 hw hs hm) (hw.owns hs)
theorem ux(hz:PZ F Nx Z)(hs:Sel L Lc Lr)(hb:Sel Lr B R')(hc:∀ w,PZ (fps Lc) w (Z++iK w (fps B))->Hp (fps Lc) w w Lc->(∀ x,x∈B->∀ Z':Zp,ZA (Z'++iK w (fps B)) x)->Calls P f vs w (Q w)):∀ w,Hp F Nx w L->Calls P f vs w (Q w):=
 fun w hw=>hc w ((hz.call hw hs).lend hw hs (fun _ hx'=>hb.mem hx')) (hw.owns hs) (fun _ hx Z'=>hw.lent hs (fun _ hx'=>hb.mem hx') hx Z')
theorem cE(hz:PZ F Nx Z)(hs:Sel L Lc Lr)(hm:Pick Lr (fz Zn) R)(hb:Sel Lr B R')(hc:∀ w,PZ (fps Lc) w ((Z++Zn)++iK w (fps B))->Hp (fps Lc) w w Lc->(∀ x,x∈B->∀ Z':Zp,ZA (Z'++iK w (fps B)) x)->Calls P f vs w (Q w)):∀ w,Hp F Nx w L->Calls P f vs w (Q w):=
 fun w hw=>hc w ((hz.call2 hw hs hm).lend hw hs (fun _ hx'=>hb.mem hx')) (hw.owns hs) (fun _ hx Z'=>hw.lent hs (fun _ hx'=>hb.mem hx') hx Z')
end calls
end
section
section unroll
variable [Rnd] {P:Program} {n:Nat} {F:List Nat} {Nx:World} {Q:Exit->Act->World->Prop} {env:List (Nat×Value)} {L:List Asrt} {c:Code}
def XD(P:Program)(Q:Exit->Act->World->Prop)(c:Code)(a:Act)(w:World):Prop:=
 ∀(b:Frame) (k:List Item) (cs:List Frame),b.roundOf=FN.round->FN.fn b.fn->FN.room (cs.length+1+0)->
  ∃ e a' w',Q e a' w'/\ArrivesIn (Machine.fenced P FN) P (lone (b.atR a (.code c :: .inLoop c::k)) cs w) b k cs e a' w'
theorem XD.of(h:WC P n F Nx (Exit.then (XD P Q c) Q) c env L):∀ a w,SS n F Nx env L a w->XD P Q c a w:=by
 intro a w hs b k cs DZ hb zq
 obtain⟨e,ri,rj,hq,qA⟩:=h a w hs b (.inLoop c::k) cs DZ hb zq
 cases e with
 | normal=>
  have hq:XD P Q c ri rj:=hq
  obtain⟨Dk,Dm,Bf,By,zY⟩:=hq b k cs DZ hb zq
  exact⟨Dk,Dm,Bf,By,.of_steps (StepsIn.trans qA (.one (fenced_calm hb zq rfl) stepR_inLoop)) zY⟩
 | exit id=>exact⟨_,ri,rj,hq,.pass (x := .inLoop c) rfl (fun _ _ => .inl (by simp)) qA⟩
 | goto l=>exact⟨_,ri,rj,hq,.pass (x := .inLoop c) rfl (fun _ _ => .inl (by simp)) qA⟩
 | ret=>exact⟨_,ri,rj,hq,.pass (x := .inLoop c) rfl (fun _ _ => .inl (by simp)) qA⟩
 | panic ch=>exact⟨_,ri,rj,hq,.pass (x := .inLoop c) rfl (fun _ _ => .inl (by simp)) qA⟩
 | outgrown=>exact⟨_,ri,rj,hq,.pass (x := .inLoop c) rfl (fun _ _ => .inl (by simp)) qA⟩
end unroll
end
section
variable [Rnd]
section
variable {P:Program} {n:Nat} {F:List Nat} {Nx:World} {env:List (Nat×Value)} {L Lc Lr R:List Asrt} {eA:Array Oper} {Q:Exit->Act->World->Prop} {eN:List Oper} {dd:Nat}
theorem P8{A0 A1 A2 A3 A4 A5 A6 A7 A8 A9 nT pA vj xB ze zn zI z7 Az Bg B9 Dn:Type}{o:Oper}{φ:A0->A1->A2->A3->A4->A5->A6->A7->A8->A9->nT->pA->vj->xB->ze->zn->zI->z7->Az->Bg->B9->Dn->Prop}{val:A0->A1->A2->A3->A4->A5->A6->A7->A8->A9->nT->pA->vj->xB->ze->zn->zI->z7->Az->Bg->B9->Dn->Value}{M:A0->A1->A2->A3->A4->A5->A6->A7->A8->A9->nT->pA->vj->xB->ze->zn->zI->z7->Az->Bg->B9->Dn->List Asrt}{f:FuncId}{vs:Array Value}(hg:gd env eA o=some true)(hd:o.dst=some dd)(eZ:Nat.blt dd n=true)(eT:∀ a w,SS n F Nx env L a w->(execOp a.eval o).run P w = .ok (.enter f vs) w)(hs:Sel L Lc Lr)(hc:∀ w,Hp F Nx w L->Calls P f vs w fun e w'=>∃ x0 x1 x2 x3 x4 x5 x6 x7 x8 x9 zs AZ Co Cp Cq Cr Cs Ct Cu Cv Cw Cx,e = .returned (val x0 x1 x2 x3 x4 x5 x6 x7 x8 x9 zs AZ Co Cp Cq Cr Cs Ct Cu Cv Cw Cx)/\(φ x0 x1 x2 x3 x4 x5 x6 x7 x8 x9 zs AZ Co Cp Cq Cr Cs Ct Cu Cv Cw Cx)/\Hp (fps Lc) w w' (M x0 x1 x2 x3 x4 x5 x6 x7 x8 x9 zs AZ Co Cp Cq Cr Cs Ct Cu Cv Cw Cx))(k:∀ x0 x1 x2 x3 x4 x5 x6 x7 x8 x9 zs AZ Co Cp Cq Cr Cs Ct Cu Cv Cw Cx,(φ x0 x1 x2 x3 x4 x5 x6 x7 x8 x9 zs AZ Co Cp Cq Cr Cs Ct Cu Cv Cw Cx)->WL P n F Nx eA Q eN ((dd,val x0 x1 x2 x3 x4 x5 x6 x7 x8 x9 zs AZ Co Cp Cq Cr Cs Ct Cu Cv Cw Cx)::env) ((M x0 x1 x2 x3 x4 x5 x6 x7 x8 x9 zs AZ Co Cp Cq Cr Cs Ct Cu Cv Cw Cx)++Lr)):WL P n F Nx eA Q (o::eN) env L:=
 H0 (G:=A0×A1×A2×A3×A4×A5×A6×A7×A8×A9×nT×pA×vj×xB×ze×zn×zI×z7×Az×Bg×B9×Dn) (φ:=fun g=>(cu22 φ g)) (val:=fun g=>(cu22 val g)) (M:=fun g=>(cu22 M g)) hg hd eZ eT hs
  (fun w h=>(hc w h).mono fun e w'=>by rintro⟨x0,x1,x2,x3,x4,x5,x6,x7,x8,x9,zs,AZ,Co,Cp,Cq,Cr,Cs,Ct,Cu,Cv,Cw,Cx,h1,h2,h3⟩;exact⟨⟨x0,x1,x2,x3,x4,x5,x6,x7,x8,x9,zs,AZ,Co,Cp,Cq,Cr,Cs,Ct,Cu,Cv,Cw,Cx⟩,h1,h2,h3⟩) (fun g h=>k g.1 g.2.1 g.2.2.1 g.2.2.2.1 g.2.2.2.2.1 g.2.2.2.2.2.1 g.2.2.2.2.2.2.1 g.2.2.2.2.2.2.2.1 g.2.2.2.2.2.2.2.2.1 g.2.2.2.2.2.2.2.2.2.1 g.2.2.2.2.2.2.2.2.2.2.1 g.2.2.2.2.2.2.2.2.2.2.2.1 g.2.2.2.2.2.2.2.2.2.2.2.2.1 g.2.2.2.2.2.2.2.2.2.2.2.2.2.1 g.2.2.2.2.2.2.2.2.2.2.2.2.2.2.1 g.2.2.2.2.2.2.2.2.2.2.2.2.2.2.2.1 g.2.2.2.2.2.2.2.2.2.2.2.2.2.2.2.2.1 g.2.2.2.2.2.2.2.2.2.2.2.2.2.2.2.2.2.1 g.2.2.2.2.2.2.2.2.2.2.2.2.2.2.2.2.2.2.1 g.2.2.2.2.2.2.2.2.2.2.2.2.2.2.2.2.2.2.2.1 g.2.2.2.2.2.2.2.2.2.2.2.2.2.2.2.2.2.2.2.2.1 g.2.2.2.2.2.2.2.2.2.2.2.2.2.2.2.2.2.2.2.2.2 h)
end
end
section
variable {v0 v1 v2 v3 v4 v5 v6 v7 v8 v9 Al AE AF Ba Bb Bq Ce C0 C1 C2 C3 D4 v22:Value}{α:Type}{i0 i1 i2 i4 i5 i7 i9 Am AG AH Bc Bd Br C4 C5 C6 C7 D5 D6:Nat}{z y:Code}
section
variable [Rnd] {P:Program} {n:Nat} {F:List Nat} {Nx:World} {env:List (Nat×Value)} {L Lc Lr R:List Asrt} {eA:Array Oper} {Q:Exit->Act->World->Prop} {eN:List Oper} {o:Oper} {v:Value}
 {tl:Nat->Bool} {Ls:List Asrt} {fuel:Nat} {listed:Array Bool} {QD:Act->World->Prop}
theorem Lj{R:Type}{c:Operand}{x:Code}{b:Bool}{u v:Option R}{r:R}{Q:Exit->Act->World->Prop}[hc:Nu (eo env c) (some (.bool b))](h:(if b=true then u else v)=some r)(ht:b=true->u=some r->WC P n F Nx Q x env L)(hf:b=false->v=some r->WC P n F Nx Q y env L):WC P n F Nx Q (.cond c x y) env L:=WC.cond hc.1 (fun e=>ht e (qY h e)) (fun e=>hf e (qZ h e))
theorem Lf(i:Nat){d:Nat}(hi:(eA[i]?,o.dst)=(some o,some d))(hq:∀ {Nx} a w,SS n [] Nx env [] a w->(execOp a.eval o).run P w = .ok (.value v) w)(k:WD P n F Nx eA tl Ls QD fuel (listed.setIfInBounds i true) ((d,v)::env) L)(zo:rW eA=true:=by kernel_rfl)(hr:(Region.ready .any eA listed).contains i=true:=by exact z2m (by kernel_rfl))(hf:tG eA (fun _=>false) listed i=true:=by exact z2n (by kernel_rfl))(hg:gd env eA o=some true:=by exact rfl)(eZ:Nat.blt d n=true:=by exact rfl):WD P n F Nx eA tl Ls QD (fuel+1) listed env L:=P0 zo (Prod.mk.inj hi).1 hr hf hg (Prod.mk.inj hi).2 eZ (fun _=>hq) k
theorem Lh(i:Nat){d:Nat}(hi:(eA[i]?,o.dst)=(some o,some d))(hq:∀ a w,SS n F Nx env L a w->(execOp a.eval o).run P w = .ok (.value v) w)(k:WD P n F Nx eA tl Ls QD fuel (listed.setIfInBounds i true) ((d,v)::env) L)(zo:rW eA=true:=by kernel_rfl)(hr:(Region.ready .any eA listed).contains i=true:=by exact z2m (by kernel_rfl))(hf:tG eA tl listed i=true:=by exact z2n (by kernel_rfl))(hg:gd env eA o=some true:=by exact rfl)(eZ:Nat.blt d n=true:=by exact rfl):WD P n F Nx eA tl Ls QD (fuel+1) listed env L:=WD.e zo (Prod.mk.inj hi).1 hr hf hg (Prod.mk.inj hi).2 eZ hq k
theorem L7(i:Nat){d:Nat}(hi:(eA[i]?,o.dst)=(some o,some d))(hs:wB L Ls)(hq:∀ a w,SS n F Nx env Ls a w->(execOp a.eval o).run P w = .ok (.value v) w)(k:WD P n F Nx eA tl Ls QD fuel (listed.setIfInBounds i true) ((d,v)::env) L)(zo:rW eA=true:=by kernel_rfl)(hr:(Region.ready .any eA listed).contains i=true:=by exact z2m (by kernel_rfl))(hf:tG eA (fun _=>false) listed i=true:=by exact z2n (by kernel_rfl))(hg:gd env eA o=some true:=by exact rfl)(eZ:Nat.blt d n=true:=by exact rfl):WD P n F Nx eA tl Ls QD (fuel+1) listed env L:=O6 zo (Prod.mk.inj hi).1 hr hf hg (Prod.mk.inj hi).2 eZ hs hq k
theorem Lp(i:Nat){d:Nat}(hi:(eA[i]?,o.dst)=(some o,some d))(k:WD P n F Nx eA tl Ls QD fuel (listed.setIfInBounds i true) ((d,undef)::env) L)(zo:rW eA=true:=by kernel_rfl)(hr:(Region.ready .any eA listed).contains i=true:=by exact z2m (by kernel_rfl))(hf:tG eA (fun _=>false) listed i=true:=by exact z2n (by kernel_rfl))(hg:gd env eA o=some false:=by exact rfl)(eZ:Nat.blt d n=true:=by exact rfl):WD P n F Nx eA tl Ls QD (fuel+1) listed env L:=WD.b zo (Prod.mk.inj hi).1 hr hf hg (Prod.mk.inj hi).2 eZ k
theorem L4{f:FuncId}{vs:Array Value}(i:Nat){d:Nat}(hi:(eA[i]?,o.dst)=(some o,some d))(eT:∀ a w,SS n F Nx env L a w->(execOp a.eval o).run P w = .ok (.enter f vs) w)(hc:∀ w,Hp F Nx w L->Calls P f vs w fun e w'=>e = .returned v/\Hp [] w w' [])(k:WD P n F Nx eA tl Ls QD fuel (listed.setIfInBounds i true) ((d,v)::env) L)(zo:rW eA=true:=by kernel_rfl)(hr:(Region.ready .any eA listed).contains i=true:=by exact z2m (by kernel_rfl))(hf:tG eA tl listed i=true:=by exact z2n (by kernel_rfl))(hg:gd env eA o=some true:=by exact rfl)(eZ:Nat.blt d n=true:=by exact rfl):WD P n F Nx eA tl Ls QD (fuel+1) listed env L:=Rl zo (Prod.mk.inj hi).1 hr hf hg (Prod.mk.inj hi).2 eZ eT hc k
theorem Le(d:Nat)(hq:∀ a w,SS n F Nx env L a w->(execOp a.eval o).run P w = .ok (.value v) w)(k:WL P n F Nx eA Q eN ((d,v)::env) L)(hg:gd env eA o=some true:=by exact rfl)(hd:o.dst=some d:=by exact rfl)(eZ:Nat.blt d n=true:=by exact rfl):WL P n F Nx eA Q (o::eN) env L:=Oh hg hd eZ hq k
theorem Lg{G:Type}{φ:G->Prop}{val:G->Value}{L':G->List Asrt}(d:Nat)(hq:nY P n F Nx env L o φ val L')(k:∀ g,φ g->WL P n F Nx eA Q eN ((d,val g)::env) (L' g))(hg:gd env eA o=some true:=by exact rfl)(hd:o.dst=some d:=by exact rfl)(eZ:Nat.blt d n=true:=by exact rfl):WL P n F Nx eA Q (o::eN) env L:=WL.new hg hd eZ hq k
theorem WL.fA{G:Type}{φ:G->Prop}{val:G->Value}{L':G->List Asrt}(d:Nat)(hq:Ef P n F Nx env L o φ val L')(k:∀ g,φ g->WL P n F Nx eA Q eN ((d,val g)::env) (L' g))(hg:gd env eA o=some true:=by exact rfl)(hd:o.dst=some d:=by exact rfl)(eZ:Nat.blt d n=true:=by exact rfl):WL P n F Nx eA Q (o::eN) env L:=Oy hg hd eZ hq k
theorem Ln{f:FuncId}{vs:Array Value}{M:List Asrt}(d:Nat)(eT:∀ a w,SS n F Nx env L a w->(execOp a.eval o).run P w = .ok (.enter f vs) w)(hs:Sel L Lc Lr)(hc:∀ w,Hp F Nx w L->Calls P f vs w fun e w'=>e = .returned v/\Hp (fps Lc) w w' M)(k:WL P n F Nx eA Q eN ((d,v)::env) (M++Lr))(hg:gd env eA o=some true:=by exact rfl)(hd:o.dst=some d:=by exact rfl)(eZ:Nat.blt d n=true:=by exact rfl):WL P n F Nx eA Q (o::eN) env L:=WL.b hg hd eZ eT hs hc k
end
section
variable [Rnd] {P:Program} {f:FuncId} {fn:Func} {c:Code} {w:World} {R:Ending->World->Prop} {n:Nat} {pre:List Asrt}
theorem Od(hf:P.funcs[f]?=some fn)(hn:fn.ntmps=n)(hb:fn.body=some c)(k : @WC Rnd.base P n [] w (bodyPost P fn R) c [] [])(iL:Nat.ble 0 n=true:=by exact rfl):Calls P f #[] w R:=N6 (vs:=[]) (pre:=[]) hf hb hn iL (Hp.nil w _) rfl k
theorem Dz(hf:P.funcs[f]?=some fn)(hn:fn.ntmps=n)(eO:Hp (fps pre) w w pre)(hb:fn.body=some c)(k : @WC Rnd.base P n (fps pre) w (bodyPost P fn R) c [(0,v0)] pre)(iL:Nat.ble 1 n=true:=by exact rfl):Calls P f #[v0] w R:=N6 (vs:=[v0]) (pre:=pre) hf hb hn iL eO rfl k
theorem L8(hf:P.funcs[f]?=some fn)(hn:fn.ntmps=n)(hb:fn.body=some c)(k : @WC Rnd.base P n [] w (bodyPost P fn R) c [(0,v0)] [])(iL:Nat.ble 1 n=true:=by exact rfl):Calls P f #[v0] w R:=N6 (vs:=[v0]) (pre:=[]) hf hb hn iL (Hp.nil w _) rfl k
theorem Ni(hf:P.funcs[f]?=some fn)(hn:fn.ntmps=n)(eO:Hp (fps pre) w w pre)(hb:fn.body=some c)(k : @WC Rnd.base P n (fps pre) w (bodyPost P fn R) c [(0,v0),(1,v1)] pre)(iL:Nat.ble 2 n=true:=by exact rfl):Calls P f #[v0,v1] w R:=N6 (vs:=[v0,v1]) (pre:=pre) hf hb hn iL eO rfl k
theorem L0(hf:P.funcs[f]?=some fn)(hn:fn.ntmps=n)(hb:fn.body=some c)(k : @WC Rnd.base P n [] w (bodyPost P fn R) c [(0,v0),(1,v1)] [])(iL:Nat.ble 2 n=true:=by exact rfl):Calls P f #[v0,v1] w R:=N6 (vs:=[v0,v1]) (pre:=[]) hf hb hn iL (Hp.nil w _) rfl k
theorem N8(hf:P.funcs[f]?=some fn)(hn:fn.ntmps=n)(eO:Hp (fps pre) w w pre)(hb:fn.body=some c)(k : @WC Rnd.base P n (fps pre) w (bodyPost P fn R) c [(0,v0),(1,v1),(2,v2)] pre)(iL:Nat.ble 3 n=true:=by exact rfl):Calls P f #[v0,v1,v2] w R:=N6 (vs:=[v0,v1,v2]) (pre:=pre) hf hb hn iL eO rfl k
theorem Nk(hf:P.funcs[f]?=some fn)(hn:fn.ntmps=n)(hb:fn.body=some c)(k : @WC Rnd.base P n [] w (bodyPost P fn R) c [(0,v0),(1,v1),(2,v2)] [])(iL:Nat.ble 3 n=true:=by exact rfl):Calls P f #[v0,v1,v2] w R:=N6 (vs:=[v0,v1,v2]) (pre:=[]) hf hb hn iL (Hp.nil w _) rfl k
theorem H3(hf:P.funcs[f]?=some fn)(hn:fn.ntmps=n)(eO:Hp (fps pre) w w pre)(hb:fn.body=some c)(k : @WC Rnd.base P n (fps pre) w (bodyPost P fn R) c [(0,v0),(1,v1),(2,v2),(3,v3)] pre)(iL:Nat.ble 4 n=true:=by exact rfl):Calls P f #[v0,v1,v2,v3] w R:=N6 (vs:=[v0,v1,v2,v3]) (pre:=pre) hf hb hn iL eO rfl k
theorem Om(hf:P.funcs[f]?=some fn)(hn:fn.ntmps=n)(hb:fn.body=some c)(k : @WC Rnd.base P n [] w (bodyPost P fn R) c [(0,v0),(1,v1),(2,v2),(3,v3)] [])(iL:Nat.ble 4 n=true:=by exact rfl):Calls P f #[v0,v1,v2,v3] w R:=N6 (vs:=[v0,v1,v2,v3]) (pre:=[]) hf hb hn iL (Hp.nil w _) rfl k
theorem Cy(hf:P.funcs[f]?=some fn)(hn:fn.ntmps=n)(eO:Hp (fps pre) w w pre)(hb:fn.body=some c)(k : @WC Rnd.base P n (fps pre) w (bodyPost P fn R) c [(0,v0),(1,v1),(2,v2),(3,v3),(4,v4)] pre)(iL:Nat.ble 5 n=true:=by exact rfl):Calls P f #[v0,v1,v2,v3,v4] w R:=N6 (vs:=[v0,v1,v2,v3,v4]) (pre:=pre) hf hb hn iL eO rfl k
theorem Ol(hf:P.funcs[f]?=some fn)(hn:fn.ntmps=n)(hb:fn.body=some c)(k : @WC Rnd.base P n [] w (bodyPost P fn R) c [(0,v0),(1,v1),(2,v2),(3,v3),(4,v4)] [])(iL:Nat.ble 5 n=true:=by exact rfl):Calls P f #[v0,v1,v2,v3,v4] w R:=N6 (vs:=[v0,v1,v2,v3,v4]) (pre:=[]) hf hb hn iL (Hp.nil w _) rfl k
end
theorem Restr.r2{env:List (Nat×Value)}(h0:Sep.lk env i0=some v0)(h1:Sep.lk env i1=some v1):Restr env [(i0,v0),(i1,v1)] := .cons h0 (.cons h1 .nil)
theorem Restr.r3{env:List (Nat×Value)}(h0:Sep.lk env i0=some v0)(h1:Sep.lk env i1=some v1)(h2:Sep.lk env i2=some v2):Restr env [(i0,v0),(i1,v1),(i2,v2)] := .cons h0 (.cons h1 (.cons h2 .nil))
theorem Restr.r4{env:List (Nat×Value)}{i3:Nat}(h0:Sep.lk env i0=some v0)(h1:Sep.lk env i1=some v1)(h2:Sep.lk env i2=some v2)(h3:Sep.lk env i3=some v3):Restr env [(i0,v0),(i1,v1),(i2,v2),(i3,v3)] := .cons h0 (.cons h1 (.cons h2 (.cons h3 .nil)))
theorem Restr.r5{env:List (Nat×Value)}{i3:Nat}(h0:Sep.lk env i0=some v0)(h1:Sep.lk env i1=some v1)(h2:Sep.lk env i2=some v2)(h3:Sep.lk env i3=some v3)(h4:Sep.lk env i4=some v4):Restr env [(i0,v0),(i1,v1),(i2,v2),(i3,v3),(i4,v4)] := .cons h0 (.cons h1 (.cons h2 (.cons h3 (.cons h4 .nil))))
theorem Eos.r2{env:List (Nat×Value)}{i0 i1:Operand}(h0:Sep.eo env i0=some v0)(h1:Sep.eo env i1=some v1):Eos env [i0,i1] [v0,v1] := .cons h0 (.cons h1 .nil)
theorem Eos.r3{env:List (Nat×Value)}{i0 i1 i2:Operand}(h0:Sep.eo env i0=some v0)(h1:Sep.eo env i1=some v1)(h2:Sep.eo env i2=some v2):Eos env [i0,i1,i2] [v0,v1,v2] := .cons h0 (.cons h1 (.cons h2 .nil))
theorem Eos.r4{env:List (Nat×Value)}{i0 i1 i2 i3:Operand}(h0:Sep.eo env i0=some v0)(h1:Sep.eo env i1=some v1)(h2:Sep.eo env i2=some v2)(h3:Sep.eo env i3=some v3):Eos env [i0,i1,i2,i3] [v0,v1,v2,v3] := .cons h0 (.cons h1 (.cons h2 (.cons h3 .nil)))
theorem Eos.r5{env:List (Nat×Value)}{i0 i1 i2 i3 i4:Operand}(h0:Sep.eo env i0=some v0)(h1:Sep.eo env i1=some v1)(h2:Sep.eo env i2=some v2)(h3:Sep.eo env i3=some v3)(h4:Sep.eo env i4=some v4):Eos env [i0,i1,i2,i3,i4] [v0,v1,v2,v3,v4] := .cons h0 (.cons h1 (.cons h2 (.cons h3 (.cons h4 .nil))))
theorem Sel.s2{x0 x1:α}{L R1 R2:List α}(h0:Pick L x0 R1)(h1:Pick R1 x1 R2):Sel L [x0,x1] R2 := .cons h0 (.cons h1 .nil)
theorem Sel.s3{x0 x1 x2:α}{L R1 R2 R3:List α}(h0:Pick L x0 R1)(h1:Pick R1 x1 R2)(h2:Pick R2 x2 R3):Sel L [x0,x1,x2] R3 := .cons h0 (.cons h1 (.cons h2 .nil))
theorem Sel.s4{x0 x1 x2 x3:α}{L R1 R2 R3 R4:List α}(h0:Pick L x0 R1)(h1:Pick R1 x1 R2)(h2:Pick R2 x2 R3)(h3:Pick R3 x3 R4):Sel L [x0,x1,x2,x3] R4 := .cons h0 (.cons h1 (.cons h2 (.cons h3 .nil)))
theorem Sel.s5{x0 x1 x2 x3 x4:α}{L R1 R2 R3 R4 R5:List α}(h0:Pick L x0 R1)(h1:Pick R1 x1 R2)(h2:Pick R2 x2 R3)(h3:Pick R3 x3 R4)(h4:Pick R4 x4 R5):Sel L [x0,x1,x2,x3,x4] R5 := .cons h0 (.cons h1 (.cons h2 (.cons h3 (.cons h4 .nil))))
theorem Sel.s6{x0 x1 x2 x3 x4 x5:α}{L R1 R2 R3 R4 R5 R6:List α}(h0:Pick L x0 R1)(h1:Pick R1 x1 R2)(h2:Pick R2 x2 R3)(h3:Pick R3 x3 R4)(h4:Pick R4 x4 R5)(h5:Pick R5 x5 R6):Sel L [x0,x1,x2,x3,x4,x5] R6 := .cons h0 (.cons h1 (.cons h2 (.cons h3 (.cons h4 (.cons h5 .nil)))))
theorem Sel.s7{x0 x1 x2 x3 x4 x5 x6:α}{L R1 R2 R3 R4 R5 R6 R7:List α}(h0:Pick L x0 R1)(h1:Pick R1 x1 R2)(h2:Pick R2 x2 R3)(h3:Pick R3 x3 R4)(h4:Pick R4 x4 R5)(h5:Pick R5 x5 R6)(h6:Pick R6 x6 R7):Sel L [x0,x1,x2,x3,x4,x5,x6] R7 := .cons h0 (.cons h1 (.cons h2 (.cons h3 (.cons h4 (.cons h5 (.cons h6 .nil))))))
theorem Sel.s8{x0 x1 x2 x3 x4 x5 x6 x7:α}{L R1 R2 R3 R4 R5 R6 R7 R8:List α}(h0:Pick L x0 R1)(h1:Pick R1 x1 R2)(h2:Pick R2 x2 R3)(h3:Pick R3 x3 R4)(h4:Pick R4 x4 R5)(h5:Pick R5 x5 R6)(h6:Pick R6 x6 R7)(h7:Pick R7 x7 R8):Sel L [x0,x1,x2,x3,x4,x5,x6,x7] R8 := .cons h0 (.cons h1 (.cons h2 (.cons h3 (.cons h4 (.cons h5 (.cons h6 (.cons h7 .nil)))))))
theorem Sel.s9{x0 x1 x2 x3 x4 x5 x6 x7 x8:α}{L R1 R2 R3 R4 R5 R6 R7 R8 R9:List α}(h0:Pick L x0 R1)(h1:Pick R1 x1 R2)(h2:Pick R2 x2 R3)(h3:Pick R3 x3 R4)(h4:Pick R4 x4 R5)(h5:Pick R5 x5 R6)(h6:Pick R6 x6 R7)(h7:Pick R7 x7 R8)(h8:Pick R8 x8 R9):Sel L [x0,x1,x2,x3,x4,x5,x6,x7,x8] R9 := .cons h0 (.cons h1 (.cons h2 (.cons h3 (.cons h4 (.cons h5 (.cons h6 (.cons h7 (.cons h8 .nil))))))))
theorem Sel.s10{x0 x1 x2 x3 x4 x5 x6 x7 x8 x9:α}{L R1 R2 R3 R4 R5 R6 R7 R8 R9 EF:List α}(h0:Pick L x0 R1)(h1:Pick R1 x1 R2)(h2:Pick R2 x2 R3)(h3:Pick R3 x3 R4)(h4:Pick R4 x4 R5)(h5:Pick R5 x5 R6)(h6:Pick R6 x6 R7)(h7:Pick R7 x7 R8)(h8:Pick R8 x8 R9)(h9:Pick R9 x9 EF):Sel L [x0,x1,x2,x3,x4,x5,x6,x7,x8,x9] EF := .cons h0 (.cons h1 (.cons h2 (.cons h3 (.cons h4 (.cons h5 (.cons h6 (.cons h7 (.cons h8 (.cons h9 .nil)))))))))
theorem Sel.s11{x0 x1 x2 x3 x4 x5 x6 x7 x8 x9 zs:α}{L R1 R2 R3 R4 R5 R6 R7 R8 R9 EF R11:List α}(h0:Pick L x0 R1)(h1:Pick R1 x1 R2)(h2:Pick R2 x2 R3)(h3:Pick R3 x3 R4)(h4:Pick R4 x4 R5)(h5:Pick R5 x5 R6)(h6:Pick R6 x6 R7)(h7:Pick R7 x7 R8)(h8:Pick R8 x8 R9)(h9:Pick R9 x9 EF)(zO:Pick EF zs R11):Sel L [x0,x1,x2,x3,x4,x5,x6,x7,x8,x9,zs] R11 := .cons h0 (.cons h1 (.cons h2 (.cons h3 (.cons h4 (.cons h5 (.cons h6 (.cons h7 (.cons h8 (.cons h9 (.cons zO .nil))))))))))
theorem Sel.a2  {x0 x1 : α} {R : List α} : Sel (x0 :: x1 :: R) [x0, x1] R := .s2 .here .here
theorem Sel.a3  {x0 x1 x2 : α} {R : List α} : Sel (x0 :: x1 :: x2 :: R) [x0, x1, x2] R := .s3 .here .here .here
theorem Sel.a4  {x0 x1 x2 x3 : α} {R : List α} : Sel (x0 :: x1 :: x2 :: x3 :: R) [x0, x1, x2, x3] R := .s4 .here .here .here .here
theorem Sel.a5  {x0 x1 x2 x3 x4 : α} {R : List α} : Sel (x0 :: x1 :: x2 :: x3 :: x4 :: R) [x0, x1, x2, x3, x4] R := .s5 .here .here .here .here .here
theorem Sel.a6  {x0 x1 x2 x3 x4 x5 : α} {R : List α} : Sel (x0 :: x1 :: x2 :: x3 :: x4 :: x5 :: R) [x0, x1, x2, x3, x4, x5] R := .s6 .here .here .here .here .here .here
theorem Sel.a8  {x0 x1 x2 x3 x4 x5 x6 x7 : α} {R : List α} : Sel (x0 :: x1 :: x2 :: x3 :: x4 :: x5 :: x6 :: x7 :: R) [x0, x1, x2, x3, x4, x5, x6, x7] R := .s8 .here .here .here .here .here .here .here .here
theorem Sel.a9  {x0 x1 x2 x3 x4 x5 x6 x7 x8 : α} {R : List α} : Sel (x0 :: x1 :: x2 :: x3 :: x4 :: x5 :: x6 :: x7 :: x8 :: R) [x0, x1, x2, x3, x4, x5, x6, x7, x8] R := .s9 .here .here .here .here .here .here .here .here .here
theorem Sel.a10  {x0 x1 x2 x3 x4 x5 x6 x7 x8 x9 : α} {R : List α} : Sel (x0 :: x1 :: x2 :: x3 :: x4 :: x5 :: x6 :: x7 :: x8 :: x9 :: R) [x0, x1, x2, x3, x4, x5, x6, x7, x8, x9] R := .s10 .here .here .here .here .here .here .here .here .here .here
theorem Sel.a11  {x0 x1 x2 x3 x4 x5 x6 x7 x8 x9 zs : α} {R : List α} : Sel (x0 :: x1 :: x2 :: x3 :: x4 :: x5 :: x6 :: x7 :: x8 :: x9 :: zs :: R) [x0, x1, x2, x3, x4, x5, x6, x7, x8, x9, zs] R := .s11 .here .here .here .here .here .here .here .here .here .here .here
def puK (n:Nat)(eA:Array Oper):Nat->List Oper->List (Nat×Value)->Option (List Oper×List (Nat×Value))
 | 0,l,e=>some (l,e)
 | k+1,l,e=>match l with
  | []=>none
  | o::l=>(puE n eA e o).bind fun p=>puK n eA k l (p::e)
section
variable [Rnd] {P:Program}{n:Nat}{F:List Nat}{Nx:World}{env e':List (Nat×Value)}{L:List Asrt}{eA:Array Oper}{Q:Exit->Act->World->Prop}{l l':List Oper}
theorem puU:∀{k:Nat}{l:List Oper}{env:List (Nat×Value)},puK n eA k l env=some (l',e')->WL P n F Nx eA Q l' e' L->WL P n F Nx eA Q l env L
 | 0,_,_,h,k=>by cases h;exact k
 | _+1,[],_,h,_=>by cases h
 | j+1,o::l,env,h,k=>by
  rw[puK] at h
  cases hp:puE n eA env o with
  | none=>rw[hp] at h;cases h
  | some p=>
   rw[hp] at h
   exact La hp (puU (k:=j) h k)
theorem B0q{Q2:Exit->Act->World->Prop}{id:Nat}(k:WL P n F Nx l'.toArray (Exit.then (fun a w=>z.wpIn FN 0 P Q2 a w) Q2) l' env L):WC P n F Nx Q2 (.seq (.region id l'.toArray false) z) env L:=WC.b (Ld (k))
theorem B1q{Q2:Exit->Act->World->Prop}{id:Nat}(h:puK n l.toArray 1 l env=some (l',e'))(k:WL P n F Nx l.toArray (Exit.then (fun a w=>z.wpIn FN 0 P Q2 a w) Q2) l' e' L):WC P n F Nx Q2 (.seq (.region id l.toArray false) z) env L:=WC.b (Ld (puU (k:=1) h (k)))
theorem B1n{Q2:Exit->Act->World->Prop}{id:Nat}(h:puK n l.toArray 1 l env=some ([],e'))(k:WC P n F Nx Q2 z e' L):WC P n F Nx Q2 (.seq (.region id l.toArray false) z) env L:=WC.b (Ld (puU (k:=1) h (WL.nil (Lb k))))
theorem B2q{Q2:Exit->Act->World->Prop}{id:Nat}(h:puK n l.toArray 2 l env=some (l',e'))(k:WL P n F Nx l.toArray (Exit.then (fun a w=>z.wpIn FN 0 P Q2 a w) Q2) l' e' L):WC P n F Nx Q2 (.seq (.region id l.toArray false) z) env L:=WC.b (Ld (puU (k:=2) h (k)))
theorem B2n{Q2:Exit->Act->World->Prop}{id:Nat}(h:puK n l.toArray 2 l env=some ([],e'))(k:WC P n F Nx Q2 z e' L):WC P n F Nx Q2 (.seq (.region id l.toArray false) z) env L:=WC.b (Ld (puU (k:=2) h (WL.nil (Lb k))))
theorem B3q{Q2:Exit->Act->World->Prop}{id:Nat}(h:puK n l.toArray 3 l env=some (l',e'))(k:WL P n F Nx l.toArray (Exit.then (fun a w=>z.wpIn FN 0 P Q2 a w) Q2) l' e' L):WC P n F Nx Q2 (.seq (.region id l.toArray false) z) env L:=WC.b (Ld (puU (k:=3) h (k)))
theorem B3n{Q2:Exit->Act->World->Prop}{id:Nat}(h:puK n l.toArray 3 l env=some ([],e'))(k:WC P n F Nx Q2 z e' L):WC P n F Nx Q2 (.seq (.region id l.toArray false) z) env L:=WC.b (Ld (puU (k:=3) h (WL.nil (Lb k))))
theorem B4n{Q2:Exit->Act->World->Prop}{id:Nat}(h:puK n l.toArray 4 l env=some ([],e'))(k:WC P n F Nx Q2 z e' L):WC P n F Nx Q2 (.seq (.region id l.toArray false) z) env L:=WC.b (Ld (puU (k:=4) h (WL.nil (Lb k))))
theorem D1q{QQ:Exit->Act->World->Prop}{id:Nat}(h:puK n l.toArray 1 l env=some (l',e'))(k:WL P n F Nx l.toArray QQ l' e' L):WC P n F Nx QQ (.region id l.toArray false) env L:=Ld (puU (k:=1) h (k))
theorem D2q{QQ:Exit->Act->World->Prop}{id:Nat}(h:puK n l.toArray 2 l env=some (l',e'))(k:WL P n F Nx l.toArray QQ l' e' L):WC P n F Nx QQ (.region id l.toArray false) env L:=Ld (puU (k:=2) h (k))
theorem D3q{QQ:Exit->Act->World->Prop}{id:Nat}(h:puK n l.toArray 3 l env=some (l',e'))(k:WL P n F Nx l.toArray QQ l' e' L):WC P n F Nx QQ (.region id l.toArray false) env L:=Ld (puU (k:=3) h (k))
theorem D4q{QQ:Exit->Act->World->Prop}{id:Nat}(h:puK n l.toArray 4 l env=some (l',e'))(k:WL P n F Nx l.toArray QQ l' e' L):WC P n F Nx QQ (.region id l.toArray false) env L:=Ld (puU (k:=4) h (k))
theorem Q0n(k:WC P n F Nx Q y env L):WL P n F Nx eA (Exit.then (fun a w=>y.wpIn FN 0 P Q a w) Q) [] env L:=(WL.nil (Lb k))
theorem Q1n(h:puK n eA 1 l env=some ([],e'))(k:WC P n F Nx Q y e' L):WL P n F Nx eA (Exit.then (fun a w=>y.wpIn FN 0 P Q a w) Q) l env L:=puU (k:=1) h (WL.nil (Lb k))
theorem Q2q{QQ:Exit->Act->World->Prop}(h:puK n eA 2 l env=some (l',e'))(k:WL P n F Nx eA QQ l' e' L):WL P n F Nx eA QQ l env L:=puU (k:=2) h (k)
theorem Q2n(h:puK n eA 2 l env=some ([],e'))(k:WC P n F Nx Q y e' L):WL P n F Nx eA (Exit.then (fun a w=>y.wpIn FN 0 P Q a w) Q) l env L:=puU (k:=2) h (WL.nil (Lb k))
theorem Q5n(h:puK n eA 5 l env=some ([],e'))(k:WC P n F Nx Q y e' L):WL P n F Nx eA (Exit.then (fun a w=>y.wpIn FN 0 P Q a w) Q) l env L:=puU (k:=5) h (WL.nil (Lb k))
end
theorem Restr.qo{env:List (Nat×Value)}:∀{l:List (Nat×Value)},l.map (fun p=>Sep.lk env p.1)=l.map (fun p=>some p.2)->Restr env l
 | [],_=>.nil
 | _::_,h=>by
  rw[List.map_cons,List.map_cons] at h
  injection h with a b
  exact .cons a (Restr.qo b)
theorem Eos.qo{env:List (Nat×Value)}:∀{os:List Operand}{ws:List Value},os.map (fun o=>Sep.eo env o)=ws.map some->Eos env os ws
 | [],[],_=>.nil
 | _::_,_::_,h=>by
  rw[List.map_cons,List.map_cons] at h
  injection h with a b
  exact .cons a (Eos.qo b)
 | [],_::_,h=>by cases h
 | _::_,[],h=>by cases h
section
variable [Rnd]{P:Program}{n:Nat}{F:List Nat}{Nx:World}{env:List (Nat×Value)}{L M K:List Asrt}{fn:Func}{u:Value}
theorem Nl{t:Nat}{v:Value}(hr:fn.results=[ResultVar.tmp t].toArray)(h1:Sep.lk env t=some v:=by exact rfl)(h2:v=u:=by exact rfl):@WX Rnd.base n F Nx (bodyPost P fn fun e w'=>e = .returned u/\Hp F Nx w' []) .ret env L:=Li hr (.tmp h1 .nil) fun w hw=>⟨by rw[h2];rfl,hw.sub .nil⟩
theorem Nm{rs:List ResultVar}{vs:List Value}(hr:fn.results=rs.toArray)(hv:ResV P F Nx env L rs vs)(hs:Sel L K M)(h2:cx vs=u:=by exact rfl):@WX Rnd.base n F Nx (bodyPost P fn fun e w'=>e = .returned u/\Hp F Nx w' K) .ret env L:=Li hr hv fun w hw=>⟨by rw[h2],hw.sub hs⟩
end
def Np(env:List (Nat×Value)):List Operand->Option (List Value)
 | []=>some []
 | o::os=>match Sep.eo env o with
  | none=>none
  | some v=>match Np env os with
   | none=>none
   | some vs=>some (v::vs)
theorem Nq{env:List (Nat×Value)}:∀{l:List Operand}{vs:List Value},Np env l=some vs->Eos env l vs
 | [],_,h=>by cases h;exact .nil
 | o::l,vs,h=>by
  unfold Np at h
  split at h
  ·cases h
  ·rename_i h1
   split at h
   ·cases h
   ·rename_i h2;cases h;exact .cons h1 (Nq h2)
section
variable [Rnd]{P:Program}{n:Nat}{F:List Nat}{Nx:World}{env:List (Nat×Value)}{L:List Asrt}{eA:Array Oper}{Q:Exit->Act->World->Prop}{ir:List Oper}{f:FuncId}{l:List Operand}{CB:Array TypeId}{vs:List Value}{d:Nat}{d':Option Tmp}{ty:TypeId}{pos:String}{after:Array Edge}{g:Option (Nat×Bool)}{v:Value}{Z:Zp}
theorem Ns(Bm:∀ args w,(callFunc f args).run P w = .ok (.enter f args) w)[he:Nu (Np env l) (some vs)]:∀ a w,SS n F Nx env L a w->(execOp a.eval ⟨d',.call ⟨.value (.func f),l.toArray,CB⟩,ty,pos,after,g⟩).run P w = .ok (.enter f vs.toArray) w:=zb Bm (Nq he.1)
theorem Nr(Bm:∀ args w,(callFunc f args).run P w = .ok (.enter f args) w)[he:Nu (Np env l) (some vs)](hz:PZ F Nx Z)(hc:∀{w},PZ [] w Z->Calls P f vs.toArray w fun e w'=>e = .returned v/\Hp [] w w' [])(k:WL P n F Nx eA Q ir ((d,v)::env) L)(hg:gd env eA ⟨some d,.call ⟨.value (.func f),l.toArray,CB⟩,ty,pos,after,g⟩=some true:=by exact rfl)(hk:Nat.blt d n=true:=by exact rfl):WL P n F Nx eA Q (⟨some d,.call ⟨.value (.func f),l.toArray,CB⟩,ty,pos,after,g⟩::ir) env L:=Ln d (Ns Bm) .nil (cc hz .nil fun _ pz _=>hc pz) k hg (eZ:=hk)
end
section
variable [Rnd]{P:Program}{n:Nat}{F:List Nat}{Nx:World}{env:List (Nat×Value)}{L R:List Asrt}{d:Option Tmp}{ty:TypeId}{pos:String}{after:Array Edge}{g:Option (Nat×Bool)}{x:Operand}{v:Value}{t T:TypeId}{b off:Nat}{cs:List Value}
theorem Nt(hT:fm P t)(hm:Pick L (stb b T cs) R)[hx:Nu (eo env x) (some (.pointer (some ⟨b,off,none⟩)))][hv:Nu cs[off]? (some v)]:Qt P n F Nx env L ⟨d,.load t x,ty,pos,after,g⟩ v:=xA hT hx.1 (xF hm hv.1)
end
theorem Restr.q{env l:List (Nat×Value)}[h:Nu (l.map fun p=>Sep.lk env p.1) (l.map fun p=>some p.2)]:Restr env l:=Restr.qo h.1
theorem Eos.q{env:List (Nat×Value)}{os:List Operand}{ws:List Value}[h:Nu (os.map fun o=>Sep.eo env o) (ws.map some)]:Eos env os ws:=Eos.qo h.1
theorem Restr.ap{env:List (Nat×Value)}:∀{a b:List (Nat×Value)},Restr env a->Restr env b->Restr env (a++b)
 | _,_,.nil,h=>h
 | _,_,.cons x t,h=>.cons x (Restr.ap t h)
theorem Restr.t{env l:List (Nat×Value)}(N:Nat)[h:Nu ((l.take N).map fun p=>Sep.lk env p.1) ((l.take N).map fun p=>some p.2)](k:Restr env (l.drop N)):Restr env l:=by
 have u:=Restr.ap (Restr.qo h.1) k
 rwa[List.take_append_drop] at u
end
section
theorem nG{P:Program}{kt:TypeId}{κ:Type}[DecidableEq κ]{ek:κ->Value}(zV:∀ u v w,(Op.equal kt (ek u) (ek v)).run P w = .ok (decide (u=v)) w)(k:κ):
  ∀(es:List MapEntry) (ks:List κ) (i:Nat) (w:World),es.map (·.key)=ks.map ek->
   (Instr.findAsking kt (ek k) es i).run P w = .ok ((ks.findIdx? fun k'=>decide (k=k')).map fun j=>(i+j,((es[j]?).map (·.val)).getD undef)) w
 | [],[],i,w,_=>by simp[Instr.findAsking]
 | [],_::_,_,_,h=>by simp at h
 | _::_,[],_,_,h=>by simp at h
 | e::es,k'::ks,i,w,h=>by
  simp only[List.map_cons,List.cons.injEq] at h
  unfold Instr.findAsking
  rw[h.1]
  simp only[Sem.run_bind,zV,Result.andThen_ok,List.findIdx?_cons]
  by_cases hk:k=k'
  ·subst hk;simp
  ·simp only[hk,decide_false,Bool.false_eq_true,if_false]
   rw[nG zV k es ks (i+1) w h.2]
   cases ks.findIdx? (fun k'=>decide (k=k')) with
   | none=>rfl
   | some j=>simp;omega
theorem eD{P:Program}{kt:TypeId}{κ:Type}[DecidableEq κ]{enc:κ->List Value}{dd:TypeDesc}(hd:P.underlying kt=some dd)(hs:∀ a b,Instr.sameNow dd (.agg a) (.agg b)=none)(hchk:∀ b k w,(Instr.checkKey b 10000 kt (.agg (enc k).toArray)).run P w = .ok () w)(zV:∀ u v w,(Op.equal kt (.agg (enc u).toArray) (.agg (enc v).toArray)).run P w = .ok (decide (u=v)) w)(EG:∀ k,Instr.sameBits 10000 (.agg (enc k).toArray) (.agg (enc k).toArray)=true):KeyT P kt (fun x => .agg (enc x).toArray) where
 chk:=hchk
 find k es ks w hk:=by
  unfold Instr.findKey
  simp only[Sem.run_bind,run_underlying hd,Result.andThen_ok]
  cases es with
  | nil=>cases ks with
   | nil=>simp[Instr.findNow]
   | cons=>simp at hk
  | cons e es=>cases ks with
   | nil=>simp at hk
   | cons k' ks=>
    have h0:Instr.findNow dd (.agg (enc k).toArray) (e::es) 0=none:=by
     unfold Instr.findNow
     simp only[List.map_cons,List.cons.injEq] at hk
     rw[hk.1,hs]
    rw[h0]
    have:=nG (P:=P) (kt:=kt) (ek:=fun x=>Value.agg (enc x).toArray) zV k (e::es) (k'::ks) 0 w hk
    simpa using this
 stays k w:=by simp[Instr.keyThatStays,EG]
end
end Sep

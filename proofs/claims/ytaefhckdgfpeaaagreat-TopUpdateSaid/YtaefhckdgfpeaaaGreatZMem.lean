/- A part of this claim's proof: memory that is never written again, as a pool of blocks. No conditions. -/
import Derived.Test.YtaefhckdgfpeaaaGreatSepOrder
import Derived.Laws.MakeOwn
import Derived.RangeFuncLeaves
import Derived.Lib.AppendZeros
import Derived.Shelf.SlSortCmp.PdqK
set_option linter.all false
namespace Sep
open Go Go.RowKit
section
variable {cs ds:List Value}{w:World}{α:Type}{sz:Nat}{A:Addr}{x:Asrt}
variable [Rnd]
abbrev Zp:=List (Nat×Obj)
def rW(Z:Zp)(w:World):Prop:=∀ p∈Z,w.heap[p.1]?=some p.2
def PZ(F:List Nat)(Ek:World)(Z:Zp):Prop:=rW Z Ek/\∀ p∈Z,p.1∉F
def fz(Z:Zp):Asrt where
 fp:=Z.map (·.1)
 ok w:=rW Z w
 loc w w' h hl hk:=fun p hp=>by rw[h p.1 (List.mem_map.2 ⟨p,hp,rfl⟩) (hl p.1 (List.mem_map.2 ⟨p,hp,rfl⟩))];exact hk p hp
def ZC(Z:Zp)(A:Addr)(cs:List Value):Prop:=∀ w,rW Z w->∀ j u,cs[j]?=some u->w.cell? (A.add j)=some u
def wg(Z Z':Zp):Prop:=∀ w,rW Z' w->rW Z w
def ZA(Z:Zp)(x:Asrt):Prop:=∀ w,rW Z w->x.ok w
theorem wg.refl(Z:Zp):wg Z Z:=fun _ h=>h
theorem wg.trans{a b c:Zp}(h:wg a b)(k:wg b c):wg a c:=fun w hw=>h w (k w hw)
theorem wg.left(a b:Zp):wg a (a++b):=fun _ h p hp=>h p (List.mem_append_left _ hp)
theorem zl{a b:Zp}:wg a (a++b):=wg.left a b
theorem wg.right(a b:Zp):wg b (a++b):=fun _ h p hp=>h p (List.mem_append_right _ hp)
theorem rW.app{a b:Zp}(h:rW a w)(k:rW b w):rW (a++b) w:=fun p hp=>(List.mem_append.1 hp).elim (h p) (k p)
theorem rW.nil(w:World):rW [] w:=fun _ h=>by cases h
theorem wg.app{a b c:Zp}(h:wg b c):wg (a++b) (a++c):=fun w hw=>((wg.left a c) w hw).app (h w ((wg.right a c) w hw))
theorem ZC.mono{Z Z':Zp}(h:ZC Z A cs)(k:wg Z Z'):ZC Z' A cs:=fun w hw=>h w (k w hw)
theorem ZA.mono{Z Z':Zp}(h:ZA Z x)(k:wg Z Z'):ZA Z' x:=fun w hw=>h w (k w hw)
def PV(F:List Nat)(Ek:World)(L:List Asrt)(Z:Zp):Prop:=∀ w,Hp F Ek w L->rW Z w
section
variable {F:List Nat} {Ek:World} {L Lc Lr R R':List Asrt} {Z Zn:Zp}
theorem rW.lt(h:rW Z w):∀ p∈Z,p.1<w.heap.size:=fun p hp=>(Array.getElem?_eq_some_iff.1 (h p hp)).1
theorem PZ.pv(h:PZ F Ek Z):PV F Ek L Z:=fun w hp p hpz=>by
 rw[hp.block p.1 (h.1.lt p hpz) (h.2 p hpz)];exact h.1 p hpz
theorem PZ.pv2(h:PZ F Ek Z)(hm:Pick L (fz Zn) R):PV F Ek L (Z++Zn):=fun w hp=>(h.pv w hp).app (hp.ok _ hm.mem)
theorem PZ.call(h:PZ F Ek Z)(hp:Hp F Ek w L)(hs:Sel L Lc Lr):PZ (fps Lc) w Z:=
 ⟨h.pv w hp,fun p hpz hb=>by
  obtain⟨x,hx,zK⟩:=hs.fps _ hb
  rcases hp.ow x hx _ zK with h1 | h1
  ·exact h.2 p hpz h1
  ·have:=h.1.lt p hpz;omega⟩
theorem Hp.apart(hp:Hp F Ek w L)(hs:Sel L Lc Lr)(hm:x∈Lr):∀ b∈x.fp,b∉fps Lc:=by
 intro b hb hc
 obtain⟨y,hy,zf⟩:=List.mem_flatMap.1 hc
 have h0:(Lc++Lr).Pairwise fun x y=>∀ b∈x.fp,b∉y.fp:=
  (List.Perm.pairwise_iff (fun {x y} hxy b hb hc=>hxy b hc hb) hs.perm).1 hp.sep
 exact(List.pairwise_append.1 h0).2.2 y hy _ hm b zf hb
theorem PZ.call2(h:PZ F Ek Z)(hp:Hp F Ek w L)(hs:Sel L Lc Lr)(hm:Pick Lr (fz Zn) R):PZ (fps Lc) w (Z++Zn):=by
 have h1:=h.call hp hs
 refine⟨h1.1.app (hp.ok _ (hs.memr hm.mem)),fun p hpz=>?_⟩
 rcases List.mem_append.1 hpz with hpz | hpz
 ·exact h1.2 p hpz
 ·exact hp.apart hs hm.mem _ (List.mem_map.2 ⟨p,hpz,rfl⟩)
def bj(w:World)(bs:List Nat):Zp:=bs.filterMap fun b=>(w.heap[b]?).map fun o=>(b,o)
theorem Vx(w:World)(bs:List Nat):rW (bj w bs) w:=by
 intro p hp
 obtain⟨b,_,hb⟩:=List.mem_filterMap.1 hp
 simp only[Option.map_eq_some_iff] at hb
 obtain⟨o,ho,rfl⟩:=hb
 exact ho
theorem au{bs:List Nat}{p:Nat×Obj}(hp:p∈bj w bs):p.1∈bs:=by
 obtain⟨b,hb,hq⟩:=List.mem_filterMap.1 hp
 simp only[Option.map_eq_some_iff] at hq
 obtain⟨o,ho,rfl⟩:=hq
 exact hb
theorem aw{w':World}{bs:List Nat}{b:Nat}(h:rW (bj w bs) w')(hb:b∈bs)(hl:b<w.heap.size):w'.heap[b]?=w.heap[b]?:=by
 have h1:w.heap[b]?=some w.heap[b]:=Array.getElem?_eq_getElem hl
 rw[h1]
 exact h (b,w.heap[b]) (List.mem_filterMap.2 ⟨b,hb,by rw[h1];rfl⟩)
theorem PZ.lend{B:List Asrt}(h:PZ (fps Lc) w Z)(hp:Hp F Ek w L)(hs:Sel L Lc Lr)(hb:∀ x∈B,x∈Lr):PZ (fps Lc) w (Z++bj w (fps B)):=by
 refine⟨h.1.app (Vx _ _),fun p hpz=>?_⟩
 rcases List.mem_append.1 hpz with hpz | hpz
 ·exact h.2 p hpz
 ·obtain⟨x,hx,zK⟩:=List.mem_flatMap.1 (au hpz)
  exact hp.apart hs (hb x hx) _ zK
theorem Hp.lent{B:List Asrt}(hp:Hp F Ek w L)(hs:Sel L Lc Lr)(hb:∀ x∈B,x∈Lr)(hx:x∈B)(Z:Zp):ZA (Z++bj w (fps B)) x:=by
 intro w' pQ
 have h1:=(wg.right Z _) w' pQ
 have hm:=hs.memr (hb x hx)
 exact x.loc w w' (fun b zK hl=>aw h1 (List.mem_flatMap.2 ⟨x,hx,zK⟩) hl) (hp.lt x hm) (hp.ok x hm)
theorem Hp.pool(h:Hp F Ek w L):Hp F Ek w (fz []::L):=
 h.add (rW.nil w) (by simp[fz]) (by simp[fz]) (by simp[fz])
theorem Sel.YN{α:Type}(x y:α):∀ R:List α,Sel (x::y::R) R [x,y]
 | [] => .nil
 | z::R => .cons (.there (.there .here)) (Sel.YN x y R)
theorem Hp.freeze(hm:Pick L x R)(hz:Pick R (fz Zn) R')(h:Hp F Ek w L):∃ nh,wg Zn nh/\ZA nh x/\Hp F Ek w (fz nh::R'):=by
 have h1:Hp F Ek w (x::fz Zn::R'):=h.sub (.cons hm (.cons hz .all))
 have hx:=h1.lt x (by simp)
 refine⟨bj w x.fp++Zn,wg.right _ _,fun w' pQ=>?_,?_⟩
 ·exact x.loc w w' (fun b hb hl=>aw ((wg.left _ _) w' pQ) hb hl) hx (h1.ok x (by simp))
 ·have hR:=h1.sub (L':=R') (M:=x::fz Zn::[]) ?_
  ·refine hR.add (x:=fz (bj w x.fp++Zn)) ((Vx _ _).app (h1.ok (fz Zn) (by simp))) ?_ ?_ ?_
   all_goals
    simp only[fz,List.map_append,List.mem_append]
   ·rintro b (hb | hb)
    ·obtain⟨p,hp,rfl⟩:=List.mem_map.1 hb
     exact hx _ (au hp)
    ·exact h1.lt (fz Zn) (by simp) b hb
   ·rintro b (hb | hb)
    ·obtain⟨p,hp,rfl⟩:=List.mem_map.1 hb
     exact h1.ow x (by simp) _ (au hp)
    ·exact h1.ow (fz Zn) (by simp) b hb
   ·rintro y hy b (hb | hb) hc
    ·obtain⟨p,hp,rfl⟩:=List.mem_map.1 hb
     exact(List.pairwise_cons.1 h1.sep).1 y (by simp[hy]) _ (au hp) hc
    ·exact(List.pairwise_cons.1 (List.pairwise_cons.1 h1.sep).2).1 y hy b hb hc
  ·exact Sel.YN x (fz Zn) R'
theorem Hp.merge{Z1 Z2:Zp}(hm:Pick L (fz Z1) R)(hz:Pick R (fz Z2) R')(h:Hp F Ek w L):Hp F Ek w (fz (Z2++Z1)::R'):=by
 have h1:Hp F Ek w (fz Z1::fz Z2::R'):=h.sub (.cons hm (.cons hz .all))
 have hR:=h1.sub (Sel.YN (fz Z1) (fz Z2) R')
 refine hR.add (x:=fz (Z2++Z1)) ((h1.ok (fz Z2) (by simp)).app (h1.ok (fz Z1) (by simp))) ?_ ?_ ?_
 all_goals simp only[fz,List.map_append,List.mem_append]
 ·rintro b (hb | hb)
  ·exact h1.lt (fz Z2) (by simp) b hb
  ·exact h1.lt (fz Z1) (by simp) b hb
 ·rintro b (hb | hb)
  ·exact h1.ow (fz Z2) (by simp) b hb
  ·exact h1.ow (fz Z1) (by simp) b hb
 ·rintro y hy b (hb | hb) hc
  ·exact(List.pairwise_cons.1 (List.pairwise_cons.1 h1.sep).2).1 y hy b hb hc
  ·exact(List.pairwise_cons.1 h1.sep).1 y (by simp[hy]) b hb hc
end
theorem ZC.sub{Z:Zp}(h:ZC Z A cs)(k:Nat):ZC Z (A.add k) (cs.drop k):=
 fun w hw j u hu=>by rw[Addr.sh];exact h w hw _ _ (by simpa using hu)
theorem ZC.pre{Z:Zp}(h:ZC Z A (cs++ds)):ZC Z A cs:=
 fun w hw j u hu=>h w hw j u (by
  have hj:j<cs.length:=(List.getElem?_eq_some_iff.1 hu).1
  rw[List.getElem?_append_left hj];exact hu)
theorem ZA.stb{Z:Zp}{b:Nat}{T:TypeId}{cs:List Value}(h:ZA Z (stb b T cs)):ZC Z ⟨b,0,none⟩ cs:=by
 intro w hw j u hu
 have:=cR.1 (h w hw)
 rw[Addr.add_lit,cell_of_row w b _ _ T (0,0) this]
 simpa using hu
section
variable {F:List Nat} {Ek:World} {L R:List Asrt} {Z:Zp} {v:Value}
theorem vx(pv:PV F Ek L Z)(hc:ZC Z A cs)[hv:Ej cs[0]? (some v)]:∀ w,Hp F Ek w L->w.cell? A=some v:=by
 intro w h
 have:=hc w (pv w h) 0 v hv.1
 simpa [Addr.add] using this
theorem wP{k:Nat}(pv:PV F Ek L Z)(hc:ZC Z A cs)[hv:Ej cs[k]? (some v)]:∀ w,Hp F Ek w L->w.cell? (A.add k)=some v:=
 fun w h=>hc w (pv w h) k v hv.1
theorem vy(pv:PV F Ek L Z)(hc:ZC Z A cs):∀ w,Hp F Ek w L->∀ j u,cs[j]?=some u->w.cell? (A.add j)=some u:=fun w h=>hc w (pv w h)
theorem Vy{off s:Nat}(pv:PV F Ek L Z)(hc:ZC Z A cs)(hd:(cs.drop off).take s=ds):∀ w,Hp F Ek w L->∀ j u,ds[j]?=some u->w.cell? ((A.add off).add j)=some u:=by
 subst hd
 intro w h j u hu
 refine(hc.sub off) w (pv w h) j u ?_
 rw[List.getElem?_take] at hu
 split at hu
 ·exact hu
 ·cases hu
end
def RR{α:Type}(sz:Nat)(Pr:List Value->α->Prop)(cs:List Value)(l:List α):Prop:=
 ∃ rows:List (List Value),rows.flatten=cs/\(∀ r∈rows,r.length=sz)/\rows.length=l.length/\∀(i:Nat) (r:List Value) (x:α),rows[i]?=some r->l[i]?=some x->Pr r x
def ZS{α:Type}(Z:Zp)(sz:Nat)(Pr:List Value->α->Prop)(ao:Option Addr)(cap:Nat)(l:List α):Prop:=
 l.length<=cap/\cap<=maxLen/\∃ cs,RR sz Pr cs l/\(l≠[]->∃ A,ao=some A/\ZC Z A cs)
theorem ZS.nil(Z:Zp)(sz:Nat)(Pr:List Value->α->Prop):ZS Z sz Pr none 0 []:=
 ⟨by simp,by simp,[],⟨[],rfl,by simp,rfl,by simp⟩,fun h=>absurd rfl h⟩
theorem ZS.mono{α:Type}{Z Z':Zp}{sz:Nat}{Pr:List Value->α->Prop}{ao:Option Addr}{cap:Nat}{l:List α}(h:ZS Z sz Pr ao cap l)(k:wg Z Z'):ZS Z' sz Pr ao cap l:=by
 obtain⟨h1,h2,cs,h3,h4⟩:=h
 exact⟨h1,h2,cs,h3,fun uQ=>let ⟨A,hA,hc⟩:=h4 uQ;⟨A,hA,hc.mono k⟩⟩
theorem RR.weak{Pr Pr':List Value->α->Prop}{l:List α}(h:RR sz Pr cs l)(k:∀ r x,Pr r x->Pr' r x):RR sz Pr' cs l:=by
 obtain⟨rows,h1,h2,h3,h4⟩:=h
 exact⟨rows,h1,h2,h3,fun i r x hr hx=>k r x (h4 i r x hr hx)⟩
theorem ZS.weak{α:Type}{Z:Zp}{sz:Nat}{Pr Pr':List Value->α->Prop}{ao:Option Addr}{cap:Nat}{l:List α}(h:ZS Z sz Pr ao cap l)(k:∀ r x,Pr r x->Pr' r x):ZS Z sz Pr' ao cap l:=by
 obtain⟨h1,h2,cs,h3,h4⟩:=h
 exact⟨h1,h2,cs,h3.weak k,h4⟩
theorem RR.flat{enc:α->List Value}(hl:∀ x,(enc x).length=sz)(l:List α):RR sz (fun r x=>r=enc x) (l.flatMap enc) l:=by
 refine⟨l.map enc,by rw[List.flatMap_def],?_,by simp,?_⟩
 ·intro r hr;obtain⟨x,_,rfl⟩:=List.mem_map.1 hr;exact hl x
 ·intro i r x hr hx
  rw[List.getElem?_map,hx] at hr
  simpa using hr.symm
theorem RR.toFlat{enc:α->List Value}{l:List α}(h:RR sz (fun r x=>r=enc x) cs l):cs=l.flatMap enc:=by
 obtain⟨rows,h1,h2,h3,h4⟩:=h
 have hr:rows=l.map enc:=by
  apply List.ext_getElem?
  intro i
  rw[List.getElem?_map]
  cases hx:l[i]? with
  | none=>
   have:rows[i]?=none:=by rw[List.getElem?_eq_none_iff] at hx ⊢;omega
   simp[this]
  | some x=>
   have tW:i<rows.length:=by have:=(List.getElem?_eq_some_iff.1 hx).1;omega
   have:=h4 i _ x (List.getElem?_eq_getElem tW) hx
   rw[List.getElem?_eq_getElem tW,this];rfl
 rw[<- h1,hr,List.flatMap_def]
theorem RR.nil(sz:Nat)(Pr:List Value->α->Prop):RR sz Pr [] []:=⟨[],rfl,by simp,rfl,by simp⟩
theorem RR.one{Pr:List Value->α->Prop}{r:List Value}{x:α}(hl:r.length=sz)(h:Pr r x):RR sz Pr r [x]:=
 ⟨[r],by simp,by simpa using hl,rfl,fun i r' x' hr hx=>by
  cases i with
  | zero=>simp at hr hx;subst hr hx;exact h
  | succ i=>simp at hr⟩
theorem RR.cons{Pr:List Value->α->Prop}{r:List Value}{x:α}{l:List α}(hl:r.length=sz)(h:Pr r x)(t:RR sz Pr cs l):RR sz Pr (r++cs) (x::l):=by
 obtain⟨rows,h1,h2,h3,h4⟩:=t
 refine⟨r::rows,by simp[h1],?_,by simp[h3],?_⟩
 ·intro r' hr;rcases List.mem_cons.1 hr with rfl | hr
  ·exact hl
  ·exact h2 r' hr
 ·intro i r' x' hr hx
  cases i with
  | zero=>simp at hr hx;subst hr hx;exact h
  | succ i=>exact h4 i r' x' (by simpa using hr) (by simpa using hx)
theorem RR.app{Pr:List Value->α->Prop}{l m:List α}(h:RR sz Pr cs l)(k:RR sz Pr ds m):RR sz Pr (cs++ds) (l++m):=by
 obtain⟨r1,a1,a2,a3,a4⟩:=h
 obtain⟨r2,b1,b2,b3,b4⟩:=k
 refine⟨r1++r2,by simp[a1,b1],?_,by simp[a3,b3],?_⟩
 ·intro r hr;rcases List.mem_append.1 hr with hr | hr
  ·exact a2 r hr
  ·exact b2 r hr
 ·intro i r x hr hx
  by_cases hi:i<r1.length
  ·rw[List.getElem?_append_left hi] at hr
   rw[List.getElem?_append_left (by omega)] at hx
   exact a4 i r x hr hx
  ·rw[List.getElem?_append_right (by omega)] at hr
   rw[List.getElem?_append_right (by omega)] at hx
   exact b4 _ r x hr (by rw[a3];exact hx)
theorem RR.len{Pr:List Value->α->Prop}{l:List α}(h:RR sz Pr cs l):cs.length=l.length*sz:=by
 obtain⟨rows,h1,h2,h3,h4⟩:=h
 rw[<- h1,<- h3]
 clear h1 h3 h4
 induction rows with
 | nil=>simp
 | cons r rs ih=>rw[List.flatten_cons,List.length_append,h2 r (by simp),ih (fun r hr=>h2 r (List.mem_cons_of_mem _ hr)),List.length_cons,Nat.succ_mul,Nat.add_comm]
theorem RR.elem[Inhabited α]{Pr:List Value->α->Prop}{l:List α}(h:RR sz Pr cs l){i:Int}(h0:0<=i)(h1:i<l.length):
  ∃ r tl,r.length=sz/\cs.drop (i.toNat*sz)=r++tl/\Pr r (nth l i):=by
 obtain⟨rows,a1,a2,a3,a4⟩:=h
 have AH:i.toNat<rows.length:=by omega
 have hr:rows[i.toNat]?=some rows[i.toNat]:=List.getElem?_eq_getElem AH
 obtain⟨tl,ht⟩:=bH a2 hr
 refine⟨rows[i.toNat],tl,a2 _ (List.getElem_mem AH),by rw[<- a1];exact ht,?_⟩
 rw[<- ti h0 h1]
 exact a4 _ _ _ hr (List.getElem?_eq_getElem (by omega))
theorem ZS.elem{α:Type}[Inhabited α]{Z:Zp}{sz:Nat}{Pr:List Value->α->Prop}{ao:Option Addr}{cap:Nat}{l:List α}(h:ZS Z sz Pr ao cap l){i:Int}(h0:0<=i)(h1:i<l.length):
  ∃ A r,ao=some A/\ZC Z (A.add (i.toNat*sz)) r/\r.length=sz/\Pr r (nth l i):=by
 obtain⟨_,_,cs,h3,h4⟩:=h
 obtain⟨A,hA,hc⟩:=h4 (by rintro rfl;simp at h1;omega)
 obtain⟨r,tl,hr,hd,hP⟩:=h3.elem h0 h1
 have h5:=hc.sub (i.toNat*sz)
 rw[hd] at h5
 exact⟨A,r,hA,h5.pre,hr,hP⟩
theorem YO{sz:Nat}:∀(rows:List (List Value)) (k:Nat),(∀ r∈rows,r.length=sz)->k<=rows.length->rows.flatten.drop (k*sz)=(rows.drop k).flatten
 | [],k,_,hk=>by simp at hk;subst hk;simp
 | r::rs,0,_,_=>by simp
 | r::rs,k+1,hr,hk=>by
  have h0:r.length=sz:=hr r (by simp)
  rw[List.flatten_cons,Nat.succ_mul,Nat.add_comm,<- h0,<- List.drop_drop,List.drop_left,h0]
  simpa using YO rs k (fun r h=>hr r (List.mem_cons_of_mem _ h)) (by simpa using hk)
theorem ZS.sub{α:Type}{Z:Zp}{sz:Nat}{Pr:List Value->α->Prop}{ao:Option Addr}{cap:Nat}{l:List α}(h:ZS Z sz Pr ao cap l){lo hi:Nat}(h1:lo<=hi)(h2:hi<=l.length):
  ZS Z sz Pr (if cap=lo then ao else ao.map (·.add (lo*sz))) (cap-lo) ((l.take hi).drop lo):=by
 obtain⟨g1,g2,cs,⟨rows,a1,a2,a3,a4⟩,h4⟩:=h
 refine⟨by simp;omega,by omega,((rows.take hi).drop lo).flatten,⟨(rows.take hi).drop lo,rfl,?_,by simp[a3],?_⟩,?_⟩
 ·intro r hr;exact a2 r (List.mem_of_mem_take (List.mem_of_mem_drop hr))
 ·intro i r x hr hx
  simp only[List.getElem?_drop,List.getElem?_take] at hr hx
  split at hr
  ·rename_i tW;simp only[tW,if_true] at hx;exact a4 _ _ _ hr hx
  ·cases hr
 ·intro uQ
  have tW:lo<hi:=by
   rcases Nat.lt_or_ge lo hi with h' | h'
   ·exact h'
   ·exact absurd (List.drop_eq_nil_of_le (by simp;omega)) uQ
  obtain⟨A,rfl,hc⟩:=h4 (by rintro rfl;simp at h2;omega)
  have wK:cap≠lo:=by omega
  refine⟨A.add (lo*sz),by simp[wK],?_⟩
  have:=hc.sub (lo*sz)
  rw[<- a1,YO rows lo a2 (by omega)] at this
  have e:rows.drop lo=(rows.take hi).drop lo++rows.drop hi:=by
   rw[<- List.drop_append_of_le_length (by simp;omega),List.take_append_drop]
  rw[e,List.flatten_append] at this
  exact this.pre
theorem ZA.row{α:Type}{Z:Zp}{sz:Nat}{Pr:List Value->α->Prop}{ao:Option Addr}{cap:Nat}{e:TypeId}{cs:List Value}{l:List α}(h:ZA Z (row (.slice ao l.length cap) e sz cs))(hr:RR sz Pr cs l)(hw:∃ w,rW Z w):ZS Z sz Pr ao cap l:=by
 obtain⟨w,hw⟩:=hw
 obtain⟨n,e',h1,h2⟩:=h w hw
 rcases h2 with⟨hv,hn⟩ | ⟨b,tP,nZ,hv,_,hh,z6,zI,zL,zM⟩
 ·injection hv with e1 e2 e3
  subst e1 e3
  have hl:l=[]:=List.eq_nil_of_length_eq_zero e2
  subst hl
  exact⟨by simp,by simp,cs,hr,fun uQ=>absurd rfl uQ⟩
 ·injection hv with e1 e2 e3
  subst e1 e3
  refine⟨by omega,zI,cs,hr,fun _=>⟨_,rfl,?_⟩⟩
  intro w' pQ j u hu
  obtain⟨n',e',k1⟩:=h w' pQ
  exact World.ownsRow.cells (g:=b) k1 rfl j u hu
end
section
variable {cs cs' r:List Value}{α A0 A1 A2 A3 A4 A5:Type}{ao bo:Option Addr}{cap bb capk s:Nat}{i:Int}{w:World}{ex:Exit}{kk:IntKind}{dty t':TypeId}
variable [Rnd]
def chk{R:Type}(p:Prop)[Decidable p](k:Option R):Option R:=if p then k else none
theorem wa{R:Type}{p:Prop}[Decidable p]{k:Option R}{r:R}(h:chk p k=some r):p/\k=some r:=by
 unfold chk at h;split at h
 ·exact⟨by assumption,h⟩
 ·cases h
theorem ws{R:Type}{p:Prop}[Decidable p]{k:Option R}(h:p):chk p k=k:=if_pos h
theorem z2{A R:Type}{o:Option A}{F:A->Option R}{r:R}(h:o.bind F=some r):∃ x,o=some x/\F x=some r:=Option.bind_eq_some_iff.1 h
theorem qf{R:Type}{b:Bool}{x y:Option R}{r:R}(h:(if b=true then x else y)=some r)(hb:b=true):x=some r:=by rw[if_pos hb] at h;exact h
theorem qg{R:Type}{b:Bool}{x y:Option R}{r:R}(h:(if b=true then x else y)=some r)(hb:b=false):y=some r:=by rw[if_neg (by rw[hb];exact Bool.false_ne_true)] at h;exact h
def uo{R:Type}(K:Option R)(F:Option R->Option R):Option R:=F K
theorem Vz{R:Type}{K:Option R}{F:Option R->Option R}{o:Option R}(h:∀ k,k=K->F k=o):uo K F=o:=h K rfl
theorem vX{R:Type}{K:Option R}{F:Option R->Option R}{r:R}(h:uo K F=some r):∃ k,k=K/\F k=some r:=⟨K,rfl,h⟩
def vC{R A0:Type}(K:A0->Option R)(F:(A0->Option R)->Option R):Option R:=F K
theorem wE{R:Type}{K:A0->Option R}{F:(A0->Option R)->Option R}{r:R}(h:vC K F=some r):∃ k:A0->Option R,(∀ x0,k x0=K x0)/\F k=some r:=⟨K,fun _=>rfl,h⟩
theorem j4{R:Type}{K:A0->Option R}{F:(A0->Option R)->Option R}{o:Option R}(h:∀ k:A0->Option R,(∀ x0,k x0=K x0)->F k=o):vC K F=o:=h K fun _=>rfl
def rl{R A0 A1:Type}(K:A0->A1->Option R)(F:(A0->A1->Option R)->Option R):Option R:=F K
theorem jc{R:Type}{K:A0->A1->Option R}{F:(A0->A1->Option R)->Option R}{r:R}(h:rl K F=some r):∃ k:A0->A1->Option R,(∀ x0 x1,k x0 x1=K x0 x1)/\F k=some r:=⟨K,fun _ _=>rfl,h⟩
theorem Xk{R:Type}{K:A0->A1->Option R}{F:(A0->A1->Option R)->Option R}{o:Option R}(h:∀ k:A0->A1->Option R,(∀ x0 x1,k x0 x1=K x0 x1)->F k=o):rl K F=o:=h K fun _ _=>rfl
def Q5{R A0 A1 A2:Type}(K:A0->A1->A2->Option R)(F:(A0->A1->A2->Option R)->Option R):Option R:=F K
theorem cd{R:Type}{K:A0->A1->A2->Option R}{F:(A0->A1->A2->Option R)->Option R}{r:R}(h:Q5 K F=some r):∃ k:A0->A1->A2->Option R,(∀ x0 x1 x2,k x0 x1 x2=K x0 x1 x2)/\F k=some r:=⟨K,fun _ _ _=>rfl,h⟩
theorem Kd{R:Type}{K:A0->A1->A2->Option R}{F:(A0->A1->A2->Option R)->Option R}{o:Option R}(h:∀ k:A0->A1->A2->Option R,(∀ x0 x1 x2,k x0 x1 x2=K x0 x1 x2)->F k=o):Q5 K F=o:=h K fun _ _ _=>rfl
def jp5{R A0 A1 A2 A3 A4:Type}(K:A0->A1->A2->A3->A4->Option R)(F:(A0->A1->A2->A3->A4->Option R)->Option R):Option R:=F K
theorem J3{R:Type}{K:A0->A1->A2->A3->A4->Option R}{F:(A0->A1->A2->A3->A4->Option R)->Option R}{r:R}(h:jp5 K F=some r):∃ k:A0->A1->A2->A3->A4->Option R,(∀ x0 x1 x2 x3 x4,k x0 x1 x2 x3 x4=K x0 x1 x2 x3 x4)/\F k=some r:=⟨K,fun _ _ _ _ _=>rfl,h⟩
def jp6{R A0 A1 A2 A3 A4 A5:Type}(K:A0->A1->A2->A3->A4->A5->Option R)(F:(A0->A1->A2->A3->A4->A5->Option R)->Option R):Option R:=F K
theorem Fg{R:Type}{K:A0->A1->A2->A3->A4->A5->Option R}{F:(A0->A1->A2->A3->A4->A5->Option R)->Option R}{r:R}(h:jp6 K F=some r):∃ k:A0->A1->A2->A3->A4->A5->Option R,(∀ x0 x1 x2 x3 x4 x5,k x0 x1 x2 x3 x4 x5=K x0 x1 x2 x3 x4 x5)/\F k=some r:=⟨K,fun _ _ _ _ _ _=>rfl,h⟩
def Fh{R A0 A1 A2 A3 A4 A5 A6 A7 A8 A9 nA nC nW nX n2 oL qA qV:Type}(K:A0->A1->A2->A3->A4->A5->A6->A7->A8->A9->nA->nC->nW->nX->n2->oL->qA->qV->Option R)(F:(A0->A1->A2->A3->A4->A5->A6->A7->A8->A9->nA->nC->nW->nX->n2->oL->qA->qV->Option R)->Option R):Option R:=F K
theorem Gf{R A6 A7 A8 A9 nA nC nW nX n2 oL qA qV:Type}{K:A0->A1->A2->A3->A4->A5->A6->A7->A8->A9->nA->nC->nW->nX->n2->oL->qA->qV->Option R}{F:(A0->A1->A2->A3->A4->A5->A6->A7->A8->A9->nA->nC->nW->nX->n2->oL->qA->qV->Option R)->Option R}{r:R}(h:Fh K F=some r):∃ k:A0->A1->A2->A3->A4->A5->A6->A7->A8->A9->nA->nC->nW->nX->n2->oL->qA->qV->Option R,(∀ x0 x1 x2 x3 x4 x5 x6 x7 x8 x9 rv sY uV wd wy wH zh zr,k x0 x1 x2 x3 x4 x5 x6 x7 x8 x9 rv sY uV wd wy wH zh zr=K x0 x1 x2 x3 x4 x5 x6 x7 x8 x9 rv sY uV wd wy wH zh zr)/\F k=some r:=⟨K,fun _ _ _ _ _ _ _ _ _ _ _ _ _ _ _ _ _ _=>rfl,h⟩
def Fi{R A0 A1 A2 A3 A4 A5 A6 A7 A8 A9 nA nC nW nX n2 oL qA qV tv:Type}(K:A0->A1->A2->A3->A4->A5->A6->A7->A8->A9->nA->nC->nW->nX->n2->oL->qA->qV->tv->Option R)(F:(A0->A1->A2->A3->A4->A5->A6->A7->A8->A9->nA->nC->nW->nX->n2->oL->qA->qV->tv->Option R)->Option R):Option R:=F K
theorem Gg{R A6 A7 A8 A9 nA nC nW nX n2 oL qA qV tv:Type}{K:A0->A1->A2->A3->A4->A5->A6->A7->A8->A9->nA->nC->nW->nX->n2->oL->qA->qV->tv->Option R}{F:(A0->A1->A2->A3->A4->A5->A6->A7->A8->A9->nA->nC->nW->nX->n2->oL->qA->qV->tv->Option R)->Option R}{r:R}(h:Fi K F=some r):∃ k:A0->A1->A2->A3->A4->A5->A6->A7->A8->A9->nA->nC->nW->nX->n2->oL->qA->qV->tv->Option R,(∀ x0 x1 x2 x3 x4 x5 x6 x7 x8 x9 rv sY uV wd wy wH zh zr Ai,k x0 x1 x2 x3 x4 x5 x6 x7 x8 x9 rv sY uV wd wy wH zh zr Ai=K x0 x1 x2 x3 x4 x5 x6 x7 x8 x9 rv sY uV wd wy wH zh zr Ai)/\F k=some r:=⟨K,fun _ _ _ _ _ _ _ _ _ _ _ _ _ _ _ _ _ _ _=>rfl,h⟩
def wr:Nat:=18446744073709551616
theorem qJ:wr=18446744073709551616:=rfl
def i64(x:Int):Int:=IntKind.wrap .i64 x
def i16(x:Int):Int:=IntKind.wrap .i16 x
def i8(x:Int):Int:=IntKind.wrap .i8 x
def u64(x:Int):Int:=IntKind.wrap .u64 x
def u32(x:Int):Int:=IntKind.wrap .u32 x
def u8(x:Int):Int:=IntKind.wrap .u8 x
theorem va{x:Int}(h : -9223372036854775808<=x/\x<=9223372036854775807):i64 x=x:=w64 h
section
variable {P:Program} {n:Nat} {F:List Nat} {Ek:World} {env:List (Nat×Value)} {L Lc Lr R R':List Asrt} {ops:Array Oper} {Q:Exit->Act->World->Prop} {na l:List Oper}
 {dd:Nat} {d:Option Tmp} {ty:TypeId} {pos:String} {after:Array Edge} {g:Option (Nat×Bool)} {x y:Operand} {v u:Value} {t e T:TypeId} {sz by_:Nat} {Z Zn:Zp}
 {tl:Nat->Bool} {Ls:List Asrt} {fuel:Nat} {listed:Array Bool} {QD:Act->World->Prop}
theorem L0[Inhabited α]{Pr:List Value->α->Prop}{ls:List α}[hg:Ej (gd env ops ⟨some dd,.indexAddr t x y,ty,pos,after,g⟩) (some true)][ng:Ej (Nat.blt dd n) true](ht:elT P t e sz by_)[hx:Ej (eo env x) (some (.slice ao ls.length cap))][hy:Ej (eo env y) (some (.int kk i))](hs:ZS Z sz Pr ao cap ls)(Br:0<=i/\i<ls.length)(k:∀ A r,ZC Z A r->r.length=sz->Pr r (Sep.nth ls i)->WL P n F Ek ops Q na ((dd,.pointer (some A))::env) L):
  WL P n F Ek ops Q (⟨some dd,.indexAddr t x y,ty,pos,after,g⟩::na) env L:=by
 obtain⟨A,r,rfl,hc,hl,hp⟩:=hs.elem Br.1 Br.2
 exact Hr hg.1 rfl ng.1 (wL ht (hx:=⟨hx.1⟩) (hy:=⟨hy.1⟩) Br.1 Br.2 rfl) (k _ r hc hl hp)
theorem L8{j:Nat}[Inhabited α]{Pr:List Value->α->Prop}{ls:List α}(zn:rV ops=true)[hi:Ej ops[j]? (some ⟨some dd,.indexAddr t x y,ty,pos,after,g⟩)](hr:(Region.ready .any ops listed).contains j=true)(hf:tg ops (fun _=>false) listed j=true)[hg:Ej (gd env ops ⟨some dd,.indexAddr t x y,ty,pos,after,g⟩) (some true)][ng:Ej (Nat.blt dd n) true](ht:elT P t e sz by_)[hx:Ej (eo env x) (some (.slice ao ls.length cap))][hy:Ej (eo env y) (some (.int kk i))](hs:ZS Z sz Pr ao cap ls)(Br:0<=i/\i<ls.length)(k:∀ A r,ZC Z A r->r.length=sz->Pr r (Sep.nth ls i)->WD P n F Ek ops tl Ls QD fuel (listed.setIfInBounds j true) ((dd,.pointer (some A))::env) L):
  WD P n F Ek ops tl Ls QD (fuel+1) listed env L:=by
 obtain⟨A,r,rfl,hc,hl,hp⟩:=hs.elem Br.1 Br.2
 exact D8 zn hi.1 hr hf hg.1 rfl ng.1 (fun _=>wL ht (hx:=⟨hx.1⟩) (hy:=⟨hy.1⟩) Br.1 Br.2 rfl) (k _ r hc hl hp)
theorem Nn{Pr:List Value->α->Prop}{ls BU:List α}{lo hi:Int}{lx nY:Option Operand}{lv hv:Option Value}[hg:Ej (gd env ops ⟨some dd,.slice t x lx nY none,ty,pos,after,g⟩) (some true)][ng:Ej (Nat.blt dd n) true](ht:elT P t e sz by_)(hx:eo env x=some (.slice ao ls.length cap))(hs:ZS Z sz Pr ao cap ls)(hl:∀ a w,SS n F Ek env L a w->lx.map a.eval=lv)(hh:∀ a w,SS n F Ek env L a w->nY.map a.eval=hv)(AA:match lv with | none=>lo=0 | some (.int _ q)=>q=lo | _=>False)(Aj:match hv with | none=>hi=ls.length | some (.int _ q)=>q=hi | _=>False)(hb:0<=lo/\lo<=hi/\hi<=ls.length)(Cd:BU=(ls.take hi.toNat).drop lo.toNat)(k:∀ Ay tP,ZS Z sz Pr Ay tP BU->WL P n F Ek ops Q na ((dd,.slice Ay BU.length tP)::env) L):
  WL P n F Ek ops Q (⟨some dd,.slice t x lx nY none,ty,pos,after,g⟩::na) env L:=by
 have hg:=hg.1
 have ng:=ng.1
 subst Cd
 obtain⟨h0,h1,h2⟩:=hb
 have z6:=hs.1
 refine Hr hg rfl ng (iZ (lo:=lo.toNat) (hi:=hi.toNat) ht hx (lv:=lv) (hv:=hv) hl hh ?_ ?_ (by omega) (by omega) (fun _=>z6)) ?_
 ·split at AA
  ·subst AA;rfl
  ·subst AA;simp;omega
  ·cases AA
 ·split at Aj
  ·subst Aj;simp
  ·subst Aj;simp;omega
  ·cases Aj
 have h3:=hs.sub (lo:=lo.toNat) (hi:=hi.toNat) (by omega) (by omega)
 have h4:hi.toNat-lo.toNat=((ls.take hi.toNat).drop lo.toNat).length:=by simp;omega
 rw[h4]
 exact k _ _ h3
theorem Hl{j:Nat}{Pr:List Value->α->Prop}{ls BU:List α}{lo hi:Int}{lx nY:Option Operand}{lv hv:Option Value}(zn:rV ops=true)(Bl:ops[j]?=some ⟨some dd,.slice t x lx nY none,ty,pos,after,g⟩)(hr:(Region.ready .any ops listed).contains j=true)(hf:tg ops (fun _=>false) listed j=true)(hg:gd env ops ⟨some dd,.slice t x lx nY none,ty,pos,after,g⟩=some true)(ng:Nat.blt dd n=true)(ht:elT P t e sz by_)(hx:eo env x=some (.slice ao ls.length cap))(hs:ZS Z sz Pr ao cap ls)(hl:∀ Ek a w,SS n [] Ek env [] a w->lx.map a.eval=lv)(hh:∀ Ek a w,SS n [] Ek env [] a w->nY.map a.eval=hv)(AA:match lv with | none=>lo=0 | some (.int _ q)=>q=lo | _=>False)(Aj:match hv with | none=>hi=ls.length | some (.int _ q)=>q=hi | _=>False)(hb:0<=lo/\lo<=hi/\hi<=ls.length)(Cd:BU=(ls.take hi.toNat).drop lo.toNat)(k:∀ Ay tP,ZS Z sz Pr Ay tP BU->WD P n F Ek ops tl Ls QD fuel (listed.setIfInBounds j true) ((dd,.slice Ay BU.length tP)::env) L):
  WD P n F Ek ops tl Ls QD (fuel+1) listed env L:=by
 subst Cd
 obtain⟨h0,h1,h2⟩:=hb
 have z6:=hs.1
 refine D8 zn Bl hr hf hg rfl ng (fun Ek=>iZ (lo:=lo.toNat) (hi:=hi.toNat) ht hx (lv:=lv) (hv:=hv) (hl Ek) (hh Ek) ?_ ?_ (by omega) (by omega) (fun _=>z6)) ?_
 ·split at AA
  ·subst AA;rfl
  ·subst AA;simp;omega
  ·cases AA
 ·split at Aj
  ·subst Aj;simp
  ·subst Aj;simp;omega
  ·cases Aj
 have h3:=hs.sub (lo:=lo.toNat) (hi:=hi.toNat) (by omega) (by omega)
 have h4:hi.toNat-lo.toNat=((ls.take hi.toNat).drop lo.toNat).length:=by simp;omega
 rw[h4]
 exact k _ _ h3
theorem np{z:Operand}[h:Ej (eo env z) (some v)]:∀ a w,SS n F Ek env L a w->(some z).map a.eval=some v:=fun a w hs=>by rw[Option.map_some,hs.eval h.1]
theorem WE:∀ a w,SS n F Ek env L a w->(none:Option Operand).map a.eval=none:=fun _ _ _=>rfl
theorem da{enc:α->List Value}{ls:List α}{sz':Nat}(pv:PV F Ek L Z)(h:ZS Z sz' (fun r x=>r=enc x) bo capk ls):
  ∀ w,Hp F Ek w L->ls.flatMap enc≠[]->∃ A,bo=some A/\∀ j u,(ls.flatMap enc)[j]?=some u->w.cell? (A.add j)=some u:=by
 intro w hw uQ
 obtain⟨_,_,cs,h3,h4⟩:=h
 obtain⟨A,hA,hc⟩:=h4 (by rintro rfl;simp at uQ)
 rw[h3.toFlat] at hc
 exact⟨A,hA,hc w (pv w hw)⟩
theorem vb{enc:α->List Value}{l1 l2:List α}{news:List Value}(ht:elT P t e sz by_)[hx:Ej (eo env x) (some (.slice ao l1.length cap))][hy:Ej (eo env y) (some (.slice bo l2.length capk))](hm:Pick L (row (.slice ao l1.length cap) e sz cs) R)(nj:∀ x,(enc x).length=sz)[zF:Ej cs (l1.flatMap enc)][hn:Ej news (l2.flatMap enc)](vM:∀ w,Hp F Ek w L->news≠[]->∃ A,bo=some A/\∀ j u,news[j]?=some u->w.cell? (A.add j)=some u)(h1:∀ u∈news,u.oneCell'=true)(hb:((l1++l2).length:Int)*by_<=140737488355328/\((l1++l2).length:Int)<=4611686018427387904):
  Ef P n F Ek env L ⟨d,.call ⟨.builtin .append,#[x,y],#[t,t]⟩,dty,pos,after,g⟩ (fun _:Option Addr×Nat=>True) (fun p => .slice p.1 (l1++l2).length p.2) (fun p=>row (.slice p.1 (l1++l2).length p.2) e sz ((l1++l2).flatMap enc)::R):=by
 have hx:=hx.1
 have hy:=hy.1
 have zF:=zF.1
 have hn:=hn.1
 subst zF hn
 have:=J1 (n:=n) (dty:=dty) (d:=d) (pos:=pos) (after:=after) (g:=g) ht hx hy hm (by rw[tL nj]) vM h1 (by simp[maxLen] at *;omega) (by rw[List.length_append] at hb;omega)
 rw[List.length_append,List.flatMap_append]
 exact this
theorem uq{Pr:List Value->α->Prop}{l1 l2:List α}{news:List Value}(ht:elT P t e sz by_)[hx:Ej (eo env x) (some (.slice ao l1.length cap))][hy:Ej (eo env y) (some (.slice bo l2.length capk))](hm:Pick L (row (.slice ao l1.length cap) e sz cs) R)(hn:RR sz Pr news l2)(vM:∀ w,Hp F Ek w L->news≠[]->∃ A,bo=some A/\∀ j u,news[j]?=some u->w.cell? (A.add j)=some u)(h1:∀ u∈news,u.oneCell'=true)(hb:((l1++l2).length:Int)*by_<=140737488355328/\((l1++l2).length:Int)<=4611686018427387904):
  Ef P n F Ek env L ⟨d,.call ⟨.builtin .append,#[x,y],#[t,t]⟩,dty,pos,after,g⟩ (fun _:Option Addr×Nat=>True) (fun p => .slice p.1 (l1++l2).length p.2) (fun p=>row (.slice p.1 (l1++l2).length p.2) e sz (cs++news)::R):=by
 have hx:=hx.1
 have hy:=hy.1
 have:=J1 (n:=n) (dty:=dty) (d:=d) (pos:=pos) (after:=after) (g:=g) ht hx hy hm hn.len vM h1 (by simp[maxLen] at *;omega) (by rw[List.length_append] at hb;omega)
 rw[List.length_append]
 exact this
theorem C7{enc:α->List Value}{ls:List α}{nY:Operand}(hg:gd env ops ⟨some dd,.slice t x none (some nY) none,ty,pos,after,g⟩=some true)(ng:Nat.blt dd n=true)(ht:elT P t e sz by_)(hx:eo env x=some (.slice ao ls.length cap))(hh:eo env nY=some (.int kk i))(hm:Pick L (row (.slice ao ls.length cap) e sz (ls.flatMap enc)) R)(hl:∀ x,(enc x).length=sz)(hi:0<=i/\i<=ls.length)(k:∀ Ay tP,WL P n F Ek ops Q na ((dd,.slice Ay (ls.take i.toNat).length tP)::env) (row (.slice Ay (ls.take i.toNat).length tP) e sz ((ls.take i.toNat).flatMap enc)::R)):
  WL P n F Ek ops Q (⟨some dd,.slice t x none (some nY) none,ty,pos,after,g⟩::na) env L:=by
 have nj:(ls.take i.toNat).length=i.toNat:=by simp;omega
 refine Es (fun w h=>h.rowShape hm) fun hs=>?_
 obtain⟨wK,BR,Cx,hs | ⟨b,rfl⟩⟩:=hs
 ·obtain⟨rfl,h0,rfl⟩:=hs
  have hnil:ls=[]:=List.eq_nil_of_length_eq_zero h0
  subst hnil
  refine Hr hg rfl ng (iZ (lo:=0) (hi:=0) ht hx (lv:=none) (hv:=some (.int kk i)) (fun _ _ _=>rfl) (fun a w h=>by rw[Option.map_some,h.eval hh]) rfl (by simp at hi;omega) (by omega) (by omega) (by simp)) ?_
  intro a w h
  have:=k none 0 a w
  simp only[List.take_nil,List.length_nil,List.flatMap_nil] at this
  exact this (h.world (h.hp.front hm))
 ·refine H7 (i:=i.toNat) hg ng ht hx hh hm (by omega) (by omega) ?_
  rw[YM hl ls _ (by omega)]
  have:=k (some ⟨b,0,none⟩) cap
  rw[nj] at this
  exact this
theorem Fj(r:List α){sz:Nat}(hl:r.length=sz)(n m:Nat)(h:n<=m):((List.replicate m r).flatten).take (n*sz)=(List.replicate n r).flatten:=by
 obtain⟨d,rfl⟩:∃ d,m=n+d:=⟨m-n,by omega⟩
 rw[<- List.replicate_append_replicate,List.flatten_append]
 have e:(List.replicate n r).flatten.length=n*sz:=by simp[hl]
 rw[<- e,List.take_left]
theorem QA{zc:Array Value}(nP:0<r.length)(hz:zc=r.toArray)(k:Nat):(Builtin.zeroCells zc k).toList=(List.replicate k r).flatten:=by
 have h:=ca (α:=Unit) (enc:=fun _=>r) (sz:=r.length) (z0:=()) (zc:=zc) (fun _=>rfl) nP hz k
 rw[h]
 induction k with
 | zero=>rfl
 | succ k ih=>rw[List.replicate_succ,List.flatMap_cons,List.replicate_succ,List.flatten_cons];congr 1;exact ih (ca (α:=Unit) (enc:=fun _=>r) (sz:=r.length) (z0:=()) (zc:=zc) (fun _=>rfl) nP hz k)
theorem eV{z0:α}{z:Value}{kl kc:IntKind}{ln c:Int}(ht:elT P t e sz by_)(hz:vk P e z)(hx:eo env x=some (.int kl ln))(hy:eo env y=some (.int kc c))(hl:r.length=sz)(hzc:z.cells=r.toArray)(hb:0<=ln/\ln<=c/\c*by_<=140737488355328/\c<=4611686018427387904):
  Yg P n F Ek env L ⟨d,.makeSlice t x y,dty,pos,after,g⟩ (fun _:Nat=>True) (fun b => .slice (some ⟨b,0,none⟩) (List.replicate ln.toNat z0).length c.toNat) (fun b=>row (.slice (some ⟨b,0,none⟩) (List.replicate ln.toNat z0).length c.toNat) e sz (List.replicate ln.toNat r).flatten::L):=by
 intro a w h
 obtain⟨h0,h1,h2,h3⟩:=hb
 obtain⟨inf,z',Bq,nd,nP,zf,Az⟩:=ht.inf
 have hzz:z=z':=by
  have:=congrFun hz w
  simp[zeroValue,typeInfo,Bq,nd] at this
  exact this.symm
 subst hzz
 have hpos:=ht.pos
 have kA:=run_make (P:=P) w t e inf z ht.sl Bq nd kl kc ln c h0 h1 (by rw[zf,Int.mul_comm];omega) (by omega)
 have BV:madeCells z.cells (c.toNat*inf.size)=Builtin.zeroCells z.cells c.toNat:=by rw[nP,<- Az];rfl
 refine⟨w.heap.size,w.alloc (.cells (Builtin.zeroCells z.cells c.toNat) e),?_,trivial,?_,.alloc _ _⟩
 ·simp only[execOp,h.eval hx,h.eval hy]
  rw[BV] at kA
  simp[kA,List.length_replicate]
 ·refine(h.hp.ext (.alloc w _)).add ?_ (by simp[row,Value.ownBlock]) (by simp[row,Value.ownBlock,h.hp.size]) ?_
  ·refine⟨ln.toNat,_,by simp[hl],.inr ⟨w.heap.size,c.toNat,Builtin.zeroCells z.cells c.toNat,by simp,Nat.zero_le _,heap_alloc_new w _,by omega,by unfold maxLen;omega,by simp[Builtin.zeroCells,Az],?_⟩⟩
   rw[QA (by omega) hzc,Fj r hl _ _ (by omega)]
  ·intro y hy b hb hc
   simp[row,Value.ownBlock] at hb
   have:=h.hp.lt y hy b hc
   omega
theorem XY{enc:α->List Value}(x:α)(n:Nat):(List.replicate n (enc x)).flatten=(List.replicate n x).flatMap enc:=by
 rw[List.flatMap_def,List.map_replicate]
theorem Hp.freezeS{Pr:List Value->α->Prop}{ls:List α}(hm:Pick L (row (.slice ao ls.length cap) e sz cs) R)(hz:Pick R (fz Zn) R')(hp:PZ F Ek Z)(hr:RR sz Pr cs ls)(h:Hp F Ek w L):
  ∃ nh,wg (Z++Zn) (Z++nh)/\ZS (Z++nh) sz Pr ao cap ls/\Hp F Ek w (fz nh::R'):=by
 obtain⟨nh,h1,h2,h3⟩:=h.freeze hm hz
 refine⟨nh,h1.app,?_,h3⟩
 exact ZA.row (h2.mono (wg.right _ _)) hr ⟨w,(hp.pv w h3).app (h3.ok (fz nh) (by simp))⟩
theorem Hp.freezeC{b:Nat}(hm:Pick L (stb b T cs) R)(hz:Pick R (fz Zn) R')(h:Hp F Ek w L):
  ∃ nh,wg (Z++Zn) (Z++nh)/\ZC (Z++nh) ⟨b,0,none⟩ cs/\Hp F Ek w (fz nh::R'):=by
 obtain⟨nh,h1,h2,h3⟩:=h.freeze hm hz
 exact⟨nh,h1.app,(h2.mono (wg.right _ _)).stb,h3⟩
theorem PZ.now(h:PZ F Ek Z)(hp:Hp F Ek w L):PZ [] w Z:=⟨h.pv w hp,by simp⟩
theorem PZ.le{Z Z':Zp}(h:PZ [] w Z')(k:wg Z Z'):PZ [] w Z:=⟨k w h.1,by simp⟩
theorem ZC.part{Z:Zp}{A:Addr}{off:Nat}{ds:List Value}(h:ZC Z A cs)(hd:(cs.drop off).take s=ds):ZC Z (A.add off) ds:=by
 subst hd
 intro w hw j u hu
 refine(h.sub off) w hw j u ?_
 rw[List.getElem?_take] at hu
 split at hu
 ·exact hu
 ·cases hu
theorem ZA.stbAt{Z:Zp}{b off:Nat}{T:TypeId}{ds:List Value}(h:ZA Z (Sep.stb b T cs))(hd:(cs.drop off).take s=ds):ZC Z ⟨b,off,none⟩ ds:=by
 have:=h.stb.part hd
 rwa [Addr.add_lit,Nat.zero_add] at this
theorem db{enc:α->List Value}{sz k:Nat}(hl:∀ x,(enc x).length=sz){l:List α}(h0:0<=i)(h1:i<l.length)(hk:k+s<=sz):i.toNat*sz+k+s<=(l.flatMap enc).length:=by
 rw[tL hl]
 have h2:(i.toNat+1)*sz<=l.length*sz:=Nat.mul_le_mul_right _ (by omega)
 rw[Nat.succ_mul] at h2
 omega
theorem MQ{a b:Bool}{t:TypeId}(ht:P.underlying t=some .bool)(hx:eo env x=some (.bool a))(hy:eo env y=some (.bool b)):Qt P n F Ek env L ⟨d,.binOp .neq t x y t',ty,pos,after,g⟩ (.bool (a != b)):=by
 intro a' w h;simp[execOp,h.eval hx,h.eval hy,eqGuard_at_bool,run_neq_bool w t a b ht];cases a <;> cases b <;> rfl
structure EqT {α:Type} [DecidableEq α] (P:Program) (t:TypeId) (enc:α->List Value):Prop where
 eq:∀(u v:α) (w:World),(Op.equalIn 10000 t (.agg (enc u).toArray) (.agg (enc v).toArray)).run P w = .ok (decide (u=v)) w
 guard:P.eqGuardType P.depth t=false
theorem dc[DecidableEq α]{enc:α->List Value}{a b:α}{t:TypeId}(ht:EqT P t enc)[hx:Ej (eo env x) (some (.agg (enc a).toArray))][hy:Ej (eo env y) (some (.agg (enc b).toArray))]:Qt P n F Ek env L ⟨d,.binOp .eql t x y t',ty,pos,after,g⟩ (.bool (decide (a=b))):=by
 intro a' w h;simp[execOp,h.eval hx.1,h.eval hy.1,run_eqGuard_agg w .eql t x y _ _ ht.guard,run_eql_struct,ht.eq a b w]
theorem XZ[DecidableEq α]{enc:α->List Value}{a b:α}{t:TypeId}(ht:EqT P t enc)(hx:eo env x=some (.agg (enc a).toArray))(hy:eo env y=some (.agg (enc b).toArray)):Qt P n F Ek env L ⟨d,.binOp .neq t x y t',ty,pos,after,g⟩ (.bool (decide (a≠b))):=by
 intro a' w h;simp[execOp,h.eval hx,h.eval hy,run_eqGuard_agg w .neq t x y _ _ ht.guard,run_neq_struct,ht.eq a b w]
theorem bS{tl:List Value}{k:Nat}(h:cs.drop k=r++tl):∀(j:Nat) (u:Value),r[j]?=some u->cs[k+j]?=some u:=by
 intro j u hu
 rw[<- List.getElem?_drop,h,List.getElem?_append_left (List.getElem?_eq_some_iff.1 hu).1]
 exact hu
theorem rJ{m m':Nat}(h:m=m'):Value.slice ao m cap = .slice ao m' cap:=by rw[h]
theorem wg.wG(a b c:Zp):wg ((a++b)++c) (a++(b++c)):=by rw[List.append_assoc];exact wg.refl _
theorem WL.freezeS{l:List Oper}{α:Type}{Pr:List Value->α->Prop}{ao:Option Addr}{cap:Nat}{cs:List Value}{ls:List α}(hm:Pick L (row (.slice ao ls.length cap) e sz cs) R)(hz:Pick R (fz Zn) R')(hp:PZ F Ek Z)(hr:RR sz Pr cs ls)(k:∀ nh,wg (Z++Zn) (Z++nh)->ZS (Z++nh) sz Pr ao cap ls->WL P n F Ek ops Q l env (fz nh::R')):WL P n F Ek ops Q l env L:=fun a w h=>by
 obtain⟨nh,h1,h2,h3⟩:=h.hp.freezeS hm hz hp hr
 exact k nh h1 h2 a w (h.world h3)
theorem WL.freezeC{l:List Oper}{bb:Nat}{cs:List Value}(hm:Pick L (stb bb T cs) R)(hz:Pick R (fz Zn) R')(k:∀ nh,wg (Z++Zn) (Z++nh)->ZC (Z++nh) ⟨bb,0,none⟩ cs->WL P n F Ek ops Q l env (fz nh::R')):WL P n F Ek ops Q l env L:=fun a w h=>by
 obtain⟨nh,h1,h2,h3⟩:=h.hp.freezeC hm hz
 exact k nh h1 h2 a w (h.world h3)
theorem WL.pool{l:List Oper}(k:WL P n F Ek ops Q l env (fz []::L)):WL P n F Ek ops Q l env L:=fun a w h=>k a w (h.world h.hp.pool)
theorem WL.merge{l:List Oper}{Z1 Z2:Zp}(hm:Pick L (fz Z1) R)(hz:Pick R (fz Z2) R')(k:WL P n F Ek ops Q l env (fz (Z2++Z1)::R')):WL P n F Ek ops Q l env L:=fun a w h=>k a w (h.world (h.hp.merge hm hz))
theorem N5{l:List Oper}(hm:Pick L (row v e sz cs) R)(h:cs=cs')(k:WL P n F Ek ops Q l env (row v e sz cs'::R)):WL P n F Ek ops Q l env L:=by
 subst h
 exact fun a w hs=>k a w (hs.world (hs.hp.front hm))
theorem N9{l:List Oper}(hm:Pick L (row v e sz cs) R)(h:v=u)(k:WL P n F Ek ops Q l env (row u e sz cs::R)):WL P n F Ek ops Q l env L:=by
 subst h
 exact fun a w hs=>k a w (hs.world (hs.hp.front hm))
theorem Nr{l:List Oper}(hm:Pick L (stb bb T cs) R)(h:cs=cs')(k:WL P n F Ek ops Q l env (stb bb T cs'::R)):WL P n F Ek ops Q l env L:=by
 subst h
 exact fun a w hs=>k a w (hs.world (hs.hp.front hm))
theorem Ew{l:List Oper}{i:Nat}(hv:lk env i=some v)(h:v=u)(k:WL P n F Ek ops Q l ((i,u)::env) L):WL P n F Ek ops Q l env L:=by
 subst h
 refine fun a w hs=>k a w ⟨hs.defers,hs.size,fun j x hx=>?_,hs.hp⟩
 simp only[lk] at hx
 by_cases hj:j=i
 ·subst hj;simp at hx;subst hx;exact hs.ev _ _ hv
 ·rw[pn hj] at hx;exact hs.ev j x hx
theorem WC.freezeS{cc:Code}{α:Type}{Pr:List Value->α->Prop}{ao:Option Addr}{cap:Nat}{cs:List Value}{ls:List α}(hm:Pick L (row (.slice ao ls.length cap) e sz cs) R)(hz:Pick R (fz Zn) R')(hp:PZ F Ek Z)(hr:RR sz Pr cs ls)(k:∀ nh,wg (Z++Zn) (Z++nh)->ZS (Z++nh) sz Pr ao cap ls->WC P n F Ek Q cc env (fz nh::R')):WC P n F Ek Q cc env L:=fun a w h=>by
 obtain⟨nh,h1,h2,h3⟩:=h.hp.freezeS hm hz hp hr
 exact k nh h1 h2 a w (h.world h3)
theorem WC.freezeC{cc:Code}{bb:Nat}{cs:List Value}(hm:Pick L (stb bb T cs) R)(hz:Pick R (fz Zn) R')(k:∀ nh,wg (Z++Zn) (Z++nh)->ZC (Z++nh) ⟨bb,0,none⟩ cs->WC P n F Ek Q cc env (fz nh::R')):WC P n F Ek Q cc env L:=fun a w h=>by
 obtain⟨nh,h1,h2,h3⟩:=h.hp.freezeC hm hz
 exact k nh h1 h2 a w (h.world h3)
theorem WC.pool{cc:Code}(k:WC P n F Ek Q cc env (fz []::L)):WC P n F Ek Q cc env L:=fun a w h=>k a w (h.world h.hp.pool)
theorem WC.merge{cc:Code}{Z1 Z2:Zp}(hm:Pick L (fz Z1) R)(hz:Pick R (fz Z2) R')(k:WC P n F Ek Q cc env (fz (Z2++Z1)::R')):WC P n F Ek Q cc env L:=fun a w h=>k a w (h.world (h.hp.merge hm hz))
theorem C1{cc:Code}(hm:Pick L (row v e sz cs) R)(h:cs=cs')(k:WC P n F Ek Q cc env (row v e sz cs'::R)):WC P n F Ek Q cc env L:=by
 subst h
 exact fun a w hs=>k a w (hs.world (hs.hp.front hm))
theorem B1{cc:Code}(hm:Pick L (row v e sz cs) R)(h:v=u)(k:WC P n F Ek Q cc env (row u e sz cs::R)):WC P n F Ek Q cc env L:=by
 subst h
 exact fun a w hs=>k a w (hs.world (hs.hp.front hm))
theorem Bu{cc:Code}(hm:Pick L (stb bb T cs) R)(h:cs=cs')(k:WC P n F Ek Q cc env (stb bb T cs'::R)):WC P n F Ek Q cc env L:=by
 subst h
 exact fun a w hs=>k a w (hs.world (hs.hp.front hm))
theorem B0{cc:Code}{i:Nat}(hv:lk env i=some v)(h:v=u)(k:WC P n F Ek Q cc ((i,u)::env) L):WC P n F Ek Q cc env L:=by
 subst h
 refine fun a w hs=>k a w ⟨hs.defers,hs.size,fun j x hx=>?_,hs.hp⟩
 simp only[lk] at hx
 by_cases hj:j=i
 ·subst hj;simp at hx;subst hx;exact hs.ev _ _ hv
 ·rw[pn hj] at hx;exact hs.ev j x hx
theorem WX.freezeS{ex:Exit}{α:Type}{Pr:List Value->α->Prop}{ao:Option Addr}{cap:Nat}{cs:List Value}{ls:List α}(hm:Pick L (row (.slice ao ls.length cap) e sz cs) R)(hz:Pick R (fz Zn) R')(hp:PZ F Ek Z)(hr:RR sz Pr cs ls)(k:∀ nh,wg (Z++Zn) (Z++nh)->ZS (Z++nh) sz Pr ao cap ls->WX n F Ek Q ex env (fz nh::R')):WX n F Ek Q ex env L:=fun a w h=>by
 obtain⟨nh,h1,h2,h3⟩:=h.hp.freezeS hm hz hp hr
 exact k nh h1 h2 a w (h.world h3)
theorem WX.freezeC{ex:Exit}{bb:Nat}{cs:List Value}(hm:Pick L (stb bb T cs) R)(hz:Pick R (fz Zn) R')(k:∀ nh,wg (Z++Zn) (Z++nh)->ZC (Z++nh) ⟨bb,0,none⟩ cs->WX n F Ek Q ex env (fz nh::R')):WX n F Ek Q ex env L:=fun a w h=>by
 obtain⟨nh,h1,h2,h3⟩:=h.hp.freezeC hm hz
 exact k nh h1 h2 a w (h.world h3)
theorem WX.pool{ex:Exit}(k:WX n F Ek Q ex env (fz []::L)):WX n F Ek Q ex env L:=fun a w h=>k a w (h.world h.hp.pool)
theorem WX.merge{ex:Exit}{Z1 Z2:Zp}(hm:Pick L (fz Z1) R)(hz:Pick R (fz Z2) R')(k:WX n F Ek Q ex env (fz (Z2++Z1)::R')):WX n F Ek Q ex env L:=fun a w h=>k a w (h.world (h.hp.merge hm hz))
theorem D9(hm:Pick L (row v e sz cs) R)(h:cs=cs')(k:WX n F Ek Q ex env (row v e sz cs'::R)):WX n F Ek Q ex env L:=by
 subst h
 exact fun a w hs=>k a w (hs.world (hs.hp.front hm))
theorem C4(hm:Pick L (row v e sz cs) R)(h:v=u)(k:WX n F Ek Q ex env (row u e sz cs::R)):WX n F Ek Q ex env L:=by
 subst h
 exact fun a w hs=>k a w (hs.world (hs.hp.front hm))
theorem C2(hm:Pick L (stb bb T cs) R)(h:cs=cs')(k:WX n F Ek Q ex env (stb bb T cs'::R)):WX n F Ek Q ex env L:=by
 subst h
 exact fun a w hs=>k a w (hs.world (hs.hp.front hm))
theorem C3{i:Nat}(hv:lk env i=some v)(h:v=u)(k:WX n F Ek Q ex ((i,u)::env) L):WX n F Ek Q ex env L:=by
 subst h
 refine fun a w hs=>k a w ⟨hs.defers,hs.size,fun j x hx=>?_,hs.hp⟩
 simp only[lk] at hx
 by_cases hj:j=i
 ·subst hj;simp at hx;subst hx;exact hs.ev _ _ hv
 ·rw[pn hj] at hx;exact hs.ev j x hx
theorem WX.nilRow{ex:Exit}(e:TypeId)(sz:Nat)(k:WX n F Ek Q ex env (row (.slice none 0 0) e sz []::L)):WX n F Ek Q ex env L:=fun a w h=>k a w (h.world (h.hp.nilRow e sz))
theorem WD.freezeS{α:Type}{Pr:List Value->α->Prop}{ao:Option Addr}{cap:Nat}{cs:List Value}{ls:List α}(hm:Pick L (row (.slice ao ls.length cap) e sz cs) R)(hz:Pick R (fz Zn) R')(hp:PZ F Ek Z)(hr:RR sz Pr cs ls)(k:∀ nh,wg (Z++Zn) (Z++nh)->ZS (Z++nh) sz Pr ao cap ls->WD P n F Ek ops tl Ls QD fuel listed env (fz nh::R')):WD P n F Ek ops tl Ls QD fuel listed env L:=fun a w h=>by
 obtain⟨nh,h1,h2,h3⟩:=h.hp.freezeS hm hz hp hr
 exact k nh h1 h2 a w (h.world h3)
theorem WD.freezeC{bb:Nat}{cs:List Value}(hm:Pick L (stb bb T cs) R)(hz:Pick R (fz Zn) R')(k:∀ nh,wg (Z++Zn) (Z++nh)->ZC (Z++nh) ⟨bb,0,none⟩ cs->WD P n F Ek ops tl Ls QD fuel listed env (fz nh::R')):WD P n F Ek ops tl Ls QD fuel listed env L:=fun a w h=>by
 obtain⟨nh,h1,h2,h3⟩:=h.hp.freezeC hm hz
 exact k nh h1 h2 a w (h.world h3)
theorem WD.pool(k:WD P n F Ek ops tl Ls QD fuel listed env (fz []::L)):WD P n F Ek ops tl Ls QD fuel listed env L:=fun a w h=>k a w (h.world h.hp.pool)
theorem WD.merge{Z1 Z2:Zp}(hm:Pick L (fz Z1) R)(hz:Pick R (fz Z2) R')(k:WD P n F Ek ops tl Ls QD fuel listed env (fz (Z2++Z1)::R')):WD P n F Ek ops tl Ls QD fuel listed env L:=fun a w h=>k a w (h.world (h.hp.merge hm hz))
theorem C0(hm:Pick L (row v e sz cs) R)(h:cs=cs')(k:WD P n F Ek ops tl Ls QD fuel listed env (row v e sz cs'::R)):WD P n F Ek ops tl Ls QD fuel listed env L:=by
 subst h
 exact fun a w hs=>k a w (hs.world (hs.hp.front hm))
theorem N1(hm:Pick L (row v e sz cs) R)(h:v=u)(k:WD P n F Ek ops tl Ls QD fuel listed env (row u e sz cs::R)):WD P n F Ek ops tl Ls QD fuel listed env L:=by
 subst h
 exact fun a w hs=>k a w (hs.world (hs.hp.front hm))
theorem Dc(hm:Pick L (stb bb T cs) R)(h:cs=cs')(k:WD P n F Ek ops tl Ls QD fuel listed env (stb bb T cs'::R)):WD P n F Ek ops tl Ls QD fuel listed env L:=by
 subst h
 exact fun a w hs=>k a w (hs.world (hs.hp.front hm))
theorem Ny{i:Nat}(hv:lk env i=some v)(h:v=u)(k:WD P n F Ek ops tl Ls QD fuel listed ((i,u)::env) L):WD P n F Ek ops tl Ls QD fuel listed env L:=by
 subst h
 refine fun a w hs=>k a w ⟨hs.defers,hs.size,fun j x hx=>?_,hs.hp⟩
 simp only[lk] at hx
 by_cases hj:j=i
 ·subst hj;simp at hx;subst hx;exact hs.ev _ _ hv
 ·rw[pn hj] at hx;exact hs.ev j x hx
theorem Hn{G:Type}(φ:G->Prop)(f9:G->List (Nat×Value))(LI:G->List Asrt){c:Code}(k1:WC P n F Ek (Exit.then (fun a w=>∃ g,φ g/\SS n F Ek (f9 g) (LI g) a w) Q) c env L)(k2:∀ g,φ g->WX n F Ek Q .normal (f9 g) (LI g)):WC P n F Ek Q c env L:=by
 intro a w h
 refine Go.wpIn_mono (k1 a w h) ?_
 intro e a' w' hq
 cases e with
 | normal=>obtain⟨g,tt,hs⟩:=hq;exact k2 g tt a' w' hs
 | _=>exact hq
theorem H3(φ:Prop)(f9:List (Nat×Value))(LI:List Asrt){c:Code}(k1:WC P n F Ek (Exit.then (fun a w=>∃ _g:Unit,φ/\SS n F Ek f9 LI a w) Q) c env L)(k2:φ->WX n F Ek Q .normal f9 LI):WC P n F Ek Q c env L:=
 Hn (G:=Unit) (fun _=>φ) (fun _=>f9) (fun _=>LI) k1 (fun _ h=>k2 h)
theorem N3(φ:A0->A1->Prop)(f9:A0->A1->List (Nat×Value))(LI:A0->A1->List Asrt){c:Code}(k1:WC P n F Ek (Exit.then (fun a w=>∃ g:A0×A1,(φ g.1 g.2)/\SS n F Ek (f9 g.1 g.2) (LI g.1 g.2) a w) Q) c env L)(k2:∀ x0 x1,(φ x0 x1)->WX n F Ek Q .normal (f9 x0 x1) (LI x0 x1)):WC P n F Ek Q c env L:=
 Hn (G:=A0×A1) (fun g=>(φ g.1 g.2)) (fun g=>(f9 g.1 g.2)) (fun g=>(LI g.1 g.2)) k1 (fun g h=>k2 g.1 g.2 h)
theorem Dp(φ:A0->A1->A2->Prop)(f9:A0->A1->A2->List (Nat×Value))(LI:A0->A1->A2->List Asrt){c:Code}(k1:WC P n F Ek (Exit.then (fun a w=>∃ g:A0×A1×A2,(cu3 φ g)/\SS n F Ek (cu3 f9 g) (cu3 LI g) a w) Q) c env L)(k2:∀ x0 x1 x2,(φ x0 x1 x2)->WX n F Ek Q .normal (f9 x0 x1 x2) (LI x0 x1 x2)):WC P n F Ek Q c env L:=
 Hn (G:=A0×A1×A2) (fun g=>(cu3 φ g)) (fun g=>(cu3 f9 g)) (fun g=>(cu3 LI g)) k1 (fun g h=>k2 g.1 g.2.1 g.2.2 h)
theorem H1(φ:A0->A1->A2->A3->A4->Prop)(f9:A0->A1->A2->A3->A4->List (Nat×Value))(LI:A0->A1->A2->A3->A4->List Asrt){c:Code}(k1:WC P n F Ek (Exit.then (fun a w=>∃ g:A0×A1×A2×A3×A4,(cu5 φ g)/\SS n F Ek (cu5 f9 g) (cu5 LI g) a w) Q) c env L)(k2:∀ x0 x1 x2 x3 x4,(φ x0 x1 x2 x3 x4)->WX n F Ek Q .normal (f9 x0 x1 x2 x3 x4) (LI x0 x1 x2 x3 x4)):WC P n F Ek Q c env L:=
 Hn (G:=A0×A1×A2×A3×A4) (fun g=>(cu5 φ g)) (fun g=>(cu5 f9 g)) (fun g=>(cu5 LI g)) k1 (fun g h=>k2 g.1 g.2.1 g.2.2.1 g.2.2.2.1 g.2.2.2.2 h)
end
theorem cK{R:Type}{p:Prop}[Decidable p]{k:Option R}{r:R}{q:Prop}(h:chk p k=some r)(g:p->k=some r->q):q:=let⟨a,b⟩:=wa h;g a b
theorem bK{A R:Type}{o:Option A}{F:A->Option R}{r:R}{q:Prop}(h:o.bind F=some r)(g:∀ x,o=some x->F x=some r->q):q:=let⟨x,a,b⟩:=z2 h;g x a b
theorem jK0{R:Type}{K:Option R}{F:Option R->Option R}{r:R}{q:Prop}(h:uo K F=some r)(g:∀ k,k=K->F k=some r->q):q:=let⟨k,a,b⟩:=vX h;g k a b
theorem jK1{R A0:Type}{K:A0->Option R}{F:(A0->Option R)->Option R}{r:R}{q:Prop}(h:vC K F=some r)(g:∀ k:A0->Option R,(∀ x0,k x0=K x0)->F k=some r->q):q:=let⟨k,a,b⟩:=wE h;g k a b
theorem jK2{R A0 A1:Type}{K:A0->A1->Option R}{F:(A0->A1->Option R)->Option R}{r:R}{q:Prop}(h:rl K F=some r)(g:∀ k:A0->A1->Option R,(∀ x0 x1,k x0 x1=K x0 x1)->F k=some r->q):q:=let⟨k,a,b⟩:=jc h;g k a b
theorem jK3{R A0 A1 A2:Type}{K:A0->A1->A2->Option R}{F:(A0->A1->A2->Option R)->Option R}{r:R}{q:Prop}(h:Q5 K F=some r)(g:∀ k:A0->A1->A2->Option R,(∀ x0 x1 x2,k x0 x1 x2=K x0 x1 x2)->F k=some r->q):q:=let⟨k,a,b⟩:=cd h;g k a b
theorem jK5{R A0 A1 A2 A3 A4:Type}{K:A0->A1->A2->A3->A4->Option R}{F:(A0->A1->A2->A3->A4->Option R)->Option R}{r:R}{q:Prop}(h:jp5 K F=some r)(g:∀ k:A0->A1->A2->A3->A4->Option R,(∀ x0 x1 x2 x3 x4,k x0 x1 x2 x3 x4=K x0 x1 x2 x3 x4)->F k=some r->q):q:=let⟨k,a,b⟩:=J3 h;g k a b
theorem jK6{R A0 A1 A2 A3 A4 A5:Type}{K:A0->A1->A2->A3->A4->A5->Option R}{F:(A0->A1->A2->A3->A4->A5->Option R)->Option R}{r:R}{q:Prop}(h:jp6 K F=some r)(g:∀ k:A0->A1->A2->A3->A4->A5->Option R,(∀ x0 x1 x2 x3 x4 x5,k x0 x1 x2 x3 x4 x5=K x0 x1 x2 x3 x4 x5)->F k=some r->q):q:=let⟨k,a,b⟩:=Fg h;g k a b
end
end Sep
namespace Sep
section
open Go Go.RowKit
end
end Sep
namespace Sep
open Go Go.RowKit
section
variable {α:Type}{i:Int}
variable [Rnd]
theorem cT[Inhabited α]{l:List α}(h0:0<=i)(h:i<l.length):l.drop i.toNat=nth l i::l.drop (i+1).toNat:=by
 rw[show(i+1).toNat=i.toNat+1 from by omega,List.drop_eq_getElem_cons (by omega),ti h0 h]
theorem Fk{l:List α}(h:¬i<l.length):l.drop i.toNat=[]:=List.drop_eq_nil_of_le (by omega)
theorem uw[Inhabited α]{l:List α}(h0:0<=i)(h:i<l.length):nth l i∈l:=by
 rw[<- ti h0 h];exact List.getElem_mem _
theorem Q6[Inhabited α](l:List α)(h0:0<=i)(h:i<l.length):l.take (i+1).toNat=l.take i.toNat++[nth l i]:=by
 rw[show(i+1).toNat=i.toNat+1 from by omega,List.take_succ_eq_append_getElem (by omega),ti h0 h]
theorem MR{n:Nat}(h0:0<=i)(h:i<n)(hn:(n:Int)<=9223372036854775807):i64 (i+1)=i+1:=va (by omega)
theorem Gi{β R:Type}[Inhabited α]{l:List α}{f:α->Option β}{g:α->β}{k:List β->Option R}{by_:Nat}{L:Nat->List β->Int->Option R}(hL:∀ n uW i,L (n+1) uW i=if decide (i<((l.length:Nat):Int)) then chk ((0:Int)<=i/\i<((l.length:Nat):Int)) ((f (nth l i)).bind fun x=>chk ((((uW++[x]).length:Nat):Int)*by_<=140737488355328/\(((uW++[x]).length:Nat):Int)<=4611686018427387904) (L n (uW++[x]) (i64 (i+1)))) else k uW)(hf:∀ x∈l,f x=some (g x))(hs:(l.length:Int)*by_<=140737488355328)(BW:(l.length:Int)<=4611686018427387904):
  ∀(n:Nat) (uW:List β) (i:Int),0<=i->i<=l.length->l.length-i<n->(uW.length:Int)=i->L n uW i=k (uW++(l.drop i.toNat).map g):=by
 intro n
 induction n with
 | zero=>intro uW i h0 h1 h2;omega
 | succ n ih=>
  intro uW i h0 h1 h2 h3
  rw[hL]
  by_cases hi:i<l.length
  ·have AU:(i+1)*(by_:Int)<=140737488355328:=Int.le_trans (Int.mul_le_mul_of_nonneg_right (show i+1<=(l.length:Int) from by omega) (by omega)) hs
   rw[if_pos (by simpa using hi),ws ⟨h0,hi⟩,hf _ (uw h0 hi),oB]
   rw[ws ⟨by rw[List.length_append,List.length_singleton];push_cast;rw[h3];exact AU,by rw[List.length_append,List.length_singleton];omega⟩]
   rw[MR h0 hi (by omega),ih _ (i+1) (by omega) (by omega) (by omega) (by simp;omega),cT h0 hi]
   simp
  ·rw[if_neg (by simpa using hi),Fk hi];simp
end
section
variable [Rnd]
def ZW(W:World):Zp:=bj W (List.range W.heap.size)
theorem ZW_pz(W:World):PZ [] W (ZW W):=⟨Vx _ _,by simp⟩
theorem Mf{W w:World}{A:Addr}{u:Value}(h:rW (ZW W) w)(hc:W.cell? A=some u):w.cell? A=some u:=by
 have tW:=block_lt_of_cell hc
 rw[<- hc]
 exact World.cell?_of_block (aw h (List.mem_range.2 tW) tW)
theorem YP{α:Type}{W:World}{ao:Option Addr}{m cap sz:Nat}{Pr:List Value->α->Prop}{l:List α}(h:sS [] W (.slice ao m cap) sz Pr l):m=l.length/\ZS (ZW W) sz Pr ao cap l:=by
 refine⟨h.len,?_⟩
 obtain⟨rows,⟨⟨Ay,tP,hv,h1,h2,h3⟩,nj⟩,hl,hP⟩:=h
 injection hv with e1 e2 e3
 subst e1 e3
 refine⟨by omega,h2,rows.flatten,⟨rows,rfl,nj,hl,hP⟩,fun uQ=>?_⟩
 obtain⟨A,hA,hc⟩:=h3 (by rintro rfl;exact uQ (List.eq_nil_of_length_eq_zero (by simpa using hl.symm)))
 exact⟨A,hA,fun w hw j u hu=>Mf hw (hc.2 j u hu)⟩
theorem ZS.all{α:Type}{Z:Zp}{sz:Nat}{Pr:List Value->α->Prop}{ao:Option Addr}{cap:Nat}{l:List α}{q:α->Prop}(h:ZS Z sz Pr ao cap l)(hq:∀ r x,Pr r x->q x):∀ x∈l,q x:=by
 obtain⟨_,_,cs,⟨rows,_,_,hl,hP⟩,_⟩:=h
 intro x hx
 obtain⟨i,hi,rfl⟩:=List.getElem_of_mem hx
 exact hq _ _ (hP i rows[i] l[i] (by simp) (by simp))
section
variable {H:Type} {enc:TypeId×Value->H} {P:Program} {W:World}
open Go.ChangeShapes Go.WideShapes Go.ChangeAt
variable [Rnd]
theorem bI{tV:Nat->Bool}{wv:Bool}{base:Nat}{t:TypeId}{fs:Array Field}{f:Field}{fuel:Nat}{cs:List Value}{x:DataW H×List MemPlace}(i:Nat)(ht:P.underlying t=some (.struct fs))(h:DataW.trod enc P W base tV wv fuel t cs=some x)(Bl:fs.toList[i]?=some f):
  ∃ y n,DataW.trod enc P W base tV wv n f.type ((cs.drop f.offset).take (P.cellsOf f.type))=some y:=by
 obtain⟨xs,n,_,rfl,hl,nj,hf⟩:=DataW.trod_struct ht h
 have hi:fs[i]?=some f:=by simpa using Bl
 have h1:=hf i f hi
 have h2:i<xs.length:=by rw[nj];exact(Array.getElem?_eq_some_iff.1 hi).1
 exact⟨xs[i],n,by rw[h1];exact List.getElem?_eq_getElem h2⟩
end
end
section
def wM(L:List Asrt):Asrt where
 fp:=fps L
 ok w:=(∀ x∈L,x.ok w)/\L.Pairwise (fun x y:Asrt=>∀ b∈x.fp,b∉y.fp)
 loc w w' h hl hk:=⟨fun x hx=>x.loc w w' (fun b hb=>h b (List.mem_flatMap.2 ⟨x,hx,hb⟩)) (fun b hb=>hl b (List.mem_flatMap.2 ⟨x,hx,hb⟩)) (hk.1 x hx),hk.2⟩
section
variable {F:List Nat} {Ek w w':World} {L M R:List Asrt}
theorem Hp.open_(h:Hp F Ek w (wM M::R)):Hp F Ek w (M++R):=by
 have h0:=h.ok _ (List.mem_cons_self ..)
 have hs:=List.pairwise_cons.1 h.sep
 refine⟨h.os,h.tape,h.output,h.size,h.block,fun x hx=>?_,fun x hx b hb=>?_,fun x hx b hb=>?_,List.pairwise_append.2 ⟨h0.2,hs.2,fun x hx y hy b hb=>?_⟩⟩
 ·rcases List.mem_append.1 hx with hx | hx
  ·exact h0.1 x hx
  ·exact h.ok x (List.mem_cons_of_mem _ hx)
 ·rcases List.mem_append.1 hx with hx | hx
  ·exact h.lt _ (List.mem_cons_self ..) b (List.mem_flatMap.2 ⟨x,hx,hb⟩)
  ·exact h.lt x (List.mem_cons_of_mem _ hx) b hb
 ·rcases List.mem_append.1 hx with hx | hx
  ·exact h.ow _ (List.mem_cons_self ..) b (List.mem_flatMap.2 ⟨x,hx,hb⟩)
  ·exact h.ow x (List.mem_cons_of_mem _ hx) b hb
 ·exact hs.1 y hy b (List.mem_flatMap.2 ⟨x,hx,hb⟩)
theorem Hp.ur(h:Hp F Ek w (M++R)):Hp F Ek w (wM M::R):=by
 obtain⟨h1,h2,h3⟩:=List.pairwise_append.1 h.sep
 have hb:∀ b∈(wM M).fp,∃ x∈M,b∈x.fp:=fun b hb=>List.mem_flatMap.1 hb
 refine⟨h.os,h.tape,h.output,h.size,h.block,fun x hx=>?_,fun x hx b zK=>?_,fun x hx b zK=>?_,List.pairwise_cons.2 ⟨fun y hy b zK=>?_,h2⟩⟩
 ·rcases List.mem_cons.1 hx with rfl | hx
  ·exact⟨fun y hy=>h.ok y (List.mem_append_left _ hy),h1⟩
  ·exact h.ok x (List.mem_append_right _ hx)
 ·rcases List.mem_cons.1 hx with rfl | hx
  ·obtain⟨y,hy,zf⟩:=hb b zK;exact h.lt y (List.mem_append_left _ hy) b zf
  ·exact h.lt x (List.mem_append_right _ hx) b zK
 ·rcases List.mem_cons.1 hx with rfl | hx
  ·obtain⟨y,hy,zf⟩:=hb b zK;exact h.ow y (List.mem_append_left _ hy) b zf
  ·exact h.ow x (List.mem_append_right _ hx) b zK
 ·obtain⟨x,hx,zf⟩:=hb b zK;exact h3 x hx y hy b zf
theorem Hp.pickAll{R':List Asrt}(h:Hp F Ek w L)(hp:Pick L (wM M) R'):Hp F Ek w (M++R'):=by
 refine Hp.open_ (h.sub (M:=[]) ?_)
 exact .cons hp Sel.all
theorem Hp.selAll(h:Hp F Ek w L)(hs:Sel L M R):Hp F Ek w (wM M::R):=by
 refine Hp.ur ?_
 have:∀ {L M R:List Asrt},Sel L M R->Sel L (M++R) []:=by
  intro L M R h
  induction h with
  | nil=>exact Sel.all
  | cons h _ ih=>exact .cons h ih
 exact h.sub (this hs)
theorem Hp.setBlk{b:Nat}{o o':Obj}(h:Hp F Ek w L)(hp:Pick L (wA b o) R):Hp F Ek (w.putObj b o') (wA b o'::R):=by
 have h':Hp F Ek w (wA b o::R):=h.sub (M:=[]) (.cons hp Sel.all)
 have tW:b<w.heap.size:=h'.lt _ (List.mem_cons_self ..) b (by simp[wA])
 have hb:=(List.pairwise_cons.1 h'.sep).1
 have how:=h'.ow _ (List.mem_cons_self ..) b (by simp[wA])
 have CA:∀ k,k≠b->(w.putObj b o').heap[k]?=w.heap[k]?:=fun k hk=>World.putObj_heap_other hk
 refine⟨h'.os,⟨h'.tape.t,h'.tape.d⟩,h'.output,by rw[World.putObj_size];exact h'.size,fun k hk hf=>?_,fun x hx=>?_,fun x hx c hc=>?_,fun x hx c hc=>?_,List.pairwise_cons.2 ⟨fun y hy c hc=>hb y hy c hc,(List.pairwise_cons.1 h'.sep).2⟩⟩
 ·rw[CA k (fun e=>by subst e;rcases how with h1 | h1;exact hf h1;omega)];exact h'.block k hk hf
 ·rcases List.mem_cons.1 hx with rfl | hx
  ·exact World.putObj_heap_same tW
  ·refine x.loc w _ (fun c hc _=>CA c (fun e=>?_)) (fun c hc=>h'.lt x (List.mem_cons_of_mem _ hx) c hc) (h'.ok x (List.mem_cons_of_mem _ hx))
   exact hb x hx b (by simp[wA]) (e▸hc)
 ·rw[World.putObj_size]
  rcases List.mem_cons.1 hx with rfl | hx
  ·simp[wA] at hc;subst hc;exact tW
  ·exact h'.lt x (List.mem_cons_of_mem _ hx) c hc
 ·rcases List.mem_cons.1 hx with rfl | hx
  ·simp[wA] at hc;subst hc;exact how
  ·exact h'.ow x (List.mem_cons_of_mem _ hx) c hc
end
def k9(fn:FuncId)(tmps:Array Value)(ps:List Tmp)(as_ bo:Code)(D:Nat)(st:LoopState)(pe:Option Code):Obj:=
 .loop { state:=st,pending:=pe,fn:=fn,tmps:=tmps,params:=ps.toArray,assign:=as_,body:=bo,defers:=D }
def ka:Option Code->LoopState
 | none => .ready
 | some _ => .done
abbrev Rc:=LoopState->Option Code->Obj
def vY(cs:List Code):Nat->Option Code
 | 0=>none
 | i+1=>cs[i]?
abbrev rX(l:Nat):Rnd:=⟨some l,[]⟩
abbrev mk1(D:Nat):List Deferred:=[{ target := .collected D,args := #[] }]
abbrev fO(D:Nat):Rnd:=⟨none,mk1 D⟩
abbrev wW(D:Nat):Asrt:=wA D (.deferred (some []))
def cU(P:Program)(Z:Zp)(l:Nat){α σ G H:Type}(av:H->α->List Value)(ar:H->α->List Asrt)(Y:α->σ->Option (Bool×σ))(J:G->σ->Asrt)(Φ:G->σ->Prop):Prop:=
 ∀(x:α) (h:H) (g:G) (s:σ) (b:Bool) (s':σ) (w:World),Y x s=some (b,s')->Φ g s->Hp (fps (ar h x++[J g s])) w w (ar h x++[J g s])->PZ (fps (ar h x++[J g s])) w Z->
  ∃ fn tmps as_ bo,(Instr.yield l (av h x).toArray).run P w = .ok (.round l fn tmps as_ bo) w/\
   RoundIn Fence.wide 0 P l fn tmps as_ bo w fun e w'=>∃ g',e = .returned (.bool b)/\Φ g' s'/\Hp (fps (ar h x++[J g s])) w w' [J g' s']
def ax:List Tmp->List Value->List (Nat×Value)->List (Nat×Value)
 | p::ps,v::vs,env=>ax ps vs ((p,v)::env)
 | _,_,env=>env
theorem Ev.VB:∀(ps:List Tmp) (vs:List Value) (env:List (Nat×Value)) (tmps:Array Value),Ev env tmps->(∀ p∈ps,p<tmps.size)->
  Ev (ax ps vs env) ((ps.zip vs).foldl (fun t x=>t.setIfInBounds x.1 x.2) tmps)
 | [],_,_,_,h,_=>by simpa [ax] using h
 | _::_,[],_,_,h,_=>by simpa [ax] using h
 | p::ps,v::vs,env,tmps,h,hp=>by
  simp only[ax,List.zip_cons_cons,List.foldl_cons]
  exact Ev.VB ps vs _ _ (h.put p v (hp p (List.mem_cons_self ..))) (fun q hq=>by simpa using hp q (List.mem_cons_of_mem _ hq))
theorem YQ:∀(ps:List (Tmp×Value)) (tmps:Array Value),(ps.foldl (fun t x=>t.setIfInBounds x.1 x.2) tmps).size=tmps.size
 | [],_=>rfl
 | p::ps,tmps=>by rw[List.foldl_cons,YQ ps];simp
def W0(P:Program)(l:Nat)(bo:Code)(R:Ending->World->Prop):Exit->Act->World->Prop:=
 Exit.then (fun so sA=>∃ zU,(Instr.beginRound l).run P sA = .ok () zU/\bo.wpIn (@FN (rX l)) 0 P (roundPost P l R) so zU) (fun _ _ _=>False)
section
variable {P:Program} {n:Nat} {F:List Nat} {Ek:World} {env:List (Nat×Value)} {L L':List Asrt} {l D:Nat} {R:Ending->World->Prop} {fn:FuncId} {tmps:Array Value} {ps:List Tmp} {as_ bo:Code} {rc:Rc}
theorem lD{Z:Zp}{α σ G H:Type}{av:H->α->List Value}{ar:H->α->List Asrt}{Y:α->σ->Option (Bool×σ)}{LI:G->σ->List Asrt}{pc:σ->Option Code}{Φ:G->σ->Prop}(Bs:rc=k9 fn tmps ps as_ bo D)(hev:Ev env tmps)(nP:tmps.size=n)(hl:∀ h x,(av h x).length=ps.length)(hps:∀ p∈ps,p<n)(k:∀ x h g s b s' F w,Y x s=some (b,s')->Φ g s->PZ F w Z->
   @WC (rX l) P n F w (W0 P l bo fun e w'=>∃ g',e = .returned (.bool b)/\Φ g' s'/\Hp F w w' [wM (LI g' s'++[wA l (rc (ka (pc s')) (pc s'))])]) as_ (ax ps (av h x) env)
    (ar h x++(LI g s++[wA l (rc (ka (pc s)) (pc s))]))):
  cU P Z l av ar Y (fun g s=>wM (LI g s++[wA l (rc (ka (pc s)) (pc s))])) Φ:=by
 subst Bs
 intro x h g s b s' w hY tt hp hz
 have AV:Hp (fps (ar h x++[wM (LI g s++[wA l (k9 fn tmps ps as_ bo D (ka (pc s)) (pc s))])])) w w (ar h x++(LI g s++[wA l (k9 fn tmps ps as_ bo D (ka (pc s)) (pc s))])):=by
  have CB:Pick (ar h x++[wM (LI g s++[wA l (k9 fn tmps ps as_ bo D (ka (pc s)) (pc s))])]) (wM (LI g s++[wA l (k9 fn tmps ps as_ bo D (ka (pc s)) (pc s))])) (ar h x):=by
   generalize ar h x=A
   induction A with
   | nil=>exact .here
   | cons a A ih=>exact .there ih
  have:=hp.pickAll CB
  have z7:∀(A B:List Asrt),Sel (A++B) (B++A) []:=by
   intro A B
   have h1:∀(A B C:List Asrt),Sel (A++B) C []->∀ a,Sel (A++a::B) (a::C) []:=by
    intro A B C h a
    refine .cons ?_ h
    clear h
    induction A with
    | nil=>exact .here
    | cons x A ih=>exact .there ih
   induction B generalizing A with
   | nil=>simpa using Sel.all
   | cons b B ih=>simpa using h1 A B _ (by simpa using ih A) b
  exact this.sub (z7 _ _)
 have hb:w.heap[l]?=some (k9 fn tmps ps as_ bo D (ka (pc s)) (pc s)):=
  AV.ok (wA l (k9 fn tmps ps as_ bo D (ka (pc s)) (pc s))) (by simp)
 refine⟨_,_,_,_,run_yield hb (by simp[hl]),roundIn_of_wpIn (F := @FN (rX l)) (l:=l) trivial ?_⟩
 refine k x h g s b s' _ w hY tt hz _ w (@SS.mk (rX l) _ _ _ _ _ _ _ rfl ?_ ?_ AV)
 ·have hz:=YQ (ps.zip (av h x)) tmps
  simp only[<- Array.foldl_toList,Array.toList_zip] at *
  simpa [nP] using hz
 ·have hz:=Ev.VB ps (av h x) env tmps hev (fun p hp=>by rw[nP];exact hps p hp)
  simp only[<- Array.foldl_toList,Array.toList_zip] at *
  simpa using hz
theorem N0(Bs:rc=k9 fn tmps ps as_ bo D)(hp:Pick L (wA l (rc .ready none)) L')(k : @WC (rX l) P n F Ek (roundPost P l R) bo env (wA l (rc .busy none)::L')):
  @WX (rX l) n F Ek (W0 P l bo R) .normal env L:=by
 subst Bs
 letI:Rnd:=rX l
 intro a w h
 have hb:w.heap[l]?=some (k9 fn tmps ps as_ bo D .ready none):=h.hp.ok _ hp.mem
 exact⟨_,run_beginRound hb rfl,k a _ (@SS.mk (rX l) _ _ _ _ _ _ _ h.defers h.size h.ev (h.hp.setBlk hp))⟩
theorem Nt(Bs:rc=k9 fn tmps ps as_ bo D)(hp:Pick L (wA l (rc .busy none)) L')(k:∀ w',Hp F Ek w' (wA l (rc .ready none)::L')->R (.returned (.bool true)) w') : @WX (rX l) n F Ek (roundPost P l R) .normal env L:=by
 subst Bs
 letI:Rnd:=rX l
 intro a w h
 have hb:w.heap[l]?=some (k9 fn tmps ps as_ bo D .busy none):=h.hp.ok _ hp.mem
 exact⟨_,_,run_endRound none hb,k _ (h.hp.setBlk hp)⟩
theorem Du{i:Nat}(Bs:rc=k9 fn tmps ps as_ bo D)(hp:Pick L (wA l (rc .busy none)) L')(k:∀ w',Hp F Ek w' (wA l (rc .done (some (.exit i)))::L')->R (.returned (.bool false)) w') : @WX (rX l) n F Ek (roundPost P l R) (.exit i) env L:=by
 subst Bs
 letI:Rnd:=rX l
 intro a w h
 have hb:w.heap[l]?=some (k9 fn tmps ps as_ bo D .busy none):=h.hp.ok _ hp.mem
 exact⟨_,_,run_endRound (some (.exit i)) hb,k _ (h.hp.setBlk hp)⟩
def WJ(P:Program)(n:Nat)(F:List Nat)(Ek:World)(Q:Exit->Act->World->Prop)(D:Nat)(env:List (Nat×Value))(L:List Asrt):Option Code->Prop
 | none => @WX (fO D) n F Ek Q .normal env L
 | some c => @WC (fO D) P n F Ek Q c env L
theorem Ez{g:Operand}{f:FuncId}{caps:List Value}{Q:Exit->Act->World->Prop}(hg:eo env g=some (.func (.func f) #[] caps.toArray))(CC:∀ args w,(callFunc f args).run P w = .ok (.enter f args) w)(k:∀ fn tmps l D (rc:Rc),rc=k9 fn tmps ps as_ bo D->Ev env tmps->tmps.size=n->∀ w,Hp F Ek w (wA l (rc .ready none)::wW D::L)->
   Calls P f (.func (.yield l) #[] #[]::caps).toArray w fun e w'=>∃ v pe L',e = .returned v/\Hp F Ek w' (wA l (rc (ka pe) pe)::L')/\WJ P n F Ek Q D env L' pe):
  @WC Rnd.base P n F Ek Q (.rangeFunc g ps.toArray as_ bo) env L:=by
 intro a w h
 refine wpIn_rangeFunc fun fn _=>?_
 have uY:=(h.hp.alloc (.deferred (some []))).alloc (k9 fn a.tmps ps as_ bo w.heap.size .ready none)
 rw[World.size_alloc] at uY
 refine⟨w.heap.size+1,mk1 w.heap.size,_,{ target := .fn (.func f) caps.toArray,args := #[.func (.yield (w.heap.size+1)) #[] #[]] },(w.alloc (.deferred (some []))).alloc (k9 fn a.tmps ps as_ bo w.heap.size .ready none),f,(.func (.yield (w.heap.size+1)) #[] #[]::caps).toArray,(w.alloc (.deferred (some []))).alloc (k9 fn a.tmps ps as_ bo w.heap.size .ready none),run_enterLoop_outer ..,?_,fun _ _=>trivial,?_,fun h=>by simp[FN] at h,?_⟩
 ·have he:=h.eval hg
  simp only[resolve,rangeCall]
  rw[he]
  simp[Deferred.ofValue,Act.eval,k9]
 ·simp[invoke,CC]
 ·refine(Vq (k fn a.tmps _ _ _ rfl h.ev h.size _ uY)).mono ?_
  rintro e w' ⟨v,pe,L',rfl,hp,hj⟩
  have hb:w'.heap[w.heap.size+1]?=some (k9 fn a.tmps ps as_ bo w.heap.size (ka pe) pe):=hp.ok _ (List.mem_cons_self ..)
  have zj:Hp F Ek (w'.putObj (w.heap.size+1) (k9 fn a.tmps ps as_ bo w.heap.size .exhausted pe)) L':=
   (hp.setBlk (o':=k9 fn a.tmps ps as_ bo w.heap.size .exhausted pe) .here).sub (L':=L') (M:=[wA (w.heap.size+1) (k9 fn a.tmps ps as_ bo w.heap.size .exhausted pe)]) (by
    have:∀(x:Asrt) (L:List Asrt),Sel (x::L) L [x]:=by
     intro x L
     induction L with
     | nil=>exact .nil
     | cons y L ih=>exact .cons (.there .here) ih
    exact this _ _)
  refine⟨pe,_,run_endLoop hb (by cases pe <;> simp[ka]),?_⟩
  have hd:a.defers=[]:=h.defers
  cases pe with
  | none=>exact hj _ _ (@SS.mk (fO w.heap.size) _ _ _ _ _ _ _ (by simp[hd];rfl) h.size h.ev zj)
  | some c=>exact hj _ _ (@SS.mk (fO w.heap.size) _ _ _ _ _ _ _ (by simp[hd];rfl) h.size h.ev zj)
end
section
variable {P:Program} {n:Nat} {F:List Nat} {Ek:World} {Q:Exit->Act->World->Prop} {D p i:Nat} {env:List (Nat×Value)} {L:List Asrt} {cs:List Code} {c:Code}
theorem wjN(k : @WX (fO D) n F Ek Q .normal env L):WJ P n F Ek Q D env L (vY [] p):=by
 cases p with
 | zero=>exact k
 | succ p=>simpa [vY,WJ] using k
theorem tj{α β:Type}{a b:α}{c d:β}(h:some (a,c)=some (b,d)):a=b/\c=d:=by simpa using h
theorem QR{R:Type}{q:Prop}[Decidable q]{x y:Option R}{r:R}(h:(if q then x else y)=some r)(hq:q):x=some r:=by rwa [if_pos hq] at h
theorem QS{R:Type}{q:Prop}[Decidable q]{x y:Option R}{r:R}(h:(if q then x else y)=some r)(hq:¬q):y=some r:=by rwa [if_neg hq] at h
theorem N4[Rnd]{c:Code}{L':List Asrt}(h:L=L')(k:WC P n F Ek Q c env L'):WC P n F Ek Q c env L:=h▸k
end
section
variable {P:Program} {n:Nat} {F:List Nat} {Ek:World} {env:List (Nat×Value)} {L L':List Asrt} {D:Nat} {R:Ending->World->Prop}
theorem E7{f:FuncId}{fn:Func}{c:Code}{vs:List Value}{w:World}{n:Nat}{pre:List Asrt}(hf:P.funcs[f]?=some fn)(hb:fn.body=some c)(hn:fn.ntmps=n)[nP:Ej (Nat.ble vs.length n) true](iA:Hp (fps pre) w w pre)(he:iV 0 vs=env)(k : @WC Rnd.base P n (fps pre) w (bodyPostM (@FN Rnd.base) 0 P fn R) c env pre):Calls P f vs.toArray w R:=by
 have nP:=nP.1
 subst he
 refine QW (m:=0) (callsIn_of_wp_marks (F := @FN Rnd.base) hf hb trivial (k _ _ (@SS.mk Rnd.base _ _ _ _ _ _ _ rfl ?_ ?_ iA)) rfl)
 ·have:=Nat.le_of_ble_eq_true nP
  simp[hn];omega
 ·intro i v hv
  obtain⟨_,h⟩:=Vt vs 0 i v hv
  have tW:i<vs.length:=by have:=(List.getElem?_eq_some_iff.1 h).1;simpa using this
  rw[Array.getElem?_append_left (by simpa using tW)]
  simpa using h
theorem Hd{fn:Func}{rs:List ResultVar}{vs:List Value}(hp:Pick L (wW D) L')(hr:fn.results=rs.toArray)(hv:ResV P F Ek env (wA D (.deferred none)::L') rs vs)(k:∀ w,Hp F Ek w (wA D (.deferred none)::L')->R (.returned (bh vs)) w):
  @WX (fO D) n F Ek (bodyPostM (@FN Rnd.base) 0 P fn R) .ret env L:=fun a w h=>by
 letI:Rnd:=fO D
 have hd:a.defers=mk1 D:=h.defers
 have hb:w.heap[D]?=some (.deferred (some [])):=h.hp.ok _ hp.mem
 show LeavesInM _ _ _ _ _ _ a.defers _ _
 rw[hd]
 have zj:=h.hp.setBlk (o' := .deferred none) hp
 refine⟨by simp,.inl ⟨D,_,rfl,run_takeDeferred hb,?_⟩⟩
 exact⟨_,hv.run hr (@SS.mk (fO D) _ _ _ _ _ _ _ h.defers h.size h.ev zj),k _ zj⟩
end
section
variable [Rnd] {P:Program} {n:Nat} {F:List Nat} {Ek:World} {env:List (Nat×Value)} {L Lr:List Asrt} {ops:Array Oper} {Q:Exit->Act->World->Prop} {na:List Oper}
 {dd:Nat} {ty:TypeId} {pos:String} {after:Array Edge} {gu:Option (Nat×Bool)}
theorem E1{Z:Zp}{l:Nat}{α σ G H:Type}{av:H->α->List Value}{ar:H->α->List Asrt}{Y:α->σ->Option (Bool×σ)}{J:G->σ->Asrt}{Φ:G->σ->Prop}{c:Operand}{xs:List Operand}{zN:Array TypeId}{x:α}{h:H}{g:G}{s s':σ}{b:Bool}(hY:cU P Z l av ar Y J Φ)[hg:Ej (gd env ops ⟨some dd,.call ⟨.value c,xs.toArray,zN⟩,ty,pos,after,gu⟩) (some true)][ng:Ej (Nat.blt dd n) true](hc:eo env c=some (.func (.yield l) #[] #[]))(he:Eos env xs (av h x))(hs:Sel L (ar h x++[J g s]) Lr)(hb:Y x s=some (b,s'))(tt:Φ g s)(hz:∀ w,Hp F Ek w L->PZ (fps (ar h x++[J g s])) w Z)(k:∀ g',Φ g' s'->WL P n F Ek ops Q na ((dd,.bool b)::env) ([J g' s']++Lr)):
  WL P n F Ek ops Q (⟨some dd,.call ⟨.value c,xs.toArray,zN⟩,ty,pos,after,gu⟩::na) env L:=by
 intro a w zs
 refine lA (js zs hg.1) ?_
 obtain⟨fn,tmps,as_,bo,hy,hr⟩:=hY x h g s b s' w hb tt (zs.hp.owns hs) (hz w zs.hp)
 refine⟨fun _ _=>trivial,?_⟩
 have hm:=he.map zs
 have kA:(execOp a.eval ⟨some dd,.call ⟨.value c,xs.toArray,zN⟩,ty,pos,after,gu⟩).run P w = .ok (.round l fn tmps as_ bo) w:=by
  simp[execOp,resolve,zs.eval hc,Deferred.ofValue,invoke,hm,hy]
 rw[lz _ kA (fun d e=>by cases e),Oper.uponIn_round]
 refine⟨fun h=>by simp[FN] at h,RoundIn.mono (F:=FN) (show RoundIn FN 0 P l fn tmps as_ bo w _ from hr) ?_⟩
 rintro e w' ⟨g',rfl,zJ,hp⟩
 exact k g' zJ _ _ (zs.put ng.1 _ (zs.hp.call hs hp))
end
end
section
variable {ao:Option Addr}{cap:Nat}
abbrev MG(α:Type):=List ((Option Addr×Nat)×List α)
def em{α:Type}(p:(Option Addr×Nat)×List α):List Value:=[.slice p.1.1 p.2.length p.1.2]
theorem em_oc{α:Type}:∀ x:(Option Addr×Nat)×List α,∀ u∈em x,u.oneCell'=true:=fun _=>uv si
def bk(e:TypeId)(sz:Nat){α:Type}(enc:α->List Value)(p:(Option Addr×Nat)×List α):Asrt:=row (.slice p.1.1 p.2.length p.1.2) e sz (p.2.flatMap enc)
def mat(e:TypeId)(sz:Nat){α:Type}(enc:α->List Value)(m:MG α):Asrt:=wM (m.map (bk e sz enc))
def J5(e:TypeId)(sz:Nat){α:Type}(enc:α->List Value)(m:MG α)(i:Int):Asrt:=wM ((m.eraseIdx i.toNat).map (bk e sz enc))
section
variable {F:List Nat} {Ek w:World} {L R R' AI:List Asrt} {e:TypeId} {sz:Nat} {α:Type} {enc:α->List Value} {m:MG α} {l:List (List α)} {i:Int} {Z Zn:Zp}
theorem Hp.perm{M:List Asrt}(h:Hp F Ek w L)(p:L.Perm M):Hp F Ek w M:=
 ⟨h.os,h.tape,h.output,h.size,h.block,fun x hx=>h.ok x (p.mem_iff.2 hx),fun x hx=>h.lt x (p.mem_iff.2 hx),fun x hx=>h.ow x (p.mem_iff.2 hx),
  (List.Perm.pairwise_iff (fun {x y} hxy b hb hc=>hxy b hc hb) p).1 h.sep⟩
theorem PZ.left{a b:Zp}{w:World}(h:PZ F w (a++b)):PZ F w a:=⟨fun p hp=>h.1 p (List.mem_append_left _ hp),fun p hp=>h.2 p (List.mem_append_left _ hp)⟩
theorem Fl(h:m.map (·.2)=l):m.length=l.length:=by rw[<- h,List.length_map]
theorem Fm(h:m.map (·.2)=l)(hc:0<=i/\i<l.length):(nth m i).2=nth l i:=by
 subst h
 have h1:i<m.length:=by simpa using hc.2
 have h2:i.toNat<m.length:=by omega
 have e1:=ti (l:=m) hc.1 h1
 have e2:=ti (l:=m.map (·.2)) hc.1 hc.2
 rw[List.getElem_map,e1] at e2
 exact e2
theorem QT(h:m.map (·.2)=l)(hc:0<=i/\i<l.length):0<=i/\i<m.length:=by rw[Fl h];exact hc
theorem MS(h:m.map (·.2)=l)(hc:0<=i/\i<l.length):∃ tl,(m.flatMap em).drop (i.toNat*1)=[.slice (nth m i).1.1 (nth l i).length (nth m i).1.2]++tl:=by
 have AB:=QT h hc
 have:=RR.elem (RR.flat (enc:=em (α:=α)) (sz:=1) (fun _=>rfl) m) AB.1 AB.2
 obtain⟨r,tl,_,h1,rfl⟩:=this
 refine⟨tl,h1.trans ?_⟩
 simp only[em]
 rw[Fm h hc]
theorem Mg(h:m.map (·.2)=l)(i:Int)(a:Option Addr×Nat)(d:List α):(m.set i.toNat (a,d)).map (·.2)=l.set i.toNat d:=by
 rw[List.map_set,h]
theorem Hp.matNil(h:Hp F Ek w L)(e:TypeId)(sz n:Nat)(enc:α->List Value):Hp F Ek w (mat e sz enc (List.replicate n ((none,0),[]))::L):=by
 refine Hp.ur ?_
 induction n with
 | zero=>exact h
 | succ n ih=>
  rw[List.replicate_succ,List.map_cons,List.cons_append]
  exact ih.nilRow e sz
theorem bm{β:Type}:∀(l:List β) (k:Nat) (h:k<l.length),(l[k]::l.eraseIdx k).Perm l
 | [],_,h=>by cases h
 | x::l,0,_ => .refl _
 | x::l,k+1,h=>by
  have:=bm l k (by simpa using h)
  rw[List.getElem_cons_succ,List.eraseIdx_cons_succ]
  exact(List.Perm.swap _ _ _).trans (this.cons x)
theorem Fo(hc:0<=i/\i<m.length):(nth m i::m.eraseIdx i.toNat).Perm m:=by
 have h2:i.toNat<m.length:=by omega
 have e1:=ti (l:=m) hc.1 hc.2
 rw[<- e1]
 exact bm m _ h2
theorem JR(hc:0<=i/\i<m.length)(v:(Option Addr×Nat)×List α):(v::m.eraseIdx i.toNat).Perm (m.set i.toNat v):=
 by
 have h2:i.toNat<m.length:=by omega
 have h3:i.toNat<(m.set i.toNat v).length:=by rw[List.length_set];exact h2
 have:=bm _ _ h3
 rw[List.getElem_set_self,List.eraseIdx_set_eq] at this
 exact this
theorem Hp.matOpen(h:Hp F Ek w L)(hp:Pick L (mat e sz enc m) R)(hl:m.map (·.2)=l)(hc:0<=i/\i<l.length):
  Hp F Ek w (row (.slice (nth m i).1.1 (nth l i).length (nth m i).1.2) e sz ((nth l i).flatMap enc)::J5 e sz enc m i::R):=by
 have h1:=h.pickAll hp
 have h2:Hp F Ek w ((nth m i::m.eraseIdx i.toNat).map (bk e sz enc)++R):=h1.perm (((Fo (QT hl hc)).symm.map _).append_right R)
 rw[List.map_cons,List.cons_append] at h2
 have h3:Hp F Ek w ((m.eraseIdx i.toNat).map (bk e sz enc)++(bk e sz enc (nth m i)::R)):=h2.perm List.perm_middle.symm
 have h4:=(Hp.ur h3).perm (List.Perm.swap _ _ _)
 have h5:bk e sz enc (nth m i)=row (.slice (nth m i).1.1 (nth l i).length (nth m i).1.2) e sz ((nth l i).flatMap enc):=by
  unfold bk;rw[Fm hl hc]
 rw[<- h5];exact h4
theorem Hp.matClose{d:List α}(h:Hp F Ek w L)(hr:Pick L (row (.slice ao d.length cap) e sz (d.flatMap enc)) R)(hx:Pick R (J5 e sz enc m i) R')(hl:m.map (·.2)=l)(hc:0<=i/\i<l.length):
  Hp F Ek w (mat e sz enc (m.set i.toNat ((ao,cap),d))::R'):=by
 refine Hp.ur ?_
 have h1:Hp F Ek w (row (.slice ao d.length cap) e sz (d.flatMap enc)::J5 e sz enc m i::R'):=h.sub (.cons hr (.cons hx .all))
 have h2:=Hp.open_ (h1.perm (List.Perm.swap _ _ _))
 have h3:Hp F Ek w (bk e sz enc ((ao,cap),d)::((m.eraseIdx i.toNat).map (bk e sz enc)++R')):=h2.perm List.perm_middle
 exact h3.perm (((JR (QT hl hc) _).map _).append_right R')
theorem ZA.mat(h:ZA Z (mat e sz enc m))(nj:∀ x,(enc x).length=sz)(hl:m.map (·.2)=l)(hw:∃ w,rW Z w):
  RR 1 (fun r x=>∃(ao:Option Addr) (cap:Nat),r=[.slice ao x.length cap]/\ZS Z sz (fun r x=>r=enc x) ao cap x) (m.flatMap em) l:=by
 subst hl
 refine⟨m.map em,by rw[List.flatMap_def],fun r hr=>by obtain⟨x,_,rfl⟩:=List.mem_map.1 hr;rfl,by simp,?_⟩
 intro i r x hr hx
 rw[List.getElem?_map] at hr hx
 cases hm:m[i]? with
 | none=>rw[hm] at hr;cases hr
 | some p=>
  rw[hm] at hr hx
  obtain rfl:=oJ hr
  obtain rfl:=oJ hx
  refine⟨p.1.1,p.1.2,rfl,ZA.row (e:=e) (cs:=p.2.flatMap enc) ?_ (RR.flat nj _) hw⟩
  intro w hw
  exact(h w hw).1 (bk e sz enc p) (List.mem_map.2 ⟨p,List.mem_of_getElem? hm,rfl⟩)
theorem Hp.freezeM{oe:TypeId}(hr:Pick L (row (.slice ao l.length cap) oe 1 (m.flatMap em)) R)(hm:Pick R (mat e sz enc m) R')(hz:Pick R' (fz Zn) AI)(hp:PZ F Ek Z)(nj:∀ x,(enc x).length=sz)(hl:m.map (·.2)=l)(h:Hp F Ek w L):
  ∃ nh,wg (Z++Zn) (Z++nh)/\ZS (Z++nh) 1 (fun r x=>∃(ao:Option Addr) (cap:Nat),r=[.slice ao x.length cap]/\ZS (Z++nh) sz (fun r x=>r=enc x) ao cap x) ao cap l/\Hp F Ek w (fz nh::AI):=by
 have h0:Hp F Ek w (mat e sz enc m::fz Zn::row (.slice ao l.length cap) oe 1 (m.flatMap em)::AI):=h.perm (hr.perm.trans ((hm.perm.cons _).trans ((List.Perm.swap _ _ _).trans (((hz.perm.cons _).trans (List.Perm.swap _ _ _)).cons _))))
 obtain⟨Z1,h1,h2,h3⟩:=Hp.freeze (x:=mat e sz enc m) .here .here h0
 have h3':=h3.perm (List.Perm.swap _ _ _)
 have hw1:∃ w,rW (Z++Z1) w:=⟨w,(hp.pv w h3).app (h3.ok (fz Z1) (by simp))⟩
 obtain⟨Z2,h4,h5,h6⟩:=Hp.freezeS (Z:=Z) .here .here hp (ZA.mat (h2.mono (wg.right Z Z1)) nj hl hw1) h3'
 refine⟨Z2,h1.app.trans h4,h5.weak ?_,h6⟩
 rintro r x ⟨ao,cap,hr,hs⟩
 exact⟨ao,cap,hr,hs.mono h4⟩
end
section
variable [Rnd]
variable {P:Program} {n:Nat} {F:List Nat} {Ek:World} {env:List (Nat×Value)} {L R R' AI:List Asrt} {ops:Array Oper} {Q:Exit->Act->World->Prop} {lo:List Oper} {cc:Code} {ex:Exit}
 {e oe:TypeId} {sz:Nat} {α:Type} {enc:α->List Value} {m:MG α} {l:List (List α)} {i:Int} {Z Zn:Zp} {tl:Nat->Bool} {Ls:List Asrt} {fuel:Nat} {listed:Array Bool} {QD:Act->World->Prop}
theorem WL.matNil(e:TypeId)(sz n':Nat)(enc:α->List Value)(k:WL P n F Ek ops Q lo env (mat e sz enc (List.replicate n' ((none,0),[]))::L)):WL P n F Ek ops Q lo env L:=fun a w h=>k a w (h.world (h.hp.matNil e sz n' enc))
theorem WD.matNil(e:TypeId)(sz n':Nat)(enc:α->List Value)(k:WD P n F Ek ops tl Ls QD fuel listed env (mat e sz enc (List.replicate n' ((none,0),[]))::L)):WD P n F Ek ops tl Ls QD fuel listed env L:=fun a w h=>k a w (h.world (h.hp.matNil e sz n' enc))
theorem WC.matNil(e:TypeId)(sz n':Nat)(enc:α->List Value)(k:WC P n F Ek Q cc env (mat e sz enc (List.replicate n' ((none,0),[]))::L)):WC P n F Ek Q cc env L:=fun a w h=>k a w (h.world (h.hp.matNil e sz n' enc))
theorem WX.matNil(e:TypeId)(sz n':Nat)(enc:α->List Value)(k:WX n F Ek Q ex env (mat e sz enc (List.replicate n' ((none,0),[]))::L)):WX n F Ek Q ex env L:=fun a w h=>k a w (h.world (h.hp.matNil e sz n' enc))
theorem WL.matOpen(hp:Pick L (mat e sz enc m) R)(hl:m.map (·.2)=l)(hc:0<=i/\i<l.length)(k:WL P n F Ek ops Q lo env (row (.slice (Sep.nth m i).1.1 (Sep.nth l i).length (Sep.nth m i).1.2) e sz ((Sep.nth l i).flatMap enc)::J5 e sz enc m i::R)):WL P n F Ek ops Q lo env L:=fun a w h=>k a w (h.world (h.hp.matOpen hp hl hc))
theorem WL.matClose{ao:Option Addr}{cap:Nat}{d:List α}(hr:Pick L (row (.slice ao d.length cap) e sz (d.flatMap enc)) R)(hx:Pick R (J5 e sz enc m i) R')(hl:m.map (·.2)=l)(hc:0<=i/\i<l.length)(k:WL P n F Ek ops Q lo env (mat e sz enc (m.set i.toNat ((ao,cap),d))::R')):WL P n F Ek ops Q lo env L:=fun a w h=>k a w (h.world (h.hp.matClose hr hx hl hc))
theorem WL.freezeM{ao:Option Addr}{cap:Nat}(hr:Pick L (row (.slice ao l.length cap) oe 1 (m.flatMap em)) R)(hm:Pick R (mat e sz enc m) R')(hz:Pick R' (fz Zn) AI)(hp:PZ F Ek Z)(nj:∀ x,(enc x).length=sz)(hl:m.map (·.2)=l)(k:∀ nh,wg (Z++Zn) (Z++nh)->ZS (Z++nh) 1 (fun r x=>∃(ao:Option Addr) (cap:Nat),r=[.slice ao x.length cap]/\ZS (Z++nh) sz (fun r x=>r=enc x) ao cap x) ao cap l->WL P n F Ek ops Q lo env (fz nh::AI)):WL P n F Ek ops Q lo env L:=fun a w h=>by
 obtain⟨nh,h1,h2,h3⟩:=h.hp.freezeM hr hm hz hp nj hl
 exact k nh h1 h2 a w (h.world h3)
theorem WC.freezeM{ao:Option Addr}{cap:Nat}(hr:Pick L (row (.slice ao l.length cap) oe 1 (m.flatMap em)) R)(hm:Pick R (mat e sz enc m) R')(hz:Pick R' (fz Zn) AI)(hp:PZ F Ek Z)(nj:∀ x,(enc x).length=sz)(hl:m.map (·.2)=l)(k:∀ nh,wg (Z++Zn) (Z++nh)->ZS (Z++nh) 1 (fun r x=>∃(ao:Option Addr) (cap:Nat),r=[.slice ao x.length cap]/\ZS (Z++nh) sz (fun r x=>r=enc x) ao cap x) ao cap l->WC P n F Ek Q cc env (fz nh::AI)):WC P n F Ek Q cc env L:=fun a w h=>by
 obtain⟨nh,h1,h2,h3⟩:=h.hp.freezeM hr hm hz hp nj hl
 exact k nh h1 h2 a w (h.world h3)
theorem WX.freezeM{ao:Option Addr}{cap:Nat}(hr:Pick L (row (.slice ao l.length cap) oe 1 (m.flatMap em)) R)(hm:Pick R (mat e sz enc m) R')(hz:Pick R' (fz Zn) AI)(hp:PZ F Ek Z)(nj:∀ x,(enc x).length=sz)(hl:m.map (·.2)=l)(k:∀ nh,wg (Z++Zn) (Z++nh)->ZS (Z++nh) 1 (fun r x=>∃(ao:Option Addr) (cap:Nat),r=[.slice ao x.length cap]/\ZS (Z++nh) sz (fun r x=>r=enc x) ao cap x) ao cap l->WX n F Ek Q ex env (fz nh::AI)):WX n F Ek Q ex env L:=fun a w h=>by
 obtain⟨nh,h1,h2,h3⟩:=h.hp.freezeM hr hm hz hp nj hl
 exact k nh h1 h2 a w (h.world h3)
theorem WD.freezeM{ao:Option Addr}{cap:Nat}(hr:Pick L (row (.slice ao l.length cap) oe 1 (m.flatMap em)) R)(hm:Pick R (mat e sz enc m) R')(hz:Pick R' (fz Zn) AI)(hp:PZ F Ek Z)(nj:∀ x,(enc x).length=sz)(hl:m.map (·.2)=l)(k:∀ nh,wg (Z++Zn) (Z++nh)->ZS (Z++nh) 1 (fun r x=>∃(ao:Option Addr) (cap:Nat),r=[.slice ao x.length cap]/\ZS (Z++nh) sz (fun r x=>r=enc x) ao cap x) ao cap l->WD P n F Ek ops tl Ls QD fuel listed env (fz nh::AI)):WD P n F Ek ops tl Ls QD fuel listed env L:=fun a w h=>by
 obtain⟨nh,h1,h2,h3⟩:=h.hp.freezeM hr hm hz hp nj hl
 exact k nh h1 h2 a w (h.world h3)
end
section
variable [Rnd]
variable {P:Program} {n:Nat} {F:List Nat} {Ek:World} {env:List (Nat×Value)} {L:List Asrt} {d:Option Tmp} {ty:TypeId} {pos:String} {after:Array Edge} {g:Option (Nat×Bool)} {x y:Operand} {t t' e:TypeId}
theorem Xm{m c:Nat}(ht:P.underlying t=some (.slice e))(hx:eo env x=some (.slice ao m c))(hy:eo env y=some (.slice none 0 0)):Qt P n F Ek env L ⟨d,.binOp .eql t x y t',ty,pos,after,g⟩ (.bool ao.isNone):=by
 intro a w h
 simp[execOp,h.eval hx,h.eval hy,eqGuard_at_slice,Lib.run_eql_slice_nil w t e ao m c 0 0 ht]
end
inductive Ks (cs:List Value):List (Nat×Value)->Prop
 | nil:Ks cs []
 | cons {k:Nat} {v:Value} {ks:List (Nat×Value)} (h:cs[k]?=some v) (t:Ks cs ks):Ks cs ((k,v)::ks)
theorem Ks.get{cs:List Value}{ks:List (Nat×Value)}(h:Ks cs ks):∀ p∈ks,cs[p.1]?=some p.2:=by
 induction h with
 | nil=>intro p hp;cases hp
 | cons h _ ih=>
  intro p hp
  rcases List.mem_cons.1 hp with rfl | hp
  ·exact h
  ·exact ih p hp
def pp(b:Nat)(T:TypeId)(ks:List (Nat×Value)):Asrt where
 fp:=[b]
 ok w:=∃ cs,(stb b T cs).ok w/\Ks cs ks
 loc w w' h hl hk:=by
  obtain⟨cs,h1,h2⟩:=hk
  exact⟨cs,(stb b T cs).loc w w' (by simpa [cS] using h) (by simpa [cS] using hl) h1,h2⟩
theorem Wk.stb{b:Nat}{T:TypeId}{cs:List Value}{ks:List (Nat×Value)}{L M:List Asrt}(h:Ks cs ks)(t:Wk L M):Wk (Sep.stb b T cs::L) (pp b T ks::M):=
 .any rfl (fun _ hk=>⟨cs,hk,h⟩) t
theorem mF{F:List Nat}{Ek:World}{L R:List Asrt}{b off:Nat}{T:TypeId}{ks:List (Nat×Value)}{v:Value}(hm:Pick L (pp b T ks) R)(hv:(off,v)∈ks):∀ w,Hp F Ek w L->w.cell? ⟨b,off,none⟩=some v:=by
 intro w h
 obtain⟨cs,h1,h2⟩:=h.ok _ hm.mem
 rw[cell_of_row w b off _ T (0,0) (cR.1 h1)]
 simpa using h2.get _ hv
theorem ZS.noneNil{α:Type}{Z:Zp}{sz:Nat}{Pr:List Value->α->Prop}{l:List α}(h:ZS Z sz Pr none cap l):l=[]:=by
 obtain⟨_,_,cs,_,h4⟩:=h
 refine Classical.byContradiction fun hn=>?_
 obtain⟨A,hA,_⟩:=h4 hn
 cases hA
end
section
variable {x y:Code}{A1 A2 A3 G A4:Type}
section
variable {P:Program} {n:Nat} {F:List Nat} {Ek:World} {env:List (Nat×Value)} {L:List Asrt} {Q:Exit->Act->World->Prop}
theorem Hv(D:G->Nat)(φ:G->Prop)(f9:G->List (Nat×Value))(LI:G->List Asrt)(k1 : @WC Rnd.base P n F Ek (Exit.then (fun a w=>∃ g,φ g /\ @SS (fO (D g)) n F Ek (f9 g) (LI g) a w) Q) x env L)(k2:∀ g,φ g -> @WC (fO (D g)) P n F Ek Q y (f9 g) (LI g)) : @WC Rnd.base P n F Ek Q (.seq x y) env L:=by
 intro a w h
 refine wpIn_seq (Go.wpIn_mono (k1 a w h) ?_)
 intro e a' w' hq
 cases e with
 | normal=>obtain⟨g,tt,hs⟩:=hq;exact k2 g tt a' w' hs
 | _=>exact hq
theorem Nz{D:G->Nat}{φ:G->Prop}{f9:G->List (Nat×Value)}{LI:G->List Asrt}{M:List Asrt}(g:G)(tt:φ g)(hr:Restr env (f9 g))(hL:Sel L (LI g) M):
  @WX (fO (D g)) n F Ek (Exit.then (fun a w=>∃ g,φ g /\ @SS (fO (D g)) n F Ek (f9 g) (LI g) a w) Q) .normal env L:=
 fun _ _ h=>⟨g,tt,@SS.drop (fO (D g)) _ _ _ _ _ _ _ _ _ (@SS.restr (fO (D g)) _ _ _ _ _ _ _ _ h hr) hL⟩
theorem On(D:G->Nat)(φ:G->Prop)(f9:G->List (Nat×Value))(LI:G->List Asrt){c:Code}(k1 : @WC Rnd.base P n F Ek (Exit.then (fun a w=>∃ g,φ g /\ @SS (fO (D g)) n F Ek (f9 g) (LI g) a w) Q) c env L)(k2:∀ g,φ g -> @WX (fO (D g)) n F Ek Q .normal (f9 g) (LI g)) : @WC Rnd.base P n F Ek Q c env L:=by
 intro a w h
 refine Go.wpIn_mono (k1 a w h) ?_
 intro e a' w' hq
 cases e with
 | normal=>obtain⟨g,tt,hs⟩:=hq;exact k2 g tt a' w' hs
 | _=>exact hq
theorem Od(φ:Nat->A1->Prop)(f9:Nat->A1->List (Nat×Value))(LI:Nat->A1->List Asrt)(k1 : @WC Rnd.base P n F Ek (Exit.then (fun a w=>∃ g:Nat×A1,(φ g.1 g.2) /\ @SS (fO g.1) n F Ek (f9 g.1 g.2) (LI g.1 g.2) a w) Q) x env L)(k2:∀ x0 x1,(φ x0 x1) -> @WC (fO x0) P n F Ek Q y (f9 x0 x1) (LI x0 x1)) : @WC Rnd.base P n F Ek Q (.seq x y) env L:=
 Hv (G:=Nat×A1) (fun g=>g.1) (fun g=>(φ g.1 g.2)) (fun g=>(f9 g.1 g.2)) (fun g=>(LI g.1 g.2)) k1 (fun g h=>k2 g.1 g.2 h)
theorem Oc(φ:Nat->A1->A2->A3->Prop)(f9:Nat->A1->A2->A3->List (Nat×Value))(LI:Nat->A1->A2->A3->List Asrt)(k1 : @WC Rnd.base P n F Ek (Exit.then (fun a w=>∃ g:Nat×A1×A2×A3,(cu4 φ g) /\ @SS (fO g.1) n F Ek (cu4 f9 g) (cu4 LI g) a w) Q) x env L)(k2:∀ x0 x1 x2 x3,(φ x0 x1 x2 x3) -> @WC (fO x0) P n F Ek Q y (f9 x0 x1 x2 x3) (LI x0 x1 x2 x3)) : @WC Rnd.base P n F Ek Q (.seq x y) env L:=
 Hv (G:=Nat×A1×A2×A3) (fun g=>g.1) (fun g=>(cu4 φ g)) (fun g=>(cu4 f9 g)) (fun g=>(cu4 LI g)) k1 (fun g h=>k2 g.1 g.2.1 g.2.2.1 g.2.2.2 h)
theorem D2(φ:Nat->A1->A2->A3->A4->Prop)(f9:Nat->A1->A2->A3->A4->List (Nat×Value))(LI:Nat->A1->A2->A3->A4->List Asrt)(k1 : @WC Rnd.base P n F Ek (Exit.then (fun a w=>∃ g:Nat×A1×A2×A3×A4,(cu5 φ g) /\ @SS (fO g.1) n F Ek (cu5 f9 g) (cu5 LI g) a w) Q) x env L)(k2:∀ x0 x1 x2 x3 x4,(φ x0 x1 x2 x3 x4) -> @WC (fO x0) P n F Ek Q y (f9 x0 x1 x2 x3 x4) (LI x0 x1 x2 x3 x4)) : @WC Rnd.base P n F Ek Q (.seq x y) env L:=
 Hv (G:=Nat×A1×A2×A3×A4) (fun g=>g.1) (fun g=>(cu5 φ g)) (fun g=>(cu5 f9 g)) (fun g=>(cu5 LI g)) k1 (fun g h=>k2 g.1 g.2.1 g.2.2.1 g.2.2.2.1 g.2.2.2.2 h)
theorem Ob{A5:Type}(φ:Nat->A1->A2->A3->A4->A5->Prop)(f9:Nat->A1->A2->A3->A4->A5->List (Nat×Value))(LI:Nat->A1->A2->A3->A4->A5->List Asrt)(k1 : @WC Rnd.base P n F Ek (Exit.then (fun a w=>∃ g:Nat×A1×A2×A3×A4×A5,(cu6 φ g) /\ @SS (fO g.1) n F Ek (cu6 f9 g) (cu6 LI g) a w) Q) x env L)(k2:∀ x0 x1 x2 x3 x4 x5,(φ x0 x1 x2 x3 x4 x5) -> @WC (fO x0) P n F Ek Q y (f9 x0 x1 x2 x3 x4 x5) (LI x0 x1 x2 x3 x4 x5)) : @WC Rnd.base P n F Ek Q (.seq x y) env L:=
 Hv (G:=Nat×A1×A2×A3×A4×A5) (fun g=>g.1) (fun g=>(cu6 φ g)) (fun g=>(cu6 f9 g)) (fun g=>(cu6 LI g)) k1 (fun g h=>k2 g.1 g.2.1 g.2.2.1 g.2.2.2.1 g.2.2.2.2.1 g.2.2.2.2.2 h)
theorem Oa{A5 A6:Type}(φ:Nat->A1->A2->A3->A4->A5->A6->Prop)(f9:Nat->A1->A2->A3->A4->A5->A6->List (Nat×Value))(LI:Nat->A1->A2->A3->A4->A5->A6->List Asrt)(k1 : @WC Rnd.base P n F Ek (Exit.then (fun a w=>∃ g:Nat×A1×A2×A3×A4×A5×A6,(cu7 φ g) /\ @SS (fO g.1) n F Ek (cu7 f9 g) (cu7 LI g) a w) Q) x env L)(k2:∀ x0 x1 x2 x3 x4 x5 x6,(φ x0 x1 x2 x3 x4 x5 x6) -> @WC (fO x0) P n F Ek Q y (f9 x0 x1 x2 x3 x4 x5 x6) (LI x0 x1 x2 x3 x4 x5 x6)) : @WC Rnd.base P n F Ek Q (.seq x y) env L:=
 Hv (G:=Nat×A1×A2×A3×A4×A5×A6) (fun g=>g.1) (fun g=>(cu7 φ g)) (fun g=>(cu7 f9 g)) (fun g=>(cu7 LI g)) k1 (fun g h=>k2 g.1 g.2.1 g.2.2.1 g.2.2.2.1 g.2.2.2.2.1 g.2.2.2.2.2.1 g.2.2.2.2.2.2 h)
end
end
section
variable {w:World}{t':TypeId}
def ww{κ α:Type}[DecidableEq κ]:List (κ×α)->κ->α->α
 | [],_,d=>d
 | p::l,k,d=>if k=p.1 then p.2 else ww l k d
def jD{κ α:Type}[DecidableEq κ]:List (κ×α)->κ->Bool
 | [],_=>false
 | p::l,k=>if k=p.1 then true else jD l k
def wU{κ α:Type}[DecidableEq κ]:List (κ×α)->κ->α->List (κ×α)
 | [],k,v=>[(k,v)]
 | p::l,k,v=>if k=p.1 then(p.1,v)::l else p::wU l k v
def sj(es:Array MapEntry)(iO:Nat):Prop:=(∀ x∈es.toList,x.born<iO)/\(es.toList.map (·.born)).Nodup
theorem sj.empty:sj #[] 0:=⟨by simp,by simp⟩
theorem sj.push{es:Array MapEntry}{iO:Nat}(h:sj es iO)(k v:Value):sj (es.push { key:=k,val:=v,born:=iO }) (iO+1):=by
 refine⟨?_,?_⟩
 ·intro x hx
  simp only[Array.toList_push,List.mem_append,List.mem_singleton] at hx
  rcases hx with hx | rfl
  ·exact Nat.lt_succ_of_lt (h.1 x hx)
  ·exact Nat.lt_succ_self _
 ·simp only[Array.toList_push,List.map_append,List.map_cons,List.map_nil]
  refine List.nodup_append.2 ⟨h.2,by simp,?_⟩
  intro a ha b hb
  obtain⟨x,hx,rfl⟩:=List.mem_map.1 ha
  simp at hb
  have:=h.1 x hx
  omega
theorem sj.modify{es:Array MapEntry}{iO:Nat}(h:sj es iO)(i:Nat)(f:MapEntry->MapEntry)(hf:∀ e,(f e).born=e.born):sj (es.modify i f) iO:=by
 have hm:(es.modify i f).toList.map (·.born)=es.toList.map (·.born):=by
  rw[Array.toList_modify]
  apply List.ext_getElem?
  intro j
  simp only[List.getElem?_map,List.getElem?_modify]
  cases es.toList[j]? with
  | none=>simp
  | some e=>by_cases zR:i=j <;> simp[zR,hf]
 refine⟨?_,by rw[hm];exact h.2⟩
 intro x hx
 have:x.born∈(es.modify i f).toList.map (·.born):=List.mem_map.2 ⟨x,hx,rfl⟩
 rw[hm] at this
 obtain⟨y,hy,he⟩:=List.mem_map.1 this
 rw[<- he];exact h.1 y hy
def wp{κ α:Type}(b:Nat)(ek:κ->Value)(ev:α->Value)(l:List (κ×α)):Asrt where
 fp:=[b]
 ok w:=∃ es iO,w.heap[b]?=some (.map es iO)/\es.toList.map (fun e=>(e.key,e.val))=l.map (fun p=>(ek p.1,ev p.2))/\sj es iO
 loc w w' h hl hk:=by
  obtain⟨es,iO,h1,h2⟩:=hk
  exact⟨es,iO,by rw[h b (by simp) (hl b (by simp))];exact h1,h2⟩
structure KeyT (P:Program) (kt:TypeId) {κ:Type} [DecidableEq κ] (ek:κ->Value):Prop where
 chk:∀(b:Bool) (k:κ) (w:World),(Instr.checkKey b 10000 kt (ek k)).run P w = .ok () w
 find:∀(k:κ) (es:List MapEntry) (ks:List κ) (w:World),es.map (·.key)=ks.map ek->
  (Instr.findKey kt (ek k) es).run P w = .ok ((ks.findIdx? fun k'=>decide (k=k')).map fun i=>(i,((es[i]?).map (·.val)).getD undef)) w
 stays:∀(k:κ) (w:World),(Instr.keyThatStays (ek k) (ek k)).run P w = .ok (ek k) w
section
variable {κ α:Type} [DecidableEq κ]
theorem XL{kk:IntKind}(a:Int):∀(es:List MapEntry) (ks:List Int) (i:Nat),es.map (·.key)=ks.map (Value.int kk)->
  Instr.findNow (.int kk) (.int kk a) es i=some ((ks.findIdx? fun k'=>decide (a=k')).map fun j=>(i+j,((es[j]?).map (·.val)).getD undef))
 | [],[],i,_=>rfl
 | [],_::_,_,h=>by simp at h
 | _::_,[],_,h=>by simp at h
 | e::es,k::ks,i,h=>by
  simp only[List.map_cons,List.cons.injEq] at h
  unfold Instr.findNow
  rw[h.1]
  simp only[Instr.sameNow,if_true]
  by_cases hk:a=k
  ·subst hk;simp[List.findIdx?_cons]
  ·have:(a == k)=false:=by simp[hk]
   rw[this]
   simp only
   rw[XL a es ks (i+1) h.2,List.findIdx?_cons]
   simp only[hk,decide_false,Bool.false_eq_true,if_false]
   cases ks.findIdx? (fun k'=>decide (a=k')) with
   | none=>rfl
   | some j=>simp;omega
theorem cV(a b:ByteArray):(a == b)=decide (a=b):=by
 rw[Bool.eq_iff_iff,MapKept.bytes_beq,decide_eq_true_eq]
theorem XM(a:ByteArray):∀(es:List MapEntry) (ks:List ByteArray) (i:Nat),es.map (·.key)=ks.map Value.string->
  Instr.findNow .string (.string a) es i=some ((ks.findIdx? fun k'=>decide (a=k')).map fun j=>(i+j,((es[j]?).map (·.val)).getD undef))
 | [],[],i,_=>rfl
 | [],_::_,_,h=>by simp at h
 | _::_,[],_,h=>by simp at h
 | e::es,k::ks,i,h=>by
  simp only[List.map_cons,List.cons.injEq] at h
  unfold Instr.findNow
  rw[h.1]
  simp only[Instr.sameNow]
  rw[cV]
  by_cases hk:a=k
  ·subst hk;simp[List.findIdx?_cons]
  ·rw[decide_eq_false hk]
   simp only
   rw[XM a es ks (i+1) h.2,List.findIdx?_cons]
   simp only[hk,decide_false,Bool.false_eq_true,if_false]
   cases ks.findIdx? (fun k'=>decide (a=k')) with
   | none=>rfl
   | some j=>simp;omega
theorem Fp{P:Program}{kt:TypeId}(h:P.underlying kt=some .string):KeyT P kt Value.string where
 chk b k w:=MapKept.run_checkKey h (by simp[MapKept.IsKey]) b 9999
 find k es ks w hk:=by
  unfold Instr.findKey
  simp only[Sem.run_bind,run_underlying h,Result.andThen]
  rw[XM k es ks 0 hk]
  simp
 stays k w:=by simp[Instr.keyThatStays,Instr.sameBits,cV]
theorem Fq{P:Program}{kt:TypeId}{kk:IntKind}(h:P.underlying kt=some (.int kk)):KeyT P kt (Value.int kk) where
 chk b k w:=MapKept.run_checkKey h (by simp[MapKept.IsKey]) b 9999
 find k es ks w hk:=by
  unfold Instr.findKey
  simp only[Sem.run_bind,run_underlying h,Result.andThen]
  rw[XL k es ks 0 hk]
  simp
 stays k w:=by simp[Instr.keyThatStays,Instr.sameBits]
theorem cW{ek:κ->Value}{ev:α->Value}{k:κ}{d:α}:∀(l:List (κ×α)) (es:List MapEntry),es.map (fun e=>(e.key,e.val))=l.map (fun p=>(ek p.1,ev p.2))->
  (match ((l.map (·.1)).findIdx? fun k'=>decide (k=k')).map fun i=>(i,((es[i]?).map (·.val)).getD undef) with | some p=>p.2 | none=>ev d)=ev (ww l k d)
 | [],[],_=>rfl
 | [],_::_,h=>by simp at h
 | _::_,[],h=>by simp at h
 | p::l,e::es,h=>by
  simp only[List.map_cons,List.cons.injEq,Prod.mk.injEq] at h
  rw[List.map_cons,List.findIdx?_cons]
  unfold ww
  by_cases hk:k=p.1
  ·simp[hk,h.1.2]
  ·simp only[hk,decide_false,Bool.false_eq_true,if_false]
   rw[<- cW l es h.2]
   cases (l.map (·.1)).findIdx? (fun k'=>decide (k=k')) <;> simp
theorem YR{k:κ}:∀(l:List (κ×α)),((l.map (·.1)).findIdx? fun k'=>decide (k=k')).isSome=jD l k
 | []=>rfl
 | p::l=>by
  rw[List.map_cons,List.findIdx?_cons]
  unfold jD
  by_cases hk:k=p.1
  ·simp[hk]
  ·simp only[hk,decide_false,Bool.false_eq_true,if_false]
   rw[<- YR l]
   cases (l.map (·.1)).findIdx? (fun k'=>decide (k=k')) <;> simp
theorem cX{ek:κ->Value}{ev:α->Value}{k:κ}{v:α}:∀(l:List (κ×α)) (es:List MapEntry) (i:Nat),es.map (fun e=>(e.key,e.val))=l.map (fun p=>(ek p.1,ev p.2))->
  ((l.map (·.1)).findIdx? fun k'=>decide (k=k'))=some i->
  i<es.length/\((es[i]?).map (·.key)).getD undef=ek k/\(es.modify i fun e=>{ e with key:=ek k,val:=ev v }).map (fun e=>(e.key,e.val))=(wU l k v).map (fun p=>(ek p.1,ev p.2))
 | [],es,i,_,hf=>by simp at hf
 | _::_,[],_,h,_=>by simp at h
 | p::l,e::es,i,h,hf=>by
  simp only[List.map_cons,List.cons.injEq,Prod.mk.injEq] at h
  rw[List.map_cons,List.findIdx?_cons] at hf
  unfold wU
  by_cases hk:k=p.1
  ·subst hk
   simp at hf
   subst hf
   simp[h.1.1,h.2]
  ·simp only[hk,decide_false,Bool.false_eq_true,if_false] at hf
   rw[Option.map_eq_some_iff] at hf
   obtain⟨j,hj,rfl⟩:=hf
   obtain⟨h1,h2,h3⟩:=cX (v:=v) l es j h.2 hj
   refine⟨by simp;omega,by simpa using h2,?_⟩
   rw[if_neg hk,List.modify_succ_cons,List.map_cons,List.map_cons,h3,h.1.1,h.1.2]
theorem cY{k:κ}{v:α}:∀(l:List (κ×α)),((l.map (·.1)).findIdx? fun k'=>decide (k=k'))=none->wU l k v=l++[(k,v)]
 | [],_=>rfl
 | p::l,hf=>by
  rw[List.map_cons,List.findIdx?_cons] at hf
  unfold wU
  by_cases hk:k=p.1
  ·simp[hk] at hf
  ·simp only[hk,decide_false,Bool.false_eq_true,if_false,Option.map_eq_none_iff] at hf
   rw[if_neg hk,cY l hf];rfl
theorem bT{ek:κ->Value}{ev:α->Value}{l:List (κ×α)}{es:List MapEntry}(h:es.map (fun e=>(e.key,e.val))=l.map (fun p=>(ek p.1,ev p.2))):es.map (·.key)=(l.map (·.1)).map ek:=by
 have:=congrArg (List.map (·.1)) h
 rw[List.map_map,List.map_map] at this
 rw[List.map_map]
 exact this
end
section
variable [Rnd]
variable {P:Program} {n:Nat} {F:List Nat} {Ek:World} {env:List (Nat×Value)} {L R:List Asrt} {d:Option Tmp} {ty:TypeId} {pos:String} {after:Array Edge} {g:Option (Nat×Bool)} {x y z:Operand} {t kt e:TypeId}
 {κ α:Type} [DecidableEq κ] {ek:κ->Value} {ev:α->Value} {l:List (κ×α)} {b:Nat} {k:κ} {v dflt:α} {zv:Value}
theorem jK(ek:κ->Value)(ev:α->Value):Yg P n F Ek env L ⟨d,.makeMap t none,ty,pos,after,g⟩ (fun _:Nat=>True) (fun b => .map (some b)) (fun b=>wp b ek ev []::L):=by
 intro a w h
 refine⟨w.heap.size,w.alloc (.map #[] 0),?_,trivial,?_,.alloc _ _⟩
 ·simp[execOp,run_makeMap]
 ·exact Wk.hp (Wk.any (x:=wA w.heap.size (.map #[] 0)) (y:=wp w.heap.size ek ev []) rfl (fun w' hk=>⟨#[],0,hk,rfl,sj.empty⟩) (Wk.refl L)) (h.hp.alloc _)
theorem Gj(K:KeyT P kt ek)(ht:P.underlying t=some (.map kt e))(hz:vk P e zv)(hd:zv=ev dflt)(hp:Hp F Ek w L)(hm:Pick L (wp b ek ev l) R):
  (Instr.lookup t (.map (some b)) (ek k) false).run P w = .ok (ev (ww l k dflt)) w:=by
 obtain⟨es,iO,hb,he,nE⟩:=hp.ok _ hm.mem
 have h1:=K.find k es.toList (l.map (·.1)) w (bT he)
 have h2:=cW (ek:=ek) (ev:=ev) (k:=k) (d:=dflt) l es.toList he
 have BX:=congrFun hz w
 simp only[Instr.lookup,Sem.run_bind,run_underlying ht,Result.andThen,MapKept.run_getObj_map hb,K.chk]
 cases hf:(l.map (·.1)).findIdx? (fun k'=>decide (k=k')) with
 | none=>rw[hf] at h1 h2;simp only[Option.map_none] at h1 h2;simp[h1,BX,hd,h2]
 | some i=>rw[hf] at h1 h2;simp only[Option.map_some,Array.getElem?_toList] at h1 h2;simp[h1,h2]
theorem KE(K:KeyT P kt ek)(ht:P.underlying t=some (.map kt e))(hz:vk P e zv)(hd:zv=ev dflt)(hp:Hp F Ek w L)(hm:Pick L (wp b ek ev l) R):
  (Instr.lookup t (.map (some b)) (ek k) true).run P w = .ok (.tuple #[ev (ww l k dflt),.bool (jD l k)]) w:=by
 obtain⟨es,iO,hb,he,nE⟩:=hp.ok _ hm.mem
 have h1:=K.find k es.toList (l.map (·.1)) w (bT he)
 have h2:=cW (ek:=ek) (ev:=ev) (k:=k) (d:=dflt) l es.toList he
 have h3:=YR (k:=k) l
 have BX:=congrFun hz w
 simp only[Instr.lookup,Sem.run_bind,run_underlying ht,Result.andThen,MapKept.run_getObj_map hb,K.chk]
 cases hf:(l.map (·.1)).findIdx? (fun k'=>decide (k=k')) with
 | none=>rw[hf] at h1 h2 h3;simp only[Option.map_none] at h1 h2;rw[<- h3];simp[h1,BX,hd,h2]
 | some i=>rw[hf] at h1 h2 h3;simp only[Option.map_some,Array.getElem?_toList] at h1 h2;rw[<- h3];simp[h1,h2]
theorem qL(K:KeyT P kt ek)(ht:P.underlying t=some (.map kt e))(hz:vk P e zv)[hd:Ej zv (ev dflt)][hx:Ej (eo env x) (some (.map (some b)))][hy:Ej (eo env y) (some (ek k))](hm:Pick L (wp b ek ev l) R):
  Qt P n F Ek env L ⟨d,.lookup t x y false,ty,pos,after,g⟩ (ev (ww l k dflt)):=by
 intro a w h
 simp[execOp,h.eval hx.1,h.eval hy.1,Gj K ht hz hd.1 h.hp hm]
theorem Gk(K:KeyT P kt ek)(ht:P.underlying t=some (.map kt e))(hz:vk P e zv)(hd:zv=ev dflt)(hx:eo env x=some (.map (some b)))(hy:eo env y=some (ek k))(hm:Pick L (wp b ek ev l) R):
  Qt P n F Ek env L ⟨d,.lookup t x y true,ty,pos,after,g⟩ (.tuple #[ev (ww l k dflt),.bool (jD l k)]):=by
 intro a w h
 simp[execOp,h.eval hx,h.eval hy,KE K ht hz hd h.hp hm]
theorem MT(ht:P.underlying t=some (.map kt e))(hx:eo env x=some (.map (some b)))(hm:Pick L (wp b ek ev l) R):
  Qt P n F Ek env L ⟨d,.call ⟨.builtin .len,#[x],#[t]⟩,ty,pos,after,g⟩ (.int .i64 (l.length:Nat)):=by
 intro a w h
 obtain⟨es,iO,hb,he,nE⟩:=h.hp.ok _ hm.mem
 have hl:es.size=l.length:=by have:=congrArg List.length he;simpa using this
 have AS:P.underlying t=some (.map (P.mapKeyOf t) (P.mapElemOf t)):=by simp[Program.mapKeyOf,Program.mapElemOf,ht]
 simp[execOp,h.eval hx,resolve,invoke,builtin,run_len_map w t _ b es iO AS hb,goInt,hl]
theorem Hp.setMap{l':List (κ×α)}{es':Array MapEntry}{c':Nat}(h:Hp F Ek w L)(hm:Pick L (wp b ek ev l) R)(he:es'.toList.map (fun e=>(e.key,e.val))=l'.map (fun p=>(ek p.1,ev p.2)))(nE:sj es' c'):
  Hp F Ek { w with heap:=w.heap.setIfInBounds b (.map es' c') } (wp b ek ev l'::R):=by
 have tW:b<w.heap.size:=(h.front hm).lt _ (List.mem_cons_self ..) b (by simp[wp])
 refine(h.front hm).upd (x:=wp b ek ev l) (y:=wp b ek ev l') .here rfl ⟨rfl,Nat.le_refl _⟩ rfl (by simp) (fun k _ zD=>?_) ⟨es',c',by simp[tW],he,nE⟩ ?_
 ·have:b≠k:=fun e=>zD (by simp[wp,e])
  simp[Array.getElem?_setIfInBounds,this]
 ·intro b' hb'
  simp only[wp,List.mem_singleton] at hb'
  subst hb'
  exact⟨by simpa using tW,.inl (by simp[wp])⟩
theorem kn{vv:Value}(K:KeyT P kt ek)(ht:P.underlying t=some (.map kt e))[hx:Ej (eo env x) (some (.map (some b)))][hy:Ej (eo env y) (some (ek k))][hv:Ej (eo env z) (some vv)][BY:Ej vv (ev v)](hm:Pick L (wp b ek ev l) R):
  Yh P n F Ek env L ⟨none,.mapUpdate t x y z,ty,pos,after,g⟩ (wp b ek ev (wU l k v)::R):=by
 have BY:=BY.1
 intro a w h
 subst BY
 obtain⟨es,iO,hb,he,nE⟩:=h.hp.ok _ hm.mem
 have h1:=K.find k es.toList (l.map (·.1)) w (bT he)
 cases hf:(l.map (·.1)).findIdx? (fun k'=>decide (k=k')) with
 | none=>
  rw[hf] at h1
  refine⟨{ w with heap:=w.heap.setIfInBounds b (.map (es.push { key:=ek k,val:=ev v,born:=iO }) (iO+1)) },.inl ?_,h.hp.setMap hm ?_ (nE.push _ _)⟩
  ·simp[execOp,h.eval hx.1,h.eval hy.1,h.eval hv.1,Instr.mapUpdate,Sem.run_bind,run_underlying ht,Result.andThen,MapKept.run_getObj_map hb,K.chk,h1,MapKept.run_setObj_map _ hb]
  ·rw[cY l hf];simp[he]
 | some i=>
  rw[hf] at h1
  obtain⟨i1,i2,i3⟩:=cX (v:=v) l es.toList i he hf
  have CD:i<es.size:=by simpa using i1
  have i2':((es[i]?).map (·.key)).getD (ek k)=ek k:=by
   have e:es[i]?=some es[i]:=Array.getElem?_eq_getElem CD
   rw[Array.getElem?_toList,e] at i2
   rw[e];simpa using i2
  refine⟨{ w with heap:=w.heap.setIfInBounds b (.map (es.modify i fun e=>{ e with key:=ek k,val:=ev v }) iO) },.inl ?_,h.hp.setMap hm ?_ (nE.modify _ _ (fun _=>rfl))⟩
  ·simp[execOp,h.eval hx.1,h.eval hy.1,h.eval hv.1,Instr.mapUpdate,Sem.run_bind,run_underlying ht,Result.andThen,MapKept.run_getObj_map hb,K.chk,h1,i2',K.stays,MapKept.run_setObj_map _ hb]
  ·rw[<- i3,Array.toList_modify]
theorem gi{vv:Value}(K:KeyT P kt ek)(ht:P.underlying t=some (.map kt e))[hx:Ej (eo env x) (some (.map (some b)))][hy:Ej (eo env y) (some (ek k))][hv:Ej (eo env z) (some vv)][BY:Ej vv (ev v)](hm:Pick L (wp b ek ev l) R):
  Yh P n F Ek env L ⟨none,.insert t x y z,ty,pos,after,g⟩ (wp b ek ev (wU l k v)::R):=by
 have BY:=BY.1
 intro a w h
 subst BY
 obtain⟨es,iO,hb,he,nE⟩:=h.hp.ok _ hm.mem
 have h1:=K.find k es.toList (l.map (·.1)) w (bT he)
 cases hf:(l.map (·.1)).findIdx? (fun k'=>decide (k=k')) with
 | none=>
  rw[hf] at h1
  refine⟨{ w with heap:=w.heap.setIfInBounds b (.map (es.push { key:=ek k,val:=ev v,born:=iO }) (iO+1)) },.inl ?_,h.hp.setMap hm ?_ (nE.push _ _)⟩
  ·simp[execOp,h.eval hx.1,h.eval hy.1,h.eval hv.1,Instr.mapUpdate,Sem.run_bind,run_underlying ht,Result.andThen,MapKept.run_getObj_map hb,K.chk,h1,MapKept.run_setObj_map _ hb]
  ·rw[cY l hf];simp[he]
 | some i=>
  rw[hf] at h1
  obtain⟨i1,i2,i3⟩:=cX (v:=v) l es.toList i he hf
  have CD:i<es.size:=by simpa using i1
  have i2':((es[i]?).map (·.key)).getD (ek k)=ek k:=by
   have e:es[i]?=some es[i]:=Array.getElem?_eq_getElem CD
   rw[Array.getElem?_toList,e] at i2
   rw[e];simpa using i2
  refine⟨{ w with heap:=w.heap.setIfInBounds b (.map (es.modify i fun e=>{ e with key:=ek k,val:=ev v }) iO) },.inl ?_,h.hp.setMap hm ?_ (nE.modify _ _ (fun _=>rfl))⟩
  ·simp[execOp,h.eval hx.1,h.eval hy.1,h.eval hv.1,Instr.mapUpdate,Sem.run_bind,run_underlying ht,Result.andThen,MapKept.run_getObj_map hb,K.chk,h1,i2',K.stays,MapKept.run_setObj_map _ hb]
  ·rw[<- i3,Array.toList_modify]
theorem Xn{r:α}(K:KeyT P kt ek)(ht:P.underlying t=some (.map kt e))(hz:vk P e zv)(hd:zv=ev dflt)(hx:eo env x=some (.map (some b)))(hy:eo env y=some (ek k))(hm:Pick L (wp b ek ev l) R)(hr:ww l k dflt=r):
  Qt P n F Ek env L ⟨d,.lookup t x y false,ty,pos,after,g⟩ (ev r):=hr▸qL K ht hz (hd:=⟨hd⟩) (hx:=⟨hx⟩) (hy:=⟨hy⟩) hm
theorem WF{a b:ByteArray}(hx:eo env x=some (.string a))(hy:eo env y=some (.string b)):Qt P n F Ek env L ⟨d,.binOp .eql t x y t',ty,pos,after,g⟩ (.bool (decide (a=b))):=by
 intro a' w h
 simp[execOp,h.eval hx,h.eval hy,eqGuard_at_string,binOp_string_eql,<- beq_toListBytes,cV]
theorem J6{a b:ByteArray}(hx:eo env x=some (.string a))(hy:eo env y=some (.string b)):Qt P n F Ek env L ⟨d,.binOp .neq t x y t',ty,pos,after,g⟩ (.bool (decide (a≠b))):=by
 intro a' w h
 simp[execOp,h.eval hx,h.eval hy,eqGuard_at_string,binOp_string_neq,<- beq_toListBytes,cV]
theorem Xo{a b:ByteArray}{r:Bool}(hr:decide (a=b)=r)(hx:eo env x=some (.string a))(hy:eo env y=some (.string b)):Qt P n F Ek env L ⟨d,.binOp .eql t x y t',ty,pos,after,g⟩ (.bool r):=hr▸WF hx hy
def Fr(P:Program)(t f off:Nat)(ft:TypeId):Prop:=∃ fs fd,P.underlying t=some (.struct fs)/\fs[f]?=some fd/\fd.type=ft/\fd.offset=off
theorem Mh{P:Program}{t f off:Nat}{ft:TypeId}{fs:Array Field}{fd:Field}(h:P.underlying t=some (.struct fs))(hf:fs[f]?=some fd)(ht:fd.type=ft)(ho:fd.offset=off):Fr P t f off ft:=⟨fs,fd,h,hf,ht,ho⟩
theorem Fs{f off s:Nat}{ft:TypeId}{cs cs':Array Value}(hf:Fr P t f off ft)(h1:g5 P ft s)(hx:eo env x=some (.agg cs))(hv:cs.extract off (off+s)=cs'):Qt P n F Ek env L ⟨d,.field t x f,ty,pos,after,g⟩ (.agg cs'):=by
 intro a w h
 obtain⟨fs,fd,e1,e2,rfl,rfl⟩:=hf
 have h2:=congrFun h1.1 w
 have h3:=congrFun h1.2 w
 simp[execOp,h.eval hx,Instr.field,run_underlying e1,e2,asAgg,part,h2,h3,hv]
end
end
section
variable [Rnd] {P:Program} {n:Nat} {F:List Nat} {Ek:World} {env:List (Nat×Value)} {L Lc Lr R:List Asrt} {ops:Array Oper} {Q:Exit->Act->World->Prop} {na l:List Oper}
 {dd:Nat} {d:Option Tmp} {ty:TypeId} {pos:String} {after:Array Edge} {g:Option (Nat×Bool)} {x y:Operand} {v u:Value} {t e T:TypeId} {sz by_:Nat}
end
section
variable {o:Oper}{vs cs:List Value}{s:Nat}
section seg
variable [Rnd]
variable {P:Program} {n:Nat} {F:List Nat} {Ek:World} {env:List (Nat×Value)} {L Lc Lr R:List Asrt} {ops:Array Oper} {Q:Exit->Act->World->Prop} {na:List Oper}
def J7(i:Nat):List (Nat×Value)->Bool
 | []=>false
 | p::r=>bif Nat.beq i p.1 then true else J7 i r
def YS:Nat->List (Nat×Value)->List (Nat×Value)->Bool
 | 0,_,_=>true
 | _+1,[],_=>true
 | k+1,p::r,e=>bif J7 p.1 e then false else YS k r e
theorem Ke{i:Nat}:∀ {e:List (Nat×Value)},J7 i e=false->lk e i=none
 | [],_=>rfl
 | (j,v)::r,h=>by
  simp only[J7] at h
  simp only[lk]
  cases hb:Nat.beq i j with
  | true=>rw[hb] at h;simp at h
  | false=>rw[hb] at h;simp at h ⊢;exact Ke h
theorem W1:∀(k:Nat) {nZ e:List (Nat×Value)},YS k nZ e=true->∀ i v,lk e i=some v->lk (nZ.drop k) i=some v->lk nZ i=some v
 | 0,nZ,e,_,i,v,_,h=>by simpa using h
 | k+1,[],e,_,i,v,_,h=>by simp[lk] at h
 | k+1,(j,u)::r,e,hf,i,v,he,h=>by
  simp only[YS] at hf
  cases hk:J7 j e with
  | true=>rw[hk] at hf;simp at hf
  | false=>
   rw[hk] at hf;simp at hf
   have zR:i≠j:=fun zR=>by subst zR;rw[Ke hk] at he;cases he
   simp only[lk];rw[pn zR];exact W1 k hf i v he (by simpa using h)
theorem SS.of{env':List (Nat×Value)}{a:Act}{w:World}(h:SS n F Ek env L a w)(hr:∀ i v,lk env' i=some v->lk env i=some v):SS n F Ek env' L a w:=
 ⟨h.defers,h.size,fun i v hv=>h.ev i v (hr i v hv),h.hp⟩
def WG(n:Nat)(ops:Array Oper):List Oper->List (Nat×Value)->Option (List (Nat×Value))
 | [],e=>some e
 | o::l,e=>match gd e ops o,o.dst with
  | some false,some d=>bif Nat.blt d n then WG n ops l ((d,undef)::e) else none
  | _,_=>none
theorem Dx:∀ {l1 na:List Oper} {env env':List (Nat×Value)},WG n ops l1 env=some env'->WL P n F Ek ops Q na env' L->WL P n F Ek ops Q (l1++na) env L
 | [],na,env,env',h,k=>by simp only[WG,Option.some.injEq] at h;subst h;exact k
 | o::l1,na,env,env',h,k=>by
  simp only[WG] at h
  split at h
  ·rename_i d hg hd
   cases hn:Nat.blt d n with
   | false=>rw[hn] at h;simp at h
   | true=>rw[hn] at h;simp only[cond_true] at h;exact E5 hg hd (ng:=⟨hn⟩) (Dx h k)
  ·cases h
def pickE(n:Nat)(ops:Array Oper)(env:List (Nat×Value))(o:Oper):Option (Nat×Value):=
 match gd env ops o,o.dst,o.op with
 | some true,some d,.pick c x y=>bif Nat.blt d n then(match eo env c with
  | some (.bool b)=>(eo env (bif b then x else y)).map fun v=>(d,v)
  | _=>none) else none
 | _,_,_=>none
theorem C6{d:Nat}{v:Value}(h:pickE n ops env o=some (d,v))(k:WL P n F Ek ops Q na ((d,v)::env) L):WL P n F Ek ops Q (o::na) env L:=by
 obtain⟨dst,op,ty,pos,after,g⟩:=o
 unfold Sep.pickE at h
 split at h
 ·rename_i d' c x y hg hd AV
  simp only at hd AV
  subst hd AV
  cases hn:Nat.blt d' n with
  | false=>rw[hn] at h;simp at h
  | true=>
   rw[hn] at h;simp only[cond_true] at h
   split at h
   ·rename_i b hc
    rw[Option.map_eq_some_iff] at h
    obtain⟨v',hv,he⟩:=h
    injection he with h1 h2;subst h1 h2
    cases b
    ·exact Hr hg rfl hn (vA (hc:=⟨hc⟩) (hy:=⟨hv⟩)) k
    ·exact Hr hg rfl hn (vH (hc:=⟨hc⟩) (hx:=⟨hv⟩)) k
   ·cases h
 ·cases h
theorem Ly{nZ e:List (Nat×Value)}{pd:Nat}{y B:Bool}{M L':List Asrt}(hB:y=B)[hk:Ej (YS (nZ.length-e.length) nZ e) true](he:nZ.drop (nZ.length-e.length)=e)(hL:Sel L L' M):
  WL P n F Ek ops (Exit.then (fun a w=>∃ _g:Unit,True/\SS n F Ek ((pd,.bool B)::e) L' a w) Q) [] ((pd,.bool y)::nZ) L:=by
 subst hB
 intro a w h
 refine⟨(),trivial,(h.of (env':=(pd,.bool y)::e) fun i v hv=>?_).drop hL⟩
 simp only[lk] at hv ⊢
 cases hb:Nat.beq i pd with
 | true=>rw[hb] at hv;simpa using hv
 | false=>rw[hb] at hv;simp only[cond_false] at hv ⊢;exact W1 _ hk.1 i v hv (by rw[he];exact hv)
theorem Lx(wC:Bool)(m sl:Nat){pd:Nat}{b B:Bool}{l:List Oper}{e':List (Nat×Value)}[hlk:Ej (lk env sl) (some (.bool b))][hm:Ej l[m]? (some o)][hsk:Ej (WG n ops (l.take m) ((sl,.bool (!wC))::env)) (some e')][CB:Ej (pickE n ops e' o) (some (pd,.bool (!wC)))][hf:Ej (YS (e'.length-env.length-1) e' ((sl,.bool (!wC))::env)) true][he:Ej (e'.drop (e'.length-env.length-1)) ((sl,.bool (!wC))::env)](hB:b = !wC->B = !wC)(k1:∀ Q',b=wC->WL P n F Ek ops (Exit.then (fun a w=>∃ _g:Unit,True/\SS n F Ek ((pd,.bool B)::(sl,.bool wC)::env) L a w) Q') (l.take (m+1)) ((sl,.bool wC)::env) L)(k2:WL P n F Ek ops Q (l.drop (m+1)) ((pd,.bool B)::env) L):WL P n F Ek ops Q l env L:=by
 have hlk:=hlk.1
 have hm:=hm.1
 have hsk:=hsk.1
 have CB:=CB.1
 have hf:=hf.1
 have he:=he.1
 have AW:∀ c,b=c->∀ i v,lk env i=some v->lk ((sl,.bool c)::env) i=some v:=fun c hc i v hv=>by
  simp only[lk]
  cases hb:Nat.beq i sl with
  | false=>simpa using hv
  | true=>
   have:i=sl:=Nat.eq_of_beq_eq_true hb
   subst this;rw[hlk] at hv;rw[<- hc];simpa using hv
 have hpd:∀ c,b=c->∀ i v,lk ((pd,.bool B)::env) i=some v->lk ((pd,.bool B)::(sl,.bool c)::env) i=some v:=fun c hc i v hv=>by
  unfold lk at hv ⊢
  cases hb:Nat.beq i pd with
  | true=>rw[hb] at hv;simpa using hv
  | false=>rw[hb] at hv;simp only[cond_false] at hv ⊢;exact AW c hc i v hv
 have CE:∀ c,b=c->∀ a w,SS n F Ek env L a w->SS n F Ek ((sl,.bool c)::env) L a w:=fun c hc a w h=>h.of fun i v hv=>by
  simp only[lk] at hv
  cases hb:Nat.beq i sl with
  | false=>rw[hb] at hv;simpa using hv
  | true=>
   have:i=sl:=Nat.eq_of_beq_eq_true hb
   subst this;rw[hb] at hv;simp only[cond_true] at hv;rw[<- hv,<- hc];exact hlk
 refine Hy (G:=Unit) (fun _=>True) (fun _=>(pd,.bool B)::env) (fun _=>L) (m+1) ?_ (fun _ _=>k2)
 by_cases hb:b=wC
 ·refine Hy (G:=Unit) (fun _=>True) (fun _=>(pd,.bool B)::(sl,.bool wC)::env) (fun _=>L) (m+1) ?_ (fun _ _=>?_)
  ·rw[List.take_take,Nat.min_self]
   exact fun a w h=>k1 _ hb a w (CE wC hb a w h)
  ·rw[List.drop_eq_nil_of_le (by simp;omega)]
   exact fun a w h=>⟨(),trivial,h.of (hpd wC hb)⟩
 ·have hb':b = !wC:=by cases b <;> cases wC <;> simp_all
  have BZ:l.take (m+1)=l.take m++[o]:=by rw[List.take_add_one,hm];rfl
  rw[BZ]
  intro a w h
  refine(Dx hsk (C6 CB ?_)) a w (CE _ hb' a w h)
  intro a w h
  refine⟨(),trivial,h.of fun i v hv=>?_⟩
  have h1:=hpd _ hb' i v hv
  rw[hB hb'] at h1
  simp only[lk] at h1 ⊢
  cases hbb:Nat.beq i pd with
  | true=>rw[hbb] at h1;simpa using h1
  | false=>
   rw[hbb] at h1;simp only[cond_false] at h1 ⊢
   refine W1 _ hf i v (by simpa only [lk] using h1) ?_
   rw[he];simpa only [lk] using h1
end seg
section pu
variable [Rnd]
variable {P:Program} {n:Nat} {F:List Nat} {Ek:World} {env:List (Nat×Value)} {L Lc Lr R:List Asrt} {ops:Array Oper} {Q:Exit->Act->World->Prop} {na:List Oper}
def M8:BinOp->IntKind->Int->Int->Option Value
 | .add,k,p,q=>some (.int k (k.wrap (p+q)))
 | .sub,k,p,q=>some (.int k (k.wrap (p-q)))
 | .mul,k,p,q=>some (.int k (k.wrap (p*q)))
 | .lss,_,p,q=>some (.bool (decide (p<q)))
 | .leq,_,p,q=>some (.bool (decide (p<=q)))
 | .gtr,_,p,q=>some (.bool (decide (p>q)))
 | .geq,_,p,q=>some (.bool (decide (p>=q)))
 | .eql,_,p,q=>some (.bool (decide (p=q)))
 | .neq,_,p,q=>some (.bool (decide (p≠q)))
 | _,_,_,_=>none
def puV(env:List (Nat×Value)):Op->Option Value
 | .move x=>eo env x
 | .assign x=>eo env x
 | .pick c x y=>match eo env c with
  | some (.bool true)=>eo env x
  | some (.bool false)=>eo env y
  | _=>none
 | .extract x i=>match eo env x with
  | some (.tuple vs)=>vs.toList[i]?
  | _=>none
 | .unOp .not _ x=>match eo env x with
  | some (.bool b)=>some (.bool (!b))
  | _=>none
 | .binOp op _ x y _=>match eo env x,eo env y with
  | some (.int k p),some (.int k' q)=>if k=k' then M8 op k p q else none
  | _,_=>none
 | _=>none
def puE(n:Nat)(ops:Array Oper)(env:List (Nat×Value))(o:Oper):Option (Nat×Value):=
 match gd env ops o,o.dst with
 | some true,some d=>bif Nat.blt d n then(match puV env o.op with | some v=>some (d,v) | none=>none) else none
 | _,_=>none
theorem puV_q{op:Op}{v:Value}{d:Option Tmp}{ty:TypeId}{pos:String}{after:Array Edge}{g:Option (Nat×Bool)}(h:puV env op=some v):Qt P n F Ek env L ⟨d,op,ty,pos,after,g⟩ v:=by
 cases op <;> simp only[puV] at h <;> try cases h
 case move x=>exact q_m (hx:=⟨h⟩)
 case assign x=>exact q_z (hx:=⟨h⟩)
 case pick c x y=>
  split at h
  ·rename_i hc;exact vH (hc:=⟨hc⟩) (hx:=⟨h⟩)
  ·rename_i hc;exact vA (hc:=⟨hc⟩) (hy:=⟨h⟩)
  ·cases h
 case extract x i=>
  split at h
  ·rename_i vs hx;exact vF (vs:=vs.toList) (hx:=⟨(by rw[hx])⟩) (hi:=⟨h⟩)
  ·cases h
 case unOp o t x=>
  cases o <;> simp only[puV] at h <;> try cases h
  split at h
  ·rename_i b hx;injection h with h;subst h;exact th (hx:=⟨hx⟩)
  ·cases h
 case binOp o t x y t'=>
  split at h
  ·rename_i k p k' q hx hy
   split at h
   ·rename_i hk;subst hk
    cases o <;> simp only[M8] at h <;> try cases h
    ·exact fb (hx:=⟨hx⟩) (hy:=⟨hy⟩)
    ·exact oU (hx:=⟨hx⟩) (hy:=⟨hy⟩)
    ·exact uM (hx:=⟨hx⟩) (hy:=⟨hy⟩)
    ·exact uh (hx:=⟨hx⟩) (hy:=⟨hy⟩)
    ·exact kj (hx:=⟨hx⟩) (hy:=⟨hy⟩)
    ·exact oW (hx:=⟨hx⟩) (hy:=⟨hy⟩)
    ·exact WA hx hy
    ·exact oX (hx:=⟨hx⟩) (hy:=⟨hy⟩)
    ·exact tZ (hx:=⟨hx⟩) (hy:=⟨hy⟩)
   ·cases h
  ·cases h
theorem La{d:Nat}{v:Value}(h:puE n ops env o=some (d,v))(k:WL P n F Ek ops Q na ((d,v)::env) L):WL P n F Ek ops Q (o::na) env L:=by
 obtain⟨dst,op,ty,pos,after,g⟩:=o
 cases hg:gd env ops ⟨dst,op,ty,pos,after,g⟩ with
 | none=>simp[puE,hg] at h
 | some b=>
 cases b with
 | false=>simp[puE,hg] at h
 | true=>
 cases dst with
 | none=>simp[puE,hg] at h
 | some d'=>
  simp only[puE,hg] at h
  cases hn:Nat.blt d' n with
  | false=>rw[hn] at h;simp at h
  | true=>
   rw[hn] at h;simp only[cond_true] at h
   split at h
   ·rename_i v' hv
    injection h with h;injection h with h1 h2;subst h1 h2
    exact Hr hg rfl hn (puV_q hv) k
   ·cases h
end pu
theorem lX[h:Ej (vs.all fun u=>u.oneCell') true]:∀ u∈vs,u.oneCell'=true:=List.all_eq_true.1 h.1
section st
variable [Rnd]
variable {P:Program} {n:Nat} {F:List Nat} {Ek:World} {env:List (Nat×Value)} {L Lc Lr R:List Asrt} {ops:Array Oper} {Q:Exit->Act->World->Prop} {na:List Oper}
 {d:Option Tmp} {ty:TypeId} {pos:String} {after:Array Edge} {g:Option (Nat×Bool)} {v u:Value} {x y:Operand} {t T:TypeId}
theorem wl{b:Nat}(hT:q8 P t s)[hx:Ej (eo env x) (some (.pointer (some ⟨b,0,none⟩)))][hy:Ej (eo env y) (some v)][hv:Ej v.cells vs.toArray](hm:Pick L (stb b T cs) R)[hl:Ej (Nat.beq cs.length vs.length) true][hs:Ej (Nat.beq vs.length s) true][h1:Ej (vs.all fun u=>u.oneCell') true]:
  Yh P n F Ek env L ⟨none,.store t x y,ty,pos,after,g⟩ (stb b T vs::R):=by
 have hx:=hx.1
 have hy:=hy.1
 have hv:=hv.1
 have hl:=hl.1
 have hs:=Nat.eq_of_beq_eq_true hs.1
 have h1:=h1.1
 have hl':=Nat.eq_of_beq_eq_true hl
 refine Vr hT hx hy hv hs (lX (h:=⟨h1⟩)) hm (by omega) ?_
 simp[mf,<- hl']
theorem vg{b off:Nat}{ds:List Value}(hT:q8 P t s)[hx:Ej (eo env x) (some (.pointer (some ⟨b,off,none⟩)))][hy:Ej (eo env y) (some v)][hv:Ej v.cells vs.toArray][hs:Ej (Nat.beq vs.length s) true][h1:Ej (vs.all fun u=>u.oneCell') true](hm:Pick L (stb b T cs) R)[w9:Ej (Nat.ble (off+s) cs.length) true][zZ:Ej (mf cs off vs) ds]:
  Yh P n F Ek env L ⟨none,.store t x y,ty,pos,after,g⟩ (stb b T ds::R):=Vr hT hx.1 hy.1 hv.1 (Nat.eq_of_beq_eq_true hs.1) (lX (h:=⟨h1.1⟩)) hm (Nat.le_of_ble_eq_true w9.1) zZ.1
theorem we{A:Addr}(hT:g5 P t s)[hx:Ej (eo env x) (some (.pointer (some A)))](hR:∀ w,Hp F Ek w L->∀ j u,cs[j]?=some u->w.cell? (A.add j)=some u)[hl:Ej (Nat.beq cs.length s) true]:
  Qt P n F Ek env L ⟨d,.load t x,ty,pos,after,g⟩ (.agg cs.toArray):=wX hT (hx:=⟨hx.1⟩) (hl:=⟨Eq.mpr Nat.beq_eq (Nat.eq_of_beq_eq_true hl.1)⟩) hR
end st
end
end Sep
namespace Sep
open Go Go.RowKit Go.Sort Go.Proofs
section
section plain
variable {α:Type}
def nq(p:α->α->Option Int)(x y:α):Int:=(p x y).getD 0
def QU(p:α->α->Option Int)(x:α):List α->List α
 | []=>[x]
 | y::l=>if nq p x y<=0 then x::y::l else y::QU p x l
def jh(p:α->α->Option Int):List α->List α
 | []=>[]
 | x::l=>QU p x (jh p l)
theorem KF(p:α->α->Option Int)(x:α)(l:List α):(QU p x l).Perm (x::l):=by
 induction l with
 | nil=>exact .refl _
 | cons y l ih=>
  unfold QU
  split
  ·exact .refl _
  ·exact(ih.cons y).trans (.swap x y l)
theorem eW(p:α->α->Option Int)(l:List α):(jh p l).Perm l:=by
 induction l with
 | nil=>exact .refl _
 | cons x l ih=>exact(KF p x _).trans (ih.cons x)
theorem QB(p:α->α->Option Int)(l:List α):(jh p l).length=l.length:=(eW p l).length_eq
def J9[DecidableEq α](p:α->α->Option Int):List α->Bool
 | []=>true
 | x::l=>l.all (fun y=>x == y||(decide (nq p x y<0) && !decide (nq p y x<0)))&&J9 p l
def de[DecidableEq α](p:α->α->Option Int)(r:List α):Bool:=
 (r.all fun x=>(r.all fun y=>(p x y).isSome) && !decide (nq p x x<0))&&J9 p r
theorem Ja[DecidableEq α](p:α->α->Option Int)(r:List α):J9 p r=true↔r.Pairwise (fun x y=>x=y\/(nq p x y<0/\¬nq p y x<0)):=by
 induction r with
 | nil=>simp[J9]
 | cons x l ih=>simp[J9,ih,List.pairwise_cons]
theorem VC[DecidableEq α]{p:α->α->Option Int}{r:List α}(h:de p r=true){x y:α}(hx:x∈r)(hy:y∈r):(nq p x y<0)↔r.idxOf x<r.idxOf y:=by
 simp only[de,Bool.and_eq_true,List.all_eq_true,Bool.not_eq_true',decide_eq_false_iff_not,Ja] at h
 obtain⟨h1,h2⟩:=h
 have ix:=List.idxOf_lt_length_of_mem hx
 have iy:=List.idxOf_lt_length_of_mem hy
 have gx:r[r.idxOf x]=x:=List.getElem_idxOf ix
 have gy:r[r.idxOf y]=y:=List.getElem_idxOf iy
 rw[List.pairwise_iff_getElem] at h2
 constructor
 ·intro hl
  rcases Nat.lt_trichotomy (r.idxOf x) (r.idxOf y) with h3 | h3 | h3
  ·exact h3
  ·exfalso
   have:x=y:=by rw[<- gx,<- gy];simp only[h3]
   subst this
   exact(h1 x hx).2 hl
  ·exfalso
   rcases h2 _ _ iy ix h3 with h4 | ⟨_,h4⟩
   ·rw[gx,gy] at h4;subst h4;omega
   ·rw[gx,gy] at h4;exact h4 hl
 ·intro h3
  rcases h2 _ _ ix iy h3 with h4 | ⟨h4,_⟩
  ·rw[gx,gy] at h4;subst h4;omega
  ·rw[gx,gy] at h4;exact h4
theorem Gm[DecidableEq α]{p:α->α->Option Int}{r:List α}(h:de p r=true){x y:α}(hx:x∈r)(hy:y∈r):p x y=some (nq p x y):=by
 simp only[de,Bool.and_eq_true,List.all_eq_true] at h
 have:=(h.1 x hx).1 y hy
 unfold nq
 cases hp:p x y with
 | none=>rw[hp] at this;cases this
 | some v=>rfl
end plain
theorem Ft{α:Type}[Inhabited α]{enc:α->List Value}{k:Nat}(hk:∀ x,(enc x).length=k)(h0:0<k)(d:Array α):flatK enc k d=(d.toList.flatMap enc).toArray:=by
 have hs:(flatK enc k d).size=(d.toList.flatMap enc).toArray.size:=by simp[tL hk,-List.length_flatMap]
 apply Array.ext hs
 intro i h1 h2
 have hi:i<d.size*k:=by simpa using h1
 have hd:i / k<d.size:=(Nat.div_lt_iff_lt_mul h0).2 hi
 have hm:i % k<(enc d[i / k]!).length:=by rw[hk];exact Nat.mod_lt _ h0
 have e1:(flatK enc k d)[i]=(flatK enc k d)[i]!:=by rw[getElem!_pos _ i h1]
 have e2:(d.toList.flatMap enc)[i]?=some (enc d[i / k]!)[i % k]:=by
  rw[bi hk h0]
  rw[List.getElem?_eq_getElem (by simpa using hd)]
  simp only[oB,Array.getElem_toList]
  simp only[getElem!_pos d (i / k) hd] at hm ⊢
  exact List.getElem?_eq_getElem hm
 rw[e1,get_flatK _ _ _ _ hi,List.getElem_toArray]
 have e3:=List.getElem?_eq_some_iff.1 e2
 obtain⟨_,e3⟩:=e3
 rw[e3,getElem!_pos (enc d[i / k]!) _ hm]
variable [Rnd]
theorem Mi{Z:Zp}{w w':World}(h:∀ p∈Z,w'.heap[p.1]?=w.heap[p.1]?)(hz:rW Z w):rW Z w':=fun p hp=>by rw[h p hp];exact hz p hp
theorem Hp.asGrow{w w':World}(h:Hp [] w w' []):∃ q os',w'=grow (w.drewN q) os':=by
 refine⟨w'.drawn-w.drawn,w'.heap.extract w.heap.size w'.heap.size,?_⟩
 have hd:=h.tape.d
 have z8:w'.heap=w.heap++w'.heap.extract w.heap.size w'.heap.size:=by
  apply Array.ext_getElem?
  intro k
  rw[Array.getElem?_append]
  split
  ·rename_i hk
   exact h.block k hk (by simp)
  ·rename_i hk
   rw[Array.getElem?_extract]
   have:=h.size
   by_cases h2:k<w'.heap.size
   ·rw[if_pos (by omega),show w.heap.size+(k-w.heap.size)=k by omega]
   ·rw[if_neg (by omega),Array.getElem?_eq_none (by omega)]
 obtain⟨hp,tp,dr,os,uW⟩:=w'
 simp only[grow,World.drewN] at *
 have e1:=h.os;have e2:=h.tape.t;have e3:=h.output
 simp only at e1 e2 e3 hd
 rw[<- z8,e1,e2,e3]
 congr 1
 omega
theorem cZ{α:Type}[DecidableEq α]{P:Program}{f:FuncId}{e:TypeId}{k:Nat}{enc:α->List Value}(hk:∀ x,(enc x).length=k)(h0:0<k)(h1:∀ x,∀ v∈enc x,v.oneCell'=true)(hS:∀(β:Type) [Inhabited β] (enc:β->List Value) (cf:β->β->Int) (g:Nat) (cb:Array Value) (_:SWO (ltOf cf)) (wA off cap:Nat) (d0:Array β) (w0:World)
   (_:∀ args w,(callFunc g args).run P w = .ok (.enter g args) w) (_:CmpLays P g cb enc k cf wA off d0.size w0) (_:RowK enc k w0 wA off d0)
   (N a b pA:Nat) (d:Array β) (w:World),b-a<N->d0.size=d.size->SWK enc k w0 wA off d w->a<=b->b<=d.size->d.size<4611686018427387904->pA<4611686018427387904->Below (ltOf cf) a b d->
   Calls P f #[.slice (some ⟨wA,off,none⟩) d.size cap,.int .i64 a,.int .i64 b,.int .i64 pA,.func (.func g) #[] cb] w fun e w'=>e = .returned (.tuple #[])/\SWK enc k w0 wA off (pdq (ltOf cf) d a b pA true true) w')(hN:∀(p:Option Addr) (cap:Nat) (zi:Int) (fv:Value) (w:World),Calls P f #[.slice p 0 cap,.int .i64 0,.int .i64 0,.int .i64 zi,fv] w fun e w'=>e = .returned (.tuple #[])/\w'=w){Z:Zp}{ao:Option Addr}{cap:Nat}{AC:FuncId}{caps:List Value}{l r:List α}{a b zi:Int}{p:α->α->Option Int}{Ek:World}(hz:PZ (fps [row (.slice ao l.length cap) e k (l.flatMap enc)]) Ek Z)(CC:∀ args w,(callFunc AC args).run P w = .ok (.enter AC args) w)(hf:∀ w:World,PZ [] w Z->∀(x0 x1:α) (r:Int),p x0 x1=some r->Calls P AC (([.agg (enc x0).toArray,.agg (enc x1).toArray]:List Value)++caps).toArray w fun e w'=>e = .returned (.int .i64 r)/\Hp [] w w' [])(hb:(a=0/\b=((l.length:Nat):Int))/\(0<=zi/\zi<4611686018427387904/\l.length<4611686018427387904))(ho:de p (jh p l)=true)(hr:r=jh p l)(iA:Hp (fps [row (.slice ao l.length cap) e k (l.flatMap enc)]) Ek Ek [row (.slice ao l.length cap) e k (l.flatMap enc)]):
  Calls P f #[.slice ao l.length cap,.int .i64 a,.int .i64 b,.int .i64 zi,.func (.func AC) #[] caps.toArray] Ek fun en w'=>en = .returned (.tuple #[])/\(r.length=l.length)/\Hp (fps [row (.slice ao l.length cap) e k (l.flatMap enc)]) Ek w' [row (.slice ao r.length cap) e k (r.flatMap enc)]:=by
 obtain⟨⟨rfl,rfl⟩,hl1,hl2,nj⟩:=hb
 have hrl:r.length=l.length:=by rw[hr,QB]
 by_cases hl0:l.length=0
 ·have:l=[]:=List.eq_nil_of_length_eq_zero hl0
  subst this
  subst hr
  refine(hN ao cap zi _ Ek).mono ?_
  rintro en w' ⟨rfl,rfl⟩
  exact⟨rfl,rfl,iA⟩
 obtain⟨n,e',zF,hv⟩:=iA.ok (row (.slice ao l.length cap) e k (l.flatMap enc)) (by simp)
 rcases hv with⟨hv,hn⟩ | ⟨bb,tP,nZ,hv,_,hh,z6,zI,zL,zM⟩
 ·injection hv with _ e2 _;omega
 injection hv with e1 e2 e3
 subst e1 e2 e3
 have hbk:=iA.lt (row (.slice (some ⟨bb,0,none⟩) l.length cap) e k (l.flatMap enc)) (by simp) bb (by simp[row,Value.ownBlock])
 let β:={x:α // x∈l}
 haveI:Inhabited β:=⟨⟨l[0]'(by omega),List.getElem_mem _⟩⟩
 let qI:β->List Value:=fun x=>enc x.1
 let cf:β->β->Int:=fun x y=>nq p x.1 y.1
 have AD:∀ x:β,x.1∈jh p l:=fun x=>(eW p l).mem_iff.2 x.2
 have tW:∀ x y:β,ltOf cf x y=true↔(jh p l).idxOf x.1<(jh p l).idxOf y.1:=fun x y=>by
  rw[<- VC ho (AD x) (AD y)];simp[ltOf,cf]
 have hlf:∀ x y:β,ltOf cf x y=false↔¬(jh p l).idxOf x.1<(jh p l).idxOf y.1:=fun x y=>by
  rw[<- tW x y];cases ltOf cf x y <;> simp
 have hO:SWO (ltOf cf):=by
  refine⟨fun x=>?_,fun x y z h1 h2=>?_,fun x y z h1 h2=>?_⟩
  ·rw[hlf];omega
  ·rw[tW] at h1 h2 ⊢;omega
  ·rw[hlf] at h1 h2 ⊢;omega
 have hU:∀ x y:β,ltOf cf x y=false->ltOf cf y x=false->x=y:=fun x y h1 h2=>by
  rw[hlf] at h1 h2
  have e1:(jh p l).idxOf x.1=(jh p l).idxOf y.1:=by omega
  apply Subtype.ext
  have ix:=List.idxOf_lt_length_of_mem (AD x)
  have iy:=List.idxOf_lt_length_of_mem (AD y)
  rw[<- List.getElem_idxOf ix,<- List.getElem_idxOf iy]
  simp only[e1]
 let d:Array β:=l.attach.toArray
 have zZ:d.size=l.length:=by show List.length l.attach=l.length;exact List.length_attach
 have hdl:d.toList.flatMap qI=l.flatMap enc:=by
  show l.attach.flatMap (fun x=>enc x.1)=_
  have h3:=congrArg (List.flatMap enc) (List.attach_map_subtype_val l)
  rw[List.flatMap_map] at h3
  exact h3
 have Cw:∀ d:Array β,flatK qI k d=(d.toList.flatMap qI).toArray:=fun d=>Ft (fun x=>hk x.1) h0 d
 have hll:(l.flatMap enc).length=l.length*k:=tL hk l
 have hck:l.length*k<=cap*k:=Nat.mul_le_mul_right k z6
 have BV:∀ j,j<l.length*k->nZ[j]?=(l.flatMap enc)[j]?:=by
  intro j hj
  rw[<- zM,List.getElem?_take,if_pos (by omega)]
  simp
 have hH:HoldsK qI k Ek bb 0 d:=by
  intro j hj
  have hj':j<l.length*k:=by rw[size_flatK,zZ] at hj;exact hj
  refine⟨?_,?_⟩
  ·rw[Nat.zero_add,cell_of_row Ek bb j _ _ (0,0) hh,BV j hj',getElem!_pos _ j hj]
   simp only[Cw,hdl,id,List.getElem_toArray]
   exact List.getElem?_eq_getElem (by omega)
  ·simp[World.frozen?,hh,Nat.zero_add]
 have z8:∀(m:Nat) (os:Array Obj) (dk:Array β) (k':Nat),(sortWorldK qI k Ek bb 0 m dk os).heap[k']?=if k'=bb then some (.cells (putCells id 0 (flatK qI k dk) nZ) e' (0,0)) else if k'<Ek.heap.size then Ek.heap[k']? else os[k'-Ek.heap.size]?:=by
  intro m os dk k'
  simp only[sortWorldK,putRowK,grow,putRow,mapBlock,Sort.ahead,Array.getElem?_append,Array.size_modify,Array.getElem?_modify]
  by_cases hk:k'=bb
  ·subst hk
   have hh2:=(Array.getElem?_eq_some_iff.1 hh).2
   simp[hbk,hh2,onCells]
  ·have:¬bb=k':=fun h=>hk h.symm
   simp[hk,this]
 have nP:∀(m:Nat) (os:Array Obj) (dk:Array β),(sortWorldK qI k Ek bb 0 m dk os).heap.size=Ek.heap.size+os.size:=by
  intro m os dk
  simp[sortWorldK,putRowK,grow,putRow,mapBlock,Sort.ahead]
 have hZ:∀(m:Nat) (os:Array Obj) (dk:Array β),PZ [] (sortWorldK qI k Ek bb 0 m dk os) Z:=by
  intro m os dk
  refine⟨Mi (w:=Ek) (fun q hq=>?_) hz.1,fun _ _=>by simp⟩
  rw[z8]
  have h3:q.1≠bb:=by
   intro h4
   exact hz.2 q hq (by rw[h4];simp[row,Value.ownBlock])
  rw[if_neg h3,if_pos (hz.1.lt q hq)]
 have hC:CmpLays P AC caps.toArray qI k cf bb 0 d.size Ek:=by
  intro m os dk hdk x y
  have h:=hf _ (hZ m os dk) x.1 y.1 _ (Gm ho (AD x) (AD y))
  have ea:(([.agg (enc x.1).toArray,.agg (enc y.1).toArray]:List Value)++caps).toArray = #[.agg (qI x).toArray,.agg (qI y).toArray]++caps.toArray:=by simp[qI]
  rw[ea] at h
  refine h.mono ?_
  rintro en w' ⟨rfl,hp⟩
  exact⟨rfl,hp.asGrow⟩
 have hR:RowK qI k Ek bb 0 d:=⟨fun x=>hk x.1,fun x=>h1 x.1,hH,hbk⟩
 have hlm:((zi.toNat:Nat):Int)=zi:=Int.toNat_of_nonneg hl1
 have hc:=hS β qI cf AC caps.toArray hO bb 0 cap d Ek CC hC hR (d.size+1) 0 d.size zi.toNat d Ek (by omega) rfl (SWK.start hH) (Nat.zero_le _) (Nat.le_refl _) (by omega) (by omega) (Or.inl rfl)
 rw[hlm,zZ] at hc
 refine hc.mono ?_
 rintro en w' ⟨rfl,m,os,rfl⟩
 refine⟨rfl,hrl,?_⟩
 have hp:=pdq_sorts (ltOf cf) hO d 0 d.size zi.toNat true true (Nat.zero_le _) (Nat.le_refl _) (Or.inl rfl)
 rw[zZ] at hp
 generalize hd':pdq (ltOf cf) d 0 l.length zi.toNat true true=d' at hp ⊢
 have hs':d'.size=l.length:=hp.1.1.trans zZ
 have hu1:=sorted_unique_holds hO hU d d' (by rw[zZ];exact hp.1) (by rw[zZ];exact hp.2)
 have z7:d'.toList.Perm l.attach:=by rw[hu1];exact(List.mergeSort_perm _ _)
 have Bt:(d'.toList.map (·.1))=r:=by
  have uY:(d'.toList.map (·.1)).Perm (jh p l):=by
   refine(z7.map _).trans ?_
   rw[List.attach_map_subtype_val]
   exact(eW p l).symm
  have hw1:(d'.toList.map (·.1)).Pairwise fun x y=>¬nq p y x<0:=by
   rw[List.pairwise_map,List.pairwise_iff_getElem]
   intro i j hi hj zR
   have h3:=hp.2 i j (Nat.zero_le _) zR (by rw[<- hs'];simpa using hj)
   rw[getElem!_pos d' j (by simpa using hj),getElem!_pos d' i (by simpa using hi)] at h3
   simpa [ltOf,cf] using h3
  have hw2:(jh p l).Pairwise fun x y=>¬nq p y x<0:=by
   have h3:=ho
   simp only[de,Bool.and_eq_true,List.all_eq_true,Bool.not_eq_true',decide_eq_false_iff_not,Ja] at h3
   refine(List.Pairwise.imp_of_mem ?_ h3.2)
   intro x y hx hy hxy
   rcases hxy with rfl | hxy
   ·exact(h3.1 x hx).2
   ·exact hxy.2
  rw[hr]
  refine List.Perm.eq_of_pairwise (le:=fun x y=>¬nq p y x<0) ?_ hw1 hw2 uY
  intro x y hx hy h3 h4
  have nY:x∈jh p l:=uY.mem_iff.1 hx
  have Cz:y∈jh p l:=by first | exact hy | exact uY.mem_iff.1 hy
  rw[VC ho Cz nY] at h3
  rw[VC ho nY Cz] at h4
  have ix:=List.idxOf_lt_length_of_mem nY
  have iy:=List.idxOf_lt_length_of_mem Cz
  rw[<- List.getElem_idxOf ix,<- List.getElem_idxOf iy]
  simp only[show(jh p l).idxOf x=(jh p l).idxOf y by omega]
 have hrf:flatK qI k d'=(r.flatMap enc).toArray:=by
  rw[Cw,<- Bt,List.flatMap_map]
 have hrk:r.length*k=l.length*k:=by rw[hrl]
 have CF:(r.flatMap enc).length=r.length*k:=tL hk r
 refine⟨rfl,⟨rfl,by simp[sortWorldK,putRowK,grow,putRow,mapBlock,Sort.ahead]⟩,rfl,by rw[nP];omega,?_,?_,?_,?_,by simp⟩
 ·intro k' zD hf
  rw[z8]
  have:k'≠bb:=by rintro rfl;exact hf (by simp[row,Value.ownBlock])
  simp[this,zD]
 ·intro x hx
  simp only[List.mem_singleton] at hx;subst hx
  refine⟨r.length,e',CF,.inr ⟨bb,cap,putCells id 0 (flatK qI k d') nZ,rfl,Nat.zero_le _,by rw[z8];simp,by omega,zI,by simp[putCells];omega,?_⟩⟩
  apply List.ext_getElem?
  intro j
  rw[List.getElem?_take,hrf]
  by_cases hj:j<r.length*k
  ·rw[if_pos hj]
   have hjc:j<nZ.size:=by omega
   simp only[putCells,Array.getElem?_toList,Array.getElem?_mapIdx,Array.getElem?_eq_getElem hjc,Option.map_some]
   rw[if_pos ⟨Nat.zero_le _,by simp only[List.size_toArray];omega⟩,Nat.sub_zero,getElem!_pos _ j (by simp only[List.size_toArray];omega)]
   simp only[id,List.getElem_toArray]
   exact(List.getElem?_eq_getElem (by omega)).symm
  ·rw[if_neg hj,List.getElem?_eq_none (by omega)]
 ·intro x hx b' hb'
  simp only[List.mem_singleton] at hx;subst hx
  simp[row,Value.ownBlock] at hb'
  subst hb'
  rw[nP];omega
 ·intro x hx b' hb'
  simp only[List.mem_singleton] at hx;subst hx
  simp[row,Value.ownBlock] at hb'
  subst hb'
  exact .inl (by simp[row,Value.ownBlock])
end
end Sep
namespace Sep
open Go Go.RowKit
section
def rY(i:Nat)(acc:Array Bool)(o:Oper):Array Bool:=acc.push (o.after.any fun e=>Region.binds .any e&&(Nat.beq e.on i||acc.getD e.on false))
def Q7(i:Nat)(oi:Oper)(ops:Array Oper)(tl:Nat->Bool):List Oper->List Bool->Nat->Nat->Bool
 | [],[],_,_=>true
 | oj::os,lj::ls,j,W=>
  if (oj.after.any fun e=>Region.binds .any e&&(Nat.beq e.on i||Nat.testBit W e.on)) then !lj&&Q7 i oi ops tl os ls (j+1) (W ||| (1 <<< j))
  else(Nat.beq j i||lj||(oi.apart ops oj && !tl j))&&Q7 i oi ops tl os ls (j+1) W
 | _,_,_,_=>false
def M9(ops:Array Oper)(tl:Nat->Bool)(listed:Array Bool)(i:Nat):Bool:=
 match ops[i]? with
 | none=>false
 | some oi=>Q7 i oi ops tl ops.toList listed.toList 0 0
theorem Jb{i:Nat}{oi:Oper}{ops:Array Oper}{tl:Nat->Bool}:∀(os:List Oper) (ls:List Bool) (j W:Nat) (acc:Array Bool),acc.size=j->(∀ k,acc.getD k false=W.testBit k)->Q7 i oi ops tl os ls j W=true->
  ls.length=os.length/\(os.foldl (rY i) acc).size=j+os.length/\(∀ k,k<j->(os.foldl (rY i) acc).getD k false=acc.getD k false)/\
  ∀(m:Nat) (oj:Oper) (lj:Bool),os[m]?=some oj->ls[m]?=some lj->
   ((os.foldl (rY i) acc).getD (j+m) false=true->lj=false/\(oj.after.any fun e=>Region.binds .any e&&(Nat.beq e.on i||(os.foldl (rY i) acc).getD e.on false))=true)/\
   ((os.foldl (rY i) acc).getD (j+m) false=false->j+m=i\/lj=true\/(oi.apart ops oj=true/\tl (j+m)=false))
 | [],[],j,W,acc,hs,hW,h=>⟨rfl,hs,fun _ _=>rfl,fun m oj lj h1 _=>by simp at h1⟩
 | [],_::_,j,W,acc,hs,hW,h=>by simp[Q7] at h
 | _::_,[],j,W,acc,hs,hW,h=>by simp[Q7] at h
 | oj::os,lj::ls,j,W,acc,hs,hW,h=>by
  rw[Q7] at h
  have hfun:(fun e:Edge=>Region.binds .any e&&(Nat.beq e.on i||Nat.testBit W e.on))=(fun e=>Region.binds .any e&&(Nat.beq e.on i||acc.getD e.on false)):=by
   funext e;rw[hW]
  rw[hfun] at h
  have AX:∀(b:Bool) (k:Nat),(acc.push b).getD k false=if k=j then b else acc.getD k false:=by
   intro b k
   by_cases hk:k=j
   ·subst hk;subst hs;simp
   ·rw[if_neg hk]
    rcases Nat.lt_or_ge k acc.size with h' | h'
    ·simp[Array.getD,h',Nat.lt_succ_of_lt h',Array.getElem_push_lt h']
    ·have h1:¬k<acc.size:=by omega
     have h2:¬k<acc.size+1:=by omega
     simp[Array.getD,h1,h2]
  have key:∀(b:Bool) (W':Nat),rY i acc oj=acc.push b->(∀ k,(acc.push b).getD k false=W'.testBit k)->Q7 i oi ops tl os ls (j+1) W'=true->
    ((b=true->lj=false)/\(b=false->j=i\/lj=true\/(oi.apart ops oj=true/\tl j=false)))->(oj.after.any fun e=>Region.binds .any e&&(Nat.beq e.on i||acc.getD e.on false))=b->
    (lj::ls).length=(oj::os).length/\((oj::os).foldl (rY i) acc).size=j+(oj::os).length/\(∀ k,k<j->((oj::os).foldl (rY i) acc).getD k false=acc.getD k false)/\
    ∀(m:Nat) (CG:Oper) (CH:Bool),(oj::os)[m]?=some CG->(lj::ls)[m]?=some CH->
     (((oj::os).foldl (rY i) acc).getD (j+m) false=true->CH=false/\(CG.after.any fun e=>Region.binds .any e&&(Nat.beq e.on i||((oj::os).foldl (rY i) acc).getD e.on false))=true)/\
     (((oj::os).foldl (rY i) acc).getD (j+m) false=false->j+m=i\/CH=true\/(oi.apart ops CG=true/\tl (j+m)=false)):=by
   intro b W' hb Cc hg hc hbe
   obtain⟨i1,i2,i3,i4⟩:=Jb os ls (j+1) W' (acc.push b) (by simp[hs]) Cc hg
   rw[List.foldl_cons,hb]
   have hj:=i3 j (by omega)
   rw[AX,if_pos rfl] at hj
   refine⟨by simp[i1],by rw[i2];simp;omega,fun k hk=>?_,fun m CG CH h1 h2=>?_⟩
   ·rw[i3 k (by omega),AX,if_neg (by omega)]
   ·cases m with
    | zero=>
     simp only[List.getElem?_cons_zero,Option.some.injEq] at h1 h2
     subst h1 h2
     rw[Nat.add_zero,hj]
     refine⟨fun hbt=>⟨hc.1 hbt,?_⟩,fun hbf=>hc.2 hbf⟩
     rw[hbt] at hbe
     rw[Array.any_eq_true] at hbe ⊢
     obtain⟨q,hq,he⟩:=hbe
     refine⟨q,hq,?_⟩
     simp only[Bool.and_eq_true,Bool.or_eq_true] at he ⊢
     refine⟨he.1,he.2.imp id fun h4=>?_⟩
     have h5:oj.after[q].on<j:=by
      rcases Nat.lt_or_ge oj.after[q].on j with h' | h'
      ·exact h'
      ·have h6:¬oj.after[q].on<acc.size:=by omega
       simp[Array.getD,h6] at h4
     rw[i3 _ (by omega),AX,if_neg (by omega)];exact h4
    | succ m=>
     simp only[List.getElem?_cons_succ] at h1 h2
     have:=i4 m CG CH h1 h2
     rw[show j+1+m=j+(m+1) by omega] at this
     exact this
  by_cases hb:(oj.after.any fun e=>Region.binds .any e&&(Nat.beq e.on i||acc.getD e.on false))=true
  ·rw[if_pos hb] at h
   simp only[Bool.and_eq_true,Bool.not_eq_true'] at h
   refine key true _ (by unfold rY;rw[hb]) (fun k=>?_) h.2 ⟨fun _=>h.1,fun h'=>by cases h'⟩ hb
   rw[AX,Nat.testBit_or,Nat.one_shiftLeft,Nat.testBit_two_pow,hW]
   by_cases hk:k=j
   ·subst hk;simp
   ·have:¬j=k:=fun h=>hk h.symm
    simp[hk,this]
  ·rw[if_neg hb] at h
   simp only[Bool.and_eq_true,Bool.or_eq_true,Bool.not_eq_true'] at h
   have hb':=Bool.eq_false_iff.2 hb
   refine key false _ (by unfold rY;rw[hb']) (fun k=>?_) h.2 ⟨fun h'=>(by cases h'),fun _=>?_⟩ hb'
   ·rw[AX]
    by_cases hk:k=j
    ·subst hk
     rw[if_pos rfl,<- hW]
     have h6:¬k<acc.size:=by omega
     simp[Array.getD,h6]
    ·rw[if_neg hk,hW]
   ·rcases h.1 with(h1 | h1) | h1
    ·exact .inl (Nat.eq_of_beq_eq_true h1)
    ·exact .inr (.inl h1)
    ·exact .inr (.inr h1)
theorem z2X{ops:Array Oper}{tl:Nat->Bool}{listed:Array Bool}{i:Nat}(h:M9 ops tl listed i=true:=by kernel_rfl):tg ops tl listed i=true:=by
 unfold M9 at h
 unfold tg
 cases hi:ops[i]? with
 | none=>rw[hi] at h;cases h
 | some oi=>
  rw[hi] at h
  obtain⟨i1,i2,i3,i4⟩:=Jb ops.toList listed.toList 0 0 #[] rfl (fun k=>by simp[Array.getD]) h
  have hw:ops.toList.foldl (rY i) #[]=me ops i:=by unfold me;rw[<- Array.foldl_toList];rfl
  rw[hw] at i2 i3 i4
  have Cd:listed.size=ops.size:=by simpa using i1
  simp only[Bool.and_eq_true,List.all_eq_true,List.mem_range]
  have nP:(me ops i).size=ops.size:=by simpa using i2
  refine⟨by rw[nP];exact Nat.beq_refl _,fun j hj=>?_⟩
  have h1:ops.toList[j]?=some ops[j]:=by simp[hj]
  have h2:listed.toList[j]?=some (listed[j]'(by omega)):=by simp[Cd,hj]
  have h3:=i4 j _ _ h1 h2
  rw[Nat.zero_add] at h3
  have h4:ops[j]?=some ops[j]:=Array.getElem?_eq_getElem hj
  have h5:listed.getD j true=listed[j]'(by omega):=by simp[Array.getD,Cd,hj]
  rw[h4,h5]
  cases hb:(me ops i).getD j false with
  | true=>
   have h6:=h3.1 hb
   simp only[h6.1,Bool.not_true,Bool.false_or,Bool.not_false,Bool.true_and,Bool.or_true,Bool.true_or,and_true]
   exact h6.2
  | false=>
   have h6:=h3.2 hb
   simp only[Bool.not_false,Bool.true_or,true_and,Bool.or_false]
   rcases h6 with h6 | h6 | h6
   ·subst h6;simp[Nat.beq_refl]
   ·rw[h6];simp
   ·rw[h6.1,h6.2];simp
def Gn(ops:Array Oper)(listed:Array Bool)(i:Nat):Bool:=
 match ops[i]? with
 | none=>false
 | some o => !listed.getD i true&&o.after.all fun e => !Region.binds .any e||listed.getD e.on false
theorem z2W{ops:Array Oper}{listed:Array Bool}{i:Nat}(h:Gn ops listed i=true:=by kernel_rfl):(Region.ready .any ops listed).contains i=true:=by
 unfold Gn at h
 cases hi:ops[i]? with
 | none=>rw[hi] at h;cases h
 | some o=>
  rw[hi] at h
  simp only[Bool.and_eq_true,Bool.not_eq_true',Array.all_eq_true_iff_forall_mem,Bool.or_eq_true] at h
  have hm:i∈Region.ready .any ops listed:=mem_ready.2 ⟨h.1,o,hi,fun e he hb=>by
   rcases h.2 e he with h1 | h1
   ·rw[hb] at h1;cases h1
   ·exact h1⟩
  simpa using hm
section
variable [Rnd]
theorem WD.d{P:Program}{n:Nat}{F:List Nat}{Ek:World}{env:List (Nat×Value)}{L:List Asrt}{ops:Array Oper}{tl:Nat->Bool}{Ls:List Asrt}{fuel:Nat}{listed:Array Bool}{Q:Act->World->Prop}(ni:Array Bool)(h:listed=ni)(k:WD P n F Ek ops tl Ls Q fuel ni env L):WD P n F Ek ops tl Ls Q fuel listed env L:=h▸k
end
section freezeo
variable [Rnd] {P:Program} {n:Nat} {F:List Nat} {Ek:World} {ops:Array Oper} {tl:Nat->Bool} {Ls:List Asrt} {Q:Act->World->Prop} {fuel:Nat} {listed:Array Bool} {env:List (Nat×Value)} {L R R':List Asrt} {Z Zn:Zp} {i:Nat} {e sz:Nat} {T:TypeId}
theorem vl.freezeS{α:Type}{Pr:List Value->α->Prop}{ao:Option Addr}{cap:Nat}{cs:List Value}{ls:List α}(hm:Pick L (row (.slice ao ls.length cap) e sz cs) R)(hz:Pick R (fz Zn) R')(hp:PZ F Ek Z)(hr:RR sz Pr cs ls)(k:∀ nh,wg (Z++Zn) (Z++nh)->ZS (Z++nh) sz Pr ao cap ls->vl P n F Ek ops tl Ls Q fuel listed env (fz nh::R') i):vl P n F Ek ops tl Ls Q fuel listed env L i:=fun a w h=>by
 obtain⟨nh,h1,h2,h3⟩:=h.hp.freezeS hm hz hp hr
 exact k nh h1 h2 a w (h.world h3)
theorem vl.freezeC{bb:Nat}{cs:List Value}(hm:Pick L (stb bb T cs) R)(hz:Pick R (fz Zn) R')(k:∀ nh,wg (Z++Zn) (Z++nh)->ZC (Z++nh) ⟨bb,0,none⟩ cs->vl P n F Ek ops tl Ls Q fuel listed env (fz nh::R') i):vl P n F Ek ops tl Ls Q fuel listed env L i:=fun a w h=>by
 obtain⟨nh,h1,h2,h3⟩:=h.hp.freezeC hm hz
 exact k nh h1 h2 a w (h.world h3)
end freezeo
section calls
variable [Rnd]
variable {P:Program} {F:List Nat} {Ek:World} {L Lc Lr R R' B:List Asrt} {Z Zn:Zp} {f:FuncId} {vs:Array Value} {Q:World->Ending->World->Prop}
theorem cc(hz:PZ F Ek Z)(hs:Sel L Lc Lr)(hc:∀ w,PZ (fps Lc) w Z->Hp (fps Lc) w w Lc->Calls P f vs w (Q w)):∀ w,Hp F Ek w L->Calls P f vs w (Q w):=
 fun w hw=>hc w (hz.call hw hs) (hw.owns hs)
theorem qB(hz:PZ F Ek Z)(hs:Sel L Lc Lr)(hm:Pick Lr (fz Zn) R)(hc:∀ w,PZ (fps Lc) w (Z++Zn)->Hp (fps Lc) w w Lc->Calls P f vs w (Q w)):∀ w,Hp F Ek w L->Calls P f vs w (Q w):=
 fun w hw=>hc w (hz.call2 hw hs hm) (hw.owns hs)
theorem kb(hz:PZ F Ek Z)(hs:Sel L Lc Lr)(hb:Sel Lr B R')(hc:∀ w,PZ (fps Lc) w (Z++bj w (fps B))->Hp (fps Lc) w w Lc->(∀ x,x∈B->∀ Z':Zp,ZA (Z'++bj w (fps B)) x)->Calls P f vs w (Q w)):∀ w,Hp F Ek w L->Calls P f vs w (Q w):=
 fun w hw=>hc w ((hz.call hw hs).lend hw hs (fun _ nY=>hb.mem nY)) (hw.owns hs) (fun _ hx Z'=>hw.lent hs (fun _ nY=>hb.mem nY) hx Z')
theorem uT(hz:PZ F Ek Z)(hs:Sel L Lc Lr)(hm:Pick Lr (fz Zn) R)(hb:Sel Lr B R')(hc:∀ w,PZ (fps Lc) w ((Z++Zn)++bj w (fps B))->Hp (fps Lc) w w Lc->(∀ x,x∈B->∀ Z':Zp,ZA (Z'++bj w (fps B)) x)->Calls P f vs w (Q w)):∀ w,Hp F Ek w L->Calls P f vs w (Q w):=
 fun w hw=>hc w ((hz.call2 hw hs hm).lend hw hs (fun _ nY=>hb.mem nY)) (hw.owns hs) (fun _ hx Z'=>hw.lent hs (fun _ nY=>hb.mem nY) hx Z')
end calls
end
section
section unroll
variable [Rnd] {P:Program} {n:Nat} {F:List Nat} {Ek:World} {Q:Exit->Act->World->Prop} {env:List (Nat×Value)} {L:List Asrt} {c:Code}
def WH(P:Program)(Q:Exit->Act->World->Prop)(c:Code)(a:Act)(w:World):Prop:=
 ∀(b:Frame) (k:List Item) (cs:List Frame),b.roundOf=FN.round->FN.fn b.fn->FN.room (cs.length+1+0)->
  ∃ e a' w',Q e a' w'/\ArrivesIn (Machine.fenced P FN) P (lone (b.atR a (.code c :: .inLoop c::k)) cs w) b k cs e a' w'
theorem WH.of(h:WC P n F Ek (Exit.then (WH P Q c) Q) c env L):∀ a w,SS n F Ek env L a w->WH P Q c a w:=by
 intro a w hs b k cs BC hb AM
 obtain⟨e,so,sA,hq,re⟩:=h a w hs b (.inLoop c::k) cs BC hb AM
 cases e with
 | normal=>
  have hq:WH P Q c so sA:=hq
  obtain⟨AN,AO,zU,zV,wF⟩:=hq b k cs BC hb AM
  exact⟨AN,AO,zU,zV,.of_steps (StepsIn.trans re (.one (fenced_calm hb AM rfl) stepR_inLoop)) wF⟩
 | exit id=>exact⟨_,so,sA,hq,.pass (x := .inLoop c) rfl (fun _ _ => .inl (by simp)) re⟩
 | goto l=>exact⟨_,so,sA,hq,.pass (x := .inLoop c) rfl (fun _ _ => .inl (by simp)) re⟩
 | ret=>exact⟨_,so,sA,hq,.pass (x := .inLoop c) rfl (fun _ _ => .inl (by simp)) re⟩
 | panic ch=>exact⟨_,so,sA,hq,.pass (x := .inLoop c) rfl (fun _ _ => .inl (by simp)) re⟩
 | outgrown=>exact⟨_,so,sA,hq,.pass (x := .inLoop c) rfl (fun _ _ => .inl (by simp)) re⟩
def Xp(P:Program)(t:TypeId)(i:Int)(k:Nat):Prop:=∀(kk:IntKind) (a:Addr) (w:World),(Instr.indexAt t (.pointer (some a)) (.int kk i)).run P w = .ok (.pointer (some (a.add k))) w
theorem WI{t e:TypeId}{m s:Nat}{i:Int}{inf:TypeInfo}(h:P.underlying t=some (.array m e))(hi:P.info? e=some inf)(hs:inf.size=s)(h0:0<=i)(h1:i<m){k:Nat}(hk:i.toNat*s=k):Xp P t i k:=by
 subst hs hk
 intro kk a w
 have he:P.elem t=e:=by simp[Program.elem,h]
 have hl:P.arrayLen t=m:=by simp[Program.arrayLen,h]
 rw[run_indexAt_array w t a kk i (by rw[he,hl];exact h)]
 simp[h0,hl,h1,he,Go.sizeOf,typeInfo,hi]
theorem WK{t:TypeId}{x y:Operand}{A A':Addr}{kk:IntKind}{i:Int}{k:Nat}{d:Option Nat}{ty:TypeId}{pos after g}(ht:Xp P t i k)(hx:eo env x=some (.pointer (some A)))(hy:eo env y=some (.int kk i))(hA:A.add k=A'):
  Qt P n F Ek env L ⟨d,.indexAddr t x y,ty,pos,after,g⟩ (.pointer (some A')):=by
 intro a w h
 subst hA
 have:=ht kk A w
 simp[execOp,h.eval hx,h.eval hy,this]
end unroll
end
section
variable [Rnd]
section
variable {P:Program} {n:Nat} {F:List Nat} {Ek:World} {env:List (Nat×Value)} {L Lc Lr R:List Asrt} {ops:Array Oper} {Q:Exit->Act->World->Prop} {na:List Oper} {dd:Nat}
theorem Oh{A0 A1 A2 A3 A4 A5 A6 A7 A8 A9 nA nC nW nX n2 oL qA qV tv vE zW:Type}(φ:A0->A1->A2->A3->A4->A5->A6->A7->A8->A9->nA->nC->nW->nX->n2->oL->qA->qV->tv->vE->zW->Prop)(f9:A0->A1->A2->A3->A4->A5->A6->A7->A8->A9->nA->nC->nW->nX->n2->oL->qA->qV->tv->vE->zW->List (Nat×Value))(LI:A0->A1->A2->A3->A4->A5->A6->A7->A8->A9->nA->nC->nW->nX->n2->oL->qA->qV->tv->vE->zW->List Asrt)(μ:A0->A1->A2->A3->A4->A5->A6->A7->A8->A9->nA->nC->nW->nX->n2->oL->qA->qV->tv->vE->zW->Nat){c:Code}(lN:A0×A1×A2×A3×A4×A5×A6×A7×A8×A9×nA×nC×nW×nX×n2×oL×qA×qV×tv×vE×zW)(h0:((fun g=>(cu21 φ g)):A0×A1×A2×A3×A4×A5×A6×A7×A8×A9×nA×nC×nW×nX×n2×oL×qA×qV×tv×vE×zW->Prop) lN)(hr:Restr env (((fun g=>(cu21 f9 g)):A0×A1×A2×A3×A4×A5×A6×A7×A8×A9×nA×nC×nW×nX×n2×oL×qA×qV×tv×vE×zW->_) lN)){M:List Asrt}(hL:Sel L (((fun g=>(cu21 LI g)):A0×A1×A2×A3×A4×A5×A6×A7×A8×A9×nA×nC×nW×nX×n2×oL×qA×qV×tv×vE×zW->_) lN) M)(round:∀ x0 x1 x2 x3 x4 x5 x6 x7 x8 x9 rv sY uV wd wy wH zh zr Ai Bp x20,(φ x0 x1 x2 x3 x4 x5 x6 x7 x8 x9 rv sY uV wd wy wH zh zr Ai Bp x20)->WC P n F Ek (Exit.then (fun a w=>∃ g':A0×A1×A2×A3×A4×A5×A6×A7×A8×A9×nA×nC×nW×nX×n2×oL×qA×qV×tv×vE×zW,(((fun g=>(cu21 φ g)):A0×A1×A2×A3×A4×A5×A6×A7×A8×A9×nA×nC×nW×nX×n2×oL×qA×qV×tv×vE×zW->Prop) g'/\((fun g=>(cu21 μ g)):A0×A1×A2×A3×A4×A5×A6×A7×A8×A9×nA×nC×nW×nX×n2×oL×qA×qV×tv×vE×zW->Nat) g'<(μ x0 x1 x2 x3 x4 x5 x6 x7 x8 x9 rv sY uV wd wy wH zh zr Ai Bp x20))/\SS n F Ek (((fun g=>(cu21 f9 g)):A0×A1×A2×A3×A4×A5×A6×A7×A8×A9×nA×nC×nW×nX×n2×oL×qA×qV×tv×vE×zW->_) g') (((fun g=>(cu21 LI g)):A0×A1×A2×A3×A4×A5×A6×A7×A8×A9×nA×nC×nW×nX×n2×oL×qA×qV×tv×vE×zW->_) g') a w) Q) c (f9 x0 x1 x2 x3 x4 x5 x6 x7 x8 x9 rv sY uV wd wy wH zh zr Ai Bp x20) (LI x0 x1 x2 x3 x4 x5 x6 x7 x8 x9 rv sY uV wd wy wH zh zr Ai Bp x20)):
  WC P n F Ek Q (.loop c) env L:=
 E0 (G:=A0×A1×A2×A3×A4×A5×A6×A7×A8×A9×nA×nC×nW×nX×n2×oL×qA×qV×tv×vE×zW) (fun g=>(cu21 φ g)) (fun g=>(cu21 f9 g)) (fun g=>(cu21 LI g)) (fun g=>(cu21 μ g)) lN h0 hr hL (fun g h=>round g.1 g.2.1 g.2.2.1 g.2.2.2.1 g.2.2.2.2.1 g.2.2.2.2.2.1 g.2.2.2.2.2.2.1 g.2.2.2.2.2.2.2.1 g.2.2.2.2.2.2.2.2.1 g.2.2.2.2.2.2.2.2.2.1 g.2.2.2.2.2.2.2.2.2.2.1 g.2.2.2.2.2.2.2.2.2.2.2.1 g.2.2.2.2.2.2.2.2.2.2.2.2.1 g.2.2.2.2.2.2.2.2.2.2.2.2.2.1 g.2.2.2.2.2.2.2.2.2.2.2.2.2.2.1 g.2.2.2.2.2.2.2.2.2.2.2.2.2.2.2.1 g.2.2.2.2.2.2.2.2.2.2.2.2.2.2.2.2.1 g.2.2.2.2.2.2.2.2.2.2.2.2.2.2.2.2.2.1 g.2.2.2.2.2.2.2.2.2.2.2.2.2.2.2.2.2.2.1 g.2.2.2.2.2.2.2.2.2.2.2.2.2.2.2.2.2.2.2.1 g.2.2.2.2.2.2.2.2.2.2.2.2.2.2.2.2.2.2.2.2 h)
end
end
end Sep

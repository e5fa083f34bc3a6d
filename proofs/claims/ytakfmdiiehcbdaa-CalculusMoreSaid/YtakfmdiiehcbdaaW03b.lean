/- A part of this claim's proof: models of functions, walks, plain laws. No conditions. -/
import Derived.Test.YtakfmdiiehcbdaaW03a
namespace Go.Proofs.Ytakfmdiiehcbdaa
open Go Go.RowKit Sep
set_option linter.all false
set_option maxRecDepth 30000
set_option maxHeartbeats 4000000
def y1l (z28 : List z2) (zae : z2 → z2 → Option Int) : Option (List z2) :=
  (y4R (u64 ((z28.length : Nat) : Int))).bind fun zei=>(y2p z28 0 ((z28.length : Nat) : Int) zei zae).bind fun zej=>some zej
set_option maxRecDepth 20000 in
theorem y4j (Z : Zp) (z5b : Option Addr) (z5c : Nat) (z7B : FuncId) (zaf : List Value) (z28 : List z2) (zae : z2 → z2 → Option Int) (r : List z2)
     (h : y1l z28 zae = some r) (w₀ : World) (hz : PZ (fps [row (.slice z5b z28.length z5c) 30 2 (z28.flatMap e30)]) w₀ Z)
     (zr1 : ∀ args w,(callFunc z7B args).run Try.prog w = .ok (.enter z7B args) w)
     (zr2 : ∀ w : World,PZ [] w Z → ∀ (x0 : z2) (x1 : z2) (r : Int),zae x0 x1 = some r → Calls Try.prog z7B (([(.agg #[(.int .i64 x0.fN),(.int .i64 x0.fD)]),(.agg #[(.int .i64 x1.fN),(.int .i64 x1.fD)])] : List Value) ++ zaf).toArray w fun e w'=>e = .returned (.int .i64 r) ∧ Hp [] w w' [])
    (hown : Hp (fps [row (.slice z5b z28.length z5c) 30 2 (z28.flatMap e30)]) w₀ w₀ [row (.slice z5b z28.length z5c) 30 2 (z28.flatMap e30)]) :
    Calls Try.prog 77 #[(.slice z5b z28.length z5c),(.func (.func z7B) #[] (zaf).toArray)] w₀ fun e w'=>e = .returned (.tuple #[]) ∧ (r.length = z28.length) ∧ Hp (fps [row (.slice z5b z28.length z5c) 30 2 (z28.flatMap e30)]) w₀ w' [row (.slice z5b r.length z5c) 30 2 (r.flatMap e30)]:=by
  unfold y1l at h
  refine Calls.yc (vs:=[(.slice z5b z28.length z5c),(.func (.func z7B) #[] (zaf).toArray)]) (pre:=[row (.slice z5b z28.length z5c) 30 2 (z28.flatMap e30)]) (env:=[(0,(.slice z5b z28.length z5c)),(1,(.func (.func z7B) #[] (zaf).toArray))]) Try.func77 rfl Try.ntmps77 rfl (hown) rfl ?_
  refine WC.b (WC.a (WL.pu rfl ?_))
  refine WL.a (d:=6) rfl rfl rfl (y1c Try.underlying77 rfl) ?_
  refine WL.pu rfl (WL.nil (WX.a ?_))
  obtain ⟨zei,zr3,h⟩:=z8 h
  obtain ⟨zej,zr4,h⟩:=z8 h
  refine WC.a (WL.pu rfl (WL.pu rfl (WL.pu rfl ?_)))
  refine WL.a (d:=10) rfl rfl rfl (y36 Try.underlying3 Try.underlying120 rfl rfl) ?_
  refine WL.b (dd:=11) rfl rfl rfl (ze (l:=[.tmp 10]) Try.call74 (.cons rfl .nil)) .nil (cc hz .nil fun w pz ho=>y8q (Z:=_)  (z6e:=(u64 ((z28.length : Nat) : Int))) (r:=zei) w pz  zr3) ?_
  refine WL.pu rfl ?_
  refine WL.y6r (dd:=13) rfl rfl rfl (ze (l:=[.tmp 7,.const (.int .i64 0),.tmp 8,.tmp 11,.tmp 12]) Try.call90 (.cons rfl (.cons rfl (.cons rfl (.cons rfl (.cons rfl .nil)))))) (.cons .here .nil) (cc hz (.cons .here .nil) fun w pz ho=>y4J (Z:=_) (z8Z:=z5b) (z90:=z5c) (zch:=z7B) (zgG:=zaf) (z3c:=z28) (zcf:=0) (zcg:=((z28.length : Nat) : Int)) (zad:=zei) (z8Y:=zae) (r:=zej) w pz zr1 zr2 zr4 ho) ?_
  rintro  zlt
  refine WL.repin (i:=0) rfl (u:=(.slice z5b zej.length z5c)) (slen zlt.symm) ?_
  refine WL.nil ?_
  obtain rfl:=Option.some.inj h
  refine WX.y4i Try.results77 .nil (fun w hw=>?_)
  exact ⟨y5p,(zlt.trans rfl),hw.sub (.cons .here .nil)⟩
def yN (zx : List z2) (zo : Int) (z6p : (List z2) → Int → Option (List z2)) : Nat → (List z2) → Int → Int → Option (List z2)
  | 0,_,_,_=>none
  | zgH + 1,zB,z29,k2_14326=>if decide (k2_14326 < ((zx.length - (zo : Int).toNat : Nat) : Int)) then jp2 (fun (z4G : List z2) (z6q : Int)=>yN zx zo z6p zgH z4G z6q (i64 (k2_14326 + 1))) fun zek=>chk ((0 : Int) ≤ k2_14326 ∧ k2_14326 < ((zx.length - (zo : Int).toNat : Nat) : Int)) (chk ((0 : Int) ≤ (i64 (k2_14326 - 1)) ∧ (i64 (k2_14326 - 1)) < ((zx.length - (zo : Int).toNat : Nat) : Int)) (if decide ((⟨((nth zB (zo + k2_14326)).fN),((nth zB (zo + k2_14326)).fD)⟩ : z2) ≠ (⟨((nth zB (zo + (i64 (k2_14326 - 1)))).fN),((nth zB (zo + (i64 (k2_14326 - 1)))).fD)⟩ : z2)) then chk ((0 : Int) ≤ k2_14326 ∧ k2_14326 < ((zx.length - (zo : Int).toNat : Nat) : Int)) (chk ((0 : Int) ≤ z29 ∧ z29 < ((zB.length : Nat) : Int)) (zek (zB.set (z29 : Int).toNat (⟨((nth zB (zo + k2_14326)).fN),((nth zB (zo + k2_14326)).fD)⟩ : z2)) (i64 (z29 + 1)))) else zek zB z29)) else z6p zB z29
theorem y3E {n : Nat} {zx : List z2} {zo : Int} {z6p : (List z2) → Int → Option (List z2)} {zB : List z2} {z29 : Int} {k2_14326 : Int} {r : List z2} (h : yN zx zo z6p n zB z29 k2_14326 = some r) : ∃ m,n = m + 1:=by
  cases n with
  | zero=>cases h
  | succ m=>exact ⟨m,rfl⟩
def yO (zx : List z2) (z6r : Option (List z2)) : Nat → Int → Option (List z2)
  | 0,_=>none
  | zgI + 1,zo=>if decide (zo < ((zx.length : Nat) : Int)) then jp0 (yO zx z6r zgI (i64 (zo + 1))) fun zgJ=>chk ((0 : Int) ≤ zo ∧ zo < ((zx.length : Nat) : Int)) (chk ((0 : Int) ≤ (i64 (zo - 1)) ∧ (i64 (zo - 1)) < ((zx.length : Nat) : Int)) (if decide ((⟨((nth zx zo).fN),((nth zx zo).fD)⟩ : z2) = (⟨((nth zx (i64 (zo - 1))).fN),((nth zx (i64 (zo - 1))).fD)⟩ : z2)) then chk ((0 : Int) ≤ zo ∧ zo < ((zx.length : Nat) : Int)) (jp2 (fun (z2a : List z2) (z2b : Int)=>chk ((0 : Int) ≤ z2b ∧ z2b ≤ ((z2a.length : Nat) : Int)) (chk ((0 : Int) ≤ z2b ∧ z2b ≤ (((z2a.take (z2b : Int).toNat ++ List.replicate (z2a.length - (z2b : Int).toNat) ((⟨0,0⟩ : z2) : z2)).length : Nat) : Int)) (some ((z2a.take (z2b : Int).toNat ++ List.replicate (z2a.length - (z2b : Int).toNat) ((⟨0,0⟩ : z2) : z2)).take (z2b : Int).toNat)))) fun z6p=>yN zx zo z6p ys zx zo 1) else zgJ)) else z6r
theorem y3F {n : Nat} {zx : List z2} {z6r : Option (List z2)} {zo : Int} {r : List z2} (h : yO zx z6r n zo = some r) : ∃ m,n = m + 1:=by
  cases n with
  | zero=>cases h
  | succ m=>exact ⟨m,rfl⟩
def y1p (zx : List z2) : Option (List z2) :=
  if decide (((zx.length : Nat) : Int) < 2) then some zx else jp0 (some zx) fun z6r=>yO zx z6r ys 1
set_option maxRecDepth 20000 in
theorem y4v (Z : Zp) (z5B : Option Addr) (z5C : Nat) (zx : List z2) (r : List z2)
     (h : y1p zx = some r) (w₀ : World) (hz : PZ (fps [row (.slice z5B zx.length z5C) 30 2 (zx.flatMap e30)]) w₀ Z)
    (hown : Hp (fps [row (.slice z5B zx.length z5C) 30 2 (zx.flatMap e30)]) w₀ w₀ [row (.slice z5B zx.length z5C) 30 2 (zx.flatMap e30)]) :
    Calls Try.prog 78 #[(.slice z5B zx.length z5C)] w₀ fun e w'=>∃ zlu : Option Addr,∃ zlv : Nat,e = .returned (.slice zlu r.length zlv) ∧ True ∧ Hp (fps [row (.slice z5B zx.length z5C) 30 2 (zx.flatMap e30)]) w₀ w' [row (.slice zlu r.length zlv) 30 2 (r.flatMap e30)]:=by
  unfold y1p at h
  refine Calls.yc (vs:=[(.slice z5B zx.length z5C)]) (pre:=[row (.slice z5B zx.length z5C) 30 2 (zx.flatMap e30)]) (env:=[(0,(.slice z5B zx.length z5C))]) Try.func78 rfl Try.ntmps78 rfl (hown) rfl ?_
  refine WC.b (WC.a (WL.pu rfl (WL.nil (WX.a (WC.b (WC.b (WC.a (WL.pu rfl ?_))))))))
  refine WL.a (d:=7) rfl rfl rfl (y1c Try.underlying77 rfl) ?_
  refine WL.pu rfl (WL.nil (WX.a ?_))
  refine WC.cond rfl (fun zgK=>?_) (fun zgK=>?_)
  · replace h:=ye h zgK
    refine WC.b (WC.a (WL.pu rfl (WL.pu rfl (WL.nil (WX.a (WC.ret (WX.y5 ?_)))))))
    obtain rfl:=Option.some.inj h
    refine WX.y8 Try.results78 (.tmp rfl .nil) (fun w hw=>?_)
    exact ⟨z5B,z5C,yG rfl,trivial,hw.sub (.cons .here .nil)⟩
  · replace h:=yf h zgK
    refine WC.skip (WX.a ?_)
    obtain ⟨z6r,zr5,h⟩:=y2V h
    refine WC.y3A (fun (zag : Option Addr) (zah : Nat)=>(z6r = some r)) (fun (zag : Option Addr) (zah : Nat)=>[(0,(.slice zag zx.length zah))]) (fun (zag : Option Addr) (zah : Nat)=>[row (.slice zag zx.length zah) 30 2 (zx.flatMap e30)]) ?_ ?_
    · skip
      refine WC.b (WC.a (WL.pu rfl (WL.nil (WX.a (WC.block ?_)))))
      refine WC.y3Y (fun (zai : Nat) (zo : Int) (z91 : Option Addr) (z2B : Nat)=>(yO zx z6r zai zo = some r)) (fun (zai : Nat) (zo : Int) (z91 : Option Addr) (z2B : Nat)=>[(0,(.slice z91 zx.length z2B)),(3,(.int .i64 zo))]) (fun (zai : Nat) (zo : Int) (z91 : Option Addr) (z2B : Nat)=>[row (.slice z91 zx.length z2B) 30 2 (zx.flatMap e30)]) (fun (zai : Nat) (zo : Int) (z91 : Option Addr) (z2B : Nat)=>zai) ⟨ys,1,z5B,z5C⟩ h (.cons rfl (.cons rfl .nil)) (.cons .here .nil) ?_
      rintro zai zo z91 z2B h
      obtain ⟨zgI,rfl⟩:=y3F h
      rw [yO] at h
      refine WC.b (WC.b (WC.a (WL.pu rfl (WL.pu rfl ?_))))
      refine WL.a (d:=12) rfl rfl rfl (y1c Try.underlying77 rfl) ?_
      refine WL.pu rfl (WL.nil (WX.a ?_))
      refine WC.cond rfl (fun zgL=>?_) (fun zgL=>?_)
      · replace h:=ye h zgL
        refine WC.skip (WX.a ?_)
        obtain ⟨zgJ,zr6,h⟩:=y2V h
        refine WC.y3A (fun (zaj : Option Addr) (zak : Nat)=>(zgJ = some r)) (fun (zaj : Option Addr) (zak : Nat)=>[(0,(.slice zaj zx.length zak)),(3,(.int .i64 zo))]) (fun (zaj : Option Addr) (zak : Nat)=>[row (.slice zaj zx.length zak) 30 2 (zx.flatMap e30)]) ?_ ?_
        · skip
          refine WC.block (WC.b ?_)
          obtain ⟨zci,h⟩:=yk h
          obtain ⟨zel,h⟩:=yk h
          refine WC.y1g (fun i=>[].contains i) [] rfl ?_
          refine WD.a (i:=0) (d:=16) (by kernel_rfl) rfl (z6 (by kernel_rfl)) (z7 (by kernel_rfl)) rfl rfl rfl (fun _=>q_m rfl) ?_
          refine WD.a (i:=1) (d:=17) (by kernel_rfl) rfl (z6 (by kernel_rfl)) (z7 (by kernel_rfl)) rfl rfl rfl (fun _=>q_m rfl) ?_
          refine WD.know (fun w hw=>Hp.y3Z .here hw (by intro hz'; have:=zci; rw [hz'] at this; omega)) ?_
          rintro ⟨z4e,rfl⟩
          refine WD.a (i:=2) (d:=18) (by kernel_rfl) rfl (z6 (by kernel_rfl)) (z7 (by kernel_rfl)) rfl rfl rfl (fun _=>y19 y1B rfl rfl zci.1 zci.2 y3b) ?_
          refine WD.e (i:=3) (d:=19) (by kernel_rfl) rfl (z6 (by kernel_rfl)) (z7 (by kernel_rfl)) rfl rfl rfl (yv (cs:=(e30 (nth zx zo))) y4 rfl rfl (y2T .here (y3q (enc:=e30) (l:=zx) (i:=zo) (sz:=2) (fun _=>rfl) zci.1 zci.2))) ?_
          refine WD.a (i:=4) (d:=20) (by kernel_rfl) rfl (z6 (by kernel_rfl)) (z7 (by kernel_rfl)) rfl rfl rfl (fun _=>q_m rfl) ?_
          refine WD.a (i:=5) (d:=21) (by kernel_rfl) rfl (z6 (by kernel_rfl)) (z7 (by kernel_rfl)) rfl rfl rfl (fun _=>q_m rfl) ?_
          refine WD.a (i:=6) (d:=22) (by kernel_rfl) rfl (z6 (by kernel_rfl)) (z7 (by kernel_rfl)) rfl rfl rfl (fun _=>y7C rfl rfl rfl) ?_
          refine WD.a (i:=7) (d:=23) (by kernel_rfl) rfl (z6 (by kernel_rfl)) (z7 (by kernel_rfl)) rfl rfl rfl (fun _=>y19 y1B rfl rfl zel.1 zel.2 y3b) ?_
          refine WD.e (i:=8) (d:=24) (by kernel_rfl) rfl (z6 (by kernel_rfl)) (z7 (by kernel_rfl)) rfl rfl rfl (yv (cs:=(e30 (nth zx (i64 (zo - 1))))) y4 rfl rfl (y2T .here (y3q (enc:=e30) (l:=zx) (i:=i64 (zo - 1)) (sz:=2) (fun _=>rfl) zel.1 zel.2))) ?_
          refine WD.a (i:=9) (d:=25) (by kernel_rfl) rfl (z6 (by kernel_rfl)) (z7 (by kernel_rfl)) rfl rfl rfl (fun _=>y62 (enc:=e30) (a:=(⟨((nth zx zo).fN),((nth zx zo).fD)⟩ : z2)) (b:=(⟨((nth zx (i64 (zo - 1))).fN),((nth zx (i64 (zo - 1))).fD)⟩ : z2)) y7r rfl rfl) ?_
          refine WD.done (by kernel_rfl) ?_
          refine WX.a ?_
          refine WC.cond rfl (fun zgM=>?_) (fun zgM=>?_)
          · replace h:=ye h zgM
            refine WC.b ?_
            obtain ⟨z92,h⟩:=yk h
            refine WC.a (WL.pu rfl (WL.pu rfl ?_))
            refine WL.yaJ (dd:=28) rfl rfl y1B rfl rfl .here z92 ?_
            refine WL.pu rfl (WL.nil (WX.a ?_))
            obtain ⟨z6p,zr7,h⟩:=y3B h
            refine WC.y3A (fun (z2a : List z2) (z2b : Int)=>(z6p z2a z2b = some r) ∧ (z2a.length = zx.length)) (fun (z2a : List z2) (z2b : Int)=>[(0,(.slice (some ⟨z4e,0,none⟩) z2a.length z2B)),(3,(.int .i64 z2b))]) (fun (z2a : List z2) (z2b : Int)=>[row (.slice (some ⟨z4e,0,none⟩) z2a.length z2B) 30 2 (z2a.flatMap e30)]) ?_ ?_
            · skip
              refine WC.b (WC.a (WL.pu rfl (WL.nil (WX.a (WC.block ?_)))))
              refine WC.y3Y (fun (zal : Nat) (zB : List z2) (z29 : Int) (k2_14326 : Int)=>(yN zx zo z6p zal zB z29 k2_14326 = some r) ∧ (zB.length = zx.length)) (fun (zal : Nat) (zB : List z2) (z29 : Int) (k2_14326 : Int)=>[(0,(.slice (some ⟨z4e,0,none⟩) zB.length z2B)),(3,(.int .i64 z29)),(4,(.slice (some ⟨z4e,(zo : Int).toNat * 2,none⟩) (zx.length - (zo : Int).toNat) (z2B - (zo : Int).toNat))),(5,(.int .i64 k2_14326))]) (fun (zal : Nat) (zB : List z2) (z29 : Int) (k2_14326 : Int)=>[row (.slice (some ⟨z4e,0,none⟩) zB.length z2B) 30 2 (zB.flatMap e30)]) (fun (zal : Nat) (zB : List z2) (z29 : Int) (k2_14326 : Int)=>zal) ⟨ys,zx,zo,1⟩ ⟨h,rfl⟩ (.cons rfl (.cons rfl (.cons rfl (.cons rfl .nil)))) (.cons .here .nil) ?_
              rintro zal zB z29 k2_14326 ⟨h,zam⟩
              obtain ⟨zgH,rfl⟩:=y3E h
              rw [yN] at h
              refine WC.b (WC.b (WC.a (WL.pu rfl (WL.pu rfl ?_))))
              refine WL.a (d:=31) rfl rfl rfl (y1c Try.underlying77 rfl) ?_
              refine WL.pu rfl (WL.nil (WX.a ?_))
              refine WC.cond rfl (fun zgN=>?_) (fun zgN=>?_)
              · replace h:=ye h zgN
                refine WC.skip (WX.a ?_)
                obtain ⟨zek,zr8,h⟩:=y3B h
                refine WC.y3A (fun (z4G : List z2) (z6q : Int)=>(zek z4G z6q = some r) ∧ (z4G.length = zx.length)) (fun (z4G : List z2) (z6q : Int)=>[(0,(.slice (some ⟨z4e,0,none⟩) z4G.length z2B)),(3,(.int .i64 z6q)),(4,(.slice (some ⟨z4e,(zo : Int).toNat * 2,none⟩) (zx.length - (zo : Int).toNat) (z2B - (zo : Int).toNat))),(5,(.int .i64 k2_14326))]) (fun (z4G : List z2) (z6q : Int)=>[row (.slice (some ⟨z4e,0,none⟩) z4G.length z2B) 30 2 (z4G.flatMap e30)]) ?_ ?_
                · skip
                  refine WC.block (WC.b ?_)
                  obtain ⟨zem,h⟩:=yk h
                  obtain ⟨zen,h⟩:=yk h
                  refine WC.y1g (fun i=>[].contains i) [] rfl ?_
                  refine WD.a (i:=0) (d:=35) (by kernel_rfl) rfl (z6 (by kernel_rfl)) (z7 (by kernel_rfl)) rfl rfl rfl (fun _=>q_m rfl) ?_
                  refine WD.a (i:=1) (d:=36) (by kernel_rfl) rfl (z6 (by kernel_rfl)) (z7 (by kernel_rfl)) rfl rfl rfl (fun _=>q_m rfl) ?_
                  have zlw : (0 : Int) ≤ zo + k2_14326 ∧ zo + k2_14326 < ((zB.length : Nat) : Int):=by have h1:=zam; have h2:=z92; have h3:=zem; omega
                  refine WD.a (i:=2) (d:=37) (by kernel_rfl) rfl (z6 (by kernel_rfl)) (z7 (by kernel_rfl)) rfl rfl rfl (fun _=>y19 y1B rfl rfl zem.1 zem.2 (y85 z92.1 zem.1)) ?_
                  refine WD.e (i:=3) (d:=38) (by kernel_rfl) rfl (z6 (by kernel_rfl)) (z7 (by kernel_rfl)) rfl rfl rfl (yv (cs:=(e30 (nth zB (zo + k2_14326)))) y4 rfl rfl (y2T .here (y3q (enc:=e30) (l:=zB) (i:=zo + k2_14326) (sz:=2) (fun _=>rfl) zlw.1 zlw.2))) ?_
                  refine WD.a (i:=4) (d:=39) (by kernel_rfl) rfl (z6 (by kernel_rfl)) (z7 (by kernel_rfl)) rfl rfl rfl (fun _=>q_m rfl) ?_
                  refine WD.a (i:=5) (d:=40) (by kernel_rfl) rfl (z6 (by kernel_rfl)) (z7 (by kernel_rfl)) rfl rfl rfl (fun _=>q_m rfl) ?_
                  refine WD.a (i:=6) (d:=41) (by kernel_rfl) rfl (z6 (by kernel_rfl)) (z7 (by kernel_rfl)) rfl rfl rfl (fun _=>y7C rfl rfl rfl) ?_
                  have zlx : (0 : Int) ≤ zo + (i64 (k2_14326 - 1)) ∧ zo + (i64 (k2_14326 - 1)) < ((zB.length : Nat) : Int):=by have h1:=zam; have h2:=z92; have h3:=zen; omega
                  refine WD.a (i:=7) (d:=42) (by kernel_rfl) rfl (z6 (by kernel_rfl)) (z7 (by kernel_rfl)) rfl rfl rfl (fun _=>y19 y1B rfl rfl zen.1 zen.2 (y85 z92.1 zen.1)) ?_
                  refine WD.e (i:=8) (d:=43) (by kernel_rfl) rfl (z6 (by kernel_rfl)) (z7 (by kernel_rfl)) rfl rfl rfl (yv (cs:=(e30 (nth zB (zo + (i64 (k2_14326 - 1)))))) y4 rfl rfl (y2T .here (y3q (enc:=e30) (l:=zB) (i:=zo + (i64 (k2_14326 - 1))) (sz:=2) (fun _=>rfl) zlx.1 zlx.2))) ?_
                  refine WD.a (i:=9) (d:=44) (by kernel_rfl) rfl (z6 (by kernel_rfl)) (z7 (by kernel_rfl)) rfl rfl rfl (fun _=>y9m (enc:=e30) (a:=(⟨((nth zB (zo + k2_14326)).fN),((nth zB (zo + k2_14326)).fD)⟩ : z2)) (b:=(⟨((nth zB (zo + (i64 (k2_14326 - 1)))).fN),((nth zB (zo + (i64 (k2_14326 - 1)))).fD)⟩ : z2)) y7r rfl rfl) ?_
                  refine WD.done (by kernel_rfl) ?_
                  refine WX.a ?_
                  refine WC.cond rfl (fun zgO=>?_) (fun zgO=>?_)
                  · replace h:=ye h zgO
                    refine WC.b ?_
                    obtain ⟨zeo,h⟩:=yk h
                    obtain ⟨zan,h⟩:=yk h
                    refine WC.a (WL.pu rfl (WL.pu rfl (WL.pu rfl (WL.pu rfl ?_))))
                    have zly : (0 : Int) ≤ zo + k2_14326 ∧ zo + k2_14326 < ((zB.length : Nat) : Int):=by have h1:=zam; have h2:=z92; have h3:=zeo; omega
                    refine WL.a (d:=49) rfl rfl rfl (y19 y1B rfl rfl zeo.1 zeo.2 (y85 z92.1 zeo.1)) ?_
                    refine WL.a (d:=50) rfl rfl rfl (yv (cs:=(e30 (nth zB (zo + k2_14326)))) y4 rfl rfl (y2T .here (y3q (enc:=e30) (l:=zB) (i:=zo + k2_14326) (sz:=2) (fun _=>rfl) zly.1 zly.2))) ?_
                    refine WL.a (d:=51) rfl rfl rfl (y19 y1B rfl rfl zan.1 zan.2 y3b) ?_
                    refine WL.ya rfl rfl (yak (vs:=[(.int .i64 ((nth zB (zo + k2_14326)).fN)),(.int .i64 ((nth zB (zo + k2_14326)).fD))]) (ds:=(zB.set (z29 : Int).toNat (⟨((nth zB (zo + k2_14326)).fN),((nth zB (zo + k2_14326)).fD)⟩ : z2)).flatMap e30) yj rfl rfl rfl rfl (ocB rfl) .here (flat_fit (enc:=e30) (sz:=2) (k:=0) (fun _=>rfl) zan.1 zan.2 (by decide)) (flat_put (enc:=e30) (l:=zB) (sz:=2) (vs:=[(.int .i64 ((nth zB (zo + k2_14326)).fN)),(.int .i64 ((nth zB (zo + k2_14326)).fD))]) (y:=(⟨((nth zB (zo + k2_14326)).fN),((nth zB (zo + k2_14326)).fD)⟩ : z2)) (k:=0) (fun _=>rfl) zan.1 zan.2 rfl (Nat.le_of_ble_eq_true rfl))) ?_
                    refine WL.relen .here (u:=(.slice (some ⟨z4e,0,none⟩) ((zB.set (z29 : Int).toNat (⟨((nth zB (zo + k2_14326)).fN),((nth zB (zo + k2_14326)).fD)⟩ : z2)).length) z2B)) (slen (List.length_set).symm) ?_
                    refine WL.repin (i:=0) rfl (u:=(.slice (some ⟨z4e,0,none⟩) ((zB.set (z29 : Int).toNat (⟨((nth zB (zo + k2_14326)).fN),((nth zB (zo + k2_14326)).fD)⟩ : z2)).length) z2B)) (slen (List.length_set).symm) ?_
                    refine WL.nil (WX.a (WC.a (WL.pu rfl (WL.pu rfl (WL.pu rfl (WL.nil (WX.yg ?_)))))))
                    exact WX.mid (G:=List z2 × Int) ⟨(zB.set (z29 : Int).toNat (⟨((nth zB (zo + k2_14326)).fN),((nth zB (zo + k2_14326)).fD)⟩ : z2)),(i64 (z29 + 1))⟩ ⟨h,((List.length_set).trans zam)⟩ (.cons rfl (.cons rfl (.cons rfl (.cons rfl .nil)))) (.cons .here .nil)
                  · replace h:=yf h zgO
                    refine WC.skip (WX.yg ?_)
                    exact WX.mid (G:=List z2 × Int) ⟨zB,z29⟩ ⟨h,zam⟩ (.cons rfl (.cons rfl (.cons rfl (.cons rfl .nil)))) (.cons .here .nil)
                · rintro z4G z6q ⟨h,zr9⟩
                  replace h:=(zr8 z4G z6q).symm.trans h
                  refine WC.a (WL.pu rfl (WL.pu rfl (WL.pu rfl (WL.nil ?_))))
                  exact WX.round (G:=Nat × List z2 × Int × Int) ⟨zgH,z4G,z6q,(i64 (k2_14326 + 1))⟩ ⟨h,zr9⟩ (Nat.lt_succ_self _) (.cons rfl (.cons rfl (.cons rfl (.cons rfl .nil)))) (.cons .here .nil)
              · replace h:=yf h zgN
                refine WC.exit (WX.yd (WX.yd (WX.yt ?_)))
                exact WX.mid (G:=List z2 × Int) ⟨zB,z29⟩ ⟨h,zam⟩ (.cons rfl (.cons rfl .nil)) (.cons .here .nil)
            · rintro z2a z2b ⟨h,zym⟩
              replace h:=(zr7 z2a z2b).symm.trans h
              refine WC.b ?_
              obtain ⟨zep,h⟩:=yk h
              refine WC.a (WL.pu rfl (WL.pu rfl ?_))
              refine WL.yaG (dd:=56) rfl rfl y1B rfl rfl .here zep ?_
              intro zyn zyo zra
              refine WL.ya rfl rfl (y9l (enc:=e30) (z0:=((⟨0,0⟩ : z2) : z2)) (l:=z2a) y1B ym rfl zra zep (fun _=>rfl) (by decide) rfl y8n .here) ?_
              refine WL.relen .here (u:=(.slice (some ⟨z4e,0,none⟩) ((z2a.take (z2b : Int).toNat ++ List.replicate (z2a.length - (z2b : Int).toNat) ((⟨0,0⟩ : z2) : z2)).length) z2B)) (slen (y7k zep).symm) ?_
              refine WL.repin (i:=0) rfl (u:=(.slice (some ⟨z4e,0,none⟩) ((z2a.take (z2b : Int).toNat ++ List.replicate (z2a.length - (z2b : Int).toNat) ((⟨0,0⟩ : z2) : z2)).length) z2B)) (slen (y7k zep).symm) ?_
              refine WL.nil (WX.a (WC.b ?_))
              obtain ⟨zrb,h⟩:=yk h
              refine WC.a (WL.pu rfl (WL.pu rfl ?_))
              refine WL.yaF (dd:=59) (enc:=e30) (ls:=z2a.take (z2b : Int).toNat ++ List.replicate (z2a.length - (z2b : Int).toNat) ((⟨0,0⟩ : z2) : z2)) rfl rfl y1B rfl rfl .here (fun _=>rfl) zrb ?_
              intro zrc zrd
              refine WL.pu rfl (WL.nil (WX.a (WC.ret (WX.yl (WX.y5 (WX.y5 (WX.yl (WX.y5 ?_))))))))
              obtain rfl:=Option.some.inj h
              refine WX.y8 Try.results78 (.tmp rfl .nil) (fun w hw=>?_)
              exact ⟨zrc,zrd,yG rfl,trivial,hw.sub (.cons .here .nil)⟩
          · replace h:=yf h zgM
            refine WC.skip (WX.yg ?_)
            exact WX.mid (G:=Option Addr × Nat) ⟨(some ⟨z4e,0,none⟩),z2B⟩ h (.cons rfl (.cons rfl .nil)) (.cons .here .nil)
        · rintro zaj zak h
          replace h:=zr6.symm.trans h
          refine WC.a (WL.pu rfl (WL.pu rfl (WL.pu rfl (WL.nil ?_))))
          exact WX.round (G:=Nat × Int × Option Addr × Nat) ⟨zgI,(i64 (zo + 1)),zaj,zak⟩ h (Nat.lt_succ_self _) (.cons rfl (.cons rfl .nil)) (.cons .here .nil)
      · replace h:=yf h zgL
        refine WC.exit (WX.yd (WX.yd (WX.yt ?_)))
        exact WX.mid (G:=Option Addr × Nat) ⟨z91,z2B⟩ h (.cons rfl .nil) (.cons .here .nil)
    · rintro zag zah h
      replace h:=zr5.symm.trans h
      refine WC.b (WC.a (WL.pu rfl (WL.pu rfl (WL.nil (WX.a (WC.ret ?_))))))
      obtain rfl:=Option.some.inj h
      refine WX.y8 Try.results78 (.tmp rfl .nil) (fun w hw=>?_)
      exact ⟨zag,zah,yG rfl,trivial,hw.sub (.cons .here .nil)⟩
def y16  (z1a : z1 × z1) (z3d : List z2) (zao : Int) : Option (Bool × (Nat × List z2 × Int)) :=
  (yQ z1a.1.fB z1a.2.fB).bind fun zlz=>if decide (zlz < 0) then (y1j (⟨zao⟩ : zX) (fun (y0 : z2) (y1 : z2)=>y1y y0 y1) z1a.2.fB z1a.1.fB).bind fun zgP=>(y1j zgP.2 (fun (y0 : z2) (y1 : z2)=>y1y y0 y1) z1a.1.fR z1a.2.fR).bind fun zgQ=>(y1j zgQ.2 (fun (y0 : z2) (y1 : z2)=>y2I y0 y1) zgP.1 zgQ.1).bind fun z5d=>chk ((((z3d ++ ([z5d.1] : List z2)).length : Nat) : Int) * 16 ≤ 140737488355328 ∧ (((z3d ++ ([z5d.1] : List z2)).length : Nat) : Int) ≤ 4611686018427387904) (some (true,(0,(z3d ++ ([z5d.1] : List z2)),z5d.2.fE))) else some (true,(0,z3d,zao))
def yB (z7C : List z1) : Option (List z2 × Int) :=
  (y2g z7C).bind fun zgR=>if !zgR then some (([] : List z2),2) else (y40 z7C).bind fun zeq=>jp2 (fun (z6s : Int) (z5D : List z2)=>if decide (z6s ≠ 0) then some (([] : List z2),z6s) else (y1l z5D (fun (y0 : z2) (y1 : z2)=>yQ y0 y1)).bind fun zgS=>(y1p zgS).bind fun zlA=>some (zlA,0)) fun zgT=>(y3K zeq zeq).bind fun zJ=>(y2N (Nat × List z2 × Int) (fun (x : z1 × z1) (s : Nat × List z2 × Int)=>chk (s.1 = 0) (y16 x s.2.1 s.2.2)) (0,([] : List z2),0) zJ.1 zJ.2).bind fun z2L=>zgT z2L.2.2 z2L.2.1
set_option maxRecDepth 20000 in
theorem y48 (Z : Zp) (zer : Option Addr) (zes : Nat) (z7C : List z1) (r : List z2 × Int)
     (h : yB z7C = some r) (w₀ : World) (hz : PZ [] w₀ Z)
     (zlB : ZS Z 4 (fun r x=>r = e35 x) zer zes z7C) :
    Calls Try.prog 68 #[(.slice zer z7C.length zes)] w₀ fun e w'=>∃ Zn : Zp,∃ zlC : Option Addr,∃ zlD : Nat,e = .returned (.tuple #[(.slice zlC r.1.length zlD),(.int .i64 r.2)]) ∧ True ∧ Hp [] w₀ w' [fz Zn,row (.slice zlC r.1.length zlD) 30 2 (r.1.flatMap e30)]:=by
  unfold yB at h
  refine Calls.y6D (vs:=[(.slice zer z7C.length zes)]) (pre:=[]) (env:=[(0,(.slice zer z7C.length zes))]) Try.func68 rfl Try.ntmps68 rfl (Hp.nil w₀ _) rfl ?_
  refine WC.pool (WC.b (WC.a (WL.pu rfl (WL.pu rfl (WL.nil (WX.a (WC.b (WC.b ?_))))))))
  obtain ⟨zgR,zre,h⟩:=z8 h
  refine WC.a (WL.pu rfl ?_)
  refine WL.b (dd:=10) rfl rfl rfl (ze (l:=[.tmp 9]) Try.call30 (.cons rfl .nil)) .nil (ccz hz .nil .here fun w pz ho=>y3J _ _ _ _ _ zre w pz (zlB.mono (Zle.left _ _))) ?_
  refine WL.pu rfl (WL.nil (WX.a ?_))
  refine WC.cond rfl (fun zgU=>?_) (fun zgU=>?_)
  · replace h:=ye h zgU
    refine WC.b (WC.a (WL.pu rfl (WL.pu rfl (WL.nil (WX.a (WC.ret (WX.y5 ?_)))))))
    refine WX.nilRow 30 2 ?_
    obtain rfl:=Option.some.inj h
    refine WX.y7n Try.results68 (.tmp rfl (.tmp rfl .nil)) (fun w hw=>?_)
    exact ⟨[],none,0,y1H rfl rfl,trivial,hw.sub (.cons .h1 (.cons .here .nil))⟩
  · replace h:=yf h zgU
    refine WC.skip (WX.a (WC.b (WC.a ?_)))
    refine WL.new (dd:=4) rfl rfl rfl (yh (cs:=[(.int .i64 0)]) y9u rfl) ?_
    intro z1U _
    refine WL.nil (WX.a (WC.b (WC.a ?_)))
    refine WL.new (dd:=5) rfl rfl rfl (yh (cs:=[(.slice none 0 0)]) y89 rfl) ?_
    intro z1O _
    refine WL.nil (WX.a (WC.b ?_))
    obtain ⟨zeq,zrf,h⟩:=z8 h
    refine WC.a (WL.pu rfl ?_)
    refine WL.y5c (dd:=13) rfl rfl rfl (ze (l:=[.tmp 12]) Try.call48 (.cons rfl .nil)) .nil (ccz hz .nil .h2 fun w pz ho=>y9x _ _ _ _ _ zrf w pz (zlB.mono (Zle.left _ _))) ?_
    rintro zyp zyq _
    refine WL.pu rfl (WL.nil (WX.a ?_))
    obtain ⟨zgT,zrg,h⟩:=y3B h
    refine WC.y6E (fun (zcj : Nat) (z6s : Int) (z5D : List z2) (z93 : Zp) (zap : Option Addr) (zaq : Nat)=>(zgT z6s z5D = some r) ∧ (Zle (Z ++ []) (Z ++ z93))) (fun (zcj : Nat) (z6s : Int) (z5D : List z2) (z93 : Zp) (zap : Option Addr) (zaq : Nat)=>[(4,(.pointer (some ⟨z1U,0,none⟩))),(5,(.pointer (some ⟨z1O,0,none⟩)))]) (fun (zcj : Nat) (z6s : Int) (z5D : List z2) (z93 : Zp) (zap : Option Addr) (zaq : Nat)=>[fz z93,stb z1U 90 [(.int .i64 z6s)],stb z1O 77 [(.slice zap z5D.length zaq)],row (.slice zap z5D.length zaq) 30 2 (z5D.flatMap e30),dfr zcj]) ?_ ?_
    · skip
      refine WC.b ?_
      refine WC.freezeS (ls:=zeq) .here .h2 hz (RR.flat (enc:=e35) (fun _=>rfl) _) ?_
      intro z3C zrh zlE
      obtain ⟨zJ,zri,h⟩:=z8 h
      refine WC.a (WL.pu rfl (WL.pu rfl ?_))
      refine WL.yaD (dd:=16) rfl rfl rfl (ze (l:=[.tmp 14,.tmp 15]) Try.call76 (.cons rfl (.cons rfl .nil))) .nil (ccz hz .nil .here fun w pz ho=>y99 _ _ _ _ _ _ _ _ zri w pz zlE zlE) ?_
      rintro z2c z2d z2o z2p z2q z2r ⟨zrj,zrk⟩
      refine WL.nil (WX.a (WC.block (WC.pool ?_)))
      refine WC.drop (.cons .here (.cons .h3 (.cons .h3 (.cons .here (.cons .here (.cons .here .nil)))))) ?_
      refine WC.nilRow 30 2 ?_
      refine WC.rangeFunc (f:=89) (caps:=[(.pointer (some ⟨z2c,0,none⟩)),(.pointer (some ⟨z2d,0,none⟩))]) rfl Try.call89 ?_
      intro zyr zys z2s z3l z2M zet zrl zrm w hw
      have hw1:=hw.selAll ((.cons .h3 (.cons .h3 (.cons .h2 (.cons .h2 (.cons .here .nil))))) : Sel _ [fz [],stb z1O 77 [(.slice none (([] : List z2).length) 0)],row (.slice none (([] : List z2).length) 0) 30 2 (([] : List z2).flatMap e30),stb z1U 90 [(.int .i64 0)],blk z2s (z2M .ready none)] _)
      have pz:=(hz.call2 hw1 ((.cons .here .nil) : Sel [y1v [fz [],stb z1O 77 [(.slice none (([] : List z2).length) 0)],row (.slice none (([] : List z2).length) 0) 30 2 (([] : List z2).flatMap e30),stb z1U 90 [(.int .i64 0)],blk z2s (z2M .ready none)],dfr z3l,stb z2c 39 [(.slice z2o zJ.1.length z2p)],stb z2d 39 [(.slice z2q zJ.2.length z2r)],fz z3C] [y1v [fz [],stb z1O 77 [(.slice none (([] : List z2).length) 0)],row (.slice none (([] : List z2).length) 0) 30 2 (([] : List z2).flatMap e30),stb z1U 90 [(.int .i64 0)],blk z2s (z2M .ready none)]] [dfr z3l,stb z2c 39 [(.slice z2o zJ.1.length z2p)],stb z2d 39 [(.slice z2q zJ.2.length z2r)],fz z3C]) .h3).lend hw1 ((.cons .here .nil) : Sel [y1v [fz [],stb z1O 77 [(.slice none (([] : List z2).length) 0)],row (.slice none (([] : List z2).length) 0) 30 2 (([] : List z2).flatMap e30),stb z1U 90 [(.int .i64 0)],blk z2s (z2M .ready none)],dfr z3l,stb z2c 39 [(.slice z2o zJ.1.length z2p)],stb z2d 39 [(.slice z2q zJ.2.length z2r)],fz z3C] [y1v [fz [],stb z1O 77 [(.slice none (([] : List z2).length) 0)],row (.slice none (([] : List z2).length) 0) 30 2 (([] : List z2).flatMap e30),stb z1U 90 [(.int .i64 0)],blk z2s (z2M .ready none)]] [dfr z3l,stb z2c 39 [(.slice z2o zJ.1.length z2p)],stb z2d 39 [(.slice z2q zJ.2.length z2r)],fz z3C]) (B:=[stb z2c 39 [(.slice z2o zJ.1.length z2p)],stb z2d 39 [(.slice z2q zJ.2.length z2r)]]) (fun _ hx'=>((.cons .h1 (.cons .h1 .nil)) : Sel _ [stb z2c 39 [(.slice z2o zJ.1.length z2p)],stb z2d 39 [(.slice z2q zJ.2.length z2r)]] _).mem hx')
      obtain ⟨z2L,zrn,h⟩:=z8 h
      refine Calls.mono (y8r (Z:=_) (z6j:=z2s) (z1w:=(Option Addr × Nat)) (z3B:=(fun (g : Option Addr × Nat) (s : Nat × List z2 × Int)=>y1v ([fz [],stb z1O 77 [(.slice g.1 s.2.1.length g.2)],row (.slice g.1 s.2.1.length g.2) 30 2 (s.2.1.flatMap e30),stb z1U 90 [(.int .i64 s.2.2)]] ++ [blk z2s (z2M (rdy (pcs [] s.1)) (pcs [] s.1))]))) (z6k:=(fun (g : Option Addr × Nat) (s : Nat × List z2 × Int)=>True)) (z7w:=(none,0)) (zc8:=⟨z2c,0,none⟩) (z8T:=z2o) (z8U:=z2p) (z6l:=⟨z2d,0,none⟩) (ze8:=z2q) (ze9:=z2r) (zr:=(Nat × List z2 × Int)) (z3b:=(fun (x : z1 × z1) (s : Nat × List z2 × Int)=>chk (s.1 = 0) (y16 x s.2.1 s.2.2))) (s0_5185:=(0,([] : List z2),0)) (z16:=zJ.1) (z1u:=zJ.2) (r:=z2L) w pz ?_ trivial (zrj.mono (Zle.left _ _)) ((hw1.lent ((.cons .here .nil) : Sel [y1v [fz [],stb z1O 77 [(.slice none (([] : List z2).length) 0)],row (.slice none (([] : List z2).length) 0) 30 2 (([] : List z2).flatMap e30),stb z1U 90 [(.int .i64 0)],blk z2s (z2M .ready none)],dfr z3l,stb z2c 39 [(.slice z2o zJ.1.length z2p)],stb z2d 39 [(.slice z2q zJ.2.length z2r)],fz z3C] [y1v [fz [],stb z1O 77 [(.slice none (([] : List z2).length) 0)],row (.slice none (([] : List z2).length) 0) 30 2 (([] : List z2).flatMap e30),stb z1U 90 [(.int .i64 0)],blk z2s (z2M .ready none)]] [dfr z3l,stb z2c 39 [(.slice z2o zJ.1.length z2p)],stb z2d 39 [(.slice z2q zJ.2.length z2r)],fz z3C]) (B:=[stb z2c 39 [(.slice z2o zJ.1.length z2p)],stb z2d 39 [(.slice z2q zJ.2.length z2r)]]) (fun _ hx'=>((.cons .h1 (.cons .h1 .nil)) : Sel _ [stb z2c 39 [(.slice z2o zJ.1.length z2p)],stb z2d 39 [(.slice z2q zJ.2.length z2r)]] _).mem hx') (.head _) _).stb) (zrk.mono (Zle.left _ _)) ((hw1.lent ((.cons .here .nil) : Sel [y1v [fz [],stb z1O 77 [(.slice none (([] : List z2).length) 0)],row (.slice none (([] : List z2).length) 0) 30 2 (([] : List z2).flatMap e30),stb z1U 90 [(.int .i64 0)],blk z2s (z2M .ready none)],dfr z3l,stb z2c 39 [(.slice z2o zJ.1.length z2p)],stb z2d 39 [(.slice z2q zJ.2.length z2r)],fz z3C] [y1v [fz [],stb z1O 77 [(.slice none (([] : List z2).length) 0)],row (.slice none (([] : List z2).length) 0) 30 2 (([] : List z2).flatMap e30),stb z1U 90 [(.int .i64 0)],blk z2s (z2M .ready none)]] [dfr z3l,stb z2c 39 [(.slice z2o zJ.1.length z2p)],stb z2d 39 [(.slice z2q zJ.2.length z2r)],fz z3C]) (B:=[stb z2c 39 [(.slice z2o zJ.1.length z2p)],stb z2d 39 [(.slice z2q zJ.2.length z2r)]]) (fun _ hx'=>((.cons .h1 (.cons .h1 .nil)) : Sel _ [stb z2c 39 [(.slice z2o zJ.1.length z2p)],stb z2d 39 [(.slice z2q zJ.2.length z2r)]] _).mem hx') (.tail _ (.head _)) _).stb) zrn (hw1.owns ((.cons .here .nil) : Sel [y1v [fz [],stb z1O 77 [(.slice none (([] : List z2).length) 0)],row (.slice none (([] : List z2).length) 0) 30 2 (([] : List z2).flatMap e30),stb z1U 90 [(.int .i64 0)],blk z2s (z2M .ready none)],dfr z3l,stb z2c 39 [(.slice z2o zJ.1.length z2p)],stb z2d 39 [(.slice z2q zJ.2.length z2r)],fz z3C] [y1v [fz [],stb z1O 77 [(.slice none (([] : List z2).length) 0)],row (.slice none (([] : List z2).length) 0) 30 2 (([] : List z2).flatMap e30),stb z1U 90 [(.int .i64 0)],blk z2s (z2M .ready none)]] [dfr z3l,stb z2c 39 [(.slice z2o zJ.1.length z2p)],stb z2d 39 [(.slice z2q zJ.2.length z2r)],fz z3C]))) ?_
      · skip
        refine y7m (LI:=(fun (g : Option Addr × Nat) (s : Nat × List z2 × Int)=>[fz [],stb z1O 77 [(.slice g.1 s.2.1.length g.2)],row (.slice g.1 s.2.1.length g.2) 30 2 (s.2.1.flatMap e30),stb z1U 90 [(.int .i64 s.2.2)]])) (pc:=(fun (s : Nat × List z2 × Int)=>pcs [] s.1)) zet zrl zrm (fun _ _=>rfl) (by decide) ?_
        rintro z1a _ ⟨zar,zas⟩ ⟨zro,z3d,zao⟩ zrp zrq Fb wb zlF _ hz
        replace hz:=hz.left
        letI : Rnd:=inR z2s
        obtain ⟨hp0,z2N⟩:=yk zlF
        replace hp0 : zro = 0:=hp0; subst hp0; clear zlF
        replace z2N : y16 z1a z3d zao = some (zrp,zrq):=z2N
        unfold y16 at z2N
        refine WC.restr (env':=[(11,(.bool (!zgR))),(4,(.pointer (some ⟨z1U,0,none⟩))),(5,(.pointer (some ⟨z1O,0,none⟩))),(17,(.agg #[(.int .i64 z1a.1.fB.fN),(.int .i64 z1a.1.fB.fD),(.int .i64 z1a.1.fR.fN),(.int .i64 z1a.1.fR.fD)])),(18,(.agg #[(.int .i64 z1a.2.fB.fN),(.int .i64 z1a.2.fB.fD),(.int .i64 z1a.2.fR.fN),(.int .i64 z1a.2.fR.fD)]))]) (.cons rfl (.cons rfl (.cons rfl (.cons rfl (.cons rfl .nil))))) ?_
        refine WC.eqL (L':=[fz [],stb z1O 77 [(.slice zar z3d.length zas)],row (.slice zar z3d.length zas) 30 2 (z3d.flatMap e30),stb z1U 90 [(.int .i64 zao)],blk z2s (z2M .ready none)]) rfl ?_
        refine WC.b (WC.a ?_)
        refine WL.new (dd:=7) rfl rfl rfl (yh (cs:=[(.int .i64 0),(.int .i64 0),(.int .i64 0),(.int .i64 0)]) y3D rfl) ?_
        intro zrr _
        refine WL.ya rfl rfl (y9 y3M rfl rfl rfl .here rfl rfl rfl) ?_
        refine WL.nil (WX.a (WC.a ?_))
        refine WL.new (dd:=8) rfl rfl rfl (yh (cs:=[(.int .i64 0),(.int .i64 0),(.int .i64 0),(.int .i64 0)]) y3D rfl) ?_
        intro zrs _
        refine WL.ya rfl rfl (y9 y3M rfl rfl rfl .here rfl rfl rfl) ?_
        refine WL.nil ?_
        refine WX.y84 zet .h6 ?_
        refine WC.block (WC.b ?_)
        obtain ⟨zlz,zrt,z2N⟩:=z8 z2N
        refine WC.a ?_
        refine WL.a (d:=19) rfl rfl rfl (y3 y3N rfl rfl) ?_
        refine WL.a (d:=20) rfl rfl rfl (yv (cs:=[(.int .i64 z1a.1.fB.fN),(.int .i64 z1a.1.fB.fD)]) y4 rfl rfl (y1D (s:=2) .h2 rfl)) ?_
        refine WL.a (d:=21) rfl rfl rfl (y3 y3N rfl rfl) ?_
        refine WL.a (d:=22) rfl rfl rfl (yv (cs:=[(.int .i64 z1a.2.fB.fN),(.int .i64 z1a.2.fB.fD)]) y4 rfl rfl (y1D (s:=2) .h1 rfl)) ?_
        refine WL.b (dd:=23) rfl rfl rfl (ze (l:=[.tmp 20,.tmp 22]) Try.call18 (.cons rfl (.cons rfl .nil))) .nil (ccz hz .nil .h3 fun w pz ho=>y1Y _ _ _ _ zrt w pz ) ?_
        refine WL.pu rfl (WL.nil (WX.a ?_))
        refine WC.cond rfl (fun zgV=>?_) (fun zgV=>?_)
        · replace z2N:=ye z2N zgV
          obtain ⟨zgP,zru,z2N⟩:=z8 z2N
          obtain ⟨zgQ,zrv,z2N⟩:=z8 z2N
          obtain ⟨z5d,zrw,z2N⟩:=z8 z2N
          obtain ⟨zrx,z2N⟩:=yk z2N
          refine WC.y1g (fun i=>[5,10,11,13,14].contains i) [stbp z1O 77 [(0,(.slice zar z3d.length zas))],stb zrr 35 [(.int .i64 z1a.1.fB.fN),(.int .i64 z1a.1.fB.fD),(.int .i64 z1a.1.fR.fN),(.int .i64 z1a.1.fR.fD)],stb zrs 35 [(.int .i64 z1a.2.fB.fN),(.int .i64 z1a.2.fB.fD),(.int .i64 z1a.2.fR.fN),(.int .i64 z1a.2.fR.fD)]] rfl ?_
          refine WD.y2k (i:=0) (d:=25) (by kernel_rfl) rfl (z6 (by kernel_rfl)) (z7 (by kernel_rfl)) rfl rfl rfl (Sin.wk (.cons .h4 (.cons .h2 (.cons .h1 .nil))) (.stb (.cons rfl .nil) (.same (.same .nil)))) (yb y3s rfl (y7G .here (.head _))) ?_
          refine WD.a (i:=1) (d:=26) (by kernel_rfl) rfl (z6 (by kernel_rfl)) (z7 (by kernel_rfl)) rfl rfl rfl (fun _=>y3 y3N rfl rfl) ?_
          refine WD.e (i:=2) (d:=27) (by kernel_rfl) rfl (z6 (by kernel_rfl)) (z7 (by kernel_rfl)) rfl rfl rfl (yv (cs:=[(.int .i64 z1a.2.fB.fN),(.int .i64 z1a.2.fB.fD)]) y4 rfl rfl (y1D (s:=2) .h1 rfl)) ?_
          refine WD.a (i:=3) (d:=28) (by kernel_rfl) rfl (z6 (by kernel_rfl)) (z7 (by kernel_rfl)) rfl rfl rfl (fun _=>y3 y3N rfl rfl) ?_
          refine WD.e (i:=4) (d:=29) (by kernel_rfl) rfl (z6 (by kernel_rfl)) (z7 (by kernel_rfl)) rfl rfl rfl (yv (cs:=[(.int .i64 z1a.1.fB.fN),(.int .i64 z1a.1.fB.fD)]) y4 rfl rfl (y1D (s:=2) .h2 rfl)) ?_
          refine WD.a (i:=6) (d:=31) (by kernel_rfl) rfl (z6 (by kernel_rfl)) (z7 (by kernel_rfl)) rfl rfl rfl (fun _=>y3 y4D rfl rfl) ?_
          refine WD.y2k (i:=7) (d:=32) (by kernel_rfl) rfl (z6 (by kernel_rfl)) (z7 (by kernel_rfl)) rfl rfl rfl (Sin.wk (.cons .h4 (.cons .h2 (.cons .h1 .nil))) (.stb (.cons rfl .nil) (.same (.same .nil)))) (yv (cs:=[(.int .i64 z1a.1.fR.fN),(.int .i64 z1a.1.fR.fD)]) y4 rfl rfl (y1D (s:=2) .h1 rfl)) ?_
          refine WD.a (i:=8) (d:=33) (by kernel_rfl) rfl (z6 (by kernel_rfl)) (z7 (by kernel_rfl)) rfl rfl rfl (fun _=>y3 y4D rfl rfl) ?_
          refine WD.y2k (i:=9) (d:=34) (by kernel_rfl) rfl (z6 (by kernel_rfl)) (z7 (by kernel_rfl)) rfl rfl rfl (Sin.wk (.cons .h4 (.cons .h2 (.cons .h1 .nil))) (.stb (.cons rfl .nil) (.same (.same .nil)))) (yv (cs:=[(.int .i64 z1a.2.fR.fN),(.int .i64 z1a.2.fR.fD)]) y4 rfl rfl (y1D (s:=2) .h2 rfl)) ?_
          refine WD.call0 (i:=5) (dd:=30) rfl (by kernel_rfl) rfl rfl rfl (.inl ⟨rfl,(Sin.wk (.cons .h5 (.cons .h3 (.cons .h2 .nil))) (.stb (.cons rfl .nil) (.same (.same .nil))))⟩) (ze (l:=[.tmp 4,.func 24,.tmp 27,.tmp 29]) Try.call58 (.cons rfl (.cons rfl (.cons rfl (.cons rfl .nil))))) (.cons .h6 .nil) (ccz hz (.cons .h6 .nil) .h3 fun w pz ho=>Calls.mono (y3f _ _ (z4E:=24) (z5A:=[]) _ (z6n:=(fun (y0 : z2) (y1 : z2)=>y1y y0 y1)) _ _ _ zru w pz Try.call24 (fun w' hz' y0 y1  r  hr=>y5j _ _ _ _ hr w' hz' ) ho) (fun _ _ h'=>⟨h'.1,trivial,h'.2⟩)) ?_
          intro _
          refine WD.call0 (i:=10) (dd:=35) rfl (by kernel_rfl) rfl rfl rfl (.inl ⟨rfl,(Sin.wk (.cons .h5 (.cons .h3 (.cons .h2 .nil))) (.stb (.cons rfl .nil) (.same (.same .nil))))⟩) (ze (l:=[.tmp 4,.func 24,.tmp 32,.tmp 34]) Try.call58 (.cons rfl (.cons rfl (.cons rfl (.cons rfl .nil))))) (.cons .here .nil) (ccz hz (.cons .here .nil) .h3 fun w pz ho=>Calls.mono (y3f _ _ (z4E:=24) (z5A:=[]) _ (z6n:=(fun (y0 : z2) (y1 : z2)=>y1y y0 y1)) _ _ _ zrv w pz Try.call24 (fun w' hz' y0 y1  r  hr=>y5j _ _ _ _ hr w' hz' ) ho) (fun _ _ h'=>⟨h'.1,trivial,h'.2⟩)) ?_
          intro _
          refine WD.call0 (i:=11) (dd:=36) rfl (by kernel_rfl) rfl rfl rfl (.inl ⟨rfl,(Sin.wk (.cons .h5 (.cons .h3 (.cons .h2 .nil))) (.stb (.cons rfl .nil) (.same (.same .nil))))⟩) (ze (l:=[.tmp 4,.func 34,.tmp 30,.tmp 35]) Try.call58 (.cons rfl (.cons rfl (.cons rfl (.cons rfl .nil))))) (.cons .here .nil) (ccz hz (.cons .here .nil) .h3 fun w pz ho=>Calls.mono (y3f _ _ (z4E:=34) (z5A:=[]) _ (z6n:=(fun (y0 : z2) (y1 : z2)=>y2I y0 y1)) _ _ _ zrw w pz Try.call34 (fun w' hz' y0 y1  r  hr=>y91 _ _ _ _ hr w' hz' ) ho) (fun _ _ h'=>⟨h'.1,trivial,h'.2⟩)) ?_
          intro _
          refine WD.new (i:=12) (dd:=37) rfl (by kernel_rfl) rfl rfl rfl (yp (cs:=([z5d.1] : List z2).flatMap e30) y1B (Eos.parts (l:=[.tmp 36]) (.cons rfl .nil) [0]) (fun _=>by kernel_rfl) rfl (by unfold maxLen; omega)) (fun h'=>absurd h' (by decide)) ?_
          intro zyt _
          refine WD.old (i:=13) (dd:=38) rfl (by kernel_rfl) rfl rfl rfl rfl (fun _=>(Sin.wk (.cons .h7 (.cons .h5 (.cons .h4 .nil))) (.stb (.cons rfl .nil) (.same (.same .nil))))) (y5d (enc:=e30) (l1:=z3d) (l2:=([z5d.1] : List z2)) y1B rfl rfl .h7 (fun _=>rfl) rfl rfl (y61 .here) (y5O y8n _) zrx) ?_
          rintro ⟨zgW,zgX⟩ _
          refine WD.y4V (i:=14) rfl (by kernel_rfl) rfl rfl rfl (by kernel_rfl) (y9 y8K rfl rfl rfl .h7 rfl rfl rfl) ?_
          refine WD.done (by kernel_rfl) ?_
          refine WX.yg ?_
          obtain ⟨rfl,rfl⟩:=y6M z2N
          exact WX.y46 zet .h4 (fun w' hw'=>⟨(zgW,zgX),rfl,trivial,(hw'.selAll ((.cons .h7 (.cons .h1 (.cons .h1 (.cons .h2 (.cons .here .nil))))) : Sel _ [fz [],stb z1O 77 [(.slice zgW ((z3d ++ ([z5d.1] : List z2)).length) zgX)],row (.slice zgW ((z3d ++ ([z5d.1] : List z2)).length) zgX) 30 2 ((z3d ++ ([z5d.1] : List z2)).flatMap e30),stb z1U 90 [(.int .i64 z5d.2.fE)],blk z2s (z2M .ready none)] _)).sub (.cons .here .nil)⟩)
        · replace z2N:=yf z2N zgV
          refine WC.skip (WX.yg ?_)
          obtain ⟨rfl,rfl⟩:=y6M z2N
          exact WX.y46 zet .here (fun w' hw'=>⟨(zar,zas),rfl,trivial,(hw'.selAll ((.cons .h3 (.cons .h3 (.cons .h3 (.cons .h3 (.cons .here .nil))))) : Sel _ [fz [],stb z1O 77 [(.slice zar z3d.length zas)],row (.slice zar z3d.length zas) 30 2 (z3d.flatMap e30),stb z1U 90 [(.int .i64 zao)],blk z2s (z2M .ready none)] _)).sub (.cons .here .nil)⟩)
      · skip
        rintro _ w' ⟨⟨zck,zcl⟩,rfl,_,hp⟩
        have hp1:=hw1.call ((.cons .here .nil) : Sel [y1v [fz [],stb z1O 77 [(.slice none (([] : List z2).length) 0)],row (.slice none (([] : List z2).length) 0) 30 2 (([] : List z2).flatMap e30),stb z1U 90 [(.int .i64 0)],blk z2s (z2M .ready none)],dfr z3l,stb z2c 39 [(.slice z2o zJ.1.length z2p)],stb z2d 39 [(.slice z2q zJ.2.length z2r)],fz z3C] [y1v [fz [],stb z1O 77 [(.slice none (([] : List z2).length) 0)],row (.slice none (([] : List z2).length) 0) 30 2 (([] : List z2).flatMap e30),stb z1U 90 [(.int .i64 0)],blk z2s (z2M .ready none)]] [dfr z3l,stb z2c 39 [(.slice z2o zJ.1.length z2p)],stb z2d 39 [(.slice z2q zJ.2.length z2r)],fz z3C]) hp
        have hp2 : Hp _ _ w' [fz [],stb z1O 77 [(.slice zck z2L.2.1.length zcl)],row (.slice zck z2L.2.1.length zcl) 30 2 (z2L.2.1.flatMap e30),stb z1U 90 [(.int .i64 z2L.2.2)],blk z2s (z2M (rdy (pcs [] z2L.1)) (pcs [] z2L.1)),dfr z3l,stb z2c 39 [(.slice z2o zJ.1.length z2p)],stb z2d 39 [(.slice z2q zJ.2.length z2r)],fz z3C]:=hp1.pickAll .here
        refine ⟨_,pcs [] z2L.1,_,rfl,(hp2.sub ((.cons .h4 (.cons .here (.cons .here (.cons .here (.cons .here (.cons .here (.cons .here (.cons .here (.cons .here .nil))))))))) : Sel _ [blk z2s (z2M (rdy (pcs [] z2L.1)) (pcs [] z2L.1)),fz [],stb z1O 77 [(.slice zck z2L.2.1.length zcl)],row (.slice zck z2L.2.1.length zcl) 30 2 (z2L.2.1.flatMap e30),stb z1U 90 [(.int .i64 z2L.2.2)],dfr z3l,stb z2c 39 [(.slice z2o zJ.1.length z2p)],stb z2d 39 [(.slice z2q zJ.2.length z2r)],fz z3C] _)),?_⟩
        clear hp hp1 hp2 pz hw hw1
        refine wjN ?_
        letI : Rnd:=aft z3l
        refine WX.merge .here .h6 ?_
        refine WX.yg ?_
        exact WX.midR (D:=fun (g : Nat × Int × List z2 × Zp × Option Addr × Nat)=>g.1) (G:=Nat × Int × List z2 × Zp × Option Addr × Nat) ⟨z3l,z2L.2.2,z2L.2.1,(z3C ++ []),zck,zcl⟩ ⟨h,(zrh.trans ((Zle.left _ _).trans (Zle.yi _ _ _)))⟩ (.cons rfl (.cons rfl .nil)) (.cons .here (.cons .h2 (.cons .here (.cons .here (.cons .here .nil)))))
    · rintro zcj z6s z5D z93 zap zaq ⟨h,zyu⟩
      replace h:=(zrg z6s z5D).symm.trans h
      letI : Rnd:=aft zcj
      refine WC.b (WC.b (WC.a ?_))
      refine WL.a (d:=39) rfl rfl rfl (y3 y5S rfl rfl) ?_
      refine WL.a (d:=40) rfl rfl rfl (yb y2B rfl (yq .h1 rfl)) ?_
      refine WL.pu rfl (WL.nil (WX.a ?_))
      refine WC.cond rfl (fun zgY=>?_) (fun zgY=>?_)
      · replace h:=ye h zgY
        refine WC.b ?_
        refine WC.y1g (fun i=>[].contains i) [] rfl ?_
        refine WD.a (i:=0) (d:=42) (by kernel_rfl) rfl (z6 (by kernel_rfl)) (z7 (by kernel_rfl)) rfl rfl rfl (fun _=>y3 y5S rfl rfl) ?_
        refine WD.e (i:=1) (d:=43) (by kernel_rfl) rfl (z6 (by kernel_rfl)) (z7 (by kernel_rfl)) rfl rfl rfl (yb y2B rfl (yq .h1 rfl)) ?_
        refine WD.a (i:=2) (d:=2) (by kernel_rfl) rfl (z6 (by kernel_rfl)) (z7 (by kernel_rfl)) rfl rfl rfl (fun _=>q_z rfl) ?_
        refine WD.a (i:=3) (d:=3) (by kernel_rfl) rfl (z6 (by kernel_rfl)) (z7 (by kernel_rfl)) rfl rfl rfl (fun _=>q_z rfl) ?_
        refine WD.done (by kernel_rfl) ?_
        refine WX.a (WC.ret (WX.y5 ?_))
        refine WX.nilRow 30 2 ?_
        obtain rfl:=Option.some.inj h
        refine WX.y4B .h5 Try.results68 (.tmp rfl (.tmp rfl .nil)) (fun w hw=>?_)
        exact ⟨z93,none,0,y1H rfl rfl,trivial,hw.sub (.cons .h2 (.cons .h1 .nil))⟩
      · replace h:=yf h zgY
        refine WC.skip (WX.a (WC.b ?_))
        obtain ⟨zgS,zry,h⟩:=z8 h
        refine WC.a ?_
        refine WL.a (d:=44) rfl rfl rfl (yb y3s rfl (yq .h2 rfl)) ?_
        refine WL.y6r (dd:=45) rfl rfl rfl (ze (l:=[.tmp 44,.func 18]) Try.call77 (.cons rfl (.cons rfl .nil))) (.cons .h3 .nil) (ccz hz (.cons .h3 .nil) .here fun w pz ho=>y4j _ _ _ (z7B:=18) (zaf:=[]) _ (zae:=(fun (y0 : z2) (y1 : z2)=>yQ y0 y1)) _ zry w pz Try.call18 (fun w' hz' y0 y1  r  hr=>y1Y _ _ _ _ hr w' hz' ) ho) ?_
        rintro  zrz
        refine WL.restb (cs':=[(.slice zap zgS.length zaq)]) .h3 (by rw [zrz]) ?_
        refine WL.nil (WX.a (WC.b ?_))
        obtain ⟨zlA,zrA,h⟩:=z8 h
        refine WC.a ?_
        refine WL.a (d:=46) rfl rfl rfl (yb y3s rfl (yq .here rfl)) ?_
        refine WL.y5c (dd:=47) rfl rfl rfl (ze (l:=[.tmp 46]) Try.call78 (.cons rfl .nil)) (.cons .h1 .nil) (ccz hz (.cons .h1 .nil) .h1 fun w pz ho=>y4v _ _ _ _ _ zrA w pz  ho) ?_
        rintro zrB zrC _
        refine WL.pu rfl (WL.pu rfl (WL.nil (WX.a (WC.ret ?_))))
        obtain rfl:=Option.some.inj h
        refine WX.y4B .h4 Try.results68 (.tmp rfl (.tmp rfl .nil)) (fun w hw=>?_)
        exact ⟨z93,zrB,zrC,y1H rfl rfl,trivial,hw.sub (.cons .h3 (.cons .h1 .nil))⟩
def y26 (z2t : z1) (z2u : z1) : Option Int :=
  (yQ z2t.fR z2u.fR).bind fun zlG=>some zlG
set_option maxRecDepth 20000 in
theorem y8N (Z : Zp)  (z2t : z1) (z2u : z1) (r : Int)
     (h : y26 z2t z2u = some r) (w₀ : World) (hz : PZ [] w₀ Z) :
    Calls Try.prog 43 #[(.agg #[(.int .i64 z2t.fB.fN),(.int .i64 z2t.fB.fD),(.int .i64 z2t.fR.fN),(.int .i64 z2t.fR.fD)]),(.agg #[(.int .i64 z2u.fB.fN),(.int .i64 z2u.fB.fD),(.int .i64 z2u.fR.fN),(.int .i64 z2u.fR.fD)])] w₀ fun e w'=>e = .returned (.int .i64 r) ∧ Hp [] w₀ w' []:=by
  unfold y26 at h
  refine Calls.yc (vs:=[(.agg #[(.int .i64 z2t.fB.fN),(.int .i64 z2t.fB.fD),(.int .i64 z2t.fR.fN),(.int .i64 z2t.fR.fD)]),(.agg #[(.int .i64 z2u.fB.fN),(.int .i64 z2u.fB.fD),(.int .i64 z2u.fR.fN),(.int .i64 z2u.fR.fD)])]) (pre:=[]) (env:=[(0,(.agg #[(.int .i64 z2t.fB.fN),(.int .i64 z2t.fB.fD),(.int .i64 z2t.fR.fN),(.int .i64 z2t.fR.fD)])),(1,(.agg #[(.int .i64 z2u.fB.fN),(.int .i64 z2u.fB.fD),(.int .i64 z2u.fR.fN),(.int .i64 z2u.fR.fD)]))]) Try.func43 rfl Try.ntmps43 rfl (Hp.nil w₀ _) rfl ?_
  refine WC.b (WC.a ?_)
  refine WL.new (dd:=2) rfl rfl rfl (yI (cs:=[(.int .i64 z2t.fB.fN),(.int .i64 z2t.fB.fD),(.int .i64 z2t.fR.fN),(.int .i64 z2t.fR.fD)]) rfl rfl) ?_
  intro zyv _
  refine WL.new (dd:=3) rfl rfl rfl (yI (cs:=[(.int .i64 z2u.fB.fN),(.int .i64 z2u.fB.fD),(.int .i64 z2u.fR.fN),(.int .i64 z2u.fR.fD)]) rfl rfl) ?_
  intro zyw _
  refine WL.pu rfl (WL.nil (WX.a (WC.b ?_)))
  obtain ⟨zlG,zrD,h⟩:=z8 h
  refine WC.a ?_
  refine WL.a (d:=5) rfl rfl rfl (y3 y4D rfl rfl) ?_
  refine WL.a (d:=6) rfl rfl rfl (yv (cs:=[(.int .i64 z2t.fR.fN),(.int .i64 z2t.fR.fD)]) y4 rfl rfl (y1D (s:=2) .h1 rfl)) ?_
  refine WL.a (d:=7) rfl rfl rfl (y3 y4D rfl rfl) ?_
  refine WL.a (d:=8) rfl rfl rfl (yv (cs:=[(.int .i64 z2u.fR.fN),(.int .i64 z2u.fR.fD)]) y4 rfl rfl (y1D (s:=2) .here rfl)) ?_
  refine WL.b (dd:=9) rfl rfl rfl (ze (l:=[.tmp 6,.tmp 8]) Try.call18 (.cons rfl (.cons rfl .nil))) .nil (cc hz .nil fun w pz ho=>y1Y _ _ _ _ zrD w pz ) ?_
  refine WL.pu rfl (WL.nil (WX.a (WC.ret ?_)))
  obtain rfl:=Option.some.inj h
  refine WX.y8 Try.results43 (.tmp rfl .nil) (fun w hw=>?_)
  exact ⟨yG rfl,hw.sub .nil⟩
def yz (zQ : List z1) (z5e : z1 → z1 → Option Int) (z6t : Int → Int → Int → Int → Option z1) : Nat → Int → Int → Int → Int → Int → Option z1
  | 0,_,_,_,_,_=>none
  | zgZ + 1,z1h,z3D,z3E,z3F,z3G=>if decide (z1h < ((zQ.length : Nat) : Int)) then jp4 (fun (z6u : Int) (z6v : Int) (z6w : Int) (z6x : Int)=>yz zQ z5e z6t zgZ (i64 (z1h + 1)) z6u z6v z6w z6x) fun zeu=>chk ((0 : Int) ≤ z1h ∧ z1h < ((zQ.length : Nat) : Int)) ((z5e (⟨(⟨(((nth zQ z1h).fB).fN),(((nth zQ z1h).fB).fD)⟩ : z2),(⟨(((nth zQ z1h).fR).fN),(((nth zQ z1h).fR).fD)⟩ : z2)⟩ : z1) (⟨(⟨z3D,z3E⟩ : z2),(⟨z3F,z3G⟩ : z2)⟩ : z1)).bind fun zh0=>if decide (zh0 < 0) then chk ((0 : Int) ≤ z1h ∧ z1h < ((zQ.length : Nat) : Int)) (zeu (((nth zQ z1h).fB).fN) (((nth zQ z1h).fB).fD) (((nth zQ z1h).fR).fN) (((nth zQ z1h).fR).fD)) else zeu z3D z3E z3F z3G) else z6t z3D z3E z3F z3G
theorem y3g {n : Nat} {zQ : List z1} {z5e : z1 → z1 → Option Int} {z6t : Int → Int → Int → Int → Option z1} {z1h : Int} {z3D : Int} {z3E : Int} {z3F : Int} {z3G : Int} {r : z1} (h : yz zQ z5e z6t n z1h z3D z3E z3F z3G = some r) : ∃ m,n = m + 1:=by
  cases n with
  | zero=>cases h
  | succ m=>exact ⟨m,rfl⟩
def y1e (zQ : List z1) (z5e : z1 → z1 → Option Int) : Option z1 :=
  if decide (((zQ.length : Nat) : Int) < 1) then none else chk ((0 : Int) ≤ 0 ∧ 0 < ((zQ.length : Nat) : Int)) (jp4 (fun (z7D : Int) (z7E : Int) (z7F : Int) (z7G : Int)=>some (⟨(⟨z7D,z7E⟩ : z2),(⟨z7F,z7G⟩ : z2)⟩ : z1)) fun z6t=>yz zQ z5e z6t ys 1 (((nth zQ 0).fB).fN) (((nth zQ 0).fB).fD) (((nth zQ 0).fR).fN) (((nth zQ 0).fR).fD))
set_option maxRecDepth 20000 in
theorem y3V (Z : Zp) (zat : Option Addr) (zau : Nat) (z5E : FuncId) (z7H : List Value) (zQ : List z1) (z5e : z1 → z1 → Option Int) (r : z1)
     (h : y1e zQ z5e = some r) (w₀ : World) (hz : PZ [] w₀ Z)
     (zh1 : ZS Z 4 (fun r x=>r = e35 x) zat zau zQ)
     (zrE : ∀ args w,(callFunc z5E args).run Try.prog w = .ok (.enter z5E args) w)
     (zrF : ∀ w : World,PZ [] w Z → ∀ (x0 : z1) (x1 : z1) (r : Int),z5e x0 x1 = some r → Calls Try.prog z5E (([(.agg #[(.int .i64 x0.fB.fN),(.int .i64 x0.fB.fD),(.int .i64 x0.fR.fN),(.int .i64 x0.fR.fD)]),(.agg #[(.int .i64 x1.fB.fN),(.int .i64 x1.fB.fD),(.int .i64 x1.fR.fN),(.int .i64 x1.fR.fD)])] : List Value) ++ z7H).toArray w fun e w'=>e = .returned (.int .i64 r) ∧ Hp [] w w' []) :
    Calls Try.prog 42 #[(.slice zat zQ.length zau),(.func (.func z5E) #[] (z7H).toArray)] w₀ fun e w'=>e = .returned (.agg #[(.int .i64 r.fB.fN),(.int .i64 r.fB.fD),(.int .i64 r.fR.fN),(.int .i64 r.fR.fD)]) ∧ Hp [] w₀ w' []:=by
  unfold y1e at h
  refine Calls.yc (vs:=[(.slice zat zQ.length zau),(.func (.func z5E) #[] (z7H).toArray)]) (pre:=[]) (env:=[(0,(.slice zat zQ.length zau)),(1,(.func (.func z5E) #[] (z7H).toArray))]) Try.func42 rfl Try.ntmps42 rfl (Hp.nil w₀ _) rfl ?_
  refine WC.b (WC.a ?_)
  refine WL.new (dd:=4) rfl rfl rfl (yh (cs:=[(.int .i64 0),(.int .i64 0),(.int .i64 0),(.int .i64 0)]) y3D rfl) ?_
  intro zav _
  refine WL.nil (WX.a (WC.b (WC.b (WC.a (WL.pu rfl ?_)))))
  refine WL.a (d:=8) rfl rfl rfl (y1c Try.underlying39 rfl) ?_
  refine WL.pu rfl (WL.nil (WX.a ?_))
  refine WC.cond rfl (fun zh2=>?_) (fun zh2=>?_)
  · replace h:=ye h zh2
    cases h
  · replace h:=yf h zh2
    refine WC.skip (WX.a (WC.b ?_))
    obtain ⟨zrG,h⟩:=yk h
    refine WC.a (WL.pu rfl ?_)
    refine WL.znth (dd:=12) rfl rfl (Z:=Z) (Pr:=(fun r x=>r = e35 x)) y2d rfl rfl zh1 zrG ?_
    rintro zyx zyy zrH zyz rfl
    refine WL.a (d:=13) rfl rfl rfl (y7 y1x rfl (y2R hz.pv zrH) rfl) ?_
    refine WL.new (dd:=5) rfl rfl rfl (yh (cs:=[(.int .i64 0),(.int .i64 0),(.int .i64 0),(.int .i64 0)]) y3D rfl) ?_
    intro zaw _
    refine WL.ya rfl rfl (y9 y3M rfl rfl rfl .here rfl rfl rfl) ?_
    refine WL.nil (WX.a ?_)
    obtain ⟨z6t,zrI,h⟩:=y9k h
    refine WC.y4O (fun (z7D : Int) (z7E : Int) (z7F : Int) (z7G : Int)=>(z6t z7D z7E z7F z7G = some r)) (fun (z7D : Int) (z7E : Int) (z7F : Int) (z7G : Int)=>[(4,(.pointer (some ⟨zav,0,none⟩))),(5,(.pointer (some ⟨zaw,0,none⟩)))]) (fun (z7D : Int) (z7E : Int) (z7F : Int) (z7G : Int)=>[stb zav 35 [(.int .i64 0),(.int .i64 0),(.int .i64 0),(.int .i64 0)],stb zaw 35 [(.int .i64 z7D),(.int .i64 z7E),(.int .i64 z7F),(.int .i64 z7G)]]) ?_ ?_
    · skip
      refine WC.b (WC.a (WL.pu rfl (WL.nil (WX.a (WC.block ?_)))))
      refine WC.y4s (fun (zax : Nat) (z1h : Int) (z3D : Int) (z3E : Int) (z3F : Int) (z3G : Int)=>(yz zQ z5e z6t zax z1h z3D z3E z3F z3G = some r)) (fun (zax : Nat) (z1h : Int) (z3D : Int) (z3E : Int) (z3F : Int) (z3G : Int)=>[(0,(.slice zat zQ.length zau)),(1,(.func (.func z5E) #[] (z7H).toArray)),(4,(.pointer (some ⟨zav,0,none⟩))),(5,(.pointer (some ⟨zaw,0,none⟩))),(6,(.int .i64 z1h))]) (fun (zax : Nat) (z1h : Int) (z3D : Int) (z3E : Int) (z3F : Int) (z3G : Int)=>[stb zav 35 [(.int .i64 0),(.int .i64 0),(.int .i64 0),(.int .i64 0)],stb zaw 35 [(.int .i64 z3D),(.int .i64 z3E),(.int .i64 z3F),(.int .i64 z3G)]]) (fun (zax : Nat) (z1h : Int) (z3D : Int) (z3E : Int) (z3F : Int) (z3G : Int)=>zax) ⟨ys,1,(((nth zQ 0).fB).fN),(((nth zQ 0).fB).fD),(((nth zQ 0).fR).fN),(((nth zQ 0).fR).fD)⟩ h (.cons rfl (.cons rfl (.cons rfl (.cons rfl (.cons rfl .nil))))) (.cons .h1 (.cons .here .nil)) ?_
      rintro zax z1h z3D z3E z3F z3G h
      obtain ⟨zgZ,rfl⟩:=y3g h
      rw [yz] at h
      refine WC.b (WC.b (WC.a (WL.pu rfl (WL.pu rfl ?_))))
      refine WL.a (d:=16) rfl rfl rfl (y1c Try.underlying39 rfl) ?_
      refine WL.pu rfl (WL.nil (WX.a ?_))
      refine WC.cond rfl (fun zh3=>?_) (fun zh3=>?_)
      · replace h:=ye h zh3
        refine WC.skip (WX.a ?_)
        obtain ⟨zeu,zrJ,h⟩:=y9k h
        refine WC.y4O (fun (z6u : Int) (z6v : Int) (z6w : Int) (z6x : Int)=>(zeu z6u z6v z6w z6x = some r)) (fun (z6u : Int) (z6v : Int) (z6w : Int) (z6x : Int)=>[(0,(.slice zat zQ.length zau)),(1,(.func (.func z5E) #[] (z7H).toArray)),(4,(.pointer (some ⟨zav,0,none⟩))),(5,(.pointer (some ⟨zaw,0,none⟩))),(6,(.int .i64 z1h))]) (fun (z6u : Int) (z6v : Int) (z6w : Int) (z6x : Int)=>[stb zav 35 [(.int .i64 0),(.int .i64 0),(.int .i64 0),(.int .i64 0)],stb zaw 35 [(.int .i64 z6u),(.int .i64 z6v),(.int .i64 z6w),(.int .i64 z6x)]]) ?_ ?_
        · skip
          refine WC.block (WC.b ?_)
          obtain ⟨zrK,h⟩:=yk h
          obtain ⟨zh0,zrL,h⟩:=z8 h
          refine WC.y1g (fun i=>[].contains i) [] rfl ?_
          refine WD.a (i:=0) (d:=20) (by kernel_rfl) rfl (z6 (by kernel_rfl)) (z7 (by kernel_rfl)) rfl rfl rfl (fun _=>q_m rfl) ?_
          refine WD.a (i:=1) (d:=21) (by kernel_rfl) rfl (z6 (by kernel_rfl)) (z7 (by kernel_rfl)) rfl rfl rfl (fun _=>q_m rfl) ?_
          refine WD.a (i:=2) (d:=22) (by kernel_rfl) rfl (z6 (by kernel_rfl)) (z7 (by kernel_rfl)) rfl rfl rfl (fun _=>q_m rfl) ?_
          refine WD.znth (j:=3) (dd:=23) (by kernel_rfl) rfl (z6 (by kernel_rfl)) (z7 (by kernel_rfl)) rfl rfl (Z:=Z) (Pr:=(fun r x=>r = e35 x)) y2d rfl rfl zh1 zrK ?_
          rintro zyA zyB zrM zyC rfl
          refine WD.e (i:=4) (d:=24) (by kernel_rfl) rfl (z6 (by kernel_rfl)) (z7 (by kernel_rfl)) rfl rfl rfl (y7 y1x rfl (y2R hz.pv zrM) rfl) ?_
          refine WD.e (i:=5) (d:=25) (by kernel_rfl) rfl (z6 (by kernel_rfl)) (z7 (by kernel_rfl)) rfl rfl rfl (y7 y1x rfl (y6 .h1) rfl) ?_
          refine WD.c (i:=6) (d:=26) (by kernel_rfl) rfl (z6 (by kernel_rfl)) (z7 (by kernel_rfl)) rfl rfl rfl (y1R (l:=[.tmp 24,.tmp 25]) (f:=z5E) (caps:=z7H) zrE rfl (.cons rfl (.cons rfl .nil))) (fun w hw=>zrF w (hz.now hw) (⟨(⟨(((nth zQ z1h).fB).fN),(((nth zQ z1h).fB).fD)⟩ : z2),(⟨(((nth zQ z1h).fR).fN),(((nth zQ z1h).fR).fD)⟩ : z2)⟩ : z1) (⟨(⟨z3D,z3E⟩ : z2),(⟨z3F,z3G⟩ : z2)⟩ : z1) zh0  zrL) ?_
          refine WD.a (i:=7) (d:=27) (by kernel_rfl) rfl (z6 (by kernel_rfl)) (z7 (by kernel_rfl)) rfl rfl rfl (fun _=>y6q rfl rfl) ?_
          refine WD.done (by kernel_rfl) ?_
          refine WX.a ?_
          refine WC.cond rfl (fun zh4=>?_) (fun zh4=>?_)
          · replace h:=ye h zh4
            obtain ⟨zrN,h⟩:=yk h
            refine WC.a (WL.pu rfl (WL.pu rfl ?_))
            refine WL.znth (dd:=30) rfl rfl (Z:=Z) (Pr:=(fun r x=>r = e35 x)) y2d rfl rfl zh1 zrN ?_
            rintro zyD zyE zrO zyF rfl
            refine WL.a (d:=31) rfl rfl rfl (y7 y1x rfl (y2R hz.pv zrO) rfl) ?_
            refine WL.ya rfl rfl (y9 y3M rfl rfl rfl .h1 rfl rfl rfl) ?_
            refine WL.nil (WX.yg ?_)
            exact WX.mid (G:=Int × Int × Int × Int) ⟨(((nth zQ z1h).fB).fN),(((nth zQ z1h).fB).fD),(((nth zQ z1h).fR).fN),(((nth zQ z1h).fR).fD)⟩ h (.cons rfl (.cons rfl (.cons rfl (.cons rfl (.cons rfl .nil))))) (.cons .h1 (.cons .here .nil))
          · replace h:=yf h zh4
            refine WC.skip (WX.yg ?_)
            exact WX.mid (G:=Int × Int × Int × Int) ⟨z3D,z3E,z3F,z3G⟩ h (.cons rfl (.cons rfl (.cons rfl (.cons rfl (.cons rfl .nil))))) (.cons .here (.cons .here .nil))
        · rintro z6u z6v z6w z6x h
          replace h:=(zrJ z6u z6v z6w z6x).symm.trans h
          refine WC.a (WL.pu rfl (WL.pu rfl (WL.pu rfl (WL.nil ?_))))
          exact WX.round (G:=Nat × Int × Int × Int × Int × Int) ⟨zgZ,(i64 (z1h + 1)),z6u,z6v,z6w,z6x⟩ h (Nat.lt_succ_self _) (.cons rfl (.cons rfl (.cons rfl (.cons rfl (.cons rfl .nil))))) (.cons .here (.cons .here .nil))
      · replace h:=yf h zh3
        refine WC.exit (WX.yd (WX.yd (WX.yt ?_)))
        exact WX.mid (G:=Int × Int × Int × Int) ⟨z3D,z3E,z3F,z3G⟩ h (.cons rfl (.cons rfl .nil)) (.cons .here (.cons .here .nil))
    · rintro z7D z7E z7F z7G h
      replace h:=(zrI z7D z7E z7F z7G).symm.trans h
      refine WC.b (WC.a ?_)
      refine WL.a (d:=32) rfl rfl rfl (y7 y1x rfl (y6 .h1) rfl) ?_
      refine WL.ya rfl rfl (y9 y3M rfl rfl rfl .here rfl rfl rfl) ?_
      refine WL.nil (WX.a (WC.ret ?_))
      obtain rfl:=Option.some.inj h
      refine WX.y8 Try.results42 (.agg rfl y1x rfl (y6 .here) .nil) (fun w hw=>?_)
      exact ⟨yG rfl,hw.sub .nil⟩
def y2J (z7I : List z1) : Option (z2 × Int) :=
  (y2g z7I).bind fun zlH=>if !zlH then some ((⟨0,0⟩ : z2),2) else (y1e z7I (fun (y0 : z1) (y1 : z1)=>y26 y0 y1)).bind fun zev=>some (zev.fR,0)
set_option maxRecDepth 20000 in
theorem y7s (Z : Zp) (zew : Option Addr) (zex : Nat) (z7I : List z1) (r : z2 × Int)
     (h : y2J z7I = some r) (w₀ : World) (hz : PZ [] w₀ Z)
     (zlI : ZS Z 4 (fun r x=>r = e35 x) zew zex z7I) :
    Calls Try.prog 21 #[(.slice zew z7I.length zex)] w₀ fun e w'=>e = .returned (.tuple #[(.agg #[(.int .i64 r.1.fN),(.int .i64 r.1.fD)]),(.int .i64 r.2)]) ∧ Hp [] w₀ w' []:=by
  unfold y2J at h
  refine Calls.yc (vs:=[(.slice zew z7I.length zex)]) (pre:=[]) (env:=[(0,(.slice zew z7I.length zex))]) Try.func21 rfl Try.ntmps21 rfl (Hp.nil w₀ _) rfl ?_
  refine WC.b (WC.a ?_)
  refine WL.new (dd:=2) rfl rfl rfl (yh (cs:=[(.int .i64 0),(.int .i64 0)]) ym rfl) ?_
  intro zyG _
  refine WL.pu rfl (WL.nil (WX.a (WC.b (WC.b ?_))))
  obtain ⟨zlH,zrP,h⟩:=z8 h
  refine WC.a (WL.pu rfl ?_)
  refine WL.b (dd:=5) rfl rfl rfl (ze (l:=[.tmp 4]) Try.call30 (.cons rfl .nil)) .nil (cc hz .nil fun w pz ho=>y3J _ _ _ _ _ zrP w pz zlI) ?_
  refine WL.pu rfl (WL.nil (WX.a ?_))
  refine WC.cond rfl (fun zh5=>?_) (fun zh5=>?_)
  · replace h:=ye h zh5
    refine WC.b (WC.a ?_)
    refine WL.a (d:=7) rfl rfl rfl (yV (v:=(.agg #[(.int .i64 0),(.int .i64 0)])) (Eos.parts (l:=[]) .nil []) (fun _=>by kernel_rfl)) ?_
    refine WL.ya rfl rfl (y9 yj rfl rfl rfl .here rfl rfl rfl) ?_
    refine WL.pu rfl (WL.nil (WX.a (WC.ret (WX.y5 ?_))))
    obtain rfl:=Option.some.inj h
    refine WX.y8 Try.results21 (.agg rfl y4 rfl (y6 .here) (.tmp rfl .nil)) (fun w hw=>?_)
    exact ⟨y1H rfl rfl,hw.sub .nil⟩
  · replace h:=yf h zh5
    refine WC.skip (WX.a (WC.b ?_))
    obtain ⟨zev,zrQ,h⟩:=z8 h
    refine WC.a (WL.pu rfl ?_)
    refine WL.b (dd:=9) rfl rfl rfl (ze (l:=[.tmp 8,.func 43]) Try.call42 (.cons rfl (.cons rfl .nil))) .nil (cc hz .nil fun w pz ho=>y3V _ _ _ (z5E:=43) (z7H:=[]) _ (z5e:=(fun (y0 : z1) (y1 : z1)=>y26 y0 y1)) _ zrQ w pz zlI Try.call43 (fun w' hz' y0 y1  r  hr=>y8N _ _ _ _ hr w' hz' )) ?_
    refine WL.a (d:=10) rfl rfl rfl (q_fieldA (cs':=#[(.int .i64 zev.fR.fN),(.int .i64 zev.fR.fD)]) yaL y4 rfl rfl) ?_
    refine WL.ya rfl rfl (y9 yj rfl rfl rfl .here rfl rfl rfl) ?_
    refine WL.pu rfl (WL.nil (WX.a (WC.ret ?_)))
    obtain rfl:=Option.some.inj h
    refine WX.y8 Try.results21 (.agg rfl y4 rfl (y6 .here) (.tmp rfl .nil)) (fun w hw=>?_)
    exact ⟨y1H rfl rfl,hw.sub .nil⟩
def y5F (z94 : z2) (z95 : z2) : Option (Int × Int) :=
  some ((i64 ((i64 (z94.fN * z95.fD)) + (i64 (z95.fN * z94.fD)))),(i64 (z94.fD * z95.fD)))
set_option maxRecDepth 20000 in
theorem yat (Z : Zp) (zey : Addr) (zez : Addr) (z94 : z2) (z95 : z2) (r : Int × Int)
     (h : y5F z94 z95 = some r) (w₀ : World) (hz : PZ [] w₀ Z)
     (zh6 : ZC Z zey [(.int .i64 z94.fN),(.int .i64 z94.fD)])
     (zh7 : ZC Z zez [(.int .i64 z95.fN),(.int .i64 z95.fD)]) :
    Calls Try.prog 54 #[(.pointer (some zey)),(.pointer (some zez))] w₀ fun e w'=>e = .returned (.tuple #[(.int .i64 r.1),(.int .i64 r.2)]) ∧ Hp [] w₀ w' []:=by
  unfold y5F at h
  refine Calls.yc (vs:=[(.pointer (some zey)),(.pointer (some zez))]) (pre:=[]) (env:=[(0,(.pointer (some zey))),(1,(.pointer (some zez)))]) Try.func54 rfl Try.ntmps54 rfl (Hp.nil w₀ _) rfl ?_
  refine WC.b (WC.a (WL.pu rfl (WL.pu rfl (WL.nil (WX.a (WC.b ?_))))))
  refine WC.y1g (fun i=>[].contains i) [] rfl ?_
  refine WD.a (i:=0) (d:=4) (by kernel_rfl) rfl (z6 (by kernel_rfl)) (z7 (by kernel_rfl)) rfl rfl rfl (fun _=>y3 y1K rfl rfl) ?_
  refine WD.e (i:=1) (d:=5) (by kernel_rfl) rfl (z6 (by kernel_rfl)) (z7 (by kernel_rfl)) rfl rfl rfl (yb yu rfl (y1I hz.pv zh6 rfl)) ?_
  refine WD.a (i:=2) (d:=6) (by kernel_rfl) rfl (z6 (by kernel_rfl)) (z7 (by kernel_rfl)) rfl rfl rfl (fun _=>y3 y1W rfl rfl) ?_
  refine WD.e (i:=3) (d:=7) (by kernel_rfl) rfl (z6 (by kernel_rfl)) (z7 (by kernel_rfl)) rfl rfl rfl (yb yu rfl (y1I hz.pv zh7 rfl)) ?_
  refine WD.a (i:=4) (d:=8) (by kernel_rfl) rfl (z6 (by kernel_rfl)) (z7 (by kernel_rfl)) rfl rfl rfl (fun _=>y44 rfl rfl rfl) ?_
  refine WD.a (i:=5) (d:=9) (by kernel_rfl) rfl (z6 (by kernel_rfl)) (z7 (by kernel_rfl)) rfl rfl rfl (fun _=>y3 y1K rfl rfl) ?_
  refine WD.e (i:=6) (d:=10) (by kernel_rfl) rfl (z6 (by kernel_rfl)) (z7 (by kernel_rfl)) rfl rfl rfl (yb yu rfl (y1I hz.pv zh7 rfl)) ?_
  refine WD.a (i:=7) (d:=11) (by kernel_rfl) rfl (z6 (by kernel_rfl)) (z7 (by kernel_rfl)) rfl rfl rfl (fun _=>y3 y1W rfl rfl) ?_
  refine WD.e (i:=8) (d:=12) (by kernel_rfl) rfl (z6 (by kernel_rfl)) (z7 (by kernel_rfl)) rfl rfl rfl (yb yu rfl (y1I hz.pv zh6 rfl)) ?_
  refine WD.a (i:=9) (d:=13) (by kernel_rfl) rfl (z6 (by kernel_rfl)) (z7 (by kernel_rfl)) rfl rfl rfl (fun _=>y44 rfl rfl rfl) ?_
  refine WD.a (i:=10) (d:=14) (by kernel_rfl) rfl (z6 (by kernel_rfl)) (z7 (by kernel_rfl)) rfl rfl rfl (fun _=>y5y rfl rfl rfl) ?_
  refine WD.a (i:=11) (d:=15) (by kernel_rfl) rfl (z6 (by kernel_rfl)) (z7 (by kernel_rfl)) rfl rfl rfl (fun _=>y3 y1W rfl rfl) ?_
  refine WD.e (i:=12) (d:=16) (by kernel_rfl) rfl (z6 (by kernel_rfl)) (z7 (by kernel_rfl)) rfl rfl rfl (yb yu rfl (y1I hz.pv zh6 rfl)) ?_
  refine WD.a (i:=13) (d:=17) (by kernel_rfl) rfl (z6 (by kernel_rfl)) (z7 (by kernel_rfl)) rfl rfl rfl (fun _=>y3 y1W rfl rfl) ?_
  refine WD.e (i:=14) (d:=18) (by kernel_rfl) rfl (z6 (by kernel_rfl)) (z7 (by kernel_rfl)) rfl rfl rfl (yb yu rfl (y1I hz.pv zh7 rfl)) ?_
  refine WD.a (i:=15) (d:=19) (by kernel_rfl) rfl (z6 (by kernel_rfl)) (z7 (by kernel_rfl)) rfl rfl rfl (fun _=>y44 rfl rfl rfl) ?_
  refine WD.a (i:=16) (d:=2) (by kernel_rfl) rfl (z6 (by kernel_rfl)) (z7 (by kernel_rfl)) rfl rfl rfl (fun _=>q_z rfl) ?_
  refine WD.a (i:=17) (d:=3) (by kernel_rfl) rfl (z6 (by kernel_rfl)) (z7 (by kernel_rfl)) rfl rfl rfl (fun _=>q_z rfl) ?_
  refine WD.done (by kernel_rfl) ?_
  refine WX.a (WC.ret ?_)
  obtain rfl:=Option.some.inj h
  refine WX.y8 Try.results54 (.tmp rfl (.tmp rfl .nil)) (fun w hw=>?_)
  exact ⟨y1H rfl rfl,hw.sub .nil⟩
def y6v (z4H : z2) (z4I : z2) : Option (z2 × Int) :=
  (y1f z4H).bind fun zlJ=>(if !zlJ then some true else (y1f z4I).bind fun zlK=>some (!zlK)).bind fun zeA=>if zeA then some ((⟨0,0⟩ : z2),2) else (y5F z4H z4I).bind fun zh8=>(y1U zh8.1 zh8.2).bind fun zh9=>some (zh9.1,zh9.2)
set_option maxRecDepth 20000 in
theorem yaN (Z : Zp)  (z4H : z2) (z4I : z2) (r : z2 × Int)
     (h : y6v z4H z4I = some r) (w₀ : World) (hz : PZ [] w₀ Z) :
    Calls Try.prog 40 #[(.string ⟨#[43]⟩),(.agg #[(.int .i64 z4H.fN),(.int .i64 z4H.fD)]),(.agg #[(.int .i64 z4I.fN),(.int .i64 z4I.fD)])] w₀ fun e w'=>e = .returned (.tuple #[(.agg #[(.int .i64 r.1.fN),(.int .i64 r.1.fD)]),(.int .i64 r.2)]) ∧ Hp [] w₀ w' []:=by
  unfold y6v at h
  refine Calls.yc (vs:=[(.string ⟨#[43]⟩),(.agg #[(.int .i64 z4H.fN),(.int .i64 z4H.fD)]),(.agg #[(.int .i64 z4I.fN),(.int .i64 z4I.fD)])]) (pre:=[]) (env:=[(0,(.string ⟨#[43]⟩)),(1,(.agg #[(.int .i64 z4H.fN),(.int .i64 z4H.fD)])),(2,(.agg #[(.int .i64 z4I.fN),(.int .i64 z4I.fD)]))]) Try.func40 rfl Try.ntmps40 rfl (Hp.nil w₀ _) rfl ?_
  refine WC.b (WC.a ?_)
  refine WL.new (dd:=4) rfl rfl rfl (yI (cs:=[(.int .i64 z4H.fN),(.int .i64 z4H.fD)]) rfl rfl) ?_
  intro zcm _
  refine WL.new (dd:=5) rfl rfl rfl (yI (cs:=[(.int .i64 z4I.fN),(.int .i64 z4I.fD)]) rfl rfl) ?_
  intro zcn _
  refine WL.new (dd:=6) rfl rfl rfl (yh (cs:=[(.int .i64 0),(.int .i64 0)]) ym rfl) ?_
  intro zyH _
  refine WL.pu rfl (WL.nil (WX.a (WC.b (WC.b ?_))))
  obtain ⟨zlJ,zrR,h⟩:=z8 h
  obtain ⟨zeA,zlL,h⟩:=z8 h
  refine WC.a ?_
  refine WL.a (d:=9) rfl rfl rfl (y7 y4 rfl (y6 .h2) rfl) ?_
  refine WL.b (dd:=10) rfl rfl rfl (ze (l:=[.tmp 9]) Try.call39 (.cons rfl .nil)) .nil (cc hz .nil fun w pz ho=>y1A _ _ _ zrR w pz ) ?_
  refine WL.pu rfl (WL.pu rfl ?_)
  refine WL.seg false 3 12 (B:=zeA) rfl rfl rfl rfl rfl rfl (fun h=>(Option.some.inj (ye zlL h)).symm) (fun _ zrS=>?_) ?_
  · skip
    have zco:=yf zlL zrS
    obtain ⟨zlK,zrT,zco⟩:=z8 zco
    replace zco:=Option.some.inj zco
    refine WL.a (d:=13) rfl rfl rfl (y7 y4 rfl (y6 .h1) rfl) ?_
    refine WL.b (dd:=14) rfl rfl rfl (ze (l:=[.tmp 13]) Try.call39 (.cons rfl .nil)) .nil (cc hz .nil fun w pz ho=>y1A _ _ _ zrT w pz ) ?_
    refine WL.pu rfl (WL.pu rfl ?_)
    exact WL.yy zco rfl rfl .all
  refine WL.pu rfl ?_
  refine WL.seg false 7 17 (B:=zeA) rfl rfl rfl rfl rfl rfl (fun h=>h) (fun _ zrU=>?_) ?_
  · skip
    refine WL.pu rfl ?_
    refine WL.a (d:=19) rfl rfl rfl (y7I (r:=false) (by decide) rfl rfl) ?_
    refine WL.pu rfl (WL.e rfl rfl rfl (WL.e rfl rfl rfl (WL.e rfl rfl rfl (WL.pu rfl (WL.pu rfl ?_)))))
    exact WL.yy (Eq.symm zrU) rfl rfl .all
  refine WL.nil (WX.a ?_)
  refine WC.cond rfl (fun zha=>?_) (fun zha=>?_)
  · replace h:=ye h zha
    refine WC.b (WC.a ?_)
    refine WL.a (d:=26) rfl rfl rfl (yV (v:=(.agg #[(.int .i64 0),(.int .i64 0)])) (Eos.parts (l:=[]) .nil []) (fun _=>by kernel_rfl)) ?_
    refine WL.ya rfl rfl (y9 yj rfl rfl rfl .here rfl rfl rfl) ?_
    refine WL.pu rfl (WL.nil (WX.a (WC.ret (WX.y5 ?_))))
    obtain rfl:=Option.some.inj h
    refine WX.y8 Try.results40 (.agg rfl y4 rfl (y6 .here) (.tmp rfl .nil)) (fun w hw=>?_)
    exact ⟨y1H rfl rfl,hw.sub .nil⟩
  · replace h:=yf h zha
    refine WC.skip (WX.a (WC.b (WC.a ?_)))
    refine WL.new (dd:=27) rfl rfl rfl (y6t Value.string (fun x=>x)) ?_
    intro zyI _
    refine WL.a (d:=28) rfl rfl rfl (y1b (Eos.caps (l:=[.tmp 4,.tmp 5]) (.cons rfl (.cons rfl .nil)))) ?_
    refine WL.ya rfl rfl (y29 (k:=⟨#[43]⟩) (v:=(.func (.func 54) #[] #[(.pointer (some ⟨zcm,0,none⟩)),(.pointer (some ⟨zcn,0,none⟩))])) y2m Try.underlying105 rfl rfl rfl rfl .here) ?_
    refine WL.a (d:=29) rfl rfl rfl (y1b (Eos.caps (l:=[.tmp 4,.tmp 5]) (.cons rfl (.cons rfl .nil)))) ?_
    refine WL.ya rfl rfl (y29 (k:=⟨#[45]⟩) (v:=(.func (.func 55) #[] #[(.pointer (some ⟨zcm,0,none⟩)),(.pointer (some ⟨zcn,0,none⟩))])) y2m Try.underlying105 rfl rfl rfl rfl .here) ?_
    refine WL.a (d:=30) rfl rfl rfl (y1b (Eos.caps (l:=[.tmp 4,.tmp 5]) (.cons rfl (.cons rfl .nil)))) ?_
    refine WL.ya rfl rfl (y29 (k:=⟨#[42]⟩) (v:=(.func (.func 56) #[] #[(.pointer (some ⟨zcm,0,none⟩)),(.pointer (some ⟨zcn,0,none⟩))])) y2m Try.underlying105 rfl rfl rfl rfl .here) ?_
    refine WL.a (d:=31) rfl rfl rfl (y1b (Eos.caps (l:=[.tmp 4,.tmp 5]) (.cons rfl (.cons rfl .nil)))) ?_
    refine WL.ya rfl rfl (y29 (k:=⟨#[47]⟩) (v:=(.func (.func 57) #[] #[(.pointer (some ⟨zcm,0,none⟩)),(.pointer (some ⟨zcn,0,none⟩))])) y2m Try.underlying105 rfl rfl rfl rfl .here) ?_
    refine WL.pu rfl (WL.pu rfl (WL.nil (WX.a (WC.b ?_))))
    obtain ⟨zh8,zrV,h⟩:=z8 h
    obtain ⟨zh9,zrW,h⟩:=z8 h
    refine WC.a (WL.pu rfl (WL.pu rfl ?_))
    refine WL.a (d:=35) rfl rfl rfl (y7H (k:=⟨#[43]⟩) (dflt:=.nilFunc) (r:=(.func (.func 54) #[] #[(.pointer (some ⟨zcm,0,none⟩)),(.pointer (some ⟨zcn,0,none⟩))])) y2m Try.underlying105 zdQ rfl rfl rfl .here (by rfl)) ?_
    refine WL.b (dd:=36) rfl rfl rfl (y1R (l:=[]) Try.call54 rfl .nil) .nil (ccl hz .nil (.cons .h3 (.cons .h2 .nil)) fun w pz ho la=>yat _ _ _ _ _ _ zrV w pz ((la _ (.head _) _).stb) ((la _ (.tail _ (.head _)) _).stb)) ?_
    refine WL.pu rfl (WL.pu rfl ?_)
    refine WL.b (dd:=39) rfl rfl rfl (ze (l:=[.tmp 37,.tmp 38]) Try.call9 (.cons rfl (.cons rfl .nil))) .nil (cc hz .nil fun w pz ho=>y3e _ _ _ _ zrW w pz ) ?_
    refine WL.pu rfl (WL.pu rfl ?_)
    refine WL.ya rfl rfl (y9 yj rfl rfl rfl .h1 rfl rfl rfl) ?_
    refine WL.pu rfl (WL.nil (WX.a (WC.ret ?_)))
    obtain rfl:=Option.some.inj h
    refine WX.y8 Try.results40 (.agg rfl y4 rfl (y6 .here) (.tmp rfl .nil)) (fun w hw=>?_)
    exact ⟨y1H rfl rfl,hw.sub .nil⟩
def y1C (z5f : z2) (z5g : z2) : Option (z2 × Int) :=
  (y6v z5f z5g).bind fun zhb=>some (zhb.1,zhb.2)
set_option maxRecDepth 20000 in
theorem y5k (Z : Zp)  (z5f : z2) (z5g : z2) (r : z2 × Int)
     (h : y1C z5f z5g = some r) (w₀ : World) (hz : PZ [] w₀ Z) :
    Calls Try.prog 19 #[(.agg #[(.int .i64 z5f.fN),(.int .i64 z5f.fD)]),(.agg #[(.int .i64 z5g.fN),(.int .i64 z5g.fD)])] w₀ fun e w'=>e = .returned (.tuple #[(.agg #[(.int .i64 r.1.fN),(.int .i64 r.1.fD)]),(.int .i64 r.2)]) ∧ Hp [] w₀ w' []:=by
  unfold y1C at h
  refine Calls.yc (vs:=[(.agg #[(.int .i64 z5f.fN),(.int .i64 z5f.fD)]),(.agg #[(.int .i64 z5g.fN),(.int .i64 z5g.fD)])]) (pre:=[]) (env:=[(0,(.agg #[(.int .i64 z5f.fN),(.int .i64 z5f.fD)])),(1,(.agg #[(.int .i64 z5g.fN),(.int .i64 z5g.fD)]))]) Try.func19 rfl Try.ntmps19 rfl (Hp.nil w₀ _) rfl ?_
  refine WC.b (WC.a ?_)
  refine WL.new (dd:=2) rfl rfl rfl (yI (cs:=[(.int .i64 z5f.fN),(.int .i64 z5f.fD)]) rfl rfl) ?_
  intro zyJ _
  refine WL.new (dd:=3) rfl rfl rfl (yI (cs:=[(.int .i64 z5g.fN),(.int .i64 z5g.fD)]) rfl rfl) ?_
  intro zyK _
  refine WL.new (dd:=4) rfl rfl rfl (yh (cs:=[(.int .i64 0),(.int .i64 0)]) ym rfl) ?_
  intro zyL _
  refine WL.pu rfl (WL.nil (WX.a (WC.b ?_)))
  obtain ⟨zhb,zrX,h⟩:=z8 h
  refine WC.a ?_
  refine WL.a (d:=6) rfl rfl rfl (y7 y4 rfl (y6 .h2) rfl) ?_
  refine WL.a (d:=7) rfl rfl rfl (y7 y4 rfl (y6 .h1) rfl) ?_
  refine WL.b (dd:=8) rfl rfl rfl (ze (l:=[.const (.string ⟨#[43]⟩),.tmp 6,.tmp 7]) Try.call40 (.cons rfl (.cons rfl (.cons rfl .nil)))) .nil (cc hz .nil fun w pz ho=>yaN _ _ _ _ zrX w pz ) ?_
  refine WL.pu rfl (WL.pu rfl ?_)
  refine WL.ya rfl rfl (y9 yj rfl rfl rfl .here rfl rfl rfl) ?_
  refine WL.pu rfl (WL.nil (WX.a (WC.ret ?_)))
  obtain rfl:=Option.some.inj h
  refine WX.y8 Try.results19 (.agg rfl y4 rfl (y6 .here) (.tmp rfl .nil)) (fun w hw=>?_)
  exact ⟨y1H rfl rfl,hw.sub .nil⟩
def y10 (z6y : zX) (z4f : z2 → z2 → Option (z2 × Int)) (z4J : z2) (z4K : z2) : Option (z2 × zX) :=
  if decide (z6y.fE ≠ 0) then (y1E).bind fun zlM=>some (zlM,z6y) else (z4f z4J z4K).bind fun zay=>if decide (zay.2 ≠ 0) then (y1E).bind fun zlN=>some (zlN,(⟨zay.2⟩ : zX)) else some (zay.1,(⟨zay.2⟩ : zX))
set_option maxRecDepth 20000 in
theorem y1z (Z : Zp) (z6z : Nat) (z3m : FuncId) (z3U : List Value) (z6y : zX) (z4f : z2 → z2 → Option (z2 × Int)) (z4J : z2) (z4K : z2) (r : z2 × zX)
     (h : y10 z6y z4f z4J z4K = some r) (w₀ : World) (hz : PZ (fps [stb z6z 98 [(.int .i64 z6y.fE)]]) w₀ Z)
     (zrY : ∀ args w,(callFunc z3m args).run Try.prog w = .ok (.enter z3m args) w)
     (zrZ : ∀ w : World,PZ [] w Z → ∀ (x0 : z2) (x1 : z2) (r : z2 × Int),z4f x0 x1 = some r → Calls Try.prog z3m (([(.agg #[(.int .i64 x0.fN),(.int .i64 x0.fD)]),(.agg #[(.int .i64 x1.fN),(.int .i64 x1.fD)])] : List Value) ++ z3U).toArray w fun e w'=>e = .returned (.tuple #[(.agg #[(.int .i64 r.1.fN),(.int .i64 r.1.fD)]),(.int .i64 r.2)]) ∧ Hp [] w w' [])
    (hown : Hp (fps [stb z6z 98 [(.int .i64 z6y.fE)]]) w₀ w₀ [stb z6z 98 [(.int .i64 z6y.fE)]]) :
    Calls Try.prog 33 #[(.pointer (some ⟨z6z,0,none⟩)),(.func (.func z3m) #[] (z3U).toArray),(.agg #[(.int .i64 z4J.fN),(.int .i64 z4J.fD)]),(.agg #[(.int .i64 z4K.fN),(.int .i64 z4K.fD)])] w₀ fun e w'=>e = .returned (.agg #[(.int .i64 r.1.fN),(.int .i64 r.1.fD)]) ∧ Hp (fps [stb z6z 98 [(.int .i64 z6y.fE)]]) w₀ w' [stb z6z 98 [(.int .i64 r.2.fE)]]:=by
  unfold y10 at h
  refine Calls.yc (vs:=[(.pointer (some ⟨z6z,0,none⟩)),(.func (.func z3m) #[] (z3U).toArray),(.agg #[(.int .i64 z4J.fN),(.int .i64 z4J.fD)]),(.agg #[(.int .i64 z4K.fN),(.int .i64 z4K.fD)])]) (pre:=[stb z6z 98 [(.int .i64 z6y.fE)]]) (env:=[(0,(.pointer (some ⟨z6z,0,none⟩))),(1,(.func (.func z3m) #[] (z3U).toArray)),(2,(.agg #[(.int .i64 z4J.fN),(.int .i64 z4J.fD)])),(3,(.agg #[(.int .i64 z4K.fN),(.int .i64 z4K.fD)]))]) Try.func33 rfl Try.ntmps33 rfl (hown) rfl ?_
  refine WC.b (WC.a ?_)
  refine WL.new (dd:=6) rfl rfl rfl (yI (cs:=[(.int .i64 z4J.fN),(.int .i64 z4J.fD)]) rfl rfl) ?_
  intro zyM _
  refine WL.new (dd:=7) rfl rfl rfl (yI (cs:=[(.int .i64 z4K.fN),(.int .i64 z4K.fD)]) rfl rfl) ?_
  intro zyN _
  refine WL.new (dd:=8) rfl rfl rfl (yh (cs:=[(.int .i64 0),(.int .i64 0)]) ym rfl) ?_
  intro zyO _
  refine WL.nil (WX.a (WC.b (WC.b (WC.a (WL.pu rfl ?_)))))
  refine WL.a (d:=12) rfl rfl rfl (y43 rfl) ?_
  refine WL.a (d:=13) rfl rfl rfl (y3 y33 rfl rfl) ?_
  refine WL.a (d:=14) rfl rfl rfl (yb y2B rfl (yq .h3 rfl)) ?_
  refine WL.pu rfl (WL.nil (WX.a ?_))
  refine WC.cond rfl (fun zhc=>?_) (fun zhc=>?_)
  · replace h:=ye h zhc
    refine WC.b ?_
    obtain ⟨zlM,zs0,h⟩:=z8 h
    refine WC.a ?_
    refine WL.b (dd:=16) rfl rfl rfl (ze (l:=[]) Try.call51 .nil) .nil (cc hz .nil fun w pz ho=>y2t _ _ zs0 w pz ) ?_
    refine WL.ya rfl rfl (y9 yj rfl rfl rfl .here rfl rfl rfl) ?_
    refine WL.nil (WX.a (WC.ret (WX.y5 ?_)))
    obtain rfl:=Option.some.inj h
    refine WX.y8 Try.results33 (.agg rfl y4 rfl (y6 .here) .nil) (fun w hw=>?_)
    exact ⟨yG rfl,hw.sub (.cons .h3 .nil)⟩
  · replace h:=yf h zhc
    refine WC.skip (WX.a (WC.b ?_))
    obtain ⟨zay,zs1,h⟩:=z8 h
    refine WC.a (WL.pu rfl ?_)
    refine WL.a (d:=19) rfl rfl rfl (y7 y4 rfl (y6 .h2) rfl) ?_
    refine WL.a (d:=20) rfl rfl rfl (y7 y4 rfl (y6 .h1) rfl) ?_
    refine WL.b (dd:=21) rfl rfl rfl (y1R (l:=[.tmp 19,.tmp 20]) (f:=z3m) (caps:=z3U) zrY rfl (.cons rfl (.cons rfl .nil))) .nil (fun w hw=>zrZ w (hz.now hw) z4J z4K zay  zs1) ?_
    refine WL.pu rfl (WL.pu rfl (WL.pu rfl ?_))
    refine WL.new (dd:=9) rfl rfl rfl (yh (cs:=[(.int .i64 0),(.int .i64 0)]) ym rfl) ?_
    intro zyP _
    refine WL.ya rfl rfl (y9 yj rfl rfl rfl .here rfl rfl rfl) ?_
    refine WL.pu rfl (WL.nil (WX.a (WC.b (WC.b (WC.a (WL.pu rfl (WL.pu rfl ?_)))))))
    refine WL.a (d:=26) rfl rfl rfl (y43 rfl) ?_
    refine WL.a (d:=27) rfl rfl rfl (y3 y33 rfl rfl) ?_
    refine WL.ya rfl rfl (y9 y8J rfl rfl rfl .h4 rfl rfl rfl) ?_
    refine WL.nil (WX.a (WC.b (WC.a (WL.pu rfl (WL.pu rfl (WL.nil (WX.a ?_)))))))
    refine WC.cond rfl (fun zhd=>?_) (fun zhd=>?_)
    · replace h:=ye h zhd
      refine WC.b ?_
      obtain ⟨zlN,zs2,h⟩:=z8 h
      refine WC.a ?_
      refine WL.b (dd:=30) rfl rfl rfl (ze (l:=[]) Try.call51 .nil) .nil (cc hz .nil fun w pz ho=>y2t _ _ zs2 w pz ) ?_
      refine WL.ya rfl rfl (y9 yj rfl rfl rfl .h2 rfl rfl rfl) ?_
      refine WL.nil (WX.a (WC.ret (WX.y5 ?_)))
      obtain rfl:=Option.some.inj h
      refine WX.y8 Try.results33 (.agg rfl y4 rfl (y6 .here) .nil) (fun w hw=>?_)
      exact ⟨yG rfl,hw.sub (.cons .h1 .nil)⟩
    · replace h:=yf h zhd
      refine WC.skip (WX.a (WC.b (WC.a ?_)))
      refine WL.a (d:=31) rfl rfl rfl (y7 y4 rfl (y6 .h1) rfl) ?_
      refine WL.ya rfl rfl (y9 yj rfl rfl rfl .h2 rfl rfl rfl) ?_
      refine WL.nil (WX.a (WC.ret ?_))
      obtain rfl:=Option.some.inj h
      refine WX.y8 Try.results33 (.agg rfl y4 rfl (y6 .here) .nil) (fun w hw=>?_)
      exact ⟨yG rfl,hw.sub (.cons .h1 .nil)⟩
def y17 (z1V : List (List z1)) (z6A : Int → Int → Int → Option Int) : Nat → Int → Int → Int → Int → Option Int
  | 0,_,_,_,_=>none
  | zhe + 1,z3n,z4L,z4M,z4N=>if decide (z3n < ((z1V.length : Nat) : Int)) then chk ((0 : Int) ≤ z3n ∧ z3n < ((z1V.length : Nat) : Int)) ((yB (nth z1V z3n)).bind fun zhf=>if decide (zhf.2 ≠ 0) then some zhf.2 else (y2J (nth z1V z3n)).bind fun zlO=>(y10 (⟨z4L⟩ : zX) (fun (y0 : z2) (y1 : z2)=>y1C y0 y1) (⟨z4M,z4N⟩ : z2) zlO.1).bind fun z96=>y17 z1V z6A zhe (i64 (z3n + 1)) z96.2.fE z96.1.fN z96.1.fD) else z6A z4L z4M z4N
theorem y4K {n : Nat} {z1V : List (List z1)} {z6A : Int → Int → Int → Option Int} {z3n : Int} {z4L : Int} {z4M : Int} {z4N : Int} {r : Int} (h : y17 z1V z6A n z3n z4L z4M z4N = some r) : ∃ m,n = m + 1:=by
  cases n with
  | zero=>cases h
  | succ m=>exact ⟨m,rfl⟩
def y28 (z1V : List (List z1)) (z1e : zSv) (zeB : List (List z1)) (zaz : zSv) (z6B : List z2) : Option Int :=
  (if decide (((z1V.length : Nat) : Int) > 32) then some true else (yM z1V (fun (y0 : List z1)=>yx y0)).bind fun zlP=>some zlP).bind fun zhg=>(if zhg then some true else (y2E z1e).bind fun zlQ=>some (!zlQ)).bind fun zhh=>if zhh then some 2 else (y1E).bind fun zcp=>jp3 (fun (z6C : Int) (z7J : Int) (z7K : Int)=>(if decide (z6C = 0) then (yQ (⟨z7J,z7K⟩ : z2) z1e.fR).bind fun zlR=>some (decide (zlR > 0)) else some false).bind fun zhi=>if zhi then some 6 else some z6C) fun z6A=>y17 z1V z6A ys 0 0 zcp.fN zcp.fD
set_option maxRecDepth 20000 in
theorem y6o (Z : Zp) (z7L : Option Addr) (z7M : Nat) (z97 : Addr) (zlS : Option Addr) (zlT : Nat) (z98 : Addr) (z99 : Option Addr) (z9a : Nat) (z1V : List (List z1)) (z1e : zSv) (zeB : List (List z1)) (zaz : zSv) (z6B : List z2) (r : Int)
     (h : y28 z1V z1e zeB zaz z6B = some r) (w₀ : World) (hz : PZ [] w₀ Z)
     (zlU : ZS Z 1 (p39 Z) z7L z7M z1V)
     (zyQ : ZS Z 1 (p39 Z) zlS zlT zeB)
     (zyR : ZC Z z97 [(.slice zlS zeB.length zlT)])
     (zyS : ZC Z z98 [(.int .i64 zaz.fR.fN),(.int .i64 zaz.fR.fD),(.int .i64 zaz.fLatency.fN),(.int .i64 zaz.fLatency.fD)])
     (zyT : ZS Z 2 (fun r x=>r = e30 x) z99 z9a z6B) :
    Calls Try.prog 52 #[(.agg #[(.slice z7L z1V.length z7M),(.int .i64 z1e.fR.fN),(.int .i64 z1e.fR.fD),(.int .i64 z1e.fLatency.fN),(.int .i64 z1e.fLatency.fD),(.func (.func 32) #[] #[(.pointer (some z97)),(.pointer (some z98))]),(.slice z99 z6B.length z9a)])] w₀ fun e w'=>∃ Zn : Zp,e = .returned (.int .i64 r) ∧ True ∧ Hp [] w₀ w' [fz Zn]:=by
  unfold y28 at h
  refine Calls.yc (vs:=[(.agg #[(.slice z7L z1V.length z7M),(.int .i64 z1e.fR.fN),(.int .i64 z1e.fR.fD),(.int .i64 z1e.fLatency.fN),(.int .i64 z1e.fLatency.fD),(.func (.func 32) #[] #[(.pointer (some z97)),(.pointer (some z98))]),(.slice z99 z6B.length z9a)])]) (pre:=[]) (env:=[(0,(.agg #[(.slice z7L z1V.length z7M),(.int .i64 z1e.fR.fN),(.int .i64 z1e.fR.fD),(.int .i64 z1e.fLatency.fN),(.int .i64 z1e.fLatency.fD),(.func (.func 32) #[] #[(.pointer (some z97)),(.pointer (some z98))]),(.slice z99 z6B.length z9a)]))]) Try.func52 rfl Try.ntmps52 rfl (Hp.nil w₀ _) rfl ?_
  refine WC.pool (WC.b (WC.a ?_))
  refine WL.new (dd:=1) rfl rfl rfl (yI (cs:=[(.slice z7L z1V.length z7M),(.int .i64 z1e.fR.fN),(.int .i64 z1e.fR.fD),(.int .i64 z1e.fLatency.fN),(.int .i64 z1e.fLatency.fD),(.func (.func 32) #[] #[(.pointer (some z97)),(.pointer (some z98))]),(.slice z99 z6B.length z9a)]) rfl rfl) ?_
  intro zeC _
  refine WL.pu rfl (WL.nil (WX.a (WC.b (WC.b ?_))))
  obtain ⟨zhg,zlV,h⟩:=z8 h
  obtain ⟨zhh,zlW,h⟩:=z8 h
  refine WC.a ?_
  refine WL.a (d:=11) rfl rfl rfl (y3 y4C rfl rfl) ?_
  refine WL.a (d:=12) rfl rfl rfl (yb y2L rfl (yq .here rfl)) ?_
  refine WL.a (d:=13) rfl rfl rfl (y1c Try.underlying26 rfl) ?_
  refine WL.pu rfl (WL.pu rfl ?_)
  refine WL.seg false 3 15 (B:=zhg) rfl rfl rfl rfl rfl rfl (fun h=>(Option.some.inj (ye zlV h)).symm) (fun _ zs3=>?_) ?_
  · skip
    have zcq:=yf zlV zs3
    obtain ⟨zlP,zs4,zcq⟩:=z8 zcq
    replace zcq:=Option.some.inj zcq
    refine WL.a (d:=16) rfl rfl rfl (y3 y4C rfl rfl) ?_
    refine WL.a (d:=17) rfl rfl rfl (yb y2L rfl (yq .here rfl)) ?_
    refine WL.b (dd:=18) rfl rfl rfl (ze (l:=[.tmp 17,.func 67]) Try.call66 (.cons rfl (.cons rfl .nil))) .nil (ccz hz .nil .h1 fun w pz ho=>y2q _ _ _ (z6c:=67) (z8J:=[]) _ (z8I:=(fun (y0 : List z1)=>yx y0)) _ zs4 w pz ((zlU.mono (Zle.left _ _)).weak (fun _ _ h=>yo (Zle.left _ _) h)) Try.call67 (fun w' hz' y0 ga0 gc0 r gh0 hr=>y3U _ _ _ _ _ hr w' hz' gh0)) ?_
    refine WL.pu rfl ?_
    exact WL.yy zcq rfl rfl .all
  refine WL.pu rfl ?_
  refine WL.seg false 4 20 (B:=zhh) rfl rfl rfl rfl rfl rfl (fun h=>(Option.some.inj (ye zlW h)).symm) (fun _ zs5=>?_) ?_
  · skip
    have zcr:=yf zlW zs5
    obtain ⟨zlQ,zs6,zcr⟩:=z8 zcr
    replace zcr:=Option.some.inj zcr
    refine WL.a (d:=21) rfl rfl rfl (y3 y7M rfl rfl) ?_
    refine WL.a (d:=22) rfl rfl rfl (yv (cs:=[(.int .i64 z1e.fR.fN),(.int .i64 z1e.fR.fD),(.int .i64 z1e.fLatency.fN),(.int .i64 z1e.fLatency.fD)]) y24 rfl rfl (y1D (s:=4) .here rfl)) ?_
    refine WL.b (dd:=23) rfl rfl rfl (ze (l:=[.tmp 22]) Try.call47 (.cons rfl .nil)) .nil (ccz hz .nil .h1 fun w pz ho=>y69 _ _ _ zs6 w pz ) ?_
    refine WL.pu rfl (WL.pu rfl ?_)
    exact WL.yy zcr rfl rfl .all
  refine WL.nil (WX.a ?_)
  refine WC.cond rfl (fun zhj=>?_) (fun zhj=>?_)
  · replace h:=ye h zhj
    refine WC.b (WC.a (WL.pu rfl (WL.nil (WX.a (WC.ret (WX.y5 ?_))))))
    obtain rfl:=Option.some.inj h
    refine WX.y8 Try.results52 (.tmp rfl .nil) (fun w hw=>?_)
    exact ⟨[],yG rfl,trivial,hw.sub (.cons .h1 .nil)⟩
  · replace h:=yf h zhj
    refine WC.skip (WX.a (WC.b (WC.a ?_)))
    refine WL.new (dd:=3) rfl rfl rfl (yh (cs:=[(.int .i64 0)]) y70 rfl) ?_
    intro zeD _
    refine WL.nil (WX.a (WC.b ?_))
    obtain ⟨zcp,zs7,h⟩:=z8 h
    refine WC.a ?_
    refine WL.b (dd:=26) rfl rfl rfl (ze (l:=[]) Try.call51 .nil) .nil (ccz hz .nil .h2 fun w pz ho=>y2t _ _ zs7 w pz ) ?_
    refine WL.new (dd:=4) rfl rfl rfl (yh (cs:=[(.int .i64 0),(.int .i64 0)]) ym rfl) ?_
    intro zeE _
    refine WL.ya rfl rfl (y9 yj rfl rfl rfl .here rfl rfl rfl) ?_
    refine WL.nil (WX.a ?_)
    obtain ⟨z6A,zs8,h⟩:=y83 h
    refine WC.y4O (fun (z6C : Int) (z7J : Int) (z7K : Int) (z9b : Zp)=>(z6A z6C z7J z7K = some r) ∧ (Zle (Z ++ []) (Z ++ z9b))) (fun (z6C : Int) (z7J : Int) (z7K : Int) (z9b : Zp)=>[(1,(.pointer (some ⟨zeC,0,none⟩))),(3,(.pointer (some ⟨zeD,0,none⟩))),(4,(.pointer (some ⟨zeE,0,none⟩)))]) (fun (z6C : Int) (z7J : Int) (z7K : Int) (z9b : Zp)=>[fz z9b,stb zeC 79 [(.slice z7L z1V.length z7M),(.int .i64 z1e.fR.fN),(.int .i64 z1e.fR.fD),(.int .i64 z1e.fLatency.fN),(.int .i64 z1e.fLatency.fD),(.func (.func 32) #[] #[(.pointer (some z97)),(.pointer (some z98))]),(.slice z99 z6B.length z9a)],stb zeD 98 [(.int .i64 z6C)],stb zeE 30 [(.int .i64 z7J),(.int .i64 z7K)]]) ?_ ?_
    · skip
      refine WC.b (WC.a ?_)
      refine WL.a (d:=27) rfl rfl rfl (y3 y4C rfl rfl) ?_
      refine WL.a (d:=28) rfl rfl rfl (yb y2L rfl (yq .h2 rfl)) ?_
      refine WL.a (d:=29) rfl rfl rfl (y1c Try.underlying26 rfl) ?_
      refine WL.pu rfl (WL.nil (WX.a (WC.block ?_)))
      refine WC.y4s (fun (zaA : Nat) (z3n : Int) (z4L : Int) (z4M : Int) (z4N : Int) (z5h : Zp)=>(y17 z1V z6A zaA z3n z4L z4M z4N = some r) ∧ (Zle (Z ++ []) (Z ++ z5h))) (fun (zaA : Nat) (z3n : Int) (z4L : Int) (z4M : Int) (z4N : Int) (z5h : Zp)=>[(1,(.pointer (some ⟨zeC,0,none⟩))),(3,(.pointer (some ⟨zeD,0,none⟩))),(4,(.pointer (some ⟨zeE,0,none⟩))),(28,(.slice z7L z1V.length z7M)),(29,(.int .i64 ((z1V.length : Nat) : Int))),(30,(.int .i64 z3n))]) (fun (zaA : Nat) (z3n : Int) (z4L : Int) (z4M : Int) (z4N : Int) (z5h : Zp)=>[fz z5h,stb zeC 79 [(.slice z7L z1V.length z7M),(.int .i64 z1e.fR.fN),(.int .i64 z1e.fR.fD),(.int .i64 z1e.fLatency.fN),(.int .i64 z1e.fLatency.fD),(.func (.func 32) #[] #[(.pointer (some z97)),(.pointer (some z98))]),(.slice z99 z6B.length z9a)],stb zeD 98 [(.int .i64 z4L)],stb zeE 30 [(.int .i64 z4M),(.int .i64 z4N)]]) (fun (zaA : Nat) (z3n : Int) (z4L : Int) (z4M : Int) (z4N : Int) (z5h : Zp)=>zaA) ⟨ys,0,0,zcp.fN,zcp.fD,[]⟩ ⟨h,(Zle.refl _)⟩ (.cons rfl (.cons rfl (.cons rfl (.cons rfl (.cons rfl (.cons rfl .nil)))))) (.cons .h3 (.cons .h2 (.cons .h1 (.cons .here .nil)))) ?_
      rintro zaA z3n z4L z4M z4N z5h ⟨h,zeF⟩
      obtain ⟨zhe,rfl⟩:=y4K h
      rw [y17] at h
      refine WC.b (WC.a (WL.pu rfl (WL.nil (WX.a (WC.b ?_)))))
      refine WC.cond rfl (fun zhk=>?_) (fun zhk=>?_)
      · replace h:=ye h zhk
        refine WC.skip (WX.a (WC.b (WC.block (WC.b ?_))))
        obtain ⟨zs9,h⟩:=yk h
        refine WC.a ?_
        refine WL.znth (dd:=32) rfl rfl (Z:=(Z ++ z5h)) (Pr:=(p39 (Z ++ z5h))) y2x rfl rfl ((zlU.mono ((Zle.left _ _).trans zeF)).weak (fun _ _ h=>yo ((Zle.left _ _).trans zeF) h)) zs9 ?_
        rintro zyU zyV zsa zyW ⟨zyX,zyY,rfl,zlX⟩
        refine WL.a (d:=33) rfl rfl rfl (yb y4E rfl (y4P (hz.pv2 .here) zsa rfl)) ?_
        refine WL.pu rfl (WL.nil (WX.a (WC.b (WC.b ?_))))
        obtain ⟨zhf,zsb,h⟩:=z8 h
        refine WC.a (WL.pu rfl ?_)
        refine WL.y6s (dd:=36) rfl rfl rfl (ze (l:=[.tmp 35]) Try.call68 (.cons rfl .nil)) .nil (ccz hz .nil .here fun w pz ho=>y48 _ _ _ _ _ zsb w pz zlX) ?_
        rintro zlY zyZ zz0 _
        refine WL.merge .here .h1 ?_
        refine WL.pu rfl (WL.pu rfl (WL.pu rfl (WL.pu rfl (WL.pu rfl (WL.nil (WX.a (WC.b (WC.a (WL.pu rfl (WL.pu rfl (WL.nil (WX.a ?_))))))))))))
        refine WC.cond rfl (fun zhl=>?_) (fun zhl=>?_)
        · replace h:=ye h zhl
          refine WC.b (WC.a (WL.pu rfl (WL.pu rfl (WL.nil (WX.a (WC.ret (WX.y5 (WX.yl (WX.y5 (WX.y5 (WX.yl (WX.y5 ?_))))))))))))
          obtain rfl:=Option.some.inj h
          refine WX.y8 Try.results52 (.tmp rfl .nil) (fun w hw=>?_)
          exact ⟨(z5h ++ zlY),yG rfl,trivial,hw.sub (.cons .here .nil)⟩
        · replace h:=yf h zhl
          refine WC.skip (WX.a (WC.b ?_))
          obtain ⟨zlO,zsc,h⟩:=z8 h
          refine WC.a (WL.pu rfl ?_)
          refine WL.b (dd:=44) rfl rfl rfl (ze (l:=[.tmp 43]) Try.call21 (.cons rfl .nil)) .nil (ccz hz .nil .here fun w pz ho=>y7s _ _ _ _ _ zsc w pz (zlX.mono ((Zle.left _ _).trans (Zle.yi _ _ _)))) ?_
          refine WL.pu rfl (WL.pu rfl (WL.pu rfl ?_))
          refine WL.new (dd:=9) rfl rfl rfl (yh (cs:=[(.int .i64 0),(.int .i64 0)]) ym rfl) ?_
          intro zz1 _
          refine WL.ya rfl rfl (y9 yj rfl rfl rfl .here rfl rfl rfl) ?_
          refine WL.pu rfl (WL.nil (WX.a ?_))
          obtain ⟨z96,zsd,h⟩:=z8 h
          refine WC.a ?_
          refine WL.a (d:=47) rfl rfl rfl (y7 y4 rfl (y6 .h5) rfl) ?_
          refine WL.a (d:=48) rfl rfl rfl (y7 y4 rfl (y6 .here) rfl) ?_
          refine WL.b (dd:=49) rfl rfl rfl (ze (l:=[.tmp 3,.func 19,.tmp 47,.tmp 48]) Try.call33 (.cons rfl (.cons rfl (.cons rfl (.cons rfl .nil))))) (.cons .h4 .nil) (ccz hz (.cons .h4 .nil) .h1 fun w pz ho=>y1z _ _ (z3m:=19) (z3U:=[]) _ (z4f:=(fun (y0 : z2) (y1 : z2)=>y1C y0 y1)) _ _ _ zsd w pz Try.call19 (fun w' hz' y0 y1  r  hr=>y5k _ _ _ _ hr w' hz' ) ho) ?_
          refine WL.ya rfl rfl (y9 yj rfl rfl rfl .h5 rfl rfl rfl) ?_
          refine WL.nil (WX.yg (WX.a (WC.a (WL.pu rfl (WL.pu rfl (WL.nil ?_))))))
          exact WX.round (G:=Nat × Int × Int × Int × Int × Zp) ⟨zhe,(i64 (z3n + 1)),z96.2.fE,z96.1.fN,z96.1.fD,(z5h ++ zlY)⟩ ⟨h,(zeF.trans ((Zle.left _ _).trans (Zle.yi _ _ _)))⟩ (Nat.lt_succ_self _) (.cons rfl (.cons rfl (.cons rfl (.cons rfl (.cons rfl (.cons rfl .nil)))))) (.cons .h3 (.cons .h4 (.cons .h1 (.cons .here .nil))))
      · replace h:=yf h zhk
        refine WC.exit (WX.yd (WX.yd (WX.yt ?_)))
        exact WX.mid (G:=Int × Int × Int × Zp) ⟨z4L,z4M,z4N,z5h⟩ ⟨h,zeF⟩ (.cons rfl (.cons rfl (.cons rfl .nil))) (.cons .here (.cons .here (.cons .here (.cons .here .nil))))
    · rintro z6C z7J z7K z9b ⟨h,zz2⟩
      replace h:=(zs8 z6C z7J z7K).symm.trans h
      refine WC.b (WC.b ?_)
      obtain ⟨zhi,zlZ,h⟩:=z8 h
      refine WC.a ?_
      refine WL.a (d:=51) rfl rfl rfl (y3 y33 rfl rfl) ?_
      refine WL.a (d:=52) rfl rfl rfl (yb y2B rfl (yq .h2 rfl)) ?_
      refine WL.pu rfl (WL.pu rfl ?_)
      refine WL.seg true 6 54 (B:=zhi) rfl rfl rfl rfl rfl rfl (fun h=>(Option.some.inj (yf zlZ h)).symm) (fun _ zse=>?_) ?_
      · skip
        have zcs:=ye zlZ zse
        obtain ⟨zlR,zsf,zcs⟩:=z8 zcs
        replace zcs:=Option.some.inj zcs
        refine WL.a (d:=55) rfl rfl rfl (y7 y4 rfl (y6 .h3) rfl) ?_
        refine WL.a (d:=56) rfl rfl rfl (y3 y7M rfl rfl) ?_
        refine WL.a (d:=57) rfl rfl rfl (y3 y52 rfl rfl) ?_
        refine WL.a (d:=58) rfl rfl rfl (yv (cs:=[(.int .i64 z1e.fR.fN),(.int .i64 z1e.fR.fD)]) y4 rfl rfl (y1D (s:=2) .h1 rfl)) ?_
        refine WL.b (dd:=59) rfl rfl rfl (ze (l:=[.tmp 55,.tmp 58]) Try.call18 (.cons rfl (.cons rfl .nil))) .nil (ccz hz .nil .here fun w pz ho=>y1Y _ _ _ _ zsf w pz ) ?_
        refine WL.pu rfl (WL.pu rfl ?_)
        exact WL.yy zcs rfl rfl .all
      refine WL.nil (WX.a ?_)
      refine WC.cond rfl (fun zhm=>?_) (fun zhm=>?_)
      · replace h:=ye h zhm
        refine WC.b (WC.a (WL.pu rfl (WL.nil (WX.a (WC.ret (WX.y5 ?_))))))
        obtain rfl:=Option.some.inj h
        refine WX.y8 Try.results52 (.tmp rfl .nil) (fun w hw=>?_)
        exact ⟨z9b,yG rfl,trivial,hw.sub (.cons .here .nil)⟩
      · replace h:=yf h zhm
        refine WC.skip (WX.a (WC.b (WC.a ?_)))
        refine WL.a (d:=62) rfl rfl rfl (y3 y33 rfl rfl) ?_
        refine WL.a (d:=63) rfl rfl rfl (yb y2B rfl (yq .h2 rfl)) ?_
        refine WL.pu rfl (WL.nil (WX.a (WC.ret ?_)))
        obtain rfl:=Option.some.inj h
        refine WX.y8 Try.results52 (.tmp rfl .nil) (fun w hw=>?_)
        exact ⟨z9b,yG rfl,trivial,hw.sub (.cons .here .nil)⟩
def y2v (z7N : List (List z1)) (z2e : zSv) (zeG : List (List z1)) (zaB : zSv) (z7O : List z2) : Option (Int × Int × Int × Int) :=
  some (z2e.fR.fN,z2e.fR.fD,z2e.fLatency.fN,z2e.fLatency.fD)
set_option maxRecDepth 20000 in
theorem y6a (Z : Zp) (zaC : Option Addr) (zaD : Nat) (zaE : Addr) (zm0 : Option Addr) (zm1 : Nat) (zaF : Addr) (zaG : Option Addr) (zaH : Nat) (z7N : List (List z1)) (z2e : zSv) (zeG : List (List z1)) (zaB : zSv) (z7O : List z2) (r : Int × Int × Int × Int)
     (h : y2v z7N z2e zeG zaB z7O = some r) (w₀ : World) (hz : PZ [] w₀ Z)
     (zz3 : ZS Z 1 (p39 Z) zaC zaD z7N)
     (zz4 : ZS Z 1 (p39 Z) zm0 zm1 zeG)
     (zz5 : ZC Z zaE [(.slice zm0 zeG.length zm1)])
     (zz6 : ZC Z zaF [(.int .i64 zaB.fR.fN),(.int .i64 zaB.fR.fD),(.int .i64 zaB.fLatency.fN),(.int .i64 zaB.fLatency.fD)])
     (zz7 : ZS Z 2 (fun r x=>r = e30 x) zaG zaH z7O) :
    Calls Try.prog 53 #[(.agg #[(.slice zaC z7N.length zaD),(.int .i64 z2e.fR.fN),(.int .i64 z2e.fR.fD),(.int .i64 z2e.fLatency.fN),(.int .i64 z2e.fLatency.fD),(.func (.func 32) #[] #[(.pointer (some zaE)),(.pointer (some zaF))]),(.slice zaG z7O.length zaH)])] w₀ fun e w'=>∃ zm2 : Nat,e = .returned (.func (.func 69) #[] #[(.pointer (some ⟨zm2,0,none⟩))]) ∧ True ∧ Hp [] w₀ w' [stb zm2 79 [(.slice zaC z7N.length zaD),(.int .i64 r.1),(.int .i64 r.2.1),(.int .i64 r.2.2.1),(.int .i64 r.2.2.2),(.func (.func 32) #[] #[(.pointer (some zaE)),(.pointer (some zaF))]),(.slice zaG z7O.length zaH)]]:=by
  unfold y2v at h
  refine Calls.yc (vs:=[(.agg #[(.slice zaC z7N.length zaD),(.int .i64 z2e.fR.fN),(.int .i64 z2e.fR.fD),(.int .i64 z2e.fLatency.fN),(.int .i64 z2e.fLatency.fD),(.func (.func 32) #[] #[(.pointer (some zaE)),(.pointer (some zaF))]),(.slice zaG z7O.length zaH)])]) (pre:=[]) (env:=[(0,(.agg #[(.slice zaC z7N.length zaD),(.int .i64 z2e.fR.fN),(.int .i64 z2e.fR.fD),(.int .i64 z2e.fLatency.fN),(.int .i64 z2e.fLatency.fD),(.func (.func 32) #[] #[(.pointer (some zaE)),(.pointer (some zaF))]),(.slice zaG z7O.length zaH)]))]) Try.func53 rfl Try.ntmps53 rfl (Hp.nil w₀ _) rfl ?_
  refine WC.b (WC.a ?_)
  refine WL.new (dd:=1) rfl rfl rfl (yI (cs:=[(.slice zaC z7N.length zaD),(.int .i64 z2e.fR.fN),(.int .i64 z2e.fR.fD),(.int .i64 z2e.fLatency.fN),(.int .i64 z2e.fLatency.fD),(.func (.func 32) #[] #[(.pointer (some zaE)),(.pointer (some zaF))]),(.slice zaG z7O.length zaH)]) rfl rfl) ?_
  intro zsg _
  refine WL.pu rfl (WL.nil (WX.a (WC.b (WC.a ?_))))
  refine WL.a (d:=3) rfl rfl rfl (y1b (Eos.caps (l:=[.tmp 1]) (.cons rfl .nil))) ?_
  refine WL.pu rfl (WL.nil (WX.a (WC.ret ?_)))
  obtain rfl:=Option.some.inj h
  refine WX.y8 Try.results53 (.tmp rfl .nil) (fun w hw=>?_)
  exact ⟨zsg,yG rfl,trivial,hw.sub (.cons .here .nil)⟩
def y1F (z1W : z2) : Option Int :=
  (y1f z1W).bind fun zm3=>if !zm3 then some 0 else chk ((z1W.fD : Int) ≠ 0) (jp1 (fun (z7P : Int)=>some z7P) fun zeH=>chk ((z1W.fD : Int) ≠ 0) (if decide ((Int.tmod z1W.fN z1W.fD) < 0) then zeH (i64 ((i64 (Int.tdiv z1W.fN z1W.fD)) - 1)) else zeH (i64 (Int.tdiv z1W.fN z1W.fD))))
set_option maxRecDepth 20000 in
theorem y4k (Z : Zp)  (z1W : z2) (r : Int)
     (h : y1F z1W = some r) (w₀ : World) (hz : PZ [] w₀ Z) :
    Calls Try.prog 70 #[(.agg #[(.int .i64 z1W.fN),(.int .i64 z1W.fD)])] w₀ fun e w'=>e = .returned (.int .i64 r) ∧ Hp [] w₀ w' []:=by
  unfold y1F at h
  refine Calls.yc (vs:=[(.agg #[(.int .i64 z1W.fN),(.int .i64 z1W.fD)])]) (pre:=[]) (env:=[(0,(.agg #[(.int .i64 z1W.fN),(.int .i64 z1W.fD)]))]) Try.func70 rfl Try.ntmps70 rfl (Hp.nil w₀ _) rfl ?_
  refine WC.b (WC.a ?_)
  refine WL.new (dd:=1) rfl rfl rfl (yI (cs:=[(.int .i64 z1W.fN),(.int .i64 z1W.fD)]) rfl rfl) ?_
  intro zz8 _
  refine WL.pu rfl (WL.nil (WX.a (WC.b (WC.b ?_))))
  obtain ⟨zm3,zsh,h⟩:=z8 h
  refine WC.a ?_
  refine WL.a (d:=4) rfl rfl rfl (y7 y4 rfl (y6 .here) rfl) ?_
  refine WL.b (dd:=5) rfl rfl rfl (ze (l:=[.tmp 4]) Try.call39 (.cons rfl .nil)) .nil (cc hz .nil fun w pz ho=>y1A _ _ _ zsh w pz ) ?_
  refine WL.pu rfl (WL.nil (WX.a ?_))
  refine WC.cond rfl (fun zhn=>?_) (fun zhn=>?_)
  · replace h:=ye h zhn
    refine WC.b (WC.a (WL.pu rfl (WL.nil (WX.a (WC.ret (WX.y5 ?_))))))
    obtain rfl:=Option.some.inj h
    refine WX.y8 Try.results70 (.tmp rfl .nil) (fun w hw=>?_)
    exact ⟨yG rfl,hw.sub .nil⟩
  · replace h:=yf h zhn
    refine WC.skip (WX.a (WC.b ?_))
    obtain ⟨zsi,h⟩:=yk h
    refine WC.a ?_
    refine WL.a (d:=7) rfl rfl rfl (y3 y1K rfl rfl) ?_
    refine WL.a (d:=8) rfl rfl rfl (yb yu rfl (yq .here rfl)) ?_
    refine WL.a (d:=9) rfl rfl rfl (y3 y1W rfl rfl) ?_
    refine WL.a (d:=10) rfl rfl rfl (yb yu rfl (yq .here rfl)) ?_
    refine WL.a (d:=11) rfl rfl rfl (q_quo rfl rfl zsi rfl) ?_
    refine WL.pu rfl (WL.nil (WX.a ?_))
    obtain ⟨zeH,zsj,h⟩:=y1n h
    refine WC.y3a (fun (z7P : Int)=>(zeH z7P = some r)) (fun (z7P : Int)=>[(3,(.int .i64 z7P))]) (fun (z7P : Int)=>[]) ?_ ?_
    · skip
      refine WC.b ?_
      obtain ⟨zsk,h⟩:=yk h
      refine WC.a ?_
      refine WL.a (d:=12) rfl rfl rfl (y3 y1K rfl rfl) ?_
      refine WL.a (d:=13) rfl rfl rfl (yb yu rfl (yq .here rfl)) ?_
      refine WL.a (d:=14) rfl rfl rfl (y3 y1W rfl rfl) ?_
      refine WL.a (d:=15) rfl rfl rfl (yb yu rfl (yq .here rfl)) ?_
      refine WL.a (d:=16) rfl rfl rfl (y6U rfl rfl zsk rfl) ?_
      refine WL.pu rfl (WL.nil (WX.a ?_))
      refine WC.cond rfl (fun zho=>?_) (fun zho=>?_)
      · replace h:=ye h zho
        refine WC.a (WL.pu rfl (WL.pu rfl (WL.pu rfl (WL.nil ?_))))
        exact WX.mid (G:=Int) (i64 ((i64 (Int.tdiv z1W.fN z1W.fD)) - 1)) h (.cons rfl .nil) .nil
      · replace h:=yf h zho
        refine WC.skip ?_
        exact WX.mid (G:=Int) (i64 (Int.tdiv z1W.fN z1W.fD)) h (.cons rfl .nil) .nil
    · rintro z7P h
      replace h:=(zsj z7P).symm.trans h
      refine WC.b (WC.a (WL.pu rfl (WL.pu rfl (WL.nil (WX.a (WC.ret ?_))))))
      obtain rfl:=Option.some.inj h
      refine WX.y8 Try.results70 (.tmp rfl .nil) (fun w hw=>?_)
      exact ⟨yG rfl,hw.sub .nil⟩
def y27 (z3H : z2) : Option Int :=
  (y1f z3H).bind fun zm4=>if !zm4 then some 0 else (y1F (⟨i64 (0 - z3H.fN),z3H.fD⟩ : z2)).bind fun zm5=>some (i64 (0 - zm5))
set_option maxRecDepth 20000 in
theorem y5G (Z : Zp)  (z3H : z2) (r : Int)
     (h : y27 z3H = some r) (w₀ : World) (hz : PZ [] w₀ Z) :
    Calls Try.prog 71 #[(.agg #[(.int .i64 z3H.fN),(.int .i64 z3H.fD)])] w₀ fun e w'=>e = .returned (.int .i64 r) ∧ Hp [] w₀ w' []:=by
  unfold y27 at h
  refine Calls.yc (vs:=[(.agg #[(.int .i64 z3H.fN),(.int .i64 z3H.fD)])]) (pre:=[]) (env:=[(0,(.agg #[(.int .i64 z3H.fN),(.int .i64 z3H.fD)]))]) Try.func71 rfl Try.ntmps71 rfl (Hp.nil w₀ _) rfl ?_
  refine WC.b (WC.a ?_)
  refine WL.new (dd:=1) rfl rfl rfl (yI (cs:=[(.int .i64 z3H.fN),(.int .i64 z3H.fD)]) rfl rfl) ?_
  intro zz9 _
  refine WL.pu rfl (WL.nil (WX.a (WC.b (WC.b ?_))))
  obtain ⟨zm4,zsl,h⟩:=z8 h
  refine WC.a ?_
  refine WL.a (d:=3) rfl rfl rfl (y7 y4 rfl (y6 .here) rfl) ?_
  refine WL.b (dd:=4) rfl rfl rfl (ze (l:=[.tmp 3]) Try.call39 (.cons rfl .nil)) .nil (cc hz .nil fun w pz ho=>y1A _ _ _ zsl w pz ) ?_
  refine WL.pu rfl (WL.nil (WX.a ?_))
  refine WC.cond rfl (fun zhp=>?_) (fun zhp=>?_)
  · replace h:=ye h zhp
    refine WC.b (WC.a (WL.pu rfl (WL.nil (WX.a (WC.ret (WX.y5 ?_))))))
    obtain rfl:=Option.some.inj h
    refine WX.y8 Try.results71 (.tmp rfl .nil) (fun w hw=>?_)
    exact ⟨yG rfl,hw.sub .nil⟩
  · replace h:=yf h zhp
    refine WC.skip (WX.a (WC.b ?_))
    obtain ⟨zm5,zsm,h⟩:=z8 h
    refine WC.a ?_
    refine WL.a (d:=6) rfl rfl rfl (y3 y1K rfl rfl) ?_
    refine WL.a (d:=7) rfl rfl rfl (yb yu rfl (yq .here rfl)) ?_
    refine WL.a (d:=8) rfl rfl rfl (q_neg rfl rfl) ?_
    refine WL.a (d:=9) rfl rfl rfl (y3 y1W rfl rfl) ?_
    refine WL.a (d:=10) rfl rfl rfl (yb yu rfl (yq .here rfl)) ?_
    refine WL.a (d:=11) rfl rfl rfl (yV (v:=(.agg #[(.int .i64 (i64 (0 - z3H.fN))),(.int .i64 z3H.fD)])) (Eos.parts (l:=[.tmp 8,.tmp 10]) (.cons rfl (.cons rfl .nil)) [0,1]) (fun _=>by kernel_rfl)) ?_
    refine WL.b (dd:=12) rfl rfl rfl (ze (l:=[.tmp 11]) Try.call70 (.cons rfl .nil)) .nil (cc hz .nil fun w pz ho=>y4k _ _ _ zsm w pz ) ?_
    refine WL.a (d:=13) rfl rfl rfl (q_neg rfl rfl) ?_
    refine WL.pu rfl (WL.nil (WX.a (WC.ret ?_)))
    obtain rfl:=Option.some.inj h
    refine WX.y8 Try.results71 (.tmp rfl .nil) (fun w hw=>?_)
    exact ⟨yG rfl,hw.sub .nil⟩
def yJ (zg : Type) (z1I : List z2 × Int) (z1z : z2 → zg → Option (Bool × zg)) (z6D : zg → Option zg) : Nat → Int → zg → Option zg
  | 0,_,_=>none
  | zhq + 1,z1X,z3o=>if decide (z1X < ((z1I.1.length : Nat) : Int)) then chk ((0 : Int) ≤ z1X ∧ z1X < ((z1I.1.length : Nat) : Int)) ((y1F (⟨((nth z1I.1 z1X).fN),((nth z1I.1 z1X).fD)⟩ : z2)).bind fun zm6=>(yW zm6).bind fun zhr=>(z1z zhr z3o).bind fun z5F=>(if !z5F.1 then some (true,z5F.2) else (y27 (⟨((nth z1I.1 z1X).fN),((nth z1I.1 z1X).fD)⟩ : z2)).bind fun zm7=>(yW zm7).bind fun zhs=>(z1z zhs z5F.2).bind fun zct=>some (!zct.1,zct.2)).bind fun z7Q=>if z7Q.1 then some z7Q.2 else yJ zg z1I z1z z6D zhq (i64 (z1X + 1)) z7Q.2) else z6D z3o
theorem y4f {n : Nat} {zg : Type} {z1I : List z2 × Int} {z1z : z2 → zg → Option (Bool × zg)} {z6D : zg → Option zg} {z1X : Int} {z3o : zg} {r : zg} (h : yJ zg z1I z1z z6D n z1X z3o = some r) : ∃ m,n = m + 1:=by
  cases n with
  | zero=>cases h
  | succ m=>exact ⟨m,rfl⟩
def yU (zg : Type) (z1P : List (List z1)) (z1z : z2 → zg → Option (Bool × zg)) (z6E : zg → Option zg) : Nat → Int → zg → Option zg
  | 0,_,_=>none
  | zht + 1,z2O,z3V=>if decide (z2O < ((z1P.length : Nat) : Int)) then jp1 (fun (z5G : zg)=>yU zg z1P z1z z6E zht (i64 (z2O + 1)) z5G) fun zhu=>chk ((0 : Int) ≤ z2O ∧ z2O < ((z1P.length : Nat) : Int)) ((yB (nth z1P z2O)).bind fun z1I=>jp1 (fun (z5H : zg)=>zhu z5H) fun z6D=>yJ zg z1I z1z z6D ys 0 z3V) else z6E z3V
theorem y4g {n : Nat} {zg : Type} {z1P : List (List z1)} {z1z : z2 → zg → Option (Bool × zg)} {z6E : zg → Option zg} {z2O : Int} {z3V : zg} {r : zg} (h : yU zg z1P z1z z6E n z2O z3V = some r) : ∃ m,n = m + 1:=by
  cases n with
  | zero=>cases h
  | succ m=>exact ⟨m,rfl⟩
def yK (zg : Type) (z1Y : List z2) (z1z : z2 → zg → Option (Bool × zg)) (z6F : zg → Option zg) : Nat → Int → zg → Option zg
  | 0,_,_=>none
  | zhv + 1,z2v,z3p=>if decide (z2v < ((z1Y.length : Nat) : Int)) then chk ((0 : Int) ≤ z2v ∧ z2v < ((z1Y.length : Nat) : Int)) ((y1F (⟨((nth z1Y z2v).fN),((nth z1Y z2v).fD)⟩ : z2)).bind fun zm8=>(yW zm8).bind fun zhw=>(z1z zhw z3p).bind fun z5I=>(if !z5I.1 then some (true,z5I.2) else (y27 (⟨((nth z1Y z2v).fN),((nth z1Y z2v).fD)⟩ : z2)).bind fun zm9=>(yW zm9).bind fun zhx=>(z1z zhx z5I.2).bind fun zcu=>some (!zcu.1,zcu.2)).bind fun z7R=>if z7R.1 then some z7R.2 else yK zg z1Y z1z z6F zhv (i64 (z2v + 1)) z7R.2) else z6F z3p
theorem y4h {n : Nat} {zg : Type} {z1Y : List z2} {z1z : z2 → zg → Option (Bool × zg)} {z6F : zg → Option zg} {z2v : Int} {z3p : zg} {r : zg} (h : yK zg z1Y z1z z6F n z2v z3p = some r) : ∃ m,n = m + 1:=by
  cases n with
  | zero=>cases h
  | succ m=>exact ⟨m,rfl⟩
def y1O (zg : Type) (z1z : z2 → zg → Option (Bool × zg)) (s0_16781 : zg) (z1P : List (List z1)) (z9c : zSv) (zcv : List (List z1)) (z9d : zSv) (z1Y : List z2) : Option zg :=
  (y1E).bind fun zhy=>(z1z zhy s0_16781).bind fun z9e=>if !z9e.1 then some z9e.2 else jp1 (fun (z5J : zg)=>jp1 (fun (z6G : zg)=>some z6G) fun z6F=>yK zg z1Y z1z z6F ys 0 z5J) fun z6E=>yU zg z1P z1z z6E ys 0 z9e.2
set_option maxRecDepth 20000 in
theorem y5u (Z : Zp) (zg : Type) (z4g : Nat) (zR : Type) (z1A : zR → zg → Asrt) (z4h : zR → zg → Prop) (z5K : zR) (z5i : Addr) (z7S : Option Addr) (z7T : Nat) (zhz : Addr) (zhA : Option Addr) (zhB : Nat) (zhC : Addr) (zcw : Option Addr) (zcx : Nat) (z1z : z2 → zg → Option (Bool × zg)) (s0_16781 : zg) (z1P : List (List z1)) (z9c : zSv) (zcv : List (List z1)) (z9d : zSv) (z1Y : List z2) (r : zg) (w₀ : World) (hz : PZ (fps [z1A z5K s0_16781]) w₀ Z)
     (zcy : y7l Try.prog Z z4g (α:=z2) (σ:=zg) (G:=zR) (H:=Unit) (fun h x=>[(.agg #[(.int .i64 x.fN),(.int .i64 x.fD)])]) (fun h x=>[]) z1z z1A z4h)
     (zsn : z4h z5K s0_16781)
     (zso : ZS Z 1 (p39 Z) z7S z7T z1P)
     (zza : ZS Z 1 (p39 Z) zhA zhB zcv)
     (zzb : ZC Z zhz [(.slice zhA zcv.length zhB)])
     (zzc : ZC Z zhC [(.int .i64 z9d.fR.fN),(.int .i64 z9d.fR.fD),(.int .i64 z9d.fLatency.fN),(.int .i64 z9d.fLatency.fD)])
     (zsp : ZS Z 2 (fun r x=>r = e30 x) zcw zcx z1Y)
     (zma : ZC Z z5i [(.slice z7S z1P.length z7T),(.int .i64 z9c.fR.fN),(.int .i64 z9c.fR.fD),(.int .i64 z9c.fLatency.fN),(.int .i64 z9c.fLatency.fD),(.func (.func 32) #[] #[(.pointer (some zhz)),(.pointer (some zhC))]),(.slice zcw z1Y.length zcx)])
     (h : y1O zg z1z s0_16781 z1P z9c zcv z9d z1Y = some r)
    (hown : Hp (fps [z1A z5K s0_16781]) w₀ w₀ [z1A z5K s0_16781]) :
    Calls Try.prog 69 #[(.func (.yield z4g) #[] #[]),(.pointer (some z5i))] w₀ fun e w'=>∃ Zn : Zp,∃ zmb : zR,e = .returned (.tuple #[]) ∧ (z4h zmb r) ∧ Hp (fps [z1A z5K s0_16781]) w₀ w' [fz Zn,z1A zmb r]:=by
  unfold y1O at h
  refine Calls.yc (vs:=[(.func (.yield z4g) #[] #[]),(.pointer (some z5i))]) (pre:=[z1A z5K s0_16781]) (env:=[(0,(.func (.yield z4g) #[] #[])),(1,(.pointer (some z5i)))]) Try.func69 rfl Try.ntmps69 rfl (hown) rfl ?_
  refine WC.pool (WC.b (WC.b ?_))
  obtain ⟨zhy,zsq,h⟩:=z8 h
  obtain ⟨z9e,zsr,h⟩:=z8 h
  refine WC.a (WL.pu rfl ?_)
  refine WL.b (dd:=12) rfl rfl rfl (ze (l:=[]) Try.call51 .nil) .nil (ccz hz .nil .here fun w pz ho=>y2t _ _ zsq w pz ) ?_
  refine WL.yield (dd:=13) (x:=zhy) (h:=()) (g:=z5K) (s:=s0_16781) (b:=z9e.1) (s':=z9e.2) zcy rfl rfl rfl (.cons rfl .nil) ((.cons .h1 .nil) : Sel _ [z1A z5K s0_16781] _) zsr zsn (fun w hw=>hz.call hw ((.cons .h1 .nil) : Sel _ [z1A z5K s0_16781] _)) ?_
  intro zmc zmd
  refine WL.pu rfl (WL.nil (WX.a ?_))
  refine WC.cond rfl (fun zhD=>?_) (fun zhD=>?_)
  · replace h:=ye h zhD
    refine WC.ret (WX.y5 ?_)
    obtain rfl:=Option.some.inj h
    refine WX.y8 Try.results69 .nil (fun w hw=>?_)
    exact ⟨[],zmc,y5p,zmd,hw.sub (.cons .h1 (.cons .here .nil))⟩
  · replace h:=yf h zhD
    refine WC.skip (WX.a ?_)
    obtain ⟨z6E,zss,h⟩:=y1n h
    refine WC.y2G (fun (z5J : zg) (z5j : Zp) (zaI : zR)=>(z6E z5J = some r) ∧ (Zle (Z ++ []) (Z ++ z5j)) ∧ (z4h zaI z5J)) (fun (z5J : zg) (z5j : Zp) (zaI : zR)=>[(0,(.func (.yield z4g) #[] #[])),(1,(.pointer (some z5i)))]) (fun (z5J : zg) (z5j : Zp) (zaI : zR)=>[fz z5j,z1A zaI z5J]) ?_ ?_
    · skip
      refine WC.b (WC.a ?_)
      refine WL.a (d:=15) rfl rfl rfl (y3 y4C rfl rfl) ?_
      refine WL.a (d:=16) rfl rfl rfl (yb y2L rfl (y1I (hz.pv2 .h1) (zma.mono (Zle.left _ _)) rfl)) ?_
      refine WL.a (d:=17) rfl rfl rfl (y1c Try.underlying26 rfl) ?_
      refine WL.pu rfl (WL.nil (WX.a (WC.block ?_)))
      refine WC.y4r (fun (zaJ : Nat) (z2O : Int) (z3V : zg) (z3I : Zp) (z7U : zR)=>(yU zg z1P z1z z6E zaJ z2O z3V = some r) ∧ (Zle (Z ++ []) (Z ++ z3I)) ∧ (z4h z7U z3V)) (fun (zaJ : Nat) (z2O : Int) (z3V : zg) (z3I : Zp) (z7U : zR)=>[(0,(.func (.yield z4g) #[] #[])),(1,(.pointer (some z5i))),(16,(.slice z7S z1P.length z7T)),(17,(.int .i64 ((z1P.length : Nat) : Int))),(18,(.int .i64 z2O))]) (fun (zaJ : Nat) (z2O : Int) (z3V : zg) (z3I : Zp) (z7U : zR)=>[fz z3I,z1A z7U z3V]) (fun (zaJ : Nat) (z2O : Int) (z3V : zg) (z3I : Zp) (z7U : zR)=>zaJ) ⟨ys,0,z9e.2,[],zmc⟩ ⟨h,(Zle.refl _),zmd⟩ (.cons rfl (.cons rfl (.cons rfl (.cons rfl (.cons rfl .nil))))) (.cons .h1 (.cons .here .nil)) ?_
      rintro zaJ z2O z3V z3I z7U ⟨h,zeI,zme⟩
      obtain ⟨zht,rfl⟩:=y4g h
      rw [yU] at h
      refine WC.b (WC.a (WL.pu rfl (WL.nil (WX.a (WC.b ?_)))))
      refine WC.cond rfl (fun zhE=>?_) (fun zhE=>?_)
      · replace h:=ye h zhE
        refine WC.skip (WX.a ?_)
        obtain ⟨zhu,zst,h⟩:=y1n h
        refine WC.y2G (fun (z5G : zg) (zaK : Zp) (zaL : zR)=>(zhu z5G = some r) ∧ (Zle (Z ++ z3I) (Z ++ zaK)) ∧ (z4h zaL z5G)) (fun (z5G : zg) (zaK : Zp) (zaL : zR)=>[(0,(.func (.yield z4g) #[] #[])),(1,(.pointer (some z5i))),(16,(.slice z7S z1P.length z7T)),(17,(.int .i64 ((z1P.length : Nat) : Int))),(18,(.int .i64 z2O))]) (fun (z5G : zg) (zaK : Zp) (zaL : zR)=>[fz zaK,z1A zaL z5G]) ?_ ?_
        · skip
          refine WC.block (WC.b ?_)
          obtain ⟨zsu,h⟩:=yk h
          refine WC.a ?_
          refine WL.znth (dd:=20) rfl rfl (Z:=(Z ++ z3I)) (Pr:=(p39 (Z ++ z3I))) y2x rfl rfl ((zso.mono ((Zle.left _ _).trans zeI)).weak (fun _ _ h=>yo ((Zle.left _ _).trans zeI) h)) zsu ?_
          rintro zzd zze zsv zzf ⟨zzg,zzh,rfl,zsw⟩
          refine WL.a (d:=21) rfl rfl rfl (yb y4E rfl (y4P (hz.pv2 .here) zsv rfl)) ?_
          refine WL.pu rfl (WL.nil (WX.a (WC.b ?_)))
          obtain ⟨z1I,zsx,h⟩:=z8 h
          refine WC.a (WL.pu rfl ?_)
          refine WL.y6s (dd:=24) rfl rfl rfl (ze (l:=[.tmp 23]) Try.call68 (.cons rfl .nil)) .nil (ccz hz .nil .here fun w pz ho=>y48 _ _ _ _ _ zsx w pz zsw) ?_
          rintro zcz zsy zsz _
          refine WL.merge .here .h1 ?_
          refine WL.pu rfl (WL.pu rfl (WL.pu rfl (WL.pu rfl (WL.pu rfl (WL.nil (WX.a (WC.b (WC.a (WL.pu rfl ?_)))))))))
          refine WL.a (d:=28) rfl rfl rfl (y1c Try.underlying77 rfl) ?_
          refine WL.pu rfl (WL.nil (WX.a ?_))
          obtain ⟨z6D,zsA,h⟩:=y1n h
          refine WC.y5Q (fun (z5H : zg) (zaM : zR)=>(z6D z5H = some r) ∧ (z4h zaM z5H)) (fun (z5H : zg) (zaM : zR)=>[(0,(.func (.yield z4g) #[] #[])),(1,(.pointer (some z5i))),(16,(.slice z7S z1P.length z7T)),(17,(.int .i64 ((z1P.length : Nat) : Int))),(18,(.int .i64 z2O))]) (fun (z5H : zg) (zaM : zR)=>[fz (z3I ++ zcz),z1A zaM z5H]) ?_ ?_
          · skip
            refine WC.block ?_
            refine WC.y4s (fun (zaN : Nat) (z1X : Int) (z3o : zg) (zaO : Option Addr) (z6H : Nat) (z5L : zR)=>(yJ zg z1I z1z z6D zaN z1X z3o = some r) ∧ (z4h z5L z3o)) (fun (zaN : Nat) (z1X : Int) (z3o : zg) (zaO : Option Addr) (z6H : Nat) (z5L : zR)=>[(0,(.func (.yield z4g) #[] #[])),(1,(.pointer (some z5i))),(16,(.slice z7S z1P.length z7T)),(17,(.int .i64 ((z1P.length : Nat) : Int))),(18,(.int .i64 z2O)),(27,(.slice zaO z1I.1.length z6H)),(28,(.int .i64 ((z1I.1.length : Nat) : Int))),(29,(.int .i64 z1X))]) (fun (zaN : Nat) (z1X : Int) (z3o : zg) (zaO : Option Addr) (z6H : Nat) (z5L : zR)=>[fz (z3I ++ zcz),row (.slice zaO z1I.1.length z6H) 30 2 (z1I.1.flatMap e30),z1A z5L z3o]) (fun (zaN : Nat) (z1X : Int) (z3o : zg) (zaO : Option Addr) (z6H : Nat) (z5L : zR)=>zaN) ⟨ys,0,z3V,zsy,zsz,z7U⟩ ⟨h,zme⟩ (.cons rfl (.cons rfl (.cons rfl (.cons rfl (.cons rfl (.cons rfl (.cons rfl (.cons rfl .nil)))))))) (.cons .here (.cons .here (.cons .here .nil))) ?_
            rintro zaN z1X z3o zaO z6H z5L ⟨h,zmf⟩
            obtain ⟨zhq,rfl⟩:=y4f h
            rw [yJ] at h
            refine WC.b (WC.a (WL.pu rfl (WL.nil (WX.a (WC.b ?_)))))
            refine WC.cond rfl (fun zhF=>?_) (fun zhF=>?_)
            · replace h:=ye h zhF
              refine WC.skip (WX.a (WC.b (WC.block (WC.b ?_))))
              obtain ⟨zcA,h⟩:=yk h
              refine WC.a ?_
              refine WL.know (fun w hw=>Hp.y3Z .h1 hw (by intro hz'; have:=zcA; rw [hz'] at this; omega)) ?_
              rintro ⟨zhG,rfl⟩
              refine WL.a (d:=31) rfl rfl rfl (y19 y1B rfl rfl zcA.1 zcA.2 y3b) ?_
              refine WL.a (d:=32) rfl rfl rfl (yv (cs:=(e30 (nth z1I.1 z1X))) y4 rfl rfl (y2T .h1 (y3q (enc:=e30) (l:=z1I.1) (i:=z1X) (sz:=2) (fun _=>rfl) zcA.1 zcA.2))) ?_
              refine WL.new (dd:=8) rfl rfl rfl (yh (cs:=[(.int .i64 0),(.int .i64 0)]) ym rfl) ?_
              intro zsB _
              refine WL.ya rfl rfl (y9 yj rfl rfl rfl .here rfl rfl rfl) ?_
              refine WL.nil (WX.a (WC.b ?_))
              obtain ⟨zm6,zsC,h⟩:=z8 h
              obtain ⟨zhr,zsD,h⟩:=z8 h
              obtain ⟨z5F,zsE,h⟩:=z8 h
              obtain ⟨z7Q,zmg,h⟩:=z8 h
              refine WC.a (WL.pu rfl ?_)
              refine WL.a (d:=34) rfl rfl rfl (y7 y4 rfl (y6 .here) rfl) ?_
              refine WL.b (dd:=35) rfl rfl rfl (ze (l:=[.tmp 34]) Try.call70 (.cons rfl .nil)) .nil (ccz hz .nil .h1 fun w pz ho=>y4k _ _ _ zsC w pz ) ?_
              refine WL.b (dd:=36) rfl rfl rfl (ze (l:=[.tmp 35]) Try.call65 (.cons rfl .nil)) .nil (ccz hz .nil .h1 fun w pz ho=>y1M _ _ _ zsD w pz ) ?_
              refine WL.yield (dd:=37) (x:=zhr) (h:=()) (g:=z5L) (s:=z3o) (b:=z5F.1) (s':=z5F.2) zcy rfl rfl rfl (.cons rfl .nil) ((.cons .h3 .nil) : Sel _ [z1A z5L z3o] _) zsE zmf (fun w hw=>hz.call hw ((.cons .h3 .nil) : Sel _ [z1A z5L z3o] _)) ?_
              intro zeJ zmh
              refine WL.pu rfl (WL.pu rfl ?_)
              refine WL.y7D (fun (z9f : zR)=>z4h z9f z7Q.2) (fun (z9f : zR)=>[(0,(.func (.yield z4g) #[] #[])),(1,(.pointer (some z5i))),(16,(.slice z7S z1P.length z7T)),(17,(.int .i64 ((z1P.length : Nat) : Int))),(18,(.int .i64 z2O)),(27,(.slice (some ⟨zhG,0,none⟩) z1I.1.length z6H)),(28,(.int .i64 ((z1I.1.length : Nat) : Int))),(29,(.int .i64 z1X)),(46,(.bool z7Q.1))]) (fun (z9f : zR)=>[z1A z9f z7Q.2,stb zsB 30 [(.int .i64 ((nth z1I.1 z1X).fN)),(.int .i64 ((nth z1I.1 z1X).fD))],fz (z3I ++ zcz),row (.slice (some ⟨zhG,0,none⟩) z1I.1.length z6H) 30 2 (z1I.1.flatMap e30)]) 7 ?_ (fun z9f zmi=>?_)
              · rcases Bool.eq_false_or_eq_true (!z5F.1) with hb' | hb'
                · have zmj:=hb'; clear hb'
                  have zhH:=ye zmg zmj
                  replace zhH:=Option.some.inj zhH
                  refine WL.pin (i:=39) rfl zmj ?_
                  refine WL.e rfl rfl rfl (WL.e rfl rfl rfl (WL.e rfl rfl rfl (WL.e rfl rfl rfl (WL.e rfl rfl rfl (WL.e rfl rfl rfl (WL.pu rfl ?_))))))
                  subst zhH
                  exact WL.yF zeJ zmh (.cons rfl (.cons rfl (.cons rfl (.cons rfl (.cons rfl (.cons rfl (.cons rfl (.cons rfl (.cons rfl .nil))))))))) (.cons .here (.cons .here (.cons .here (.cons .here .nil))))
                · have zmk:=hb'; clear hb'
                  have z6I:=yf zmg zmk
                  obtain ⟨zm7,zsF,z6I⟩:=z8 z6I
                  obtain ⟨zhs,zsG,z6I⟩:=z8 z6I
                  obtain ⟨zct,zsH,z6I⟩:=z8 z6I
                  replace z6I:=Option.some.inj z6I
                  refine WL.pin (i:=39) rfl zmk ?_
                  refine WL.pu rfl ?_
                  refine WL.a (d:=41) rfl rfl rfl (y7 y4 rfl (y6 .h1) rfl) ?_
                  refine WL.b (dd:=42) rfl rfl rfl (ze (l:=[.tmp 41]) Try.call71 (.cons rfl .nil)) .nil (ccz hz .nil .h2 fun w pz ho=>y5G _ _ _ zsF w pz ) ?_
                  refine WL.b (dd:=43) rfl rfl rfl (ze (l:=[.tmp 42]) Try.call65 (.cons rfl .nil)) .nil (ccz hz .nil .h2 fun w pz ho=>y1M _ _ _ zsG w pz ) ?_
                  refine WL.yield (dd:=44) (x:=zhs) (h:=()) (g:=zeJ) (s:=z5F.2) (b:=zct.1) (s':=zct.2) zcy rfl rfl rfl (.cons rfl .nil) ((.cons .here .nil) : Sel _ [z1A zeJ z5F.2] _) zsH zmh (fun w hw=>hz.call hw ((.cons .here .nil) : Sel _ [z1A zeJ z5F.2] _)) ?_
                  intro zsI zsJ
                  refine WL.pu rfl (WL.pu rfl ?_)
                  subst z6I
                  exact WL.yF zsI zsJ (.cons rfl (.cons rfl (.cons rfl (.cons rfl (.cons rfl (.cons rfl (.cons rfl (.cons rfl (.cons rfl .nil))))))))) (.cons .here (.cons .here (.cons .here (.cons .here .nil))))
              · skip
                refine WL.nil (WX.a ?_)
                refine WC.cond rfl (fun zhI=>?_) (fun zhI=>?_)
                · replace h:=ye h zhI
                  refine WC.ret (WX.yl (WX.y5 (WX.y5 (WX.yl (WX.y5 (WX.yl (WX.y5 (WX.y5 (WX.yl (WX.y5 ?_))))))))))
                  obtain rfl:=Option.some.inj h
                  refine WX.y8 Try.results69 .nil (fun w hw=>?_)
                  exact ⟨(z3I ++ zcz),z9f,y5p,zmi,hw.sub (.cons .h2 (.cons .here .nil))⟩
                · replace h:=yf h zhI
                  refine WC.skip (WX.yg (WX.a (WC.a (WL.pu rfl (WL.pu rfl (WL.nil ?_))))))
                  exact WX.round (G:=Nat × Int × zg × Option Addr × Nat × zR) ⟨zhq,(i64 (z1X + 1)),z7Q.2,(some ⟨zhG,0,none⟩),z6H,z9f⟩ ⟨h,zmi⟩ (Nat.lt_succ_self _) (.cons rfl (.cons rfl (.cons rfl (.cons rfl (.cons rfl (.cons rfl (.cons rfl (.cons rfl .nil)))))))) (.cons .h2 (.cons .h2 (.cons .here .nil)))
            · replace h:=yf h zhF
              refine WC.exit (WX.yd (WX.yd (WX.yt ?_)))
              exact WX.mid (G:=zg × zR) ⟨z3o,z5L⟩ ⟨h,zmf⟩ (.cons rfl (.cons rfl (.cons rfl (.cons rfl (.cons rfl .nil))))) (.cons .here (.cons .h1 .nil))
          · rintro z5H zaM ⟨h,zsK⟩
            replace h:=(zsA z5H).symm.trans h
            refine WX.yg ?_
            exact WX.mid (G:=zg × Zp × zR) ⟨z5H,(z3I ++ zcz),zaM⟩ ⟨h,((Zle.left _ _).trans (Zle.yi _ _ _)),zsK⟩ (.cons rfl (.cons rfl (.cons rfl (.cons rfl (.cons rfl .nil))))) (.cons .here (.cons .here .nil))
        · rintro z5G zaK zaL ⟨h,zsL,zsM⟩
          replace h:=(zst z5G).symm.trans h
          refine WC.a (WL.pu rfl (WL.pu rfl (WL.nil ?_)))
          exact WX.round (G:=Nat × Int × zg × Zp × zR) ⟨zht,(i64 (z2O + 1)),z5G,zaK,zaL⟩ ⟨h,(zeI.trans zsL),zsM⟩ (Nat.lt_succ_self _) (.cons rfl (.cons rfl (.cons rfl (.cons rfl (.cons rfl .nil))))) (.cons .here (.cons .here .nil))
      · replace h:=yf h zhE
        refine WC.exit (WX.yd (WX.yd (WX.yt ?_)))
        exact WX.mid (G:=zg × Zp × zR) ⟨z3V,z3I,z7U⟩ ⟨h,zeI,zme⟩ (.cons rfl (.cons rfl .nil)) (.cons .here (.cons .here .nil))
    · rintro z5J z5j zaI ⟨h,zml,zsN⟩
      replace h:=(zss z5J).symm.trans h
      refine WC.b (WC.a ?_)
      refine WL.a (d:=49) rfl rfl rfl (y3 ya6 rfl rfl) ?_
      refine WL.a (d:=50) rfl rfl rfl (yb y3s rfl (y1I (hz.pv2 .here) (zma.mono ((Zle.left _ _).trans zml)) rfl)) ?_
      refine WL.a (d:=51) rfl rfl rfl (y1c Try.underlying77 rfl) ?_
      refine WL.pu rfl (WL.nil (WX.a ?_))
      obtain ⟨z6F,zsO,h⟩:=y1n h
      refine WC.y5Q (fun (z6G : zg) (zaP : zR)=>(z6F z6G = some r) ∧ (z4h zaP z6G)) (fun (z6G : zg) (zaP : zR)=>[]) (fun (z6G : zg) (zaP : zR)=>[fz z5j,z1A zaP z6G]) ?_ ?_
      · skip
        refine WC.block ?_
        refine WC.y3Y (fun (zaQ : Nat) (z2v : Int) (z3p : zg) (z5M : zR)=>(yK zg z1Y z1z z6F zaQ z2v z3p = some r) ∧ (z4h z5M z3p)) (fun (zaQ : Nat) (z2v : Int) (z3p : zg) (z5M : zR)=>[(0,(.func (.yield z4g) #[] #[])),(50,(.slice zcw z1Y.length zcx)),(51,(.int .i64 ((z1Y.length : Nat) : Int))),(52,(.int .i64 z2v))]) (fun (zaQ : Nat) (z2v : Int) (z3p : zg) (z5M : zR)=>[fz z5j,z1A z5M z3p]) (fun (zaQ : Nat) (z2v : Int) (z3p : zg) (z5M : zR)=>zaQ) ⟨ys,0,z5J,zaI⟩ ⟨h,zsN⟩ (.cons rfl (.cons rfl (.cons rfl (.cons rfl .nil)))) (.cons .here (.cons .here .nil)) ?_
        rintro zaQ z2v z3p z5M ⟨h,zmm⟩
        obtain ⟨zhv,rfl⟩:=y4h h
        rw [yK] at h
        refine WC.b (WC.a (WL.pu rfl (WL.nil (WX.a (WC.b ?_)))))
        refine WC.cond rfl (fun zhJ=>?_) (fun zhJ=>?_)
        · replace h:=ye h zhJ
          refine WC.skip (WX.a (WC.b (WC.block (WC.b ?_))))
          obtain ⟨zsP,h⟩:=yk h
          refine WC.a ?_
          refine WL.znth (dd:=54) rfl rfl (Z:=(Z ++ z5j)) (Pr:=(fun r x=>r = e30 x)) y1B rfl rfl (zsp.mono ((Zle.left _ _).trans zml)) zsP ?_
          rintro zzi zzj zsQ zzk rfl
          refine WL.a (d:=55) rfl rfl rfl (y7 y4 rfl (y2R (hz.pv2 .here) zsQ) rfl) ?_
          refine WL.new (dd:=10) rfl rfl rfl (yh (cs:=[(.int .i64 0),(.int .i64 0)]) ym rfl) ?_
          intro zsR _
          refine WL.ya rfl rfl (y9 yj rfl rfl rfl .here rfl rfl rfl) ?_
          refine WL.nil (WX.a (WC.b ?_))
          obtain ⟨zm8,zsS,h⟩:=z8 h
          obtain ⟨zhw,zsT,h⟩:=z8 h
          obtain ⟨z5I,zsU,h⟩:=z8 h
          obtain ⟨z7R,zmn,h⟩:=z8 h
          refine WC.a (WL.pu rfl ?_)
          refine WL.a (d:=57) rfl rfl rfl (y7 y4 rfl (y6 .here) rfl) ?_
          refine WL.b (dd:=58) rfl rfl rfl (ze (l:=[.tmp 57]) Try.call70 (.cons rfl .nil)) .nil (ccz hz .nil .h1 fun w pz ho=>y4k _ _ _ zsS w pz ) ?_
          refine WL.b (dd:=59) rfl rfl rfl (ze (l:=[.tmp 58]) Try.call65 (.cons rfl .nil)) .nil (ccz hz .nil .h1 fun w pz ho=>y1M _ _ _ zsT w pz ) ?_
          refine WL.yield (dd:=60) (x:=zhw) (h:=()) (g:=z5M) (s:=z3p) (b:=z5I.1) (s':=z5I.2) zcy rfl rfl rfl (.cons rfl .nil) ((.cons .h2 .nil) : Sel _ [z1A z5M z3p] _) zsU zmm (fun w hw=>hz.call hw ((.cons .h2 .nil) : Sel _ [z1A z5M z3p] _)) ?_
          intro zeK zmo
          refine WL.pu rfl (WL.pu rfl ?_)
          refine WL.y7D (fun (z9g : zR)=>z4h z9g z7R.2) (fun (z9g : zR)=>[(0,(.func (.yield z4g) #[] #[])),(50,(.slice zcw z1Y.length zcx)),(51,(.int .i64 ((z1Y.length : Nat) : Int))),(52,(.int .i64 z2v)),(69,(.bool z7R.1))]) (fun (z9g : zR)=>[z1A z9g z7R.2,stb zsR 30 [(.int .i64 ((nth z1Y z2v).fN)),(.int .i64 ((nth z1Y z2v).fD))],fz z5j]) 7 ?_ (fun z9g zmp=>?_)
          · rcases Bool.eq_false_or_eq_true (!z5I.1) with hb' | hb'
            · have zmq:=hb'; clear hb'
              have zhK:=ye zmn zmq
              replace zhK:=Option.some.inj zhK
              refine WL.pin (i:=62) rfl zmq ?_
              refine WL.e rfl rfl rfl (WL.e rfl rfl rfl (WL.e rfl rfl rfl (WL.e rfl rfl rfl (WL.e rfl rfl rfl (WL.e rfl rfl rfl (WL.pu rfl ?_))))))
              subst zhK
              exact WL.yF zeK zmo (.cons rfl (.cons rfl (.cons rfl (.cons rfl (.cons rfl .nil))))) (.cons .here (.cons .here (.cons .here .nil)))
            · have zmr:=hb'; clear hb'
              have z6J:=yf zmn zmr
              obtain ⟨zm9,zsV,z6J⟩:=z8 z6J
              obtain ⟨zhx,zsW,z6J⟩:=z8 z6J
              obtain ⟨zcu,zsX,z6J⟩:=z8 z6J
              replace z6J:=Option.some.inj z6J
              refine WL.pin (i:=62) rfl zmr ?_
              refine WL.pu rfl ?_
              refine WL.a (d:=64) rfl rfl rfl (y7 y4 rfl (y6 .h1) rfl) ?_
              refine WL.b (dd:=65) rfl rfl rfl (ze (l:=[.tmp 64]) Try.call71 (.cons rfl .nil)) .nil (ccz hz .nil .h2 fun w pz ho=>y5G _ _ _ zsV w pz ) ?_
              refine WL.b (dd:=66) rfl rfl rfl (ze (l:=[.tmp 65]) Try.call65 (.cons rfl .nil)) .nil (ccz hz .nil .h2 fun w pz ho=>y1M _ _ _ zsW w pz ) ?_
              refine WL.yield (dd:=67) (x:=zhx) (h:=()) (g:=zeK) (s:=z5I.2) (b:=zcu.1) (s':=zcu.2) zcy rfl rfl rfl (.cons rfl .nil) ((.cons .here .nil) : Sel _ [z1A zeK z5I.2] _) zsX zmo (fun w hw=>hz.call hw ((.cons .here .nil) : Sel _ [z1A zeK z5I.2] _)) ?_
              intro zsY zsZ
              refine WL.pu rfl (WL.pu rfl ?_)
              subst z6J
              exact WL.yF zsY zsZ (.cons rfl (.cons rfl (.cons rfl (.cons rfl (.cons rfl .nil))))) (.cons .here (.cons .here (.cons .here .nil)))
          · skip
            refine WL.nil (WX.a ?_)
            refine WC.cond rfl (fun zhL=>?_) (fun zhL=>?_)
            · replace h:=ye h zhL
              refine WC.ret (WX.yl (WX.y5 (WX.y5 (WX.yl (WX.y5 ?_)))))
              obtain rfl:=Option.some.inj h
              refine WX.y8 Try.results69 .nil (fun w hw=>?_)
              exact ⟨z5j,z9g,y5p,zmp,hw.sub (.cons .h2 (.cons .here .nil))⟩
            · replace h:=yf h zhL
              refine WC.skip (WX.yg (WX.a (WC.a (WL.pu rfl (WL.pu rfl (WL.nil ?_))))))
              exact WX.round (G:=Nat × Int × zg × zR) ⟨zhv,(i64 (z2v + 1)),z7R.2,z9g⟩ ⟨h,zmp⟩ (Nat.lt_succ_self _) (.cons rfl (.cons rfl (.cons rfl (.cons rfl .nil)))) (.cons .h2 (.cons .here .nil))
        · replace h:=yf h zhJ
          refine WC.exit (WX.yd (WX.yd (WX.yt ?_)))
          exact WX.mid (G:=zg × zR) ⟨z3p,z5M⟩ ⟨h,zmm⟩ .nil (.cons .here (.cons .here .nil))
      · rintro z6G zaP ⟨h,zt0⟩
        replace h:=(zsO z6G).symm.trans h
        obtain rfl:=Option.some.inj h
        refine WX.y4i Try.results69 .nil (fun w hw=>?_)
        exact ⟨z5j,zaP,y5p,zt0,hw.sub (.cons .here (.cons .here .nil))⟩
def y5H (zaR : z2) (zaS : z2) : Option (Int × Int) :=
  some ((i64 (zaR.fN * zaS.fN)),(i64 (zaR.fD * zaS.fD)))
set_option maxRecDepth 20000 in
theorem yau (Z : Zp) (zeL : Addr) (zeM : Addr) (zaR : z2) (zaS : z2) (r : Int × Int)
     (h : y5H zaR zaS = some r) (w₀ : World) (hz : PZ [] w₀ Z)
     (zms : ZC Z zeL [(.int .i64 zaR.fN),(.int .i64 zaR.fD)])
     (zmt : ZC Z zeM [(.int .i64 zaS.fN),(.int .i64 zaS.fD)]) :
    Calls Try.prog 56 #[(.pointer (some zeL)),(.pointer (some zeM))] w₀ fun e w'=>e = .returned (.tuple #[(.int .i64 r.1),(.int .i64 r.2)]) ∧ Hp [] w₀ w' []:=by
  unfold y5H at h
  refine Calls.yc (vs:=[(.pointer (some zeL)),(.pointer (some zeM))]) (pre:=[]) (env:=[(0,(.pointer (some zeL))),(1,(.pointer (some zeM)))]) Try.func56 rfl Try.ntmps56 rfl (Hp.nil w₀ _) rfl ?_
  refine WC.b (WC.a (WL.pu rfl (WL.pu rfl (WL.nil (WX.a (WC.b ?_))))))
  refine WC.y1g (fun i=>[].contains i) [] rfl ?_
  refine WD.a (i:=0) (d:=4) (by kernel_rfl) rfl (z6 (by kernel_rfl)) (z7 (by kernel_rfl)) rfl rfl rfl (fun _=>y3 y1K rfl rfl) ?_
  refine WD.e (i:=1) (d:=5) (by kernel_rfl) rfl (z6 (by kernel_rfl)) (z7 (by kernel_rfl)) rfl rfl rfl (yb yu rfl (y1I hz.pv zms rfl)) ?_
  refine WD.a (i:=2) (d:=6) (by kernel_rfl) rfl (z6 (by kernel_rfl)) (z7 (by kernel_rfl)) rfl rfl rfl (fun _=>y3 y1K rfl rfl) ?_
  refine WD.e (i:=3) (d:=7) (by kernel_rfl) rfl (z6 (by kernel_rfl)) (z7 (by kernel_rfl)) rfl rfl rfl (yb yu rfl (y1I hz.pv zmt rfl)) ?_
  refine WD.a (i:=4) (d:=8) (by kernel_rfl) rfl (z6 (by kernel_rfl)) (z7 (by kernel_rfl)) rfl rfl rfl (fun _=>y44 rfl rfl rfl) ?_
  refine WD.a (i:=5) (d:=9) (by kernel_rfl) rfl (z6 (by kernel_rfl)) (z7 (by kernel_rfl)) rfl rfl rfl (fun _=>y3 y1W rfl rfl) ?_
  refine WD.e (i:=6) (d:=10) (by kernel_rfl) rfl (z6 (by kernel_rfl)) (z7 (by kernel_rfl)) rfl rfl rfl (yb yu rfl (y1I hz.pv zms rfl)) ?_
  refine WD.a (i:=7) (d:=11) (by kernel_rfl) rfl (z6 (by kernel_rfl)) (z7 (by kernel_rfl)) rfl rfl rfl (fun _=>y3 y1W rfl rfl) ?_
  refine WD.e (i:=8) (d:=12) (by kernel_rfl) rfl (z6 (by kernel_rfl)) (z7 (by kernel_rfl)) rfl rfl rfl (yb yu rfl (y1I hz.pv zmt rfl)) ?_
  refine WD.a (i:=9) (d:=13) (by kernel_rfl) rfl (z6 (by kernel_rfl)) (z7 (by kernel_rfl)) rfl rfl rfl (fun _=>y44 rfl rfl rfl) ?_
  refine WD.a (i:=10) (d:=2) (by kernel_rfl) rfl (z6 (by kernel_rfl)) (z7 (by kernel_rfl)) rfl rfl rfl (fun _=>q_z rfl) ?_
  refine WD.a (i:=11) (d:=3) (by kernel_rfl) rfl (z6 (by kernel_rfl)) (z7 (by kernel_rfl)) rfl rfl rfl (fun _=>q_z rfl) ?_
  refine WD.done (by kernel_rfl) ?_
  refine WX.a (WC.ret ?_)
  obtain rfl:=Option.some.inj h
  refine WX.y8 Try.results56 (.tmp rfl (.tmp rfl .nil)) (fun w hw=>?_)
  exact ⟨y1H rfl rfl,hw.sub .nil⟩
def y6w (z4O : z2) (z4P : z2) : Option (z2 × Int) :=
  (y1f z4O).bind fun zmu=>(if !zmu then some true else (y1f z4P).bind fun zmv=>some (!zmv)).bind fun zeN=>if zeN then some ((⟨0,0⟩ : z2),2) else (y5H z4O z4P).bind fun zhM=>(y1U zhM.1 zhM.2).bind fun zhN=>some (zhN.1,zhN.2)
set_option maxRecDepth 20000 in
theorem yaO (Z : Zp)  (z4O : z2) (z4P : z2) (r : z2 × Int)
     (h : y6w z4O z4P = some r) (w₀ : World) (hz : PZ [] w₀ Z) :
    Calls Try.prog 40 #[(.string ⟨#[42]⟩),(.agg #[(.int .i64 z4O.fN),(.int .i64 z4O.fD)]),(.agg #[(.int .i64 z4P.fN),(.int .i64 z4P.fD)])] w₀ fun e w'=>e = .returned (.tuple #[(.agg #[(.int .i64 r.1.fN),(.int .i64 r.1.fD)]),(.int .i64 r.2)]) ∧ Hp [] w₀ w' []:=by
  unfold y6w at h
  refine Calls.yc (vs:=[(.string ⟨#[42]⟩),(.agg #[(.int .i64 z4O.fN),(.int .i64 z4O.fD)]),(.agg #[(.int .i64 z4P.fN),(.int .i64 z4P.fD)])]) (pre:=[]) (env:=[(0,(.string ⟨#[42]⟩)),(1,(.agg #[(.int .i64 z4O.fN),(.int .i64 z4O.fD)])),(2,(.agg #[(.int .i64 z4P.fN),(.int .i64 z4P.fD)]))]) Try.func40 rfl Try.ntmps40 rfl (Hp.nil w₀ _) rfl ?_
  refine WC.b (WC.a ?_)
  refine WL.new (dd:=4) rfl rfl rfl (yI (cs:=[(.int .i64 z4O.fN),(.int .i64 z4O.fD)]) rfl rfl) ?_
  intro zcB _
  refine WL.new (dd:=5) rfl rfl rfl (yI (cs:=[(.int .i64 z4P.fN),(.int .i64 z4P.fD)]) rfl rfl) ?_
  intro zcC _
  refine WL.new (dd:=6) rfl rfl rfl (yh (cs:=[(.int .i64 0),(.int .i64 0)]) ym rfl) ?_
  intro zzl _
  refine WL.pu rfl (WL.nil (WX.a (WC.b (WC.b ?_))))
  obtain ⟨zmu,zt1,h⟩:=z8 h
  obtain ⟨zeN,zmw,h⟩:=z8 h
  refine WC.a ?_
  refine WL.a (d:=9) rfl rfl rfl (y7 y4 rfl (y6 .h2) rfl) ?_
  refine WL.b (dd:=10) rfl rfl rfl (ze (l:=[.tmp 9]) Try.call39 (.cons rfl .nil)) .nil (cc hz .nil fun w pz ho=>y1A _ _ _ zt1 w pz ) ?_
  refine WL.pu rfl (WL.pu rfl ?_)
  refine WL.seg false 3 12 (B:=zeN) rfl rfl rfl rfl rfl rfl (fun h=>(Option.some.inj (ye zmw h)).symm) (fun _ zt2=>?_) ?_
  · skip
    have zcD:=yf zmw zt2
    obtain ⟨zmv,zt3,zcD⟩:=z8 zcD
    replace zcD:=Option.some.inj zcD
    refine WL.a (d:=13) rfl rfl rfl (y7 y4 rfl (y6 .h1) rfl) ?_
    refine WL.b (dd:=14) rfl rfl rfl (ze (l:=[.tmp 13]) Try.call39 (.cons rfl .nil)) .nil (cc hz .nil fun w pz ho=>y1A _ _ _ zt3 w pz ) ?_
    refine WL.pu rfl (WL.pu rfl ?_)
    exact WL.yy zcD rfl rfl .all
  refine WL.pu rfl ?_
  refine WL.seg false 7 17 (B:=zeN) rfl rfl rfl rfl rfl rfl (fun h=>h) (fun _ zt4=>?_) ?_
  · skip
    refine WL.pu rfl ?_
    refine WL.a (d:=19) rfl rfl rfl (y7I (r:=false) (by decide) rfl rfl) ?_
    refine WL.pu rfl (WL.e rfl rfl rfl (WL.e rfl rfl rfl (WL.e rfl rfl rfl (WL.pu rfl (WL.pu rfl ?_)))))
    exact WL.yy (Eq.symm zt4) rfl rfl .all
  refine WL.nil (WX.a ?_)
  refine WC.cond rfl (fun zhO=>?_) (fun zhO=>?_)
  · replace h:=ye h zhO
    refine WC.b (WC.a ?_)
    refine WL.a (d:=26) rfl rfl rfl (yV (v:=(.agg #[(.int .i64 0),(.int .i64 0)])) (Eos.parts (l:=[]) .nil []) (fun _=>by kernel_rfl)) ?_
    refine WL.ya rfl rfl (y9 yj rfl rfl rfl .here rfl rfl rfl) ?_
    refine WL.pu rfl (WL.nil (WX.a (WC.ret (WX.y5 ?_))))
    obtain rfl:=Option.some.inj h
    refine WX.y8 Try.results40 (.agg rfl y4 rfl (y6 .here) (.tmp rfl .nil)) (fun w hw=>?_)
    exact ⟨y1H rfl rfl,hw.sub .nil⟩
  · replace h:=yf h zhO
    refine WC.skip (WX.a (WC.b (WC.a ?_)))
    refine WL.new (dd:=27) rfl rfl rfl (y6t Value.string (fun x=>x)) ?_
    intro zzm _
    refine WL.a (d:=28) rfl rfl rfl (y1b (Eos.caps (l:=[.tmp 4,.tmp 5]) (.cons rfl (.cons rfl .nil)))) ?_
    refine WL.ya rfl rfl (y29 (k:=⟨#[43]⟩) (v:=(.func (.func 54) #[] #[(.pointer (some ⟨zcB,0,none⟩)),(.pointer (some ⟨zcC,0,none⟩))])) y2m Try.underlying105 rfl rfl rfl rfl .here) ?_
    refine WL.a (d:=29) rfl rfl rfl (y1b (Eos.caps (l:=[.tmp 4,.tmp 5]) (.cons rfl (.cons rfl .nil)))) ?_
    refine WL.ya rfl rfl (y29 (k:=⟨#[45]⟩) (v:=(.func (.func 55) #[] #[(.pointer (some ⟨zcB,0,none⟩)),(.pointer (some ⟨zcC,0,none⟩))])) y2m Try.underlying105 rfl rfl rfl rfl .here) ?_
    refine WL.a (d:=30) rfl rfl rfl (y1b (Eos.caps (l:=[.tmp 4,.tmp 5]) (.cons rfl (.cons rfl .nil)))) ?_
    refine WL.ya rfl rfl (y29 (k:=⟨#[42]⟩) (v:=(.func (.func 56) #[] #[(.pointer (some ⟨zcB,0,none⟩)),(.pointer (some ⟨zcC,0,none⟩))])) y2m Try.underlying105 rfl rfl rfl rfl .here) ?_
    refine WL.a (d:=31) rfl rfl rfl (y1b (Eos.caps (l:=[.tmp 4,.tmp 5]) (.cons rfl (.cons rfl .nil)))) ?_
    refine WL.ya rfl rfl (y29 (k:=⟨#[47]⟩) (v:=(.func (.func 57) #[] #[(.pointer (some ⟨zcB,0,none⟩)),(.pointer (some ⟨zcC,0,none⟩))])) y2m Try.underlying105 rfl rfl rfl rfl .here) ?_
    refine WL.pu rfl (WL.pu rfl (WL.nil (WX.a (WC.b ?_))))
    obtain ⟨zhM,zt5,h⟩:=z8 h
    obtain ⟨zhN,zt6,h⟩:=z8 h
    refine WC.a (WL.pu rfl (WL.pu rfl ?_))
    refine WL.a (d:=35) rfl rfl rfl (y7H (k:=⟨#[42]⟩) (dflt:=.nilFunc) (r:=(.func (.func 56) #[] #[(.pointer (some ⟨zcB,0,none⟩)),(.pointer (some ⟨zcC,0,none⟩))])) y2m Try.underlying105 zdQ rfl rfl rfl .here (by rfl)) ?_
    refine WL.b (dd:=36) rfl rfl rfl (y1R (l:=[]) Try.call56 rfl .nil) .nil (ccl hz .nil (.cons .h3 (.cons .h2 .nil)) fun w pz ho la=>yau _ _ _ _ _ _ zt5 w pz ((la _ (.head _) _).stb) ((la _ (.tail _ (.head _)) _).stb)) ?_
    refine WL.pu rfl (WL.pu rfl ?_)
    refine WL.b (dd:=39) rfl rfl rfl (ze (l:=[.tmp 37,.tmp 38]) Try.call9 (.cons rfl (.cons rfl .nil))) .nil (cc hz .nil fun w pz ho=>y3e _ _ _ _ zt6 w pz ) ?_
    refine WL.pu rfl (WL.pu rfl ?_)
    refine WL.ya rfl rfl (y9 yj rfl rfl rfl .h1 rfl rfl rfl) ?_
    refine WL.pu rfl (WL.nil (WX.a (WC.ret ?_)))
    obtain rfl:=Option.some.inj h
    refine WX.y8 Try.results40 (.agg rfl y4 rfl (y6 .here) (.tmp rfl .nil)) (fun w hw=>?_)
    exact ⟨y1H rfl rfl,hw.sub .nil⟩
def y3h (z5k : z2) (z5l : z2) : Option (z2 × Int) :=
  (y6w z5k z5l).bind fun zhP=>some (zhP.1,zhP.2)
set_option maxRecDepth 20000 in
theorem y92 (Z : Zp)  (z5k : z2) (z5l : z2) (r : z2 × Int)
     (h : y3h z5k z5l = some r) (w₀ : World) (hz : PZ [] w₀ Z) :
    Calls Try.prog 25 #[(.agg #[(.int .i64 z5k.fN),(.int .i64 z5k.fD)]),(.agg #[(.int .i64 z5l.fN),(.int .i64 z5l.fD)])] w₀ fun e w'=>e = .returned (.tuple #[(.agg #[(.int .i64 r.1.fN),(.int .i64 r.1.fD)]),(.int .i64 r.2)]) ∧ Hp [] w₀ w' []:=by
  unfold y3h at h
  refine Calls.yc (vs:=[(.agg #[(.int .i64 z5k.fN),(.int .i64 z5k.fD)]),(.agg #[(.int .i64 z5l.fN),(.int .i64 z5l.fD)])]) (pre:=[]) (env:=[(0,(.agg #[(.int .i64 z5k.fN),(.int .i64 z5k.fD)])),(1,(.agg #[(.int .i64 z5l.fN),(.int .i64 z5l.fD)]))]) Try.func25 rfl Try.ntmps25 rfl (Hp.nil w₀ _) rfl ?_
  refine WC.b (WC.a ?_)
  refine WL.new (dd:=2) rfl rfl rfl (yI (cs:=[(.int .i64 z5k.fN),(.int .i64 z5k.fD)]) rfl rfl) ?_
  intro zzn _
  refine WL.new (dd:=3) rfl rfl rfl (yI (cs:=[(.int .i64 z5l.fN),(.int .i64 z5l.fD)]) rfl rfl) ?_
  intro zzo _
  refine WL.new (dd:=4) rfl rfl rfl (yh (cs:=[(.int .i64 0),(.int .i64 0)]) ym rfl) ?_
  intro zzp _
  refine WL.pu rfl (WL.nil (WX.a (WC.b ?_)))
  obtain ⟨zhP,zt7,h⟩:=z8 h
  refine WC.a ?_
  refine WL.a (d:=6) rfl rfl rfl (y7 y4 rfl (y6 .h2) rfl) ?_
  refine WL.a (d:=7) rfl rfl rfl (y7 y4 rfl (y6 .h1) rfl) ?_
  refine WL.b (dd:=8) rfl rfl rfl (ze (l:=[.const (.string ⟨#[42]⟩),.tmp 6,.tmp 7]) Try.call40 (.cons rfl (.cons rfl (.cons rfl .nil)))) .nil (cc hz .nil fun w pz ho=>yaO _ _ _ _ zt7 w pz ) ?_
  refine WL.pu rfl (WL.pu rfl ?_)
  refine WL.ya rfl rfl (y9 yj rfl rfl rfl .here rfl rfl rfl) ?_
  refine WL.pu rfl (WL.nil (WX.a (WC.ret ?_)))
  obtain rfl:=Option.some.inj h
  refine WX.y8 Try.results25 (.agg rfl y4 rfl (y6 .here) (.tmp rfl .nil)) (fun w hw=>?_)
  exact ⟨y1H rfl rfl,hw.sub .nil⟩
def y1m (z7V : zX) (z1x : z1) (z5m : z2) : Option (z2 × zX) :=
  (y1j z7V (fun (y0 : z2) (y1 : z2)=>y3h y0 y1) z1x.fR z5m).bind fun zhQ=>(y1j zhQ.2 (fun (y0 : z2) (y1 : z2)=>y1C y0 y1) z1x.fB zhQ.1).bind fun zhR=>some (zhR.1,zhR.2)
set_option maxRecDepth 20000 in
theorem y7t (Z : Zp) (z6K : Nat) (z7V : zX) (z1x : z1) (z5m : z2) (r : z2 × zX)
     (h : y1m z7V z1x z5m = some r) (w₀ : World) (hz : PZ (fps [stb z6K 90 [(.int .i64 z7V.fE)]]) w₀ Z)
    (hown : Hp (fps [stb z6K 90 [(.int .i64 z7V.fE)]]) w₀ w₀ [stb z6K 90 [(.int .i64 z7V.fE)]]) :
    Calls Try.prog 45 #[(.pointer (some ⟨z6K,0,none⟩)),(.agg #[(.int .i64 z1x.fB.fN),(.int .i64 z1x.fB.fD),(.int .i64 z1x.fR.fN),(.int .i64 z1x.fR.fD)]),(.agg #[(.int .i64 z5m.fN),(.int .i64 z5m.fD)])] w₀ fun e w'=>e = .returned (.agg #[(.int .i64 r.1.fN),(.int .i64 r.1.fD)]) ∧ Hp (fps [stb z6K 90 [(.int .i64 z7V.fE)]]) w₀ w' [stb z6K 90 [(.int .i64 r.2.fE)]]:=by
  unfold y1m at h
  refine Calls.yc (vs:=[(.pointer (some ⟨z6K,0,none⟩)),(.agg #[(.int .i64 z1x.fB.fN),(.int .i64 z1x.fB.fD),(.int .i64 z1x.fR.fN),(.int .i64 z1x.fR.fD)]),(.agg #[(.int .i64 z5m.fN),(.int .i64 z5m.fD)])]) (pre:=[stb z6K 90 [(.int .i64 z7V.fE)]]) (env:=[(0,(.pointer (some ⟨z6K,0,none⟩))),(1,(.agg #[(.int .i64 z1x.fB.fN),(.int .i64 z1x.fB.fD),(.int .i64 z1x.fR.fN),(.int .i64 z1x.fR.fD)])),(2,(.agg #[(.int .i64 z5m.fN),(.int .i64 z5m.fD)]))]) Try.func45 rfl Try.ntmps45 rfl (hown) rfl ?_
  refine WC.b (WC.a ?_)
  refine WL.new (dd:=4) rfl rfl rfl (yI (cs:=[(.int .i64 z1x.fB.fN),(.int .i64 z1x.fB.fD),(.int .i64 z1x.fR.fN),(.int .i64 z1x.fR.fD)]) rfl rfl) ?_
  intro zt8 _
  refine WL.new (dd:=5) rfl rfl rfl (yI (cs:=[(.int .i64 z5m.fN),(.int .i64 z5m.fD)]) rfl rfl) ?_
  intro zzq _
  refine WL.new (dd:=6) rfl rfl rfl (yh (cs:=[(.int .i64 0),(.int .i64 0)]) ym rfl) ?_
  intro zzr _
  refine WL.nil (WX.a (WC.b ?_))
  obtain ⟨zhQ,zt9,h⟩:=z8 h
  obtain ⟨zhR,zta,h⟩:=z8 h
  refine WC.y1g (fun i=>[7,8,9].contains i) [stb zt8 35 [(.int .i64 z1x.fB.fN),(.int .i64 z1x.fB.fD),(.int .i64 z1x.fR.fN),(.int .i64 z1x.fR.fD)]] rfl ?_
  refine WD.a (i:=0) (d:=7) (by kernel_rfl) rfl (z6 (by kernel_rfl)) (z7 (by kernel_rfl)) rfl rfl rfl (fun _=>q_m rfl) ?_
  refine WD.a (i:=1) (d:=8) (by kernel_rfl) rfl (z6 (by kernel_rfl)) (z7 (by kernel_rfl)) rfl rfl rfl (fun _=>y3 y3N rfl rfl) ?_
  refine WD.y2k (i:=2) (d:=9) (by kernel_rfl) rfl (z6 (by kernel_rfl)) (z7 (by kernel_rfl)) rfl rfl rfl (Sin.of (.cons .h2 .nil)) (yv (cs:=[(.int .i64 z1x.fB.fN),(.int .i64 z1x.fB.fD)]) y4 rfl rfl (y1D (s:=2) .here rfl)) ?_
  refine WD.a (i:=3) (d:=10) (by kernel_rfl) rfl (z6 (by kernel_rfl)) (z7 (by kernel_rfl)) rfl rfl rfl (fun _=>q_m rfl) ?_
  refine WD.a (i:=4) (d:=11) (by kernel_rfl) rfl (z6 (by kernel_rfl)) (z7 (by kernel_rfl)) rfl rfl rfl (fun _=>y3 y4D rfl rfl) ?_
  refine WD.e (i:=5) (d:=12) (by kernel_rfl) rfl (z6 (by kernel_rfl)) (z7 (by kernel_rfl)) rfl rfl rfl (yv (cs:=[(.int .i64 z1x.fR.fN),(.int .i64 z1x.fR.fD)]) y4 rfl rfl (y1D (s:=2) .h2 rfl)) ?_
  refine WD.e (i:=6) (d:=13) (by kernel_rfl) rfl (z6 (by kernel_rfl)) (z7 (by kernel_rfl)) rfl rfl rfl (y7 y4 rfl (y6 .h1) rfl) ?_
  refine WD.call0 (i:=7) (dd:=14) rfl (by kernel_rfl) rfl rfl rfl (.inl ⟨rfl,(Sin.of (.cons .h3 .nil))⟩) (ze (l:=[.tmp 10,.func 25,.tmp 12,.tmp 13]) Try.call58 (.cons rfl (.cons rfl (.cons rfl (.cons rfl .nil))))) (.cons .h3 .nil) (cc hz (.cons .h3 .nil) fun w pz ho=>Calls.mono (y3f _ _ (z4E:=25) (z5A:=[]) _ (z6n:=(fun (y0 : z2) (y1 : z2)=>y3h y0 y1)) _ _ _ zt9 w pz Try.call25 (fun w' hz' y0 y1  r  hr=>y92 _ _ _ _ hr w' hz' ) ho) (fun _ _ h'=>⟨h'.1,trivial,h'.2⟩)) ?_
  intro _
  refine WD.call0 (i:=8) (dd:=15) rfl (by kernel_rfl) rfl rfl rfl (.inl ⟨rfl,(Sin.of (.cons .h3 .nil))⟩) (ze (l:=[.tmp 7,.func 19,.tmp 9,.tmp 14]) Try.call58 (.cons rfl (.cons rfl (.cons rfl (.cons rfl .nil))))) (.cons .here .nil) (cc hz (.cons .here .nil) fun w pz ho=>Calls.mono (y3f _ _ (z4E:=19) (z5A:=[]) _ (z6n:=(fun (y0 : z2) (y1 : z2)=>y1C y0 y1)) _ _ _ zta w pz Try.call19 (fun w' hz' y0 y1  r  hr=>y5k _ _ _ _ hr w' hz' ) ho) (fun _ _ h'=>⟨h'.1,trivial,h'.2⟩)) ?_
  intro _
  refine WD.y4V (i:=9) rfl (by kernel_rfl) rfl rfl rfl (by kernel_rfl) (y9 yj rfl rfl rfl .h1 rfl rfl rfl) ?_
  refine WD.done (by kernel_rfl) ?_
  refine WX.a (WC.ret ?_)
  obtain rfl:=Option.some.inj h
  refine WX.y8 Try.results45 (.agg rfl y4 rfl (y6 .here) .nil) (fun w hw=>?_)
  exact ⟨yG rfl,hw.sub (.cons .h1 .nil)⟩
def yP (z1k : List z2) (z5n : z2 → z2 → Option Int) (z6L : Int → Int → Option z2) : Nat → Int → Int → Int → Option z2
  | 0,_,_,_=>none
  | zhS + 1,z1J,z3J,z3K=>if decide (z1J < ((z1k.length : Nat) : Int)) then jp2 (fun (z6M : Int) (z6N : Int)=>yP z1k z5n z6L zhS (i64 (z1J + 1)) z6M z6N) fun zeO=>chk ((0 : Int) ≤ z1J ∧ z1J < ((z1k.length : Nat) : Int)) ((z5n (⟨((nth z1k z1J).fN),((nth z1k z1J).fD)⟩ : z2) (⟨z3J,z3K⟩ : z2)).bind fun zhT=>if decide (zhT < 0) then chk ((0 : Int) ≤ z1J ∧ z1J < ((z1k.length : Nat) : Int)) (zeO ((nth z1k z1J).fN) ((nth z1k z1J).fD)) else zeO z3J z3K) else z6L z3J z3K
theorem y3G {n : Nat} {z1k : List z2} {z5n : z2 → z2 → Option Int} {z6L : Int → Int → Option z2} {z1J : Int} {z3J : Int} {z3K : Int} {r : z2} (h : yP z1k z5n z6L n z1J z3J z3K = some r) : ∃ m,n = m + 1:=by
  cases n with
  | zero=>cases h
  | succ m=>exact ⟨m,rfl⟩
def y1q (z1k : List z2) (z5n : z2 → z2 → Option Int) : Option z2 :=
  if decide (((z1k.length : Nat) : Int) < 1) then none else chk ((0 : Int) ≤ 0 ∧ 0 < ((z1k.length : Nat) : Int)) (jp2 (fun (z7W : Int) (z7X : Int)=>some (⟨z7W,z7X⟩ : z2)) fun z6L=>yP z1k z5n z6L ys 1 ((nth z1k 0).fN) ((nth z1k 0).fD))
set_option maxRecDepth 20000 in
theorem y4w (Z : Zp) (zaT : Option Addr) (zaU : Nat) (z5N : FuncId) (z7Y : List Value) (z1k : List z2) (z5n : z2 → z2 → Option Int) (r : z2)
     (h : y1q z1k z5n = some r) (w₀ : World) (hz : PZ [] w₀ Z)
     (zhU : ZS Z 2 (fun r x=>r = e30 x) zaT zaU z1k)
     (ztb : ∀ args w,(callFunc z5N args).run Try.prog w = .ok (.enter z5N args) w)
     (ztc : ∀ w : World,PZ [] w Z → ∀ (x0 : z2) (x1 : z2) (r : Int),z5n x0 x1 = some r → Calls Try.prog z5N (([(.agg #[(.int .i64 x0.fN),(.int .i64 x0.fD)]),(.agg #[(.int .i64 x1.fN),(.int .i64 x1.fD)])] : List Value) ++ z7Y).toArray w fun e w'=>e = .returned (.int .i64 r) ∧ Hp [] w w' []) :
    Calls Try.prog 46 #[(.slice zaT z1k.length zaU),(.func (.func z5N) #[] (z7Y).toArray)] w₀ fun e w'=>e = .returned (.agg #[(.int .i64 r.fN),(.int .i64 r.fD)]) ∧ Hp [] w₀ w' []:=by
  unfold y1q at h
  refine Calls.yc (vs:=[(.slice zaT z1k.length zaU),(.func (.func z5N) #[] (z7Y).toArray)]) (pre:=[]) (env:=[(0,(.slice zaT z1k.length zaU)),(1,(.func (.func z5N) #[] (z7Y).toArray))]) Try.func46 rfl Try.ntmps46 rfl (Hp.nil w₀ _) rfl ?_
  refine WC.b (WC.a ?_)
  refine WL.new (dd:=4) rfl rfl rfl (yh (cs:=[(.int .i64 0),(.int .i64 0)]) ym rfl) ?_
  intro zaV _
  refine WL.nil (WX.a (WC.b (WC.b (WC.a (WL.pu rfl ?_)))))
  refine WL.a (d:=8) rfl rfl rfl (y1c Try.underlying77 rfl) ?_
  refine WL.pu rfl (WL.nil (WX.a ?_))
  refine WC.cond rfl (fun zhV=>?_) (fun zhV=>?_)
  · replace h:=ye h zhV
    cases h
  · replace h:=yf h zhV
    refine WC.skip (WX.a (WC.b ?_))
    obtain ⟨ztd,h⟩:=yk h
    refine WC.a (WL.pu rfl ?_)
    refine WL.znth (dd:=12) rfl rfl (Z:=Z) (Pr:=(fun r x=>r = e30 x)) y1B rfl rfl zhU ztd ?_
    rintro zzs zzt zte zzu rfl
    refine WL.a (d:=13) rfl rfl rfl (y7 y4 rfl (y2R hz.pv zte) rfl) ?_
    refine WL.new (dd:=5) rfl rfl rfl (yh (cs:=[(.int .i64 0),(.int .i64 0)]) ym rfl) ?_
    intro zaW _
    refine WL.ya rfl rfl (y9 yj rfl rfl rfl .here rfl rfl rfl) ?_
    refine WL.nil (WX.a ?_)
    obtain ⟨z6L,ztf,h⟩:=y3B h
    refine WC.y3A (fun (z7W : Int) (z7X : Int)=>(z6L z7W z7X = some r)) (fun (z7W : Int) (z7X : Int)=>[(4,(.pointer (some ⟨zaV,0,none⟩))),(5,(.pointer (some ⟨zaW,0,none⟩)))]) (fun (z7W : Int) (z7X : Int)=>[stb zaV 30 [(.int .i64 0),(.int .i64 0)],stb zaW 30 [(.int .i64 z7W),(.int .i64 z7X)]]) ?_ ?_
    · skip
      refine WC.b (WC.a (WL.pu rfl (WL.nil (WX.a (WC.block ?_)))))
      refine WC.y3Y (fun (zaX : Nat) (z1J : Int) (z3J : Int) (z3K : Int)=>(yP z1k z5n z6L zaX z1J z3J z3K = some r)) (fun (zaX : Nat) (z1J : Int) (z3J : Int) (z3K : Int)=>[(0,(.slice zaT z1k.length zaU)),(1,(.func (.func z5N) #[] (z7Y).toArray)),(4,(.pointer (some ⟨zaV,0,none⟩))),(5,(.pointer (some ⟨zaW,0,none⟩))),(6,(.int .i64 z1J))]) (fun (zaX : Nat) (z1J : Int) (z3J : Int) (z3K : Int)=>[stb zaV 30 [(.int .i64 0),(.int .i64 0)],stb zaW 30 [(.int .i64 z3J),(.int .i64 z3K)]]) (fun (zaX : Nat) (z1J : Int) (z3J : Int) (z3K : Int)=>zaX) ⟨ys,1,((nth z1k 0).fN),((nth z1k 0).fD)⟩ h (.cons rfl (.cons rfl (.cons rfl (.cons rfl (.cons rfl .nil))))) (.cons .h1 (.cons .here .nil)) ?_
      rintro zaX z1J z3J z3K h
      obtain ⟨zhS,rfl⟩:=y3G h
      rw [yP] at h
      refine WC.b (WC.b (WC.a (WL.pu rfl (WL.pu rfl ?_))))
      refine WL.a (d:=16) rfl rfl rfl (y1c Try.underlying77 rfl) ?_
      refine WL.pu rfl (WL.nil (WX.a ?_))
      refine WC.cond rfl (fun zhW=>?_) (fun zhW=>?_)
      · replace h:=ye h zhW
        refine WC.skip (WX.a ?_)
        obtain ⟨zeO,ztg,h⟩:=y3B h
        refine WC.y3A (fun (z6M : Int) (z6N : Int)=>(zeO z6M z6N = some r)) (fun (z6M : Int) (z6N : Int)=>[(0,(.slice zaT z1k.length zaU)),(1,(.func (.func z5N) #[] (z7Y).toArray)),(4,(.pointer (some ⟨zaV,0,none⟩))),(5,(.pointer (some ⟨zaW,0,none⟩))),(6,(.int .i64 z1J))]) (fun (z6M : Int) (z6N : Int)=>[stb zaV 30 [(.int .i64 0),(.int .i64 0)],stb zaW 30 [(.int .i64 z6M),(.int .i64 z6N)]]) ?_ ?_
        · skip
          refine WC.block (WC.b ?_)
          obtain ⟨zth,h⟩:=yk h
          obtain ⟨zhT,zti,h⟩:=z8 h
          refine WC.y1g (fun i=>[].contains i) [] rfl ?_
          refine WD.a (i:=0) (d:=20) (by kernel_rfl) rfl (z6 (by kernel_rfl)) (z7 (by kernel_rfl)) rfl rfl rfl (fun _=>q_m rfl) ?_
          refine WD.a (i:=1) (d:=21) (by kernel_rfl) rfl (z6 (by kernel_rfl)) (z7 (by kernel_rfl)) rfl rfl rfl (fun _=>q_m rfl) ?_
          refine WD.a (i:=2) (d:=22) (by kernel_rfl) rfl (z6 (by kernel_rfl)) (z7 (by kernel_rfl)) rfl rfl rfl (fun _=>q_m rfl) ?_
          refine WD.znth (j:=3) (dd:=23) (by kernel_rfl) rfl (z6 (by kernel_rfl)) (z7 (by kernel_rfl)) rfl rfl (Z:=Z) (Pr:=(fun r x=>r = e30 x)) y1B rfl rfl zhU zth ?_
          rintro zzv zzw ztj zzx rfl
          refine WD.e (i:=4) (d:=24) (by kernel_rfl) rfl (z6 (by kernel_rfl)) (z7 (by kernel_rfl)) rfl rfl rfl (y7 y4 rfl (y2R hz.pv ztj) rfl) ?_
          refine WD.e (i:=5) (d:=25) (by kernel_rfl) rfl (z6 (by kernel_rfl)) (z7 (by kernel_rfl)) rfl rfl rfl (y7 y4 rfl (y6 .h1) rfl) ?_
          refine WD.c (i:=6) (d:=26) (by kernel_rfl) rfl (z6 (by kernel_rfl)) (z7 (by kernel_rfl)) rfl rfl rfl (y1R (l:=[.tmp 24,.tmp 25]) (f:=z5N) (caps:=z7Y) ztb rfl (.cons rfl (.cons rfl .nil))) (fun w hw=>ztc w (hz.now hw) (⟨((nth z1k z1J).fN),((nth z1k z1J).fD)⟩ : z2) (⟨z3J,z3K⟩ : z2) zhT  zti) ?_
          refine WD.a (i:=7) (d:=27) (by kernel_rfl) rfl (z6 (by kernel_rfl)) (z7 (by kernel_rfl)) rfl rfl rfl (fun _=>y6q rfl rfl) ?_
          refine WD.done (by kernel_rfl) ?_
          refine WX.a ?_
          refine WC.cond rfl (fun zhX=>?_) (fun zhX=>?_)
          · replace h:=ye h zhX
            obtain ⟨ztk,h⟩:=yk h
            refine WC.a (WL.pu rfl (WL.pu rfl ?_))
            refine WL.znth (dd:=30) rfl rfl (Z:=Z) (Pr:=(fun r x=>r = e30 x)) y1B rfl rfl zhU ztk ?_
            rintro zzy zzz ztl zzA rfl
            refine WL.a (d:=31) rfl rfl rfl (y7 y4 rfl (y2R hz.pv ztl) rfl) ?_
            refine WL.ya rfl rfl (y9 yj rfl rfl rfl .h1 rfl rfl rfl) ?_
            refine WL.nil (WX.yg ?_)
            exact WX.mid (G:=Int × Int) ⟨((nth z1k z1J).fN),((nth z1k z1J).fD)⟩ h (.cons rfl (.cons rfl (.cons rfl (.cons rfl (.cons rfl .nil))))) (.cons .h1 (.cons .here .nil))
          · replace h:=yf h zhX
            refine WC.skip (WX.yg ?_)
            exact WX.mid (G:=Int × Int) ⟨z3J,z3K⟩ h (.cons rfl (.cons rfl (.cons rfl (.cons rfl (.cons rfl .nil))))) (.cons .here (.cons .here .nil))
        · rintro z6M z6N h
          replace h:=(ztg z6M z6N).symm.trans h
          refine WC.a (WL.pu rfl (WL.pu rfl (WL.pu rfl (WL.nil ?_))))
          exact WX.round (G:=Nat × Int × Int × Int) ⟨zhS,(i64 (z1J + 1)),z6M,z6N⟩ h (Nat.lt_succ_self _) (.cons rfl (.cons rfl (.cons rfl (.cons rfl (.cons rfl .nil))))) (.cons .here (.cons .here .nil))
      · replace h:=yf h zhW
        refine WC.exit (WX.yd (WX.yd (WX.yt ?_)))
        exact WX.mid (G:=Int × Int) ⟨z3J,z3K⟩ h (.cons rfl (.cons rfl .nil)) (.cons .here (.cons .here .nil))
    · rintro z7W z7X h
      replace h:=(ztf z7W z7X).symm.trans h
      refine WC.b (WC.a ?_)
      refine WL.a (d:=32) rfl rfl rfl (y7 y4 rfl (y6 .h1) rfl) ?_
      refine WL.ya rfl rfl (y9 yj rfl rfl rfl .here rfl rfl rfl) ?_
      refine WL.nil (WX.a (WC.ret ?_))
      obtain rfl:=Option.some.inj h
      refine WX.y8 Try.results46 (.agg rfl y4 rfl (y6 .here) .nil) (fun w hw=>?_)
      exact ⟨yG rfl,hw.sub .nil⟩
def y1P (z2w : List z1) (z2C : z2) (z6O : (List z2) → Int → Option (z2 × Int)) : Nat → (List z2) → Int → Int → Option (z2 × Int)
  | 0,_,_,_=>none
  | zhY + 1,z2Z,z30,z4Q=>if decide (z30 < ((z2w.length : Nat) : Int)) then chk ((0 : Int) ≤ z30 ∧ z30 < ((z2w.length : Nat) : Int)) ((y1m (⟨z4Q⟩ : zX) (⟨(⟨(((nth z2w z30).fB).fN),(((nth z2w z30).fB).fD)⟩ : z2),(⟨(((nth z2w z30).fR).fN),(((nth z2w z30).fR).fD)⟩ : z2)⟩ : z1) z2C).bind fun z6P=>chk ((((z2Z ++ ([z6P.1] : List z2)).length : Nat) : Int) * 16 ≤ 140737488355328 ∧ (((z2Z ++ ([z6P.1] : List z2)).length : Nat) : Int) ≤ 4611686018427387904) (y1P z2w z2C z6O zhY (z2Z ++ ([z6P.1] : List z2)) (i64 (z30 + 1)) z6P.2.fE)) else z6O z2Z z4Q
theorem y7u {n : Nat} {z2w : List z1} {z2C : z2} {z6O : (List z2) → Int → Option (z2 × Int)} {z2Z : List z2} {z30 : Int} {z4Q : Int} {r : z2 × Int} (h : y1P z2w z2C z6O n z2Z z30 z4Q = some r) : ∃ m,n = m + 1:=by
  cases n with
  | zero=>cases h
  | succ m=>exact ⟨m,rfl⟩
def y3i (z2w : List z1) (z2C : z2) : Option (z2 × Int) :=
  (y2g z2w).bind fun zmx=>(if !zmx then some true else (y2W z2C).bind fun zmy=>some (!zmy)).bind fun zhZ=>if zhZ then some ((⟨0,0⟩ : z2),2) else jp2 (fun (z5O : List z2) (z5P : Int)=>if decide (z5P ≠ 0) then some ((⟨0,0⟩ : z2),z5P) else (y1q z5O (fun (y0 : z2) (y1 : z2)=>yQ y0 y1)).bind fun zmz=>some (zmz,0)) fun z6O=>y1P z2w z2C z6O ys ([] : List z2) 0 0
set_option maxRecDepth 20000 in
theorem y8s (Z : Zp) (zcE : Option Addr) (zcF : Nat) (z2w : List z1) (z2C : z2) (r : z2 × Int)
     (h : y3i z2w z2C = some r) (w₀ : World) (hz : PZ [] w₀ Z)
     (zmA : ZS Z 4 (fun r x=>r = e35 x) zcE zcF z2w) :
    Calls Try.prog 22 #[(.slice zcE z2w.length zcF),(.agg #[(.int .i64 z2C.fN),(.int .i64 z2C.fD)])] w₀ fun e w'=>e = .returned (.tuple #[(.agg #[(.int .i64 r.1.fN),(.int .i64 r.1.fD)]),(.int .i64 r.2)]) ∧ Hp [] w₀ w' []:=by
  unfold y3i at h
  refine Calls.yc (vs:=[(.slice zcE z2w.length zcF),(.agg #[(.int .i64 z2C.fN),(.int .i64 z2C.fD)])]) (pre:=[]) (env:=[(0,(.slice zcE z2w.length zcF)),(1,(.agg #[(.int .i64 z2C.fN),(.int .i64 z2C.fD)]))]) Try.func22 rfl Try.ntmps22 rfl (Hp.nil w₀ _) rfl ?_
  refine WC.b (WC.a ?_)
  refine WL.new (dd:=3) rfl rfl rfl (yI (cs:=[(.int .i64 z2C.fN),(.int .i64 z2C.fD)]) rfl rfl) ?_
  intro zmB _
  refine WL.new (dd:=4) rfl rfl rfl (yh (cs:=[(.int .i64 0),(.int .i64 0)]) ym rfl) ?_
  intro zeP _
  refine WL.pu rfl (WL.nil (WX.a (WC.b (WC.b ?_))))
  obtain ⟨zmx,ztm,h⟩:=z8 h
  obtain ⟨zhZ,zmC,h⟩:=z8 h
  refine WC.a (WL.pu rfl ?_)
  refine WL.b (dd:=11) rfl rfl rfl (ze (l:=[.tmp 10]) Try.call30 (.cons rfl .nil)) .nil (cc hz .nil fun w pz ho=>y3J _ _ _ _ _ ztm w pz zmA) ?_
  refine WL.pu rfl (WL.pu rfl ?_)
  refine WL.seg false 3 13 (B:=zhZ) rfl rfl rfl rfl rfl rfl (fun h=>(Option.some.inj (ye zmC h)).symm) (fun _ ztn=>?_) ?_
  · skip
    have zcG:=yf zmC ztn
    obtain ⟨zmy,zto,zcG⟩:=z8 zcG
    replace zcG:=Option.some.inj zcG
    refine WL.a (d:=14) rfl rfl rfl (y7 y4 rfl (y6 .h1) rfl) ?_
    refine WL.b (dd:=15) rfl rfl rfl (ze (l:=[.tmp 14]) Try.call44 (.cons rfl .nil)) .nil (cc hz .nil fun w pz ho=>y68 _ _ _ zto w pz ) ?_
    refine WL.pu rfl (WL.pu rfl ?_)
    exact WL.yy zcG rfl rfl .all
  refine WL.nil (WX.a ?_)
  refine WC.cond rfl (fun zi0=>?_) (fun zi0=>?_)
  · replace h:=ye h zi0
    refine WC.b (WC.a ?_)
    refine WL.a (d:=18) rfl rfl rfl (yV (v:=(.agg #[(.int .i64 0),(.int .i64 0)])) (Eos.parts (l:=[]) .nil []) (fun _=>by kernel_rfl)) ?_
    refine WL.ya rfl rfl (y9 yj rfl rfl rfl .here rfl rfl rfl) ?_
    refine WL.pu rfl (WL.nil (WX.a (WC.ret (WX.y5 ?_))))
    obtain rfl:=Option.some.inj h
    refine WX.y8 Try.results22 (.agg rfl y4 rfl (y6 .here) (.tmp rfl .nil)) (fun w hw=>?_)
    exact ⟨y1H rfl rfl,hw.sub .nil⟩
  · replace h:=yf h zi0
    refine WC.skip (WX.a (WC.b (WC.a ?_)))
    refine WL.new (dd:=6) rfl rfl rfl (yh (cs:=[(.int .i64 0)]) y9u rfl) ?_
    intro zcH _
    refine WL.nil (WX.a (WC.b (WC.a (WL.pu rfl (WL.nil (WX.a ?_))))))
    obtain ⟨z6O,ztp,h⟩:=y3B h
    refine WC.y4O (fun (z5O : List z2) (z5P : Int) (zcI : Option Addr) (zcJ : Nat)=>(z6O z5O z5P = some r)) (fun (z5O : List z2) (z5P : Int) (zcI : Option Addr) (zcJ : Nat)=>[(4,(.pointer (some ⟨zeP,0,none⟩))),(6,(.pointer (some ⟨zcH,0,none⟩))),(7,(.slice zcI z5O.length zcJ))]) (fun (z5O : List z2) (z5P : Int) (zcI : Option Addr) (zcJ : Nat)=>[row (.slice zcI z5O.length zcJ) 30 2 (z5O.flatMap e30),stb zeP 30 [(.int .i64 0),(.int .i64 0)],stb zcH 90 [(.int .i64 z5P)]]) ?_ ?_
    · skip
      refine WC.b (WC.a (WL.pu rfl ?_))
      refine WL.a (d:=20) rfl rfl rfl (y1c Try.underlying39 rfl) ?_
      refine WL.pu rfl (WL.nil (WX.a (WC.block ?_)))
      refine WC.nilRow 30 2 ?_
      refine WC.y4s (fun (zaY : Nat) (z2Z : List z2) (z30 : Int) (z4Q : Int) (z9h : Option Addr) (z9i : Nat)=>(y1P z2w z2C z6O zaY z2Z z30 z4Q = some r)) (fun (zaY : Nat) (z2Z : List z2) (z30 : Int) (z4Q : Int) (z9h : Option Addr) (z9i : Nat)=>[(3,(.pointer (some ⟨zmB,0,none⟩))),(4,(.pointer (some ⟨zeP,0,none⟩))),(6,(.pointer (some ⟨zcH,0,none⟩))),(7,(.slice z9h z2Z.length z9i)),(19,(.slice zcE z2w.length zcF)),(20,(.int .i64 ((z2w.length : Nat) : Int))),(21,(.int .i64 z30))]) (fun (zaY : Nat) (z2Z : List z2) (z30 : Int) (z4Q : Int) (z9h : Option Addr) (z9i : Nat)=>[row (.slice z9h z2Z.length z9i) 30 2 (z2Z.flatMap e30),stb zmB 30 [(.int .i64 z2C.fN),(.int .i64 z2C.fD)],stb zeP 30 [(.int .i64 0),(.int .i64 0)],stb zcH 90 [(.int .i64 z4Q)]]) (fun (zaY : Nat) (z2Z : List z2) (z30 : Int) (z4Q : Int) (z9h : Option Addr) (z9i : Nat)=>zaY) ⟨ys,([] : List z2),0,0,none,0⟩ h (.cons rfl (.cons rfl (.cons rfl (.cons rfl (.cons rfl (.cons rfl (.cons rfl .nil))))))) (.cons .here (.cons .h2 (.cons .h1 (.cons .here .nil)))) ?_
      rintro zaY z2Z z30 z4Q z9h z9i h
      obtain ⟨zhY,rfl⟩:=y7u h
      rw [y1P] at h
      refine WC.b (WC.a (WL.pu rfl (WL.nil (WX.a (WC.b ?_)))))
      refine WC.cond rfl (fun zi1=>?_) (fun zi1=>?_)
      · replace h:=ye h zi1
        refine WC.skip (WX.a (WC.b (WC.block (WC.b ?_))))
        obtain ⟨ztq,h⟩:=yk h
        refine WC.a ?_
        refine WL.znth (dd:=23) rfl rfl (Z:=Z) (Pr:=(fun r x=>r = e35 x)) y2d rfl rfl zmA ztq ?_
        rintro zzB zzC ztr zzD rfl
        refine WL.a (d:=24) rfl rfl rfl (y7 y1x rfl (y2R hz.pv ztr) rfl) ?_
        refine WL.new (dd:=9) rfl rfl rfl (yh (cs:=[(.int .i64 0),(.int .i64 0),(.int .i64 0),(.int .i64 0)]) y3D rfl) ?_
        intro zzE _
        refine WL.ya rfl rfl (y9 y3M rfl rfl rfl .here rfl rfl rfl) ?_
        refine WL.nil (WX.a ?_)
        obtain ⟨z6P,zts,h⟩:=z8 h
        obtain ⟨ztt,h⟩:=yk h
        refine WC.a (WL.pu rfl ?_)
        refine WL.a (d:=26) rfl rfl rfl (y7 y1x rfl (y6 .here) rfl) ?_
        refine WL.a (d:=27) rfl rfl rfl (y7 y4 rfl (y6 .h2) rfl) ?_
        refine WL.b (dd:=28) rfl rfl rfl (ze (l:=[.tmp 6,.tmp 26,.tmp 27]) Try.call45 (.cons rfl (.cons rfl (.cons rfl .nil)))) (.cons .h4 .nil) (cc hz (.cons .h4 .nil) fun w pz ho=>y7t _ _ _ _ _ _ zts w pz  ho) ?_
        refine WL.new (dd:=29) rfl rfl rfl (yp (cs:=([z6P.1] : List z2).flatMap e30) y1B (Eos.parts (l:=[.tmp 28]) (.cons rfl .nil) [0]) (fun _=>by kernel_rfl) rfl (by unfold maxLen; omega)) ?_
        intro zzF _
        refine WL.eff (d:=30) rfl rfl rfl (y5d (enc:=e30) (l1:=z2Z) (l2:=([z6P.1] : List z2)) y1B rfl rfl .h3 (fun _=>rfl) rfl rfl (y61 .here) (y5O y8n _) ztt) ?_
        rintro ⟨ztu,ztv⟩ _
        refine WL.pu rfl (WL.nil (WX.yg (WX.a (WC.a (WL.pu rfl (WL.pu rfl (WL.nil ?_)))))))
        exact WX.round (G:=Nat × List z2 × Int × Int × Option Addr × Nat) ⟨zhY,(z2Z ++ ([z6P.1] : List z2)),(i64 (z30 + 1)),z6P.2.fE,ztu,ztv⟩ h (Nat.lt_succ_self _) (.cons rfl (.cons rfl (.cons rfl (.cons rfl (.cons rfl (.cons rfl (.cons rfl .nil))))))) (.cons .here (.cons .h3 (.cons .h3 (.cons .h1 .nil))))
      · replace h:=yf h zi1
        refine WC.exit (WX.yd (WX.yd (WX.yt ?_)))
        exact WX.mid (G:=List z2 × Int × Option Addr × Nat) ⟨z2Z,z4Q,z9h,z9i⟩ h (.cons rfl (.cons rfl (.cons rfl .nil))) (.cons .here (.cons .h1 (.cons .h1 .nil)))
    · rintro z5O z5P zcI zcJ h
      replace h:=(ztp z5O z5P).symm.trans h
      refine WC.b (WC.b (WC.a ?_))
      refine WL.a (d:=32) rfl rfl rfl (y3 y5S rfl rfl) ?_
      refine WL.a (d:=33) rfl rfl rfl (yb y2B rfl (yq .h2 rfl)) ?_
      refine WL.pu rfl (WL.nil (WX.a ?_))
      refine WC.cond rfl (fun zi2=>?_) (fun zi2=>?_)
      · replace h:=ye h zi2
        refine WC.b ?_
        refine WC.y1g (fun i=>[3].contains i) [stbp zcH 90 [(0,(.int .i64 z5P))]] rfl ?_
        refine WD.a (i:=0) (d:=35) (by kernel_rfl) rfl (z6 (by kernel_rfl)) (z7 (by kernel_rfl)) rfl rfl rfl (fun _=>yV (v:=(.agg #[(.int .i64 0),(.int .i64 0)])) (Eos.parts (l:=[]) .nil []) (fun _=>by kernel_rfl)) ?_
        refine WD.a (i:=1) (d:=36) (by kernel_rfl) rfl (z6 (by kernel_rfl)) (z7 (by kernel_rfl)) rfl rfl rfl (fun _=>y3 y5S rfl rfl) ?_
        refine WD.y2k (i:=2) (d:=37) (by kernel_rfl) rfl (z6 (by kernel_rfl)) (z7 (by kernel_rfl)) rfl rfl rfl (Sin.wk (.cons .h2 .nil) (.stb (.cons rfl .nil) .nil)) (yb y2B rfl (y7G .here (.head _))) ?_
        refine WD.forced0 (i:=3) rfl (by kernel_rfl) rfl rfl rfl (Sin.wk (.cons .h2 .nil) (.stb (.cons rfl .nil) .nil)) (y9 yj rfl rfl rfl .h1 rfl rfl rfl) ?_
        refine WD.a (i:=4) (d:=5) (by kernel_rfl) rfl (z6 (by kernel_rfl)) (z7 (by kernel_rfl)) rfl rfl rfl (fun _=>q_z rfl) ?_
        refine WD.done (by kernel_rfl) ?_
        refine WX.a (WC.ret (WX.y5 ?_))
        obtain rfl:=Option.some.inj h
        refine WX.y8 Try.results22 (.agg rfl y4 rfl (y6 .here) (.tmp rfl .nil)) (fun w hw=>?_)
        exact ⟨y1H rfl rfl,hw.sub .nil⟩
      · replace h:=yf h zi2
        refine WC.skip (WX.a (WC.b ?_))
        obtain ⟨zmz,ztw,h⟩:=z8 h
        refine WC.a (WL.pu rfl ?_)
        refine WL.b (dd:=39) rfl rfl rfl (ze (l:=[.tmp 38,.func 18]) Try.call46 (.cons rfl (.cons rfl .nil))) .nil (ccl hz .nil (.cons .here .nil) fun w pz ho la=>y4w _ _ _ (z5N:=18) (z7Y:=[]) _ (z5n:=(fun (y0 : z2) (y1 : z2)=>yQ y0 y1)) _ ztw w pz (ZA.row (la _ (.head _) _) (RR.flat (enc:=e30) (fun _=>rfl) _) ⟨w,pz.1⟩) Try.call18 (fun w' hz' y0 y1  r  hr=>y1Y _ _ _ _ hr w' hz' )) ?_
        refine WL.ya rfl rfl (y9 yj rfl rfl rfl .h1 rfl rfl rfl) ?_
        refine WL.pu rfl (WL.nil (WX.a (WC.ret ?_)))
        obtain rfl:=Option.some.inj h
        refine WX.y8 Try.results22 (.agg rfl y4 rfl (y6 .here) (.tmp rfl .nil)) (fun w hw=>?_)
        exact ⟨y1H rfl rfl,hw.sub .nil⟩
def y1i (z2P : List (List z1)) (z2x : z2) (z6Q : Int → Int → Int → Option (z2 × zX)) : Nat → Int → Int → Int → Int → Option (z2 × zX)
  | 0,_,_,_,_=>none
  | zi3 + 1,z3q,z3W,z4i,z4j=>if decide (z3q < ((z2P.length : Nat) : Int)) then chk ((0 : Int) ≤ z3q ∧ z3q < ((z2P.length : Nat) : Int)) ((y3i (nth z2P z3q) z2x).bind fun zaZ=>jp1 (fun (z7Z : Int)=>(y10 (⟨z7Z⟩ : zX) (fun (y0 : z2) (y1 : z2)=>y1C y0 y1) (⟨z4i,z4j⟩ : z2) zaZ.1).bind fun z9j=>y1i z2P z2x z6Q zi3 (i64 (z3q + 1)) z9j.2.fE z9j.1.fN z9j.1.fD) fun zeQ=>if decide (z3W = 0) then zeQ zaZ.2 else zeQ z3W) else z6Q z4i z4j z3W
theorem y4T {n : Nat} {z2P : List (List z1)} {z2x : z2} {z6Q : Int → Int → Int → Option (z2 × zX)} {z3q : Int} {z3W : Int} {z4i : Int} {z4j : Int} {r : z2 × zX} (h : y1i z2P z2x z6Q n z3q z3W z4i z4j = some r) : ∃ m,n = m + 1:=by
  cases n with
  | zero=>cases h
  | succ m=>exact ⟨m,rfl⟩
def y1X (z6R : zX) (z2P : List (List z1)) (z2x : z2) : Option (z2 × zX) :=
  (y1E).bind fun zcK=>jp3 (fun (z80 : Int) (z81 : Int) (z82 : Int)=>some ((⟨z80,z81⟩ : z2),(⟨z82⟩ : zX))) fun z6Q=>y1i z2P z2x z6Q ys 0 z6R.fE zcK.fN zcK.fD
set_option maxRecDepth 20000 in
theorem y4F (Z : Zp) (z3X : Nat) (zb0 : Option Addr) (zb1 : Nat) (z6R : zX) (z2P : List (List z1)) (z2x : z2) (r : z2 × zX)
     (h : y1X z6R z2P z2x = some r) (w₀ : World) (hz : PZ (fps [stb z3X 98 [(.int .i64 z6R.fE)]]) w₀ Z)
     (ztx : ZS Z 1 (p39 Z) zb0 zb1 z2P)
    (hown : Hp (fps [stb z3X 98 [(.int .i64 z6R.fE)]]) w₀ w₀ [stb z3X 98 [(.int .i64 z6R.fE)]]) :
    Calls Try.prog 35 #[(.pointer (some ⟨z3X,0,none⟩)),(.slice zb0 z2P.length zb1),(.agg #[(.int .i64 z2x.fN),(.int .i64 z2x.fD)])] w₀ fun e w'=>e = .returned (.agg #[(.int .i64 r.1.fN),(.int .i64 r.1.fD)]) ∧ Hp (fps [stb z3X 98 [(.int .i64 z6R.fE)]]) w₀ w' [stb z3X 98 [(.int .i64 r.2.fE)]]:=by
  unfold y1X at h
  refine Calls.yc (vs:=[(.pointer (some ⟨z3X,0,none⟩)),(.slice zb0 z2P.length zb1),(.agg #[(.int .i64 z2x.fN),(.int .i64 z2x.fD)])]) (pre:=[stb z3X 98 [(.int .i64 z6R.fE)]]) (env:=[(0,(.pointer (some ⟨z3X,0,none⟩))),(1,(.slice zb0 z2P.length zb1)),(2,(.agg #[(.int .i64 z2x.fN),(.int .i64 z2x.fD)]))]) Try.func35 rfl Try.ntmps35 rfl (hown) rfl ?_
  refine WC.b (WC.a ?_)
  refine WL.new (dd:=5) rfl rfl rfl (yI (cs:=[(.int .i64 z2x.fN),(.int .i64 z2x.fD)]) rfl rfl) ?_
  intro zeR _
  refine WL.new (dd:=6) rfl rfl rfl (yh (cs:=[(.int .i64 0),(.int .i64 0)]) ym rfl) ?_
  intro zb2 _
  refine WL.nil (WX.a (WC.b ?_))
  obtain ⟨zcK,zty,h⟩:=z8 h
  refine WC.a ?_
  refine WL.b (dd:=12) rfl rfl rfl (ze (l:=[]) Try.call51 .nil) .nil (cc hz .nil fun w pz ho=>y2t _ _ zty w pz ) ?_
  refine WL.new (dd:=7) rfl rfl rfl (yh (cs:=[(.int .i64 0),(.int .i64 0)]) ym rfl) ?_
  intro zb3 _
  refine WL.ya rfl rfl (y9 yj rfl rfl rfl .here rfl rfl rfl) ?_
  refine WL.nil (WX.a ?_)
  obtain ⟨z6Q,ztz,h⟩:=y83 h
  refine WC.y2G (fun (z80 : Int) (z81 : Int) (z82 : Int)=>(z6Q z80 z81 z82 = some r)) (fun (z80 : Int) (z81 : Int) (z82 : Int)=>[(6,(.pointer (some ⟨zb2,0,none⟩))),(7,(.pointer (some ⟨zb3,0,none⟩)))]) (fun (z80 : Int) (z81 : Int) (z82 : Int)=>[stb zb2 30 [(.int .i64 0),(.int .i64 0)],stb zb3 30 [(.int .i64 z80),(.int .i64 z81)],stb z3X 98 [(.int .i64 z82)]]) ?_ ?_
  · skip
    refine WC.b (WC.a (WL.pu rfl ?_))
    refine WL.a (d:=14) rfl rfl rfl (y1c Try.underlying26 rfl) ?_
    refine WL.pu rfl (WL.nil (WX.a (WC.block ?_)))
    refine WC.y4r (fun (zb4 : Nat) (z3q : Int) (z3W : Int) (z4i : Int) (z4j : Int)=>(y1i z2P z2x z6Q zb4 z3q z3W z4i z4j = some r)) (fun (zb4 : Nat) (z3q : Int) (z3W : Int) (z4i : Int) (z4j : Int)=>[(0,(.pointer (some ⟨z3X,0,none⟩))),(5,(.pointer (some ⟨zeR,0,none⟩))),(6,(.pointer (some ⟨zb2,0,none⟩))),(7,(.pointer (some ⟨zb3,0,none⟩))),(13,(.slice zb0 z2P.length zb1)),(14,(.int .i64 ((z2P.length : Nat) : Int))),(15,(.int .i64 z3q))]) (fun (zb4 : Nat) (z3q : Int) (z3W : Int) (z4i : Int) (z4j : Int)=>[stb z3X 98 [(.int .i64 z3W)],stb zeR 30 [(.int .i64 z2x.fN),(.int .i64 z2x.fD)],stb zb2 30 [(.int .i64 0),(.int .i64 0)],stb zb3 30 [(.int .i64 z4i),(.int .i64 z4j)]]) (fun (zb4 : Nat) (z3q : Int) (z3W : Int) (z4i : Int) (z4j : Int)=>zb4) ⟨ys,0,z6R.fE,zcK.fN,zcK.fD⟩ h (.cons rfl (.cons rfl (.cons rfl (.cons rfl (.cons rfl (.cons rfl (.cons rfl .nil))))))) (.cons .h3 (.cons .h2 (.cons .h1 (.cons .here .nil)))) ?_
    rintro zb4 z3q z3W z4i z4j h
    obtain ⟨zi3,rfl⟩:=y4T h
    rw [y1i] at h
    refine WC.b (WC.a (WL.pu rfl (WL.nil (WX.a (WC.b ?_)))))
    refine WC.cond rfl (fun zi4=>?_) (fun zi4=>?_)
    · replace h:=ye h zi4
      refine WC.skip (WX.a (WC.b (WC.block (WC.b ?_))))
      obtain ⟨ztA,h⟩:=yk h
      refine WC.a ?_
      refine WL.znth (dd:=17) rfl rfl (Z:=Z) (Pr:=(p39 Z)) y2x rfl rfl ztx ztA ?_
      rintro zzG zzH ztB zzI ⟨zzJ,zzK,rfl,ztC⟩
      refine WL.a (d:=18) rfl rfl rfl (yb y4E rfl (y4P hz.pv ztB rfl)) ?_
      refine WL.pu rfl (WL.nil (WX.a (WC.b ?_)))
      obtain ⟨zaZ,ztD,h⟩:=z8 h
      refine WC.a (WL.pu rfl ?_)
      refine WL.a (d:=21) rfl rfl rfl (y7 y4 rfl (y6 .h1) rfl) ?_
      refine WL.b (dd:=22) rfl rfl rfl (ze (l:=[.tmp 20,.tmp 21]) Try.call22 (.cons rfl (.cons rfl .nil))) .nil (cc hz .nil fun w pz ho=>y8s _ _ _ _ _ _ ztD w pz ztC) ?_
      refine WL.pu rfl (WL.pu rfl (WL.pu rfl ?_))
      refine WL.new (dd:=10) rfl rfl rfl (yh (cs:=[(.int .i64 0),(.int .i64 0)]) ym rfl) ?_
      intro zmD _
      refine WL.ya rfl rfl (y9 yj rfl rfl rfl .here rfl rfl rfl) ?_
      refine WL.pu rfl (WL.nil (WX.a ?_))
      obtain ⟨zeQ,ztE,h⟩:=y1n h
      refine WC.y3a (fun (z7Z : Int)=>(zeQ z7Z = some r)) (fun (z7Z : Int)=>[(0,(.pointer (some ⟨z3X,0,none⟩))),(5,(.pointer (some ⟨zeR,0,none⟩))),(6,(.pointer (some ⟨zb2,0,none⟩))),(7,(.pointer (some ⟨zb3,0,none⟩))),(10,(.pointer (some ⟨zmD,0,none⟩))),(13,(.slice zb0 z2P.length zb1)),(14,(.int .i64 ((z2P.length : Nat) : Int))),(15,(.int .i64 z3q))]) (fun (z7Z : Int)=>[stb z3X 98 [(.int .i64 z7Z)],stb zeR 30 [(.int .i64 z2x.fN),(.int .i64 z2x.fD)],stb zb2 30 [(.int .i64 0),(.int .i64 0)],stb zb3 30 [(.int .i64 z4i),(.int .i64 z4j)],stb zmD 30 [(.int .i64 zaZ.1.fN),(.int .i64 zaZ.1.fD)]]) ?_ ?_
      · skip
        refine WC.b (WC.a (WL.pu rfl ?_))
        refine WL.a (d:=26) rfl rfl rfl (y43 rfl) ?_
        refine WL.a (d:=27) rfl rfl rfl (y3 y33 rfl rfl) ?_
        refine WL.a (d:=28) rfl rfl rfl (yb y2B rfl (yq .h1 rfl)) ?_
        refine WL.pu rfl (WL.nil (WX.a ?_))
        refine WC.cond rfl (fun zi5=>?_) (fun zi5=>?_)
        · replace h:=ye h zi5
          refine WC.a (WL.pu rfl (WL.pu rfl ?_))
          refine WL.a (d:=32) rfl rfl rfl (y43 rfl) ?_
          refine WL.a (d:=33) rfl rfl rfl (y3 y33 rfl rfl) ?_
          refine WL.ya rfl rfl (y9 y8J rfl rfl rfl .h1 rfl rfl rfl) ?_
          refine WL.nil ?_
          exact WX.mid (G:=Int) zaZ.2 h (.cons rfl (.cons rfl (.cons rfl (.cons rfl (.cons rfl (.cons rfl (.cons rfl (.cons rfl .nil)))))))) (.cons .here (.cons .h1 (.cons .h1 (.cons .h1 (.cons .here .nil)))))
        · replace h:=yf h zi5
          refine WC.skip ?_
          exact WX.mid (G:=Int) z3W h (.cons rfl (.cons rfl (.cons rfl (.cons rfl (.cons rfl (.cons rfl (.cons rfl (.cons rfl .nil)))))))) (.cons .h1 (.cons .h1 (.cons .h1 (.cons .h1 (.cons .here .nil)))))
      · rintro z7Z h
        replace h:=(ztE z7Z).symm.trans h
        obtain ⟨z9j,ztF,h⟩:=z8 h
        refine WC.a (WL.pu rfl ?_)
        refine WL.a (d:=35) rfl rfl rfl (y7 y4 rfl (y6 .h3) rfl) ?_
        refine WL.a (d:=36) rfl rfl rfl (y7 y4 rfl (y6 .h4) rfl) ?_
        refine WL.b (dd:=37) rfl rfl rfl (ze (l:=[.tmp 34,.func 19,.tmp 35,.tmp 36]) Try.call33 (.cons rfl (.cons rfl (.cons rfl (.cons rfl .nil))))) (.cons .here .nil) (cc hz (.cons .here .nil) fun w pz ho=>y1z _ _ (z3m:=19) (z3U:=[]) _ (z4f:=(fun (y0 : z2) (y1 : z2)=>y1C y0 y1)) _ _ _ ztF w pz Try.call19 (fun w' hz' y0 y1  r  hr=>y5k _ _ _ _ hr w' hz' ) ho) ?_
        refine WL.ya rfl rfl (y9 yj rfl rfl rfl .h3 rfl rfl rfl) ?_
        refine WL.nil (WX.yg (WX.a (WC.a (WL.pu rfl (WL.pu rfl (WL.nil ?_))))))
        exact WX.round (G:=Nat × Int × Int × Int × Int) ⟨zi3,(i64 (z3q + 1)),z9j.2.fE,z9j.1.fN,z9j.1.fD⟩ h (Nat.lt_succ_self _) (.cons rfl (.cons rfl (.cons rfl (.cons rfl (.cons rfl (.cons rfl (.cons rfl .nil))))))) (.cons .h1 (.cons .h1 (.cons .h1 (.cons .here .nil))))
    · replace h:=yf h zi4
      refine WC.exit (WX.yd (WX.yd (WX.yt ?_)))
      exact WX.mid (G:=Int × Int × Int) ⟨z4i,z4j,z3W⟩ h (.cons rfl (.cons rfl .nil)) (.cons .h2 (.cons .h2 (.cons .here .nil)))
  · rintro z80 z81 z82 h
    replace h:=(ztz z80 z81 z82).symm.trans h
    refine WC.b (WC.a ?_)
    refine WL.a (d:=39) rfl rfl rfl (y7 y4 rfl (y6 .h1) rfl) ?_
    refine WL.ya rfl rfl (y9 yj rfl rfl rfl .here rfl rfl rfl) ?_
    refine WL.nil (WX.a (WC.ret ?_))
    obtain rfl:=Option.some.inj h
    refine WX.y8 Try.results35 (.agg rfl y4 rfl (y6 .here) .nil) (fun w hw=>?_)
    exact ⟨yG rfl,hw.sub (.cons .h2 .nil)⟩
def y2K (z83 : zX) (z3Y : z2) (zcL : List (List z1)) (z4R : zSv) : Option (z2 × zX) :=
  (y1X z83 zcL z3Y).bind fun zi6=>(y10 zi6.2 (fun (y0 : z2) (y1 : z2)=>y2I y0 y1) zi6.1 z4R.fR).bind fun zi7=>(y10 zi7.2 (fun (y0 : z2) (y1 : z2)=>y1y y0 y1) zi7.1 z3Y).bind fun zi8=>(y10 zi8.2 (fun (y0 : z2) (y1 : z2)=>y1C y0 y1) zi8.1 z4R.fLatency).bind fun zi9=>some (zi9.1,zi9.2)
set_option maxRecDepth 20000 in
theorem y7v (Z : Zp) (z6S : Nat) (zeS : Addr) (zmE : Option Addr) (zmF : Nat) (zeT : Addr) (z83 : zX) (z3Y : z2) (zcL : List (List z1)) (z4R : zSv) (r : z2 × zX)
     (h : y2K z83 z3Y zcL z4R = some r) (w₀ : World) (hz : PZ (fps [stb z6S 98 [(.int .i64 z83.fE)]]) w₀ Z)
     (ztG : ZS Z 1 (p39 Z) zmE zmF zcL)
     (ztH : ZC Z zeS [(.slice zmE zcL.length zmF)])
     (zmG : ZC Z zeT [(.int .i64 z4R.fR.fN),(.int .i64 z4R.fR.fD),(.int .i64 z4R.fLatency.fN),(.int .i64 z4R.fLatency.fD)])
    (hown : Hp (fps [stb z6S 98 [(.int .i64 z83.fE)]]) w₀ w₀ [stb z6S 98 [(.int .i64 z83.fE)]]) :
    Calls Try.prog 32 #[(.pointer (some ⟨z6S,0,none⟩)),(.agg #[(.int .i64 z3Y.fN),(.int .i64 z3Y.fD)]),(.pointer (some zeS)),(.pointer (some zeT))] w₀ fun e w'=>e = .returned (.agg #[(.int .i64 r.1.fN),(.int .i64 r.1.fD)]) ∧ Hp (fps [stb z6S 98 [(.int .i64 z83.fE)]]) w₀ w' [stb z6S 98 [(.int .i64 r.2.fE)]]:=by
  unfold y2K at h
  refine Calls.yc (vs:=[(.pointer (some ⟨z6S,0,none⟩)),(.agg #[(.int .i64 z3Y.fN),(.int .i64 z3Y.fD)]),(.pointer (some zeS)),(.pointer (some zeT))]) (pre:=[stb z6S 98 [(.int .i64 z83.fE)]]) (env:=[(0,(.pointer (some ⟨z6S,0,none⟩))),(1,(.agg #[(.int .i64 z3Y.fN),(.int .i64 z3Y.fD)])),(2,(.pointer (some zeS))),(3,(.pointer (some zeT)))]) Try.func32 rfl Try.ntmps32 rfl (hown) rfl ?_
  refine WC.b (WC.a ?_)
  refine WL.new (dd:=5) rfl rfl rfl (yI (cs:=[(.int .i64 z3Y.fN),(.int .i64 z3Y.fD)]) rfl rfl) ?_
  intro ztI _
  refine WL.new (dd:=6) rfl rfl rfl (yh (cs:=[(.int .i64 0),(.int .i64 0)]) ym rfl) ?_
  intro zzL _
  refine WL.nil (WX.a (WC.b ?_))
  obtain ⟨zi6,ztJ,h⟩:=z8 h
  obtain ⟨zi7,ztK,h⟩:=z8 h
  obtain ⟨zi8,ztL,h⟩:=z8 h
  obtain ⟨zi9,ztM,h⟩:=z8 h
  refine WC.y1g (fun i=>[6,9,11,14,15].contains i) [stb ztI 30 [(.int .i64 z3Y.fN),(.int .i64 z3Y.fD)]] rfl ?_
  refine WD.a (i:=0) (d:=7) (by kernel_rfl) rfl (z6 (by kernel_rfl)) (z7 (by kernel_rfl)) rfl rfl rfl (fun _=>q_m rfl) ?_
  refine WD.a (i:=1) (d:=8) (by kernel_rfl) rfl (z6 (by kernel_rfl)) (z7 (by kernel_rfl)) rfl rfl rfl (fun _=>q_m rfl) ?_
  refine WD.a (i:=2) (d:=9) (by kernel_rfl) rfl (z6 (by kernel_rfl)) (z7 (by kernel_rfl)) rfl rfl rfl (fun _=>q_m rfl) ?_
  refine WD.a (i:=3) (d:=10) (by kernel_rfl) rfl (z6 (by kernel_rfl)) (z7 (by kernel_rfl)) rfl rfl rfl (fun _=>q_m rfl) ?_
  refine WD.e (i:=4) (d:=11) (by kernel_rfl) rfl (z6 (by kernel_rfl)) (z7 (by kernel_rfl)) rfl rfl rfl (yb y2L rfl (y4P hz.pv ztH rfl)) ?_
  refine WD.e (i:=5) (d:=12) (by kernel_rfl) rfl (z6 (by kernel_rfl)) (z7 (by kernel_rfl)) rfl rfl rfl (y7 y4 rfl (y6 .h1) rfl) ?_
  refine WD.a (i:=7) (d:=14) (by kernel_rfl) rfl (z6 (by kernel_rfl)) (z7 (by kernel_rfl)) rfl rfl rfl (fun _=>y3 y52 rfl rfl) ?_
  refine WD.y2k (i:=8) (d:=15) (by kernel_rfl) rfl (z6 (by kernel_rfl)) (z7 (by kernel_rfl)) rfl rfl rfl (Sin.of (.cons .h1 .nil)) (yv (cs:=[(.int .i64 z4R.fR.fN),(.int .i64 z4R.fR.fD)]) y4 rfl rfl (y6L (off:=0) (s:=2) hz.pv zmG rfl)) ?_
  refine WD.y2k (i:=10) (d:=17) (by kernel_rfl) rfl (z6 (by kernel_rfl)) (z7 (by kernel_rfl)) rfl rfl rfl (Sin.of (.cons .h1 .nil)) (y7 y4 rfl (y6 .here) rfl) ?_
  refine WD.a (i:=12) (d:=19) (by kernel_rfl) rfl (z6 (by kernel_rfl)) (z7 (by kernel_rfl)) rfl rfl rfl (fun _=>y3 y53 rfl rfl) ?_
  refine WD.y2k (i:=13) (d:=20) (by kernel_rfl) rfl (z6 (by kernel_rfl)) (z7 (by kernel_rfl)) rfl rfl rfl (Sin.of (.cons .h1 .nil)) (yv (cs:=[(.int .i64 z4R.fLatency.fN),(.int .i64 z4R.fLatency.fD)]) y4 rfl rfl (y6L (off:=2) (s:=2) hz.pv zmG rfl)) ?_
  refine WD.call0 (i:=6) (dd:=13) rfl (by kernel_rfl) rfl rfl rfl (.inl ⟨rfl,(Sin.of (.cons .h2 .nil))⟩) (ze (l:=[.tmp 10,.tmp 11,.tmp 12]) Try.call35 (.cons rfl (.cons rfl (.cons rfl .nil)))) (.cons .h2 .nil) (cc hz (.cons .h2 .nil) fun w pz ho=>Calls.mono (y4F _ _ _ _ _ _ _ _ ztJ w pz ztG ho) (fun _ _ h'=>⟨h'.1,trivial,h'.2⟩)) ?_
  intro _
  refine WD.call0 (i:=9) (dd:=16) rfl (by kernel_rfl) rfl rfl rfl (.inl ⟨rfl,(Sin.of (.cons .h2 .nil))⟩) (ze (l:=[.tmp 9,.func 34,.tmp 13,.tmp 15]) Try.call33 (.cons rfl (.cons rfl (.cons rfl (.cons rfl .nil))))) (.cons .here .nil) (cc hz (.cons .here .nil) fun w pz ho=>Calls.mono (y1z _ _ (z3m:=34) (z3U:=[]) _ (z4f:=(fun (y0 : z2) (y1 : z2)=>y2I y0 y1)) _ _ _ ztK w pz Try.call34 (fun w' hz' y0 y1  r  hr=>y91 _ _ _ _ hr w' hz' ) ho) (fun _ _ h'=>⟨h'.1,trivial,h'.2⟩)) ?_
  intro _
  refine WD.call0 (i:=11) (dd:=18) rfl (by kernel_rfl) rfl rfl rfl (.inl ⟨rfl,(Sin.of (.cons .h2 .nil))⟩) (ze (l:=[.tmp 8,.func 24,.tmp 16,.tmp 17]) Try.call33 (.cons rfl (.cons rfl (.cons rfl (.cons rfl .nil))))) (.cons .here .nil) (cc hz (.cons .here .nil) fun w pz ho=>Calls.mono (y1z _ _ (z3m:=24) (z3U:=[]) _ (z4f:=(fun (y0 : z2) (y1 : z2)=>y1y y0 y1)) _ _ _ ztL w pz Try.call24 (fun w' hz' y0 y1  r  hr=>y5j _ _ _ _ hr w' hz' ) ho) (fun _ _ h'=>⟨h'.1,trivial,h'.2⟩)) ?_
  intro _
  refine WD.call0 (i:=14) (dd:=21) rfl (by kernel_rfl) rfl rfl rfl (.inl ⟨rfl,(Sin.of (.cons .h2 .nil))⟩) (ze (l:=[.tmp 7,.func 19,.tmp 18,.tmp 20]) Try.call33 (.cons rfl (.cons rfl (.cons rfl (.cons rfl .nil))))) (.cons .here .nil) (cc hz (.cons .here .nil) fun w pz ho=>Calls.mono (y1z _ _ (z3m:=19) (z3U:=[]) _ (z4f:=(fun (y0 : z2) (y1 : z2)=>y1C y0 y1)) _ _ _ ztM w pz Try.call19 (fun w' hz' y0 y1  r  hr=>y5k _ _ _ _ hr w' hz' ) ho) (fun _ _ h'=>⟨h'.1,trivial,h'.2⟩)) ?_
  intro _
  refine WD.y4V (i:=15) rfl (by kernel_rfl) rfl rfl rfl (by kernel_rfl) (y9 yj rfl rfl rfl .h1 rfl rfl rfl) ?_
  refine WD.done (by kernel_rfl) ?_
  refine WX.a (WC.ret ?_)
  obtain rfl:=Option.some.inj h
  refine WX.y8 Try.results32 (.agg rfl y4 rfl (y6 .here) .nil) (fun w hw=>?_)
  exact ⟨yG rfl,hw.sub (.cons .h1 .nil)⟩
end Go.Proofs.Ytakfmdiiehcbdaa

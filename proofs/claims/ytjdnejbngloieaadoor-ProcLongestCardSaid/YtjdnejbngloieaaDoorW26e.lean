/- A part of this claim's proof: models of functions, walks, plain laws. No conditions. -/
import Derived.Test.YtjdnejbngloieaaDoorW26d
namespace Go.Proofs.YtjdnejbngloieaaDoor
open Go Go.RowKit Sep
set_option linter.all false
set_option maxRecDepth 30000
set_option maxHeartbeats 4000000
def y1o (z4s : Int) (z3V : List Sapi_Ins) (z2g : List Int) (z7h : Option Int) : Nat → (List Int) → Int → Int → Int → Int → Int → Int → Int → Option Int
 | 0,_,_,_,_,_,_,_,_=>none
 | zhm + 1,z2a,z2B,z7i,z82,z83,z84,z85,z86=>if decide (z2B ≤ z4s) then jp7 (fun (z7j : List Int) (z9G : Int) (z9H : Int) (z9I : Int) (z9J : Int) (z9K : Int) (z9L : Int)=>y1o z4s z3V z2g z7h zhm z7j (i64 (z2B + 1)) z9G z9H z9I z9J z9K z9L) fun zdD=>if decide (z7i = ((z3V.length : Nat) : Int)) then some z2B else (y3i z3V (⟨z7i,z82,(⟨z83,z84,z85,z86⟩ : S34)⟩ : Sproc_State) z2a).bind fun zQ=>jp1 (fun (zbn : Bool)=>if zbn then some (i64 (z2B + 1)) else if decide (zQ.2.fKind = 1) then chk ((0 : Int) ≤ zQ.2.fA ∧ zQ.2.fA < ((z2a.length : Nat) : Int)) (zdD (z2a.set (zQ.2.fA : Int).toNat (u8 zQ.2.fB)) zQ.1.fPc zQ.1.fLeft zQ.1.fRegs.a0 zQ.1.fRegs.a1 zQ.1.fRegs.a2 zQ.1.fRegs.a3) else jp1 (fun (zbo : Bool)=>if zbo then if decide (((z2g.length : Nat) : Int) = 0) then (y37 z3V zQ.1 []).bind fun z5p=>zdD z2a z5p.fPc z5p.fLeft z5p.fRegs.a0 z5p.fRegs.a1 z5p.fRegs.a2 z5p.fRegs.a3 else chk ((((z2g.length : Nat) : Int) : Int) ≠ 0) (chk ((0 : Int) ≤ (Int.tmod z2B ((z2g.length : Nat) : Int)) ∧ (Int.tmod z2B ((z2g.length : Nat) : Int) : Int) ≤ (min (i64 ((i64 ((Int.tmod z2B ((z2g.length : Nat) : Int)) + 1)) + (Int.tmod z2B 2))) ((z2g.length : Nat) : Int)) ∧ (min (i64 ((i64 ((Int.tmod z2B ((z2g.length : Nat) : Int)) + 1)) + (Int.tmod z2B 2))) ((z2g.length : Nat) : Int)) ≤ ((z2g.length : Nat) : Int)) ((y37 z3V zQ.1 ((z2g.take ((min (i64 ((i64 ((Int.tmod z2B ((z2g.length : Nat) : Int)) + 1)) + (Int.tmod z2B 2))) ((z2g.length : Nat) : Int)) : Int).toNat).drop ((Int.tmod z2B ((z2g.length : Nat) : Int)) : Int).toNat)).bind fun z5q=>zdD z2a z5q.fPc z5q.fLeft z5q.fRegs.a0 z5q.fRegs.a1 z5q.fRegs.a2 z5q.fRegs.a3)) else zdD z2a zQ.1.fPc zQ.1.fLeft zQ.1.fRegs.a0 zQ.1.fRegs.a1 zQ.1.fRegs.a2 zQ.1.fRegs.a3) fun zeq=>if decide (zQ.2.fKind = 3) then zeq (decide (zQ.2.fKind = 3)) else if decide (zQ.2.fKind = 10) then zeq (decide (zQ.2.fKind = 10)) else zeq (decide (zQ.2.fKind = 12))) fun zfa=>if decide (zQ.2.fKind = 14) then zfa (decide (zQ.2.fKind = 14)) else zfa (decide (zQ.2.fKind = 16)) else z7h
theorem y5F {n : Nat} {z4s : Int} {z3V : List Sapi_Ins} {z2g : List Int} {z7h : Option Int} {z2a : List Int} {z2B : Int} {z7i : Int} {z82 : Int} {z83 : Int} {z84 : Int} {z85 : Int} {z86 : Int} {r : Int} (h : y1o z4s z3V z2g z7h n z2a z2B z7i z82 z83 z84 z85 z86 = some r) : ∃ m,n = m + 1:=by
 cases n with
 | zero=>cases h
 | succ m=>exact ⟨m,rfl⟩
def y3R (z3V : List Sapi_Ins) (z1x : Sproc_State) (z7k : List Int) (z2g : List Int) (z4s : Int) : Option Int :=
 chk ((((([] : List Int) ++ z7k).length : Nat) : Int) * 1 ≤ 140737488355328 ∧ (((([] : List Int) ++ z7k).length : Nat) : Int) ≤ 4611686018427387904) (jp0 (some (-1)) fun z7h=>y1o z4s z3V z2g z7h y1K (([] : List Int) ++ z7k) 0 z1x.fPc z1x.fLeft z1x.fRegs.a0 z1x.fRegs.a1 z1x.fRegs.a2 z1x.fRegs.a3)
set_option maxRecDepth 20000 in
theorem y7n (Z : Zp) (zbp : Option Addr) (zbq : Nat) (zfb : Option Addr) (zfc : Nat) (zbr : Option Addr) (zbs : Nat) (z3V : List Sapi_Ins) (z1x : Sproc_State) (z7k : List Int) (z2g : List Int) (z4s : Int) (r : Int)
  (h : y3R z3V z1x z7k z2g z4s = some r) (w₀ : World) (hz : PZ [] w₀ Z)
  (hG0 : ZC Z ⟨0,0,none⟩ y67)
  (hG1 : ZS Z 1 (p74 Z) (some ⟨1,0,none⟩) 26 y17)
  (zhn : ZS Z 4 (fun r x=>r = e33 x) zbp zbq z3V)
  (zws : ZS Z 1 (fun r x=>r = e5 x) zfb zfc z7k)
  (zwt : ZS Z 1 (fun r x=>r = e5 x) zbr zbs z2g) :
  Calls Tryd.prog 20 #[(.slice zbp z3V.length zbq),(.agg #[(.int .i64 z1x.fPc),(.int .i64 z1x.fLeft),(.int .u8 z1x.fRegs.a0),(.int .u8 z1x.fRegs.a1),(.int .u8 z1x.fRegs.a2),(.int .u8 z1x.fRegs.a3)]),(.slice zfb z7k.length zfc),(.slice zbr z2g.length zbs),(.int .i64 z4s)] w₀ fun e w'=>e = .returned (.int .i64 r) ∧ Hp [] w₀ w' []:=by
 unfold y3R at h
 refine Calls.y8 (vs:=[(.slice zbp z3V.length zbq),(.agg #[(.int .i64 z1x.fPc),(.int .i64 z1x.fLeft),(.int .u8 z1x.fRegs.a0),(.int .u8 z1x.fRegs.a1),(.int .u8 z1x.fRegs.a2),(.int .u8 z1x.fRegs.a3)]),(.slice zfb z7k.length zfc),(.slice zbr z2g.length zbs),(.int .i64 z4s)]) (pre:=[]) (env:=[(0,(.slice zbp z3V.length zbq)),(1,(.agg #[(.int .i64 z1x.fPc),(.int .i64 z1x.fLeft),(.int .u8 z1x.fRegs.a0),(.int .u8 z1x.fRegs.a1),(.int .u8 z1x.fRegs.a2),(.int .u8 z1x.fRegs.a3)])),(2,(.slice zfb z7k.length zfc)),(3,(.slice zbr z2g.length zbs)),(4,(.int .i64 z4s))]) Tryd.func20 rfl Tryd.ntmps20 rfl (Hp.nil w₀ _) rfl ?_
 refine WC.b (WC.a ?_)
 refine WL.new (dd:=6) rfl rfl rfl (y3m (cs:=[(.int .i64 z1x.fPc),(.int .i64 z1x.fLeft),(.int .u8 z1x.fRegs.a0),(.int .u8 z1x.fRegs.a1),(.int .u8 z1x.fRegs.a2),(.int .u8 z1x.fRegs.a3)]) rfl rfl) ?_
 intro zbt _
 refine WL.pu rfl (WL.nil (WX.a (WC.b ?_)))
 obtain ⟨zwu,h⟩:=ya h
 refine WC.a ?_
 refine WL.new (dd:=16) rfl rfl rfl (yy (cs:=([] : List Int).flatMap e5) y1v (Eos.parts (l:=[]) .nil []) (fun _=>by kernel_rfl) rfl (by unfold maxLen; omega)) ?_
 intro zy8 _
 refine WL.pu rfl ?_
 refine WL.eff (d:=18) rfl rfl rfl (y40 (enc:=e5) (l1:=([] : List Int)) (l2:=z7k) y1v rfl rfl .here (fun _=>rfl) rfl rfl (news_z hz.pv zws) (y46 e5_oc _) zwu) ?_
 rintro ⟨zbu,z87⟩ _
 refine WL.pu rfl (WL.nil (WX.a ?_))
 obtain ⟨z7h,zwv,h⟩:=y3U h
 refine WC.y3n ((z7h = some r)) ([]) ([]) ?_ ?_
 ·skip
  refine WC.b (WC.a (WL.pu rfl (WL.nil (WX.a (WC.block ?_)))))
  refine WC.loop9 (fun (zdE : Nat) (z2a : List Int) (z2B : Int) (z7i : Int) (z82 : Int) (z83 : Int) (z84 : Int) (z85 : Int) (z86 : Int)=>(y1o z4s z3V z2g z7h zdE z2a z2B z7i z82 z83 z84 z85 z86 = some r)) (fun (zdE : Nat) (z2a : List Int) (z2B : Int) (z7i : Int) (z82 : Int) (z83 : Int) (z84 : Int) (z85 : Int) (z86 : Int)=>[(0,(.slice zbp z3V.length zbq)),(3,(.slice zbr z2g.length zbs)),(4,(.int .i64 z4s)),(6,(.pointer (some ⟨zbt,0,none⟩))),(11,(.slice zbu z2a.length z87)),(12,(.int .i64 z2B))]) (fun (zdE : Nat) (z2a : List Int) (z2B : Int) (z7i : Int) (z82 : Int) (z83 : Int) (z84 : Int) (z85 : Int) (z86 : Int)=>[row (.slice zbu z2a.length z87) 5 1 (z2a.flatMap e5),stb zbt 39 [(.int .i64 z7i),(.int .i64 z82),(.int .u8 z83),(.int .u8 z84),(.int .u8 z85),(.int .u8 z86)]]) (fun (zdE : Nat) (z2a : List Int) (z2B : Int) (z7i : Int) (z82 : Int) (z83 : Int) (z84 : Int) (z85 : Int) (z86 : Int)=>zdE) ⟨y1K,(([] : List Int) ++ z7k),0,z1x.fPc,z1x.fLeft,z1x.fRegs.a0,z1x.fRegs.a1,z1x.fRegs.a2,z1x.fRegs.a3⟩ h (.cons rfl (.cons rfl (.cons rfl (.cons rfl (.cons rfl (.cons rfl .nil)))))) (.cons .here (.cons .here .nil)) ?_
  rintro zdE z2a z2B z7i z82 z83 z84 z85 z86 h
  obtain ⟨zhm,rfl⟩:=y5F h
  rw [y1o] at h
  refine WC.b (WC.b (WC.a (WL.pu rfl (WL.pu rfl (WL.pu rfl (WL.nil (WX.a ?_)))))))
  refine WC.cond rfl (fun zho=>?_) (fun zho=>?_)
  ·replace h:=yl h zho
   refine WC.skip (WX.a ?_)
   obtain ⟨zdD,zww,h⟩:=jp7_elim h
   refine WC.y7S (fun (z7j : List Int) (z9G : Int) (z9H : Int) (z9I : Int) (z9J : Int) (z9K : Int) (z9L : Int)=>(zdD z7j z9G z9H z9I z9J z9K z9L = some r)) (fun (z7j : List Int) (z9G : Int) (z9H : Int) (z9I : Int) (z9J : Int) (z9K : Int) (z9L : Int)=>[(0,(.slice zbp z3V.length zbq)),(3,(.slice zbr z2g.length zbs)),(4,(.int .i64 z4s)),(6,(.pointer (some ⟨zbt,0,none⟩))),(11,(.slice zbu z7j.length z87)),(12,(.int .i64 z2B))]) (fun (z7j : List Int) (z9G : Int) (z9H : Int) (z9I : Int) (z9J : Int) (z9K : Int) (z9L : Int)=>[row (.slice zbu z7j.length z87) 5 1 (z7j.flatMap e5),stb zbt 39 [(.int .i64 z9G),(.int .i64 z9H),(.int .u8 z9I),(.int .u8 z9J),(.int .u8 z9K),(.int .u8 z9L)]]) ?_ ?_
   ·skip
    refine WC.block (WC.b (WC.b (WC.a ?_)))
    refine WL.a (d:=24) rfl rfl rfl (y4 y1c rfl rfl) ?_
    refine WL.a (d:=25) rfl rfl rfl (y5 yd rfl (yb .h1 rfl)) ?_
    refine WL.pu rfl ?_
    refine WL.a (d:=27) rfl rfl rfl (y1s Tryd.underlying22 rfl) ?_
    refine WL.pu rfl (WL.nil (WX.a ?_))
    refine WC.cond rfl (fun zhp=>?_) (fun zhp=>?_)
    ·replace h:=yl h zhp
     refine WC.b (WC.a (WL.pu rfl (WL.pu rfl (WL.nil (WX.a (WC.ret (WX.yf (WX.yL (WX.yf (WX.yf (WX.yL (WX.yf ?_))))))))))))
     obtain rfl:=Option.some.inj h
     refine WX.yh Tryd.results20 (.tmp rfl .nil) (fun w hw=>?_)
     exact ⟨y1a rfl,hw.sub .nil⟩
    ·replace h:=ym h zhp
     refine WC.skip (WX.a (WC.b ?_))
     obtain ⟨zQ,zwx,h⟩:=zd h
     refine WC.a (WL.pu rfl ?_)
     refine WL.a (d:=32) rfl rfl rfl (yV y13 rfl (yJ .h1) rfl) ?_
     refine WL.pu rfl ?_
     refine WL.y1Z (dd:=34) rfl rfl rfl (zl (l:=[.tmp 31,.tmp 32,.tmp 33]) Tryd.call18 (.cons rfl (.cons rfl (.cons rfl .nil)))) (.cons .here .nil) (cc hz (.cons .here .nil) fun w pz ho=>y7m _ _ _ _ _ _ _ _ _ zwx w pz hG0 hG1 zhn ho) ?_
     rintro zl7 zl8 _
     refine WL.pu rfl (WL.pu rfl (WL.pu rfl ?_))
     refine WL.new (dd:=13) rfl rfl rfl (yE (cs:=[(.int .i64 0),(.int .i64 0),(.int .u8 0),(.int .u8 0),(.int .u8 0),(.int .u8 0)]) y1z rfl) ?_
     intro zy9 _
     refine WL.new (dd:=14) rfl rfl rfl (yE (cs:=[(.int .u8 0),(.int .i64 0),(.int .i64 0),(.slice none 0 0)]) y2g rfl) ?_
     intro zl9 _
     refine WL.yg rfl rfl (yu y1p rfl rfl rfl .h1 rfl rfl rfl) ?_
     refine WL.yg rfl rfl (yu y1g rfl rfl rfl .h1 rfl rfl rfl) ?_
     refine WL.nil (WX.a (WC.b (WC.a ?_)))
     refine WL.a (d:=37) rfl rfl rfl (yV y13 rfl (yJ .h1) rfl) ?_
     refine WL.yg rfl rfl (yu y1p rfl rfl rfl .h4 rfl rfl rfl) ?_
     refine WL.nil (WX.a (WC.b (WC.a ?_)))
     refine WL.a (d:=38) rfl rfl rfl (y4 y6a rfl rfl) ?_
     refine WL.a (d:=39) rfl rfl rfl (y5 yB rfl (yb .h1 rfl)) ?_
     refine WL.nil (WX.a (WC.block ?_))
     obtain ⟨zfa,zwy,h⟩:=y3g h
     refine WC.y2V (fun (zbn : Bool)=>(zfa zbn = some r)) (fun (zbn : Bool)=>[(0,(.slice zbp z3V.length zbq)),(3,(.slice zbr z2g.length zbs)),(4,(.int .i64 z4s)),(6,(.pointer (some ⟨zbt,0,none⟩))),(11,(.slice zbu z2a.length z87)),(12,(.int .i64 z2B)),(14,(.pointer (some ⟨zl9,0,none⟩))),(39,(.int .u8 zQ.2.fKind)),(40,(.bool zbn))]) (fun (zbn : Bool)=>[row (.slice zbu z2a.length z87) 5 1 (z2a.flatMap e5),stb zbt 39 [(.int .i64 zQ.1.fPc),(.int .i64 zQ.1.fLeft),(.int .u8 zQ.1.fRegs.a0),(.int .u8 zQ.1.fRegs.a1),(.int .u8 zQ.1.fRegs.a2),(.int .u8 zQ.1.fRegs.a3)],stb zl9 41 [(.int .u8 zQ.2.fKind),(.int .i64 zQ.2.fA),(.int .i64 zQ.2.fB),(.slice zl7 zQ.2.fData.length zl8)],row (.slice zl7 zQ.2.fData.length zl8) 5 1 (zQ.2.fData.flatMap e5)]) ?_ ?_
     ·skip
      refine WC.b (WC.a (WL.pu rfl (WL.pu rfl (WL.nil (WX.a ?_)))))
      refine WC.cond rfl (fun zhq=>?_) (fun zhq=>?_)
      ·replace h:=yl h zhq
       refine WC.skip ?_
       exact WX.mid (G:=Bool) (decide (zQ.2.fKind = 14)) h (.cons rfl (.cons rfl (.cons rfl (.cons rfl (.cons rfl (.cons rfl (.cons rfl (.cons rfl (.cons rfl .nil))))))))) (.cons .h4 (.cons .here (.cons .here (.cons .h1 .nil))))
      ·replace h:=ym h zhq
       refine WC.a (WL.pu rfl (WL.pu rfl (WL.nil ?_)))
       exact WX.mid (G:=Bool) (decide (zQ.2.fKind = 16)) h (.cons rfl (.cons rfl (.cons rfl (.cons rfl (.cons rfl (.cons rfl (.cons rfl (.cons rfl (.cons rfl .nil))))))))) (.cons .h4 (.cons .here (.cons .here (.cons .h1 .nil))))
     ·rintro zbn h
      replace h:=(zwy zbn).symm.trans h
      refine WC.cond rfl (fun zhr=>?_) (fun zhr=>?_)
      ·replace h:=yl h zhr
       refine WC.b (WC.a (WL.pu rfl (WL.pu rfl (WL.pu rfl (WL.nil (WX.a (WC.ret (WX.yL (WX.yL (WX.yf (WX.yf (WX.yL (WX.yf ?_)))))))))))))
       obtain rfl:=Option.some.inj h
       refine WX.yh Tryd.results20 (.tmp rfl .nil) (fun w hw=>?_)
       exact ⟨y1a rfl,hw.sub .nil⟩
      ·replace h:=ym h zhr
       refine WC.b (WC.a (WL.pu rfl (WL.pu rfl (WL.nil (WX.a ?_)))))
       refine WC.cond rfl (fun zhs=>?_) (fun zhs=>?_)
       ·replace h:=yl h zhs
        obtain ⟨zcd,h⟩:=ya h
        refine WC.a (WL.pu rfl ?_)
        refine WL.a (d:=48) rfl rfl rfl (y4 y6N rfl rfl) ?_
        refine WL.a (d:=49) rfl rfl rfl (y5 yd rfl (yb .h2 rfl)) ?_
        refine WL.a (d:=50) rfl rfl rfl (y4 y6O rfl rfl) ?_
        refine WL.a (d:=51) rfl rfl rfl (y5 yd rfl (yb .h2 rfl)) ?_
        refine WL.a (d:=52) rfl rfl rfl (y3d Tryd.underlying3 Tryd.underlying5 rfl rfl) ?_
        refine WL.know (fun w hw=>Hp.y3Z .here hw (by intro hz'; have:=zcd; rw [hz'] at this; omega)) ?_
        rintro ⟨zla,rfl⟩
        refine WL.a (d:=53) rfl rfl rfl (yT y1v rfl rfl zcd.1 zcd.2 y3f) ?_
        refine WL.yg rfl rfl (y5p (vs:=[(.int .u8 (u8 zQ.2.fB))]) (ds:=(z2a.set (zQ.2.fA : Int).toNat (u8 zQ.2.fB)).flatMap e5) y2h rfl rfl rfl rfl (y6I rfl y7b) .here (y6m (enc:=e5) (sz:=1) (k:=0) (fun _=>rfl) zcd.1 zcd.2 (by decide)) (y6l (enc:=e5) (l:=z2a) (sz:=1) (vs:=[(.int .u8 (u8 zQ.2.fB))]) (y:=u8 zQ.2.fB) (k:=0) (fun _=>rfl) zcd.1 zcd.2 rfl (Nat.le_of_ble_eq_true rfl))) ?_
        refine WL.relen .here (u:=(.slice (some ⟨zla,0,none⟩) ((z2a.set (zQ.2.fA : Int).toNat (u8 zQ.2.fB)).length) z87)) (slen (List.length_set).symm) ?_
        refine WL.repin (i:=11) rfl (u:=(.slice (some ⟨zla,0,none⟩) ((z2a.set (zQ.2.fA : Int).toNat (u8 zQ.2.fB)).length) z87)) (slen (List.length_set).symm) ?_
        refine WL.nil (WX.yk (WX.yk ?_))
        exact WX.mid (G:=List Int × Int × Int × Int × Int × Int × Int) ⟨(z2a.set (zQ.2.fA : Int).toNat (u8 zQ.2.fB)),zQ.1.fPc,zQ.1.fLeft,zQ.1.fRegs.a0,zQ.1.fRegs.a1,zQ.1.fRegs.a2,zQ.1.fRegs.a3⟩ h (.cons rfl (.cons rfl (.cons rfl (.cons rfl (.cons rfl (.cons rfl .nil)))))) (.cons .here (.cons .here .nil))
       ·replace h:=ym h zhs
        obtain ⟨zeq,zwz,h⟩:=y3g h
        refine WC.y2V (fun (zbo : Bool)=>(zeq zbo = some r)) (fun (zbo : Bool)=>[(0,(.slice zbp z3V.length zbq)),(3,(.slice zbr z2g.length zbs)),(4,(.int .i64 z4s)),(6,(.pointer (some ⟨zbt,0,none⟩))),(11,(.slice zbu z2a.length z87)),(12,(.int .i64 z2B)),(54,(.bool zbo))]) (fun (zbo : Bool)=>[row (.slice zbu z2a.length z87) 5 1 (z2a.flatMap e5),stb zbt 39 [(.int .i64 zQ.1.fPc),(.int .i64 zQ.1.fLeft),(.int .u8 zQ.1.fRegs.a0),(.int .u8 zQ.1.fRegs.a1),(.int .u8 zQ.1.fRegs.a2),(.int .u8 zQ.1.fRegs.a3)]]) ?_ ?_
        ·skip
         refine WC.b (WC.a (WL.pu rfl (WL.pu rfl (WL.nil (WX.a ?_)))))
         refine WC.cond rfl (fun zht=>?_) (fun zht=>?_)
         ·replace h:=yl h zht
          refine WC.skip ?_
          exact WX.mid (G:=Bool) (decide (zQ.2.fKind = 3)) h (.cons rfl (.cons rfl (.cons rfl (.cons rfl (.cons rfl (.cons rfl (.cons rfl .nil))))))) (.cons .here (.cons .here .nil))
         ·replace h:=ym h zht
          refine WC.b (WC.a (WL.pu rfl (WL.pu rfl (WL.nil (WX.a ?_)))))
          refine WC.cond rfl (fun zhu=>?_) (fun zhu=>?_)
          ·replace h:=yl h zhu
           refine WC.skip ?_
           exact WX.mid (G:=Bool) (decide (zQ.2.fKind = 10)) h (.cons rfl (.cons rfl (.cons rfl (.cons rfl (.cons rfl (.cons rfl (.cons rfl .nil))))))) (.cons .here (.cons .here .nil))
          ·replace h:=ym h zhu
           refine WC.a (WL.pu rfl (WL.pu rfl (WL.nil ?_)))
           exact WX.mid (G:=Bool) (decide (zQ.2.fKind = 12)) h (.cons rfl (.cons rfl (.cons rfl (.cons rfl (.cons rfl (.cons rfl (.cons rfl .nil))))))) (.cons .here (.cons .here .nil))
        ·rintro zbo h
         replace h:=(zwz zbo).symm.trans h
         refine WC.cond rfl (fun zhv=>?_) (fun zhv=>?_)
         ·replace h:=yl h zhv
          refine WC.b (WC.a (WL.pu rfl ?_))
          refine WL.a (d:=59) rfl rfl rfl (y1s Tryd.underlying35 rfl) ?_
          refine WL.pu rfl (WL.nil (WX.a ?_))
          refine WC.cond rfl (fun zhw=>?_) (fun zhw=>?_)
          ·replace h:=yl h zhw
           obtain ⟨z5p,zwA,h⟩:=zd h
           refine WC.a (WL.pu rfl ?_)
           refine WL.a (d:=62) rfl rfl rfl (yV y13 rfl (yJ .h1) rfl) ?_
           refine WL.b (dd:=63) rfl rfl rfl (zl (l:=[.tmp 61,.tmp 62,.const (.slice none 0 0)]) Tryd.call36 (.cons rfl (.cons rfl (.cons rfl .nil)))) .nil (cc hz .nil fun w pz ho=>y6g _ _ _ _ _ _ _ _ _ zwA w pz hG1 zhn (ZS.nil _ _ _)) ?_
           refine WL.yg rfl rfl (yu y1p rfl rfl rfl .h1 rfl rfl rfl) ?_
           refine WL.nil (WX.yk (WX.yk ?_))
           exact WX.mid (G:=List Int × Int × Int × Int × Int × Int × Int) ⟨z2a,z5p.fPc,z5p.fLeft,z5p.fRegs.a0,z5p.fRegs.a1,z5p.fRegs.a2,z5p.fRegs.a3⟩ h (.cons rfl (.cons rfl (.cons rfl (.cons rfl (.cons rfl (.cons rfl .nil)))))) (.cons .h1 (.cons .here .nil))
          ·replace h:=ym h zhw
           refine WC.b ?_
           obtain ⟨zwB,h⟩:=ya h
           refine WC.a (WL.pu rfl (WL.pu rfl ?_))
           refine WL.a (d:=66) rfl rfl rfl (y1s Tryd.underlying35 rfl) ?_
           refine WL.a (d:=67) rfl rfl rfl (q_rem rfl rfl zwB rfl) ?_
           refine WL.pu rfl (WL.nil (WX.a ?_))
           obtain ⟨zwC,h⟩:=ya h
           obtain ⟨z5q,zwD,h⟩:=zd h
           refine WC.yX (fun i=>[14].contains i) [] rfl ?_
           refine WD.a (i:=0) (d:=68) (by kernel_rfl) rfl z2 z6 rfl rfl rfl (fun _=>q_m rfl) ?_
           refine WD.e (i:=1) (d:=69) (by kernel_rfl) rfl z2 z6 rfl rfl rfl (yV y13 rfl (yJ .h1) rfl) ?_
           refine WD.a (i:=2) (d:=70) (by kernel_rfl) rfl z2 z6 rfl rfl rfl (fun _=>q_m rfl) ?_
           refine WD.a (i:=3) (d:=71) (by kernel_rfl) rfl z2 z6 rfl rfl rfl (fun _=>q_m rfl) ?_
           refine WD.a (i:=4) (d:=72) (by kernel_rfl) rfl z2 z6 rfl rfl rfl (fun _=>q_m rfl) ?_
           refine WD.a (i:=5) (d:=73) (by kernel_rfl) rfl z2 z6 rfl rfl rfl (fun _=>y4v rfl rfl rfl) ?_
           refine WD.a (i:=6) (d:=74) (by kernel_rfl) rfl z2 z6 rfl rfl rfl (fun _=>q_m rfl) ?_
           refine WD.a (i:=7) (d:=75) (by kernel_rfl) rfl z2 z6 rfl rfl rfl (fun _=>q_rem rfl rfl (by decide) rfl) ?_
           refine WD.a (i:=8) (d:=76) (by kernel_rfl) rfl z2 z6 rfl rfl rfl (fun _=>y4v rfl rfl rfl) ?_
           refine WD.a (i:=9) (d:=77) (by kernel_rfl) rfl z2 z6 rfl rfl rfl (fun _=>q_m rfl) ?_
           refine WD.a (i:=10) (d:=78) (by kernel_rfl) rfl z2 z6 rfl rfl rfl (fun _=>y1s Tryd.underlying35 rfl) ?_
           refine WD.a (i:=11) (d:=79) (by kernel_rfl) rfl z2 z6 rfl rfl rfl (fun _=>q_min rfl rfl rfl) ?_
           refine WD.zsub (j:=12) (dd:=80) (by kernel_rfl) rfl z2 z6 rfl rfl (Z:=Z) (Pr:=(fun r x=>r = e5 x)) y1v rfl zwt (fun _=>ixo rfl) (fun _=>ixo rfl) rfl rfl zwC rfl ?_
           rintro zya zyb zwE
           refine WD.c (i:=13) (d:=81) (by kernel_rfl) rfl z2 z6 rfl rfl rfl (zl (l:=[.tmp 68,.tmp 69,.tmp 80]) Tryd.call36 (.cons rfl (.cons rfl (.cons rfl .nil)))) (cc hz .nil fun w pz ho=>y6g _ _ _ _ _ _ _ _ _ zwD w pz hG1 zhn zwE) ?_
           refine WD.y1t (i:=14) rfl (by kernel_rfl) rfl rfl rfl (by kernel_rfl) (yu y1p rfl rfl rfl .h1 rfl rfl rfl) ?_
           refine WD.done (by kernel_rfl) ?_
           refine WX.yk (WX.yk ?_)
           exact WX.mid (G:=List Int × Int × Int × Int × Int × Int × Int) ⟨z2a,z5q.fPc,z5q.fLeft,z5q.fRegs.a0,z5q.fRegs.a1,z5q.fRegs.a2,z5q.fRegs.a3⟩ h (.cons rfl (.cons rfl (.cons rfl (.cons rfl (.cons rfl (.cons rfl .nil)))))) (.cons .h1 (.cons .here .nil))
         ·replace h:=ym h zhv
          refine WC.skip (WX.yk (WX.yk ?_))
          exact WX.mid (G:=List Int × Int × Int × Int × Int × Int × Int) ⟨z2a,zQ.1.fPc,zQ.1.fLeft,zQ.1.fRegs.a0,zQ.1.fRegs.a1,zQ.1.fRegs.a2,zQ.1.fRegs.a3⟩ h (.cons rfl (.cons rfl (.cons rfl (.cons rfl (.cons rfl (.cons rfl .nil)))))) (.cons .here (.cons .here .nil))
   ·rintro z7j z9G z9H z9I z9J z9K z9L h
    replace h:=(zww z7j z9G z9H z9I z9J z9K z9L).symm.trans h
    refine WC.a (WL.pu rfl (WL.pu rfl (WL.pu rfl (WL.nil ?_))))
    exact WX.round (G:=Nat × List Int × Int × Int × Int × Int × Int × Int × Int) ⟨zhm,z7j,(i64 (z2B + 1)),z9G,z9H,z9I,z9J,z9K,z9L⟩ h (Nat.lt_succ_self _) (.cons rfl (.cons rfl (.cons rfl (.cons rfl (.cons rfl (.cons rfl .nil)))))) (.cons .here (.cons .here .nil))
  ·replace h:=ym h zho
   refine WC.exit (WX.yQ (WX.yQ (WX.y1L ?_)))
   exact WX.mid (G:=Unit) () h .nil .nil
 ·rintro  h
  replace h:=zwv.symm.trans h
  refine WC.b (WC.a (WL.pu rfl (WL.nil (WX.a (WC.ret ?_)))))
  obtain rfl:=Option.some.inj h
  refine WX.yh Tryd.results20 (.tmp rfl .nil) (fun w hw=>?_)
  exact ⟨y1a rfl,hw.sub .nil⟩
end Go.Proofs.YtjdnejbngloieaaDoor

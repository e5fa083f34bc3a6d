/- A part of this claim's proof: models of functions, walks, plain laws. No conditions. -/
import Derived.Test.YtinchjigeakocaaW31e
namespace Go.Proofs.Ytinchjigeakocaa
open Go Go.RowKit Sep
set_option linter.all false
set_option maxRecDepth 30000
set_option maxHeartbeats 4000000
def y2w (zm : List Sapi_Come) (zi : Sapi_Come) (z9Q : Int → Option (List Sapi_Come)) : Nat → Int → Option (List Sapi_Come)
 | 0,_=>none
 | zpK + 1,zJ=>chk ((decide (zJ > 0)) = true → ((0 : Int) ≤ (i64 (zJ - 1)) ∧ (i64 (zJ - 1)) < ((zm.length : Nat) : Int))) (chk ((decide (zJ > 0)) = true → ((decide (((nth zm (i64 (zJ - 1))).fTime) > zi.fTime)) = false → ((0 : Int) ≤ (i64 (zJ - 1)) ∧ (i64 (zJ - 1)) < ((zm.length : Nat) : Int)))) (chk ((decide (zJ > 0)) = true → ((decide (((nth zm (i64 (zJ - 1))).fTime) > zi.fTime)) = false → ((decide (((nth zm (i64 (zJ - 1))).fTime) = zi.fTime)) = true → ((0 : Int) ≤ (i64 (zJ - 1)) ∧ (i64 (zJ - 1)) < ((zm.length : Nat) : Int))))) (chk ((decide (zJ > 0)) = true → ((decide (((nth zm (i64 (zJ - 1))).fTime) > zi.fTime)) = false → ((decide (((nth zm (i64 (zJ - 1))).fTime) = zi.fTime)) = true → ((decide (((nth zm (i64 (zJ - 1))).fSent) > zi.fSent)) = false → ((0 : Int) ≤ (i64 (zJ - 1)) ∧ (i64 (zJ - 1)) < ((zm.length : Nat) : Int)))))) (chk ((decide (zJ > 0)) = true → ((decide (((nth zm (i64 (zJ - 1))).fTime) > zi.fTime)) = false → ((decide (((nth zm (i64 (zJ - 1))).fTime) = zi.fTime)) = true → ((decide (((nth zm (i64 (zJ - 1))).fSent) > zi.fSent)) = false → ((decide (((nth zm (i64 (zJ - 1))).fSent) = zi.fSent)) = true → ((0 : Int) ≤ (i64 (zJ - 1)) ∧ (i64 (zJ - 1)) < ((zm.length : Nat) : Int))))))) (if (decide (zJ > 0)) && ((decide (((nth zm (i64 (zJ - 1))).fTime) > zi.fTime)) || ((decide (((nth zm (i64 (zJ - 1))).fTime) = zi.fTime)) && ((decide (((nth zm (i64 (zJ - 1))).fSent) > zi.fSent)) || ((decide (((nth zm (i64 (zJ - 1))).fSent) = zi.fSent)) && (decide (((nth zm (i64 (zJ - 1))).fNode) > zi.fNode)))))) then y2w zm zi z9Q zpK (i64 (zJ - 1)) else z9Q zJ)))))
theorem y6s {n : Nat} {zm : List Sapi_Come} {zi : Sapi_Come} {z9Q : Int → Option (List Sapi_Come)} {zJ : Int} {r : List Sapi_Come} (h : y2w zm zi z9Q n zJ = some r) : ∃ m,n = m + 1:=by
 cases n with
 | zero=>cases h
 | succ m=>exact ⟨m,rfl⟩
def y3E (zm : List Sapi_Come) (zi : Sapi_Come) : Option (List Sapi_Come) :=
 jp1 (fun (z1d : Int)=>chk ((0 : Int) ≤ 0 ∧ (0 : Int) ≤ z1d ∧ z1d ≤ ((zm.length : Nat) : Int)) (chk ((((([] : List Sapi_Come) ++ (zm.take (z1d : Int).toNat)).length : Nat) : Int) * 24 ≤ 140737488355328 ∧ (((([] : List Sapi_Come) ++ (zm.take (z1d : Int).toNat)).length : Nat) : Int) ≤ 4611686018427387904) (chk (((((([] : List Sapi_Come) ++ (zm.take (z1d : Int).toNat)) ++ ([zi] : List Sapi_Come)).length : Nat) : Int) * 24 ≤ 140737488355328 ∧ ((((([] : List Sapi_Come) ++ (zm.take (z1d : Int).toNat)) ++ ([zi] : List Sapi_Come)).length : Nat) : Int) ≤ 4611686018427387904) (chk ((0 : Int) ≤ z1d ∧ (z1d : Int) ≤ (zm.length : Int) ∧ (zm.length : Int) ≤ ((zm.length : Nat) : Int)) (chk ((((((([] : List Sapi_Come) ++ (zm.take (z1d : Int).toNat)) ++ ([zi] : List Sapi_Come)) ++ (zm.drop (z1d : Int).toNat)).length : Nat) : Int) * 24 ≤ 140737488355328 ∧ (((((([] : List Sapi_Come) ++ (zm.take (z1d : Int).toNat)) ++ ([zi] : List Sapi_Come)) ++ (zm.drop (z1d : Int).toNat)).length : Nat) : Int) ≤ 4611686018427387904) (some (((([] : List Sapi_Come) ++ (zm.take (z1d : Int).toNat)) ++ ([zi] : List Sapi_Come)) ++ (zm.drop (z1d : Int).toNat)))))))) fun z9Q=>y2w zm zi z9Q yw ((zm.length : Nat) : Int)
set_option maxRecDepth 20000 in
theorem y6Q (Z : Zp) (z7a : Option Addr) (z7b : Nat) (zm : List Sapi_Come) (zi : Sapi_Come) (r : List Sapi_Come)
  (h : y3E zm zi = some r) (w₀ : World) (hz : PZ [] w₀ Z)
  (zcc : ZS Z 3 (fun r x=>r = e50 x) z7a z7b zm) :
  Calls Try.prog 33 #[(.slice z7a zm.length z7b),(.agg #[(.int .i64 zi.fSent),(.int .i64 zi.fNode),(.int .i64 zi.fTime)])] w₀ fun e w'=>∃ zvm : Option Addr,∃ zvn : Nat,e = .returned (.slice zvm r.length zvn) ∧ True ∧ Hp [] w₀ w' [row (.slice zvm r.length zvn) 50 3 (r.flatMap e50)]:=by
 unfold y3E at h
 refine Calls.yp (vs:=[(.slice z7a zm.length z7b),(.agg #[(.int .i64 zi.fSent),(.int .i64 zi.fNode),(.int .i64 zi.fTime)])]) (pre:=[]) (env:=[(0,(.slice z7a zm.length z7b)),(1,(.agg #[(.int .i64 zi.fSent),(.int .i64 zi.fNode),(.int .i64 zi.fTime)]))]) Try.func33 rfl Try.ntmps33 rfl (Hp.nil w₀ _) rfl ?_
 refine WC.b (WC.a ?_)
 refine WL.new (dd:=3) rfl rfl rfl (y1N (cs:=[(.int .i64 zi.fSent),(.int .i64 zi.fNode),(.int .i64 zi.fTime)]) rfl rfl) ?_
 intro z41 _
 refine WL.pu rfl (WL.nil (WX.a (WC.b (WC.a (WL.pu rfl ?_)))))
 refine WL.a (d:=7) rfl rfl rfl (yz Try.underlying36 rfl) ?_
 refine WL.pu rfl (WL.nil (WX.a ?_))
 obtain ⟨z9Q,zF6,h⟩:=yU h
 refine WC.y1i (fun (z1d : Int)=>(z9Q z1d = some r)) (fun (z1d : Int)=>[(0,(.slice z7a zm.length z7b)),(3,(.pointer (some ⟨z41,0,none⟩))),(5,(.int .i64 z1d))]) (fun (z1d : Int)=>[stb z41 50 [(.int .i64 zi.fSent),(.int .i64 zi.fNode),(.int .i64 zi.fTime)]]) ?_ ?_
 ·skip
  refine WC.block ?_
  refine WC.y33 (fun (zfi : Nat) (zJ : Int)=>(y2w zm zi z9Q zfi zJ = some r)) (fun (zfi : Nat) (zJ : Int)=>[(0,(.slice z7a zm.length z7b)),(3,(.pointer (some ⟨z41,0,none⟩))),(5,(.int .i64 zJ))]) (fun (zfi : Nat) (zJ : Int)=>[stb z41 50 [(.int .i64 zi.fSent),(.int .i64 zi.fNode),(.int .i64 zi.fTime)]]) (fun (zfi : Nat) (zJ : Int)=>zfi) ⟨yw,((zm.length : Nat) : Int)⟩ h (.cons rfl (.cons rfl (.cons rfl .nil))) (.cons .here .nil) ?_
  rintro zfi zJ h
  obtain ⟨zpK,rfl⟩:=y6s h
  rw [y2w] at h
  refine WC.b (WC.b ?_)
  obtain ⟨zF7,h⟩:=ye h
  obtain ⟨zF8,h⟩:=ye h
  obtain ⟨zF9,h⟩:=ye h
  obtain ⟨zFa,h⟩:=ye h
  obtain ⟨zFb,h⟩:=ye h
  refine WC.yI (fun i=>[].contains i) [] rfl ?_
  refine WD.a (i:=0) (d:=8) (by kernel_rfl) rfl z2 z3 rfl rfl rfl (fun _=>q_m rfl) ?_
  refine WD.a (i:=1) (d:=9) (by kernel_rfl) rfl z2 z3 rfl rfl rfl (fun _=>y3f rfl rfl) ?_
  refine WD.a (i:=2) (d:=10) (by kernel_rfl) rfl z2 z3 rfl rfl rfl (fun _=>q_m rfl) ?_
  refine WD.mid (fuel':=0) [(0,(.slice z7a zm.length z7b)),(3,(.pointer (some ⟨z41,0,none⟩))),(5,(.int .i64 zJ)),(10,(.bool (decide (zJ > 0)))),(64,(.bool ((decide (zJ > 0)) && ((decide (((nth zm (i64 (zJ - 1))).fTime) > zi.fTime)) || ((decide (((nth zm (i64 (zJ - 1))).fTime) = zi.fTime)) && ((decide (((nth zm (i64 (zJ - 1))).fSent) > zi.fSent)) || ((decide (((nth zm (i64 (zJ - 1))).fSent) = zi.fSent)) && (decide (((nth zm (i64 (zJ - 1))).fNode) > zi.fNode)))))))))] (yJ 57 [56,55,54,53,52,51,50,49,48,47,46,45,44,43,42,41,40,39,38,37,36,35,34,33,32,31,30,29,28,27,26,25,24,23,22,21,20,19,18,17,16,15,14,13,12,11,10,9,8,7,6,5,4,3,2,1,0]) ?_ (fun zvo=>?_)
  rotate_left
  ·rcases Bool.eq_false_or_eq_true (decide (zJ > 0)) with hb' | hb'
   ·have zaF:=hb'; clear hb'
    have zFc:=zF7 zaF
    have zFd:=zF8 zaF
    have zFe:=zF9 zaF
    have zFf:=zFa zaF
    have zFg:=zFb zaF
    refine WD.pin (i:=10) rfl zaF ?_
    refine WD.a (i:=3) (d:=11) (by kernel_rfl) rfl z2 z3 rfl rfl rfl (fun _=>q_m rfl) ?_
    refine WD.a (i:=4) (d:=12) (by kernel_rfl) rfl z2 z3 rfl rfl rfl (fun _=>q_m rfl) ?_
    refine WD.a (i:=5) (d:=13) (by kernel_rfl) rfl z2 z3 rfl rfl rfl (fun _=>y3Z rfl rfl rfl) ?_
    refine WD.znth (j:=6) (dd:=14) (by kernel_rfl) rfl z2 z3 rfl rfl (Z:=Z) (Pr:=(fun r x=>r = e50 x)) yV rfl rfl zcc zFc ?_
    rintro zN5 zN6 zFh zN7 rfl
    refine WD.a (i:=7) (d:=15) (by kernel_rfl) rfl z2 z3 rfl rfl rfl (fun _=>ya y5P rfl rfl) ?_
    refine WD.e (i:=8) (d:=16) (by kernel_rfl) rfl z2 z3 rfl rfl rfl (yb yd rfl (yD hz.pv zFh rfl)) ?_
    refine WD.a (i:=9) (d:=17) (by kernel_rfl) rfl z2 z3 rfl rfl rfl (fun _=>ya y5P rfl rfl) ?_
    refine WD.e (i:=10) (d:=18) (by kernel_rfl) rfl z2 z3 rfl rfl rfl (yb yd rfl (yc .here rfl)) ?_
    refine WD.a (i:=11) (d:=19) (by kernel_rfl) rfl z2 z3 rfl rfl rfl (fun _=>y3f rfl rfl) ?_
    refine WD.a (i:=12) (d:=20) (by kernel_rfl) rfl z2 z3 rfl rfl rfl (fun _=>q_m rfl) ?_
    refine WD.mid (fuel':=1) [(0,(.slice z7a zm.length z7b)),(3,(.pointer (some ⟨z41,0,none⟩))),(5,(.int .i64 zJ)),(10,(.bool true)),(20,(.bool (decide (((nth zm (i64 (zJ - 1))).fTime) > zi.fTime)))),(63,(.bool ((decide (((nth zm (i64 (zJ - 1))).fTime) > zi.fTime)) || ((decide (((nth zm (i64 (zJ - 1))).fTime) = zi.fTime)) && ((decide (((nth zm (i64 (zJ - 1))).fSent) > zi.fSent)) || ((decide (((nth zm (i64 (zJ - 1))).fSent) = zi.fSent)) && (decide (((nth zm (i64 (zJ - 1))).fNode) > zi.fNode))))))))] (yJ 57 [55,54,53,52,51,50,49,48,47,46,45,44,43,42,41,40,39,38,37,36,35,34,33,32,31,30,29,28,27,26,25,24,23,22,21,20,19,18,17,16,15,14,13,12,11,10,9,8,7,6,5,4,3,2,1,0]) ?_ (fun zvp=>?_)
    rotate_left
    ·rcases Bool.eq_false_or_eq_true (decide (((nth zm (i64 (zJ - 1))).fTime) > zi.fTime)) with hb' | hb'
     ·have zpL:=hb'; clear hb'
      refine WD.pin (i:=20) rfl zpL ?_
      refine WD.b (i:=13) (d:=21) (by kernel_rfl) rfl z2 z3 rfl rfl rfl ?_
      refine WD.b (i:=14) (d:=22) (by kernel_rfl) rfl z2 z3 rfl rfl rfl ?_
      refine WD.b (i:=15) (d:=23) (by kernel_rfl) rfl z2 z3 rfl rfl rfl ?_
      refine WD.b (i:=16) (d:=24) (by kernel_rfl) rfl z2 z3 rfl rfl rfl ?_
      refine WD.b (i:=17) (d:=25) (by kernel_rfl) rfl z2 z3 rfl rfl rfl ?_
      refine WD.b (i:=18) (d:=26) (by kernel_rfl) rfl z2 z3 rfl rfl rfl ?_
      refine WD.b (i:=19) (d:=27) (by kernel_rfl) rfl z2 z3 rfl rfl rfl ?_
      refine WD.b (i:=20) (d:=28) (by kernel_rfl) rfl z2 z3 rfl rfl rfl ?_
      refine WD.b (i:=21) (d:=29) (by kernel_rfl) rfl z2 z3 rfl rfl rfl ?_
      refine WD.b (i:=22) (d:=30) (by kernel_rfl) rfl z2 z3 rfl rfl rfl ?_
      refine WD.b (i:=23) (d:=31) (by kernel_rfl) rfl z2 z3 rfl rfl rfl ?_
      refine WD.b (i:=24) (d:=32) (by kernel_rfl) rfl z2 z3 rfl rfl rfl ?_
      refine WD.b (i:=25) (d:=33) (by kernel_rfl) rfl z2 z3 rfl rfl rfl ?_
      refine WD.b (i:=26) (d:=34) (by kernel_rfl) rfl z2 z3 rfl rfl rfl ?_
      refine WD.b (i:=27) (d:=35) (by kernel_rfl) rfl z2 z3 rfl rfl rfl ?_
      refine WD.b (i:=28) (d:=36) (by kernel_rfl) rfl z2 z3 rfl rfl rfl ?_
      refine WD.b (i:=29) (d:=37) (by kernel_rfl) rfl z2 z3 rfl rfl rfl ?_
      refine WD.b (i:=30) (d:=38) (by kernel_rfl) rfl z2 z3 rfl rfl rfl ?_
      refine WD.b (i:=31) (d:=39) (by kernel_rfl) rfl z2 z3 rfl rfl rfl ?_
      refine WD.b (i:=32) (d:=40) (by kernel_rfl) rfl z2 z3 rfl rfl rfl ?_
      refine WD.b (i:=33) (d:=41) (by kernel_rfl) rfl z2 z3 rfl rfl rfl ?_
      refine WD.b (i:=34) (d:=42) (by kernel_rfl) rfl z2 z3 rfl rfl rfl ?_
      refine WD.b (i:=35) (d:=43) (by kernel_rfl) rfl z2 z3 rfl rfl rfl ?_
      refine WD.b (i:=36) (d:=44) (by kernel_rfl) rfl z2 z3 rfl rfl rfl ?_
      refine WD.b (i:=37) (d:=45) (by kernel_rfl) rfl z2 z3 rfl rfl rfl ?_
      refine WD.b (i:=38) (d:=46) (by kernel_rfl) rfl z2 z3 rfl rfl rfl ?_
      refine WD.b (i:=39) (d:=47) (by kernel_rfl) rfl z2 z3 rfl rfl rfl ?_
      refine WD.b (i:=40) (d:=48) (by kernel_rfl) rfl z2 z3 rfl rfl rfl ?_
      refine WD.b (i:=41) (d:=49) (by kernel_rfl) rfl z2 z3 rfl rfl rfl ?_
      refine WD.b (i:=42) (d:=50) (by kernel_rfl) rfl z2 z3 rfl rfl rfl ?_
      refine WD.b (i:=43) (d:=51) (by kernel_rfl) rfl z2 z3 rfl rfl rfl ?_
      refine WD.b (i:=44) (d:=52) (by kernel_rfl) rfl z2 z3 rfl rfl rfl ?_
      refine WD.b (i:=45) (d:=53) (by kernel_rfl) rfl z2 z3 rfl rfl rfl ?_
      refine WD.b (i:=46) (d:=54) (by kernel_rfl) rfl z2 z3 rfl rfl rfl ?_
      refine WD.b (i:=47) (d:=55) (by kernel_rfl) rfl z2 z3 rfl rfl rfl ?_
      refine WD.b (i:=48) (d:=56) (by kernel_rfl) rfl z2 z3 rfl rfl rfl ?_
      refine WD.b (i:=49) (d:=57) (by kernel_rfl) rfl z2 z3 rfl rfl rfl ?_
      refine WD.b (i:=50) (d:=58) (by kernel_rfl) rfl z2 z3 rfl rfl rfl ?_
      refine WD.b (i:=51) (d:=59) (by kernel_rfl) rfl z2 z3 rfl rfl rfl ?_
      refine WD.b (i:=52) (d:=60) (by kernel_rfl) rfl z2 z3 rfl rfl rfl ?_
      refine WD.b (i:=53) (d:=61) (by kernel_rfl) rfl z2 z3 rfl rfl rfl ?_
      refine WD.b (i:=54) (d:=62) (by kernel_rfl) rfl z2 z3 rfl rfl rfl ?_
      refine WD.a (i:=55) (d:=63) (by kernel_rfl) rfl z2 z3 rfl rfl rfl (fun _=>yW rfl rfl) ?_
      refine WD.ys (.cons .here .nil) ?_ zvp
      exact (.cons rfl (.cons rfl (.cons rfl (.cons rfl (.cons (z7 (Eq.symm zpL)) (.cons (z7 (y1p zpL)) .nil))))))
     ·have zcd:=hb'; clear hb'
      have zFi:=zFd zcd
      have zFj:=zFe zcd
      have zFk:=zFf zcd
      have zFl:=zFg zcd
      refine WD.pin (i:=20) rfl zcd ?_
      refine WD.a (i:=13) (d:=21) (by kernel_rfl) rfl z2 z3 rfl rfl rfl (fun _=>q_m rfl) ?_
      refine WD.a (i:=14) (d:=22) (by kernel_rfl) rfl z2 z3 rfl rfl rfl (fun _=>q_m rfl) ?_
      refine WD.a (i:=15) (d:=23) (by kernel_rfl) rfl z2 z3 rfl rfl rfl (fun _=>y3Z rfl rfl rfl) ?_
      refine WD.znth (j:=16) (dd:=24) (by kernel_rfl) rfl z2 z3 rfl rfl (Z:=Z) (Pr:=(fun r x=>r = e50 x)) yV rfl rfl zcc zFi ?_
      rintro zN8 zN9 zFm zNa rfl
      refine WD.a (i:=17) (d:=25) (by kernel_rfl) rfl z2 z3 rfl rfl rfl (fun _=>ya y5P rfl rfl) ?_
      refine WD.e (i:=18) (d:=26) (by kernel_rfl) rfl z2 z3 rfl rfl rfl (yb yd rfl (yD hz.pv zFm rfl)) ?_
      refine WD.a (i:=19) (d:=27) (by kernel_rfl) rfl z2 z3 rfl rfl rfl (fun _=>ya y5P rfl rfl) ?_
      refine WD.e (i:=20) (d:=28) (by kernel_rfl) rfl z2 z3 rfl rfl rfl (yb yd rfl (yc .here rfl)) ?_
      refine WD.a (i:=21) (d:=29) (by kernel_rfl) rfl z2 z3 rfl rfl rfl (fun _=>y5d rfl rfl) ?_
      refine WD.a (i:=22) (d:=30) (by kernel_rfl) rfl z2 z3 rfl rfl rfl (fun _=>q_m rfl) ?_
      refine WD.mid (fuel':=2) [(0,(.slice z7a zm.length z7b)),(3,(.pointer (some ⟨z41,0,none⟩))),(5,(.int .i64 zJ)),(10,(.bool true)),(20,(.bool false)),(30,(.bool (decide (((nth zm (i64 (zJ - 1))).fTime) = zi.fTime)))),(62,(.bool ((decide (((nth zm (i64 (zJ - 1))).fTime) = zi.fTime)) && ((decide (((nth zm (i64 (zJ - 1))).fSent) > zi.fSent)) || ((decide (((nth zm (i64 (zJ - 1))).fSent) = zi.fSent)) && (decide (((nth zm (i64 (zJ - 1))).fNode) > zi.fNode)))))))] (yJ 57 [54,53,52,51,50,49,48,47,46,45,44,43,42,41,40,39,38,37,36,35,34,33,32,31,30,29,28,27,26,25,24,23,22,21,20,19,18,17,16,15,14,13,12,11,10,9,8,7,6,5,4,3,2,1,0]) ?_ (fun zvq=>?_)
      rotate_left
      ·rcases Bool.eq_false_or_eq_true (decide (((nth zm (i64 (zJ - 1))).fTime) = zi.fTime)) with hb' | hb'
       ·have zfj:=hb'; clear hb'
        have zFn:=zFj zfj
        have zFo:=zFk zfj
        have zFp:=zFl zfj
        refine WD.pin (i:=30) rfl zfj ?_
        refine WD.a (i:=23) (d:=31) (by kernel_rfl) rfl z2 z3 rfl rfl rfl (fun _=>q_m rfl) ?_
        refine WD.a (i:=24) (d:=32) (by kernel_rfl) rfl z2 z3 rfl rfl rfl (fun _=>q_m rfl) ?_
        refine WD.a (i:=25) (d:=33) (by kernel_rfl) rfl z2 z3 rfl rfl rfl (fun _=>y3Z rfl rfl rfl) ?_
        refine WD.znth (j:=26) (dd:=34) (by kernel_rfl) rfl z2 z3 rfl rfl (Z:=Z) (Pr:=(fun r x=>r = e50 x)) yV rfl rfl zcc zFn ?_
        rintro zNb zNc zFq zNd rfl
        refine WD.a (i:=27) (d:=35) (by kernel_rfl) rfl z2 z3 rfl rfl rfl (fun _=>ya y5Q rfl rfl) ?_
        refine WD.e (i:=28) (d:=36) (by kernel_rfl) rfl z2 z3 rfl rfl rfl (yb yd rfl (yD hz.pv zFq rfl)) ?_
        refine WD.a (i:=29) (d:=37) (by kernel_rfl) rfl z2 z3 rfl rfl rfl (fun _=>ya y5Q rfl rfl) ?_
        refine WD.e (i:=30) (d:=38) (by kernel_rfl) rfl z2 z3 rfl rfl rfl (yb yd rfl (yc .here rfl)) ?_
        refine WD.a (i:=31) (d:=39) (by kernel_rfl) rfl z2 z3 rfl rfl rfl (fun _=>y3f rfl rfl) ?_
        refine WD.a (i:=32) (d:=40) (by kernel_rfl) rfl z2 z3 rfl rfl rfl (fun _=>q_m rfl) ?_
        refine WD.mid (fuel':=3) [(0,(.slice z7a zm.length z7b)),(3,(.pointer (some ⟨z41,0,none⟩))),(5,(.int .i64 zJ)),(10,(.bool true)),(20,(.bool false)),(30,(.bool true)),(40,(.bool (decide (((nth zm (i64 (zJ - 1))).fSent) > zi.fSent)))),(61,(.bool ((decide (((nth zm (i64 (zJ - 1))).fSent) > zi.fSent)) || ((decide (((nth zm (i64 (zJ - 1))).fSent) = zi.fSent)) && (decide (((nth zm (i64 (zJ - 1))).fNode) > zi.fNode))))))] (yJ 57 [53,52,51,50,49,48,47,46,45,44,43,42,41,40,39,38,37,36,35,34,33,32,31,30,29,28,27,26,25,24,23,22,21,20,19,18,17,16,15,14,13,12,11,10,9,8,7,6,5,4,3,2,1,0]) ?_ (fun zvr=>?_)
        rotate_left
        ·rcases Bool.eq_false_or_eq_true (decide (((nth zm (i64 (zJ - 1))).fSent) > zi.fSent)) with hb' | hb'
         ·have zpM:=hb'; clear hb'
          refine WD.pin (i:=40) rfl zpM ?_
          refine WD.b (i:=33) (d:=41) (by kernel_rfl) rfl z2 z3 rfl rfl rfl ?_
          refine WD.b (i:=34) (d:=42) (by kernel_rfl) rfl z2 z3 rfl rfl rfl ?_
          refine WD.b (i:=35) (d:=43) (by kernel_rfl) rfl z2 z3 rfl rfl rfl ?_
          refine WD.b (i:=36) (d:=44) (by kernel_rfl) rfl z2 z3 rfl rfl rfl ?_
          refine WD.b (i:=37) (d:=45) (by kernel_rfl) rfl z2 z3 rfl rfl rfl ?_
          refine WD.b (i:=38) (d:=46) (by kernel_rfl) rfl z2 z3 rfl rfl rfl ?_
          refine WD.b (i:=39) (d:=47) (by kernel_rfl) rfl z2 z3 rfl rfl rfl ?_
          refine WD.b (i:=40) (d:=48) (by kernel_rfl) rfl z2 z3 rfl rfl rfl ?_
          refine WD.b (i:=41) (d:=49) (by kernel_rfl) rfl z2 z3 rfl rfl rfl ?_
          refine WD.b (i:=42) (d:=50) (by kernel_rfl) rfl z2 z3 rfl rfl rfl ?_
          refine WD.b (i:=43) (d:=51) (by kernel_rfl) rfl z2 z3 rfl rfl rfl ?_
          refine WD.b (i:=44) (d:=52) (by kernel_rfl) rfl z2 z3 rfl rfl rfl ?_
          refine WD.b (i:=45) (d:=53) (by kernel_rfl) rfl z2 z3 rfl rfl rfl ?_
          refine WD.b (i:=46) (d:=54) (by kernel_rfl) rfl z2 z3 rfl rfl rfl ?_
          refine WD.b (i:=47) (d:=55) (by kernel_rfl) rfl z2 z3 rfl rfl rfl ?_
          refine WD.b (i:=48) (d:=56) (by kernel_rfl) rfl z2 z3 rfl rfl rfl ?_
          refine WD.b (i:=49) (d:=57) (by kernel_rfl) rfl z2 z3 rfl rfl rfl ?_
          refine WD.b (i:=50) (d:=58) (by kernel_rfl) rfl z2 z3 rfl rfl rfl ?_
          refine WD.b (i:=51) (d:=59) (by kernel_rfl) rfl z2 z3 rfl rfl rfl ?_
          refine WD.b (i:=52) (d:=60) (by kernel_rfl) rfl z2 z3 rfl rfl rfl ?_
          refine WD.a (i:=53) (d:=61) (by kernel_rfl) rfl z2 z3 rfl rfl rfl (fun _=>yW rfl rfl) ?_
          refine WD.ys (.cons .here .nil) ?_ zvr
          exact (.cons rfl (.cons rfl (.cons rfl (.cons rfl (.cons rfl (.cons rfl (.cons (z7 (Eq.symm zpM)) (.cons (z7 (y1p zpM)) .nil))))))))
         ·have ziY:=hb'; clear hb'
          have zFr:=zFo ziY
          have zFs:=zFp ziY
          refine WD.pin (i:=40) rfl ziY ?_
          refine WD.a (i:=33) (d:=41) (by kernel_rfl) rfl z2 z3 rfl rfl rfl (fun _=>q_m rfl) ?_
          refine WD.a (i:=34) (d:=42) (by kernel_rfl) rfl z2 z3 rfl rfl rfl (fun _=>q_m rfl) ?_
          refine WD.a (i:=35) (d:=43) (by kernel_rfl) rfl z2 z3 rfl rfl rfl (fun _=>y3Z rfl rfl rfl) ?_
          refine WD.znth (j:=36) (dd:=44) (by kernel_rfl) rfl z2 z3 rfl rfl (Z:=Z) (Pr:=(fun r x=>r = e50 x)) yV rfl rfl zcc zFr ?_
          rintro zNe zNf zFt zNg rfl
          refine WD.a (i:=37) (d:=45) (by kernel_rfl) rfl z2 z3 rfl rfl rfl (fun _=>ya y5Q rfl rfl) ?_
          refine WD.e (i:=38) (d:=46) (by kernel_rfl) rfl z2 z3 rfl rfl rfl (yb yd rfl (yD hz.pv zFt rfl)) ?_
          refine WD.a (i:=39) (d:=47) (by kernel_rfl) rfl z2 z3 rfl rfl rfl (fun _=>ya y5Q rfl rfl) ?_
          refine WD.e (i:=40) (d:=48) (by kernel_rfl) rfl z2 z3 rfl rfl rfl (yb yd rfl (yc .here rfl)) ?_
          refine WD.a (i:=41) (d:=49) (by kernel_rfl) rfl z2 z3 rfl rfl rfl (fun _=>y5d rfl rfl) ?_
          refine WD.a (i:=42) (d:=50) (by kernel_rfl) rfl z2 z3 rfl rfl rfl (fun _=>q_m rfl) ?_
          refine WD.mid (fuel':=4) [(0,(.slice z7a zm.length z7b)),(3,(.pointer (some ⟨z41,0,none⟩))),(5,(.int .i64 zJ)),(10,(.bool true)),(20,(.bool false)),(30,(.bool true)),(40,(.bool false)),(50,(.bool (decide (((nth zm (i64 (zJ - 1))).fSent) = zi.fSent)))),(60,(.bool ((decide (((nth zm (i64 (zJ - 1))).fSent) = zi.fSent)) && (decide (((nth zm (i64 (zJ - 1))).fNode) > zi.fNode)))))] (yJ 57 [52,51,50,49,48,47,46,45,44,43,42,41,40,39,38,37,36,35,34,33,32,31,30,29,28,27,26,25,24,23,22,21,20,19,18,17,16,15,14,13,12,11,10,9,8,7,6,5,4,3,2,1,0]) ?_ (fun zvs=>?_)
          rotate_left
          ·rcases Bool.eq_false_or_eq_true (decide (((nth zm (i64 (zJ - 1))).fSent) = zi.fSent)) with hb' | hb'
           ·have zlk:=hb'; clear hb'
            have zFu:=zFs zlk
            refine WD.pin (i:=50) rfl zlk ?_
            refine WD.a (i:=43) (d:=51) (by kernel_rfl) rfl z2 z3 rfl rfl rfl (fun _=>q_m rfl) ?_
            refine WD.a (i:=44) (d:=52) (by kernel_rfl) rfl z2 z3 rfl rfl rfl (fun _=>q_m rfl) ?_
            refine WD.a (i:=45) (d:=53) (by kernel_rfl) rfl z2 z3 rfl rfl rfl (fun _=>y3Z rfl rfl rfl) ?_
            refine WD.znth (j:=46) (dd:=54) (by kernel_rfl) rfl z2 z3 rfl rfl (Z:=Z) (Pr:=(fun r x=>r = e50 x)) yV rfl rfl zcc zFu ?_
            rintro zNh zNi zFv zNj rfl
            refine WD.a (i:=47) (d:=55) (by kernel_rfl) rfl z2 z3 rfl rfl rfl (fun _=>ya y7O rfl rfl) ?_
            refine WD.e (i:=48) (d:=56) (by kernel_rfl) rfl z2 z3 rfl rfl rfl (yb yd rfl (yD hz.pv zFv rfl)) ?_
            refine WD.a (i:=49) (d:=57) (by kernel_rfl) rfl z2 z3 rfl rfl rfl (fun _=>ya y7O rfl rfl) ?_
            refine WD.e (i:=50) (d:=58) (by kernel_rfl) rfl z2 z3 rfl rfl rfl (yb yd rfl (yc .here rfl)) ?_
            refine WD.a (i:=51) (d:=59) (by kernel_rfl) rfl z2 z3 rfl rfl rfl (fun _=>y3f rfl rfl) ?_
            refine WD.a (i:=52) (d:=60) (by kernel_rfl) rfl z2 z3 rfl rfl rfl (fun _=>yW rfl rfl) ?_
            refine WD.ys (.cons .here .nil) ?_ zvs
            exact (.cons rfl (.cons rfl (.cons rfl (.cons rfl (.cons rfl (.cons rfl (.cons rfl (.cons (z7 (Eq.symm zlk)) (.cons (z7 (y1H zlk)) .nil)))))))))
           ·have zpN:=hb'; clear hb'
            refine WD.pin (i:=50) rfl zpN ?_
            refine WD.b (i:=43) (d:=51) (by kernel_rfl) rfl z2 z3 rfl rfl rfl ?_
            refine WD.b (i:=44) (d:=52) (by kernel_rfl) rfl z2 z3 rfl rfl rfl ?_
            refine WD.b (i:=45) (d:=53) (by kernel_rfl) rfl z2 z3 rfl rfl rfl ?_
            refine WD.b (i:=46) (d:=54) (by kernel_rfl) rfl z2 z3 rfl rfl rfl ?_
            refine WD.b (i:=47) (d:=55) (by kernel_rfl) rfl z2 z3 rfl rfl rfl ?_
            refine WD.b (i:=48) (d:=56) (by kernel_rfl) rfl z2 z3 rfl rfl rfl ?_
            refine WD.b (i:=49) (d:=57) (by kernel_rfl) rfl z2 z3 rfl rfl rfl ?_
            refine WD.b (i:=50) (d:=58) (by kernel_rfl) rfl z2 z3 rfl rfl rfl ?_
            refine WD.b (i:=51) (d:=59) (by kernel_rfl) rfl z2 z3 rfl rfl rfl ?_
            refine WD.a (i:=52) (d:=60) (by kernel_rfl) rfl z2 z3 rfl rfl rfl (fun _=>yX rfl rfl) ?_
            refine WD.ys (.cons .here .nil) ?_ zvs
            exact (.cons rfl (.cons rfl (.cons rfl (.cons rfl (.cons rfl (.cons rfl (.cons rfl (.cons (z7 (Eq.symm zpN)) (.cons (z7 (y1G zpN)) .nil)))))))))
          refine WD.d #[true,true,true,true,true,true,true,true,true,true,true,true,true,true,true,true,true,true,true,true,true,true,true,true,true,true,true,true,true,true,true,true,true,true,true,true,true,true,true,true,true,true,true,true,true,true,true,true,true,true,true,true,true,false,false,false,false] (by kernel_rfl) ?_
          refine WD.a (i:=53) (d:=61) (by kernel_rfl) rfl z2 z3 rfl rfl rfl (fun _=>yX rfl rfl) ?_
          refine WD.ys (.cons .here .nil) ?_ zvr
          exact (.cons rfl (.cons rfl (.cons rfl (.cons rfl (.cons rfl (.cons rfl (.cons (z7 (Eq.symm ziY)) (.cons (z7 (y1q ziY)) .nil))))))))
        refine WD.d #[true,true,true,true,true,true,true,true,true,true,true,true,true,true,true,true,true,true,true,true,true,true,true,true,true,true,true,true,true,true,true,true,true,true,true,true,true,true,true,true,true,true,true,true,true,true,true,true,true,true,true,true,true,true,false,false,false] (by kernel_rfl) ?_
        refine WD.a (i:=54) (d:=62) (by kernel_rfl) rfl z2 z3 rfl rfl rfl (fun _=>yW rfl rfl) ?_
        refine WD.ys (.cons .here .nil) ?_ zvq
        exact (.cons rfl (.cons rfl (.cons rfl (.cons rfl (.cons rfl (.cons (z7 (Eq.symm zfj)) (.cons (z7 (y1H zfj)) .nil)))))))
       ·have zpO:=hb'; clear hb'
        refine WD.pin (i:=30) rfl zpO ?_
        refine WD.b (i:=23) (d:=31) (by kernel_rfl) rfl z2 z3 rfl rfl rfl ?_
        refine WD.b (i:=24) (d:=32) (by kernel_rfl) rfl z2 z3 rfl rfl rfl ?_
        refine WD.b (i:=25) (d:=33) (by kernel_rfl) rfl z2 z3 rfl rfl rfl ?_
        refine WD.b (i:=26) (d:=34) (by kernel_rfl) rfl z2 z3 rfl rfl rfl ?_
        refine WD.b (i:=27) (d:=35) (by kernel_rfl) rfl z2 z3 rfl rfl rfl ?_
        refine WD.b (i:=28) (d:=36) (by kernel_rfl) rfl z2 z3 rfl rfl rfl ?_
        refine WD.b (i:=29) (d:=37) (by kernel_rfl) rfl z2 z3 rfl rfl rfl ?_
        refine WD.b (i:=30) (d:=38) (by kernel_rfl) rfl z2 z3 rfl rfl rfl ?_
        refine WD.b (i:=31) (d:=39) (by kernel_rfl) rfl z2 z3 rfl rfl rfl ?_
        refine WD.b (i:=32) (d:=40) (by kernel_rfl) rfl z2 z3 rfl rfl rfl ?_
        refine WD.b (i:=33) (d:=41) (by kernel_rfl) rfl z2 z3 rfl rfl rfl ?_
        refine WD.b (i:=34) (d:=42) (by kernel_rfl) rfl z2 z3 rfl rfl rfl ?_
        refine WD.b (i:=35) (d:=43) (by kernel_rfl) rfl z2 z3 rfl rfl rfl ?_
        refine WD.b (i:=36) (d:=44) (by kernel_rfl) rfl z2 z3 rfl rfl rfl ?_
        refine WD.b (i:=37) (d:=45) (by kernel_rfl) rfl z2 z3 rfl rfl rfl ?_
        refine WD.b (i:=38) (d:=46) (by kernel_rfl) rfl z2 z3 rfl rfl rfl ?_
        refine WD.b (i:=39) (d:=47) (by kernel_rfl) rfl z2 z3 rfl rfl rfl ?_
        refine WD.b (i:=40) (d:=48) (by kernel_rfl) rfl z2 z3 rfl rfl rfl ?_
        refine WD.b (i:=41) (d:=49) (by kernel_rfl) rfl z2 z3 rfl rfl rfl ?_
        refine WD.b (i:=42) (d:=50) (by kernel_rfl) rfl z2 z3 rfl rfl rfl ?_
        refine WD.b (i:=43) (d:=51) (by kernel_rfl) rfl z2 z3 rfl rfl rfl ?_
        refine WD.b (i:=44) (d:=52) (by kernel_rfl) rfl z2 z3 rfl rfl rfl ?_
        refine WD.b (i:=45) (d:=53) (by kernel_rfl) rfl z2 z3 rfl rfl rfl ?_
        refine WD.b (i:=46) (d:=54) (by kernel_rfl) rfl z2 z3 rfl rfl rfl ?_
        refine WD.b (i:=47) (d:=55) (by kernel_rfl) rfl z2 z3 rfl rfl rfl ?_
        refine WD.b (i:=48) (d:=56) (by kernel_rfl) rfl z2 z3 rfl rfl rfl ?_
        refine WD.b (i:=49) (d:=57) (by kernel_rfl) rfl z2 z3 rfl rfl rfl ?_
        refine WD.b (i:=50) (d:=58) (by kernel_rfl) rfl z2 z3 rfl rfl rfl ?_
        refine WD.b (i:=51) (d:=59) (by kernel_rfl) rfl z2 z3 rfl rfl rfl ?_
        refine WD.b (i:=52) (d:=60) (by kernel_rfl) rfl z2 z3 rfl rfl rfl ?_
        refine WD.b (i:=53) (d:=61) (by kernel_rfl) rfl z2 z3 rfl rfl rfl ?_
        refine WD.a (i:=54) (d:=62) (by kernel_rfl) rfl z2 z3 rfl rfl rfl (fun _=>yX rfl rfl) ?_
        refine WD.ys (.cons .here .nil) ?_ zvq
        exact (.cons rfl (.cons rfl (.cons rfl (.cons rfl (.cons rfl (.cons (z7 (Eq.symm zpO)) (.cons (z7 (y1G zpO)) .nil)))))))
      refine WD.d #[true,true,true,true,true,true,true,true,true,true,true,true,true,true,true,true,true,true,true,true,true,true,true,true,true,true,true,true,true,true,true,true,true,true,true,true,true,true,true,true,true,true,true,true,true,true,true,true,true,true,true,true,true,true,true,false,false] (by kernel_rfl) ?_
      refine WD.a (i:=55) (d:=63) (by kernel_rfl) rfl z2 z3 rfl rfl rfl (fun _=>yX rfl rfl) ?_
      refine WD.ys (.cons .here .nil) ?_ zvp
      exact (.cons rfl (.cons rfl (.cons rfl (.cons rfl (.cons (z7 (Eq.symm zcd)) (.cons (z7 (y1q zcd)) .nil))))))
    refine WD.d #[true,true,true,true,true,true,true,true,true,true,true,true,true,true,true,true,true,true,true,true,true,true,true,true,true,true,true,true,true,true,true,true,true,true,true,true,true,true,true,true,true,true,true,true,true,true,true,true,true,true,true,true,true,true,true,true,false] (by kernel_rfl) ?_
    refine WD.a (i:=56) (d:=64) (by kernel_rfl) rfl z2 z3 rfl rfl rfl (fun _=>yW rfl rfl) ?_
    refine WD.ys (.cons .here .nil) ?_ zvo
    exact (.cons rfl (.cons rfl (.cons rfl (.cons (z7 (Eq.symm zaF)) (.cons (z7 (y1H zaF)) .nil)))))
   ·have zpP:=hb'; clear hb'
    refine WD.pin (i:=10) rfl zpP ?_
    refine WD.b (i:=3) (d:=11) (by kernel_rfl) rfl z2 z3 rfl rfl rfl ?_
    refine WD.b (i:=4) (d:=12) (by kernel_rfl) rfl z2 z3 rfl rfl rfl ?_
    refine WD.b (i:=5) (d:=13) (by kernel_rfl) rfl z2 z3 rfl rfl rfl ?_
    refine WD.b (i:=6) (d:=14) (by kernel_rfl) rfl z2 z3 rfl rfl rfl ?_
    refine WD.b (i:=7) (d:=15) (by kernel_rfl) rfl z2 z3 rfl rfl rfl ?_
    refine WD.b (i:=8) (d:=16) (by kernel_rfl) rfl z2 z3 rfl rfl rfl ?_
    refine WD.b (i:=9) (d:=17) (by kernel_rfl) rfl z2 z3 rfl rfl rfl ?_
    refine WD.b (i:=10) (d:=18) (by kernel_rfl) rfl z2 z3 rfl rfl rfl ?_
    refine WD.b (i:=11) (d:=19) (by kernel_rfl) rfl z2 z3 rfl rfl rfl ?_
    refine WD.b (i:=12) (d:=20) (by kernel_rfl) rfl z2 z3 rfl rfl rfl ?_
    refine WD.b (i:=13) (d:=21) (by kernel_rfl) rfl z2 z3 rfl rfl rfl ?_
    refine WD.b (i:=14) (d:=22) (by kernel_rfl) rfl z2 z3 rfl rfl rfl ?_
    refine WD.b (i:=15) (d:=23) (by kernel_rfl) rfl z2 z3 rfl rfl rfl ?_
    refine WD.b (i:=16) (d:=24) (by kernel_rfl) rfl z2 z3 rfl rfl rfl ?_
    refine WD.b (i:=17) (d:=25) (by kernel_rfl) rfl z2 z3 rfl rfl rfl ?_
    refine WD.b (i:=18) (d:=26) (by kernel_rfl) rfl z2 z3 rfl rfl rfl ?_
    refine WD.b (i:=19) (d:=27) (by kernel_rfl) rfl z2 z3 rfl rfl rfl ?_
    refine WD.b (i:=20) (d:=28) (by kernel_rfl) rfl z2 z3 rfl rfl rfl ?_
    refine WD.b (i:=21) (d:=29) (by kernel_rfl) rfl z2 z3 rfl rfl rfl ?_
    refine WD.b (i:=22) (d:=30) (by kernel_rfl) rfl z2 z3 rfl rfl rfl ?_
    refine WD.b (i:=23) (d:=31) (by kernel_rfl) rfl z2 z3 rfl rfl rfl ?_
    refine WD.b (i:=24) (d:=32) (by kernel_rfl) rfl z2 z3 rfl rfl rfl ?_
    refine WD.b (i:=25) (d:=33) (by kernel_rfl) rfl z2 z3 rfl rfl rfl ?_
    refine WD.b (i:=26) (d:=34) (by kernel_rfl) rfl z2 z3 rfl rfl rfl ?_
    refine WD.b (i:=27) (d:=35) (by kernel_rfl) rfl z2 z3 rfl rfl rfl ?_
    refine WD.b (i:=28) (d:=36) (by kernel_rfl) rfl z2 z3 rfl rfl rfl ?_
    refine WD.b (i:=29) (d:=37) (by kernel_rfl) rfl z2 z3 rfl rfl rfl ?_
    refine WD.b (i:=30) (d:=38) (by kernel_rfl) rfl z2 z3 rfl rfl rfl ?_
    refine WD.b (i:=31) (d:=39) (by kernel_rfl) rfl z2 z3 rfl rfl rfl ?_
    refine WD.b (i:=32) (d:=40) (by kernel_rfl) rfl z2 z3 rfl rfl rfl ?_
    refine WD.b (i:=33) (d:=41) (by kernel_rfl) rfl z2 z3 rfl rfl rfl ?_
    refine WD.b (i:=34) (d:=42) (by kernel_rfl) rfl z2 z3 rfl rfl rfl ?_
    refine WD.b (i:=35) (d:=43) (by kernel_rfl) rfl z2 z3 rfl rfl rfl ?_
    refine WD.b (i:=36) (d:=44) (by kernel_rfl) rfl z2 z3 rfl rfl rfl ?_
    refine WD.b (i:=37) (d:=45) (by kernel_rfl) rfl z2 z3 rfl rfl rfl ?_
    refine WD.b (i:=38) (d:=46) (by kernel_rfl) rfl z2 z3 rfl rfl rfl ?_
    refine WD.b (i:=39) (d:=47) (by kernel_rfl) rfl z2 z3 rfl rfl rfl ?_
    refine WD.b (i:=40) (d:=48) (by kernel_rfl) rfl z2 z3 rfl rfl rfl ?_
    refine WD.b (i:=41) (d:=49) (by kernel_rfl) rfl z2 z3 rfl rfl rfl ?_
    refine WD.b (i:=42) (d:=50) (by kernel_rfl) rfl z2 z3 rfl rfl rfl ?_
    refine WD.b (i:=43) (d:=51) (by kernel_rfl) rfl z2 z3 rfl rfl rfl ?_
    refine WD.b (i:=44) (d:=52) (by kernel_rfl) rfl z2 z3 rfl rfl rfl ?_
    refine WD.b (i:=45) (d:=53) (by kernel_rfl) rfl z2 z3 rfl rfl rfl ?_
    refine WD.b (i:=46) (d:=54) (by kernel_rfl) rfl z2 z3 rfl rfl rfl ?_
    refine WD.b (i:=47) (d:=55) (by kernel_rfl) rfl z2 z3 rfl rfl rfl ?_
    refine WD.b (i:=48) (d:=56) (by kernel_rfl) rfl z2 z3 rfl rfl rfl ?_
    refine WD.b (i:=49) (d:=57) (by kernel_rfl) rfl z2 z3 rfl rfl rfl ?_
    refine WD.b (i:=50) (d:=58) (by kernel_rfl) rfl z2 z3 rfl rfl rfl ?_
    refine WD.b (i:=51) (d:=59) (by kernel_rfl) rfl z2 z3 rfl rfl rfl ?_
    refine WD.b (i:=52) (d:=60) (by kernel_rfl) rfl z2 z3 rfl rfl rfl ?_
    refine WD.b (i:=53) (d:=61) (by kernel_rfl) rfl z2 z3 rfl rfl rfl ?_
    refine WD.b (i:=54) (d:=62) (by kernel_rfl) rfl z2 z3 rfl rfl rfl ?_
    refine WD.b (i:=55) (d:=63) (by kernel_rfl) rfl z2 z3 rfl rfl rfl ?_
    refine WD.a (i:=56) (d:=64) (by kernel_rfl) rfl z2 z3 rfl rfl rfl (fun _=>yX rfl rfl) ?_
    refine WD.ys (.cons .here .nil) ?_ zvo
    exact (.cons rfl (.cons rfl (.cons rfl (.cons (z7 (Eq.symm zpP)) (.cons (z7 (y1G zpP)) .nil)))))
  refine WD.d #[true,true,true,true,true,true,true,true,true,true,true,true,true,true,true,true,true,true,true,true,true,true,true,true,true,true,true,true,true,true,true,true,true,true,true,true,true,true,true,true,true,true,true,true,true,true,true,true,true,true,true,true,true,true,true,true,true] (by kernel_rfl) ?_
  refine WD.done (by kernel_rfl) ?_
  refine WX.a ?_
  refine WC.cond rfl (fun zpQ=>?_) (fun zpQ=>?_)
  ·replace h:=ym h zpQ
   refine WC.skip (WX.a (WC.block (WC.a (WL.pu rfl (WL.pu rfl (WL.pu rfl (WL.nil (WX.yk ?_))))))))
   exact WX.round (G:=Nat × Int) ⟨zpK,(i64 (zJ - 1))⟩ h (Nat.lt_succ_self _) (.cons rfl (.cons rfl (.cons rfl .nil))) (.cons .here .nil)
  ·replace h:=yn h zpQ
   refine WC.exit (WX.yg (WX.yg (WX.yv ?_)))
   exact WX.mid (G:=Int) zJ h (.cons rfl (.cons rfl (.cons rfl .nil))) (.cons .here .nil)
 ·rintro z1d h
  replace h:=(zF6 z1d).symm.trans h
  refine WC.b ?_
  obtain ⟨zFw,h⟩:=ye h
  obtain ⟨zvt,h⟩:=ye h
  obtain ⟨zFx,h⟩:=ye h
  obtain ⟨zFy,h⟩:=ye h
  obtain ⟨zFz,h⟩:=ye h
  refine WC.yI (fun i=>[4,7,11].contains i) [stb z41 50 [(.int .i64 zi.fSent),(.int .i64 zi.fNode),(.int .i64 zi.fTime)]] rfl ?_
  refine WD.a (i:=1) (d:=68) (by kernel_rfl) rfl z2 z3 rfl rfl rfl (fun _=>q_m rfl) ?_
  refine WD.a (i:=2) (d:=69) (by kernel_rfl) rfl z2 z3 rfl rfl rfl (fun _=>q_m rfl) ?_
  refine WD.zsub (j:=3) (dd:=70) (by kernel_rfl) rfl z2 z3 rfl rfl (Z:=Z) (Pr:=(fun r x=>r = e50 x)) yV rfl zcc (fun _=>ixn) (fun _=>ixo rfl) rfl rfl zFw (List.drop_zero).symm ?_
  rintro zpR zpS zvu
  refine WD.stable (i:=5) (d:=72) (by kernel_rfl) rfl z2 z3 rfl rfl rfl (Sin.of (.cons .here .nil)) (yx y2n rfl (yQ .here) rfl) ?_
  refine WD.a (i:=8) (d:=75) (by kernel_rfl) rfl z2 z3 rfl rfl rfl (fun _=>q_m rfl) ?_
  refine WD.a (i:=9) (d:=76) (by kernel_rfl) rfl z2 z3 rfl rfl rfl (fun _=>q_m rfl) ?_
  refine WD.zsub (j:=10) (dd:=77) (by kernel_rfl) rfl z2 z3 rfl rfl (Z:=Z) (Pr:=(fun r x=>r = e50 x)) yV rfl zcc (fun _=>ixo rfl) (fun _=>ixn) rfl rfl zFy (by rw [Int.toNat_natCast,List.take_length]) ?_
  rintro zfk zfl zFA
  refine WD.y84 (fuel':=0) (fun (b0o1_50275 : Nat) (ao4o1_50275 : Option Addr) (cap4o2_50275 : Nat) (b6o1_50275 : Nat) (ao7o1_50275 : Option Addr) (cap7o2_50275 : Nat) (ao11o1_50275 : Option Addr) (cap11o2_50275 : Nat)=>[(4,(.slice ao11o1_50275 ((((([] : List Sapi_Come) ++ (zm.take (z1d : Int).toNat)) ++ ([zi] : List Sapi_Come)) ++ (zm.drop (z1d : Int).toNat)).length) cap11o2_50275))]) (fun (b0o1_50275 : Nat) (ao4o1_50275 : Option Addr) (cap4o2_50275 : Nat) (b6o1_50275 : Nat) (ao7o1_50275 : Option Addr) (cap7o2_50275 : Nat) (ao11o1_50275 : Option Addr) (cap11o2_50275 : Nat)=>[row (.slice ao11o1_50275 ((((([] : List Sapi_Come) ++ (zm.take (z1d : Int).toNat)) ++ ([zi] : List Sapi_Come)) ++ (zm.drop (z1d : Int).toNat)).length) cap11o2_50275) 50 3 ((((([] : List Sapi_Come) ++ (zm.take (z1d : Int).toNat)) ++ ([zi] : List Sapi_Come)) ++ (zm.drop (z1d : Int).toNat)).flatMap e50),row (.slice (some ⟨b6o1_50275,0,none⟩) (([zi] : List Sapi_Come).length) 1) 50 3 (([zi] : List Sapi_Come).flatMap e50),stb z41 50 [(.int .i64 zi.fSent),(.int .i64 zi.fNode),(.int .i64 zi.fTime)]]) (fun (b0o1_50275 : Nat) (ao4o1_50275 : Option Addr) (cap4o2_50275 : Nat) (b6o1_50275 : Nat) (ao7o1_50275 : Option Addr) (cap7o2_50275 : Nat) (ao11o1_50275 : Option Addr) (cap11o2_50275 : Nat)=>True) (yJ 13 [12,11,7,6,4,0,10,9,8,5,3,2,1]) ?_ (fun K0o4o6o7o11o12_50275=>?_)
  ·skip
   rintro b0o1_50275 ao4o1_50275 cap4o2_50275 b6o1_50275 ao7o1_50275 cap7o2_50275 ao11o1_50275 cap11o2_50275 _
   refine WD.done (by kernel_rfl) ?_
   refine WX.a (WC.ret ?_)
   obtain rfl:=Option.some.inj h
   refine WX.yi Try.results33 (.tmp rfl .nil) (fun w hw=>?_)
   exact ⟨ao11o1_50275,cap11o2_50275,yM rfl,trivial,hw.sub (.cons .here .nil)⟩
  refine WD.mids6 (fuel':=2) (fun (b0o1_50275 : Nat) (ao4o1_50275 : Option Addr) (cap4o2_50275 : Nat) (b6o1_50275 : Nat) (ao7o1_50275 : Option Addr) (cap7o2_50275 : Nat)=>[(77,(.slice zfk ((zm.drop (z1d : Int).toNat).length) zfl)),(74,(.slice ao7o1_50275 (((([] : List Sapi_Come) ++ (zm.take (z1d : Int).toNat)) ++ ([zi] : List Sapi_Come)).length) cap7o2_50275))]) (fun (b0o1_50275 : Nat) (ao4o1_50275 : Option Addr) (cap4o2_50275 : Nat) (b6o1_50275 : Nat) (ao7o1_50275 : Option Addr) (cap7o2_50275 : Nat)=>[row (.slice ao7o1_50275 (((([] : List Sapi_Come) ++ (zm.take (z1d : Int).toNat)) ++ ([zi] : List Sapi_Come)).length) cap7o2_50275) 50 3 (((([] : List Sapi_Come) ++ (zm.take (z1d : Int).toNat)) ++ ([zi] : List Sapi_Come)).flatMap e50),row (.slice (some ⟨b6o1_50275,0,none⟩) (([zi] : List Sapi_Come).length) 1) 50 3 (([zi] : List Sapi_Come).flatMap e50),stb z41 50 [(.int .i64 zi.fSent),(.int .i64 zi.fNode),(.int .i64 zi.fTime)]]) (fun (b0o1_50275 : Nat) (ao4o1_50275 : Option Addr) (cap4o2_50275 : Nat) (b6o1_50275 : Nat) (ao7o1_50275 : Option Addr) (cap7o2_50275 : Nat)=>True) (yJ 13 [7,6,4,0,10,9,8,5,3,2,1]) ?_ (fun K0o4o6o7_50275=>?_)
  ·skip
   rintro b0o1_50275 ao4o1_50275 cap4o2_50275 b6o1_50275 ao7o1_50275 cap7o2_50275 _
   refine WD.old (i:=11) (dd:=78) rfl (by kernel_rfl) rfl rfl rfl rfl (fun _=>(Sin.of (.cons .h2 .nil))) (y1R (enc:=e50) (l1:=(([] : List Sapi_Come) ++ (zm.take (z1d : Int).toNat)) ++ ([zi] : List Sapi_Come)) (l2:=zm.drop (z1d : Int).toNat) yV rfl rfl .here (fun _=>rfl) rfl rfl (y5A hz.pv zFA) (y2f y6y _) zFz) ?_
   rintro ⟨ao11o1_50275,cap11o2_50275⟩ _
   refine WD.a (i:=12) (d:=4) (by kernel_rfl) rfl z2 z3 rfl rfl rfl (fun _=>q_z rfl) ?_
   exact WD.ys (.cons .here (.cons .here (.cons .here .nil))) (.cons rfl .nil) (K0o4o6o7o11o12_50275 b0o1_50275 ao4o1_50275 cap4o2_50275 b6o1_50275 ao7o1_50275 cap7o2_50275 ao11o1_50275 cap11o2_50275 trivial)
  refine WD.mids4 (fuel':=3) (fun (b0o1_50275 : Nat) (ao4o1_50275 : Option Addr) (cap4o2_50275 : Nat) (b6o1_50275 : Nat)=>[(77,(.slice zfk ((zm.drop (z1d : Int).toNat).length) zfl)),(71,(.slice ao4o1_50275 ((([] : List Sapi_Come) ++ (zm.take (z1d : Int).toNat)).length) cap4o2_50275)),(73,(.slice (some ⟨b6o1_50275,0,none⟩) (([zi] : List Sapi_Come).length) 1))]) (fun (b0o1_50275 : Nat) (ao4o1_50275 : Option Addr) (cap4o2_50275 : Nat) (b6o1_50275 : Nat)=>[row (.slice (some ⟨b6o1_50275,0,none⟩) (([zi] : List Sapi_Come).length) 1) 50 3 (([zi] : List Sapi_Come).flatMap e50),row (.slice ao4o1_50275 ((([] : List Sapi_Come) ++ (zm.take (z1d : Int).toNat)).length) cap4o2_50275) 50 3 ((([] : List Sapi_Come) ++ (zm.take (z1d : Int).toNat)).flatMap e50),stb z41 50 [(.int .i64 zi.fSent),(.int .i64 zi.fNode),(.int .i64 zi.fTime)]]) (fun (b0o1_50275 : Nat) (ao4o1_50275 : Option Addr) (cap4o2_50275 : Nat) (b6o1_50275 : Nat)=>True) (yJ 13 [6,4,0,10,9,8,5,3,2,1]) ?_ (fun K0o4o6_50275=>?_)
  ·skip
   rintro b0o1_50275 ao4o1_50275 cap4o2_50275 b6o1_50275 _
   refine WD.old (i:=7) (dd:=74) rfl (by kernel_rfl) rfl rfl rfl rfl (fun _=>(Sin.of (.cons .h2 .nil))) (y1R (enc:=e50) (l1:=([] : List Sapi_Come) ++ (zm.take (z1d : Int).toNat)) (l2:=([zi] : List Sapi_Come)) yV rfl rfl .h1 (fun _=>rfl) rfl rfl (y3m .here) (y2f y6y _) zFx) ?_
   rintro ⟨ao7o1_50275,cap7o2_50275⟩ _
   exact WD.ys (.cons .here (.cons .here (.cons .here .nil))) (.cons rfl (.cons rfl .nil)) (K0o4o6o7_50275 b0o1_50275 ao4o1_50275 cap4o2_50275 b6o1_50275 ao7o1_50275 cap7o2_50275 trivial)
  refine WD.mids3 (fuel':=4) (fun (b0o1_50275 : Nat) (ao4o1_50275 : Option Addr) (cap4o2_50275 : Nat)=>[(72,(.agg #[(.int .i64 zi.fSent),(.int .i64 zi.fNode),(.int .i64 zi.fTime)])),(77,(.slice zfk ((zm.drop (z1d : Int).toNat).length) zfl)),(71,(.slice ao4o1_50275 ((([] : List Sapi_Come) ++ (zm.take (z1d : Int).toNat)).length) cap4o2_50275))]) (fun (b0o1_50275 : Nat) (ao4o1_50275 : Option Addr) (cap4o2_50275 : Nat)=>[row (.slice ao4o1_50275 ((([] : List Sapi_Come) ++ (zm.take (z1d : Int).toNat)).length) cap4o2_50275) 50 3 ((([] : List Sapi_Come) ++ (zm.take (z1d : Int).toNat)).flatMap e50),stb z41 50 [(.int .i64 zi.fSent),(.int .i64 zi.fNode),(.int .i64 zi.fTime)]]) (fun (b0o1_50275 : Nat) (ao4o1_50275 : Option Addr) (cap4o2_50275 : Nat)=>True) (yJ 13 [4,0,10,9,8,5,3,2,1]) ?_ (fun K0o4_50275=>?_)
  ·skip
   rintro b0o1_50275 ao4o1_50275 cap4o2_50275 _
   refine WD.new (i:=6) (dd:=73) rfl (by kernel_rfl) rfl rfl rfl (yC (cs:=([zi] : List Sapi_Come).flatMap e50) yV (Eos.parts (l:=[.tmp 72]) (.cons rfl .nil) [0]) (fun _=>by kernel_rfl) rfl (by unfold maxLen; omega)) (fun h'=>absurd h' (by decide)) ?_
   intro b6o1_50275 _
   exact WD.ys (.cons .here (.cons .here (.cons .here .nil))) (.cons rfl (.cons rfl (.cons rfl .nil))) (K0o4o6_50275 b0o1_50275 ao4o1_50275 cap4o2_50275 b6o1_50275 trivial)
  refine WD.mids2 (fuel':=4) (fun (b0o1_50275 : Nat) (b6o1_50275 : Nat)=>[(70,(.slice zpR ((zm.take (z1d : Int).toNat).length) zpS)),(77,(.slice zfk ((zm.drop (z1d : Int).toNat).length) zfl)),(67,(.slice (some ⟨b0o1_50275,0,none⟩) (([] : List Sapi_Come).length) 0)),(73,(.slice (some ⟨b6o1_50275,0,none⟩) (([zi] : List Sapi_Come).length) 1))]) (fun (b0o1_50275 : Nat) (b6o1_50275 : Nat)=>[row (.slice (some ⟨b6o1_50275,0,none⟩) (([zi] : List Sapi_Come).length) 1) 50 3 (([zi] : List Sapi_Come).flatMap e50),row (.slice (some ⟨b0o1_50275,0,none⟩) (([] : List Sapi_Come).length) 0) 50 3 (([] : List Sapi_Come).flatMap e50),stb z41 50 [(.int .i64 zi.fSent),(.int .i64 zi.fNode),(.int .i64 zi.fTime)]]) (fun (b0o1_50275 : Nat) (b6o1_50275 : Nat)=>True) (yJ 13 [6,0,10,9,8,5,3,2,1]) ?_ (fun K0o6_50275=>?_)
  ·skip
   rintro b0o1_50275 b6o1_50275 _
   refine WD.old (i:=4) (dd:=71) rfl (by kernel_rfl) rfl rfl rfl rfl (fun _=>(Sin.of (.cons .h2 .nil))) (y1R (enc:=e50) (l1:=([] : List Sapi_Come)) (l2:=zm.take (z1d : Int).toNat) yV rfl rfl .h1 (fun _=>rfl) rfl rfl (y5A hz.pv zvu) (y2f y6y _) zvt) ?_
   rintro ⟨ao4o1_50275,cap4o2_50275⟩ _
   exact WD.ys (.cons .h1 (.cons .here (.cons .here .nil))) (.cons rfl (.cons rfl (.cons rfl .nil))) (K0o4o6_50275 b0o1_50275 ao4o1_50275 cap4o2_50275 b6o1_50275 trivial)
  refine WD.y6Z (fuel':=5) (fun (b0o1_50275 : Nat)=>[(70,(.slice zpR ((zm.take (z1d : Int).toNat).length) zpS)),(72,(.agg #[(.int .i64 zi.fSent),(.int .i64 zi.fNode),(.int .i64 zi.fTime)])),(77,(.slice zfk ((zm.drop (z1d : Int).toNat).length) zfl)),(67,(.slice (some ⟨b0o1_50275,0,none⟩) (([] : List Sapi_Come).length) 0))]) (fun (b0o1_50275 : Nat)=>[row (.slice (some ⟨b0o1_50275,0,none⟩) (([] : List Sapi_Come).length) 0) 50 3 (([] : List Sapi_Come).flatMap e50),stb z41 50 [(.int .i64 zi.fSent),(.int .i64 zi.fNode),(.int .i64 zi.fTime)]]) (fun (b0o1_50275 : Nat)=>True) (yJ 13 [0,10,9,8,5,3,2,1]) ?_ (fun K0_50275=>?_)
  ·skip
   rintro b0o1_50275 _
   refine WD.choose [4,6] (by kernel_rfl) rfl ?_
   refine WDo.cons ?_ (WDo.cons ?_ (WDo.nil))
   ·refine WDo.old (i:=4) (dd:=71) rfl rfl rfl rfl rfl (fun _=>(Sin.of (.cons .h1 .nil))) (y1R (enc:=e50) (l1:=([] : List Sapi_Come)) (l2:=zm.take (z1d : Int).toNat) yV rfl rfl .here (fun _=>rfl) rfl rfl (y5A hz.pv zvu) (y2f y6y _) zvt) ?_
    rintro ⟨ao4o1_50275,cap4o2_50275⟩ _
    exact WD.ys (.cons .here (.cons .here .nil)) (.cons rfl (.cons rfl (.cons rfl .nil))) (K0o4_50275 b0o1_50275 ao4o1_50275 cap4o2_50275 trivial)
   ·refine WDo.new (i:=6) (dd:=73) rfl rfl rfl rfl (yC (cs:=([zi] : List Sapi_Come).flatMap e50) yV (Eos.parts (l:=[.tmp 72]) (.cons rfl .nil) [0]) (fun _=>by kernel_rfl) rfl (by unfold maxLen; omega)) (fun h'=>absurd h' (by decide)) ?_
    intro b6o1_50275 _
    exact WD.ys (.cons .here (.cons .here (.cons .here .nil))) (.cons rfl (.cons rfl (.cons rfl (.cons rfl .nil)))) (K0o6_50275 b0o1_50275 b6o1_50275 trivial)
  refine WD.y6Z (fuel':=5) (fun (b6o1_50275 : Nat)=>[(70,(.slice zpR ((zm.take (z1d : Int).toNat).length) zpS)),(77,(.slice zfk ((zm.drop (z1d : Int).toNat).length) zfl)),(73,(.slice (some ⟨b6o1_50275,0,none⟩) (([zi] : List Sapi_Come).length) 1))]) (fun (b6o1_50275 : Nat)=>[row (.slice (some ⟨b6o1_50275,0,none⟩) (([zi] : List Sapi_Come).length) 1) 50 3 (([zi] : List Sapi_Come).flatMap e50),stb z41 50 [(.int .i64 zi.fSent),(.int .i64 zi.fNode),(.int .i64 zi.fTime)]]) (fun (b6o1_50275 : Nat)=>True) (yJ 13 [6,10,9,8,5,3,2,1]) ?_ (fun K6_50275=>?_)
  ·skip
   rintro b6o1_50275 _
   refine WD.new (i:=0) (dd:=67) rfl (by kernel_rfl) rfl rfl rfl (yC (cs:=([] : List Sapi_Come).flatMap e50) yV (Eos.parts (l:=[]) .nil []) (fun _=>by kernel_rfl) rfl (by unfold maxLen; omega)) (fun h'=>absurd h' (by decide)) ?_
   intro b0o1_50275 _
   exact WD.ys (.cons .h1 (.cons .here (.cons .here .nil))) (.cons rfl (.cons rfl (.cons rfl (.cons rfl .nil)))) (K0o6_50275 b0o1_50275 b6o1_50275 trivial)
  refine WD.choose [0,6] (by kernel_rfl) rfl ?_
  refine WDo.cons ?_ (WDo.cons ?_ (WDo.nil))
  ·refine WDo.new (i:=0) (dd:=67) rfl rfl rfl rfl (yC (cs:=([] : List Sapi_Come).flatMap e50) yV (Eos.parts (l:=[]) .nil []) (fun _=>by kernel_rfl) rfl (by unfold maxLen; omega)) (fun h'=>absurd h' (by decide)) ?_
   intro b0o1_50275 _
   exact WD.ys (.cons .here (.cons .here .nil)) (.cons rfl (.cons rfl (.cons rfl (.cons rfl .nil)))) (K0_50275 b0o1_50275 trivial)
  ·refine WDo.new (i:=6) (dd:=73) rfl rfl rfl rfl (yC (cs:=([zi] : List Sapi_Come).flatMap e50) yV (Eos.parts (l:=[.tmp 72]) (.cons rfl .nil) [0]) (fun _=>by kernel_rfl) rfl (by unfold maxLen; omega)) (fun h'=>absurd h' (by decide)) ?_
   intro b6o1_50275 _
   exact WD.ys (.cons .here (.cons .here .nil)) (.cons rfl (.cons rfl (.cons rfl .nil))) (K6_50275 b6o1_50275 trivial)
def y36 (z16 : List zSt) (z1i : List (List Sapi_Hop)) (z9R : (List Snetwork_event) → Option (List Sapi_Come × List Sapi_Come × Int)) : Nat → (List Snetwork_event) → Int → Option (List Sapi_Come × List Sapi_Come × Int)
 | 0,_,_=>none
 | zpT + 1,z3d,z2b=>if decide (z2b < ((z16.length : Nat) : Int)) then jp1 (fun (z7c : List Snetwork_event)=>y36 z16 z1i z9R zpT z7c (i64 (z2b + 1))) fun zll=>chk ((0 : Int) ≤ z2b ∧ z2b < ((z16.length : Nat) : Int)) (chk ((0 : Int) ≤ ((nth z16 z2b).fVL) ∧ ((nth z16 z2b).fVL) < ((z1i.length : Nat) : Int)) (if decide ((((nth z1i ((nth z16 z2b).fVL)).length : Nat) : Int) > 0) then chk ((0 : Int) ≤ z2b ∧ z2b < ((z16.length : Nat) : Int)) (chk ((0 : Int) ≤ ((nth z16 z2b).fVL) ∧ ((nth z16 z2b).fVL) < ((z1i.length : Nat) : Int)) (chk ((0 : Int) ≤ 0 ∧ 0 < (((nth z1i ((nth z16 z2b).fVL)).length : Nat) : Int)) ((y3W z1i z16 ((nth (nth z1i ((nth z16 z2b).fVL)) 0).fNode) ((nth z16 z2b).fTime) (-1) z2b).bind fun zfm=>chk ((((z3d ++ zfm).length : Nat) : Int) * 56 ≤ 140737488355328 ∧ (((z3d ++ zfm).length : Nat) : Int) ≤ 4611686018427387904) (zll (z3d ++ zfm))))) else zll z3d)) else z9R z3d
theorem y7o {n : Nat} {z16 : List zSt} {z1i : List (List Sapi_Hop)} {z9R : (List Snetwork_event) → Option (List Sapi_Come × List Sapi_Come × Int)} {z3d : List Snetwork_event} {z2b : Int} {r : List Sapi_Come × List Sapi_Come × Int} (h : y36 z16 z1i z9R n z3d z2b = some r) : ∃ m,n = m + 1:=by
 cases n with
 | zero=>cases h
 | succ m=>exact ⟨m,rfl⟩
def y37 (z4 : List Snetwork_event) (z9S : (List S92) → Int → Option (List Sapi_Come × List Sapi_Come × Int)) : Nat → (List S92) → Int → Int → Option (List Sapi_Come × List Sapi_Come × Int)
 | 0,_,_,_=>none
 | zpU + 1,z42,z2h,z2c=>if decide (z2c < ((z4.length : Nat) : Int)) then jp1 (fun (z9T : Int)=>y37 z4 z9S zpU z42 z9T (i64 (z2c + 1))) fun zlm=>chk ((0 : Int) ≤ z2c ∧ z2c < ((z4.length : Nat) : Int)) (chk ((0 : Int) ≤ z2h ∧ z2h < ((z4.length : Nat) : Int)) ((y3D (⟨((nth z4 z2c).fTime),((nth z4 z2c).fIn_),((nth z4 z2c).fVl),((nth z4 z2c).fSent),(⟨(((nth z4 z2c).fHop).fNode),(((nth z4 z2c).fHop).fNext),(((nth z4 z2c).fHop).fLink)⟩ : Sapi_Hop)⟩ : Snetwork_event) (⟨((nth z4 z2h).fTime),((nth z4 z2h).fIn_),((nth z4 z2h).fVl),((nth z4 z2h).fSent),(⟨(((nth z4 z2h).fHop).fNode),(((nth z4 z2h).fHop).fNext),(((nth z4 z2h).fHop).fLink)⟩ : Sapi_Hop)⟩ : Snetwork_event)).bind fun zvv=>if zvv then zlm z2c else zlm z2h)) else z9S z42 z2h
theorem y7p {n : Nat} {z4 : List Snetwork_event} {z9S : (List S92) → Int → Option (List Sapi_Come × List Sapi_Come × Int)} {z42 : List S92} {z2h : Int} {z2c : Int} {r : List Sapi_Come × List Sapi_Come × Int} (h : y37 z4 z9S n z42 z2h z2c = some r) : ∃ m,n = m + 1:=by
 cases n with
 | zero=>cases h
 | succ m=>exact ⟨m,rfl⟩
def y2Q (z1e : List S92) (z4 : List Snetwork_event) (z5 : Int) (z9U : Int → Option (List Sapi_Come × List Sapi_Come × Int)) : Nat → Int → Option (List Sapi_Come × List Sapi_Come × Int)
 | 0,_=>none
 | zpV + 1,z1F=>chk ((decide (z1F < ((z1e.length : Nat) : Int))) = true → ((0 : Int) ≤ z1F ∧ z1F < ((z1e.length : Nat) : Int))) (chk ((decide (z1F < ((z1e.length : Nat) : Int))) = true → ((decide (((nth z1e z1F).fNode) ≠ (((nth z4 z5).fHop).fNode))) = false → ((0 : Int) ≤ z1F ∧ z1F < ((z1e.length : Nat) : Int)))) (if (decide (z1F < ((z1e.length : Nat) : Int))) && ((decide (((nth z1e z1F).fNode) ≠ (((nth z4 z5).fHop).fNode))) || (decide (((nth z1e z1F).fLink) ≠ (((nth z4 z5).fHop).fLink)))) then y2Q z1e z4 z5 z9U zpV (i64 (z1F + 1)) else z9U z1F))
theorem y7q {n : Nat} {z1e : List S92} {z4 : List Snetwork_event} {z5 : Int} {z9U : Int → Option (List Sapi_Come × List Sapi_Come × Int)} {z1F : Int} {r : List Sapi_Come × List Sapi_Come × Int} (h : y2Q z1e z4 z5 z9U n z1F = some r) : ∃ m,n = m + 1:=by
 cases n with
 | zero=>cases h
 | succ m=>exact ⟨m,rfl⟩
def y38 (z16 : List zSt) (z1i : List (List Sapi_Hop)) (z6 : Sapi_Config) (z9V : (List Sapi_Come) → (List Sapi_Come) → Option (List Sapi_Come × List Sapi_Come × Int)) : Nat → (List Snetwork_event) → (List Sapi_Come) → (List Sapi_Come) → (List S92) → Option (List Sapi_Come × List Sapi_Come × Int)
 | 0,_,_,_,_=>none
 | zpW + 1,z4,z18,z17,z5v=>if decide (((z4.length : Nat) : Int) > 0) then jp4 (fun (z7d : List Snetwork_event) (z7e : List Sapi_Come) (z7f : List Sapi_Come) (z7g : List S92)=>y38 z16 z1i z6 z9V zpW z7d z7e z7f z7g) fun zln=>jp2 (fun (z1e : List S92) (z5 : Int)=>chk ((0 : Int) ≤ z5 ∧ z5 < ((z4.length : Nat) : Int)) (chk ((0 : Int) ≤ 0 ∧ (0 : Int) ≤ z5 ∧ z5 ≤ ((z4.length : Nat) : Int)) (chk ((((([] : List Snetwork_event) ++ (z4.take (z5 : Int).toNat)).length : Nat) : Int) * 56 ≤ 140737488355328 ∧ (((([] : List Snetwork_event) ++ (z4.take (z5 : Int).toNat)).length : Nat) : Int) ≤ 4611686018427387904) (chk ((0 : Int) ≤ (i64 (z5 + 1)) ∧ (i64 (z5 + 1) : Int) ≤ (z4.length : Int) ∧ (z4.length : Int) ≤ ((z4.length : Nat) : Int)) (chk (((((([] : List Snetwork_event) ++ (z4.take (z5 : Int).toNat)) ++ (z4.drop ((i64 (z5 + 1)) : Int).toNat)).length : Nat) : Int) * 56 ≤ 140737488355328 ∧ ((((([] : List Snetwork_event) ++ (z4.take (z5 : Int).toNat)) ++ (z4.drop ((i64 (z5 + 1)) : Int).toNat)).length : Nat) : Int) ≤ 4611686018427387904) (jp1 (fun (zP : Int)=>jp1 (fun (zS : List S92)=>chk ((0 : Int) ≤ zP ∧ zP < ((zS.length : Nat) : Int)) (chk ((0 : Int) ≤ ((nth z4 z5).fSent) ∧ ((nth z4 z5).fSent) < ((z16.length : Nat) : Int)) ((y3N (⟨(((nth zS zP).fPort).fSlow),(((nth zS zP).fPort).fDelay),(((nth zS zP).fPort).fStore),(((nth zS zP).fPort).fNow),(((nth zS zP).fPort).fAt),(((nth zS zP).fPort).fSize),(((nth zS zP).fPort).fEnd)⟩ : S90) ((nth z4 z5).fTime) ((nth z16 ((nth z4 z5).fSent)).fSize)).bind fun zn=>chk ((0 : Int) ≤ zP ∧ zP < ((zS.length : Nat) : Int)) (if decide (zn.2.2 ≠ 0) then (y3E z17 (⟨((nth z4 z5).fSent),(((nth z4 z5).fHop).fNode),((nth z4 z5).fTime)⟩ : Sapi_Come)).bind fun zpX=>zln ((([] : List Snetwork_event) ++ (z4.take (z5 : Int).toNat)) ++ (z4.drop ((i64 (z5 + 1)) : Int).toNat)) z18 zpX (zS.set (zP : Int).toNat (⟨((nth zS zP).fNode),((nth zS zP).fLink),zn.1⟩ : S92)) else jp2 (fun (z7h : List Sapi_Come) (z7i : List S92)=>(y3W z1i z16 (((nth z4 z5).fHop).fNext) zn.2.1 (((nth z4 z5).fHop).fLink) ((nth z4 z5).fSent)).bind fun zfn=>chk ((((((([] : List Snetwork_event) ++ (z4.take (z5 : Int).toNat)) ++ (z4.drop ((i64 (z5 + 1)) : Int).toNat)) ++ zfn).length : Nat) : Int) * 56 ≤ 140737488355328 ∧ (((((([] : List Snetwork_event) ++ (z4.take (z5 : Int).toNat)) ++ (z4.drop ((i64 (z5 + 1)) : Int).toNat)) ++ zfn).length : Nat) : Int) ≤ 4611686018427387904) (zln (((([] : List Snetwork_event) ++ (z4.take (z5 : Int).toNat)) ++ (z4.drop ((i64 (z5 + 1)) : Int).toNat)) ++ zfn) z7h z17 z7i)) fun zlo=>if decide ((((nth z4 z5).fHop).fNext) < ((z6.fModules.length : Nat) : Int)) then (y3E z18 (⟨((nth z4 z5).fSent),(((nth z4 z5).fHop).fNext),zn.2.1⟩ : Sapi_Come)).bind fun zpY=>zlo zpY (zS.set (zP : Int).toNat (⟨((nth zS zP).fNode),((nth zS zP).fLink),zn.1⟩ : S92)) else zlo z18 (zS.set (zP : Int).toNat (⟨((nth zS zP).fNode),((nth zS zP).fLink),zn.1⟩ : S92)))))) fun zlp=>if decide (zP = ((z1e.length : Nat) : Int)) then jp2 (fun (zaG : Int) (zaH : Int)=>chk ((0 : Int) ≤ (((nth z4 z5).fHop).fLink) ∧ (((nth z4 z5).fHop).fLink) < ((z6.fLinks.length : Nat) : Int)) ((y51 ((nth z6.fLinks (((nth z4 z5).fHop).fLink)).fSlow) zaG zaH).bind fun z14=>chk ((((z1e ++ ([(⟨(((nth z4 z5).fHop).fNode),(((nth z4 z5).fHop).fLink),z14.1⟩ : S92)] : List S92)).length : Nat) : Int) * 120 ≤ 140737488355328 ∧ (((z1e ++ ([(⟨(((nth z4 z5).fHop).fNode),(((nth z4 z5).fHop).fLink),z14.1⟩ : S92)] : List S92)).length : Nat) : Int) ≤ 4611686018427387904) (zlp (z1e ++ ([(⟨(((nth z4 z5).fHop).fNode),(((nth z4 z5).fHop).fLink),z14.1⟩ : S92)] : List S92))))) fun zlq=>if decide ((((nth z4 z5).fHop).fNode) ≥ ((z6.fModules.length : Nat) : Int)) then chk ((0 : Int) ≤ (i64 ((((nth z4 z5).fHop).fNode) - ((z6.fModules.length : Nat) : Int))) ∧ (i64 ((((nth z4 z5).fHop).fNode) - ((z6.fModules.length : Nat) : Int))) < ((z6.fSwitches.length : Nat) : Int)) (zlq ((nth z6.fSwitches (i64 ((((nth z4 z5).fHop).fNode) - ((z6.fModules.length : Nat) : Int)))).fDelay) ((nth z6.fSwitches (i64 ((((nth z4 z5).fHop).fNode) - ((z6.fModules.length : Nat) : Int)))).fStore)) else zlq 0 1073741824 else zlp z1e) fun z9U=>y2Q z1e z4 z5 z9U yw 0)))))) fun z9S=>y37 z4 z9S yw z5v 0 1 else z9V z18 z17
theorem y7r {n : Nat} {z16 : List zSt} {z1i : List (List Sapi_Hop)} {z6 : Sapi_Config} {z9V : (List Sapi_Come) → (List Sapi_Come) → Option (List Sapi_Come × List Sapi_Come × Int)} {z4 : List Snetwork_event} {z18 : List Sapi_Come} {z17 : List Sapi_Come} {z5v : List S92} {r : List Sapi_Come × List Sapi_Come × Int} (h : y38 z16 z1i z6 z9V n z4 z18 z17 z5v = some r) : ∃ m,n = m + 1:=by
 cases n with
 | zero=>cases h
 | succ m=>exact ⟨m,rfl⟩
def y3x (z6 : Sapi_Config) (zfo : Int) (z1i : List (List Sapi_Hop)) (z16 : List zSt) : Option (List Sapi_Come × List Sapi_Come × Int) :=
 (y3V z6 zfo z1i).bind fun zvw=>if !zvw then some (([] : List Sapi_Come),([] : List Sapi_Come),310) else (y4i z6 z16).bind fun zvx=>if !zvx then some (([] : List Sapi_Come),([] : List Sapi_Come),311) else jp1 (fun (z7j : List Snetwork_event)=>jp2 (fun (z8z : List Sapi_Come) (z8A : List Sapi_Come)=>some (z8z,z8A,0)) fun z9V=>y38 z16 z1i z6 z9V yw z7j ([] : List Sapi_Come) ([] : List Sapi_Come) ([] : List S92)) fun z9R=>y36 z16 z1i z9R yw ([] : List Snetwork_event) 0
set_option maxRecDepth 20000 in
theorem yac (Z : Zp) (z2B : Option Addr) (z2C : Nat) (z2D : Option Addr) (z2E : Nat) (z2F : Option Addr) (z2G : Nat) (z2H : Option Addr) (z2I : Nat) (z2J : Option Addr) (z2K : Nat) (z2L : Option Addr) (z2M : Nat) (z2N : Option Addr) (z2O : Nat) (z2P : Option Addr) (z2Q : Nat) (z2m : Option Addr) (z2n : Nat) (z2o : Option Addr) (z2p : Nat) (z6 : Sapi_Config) (zfo : Int) (z1i : List (List Sapi_Hop)) (z16 : List zSt) (r : List Sapi_Come × List Sapi_Come × Int)
  (h : y3x z6 zfo z1i z16 = some r) (w₀ : World) (hz : PZ [] w₀ Z)
  (zvy : ZS Z 4 (y2i Z) z2B z2C z6.fModules)
  (zvz : ZS Z 4 (y2R Z) z2D z2E z6.fChannels)
  (zlr : ZS Z 4 (fun r x=>r = e64 x) z2F z2G z6.fSwitches)
  (zpZ : ZS Z 4 (fun r x=>r = e62 x) z2H z2I z6.fLinks)
  (zvA : ZS Z 7 (y2A Z) z2J z2K z6.fVLs)
  (zvB : ZS Z 5 (fun r x=>r = y2T x) z2L z2M z6.fHealth)
  (zvC : ZS Z 3 (y2S Z) z2N z2O z6.fCauses)
  (zvD : ZS Z 4 (fun r x=>r = y2U x) z2P z2Q z6.fVersions)
  (ziZ : ZS Z 1 (p55 Z) z2m z2n z1i)
  (zce : ZS Z 3 (fun r x=>r = e53 x) z2o z2p z16) :
  Calls Try.prog 13 #[(.agg #[(.slice z2B z6.fModules.length z2C),(.slice z2D z6.fChannels.length z2E),(.slice z2F z6.fSwitches.length z2G),(.slice z2H z6.fLinks.length z2I),(.slice z2J z6.fVLs.length z2K),(.slice z2L z6.fHealth.length z2M),(.slice z2N z6.fCauses.length z2O),(.slice z2P z6.fVersions.length z2Q)]),(.int .i64 zfo),(.slice z2m z1i.length z2n),(.slice z2o z16.length z2p)] w₀ fun e w'=>∃ Zn : Zp,∃ zvE : Option Addr,∃ zvF : Nat,∃ zvG : Option Addr,∃ zvH : Nat,e = .returned (.tuple #[(.slice zvE r.1.length zvF),(.slice zvG r.2.1.length zvH),(.int .i64 r.2.2)]) ∧ True ∧ Hp [] w₀ w' [fz Zn,row (.slice zvE r.1.length zvF) 50 3 (r.1.flatMap e50),row (.slice zvG r.2.1.length zvH) 50 3 (r.2.1.flatMap e50)]:=by
 unfold y3x at h
 refine Calls.yp (vs:=[(.agg #[(.slice z2B z6.fModules.length z2C),(.slice z2D z6.fChannels.length z2E),(.slice z2F z6.fSwitches.length z2G),(.slice z2H z6.fLinks.length z2I),(.slice z2J z6.fVLs.length z2K),(.slice z2L z6.fHealth.length z2M),(.slice z2N z6.fCauses.length z2O),(.slice z2P z6.fVersions.length z2Q)]),(.int .i64 zfo),(.slice z2m z1i.length z2n),(.slice z2o z16.length z2p)]) (pre:=[]) (env:=[(0,(.agg #[(.slice z2B z6.fModules.length z2C),(.slice z2D z6.fChannels.length z2E),(.slice z2F z6.fSwitches.length z2G),(.slice z2H z6.fLinks.length z2I),(.slice z2J z6.fVLs.length z2K),(.slice z2L z6.fHealth.length z2M),(.slice z2N z6.fCauses.length z2O),(.slice z2P z6.fVersions.length z2Q)])),(1,(.int .i64 zfo)),(2,(.slice z2m z1i.length z2n)),(3,(.slice z2o z16.length z2p))]) Try.func13 rfl Try.ntmps13 rfl (Hp.nil w₀ _) rfl ?_
 refine WC.pool (WC.b (WC.a ?_))
 refine WL.new (dd:=4) rfl rfl rfl (y1N (cs:=[(.slice z2B z6.fModules.length z2C),(.slice z2D z6.fChannels.length z2E),(.slice z2F z6.fSwitches.length z2G),(.slice z2H z6.fLinks.length z2I),(.slice z2J z6.fVLs.length z2K),(.slice z2L z6.fHealth.length z2M),(.slice z2N z6.fCauses.length z2O),(.slice z2P z6.fVersions.length z2Q)]) rfl rfl) ?_
 intro z1y _
 refine WL.pu rfl (WL.pu rfl (WL.pu rfl (WL.nil (WX.a (WC.b (WC.b ?_))))))
 obtain ⟨zvw,zFB,h⟩:=zg h
 refine WC.a ?_
 refine WL.a (d:=27) rfl rfl rfl (yx y1f rfl (yQ .here) rfl) ?_
 refine WL.pu rfl (WL.pu rfl ?_)
 refine WL.b (dd:=30) rfl rfl rfl (zC (l:=[.tmp 27,.tmp 28,.tmp 29]) Try.call16 (.cons rfl (.cons rfl (.cons rfl .nil)))) .nil (ccz hz .nil .h1 fun w pz ho=>y7l _ _ _ _ _ _ _ _ _ _ _ _ _ _ _ _ _ _ _ _ _ _ _ zFB w pz ((zvy.mono (Zle.left _ _)).weak (fun _ _ h=>y1u (Zle.left _ _) h)) ((zvz.mono (Zle.left _ _)).weak (fun _ _ h=>y1A (Zle.left _ _) h)) (zlr.mono (Zle.left _ _)) (zpZ.mono (Zle.left _ _)) ((zvA.mono (Zle.left _ _)).weak (fun _ _ h=>y1v (Zle.left _ _) h)) (zvB.mono (Zle.left _ _)) ((zvC.mono (Zle.left _ _)).weak (fun _ _ h=>y1B (Zle.left _ _) h)) (zvD.mono (Zle.left _ _)) ((ziZ.mono (Zle.left _ _)).weak (fun _ _ h=>y2G (Zle.left _ _) h))) ?_
 refine WL.pu rfl (WL.nil (WX.a ?_))
 refine WC.cond rfl (fun zq0=>?_) (fun zq0=>?_)
 ·replace h:=ym h zq0
  refine WC.b (WC.a (WL.pu rfl (WL.pu rfl (WL.pu rfl (WL.nil (WX.a (WC.ret (WX.yj ?_))))))))
  refine WX.nilRow 50 3 ?_
  refine WX.nilRow 50 3 ?_
  obtain rfl:=Option.some.inj h
  refine WX.yi Try.results13 (.tmp rfl (.tmp rfl (.tmp rfl .nil))) (fun w hw=>?_)
  exact ⟨[],none,0,none,0,ret3 rfl rfl rfl,trivial,hw.sub (.cons .h3 (.cons .h1 (.cons .here .nil)))⟩
 ·replace h:=yn h zq0
  refine WC.skip (WX.a (WC.b (WC.b ?_)))
  obtain ⟨zvx,zFC,h⟩:=zg h
  refine WC.a ?_
  refine WL.a (d:=32) rfl rfl rfl (yx y1f rfl (yQ .here) rfl) ?_
  refine WL.pu rfl ?_
  refine WL.b (dd:=34) rfl rfl rfl (zC (l:=[.tmp 32,.tmp 33]) Try.call28 (.cons rfl (.cons rfl .nil))) .nil (ccz hz .nil .h1 fun w pz ho=>y8V _ _ _ _ _ _ _ _ _ _ _ _ _ _ _ _ _ _ _ _ _ _ zFC w pz ((zvy.mono (Zle.left _ _)).weak (fun _ _ h=>y1u (Zle.left _ _) h)) ((zvz.mono (Zle.left _ _)).weak (fun _ _ h=>y1A (Zle.left _ _) h)) (zlr.mono (Zle.left _ _)) (zpZ.mono (Zle.left _ _)) ((zvA.mono (Zle.left _ _)).weak (fun _ _ h=>y1v (Zle.left _ _) h)) (zvB.mono (Zle.left _ _)) ((zvC.mono (Zle.left _ _)).weak (fun _ _ h=>y1B (Zle.left _ _) h)) (zvD.mono (Zle.left _ _)) (zce.mono (Zle.left _ _))) ?_
  refine WL.pu rfl (WL.nil (WX.a ?_))
  refine WC.cond rfl (fun zq1=>?_) (fun zq1=>?_)
  ·replace h:=ym h zq1
   refine WC.b (WC.a (WL.pu rfl (WL.pu rfl (WL.pu rfl (WL.nil (WX.a (WC.ret (WX.yj ?_))))))))
   refine WX.nilRow 50 3 ?_
   refine WX.nilRow 50 3 ?_
   obtain rfl:=Option.some.inj h
   refine WX.yi Try.results13 (.tmp rfl (.tmp rfl (.tmp rfl .nil))) (fun w hw=>?_)
   exact ⟨[],none,0,none,0,ret3 rfl rfl rfl,trivial,hw.sub (.cons .h3 (.cons .h1 (.cons .here .nil)))⟩
  ·replace h:=yn h zq1
   refine WC.skip (WX.a (WC.b (WC.a (WL.pu rfl (WL.nil (WX.a ?_))))))
   obtain ⟨z9R,zFD,h⟩:=yU h
   refine WC.y3r (fun (z7j : List Snetwork_event) (zfp : Option Addr) (zfq : Nat)=>(z9R z7j = some r)) (fun (z7j : List Snetwork_event) (zfp : Option Addr) (zfq : Nat)=>[(2,(.slice z2m z1i.length z2n)),(3,(.slice z2o z16.length z2p)),(4,(.pointer (some ⟨z1y,0,none⟩))),(11,(.slice zfp z7j.length zfq))]) (fun (z7j : List Snetwork_event) (zfp : Option Addr) (zfq : Nat)=>[fz [],row (.slice zfp z7j.length zfq) 89 7 (z7j.flatMap e89),stb z1y 31 [(.slice z2B z6.fModules.length z2C),(.slice z2D z6.fChannels.length z2E),(.slice z2F z6.fSwitches.length z2G),(.slice z2H z6.fLinks.length z2I),(.slice z2J z6.fVLs.length z2K),(.slice z2L z6.fHealth.length z2M),(.slice z2N z6.fCauses.length z2O),(.slice z2P z6.fVersions.length z2Q)]]) ?_ ?_
   ·skip
    refine WC.b (WC.a (WL.pu rfl (WL.nil (WX.a (WC.block ?_)))))
    refine WC.nilRow 89 7 ?_
    refine WC.y5Y (fun (zfr : Nat) (z3d : List Snetwork_event) (z2b : Int) (zaI : Option Addr) (zaJ : Nat)=>(y36 z16 z1i z9R zfr z3d z2b = some r)) (fun (zfr : Nat) (z3d : List Snetwork_event) (z2b : Int) (zaI : Option Addr) (zaJ : Nat)=>[(2,(.slice z2m z1i.length z2n)),(3,(.slice z2o z16.length z2p)),(4,(.pointer (some ⟨z1y,0,none⟩))),(11,(.slice zaI z3d.length zaJ)),(12,(.int .i64 z2b))]) (fun (zfr : Nat) (z3d : List Snetwork_event) (z2b : Int) (zaI : Option Addr) (zaJ : Nat)=>[fz [],row (.slice zaI z3d.length zaJ) 89 7 (z3d.flatMap e89),stb z1y 31 [(.slice z2B z6.fModules.length z2C),(.slice z2D z6.fChannels.length z2E),(.slice z2F z6.fSwitches.length z2G),(.slice z2H z6.fLinks.length z2I),(.slice z2J z6.fVLs.length z2K),(.slice z2L z6.fHealth.length z2M),(.slice z2N z6.fCauses.length z2O),(.slice z2P z6.fVersions.length z2Q)]]) (fun (zfr : Nat) (z3d : List Snetwork_event) (z2b : Int) (zaI : Option Addr) (zaJ : Nat)=>zfr) ⟨yw,([] : List Snetwork_event),0,none,0⟩ h (.cons rfl (.cons rfl (.cons rfl (.cons rfl (.cons rfl .nil))))) (.cons .h2 (.cons .here (.cons .here .nil))) ?_
    rintro zfr z3d z2b zaI zaJ h
    obtain ⟨zpT,rfl⟩:=y7o h
    rw [y36] at h
    refine WC.b (WC.b (WC.a (WL.pu rfl (WL.pu rfl ?_))))
    refine WL.a (d:=38) rfl rfl rfl (yz Try.underlying33 rfl) ?_
    refine WL.pu rfl (WL.nil (WX.a ?_))
    refine WC.cond rfl (fun zq2=>?_) (fun zq2=>?_)
    ·replace h:=ym h zq2
     refine WC.skip (WX.a ?_)
     obtain ⟨zll,zFE,h⟩:=yU h
     refine WC.y3r (fun (z7c : List Snetwork_event) (zfs : Option Addr) (zft : Nat)=>(zll z7c = some r)) (fun (z7c : List Snetwork_event) (zfs : Option Addr) (zft : Nat)=>[(2,(.slice z2m z1i.length z2n)),(3,(.slice z2o z16.length z2p)),(4,(.pointer (some ⟨z1y,0,none⟩))),(11,(.slice zfs z7c.length zft)),(12,(.int .i64 z2b))]) (fun (z7c : List Snetwork_event) (zfs : Option Addr) (zft : Nat)=>[fz [],row (.slice zfs z7c.length zft) 89 7 (z7c.flatMap e89),stb z1y 31 [(.slice z2B z6.fModules.length z2C),(.slice z2D z6.fChannels.length z2E),(.slice z2F z6.fSwitches.length z2G),(.slice z2H z6.fLinks.length z2I),(.slice z2J z6.fVLs.length z2K),(.slice z2L z6.fHealth.length z2M),(.slice z2N z6.fCauses.length z2O),(.slice z2P z6.fVersions.length z2Q)]]) ?_ ?_
     ·skip
      refine WC.block (WC.b ?_)
      obtain ⟨zFF,h⟩:=ye h
      obtain ⟨zFG,h⟩:=ye h
      refine WC.a (WL.pu rfl (WL.pu rfl (WL.pu rfl ?_)))
      refine WL.znth (dd:=45) rfl rfl (Z:=(Z ++ [])) (Pr:=(fun r x=>r = e53 x)) y2M rfl rfl (zce.mono (Zle.left _ _)) zFF ?_
      rintro zNk zNl zFH zNm rfl
      refine WL.a (d:=46) rfl rfl rfl (ya y4G rfl rfl) ?_
      refine WL.a (d:=47) rfl rfl rfl (yb yd rfl (yD (hz.pv2 .here) zFH rfl)) ?_
      refine WL.znth (dd:=48) rfl rfl (Z:=(Z ++ [])) (Pr:=(p55 (Z ++ []))) y5f rfl rfl ((ziZ.mono (Zle.left _ _)).weak (fun _ _ h=>y2G (Zle.left _ _) h)) zFG ?_
      rintro zNn zNo zFI zNp ⟨zNq,zNr,rfl,zNs⟩
      refine WL.a (d:=49) rfl rfl rfl (yb y53 rfl (y4R (hz.pv2 .here) zFI rfl)) ?_
      refine WL.a (d:=50) rfl rfl rfl (yz Try.underlying55 rfl) ?_
      refine WL.pu rfl (WL.nil (WX.a ?_))
      refine WC.cond rfl (fun zq3=>?_) (fun zq3=>?_)
      ·replace h:=ym h zq3
       obtain ⟨zvI,h⟩:=ye h
       obtain ⟨zFJ,h⟩:=ye h
       obtain ⟨zFK,h⟩:=ye h
       obtain ⟨zfm,zFL,h⟩:=zg h
       obtain ⟨zFM,h⟩:=ye h
       refine WC.yI (fun i=>[21].contains i) [] rfl ?_
       refine WD.a (i:=0) (d:=52) (by kernel_rfl) rfl z2 z3 rfl rfl rfl (fun _=>q_m rfl) ?_
       refine WD.a (i:=1) (d:=53) (by kernel_rfl) rfl z2 z3 rfl rfl rfl (fun _=>q_m rfl) ?_
       refine WD.a (i:=2) (d:=54) (by kernel_rfl) rfl z2 z3 rfl rfl rfl (fun _=>q_m rfl) ?_
       refine WD.a (i:=3) (d:=55) (by kernel_rfl) rfl z2 z3 rfl rfl rfl (fun _=>q_m rfl) ?_
       refine WD.a (i:=4) (d:=56) (by kernel_rfl) rfl z2 z3 rfl rfl rfl (fun _=>q_m rfl) ?_
       refine WD.a (i:=5) (d:=57) (by kernel_rfl) rfl z2 z3 rfl rfl rfl (fun _=>q_m rfl) ?_
       refine WD.znth (j:=6) (dd:=58) (by kernel_rfl) rfl z2 z3 rfl rfl (Z:=(Z ++ [])) (Pr:=(fun r x=>r = e53 x)) y2M rfl rfl (zce.mono (Zle.left _ _)) zvI ?_
       rintro zNt zNu zFN zNv rfl
       refine WD.a (i:=7) (d:=59) (by kernel_rfl) rfl z2 z3 rfl rfl rfl (fun _=>ya y4G rfl rfl) ?_
       refine WD.e (i:=8) (d:=60) (by kernel_rfl) rfl z2 z3 rfl rfl rfl (yb yd rfl (yD (hz.pv2 .here) zFN rfl)) ?_
       refine WD.znth (j:=9) (dd:=61) (by kernel_rfl) rfl z2 z3 rfl rfl (Z:=(Z ++ [])) (Pr:=(p55 (Z ++ []))) y5f rfl rfl ((ziZ.mono (Zle.left _ _)).weak (fun _ _ h=>y2G (Zle.left _ _) h)) zFJ ?_
       rintro zNw zNx zFO zNy ⟨zNz,zNA,rfl,zFP⟩
       refine WD.e (i:=10) (d:=62) (by kernel_rfl) rfl z2 z3 rfl rfl rfl (yb y53 rfl (y4R (hz.pv2 .here) zFO rfl)) ?_
       refine WD.znth (j:=11) (dd:=63) (by kernel_rfl) rfl z2 z3 rfl rfl (Z:=(Z ++ [])) (Pr:=(fun r x=>r = e59 x)) y2p rfl rfl zFP zFK ?_
       rintro zNB zNC zFQ zND rfl
       refine WD.a (i:=12) (d:=64) (by kernel_rfl) rfl z2 z3 rfl rfl rfl (fun _=>ya y1E rfl rfl) ?_
       refine WD.e (i:=13) (d:=65) (by kernel_rfl) rfl z2 z3 rfl rfl rfl (yb yd rfl (yD (hz.pv2 .here) zFQ rfl)) ?_
       refine WD.a (i:=14) (d:=66) (by kernel_rfl) rfl z2 z3 rfl rfl rfl (fun _=>q_m rfl) ?_
       refine WD.a (i:=15) (d:=67) (by kernel_rfl) rfl z2 z3 rfl rfl rfl (fun _=>q_m rfl) ?_
       refine WD.znth (j:=16) (dd:=68) (by kernel_rfl) rfl z2 z3 rfl rfl (Z:=(Z ++ [])) (Pr:=(fun r x=>r = e53 x)) y2M rfl rfl (zce.mono (Zle.left _ _)) zvI ?_
       rintro zNE zNF zFR zNG rfl
       refine WD.a (i:=17) (d:=69) (by kernel_rfl) rfl z2 z3 rfl rfl rfl (fun _=>ya y4F rfl rfl) ?_
       refine WD.e (i:=18) (d:=70) (by kernel_rfl) rfl z2 z3 rfl rfl rfl (yb yd rfl (yD (hz.pv2 .here) zFR rfl)) ?_
       refine WD.a (i:=19) (d:=71) (by kernel_rfl) rfl z2 z3 rfl rfl rfl (fun _=>q_m rfl) ?_
       refine WD.call2 (i:=20) (dd:=72) rfl (by kernel_rfl) rfl rfl rfl (.inr rfl) (zC (l:=[.tmp 53,.tmp 54,.tmp 65,.tmp 70,.const (.int .i64 (-1)),.tmp 71]) Try.call29 (.cons rfl (.cons rfl (.cons rfl (.cons rfl (.cons rfl (.cons rfl .nil))))))) .nil (ccz hz .nil .here fun w pz ho=>y7m _ _ _ _ _ _ _ _ _ _ _ _ zFL w pz ((ziZ.mono (Zle.left _ _)).weak (fun _ _ h=>y2G (Zle.left _ _) h)) (zce.mono (Zle.left _ _))) ?_
       rintro zNH zNI _
       refine WD.old (i:=21) (dd:=73) rfl (by kernel_rfl) rfl rfl rfl rfl (fun _=>(Sin.of .nil)) (y1R (enc:=e89) (l1:=z3d) (l2:=zfm) y4x rfl rfl .h2 (fun _=>rfl) rfl rfl (y3m .here) (y2f y7C _) zFM) ?_
       rintro ⟨zFS,zFT⟩ _
       refine WD.a (i:=22) (d:=11) (by kernel_rfl) rfl z2 z3 rfl rfl rfl (fun _=>q_z rfl) ?_
       refine WD.done (by kernel_rfl) ?_
       refine WX.yk ?_
       exact WX.mid (G:=List Snetwork_event × Option Addr × Nat) ⟨(z3d ++ zfm),zFS,zFT⟩ h (.cons rfl (.cons rfl (.cons rfl (.cons rfl (.cons rfl .nil))))) (.cons .h2 (.cons .here (.cons .h1 .nil)))
      ·replace h:=yn h zq3
       refine WC.skip (WX.yk ?_)
       exact WX.mid (G:=List Snetwork_event × Option Addr × Nat) ⟨z3d,zaI,zaJ⟩ h (.cons rfl (.cons rfl (.cons rfl (.cons rfl (.cons rfl .nil))))) (.cons .here (.cons .here (.cons .here .nil)))
     ·rintro z7c zfs zft h
      replace h:=(zFE z7c).symm.trans h
      refine WC.a (WL.pu rfl (WL.pu rfl (WL.pu rfl (WL.nil ?_))))
      exact WX.round (G:=Nat × List Snetwork_event × Int × Option Addr × Nat) ⟨zpT,z7c,(i64 (z2b + 1)),zfs,zft⟩ h (Nat.lt_succ_self _) (.cons rfl (.cons rfl (.cons rfl (.cons rfl (.cons rfl .nil))))) (.cons .here (.cons .here (.cons .here .nil)))
    ·replace h:=yn h zq2
     refine WC.exit (WX.yg (WX.yg (WX.yv ?_)))
     exact WX.mid (G:=List Snetwork_event × Option Addr × Nat) ⟨z3d,zaI,zaJ⟩ h (.cons rfl (.cons rfl (.cons rfl (.cons rfl .nil)))) (.cons .here (.cons .here (.cons .here .nil)))
   ·rintro z7j zfp zfq h
    replace h:=(zFD z7j).symm.trans h
    refine WC.b (WC.a (WL.pu rfl (WL.pu rfl (WL.nil (WX.a (WC.b (WC.a (WL.pu rfl (WL.nil (WX.a ?_))))))))))
    obtain ⟨z9V,zFU,h⟩:=y2s h
    refine WC.yaP (fun (z8z : List Sapi_Come) (z8A : List Sapi_Come) (zfu : Zp) (zfv : Option Addr) (zfw : Nat) (zfx : Option Addr) (zfy : Nat)=>(z9V z8z z8A = some r) ∧ (Zle (Z ++ []) (Z ++ zfu))) (fun (z8z : List Sapi_Come) (z8A : List Sapi_Come) (zfu : Zp) (zfv : Option Addr) (zfw : Nat) (zfx : Option Addr) (zfy : Nat)=>[(13,(.slice zfv z8z.length zfw)),(14,(.slice zfx z8A.length zfy))]) (fun (z8z : List Sapi_Come) (z8A : List Sapi_Come) (zfu : Zp) (zfv : Option Addr) (zfw : Nat) (zfx : Option Addr) (zfy : Nat)=>[fz zfu,row (.slice zfv z8z.length zfw) 50 3 (z8z.flatMap e50),row (.slice zfx z8A.length zfy) 50 3 (z8A.flatMap e50)]) ?_ ?_
    ·skip
     refine WC.block ?_
     refine WC.nilRow 50 3 ?_
     refine WC.nilRow 50 3 ?_
     refine WC.nilRow 93 9 ?_
     refine WC.yb3 (fun (zfz : Nat) (z4 : List Snetwork_event) (z18 : List Sapi_Come) (z17 : List Sapi_Come) (z5v : List S92) (z4S : Zp) (z6f : Option Addr) (z6g : Nat) (z1L : Option Addr) (z1M : Nat) (z1G : Option Addr) (z1H : Nat) (z3e : Option Addr) (z2Z : Nat) (zcf : List Value)=>(y38 z16 z1i z6 z9V zfz z4 z18 z17 z5v = some r) ∧ (Zle (Z ++ []) (Z ++ z4S)) ∧ (RR 9 (p93 (Z ++ z4S)) zcf z5v)) (fun (zfz : Nat) (z4 : List Snetwork_event) (z18 : List Sapi_Come) (z17 : List Sapi_Come) (z5v : List S92) (z4S : Zp) (z6f : Option Addr) (z6g : Nat) (z1L : Option Addr) (z1M : Nat) (z1G : Option Addr) (z1H : Nat) (z3e : Option Addr) (z2Z : Nat) (zcf : List Value)=>[(2,(.slice z2m z1i.length z2n)),(3,(.slice z2o z16.length z2p)),(4,(.pointer (some ⟨z1y,0,none⟩))),(11,(.slice z6f z4.length z6g)),(13,(.slice z1L z18.length z1M)),(14,(.slice z1G z17.length z1H)),(15,(.slice z3e z5v.length z2Z))]) (fun (zfz : Nat) (z4 : List Snetwork_event) (z18 : List Sapi_Come) (z17 : List Sapi_Come) (z5v : List S92) (z4S : Zp) (z6f : Option Addr) (z6g : Nat) (z1L : Option Addr) (z1M : Nat) (z1G : Option Addr) (z1H : Nat) (z3e : Option Addr) (z2Z : Nat) (zcf : List Value)=>[fz z4S,row (.slice z6f z4.length z6g) 89 7 (z4.flatMap e89),row (.slice z1L z18.length z1M) 50 3 (z18.flatMap e50),row (.slice z1G z17.length z1H) 50 3 (z17.flatMap e50),row (.slice z3e z5v.length z2Z) 93 9 zcf,stb z1y 31 [(.slice z2B z6.fModules.length z2C),(.slice z2D z6.fChannels.length z2E),(.slice z2F z6.fSwitches.length z2G),(.slice z2H z6.fLinks.length z2I),(.slice z2J z6.fVLs.length z2K),(.slice z2L z6.fHealth.length z2M),(.slice z2N z6.fCauses.length z2O),(.slice z2P z6.fVersions.length z2Q)]]) (fun (zfz : Nat) (z4 : List Snetwork_event) (z18 : List Sapi_Come) (z17 : List Sapi_Come) (z5v : List S92) (z4S : Zp) (z6f : Option Addr) (z6g : Nat) (z1L : Option Addr) (z1M : Nat) (z1G : Option Addr) (z1H : Nat) (z3e : Option Addr) (z2Z : Nat) (zcf : List Value)=>zfz) ⟨yw,z7j,([] : List Sapi_Come),([] : List Sapi_Come),([] : List S92),[],zfp,zfq,none,0,none,0,none,0,[]⟩ ⟨h,(Zle.refl _),(RR.nil _ _)⟩ (.cons rfl (.cons rfl (.cons rfl (.cons rfl (.cons rfl (.cons rfl (.cons rfl .nil))))))) (.cons .h3 (.cons .h3 (.cons .h2 (.cons .h1 (.cons .here (.cons .here .nil)))))) ?_
     rintro zfz z4 z18 z17 z5v z4S z6f z6g z1L z1M z1G z1H z3e z2Z zcf ⟨h,z9W,zFV⟩
     obtain ⟨zpW,rfl⟩:=y7r h
     rw [y38] at h
     refine WC.b (WC.b (WC.a (WL.pu rfl ?_)))
     refine WL.a (d:=75) rfl rfl rfl (yz Try.underlying84 rfl) ?_
     refine WL.pu rfl (WL.nil (WX.a ?_))
     refine WC.cond rfl (fun zq4=>?_) (fun zq4=>?_)
     ·replace h:=ym h zq4
      refine WC.skip (WX.a ?_)
      obtain ⟨zln,zFW,h⟩:=y9z h
      refine WC.mid14 (fun (z7d : List Snetwork_event) (z7e : List Sapi_Come) (z7f : List Sapi_Come) (z7g : List S92) (zcg : Zp) (zfA : Option Addr) (zfB : Nat) (zfC : Option Addr) (zfD : Nat) (zfE : Option Addr) (zfF : Nat) (zfG : Option Addr) (zfH : Nat) (zfI : List Value)=>(zln z7d z7e z7f z7g = some r) ∧ (Zle (Z ++ z4S) (Z ++ zcg)) ∧ (RR 9 (p93 (Z ++ zcg)) zfI z7g)) (fun (z7d : List Snetwork_event) (z7e : List Sapi_Come) (z7f : List Sapi_Come) (z7g : List S92) (zcg : Zp) (zfA : Option Addr) (zfB : Nat) (zfC : Option Addr) (zfD : Nat) (zfE : Option Addr) (zfF : Nat) (zfG : Option Addr) (zfH : Nat) (zfI : List Value)=>[(2,(.slice z2m z1i.length z2n)),(3,(.slice z2o z16.length z2p)),(4,(.pointer (some ⟨z1y,0,none⟩))),(11,(.slice zfA z7d.length zfB)),(13,(.slice zfC z7e.length zfD)),(14,(.slice zfE z7f.length zfF)),(15,(.slice zfG z7g.length zfH))]) (fun (z7d : List Snetwork_event) (z7e : List Sapi_Come) (z7f : List Sapi_Come) (z7g : List S92) (zcg : Zp) (zfA : Option Addr) (zfB : Nat) (zfC : Option Addr) (zfD : Nat) (zfE : Option Addr) (zfF : Nat) (zfG : Option Addr) (zfH : Nat) (zfI : List Value)=>[fz zcg,row (.slice zfA z7d.length zfB) 89 7 (z7d.flatMap e89),row (.slice zfC z7e.length zfD) 50 3 (z7e.flatMap e50),row (.slice zfE z7f.length zfF) 50 3 (z7f.flatMap e50),row (.slice zfG z7g.length zfH) 93 9 zfI,stb z1y 31 [(.slice z2B z6.fModules.length z2C),(.slice z2D z6.fChannels.length z2E),(.slice z2F z6.fSwitches.length z2G),(.slice z2H z6.fLinks.length z2I),(.slice z2J z6.fVLs.length z2K),(.slice z2L z6.fHealth.length z2M),(.slice z2N z6.fCauses.length z2O),(.slice z2P z6.fVersions.length z2Q)]]) ?_ ?_
      ·skip
       refine WC.block (WC.b (WC.a (WL.pu rfl (WL.nil (WX.a ?_)))))
       obtain ⟨z9S,zFX,h⟩:=y2s h
       refine WC.y3r (fun (z1e : List S92) (z5 : Int) (z7k : List Value)=>(z9S z1e z5 = some r) ∧ (RR 9 (p93 (Z ++ z4S)) z7k z1e)) (fun (z1e : List S92) (z5 : Int) (z7k : List Value)=>[(2,(.slice z2m z1i.length z2n)),(3,(.slice z2o z16.length z2p)),(4,(.pointer (some ⟨z1y,0,none⟩))),(11,(.slice z6f z4.length z6g)),(13,(.slice z1L z18.length z1M)),(14,(.slice z1G z17.length z1H)),(15,(.slice z3e z1e.length z2Z)),(16,(.int .i64 z5))]) (fun (z1e : List S92) (z5 : Int) (z7k : List Value)=>[fz z4S,row (.slice z6f z4.length z6g) 89 7 (z4.flatMap e89),row (.slice z1L z18.length z1M) 50 3 (z18.flatMap e50),row (.slice z1G z17.length z1H) 50 3 (z17.flatMap e50),row (.slice z3e z1e.length z2Z) 93 9 z7k,stb z1y 31 [(.slice z2B z6.fModules.length z2C),(.slice z2D z6.fChannels.length z2E),(.slice z2F z6.fSwitches.length z2G),(.slice z2H z6.fLinks.length z2I),(.slice z2J z6.fVLs.length z2K),(.slice z2L z6.fHealth.length z2M),(.slice z2N z6.fCauses.length z2O),(.slice z2P z6.fVersions.length z2Q)]]) ?_ ?_
       ·skip
        refine WC.b (WC.a (WL.pu rfl (WL.nil (WX.a (WC.block ?_)))))
        refine WC.y5Y (fun (zfJ : Nat) (z42 : List S92) (z2h : Int) (z2c : Int) (z9X : List Value)=>(y37 z4 z9S zfJ z42 z2h z2c = some r) ∧ (RR 9 (p93 (Z ++ z4S)) z9X z42)) (fun (zfJ : Nat) (z42 : List S92) (z2h : Int) (z2c : Int) (z9X : List Value)=>[(2,(.slice z2m z1i.length z2n)),(3,(.slice z2o z16.length z2p)),(4,(.pointer (some ⟨z1y,0,none⟩))),(11,(.slice z6f z4.length z6g)),(13,(.slice z1L z18.length z1M)),(14,(.slice z1G z17.length z1H)),(15,(.slice z3e z42.length z2Z)),(16,(.int .i64 z2h)),(17,(.int .i64 z2c))]) (fun (zfJ : Nat) (z42 : List S92) (z2h : Int) (z2c : Int) (z9X : List Value)=>[fz z4S,row (.slice z6f z4.length z6g) 89 7 (z4.flatMap e89),row (.slice z1L z18.length z1M) 50 3 (z18.flatMap e50),row (.slice z1G z17.length z1H) 50 3 (z17.flatMap e50),row (.slice z3e z42.length z2Z) 93 9 z9X,stb z1y 31 [(.slice z2B z6.fModules.length z2C),(.slice z2D z6.fChannels.length z2E),(.slice z2F z6.fSwitches.length z2G),(.slice z2H z6.fLinks.length z2I),(.slice z2J z6.fVLs.length z2K),(.slice z2L z6.fHealth.length z2M),(.slice z2N z6.fCauses.length z2O),(.slice z2P z6.fVersions.length z2Q)]]) (fun (zfJ : Nat) (z42 : List S92) (z2h : Int) (z2c : Int) (z9X : List Value)=>zfJ) ⟨yw,z5v,0,1,zcf⟩ ⟨h,zFV⟩ (.cons rfl (.cons rfl (.cons rfl (.cons rfl (.cons rfl (.cons rfl (.cons rfl (.cons rfl (.cons rfl .nil))))))))) (.cons .here (.cons .here (.cons .here (.cons .here (.cons .here (.cons .here .nil)))))) ?_
        rintro zfJ z42 z2h z2c z9X ⟨h,zvJ⟩
        obtain ⟨zpU,rfl⟩:=y7p h
        rw [y37] at h
        refine WC.b (WC.b (WC.a (WL.pu rfl (WL.pu rfl ?_))))
        refine WL.a (d:=79) rfl rfl rfl (yz Try.underlying84 rfl) ?_
        refine WL.pu rfl (WL.nil (WX.a ?_))
        refine WC.cond rfl (fun zq5=>?_) (fun zq5=>?_)
        ·replace h:=ym h zq5
         refine WC.skip (WX.a ?_)
         obtain ⟨zlm,zFY,h⟩:=yU h
         refine WC.y1i (fun (z9T : Int)=>(zlm z9T = some r)) (fun (z9T : Int)=>[(2,(.slice z2m z1i.length z2n)),(3,(.slice z2o z16.length z2p)),(4,(.pointer (some ⟨z1y,0,none⟩))),(11,(.slice z6f z4.length z6g)),(13,(.slice z1L z18.length z1M)),(14,(.slice z1G z17.length z1H)),(15,(.slice z3e z42.length z2Z)),(16,(.int .i64 z9T)),(17,(.int .i64 z2c))]) (fun (z9T : Int)=>[fz z4S,row (.slice z6f z4.length z6g) 89 7 (z4.flatMap e89),row (.slice z1L z18.length z1M) 50 3 (z18.flatMap e50),row (.slice z1G z17.length z1H) 50 3 (z17.flatMap e50),row (.slice z3e z42.length z2Z) 93 9 z9X,stb z1y 31 [(.slice z2B z6.fModules.length z2C),(.slice z2D z6.fChannels.length z2E),(.slice z2F z6.fSwitches.length z2G),(.slice z2H z6.fLinks.length z2I),(.slice z2J z6.fVLs.length z2K),(.slice z2L z6.fHealth.length z2M),(.slice z2N z6.fCauses.length z2O),(.slice z2P z6.fVersions.length z2Q)]]) ?_ ?_
         ·skip
          refine WC.block (WC.b ?_)
          obtain ⟨zj0,h⟩:=ye h
          obtain ⟨zls,h⟩:=ye h
          obtain ⟨zvv,zFZ,h⟩:=zg h
          refine WC.yI (fun i=>[].contains i) [] rfl ?_
          refine WD.a (i:=0) (d:=83) (by kernel_rfl) rfl z2 z3 rfl rfl rfl (fun _=>q_m rfl) ?_
          refine WD.a (i:=1) (d:=84) (by kernel_rfl) rfl z2 z3 rfl rfl rfl (fun _=>q_m rfl) ?_
          refine WD.know (fun w hw=>Hp.y2g .h1 hw (by intro hz'; have:=zj0; rw [hz'] at this; omega)) ?_
          rintro ⟨zNJ,rfl⟩
          refine WD.a (i:=2) (d:=85) (by kernel_rfl) rfl z2 z3 rfl rfl rfl (fun _=>yu y4x rfl rfl zj0.1 zj0.2 y1c) ?_
          refine WD.e (i:=3) (d:=86) (by kernel_rfl) rfl z2 z3 rfl rfl rfl (y1J (cs:=(e89 (nth z4 z2c))) y8S rfl rfl (y1U .h1 (y1V (enc:=e89) (l:=z4) (i:=z2c) (sz:=7) (fun _=>rfl) zj0.1 zj0.2))) ?_
          refine WD.a (i:=4) (d:=87) (by kernel_rfl) rfl z2 z3 rfl rfl rfl (fun _=>q_m rfl) ?_
          refine WD.a (i:=5) (d:=88) (by kernel_rfl) rfl z2 z3 rfl rfl rfl (fun _=>q_m rfl) ?_
          refine WD.a (i:=6) (d:=89) (by kernel_rfl) rfl z2 z3 rfl rfl rfl (fun _=>yu y4x rfl rfl zls.1 zls.2 y1c) ?_
          refine WD.e (i:=7) (d:=90) (by kernel_rfl) rfl z2 z3 rfl rfl rfl (y1J (cs:=(e89 (nth z4 z2h))) y8S rfl rfl (y1U .h1 (y1V (enc:=e89) (l:=z4) (i:=z2h) (sz:=7) (fun _=>rfl) zls.1 zls.2))) ?_
          refine WD.c (i:=8) (d:=91) (by kernel_rfl) rfl z2 z3 rfl rfl rfl (zC (l:=[.tmp 86,.tmp 90]) Try.call30 (.cons rfl (.cons rfl .nil))) (ccz hz .nil .here fun w pz ho=>y8W _ _ _ _ zFZ w pz ) ?_
          refine WD.done (by kernel_rfl) ?_
          refine WX.a ?_
          refine WC.cond rfl (fun zq6=>?_) (fun zq6=>?_)
          ·replace h:=ym h zq6
           refine WC.a (WL.pu rfl (WL.pu rfl (WL.nil (WX.yk ?_))))
           exact WX.mid (G:=Int) z2c h (.cons rfl (.cons rfl (.cons rfl (.cons rfl (.cons rfl (.cons rfl (.cons rfl (.cons rfl (.cons rfl .nil))))))))) (.cons .here (.cons .here (.cons .here (.cons .here (.cons .here (.cons .here .nil))))))
          ·replace h:=yn h zq6
           refine WC.skip (WX.yk ?_)
           exact WX.mid (G:=Int) z2h h (.cons rfl (.cons rfl (.cons rfl (.cons rfl (.cons rfl (.cons rfl (.cons rfl (.cons rfl (.cons rfl .nil))))))))) (.cons .here (.cons .here (.cons .here (.cons .here (.cons .here (.cons .here .nil))))))
         ·rintro z9T h
          replace h:=(zFY z9T).symm.trans h
          refine WC.a (WL.pu rfl (WL.pu rfl (WL.pu rfl (WL.nil ?_))))
          exact WX.round (G:=Nat × List S92 × Int × Int × List Value) ⟨zpU,z42,z9T,(i64 (z2c + 1)),z9X⟩ ⟨h,zvJ⟩ (Nat.lt_succ_self _) (.cons rfl (.cons rfl (.cons rfl (.cons rfl (.cons rfl (.cons rfl (.cons rfl (.cons rfl (.cons rfl .nil))))))))) (.cons .here (.cons .here (.cons .here (.cons .here (.cons .here (.cons .here .nil))))))
        ·replace h:=yn h zq5
         refine WC.exit (WX.yg (WX.yg (WX.yv ?_)))
         exact WX.mid (G:=List S92 × Int × List Value) ⟨z42,z2h,z9X⟩ ⟨h,zvJ⟩ (.cons rfl (.cons rfl (.cons rfl (.cons rfl (.cons rfl (.cons rfl (.cons rfl (.cons rfl .nil)))))))) (.cons .here (.cons .here (.cons .here (.cons .here (.cons .here (.cons .here .nil))))))
       ·rintro z1e z5 z7k ⟨h,zlt⟩
        replace h:=(zFX z1e z5).symm.trans h
        refine WC.b ?_
        obtain ⟨zj1,h⟩:=ye h
        refine WC.a (WL.pu rfl (WL.pu rfl ?_))
        refine WL.know (fun w hw=>Hp.y2g .h1 hw (by intro hz'; have:=zj1; rw [hz'] at this; omega)) ?_
        rintro ⟨zNK,rfl⟩
        refine WL.a (d:=95) rfl rfl rfl (yu y4x rfl rfl zj1.1 zj1.2 y1c) ?_
        refine WL.a (d:=96) rfl rfl rfl (y1J (cs:=(e89 (nth z4 z5))) y8S rfl rfl (y1U .h1 (y1V (enc:=e89) (l:=z4) (i:=z5) (sz:=7) (fun _=>rfl) zj1.1 zj1.2))) ?_
        refine WL.new (dd:=18) rfl rfl rfl (y28 (cs:=[(.int .i64 0),(.int .i64 0),(.int .i64 0),(.int .i64 0),(.int .i64 0),(.int .i64 0),(.int .i64 0)]) zeroT_89 rfl) ?_
        intro z3f _
        refine WL.y1e rfl rfl (y1z sizT_89 rfl rfl rfl .here rfl rfl rfl) ?_
        refine WL.nil (WX.a (WC.b ?_))
        refine WC.freezeS (ls:=z4) .h2 .h1 hz (RR.y19 (enc:=e89) (fun _=>rfl) _) ?_
        intro z1z z5w zvK
        obtain ⟨zG0,h⟩:=ye h
        obtain ⟨zG1,h⟩:=ye h
        obtain ⟨zG2,h⟩:=ye h
        obtain ⟨zG3,h⟩:=ye h
        refine WC.yI (fun i=>[4,9].contains i) [] rfl ?_
        refine WD.a (i:=1) (d:=98) (by kernel_rfl) rfl z2 z3 rfl rfl rfl (fun _=>q_m rfl) ?_
        refine WD.a (i:=2) (d:=99) (by kernel_rfl) rfl z2 z3 rfl rfl rfl (fun _=>q_m rfl) ?_
        refine WD.zsub (j:=3) (dd:=100) (by kernel_rfl) rfl z2 z3 rfl rfl (Z:=(Z ++ z1z)) (Pr:=(fun r x=>r = e89 x)) y4x rfl zvK (fun _=>ixn) (fun _=>ixo rfl) rfl rfl zG0 (List.drop_zero).symm ?_
        rintro zNL zNM zG4
        refine WD.a (i:=5) (d:=102) (by kernel_rfl) rfl z2 z3 rfl rfl rfl (fun _=>q_m rfl) ?_
        refine WD.a (i:=6) (d:=103) (by kernel_rfl) rfl z2 z3 rfl rfl rfl (fun _=>q_m rfl) ?_
        refine WD.a (i:=7) (d:=104) (by kernel_rfl) rfl z2 z3 rfl rfl rfl (fun _=>y4T rfl rfl rfl) ?_
        refine WD.zsub (j:=8) (dd:=105) (by kernel_rfl) rfl z2 z3 rfl rfl (Z:=(Z ++ z1z)) (Pr:=(fun r x=>r = e89 x)) y4x rfl zvK (fun _=>ixo rfl) (fun _=>ixn) rfl rfl zG2 (by rw [Int.toNat_natCast,List.take_length]) ?_
        rintro zNN zNO zG5
        refine WD.new (i:=0) (dd:=97) rfl (by kernel_rfl) rfl rfl rfl (yC (cs:=([] : List Snetwork_event).flatMap e89) y4x (Eos.parts (l:=[]) .nil []) (fun _=>by kernel_rfl) rfl (by unfold maxLen; omega)) (fun h'=>absurd h' (by decide)) ?_
        intro zNP _
        refine WD.old (i:=4) (dd:=101) rfl (by kernel_rfl) rfl rfl rfl rfl (fun _=>(Sin.of .nil)) (y1R (enc:=e89) (l1:=([] : List Snetwork_event)) (l2:=z4.take (z5 : Int).toNat) y4x rfl rfl .here (fun _=>rfl) rfl rfl (y5A (hz.pv2 .h1) zG4) (y2f y7C _) zG1) ?_
        rintro ⟨zNQ,zNR⟩ _
        refine WD.old (i:=9) (dd:=106) rfl (by kernel_rfl) rfl rfl rfl rfl (fun _=>(Sin.of .nil)) (y1R (enc:=e89) (l1:=([] : List Snetwork_event) ++ (z4.take (z5 : Int).toNat)) (l2:=z4.drop ((i64 (z5 + 1)) : Int).toNat) y4x rfl rfl .here (fun _=>rfl) rfl rfl (y5A (hz.pv2 .h1) zG5) (y2f y7C _) zG3) ?_
        rintro ⟨z30,z31⟩ _
        refine WD.a (i:=10) (d:=11) (by kernel_rfl) rfl z2 z3 rfl rfl rfl (fun _=>q_z rfl) ?_
        refine WD.done (by kernel_rfl) ?_
        refine WX.a (WC.b (WC.a (WL.pu rfl (WL.nil (WX.a ?_)))))
        obtain ⟨z9U,zG6,h⟩:=yU h
        refine WC.y1i (fun (zP : Int)=>(z9U zP = some r)) (fun (zP : Int)=>[(2,(.slice z2m z1i.length z2n)),(3,(.slice z2o z16.length z2p)),(4,(.pointer (some ⟨z1y,0,none⟩))),(11,(.slice z30 (((([] : List Snetwork_event) ++ (z4.take (z5 : Int).toNat)) ++ (z4.drop ((i64 (z5 + 1)) : Int).toNat)).length) z31)),(13,(.slice z1L z18.length z1M)),(14,(.slice z1G z17.length z1H)),(15,(.slice z3e z1e.length z2Z)),(18,(.pointer (some ⟨z3f,0,none⟩))),(19,(.int .i64 zP))]) (fun (zP : Int)=>[fz z1z,row (.slice z30 (((([] : List Snetwork_event) ++ (z4.take (z5 : Int).toNat)) ++ (z4.drop ((i64 (z5 + 1)) : Int).toNat)).length) z31) 89 7 (((([] : List Snetwork_event) ++ (z4.take (z5 : Int).toNat)) ++ (z4.drop ((i64 (z5 + 1)) : Int).toNat)).flatMap e89),row (.slice z1L z18.length z1M) 50 3 (z18.flatMap e50),row (.slice z1G z17.length z1H) 50 3 (z17.flatMap e50),row (.slice z3e z1e.length z2Z) 93 9 z7k,stb z1y 31 [(.slice z2B z6.fModules.length z2C),(.slice z2D z6.fChannels.length z2E),(.slice z2F z6.fSwitches.length z2G),(.slice z2H z6.fLinks.length z2I),(.slice z2J z6.fVLs.length z2K),(.slice z2L z6.fHealth.length z2M),(.slice z2N z6.fCauses.length z2O),(.slice z2P z6.fVersions.length z2Q)],stb z3f 89 [(.int .i64 ((nth z4 z5).fTime)),(.int .i64 ((nth z4 z5).fIn_)),(.int .i64 ((nth z4 z5).fVl)),(.int .i64 ((nth z4 z5).fSent)),(.int .i64 (((nth z4 z5).fHop).fNode)),(.int .i64 (((nth z4 z5).fHop).fNext)),(.int .i64 (((nth z4 z5).fHop).fLink))]]) ?_ ?_
        ·skip
         refine WC.block ?_
         refine WC.y33 (fun (zfK : Nat) (z1F : Int)=>(y2Q z1e z4 z5 z9U zfK z1F = some r)) (fun (zfK : Nat) (z1F : Int)=>[(2,(.slice z2m z1i.length z2n)),(3,(.slice z2o z16.length z2p)),(4,(.pointer (some ⟨z1y,0,none⟩))),(11,(.slice z30 (((([] : List Snetwork_event) ++ (z4.take (z5 : Int).toNat)) ++ (z4.drop ((i64 (z5 + 1)) : Int).toNat)).length) z31)),(13,(.slice z1L z18.length z1M)),(14,(.slice z1G z17.length z1H)),(15,(.slice z3e z1e.length z2Z)),(18,(.pointer (some ⟨z3f,0,none⟩))),(19,(.int .i64 z1F))]) (fun (zfK : Nat) (z1F : Int)=>[fz z1z,row (.slice z30 (((([] : List Snetwork_event) ++ (z4.take (z5 : Int).toNat)) ++ (z4.drop ((i64 (z5 + 1)) : Int).toNat)).length) z31) 89 7 (((([] : List Snetwork_event) ++ (z4.take (z5 : Int).toNat)) ++ (z4.drop ((i64 (z5 + 1)) : Int).toNat)).flatMap e89),row (.slice z1L z18.length z1M) 50 3 (z18.flatMap e50),row (.slice z1G z17.length z1H) 50 3 (z17.flatMap e50),row (.slice z3e z1e.length z2Z) 93 9 z7k,stb z1y 31 [(.slice z2B z6.fModules.length z2C),(.slice z2D z6.fChannels.length z2E),(.slice z2F z6.fSwitches.length z2G),(.slice z2H z6.fLinks.length z2I),(.slice z2J z6.fVLs.length z2K),(.slice z2L z6.fHealth.length z2M),(.slice z2N z6.fCauses.length z2O),(.slice z2P z6.fVersions.length z2Q)],stb z3f 89 [(.int .i64 ((nth z4 z5).fTime)),(.int .i64 ((nth z4 z5).fIn_)),(.int .i64 ((nth z4 z5).fVl)),(.int .i64 ((nth z4 z5).fSent)),(.int .i64 (((nth z4 z5).fHop).fNode)),(.int .i64 (((nth z4 z5).fHop).fNext)),(.int .i64 (((nth z4 z5).fHop).fLink))]]) (fun (zfK : Nat) (z1F : Int)=>zfK) ⟨yw,0⟩ h (.cons rfl (.cons rfl (.cons rfl (.cons rfl (.cons rfl (.cons rfl (.cons rfl (.cons rfl (.cons rfl .nil))))))))) (.cons .h1 (.cons .here (.cons .h1 (.cons .h1 (.cons .h1 (.cons .h1 (.cons .here .nil))))))) ?_
         rintro zfK z1F h
         obtain ⟨zpV,rfl⟩:=y7q h
         rw [y2Q] at h
         refine WC.b (WC.b ?_)
         obtain ⟨zG7,h⟩:=ye h
         obtain ⟨zG8,h⟩:=ye h
         refine WC.yI (fun i=>[].contains i) [] rfl ?_
         refine WD.a (i:=0) (d:=107) (by kernel_rfl) rfl z2 z3 rfl rfl rfl (fun _=>q_m rfl) ?_
         refine WD.a (i:=1) (d:=108) (by kernel_rfl) rfl z2 z3 rfl rfl rfl (fun _=>q_m rfl) ?_
         refine WD.a (i:=2) (d:=109) (by kernel_rfl) rfl z2 z3 rfl rfl rfl (fun _=>yz Try.underlying86 rfl) ?_
         refine WD.a (i:=3) (d:=110) (by kernel_rfl) rfl z2 z3 rfl rfl rfl (fun _=>y3O rfl rfl) ?_
         refine WD.a (i:=4) (d:=111) (by kernel_rfl) rfl z2 z3 rfl rfl rfl (fun _=>q_m rfl) ?_
         refine WD.mid (fuel':=0) [(2,(.slice z2m z1i.length z2n)),(3,(.slice z2o z16.length z2p)),(4,(.pointer (some ⟨z1y,0,none⟩))),(11,(.slice z30 (((([] : List Snetwork_event) ++ (z4.take (z5 : Int).toNat)) ++ (z4.drop ((i64 (z5 + 1)) : Int).toNat)).length) z31)),(13,(.slice z1L z18.length z1M)),(14,(.slice z1G z17.length z1H)),(15,(.slice z3e z1e.length z2Z)),(18,(.pointer (some ⟨z3f,0,none⟩))),(19,(.int .i64 z1F)),(111,(.bool (decide (z1F < ((z1e.length : Nat) : Int))))),(132,(.bool ((decide (z1F < ((z1e.length : Nat) : Int))) && ((decide (((nth z1e z1F).fNode) ≠ (((nth z4 z5).fHop).fNode))) || (decide (((nth z1e z1F).fLink) ≠ (((nth z4 z5).fHop).fLink)))))))] (yJ 26 [25,24,23,22,21,20,19,18,17,16,15,14,13,12,11,10,9,8,7,6,5,4,3,2,1,0]) ?_ (fun zvL=>?_)
         rotate_left
         ·rcases Bool.eq_false_or_eq_true (decide (z1F < ((z1e.length : Nat) : Int))) with hb' | hb'
          ·have zj2:=hb'; clear hb'
           have zj3:=zG7 zj2
           have zG9:=zG8 zj2
           refine WD.pin (i:=111) rfl zj2 ?_
           refine WD.a (i:=5) (d:=112) (by kernel_rfl) rfl z2 z3 rfl rfl rfl (fun _=>q_m rfl) ?_
           refine WD.a (i:=6) (d:=113) (by kernel_rfl) rfl z2 z3 rfl rfl rfl (fun _=>q_m rfl) ?_
           refine WD.know (fun w hw=>Hp.y2g .h4 hw (by intro hz'; have:=zj3; rw [hz'] at this; omega)) ?_
           rintro ⟨zGa,rfl⟩
           obtain ⟨zNS,zNT,zNU,zGb,⟨zNV,zNW,zNX,zNY,zNZ,zO0,rfl,zO1,zO2,zO3⟩⟩:=RR.elem (Pr:=(p93 (Z ++ z1z))) (zlt.weak (fun _ _ h=>y5p z5w h)) zj3.1 zj3.2
           refine WD.a (i:=7) (d:=114) (by kernel_rfl) rfl z2 z3 rfl rfl rfl (fun _=>yu y6E rfl rfl zj3.1 zj3.2 y1c) ?_
           refine WD.a (i:=8) (d:=115) (by kernel_rfl) rfl z2 z3 rfl rfl rfl (fun _=>ya fo_93_0 rfl (Addr.add_lit _ _ _)) ?_
           refine WD.e (i:=9) (d:=116) (by kernel_rfl) rfl z2 z3 rfl rfl rfl (yb yd rfl (y8o .h4 (y8L zGb 0 _ rfl))) ?_
           refine WD.a (i:=10) (d:=117) (by kernel_rfl) rfl z2 z3 rfl rfl rfl (fun _=>ya y3A rfl rfl) ?_
           refine WD.a (i:=11) (d:=118) (by kernel_rfl) rfl z2 z3 rfl rfl rfl (fun _=>ya y1E rfl rfl) ?_
           refine WD.e (i:=12) (d:=119) (by kernel_rfl) rfl z2 z3 rfl rfl rfl (yb yd rfl (yc .h6 rfl)) ?_
           refine WD.a (i:=13) (d:=120) (by kernel_rfl) rfl z2 z3 rfl rfl rfl (fun _=>y8n rfl rfl) ?_
           refine WD.a (i:=14) (d:=121) (by kernel_rfl) rfl z2 z3 rfl rfl rfl (fun _=>q_m rfl) ?_
           refine WD.mid (fuel':=1) [(2,(.slice z2m z1i.length z2n)),(3,(.slice z2o z16.length z2p)),(4,(.pointer (some ⟨z1y,0,none⟩))),(11,(.slice z30 (((([] : List Snetwork_event) ++ (z4.take (z5 : Int).toNat)) ++ (z4.drop ((i64 (z5 + 1)) : Int).toNat)).length) z31)),(13,(.slice z1L z18.length z1M)),(14,(.slice z1G z17.length z1H)),(15,(.slice (some ⟨zGa,0,none⟩) z1e.length z2Z)),(18,(.pointer (some ⟨z3f,0,none⟩))),(19,(.int .i64 z1F)),(111,(.bool true)),(121,(.bool (decide (((nth z1e z1F).fNode) ≠ (((nth z4 z5).fHop).fNode))))),(131,(.bool ((decide (((nth z1e z1F).fNode) ≠ (((nth z4 z5).fHop).fNode))) || (decide (((nth z1e z1F).fLink) ≠ (((nth z4 z5).fHop).fLink))))))] (yJ 26 [24,23,22,21,20,19,18,17,16,15,14,13,12,11,10,9,8,7,6,5,4,3,2,1,0]) ?_ (fun zvM=>?_)
           rotate_left
           ·rcases Bool.eq_false_or_eq_true (decide (((nth z1e z1F).fNode) ≠ (((nth z4 z5).fHop).fNode))) with hb' | hb'
            ·have zq7:=hb'; clear hb'
             refine WD.pin (i:=121) rfl zq7 ?_
             refine WD.b (i:=15) (d:=122) (by kernel_rfl) rfl z2 z3 rfl rfl rfl ?_
             refine WD.b (i:=16) (d:=123) (by kernel_rfl) rfl z2 z3 rfl rfl rfl ?_
             refine WD.b (i:=17) (d:=124) (by kernel_rfl) rfl z2 z3 rfl rfl rfl ?_
             refine WD.b (i:=18) (d:=125) (by kernel_rfl) rfl z2 z3 rfl rfl rfl ?_
             refine WD.b (i:=19) (d:=126) (by kernel_rfl) rfl z2 z3 rfl rfl rfl ?_
             refine WD.b (i:=20) (d:=127) (by kernel_rfl) rfl z2 z3 rfl rfl rfl ?_
             refine WD.b (i:=21) (d:=128) (by kernel_rfl) rfl z2 z3 rfl rfl rfl ?_
             refine WD.b (i:=22) (d:=129) (by kernel_rfl) rfl z2 z3 rfl rfl rfl ?_
             refine WD.b (i:=23) (d:=130) (by kernel_rfl) rfl z2 z3 rfl rfl rfl ?_
             refine WD.a (i:=24) (d:=131) (by kernel_rfl) rfl z2 z3 rfl rfl rfl (fun _=>yW rfl rfl) ?_
             refine WD.ys (.cons .here (.cons .here (.cons .here (.cons .here (.cons .here (.cons .here (.cons .here .nil))))))) ?_ zvM
             exact (.cons rfl (.cons rfl (.cons rfl (.cons rfl (.cons rfl (.cons rfl (.cons rfl (.cons rfl (.cons rfl (.cons rfl (.cons (z7 (Eq.symm zq7)) (.cons (z7 (y1p zq7)) .nil))))))))))))
            ·have zlu:=hb'; clear hb'
             have zlv:=zG9 zlu
             refine WD.pin (i:=121) rfl zlu ?_
             refine WD.a (i:=15) (d:=122) (by kernel_rfl) rfl z2 z3 rfl rfl rfl (fun _=>q_m rfl) ?_
             refine WD.a (i:=16) (d:=123) (by kernel_rfl) rfl z2 z3 rfl rfl rfl (fun _=>q_m rfl) ?_
             obtain ⟨zO4,zO5,zO6,zGc,⟨zO7,zO8,zO9,zOa,zOb,zOc,rfl,zOd,zOe,zOf⟩⟩:=RR.elem (Pr:=(p93 (Z ++ z1z))) (zlt.weak (fun _ _ h=>y5p z5w h)) zlv.1 zlv.2
             refine WD.a (i:=17) (d:=124) (by kernel_rfl) rfl z2 z3 rfl rfl rfl (fun _=>yu y6E rfl rfl zlv.1 zlv.2 y1c) ?_
             refine WD.a (i:=18) (d:=125) (by kernel_rfl) rfl z2 z3 rfl rfl rfl (fun _=>ya fo_93_1 rfl (Addr.add_lit _ _ _)) ?_
             refine WD.e (i:=19) (d:=126) (by kernel_rfl) rfl z2 z3 rfl rfl rfl (yb yd rfl (y8o .h4 (y8L zGc 1 _ rfl))) ?_
             refine WD.a (i:=20) (d:=127) (by kernel_rfl) rfl z2 z3 rfl rfl rfl (fun _=>ya y3A rfl rfl) ?_
             refine WD.a (i:=21) (d:=128) (by kernel_rfl) rfl z2 z3 rfl rfl rfl (fun _=>ya y4W rfl rfl) ?_
             refine WD.e (i:=22) (d:=129) (by kernel_rfl) rfl z2 z3 rfl rfl rfl (yb yd rfl (yc .h6 rfl)) ?_
             refine WD.a (i:=23) (d:=130) (by kernel_rfl) rfl z2 z3 rfl rfl rfl (fun _=>y8n rfl rfl) ?_
             refine WD.a (i:=24) (d:=131) (by kernel_rfl) rfl z2 z3 rfl rfl rfl (fun _=>yX rfl rfl) ?_
             refine WD.ys (.cons .here (.cons .here (.cons .here (.cons .here (.cons .here (.cons .here (.cons .here .nil))))))) ?_ zvM
             exact (.cons rfl (.cons rfl (.cons rfl (.cons rfl (.cons rfl (.cons rfl (.cons rfl (.cons rfl (.cons rfl (.cons rfl (.cons (z7 (Eq.symm zlu)) (.cons (z7 (y1q zlu)) .nil))))))))))))
           refine WD.d #[true,true,true,true,true,true,true,true,true,true,true,true,true,true,true,true,true,true,true,true,true,true,true,true,true,false] (by kernel_rfl) ?_
           refine WD.a (i:=25) (d:=132) (by kernel_rfl) rfl z2 z3 rfl rfl rfl (fun _=>yW rfl rfl) ?_
           refine WD.ys (.cons .here (.cons .here (.cons .here (.cons .here (.cons .here (.cons .here (.cons .here .nil))))))) ?_ zvL
           exact (.cons rfl (.cons rfl (.cons rfl (.cons rfl (.cons rfl (.cons rfl (.cons rfl (.cons rfl (.cons rfl (.cons (z7 (Eq.symm zj2)) (.cons (z7 (y1H zj2)) .nil)))))))))))
          ·have zq8:=hb'; clear hb'
           refine WD.pin (i:=111) rfl zq8 ?_
           refine WD.b (i:=5) (d:=112) (by kernel_rfl) rfl z2 z3 rfl rfl rfl ?_
           refine WD.b (i:=6) (d:=113) (by kernel_rfl) rfl z2 z3 rfl rfl rfl ?_
           refine WD.b (i:=7) (d:=114) (by kernel_rfl) rfl z2 z3 rfl rfl rfl ?_
           refine WD.b (i:=8) (d:=115) (by kernel_rfl) rfl z2 z3 rfl rfl rfl ?_
           refine WD.b (i:=9) (d:=116) (by kernel_rfl) rfl z2 z3 rfl rfl rfl ?_
           refine WD.b (i:=10) (d:=117) (by kernel_rfl) rfl z2 z3 rfl rfl rfl ?_
           refine WD.b (i:=11) (d:=118) (by kernel_rfl) rfl z2 z3 rfl rfl rfl ?_
           refine WD.b (i:=12) (d:=119) (by kernel_rfl) rfl z2 z3 rfl rfl rfl ?_
           refine WD.b (i:=13) (d:=120) (by kernel_rfl) rfl z2 z3 rfl rfl rfl ?_
           refine WD.b (i:=14) (d:=121) (by kernel_rfl) rfl z2 z3 rfl rfl rfl ?_
           refine WD.b (i:=15) (d:=122) (by kernel_rfl) rfl z2 z3 rfl rfl rfl ?_
           refine WD.b (i:=16) (d:=123) (by kernel_rfl) rfl z2 z3 rfl rfl rfl ?_
           refine WD.b (i:=17) (d:=124) (by kernel_rfl) rfl z2 z3 rfl rfl rfl ?_
           refine WD.b (i:=18) (d:=125) (by kernel_rfl) rfl z2 z3 rfl rfl rfl ?_
           refine WD.b (i:=19) (d:=126) (by kernel_rfl) rfl z2 z3 rfl rfl rfl ?_
           refine WD.b (i:=20) (d:=127) (by kernel_rfl) rfl z2 z3 rfl rfl rfl ?_
           refine WD.b (i:=21) (d:=128) (by kernel_rfl) rfl z2 z3 rfl rfl rfl ?_
           refine WD.b (i:=22) (d:=129) (by kernel_rfl) rfl z2 z3 rfl rfl rfl ?_
           refine WD.b (i:=23) (d:=130) (by kernel_rfl) rfl z2 z3 rfl rfl rfl ?_
           refine WD.b (i:=24) (d:=131) (by kernel_rfl) rfl z2 z3 rfl rfl rfl ?_
           refine WD.a (i:=25) (d:=132) (by kernel_rfl) rfl z2 z3 rfl rfl rfl (fun _=>yX rfl rfl) ?_
           refine WD.ys (.cons .here (.cons .here (.cons .here (.cons .here (.cons .here (.cons .here (.cons .here .nil))))))) ?_ zvL
           exact (.cons rfl (.cons rfl (.cons rfl (.cons rfl (.cons rfl (.cons rfl (.cons rfl (.cons rfl (.cons rfl (.cons (z7 (Eq.symm zq8)) (.cons (z7 (y1G zq8)) .nil)))))))))))
         refine WD.d #[true,true,true,true,true,true,true,true,true,true,true,true,true,true,true,true,true,true,true,true,true,true,true,true,true,true] (by kernel_rfl) ?_
         refine WD.done (by kernel_rfl) ?_
         refine WX.a ?_
         refine WC.cond rfl (fun zq9=>?_) (fun zq9=>?_)
         ·replace h:=ym h zq9
          refine WC.skip (WX.a (WC.block (WC.a (WL.pu rfl (WL.pu rfl (WL.pu rfl (WL.nil (WX.yk ?_))))))))
          exact WX.round (G:=Nat × Int) ⟨zpV,(i64 (z1F + 1))⟩ h (Nat.lt_succ_self _) (.cons rfl (.cons rfl (.cons rfl (.cons rfl (.cons rfl (.cons rfl (.cons rfl (.cons rfl (.cons rfl .nil))))))))) (.cons .here (.cons .here (.cons .here (.cons .here (.cons .here (.cons .here (.cons .here .nil)))))))
         ·replace h:=yn h zq9
          refine WC.exit (WX.yg (WX.yg (WX.yv ?_)))
          exact WX.mid (G:=Int) z1F h (.cons rfl (.cons rfl (.cons rfl (.cons rfl (.cons rfl (.cons rfl (.cons rfl (.cons rfl (.cons rfl .nil))))))))) (.cons .here (.cons .here (.cons .here (.cons .here (.cons .here (.cons .here (.cons .here .nil)))))))
        ·rintro zP h
         replace h:=(zG6 zP).symm.trans h
         obtain ⟨zlp,zGd,h⟩:=yU h
         refine WC.yaN (fun (zS : List S92) (zj4 : Option Addr) (z3y : Nat) (z5x : List Value)=>(zlp zS = some r) ∧ (RR 9 (p93 (Z ++ z1z)) z5x zS)) (fun (zS : List S92) (zj4 : Option Addr) (z3y : Nat) (z5x : List Value)=>[(2,(.slice z2m z1i.length z2n)),(3,(.slice z2o z16.length z2p)),(4,(.pointer (some ⟨z1y,0,none⟩))),(11,(.slice z30 (((([] : List Snetwork_event) ++ (z4.take (z5 : Int).toNat)) ++ (z4.drop ((i64 (z5 + 1)) : Int).toNat)).length) z31)),(13,(.slice z1L z18.length z1M)),(14,(.slice z1G z17.length z1H)),(15,(.slice zj4 zS.length z3y)),(18,(.pointer (some ⟨z3f,0,none⟩))),(19,(.int .i64 zP))]) (fun (zS : List S92) (zj4 : Option Addr) (z3y : Nat) (z5x : List Value)=>[fz z1z,row (.slice z30 (((([] : List Snetwork_event) ++ (z4.take (z5 : Int).toNat)) ++ (z4.drop ((i64 (z5 + 1)) : Int).toNat)).length) z31) 89 7 (((([] : List Snetwork_event) ++ (z4.take (z5 : Int).toNat)) ++ (z4.drop ((i64 (z5 + 1)) : Int).toNat)).flatMap e89),row (.slice z1L z18.length z1M) 50 3 (z18.flatMap e50),row (.slice z1G z17.length z1H) 50 3 (z17.flatMap e50),row (.slice zj4 zS.length z3y) 93 9 z5x,stb z1y 31 [(.slice z2B z6.fModules.length z2C),(.slice z2D z6.fChannels.length z2E),(.slice z2F z6.fSwitches.length z2G),(.slice z2H z6.fLinks.length z2I),(.slice z2J z6.fVLs.length z2K),(.slice z2L z6.fHealth.length z2M),(.slice z2N z6.fCauses.length z2O),(.slice z2P z6.fVersions.length z2Q)],stb z3f 89 [(.int .i64 ((nth z4 z5).fTime)),(.int .i64 ((nth z4 z5).fIn_)),(.int .i64 ((nth z4 z5).fVl)),(.int .i64 ((nth z4 z5).fSent)),(.int .i64 (((nth z4 z5).fHop).fNode)),(.int .i64 (((nth z4 z5).fHop).fNext)),(.int .i64 (((nth z4 z5).fHop).fLink))]]) ?_ ?_
         ·skip
          refine WC.b (WC.a (WL.pu rfl (WL.pu rfl ?_)))
          refine WL.a (d:=137) rfl rfl rfl (yz Try.underlying86 rfl) ?_
          refine WL.pu rfl (WL.nil (WX.a ?_))
          refine WC.cond rfl (fun zqa=>?_) (fun zqa=>?_)
          ·replace h:=ym h zqa
           refine WC.b (WC.a (WL.pu rfl (WL.pu rfl (WL.nil (WX.a ?_)))))
           obtain ⟨zlq,zGe,h⟩:=y2s h
           refine WC.y2D (fun (zaG : Int) (zaH : Int)=>(zlq zaG zaH = some r)) (fun (zaG : Int) (zaH : Int)=>[(2,(.slice z2m z1i.length z2n)),(3,(.slice z2o z16.length z2p)),(4,(.pointer (some ⟨z1y,0,none⟩))),(11,(.slice z30 (((([] : List Snetwork_event) ++ (z4.take (z5 : Int).toNat)) ++ (z4.drop ((i64 (z5 + 1)) : Int).toNat)).length) z31)),(13,(.slice z1L z18.length z1M)),(14,(.slice z1G z17.length z1H)),(15,(.slice z3e z1e.length z2Z)),(18,(.pointer (some ⟨z3f,0,none⟩))),(19,(.int .i64 zP)),(20,(.int .i64 zaG)),(21,(.int .i64 zaH))]) (fun (zaG : Int) (zaH : Int)=>[fz z1z,row (.slice z30 (((([] : List Snetwork_event) ++ (z4.take (z5 : Int).toNat)) ++ (z4.drop ((i64 (z5 + 1)) : Int).toNat)).length) z31) 89 7 (((([] : List Snetwork_event) ++ (z4.take (z5 : Int).toNat)) ++ (z4.drop ((i64 (z5 + 1)) : Int).toNat)).flatMap e89),row (.slice z1L z18.length z1M) 50 3 (z18.flatMap e50),row (.slice z1G z17.length z1H) 50 3 (z17.flatMap e50),row (.slice z3e z1e.length z2Z) 93 9 z7k,stb z1y 31 [(.slice z2B z6.fModules.length z2C),(.slice z2D z6.fChannels.length z2E),(.slice z2F z6.fSwitches.length z2G),(.slice z2H z6.fLinks.length z2I),(.slice z2J z6.fVLs.length z2K),(.slice z2L z6.fHealth.length z2M),(.slice z2N z6.fCauses.length z2O),(.slice z2P z6.fVersions.length z2Q)],stb z3f 89 [(.int .i64 ((nth z4 z5).fTime)),(.int .i64 ((nth z4 z5).fIn_)),(.int .i64 ((nth z4 z5).fVl)),(.int .i64 ((nth z4 z5).fSent)),(.int .i64 (((nth z4 z5).fHop).fNode)),(.int .i64 (((nth z4 z5).fHop).fNext)),(.int .i64 (((nth z4 z5).fHop).fLink))]]) ?_ ?_
           ·skip
            refine WC.b (WC.a ?_)
            refine WL.a (d:=139) rfl rfl rfl (ya y3A rfl rfl) ?_
            refine WL.a (d:=140) rfl rfl rfl (ya y1E rfl rfl) ?_
            refine WL.a (d:=141) rfl rfl rfl (yb yd rfl (yc .h6 rfl)) ?_
            refine WL.a (d:=142) rfl rfl rfl (ya y1Y rfl rfl) ?_
            refine WL.a (d:=143) rfl rfl rfl (yb y1Z rfl (yc .h5 rfl)) ?_
            refine WL.a (d:=144) rfl rfl rfl (yz Try.underlying22 rfl) ?_
            refine WL.pu rfl (WL.nil (WX.a ?_))
            refine WC.cond rfl (fun zqb=>?_) (fun zqb=>?_)
            ·replace h:=ym h zqb
             obtain ⟨zvN,h⟩:=ye h
             refine WC.yI (fun i=>[].contains i) [] rfl ?_
             refine WD.a (i:=0) (d:=146) (by kernel_rfl) rfl z2 z3 rfl rfl rfl (fun _=>ya y3y rfl rfl) ?_
             refine WD.e (i:=1) (d:=147) (by kernel_rfl) rfl z2 z3 rfl rfl rfl (yb y3z rfl (yc .h5 rfl)) ?_
             refine WD.a (i:=2) (d:=148) (by kernel_rfl) rfl z2 z3 rfl rfl rfl (fun _=>ya y3A rfl rfl) ?_
             refine WD.a (i:=3) (d:=149) (by kernel_rfl) rfl z2 z3 rfl rfl rfl (fun _=>ya y1E rfl rfl) ?_
             refine WD.e (i:=4) (d:=150) (by kernel_rfl) rfl z2 z3 rfl rfl rfl (yb yd rfl (yc .h6 rfl)) ?_
             refine WD.a (i:=5) (d:=151) (by kernel_rfl) rfl z2 z3 rfl rfl rfl (fun _=>ya y1Y rfl rfl) ?_
             refine WD.e (i:=6) (d:=152) (by kernel_rfl) rfl z2 z3 rfl rfl rfl (yb y1Z rfl (yc .h5 rfl)) ?_
             refine WD.a (i:=7) (d:=153) (by kernel_rfl) rfl z2 z3 rfl rfl rfl (fun _=>yz Try.underlying22 rfl) ?_
             refine WD.a (i:=8) (d:=154) (by kernel_rfl) rfl z2 z3 rfl rfl rfl (fun _=>y3Z rfl rfl rfl) ?_
             refine WD.znth (j:=9) (dd:=155) (by kernel_rfl) rfl z2 z3 rfl rfl (Z:=(Z ++ z1z)) (Pr:=(fun r x=>r = e64 x)) y5h rfl rfl (zlr.mono ((Zle.left _ _).trans (z9W.trans z5w))) zvN ?_
             rintro zOg zOh zGf zOi rfl
             refine WD.a (i:=10) (d:=156) (by kernel_rfl) rfl z2 z3 rfl rfl rfl (fun _=>ya y5L rfl rfl) ?_
             refine WD.e (i:=11) (d:=157) (by kernel_rfl) rfl z2 z3 rfl rfl rfl (yb yd rfl (yD (hz.pv2 .here) zGf rfl)) ?_
             refine WD.a (i:=12) (d:=158) (by kernel_rfl) rfl z2 z3 rfl rfl rfl (fun _=>ya y3y rfl rfl) ?_
             refine WD.e (i:=13) (d:=159) (by kernel_rfl) rfl z2 z3 rfl rfl rfl (yb y3z rfl (yc .h5 rfl)) ?_
             refine WD.a (i:=14) (d:=160) (by kernel_rfl) rfl z2 z3 rfl rfl rfl (fun _=>ya y3A rfl rfl) ?_
             refine WD.a (i:=15) (d:=161) (by kernel_rfl) rfl z2 z3 rfl rfl rfl (fun _=>ya y1E rfl rfl) ?_
             refine WD.e (i:=16) (d:=162) (by kernel_rfl) rfl z2 z3 rfl rfl rfl (yb yd rfl (yc .h6 rfl)) ?_
             refine WD.a (i:=17) (d:=163) (by kernel_rfl) rfl z2 z3 rfl rfl rfl (fun _=>ya y1Y rfl rfl) ?_
             refine WD.e (i:=18) (d:=164) (by kernel_rfl) rfl z2 z3 rfl rfl rfl (yb y1Z rfl (yc .h5 rfl)) ?_
             refine WD.a (i:=19) (d:=165) (by kernel_rfl) rfl z2 z3 rfl rfl rfl (fun _=>yz Try.underlying22 rfl) ?_
             refine WD.a (i:=20) (d:=166) (by kernel_rfl) rfl z2 z3 rfl rfl rfl (fun _=>y3Z rfl rfl rfl) ?_
             refine WD.znth (j:=21) (dd:=167) (by kernel_rfl) rfl z2 z3 rfl rfl (Z:=(Z ++ z1z)) (Pr:=(fun r x=>r = e64 x)) y5h rfl rfl (zlr.mono ((Zle.left _ _).trans (z9W.trans z5w))) zvN ?_
             rintro zOj zOk zGg zOl rfl
             refine WD.a (i:=22) (d:=168) (by kernel_rfl) rfl z2 z3 rfl rfl rfl (fun _=>ya y5M rfl rfl) ?_
             refine WD.e (i:=23) (d:=169) (by kernel_rfl) rfl z2 z3 rfl rfl rfl (yb yd rfl (yD (hz.pv2 .here) zGg rfl)) ?_
             refine WD.a (i:=24) (d:=20) (by kernel_rfl) rfl z2 z3 rfl rfl rfl (fun _=>q_z rfl) ?_
             refine WD.a (i:=25) (d:=21) (by kernel_rfl) rfl z2 z3 rfl rfl rfl (fun _=>q_z rfl) ?_
             refine WD.done (by kernel_rfl) ?_
             exact WX.mid (G:=Int × Int) ⟨((nth z6.fSwitches (i64 ((((nth z4 z5).fHop).fNode) - ((z6.fModules.length : Nat) : Int)))).fDelay),((nth z6.fSwitches (i64 ((((nth z4 z5).fHop).fNode) - ((z6.fModules.length : Nat) : Int)))).fStore)⟩ h (.cons rfl (.cons rfl (.cons rfl (.cons rfl (.cons rfl (.cons rfl (.cons rfl (.cons rfl (.cons rfl (.cons rfl (.cons rfl .nil))))))))))) (.cons .here (.cons .here (.cons .here (.cons .here (.cons .here (.cons .here (.cons .here .nil)))))))
            ·replace h:=yn h zqb
             refine WC.skip ?_
             exact WX.mid (G:=Int × Int) ⟨0,1073741824⟩ h (.cons rfl (.cons rfl (.cons rfl (.cons rfl (.cons rfl (.cons rfl (.cons rfl (.cons rfl (.cons rfl (.cons rfl (.cons rfl .nil))))))))))) (.cons .here (.cons .here (.cons .here (.cons .here (.cons .here (.cons .here (.cons .here .nil)))))))
           ·rintro zaG zaH h
            replace h:=(zGe zaG zaH).symm.trans h
            refine WC.b ?_
            obtain ⟨zGh,h⟩:=ye h
            obtain ⟨z14,zGi,h⟩:=zg h
            refine WC.a ?_
            refine WL.a (d:=171) rfl rfl rfl (ya y49 rfl rfl) ?_
            refine WL.a (d:=172) rfl rfl rfl (yb y4a rfl (yc .h5 rfl)) ?_
            refine WL.a (d:=173) rfl rfl rfl (ya y3A rfl rfl) ?_
            refine WL.a (d:=174) rfl rfl rfl (ya y4W rfl rfl) ?_
            refine WL.a (d:=175) rfl rfl rfl (yb yd rfl (yc .h6 rfl)) ?_
            refine WL.znth (dd:=176) rfl rfl (Z:=(Z ++ z1z)) (Pr:=(fun r x=>r = e62 x)) y5g rfl rfl (zpZ.mono ((Zle.left _ _).trans (z9W.trans z5w))) zGh ?_
            rintro zOm zOn zGj zOo rfl
            refine WL.a (d:=177) rfl rfl rfl (ya y5K rfl rfl) ?_
            refine WL.a (d:=178) rfl rfl rfl (yb yd rfl (yD (hz.pv2 .here) zGj rfl)) ?_
            refine WL.pu rfl (WL.pu rfl ?_)
            refine WL.yb0 (dd:=181) rfl rfl rfl (zC (l:=[.tmp 178,.tmp 179,.tmp 180]) Try.call31 (.cons rfl (.cons rfl (.cons rfl .nil)))) .nil (ccz hz .nil .here fun w pz ho=>yab _ _ _ _ _ zGi w pz ) ?_
            rintro zch zci zcj zck zcl zcm ⟨zGk,zGl,zGm⟩
            refine WL.pu rfl (WL.pu rfl (WL.pu rfl ?_))
            refine WL.new (dd:=22) rfl rfl rfl (y28 (cs:=[(.int .i64 0),(.int .i64 0),(.int .i64 0),(.int .i64 0),(.slice none 0 0),(.slice none 0 0),(.slice none 0 0)]) y63 rfl) ?_
            intro zOp _
            refine WL.y1e rfl rfl (y1z y55 rfl rfl rfl .here rfl rfl rfl) ?_
            refine WL.pu rfl (WL.nil (WX.a ?_))
            obtain ⟨zGn,h⟩:=ye h
            refine WC.a (WL.pu rfl ?_)
            refine WL.a (d:=185) rfl rfl rfl (ya y3A rfl rfl) ?_
            refine WL.a (d:=186) rfl rfl rfl (ya y1E rfl rfl) ?_
            refine WL.a (d:=187) rfl rfl rfl (yb yd rfl (yc .h7 rfl)) ?_
            refine WL.a (d:=188) rfl rfl rfl (ya y3A rfl rfl) ?_
            refine WL.a (d:=189) rfl rfl rfl (ya y4W rfl rfl) ?_
            refine WL.a (d:=190) rfl rfl rfl (yb yd rfl (yc .h7 rfl)) ?_
            refine WL.a (d:=191) rfl rfl rfl (yx y3T rfl (yQ .here) rfl) ?_
            refine WL.a (d:=192) rfl rfl rfl (y1n (v:=(.agg #[(.int .i64 (((nth z4 z5).fHop).fNode)),(.int .i64 (((nth z4 z5).fHop).fLink)),(.int .i64 z14.1.fSlow),(.int .i64 z14.1.fDelay),(.int .i64 z14.1.fStore),(.int .i64 z14.1.fNow),(.slice zch z14.1.fAt.length zci),(.slice zcj z14.1.fSize.length zck),(.slice zcl z14.1.fEnd.length zcm)])) (Eos.parts (l:=[.tmp 187,.tmp 190,.tmp 191]) (.cons rfl (.cons rfl (.cons rfl .nil))) [0,1,2]) (fun _=>by kernel_rfl)) ?_
            have zvO : RR 9 (p93 (Z ++ z1z)) [(.int .i64 (((nth z4 z5).fHop).fNode)),(.int .i64 (((nth z4 z5).fHop).fLink)),(.int .i64 z14.1.fSlow),(.int .i64 z14.1.fDelay),(.int .i64 z14.1.fStore),(.int .i64 z14.1.fNow),(.slice zch z14.1.fAt.length zci),(.slice zcj z14.1.fSize.length zck),(.slice zcl z14.1.fEnd.length zcm)] ([(⟨(((nth z4 z5).fHop).fNode),(((nth z4 z5).fHop).fLink),z14.1⟩ : S92)] : List S92):=(RR.cons (r:=[(.int .i64 (((nth z4 z5).fHop).fNode)),(.int .i64 (((nth z4 z5).fHop).fLink)),(.int .i64 z14.1.fSlow),(.int .i64 z14.1.fDelay),(.int .i64 z14.1.fStore),(.int .i64 z14.1.fNow),(.slice zch z14.1.fAt.length zci),(.slice zcj z14.1.fSize.length zck),(.slice zcl z14.1.fEnd.length zcm)]) rfl (show p93 _ _ _ from ⟨_,_,_,_,_,_,rfl,zGk,zGl,zGm⟩) (RR.nil _ _))
            refine WL.new (dd:=193) rfl rfl rfl (yC (cs:=[(.int .i64 (((nth z4 z5).fHop).fNode)),(.int .i64 (((nth z4 z5).fHop).fLink)),(.int .i64 z14.1.fSlow),(.int .i64 z14.1.fDelay),(.int .i64 z14.1.fStore),(.int .i64 z14.1.fNow),(.slice zch z14.1.fAt.length zci),(.slice zcj z14.1.fSize.length zck),(.slice zcl z14.1.fEnd.length zcm)]) y6E (Eos.parts (l:=[.tmp 192]) (.cons rfl .nil) [0]) (fun _=>by kernel_rfl) rfl (by unfold maxLen; omega)) ?_
            intro zOq _
            have zGo : RR 9 (p93 (Z ++ z1z)) (z7k ++ [(.int .i64 (((nth z4 z5).fHop).fNode)),(.int .i64 (((nth z4 z5).fHop).fLink)),(.int .i64 z14.1.fSlow),(.int .i64 z14.1.fDelay),(.int .i64 z14.1.fStore),(.int .i64 z14.1.fNow),(.slice zch z14.1.fAt.length zci),(.slice zcj z14.1.fSize.length zck),(.slice zcl z14.1.fEnd.length zcm)]) (z1e ++ ([(⟨(((nth z4 z5).fHop).fNode),(((nth z4 z5).fHop).fLink),z14.1⟩ : S92)] : List S92)):=RR.app (zlt.weak (fun _ _ h=>y5p z5w h)) zvO
            refine WL.eff (d:=194) rfl rfl rfl (yb5 (l1:=z1e) (l2:=([(⟨(((nth z4 z5).fHop).fNode),(((nth z4 z5).fHop).fLink),z14.1⟩ : S92)] : List S92)) (news:=[(.int .i64 (((nth z4 z5).fHop).fNode)),(.int .i64 (((nth z4 z5).fHop).fLink)),(.int .i64 z14.1.fSlow),(.int .i64 z14.1.fDelay),(.int .i64 z14.1.fStore),(.int .i64 z14.1.fNow),(.slice zch z14.1.fAt.length zci),(.slice zcj z14.1.fSize.length zck),(.slice zcl z14.1.fEnd.length zcm)]) (Pr:=(p93 (Z ++ z1z))) y6E rfl rfl .h6 zvO (y3m .here) (ocB rfl) zGn) ?_
            rintro ⟨zGp,zGq⟩ _
            refine WL.pu rfl (WL.nil ?_)
            exact WX.mid (G:=List S92 × Option Addr × Nat × List Value) ⟨(z1e ++ ([(⟨(((nth z4 z5).fHop).fNode),(((nth z4 z5).fHop).fLink),z14.1⟩ : S92)] : List S92)),zGp,zGq,(z7k ++ [(.int .i64 (((nth z4 z5).fHop).fNode)),(.int .i64 (((nth z4 z5).fHop).fLink)),(.int .i64 z14.1.fSlow),(.int .i64 z14.1.fDelay),(.int .i64 z14.1.fStore),(.int .i64 z14.1.fNow),(.slice zch z14.1.fAt.length zci),(.slice zcj z14.1.fSize.length zck),(.slice zcl z14.1.fEnd.length zcm)])⟩ ⟨h,zGo⟩ (.cons rfl (.cons rfl (.cons rfl (.cons rfl (.cons rfl (.cons rfl (.cons rfl (.cons rfl (.cons rfl .nil))))))))) (.cons .h3 (.cons .h3 (.cons .h3 (.cons .h3 (.cons .here (.cons .h2 (.cons .h2 .nil)))))))
          ·replace h:=yn h zqa
           refine WC.skip ?_
           exact WX.mid (G:=List S92 × Option Addr × Nat × List Value) ⟨z1e,z3e,z2Z,z7k⟩ ⟨h,(zlt.weak (fun _ _ h=>y5p z5w h))⟩ (.cons rfl (.cons rfl (.cons rfl (.cons rfl (.cons rfl (.cons rfl (.cons rfl (.cons rfl (.cons rfl .nil))))))))) (.cons .here (.cons .here (.cons .here (.cons .here (.cons .here (.cons .here (.cons .here .nil)))))))
         ·rintro zS zj4 z3y z5x ⟨h,zqc⟩
          replace h:=(zGd zS).symm.trans h
          refine WC.b ?_
          obtain ⟨zj5,h⟩:=ye h
          obtain ⟨zGr,h⟩:=ye h
          obtain ⟨zn,zvP,h⟩:=zg h
          refine WC.yI (fun i=>[19].contains i) [] rfl ?_
          refine WD.a (i:=0) (d:=196) (by kernel_rfl) rfl z2 z3 rfl rfl rfl (fun _=>q_m rfl) ?_
          refine WD.a (i:=1) (d:=197) (by kernel_rfl) rfl z2 z3 rfl rfl rfl (fun _=>q_m rfl) ?_
          refine WD.know (fun w hw=>Hp.y2g .h4 hw (by intro hz'; have:=zj5; rw [hz'] at this; omega)) ?_
          rintro ⟨z4T,rfl⟩
          obtain ⟨zOr,zOs,zOt,zGs,⟨zvQ,zvR,zvS,zvT,zvU,zvV,rfl,zvW,zvX,zvY⟩⟩:=RR.elem (Pr:=(p93 (Z ++ z1z))) zqc zj5.1 zj5.2
          refine WD.a (i:=2) (d:=198) (by kernel_rfl) rfl z2 z3 rfl rfl rfl (fun _=>yu y6E rfl rfl zj5.1 zj5.2 y1c) ?_
          refine WD.a (i:=3) (d:=199) (by kernel_rfl) rfl z2 z3 rfl rfl rfl (fun _=>ya yaz rfl (Addr.add_lit _ _ _)) ?_
          refine WD.e (i:=4) (d:=200) (by kernel_rfl) rfl z2 z3 rfl rfl rfl (y1J (cs:=[(.int .i64 (((nth zS zP).fPort).fSlow)),(.int .i64 (((nth zS zP).fPort).fDelay)),(.int .i64 (((nth zS zP).fPort).fStore)),(.int .i64 (((nth zS zP).fPort).fNow)),(.slice zvQ ((((nth zS zP).fPort).fAt).length) zvR),(.slice zvS ((((nth zS zP).fPort).fSize).length) zvT),(.slice zvU ((((nth zS zP).fPort).fEnd).length) zvV)]) y3T rfl rfl (rd_rowp (k:=2) .h4 (y8L zGs) (s:=7) rfl)) ?_
          refine WD.a (i:=5) (d:=201) (by kernel_rfl) rfl z2 z3 rfl rfl rfl (fun _=>ya y5R rfl rfl) ?_
          refine WD.e (i:=6) (d:=202) (by kernel_rfl) rfl z2 z3 rfl rfl rfl (yb yd rfl (yc .h6 rfl)) ?_
          refine WD.a (i:=7) (d:=203) (by kernel_rfl) rfl z2 z3 rfl rfl rfl (fun _=>q_m rfl) ?_
          refine WD.a (i:=8) (d:=204) (by kernel_rfl) rfl z2 z3 rfl rfl rfl (fun _=>ya y5S rfl rfl) ?_
          refine WD.e (i:=9) (d:=205) (by kernel_rfl) rfl z2 z3 rfl rfl rfl (yb yd rfl (yc .h6 rfl)) ?_
          refine WD.znth (j:=10) (dd:=206) (by kernel_rfl) rfl z2 z3 rfl rfl (Z:=(Z ++ z1z)) (Pr:=(fun r x=>r = e53 x)) y2M rfl rfl (zce.mono ((Zle.left _ _).trans (z9W.trans z5w))) zGr ?_
          rintro zOu zOv zGt zOw rfl
          refine WD.a (i:=11) (d:=207) (by kernel_rfl) rfl z2 z3 rfl rfl rfl (fun _=>ya y5N rfl rfl) ?_
          refine WD.e (i:=12) (d:=208) (by kernel_rfl) rfl z2 z3 rfl rfl rfl (yb yd rfl (yD (hz.pv2 .here) zGt rfl)) ?_
          refine WD.y84 (fuel':=0) (fun (Zn13o1_72887 : Zp) (ao13o2_72887 : Option Addr) (cap13o3_72887 : Nat) (ao13o4_72887 : Option Addr) (cap13o5_72887 : Nat) (ao13o6_72887 : Option Addr) (cap13o7_72887 : Nat) (b18o1_72887 : Nat)=>[(2,(.slice z2m z1i.length z2n)),(3,(.slice z2o z16.length z2p)),(4,(.pointer (some ⟨z1y,0,none⟩))),(11,(.slice z30 (((([] : List Snetwork_event) ++ (z4.take (z5 : Int).toNat)) ++ (z4.drop ((i64 (z5 + 1)) : Int).toNat)).length) z31)),(13,(.slice z1L z18.length z1M)),(14,(.slice z1G z17.length z1H)),(15,(.slice (some ⟨z4T,0,none⟩) zS.length z3y)),(18,(.pointer (some ⟨z3f,0,none⟩))),(19,(.int .i64 zP)),(24,(.pointer (some ⟨b18o1_72887,0,none⟩))),(25,(.int .i64 zn.2.1)),(26,(.int .i64 zn.2.2))]) (fun (Zn13o1_72887 : Zp) (ao13o2_72887 : Option Addr) (cap13o3_72887 : Nat) (ao13o4_72887 : Option Addr) (cap13o5_72887 : Nat) (ao13o6_72887 : Option Addr) (cap13o7_72887 : Nat) (b18o1_72887 : Nat)=>[stb b18o1_72887 91 [(.int .i64 zn.1.fSlow),(.int .i64 zn.1.fDelay),(.int .i64 zn.1.fStore),(.int .i64 zn.1.fNow),(.slice ao13o2_72887 zn.1.fAt.length cap13o3_72887),(.slice ao13o4_72887 zn.1.fSize.length cap13o5_72887),(.slice ao13o6_72887 zn.1.fEnd.length cap13o7_72887)],fz (z1z ++ Zn13o1_72887),row (.slice z30 (((([] : List Snetwork_event) ++ (z4.take (z5 : Int).toNat)) ++ (z4.drop ((i64 (z5 + 1)) : Int).toNat)).length) z31) 89 7 (((([] : List Snetwork_event) ++ (z4.take (z5 : Int).toNat)) ++ (z4.drop ((i64 (z5 + 1)) : Int).toNat)).flatMap e89),row (.slice z1L z18.length z1M) 50 3 (z18.flatMap e50),row (.slice z1G z17.length z1H) 50 3 (z17.flatMap e50),row (.slice (some ⟨z4T,0,none⟩) zS.length z3y) 93 9 z5x,stb z1y 31 [(.slice z2B z6.fModules.length z2C),(.slice z2D z6.fChannels.length z2E),(.slice z2F z6.fSwitches.length z2G),(.slice z2H z6.fLinks.length z2I),(.slice z2J z6.fVLs.length z2K),(.slice z2L z6.fHealth.length z2M),(.slice z2N z6.fCauses.length z2O),(.slice z2P z6.fVersions.length z2Q)],stb z3f 89 [(.int .i64 ((nth z4 z5).fTime)),(.int .i64 ((nth z4 z5).fIn_)),(.int .i64 ((nth z4 z5).fVl)),(.int .i64 ((nth z4 z5).fSent)),(.int .i64 (((nth z4 z5).fHop).fNode)),(.int .i64 (((nth z4 z5).fHop).fNext)),(.int .i64 (((nth z4 z5).fHop).fLink))]]) (fun (Zn13o1_72887 : Zp) (ao13o2_72887 : Option Addr) (cap13o3_72887 : Nat) (ao13o4_72887 : Option Addr) (cap13o5_72887 : Nat) (ao13o6_72887 : Option Addr) (cap13o7_72887 : Nat) (b18o1_72887 : Nat)=>(ZS ((Z ++ z1z) ++ Zn13o1_72887) 1 (fun zn x=>zn = e3 x) ao13o2_72887 cap13o3_72887 zn.1.fAt) ∧ (ZS ((Z ++ z1z) ++ Zn13o1_72887) 1 (fun zn x=>zn = e3 x) ao13o4_72887 cap13o5_72887 zn.1.fSize) ∧ (ZS ((Z ++ z1z) ++ Zn13o1_72887) 1 (fun zn x=>zn = e3 x) ao13o6_72887 cap13o7_72887 zn.1.fEnd)) (yJ 22 [21,20,19,18,17,16,15,14,13,12,11,10,9,8,7,6,5,4,3,2,1,0]) ?_ (fun K13o14o15o16o17o18o19o20o21_72887=>?_)
          ·skip
           rintro Zn13o1_72887 ao13o2_72887 cap13o3_72887 ao13o4_72887 cap13o5_72887 ao13o6_72887 cap13o7_72887 b18o1_72887 ⟨hf13o8_72887,hf13o9_72887,hf13o10_72887⟩
           refine WD.done (by kernel_rfl) ?_
           refine WX.a (WC.b ?_)
           obtain ⟨zfL,h⟩:=ye h
           refine WC.a (WL.pu rfl (WL.pu rfl ?_))
           refine WL.a (d:=215) rfl rfl rfl (yx y3T rfl (yQ .here) rfl) ?_
           obtain ⟨zOx,zOy,zOz,zGu,⟨zOA,zOB,zOC,zOD,zOE,zOF,rfl,zOG,zOH,zOI⟩⟩:=RR.elem (Pr:=(p93 (Z ++ (z1z ++ Zn13o1_72887)))) (zqc.weak (fun _ _ h=>y5p ((Zle.left _ _).trans (Zle.yh _ _ _)) h)) zfL.1 zfL.2
           refine WL.a (d:=216) rfl rfl rfl (yu y6E rfl rfl zfL.1 zfL.2 y1c) ?_
           refine WL.a (d:=217) rfl rfl rfl (ya yaz rfl (Addr.add_lit _ _ _)) ?_
           obtain ⟨zqd,zGv⟩:=RR.store (Pr:=(p93 (Z ++ (z1z ++ Zn13o1_72887)))) (vs:=[(.int .i64 zn.1.fSlow),(.int .i64 zn.1.fDelay),(.int .i64 zn.1.fStore),(.int .i64 zn.1.fNow),(.slice ao13o2_72887 zn.1.fAt.length cap13o3_72887),(.slice ao13o4_72887 zn.1.fSize.length cap13o5_72887),(.slice ao13o6_72887 zn.1.fEnd.length cap13o7_72887)]) (k:=2) (y:=(⟨((nth zS zP).fNode),((nth zS zP).fLink),zn.1⟩ : S92)) (zqc.weak (fun _ _ h=>y5p ((Zle.left _ _).trans (Zle.yh _ _ _)) h)) zfL.1 zfL.2 zGu rfl (Nat.le_of_ble_eq_true rfl) (show p93 _ _ _ from ⟨_,_,_,_,_,_,rfl,(hf13o8_72887.mono (Zle.yh _ _ _)),(hf13o9_72887.mono (Zle.yh _ _ _)),(hf13o10_72887.mono (Zle.yh _ _ _))⟩)
           refine WL.y1e rfl rfl (y2C (vs:=[(.int .i64 zn.1.fSlow),(.int .i64 zn.1.fDelay),(.int .i64 zn.1.fStore),(.int .i64 zn.1.fNow),(.slice ao13o2_72887 zn.1.fAt.length cap13o3_72887),(.slice ao13o4_72887 zn.1.fSize.length cap13o5_72887),(.slice ao13o6_72887 zn.1.fEnd.length cap13o7_72887)]) (ds:=y3q z5x ((zP : Int).toNat * 9 + 2) [(.int .i64 zn.1.fSlow),(.int .i64 zn.1.fDelay),(.int .i64 zn.1.fStore),(.int .i64 zn.1.fNow),(.slice ao13o2_72887 zn.1.fAt.length cap13o3_72887),(.slice ao13o4_72887 zn.1.fSize.length cap13o5_72887),(.slice ao13o6_72887 zn.1.fEnd.length cap13o7_72887)]) y55 rfl rfl rfl rfl (ocB rfl) .h5 zGv rfl) ?_
           refine WL.relen .here (u:=(.slice (some ⟨z4T,0,none⟩) ((zS.set (zP : Int).toNat (⟨((nth zS zP).fNode),((nth zS zP).fLink),zn.1⟩ : S92)).length) z3y)) (y1W (List.length_set).symm) ?_
           refine WL.repin (i:=15) rfl (u:=(.slice (some ⟨z4T,0,none⟩) ((zS.set (zP : Int).toNat (⟨((nth zS zP).fNode),((nth zS zP).fLink),zn.1⟩ : S92)).length) z3y)) (y1W (List.length_set).symm) ?_
           refine WL.nil (WX.a (WC.b (WC.b (WC.a (WL.pu rfl (WL.pu rfl (WL.nil (WX.a ?_))))))))
           refine WC.cond rfl (fun zqe=>?_) (fun zqe=>?_)
           ·replace h:=ym h zqe
            refine WC.b ?_
            obtain ⟨zpX,zGw,h⟩:=zg h
            refine WC.a (WL.pu rfl ?_)
            refine WL.a (d:=221) rfl rfl rfl (ya y5S rfl rfl) ?_
            refine WL.a (d:=222) rfl rfl rfl (yb yd rfl (yc .h7 rfl)) ?_
            refine WL.a (d:=223) rfl rfl rfl (ya y3A rfl rfl) ?_
            refine WL.a (d:=224) rfl rfl rfl (ya y1E rfl rfl) ?_
            refine WL.a (d:=225) rfl rfl rfl (yb yd rfl (yc .h7 rfl)) ?_
            refine WL.a (d:=226) rfl rfl rfl (ya y5R rfl rfl) ?_
            refine WL.a (d:=227) rfl rfl rfl (yb yd rfl (yc .h7 rfl)) ?_
            refine WL.a (d:=228) rfl rfl rfl (y1n (v:=(.agg #[(.int .i64 ((nth z4 z5).fSent)),(.int .i64 (((nth z4 z5).fHop).fNode)),(.int .i64 ((nth z4 z5).fTime))])) (Eos.parts (l:=[.tmp 222,.tmp 225,.tmp 227]) (.cons rfl (.cons rfl (.cons rfl .nil))) [0,1,2]) (fun _=>by kernel_rfl)) ?_
            refine WL.y4r (dd:=229) rfl rfl rfl (zC (l:=[.tmp 220,.tmp 228]) Try.call33 (.cons rfl (.cons rfl .nil))) .nil (cclz hz .nil .h2 (.cons .h5 .nil) fun w pz ho la=>y6Q _ _ _ _ _ _ zGw w pz (ZA.row (la _ (.head _) _) (RR.y19 (enc:=e50) (fun _=>rfl) _) ⟨w,pz.1⟩)) ?_
            rintro zGx zGy _
            refine WL.pu rfl (WL.nil (WX.a (WC.exit (WX.yg (WX.yv ?_)))))
            exact WX.mid (G:=List Snetwork_event × List Sapi_Come × List Sapi_Come × List S92 × Zp × Option Addr × Nat × Option Addr × Nat × Option Addr × Nat × Option Addr × Nat × List Value) ⟨((([] : List Snetwork_event) ++ (z4.take (z5 : Int).toNat)) ++ (z4.drop ((i64 (z5 + 1)) : Int).toNat)),z18,zpX,(zS.set (zP : Int).toNat (⟨((nth zS zP).fNode),((nth zS zP).fLink),zn.1⟩ : S92)),(z1z ++ Zn13o1_72887),z30,z31,z1L,z1M,zGx,zGy,(some ⟨z4T,0,none⟩),z3y,(y3q z5x ((zP : Int).toNat * 9 + 2) [(.int .i64 zn.1.fSlow),(.int .i64 zn.1.fDelay),(.int .i64 zn.1.fStore),(.int .i64 zn.1.fNow),(.slice ao13o2_72887 zn.1.fAt.length cap13o3_72887),(.slice ao13o4_72887 zn.1.fSize.length cap13o5_72887),(.slice ao13o6_72887 zn.1.fEnd.length cap13o7_72887)])⟩ ⟨h,(z5w.trans ((Zle.left _ _).trans (Zle.yh _ _ _))),zqd⟩ (.cons rfl (.cons rfl (.cons rfl (.cons rfl (.cons rfl (.cons rfl (.cons rfl .nil))))))) (.cons .h3 (.cons .h3 (.cons .h3 (.cons .here (.cons .here (.cons .h2 .nil))))))
           ·replace h:=yn h zqe
            refine WC.skip (WX.a ?_)
            obtain ⟨zlo,zGz,h⟩:=y2s h
            refine WC.yaO (fun (z7h : List Sapi_Come) (z7i : List S92) (zfM : Option Addr) (zfN : Nat) (zfO : List Value)=>(zlo z7h z7i = some r) ∧ (RR 9 (p93 (Z ++ (z1z ++ Zn13o1_72887))) zfO z7i)) (fun (z7h : List Sapi_Come) (z7i : List S92) (zfM : Option Addr) (zfN : Nat) (zfO : List Value)=>[(2,(.slice z2m z1i.length z2n)),(3,(.slice z2o z16.length z2p)),(4,(.pointer (some ⟨z1y,0,none⟩))),(11,(.slice z30 (((([] : List Snetwork_event) ++ (z4.take (z5 : Int).toNat)) ++ (z4.drop ((i64 (z5 + 1)) : Int).toNat)).length) z31)),(13,(.slice zfM z7h.length zfN)),(14,(.slice z1G z17.length z1H)),(15,(.slice (some ⟨z4T,0,none⟩) z7i.length z3y)),(18,(.pointer (some ⟨z3f,0,none⟩))),(25,(.int .i64 zn.2.1))]) (fun (z7h : List Sapi_Come) (z7i : List S92) (zfM : Option Addr) (zfN : Nat) (zfO : List Value)=>[fz (z1z ++ Zn13o1_72887),row (.slice z30 (((([] : List Snetwork_event) ++ (z4.take (z5 : Int).toNat)) ++ (z4.drop ((i64 (z5 + 1)) : Int).toNat)).length) z31) 89 7 (((([] : List Snetwork_event) ++ (z4.take (z5 : Int).toNat)) ++ (z4.drop ((i64 (z5 + 1)) : Int).toNat)).flatMap e89),row (.slice zfM z7h.length zfN) 50 3 (z7h.flatMap e50),row (.slice z1G z17.length z1H) 50 3 (z17.flatMap e50),row (.slice (some ⟨z4T,0,none⟩) z7i.length z3y) 93 9 zfO,stb z1y 31 [(.slice z2B z6.fModules.length z2C),(.slice z2D z6.fChannels.length z2E),(.slice z2F z6.fSwitches.length z2G),(.slice z2H z6.fLinks.length z2I),(.slice z2J z6.fVLs.length z2K),(.slice z2L z6.fHealth.length z2M),(.slice z2N z6.fCauses.length z2O),(.slice z2P z6.fVersions.length z2Q)],stb z3f 89 [(.int .i64 ((nth z4 z5).fTime)),(.int .i64 ((nth z4 z5).fIn_)),(.int .i64 ((nth z4 z5).fVl)),(.int .i64 ((nth z4 z5).fSent)),(.int .i64 (((nth z4 z5).fHop).fNode)),(.int .i64 (((nth z4 z5).fHop).fNext)),(.int .i64 (((nth z4 z5).fHop).fLink))]]) ?_ ?_
            ·skip
             refine WC.b (WC.a ?_)
             refine WL.a (d:=230) rfl rfl rfl (ya y3A rfl rfl) ?_
             refine WL.a (d:=231) rfl rfl rfl (ya y3h rfl rfl) ?_
             refine WL.a (d:=232) rfl rfl rfl (yb yd rfl (yc .h7 rfl)) ?_
             refine WL.a (d:=233) rfl rfl rfl (ya y1Y rfl rfl) ?_
             refine WL.a (d:=234) rfl rfl rfl (yb y1Z rfl (yc .h6 rfl)) ?_
             refine WL.a (d:=235) rfl rfl rfl (yz Try.underlying22 rfl) ?_
             refine WL.pu rfl (WL.nil (WX.a ?_))
             refine WC.cond rfl (fun zqf=>?_) (fun zqf=>?_)
             ·replace h:=ym h zqf
              obtain ⟨zpY,zGA,h⟩:=zg h
              refine WC.a (WL.pu rfl ?_)
              refine WL.a (d:=238) rfl rfl rfl (ya y5S rfl rfl) ?_
              refine WL.a (d:=239) rfl rfl rfl (yb yd rfl (yc .h7 rfl)) ?_
              refine WL.a (d:=240) rfl rfl rfl (ya y3A rfl rfl) ?_
              refine WL.a (d:=241) rfl rfl rfl (ya y3h rfl rfl) ?_
              refine WL.a (d:=242) rfl rfl rfl (yb yd rfl (yc .h7 rfl)) ?_
              refine WL.pu rfl ?_
              refine WL.a (d:=244) rfl rfl rfl (y1n (v:=(.agg #[(.int .i64 ((nth z4 z5).fSent)),(.int .i64 (((nth z4 z5).fHop).fNext)),(.int .i64 zn.2.1)])) (Eos.parts (l:=[.tmp 239,.tmp 242,.tmp 243]) (.cons rfl (.cons rfl (.cons rfl .nil))) [0,1,2]) (fun _=>by kernel_rfl)) ?_
              refine WL.y4r (dd:=245) rfl rfl rfl (zC (l:=[.tmp 237,.tmp 244]) Try.call33 (.cons rfl (.cons rfl .nil))) .nil (cclz hz .nil .h2 (.cons .h4 .nil) fun w pz ho la=>y6Q _ _ _ _ _ _ zGA w pz (ZA.row (la _ (.head _) _) (RR.y19 (enc:=e50) (fun _=>rfl) _) ⟨w,pz.1⟩)) ?_
              rintro zGB zGC _
              refine WL.pu rfl (WL.nil ?_)
              exact WX.mid (G:=List Sapi_Come × List S92 × Option Addr × Nat × List Value) ⟨zpY,(zS.set (zP : Int).toNat (⟨((nth zS zP).fNode),((nth zS zP).fLink),zn.1⟩ : S92)),zGB,zGC,(y3q z5x ((zP : Int).toNat * 9 + 2) [(.int .i64 zn.1.fSlow),(.int .i64 zn.1.fDelay),(.int .i64 zn.1.fStore),(.int .i64 zn.1.fNow),(.slice ao13o2_72887 zn.1.fAt.length cap13o3_72887),(.slice ao13o4_72887 zn.1.fSize.length cap13o5_72887),(.slice ao13o6_72887 zn.1.fEnd.length cap13o7_72887)])⟩ ⟨h,zqd⟩ (.cons rfl (.cons rfl (.cons rfl (.cons rfl (.cons rfl (.cons rfl (.cons rfl (.cons rfl (.cons rfl .nil))))))))) (.cons .h3 (.cons .h3 (.cons .here (.cons .h3 (.cons .here (.cons .h2 (.cons .h2 .nil)))))))
             ·replace h:=yn h zqf
              refine WC.skip ?_
              exact WX.mid (G:=List Sapi_Come × List S92 × Option Addr × Nat × List Value) ⟨z18,(zS.set (zP : Int).toNat (⟨((nth zS zP).fNode),((nth zS zP).fLink),zn.1⟩ : S92)),z1L,z1M,(y3q z5x ((zP : Int).toNat * 9 + 2) [(.int .i64 zn.1.fSlow),(.int .i64 zn.1.fDelay),(.int .i64 zn.1.fStore),(.int .i64 zn.1.fNow),(.slice ao13o2_72887 zn.1.fAt.length cap13o3_72887),(.slice ao13o4_72887 zn.1.fSize.length cap13o5_72887),(.slice ao13o6_72887 zn.1.fEnd.length cap13o7_72887)])⟩ ⟨h,zqd⟩ (.cons rfl (.cons rfl (.cons rfl (.cons rfl (.cons rfl (.cons rfl (.cons rfl (.cons rfl (.cons rfl .nil))))))))) (.cons .h2 (.cons .h2 (.cons .h2 (.cons .h2 (.cons .here (.cons .h1 (.cons .h1 .nil)))))))
            ·rintro z7h z7i zfM zfN zfO ⟨h,zGD⟩
             replace h:=(zGz z7h z7i).symm.trans h
             obtain ⟨zfn,zGE,h⟩:=zg h
             obtain ⟨zGF,h⟩:=ye h
             refine WC.a (WL.pu rfl (WL.pu rfl (WL.pu rfl ?_)))
             refine WL.a (d:=249) rfl rfl rfl (ya y3A rfl rfl) ?_
             refine WL.a (d:=250) rfl rfl rfl (ya y3h rfl rfl) ?_
             refine WL.a (d:=251) rfl rfl rfl (yb yd rfl (yc .h6 rfl)) ?_
             refine WL.pu rfl ?_
             refine WL.a (d:=253) rfl rfl rfl (ya y3A rfl rfl) ?_
             refine WL.a (d:=254) rfl rfl rfl (ya y4W rfl rfl) ?_
             refine WL.a (d:=255) rfl rfl rfl (yb yd rfl (yc .h6 rfl)) ?_
             refine WL.a (d:=256) rfl rfl rfl (ya y5S rfl rfl) ?_
             refine WL.a (d:=257) rfl rfl rfl (yb yd rfl (yc .h6 rfl)) ?_
             refine WL.y4r (dd:=258) rfl rfl rfl (zC (l:=[.tmp 247,.tmp 248,.tmp 251,.tmp 252,.tmp 255,.tmp 257]) Try.call29 (.cons rfl (.cons rfl (.cons rfl (.cons rfl (.cons rfl (.cons rfl .nil))))))) .nil (ccz hz .nil .here fun w pz ho=>y7m _ _ _ _ _ _ _ _ _ _ _ _ zGE w pz ((ziZ.mono ((Zle.left _ _).trans (z9W.trans (z5w.trans ((Zle.left _ _).trans (Zle.yh _ _ _)))))).weak (fun _ _ h=>y2G ((Zle.left _ _).trans (z9W.trans (z5w.trans ((Zle.left _ _).trans (Zle.yh _ _ _))))) h)) (zce.mono ((Zle.left _ _).trans (z9W.trans (z5w.trans ((Zle.left _ _).trans (Zle.yh _ _ _))))))) ?_
             rintro zOJ zOK _
             refine WL.eff (d:=259) rfl rfl rfl (y1R (enc:=e89) (l1:=(([] : List Snetwork_event) ++ (z4.take (z5 : Int).toNat)) ++ (z4.drop ((i64 (z5 + 1)) : Int).toNat)) (l2:=zfn) y4x rfl rfl .h2 (fun _=>rfl) rfl rfl (y3m .here) (y2f y7C _) zGF) ?_
             rintro ⟨zGG,zGH⟩ _
             refine WL.pu rfl (WL.nil (WX.yk ?_))
             exact WX.mid (G:=List Snetwork_event × List Sapi_Come × List Sapi_Come × List S92 × Zp × Option Addr × Nat × Option Addr × Nat × Option Addr × Nat × Option Addr × Nat × List Value) ⟨(((([] : List Snetwork_event) ++ (z4.take (z5 : Int).toNat)) ++ (z4.drop ((i64 (z5 + 1)) : Int).toNat)) ++ zfn),z7h,z17,z7i,(z1z ++ Zn13o1_72887),zGG,zGH,zfM,zfN,z1G,z1H,(some ⟨z4T,0,none⟩),z3y,zfO⟩ ⟨h,(z5w.trans ((Zle.left _ _).trans (Zle.yh _ _ _))),zGD⟩ (.cons rfl (.cons rfl (.cons rfl (.cons rfl (.cons rfl (.cons rfl (.cons rfl .nil))))))) (.cons .h2 (.cons .here (.cons .h1 (.cons .h1 (.cons .h1 (.cons .h1 .nil))))))
          refine WD.y84 (fuel':=3) (fun (Zn13o1_72887 : Zp) (ao13o2_72887 : Option Addr) (cap13o3_72887 : Nat) (ao13o4_72887 : Option Addr) (cap13o5_72887 : Nat) (ao13o6_72887 : Option Addr) (cap13o7_72887 : Nat) (b18o1_72887 : Nat)=>[(2,(.slice z2m z1i.length z2n)),(3,(.slice z2o z16.length z2p)),(4,(.pointer (some ⟨z1y,0,none⟩))),(11,(.slice z30 (((([] : List Snetwork_event) ++ (z4.take (z5 : Int).toNat)) ++ (z4.drop ((i64 (z5 + 1)) : Int).toNat)).length) z31)),(13,(.slice z1L z18.length z1M)),(14,(.slice z1G z17.length z1H)),(15,(.slice (some ⟨z4T,0,none⟩) zS.length z3y)),(18,(.pointer (some ⟨z3f,0,none⟩))),(19,(.int .i64 zP)),(210,(.agg #[(.int .i64 zn.1.fSlow),(.int .i64 zn.1.fDelay),(.int .i64 zn.1.fStore),(.int .i64 zn.1.fNow),(.slice ao13o2_72887 zn.1.fAt.length cap13o3_72887),(.slice ao13o4_72887 zn.1.fSize.length cap13o5_72887),(.slice ao13o6_72887 zn.1.fEnd.length cap13o7_72887)])),(211,(.int .i64 zn.2.1)),(212,(.int .i64 zn.2.2)),(24,(.pointer (some ⟨b18o1_72887,0,none⟩)))]) (fun (Zn13o1_72887 : Zp) (ao13o2_72887 : Option Addr) (cap13o3_72887 : Nat) (ao13o4_72887 : Option Addr) (cap13o5_72887 : Nat) (ao13o6_72887 : Option Addr) (cap13o7_72887 : Nat) (b18o1_72887 : Nat)=>[stb b18o1_72887 91 [(.int .i64 0),(.int .i64 0),(.int .i64 0),(.int .i64 0),(.slice none 0 0),(.slice none 0 0),(.slice none 0 0)],fz (z1z ++ Zn13o1_72887),row (.slice z30 (((([] : List Snetwork_event) ++ (z4.take (z5 : Int).toNat)) ++ (z4.drop ((i64 (z5 + 1)) : Int).toNat)).length) z31) 89 7 (((([] : List Snetwork_event) ++ (z4.take (z5 : Int).toNat)) ++ (z4.drop ((i64 (z5 + 1)) : Int).toNat)).flatMap e89),row (.slice z1L z18.length z1M) 50 3 (z18.flatMap e50),row (.slice z1G z17.length z1H) 50 3 (z17.flatMap e50),row (.slice (some ⟨z4T,0,none⟩) zS.length z3y) 93 9 z5x,stb z1y 31 [(.slice z2B z6.fModules.length z2C),(.slice z2D z6.fChannels.length z2E),(.slice z2F z6.fSwitches.length z2G),(.slice z2H z6.fLinks.length z2I),(.slice z2J z6.fVLs.length z2K),(.slice z2L z6.fHealth.length z2M),(.slice z2N z6.fCauses.length z2O),(.slice z2P z6.fVersions.length z2Q)],stb z3f 89 [(.int .i64 ((nth z4 z5).fTime)),(.int .i64 ((nth z4 z5).fIn_)),(.int .i64 ((nth z4 z5).fVl)),(.int .i64 ((nth z4 z5).fSent)),(.int .i64 (((nth z4 z5).fHop).fNode)),(.int .i64 (((nth z4 z5).fHop).fNext)),(.int .i64 (((nth z4 z5).fHop).fLink))]]) (fun (Zn13o1_72887 : Zp) (ao13o2_72887 : Option Addr) (cap13o3_72887 : Nat) (ao13o4_72887 : Option Addr) (cap13o5_72887 : Nat) (ao13o6_72887 : Option Addr) (cap13o7_72887 : Nat) (b18o1_72887 : Nat)=>(ZS ((Z ++ z1z) ++ Zn13o1_72887) 1 (fun zn x=>zn = e3 x) ao13o2_72887 cap13o3_72887 zn.1.fAt) ∧ (ZS ((Z ++ z1z) ++ Zn13o1_72887) 1 (fun zn x=>zn = e3 x) ao13o4_72887 cap13o5_72887 zn.1.fSize) ∧ (ZS ((Z ++ z1z) ++ Zn13o1_72887) 1 (fun zn x=>zn = e3 x) ao13o6_72887 cap13o7_72887 zn.1.fEnd)) (yJ 22 [18,17,16,15,14,13,12,11,10,9,8,7,6,5,4,3,2,1,0]) ?_ (fun K13o14o15o16o17o18_72887=>?_)
          ·skip
           rintro Zn13o1_72887 ao13o2_72887 cap13o3_72887 ao13o4_72887 cap13o5_72887 ao13o6_72887 cap13o7_72887 b18o1_72887 ⟨hf13o8_72887,hf13o9_72887,hf13o10_72887⟩
           refine WD.forced0 (i:=19) rfl (by kernel_rfl) rfl rfl rfl (Sin.of .nil) (y1z y55 rfl rfl rfl .here rfl rfl rfl) ?_
           refine WD.a (i:=20) (d:=25) (by kernel_rfl) rfl z2 z3 rfl rfl rfl (fun _=>q_z rfl) ?_
           refine WD.a (i:=21) (d:=26) (by kernel_rfl) rfl z2 z3 rfl rfl rfl (fun _=>q_z rfl) ?_
           exact WD.ys (.cons .here (.cons .here (.cons .here (.cons .here (.cons .here (.cons .here (.cons .here (.cons .here .nil)))))))) (.cons rfl (.cons rfl (.cons rfl (.cons rfl (.cons rfl (.cons rfl (.cons rfl (.cons rfl (.cons rfl (.cons rfl (.cons rfl (.cons rfl .nil)))))))))))) (K13o14o15o16o17o18o19o20o21_72887 Zn13o1_72887 ao13o2_72887 cap13o3_72887 ao13o4_72887 cap13o5_72887 ao13o6_72887 cap13o7_72887 b18o1_72887 ⟨hf13o8_72887,hf13o9_72887,hf13o10_72887⟩)
          refine WD.mids7 (fuel':=4) (fun (Zn13o1_72887 : Zp) (ao13o2_72887 : Option Addr) (cap13o3_72887 : Nat) (ao13o4_72887 : Option Addr) (cap13o5_72887 : Nat) (ao13o6_72887 : Option Addr) (cap13o7_72887 : Nat)=>[(2,(.slice z2m z1i.length z2n)),(3,(.slice z2o z16.length z2p)),(4,(.pointer (some ⟨z1y,0,none⟩))),(11,(.slice z30 (((([] : List Snetwork_event) ++ (z4.take (z5 : Int).toNat)) ++ (z4.drop ((i64 (z5 + 1)) : Int).toNat)).length) z31)),(13,(.slice z1L z18.length z1M)),(14,(.slice z1G z17.length z1H)),(15,(.slice (some ⟨z4T,0,none⟩) zS.length z3y)),(18,(.pointer (some ⟨z3f,0,none⟩))),(19,(.int .i64 zP)),(210,(.agg #[(.int .i64 zn.1.fSlow),(.int .i64 zn.1.fDelay),(.int .i64 zn.1.fStore),(.int .i64 zn.1.fNow),(.slice ao13o2_72887 zn.1.fAt.length cap13o3_72887),(.slice ao13o4_72887 zn.1.fSize.length cap13o5_72887),(.slice ao13o6_72887 zn.1.fEnd.length cap13o7_72887)])),(211,(.int .i64 zn.2.1)),(212,(.int .i64 zn.2.2))]) (fun (Zn13o1_72887 : Zp) (ao13o2_72887 : Option Addr) (cap13o3_72887 : Nat) (ao13o4_72887 : Option Addr) (cap13o5_72887 : Nat) (ao13o6_72887 : Option Addr) (cap13o7_72887 : Nat)=>[fz (z1z ++ Zn13o1_72887),row (.slice z30 (((([] : List Snetwork_event) ++ (z4.take (z5 : Int).toNat)) ++ (z4.drop ((i64 (z5 + 1)) : Int).toNat)).length) z31) 89 7 (((([] : List Snetwork_event) ++ (z4.take (z5 : Int).toNat)) ++ (z4.drop ((i64 (z5 + 1)) : Int).toNat)).flatMap e89),row (.slice z1L z18.length z1M) 50 3 (z18.flatMap e50),row (.slice z1G z17.length z1H) 50 3 (z17.flatMap e50),row (.slice (some ⟨z4T,0,none⟩) zS.length z3y) 93 9 z5x,stb z1y 31 [(.slice z2B z6.fModules.length z2C),(.slice z2D z6.fChannels.length z2E),(.slice z2F z6.fSwitches.length z2G),(.slice z2H z6.fLinks.length z2I),(.slice z2J z6.fVLs.length z2K),(.slice z2L z6.fHealth.length z2M),(.slice z2N z6.fCauses.length z2O),(.slice z2P z6.fVersions.length z2Q)],stb z3f 89 [(.int .i64 ((nth z4 z5).fTime)),(.int .i64 ((nth z4 z5).fIn_)),(.int .i64 ((nth z4 z5).fVl)),(.int .i64 ((nth z4 z5).fSent)),(.int .i64 (((nth z4 z5).fHop).fNode)),(.int .i64 (((nth z4 z5).fHop).fNext)),(.int .i64 (((nth z4 z5).fHop).fLink))]]) (fun (Zn13o1_72887 : Zp) (ao13o2_72887 : Option Addr) (cap13o3_72887 : Nat) (ao13o4_72887 : Option Addr) (cap13o5_72887 : Nat) (ao13o6_72887 : Option Addr) (cap13o7_72887 : Nat)=>(ZS ((Z ++ z1z) ++ Zn13o1_72887) 1 (fun zn x=>zn = e3 x) ao13o2_72887 cap13o3_72887 zn.1.fAt) ∧ (ZS ((Z ++ z1z) ++ Zn13o1_72887) 1 (fun zn x=>zn = e3 x) ao13o4_72887 cap13o5_72887 zn.1.fSize) ∧ (ZS ((Z ++ z1z) ++ Zn13o1_72887) 1 (fun zn x=>zn = e3 x) ao13o6_72887 cap13o7_72887 zn.1.fEnd)) (yJ 22 [17,16,15,14,13,12,11,10,9,8,7,6,5,4,3,2,1,0]) ?_ (fun K13o14o15o16o17_72887=>?_)
          ·skip
           rintro Zn13o1_72887 ao13o2_72887 cap13o3_72887 ao13o4_72887 cap13o5_72887 ao13o6_72887 cap13o7_72887 ⟨hf13o8_72887,hf13o9_72887,hf13o10_72887⟩
           refine WD.new (i:=18) (dd:=24) rfl (by kernel_rfl) rfl rfl rfl (y28 (cs:=[(.int .i64 0),(.int .i64 0),(.int .i64 0),(.int .i64 0),(.slice none 0 0),(.slice none 0 0),(.slice none 0 0)]) y63 rfl) (fun h'=>absurd h' (by decide)) ?_
           intro b18o1_72887 _
           exact WD.ys (.cons .here (.cons .here (.cons .here (.cons .here (.cons .here (.cons .here (.cons .here (.cons .here .nil)))))))) (.cons rfl (.cons rfl (.cons rfl (.cons rfl (.cons rfl (.cons rfl (.cons rfl (.cons rfl (.cons rfl (.cons rfl (.cons rfl (.cons rfl (.cons rfl .nil))))))))))))) (K13o14o15o16o17o18_72887 Zn13o1_72887 ao13o2_72887 cap13o3_72887 ao13o4_72887 cap13o5_72887 ao13o6_72887 cap13o7_72887 b18o1_72887 ⟨hf13o8_72887,hf13o9_72887,hf13o10_72887⟩)
          refine WD.y6Z (fuel':=8) (fun (b18o1_72887 : Nat)=>[(2,(.slice z2m z1i.length z2n)),(3,(.slice z2o z16.length z2p)),(4,(.pointer (some ⟨z1y,0,none⟩))),(11,(.slice z30 (((([] : List Snetwork_event) ++ (z4.take (z5 : Int).toNat)) ++ (z4.drop ((i64 (z5 + 1)) : Int).toNat)).length) z31)),(13,(.slice z1L z18.length z1M)),(14,(.slice z1G z17.length z1H)),(15,(.slice (some ⟨z4T,0,none⟩) zS.length z3y)),(18,(.pointer (some ⟨z3f,0,none⟩))),(19,(.int .i64 zP)),(200,(.agg #[(.int .i64 (((nth zS zP).fPort).fSlow)),(.int .i64 (((nth zS zP).fPort).fDelay)),(.int .i64 (((nth zS zP).fPort).fStore)),(.int .i64 (((nth zS zP).fPort).fNow)),(.slice zvQ ((((nth zS zP).fPort).fAt).length) zvR),(.slice zvS ((((nth zS zP).fPort).fSize).length) zvT),(.slice zvU ((((nth zS zP).fPort).fEnd).length) zvV)])),(202,(.int .i64 ((nth z4 z5).fTime))),(208,(.int .i64 ((nth z16 ((nth z4 z5).fSent)).fSize))),(24,(.pointer (some ⟨b18o1_72887,0,none⟩)))]) (fun (b18o1_72887 : Nat)=>[stb b18o1_72887 91 [(.int .i64 0),(.int .i64 0),(.int .i64 0),(.int .i64 0),(.slice none 0 0),(.slice none 0 0),(.slice none 0 0)],fz z1z,row (.slice z30 (((([] : List Snetwork_event) ++ (z4.take (z5 : Int).toNat)) ++ (z4.drop ((i64 (z5 + 1)) : Int).toNat)).length) z31) 89 7 (((([] : List Snetwork_event) ++ (z4.take (z5 : Int).toNat)) ++ (z4.drop ((i64 (z5 + 1)) : Int).toNat)).flatMap e89),row (.slice z1L z18.length z1M) 50 3 (z18.flatMap e50),row (.slice z1G z17.length z1H) 50 3 (z17.flatMap e50),row (.slice (some ⟨z4T,0,none⟩) zS.length z3y) 93 9 z5x,stb z1y 31 [(.slice z2B z6.fModules.length z2C),(.slice z2D z6.fChannels.length z2E),(.slice z2F z6.fSwitches.length z2G),(.slice z2H z6.fLinks.length z2I),(.slice z2J z6.fVLs.length z2K),(.slice z2L z6.fHealth.length z2M),(.slice z2N z6.fCauses.length z2O),(.slice z2P z6.fVersions.length z2Q)],stb z3f 89 [(.int .i64 ((nth z4 z5).fTime)),(.int .i64 ((nth z4 z5).fIn_)),(.int .i64 ((nth z4 z5).fVl)),(.int .i64 ((nth z4 z5).fSent)),(.int .i64 (((nth z4 z5).fHop).fNode)),(.int .i64 (((nth z4 z5).fHop).fNext)),(.int .i64 (((nth z4 z5).fHop).fLink))]]) (fun (b18o1_72887 : Nat)=>True) (yJ 22 [18,12,11,10,9,8,7,6,5,4,3,2,1,0]) ?_ (fun K18_72887=>?_)
          ·skip
           rintro b18o1_72887 _
           refine WD.call7 (i:=13) (dd:=209) rfl (by kernel_rfl) rfl rfl rfl (.inr rfl) (zC (l:=[.tmp 200,.tmp 202,.tmp 208]) Try.call32 (.cons rfl (.cons rfl (.cons rfl .nil)))) .nil (ccz hz .nil .h1 fun w pz ho=>y67 _ _ _ _ _ _ _ _ _ _ _ zvP w pz zvW zvX zvY) ?_
           rintro Zn13o1_72887 ao13o2_72887 cap13o3_72887 ao13o4_72887 cap13o5_72887 ao13o6_72887 cap13o7_72887 ⟨hf13o8_72887,hf13o9_72887,hf13o10_72887⟩
           refine WD.merge .here .h1 ?_
           refine WD.a (i:=14) (d:=195) (by kernel_rfl) rfl z2 z3 rfl rfl rfl (fun _=>q_m rfl) ?_
           refine WD.a (i:=15) (d:=210) (by kernel_rfl) rfl z2 z3 rfl rfl rfl (fun _=>y3c rfl rfl) ?_
           refine WD.a (i:=16) (d:=211) (by kernel_rfl) rfl z2 z3 rfl rfl rfl (fun _=>y3c rfl rfl) ?_
           refine WD.a (i:=17) (d:=212) (by kernel_rfl) rfl z2 z3 rfl rfl rfl (fun _=>y3c rfl rfl) ?_
           exact WD.ys (.cons .h1 (.cons .here (.cons .here (.cons .here (.cons .here (.cons .here (.cons .here (.cons .here .nil)))))))) (.cons rfl (.cons rfl (.cons rfl (.cons rfl (.cons rfl (.cons rfl (.cons rfl (.cons rfl (.cons rfl (.cons rfl (.cons rfl (.cons rfl (.cons rfl .nil))))))))))))) (K13o14o15o16o17o18_72887 Zn13o1_72887 ao13o2_72887 cap13o3_72887 ao13o4_72887 cap13o5_72887 ao13o6_72887 cap13o7_72887 b18o1_72887 ⟨hf13o8_72887,hf13o9_72887,hf13o10_72887⟩)
          refine WD.choose [13,18] (by kernel_rfl) rfl ?_
          refine WDo.cons ?_ (WDo.cons ?_ (WDo.nil))
          ·refine WDo.call7 (i:=13) (dd:=209) rfl rfl rfl rfl (.inr rfl) (zC (l:=[.tmp 200,.tmp 202,.tmp 208]) Try.call32 (.cons rfl (.cons rfl (.cons rfl .nil)))) .nil (ccz hz .nil .here fun w pz ho=>y67 _ _ _ _ _ _ _ _ _ _ _ zvP w pz zvW zvX zvY) ?_
           rintro Zn13o1_72887 ao13o2_72887 cap13o3_72887 ao13o4_72887 cap13o5_72887 ao13o6_72887 cap13o7_72887 ⟨hf13o8_72887,hf13o9_72887,hf13o10_72887⟩
           refine WD.merge .here .here ?_
           refine WD.a (i:=14) (d:=195) (by kernel_rfl) rfl z2 z3 rfl rfl rfl (fun _=>q_m rfl) ?_
           refine WD.a (i:=15) (d:=210) (by kernel_rfl) rfl z2 z3 rfl rfl rfl (fun _=>y3c rfl rfl) ?_
           refine WD.a (i:=16) (d:=211) (by kernel_rfl) rfl z2 z3 rfl rfl rfl (fun _=>y3c rfl rfl) ?_
           refine WD.a (i:=17) (d:=212) (by kernel_rfl) rfl z2 z3 rfl rfl rfl (fun _=>y3c rfl rfl) ?_
           exact WD.ys (.cons .here (.cons .here (.cons .here (.cons .here (.cons .here (.cons .here (.cons .here .nil))))))) (.cons rfl (.cons rfl (.cons rfl (.cons rfl (.cons rfl (.cons rfl (.cons rfl (.cons rfl (.cons rfl (.cons rfl (.cons rfl (.cons rfl .nil)))))))))))) (K13o14o15o16o17_72887 Zn13o1_72887 ao13o2_72887 cap13o3_72887 ao13o4_72887 cap13o5_72887 ao13o6_72887 cap13o7_72887 ⟨hf13o8_72887,hf13o9_72887,hf13o10_72887⟩)
          ·refine WDo.new (i:=18) (dd:=24) rfl rfl rfl rfl (y28 (cs:=[(.int .i64 0),(.int .i64 0),(.int .i64 0),(.int .i64 0),(.slice none 0 0),(.slice none 0 0),(.slice none 0 0)]) y63 rfl) (fun h'=>absurd h' (by decide)) ?_
           intro b18o1_72887 _
           exact WD.ys (.cons .here (.cons .here (.cons .here (.cons .here (.cons .here (.cons .here (.cons .here (.cons .here .nil)))))))) (.cons rfl (.cons rfl (.cons rfl (.cons rfl (.cons rfl (.cons rfl (.cons rfl (.cons rfl (.cons rfl (.cons rfl (.cons rfl (.cons rfl (.cons rfl .nil))))))))))))) (K18_72887 b18o1_72887 trivial)
      ·rintro z7d z7e z7f z7g zcg zfA zfB zfC zfD zfE zfF zfG zfH zfI ⟨h,zGI,zGJ⟩
       replace h:=(zFW z7d z7e z7f z7g).symm.trans h
       exact WX.round (G:=Nat × List Snetwork_event × List Sapi_Come × List Sapi_Come × List S92 × Zp × Option Addr × Nat × Option Addr × Nat × Option Addr × Nat × Option Addr × Nat × List Value) ⟨zpW,z7d,z7e,z7f,z7g,zcg,zfA,zfB,zfC,zfD,zfE,zfF,zfG,zfH,zfI⟩ ⟨h,(z9W.trans zGI),zGJ⟩ (Nat.lt_succ_self _) (.cons rfl (.cons rfl (.cons rfl (.cons rfl (.cons rfl (.cons rfl (.cons rfl .nil))))))) (.cons .here (.cons .here (.cons .here (.cons .here (.cons .here (.cons .here .nil))))))
     ·replace h:=yn h zq4
      refine WC.exit (WX.yg (WX.yg (WX.yv ?_)))
      exact WX.mid (G:=List Sapi_Come × List Sapi_Come × Zp × Option Addr × Nat × Option Addr × Nat) ⟨z18,z17,z4S,z1L,z1M,z1G,z1H⟩ ⟨h,z9W⟩ (.cons rfl (.cons rfl .nil)) (.cons .here (.cons .h1 (.cons .h1 .nil)))
    ·rintro z8z z8A zfu zfv zfw zfx zfy ⟨h,zOL⟩
     replace h:=(zFU z8z z8A).symm.trans h
     refine WC.b (WC.a (WL.pu rfl (WL.pu rfl (WL.pu rfl (WL.pu rfl (WL.pu rfl (WL.nil (WX.a (WC.ret ?_)))))))))
     obtain rfl:=Option.some.inj h
     refine WX.yi Try.results13 (.tmp rfl (.tmp rfl (.tmp rfl .nil))) (fun w hw=>?_)
     exact ⟨zfu,zfv,zfw,zfx,zfy,ret3 rfl rfl rfl,trivial,hw.sub (.cons .here (.cons .here (.cons .here .nil)))⟩
end Go.Proofs.Ytinchjigeakocaa

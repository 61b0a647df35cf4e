/- Parts of a proof: FhM,FhN,FhK,FhD,FhE,FhO. No conditions. -/
import Derived.Test.YthacfgaacleaeaaGreatDoorU8
import Derived.MapKept
import Derived.Deep.RegionWith
import Derived.StillTailTactics
import Derived.LaidMore
import Derived.SliceStrings
import Derived.ChangeMaps5
import Derived.Test.YthacfgaacleaeaaGreatDoorTie
import Derived.LaidHandle
import Derived.Stop.LaidErr
set_option linter.unusedVariables false
set_option linter.unusedSimpArgs false
namespace Go.Proofs.YthacfgaacleaeaaGreatDoor
open Go.RowKit Sym Sha Go.ChangeShapes Go.WideShapes Go.ChangeMaps
def ckS (s:ByteArray):ByteArray:=findOV (gotL s).length (opN (gotL s)) 36
def ckN (k s:ByteArray) (x y:Int):Nt:=openN k x y (ckS s)
def joinsG (kn:Bool) (tag:ByteArray→ByteArray) (k s:ByteArray) (x y:Int):Bool :=
  decide (errG s x y=0) && (findOB (gotL s).length (opN (gotL s)) 36 && (kn && (decide (openE k x y (ckS s)=0) && (decide (readE (ckN k s x y).x=0) && (decide (readW (ckN k s x y).x=2) && (fstB (opN (gotL s)) (gotL s).length 5 5 && decide ((fstD (opN (gotL s)) (gotL s).length 5 5).bytes=tag (joinText 0 x y (readA (ckN k s x y).x) (readB (ckN k s x y).x)))))))))
theorem ck_le (s:ByteArray) (hs:s.size≤1000):(ckS s).size≤1000000:=by
  have hf:=few_got s hs
  unfold ckS findOV
  split
  · rename_i h
    exact hf.2 _ h
  · decide
theorem ckx_le (k s:ByteArray) (x y:Int) (hs:s.size≤1000):(ckN k s x y).x.size≤1000000:=by
  have h:=ck_le s hs
  unfold ckN openN
  split
  · exact Nat.le_trans (ext_le _ _ _) (Nat.le_trans (ext_le _ _ _) h)
  · decide
set_option maxRecDepth 100000 in
set_option maxHeartbeats 4000000 in
theorem joins_any {w:World} (a b k:ByteArray) (us x y:Int) (s:ByteArray) (hs:a.size≤1000∧b.size≤1000∧s.size≤1000∧k.size≤1000) :
    Calls Tryz.prog 21 #[.agg #[.string a,.string b],.string k,.agg #[.int .i64 us,.int .i64 x,.int .i64 y,.string s]] w fun e w'=>e = .returned (.bool (joinsG (knP a b) (tagP a b) k s x y))∧Below w.heap.size w w':=by
  have hget:=fun W=>get_world fPGet_ok (x:=x) (y:=y) (show s.size≤4000 by omega) W
  obtain ⟨R,hR⟩:∃ R,joinsG (knP a b) (tagP a b) k s x y=R:=⟨_,rfl⟩
  rw [hR]
  unfold joinsG at hR
  have hKn:=fun W=>known_at a b W
  by_cases he:errG s x y=0
  · rw [he] at hR
    have hget:∀ W,Calls Tryz.prog 40 #[.string s,.agg #[.int .i64 x,.int .i64 y]] W fun e w'=>(∃ p n c,e = .returned (.tuple #[(pkG s).v (.slice p n c),.int .i64 0])∧∀ B,BlkSat B w' (.slice p n c) (.row (gotL s).length 2 fun i j=>(opN (gotL s) i).c j))∧Below W.heap.size W w':=fun W=>(hget W).mono fun e w' ⟨hP,hb⟩=>by
      rcases hP with ⟨-,u,h1,h2⟩ | ⟨h1,-⟩
      · obtain ⟨p,cap,hu,-⟩:=h2 []
        subst hu
        exact ⟨⟨p,_,cap,h1,h2⟩,hb⟩
      · exact absurd he h1
    have hf:=few_got s hs.2.2.1
    have hn:(gotL s).length≤maxLen:=Nat.le_trans hf.1 (by unfold maxLen;omega)
    have hF:=fun (W:World) (o:Value) (hr:∀ B,BlkSat B W o (.row (gotL s).length 2 fun i j=>(opN (gotL s) i).c j))=>opts_Find _ (opN (gotL s)) hn 36 o W hr
    have hOp:=fun W=>cookie_Open k x y (ckS s) (by omega) (ck_le s hs.2.2.1) W
    have hRd:=fun W=>join_read (ckN k s x y).x (ckx_le k s x y hs.2.2.1) W
    have hM:=fun (W:World) (o:Value) (hr:∀ B,BlkSat B W o (.row (gotL s).length 2 fun i j=>(opN (gotL s) i).c j))=>mfind_any (w:=W) (v:=o) 5 hf (optsAt_row hr)
    have hT:=fun W=>keys_Join a b 0 x y (readA (ckN k s x y).x) (readB (ckN k s x y).x) ⟨hs.1,hs.2.1⟩ W
    have eF:findOV (gotL s).length (opN (gotL s)) 36=ckS s:=rfl
    have eD:(fstM (opN (gotL s)) (gotL s).length 5 5).getD Mp.none=fstD (opN (gotL s)) (gotL s).length 5 5:=rfl
    have eB:(fstM (opN (gotL s)) (gotL s).length 5 5).isSome=fstB (opN (gotL s)) (gotL s).length 5 5:=rfl
    rw [eF] at hF
    rw [eD,eB] at hM
    unfold openV at hOp
    have eN:openN k x y (ckS s)=ckN k s x y:=rfl
    rw [eN] at hOp
    unfold readV at hRd
    generalize findOB (gotL s).length (opN (gotL s)) 36=FB at *
    generalize fstB (opN (gotL s)) (gotL s).length 5 5=MB at *
    generalize fstD (opN (gotL s)) (gotL s).length 5 5=M at *
    generalize openE k x y (ckS s)=OE at *
    generalize readE (ckN k s x y).x=RE at *
    generalize readW (ckN k s x y).x=RW at *
    generalize readK (ckN k s x y).x=RK at *
    generalize readA (ckN k s x y).x=RA at *
    generalize readB (ckN k s x y).x=RB at *
    generalize ckN k s x y=NT at *
    generalize ckS s=FV at *
    generalize tagP a b (joinText 0 x y RA RB)=TG at *
    generalize knP a b=KN at *
    clear hf hn eF eD eB eN
    generalize hG:gotL s=G at *
    generalize pkG s=p at *
    clear hG
    unfold Pk.v at hget
    unfold Nt.v at hOp
    obtain ⟨na,nb,nc,nd,nx⟩:=NT
    obtain ⟨m0,m1,m2,m3,m4,m5,m6⟩:=M
    obtain ⟨pk,pl,ps,pd,pc,pv,pq,pa,pe,po,pt,px⟩:=p
    dsimp only at hget hOp hRd hM hR
    have e0:decide ((0:Int)=0)=true:=rfl
    rw [e0,Bool.true_and] at hR
    cases FB with
    | false =>
      obtain rfl:R=false:=by rw [← hR];rfl
      clear hOp hRd hM hT
      go_enter Tryz.func21,Tryz.ntmps21
      go_wp2_with (first
        | (go_at_call 40;(with_reducible refine (hget _).mono ?_);rintro e w1 ⟨⟨pu,nu,cu,rfl,hrow⟩,hb⟩;have hb1:Below w.heap.size w w1:=below_of (by (repeat' (first | (with_reducible exact Below.refl _ _) | (with_reducible refine below_alloc ?_ _) | (with_reducible refine Below.drew ?_) | (with_reducible refine below_drewN ?_ _) | (with_reducible refine Below.setCell ?_ ?_ _) | (with_reducible assumption) | (with_reducible refine below_of ?_ (by assumption)) | omega | (simp only [World.size_alloc,World.size_setCell,World.size_drew,size_drewN] at *;omega) | (simp;omega)))) hb;have hz:=hb.size;(try simp only [World.size_alloc,World.size_setCell,World.size_drew,size_drewN] at hz);apply own_step (B:=w.heap.size) hb;(focus (repeat (first | (with_reducible assumption) | (with_reducible exact own_new _ _ _) | ((with_reducible apply own_new');focus (first | omega | (simp;done) | (simp;omega))) | (with_reducible apply own_drewN) | (with_reducible apply own_drew) | (with_reducible apply own_alloc) | (with_reducible apply own_setT) | ((with_reducible apply own_set_otherH);focus (first | (simp;done) | (simp;omega))))));intro hO0;have hk0:=hO0.2.1;have hl0:=hO0.1;have hf0:=hO0.2.2;(try simp only [List.setIfInBounds_toArray,List.set_cons_zero,List.set_cons_succ] at hO0 hk0);apply own_step (B:=w.heap.size+1) hb;(focus (repeat (first | (with_reducible assumption) | (with_reducible exact own_new _ _ _) | ((with_reducible apply own_new');focus (first | omega | (simp;done) | (simp;omega))) | (with_reducible apply own_drewN) | (with_reducible apply own_drew) | (with_reducible apply own_alloc) | (with_reducible apply own_setT) | ((with_reducible apply own_set_otherH);focus (first | (simp;done) | (simp;omega))))));intro hO1;have hk1:=hO1.2.1;have hl1:=hO1.1;have hf1:=hO1.2.2;(try simp only [List.setIfInBounds_toArray,List.set_cons_zero,List.set_cons_succ] at hO1 hk1);have hx0:=own_new w1 #[.int .i64 pk,.bool pl,.int .i64 ps,.int .i64 pd,.int .i64 pc,.int .i64 pv,.int .i64 pq,.int .i64 pa,.int .i64 pe,.int .i64 po,.int .i64 pt,.slice pu nu cu,.string px] 31;have hrx:=row_belowF hrow ((Below.refl _ w1).alloc (Nat.le_refl _) (.cells #[.int .i64 pk,.bool pl,.int .i64 ps,.int .i64 pd,.int .i64 pc,.int .i64 pv,.int .i64 pq,.int .i64 pa,.int .i64 pe,.int .i64 po,.int .i64 pt,.slice pu nu cu,.string px] 31)))
        | (go_at_call 44;(with_reducible refine (hF _ _ hrx).mono ?_);rintro e w2 ⟨rfl,hb⟩;have hb2:Below w.heap.size w w2:=below_of (by (repeat' (first | (with_reducible exact Below.refl _ _) | (with_reducible refine below_alloc ?_ _) | (with_reducible refine Below.drew ?_) | (with_reducible refine below_drewN ?_ _) | (with_reducible refine Below.setCell ?_ ?_ _) | (with_reducible assumption) | (with_reducible refine below_of ?_ (by assumption)) | omega | (simp only [World.size_alloc,World.size_setCell,World.size_drew,size_drewN] at *;omega) | (simp;omega)))) hb;replace hrx:=row_belowF hrx hb;have hz:=hb.size;(try simp only [World.size_alloc,World.size_setCell,World.size_drew,size_drewN] at hz);apply own_step (B:=w.heap.size) hb;(focus (repeat (first | (with_reducible assumption) | (with_reducible exact own_new _ _ _) | ((with_reducible apply own_new');focus (first | omega | (simp;done) | (simp;omega))) | (with_reducible apply own_drewN) | (with_reducible apply own_drew) | (with_reducible apply own_alloc) | (with_reducible apply own_setT) | ((with_reducible apply own_set_otherH);focus (first | (simp;done) | (simp;omega))))));intro hO0;have hk0:=hO0.2.1;have hl0:=hO0.1;have hf0:=hO0.2.2;(try simp only [List.setIfInBounds_toArray,List.set_cons_zero,List.set_cons_succ] at hO0 hk0);apply own_step (B:=w.heap.size+1) hb;(focus (repeat (first | (with_reducible assumption) | (with_reducible exact own_new _ _ _) | ((with_reducible apply own_new');focus (first | omega | (simp;done) | (simp;omega))) | (with_reducible apply own_drewN) | (with_reducible apply own_drew) | (with_reducible apply own_alloc) | (with_reducible apply own_setT) | ((with_reducible apply own_set_otherH);focus (first | (simp;done) | (simp;omega))))));intro hO1;have hk1:=hO1.2.1;have hl1:=hO1.1;have hf1:=hO1.2.2;(try simp only [List.setIfInBounds_toArray,List.set_cons_zero,List.set_cons_succ] at hO1 hk1);apply own_step (B:=w1.heap.size) hb;(focus (repeat (first | (with_reducible assumption) | (with_reducible exact own_new _ _ _) | ((with_reducible apply own_new');focus (first | omega | (simp;done) | (simp;omega))) | (with_reducible apply own_drewN) | (with_reducible apply own_drew) | (with_reducible apply own_alloc) | (with_reducible apply own_setT) | ((with_reducible apply own_set_otherH);focus (first | (simp;done) | (simp;omega))))));intro hO2;have hk2:=hO2.2.1;have hl2:=hO2.1;have hf2:=hO2.2.2;(try simp only [List.setIfInBounds_toArray,List.set_cons_zero,List.set_cons_succ] at hO2 hk2)))
      go_ret
      exact ⟨rfl,by (repeat' (first | (with_reducible exact Below.refl _ _) | (with_reducible refine below_alloc ?_ _) | (with_reducible refine Below.drew ?_) | (with_reducible refine below_drewN ?_ _) | (with_reducible refine Below.setCell ?_ ?_ _) | (with_reducible assumption) | (with_reducible refine below_of ?_ (by assumption)) | omega | (simp only [World.size_alloc,World.size_setCell,World.size_drew,size_drewN] at *;omega) | (simp;omega)))⟩
    | true =>
      rw [Bool.true_and] at hR
      cases KN with
      | false =>
        obtain rfl:R=false:=by rw [← hR];rfl
        clear hOp hRd hM hT
        go_enter Tryz.func21,Tryz.ntmps21
        go_wp2_with (first
          | (go_at_call 40;(with_reducible refine (hget _).mono ?_);rintro e w1 ⟨⟨pu,nu,cu,rfl,hrow⟩,hb⟩;have hb1:Below w.heap.size w w1:=below_of (by (repeat' (first | (with_reducible exact Below.refl _ _) | (with_reducible refine below_alloc ?_ _) | (with_reducible refine Below.drew ?_) | (with_reducible refine below_drewN ?_ _) | (with_reducible refine Below.setCell ?_ ?_ _) | (with_reducible assumption) | (with_reducible refine below_of ?_ (by assumption)) | omega | (simp only [World.size_alloc,World.size_setCell,World.size_drew,size_drewN] at *;omega) | (simp;omega)))) hb;have hz:=hb.size;(try simp only [World.size_alloc,World.size_setCell,World.size_drew,size_drewN] at hz);apply own_step (B:=w.heap.size) hb;(focus (repeat (first | (with_reducible assumption) | (with_reducible exact own_new _ _ _) | ((with_reducible apply own_new');focus (first | omega | (simp;done) | (simp;omega))) | (with_reducible apply own_drewN) | (with_reducible apply own_drew) | (with_reducible apply own_alloc) | (with_reducible apply own_setT) | ((with_reducible apply own_set_otherH);focus (first | (simp;done) | (simp;omega))))));intro hO0;have hk0:=hO0.2.1;have hl0:=hO0.1;have hf0:=hO0.2.2;(try simp only [List.setIfInBounds_toArray,List.set_cons_zero,List.set_cons_succ] at hO0 hk0);apply own_step (B:=w.heap.size+1) hb;(focus (repeat (first | (with_reducible assumption) | (with_reducible exact own_new _ _ _) | ((with_reducible apply own_new');focus (first | omega | (simp;done) | (simp;omega))) | (with_reducible apply own_drewN) | (with_reducible apply own_drew) | (with_reducible apply own_alloc) | (with_reducible apply own_setT) | ((with_reducible apply own_set_otherH);focus (first | (simp;done) | (simp;omega))))));intro hO1;have hk1:=hO1.2.1;have hl1:=hO1.1;have hf1:=hO1.2.2;(try simp only [List.setIfInBounds_toArray,List.set_cons_zero,List.set_cons_succ] at hO1 hk1);have hx0:=own_new w1 #[.int .i64 pk,.bool pl,.int .i64 ps,.int .i64 pd,.int .i64 pc,.int .i64 pv,.int .i64 pq,.int .i64 pa,.int .i64 pe,.int .i64 po,.int .i64 pt,.slice pu nu cu,.string px] 31;have hrx:=row_belowF hrow ((Below.refl _ w1).alloc (Nat.le_refl _) (.cells #[.int .i64 pk,.bool pl,.int .i64 ps,.int .i64 pd,.int .i64 pc,.int .i64 pv,.int .i64 pq,.int .i64 pa,.int .i64 pe,.int .i64 po,.int .i64 pt,.slice pu nu cu,.string px] 31)))
          | (go_at_call 44;(with_reducible refine (hF _ _ hrx).mono ?_);rintro e w2 ⟨rfl,hb⟩;have hb2:Below w.heap.size w w2:=below_of (by (repeat' (first | (with_reducible exact Below.refl _ _) | (with_reducible refine below_alloc ?_ _) | (with_reducible refine Below.drew ?_) | (with_reducible refine below_drewN ?_ _) | (with_reducible refine Below.setCell ?_ ?_ _) | (with_reducible assumption) | (with_reducible refine below_of ?_ (by assumption)) | omega | (simp only [World.size_alloc,World.size_setCell,World.size_drew,size_drewN] at *;omega) | (simp;omega)))) hb;replace hrx:=row_belowF hrx hb;have hz:=hb.size;(try simp only [World.size_alloc,World.size_setCell,World.size_drew,size_drewN] at hz);apply own_step (B:=w.heap.size) hb;(focus (repeat (first | (with_reducible assumption) | (with_reducible exact own_new _ _ _) | ((with_reducible apply own_new');focus (first | omega | (simp;done) | (simp;omega))) | (with_reducible apply own_drewN) | (with_reducible apply own_drew) | (with_reducible apply own_alloc) | (with_reducible apply own_setT) | ((with_reducible apply own_set_otherH);focus (first | (simp;done) | (simp;omega))))));intro hO0;have hk0:=hO0.2.1;have hl0:=hO0.1;have hf0:=hO0.2.2;(try simp only [List.setIfInBounds_toArray,List.set_cons_zero,List.set_cons_succ] at hO0 hk0);apply own_step (B:=w.heap.size+1) hb;(focus (repeat (first | (with_reducible assumption) | (with_reducible exact own_new _ _ _) | ((with_reducible apply own_new');focus (first | omega | (simp;done) | (simp;omega))) | (with_reducible apply own_drewN) | (with_reducible apply own_drew) | (with_reducible apply own_alloc) | (with_reducible apply own_setT) | ((with_reducible apply own_set_otherH);focus (first | (simp;done) | (simp;omega))))));intro hO1;have hk1:=hO1.2.1;have hl1:=hO1.1;have hf1:=hO1.2.2;(try simp only [List.setIfInBounds_toArray,List.set_cons_zero,List.set_cons_succ] at hO1 hk1);apply own_step (B:=w1.heap.size) hb;(focus (repeat (first | (with_reducible assumption) | (with_reducible exact own_new _ _ _) | ((with_reducible apply own_new');focus (first | omega | (simp;done) | (simp;omega))) | (with_reducible apply own_drewN) | (with_reducible apply own_drew) | (with_reducible apply own_alloc) | (with_reducible apply own_setT) | ((with_reducible apply own_set_otherH);focus (first | (simp;done) | (simp;omega))))));intro hO2;have hk2:=hO2.2.1;have hl2:=hO2.1;have hf2:=hO2.2.2;(try simp only [List.setIfInBounds_toArray,List.set_cons_zero,List.set_cons_succ] at hO2 hk2))
          | (go_at_call 35;(with_reducible refine (hKn _).mono ?_);rintro e w3 ⟨rfl,hb⟩;have hb3:Below w.heap.size w w3:=below_of (by (repeat' (first | (with_reducible exact Below.refl _ _) | (with_reducible refine below_alloc ?_ _) | (with_reducible refine Below.drew ?_) | (with_reducible refine below_drewN ?_ _) | (with_reducible refine Below.setCell ?_ ?_ _) | (with_reducible assumption) | (with_reducible refine below_of ?_ (by assumption)) | omega | (simp only [World.size_alloc,World.size_setCell,World.size_drew,size_drewN] at *;omega) | (simp;omega)))) hb;replace hrx:=row_belowF hrx hb;have hz:=hb.size;(try simp only [World.size_alloc,World.size_setCell,World.size_drew,size_drewN] at hz);apply own_step (B:=w.heap.size) hb;(focus (repeat (first | (with_reducible assumption) | (with_reducible exact own_new _ _ _) | ((with_reducible apply own_new');focus (first | omega | (simp;done) | (simp;omega))) | (with_reducible apply own_drewN) | (with_reducible apply own_drew) | (with_reducible apply own_alloc) | (with_reducible apply own_setT) | ((with_reducible apply own_set_otherH);focus (first | (simp;done) | (simp;omega))))));intro hO0;have hk0:=hO0.2.1;have hl0:=hO0.1;have hf0:=hO0.2.2;(try simp only [List.setIfInBounds_toArray,List.set_cons_zero,List.set_cons_succ] at hO0 hk0);apply own_step (B:=w.heap.size+1) hb;(focus (repeat (first | (with_reducible assumption) | (with_reducible exact own_new _ _ _) | ((with_reducible apply own_new');focus (first | omega | (simp;done) | (simp;omega))) | (with_reducible apply own_drewN) | (with_reducible apply own_drew) | (with_reducible apply own_alloc) | (with_reducible apply own_setT) | ((with_reducible apply own_set_otherH);focus (first | (simp;done) | (simp;omega))))));intro hO1;have hk1:=hO1.2.1;have hl1:=hO1.1;have hf1:=hO1.2.2;(try simp only [List.setIfInBounds_toArray,List.set_cons_zero,List.set_cons_succ] at hO1 hk1);apply own_step (B:=w1.heap.size) hb;(focus (repeat (first | (with_reducible assumption) | (with_reducible exact own_new _ _ _) | ((with_reducible apply own_new');focus (first | omega | (simp;done) | (simp;omega))) | (with_reducible apply own_drewN) | (with_reducible apply own_drew) | (with_reducible apply own_alloc) | (with_reducible apply own_setT) | ((with_reducible apply own_set_otherH);focus (first | (simp;done) | (simp;omega))))));intro hO2;have hk2:=hO2.2.1;have hl2:=hO2.1;have hf2:=hO2.2.2;(try simp only [List.setIfInBounds_toArray,List.set_cons_zero,List.set_cons_succ] at hO2 hk2)))
        go_ret
        exact ⟨rfl,by (repeat' (first | (with_reducible exact Below.refl _ _) | (with_reducible refine below_alloc ?_ _) | (with_reducible refine Below.drew ?_) | (with_reducible refine below_drewN ?_ _) | (with_reducible refine Below.setCell ?_ ?_ _) | (with_reducible assumption) | (with_reducible refine below_of ?_ (by assumption)) | omega | (simp only [World.size_alloc,World.size_setCell,World.size_drew,size_drewN] at *;omega) | (simp;omega)))⟩
      | true =>
        rw [Bool.true_and] at hR
        by_cases hOE:OE=0
        · subst hOE
          rw [e0,Bool.true_and] at hR
          go_enter Tryz.func21,Tryz.ntmps21
          go_upto_region 10 with (first
            | (go_at_call 40;(with_reducible refine (hget _).mono ?_);rintro e w1 ⟨⟨pu,nu,cu,rfl,hrow⟩,hb⟩;have hb1:Below w.heap.size w w1:=below_of (by (repeat' (first | (with_reducible exact Below.refl _ _) | (with_reducible refine below_alloc ?_ _) | (with_reducible refine Below.drew ?_) | (with_reducible refine below_drewN ?_ _) | (with_reducible refine Below.setCell ?_ ?_ _) | (with_reducible assumption) | (with_reducible refine below_of ?_ (by assumption)) | omega | (simp only [World.size_alloc,World.size_setCell,World.size_drew,size_drewN] at *;omega) | (simp;omega)))) hb;have hz:=hb.size;(try simp only [World.size_alloc,World.size_setCell,World.size_drew,size_drewN] at hz);apply own_step (B:=w.heap.size) hb;(focus (repeat (first | (with_reducible assumption) | (with_reducible exact own_new _ _ _) | ((with_reducible apply own_new');focus (first | omega | (simp;done) | (simp;omega))) | (with_reducible apply own_drewN) | (with_reducible apply own_drew) | (with_reducible apply own_alloc) | (with_reducible apply own_setT) | ((with_reducible apply own_set_otherH);focus (first | (simp;done) | (simp;omega))))));intro hO0;have hk0:=hO0.2.1;have hl0:=hO0.1;have hf0:=hO0.2.2;(try simp only [List.setIfInBounds_toArray,List.set_cons_zero,List.set_cons_succ] at hO0 hk0);apply own_step (B:=w.heap.size+1) hb;(focus (repeat (first | (with_reducible assumption) | (with_reducible exact own_new _ _ _) | ((with_reducible apply own_new');focus (first | omega | (simp;done) | (simp;omega))) | (with_reducible apply own_drewN) | (with_reducible apply own_drew) | (with_reducible apply own_alloc) | (with_reducible apply own_setT) | ((with_reducible apply own_set_otherH);focus (first | (simp;done) | (simp;omega))))));intro hO1;have hk1:=hO1.2.1;have hl1:=hO1.1;have hf1:=hO1.2.2;(try simp only [List.setIfInBounds_toArray,List.set_cons_zero,List.set_cons_succ] at hO1 hk1);have hx0:=own_new w1 #[.int .i64 pk,.bool pl,.int .i64 ps,.int .i64 pd,.int .i64 pc,.int .i64 pv,.int .i64 pq,.int .i64 pa,.int .i64 pe,.int .i64 po,.int .i64 pt,.slice pu nu cu,.string px] 31;have hrx:=row_belowF hrow ((Below.refl _ w1).alloc (Nat.le_refl _) (.cells #[.int .i64 pk,.bool pl,.int .i64 ps,.int .i64 pd,.int .i64 pc,.int .i64 pv,.int .i64 pq,.int .i64 pa,.int .i64 pe,.int .i64 po,.int .i64 pt,.slice pu nu cu,.string px] 31)))
            | (go_at_call 44;(with_reducible refine (hF _ _ hrx).mono ?_);rintro e w2 ⟨rfl,hb⟩;have hb2:Below w.heap.size w w2:=below_of (by (repeat' (first | (with_reducible exact Below.refl _ _) | (with_reducible refine below_alloc ?_ _) | (with_reducible refine Below.drew ?_) | (with_reducible refine below_drewN ?_ _) | (with_reducible refine Below.setCell ?_ ?_ _) | (with_reducible assumption) | (with_reducible refine below_of ?_ (by assumption)) | omega | (simp only [World.size_alloc,World.size_setCell,World.size_drew,size_drewN] at *;omega) | (simp;omega)))) hb;replace hrx:=row_belowF hrx hb;have hz:=hb.size;(try simp only [World.size_alloc,World.size_setCell,World.size_drew,size_drewN] at hz);apply own_step (B:=w.heap.size) hb;(focus (repeat (first | (with_reducible assumption) | (with_reducible exact own_new _ _ _) | ((with_reducible apply own_new');focus (first | omega | (simp;done) | (simp;omega))) | (with_reducible apply own_drewN) | (with_reducible apply own_drew) | (with_reducible apply own_alloc) | (with_reducible apply own_setT) | ((with_reducible apply own_set_otherH);focus (first | (simp;done) | (simp;omega))))));intro hO0;have hk0:=hO0.2.1;have hl0:=hO0.1;have hf0:=hO0.2.2;(try simp only [List.setIfInBounds_toArray,List.set_cons_zero,List.set_cons_succ] at hO0 hk0);apply own_step (B:=w.heap.size+1) hb;(focus (repeat (first | (with_reducible assumption) | (with_reducible exact own_new _ _ _) | ((with_reducible apply own_new');focus (first | omega | (simp;done) | (simp;omega))) | (with_reducible apply own_drewN) | (with_reducible apply own_drew) | (with_reducible apply own_alloc) | (with_reducible apply own_setT) | ((with_reducible apply own_set_otherH);focus (first | (simp;done) | (simp;omega))))));intro hO1;have hk1:=hO1.2.1;have hl1:=hO1.1;have hf1:=hO1.2.2;(try simp only [List.setIfInBounds_toArray,List.set_cons_zero,List.set_cons_succ] at hO1 hk1);apply own_step (B:=w1.heap.size) hb;(focus (repeat (first | (with_reducible assumption) | (with_reducible exact own_new _ _ _) | ((with_reducible apply own_new');focus (first | omega | (simp;done) | (simp;omega))) | (with_reducible apply own_drewN) | (with_reducible apply own_drew) | (with_reducible apply own_alloc) | (with_reducible apply own_setT) | ((with_reducible apply own_set_otherH);focus (first | (simp;done) | (simp;omega))))));intro hO2;have hk2:=hO2.2.1;have hl2:=hO2.1;have hf2:=hO2.2.2;(try simp only [List.setIfInBounds_toArray,List.set_cons_zero,List.set_cons_succ] at hO2 hk2))
            | (go_at_call 35;(with_reducible refine (hKn _).mono ?_);rintro e w3 ⟨rfl,hb⟩;have hb3:Below w.heap.size w w3:=below_of (by (repeat' (first | (with_reducible exact Below.refl _ _) | (with_reducible refine below_alloc ?_ _) | (with_reducible refine Below.drew ?_) | (with_reducible refine below_drewN ?_ _) | (with_reducible refine Below.setCell ?_ ?_ _) | (with_reducible assumption) | (with_reducible refine below_of ?_ (by assumption)) | omega | (simp only [World.size_alloc,World.size_setCell,World.size_drew,size_drewN] at *;omega) | (simp;omega)))) hb;replace hrx:=row_belowF hrx hb;have hz:=hb.size;(try simp only [World.size_alloc,World.size_setCell,World.size_drew,size_drewN] at hz);apply own_step (B:=w.heap.size) hb;(focus (repeat (first | (with_reducible assumption) | (with_reducible exact own_new _ _ _) | ((with_reducible apply own_new');focus (first | omega | (simp;done) | (simp;omega))) | (with_reducible apply own_drewN) | (with_reducible apply own_drew) | (with_reducible apply own_alloc) | (with_reducible apply own_setT) | ((with_reducible apply own_set_otherH);focus (first | (simp;done) | (simp;omega))))));intro hO0;have hk0:=hO0.2.1;have hl0:=hO0.1;have hf0:=hO0.2.2;(try simp only [List.setIfInBounds_toArray,List.set_cons_zero,List.set_cons_succ] at hO0 hk0);apply own_step (B:=w.heap.size+1) hb;(focus (repeat (first | (with_reducible assumption) | (with_reducible exact own_new _ _ _) | ((with_reducible apply own_new');focus (first | omega | (simp;done) | (simp;omega))) | (with_reducible apply own_drewN) | (with_reducible apply own_drew) | (with_reducible apply own_alloc) | (with_reducible apply own_setT) | ((with_reducible apply own_set_otherH);focus (first | (simp;done) | (simp;omega))))));intro hO1;have hk1:=hO1.2.1;have hl1:=hO1.1;have hf1:=hO1.2.2;(try simp only [List.setIfInBounds_toArray,List.set_cons_zero,List.set_cons_succ] at hO1 hk1);apply own_step (B:=w1.heap.size) hb;(focus (repeat (first | (with_reducible assumption) | (with_reducible exact own_new _ _ _) | ((with_reducible apply own_new');focus (first | omega | (simp;done) | (simp;omega))) | (with_reducible apply own_drewN) | (with_reducible apply own_drew) | (with_reducible apply own_alloc) | (with_reducible apply own_setT) | ((with_reducible apply own_set_otherH);focus (first | (simp;done) | (simp;omega))))));intro hO2;have hk2:=hO2.2.1;have hl2:=hO2.1;have hf2:=hO2.2.2;(try simp only [List.setIfInBounds_toArray,List.set_cons_zero,List.set_cons_succ] at hO2 hk2))
            | (go_at_call 45;(with_reducible refine (hOp _).mono ?_);rintro e w4 ⟨rfl,hb⟩;have hb4:Below w.heap.size w w4:=below_of (by (repeat' (first | (with_reducible exact Below.refl _ _) | (with_reducible refine below_alloc ?_ _) | (with_reducible refine Below.drew ?_) | (with_reducible refine below_drewN ?_ _) | (with_reducible refine Below.setCell ?_ ?_ _) | (with_reducible assumption) | (with_reducible refine below_of ?_ (by assumption)) | omega | (simp only [World.size_alloc,World.size_setCell,World.size_drew,size_drewN] at *;omega) | (simp;omega)))) hb;replace hrx:=row_belowF hrx (hb.alloc hb.size (.cells #[.int .i64 na,.int .i64 nb,.int .i64 nc,.int .i64 nd,.string nx] 95));have hz:=hb.size;(try simp only [World.size_alloc,World.size_setCell,World.size_drew,size_drewN] at hz);apply own_step (B:=w.heap.size) hb;(focus (repeat (first | (with_reducible assumption) | (with_reducible exact own_new _ _ _) | ((with_reducible apply own_new');focus (first | omega | (simp;done) | (simp;omega))) | (with_reducible apply own_drewN) | (with_reducible apply own_drew) | (with_reducible apply own_alloc) | (with_reducible apply own_setT) | ((with_reducible apply own_set_otherH);focus (first | (simp;done) | (simp;omega))))));intro hO0;have hk0:=hO0.2.1;have hl0:=hO0.1;have hf0:=hO0.2.2;(try simp only [List.setIfInBounds_toArray,List.set_cons_zero,List.set_cons_succ] at hO0 hk0);apply own_step (B:=w.heap.size+1) hb;(focus (repeat (first | (with_reducible assumption) | (with_reducible exact own_new _ _ _) | ((with_reducible apply own_new');focus (first | omega | (simp;done) | (simp;omega))) | (with_reducible apply own_drewN) | (with_reducible apply own_drew) | (with_reducible apply own_alloc) | (with_reducible apply own_setT) | ((with_reducible apply own_set_otherH);focus (first | (simp;done) | (simp;omega))))));intro hO1;have hk1:=hO1.2.1;have hl1:=hO1.1;have hf1:=hO1.2.2;(try simp only [List.setIfInBounds_toArray,List.set_cons_zero,List.set_cons_succ] at hO1 hk1);apply own_step (B:=w1.heap.size) hb;(focus (repeat (first | (with_reducible assumption) | (with_reducible exact own_new _ _ _) | ((with_reducible apply own_new');focus (first | omega | (simp;done) | (simp;omega))) | (with_reducible apply own_drewN) | (with_reducible apply own_drew) | (with_reducible apply own_alloc) | (with_reducible apply own_setT) | ((with_reducible apply own_set_otherH);focus (first | (simp;done) | (simp;omega))))));intro hO2;have hk2:=hO2.2.1;have hl2:=hO2.1;have hf2:=hO2.2.2;(try simp only [List.setIfInBounds_toArray,List.set_cons_zero,List.set_cons_succ] at hO2 hk2))
            | (go_at_call 46;(with_reducible refine (hRd _).mono ?_);rintro e w5 ⟨rfl,hb⟩;have hb5:Below w.heap.size w w5:=below_of (by (repeat' (first | (with_reducible exact Below.refl _ _) | (with_reducible refine below_alloc ?_ _) | (with_reducible refine Below.drew ?_) | (with_reducible refine below_drewN ?_ _) | (with_reducible refine Below.setCell ?_ ?_ _) | (with_reducible assumption) | (with_reducible refine below_of ?_ (by assumption)) | omega | (simp only [World.size_alloc,World.size_setCell,World.size_drew,size_drewN] at *;omega) | (simp;omega)))) hb;replace hrx:=row_belowF hrx (hb.alloc hb.size (.cells #[.int .i64 RW,.string RK,.int .i64 0,.int .i64 RA,.int .i64 RB] 99));have hz:=hb.size;(try simp only [World.size_alloc,World.size_setCell,World.size_drew,size_drewN] at hz);apply own_step (B:=w.heap.size) hb;(focus (repeat (first | (with_reducible assumption) | (with_reducible exact own_new _ _ _) | ((with_reducible apply own_new');focus (first | omega | (simp;done) | (simp;omega))) | (with_reducible apply own_drewN) | (with_reducible apply own_drew) | (with_reducible apply own_alloc) | (with_reducible apply own_setT) | ((with_reducible apply own_set_otherH);focus (first | (simp;done) | (simp;omega))))));intro hO0;have hk0:=hO0.2.1;have hl0:=hO0.1;have hf0:=hO0.2.2;(try simp only [List.setIfInBounds_toArray,List.set_cons_zero,List.set_cons_succ] at hO0 hk0);apply own_step (B:=w.heap.size+1) hb;(focus (repeat (first | (with_reducible assumption) | (with_reducible exact own_new _ _ _) | ((with_reducible apply own_new');focus (first | omega | (simp;done) | (simp;omega))) | (with_reducible apply own_drewN) | (with_reducible apply own_drew) | (with_reducible apply own_alloc) | (with_reducible apply own_setT) | ((with_reducible apply own_set_otherH);focus (first | (simp;done) | (simp;omega))))));intro hO1;have hk1:=hO1.2.1;have hl1:=hO1.1;have hf1:=hO1.2.2;(try simp only [List.setIfInBounds_toArray,List.set_cons_zero,List.set_cons_succ] at hO1 hk1);apply own_step (B:=w1.heap.size) hb;(focus (repeat (first | (with_reducible assumption) | (with_reducible exact own_new _ _ _) | ((with_reducible apply own_new');focus (first | omega | (simp;done) | (simp;omega))) | (with_reducible apply own_drewN) | (with_reducible apply own_drew) | (with_reducible apply own_alloc) | (with_reducible apply own_setT) | ((with_reducible apply own_set_otherH);focus (first | (simp;done) | (simp;omega))))));intro hO2;have hk2:=hO2.2.1;have hl2:=hO2.1;have hf2:=hO2.2.2;(try simp only [List.setIfInBounds_toArray,List.set_cons_zero,List.set_cons_succ] at hO2 hk2))
            | (go_at_call 34;(with_reducible refine (hM _ _ hrx).mono ?_);rintro e w6 ⟨rfl,hb⟩;have hb6:Below w.heap.size w w6:=below_of (by (repeat' (first | (with_reducible exact Below.refl _ _) | (with_reducible refine below_alloc ?_ _) | (with_reducible refine Below.drew ?_) | (with_reducible refine below_drewN ?_ _) | (with_reducible refine Below.setCell ?_ ?_ _) | (with_reducible assumption) | (with_reducible refine below_of ?_ (by assumption)) | omega | (simp only [World.size_alloc,World.size_setCell,World.size_drew,size_drewN] at *;omega) | (simp;omega)))) hb;have hz:=hb.size;(try simp only [World.size_alloc,World.size_setCell,World.size_drew,size_drewN] at hz);apply own_step (B:=w.heap.size) hb;(focus (repeat (first | (with_reducible assumption) | (with_reducible exact own_new _ _ _) | ((with_reducible apply own_new');focus (first | omega | (simp;done) | (simp;omega))) | (with_reducible apply own_drewN) | (with_reducible apply own_drew) | (with_reducible apply own_alloc) | (with_reducible apply own_setT) | ((with_reducible apply own_set_otherH);focus (first | (simp;done) | (simp;omega))))));intro hO0;have hk0:=hO0.2.1;have hl0:=hO0.1;have hf0:=hO0.2.2;(try simp only [List.setIfInBounds_toArray,List.set_cons_zero,List.set_cons_succ] at hO0 hk0);apply own_step (B:=w.heap.size+1) hb;(focus (repeat (first | (with_reducible assumption) | (with_reducible exact own_new _ _ _) | ((with_reducible apply own_new');focus (first | omega | (simp;done) | (simp;omega))) | (with_reducible apply own_drewN) | (with_reducible apply own_drew) | (with_reducible apply own_alloc) | (with_reducible apply own_setT) | ((with_reducible apply own_set_otherH);focus (first | (simp;done) | (simp;omega))))));intro hO1;have hk1:=hO1.2.1;have hl1:=hO1.1;have hf1:=hO1.2.2;(try simp only [List.setIfInBounds_toArray,List.set_cons_zero,List.set_cons_succ] at hO1 hk1);apply own_step (B:=w5.heap.size) hb;(focus (repeat (first | (with_reducible assumption) | (with_reducible exact own_new _ _ _) | ((with_reducible apply own_new');focus (first | omega | (simp;done) | (simp;omega))) | (with_reducible apply own_drewN) | (with_reducible apply own_drew) | (with_reducible apply own_alloc) | (with_reducible apply own_setT) | ((with_reducible apply own_set_otherH);focus (first | (simp;done) | (simp;omega))))));intro hO2;have hk2:=hO2.2.1;have hl2:=hO2.1;have hf2:=hO2.2.2;(try simp only [List.setIfInBounds_toArray,List.set_cons_zero,List.set_cons_succ] at hO2 hk2)))
          have hOm:=own_new w6 #[.int .i64 m0,.int .i64 m1,.int .i64 m2,.int .i64 m3,.int .i64 m4,.int .i64 m5,.string m6] 65
          have hOo:=own_alloc hO2 (.cells #[.int .i64 m0,.int .i64 m1,.int .i64 m2,.int .i64 m3,.int .i64 m4,.int .i64 m5,.string m6] 65)
          have hOu:=own_alloc hO1 (.cells #[.int .i64 m0,.int .i64 m1,.int .i64 m2,.int .i64 m3,.int .i64 m4,.int .i64 m5,.string m6] 65)
          have hOp:=own_alloc hO0 (.cells #[.int .i64 m0,.int .i64 m1,.int .i64 m2,.int .i64 m3,.int .i64 m4,.int .i64 m5,.string m6] 65)
          have hbW:=below_alloc hb6 (.cells #[.int .i64 m0,.int .i64 m1,.int .i64 m2,.int .i64 m3,.int .i64 m4,.int .i64 m5,.string m6] 65)
          generalize World.alloc w6 (.cells #[.int .i64 m0,.int .i64 m1,.int .i64 m2,.int .i64 m3,.int .i64 m4,.int .i64 m5,.string m6] 65)=W at hOm hOo hOu hOp hbW ⊢
          have c0:∀ q:BelowF W,_:=cell_byF (hOp.2.1 0)
          have c1:∀ q:BelowF W,_:=cell_byF (hOp.2.1 1)
          have u1:∀ q:BelowF W,_:=cell_byF (hOu.2.1 1)
          have u2:∀ q:BelowF W,_:=cell_byF (hOu.2.1 2)
          have o0:∀ q:BelowF W,_:=cell_byF (hOo.2.1 0)
          have o3:∀ q:BelowF W,_:=cell_byF (hOo.2.1 3)
          have o4:∀ q:BelowF W,_:=cell_byF (hOo.2.1 4)
          have x6:∀ q:BelowF W,_:=cell_byF (hOm.2.1 6)
          have o0':∀ q,(W.drewN q).cell? ⟨w5.heap.size,0,none⟩=some (.int .i64 RW):=fun q=>hOo.2.1 0
          have hTq:∀ q:BelowF W,_:=fun q=>hT q.w
          clear hget hF hKn hOp hRd hM hT hrow hb1 hb2 hb3 hb4 hb5 hb6 hb hOm hOo hOu hO0 hO1 hO2 hk0 hk1 hk2 hl0 hl1 hl2 hf0 hf1 hf2 hz hx0
          by_cases hRE:RE=0
          · subst hRE
            rw [show decide ((0:Int)=0)=true from rfl,Bool.true_and] at hR
            by_cases hRW:RW=2
            · subst hRW
              rw [show decide ((2:Int)=2)=true from rfl,Bool.true_and] at hR
              cases MB with
              | true =>
                rw [Bool.true_and] at hR
                clear o0'
                go_wp2
                refine wp_region_belowF (by kernel_rfl) (by kernel_rfl) ?_
                (repeat (quiet_step ((go_at_call 47;with_reducible exact below_leftF (hTq _)))))
                refine wpQuiet_nil ?_
                intro _ hw'
                obtain ⟨⟨wq,hbq⟩,hw''⟩:=hw'
                subst hw''
                go_wp2
                go_ret
                exact ⟨by rw [← hR];exact ret_b (by rw [Bool.eq_iff_iff,← beq_toListBytes,Go.MapKept.bytes_beq,decide_eq_true_iff]),hbW.trans (hbq.mono hbW.size)⟩
              | false =>
                obtain rfl:R=false:=by rw [← hR];rfl
                clear c0 c1 u1 u2 o0 o3 o4 x6 hTq
                go_wp2
                go_quiet (fail)
                go_wp2
                go_ret
                exact ⟨rfl,by (repeat' (first | (with_reducible exact Below.refl _ _) | (with_reducible refine below_alloc ?_ _) | (with_reducible refine Below.drew ?_) | (with_reducible refine below_drewN ?_ _) | (with_reducible refine Below.setCell ?_ ?_ _) | (with_reducible assumption) | (with_reducible refine below_of ?_ (by assumption)) | omega | (simp only [World.size_alloc,World.size_setCell,World.size_drew,size_drewN] at *;omega) | (simp;omega)))⟩
            · have hWb:((RW:Int) == 2)=false:=by rw [beq_eq_false_iff_ne];exact hRW
              have hWd:decide (RW=2)=false:=decide_eq_false hRW
              obtain rfl:R=false:=by rw [← hR,hWd];rfl
              clear c0 c1 u1 u2 o0 o3 o4 x6 hTq hRW hR
              go_wp2
              go_quiet (fail)
              go_wp2
              go_ret
              exact ⟨rfl,by (repeat' (first | (with_reducible exact Below.refl _ _) | (with_reducible refine below_alloc ?_ _) | (with_reducible refine Below.drew ?_) | (with_reducible refine below_drewN ?_ _) | (with_reducible refine Below.setCell ?_ ?_ _) | (with_reducible assumption) | (with_reducible refine below_of ?_ (by assumption)) | omega | (simp only [World.size_alloc,World.size_setCell,World.size_drew,size_drewN] at *;omega) | (simp;omega)))⟩
          · have hEb:((RE:Int) == 0)=false:=by rw [beq_eq_false_iff_ne];exact hRE
            have hEd:decide (RE=0)=false:=decide_eq_false hRE
            obtain rfl:R=false:=by rw [← hR,hEd];rfl
            clear c0 c1 u1 u2 o0 o0' o3 o4 x6 hTq hRE hR
            go_wp2
            go_quiet (fail)
            go_wp2
            go_ret
            exact ⟨rfl,by (repeat' (first | (with_reducible exact Below.refl _ _) | (with_reducible refine below_alloc ?_ _) | (with_reducible refine Below.drew ?_) | (with_reducible refine below_drewN ?_ _) | (with_reducible refine Below.setCell ?_ ?_ _) | (with_reducible assumption) | (with_reducible refine below_of ?_ (by assumption)) | omega | (simp only [World.size_alloc,World.size_setCell,World.size_drew,size_drewN] at *;omega) | (simp;omega)))⟩
        · have hOb:((OE:Int) == 0)=false:=by rw [beq_eq_false_iff_ne];exact hOE
          obtain rfl:R=false:=by rw [← hR,decide_eq_false hOE];rfl
          clear hRd hM hT
          go_enter Tryz.func21,Tryz.ntmps21
          go_wp2_with (first
            | (go_at_call 40;(with_reducible refine (hget _).mono ?_);rintro e w1 ⟨⟨pu,nu,cu,rfl,hrow⟩,hb⟩;have hb1:Below w.heap.size w w1:=below_of (by (repeat' (first | (with_reducible exact Below.refl _ _) | (with_reducible refine below_alloc ?_ _) | (with_reducible refine Below.drew ?_) | (with_reducible refine below_drewN ?_ _) | (with_reducible refine Below.setCell ?_ ?_ _) | (with_reducible assumption) | (with_reducible refine below_of ?_ (by assumption)) | omega | (simp only [World.size_alloc,World.size_setCell,World.size_drew,size_drewN] at *;omega) | (simp;omega)))) hb;have hz:=hb.size;(try simp only [World.size_alloc,World.size_setCell,World.size_drew,size_drewN] at hz);apply own_step (B:=w.heap.size) hb;(focus (repeat (first | (with_reducible assumption) | (with_reducible exact own_new _ _ _) | ((with_reducible apply own_new');focus (first | omega | (simp;done) | (simp;omega))) | (with_reducible apply own_drewN) | (with_reducible apply own_drew) | (with_reducible apply own_alloc) | (with_reducible apply own_setT) | ((with_reducible apply own_set_otherH);focus (first | (simp;done) | (simp;omega))))));intro hO0;have hk0:=hO0.2.1;have hl0:=hO0.1;have hf0:=hO0.2.2;(try simp only [List.setIfInBounds_toArray,List.set_cons_zero,List.set_cons_succ] at hO0 hk0);apply own_step (B:=w.heap.size+1) hb;(focus (repeat (first | (with_reducible assumption) | (with_reducible exact own_new _ _ _) | ((with_reducible apply own_new');focus (first | omega | (simp;done) | (simp;omega))) | (with_reducible apply own_drewN) | (with_reducible apply own_drew) | (with_reducible apply own_alloc) | (with_reducible apply own_setT) | ((with_reducible apply own_set_otherH);focus (first | (simp;done) | (simp;omega))))));intro hO1;have hk1:=hO1.2.1;have hl1:=hO1.1;have hf1:=hO1.2.2;(try simp only [List.setIfInBounds_toArray,List.set_cons_zero,List.set_cons_succ] at hO1 hk1);have hx0:=own_new w1 #[.int .i64 pk,.bool pl,.int .i64 ps,.int .i64 pd,.int .i64 pc,.int .i64 pv,.int .i64 pq,.int .i64 pa,.int .i64 pe,.int .i64 po,.int .i64 pt,.slice pu nu cu,.string px] 31;have hrx:=row_belowF hrow ((Below.refl _ w1).alloc (Nat.le_refl _) (.cells #[.int .i64 pk,.bool pl,.int .i64 ps,.int .i64 pd,.int .i64 pc,.int .i64 pv,.int .i64 pq,.int .i64 pa,.int .i64 pe,.int .i64 po,.int .i64 pt,.slice pu nu cu,.string px] 31)))
            | (go_at_call 44;(with_reducible refine (hF _ _ hrx).mono ?_);rintro e w2 ⟨rfl,hb⟩;have hb2:Below w.heap.size w w2:=below_of (by (repeat' (first | (with_reducible exact Below.refl _ _) | (with_reducible refine below_alloc ?_ _) | (with_reducible refine Below.drew ?_) | (with_reducible refine below_drewN ?_ _) | (with_reducible refine Below.setCell ?_ ?_ _) | (with_reducible assumption) | (with_reducible refine below_of ?_ (by assumption)) | omega | (simp only [World.size_alloc,World.size_setCell,World.size_drew,size_drewN] at *;omega) | (simp;omega)))) hb;replace hrx:=row_belowF hrx hb;have hz:=hb.size;(try simp only [World.size_alloc,World.size_setCell,World.size_drew,size_drewN] at hz);apply own_step (B:=w.heap.size) hb;(focus (repeat (first | (with_reducible assumption) | (with_reducible exact own_new _ _ _) | ((with_reducible apply own_new');focus (first | omega | (simp;done) | (simp;omega))) | (with_reducible apply own_drewN) | (with_reducible apply own_drew) | (with_reducible apply own_alloc) | (with_reducible apply own_setT) | ((with_reducible apply own_set_otherH);focus (first | (simp;done) | (simp;omega))))));intro hO0;have hk0:=hO0.2.1;have hl0:=hO0.1;have hf0:=hO0.2.2;(try simp only [List.setIfInBounds_toArray,List.set_cons_zero,List.set_cons_succ] at hO0 hk0);apply own_step (B:=w.heap.size+1) hb;(focus (repeat (first | (with_reducible assumption) | (with_reducible exact own_new _ _ _) | ((with_reducible apply own_new');focus (first | omega | (simp;done) | (simp;omega))) | (with_reducible apply own_drewN) | (with_reducible apply own_drew) | (with_reducible apply own_alloc) | (with_reducible apply own_setT) | ((with_reducible apply own_set_otherH);focus (first | (simp;done) | (simp;omega))))));intro hO1;have hk1:=hO1.2.1;have hl1:=hO1.1;have hf1:=hO1.2.2;(try simp only [List.setIfInBounds_toArray,List.set_cons_zero,List.set_cons_succ] at hO1 hk1);apply own_step (B:=w1.heap.size) hb;(focus (repeat (first | (with_reducible assumption) | (with_reducible exact own_new _ _ _) | ((with_reducible apply own_new');focus (first | omega | (simp;done) | (simp;omega))) | (with_reducible apply own_drewN) | (with_reducible apply own_drew) | (with_reducible apply own_alloc) | (with_reducible apply own_setT) | ((with_reducible apply own_set_otherH);focus (first | (simp;done) | (simp;omega))))));intro hO2;have hk2:=hO2.2.1;have hl2:=hO2.1;have hf2:=hO2.2.2;(try simp only [List.setIfInBounds_toArray,List.set_cons_zero,List.set_cons_succ] at hO2 hk2))
            | (go_at_call 35;(with_reducible refine (hKn _).mono ?_);rintro e w3 ⟨rfl,hb⟩;have hb3:Below w.heap.size w w3:=below_of (by (repeat' (first | (with_reducible exact Below.refl _ _) | (with_reducible refine below_alloc ?_ _) | (with_reducible refine Below.drew ?_) | (with_reducible refine below_drewN ?_ _) | (with_reducible refine Below.setCell ?_ ?_ _) | (with_reducible assumption) | (with_reducible refine below_of ?_ (by assumption)) | omega | (simp only [World.size_alloc,World.size_setCell,World.size_drew,size_drewN] at *;omega) | (simp;omega)))) hb;replace hrx:=row_belowF hrx hb;have hz:=hb.size;(try simp only [World.size_alloc,World.size_setCell,World.size_drew,size_drewN] at hz);apply own_step (B:=w.heap.size) hb;(focus (repeat (first | (with_reducible assumption) | (with_reducible exact own_new _ _ _) | ((with_reducible apply own_new');focus (first | omega | (simp;done) | (simp;omega))) | (with_reducible apply own_drewN) | (with_reducible apply own_drew) | (with_reducible apply own_alloc) | (with_reducible apply own_setT) | ((with_reducible apply own_set_otherH);focus (first | (simp;done) | (simp;omega))))));intro hO0;have hk0:=hO0.2.1;have hl0:=hO0.1;have hf0:=hO0.2.2;(try simp only [List.setIfInBounds_toArray,List.set_cons_zero,List.set_cons_succ] at hO0 hk0);apply own_step (B:=w.heap.size+1) hb;(focus (repeat (first | (with_reducible assumption) | (with_reducible exact own_new _ _ _) | ((with_reducible apply own_new');focus (first | omega | (simp;done) | (simp;omega))) | (with_reducible apply own_drewN) | (with_reducible apply own_drew) | (with_reducible apply own_alloc) | (with_reducible apply own_setT) | ((with_reducible apply own_set_otherH);focus (first | (simp;done) | (simp;omega))))));intro hO1;have hk1:=hO1.2.1;have hl1:=hO1.1;have hf1:=hO1.2.2;(try simp only [List.setIfInBounds_toArray,List.set_cons_zero,List.set_cons_succ] at hO1 hk1);apply own_step (B:=w1.heap.size) hb;(focus (repeat (first | (with_reducible assumption) | (with_reducible exact own_new _ _ _) | ((with_reducible apply own_new');focus (first | omega | (simp;done) | (simp;omega))) | (with_reducible apply own_drewN) | (with_reducible apply own_drew) | (with_reducible apply own_alloc) | (with_reducible apply own_setT) | ((with_reducible apply own_set_otherH);focus (first | (simp;done) | (simp;omega))))));intro hO2;have hk2:=hO2.2.1;have hl2:=hO2.1;have hf2:=hO2.2.2;(try simp only [List.setIfInBounds_toArray,List.set_cons_zero,List.set_cons_succ] at hO2 hk2))
            | (go_at_call 45;(with_reducible refine (hOp _).mono ?_);rintro e w4 ⟨rfl,hb⟩;have hb4:Below w.heap.size w w4:=below_of (by (repeat' (first | (with_reducible exact Below.refl _ _) | (with_reducible refine below_alloc ?_ _) | (with_reducible refine Below.drew ?_) | (with_reducible refine below_drewN ?_ _) | (with_reducible refine Below.setCell ?_ ?_ _) | (with_reducible assumption) | (with_reducible refine below_of ?_ (by assumption)) | omega | (simp only [World.size_alloc,World.size_setCell,World.size_drew,size_drewN] at *;omega) | (simp;omega)))) hb;replace hrx:=row_belowF hrx (hb.alloc hb.size (.cells #[.int .i64 na,.int .i64 nb,.int .i64 nc,.int .i64 nd,.string nx] 95));have hz:=hb.size;(try simp only [World.size_alloc,World.size_setCell,World.size_drew,size_drewN] at hz);apply own_step (B:=w.heap.size) hb;(focus (repeat (first | (with_reducible assumption) | (with_reducible exact own_new _ _ _) | ((with_reducible apply own_new');focus (first | omega | (simp;done) | (simp;omega))) | (with_reducible apply own_drewN) | (with_reducible apply own_drew) | (with_reducible apply own_alloc) | (with_reducible apply own_setT) | ((with_reducible apply own_set_otherH);focus (first | (simp;done) | (simp;omega))))));intro hO0;have hk0:=hO0.2.1;have hl0:=hO0.1;have hf0:=hO0.2.2;(try simp only [List.setIfInBounds_toArray,List.set_cons_zero,List.set_cons_succ] at hO0 hk0);apply own_step (B:=w.heap.size+1) hb;(focus (repeat (first | (with_reducible assumption) | (with_reducible exact own_new _ _ _) | ((with_reducible apply own_new');focus (first | omega | (simp;done) | (simp;omega))) | (with_reducible apply own_drewN) | (with_reducible apply own_drew) | (with_reducible apply own_alloc) | (with_reducible apply own_setT) | ((with_reducible apply own_set_otherH);focus (first | (simp;done) | (simp;omega))))));intro hO1;have hk1:=hO1.2.1;have hl1:=hO1.1;have hf1:=hO1.2.2;(try simp only [List.setIfInBounds_toArray,List.set_cons_zero,List.set_cons_succ] at hO1 hk1);apply own_step (B:=w1.heap.size) hb;(focus (repeat (first | (with_reducible assumption) | (with_reducible exact own_new _ _ _) | ((with_reducible apply own_new');focus (first | omega | (simp;done) | (simp;omega))) | (with_reducible apply own_drewN) | (with_reducible apply own_drew) | (with_reducible apply own_alloc) | (with_reducible apply own_setT) | ((with_reducible apply own_set_otherH);focus (first | (simp;done) | (simp;omega))))));intro hO2;have hk2:=hO2.2.1;have hl2:=hO2.1;have hf2:=hO2.2.2;(try simp only [List.setIfInBounds_toArray,List.set_cons_zero,List.set_cons_succ] at hO2 hk2)))
          go_ret
          exact ⟨rfl,by (repeat' (first | (with_reducible exact Below.refl _ _) | (with_reducible refine below_alloc ?_ _) | (with_reducible refine Below.drew ?_) | (with_reducible refine below_drewN ?_ _) | (with_reducible refine Below.setCell ?_ ?_ _) | (with_reducible assumption) | (with_reducible refine below_of ?_ (by assumption)) | omega | (simp only [World.size_alloc,World.size_setCell,World.size_drew,size_drewN] at *;omega) | (simp;omega)))⟩
  · obtain rfl:R=false:=by rw [← hR,decide_eq_false he];rfl
    have hget:∀ W,Calls Tryz.prog 40 #[.string s,.agg #[.int .i64 x,.int .i64 y]] W fun e w'=>e = .returned (.tuple #[.agg #[.int .i64 0,.bool false,.int .i64 0,.int .i64 0,.int .i64 0,.int .i64 0,.int .i64 0,.int .i64 0,.int .i64 0,.int .i64 0,.int .i64 0,.slice none 0 0,.string ⟨⟨[]⟩⟩],.int .i64 (errG s x y)])∧Below W.heap.size W w':=fun W=>(hget W).mono fun e w' ⟨hP,hb⟩=>by
      rcases hP with ⟨h0,-⟩ | ⟨-,h1⟩
      · exact absurd h0 he
      · exact ⟨h1,hb⟩
    have hF:=fun (W:World)=>opts_Find 0 (fun _=>⟨0,⟨⟨[]⟩⟩⟩) (Nat.zero_le _) 36 (.slice none 0 0) W (fun B=>⟨none,0,rfl,Nat.le_refl _,Nat.zero_le _,fun i j hi _=>absurd hi (Nat.not_lt_zero _)⟩)
    generalize errG s x y=E at *
    have hEb:((E:Int) == 0)=false:=by rw [beq_eq_false_iff_ne];exact he
    go_enter Tryz.func21,Tryz.ntmps21
    go_wp2_with (first
      | (go_at_call 40;(with_reducible refine (hget _).mono ?_);rintro e w1 ⟨rfl,hb⟩;have hb1:Below w.heap.size w w1:=below_of (by (repeat' (first | (with_reducible exact Below.refl _ _) | (with_reducible refine below_alloc ?_ _) | (with_reducible refine Below.drew ?_) | (with_reducible refine below_drewN ?_ _) | (with_reducible refine Below.setCell ?_ ?_ _) | (with_reducible assumption) | (with_reducible refine below_of ?_ (by assumption)) | omega | (simp only [World.size_alloc,World.size_setCell,World.size_drew,size_drewN] at *;omega) | (simp;omega)))) hb;have hz:=hb.size;(try simp only [World.size_alloc,World.size_setCell,World.size_drew,size_drewN] at hz);apply own_step (B:=w.heap.size) hb;(focus (repeat (first | (with_reducible assumption) | (with_reducible exact own_new _ _ _) | ((with_reducible apply own_new');focus (first | omega | (simp;done) | (simp;omega))) | (with_reducible apply own_drewN) | (with_reducible apply own_drew) | (with_reducible apply own_alloc) | (with_reducible apply own_setT) | ((with_reducible apply own_set_otherH);focus (first | (simp;done) | (simp;omega))))));intro hO0;have hk0:=hO0.2.1;have hl0:=hO0.1;have hf0:=hO0.2.2;(try simp only [List.setIfInBounds_toArray,List.set_cons_zero,List.set_cons_succ] at hO0 hk0);apply own_step (B:=w.heap.size+1) hb;(focus (repeat (first | (with_reducible assumption) | (with_reducible exact own_new _ _ _) | ((with_reducible apply own_new');focus (first | omega | (simp;done) | (simp;omega))) | (with_reducible apply own_drewN) | (with_reducible apply own_drew) | (with_reducible apply own_alloc) | (with_reducible apply own_setT) | ((with_reducible apply own_set_otherH);focus (first | (simp;done) | (simp;omega))))));intro hO1;have hk1:=hO1.2.1;have hl1:=hO1.1;have hf1:=hO1.2.2;(try simp only [List.setIfInBounds_toArray,List.set_cons_zero,List.set_cons_succ] at hO1 hk1))
      | (go_at_call 44;(with_reducible refine (hF _).mono ?_);rintro e w2 ⟨rfl,hb⟩;have hb2:Below w.heap.size w w2:=below_of (by (repeat' (first | (with_reducible exact Below.refl _ _) | (with_reducible refine below_alloc ?_ _) | (with_reducible refine Below.drew ?_) | (with_reducible refine below_drewN ?_ _) | (with_reducible refine Below.setCell ?_ ?_ _) | (with_reducible assumption) | (with_reducible refine below_of ?_ (by assumption)) | omega | (simp only [World.size_alloc,World.size_setCell,World.size_drew,size_drewN] at *;omega) | (simp;omega)))) hb;have hz:=hb.size;(try simp only [World.size_alloc,World.size_setCell,World.size_drew,size_drewN] at hz);apply own_step (B:=w.heap.size) hb;(focus (repeat (first | (with_reducible assumption) | (with_reducible exact own_new _ _ _) | ((with_reducible apply own_new');focus (first | omega | (simp;done) | (simp;omega))) | (with_reducible apply own_drewN) | (with_reducible apply own_drew) | (with_reducible apply own_alloc) | (with_reducible apply own_setT) | ((with_reducible apply own_set_otherH);focus (first | (simp;done) | (simp;omega))))));intro hO0;have hk0:=hO0.2.1;have hl0:=hO0.1;have hf0:=hO0.2.2;(try simp only [List.setIfInBounds_toArray,List.set_cons_zero,List.set_cons_succ] at hO0 hk0);apply own_step (B:=w.heap.size+1) hb;(focus (repeat (first | (with_reducible assumption) | (with_reducible exact own_new _ _ _) | ((with_reducible apply own_new');focus (first | omega | (simp;done) | (simp;omega))) | (with_reducible apply own_drewN) | (with_reducible apply own_drew) | (with_reducible apply own_alloc) | (with_reducible apply own_setT) | ((with_reducible apply own_set_otherH);focus (first | (simp;done) | (simp;omega))))));intro hO1;have hk1:=hO1.2.1;have hl1:=hO1.1;have hf1:=hO1.2.2;(try simp only [List.setIfInBounds_toArray,List.set_cons_zero,List.set_cons_succ] at hO1 hk1))
      | (go_at_call 35;(with_reducible refine (hKn _).mono ?_);rintro e w3 ⟨rfl,hb⟩;have hb3:Below w.heap.size w w3:=below_of (by (repeat' (first | (with_reducible exact Below.refl _ _) | (with_reducible refine below_alloc ?_ _) | (with_reducible refine Below.drew ?_) | (with_reducible refine below_drewN ?_ _) | (with_reducible refine Below.setCell ?_ ?_ _) | (with_reducible assumption) | (with_reducible refine below_of ?_ (by assumption)) | omega | (simp only [World.size_alloc,World.size_setCell,World.size_drew,size_drewN] at *;omega) | (simp;omega)))) hb))
    go_ret
    exact ⟨rfl,by (repeat' (first | (with_reducible exact Below.refl _ _) | (with_reducible refine below_alloc ?_ _) | (with_reducible refine Below.drew ?_) | (with_reducible refine below_drewN ?_ _) | (with_reducible refine Below.setCell ?_ ?_ _) | (with_reducible assumption) | (with_reducible refine below_of ?_ (by assumption)) | omega | (simp only [World.size_alloc,World.size_setCell,World.size_drew,size_drewN] at *;omega) | (simp;omega)))⟩
theorem row_open {W:World} {pu:Option Addr} {nu cu:Nat} {G:List Op} (h:∀ B,BlkSat B W (.slice pu nu cu) (.row G.length 2 fun i j=>(opN G i).c j)) :
    ∃ z1 z2:Nat,z1=z2∧nu=G.length∧nu≤maxLen∧∀ (V:World),Below W.heap.size W V→∀ j,j < G.length→∃ bb o,pu=some ⟨bb,o,none⟩∧V.cell? ⟨bb,o+j * 2,none⟩=some (.int .i64 (opN G j).kind)∧V.cell? ⟨bb,o+j * 2+1,none⟩=some (.string (opN G j).val):=by
  obtain ⟨p,cap,hp,h1,h2,-⟩:=optsAt_row h
  cases hp
  refine ⟨0,0,rfl,rfl,by omega,fun V hV j hj=>?_⟩
  obtain ⟨p,cap,hp,-,-,h4⟩:=(optsAt_row h).below hV
  cases hp
  exact h4 j hj
theorem note_new {wr w4:World} (hb:Below wr.heap.size wr w4) (cs:Array Value) (t:TypeId):Own (w4.alloc (.cells cs t)) w4.heap.size cs∧Below wr.heap.size wr (w4.alloc (.cells cs t)):=⟨own_new _ _ _,hb.alloc hb.size _⟩
theorem note_set {wr w4:World} {B:Nat} (hN:Own w4 B #[.int .i64 0,.int .i64 0,.int .i64 0,.int .i64 0,.string ⟨#[]⟩]) (hb:Below wr.heap.size wr w4) (hB:wr.heap.size≤B) (a b c d:Int) (x:ByteArray) :
    Own (((((w4.setCell ⟨B,0,none⟩ (.int .i64 a)).setCell ⟨B,1,none⟩ (.int .i64 b)).setCell ⟨B,2,none⟩ (.int .i64 c)).setCell ⟨B,3,none⟩ (.int .i64 d)).setCell ⟨B,4,none⟩ (.string x)) B #[.int .i64 a,.int .i64 b,.int .i64 c,.int .i64 d,.string x]∧Below wr.heap.size wr (((((w4.setCell ⟨B,0,none⟩ (.int .i64 a)).setCell ⟨B,1,none⟩ (.int .i64 b)).setCell ⟨B,2,none⟩ (.int .i64 c)).setCell ⟨B,3,none⟩ (.int .i64 d)).setCell ⟨B,4,none⟩ (.string x)) :=
  ⟨own_conv (own_set (own_set (own_set (own_set (own_set hN 0 (by simp) _) 1 (by simp) _) 2 (by simp) _) 3 (by simp) _) 4 (by simp) _) (by simp),((((hb.setCell hB _).setCell hB _).setCell hB _).setCell hB _).setCell hB _⟩
theorem find_noB {n:Nat} {g:Nat→Op} {kd:Int} (h:∀ i,i < n→(g i).kind ≠ kd):findOB n g kd=false:=by
  have:=find_no h kd rfl
  simp only [Ending.returned.injEq,Value.tuple.injEq,Array.mk.injEq,List.cons.injEq,Value.bool.injEq] at this
  exact this.2.1
theorem find_yesB {n:Nat} {g:Nat→Op} {kd:Int} {k:Nat} (h:∀ i,i < k→(g i).kind ≠ kd) (hk:(g k).kind=kd) (hlt:k < n):findOB n g kd=true∧findOV n g kd=(g k).val:=by
  have:=find_yes h hk hlt
  simp only [Ending.returned.injEq,Value.tuple.injEq,Array.mk.injEq,List.cons.injEq,Value.bool.injEq,Value.string.injEq] at this
  exact ⟨this.2.1,this.1⟩
set_option maxRecDepth 100000 in
set_option maxHeartbeats 4000000 in
theorem rjoins_any {w : World} (a b k:ByteArray) (us x y:Int) (s:ByteArray) (hs:a.size≤1000∧b.size≤1000∧s.size≤1000∧k.size≤1000) :
    Calls Tryz.prog 22 #[.string a,.string b,.string k,.agg #[.int .i64 us,.int .i64 x,.int .i64 y,.string s]] w fun e w'=>e = .returned (.bool (joinsG (!decide (a=nilB)) (tagR a b) k s x y))∧Below w.heap.size w w':=by
  have hget:=fun W=>get_world fRGet_ok (x:=x) (y:=y) (show s.size≤4000 by omega) W
  obtain ⟨R,hR⟩:∃ R,joinsG (!decide (a=nilB)) (tagR a b) k s x y=R:=⟨_,rfl⟩
  rw [hR]
  unfold joinsG at hR
  by_cases he:errG s x y=0
  · rw [he] at hR
    have hget:∀ W,Calls Tryz.prog 41 #[.string s,.agg #[.int .i64 x,.int .i64 y]] W fun e w'=>(∃ p n c,e = .returned (.tuple #[(pkG s).v (.slice p n c),.int .i64 0])∧∀ B,BlkSat B w' (.slice p n c) (.row (gotL s).length 2 fun i j=>(opN (gotL s) i).c j))∧Below W.heap.size W w':=fun W=>(hget W).mono fun e w' ⟨hP,hb⟩=>by
      rcases hP with ⟨-,u,h1,h2⟩ | ⟨h1,-⟩
      · obtain ⟨p,cap,hu,-⟩:=h2 []
        subst hu
        exact ⟨⟨p,_,cap,h1,h2⟩,hb⟩
      · exact absurd he h1
    have hf:=few_got s hs.2.2.1
    have hn:(gotL s).length≤maxLen:=Nat.le_trans hf.1 (by unfold maxLen;omega)
    have hn1:(gotL s).length≤1000:=hf.1
    have hOp:=fun W=>ref16_Open k x y (ckS s) (by omega) (ck_le s hs.2.2.1) W
    have hRd:=fun W=>ref29_read (ckN k s x y).x (ckx_le k s x y hs.2.2.1) W
    have hM:=fun (W:World) (o:Value) (hr:∀ B,BlkSat B W o (.row (gotL s).length 2 fun i j=>(opN (gotL s) i).c j))=>first_any (w:=W) (v:=o) 5 5 hf (optsAt_row hr)
    have hJ:=fun W=>ref26_join 0 x y (readA (ckN k s x y).x) (readB (ckN k s x y).x) W
    have hT:=fun W=>ref26_tag a b (joinText 0 x y (readA (ckN k s x y).x) (readB (ckN k s x y).x)) ⟨hs.1,hs.2.1,by rw [joinText_size];decide⟩ W
    have eF:findOV (gotL s).length (opN (gotL s)) 36=ckS s:=rfl
    have eD:(fstM (opN (gotL s)) (gotL s).length 5 5).getD Mp.none=fstD (opN (gotL s)) (gotL s).length 5 5:=rfl
    have eB:(fstM (opN (gotL s)) (gotL s).length 5 5).isSome=fstB (opN (gotL s)) (gotL s).length 5 5:=rfl
    have hyes:∀ i,i < (gotL s).length→(∀ j,j < i→(opN (gotL s) j).kind ≠ 36)→(opN (gotL s) i).kind=36→findOB (gotL s).length (opN (gotL s)) 36=true∧ckS s=(opN (gotL s) i).val:=fun i hi hj hk=>find_yesB hj hk hi
    have hno:(∀ j,j < (gotL s).length→(opN (gotL s) j).kind ≠ 36)→findOB (gotL s).length (opN (gotL s)) 36=false:=fun hj=>find_noB hj
    rw [eD,eB] at hM
    unfold openV at hOp
    have eN:openN k x y (ckS s)=ckN k s x y:=rfl
    rw [eN] at hOp
    unfold readV at hRd
    generalize findOB (gotL s).length (opN (gotL s)) 36=FB at *
    generalize fstB (opN (gotL s)) (gotL s).length 5 5=MB at *
    generalize fstD (opN (gotL s)) (gotL s).length 5 5=M at *
    generalize openE k x y (ckS s)=OE at *
    generalize readE (ckN k s x y).x=RE at *
    generalize readW (ckN k s x y).x=RW at *
    generalize readK (ckN k s x y).x=RK at *
    generalize readA (ckN k s x y).x=RA at *
    generalize readB (ckN k s x y).x=RB at *
    generalize ckN k s x y=NT at *
    generalize ckS s=FV at *
    generalize joinText 0 x y RA RB=JT at *
    generalize tagR a b JT=TG at *
    clear hf eF eD eB eN
    generalize gotL s=G at *
    generalize pkG s=p at *
    unfold Pk.v at hget
    unfold Nt.v at hOp
    obtain ⟨na,nb,nc,nd,nx⟩:=NT
    obtain ⟨m0,m1,m2,m3,m4,m5,m6⟩:=M
    obtain ⟨pk,pl,ps,pd,pc,pv,pq,pa,pe,po,pt,px⟩:=p
    dsimp only at hget hOp hRd hM hR
    have e0:decide ((0:Int)=0)=true:=rfl
    rw [e0,Bool.true_and] at hR
    by_cases ha:a=nilB
    · subst ha
      obtain rfl:R=false:=by rw [← hR,show decide (nilB=nilB)=true from by simp];cases FB <;> rfl
      clear hOp hRd hM hT hyes hno hJ
      have hnb:nilB=⟨#[]⟩:=rfl
      rw [hnb]
      go_enter Tryz.func22,Tryz.ntmps22
      go_wp2_with (first
        | (go_at_call 41;(with_reducible refine (hget _).mono ?_);rintro e w1 ⟨⟨pu,nu,cu,rfl,hrow⟩,hb⟩;have hb1:Below w.heap.size w w1:=below_of (by (repeat' (first | (with_reducible exact Below.refl _ _) | (with_reducible refine below_alloc ?_ _) | (with_reducible refine Below.drew ?_) | (with_reducible refine below_drewN ?_ _) | (with_reducible refine Below.setCell ?_ ?_ _) | (with_reducible assumption) | (with_reducible refine below_of ?_ (by assumption)) | omega | (simp only [World.size_alloc,World.size_setCell,World.size_drew,size_drewN] at *;omega) | (simp;omega)))) hb))
      go_ret
      exact ⟨rfl,by (repeat' (first | (with_reducible exact Below.refl _ _) | (with_reducible refine below_alloc ?_ _) | (with_reducible refine Below.drew ?_) | (with_reducible refine below_drewN ?_ _) | (with_reducible refine Below.setCell ?_ ?_ _) | (with_reducible assumption) | (with_reducible refine below_of ?_ (by assumption)) | omega | (simp only [World.size_alloc,World.size_setCell,World.size_drew,size_drewN] at *;omega) | (simp;omega)))⟩
    · rw [decide_eq_false ha] at hR
      have hab3:a.toList.isEmpty=false:=by
        rw [ByteArray.toList_eq]
        obtain ⟨⟨l⟩⟩:=a
        cases l with
        | nil=>exact absurd rfl ha
        | cons _ _=>rfl
      go_enter Tryz.func22,Tryz.ntmps22
      go_upto_region 4 with (first
        | (go_at_call 41;(with_reducible refine (hget _).mono ?_);rintro e w1 ⟨⟨pu,nu,cu,rfl,hrow⟩,hb⟩;have hb1:Below w.heap.size w w1:=below_of (by (repeat' (first | (with_reducible exact Below.refl _ _) | (with_reducible refine below_alloc ?_ _) | (with_reducible refine Below.drew ?_) | (with_reducible refine below_drewN ?_ _) | (with_reducible refine Below.setCell ?_ ?_ _) | (with_reducible assumption) | (with_reducible refine below_of ?_ (by assumption)) | omega | (simp only [World.size_alloc,World.size_setCell,World.size_drew,size_drewN] at *;omega) | (simp;omega)))) hb;have hz:=hb.size;(try simp only [World.size_alloc,World.size_setCell,World.size_drew,size_drewN] at hz);apply own_step (B:=w.heap.size) hb;(focus (repeat (first | (with_reducible assumption) | (with_reducible exact own_new _ _ _) | ((with_reducible apply own_new');focus (first | omega | (simp;done) | (simp;omega))) | (with_reducible apply own_drewN) | (with_reducible apply own_drew) | (with_reducible apply own_alloc) | (with_reducible apply own_setT) | ((with_reducible apply own_set_otherH);focus (first | (simp;done) | (simp;omega))))));intro hO0;have hk0:=hO0.2.1;have hl0:=hO0.1;have hf0:=hO0.2.2;(try simp only [List.setIfInBounds_toArray,List.set_cons_zero,List.set_cons_succ] at hO0 hk0)))
      have hx:=own_new w1 #[.int .i64 pk,.bool pl,.int .i64 ps,.int .i64 pd,.int .i64 pc,.int .i64 pv,.int .i64 pq,.int .i64 pa,.int .i64 pe,.int .i64 po,.int .i64 pt,.slice pu nu cu,.string px] 31
      have hu:=own_alloc hO0 (.cells #[.int .i64 pk,.bool pl,.int .i64 ps,.int .i64 pd,.int .i64 pc,.int .i64 pv,.int .i64 pq,.int .i64 pa,.int .i64 pe,.int .i64 po,.int .i64 pt,.slice pu nu cu,.string px] 31)
      have hbW:=below_alloc hb1 (.cells #[.int .i64 pk,.bool pl,.int .i64 ps,.int .i64 pd,.int .i64 pc,.int .i64 pv,.int .i64 pq,.int .i64 pa,.int .i64 pe,.int .i64 po,.int .i64 pt,.slice pu nu cu,.string px] 31)
      have hrx:=row_belowF hrow ((Below.refl _ w1).alloc (Nat.le_refl _) (.cells #[.int .i64 pk,.bool pl,.int .i64 ps,.int .i64 pd,.int .i64 pc,.int .i64 pv,.int .i64 pq,.int .i64 pa,.int .i64 pe,.int .i64 po,.int .i64 pt,.slice pu nu cu,.string px] 31))
      clear hO0 hk0 hl0 hf0 hz hb hb1 hrow hget
      generalize World.alloc w1 (.cells #[.int .i64 pk,.bool pl,.int .i64 ps,.int .i64 pd,.int .i64 pc,.int .i64 pv,.int .i64 pq,.int .i64 pa,.int .i64 pe,.int .i64 po,.int .i64 pt,.slice pu nu cu,.string px] 31)=W at hx hu hbW hrx ⊢
      obtain ⟨-,-,-,hnu,hncap,hcell⟩:∃ z1 z2:Nat,z1=z2∧nu=G.length∧nu≤maxLen∧∀ (V:World),Below W.heap.size W V→∀ j,j < G.length→∃ bb o,pu=some ⟨bb,o,none⟩∧V.cell? ⟨bb,o+j * 2,none⟩=some (.int .i64 (opN G j).kind)∧V.cell? ⟨bb,o+j * 2+1,none⟩=some (.string (opN G j).val):=row_open hrx
      subst hnu
      have hS:∀ V:World,Below W.heap.size W V→V.cell? ⟨w.heap.size,1,none⟩=some (.int .i64 x)∧V.cell? ⟨w.heap.size,2,none⟩=some (.int .i64 y)∧V.cell? ⟨w1.heap.size,11,none⟩=some (.slice pu G.length cu):=fun V hV=>⟨(own_below hu hV).2.1 1,(own_below hu hV).2.1 2,(own_below hx hV).2.1 11⟩
      clear hu hx hab3 ha
      go_wp2
      go_loopw [11] (fun u11 wr=>∃ i:Nat,u11 = .int .i64 i∧i≤G.length∧Below W.heap.size W wr∧∀ j,j < i→(opN G j).kind ≠ 36)
        (fun u11 _=>G.length - natM u11)
      case atStart=>exact ⟨0,rfl,Nat.zero_le _,by (repeat' (first | (with_reducible exact Below.refl _ _) | (with_reducible refine below_alloc ?_ _) | (with_reducible refine Below.drew ?_) | (with_reducible refine below_drewN ?_ _) | (with_reducible refine Below.setCell ?_ ?_ _) | (with_reducible assumption) | (with_reducible refine below_of ?_ (by assumption)) | omega | (simp only [World.size_alloc,World.size_setCell,World.size_drew,size_drewN] at *;omega) | (simp;omega))),fun j hj=>absurd hj (Nat.not_lt_zero _)⟩
      case round =>
        obtain ⟨i,rfl,hile,hbw,hpre⟩:=hrel
        obtain ⟨u1,u2,x11⟩:=hS _ hbw
        by_cases hlt:i < G.length
        · have hltz : (i:Int) < (G.length:Int):=by omega
          obtain ⟨bb,o,rfl,c0,c1⟩:=hcell _ hbw i hlt
          by_cases hk:(opN G i).kind=36
          · obtain ⟨rfl,rfl⟩:=hyes i hlt hpre hk
            rw [Bool.true_and,show (!false)=true from rfl,Bool.true_and] at hR
            rw [hk] at c0
            clear hyes hno hpre
            have hrr:=row_belowF hrx hbw
            have hSS:∀ V:World,Below wr.heap.size wr V→V.cell? ⟨w.heap.size,1,none⟩=some (.int .i64 x)∧V.cell? ⟨w.heap.size,2,none⟩=some (.int .i64 y)∧V.cell? ⟨w1.heap.size,11,none⟩=some (.slice (some ⟨bb,o,none⟩) G.length cu)∧V.cell? ⟨bb,o+i * 2+1,none⟩=some (.string (opN G i).val):=fun V hV=>by
              have h2:=hbw.trans (hV.mono hbw.size)
              obtain ⟨z1,z2,z3⟩:=hS V h2
              obtain ⟨b',o',e,-,z5⟩:=hcell V h2 i hlt
              cases e
              exact ⟨z1,z2,z3,z5⟩
            generalize (opN G i).val=FV at *
            have hws:=hbw.size
            go_upto_region 8 with fail
            go_cut [12,13] from 46 to 58 (fun s12 s13 wx=>∃ B,s12 = .pointer (some ⟨B,0,none⟩)∧s13 = .int .i64 OE∧Own wx B #[.int .i64 na,.int .i64 nb,.int .i64 nc,.int .i64 nd,.string nx]∧Below wr.heap.size wr wx)
            case first =>
              obtain ⟨s1,s2,s3,s4⟩:=hSS wr (Below.refl _ _)
              obtain ⟨t1,t2,t3,t4⟩:=hSS (wr.drew.alloc (.cells #[.int .i64 0,.int .i64 0,.int .i64 0,.int .i64 0,.string ⟨#[]⟩] 103)) (by (repeat' (first | (with_reducible exact Below.refl _ _) | (with_reducible refine below_alloc ?_ _) | (with_reducible refine Below.drew ?_) | (with_reducible refine below_drewN ?_ _) | (with_reducible refine Below.setCell ?_ ?_ _) | (with_reducible assumption) | (with_reducible refine below_of ?_ (by assumption)) | omega | (simp only [World.size_alloc,World.size_setCell,World.size_drew,size_drewN] at *;omega) | (simp;omega))))
              have l1:=lt_of_cell s1
              have l3:=lt_of_cell s3
              have l4:=lt_of_cell s4
              clear hcell hS hrr hrx hM hT hJ hRd hSS hile hs
              go_region_with (first | (go_at_call 48;(with_reducible refine (hOp _).mono ?_);rintro e w4 ⟨rfl,hb⟩;have hb4:Below wr.heap.size wr w4:=below_of (by (repeat' (first | (with_reducible exact Below.refl _ _) | (with_reducible refine below_alloc ?_ _) | (with_reducible refine Below.drew ?_) | (with_reducible refine below_drewN ?_ _) | (with_reducible refine Below.setCell ?_ ?_ _) | (with_reducible assumption) | (with_reducible refine below_of ?_ (by assumption)) | omega | (simp only [World.size_alloc,World.size_setCell,World.size_drew,size_drewN] at *;omega) | (simp;omega)))) hb;first | (have hN:Own w4 wr.heap.size #[.int .i64 0,.int .i64 0,.int .i64 0,.int .i64 0,.string ⟨#[]⟩]:=own_below (own_new wr.drew #[.int .i64 0,.int .i64 0,.int .i64 0,.int .i64 0,.string ⟨#[]⟩] 103) hb;have hN0:=hN.2.1 0;have hN1:=hN.2.1 1;have hN2:=hN.2.1 2;have hN3:=hN.2.1 3;have hN4:=hN.2.1 4;have hNf:=hN.2.2) | skip))
              all_goals (go_wp2_with fail;go_meet;refine ⟨_,rfl,rfl,?_⟩;first | (with_reducible exact note_set hN hb4 (Nat.le_refl _) _ _ _ _ _) | (with_reducible exact note_new hb4 _ _))
            obtain ⟨B,rfl,rfl,hN,hbx⟩:=hcut
            have hk0:=hN.2.1
            by_cases hOE:OE=0
            · subst hOE
              rw [show decide ((0:Int)=0)=true from rfl,Bool.true_and] at hR
              go_upto_region 13 with (first
                | (go_at_call 49;(with_reducible refine (hRd _).mono ?_);rintro e w5 ⟨rfl,hb⟩;have hb5:Below wr.heap.size wr w5:=below_of (by (repeat' (first | (with_reducible exact Below.refl _ _) | (with_reducible refine below_alloc ?_ _) | (with_reducible refine Below.drew ?_) | (with_reducible refine below_drewN ?_ _) | (with_reducible refine Below.setCell ?_ ?_ _) | (with_reducible assumption) | (with_reducible refine below_of ?_ (by assumption)) | omega | (simp only [World.size_alloc,World.size_setCell,World.size_drew,size_drewN] at *;omega) | (simp;omega)))) hb;obtain ⟨-,-,p3,-⟩:=hSS (w5.alloc (.cells #[.int .i64 RW,.string RK,.int .i64 0,.int .i64 RA,.int .i64 RB] 106)) (by (repeat' (first | (with_reducible exact Below.refl _ _) | (with_reducible refine below_alloc ?_ _) | (with_reducible refine Below.drew ?_) | (with_reducible refine below_drewN ?_ _) | (with_reducible refine Below.setCell ?_ ?_ _) | (with_reducible assumption) | (with_reducible refine below_of ?_ (by assumption)) | omega | (simp only [World.size_alloc,World.size_setCell,World.size_drew,size_drewN] at *;omega) | (simp;omega))));have hr5:=row_belowF hrr (show Below wr.heap.size wr (w5.alloc (.cells #[.int .i64 RW,.string RK,.int .i64 0,.int .i64 RA,.int .i64 RB] 106)) by (repeat' (first | (with_reducible exact Below.refl _ _) | (with_reducible refine below_alloc ?_ _) | (with_reducible refine Below.drew ?_) | (with_reducible refine below_drewN ?_ _) | (with_reducible refine Below.setCell ?_ ?_ _) | (with_reducible assumption) | (with_reducible refine below_of ?_ (by assumption)) | omega | (simp only [World.size_alloc,World.size_setCell,World.size_drew,size_drewN] at *;omega) | (simp;omega)))))
                | (go_at_call 29;(with_reducible refine (hM _ _ hr5).mono ?_);rintro e w6 ⟨rfl,hb⟩;have hb6:Below wr.heap.size wr w6:=below_of (by (repeat' (first | (with_reducible exact Below.refl _ _) | (with_reducible refine below_alloc ?_ _) | (with_reducible refine Below.drew ?_) | (with_reducible refine below_drewN ?_ _) | (with_reducible refine Below.setCell ?_ ?_ _) | (with_reducible assumption) | (with_reducible refine below_of ?_ (by assumption)) | omega | (simp only [World.size_alloc,World.size_setCell,World.size_drew,size_drewN] at *;omega) | (simp;omega)))) hb;have hz:=hb.size;(try simp only [World.size_alloc,World.size_setCell,World.size_drew,size_drewN] at hz);apply own_step (B:=w5.heap.size) hb;(focus (repeat (first | (with_reducible assumption) | (with_reducible exact own_new _ _ _) | ((with_reducible apply own_new');focus (first | omega | (simp;done) | (simp;omega))) | (with_reducible apply own_drewN) | (with_reducible apply own_drew) | (with_reducible apply own_alloc) | (with_reducible apply own_setT) | ((with_reducible apply own_set_otherH);focus (first | (simp;done) | (simp;omega))))));intro hO0;have hk0:=hO0.2.1;have hl0:=hO0.1;have hf0:=hO0.2.2;(try simp only [List.setIfInBounds_toArray,List.set_cons_zero,List.set_cons_succ] at hO0 hk0)))
              have hOm:=own_new w6 #[.int .i64 m0,.int .i64 m1,.int .i64 m2,.int .i64 m3,.int .i64 m4,.int .i64 m5,.string m6] 65
              have hOo:=own_alloc hO0 (.cells #[.int .i64 m0,.int .i64 m1,.int .i64 m2,.int .i64 m3,.int .i64 m4,.int .i64 m5,.string m6] 65)
              have hbV:Below wr.heap.size wr (w6.alloc (.cells #[.int .i64 m0,.int .i64 m1,.int .i64 m2,.int .i64 m3,.int .i64 m4,.int .i64 m5,.string m6] 65)):=by (repeat' (first | (with_reducible exact Below.refl _ _) | (with_reducible refine below_alloc ?_ _) | (with_reducible refine Below.drew ?_) | (with_reducible refine below_drewN ?_ _) | (with_reducible refine Below.setCell ?_ ?_ _) | (with_reducible assumption) | (with_reducible refine below_of ?_ (by assumption)) | omega | (simp only [World.size_alloc,World.size_setCell,World.size_drew,size_drewN] at *;omega) | (simp;omega)))
              obtain ⟨u1,u2,-,-⟩:=hSS _ hbV
              generalize World.alloc w6 (.cells #[.int .i64 m0,.int .i64 m1,.int .i64 m2,.int .i64 m3,.int .i64 m4,.int .i64 m5,.string m6] 65)=V at hOm hOo hbV u1 u2 ⊢
              replace u1:=cell_byF u1
              replace u2:=cell_byF u2
              have o0:∀ q:BelowF V,_:=cell_byF (hOo.2.1 0)
              have o3:∀ q:BelowF V,_:=cell_byF (hOo.2.1 3)
              have o4:∀ q:BelowF V,_:=cell_byF (hOo.2.1 4)
              have x6:∀ q:BelowF V,_:=cell_byF (hOm.2.1 6)
              have o0':∀ q,(V.drewN q).cell? ⟨w5.heap.size,0,none⟩=some (.int .i64 RW):=fun q=>hOo.2.1 0
              have hTq:∀ q:BelowF V,_:=fun q=>hT q.w
              have hJq:∀ q:BelowF V,_:=fun q=>hJ q.w
              clear hOp hRd hM hT hJ hb5 hb6 hb hOm hOo hO0 hk0 hl0 hf0 hz hcell hS hSS hrr hrx hr5 p3
              by_cases hRE:RE=0
              · subst hRE
                rw [show decide ((0:Int)=0)=true from rfl,Bool.true_and] at hR
                by_cases hRW:RW=2
                · subst hRW
                  rw [show decide ((2:Int)=2)=true from rfl,Bool.true_and] at hR
                  cases MB with
                  | true =>
                    rw [Bool.true_and] at hR
                    clear o0'
                    go_wp2
                    refine wp_region_belowF (by kernel_rfl) (by kernel_rfl) ?_
                    (repeat (quiet_step (first
                      | (go_at_call 50;with_reducible exact below_leftF (hJq _))
                      | (go_at_call 30;with_reducible exact below_leftF (hTq _)))))
                    refine wpQuiet_nil ?_
                    intro _ hw'
                    obtain ⟨⟨wq,hbq⟩,hw''⟩:=hw'
                    subst hw''
                    go_wp2
                    go_ret
                    exact ⟨by rw [← hR];exact ret_b (by rw [Bool.eq_iff_iff,← beq_toListBytes,Go.MapKept.bytes_beq,decide_eq_true_iff]),hbW.trans ((hbw.trans ((hbV.trans (hbq.mono hbV.size)).mono hws)).mono hbW.size)⟩
                  | false =>
                    obtain rfl:R=false:=by rw [← hR];rfl
                    clear u1 u2 o0 o3 o4 x6 hTq hJq
                    go_wp2
                    go_quiet (fail)
                    go_wp2
                    go_ret
                    exact ⟨rfl,hbW.trans ((hbw.trans ((below_drewN hbV _).mono hws)).mono hbW.size)⟩
                · have hWb:((RW:Int) == 2)=false:=by rw [beq_eq_false_iff_ne];exact hRW
                  have hWd:decide (RW=2)=false:=decide_eq_false hRW
                  obtain rfl:R=false:=by rw [← hR,hWd];rfl
                  clear u1 u2 o0 o3 o4 x6 hTq hJq hRW hR
                  go_wp2
                  go_quiet (fail)
                  go_wp2
                  go_ret
                  exact ⟨rfl,hbW.trans ((hbw.trans ((below_drewN hbV _).mono hws)).mono hbW.size)⟩
              · have hEb:((RE:Int) == 0)=false:=by rw [beq_eq_false_iff_ne];exact hRE
                have hEd:decide (RE=0)=false:=decide_eq_false hRE
                obtain rfl:R=false:=by rw [← hR,hEd];rfl
                clear u1 u2 o0 o0' o3 o4 x6 hTq hJq hRE hR
                go_wp2
                go_quiet (fail)
                go_wp2
                go_ret
                exact ⟨rfl,hbW.trans ((hbw.trans ((below_drewN hbV _).mono hws)).mono hbW.size)⟩
            · have hOb:((OE:Int) == 0)=false:=by rw [beq_eq_false_iff_ne];exact hOE
              obtain rfl:R=false:=by rw [← hR,decide_eq_false hOE];rfl
              clear hRd hM hT hJ hcell hS hSS hrr hrx hOp
              go_wp2
              go_ret
              exact ⟨rfl,hbW.trans ((hbw.trans (hbx.mono hws)).mono hbW.size)⟩
          · have hkb:((opN G i).kind == 36)=false:=by rw [beq_eq_false_iff_ne];exact hk
            have hnx:∀ j,j < i+1→(opN G j).kind ≠ 36:=fun j hj=>by
              by_cases e:j=i
              · subst e;exact hk
              · exact hpre j (by omega)
            clear hyes hno hpre hOp hRd hM hT hJ hS
            generalize (opN G i).val=fv at *
            generalize (opN G i).kind=fk at *
            go_wp2
            go_roundw
            case rel=>exact ⟨i+1,by first | rfl | go_num,hlt,by (repeat' (first | (with_reducible exact Below.refl _ _) | (with_reducible refine below_alloc ?_ _) | (with_reducible refine Below.drew ?_) | (with_reducible refine below_drewN ?_ _) | (with_reducible refine Below.setCell ?_ ?_ _) | (with_reducible assumption) | (with_reducible refine below_of ?_ (by assumption)) | omega | (simp only [World.size_alloc,World.size_setCell,World.size_drew,size_drewN] at *;omega) | (simp;omega))),hnx⟩
            case measure=>(try go_num);simp [natM];omega
        · obtain rfl:i=G.length:=by omega
          have hltz:¬ (G.length:Int) < (G.length:Int):=by omega
          obtain rfl:=hno hpre
          obtain rfl:R=false:=by rw [← hR];rfl
          clear hyes hno hpre hOp hRd hM hT hJ hS
          go_wp2
          go_ret
          exact ⟨rfl,hbW.trans (hbw.mono hbW.size)⟩
  · obtain rfl:R=false:=by rw [← hR,decide_eq_false he];rfl
    have hget:∀ W,Calls Tryz.prog 41 #[.string s,.agg #[.int .i64 x,.int .i64 y]] W fun e w'=>e = .returned (.tuple #[.agg #[.int .i64 0,.bool false,.int .i64 0,.int .i64 0,.int .i64 0,.int .i64 0,.int .i64 0,.int .i64 0,.int .i64 0,.int .i64 0,.int .i64 0,.slice none 0 0,.string ⟨⟨[]⟩⟩],.int .i64 (errG s x y)])∧Below W.heap.size W w':=fun W=>(hget W).mono fun e w' ⟨hP,hb⟩=>by
      rcases hP with ⟨h0,-⟩ | ⟨-,h1⟩
      · exact absurd h0 he
      · exact ⟨h1,hb⟩
    generalize errG s x y=E at *
    have hEb:((E:Int) == 0)=false:=by rw [beq_eq_false_iff_ne];exact he
    go_enter Tryz.func22,Tryz.ntmps22
    go_wp2_with (first
      | (go_at_call 41;(with_reducible refine (hget _).mono ?_);rintro e w1 ⟨rfl,hb⟩;have hb1:Below w.heap.size w w1:=below_of (by (repeat' (first | (with_reducible exact Below.refl _ _) | (with_reducible refine below_alloc ?_ _) | (with_reducible refine Below.drew ?_) | (with_reducible refine below_drewN ?_ _) | (with_reducible refine Below.setCell ?_ ?_ _) | (with_reducible assumption) | (with_reducible refine below_of ?_ (by assumption)) | omega | (simp only [World.size_alloc,World.size_setCell,World.size_drew,size_drewN] at *;omega) | (simp;omega)))) hb))
    go_ret
    exact ⟨rfl,by (repeat' (first | (with_reducible exact Below.refl _ _) | (with_reducible refine below_alloc ?_ _) | (with_reducible refine Below.drew ?_) | (with_reducible refine below_drewN ?_ _) | (with_reducible refine Below.setCell ?_ ?_ _) | (with_reducible assumption) | (with_reducible refine below_of ?_ (by assumption)) | omega | (simp only [World.size_alloc,World.size_setCell,World.size_drew,size_drewN] at *;omega) | (simp;omega)))⟩
end Go.Proofs.YthacfgaacleaeaaGreatDoor
namespace Go.Proofs.YthacfgaacleaeaaGreatDoor
open Go.ChangeShapes Go.WideShapes Go.ChangeAt Go.RowKit Sym Go.ChangeMaps
def unF (f:Nat→Nat→Value) (i:Nat):Un:=⟨intV (f i 0),intV (f i 1),intV (f i 2),strV (f i 3)⟩
set_option maxRecDepth 100000 in
theorem open_unders {H:Type} {enc:TypeId×Value→H} {W:World} {base b0:Nat} {r:Reach} {v:Value} {d:DataW H} {p:List MemPlace} {sp:Nat→Bool} (hv:Value.okWide Tryz.prog W r b0 38 v) (h:DataW.Trod enc Tryz.prog W base sp true 38 v d p) :
    ∃ (n:Nat) (g:Nat→Un),n≤maxLen∧(∀ i,i < n→(g i).data.size≤maxLen)∧IsRows W 4 v n fun i j=>(g i).c j:=by
  obtain ⟨len,f,h1,h2,h3⟩:=open_rows_of 4 (by kernel_rfl) (by omega) Tryz.underlying38 (okWide_slice Tryz.underlying38 hv) h
  have hs:∀ i,i < len→(∀ j,j < 4→f i j=(unF f i).c j)∧(unF f i).data.size≤maxLen:=by
    intro i hi
    obtain ⟨fuel,x,hx⟩:=h3 i hi
    obtain ⟨xs,n,_,_,_,hlen,hg⟩:=DataW.trod_struct Tryz.underlying42 hx
    have ci:Tryz.prog.cellsOf 3=1:=by kernel_rfl
    have cp:Tryz.prog.cellsOf 40=2:=by kernel_rfl
    have cst:Tryz.prog.cellsOf 9=1:=by kernel_rfl
    obtain ⟨u0,hu0⟩:∃ u,xs[0]?=some u:=⟨_,List.getElem?_eq_getElem (by rw [hlen];decide)⟩
    obtain ⟨u1,hu1⟩:∃ u,xs[1]?=some u:=⟨_,List.getElem?_eq_getElem (by rw [hlen];decide)⟩
    obtain ⟨u2,hu2⟩:∃ u,xs[2]?=some u:=⟨_,List.getElem?_eq_getElem (by rw [hlen];decide)⟩
    rw [← hg 0 _ rfl] at hu0
    rw [← hg 1 _ rfl] at hu1
    rw [← hg 2 _ rfl] at hu2
    simp [List.range_succ,ci,cp,cst] at hu0 hu1 hu2
    obtain ⟨z,e0,_,_⟩:=DataW.trod_int Tryz.underlying3 hu0
    obtain ⟨ys,m,_,_,_,hlen2,hg2⟩:=DataW.trod_struct Tryz.underlying40 hu1
    obtain ⟨t0,ht0⟩:∃ u,ys[0]?=some u:=⟨_,List.getElem?_eq_getElem (by rw [hlen2];decide)⟩
    obtain ⟨t1,ht1⟩:∃ u,ys[1]?=some u:=⟨_,List.getElem?_eq_getElem (by rw [hlen2];decide)⟩
    rw [← hg2 0 _ rfl] at ht0
    rw [← hg2 1 _ rfl] at ht1
    simp [List.range_succ,ci] at ht0 ht1
    obtain ⟨z1,e1,_,_⟩:=DataW.trod_int Tryz.underlying3 ht0
    obtain ⟨z2,e2,_,_⟩:=DataW.trod_int Tryz.underlying3 ht1
    obtain ⟨s,e3,_,hz⟩:=DataW.trod_string Tryz.underlying9 hu2
    simp at e0 e1 e2 e3
    refine ⟨fun j hj=>?_,?_⟩
    · match j,hj with
      | 0,_=>show f i 0 = .int .i64 (intV (f i 0));rw [e0];rfl
      | 1,_=>show f i 1 = .int .i64 (intV (f i 1));rw [e1];rfl
      | 2,_=>show f i 2 = .int .i64 (intV (f i 2));rw [e2];rfl
      | 3,_=>show f i 3 = .string (strV (f i 3));rw [e3];rfl
    · show (strV (f i 3)).size≤maxLen
      rw [e3];exact hz
  refine ⟨len,unF f,h2,fun i hi=>(hs i hi).2,?_⟩
  rcases h1 with q | ⟨a,cap,q1,q2,q3,q4⟩
  · exact .inl q
  · refine .inr ⟨a,cap,q1,q2,q3,fun i hi=>?_⟩
    obtain ⟨s1,s2,s3⟩:=q4 i hi
    exact ⟨s1,s2,fun j hj=>by have:=s3 j hj;rw [(hs i hi).1 j hj] at this;exact this⟩
end Go.Proofs.YthacfgaacleaeaaGreatDoor
namespace Go.Proofs.YthacfgaacleaeaaGreatDoor
open Go.RowKit Sym Sha Go.ChangeShapes Go.WideShapes Go.ChangeMaps
end Go.Proofs.YthacfgaacleaeaaGreatDoor
namespace Go.Proofs.YthacfgaacleaeaaGreatDoor
open Go.ChangeShapes Go.WideShapes Go.ChangeAt Go.RowKit Sym Go.ChangeMaps
theorem et_named:Tryz.prog.globalNamed "errors.errorType" = some 0:=by kernel_rfl
theorem rt_named:(Tryz.prog.cutTypes.find? (·.1 == "internal/reflectlite.rtype")).map (·.2)=some 202:=by kernel_rfl
theorem one_row:((List.range 304).filter fun t=>Tryz.prog.rowNamed t [101,114,114,111,114])=[72]:=by kernel_rfl
theorem types_size:Tryz.prog.types.size=304:=by kernel_rfl
abbrev TabW (W:World):Prop:=ErrT W
theorem laid_tab {W:World} (h:laidMetH Tryz.prog Rows.forgeChecksRow.laid W):TabW W:=by
  have h':laidMet Tryz.prog [] W∧handlesMet Tryz.prog Rows.forgeChecksRow.laid W:=h
  obtain ⟨name,u,ty,e1,e2,e3,e4,e5⟩:=h'.2 _ (List.mem_singleton.2 rfl)
  have en:name=[101,114,114,111,114]:=(Option.some.inj e1).symm
  subst en
  obtain rfl:=Option.some.inj (rt_named.symm.trans e2)
  have hm:ty ∈ (List.range 304).filter fun t=>Tryz.prog.rowNamed t [101,114,114,111,114]:=List.mem_filter.2 ⟨List.mem_range.2 (by rw [← types_size];exact e3),e4⟩
  rw [one_row] at hm
  obtain rfl:=List.mem_singleton.1 hm
  have hh:typeHandle Tryz.prog 72 = .pointer (some ⟨2,72,none⟩):=by kernel_rfl
  rw [hh] at e5
  have:=World.var?_cell et_named e5 0
  show W.cell? ⟨0,0,none⟩=_
  simpa using this
theorem door_met (os:Os) (args:Array Value):laidMetH Tryz.prog Rows.forgeChecksRow.laid ((World.doorLaid Tryz.prog 24 os).forCall (fun _ _=>0) ⟨#[],args,[]⟩).memory :=
  laidMetH_of_parts (laidMet_nil _ _) (by kernel_rfl)
set_option maxRecDepth 100000 in
theorem open_str2 {H:Type} {enc:TypeId×Value→H} {W:World} {base b0:Nat} {r:Reach} {v:Value} {d:DataW H} {p:List MemPlace} {sp:Nat→Bool} (hv:Value.okWide Tryz.prog W r b0 22 v) (h:DataW.Trod enc Tryz.prog W base sp true 22 v d p) :
    ∃ a b:ByteArray,v = .agg #[.string a,.string b]∧a.size≤maxLen∧b.size≤maxLen:=by
  simp only [Value.okWide,Tryz.underlying22] at hv
  obtain ⟨cs,rfl,hsz,-⟩:=hv
  rw [show Tryz.prog.cellsOf 22=2 from by kernel_rfl] at hsz
  obtain ⟨l⟩:=cs
  obtain ⟨fuel,hf⟩:=h
  have hl:l.length=2:=by simpa using hsz
  match l,hl with
  | [x,y],_ =>
    have hf:DataW.trod enc Tryz.prog W base sp true fuel 22 [x,y]=some (d,p):=hf
    obtain ⟨xs,m,-,-,-,hlen,hg⟩:=DataW.trod_array Tryz.underlying22 hf
    have ci:Tryz.prog.cellsOf 9=1:=by kernel_rfl
    have one:∀ i,i < 2→∀ c,(([x,y]:List Value).drop i).take 1=[c]→∃ s:ByteArray,c = .string s∧s.size≤maxLen:=by
      intro i hi c hc
      obtain ⟨u,hu⟩:∃ u,xs[i]?=some u:=⟨_,List.getElem?_eq_getElem (by rw [hlen];exact hi)⟩
      rw [← hg i hi,ci,Nat.mul_one,hc] at hu
      obtain ⟨s,e,-,hz⟩:=DataW.trod_string Tryz.underlying9 hu
      simp at e
      exact ⟨s,e,hz⟩
    obtain ⟨a,rfl,ha⟩:=one 0 (by decide) x rfl
    obtain ⟨b,rfl,hb⟩:=one 1 (by decide) y rfl
    exact ⟨a,b,rfl,ha,hb⟩
end Go.Proofs.YthacfgaacleaeaaGreatDoor
namespace Go.Proofs.YthacfgaacleaeaaGreatDoor
open Go.RowKit Sym Sha Go.ChangeShapes Go.WideShapes Go.ChangeAt Go.ChangeMaps
theorem joins_pair (a b k s:ByteArray) (x y:Int):joinsG (!decide (kA a b=nilB)) (tagR (kA a b) (kB a b)) k s x y=joinsG (knP (kA a b) (kB a b)) (tagP (kA a b) (kB a b)) k s x y:=by
  rw [← kA_nil]
  cases h:knP (kA a b) (kB a b) with
  | false=>unfold joinsG;simp only [Bool.false_and,Bool.and_false]
  | true=>unfold joinsG;rw [tag_same a b h]
set_option maxRecDepth 100000 in
set_option maxHeartbeats 4000000 in
theorem lawJoins_any {w:World} {v:Value} {n:Nat} {g:Nat→Un} (k0 k1 k:ByteArray) (hE:ErrT w) (hn:n≤maxLen) (hv:IsRows w 4 v n fun i j=>(g i).c j) (hz:k0.size≤maxLen∧k1.size≤maxLen∧k.size≤maxLen) (hd:∀ i,i < n→(g i).data.size≤maxLen) :
    Calls Tryz.prog 6 #[.agg #[.string k0,.string k1],.string k,v] w fun e w'=>e = .returned (.bool true)∧Below w.heap.size w w':=by
  have hwk:=fun W (h:Below w.heap.size w W)=>works40 (hE.below h)
  have hpr:=pair40 k0 k1
  by_cases h0:(1000:Int) < (k0.size:Int)
  · obtain ⟨vl,hvl⟩:∃ x,x=v:=⟨_,rfl⟩
    clear hv hd hE hpr
    go_enter Tryz.func6,Tryz.ntmps6
    go_wp2_with (first
      | (go_at_call 8;(with_reducible refine (hwk _ (by (repeat' (first | (with_reducible exact Below.refl _ _) | (with_reducible refine below_alloc ?_ _) | (with_reducible refine Below.drew ?_) | (with_reducible refine below_drewN ?_ _) | (with_reducible refine Below.setCell ?_ ?_ _) | (with_reducible assumption) | (with_reducible refine below_of ?_ (by assumption)) | omega | (simp only [World.size_alloc,World.size_setCell,World.size_drew,size_drewN] at *;omega) | (simp;omega))))).mono ?_);rintro e w1 ⟨rfl,hb⟩;have hb1:Below w.heap.size w w1:=below_of (by (repeat' (first | (with_reducible exact Below.refl _ _) | (with_reducible refine below_alloc ?_ _) | (with_reducible refine Below.drew ?_) | (with_reducible refine below_drewN ?_ _) | (with_reducible refine Below.setCell ?_ ?_ _) | (with_reducible assumption) | (with_reducible refine below_of ?_ (by assumption)) | omega | (simp only [World.size_alloc,World.size_setCell,World.size_drew,size_drewN] at *;omega) | (simp;omega)))) hb;have hz:=hb.size;(try simp only [World.size_alloc,World.size_setCell,World.size_drew,size_drewN] at hz);apply own_step (B:=w.heap.size) hb;(focus (repeat (first | (with_reducible assumption) | (with_reducible exact own_new _ _ _) | ((with_reducible apply own_new');focus (first | omega | (simp;done) | (simp;omega))) | (with_reducible apply own_drewN) | (with_reducible apply own_drew) | (with_reducible apply own_alloc) | (with_reducible apply own_setT) | ((with_reducible apply own_set_otherH);focus (first | (simp;done) | (simp;omega))))));intro hO0;have hk0:=hO0.2.1;have hl0:=hO0.1;have hf0:=hO0.2.2;(try simp only [List.setIfInBounds_toArray,List.set_cons_zero,List.set_cons_succ] at hO0 hk0)))
    go_ret
    exact ⟨rfl,hb1⟩
  · by_cases h1 : (1000:Int) < (k1.size:Int)
    · clear hv hd hE hpr
      go_enter Tryz.func6,Tryz.ntmps6
      go_wp2_with (first
        | (go_at_call 8;(with_reducible refine (hwk _ (by (repeat' (first | (with_reducible exact Below.refl _ _) | (with_reducible refine below_alloc ?_ _) | (with_reducible refine Below.drew ?_) | (with_reducible refine below_drewN ?_ _) | (with_reducible refine Below.setCell ?_ ?_ _) | (with_reducible assumption) | (with_reducible refine below_of ?_ (by assumption)) | omega | (simp only [World.size_alloc,World.size_setCell,World.size_drew,size_drewN] at *;omega) | (simp;omega))))).mono ?_);rintro e w1 ⟨rfl,hb⟩;have hb1:Below w.heap.size w w1:=below_of (by (repeat' (first | (with_reducible exact Below.refl _ _) | (with_reducible refine below_alloc ?_ _) | (with_reducible refine Below.drew ?_) | (with_reducible refine below_drewN ?_ _) | (with_reducible refine Below.setCell ?_ ?_ _) | (with_reducible assumption) | (with_reducible refine below_of ?_ (by assumption)) | omega | (simp only [World.size_alloc,World.size_setCell,World.size_drew,size_drewN] at *;omega) | (simp;omega)))) hb;have hz:=hb.size;(try simp only [World.size_alloc,World.size_setCell,World.size_drew,size_drewN] at hz);apply own_step (B:=w.heap.size) hb;(focus (repeat (first | (with_reducible assumption) | (with_reducible exact own_new _ _ _) | ((with_reducible apply own_new');focus (first | omega | (simp;done) | (simp;omega))) | (with_reducible apply own_drewN) | (with_reducible apply own_drew) | (with_reducible apply own_alloc) | (with_reducible apply own_setT) | ((with_reducible apply own_set_otherH);focus (first | (simp;done) | (simp;omega))))));intro hO0;have hk0:=hO0.2.1;have hl0:=hO0.1;have hf0:=hO0.2.2;(try simp only [List.setIfInBounds_toArray,List.set_cons_zero,List.set_cons_succ] at hO0 hk0)))
      go_ret
      exact ⟨rfl,hb1⟩
    · by_cases hk3 : (300:Int) < (k.size:Int)
      · clear hv hd hE hpr
        go_enter Tryz.func6,Tryz.ntmps6
        go_wp2_with (first
          | (go_at_call 8;(with_reducible refine (hwk _ (by (repeat' (first | (with_reducible exact Below.refl _ _) | (with_reducible refine below_alloc ?_ _) | (with_reducible refine Below.drew ?_) | (with_reducible refine below_drewN ?_ _) | (with_reducible refine Below.setCell ?_ ?_ _) | (with_reducible assumption) | (with_reducible refine below_of ?_ (by assumption)) | omega | (simp only [World.size_alloc,World.size_setCell,World.size_drew,size_drewN] at *;omega) | (simp;omega))))).mono ?_);rintro e w1 ⟨rfl,hb⟩;have hb1:Below w.heap.size w w1:=below_of (by (repeat' (first | (with_reducible exact Below.refl _ _) | (with_reducible refine below_alloc ?_ _) | (with_reducible refine Below.drew ?_) | (with_reducible refine below_drewN ?_ _) | (with_reducible refine Below.setCell ?_ ?_ _) | (with_reducible assumption) | (with_reducible refine below_of ?_ (by assumption)) | omega | (simp only [World.size_alloc,World.size_setCell,World.size_drew,size_drewN] at *;omega) | (simp;omega)))) hb;have hz:=hb.size;(try simp only [World.size_alloc,World.size_setCell,World.size_drew,size_drewN] at hz);apply own_step (B:=w.heap.size) hb;(focus (repeat (first | (with_reducible assumption) | (with_reducible exact own_new _ _ _) | ((with_reducible apply own_new');focus (first | omega | (simp;done) | (simp;omega))) | (with_reducible apply own_drewN) | (with_reducible apply own_drew) | (with_reducible apply own_alloc) | (with_reducible apply own_setT) | ((with_reducible apply own_set_otherH);focus (first | (simp;done) | (simp;omega))))));intro hO0;have hk0:=hO0.2.1;have hl0:=hO0.1;have hf0:=hO0.2.2;(try simp only [List.setIfInBounds_toArray,List.set_cons_zero,List.set_cons_succ] at hO0 hk0)))
        go_ret
        exact ⟨rfl,hb1⟩
      · by_cases h2:(20:Int) < (n:Int)
        · obtain ⟨a,cap,rfl⟩:∃ a cap,v = .slice a n cap:=by
            rcases hv with ⟨rfl,rfl⟩ | ⟨ad,cap,rfl,-⟩
            · exact ⟨none,0,rfl⟩
            · exact ⟨_,_,rfl⟩
          clear hv hd hE hpr
          go_enter Tryz.func6,Tryz.ntmps6
          go_wp2_with (first
            | (go_at_call 8;(with_reducible refine (hwk _ (by (repeat' (first | (with_reducible exact Below.refl _ _) | (with_reducible refine below_alloc ?_ _) | (with_reducible refine Below.drew ?_) | (with_reducible refine below_drewN ?_ _) | (with_reducible refine Below.setCell ?_ ?_ _) | (with_reducible assumption) | (with_reducible refine below_of ?_ (by assumption)) | omega | (simp only [World.size_alloc,World.size_setCell,World.size_drew,size_drewN] at *;omega) | (simp;omega))))).mono ?_);rintro e w1 ⟨rfl,hb⟩;have hb1:Below w.heap.size w w1:=below_of (by (repeat' (first | (with_reducible exact Below.refl _ _) | (with_reducible refine below_alloc ?_ _) | (with_reducible refine Below.drew ?_) | (with_reducible refine below_drewN ?_ _) | (with_reducible refine Below.setCell ?_ ?_ _) | (with_reducible assumption) | (with_reducible refine below_of ?_ (by assumption)) | omega | (simp only [World.size_alloc,World.size_setCell,World.size_drew,size_drewN] at *;omega) | (simp;omega)))) hb;have hz:=hb.size;(try simp only [World.size_alloc,World.size_setCell,World.size_drew,size_drewN] at hz);apply own_step (B:=w.heap.size) hb;(focus (repeat (first | (with_reducible assumption) | (with_reducible exact own_new _ _ _) | ((with_reducible apply own_new');focus (first | omega | (simp;done) | (simp;omega))) | (with_reducible apply own_drewN) | (with_reducible apply own_drew) | (with_reducible apply own_alloc) | (with_reducible apply own_setT) | ((with_reducible apply own_set_otherH);focus (first | (simp;done) | (simp;omega))))));intro hO0;have hk0:=hO0.2.1;have hl0:=hO0.1;have hf0:=hO0.2.2;(try simp only [List.setIfInBounds_toArray,List.set_cons_zero,List.set_cons_succ] at hO0 hk0)))
          go_ret
          exact ⟨rfl,hb1⟩
        · have hA := kA_size k0 k1 (by omega)
          have hB:=kB_size k0 k1 (by omega)
          have hH0:=fun (V:World) (i:Nat) (hs:(g i).data.size≤1000)=>joins_any (w:=V) (kA k0 k1) (kB k0 k1) k (g i).side (g i).x (g i).y (g i).data ⟨hA,hB,hs,by omega⟩
          have hR0:=fun (V:World) (i:Nat) (hs:(g i).data.size≤1000)=>rjoins_any (w:=V) (kA k0 k1) (kB k0 k1) k (g i).side (g i).x (g i).y (g i).data ⟨hA,hB,hs,by omega⟩
          simp only [joins_pair] at hR0
          obtain ⟨p,cap,rfl,hcap,hrow⟩:∃ p cap,v = .slice p n cap∧n≤cap∧∀ (W:World),Below w.heap.size w W→∀ j,j < n→∃ bb o,p=some ⟨bb,o,none⟩∧W.cell? ⟨bb,o+j * 4,none⟩=some (.int .i64 (g j).side)∧W.cell? ⟨bb,o+j * 4+1,none⟩=some (.int .i64 (g j).x)∧W.cell? ⟨bb,o+j * 4+2,none⟩=some (.int .i64 (g j).y)∧W.cell? ⟨bb,o+j * 4+3,none⟩=some (.string (g j).data):=by
            rcases hv with ⟨rfl,rfl⟩ | ⟨ad,cap,rfl,q1,-,q3⟩
            · exact ⟨none,0,rfl,Nat.le_refl _,fun _ _ j hj=>absurd hj (Nat.not_lt_zero _)⟩
            · refine ⟨some ad,cap,rfl,q1,fun W hW j hj=>?_⟩
              obtain ⟨b,o,sp⟩:=ad
              obtain ⟨hs,hb,hc⟩:=q3 j hj
              obtain rfl:sp=none:=hs
              have hh:∀ i,i < 4→W.cell? ⟨b,o+j * 4+i,none⟩=some ((g j).c i):=fun i hi=>(hW.cell (p:=⟨b,o+j * 4+i,none⟩) hb).trans (hc i hi)
              exact ⟨b,o,rfl,hh 0 (by decide),hh 1 (by decide),hh 2 (by decide),hh 3 (by decide)⟩
          generalize kA k0 k1=A at *
          generalize kB k0 k1=B at *
          have hn20:n≤20:=by omega
          go_enter Tryz.func6,Tryz.ntmps6
          go_wp2_with (first
            | (go_at_call 8;(with_reducible refine (hwk _ (by (repeat' (first | (with_reducible exact Below.refl _ _) | (with_reducible refine below_alloc ?_ _) | (with_reducible refine Below.drew ?_) | (with_reducible refine below_drewN ?_ _) | (with_reducible refine Below.setCell ?_ ?_ _) | (with_reducible assumption) | (with_reducible refine below_of ?_ (by assumption)) | omega | (simp only [World.size_alloc,World.size_setCell,World.size_drew,size_drewN] at *;omega) | (simp;omega))))).mono ?_);rintro e w1 ⟨rfl,hb⟩;have hb1:Below w.heap.size w w1:=below_of (by (repeat' (first | (with_reducible exact Below.refl _ _) | (with_reducible refine below_alloc ?_ _) | (with_reducible refine Below.drew ?_) | (with_reducible refine below_drewN ?_ _) | (with_reducible refine Below.setCell ?_ ?_ _) | (with_reducible assumption) | (with_reducible refine below_of ?_ (by assumption)) | omega | (simp only [World.size_alloc,World.size_setCell,World.size_drew,size_drewN] at *;omega) | (simp;omega)))) hb;have hz:=hb.size;(try simp only [World.size_alloc,World.size_setCell,World.size_drew,size_drewN] at hz);apply own_step (B:=w.heap.size) hb;(focus (repeat (first | (with_reducible assumption) | (with_reducible exact own_new _ _ _) | ((with_reducible apply own_new');focus (first | omega | (simp;done) | (simp;omega))) | (with_reducible apply own_drewN) | (with_reducible apply own_drew) | (with_reducible apply own_alloc) | (with_reducible apply own_setT) | ((with_reducible apply own_set_otherH);focus (first | (simp;done) | (simp;omega))))));intro hO0;have hk0:=hO0.2.1;have hl0:=hO0.1;have hf0:=hO0.2.2;(try simp only [List.setIfInBounds_toArray,List.set_cons_zero,List.set_cons_succ] at hO0 hk0))
            | (go_at_call 10;(with_reducible refine (hpr _).mono ?_);rintro e w3 ⟨rfl,hb⟩;have hb3:Below w.heap.size w w3:=below_of hb1 hb;clear hk0 hl0 hf0 hO0))
          go_loopw [10] (fun u8 wr=>∃ i:Nat,u8 = .int .i64 i∧i≤n∧Own wr w3.heap.size #[.string A,.string B]∧Below w.heap.size w wr∧∀ j,j < i→(g j).data.size≤1000)
            (fun u8 _=>n - natM u8)
          case atStart=>exact ⟨0,rfl,Nat.zero_le _,own_new _ _ _,by (repeat' (first | (with_reducible exact Below.refl _ _) | (with_reducible refine below_alloc ?_ _) | (with_reducible refine Below.drew ?_) | (with_reducible refine below_drewN ?_ _) | (with_reducible refine Below.setCell ?_ ?_ _) | (with_reducible assumption) | (with_reducible refine below_of ?_ (by assumption)) | omega | (simp only [World.size_alloc,World.size_setCell,World.size_drew,size_drewN] at *;omega) | (simp;omega))),fun j hj=>absurd hj (Nat.not_lt_zero _)⟩
          case round =>
            obtain ⟨i,rfl,hile,hO,hbw0,hsm⟩:=hrel
            by_cases hlt:i < n
            · have hltz:(i:Int) < (n:Int):=by omega
              obtain ⟨bb,o,rfl,c0,c1,c2,c3⟩:=hrow wr hbw0 i hlt
              by_cases hbg:(1000:Int) < ((g i).data.size:Int)
              · clear hrow hH0 hR0 hwk hpr hd hv hsm
                generalize (g i).data=ud at *
                go_wp2
                go_ret
                exact ⟨rfl,hbw0⟩
              · have hs1:(g i).data.size≤1000:=by omega
                have ha:∀ q:BelowF wr,_:=fun q=>hH0 q.w i hs1
                have hc:∀ q:BelowF wr,_:=fun q=>hR0 q.w i hs1
                have hnx:∀ j,j < i+1→(g j).data.size≤1000:=fun j hj=>by
                  by_cases e:j=i
                  · subst e;exact hs1
                  · exact hsm j (by omega)
                have hsz:=hO.1
                have a0:=cell_byF (hO.2.1 0)
                have a1:=cell_byF (hO.2.1 1)
                clear hrow hH0 hR0 hwk hpr hd hv hsm hs1 hE
                generalize joinsG (knP A B) (tagP A B) k (g i).data (g i).x (g i).y=H0 at *
                generalize (g i).side=us at *
                generalize (g i).x=ux at *
                generalize (g i).y=uy at *
                generalize hud:(g i).data=ud at *
                clear hud
                go_wp2
                replace c0:=cell_byF c0
                replace c1:=cell_byF c1
                replace c2:=cell_byF c2
                replace c3:=cell_byF c3
                refine wp_region_belowF (by kernel_rfl) (by kernel_rfl) ?_
                (repeat (quiet_step (first
                  | (go_at_call 21;with_reducible exact below_leftF (ha _))
                  | (go_at_call 22;with_reducible exact below_leftF (hc _)))))
                refine wpQuiet_nil ?_
                intro _ hw'
                obtain ⟨⟨wq,hbq⟩,hw''⟩:=hw'
                subst hw''
                have hbx:=hbw0.trans (hbq.mono hbw0.size)
                have hOx:=own_below hO hbq
                clear ha hc a0 a1 c0 c1 c2 c3
                go_wp2
                go_roundw
                case rel=>exact ⟨i+1,by first | rfl | go_num,hlt,hOx,hbx,hnx⟩
                case measure=>(try go_num);simp [natM];omega
            · obtain rfl:i=n:=by omega
              have hltz:¬ (i:Int) < (i:Int):=by omega
              clear hH0 hR0 hwk hpr hd hrow hv hsm hE
              go_wp2
              go_ret
              exact ⟨rfl,hbw0⟩
theorem laid_tabJ {W:World} (h:laidMetH Tryz.prog Rows.forgeJoinsRow.laid W):TabW W:=laid_tab h
theorem door_metJ (os:Os) (args:Array Value):laidMetH Tryz.prog Rows.forgeJoinsRow.laid ((World.doorLaid Tryz.prog 24 os).forCall (fun _ _=>0) ⟨#[],args,[]⟩).memory:=door_met os args
set_option maxRecDepth 100000 in
theorem forgeJoins_walk {H:Type} {enc:TypeId×Value→H} {W:World} {base:Nat} {sp:Nat→Bool} {v0 v1 v2:Value} {d0 d1 d2:DataW H} {p0 p1 p2:List MemPlace}
    (a0:Value.okWide Tryz.prog W .any base 22 v0) (h0:DataW.Trod enc Tryz.prog W 0 sp true 22 v0 d0 p0)
    (a1:Value.okWide Tryz.prog W .any base 9 v1) (h1:DataW.Trod enc Tryz.prog W 0 sp true 9 v1 d1 p1)
    (a2:Value.okWide Tryz.prog W .any base 38 v2) (h2:DataW.Trod enc Tryz.prog W 0 sp true 38 v2 d2 p2) (ht:TabW W) :
    Calls Tryz.prog 6 #[v0,v1,v2] W fun e W'=>e = .returned (.bool true)∧Below W.heap.size W W':=by
  obtain ⟨a,b,rfl,ha,hb⟩:=open_str2 a0 h0
  obtain ⟨k,rfl,-,-,hk⟩:=open_string Tryz.underlying9 a1 h1
  obtain ⟨n,g,hn,hd,hr⟩:=open_unders a2 h2
  exact lawJoins_any a b k ht hn hr ⟨ha,hb,hk⟩ hd
end Go.Proofs.YthacfgaacleaeaaGreatDoor

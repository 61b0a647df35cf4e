/- Parts of a proof: PkX,PkY,FhF,FhG,FhH,FhI,FhJ,CookA,CookC,JoinA,JoinB,JoinC,JoinE,JoinF,JoinW1,JoinW,JoinX,JoinR,JoinU,LsF. No conditions. -/
import Derived.Test.YthacfgaacleaeaaGreatDoorU7
import Derived.BigQuiet
import Derived.Deep.QuietTactic
import Derived.RangeFuncBox
import Derived.RangeFuncLeaves
import Derived.RangeFuncWrites
import Derived.RangeFuncNested
import Derived.Shelf.Abstract
import Derived.WalkKit
import Derived.OwnWalkIn
import Derived.TacticsInMore
import Derived.LoopNIn
import Derived.LoopIn
set_option linter.unusedVariables false
set_option linter.unusedSimpArgs false
namespace Go.Proofs.YthacfgaacleaeaaGreatDoor
open Go.IntKind (i64 u32)
open Go.RowKit Sym Go.ChangeShapes Go.WideShapes Go.ChangeMaps Inet
def tHeadGetV (s:ByteArray) (h:Head.H) (r:ByteArray) (e:Int):List Value→Option (List Prop×Value) | [.string t]=>some ([t=s∧t.size≤maxLen],.tuple #[h.v,.string r,.int .i64 e]) | _=>none
def tRightV (s:ByteArray) (x y:Int) (b:Bool):List Value→Option (List Prop×Value) | [.string t,.agg ⟨[.int .i64 u,.int .i64 v]⟩]=>some ([(t=s∧u=x∧v=y)∧t.size≤4000],.bool b) | _=>none
def SGetV (s:ByteArray) (x y:Int) (h:Head.H) (r:ByteArray) (e:Int) (b:Bool):Tab:=addS 83 (tRightV s x y b) <| addS 82 (tHeadGetV s h r e) SPk2
theorem SGetV_ok (s:ByteArray) (x y:Int):TabOk Tryz.prog (SGetV s x y (get s).1 (get s).2.1 (get s).2.2 (rightB s x y)):=by
  refine addS_ok (addS_ok SPk2_ok (by kernel_rfl) ?_) (by kernel_rfl) ?_
  · intro xs p v h hp w
    unfold tHeadGetV at h
    split at h
    · simp only [Option.some.injEq,Prod.mk.injEq] at h
      obtain ⟨rfl,rfl⟩:=h
      obtain ⟨e,hs⟩:=hp _ (List.mem_cons_self ..)
      subst e
      exact ref09_get _ hs w
    · cases h
  · intro xs p v h hp w
    unfold tRightV at h
    split at h
    · simp only [Option.some.injEq,Prod.mk.injEq] at h
      obtain ⟨rfl,rfl⟩:=h
      obtain ⟨⟨e1,e2,e3⟩,hs⟩:=hp _ (List.mem_cons_self ..)
      subst e1 e2 e3
      exact ref10_Right _ _ _ hs w
    · cases h
abbrev CGv (P:Program) (fNew:Func) (s:ByteArray) (x y:Int) (h:Head.H) (r:ByteArray) (e:Int) (b:Bool):Cfg:=both P (SGetV s x y h r e b) (FGt0 P fNew) fsGt0
theorem CGv_ok (s:ByteArray) (x y:Int):CfgOk Tryz.prog (CGv Tryz.prog Tryz.f76 s x y (get s).1 (get s).2.1 (get s).2.2 (rightB s x y)):=both_ok (SGetV_ok s x y) FGt0_ok
def oneT (k:Nat) (t:T (SV×List Blk)):T (SV×Option Blk):=t.bind fun r=>.leaf (r.1,r.2[k]?)
set_option maxRecDepth 100000 in
theorem rget10_run (s:ByteArray) (x y:Int) (h:Head.H) (r:ByteArray) (e:Int) (b:Bool):oneT 6 (runF Tryz.prog (CGv Tryz.prog Tryz.f76 s x y h r e b) noL Tryz.f41 (Tryz.f41.body.getD .skip) [.v (.string s),.v (.agg #[.int .i64 x,.int .i64 y])] []) =
 letI x8:=(4:Int);
 letI q13:=x8 * h.3;
 letI j9:=(↑s.size:Int);
 letI y9:=i64.wrap q13 - i64.wrap (j9 - (↑r.size:Int));
 letI q:=r.extract 0 (i64.wrap y9).toNat;
 letI q6:=Value.int i64 0;
 letI y2:=Value.slice none 0 0;
 letI q0:=Value.agg (Array.mk [q6,Value.bool false,q6,q6,q6,q6,q6,q6,q6,q6,q6,y2,Value.string (ByteArray.mk (Array.mk []))]);
 letI q1:=s.extract (i64.wrap q13).toNat j9.toNat;
 letI q2:=(0:Int);
 letI q3:=SV.v (Value.tuple (Array.mk [q0,Value.int i64 4]));
 letI p7:=q.extract 8 q.size;
 letI q4:=Blk.vec true 70 2 (optsOf p7).length (opCells (optsOf p7));
 letI q5:=SV.v (Value.tuple (Array.mk [q0,Value.int i64 11]));
 letI z8:=q.extract 12 q.size;
 letI q7:=Blk.vec true 70 2 (optsOf z8).length (opCells (optsOf z8));
 letI z9:=q.extract 4 q.size;
 letI q8:=Blk.vec true 70 2 (optsOf z9).length (opCells (optsOf z9));
 letI q9:=decide ((↑q1.size:Int) > (200:Int));
 letI p:=valU (q.extract 1 4);
 letI p0:=valU (q.extract 2 8);
 letI p1:=(↑q.size:Int);
 letI p2:=SV.v (Value.tuple (Array.mk [q0,q6]));
 letI p3:Value:=.int .i64 0;
 letI j:=valU (q.extract 8 12);
 letI v3:=valU (q.extract 12 13);
 letI v4:=valU (q.extract 13 16);
 letI p4:=Pk.mk h.7 h.8 h.1 h.2 h.4 h.5 h.9 p0 j v3 v4 q1;
 letI j2:=valU (q.extract 4 8);
 letI j1:=valU (q.extract 8 9);
 letI j0:=valU (q.extract 9 12);
 letI p5:=Pk.mk h.7 h.8 h.1 h.2 h.4 h.5 h.9 p j2 j1 j0 q1;
 letI j5:=valU (q.extract 0 4);
 letI j3:=valU (q.extract 4 5);
 letI j4:=valU (q.extract 5 8);
 letI p6:=Pk.mk h.7 h.8 h.1 h.2 h.4 h.5 h.9 q2 j5 j3 j4 q1;
 letI j8:=q.extract 16 q.size;
 letI p8:=Blk.vec true 70 2 (optsOf j8).length (opCells (optsOf j8));
 letI u:=q.extract 0 q.size;
 letI p9:=Blk.vec true 70 2 (optsOf u).length (opCells (optsOf u));
 letI z:=(1:Int);
 letI z0:=Pk.mk h.7 h.8 h.1 h.2 h.4 h.5 h.9 p0 q2 j1 j0 q1;
 letI z1:=Pk.mk h.7 h.8 h.1 h.2 h.4 h.5 h.9 p q2 j3 j4 q1;
 letI z2:=Value.int i64 h.7;
 letI z3:=Value.int i64 h.1;
 letI z4:=Value.int i64 h.2;
 letI z5:=Value.int i64 h.4;
 letI z6:=Value.int i64 h.5;
 letI z7:=Value.int i64 h.9;
 letI y0:T (SV×Option Blk):=.leaf (SV.v (Value.tuple (Array.mk [q0,Value.int i64 (getE p7)])),none);
 letI v5:=(8:Int);
 letI y1:=q2=q2∧q2≤v5∧v5≤p1∧q.size≤1000000;
 letI y3:=SV.v (Value.bool h.8);
 letI y4:=Pk.mk h.7 h.8 h.1 h.2 h.4 h.5 h.9 p0 j q2 q2 q1;
 letI y5:=Pk.mk h.7 h.8 h.1 h.2 h.4 h.5 h.9 q2 j5 q2 q2 q1;
 letI y6:=Pk.mk h.7 h.8 h.1 h.2 h.4 h.5 h.9 p j2 q2 q2 q1;
 letI v7:=valU (q.extract 0 1);
 letI y7:=Pk.mk h.7 h.8 h.1 h.2 h.4 h.5 h.9 q2 q2 v7 p q1;
 letI y8:T (SV×Option Blk):=.leaf (q3,none);
 letI x0:T (SV×Option Blk):=.leaf (q5,none);
 letI x1:SV:=.v (.int .i64 h.7);
 letI x2:SV:=.v (.int .i64 h.1);
 letI x3:SV:=.v (.int .i64 h.2);
 letI x4:SV:=.v (.int .i64 h.4);
 letI x5:SV:=.v (.int .i64 h.5);
 letI x6:SV:=.v (.int .i64 h.9);
 letI x7:=(7:Int);
 letI q14:=(12:Int);
 letI x9:=q2=q2∧q2≤q14∧q14≤p1∧q.size≤1000000;
 letI k:=Value.string q1;
 letI k0:=(SV.v (Value.tuple (Array.mk [q0,Value.int i64 (getE z8)])),none);
 letI k1:=(SV.v (Value.tuple (Array.mk [q0,Value.int i64 (getE z9)])),none);
 letI k2:=Pk.mk h.7 h.8 h.1 h.2 h.4 h.5 h.9 p0 q2 q2 q2 q1;
 letI k3:=Pk.mk h.7 h.8 h.1 h.2 h.4 h.5 h.9 q2 q2 q2 q2 q1;
 letI k4:=Pk.mk h.7 h.8 h.1 h.2 h.4 h.5 h.9 p q2 q2 q2 q1;
 letI k5:SV:=.v (.string q1);
 letI k6:=Value.bool h.8;
 letI k7:=q2=q2∧q2≤x8∧x8≤p1∧q.size≤1000000;
 letI v0:=(3:Int);
 letI k8:=q2=q2∧q2≤(9:Int)∧z≤v0∧v0≤x7∧q14≤p1∧q.size≤1000000;
 letI k9:=q2=q2∧q2≤(5:Int)∧z≤v0∧v0≤x7∧v5≤p1∧q.size≤1000000;
 letI j6:=q2=q2∧q2≤z∧z≤v0∧v0≤x7∧x8≤p1∧q.size≤1000000;
 letI j7:=q2=q2∧q2≤v5∧z≤z∧z≤x7∧(9:Int)≤p1∧q.size≤1000000;
 letI u0:=q2=q2∧q2≤x8∧z≤z∧z≤x7∧(5:Int)≤p1∧q.size≤1000000;
 letI u1:=decide (h.7=x7);
 letI u2:=getE p7=q2;
 letI u3:=q2=q2∧q2≤q2∧z≤z∧z≤x7∧z≤p1∧q.size≤1000000;
 letI u4:=Value.int i64 p;
 letI u5:=SV.ref 6;
 letI u6:=Value.int i64 p0;
 letI u7:=getE z8=q2;
 letI u8:=getE z9=q2;
 letI u9:SV:=.v (.int .i64 p);
 letI q16:=(2:Int);
 letI v1:=decide (h.7 < q16);
 letI v2:=p7.size≤1000;
 letI v6:SV:=.v (.int .i64 p0);
 letI v8:T (SV×Option Blk):=.leaf (p2,some q4);
 letI v9:T (SV×Option Blk):=.leaf (q5,some q4);
 letI q10:T (SV×Option Blk):=.leaf (q3,some q4);
 letI q11:=z8.size≤1000;
 letI q12:=z9.size≤1000;
 letI q15:=!decide u2;
 letI q17:=decide u2;
 letI q18:=(p2,some q7);
 letI q19:=(q5,some q7);
 letI q20:=(q3,some q7);
 letI q21:=(p2,some q8);
 letI q22:=(q5,some q8);
 letI q23:=(q3,some q8);
 letI q24:=Value.int i64 j1;
 letI q25:=Value.int i64 j0;
 letI q26:=Value.int i64 j2;
 letI q27:=Value.int i64 j3;
 letI q28:=Value.int i64 j4;
 letI q29:=Value.int i64 j5;
 .ite (decide (j9 > (700:Int))) x0 (.need (s=s∧s.size≤9223372036854775807) (.ite (!decide (e=q2)) (.leaf (SV.v (Value.tuple (Array.mk [q0,Value.int i64 e])),none)) (.ite (decide (i64.wrap q13 > j9)) (.leaf (SV.v (Value.tuple (Array.mk [q0,Value.int i64 1])),none)) (.need ((s=s∧x=x∧y=y)∧s.size≤4000) (.ite (!b) (.leaf (SV.v (Value.tuple (Array.mk [q0,Value.int i64 5])),none)) (.need (q2≤i64.wrap q13∧i64.wrap q13≤j9∧j9≤j9) (.need (q2≤q2∧q2≤i64.wrap y9∧i64.wrap y9≤(↑r.size:Int)) (.ite (Head.acks h.7) (.ite h.8 (.need (q2=q2∧q2≤q2∧z≤q16∧q16≤x7∧q16≤p1∧q.size≤1000000) (.need (q2=q2∧q2≤q16∧z≤(6:Int)∧(6:Int)≤x7∧v5≤p1∧q.size≤1000000) (.ite (!decide (valU (q.extract 0 2)=q2)) y8 (.ite v1 (.need (q2=q2∧q2≤v5∧z≤x8∧x8≤x7∧q14≤p1∧q.size≤1000000) (.ite u1 (.need (q2=q2∧q2≤q14∧z≤z∧z≤x7∧(13:Int)≤p1∧q.size≤1000000) (.need (q2=q2∧q2≤(13:Int)∧z≤v0∧v0≤x7∧(16:Int)≤p1∧q.size≤1000000) (.need (q2=q2∧q2≤(16:Int)∧(16:Int)≤p1∧q.size≤1000000) (.need (j8.size≤1000) (.ite (decide (getE j8=q2)) (.ite false (.leaf (p2,some p8)) (.ite q9 (.leaf (q5,some p8)) (.need (KindP p4) (.ite (spareP p4) (.leaf (q3,some p8)) (.leaf (SV.tup [SV.agg (List.take 13 (List.drop 0 [x1,y3,x2,x3,x4,x5,x6,v6,.v (.int .i64 j),.v (.int .i64 v3),.v (.int .i64 v4),u5,k5])),.c p3],some p8)))))) (.ite (!decide (getE j8=q2)) (.leaf (SV.v (Value.tuple (Array.mk [q0,Value.int i64 (getE j8)])),none)) (.ite q9 x0 (.need (KindP p4) (.ite (spareP p4) y8 (.leaf (SV.v (Value.tuple (Array.mk [Value.agg (Array.mk [z2,k6,z3,z4,z5,z6,z7,u6,Value.int i64 j,Value.int i64 v3,Value.int i64 v4,y2,k]),q6])),none))))))))))) (.need x9 (.need q11 (.ite (decide u7) (.ite false (.leaf q18) (.ite q9 (.leaf q19) (.need (KindP y4) (.ite (spareP y4) (.leaf q20) (.leaf (SV.tup [SV.agg (List.take 13 (List.drop 0 [x1,y3,x2,x3,x4,x5,x6,v6,.v (.int .i64 j),.v p3,.v p3,u5,k5])),.c p3],some q7)))))) (.ite (!decide u7) (.leaf k0) (.ite q9 x0 (.need (KindP y4) (.ite (spareP y4) y8 (.leaf (SV.v (Value.tuple (Array.mk [Value.agg (Array.mk [z2,k6,z3,z4,z5,z6,z7,u6,Value.int i64 j,q6,q6,y2,k]),q6])),none))))))))))) (.ite u1 (.need j7 (.need k8 (.need x9 (.need q11 (.ite (decide u7) (.ite false (.leaf q18) (.ite q9 (.leaf q19) (.need (KindP z0) (.ite (spareP z0) (.leaf q20) (.leaf (SV.tup [SV.agg (List.take 13 (List.drop 0 [x1,y3,x2,x3,x4,x5,x6,v6,.v p3,.v (.int .i64 j1),.v (.int .i64 j0),u5,k5])),.c p3],some q7)))))) (.ite (!decide u7) (.leaf k0) (.ite q9 x0 (.need (KindP z0) (.ite (spareP z0) y8 (.leaf (SV.v (Value.tuple (Array.mk [Value.agg (Array.mk [z2,k6,z3,z4,z5,z6,z7,u6,q6,q24,q25,y2,k]),q6])),none))))))))))) (.need y1 (.need v2 (.ite q17 (.ite false v8 (.ite q9 v9 (.need (KindP k2) (.ite (spareP k2) q10 (.leaf (SV.tup [SV.agg (List.take 13 (List.drop 0 [x1,y3,x2,x3,x4,x5,x6,v6,.v p3,.v p3,.v p3,u5,k5])),.c p3],some q4)))))) (.ite q15 y0 (.ite q9 x0 (.need (KindP k2) (.ite (spareP k2) y8 (.leaf (SV.v (Value.tuple (Array.mk [Value.agg (Array.mk [z2,k6,z3,z4,z5,z6,z7,u6,q6,q6,q6,y2,k]),q6])),none)))))))))))))) (.need u3 (.need j6 (.ite (!decide (valU (q.extract 0 1)=q2)) y8 (.ite v1 (.need (q2=q2∧q2≤x8∧z≤x8∧x8≤x7∧v5≤p1∧q.size≤1000000) (.ite u1 (.need j7 (.need k8 (.need x9 (.need q11 (.ite (decide u7) (.ite false (.leaf q18) (.ite q9 (.leaf q19) (.need (KindP p5) (.ite (spareP p5) (.leaf q20) (.leaf (SV.tup [SV.agg (List.take 13 (List.drop 0 [x1,y3,x2,x3,x4,x5,x6,u9,.v (.int .i64 j2),.v (.int .i64 j1),.v (.int .i64 j0),u5,k5])),.c p3],some q7)))))) (.ite (!decide u7) (.leaf k0) (.ite q9 x0 (.need (KindP p5) (.ite (spareP p5) y8 (.leaf (SV.v (Value.tuple (Array.mk [Value.agg (Array.mk [z2,k6,z3,z4,z5,z6,z7,u4,q26,q24,q25,y2,k]),q6])),none))))))))))) (.need y1 (.need v2 (.ite q17 (.ite false v8 (.ite q9 v9 (.need (KindP y6) (.ite (spareP y6) q10 (.leaf (SV.tup [SV.agg (List.take 13 (List.drop 0 [x1,y3,x2,x3,x4,x5,x6,u9,.v (.int .i64 j2),.v p3,.v p3,u5,k5])),.c p3],some q4)))))) (.ite q15 y0 (.ite q9 x0 (.need (KindP y6) (.ite (spareP y6) y8 (.leaf (SV.v (Value.tuple (Array.mk [Value.agg (Array.mk [z2,k6,z3,z4,z5,z6,z7,u4,q26,q6,q6,y2,k]),q6])),none))))))))))) (.ite u1 (.need u0 (.need k9 (.need y1 (.need v2 (.ite q17 (.ite false v8 (.ite q9 v9 (.need (KindP z1) (.ite (spareP z1) q10 (.leaf (SV.tup [SV.agg (List.take 13 (List.drop 0 [x1,y3,x2,x3,x4,x5,x6,u9,.v p3,.v (.int .i64 j3),.v (.int .i64 j4),u5,k5])),.c p3],some q4)))))) (.ite q15 y0 (.ite q9 x0 (.need (KindP z1) (.ite (spareP z1) y8 (.leaf (SV.v (Value.tuple (Array.mk [Value.agg (Array.mk [z2,k6,z3,z4,z5,z6,z7,u4,q6,q27,q28,y2,k]),q6])),none))))))))))) (.need k7 (.need q12 (.ite (decide u8) (.ite false (.leaf q21) (.ite q9 (.leaf q22) (.need (KindP k4) (.ite (spareP k4) (.leaf q23) (.leaf (SV.tup [SV.agg (List.take 13 (List.drop 0 [x1,y3,x2,x3,x4,x5,x6,u9,.v p3,.v p3,.v p3,u5,k5])),.c p3],some q8)))))) (.ite (!decide u8) (.leaf k1) (.ite q9 x0 (.need (KindP k4) (.ite (spareP k4) y8 (.leaf (SV.v (Value.tuple (Array.mk [Value.agg (Array.mk [z2,k6,z3,z4,z5,z6,z7,u4,q6,q6,q6,y2,k]),q6])),none))))))))))))))) (.ite v1 (.need (q2=q2∧q2≤q2∧z≤x8∧x8≤x7∧x8≤p1∧q.size≤1000000) (.ite u1 (.need u0 (.need k9 (.need y1 (.need v2 (.ite q17 (.ite false v8 (.ite q9 v9 (.need (KindP p6) (.ite (spareP p6) q10 (.leaf (SV.tup [SV.agg (List.take 13 (List.drop 0 [x1,y3,x2,x3,x4,x5,x6,.v p3,.v (.int .i64 j5),.v (.int .i64 j3),.v (.int .i64 j4),u5,k5])),.c p3],some q4)))))) (.ite q15 y0 (.ite q9 x0 (.need (KindP p6) (.ite (spareP p6) y8 (.leaf (SV.v (Value.tuple (Array.mk [Value.agg (Array.mk [z2,k6,z3,z4,z5,z6,z7,q6,q29,q27,q28,y2,k]),q6])),none))))))))))) (.need k7 (.need q12 (.ite (decide u8) (.ite false (.leaf q21) (.ite q9 (.leaf q22) (.need (KindP y5) (.ite (spareP y5) (.leaf q23) (.leaf (SV.tup [SV.agg (List.take 13 (List.drop 0 [x1,y3,x2,x3,x4,x5,x6,.v p3,.v (.int .i64 j5),.v p3,.v p3,u5,k5])),.c p3],some q8)))))) (.ite (!decide u8) (.leaf k1) (.ite q9 x0 (.need (KindP y5) (.ite (spareP y5) y8 (.leaf (SV.v (Value.tuple (Array.mk [Value.agg (Array.mk [z2,k6,z3,z4,z5,z6,z7,q6,q29,q6,q6,y2,k]),q6])),none))))))))))) (.ite u1 (.need u3 (.need j6 (.need k7 (.need q12 (.ite (decide u8) (.ite false (.leaf q21) (.ite q9 (.leaf q22) (.need (KindP y7) (.ite (spareP y7) (.leaf q23) (.leaf (SV.tup [SV.agg (List.take 13 (List.drop 0 [x1,y3,x2,x3,x4,x5,x6,.v p3,.v p3,.v (.int .i64 v7),u9,u5,k5])),.c p3],some q8)))))) (.ite (!decide u8) (.leaf k1) (.ite q9 x0 (.need (KindP y7) (.ite (spareP y7) y8 (.leaf (SV.v (Value.tuple (Array.mk [Value.agg (Array.mk [z2,k6,z3,z4,z5,z6,z7,q6,q6,Value.int i64 v7,u4,y2,k]),q6])),none))))))))))) (.need (q2=q2∧q2≤q2∧q2≤p1∧q.size≤1000000) (.need (u.size≤1000) (.ite (decide (getE u=q2)) (.ite false (.leaf (p2,some p9)) (.ite q9 (.leaf (q5,some p9)) (.need (KindP k3) (.ite (spareP k3) (.leaf (q3,some p9)) (.leaf (SV.tup [SV.agg (List.take 13 (List.drop 0 [x1,y3,x2,x3,x4,x5,x6,.v p3,.v p3,.v p3,.v p3,u5,k5])),.c p3],some p9)))))) (.ite (!decide (getE u=q2)) (.leaf (SV.v (Value.tuple (Array.mk [q0,Value.int i64 (getE u)])),none)) (.ite q9 x0 (.need (KindP k3) (.ite (spareP k3) y8 (.leaf (SV.v (Value.tuple (Array.mk [Value.agg (Array.mk [z2,k6,z3,z4,z5,z6,z7,q6,q6,q6,q6,y2,k]),q6])),none))))))))))))))))))):=by kernel_rfl
theorem ext_ext (s:ByteArray) (i j k l:Nat):(s.extract i j).extract k l=s.extract (i+k) (min (i+l) j):=by
  rw [ByteArray.extract_extract]
theorem rget_cut {s:ByteArray} (hs:s.size≤4000) (he:(get s).2.2=0) (hw:4 * (hG s).words≤s.size) (hl:(begunN (hG s).long).toNat≤restW s) :
    (get s).2.1.extract 0 (i64.wrap (i64.wrap (4 * (get s).1.words) - i64.wrap ((s.size:Int) - ((get s).2.1.size:Int)))).toNat=bodyS s∧i64.wrap (i64.wrap (4 * (get s).1.words) - i64.wrap ((s.size:Int) - ((get s).2.1.size:Int)))=(bodyS s).size∧(bodyS s).size≤(get s).2.1.size:=by
  obtain ⟨l,eg,hc,h3,h4⟩:=getB_ok he
  obtain ⟨w0,w1⟩:=get_words he
  have hz:(get s).2.1=s.extract (lenB l) s.size:=by rw [eg]
  have hlong:(hG s).long=l:=by unfold hG;rw [eg];exact h4
  have hbeg:(begunN (hG s).long).toNat=lenB l:=by rw [hlong];cases l <;> rfl
  have hR:restW s=(4 * (get s).1.words).toNat:=rfl
  have hw':4 * (get s).1.words≤s.size:=hw
  have hwr:i64.wrap (4 * (get s).1.words)=4 * (get s).1.words:=w64 _ (by omega) (by omega)
  have hzs:(get s).2.1.size=s.size - lenB l:=by rw [hz,ByteArray.size_extract];omega
  have hws:i64.wrap ((s.size:Int) - ((get s).2.1.size:Int))=lenB l:=by rw [hzs,w64 _ (by omega) (by omega)];omega
  have hwt:i64.wrap (4 * (get s).1.words - (lenB l:Int))=4 * (get s).1.words - (lenB l:Int):=w64 _ (by omega) (by omega)
  have hpe:partsE s=0:=by
    unfold partsE
    rw [if_pos he,if_neg (by omega)]
  have hah:aheadS s=s.extract 0 (restW s):=if_pos hpe
  have hasz:(aheadS s).size=restW s:=(partsE_ok hpe).2.2
  rw [hbeg] at hl
  have hb:bodyS s=s.extract (lenB l) (restW s):=by
    unfold bodyS
    rw [hbeg,hasz,hah,ext_ext,Nat.zero_add,Nat.zero_add,Nat.min_self]
  have hbs:(bodyS s).size=restW s - lenB l:=by rw [hb,ByteArray.size_extract];omega
  rw [hwr,hws,hwt]
  refine ⟨?_,by omega,by omega⟩
  rw [hb,hz,ext_ext]
  congr 1
  omega
theorem oneT_ok {k:Nat} {t:T (SV×List Blk)} {Q:SV×Option Blk→Prop} (h:(oneT k t).ok Q):t.ok fun r=>Q (r.1,r.2[k]?):=T.ok_bind h
def gQ (s:ByteArray) (x y:Int) (r:SV×Option Blk):Prop:=(errG s x y=0∧r.1 = .tup [(pkG s).s (.ref 6),.c (.int .i64 0)]∧r.2=some (.vec true 70 2 (optsOf (optS s)).length (opCells (optsOf (optS s))))) ∨ (¬ errG s x y=0∧r.1 = .v (.tuple #[nonePk.v (.slice none 0 0),.int .i64 (errG s x y)]))
set_option maxRecDepth 100000 in
set_option maxHeartbeats 4000000 in
theorem fRGet_run (s:ByteArray) (x y:Int) (hs:s.size≤4000):(oneT 6 (runF Tryz.prog (CGv Tryz.prog Tryz.f76 s x y (get s).1 (get s).2.1 (get s).2.2 (rightB s x y)) noL Tryz.f41 (Tryz.f41.body.getD .skip) [.v (.string s),.v (.agg #[.int .i64 x,.int .i64 y])] [])).ok (gQ s x y):=by
  rw [rget10_run]
  have no:∀ (o:Option Blk) (z:Int),errG s x y=z→¬ z=0→gQ s x y (.v (.tuple #[nonePk.v (.slice none 0 0),.int .i64 z]),o):=fun o z h1 h2=>.inr ⟨by rw [h1];exact h2,by rw [h1]⟩
  have nd:∀ {b:Prop} {i:Decidable b},(!decide b)=true→¬ b:=fun {b i} h e=>by rw [decide_eq_true e] at h;cases h
  have nf:∀ {b:Prop} {i:Decidable b},(!decide b)=false→b:=fun {b i} h=>by
    by_cases e:b
    · exact e
    · rw [decide_eq_false e] at h;cases h
  refine t_ite (fun h=>t_leaf (no _ 11 (if_pos (of_decide_eq_true h)) (by decide))) fun h7=>t_need ⟨rfl,by omega⟩ (t_ite (fun h=>?_) fun he=>t_ite (fun h=>?_) fun hw=>t_need ⟨⟨rfl,rfl,rfl⟩,hs⟩ (t_ite (fun h=>?_) fun hr=>?_))
  · have h:=nd h
    have hp:partsE s=(get s).2.2:=if_neg h
    refine t_leaf (no _ (get s).2.2 ?_ h)
    unfold errG;rw [if_neg (of_decide_eq_false h7),if_neg (by rw [hp];exact h),hp]
  · have he:(get s).2.2=0:=nf he
    obtain ⟨w0,w1⟩:=get_words he
    have h:=of_decide_eq_true h
    rw [w64 _ (by omega) (by omega)] at h
    have hp:partsE s=1:=by unfold partsE;rw [if_pos he,if_pos (by omega)]
    refine t_leaf (no _ 1 ?_ (by decide))
    unfold errG;rw [if_neg (of_decide_eq_false h7),if_neg (by rw [hp];decide),hp]
  · have he:(get s).2.2=0:=nf he
    obtain ⟨w0,w1⟩:=get_words he
    have hw:=of_decide_eq_false hw
    rw [w64 _ (by omega) (by omega)] at hw
    have hp:partsE s=0:=by unfold partsE;rw [if_pos he,if_neg (by omega)]
    refine t_leaf (no _ 5 ?_ (by decide))
    unfold errG;rw [if_neg (of_decide_eq_false h7),if_pos hp,if_neg (by simpa using h)]
  · have he:(get s).2.2=0:=nf he
    obtain ⟨w0,w1⟩:=get_words he
    have hw:=of_decide_eq_false hw
    have hwr:i64.wrap (4 * (get s).1.words)=4 * (get s).1.words:=w64 _ (by omega) (by omega)
    rw [hwr] at hw
    have hp:partsE s=0:=by unfold partsE;rw [if_pos he,if_neg (by omega)]
    have hr:rightB s x y=true:=by simpa using hr
    have h7:=of_decide_eq_false h7
    have fit:=fld_fits hp
    have hpo:=partsE_ok hp
    have hasz:=hpo.2.2
    have hbd:(bodyS s).size=(aheadS s).size - (begunN (hG s).long).toNat:=by unfold bodyS;rw [ByteArray.size_extract];omega
    have hb0:0≤begunN (hG s).long:=by unfold begunN;split <;> decide
    have hrs:restW s≤s.size:=by
      have:=hpo.2.1
      show (4 * (hG s).words).toNat≤_
      omega
    obtain ⟨c1,c2,c3⟩:=rget_cut hs he hpo.2.1 (by omega)
    have hD:s.extract (i64.wrap (4 * (get s).1.words)).toNat ((s.size:Int)).toNat=dataS s:=by
      unfold dataS
      rw [if_pos hp,hwr];rfl
    have hE:errG s x y=if noughtR (pk0 s) (bodyS s)=0 then (if getE (optS s)=0 then (if ((pkG s).data.size:Int) > 200 then 11 else if spareP (pkG s)=true then 4 else 0) else getE (optS s)) else 4:=by
      unfold errG;rw [if_neg h7,if_pos hp,if_pos hr]
    obtain ⟨l,eg,hc,h3,h4⟩:=getB_ok he
    have hkk:0≤(hG s).kind∧(hG s).kind≤9:=by
      have:=(Head.check_ok hc).1
      unfold hG;rw [eg];exact this
    have hfit:nFld (pk0 s)≤(bodyS s).size:=by omega
    have hbz:(bodyS s).size≤700:=by omega
    have hO:optS s=(bodyS s).extract (nFld (pk0 s)) (bodyS s).size:=rfl
    have hP:pkG s=fldR (pk0 s) (bodyS s):=rfl
    have hsz:∀ k,((bodyS s).extract k (bodyS s).size).size≤1000:=fun k=>by rw [ByteArray.size_extract];omega
    have e2:decide ((get s).1.kind < 2)=served (get s).1.kind:=by
      have hkk:0≤(get s).1.kind∧(get s).1.kind≤9:=hkk
      unfold served
      by_cases h:(get s).1.kind < 2
      · simp [h];omega
      · simp [h];omega
    have hkind:0≤(get s).1.kind:=hkk.1
    have n1:0≤4 * (get s).1.words∧4 * (get s).1.words≤s.size:=⟨by omega,by omega⟩
    refine t_need ⟨by rw [hwr];exact n1.1,by rw [hwr];exact n1.2,Int.le_refl _⟩ (t_need ⟨Int.le_refl _,by rw [c2];omega,by rw [c2];omega⟩ ?_)
    have q4:∀ o,¬ noughtR (pk0 s) (bodyS s)=0→gQ s x y (.v (.tuple #[nonePk.v (.slice none 0 0),.int .i64 4]),o):=fun o h=>no o 4 (by rw [hE,if_neg h]) (by decide)
    have qg:∀ o,noughtR (pk0 s) (bodyS s)=0→¬ getE ((bodyS s).extract (nFld (pk0 s)) (bodyS s).size)=0→gQ s x y (.v (.tuple #[nonePk.v (.slice none 0 0),.int .i64 (getE ((bodyS s).extract (nFld (pk0 s)) (bodyS s).size))]),o):=fun o h h2=>no o _ (by rw [hE,if_pos h,hO,if_neg h2]) h2
    have q11:∀ o,noughtR (pk0 s) (bodyS s)=0→getE ((bodyS s).extract (nFld (pk0 s)) (bodyS s).size)=0→((dataS s).size:Int) > 200→gQ s x y (.v (.tuple #[nonePk.v (.slice none 0 0),.int .i64 11]),o):=fun o h h2 h3=>no o _ (by rw [hE,if_pos h,hO,if_pos h2,if_pos (by rw [hP];exact h3)]) (by decide)
    have qs:∀ o,noughtR (pk0 s) (bodyS s)=0→getE ((bodyS s).extract (nFld (pk0 s)) (bodyS s).size)=0→¬ ((dataS s).size:Int) > 200→spareP (fldR (pk0 s) (bodyS s))=true→gQ s x y (.v (.tuple #[nonePk.v (.slice none 0 0),.int .i64 4]),o):=fun o h h2 h3 h4=>no o _ (by rw [hE,if_pos h,hO,if_pos h2,if_neg (by rw [hP];exact h3),hP,if_pos h4]) (by decide)
    have qk:noughtR (pk0 s) (bodyS s)=0→getE ((bodyS s).extract (nFld (pk0 s)) (bodyS s).size)=0→¬ ((dataS s).size:Int) > 200→spareP (fldR (pk0 s) (bodyS s))=false→gQ s x y (.tup [(fldR (pk0 s) (bodyS s)).s (.ref 6),.c (.int .i64 0)],some (.vec true 70 2 (optsOf ((bodyS s).extract (nFld (pk0 s)) (bodyS s).size)).length (opCells (optsOf ((bodyS s).extract (nFld (pk0 s)) (bodyS s).size))))):=fun h h2 h3 h4=>.inl ⟨by rw [hE,if_pos h,hO,if_pos h2,if_neg (by rw [hP];exact h3),hP,if_neg (by rw [h4];decide)],by rw [hP],by rw [hO]⟩
    simp only [c1,hD,e2]
    have hk0:pk0 s=⟨(get s).1.kind,(get s).1.long,(get s).1.src,(get s).1.dst,(get s).1.ccval,(get s).1.cover,(get s).1.seq,0,0,0,0,dataS s⟩:=rfl
    rw [hk0] at q4 qg q11 qs qk hfit
    clear no hE hO hP hk0 c1 c2 c3 hD e2 hsz fit hpo hasz hbd hb0 hrs h7 hr hp hwr hw w0 w1 he h3 h4 eg hc hkk n1
    generalize gQ s x y=Q at *
    generalize bodyS s=B at *
    generalize dataS s=D at *
    generalize (get s).1=H at *
    obtain ⟨src,dst,words,ccval,cover,sum,kind,long,seq⟩:=H
    have hsz:∀ k,(B.extract k B.size).size≤1000:=fun k=>by rw [ByteArray.size_extract];omega
    unfold fldR noughtR nFld nAck nSrv nRst at *
    dsimp only at *
    generalize Head.acks kind=a at *
    generalize served kind=v at *
    generalize getE=gE at *
    generalize spareP=sP at *
    generalize valU=vU at *
    generalize optsOf=oO at *
    by_cases k7:kind=7
    · simp only [if_pos k7] at q4 qg q11 qs qk hfit
      rw [decide_eq_true k7]
      cases a <;> cases v <;> cases long <;> (simp only [if_true,if_false,Bool.false_eq_true,Nat.add_zero,Nat.zero_add,Nat.reduceAdd,true_implies] at q4 qg q11 qs qk hfit) <;>
        (repeat' (first | (with_reducible refine t_need ?_ ?_) | (with_reducible refine t_ite ?_ ?_;all_goals intro h;all_goals (try simp only [Bool.not_eq_true',Bool.not_eq_false',decide_eq_true_eq,decide_eq_false_iff_not] at h);all_goals (first | (simp only [Bool.false_eq_true,Bool.true_eq_false] at h;done) | skip)) | (with_reducible refine t_leaf ?_))) <;>
        first | exact hkind | exact hsz _ | (with_reducible exact ⟨trivial,by omega⟩) | exact q4 _ ‹_› | exact qg _ ‹_› ‹_› | exact q11 _ ‹_› ‹_› ‹_› | exact qs _ ‹_› ‹_› ‹_› ‹_› | exact qk ‹_› ‹_› ‹_› ‹_› | exact qg _ ‹_› | exact q11 _ ‹_› ‹_› | exact qs _ ‹_› ‹_› ‹_› | exact qk ‹_› ‹_› ‹_› | omega | skip
    · simp only [if_neg k7] at q4 qg q11 qs qk hfit
      rw [decide_eq_false k7]
      cases a <;> cases v <;> cases long <;> (simp only [if_true,if_false,Bool.false_eq_true,Nat.add_zero,Nat.zero_add,Nat.reduceAdd,true_implies] at q4 qg q11 qs qk hfit) <;>
        (repeat' (first | (with_reducible refine t_need ?_ ?_) | (with_reducible refine t_ite ?_ ?_;all_goals intro h;all_goals (try simp only [Bool.not_eq_true',Bool.not_eq_false',decide_eq_true_eq,decide_eq_false_iff_not] at h);all_goals (first | (simp only [Bool.false_eq_true,Bool.true_eq_false] at h;done) | skip)) | (with_reducible refine t_leaf ?_))) <;>
        first | exact hkind | exact hsz _ | (with_reducible exact ⟨trivial,by omega⟩) | exact q4 _ ‹_› | exact qg _ ‹_› ‹_› | exact q11 _ ‹_› ‹_› ‹_› | exact qs _ ‹_› ‹_› ‹_› ‹_› | exact qk ‹_› ‹_› ‹_› ‹_› | exact qg _ ‹_› | exact q11 _ ‹_› ‹_› | exact qs _ ‹_› ‹_› ‹_› | exact qk ‹_› ‹_› ‹_› | omega | skip
set_option maxRecDepth 100000 in
theorem fRGet_ok:EntryOk Tryz.prog 41 fPGet:=by
  intro ss H t ht bs B w vs hm hv Qs hq
  unfold fPGet at ht
  split at ht
  · rename_i s x y
    simp only [Option.some.injEq] at ht
    subst ht
    obtain ⟨hs,hq1,hq2⟩:=hq
    have run:=oneT_ok (fRGet_run s x y hs)
    refine (inl_ok (L:=noL) (CGv_ok s x y) follows Tryz.func41 (by kernel_rfl) (lexAllF_ok (by kernel_rfl)) (noloops (by kernel_rfl)) [.v (.string s),.v (.agg ⟨[.int .i64 x,.int .i64 y]⟩)] [] _ rfl bs B w vs hm hv _ run).mono ?_
    rintro e w' ⟨s1,H1,B1,v,hr,hpr,he',hx,hm'⟩
    obtain rfl:B=[]:=List.length_eq_zero_iff.1 hm.sat.len
    rcases hr with ⟨h0,hr,hr2⟩ | ⟨h0,hr⟩
    · dsimp only at hr hr2
      subst hr
      obtain ⟨hl,-⟩:=List.getElem?_eq_some_iff.1 hr2
      have hB:6 < B1.length:=by rw [hm'.sat.len];exact hl
      obtain ⟨u,hu⟩:∃ u,B1[6]?=some u:=⟨_,List.getElem?_eq_getElem hB⟩
      refine ⟨_,_,[u],v,hq1 (decide_eq_true h0),List.nil_prefix,he',?_,mem_pick hm' hr2 hu⟩
      rw [← hx]
      simp [SV.to,SV.tos,hu]
    · dsimp only at hr
      subst hr
      have hm2:=only_mem hm' List.nil_prefix
      exact ⟨_,_,[],v,hq2 (decide_eq_false h0),List.prefix_refl _,he',hx,hm2⟩
  · cases ht
end Go.Proofs.YthacfgaacleaeaaGreatDoor
namespace Go.Proofs.YthacfgaacleaeaaGreatDoor
open Go.IntKind (i64 u32)
open Go.RowKit Sym Go.ChangeShapes Go.WideShapes Go.ChangeMaps
def gotL (s:ByteArray):List Op:=optsOf (optS s)
def GetP (s:ByteArray) (x y:Int) (w:World) (e:Ending):Prop :=
  (errG s x y=0∧∃ u,e = .returned (.tuple #[(pkG s).v u,.int .i64 0])∧∀ B,BlkSat B w u (.row (gotL s).length 2 fun i j=>(opN (gotL s) i).c j)) ∨
  (errG s x y ≠ 0∧e = .returned (.tuple #[nonePk.v (.slice none 0 0),.int .i64 (errG s x y)]))
theorem get_world {k:FuncId} (hk:EntryOk Tryz.prog k fPGet) {s:ByteArray} {x y:Int} (hs:s.size≤4000) (w:World):Calls Tryz.prog k #[.string s,.agg #[.int .i64 x,.int .i64 y]] w fun e w'=>GetP s x y w' e∧Below w.heap.size w w':=by
  refine (hk [.v (.string s),.v (.agg ⟨[.int .i64 x,.int .i64 y]⟩)] [] _ rfl [] [] w [.string s,.agg ⟨[.int .i64 x,.int .i64 y]⟩] (mem_none w) rfl
    (fun r=>(errG s x y=0∧r=(.tup [(pkG s).s (.ref 0),.v (.int .i64 0)],[.vec true 70 2 (gotL s).length (opCells (gotL s))])) ∨ (errG s x y ≠ 0∧r=(.v (.tuple #[nonePk.v (.slice none 0 0),.int .i64 (errG s x y)]),[]))) ?_).mono ?_
  · exact ⟨hs,fun h=>.inl ⟨of_decide_eq_true h,rfl⟩,fun h=>.inr ⟨of_decide_eq_false h,rfl⟩⟩
  · rintro e w' ⟨r,H',B',v,hr,-,rfl,hv,hm⟩
    refine ⟨?_,hm.keeps.below⟩
    rcases hr with ⟨h0,hr⟩ | ⟨h0,hr⟩
    · simp only [Prod.mk.injEq] at hr
      obtain ⟨rfl,rfl⟩:=hr
      obtain ⟨u,hu⟩:=hm.sat.getB (k:=0) rfl
      have hb:=hm.sat.blk 0 _ u rfl hu
      refine .inl ⟨h0,u,?_,?_⟩
      · have e1:SV.to B' ((pkG s).s (.ref 0))=some ((pkG s).v u):=Pk.s_to (pkG s) hu
        simp only [SV.to,SV.tos] at hv
        have e2:SV.to B' (.agg [.v (.int .i64 (pkG s).kind),.v (.bool (pkG s).long),.v (.int .i64 (pkG s).src),.v (.int .i64 (pkG s).dst),.v (.int .i64 (pkG s).ccval),.v (.int .i64 (pkG s).cover),.v (.int .i64 (pkG s).seq),.v (.int .i64 (pkG s).ack),.v (.int .i64 (pkG s).service),.v (.int .i64 (pkG s).code),.v (.int .i64 (pkG s).detail),.ref 0,.v (.string (pkG s).data)])=some ((pkG s).v u):=e1
        simp only [SV.to,SV.tos] at e2
        rw [hu] at hv e2
        simp only [Option.map_some,Option.some.injEq] at hv e2
        rw [← hv,e2]
      · intro B
        have h2:BlkSat B w' u (.row (gotL s).length 2 fun i j=>cellAt (opCells (gotL s)) (i * 2+j)):=rowBlk_sat (show BlkSat B w' u (.vec true 70 2 (gotL s).length (opCells (gotL s))) from hb)
        refine row_congr h2 fun i j hi hj=>?_
        obtain ⟨e0,e1⟩:=opCells_at (gotL s) i hi
        match j,hj with
        | 0,_=>exact e0
        | 1,_=>exact e1
    · simp only [Prod.mk.injEq] at hr
      obtain ⟨rfl,rfl⟩:=hr
      simp only [SV.to,Option.some.injEq] at hv
      subst hv
      exact .inr ⟨h0,rfl⟩
theorem ext_le (s:ByteArray) (a b:Nat):(s.extract a b).size≤s.size:=by rw [ByteArray.size_extract];omega
theorem optS_le (s:ByteArray):(optS s).size≤s.size:=by
  have h1:(aheadS s).size≤s.size:=by
    unfold aheadS
    split
    · exact ext_le _ _ _
    · exact Nat.zero_le _
  exact Nat.le_trans (ext_le _ _ _) (Nat.le_trans (ext_le _ _ _) h1)
theorem few_got (s:ByteArray) (hs:s.size≤1000):Few (gotL s).length (opN (gotL s)):=by
  have h:=optsOf_P (optS s) (Nat.le_trans (optS_le s) hs)
  refine ⟨h.2.1,fun i hi=>?_⟩
  have:=h.2.2 i hi
  rw [(opCells_row (optsOf (optS s))).2 i hi] at this
  exact this
end Go.Proofs.YthacfgaacleaeaaGreatDoor
namespace Go.Proofs.YthacfgaacleaeaaGreatDoor
open Go.IntKind (i64 u32)
open Go.RowKit Sym Go.ChangeShapes Go.WideShapes Go.ChangeMaps Go.Lib Go.Shelf
structure Un where
  side:Int
  x:Int
  y:Int
  data:ByteArray
def Un.c (u:Un):Nat→Value
  | 0=>.int .i64 u.side
  | 1=>.int .i64 u.x
  | 2=>.int .i64 u.y
  | _=>.string u.data
end Go.Proofs.YthacfgaacleaeaaGreatDoor
namespace Go.Proofs.YthacfgaacleaeaaGreatDoor
open Go.IntKind (i64 u32)
open Go.RowKit Sym Go.ChangeShapes Go.WideShapes Go.ChangeMaps
end Go.Proofs.YthacfgaacleaeaaGreatDoor
namespace Go.Proofs.YthacfgaacleaeaaGreatDoor
open Go.IntKind (i64 u32)
open Go.RowKit Sym Sha Go.ChangeShapes Go.WideShapes Go.ChangeMaps
def tWithin:List Value→Option (List Prop×Value) | [.int .i64 n,.int .i64 m]=>some ([],.bool (decide (0≤n∧n < m))) | _=>none
def whereB (f t:Int):ByteArray:=Oct.put (Oct.put ⟨⟨[]⟩⟩ f 4) t 4
def markB (k:ByteArray) (f t:Int) (s:ByteArray):ByteArray:=(macOf k (whereB f t++s)).extract 0 16
def tMark:List Value→Option (List Prop×Value) | [.string k,.agg ⟨[.int .i64 f,.int .i64 t]⟩,.string s]=>some ([k.size≤1000000000000∧s.size≤10000000000],.string (markB k f t s)) | _=>none
set_option maxRecDepth 100000 in
theorem put16_run (s:ByteArray) (n k:Int):runV Tryz.prog (onlyS Tryz.prog SMac3) noL Tryz.f140 [.string s,.int .i64 n,.int .i64 k] = .need ((0:Int)≤IntKind.u64.wrap n∧IntKind.u64.wrap n < (18446744073709551616:Int)∧(0:Int)≤k∧k≤(8:Int)∧s.size≤1099511627776) (.leaf (Value.string (Oct.put s (IntKind.u64.wrap n) k))):=by kernel_rfl
theorem put16 (s:ByteArray) (n k:Int) (h:0≤k∧k≤8∧s.size≤1099511627776) (w:World):Calls Tryz.prog 140 #[.string s,.int .i64 n,.int .i64 k] w fun e w'=>e = .returned (.string (Oct.put s n k))∧Below w.heap.size w w':=by
  refine calls_runV (onlyS_ok SMac3_ok) follows Tryz.func140 (by kernel_rfl) (by kernel_rfl) noL_ok (put16_run s n k) ?_ w
  have hu:=u64_range n
  rw [put_u64]
  exact ⟨⟨hu.1,hu.2,h.1,h.2.1,h.2.2⟩,rfl⟩
def SCook1  : Tab:=addS 140 tOctPut <| SMac3
theorem SCook1_ok:TabOk Tryz.prog (SCook1):=by
  refine addS_ok (SMac3_ok) (by kernel_rfl) ?_
  · (intro xs p v h hp w;unfold tOctPut at h;(split at h) <;> first | (cases h;done) | (simp only [Option.some.injEq,Prod.mk.injEq] at h;obtain ⟨rfl,rfl⟩:=h;exact put16 _ _ _ (hp _ (List.mem_cons_self ..)) w))
set_option maxRecDepth 100000 in
theorem mark_run (k:ByteArray) (f t:Int) (s:ByteArray):runV Tryz.prog (CL Tryz.prog SCook1) noL Tryz.f92 [.string k,.agg #[.int .i64 f,.int .i64 t],.string s] =
 letI q:=(4:Int);
 letI q0:=Oct.put (ByteArray.mk #[]) f q;
 letI q1:=(0:Int);
 letI q2:=catL [Oct.put q0 t q,s];
 .need (q1≤q∧q≤(8:Int)∧(ByteArray.mk #[]).size≤1099511627776) (.need (q1≤q∧q≤(8:Int)∧q0.size≤1099511627776) (.need (2≤maxLen∧k.size≤1000000000000∧q2.size≤100000000000) (.need (q1≤q1∧q1≤(16:Int)∧(16:Int)≤(↑(macOf k q2).size:Int)) (.leaf (Value.string ((macOf k (Oct.put (Oct.put (ByteArray.mk (Array.mk [])) f q) t q++s)).extract 0 16)))))):=by kernel_rfl
set_option maxRecDepth 100000 in
theorem tag16_run (k:ByteArray) (f t:Int) (s:ByteArray):runV Tryz.prog (onlyS Tryz.prog SCook1) noL Tryz.f96 [.string k,.agg #[.int .i64 f,.int .i64 t],.string s] =
 letI q:=(4:Int);
 letI q0:=Oct.put (ByteArray.mk #[]) f q;
 letI q1:=Oct.put (ByteArray.mk (Array.mk [])) f q;
 letI q2:=(0:Int);
 letI q3:=Oct.put q0 t q++s;
 .need (q2≤q∧q≤(8:Int)∧(ByteArray.mk #[]).size≤1099511627776) (.need (q2≤q∧q≤(8:Int)∧q0.size≤1099511627776) (.need ((Oct.put q1 t q).size+s.size≤9223372036854775807) (.need (k.size≤1000000000000∧q3.size≤100000000000) (.need (q2≤q2∧q2≤(16:Int)∧(16:Int)≤(↑(macOf k q3).size:Int)) (.leaf (Value.string ((macOf k (Oct.put q1 t q++s)).extract 0 16))))))):=by kernel_rfl
end Go.Proofs.YthacfgaacleaeaaGreatDoor
namespace Go.Proofs.YthacfgaacleaeaaGreatDoor
open Go.IntKind (i64 u32)
open Go.RowKit Sym Sha Go.ChangeShapes Go.WideShapes Go.ChangeMaps
theorem whereB_size (f t:Int):(whereB f t).size=8:=by unfold whereB;rw [put_sz,put_sz];rfl
theorem cookie_mark (k:ByteArray) (f t:Int) (s:ByteArray) (h:k.size≤1000000000000∧s.size≤10000000000) (w:World):Calls Tryz.prog 92 #[.string k,.agg #[.int .i64 f,.int .i64 t],.string s] w fun e w'=>e = .returned (.string (markB k f t s))∧Below w.heap.size w w':=by
  refine calls_runV (CL_ok SCook1_ok) follows Tryz.func92 (by kernel_rfl) (by kernel_rfl) (noloops (by kernel_rfl)) (mark_run k f t s) ?_ w
  have hz:(whereB f t++s).size=8+s.size:=by rw [ByteArray.size_append,whereB_size]
  have hm:((macOf k (whereB f t++s)).size:Int)=32:=by rw [macOf_size];rfl
  refine ⟨⟨by omega,by omega,by decide⟩,⟨by omega,by omega,?_⟩,⟨by decide,h.1,?_⟩,⟨by omega,by omega,?_⟩,rfl⟩
  · rw [put_sz];decide
  · show (whereB f t++s).size≤_
    omega
  · show 16≤((macOf k (whereB f t++s)).size:Int)
    omega
theorem ref16_tag (k:ByteArray) (f t:Int) (s:ByteArray) (h:k.size≤1000000000000∧s.size≤10000000000) (w:World):Calls Tryz.prog 96 #[.string k,.agg #[.int .i64 f,.int .i64 t],.string s] w fun e w'=>e = .returned (.string (markB k f t s))∧Below w.heap.size w w':=by
  refine calls_runV (onlyS_ok SCook1_ok) follows Tryz.func96 (by kernel_rfl) (by kernel_rfl) noL_ok (tag16_run k f t s) ?_ w
  have hz:(whereB f t++s).size=8+s.size:=by rw [ByteArray.size_append,whereB_size]
  have hw:=whereB_size f t
  have hm:((macOf k (whereB f t++s)).size:Int)=32:=by rw [macOf_size];rfl
  refine ⟨⟨by omega,by omega,by decide⟩,⟨by omega,by omega,?_⟩,?_,⟨h.1,?_⟩,⟨by omega,by omega,?_⟩,rfl⟩
  · rw [put_sz];decide
  · show (whereB f t).size+s.size≤_
    omega
  · show (whereB f t++s).size≤_
    omega
  · show 16≤((macOf k (whereB f t++s)).size:Int)
    omega
def SCook2  : Tab:=addS 92 tMark <| addS 96 tMark <| addS 91 tSame <| SCook1
theorem SCook2_ok:TabOk Tryz.prog (SCook2):=by
  refine addS_ok (addS_ok (addS_ok (SCook1_ok) (by kernel_rfl) ?_) (by kernel_rfl) ?_) (by kernel_rfl) ?_
  · (intro xs p v h hp w;unfold tSame at h;(split at h) <;> first | (cases h;done) | (simp only [Option.some.injEq,Prod.mk.injEq] at h;obtain ⟨rfl,rfl⟩:=h;exact mac_Same _ _ (hp _ (List.mem_cons_self ..)) w))
  · (intro xs p v h hp w;unfold tMark at h;(split at h) <;> first | (cases h;done) | (simp only [Option.some.injEq,Prod.mk.injEq] at h;obtain ⟨rfl,rfl⟩:=h;exact ref16_tag _ _ _ _ (hp _ (List.mem_cons_self ..)) w))
  · (intro xs p v h hp w;unfold tMark at h;(split at h) <;> first | (cases h;done) | (simp only [Option.some.injEq,Prod.mk.injEq] at h;obtain ⟨rfl,rfl⟩:=h;exact cookie_mark _ _ _ _ (hp _ (List.mem_cons_self ..)) w))
set_option maxRecDepth 100000 in
theorem open_run (k:ByteArray) (f t:Int) (s:ByteArray):runV Tryz.prog (CC Tryz.prog SCook2 Tryz.f76) noL Tryz.f45 [.string k,.agg #[.int .i64 f,.int .i64 t],.string s] =
 letI q6:=(↑s.size:Int);
 letI q2:=q6 - (16:Int);
 letI q:=i64.wrap q2;
 letI q7:=Value.int i64 0;
 letI q0:=Value.agg (Array.mk [q7,q7,q7,q7,Value.string (ByteArray.mk (Array.mk []))]);
 letI q3:=(0:Int);
 letI q1:=s.extract (Int.toNat q3) q.toNat;
 letI q4:=(6:Int);
 letI q5:=s.extract 0 q.toNat;
 letI q8:=q3≤q3∧q3≤i64.wrap q2∧i64.wrap q2≤q6;
 letI q9:=(↑q1.size:Int);
 letI p:=(4:Int);
 letI p0:=(1:Int);
 letI p1:=(7:Int);
 .ite (decide (i64.wrap q2 < (22:Int))) (.leaf (Value.tuple (Array.mk [q0,Value.int i64 1]))) (.ite (decide (i64.wrap q2 > (62:Int))) (.leaf (Value.tuple (Array.mk [q0,Value.int i64 11]))) (.need q8 (.need (k.size≤1000000000000∧q1.size≤10000000000) (.need (q3≤i64.wrap q2∧i64.wrap q2≤q6∧q6≤q6) (.need ((markB k f t q5).size≤9223372036854775807) (.ite (!decide (markB k f t q5=s.extract q.toNat q6.toNat)) (.leaf (Value.tuple (Array.mk [q0,Value.int i64 14]))) (.need q8 (.need (q3=q3∧q3≤q3∧p0≤q4∧q4≤p1∧q3+q4≤q9∧q1.size≤1000000) (.need (q3=q3∧q3≤q3+q4∧p0≤q4∧q4≤p1∧q3+q4+q4≤q9∧q1.size≤1000000) (.need (q3=q3∧q3≤q3+q4+q4∧p0≤p∧p≤p1∧q3+q4+q4+p≤q9∧q1.size≤1000000) (.need (q3=q3∧q3≤q3+q4+q4+p∧p0≤q4∧q4≤p1∧q3+q4+q4+p+q4≤q9∧q1.size≤1000000) (.need (q3=q3∧q3≤q3+q4+q4+p+q4∧q3+q4+q4+p+q4≤q9∧q1.size≤1000000) (.ite (decide (valU (q5.extract 16 22) > (1099511627776:Int))) (.leaf (Value.tuple (Array.mk [q0,Value.int i64 3]))) (.leaf (Value.tuple (Array.mk [Value.agg (Array.mk [Value.int i64 (valU (q5.extract 0 6)),Value.int i64 (valU (q5.extract 6 12)),Value.int i64 (valU (q5.extract 12 16)),Value.int i64 (valU (q5.extract 16 22)),Value.string (q5.extract 22 q5.size)]),q7])))))))))))))))):=by kernel_rfl
set_option maxRecDepth 100000 in
theorem open16_run (k:ByteArray) (f t:Int) (s:ByteArray):runV Tryz.prog (CC Tryz.prog SCook2 Tryz.f76) noL Tryz.f48 [.string k,.agg #[.int .i64 f,.int .i64 t],.string s] =
 letI q3:=(↑s.size:Int);
 letI q9:=q3 - (16:Int);
 letI q:=i64.wrap q9;
 letI q7:=Value.int i64 0;
 letI q0:=Value.agg (Array.mk [q7,q7,q7,q7,Value.string (ByteArray.mk (Array.mk []))]);
 letI q2:=(0:Int);
 letI q1:=s.extract (Int.toNat q2) q.toNat;
 letI q4:=(6:Int);
 letI q5:=s.extract 0 q.toNat;
 letI q6:=q2≤q2∧q2≤i64.wrap q9∧i64.wrap q9≤q3;
 letI q8:=(↑q1.size:Int);
 letI p:=(4:Int);
 letI p0:=(1:Int);
 letI p1:=(7:Int);
 .ite (decide (q3 < (38:Int))) (.leaf (Value.tuple (Array.mk [q0,Value.int i64 1]))) (.ite (decide (q3 > (78:Int))) (.leaf (Value.tuple (Array.mk [q0,Value.int i64 11]))) (.need (q2≤i64.wrap q9∧i64.wrap q9≤q3∧q3≤q3) (.need q6 (.need (k.size≤1000000000000∧q1.size≤10000000000) (.ite (!decide (s.extract q.toNat q3.toNat=markB k f t q5)) (.leaf (Value.tuple (Array.mk [q0,Value.int i64 14]))) (.need q6 (.need (q2=q2∧q2≤q2∧p0≤q4∧q4≤p1∧q2+q4≤q8∧q1.size≤1000000) (.need (q2=q2∧q2≤q2+q4∧p0≤q4∧q4≤p1∧q2+q4+q4≤q8∧q1.size≤1000000) (.need (q2=q2∧q2≤q2+q4+q4∧p0≤p∧p≤p1∧q2+q4+q4+p≤q8∧q1.size≤1000000) (.need (q2=q2∧q2≤q2+q4+q4+p∧p0≤q4∧q4≤p1∧q2+q4+q4+p+q4≤q8∧q1.size≤1000000) (.need (q2=q2∧q2≤q2+q4+q4+p+q4∧q2+q4+q4+p+q4≤q8∧q1.size≤1000000) (.ite (decide (valU (q5.extract 16 22) > (1099511627776:Int))) (.leaf (Value.tuple (Array.mk [q0,Value.int i64 3]))) (.leaf (Value.tuple (Array.mk [Value.agg (Array.mk [Value.int i64 (valU (q5.extract 0 6)),Value.int i64 (valU (q5.extract 6 12)),Value.int i64 (valU (q5.extract 12 16)),Value.int i64 (valU (q5.extract 16 22)),Value.string (q5.extract 22 q5.size)]),q7]))))))))))))))):=by kernel_rfl
structure Nt where
  a:Int
  b:Int
  c:Int
  d:Int
  x:ByteArray
def nt0:Nt:=⟨0,0,0,0,⟨⟨[]⟩⟩⟩
def Nt.v (n:Nt):Value:=.agg #[.int .i64 n.a,.int .i64 n.b,.int .i64 n.c,.int .i64 n.d,.string n.x]
def okN (n:Nt):Prop:=(0≤n.a∧n.a < 281474976710656)∧(0≤n.b∧n.b < 281474976710656)∧(0≤n.c∧n.c < 4294967296)∧(0≤n.d∧n.d < 1099511627777)
instance (n:Nt):Decidable (okN n):=by unfold okN;exact inferInstance
theorem markB_size (k:ByteArray) (f t:Int) (s:ByteArray):(markB k f t s).size=16:=by unfold markB;rw [ByteArray.size_extract,macOf_size];rfl
end Go.Proofs.YthacfgaacleaeaaGreatDoor
namespace Go.Proofs.YthacfgaacleaeaaGreatDoor
open Go.IntKind (i64 u32)
open Go.RowKit Sym Sha Go.ChangeShapes Go.WideShapes Go.ChangeMaps
def body (s:ByteArray):ByteArray:=s.extract 0 (s.size - 16)
def openE (k:ByteArray) (f t:Int) (s:ByteArray):Int:=if s.size < 38 then 1 else if s.size > 78 then 11 else if ¬ s.extract (s.size - 16) s.size=markB k f t (body s) then 14 else if valU ((body s).extract 16 22) > 1099511627776 then 3 else 0
def openN (k:ByteArray) (f t:Int) (s:ByteArray):Nt:=if openE k f t s=0 then ⟨valU ((body s).extract 0 6),valU ((body s).extract 6 12),valU ((body s).extract 12 16),valU ((body s).extract 16 22),(body s).extract 22 (body s).size⟩ else nt0
theorem openE_zero {k:ByteArray} {f t:Int} {s:ByteArray}:openE k f t s=0 ↔ (38≤s.size∧s.size≤78)∧s.extract (s.size - 16) s.size=markB k f t (body s)∧valU ((body s).extract 16 22)≤1099511627776:=by
  unfold openE
  by_cases h1:s.size < 38
  · rw [if_pos h1];constructor
    · intro h;cases h
    · intro h;omega
  rw [if_neg h1]
  by_cases h2:s.size > 78
  · rw [if_pos h2];constructor
    · intro h;cases h
    · intro h;omega
  rw [if_neg h2]
  by_cases h3:s.extract (s.size - 16) s.size=markB k f t (body s)
  · rw [if_neg (fun g=>g h3)]
    by_cases h4:valU ((body s).extract 16 22) > 1099511627776
    · rw [if_pos h4];constructor
      · intro h;cases h
      · intro h;omega
    · rw [if_neg h4];exact ⟨fun _=>⟨⟨by omega,by omega⟩,h3,by omega⟩,fun _=>rfl⟩
  · rw [if_pos h3];constructor
    · intro h;cases h
    · intro h;exact (h3 h.2.1).elim
end Go.Proofs.YthacfgaacleaeaaGreatDoor
namespace Go.Proofs.YthacfgaacleaeaaGreatDoor
open Go.IntKind (i64 u32)
open Go.RowKit Sym Sha Go.ChangeShapes Go.WideShapes Go.ChangeMaps
def openV (k:ByteArray) (f t:Int) (s:ByteArray):Value:=.tuple #[(openN k f t s).v,.int .i64 (openE k f t s)]
theorem open_bad {k:ByteArray} {f t:Int} {s:ByteArray} {e:Int} (h:openE k f t s=e) (he:e ≠ 0):Value.tuple #[.agg #[.int .i64 0,.int .i64 0,.int .i64 0,.int .i64 0,.string ⟨⟨[]⟩⟩],.int .i64 e]=openV k f t s:=by
  unfold openV openN
  rw [if_neg (by rw [h];exact he),h];rfl
theorem open_good {k:ByteArray} {f t:Int} {s:ByteArray} (h:openE k f t s=0):Value.tuple #[.agg #[.int .i64 (valU ((body s).extract 0 6)),.int .i64 (valU ((body s).extract 6 12)),.int .i64 (valU ((body s).extract 12 16)),.int .i64 (valU ((body s).extract 16 22)),.string ((body s).extract 22 (body s).size)],.int .i64 0]=openV k f t s:=by
  unfold openV openN
  rw [if_pos h,h];rfl
theorem openE_1 {k:ByteArray} {f t:Int} {s:ByteArray} (h:s.size < 38):openE k f t s=1:=by unfold openE;rw [if_pos h]
theorem openE_11 {k:ByteArray} {f t:Int} {s:ByteArray} (h:s.size > 78):openE k f t s=11:=by unfold openE;rw [if_neg (by omega),if_pos h]
theorem openE_14 {k:ByteArray} {f t:Int} {s:ByteArray} (h0:¬ s.size < 38) (h1:¬ s.size > 78) (h:¬ s.extract (s.size - 16) s.size=markB k f t (body s)):openE k f t s=14:=by unfold openE;rw [if_neg h0,if_neg h1,if_pos h]
theorem openE_3 {k:ByteArray} {f t:Int} {s:ByteArray} (h0:¬ s.size < 38) (h1:¬ s.size > 78) (h:s.extract (s.size - 16) s.size=markB k f t (body s)) (hv:valU ((body s).extract 16 22) > 1099511627776):openE k f t s=3:=by
  unfold openE;rw [if_neg h0,if_neg h1,if_neg (fun g=>g h),if_pos hv]
set_option maxRecDepth 100000 in
theorem ref16_Open (k:ByteArray) (f t:Int) (s:ByteArray) (hk:k.size≤1000000000000) (hs:s.size≤1000000) (w:World):Calls Tryz.prog 48 #[.string k,.agg #[.int .i64 f,.int .i64 t],.string s] w fun e w'=>e = .returned (openV k f t s)∧Below w.heap.size w w':=by
  refine calls_runV (CC_ok SCook2_ok) follows Tryz.func48 (by kernel_rfl) (by kernel_rfl) (noloops (by kernel_rfl)) (open16_run k f t s) ?_ w
  have hw:¬ s.size < 38→i64.wrap ((s.size:Int) - 16)=((s.size - 16:Nat):Int):=fun h=>by rw [w64 _ (by omega) (by omega)];omega
  refine ⟨fun h=>?_,fun h1=>⟨fun h=>?_,fun h2=>?_⟩⟩
  · have h:=of_decide_eq_true h
    exact open_bad (openE_1 (by omega)) (by decide)
  · have h:=of_decide_eq_true h
    exact open_bad (openE_11 (by omega)) (by decide)
  · have h1:=of_decide_eq_false h1
    have h2:=of_decide_eq_false h2
    have n1:¬ s.size < 38:=by omega
    have n2:¬ s.size > 78:=by omega
    rw [hw n1]
    simp only [Int.toNat_natCast]
    have hb:(body s).size=s.size - 16:=by unfold body;rw [ByteArray.size_extract];omega
    have q:(0:Int)≤((s.size - 16:Nat):Int)∧((s.size - 16:Nat):Int)≤s.size:=by omega
    have qb:((body s).size:Int)=(s.size:Int) - 16:=by omega
    refine ⟨⟨q.1,q.2,by omega⟩,⟨by omega,q.1,q.2⟩,⟨hk,?_⟩,fun h=>?_,fun h3=>⟨⟨by omega,q.1,q.2⟩,⟨by first | trivial | omega,by first | trivial | omega,by first | trivial | omega,by first | trivial | omega,?_,?_⟩,⟨by first | trivial | omega,by first | trivial | omega,by first | trivial | omega,by first | trivial | omega,?_,?_⟩,⟨by first | trivial | omega,by first | trivial | omega,by first | trivial | omega,by first | trivial | omega,?_,?_⟩,⟨by first | trivial | omega,by first | trivial | omega,by first | trivial | omega,by first | trivial | omega,?_,?_⟩,⟨by first | trivial | omega,by first | trivial | omega,?_,?_⟩,fun h=>?_,fun h4=>?_⟩⟩
    · show (body s).size≤_
      omega
    · exact open_bad (openE_14 n1 n2 (fun g=>ndt h g)) (by decide)
    · show 0+6≤((body s).size:Int)
      omega
    · show (body s).size≤_
      omega
    · show 0+6+6≤((body s).size:Int)
      omega
    · show (body s).size≤_
      omega
    · show 0+6+6+4≤((body s).size:Int)
      omega
    · show (body s).size≤_
      omega
    · show 0+6+6+4+6≤((body s).size:Int)
      omega
    · show (body s).size≤_
      omega
    · show 0+6+6+4+6≤((body s).size:Int)
      omega
    · show (body s).size≤_
      omega
    · have h:=of_decide_eq_true h
      exact open_bad (openE_3 n1 n2 (ndf h3) h) (by decide)
    · have h4:=of_decide_eq_false h4
      have h4:¬ valU ((body s).extract 16 22) > 1099511627776:=h4
      exact open_good (openE_zero.2 ⟨⟨by omega,by omega⟩,ndf h3,by omega⟩)
set_option maxRecDepth 100000 in
theorem cookie_Open (k:ByteArray) (f t:Int) (s:ByteArray) (hk:k.size≤1000000000000) (hs:s.size≤1000000) (w:World):Calls Tryz.prog 45 #[.string k,.agg #[.int .i64 f,.int .i64 t],.string s] w fun e w'=>e = .returned (openV k f t s)∧Below w.heap.size w w':=by
  refine calls_runV (CC_ok SCook2_ok) follows Tryz.func45 (by kernel_rfl) (by kernel_rfl) (noloops (by kernel_rfl)) (open_run k f t s) ?_ w
  have hw0:i64.wrap ((s.size:Int) - 16)=(s.size:Int) - 16:=w64 _ (by omega) (by omega)
  have hw:¬ s.size < 38→i64.wrap ((s.size:Int) - 16)=((s.size - 16:Nat):Int):=fun h=>by rw [hw0];omega
  refine ⟨fun h=>?_,fun h1=>⟨fun h=>?_,fun h2=>?_⟩⟩
  · have h:=of_decide_eq_true h
    rw [hw0] at h
    exact open_bad (openE_1 (by omega)) (by decide)
  · have h:=of_decide_eq_true h
    rw [hw0] at h
    exact open_bad (openE_11 (by omega)) (by decide)
  · have h1:=of_decide_eq_false h1
    have h2:=of_decide_eq_false h2
    rw [hw0] at h1 h2
    have n1:¬ s.size < 38:=by omega
    have n2:¬ s.size > 78:=by omega
    rw [hw n1]
    simp only [Int.toNat_natCast]
    have hb:(body s).size=s.size - 16:=by unfold body;rw [ByteArray.size_extract];omega
    have q:(0:Int)≤((s.size - 16:Nat):Int)∧((s.size - 16:Nat):Int)≤s.size:=by omega
    have qb:((body s).size:Int)=(s.size:Int) - 16:=by omega
    refine ⟨⟨by omega,q.1,q.2⟩,⟨hk,?_⟩,⟨q.1,q.2,by omega⟩,?_,fun h=>?_,fun h3=>⟨⟨by omega,q.1,q.2⟩,⟨by first | trivial | omega,by first | trivial | omega,by first | trivial | omega,by first | trivial | omega,?_,?_⟩,⟨by first | trivial | omega,by first | trivial | omega,by first | trivial | omega,by first | trivial | omega,?_,?_⟩,⟨by first | trivial | omega,by first | trivial | omega,by first | trivial | omega,by first | trivial | omega,?_,?_⟩,⟨by first | trivial | omega,by first | trivial | omega,by first | trivial | omega,by first | trivial | omega,?_,?_⟩,⟨by first | trivial | omega,by first | trivial | omega,?_,?_⟩,fun h=>?_,fun h4=>?_⟩⟩
    · show (body s).size≤_
      omega
    · rw [markB_size];omega
    · exact open_bad (openE_14 n1 n2 (fun g=>ndt h g.symm)) (by decide)
    · show 0+6≤((body s).size:Int)
      omega
    · show (body s).size≤_
      omega
    · show 0+6+6≤((body s).size:Int)
      omega
    · show (body s).size≤_
      omega
    · show 0+6+6+4≤((body s).size:Int)
      omega
    · show (body s).size≤_
      omega
    · show 0+6+6+4+6≤((body s).size:Int)
      omega
    · show (body s).size≤_
      omega
    · show 0+6+6+4+6≤((body s).size:Int)
      omega
    · show (body s).size≤_
      omega
    · have h:=of_decide_eq_true h
      exact open_bad (openE_3 n1 n2 (ndf h3).symm h) (by decide)
    · have h4:=of_decide_eq_false h4
      have h4:¬ valU ((body s).extract 16 22) > 1099511627776:=h4
      exact open_good (openE_zero.2 ⟨⟨by omega,by omega⟩,(ndf h3).symm,by omega⟩)
end Go.Proofs.YthacfgaacleaeaaGreatDoor
namespace Go.Proofs.YthacfgaacleaeaaGreatDoor
open Go.IntKind (i64 u32)
open Go.RowKit Sym Sha Go.ChangeShapes Go.WideShapes Go.ChangeMaps Go.Deep
end Go.Proofs.YthacfgaacleaeaaGreatDoor
namespace Go.Proofs.YthacfgaacleaeaaGreatDoor
open Go.IntKind (i64 u32)
open Go.RowKit Sym Sha Go.ChangeShapes Go.WideShapes Go.ChangeMaps
def readE (s:ByteArray):Int:=if s.size=0 then 1 else if byteAt s 0 > 2 then 7 else if byteAt s 0=0 then (if s.size=1 then 0 else 4) else if s.size=9 then 0 else 4
def readW (s:ByteArray):Int:=if readE s=0 then byteAt s 0 else 0
def readK (s:ByteArray):ByteArray:=if readE s=0∧byteAt s 0=1 then s.extract 1 9 else ⟨⟨[]⟩⟩
def readA (s:ByteArray):Int:=if readE s=0∧byteAt s 0=2 then valU (s.extract 1 5) else 0
def readB (s:ByteArray):Int:=if readE s=0∧byteAt s 0=2 then valU (s.extract 5 9) else 0
def readV (s:ByteArray):Value:=.tuple #[.agg #[.int .i64 (readW s),.string (readK s),.int .i64 0,.int .i64 (readA s),.int .i64 (readB s)],.int .i64 (readE s)]
set_option maxRecDepth 100000 in
theorem read_run (s:ByteArray):runV Tryz.prog (CCut Tryz.prog noS) noL Tryz.f46 [.string s] =
 letI q1:=Value.int i64 0;
 letI q7:=Value.string (ByteArray.mk (Array.mk []));
 letI q:=Value.agg (Array.mk [q1,q7,q1,q1,q1]);
 letI q0:T Value:=.leaf (Value.tuple (Array.mk [q,Value.int i64 4]));
 letI q2:=(↑s.size:Int);
 letI q3:=(0:Int);
 letI q4:=(1:Int);
 letI q5:=(4:Int);
 letI q9:=s.extract 0 1;
 letI q6:=Value.int i64 (valU q9);
 letI q8:T Value:=.leaf (Value.tuple (Array.mk [q,Value.int i64 7]));
 letI p:=decide ((9:Int)≤q2);
 letI p0:=decide ((9:Int) < q2);
 letI p1:=(8:Int);
 letI p2:=q4≤q5;
 .ite (decide (s=ByteArray.mk (Array.mk []))) (.leaf (Value.tuple (Array.mk [q,Value.int i64 1]))) (.need (q3≤q3∧q3≤q2∧q4≤q4∧q4≤(7:Int)∧s.size≤1000000) (.ite (decide (q4≤q2)) (.ite (decide (valU q9=q3)) (.need (q3≤q3+q4∧q3+q4≤q2∧s.size≤1000000) (.ite (decide (q4 < q2)) q0 (.leaf (Value.tuple (Array.mk [Value.agg (Array.mk [q6,q7,q1,q1,q1]),q1]))))) (.ite (decide (valU q9=q4)) (.need (q3≤q3+q4∧q3+q4≤q2∧q3≤p1∧p1≤(1000000:Int)∧s.size≤1000000) (.ite p (.need (q3≤q3+q4+p1∧q3+q4+p1≤q2∧s.size≤1000000) (.ite p0 q0 (.leaf (Value.tuple (Array.mk [Value.agg (Array.mk [q6,Value.string (s.extract 1 9),q1,q1,q1]),q1]))))) q0)) (.ite (decide (valU q9=(2:Int))) (.need (q3≤q3+q4∧q3+q4≤q2∧q4≤q5∧q5≤(7:Int)∧s.size≤1000000) (.ite (decide ((5:Int)≤q2)) (.need (q3≤q3+q4+q5∧q3+q4+q5≤q2∧q4≤q5∧q5≤(7:Int)∧s.size≤1000000) (.ite p (.need (q3≤q3+q4+q5+q5∧q3+q4+q5+q5≤q2∧s.size≤1000000) (.ite p0 q0 (.leaf (Value.tuple (Array.mk [Value.agg (Array.mk [q6,q7,q1,Value.int i64 (valU (s.extract 1 5)),Value.int i64 (valU (s.extract 5 9))]),q1]))))) q0)) (.need p2 q0))) q8))) (.ite true q0 (.ite false q0 (.ite false (.need p2 (.need p2 q0)) q8))))):=by kernel_rfl
set_option maxRecDepth 100000 in
theorem readR_run (s:ByteArray):runV Tryz.prog (onlyS Tryz.prog SOct) noL Tryz.f49 [.string s] =
 letI q5:=(0:Int);
 letI q3:=(↑s.size:Int);
 letI q1:=q5≤q5∧q5 < q3;
 letI q9:=decide (byteAt s q5=q5);
 letI q2:=Value.int i64 0;
 letI q7:=Value.string (ByteArray.mk (Array.mk []));
 letI q0:=Value.agg (Array.mk [q2,q7,q2,q2,q2]);
 letI q8:=(1:Int);
 letI p1:=Value.int i64 1;
 letI p:=(5:Int);
 letI p0:=s.extract 5 q3.toNat;
 letI q:T Value:=.need q1 (.ite q9 (.leaf (Value.tuple (Array.mk [q0,q2]))) (.need q1 (.ite (decide (byteAt s q5=q8)) (.need (q5≤q8∧q8≤q3∧q3≤q3) (.leaf (Value.tuple (Array.mk [Value.agg (Array.mk [p1,Value.string (s.extract 1 q3.toNat),q2,q2,q2]),q2])))) (.need (q5≤q8∧q8≤p∧p≤q3) (.need ((s.extract 1 5).size≤9223372036854775807) (.need (q5≤p∧p≤q3∧q3≤q3) (.need (p0.size≤9223372036854775807) (.leaf (Value.tuple (Array.mk [Value.agg (Array.mk [Value.int i64 2,q7,q2,Value.int i64 (i64.wrap (valU (s.extract 1 5))),Value.int i64 (i64.wrap (valU p0))]),q2]))))))))));
 letI q6:T Value:=.leaf (Value.tuple (Array.mk [q0,Value.int i64 4]));
 letI q4:T Value:=.need q1 (.ite (decide (byteAt s q5 > q5)) (.ite (!decide (q3=(9:Int))) q6 q) q);
 .ite (decide (s=ByteArray.mk (Array.mk []))) (.leaf (Value.tuple (Array.mk [q0,p1]))) (.need q1 (.ite (decide (byteAt s q5 > (2:Int))) (.leaf (Value.tuple (Array.mk [q0,Value.int i64 7]))) (.need q1 (.ite q9 (.ite (!decide (q3=q8)) q6 q4) q4)))):=by kernel_rfl
theorem byte_in (s:ByteArray):0≤byteAt s 0∧byteAt s 0 < 256:=by
  unfold byteAt
  have:=(s.data.toList.getD (0:Int).toNat 0).toNat_lt
  omega
theorem val_first (s:ByteArray) (h:1≤s.size):valU (s.extract 0 1)=byteAt s 0:=by
  have hl:s.data.toList.length=s.size:=by simp
  have e:(s.extract 0 1).data.toList=[s.data.toList.getD 0 0]:=by
    have:(s.extract 0 1).data.toList=s.data.toList.take 1:=by simp
    rw [this]
    cases hs:s.data.toList with
    | nil=>rw [hs] at hl;simp at hl;omega
    | cons x l=>simp
  unfold valU byteAt
  rw [e]
  have hx:=(s.data.toList.getD 0 0).toNat_lt
  show ((Oct.val [s.data.toList.getD 0 0] % 18446744073709551616:Nat):Int)=_
  have:Oct.val [s.data.toList.getD 0 0]=(s.data.toList.getD 0 0).toNat:=by simp [Oct.val]
  rw [this]
  show _=(((s.data.toList.getD 0 0).toNat:Nat):Int)
  omega
theorem ba_nil_iff (s:ByteArray):s=ByteArray.mk (Array.mk []) ↔ s.size=0:=by
  constructor
  · rintro rfl;rfl
  · intro h
    have:s.data.toList=[]:=List.length_eq_zero_iff.1 (by simpa using h)
    cases s with
    | mk d=>simp at this;subst this;rfl
set_option maxRecDepth 100000 in
theorem join_read (s:ByteArray) (h:s.size≤1000000) (w:World):Calls Tryz.prog 46 #[.string s] w fun e w'=>e = .returned (readV s)∧Below w.heap.size w w':=by
  refine calls_runV (both_ok noS_ok FCutC_ok) follows Tryz.func46 (by kernel_rfl) (by kernel_rfl) (noloops (by kernel_rfl)) (read_run s) ?_ w
  have hb:=byte_in s
  have w1:=fun h=>(wrap_valU (s.extract 1 5) 4 (by rw [ByteArray.size_extract];omega) h).2
  have w2:=fun h=>(wrap_valU (s.extract 5 9) 4 (by rw [ByteArray.size_extract];omega) h).2
  have w1:=w1 (by omega)
  have w2:=w2 (by omega)
  unfold readV readW readK readA readB readE
  by_cases h0:s.size=0
  · have e0:=(ba_nil_iff s).2 h0
    refine ⟨fun _=>?_,fun k=>absurd e0 (of_decide_eq_false k)⟩
    simp [T.ok,h0]
  · have e0 : ¬ s=ByteArray.mk (Array.mk []):=fun e=>h0 ((ba_nil_iff s).1 e)
    have p:(0:Int) < s.size:=by omega
    have p1:(1:Int)≤s.size:=by omega
    have p2:1≤s.size:=by omega
    have p3:0 < s.size:=by omega
    have vf:=val_first s p2
    by_cases h2:byteAt s 0 > 2
    · have n0:¬ byteAt s 0=0:=by omega
      have n1:¬ byteAt s 0=1:=by omega
      have n2:¬ byteAt s 0=2:=by omega
      simp [T.ok,h0,e0,h2,p,p1,p2,p3,vf,n0,n1,n2,h] <;> omega
    · by_cases hz:byteAt s 0=0
      · by_cases h1:s.size=1
        · simp [T.ok,h0,e0,hz,h1,vf,h] <;> omega
        · have h1':¬ (s.size:Int)=1:=by omega
          have h1'':(1:Int) < s.size:=by omega
          have h1n:1 < s.size:=by omega
          simp [T.ok,h0,e0,hz,h1,h1',h1'',h1n,p,p1,p2,p3,vf,h] <;> omega
      · have pos : byteAt s 0 > 0:=by omega
        by_cases h9:s.size=9
        · by_cases e1:byteAt s 0=1
          · simp [T.ok,e0,h9,e1,vf,h] <;> omega
          · have e2:byteAt s 0=2:=by omega
            simp [T.ok,e0,h9,e2,vf,w1,w2,h] <;> omega
        · have h9':¬ (s.size:Int)=9:=by omega
          by_cases hs:s.size < 9
          · have hs':¬ (1:Int)+8≤s.size:=by omega
            by_cases e1:byteAt s 0=1
            · simp [T.ok,h0,e0,h9,h9',hs',e1,p,p1,p2,p3,vf,h] <;> omega
            · have e2:byteAt s 0=2:=by omega
              by_cases hs5:s.size < 5
              · have hs5':¬ (1:Int)+4≤s.size:=by omega
                simp [T.ok,h0,e0,h9,h9',hs5',e2,p,p1,p2,p3,vf,h] <;> omega
              · have hs5':(1:Int)+4≤s.size:=by omega
                have hs6:¬ (1:Int)+4+4≤s.size:=by omega
                have hs7:(5:Int)≤s.size:=by omega
                simp [T.ok,h0,e0,h9,h9',hs5',hs6,hs7,e2,p,p1,p2,p3,vf,h] <;> omega
          · have hs':(1:Int)+8≤s.size:=by omega
            have hs3:(9:Int) < s.size:=by omega
            have hs4:(9:Int)≤s.size:=by omega
            have hs5':(1:Int)+4≤s.size:=by omega
            have hs6:(1:Int)+4+4≤s.size:=by omega
            have hs7:(5:Int)≤s.size:=by omega
            have hs9:9 < s.size:=by omega
            by_cases e1:byteAt s 0=1
            · simp [T.ok,h0,e0,h9,h9',hs',hs3,hs4,hs9,e1,p,p1,p2,p3,vf,h] <;> omega
            · have e2:byteAt s 0=2:=by omega
              simp [T.ok,h0,e0,h9,h9',hs',hs3,hs4,hs5',hs6,hs7,hs9,e2,p,p1,p2,p3,vf,h] <;> omega
set_option maxRecDepth 100000 in
theorem ref29_read (s:ByteArray) (h:s.size≤1000000) (w:World):Calls Tryz.prog 49 #[.string s] w fun e w'=>e = .returned (readV s)∧Below w.heap.size w w':=by
  refine calls_runV (onlyS_ok SOct_ok) follows Tryz.func49 (by kernel_rfl) (by kernel_rfl) noL_ok (readR_run s) ?_ w
  have hb:=byte_in s
  have w1:=fun h=>(wrap_valU (s.extract 1 5) 4 (by rw [ByteArray.size_extract];omega) h).2
  have w2:=fun h=>(wrap_valU (s.extract 5 9) 4 (by rw [ByteArray.size_extract];omega) h).2
  have w1:=w1 (by omega)
  have w2:=w2 (by omega)
  unfold readV readW readK readA readB readE
  by_cases h0:s.size=0
  · have e0:=(ba_nil_iff s).2 h0
    refine ⟨fun _=>?_,fun k=>absurd e0 (of_decide_eq_false k)⟩
    simp [T.ok,h0]
  · have e0 : ¬ s=ByteArray.mk (Array.mk []):=fun e=>h0 ((ba_nil_iff s).1 e)
    have p:(0:Int) < s.size:=by omega
    have p1:(1:Int)≤s.size:=by omega
    have p2:1≤s.size:=by omega
    have p3:0 < s.size:=by omega
    have vf:=val_first s p2
    by_cases h2:byteAt s 0 > 2
    · have n0:¬ byteAt s 0=0:=by omega
      have n1:¬ byteAt s 0=1:=by omega
      have n2:¬ byteAt s 0=2:=by omega
      simp [T.ok,h0,e0,h2,p,p1,p2,p3,vf,n0,n1,n2,h] <;> omega
    · by_cases hz:byteAt s 0=0
      · by_cases h1:s.size=1
        · simp [T.ok,h0,e0,hz,h1,vf,h] <;> omega
        · have h1':¬ (s.size:Int)=1:=by omega
          have h1'':(1:Int) < s.size:=by omega
          have h1n:1 < s.size:=by omega
          simp [T.ok,h0,e0,hz,h1,h1',h1'',h1n,p,p1,p2,p3,vf,h] <;> omega
      · have pos : byteAt s 0 > 0:=by omega
        by_cases h9:s.size=9
        · by_cases e1:byteAt s 0=1
          · simp [T.ok,e0,h9,e1,vf,h] <;> omega
          · have e2:byteAt s 0=2:=by omega
            simp [T.ok,e0,h9,e2,vf,w1,w2,h] <;> omega
        · have h9':¬ (s.size:Int)=9:=by omega
          by_cases hs:s.size < 9
          · have hs':¬ (1:Int)+8≤s.size:=by omega
            by_cases e1:byteAt s 0=1
            · simp [T.ok,h0,e0,h9,h9',hs',e1,p,p1,p2,p3,vf,h] <;> omega
            · have e2:byteAt s 0=2:=by omega
              by_cases hs5:s.size < 5
              · have hs5':¬ (1:Int)+4≤s.size:=by omega
                simp [T.ok,h0,e0,h9,h9',hs5',e2,p,p1,p2,p3,vf,h] <;> omega
              · have hs5':(1:Int)+4≤s.size:=by omega
                have hs6:¬ (1:Int)+4+4≤s.size:=by omega
                have hs7:(5:Int)≤s.size:=by omega
                simp [T.ok,h0,e0,h9,h9',hs5',hs6,hs7,e2,p,p1,p2,p3,vf,h] <;> omega
          · have hs':(1:Int)+8≤s.size:=by omega
            have hs3:(9:Int) < s.size:=by omega
            have hs4:(9:Int)≤s.size:=by omega
            have hs5':(1:Int)+4≤s.size:=by omega
            have hs6:(1:Int)+4+4≤s.size:=by omega
            have hs7:(5:Int)≤s.size:=by omega
            have hs9:9 < s.size:=by omega
            by_cases e1:byteAt s 0=1
            · simp [T.ok,h0,e0,h9,h9',hs',hs3,hs4,hs9,e1,p,p1,p2,p3,vf,h] <;> omega
            · have e2:byteAt s 0=2:=by omega
              simp [T.ok,h0,e0,h9,h9',hs',hs3,hs4,hs5',hs6,hs7,hs9,e2,p,p1,p2,p3,vf,h] <;> omega
end Go.Proofs.YthacfgaacleaeaaGreatDoor
namespace Go.Proofs.YthacfgaacleaeaaGreatDoor
open Go.IntKind (i64 u32)
open Go.RowKit Sym Go.ChangeShapes Go.WideShapes Go.ChangeMaps Go.Shelf
attribute [local go_sem] Oper.semAt_some
def upto {α:Type} (f:Nat→α) (k:Nat):List α:=(List.range k).map f
theorem upto_succ {α:Type} (f:Nat→α) (k:Nat):upto f (k+1)=upto f k++[f k]:=by simp [upto,List.range_succ]
theorem upto_length {α:Type} (f:Nat→α) (k:Nat):(upto f k).length=k:=by simp [upto]
def Op.v (o:Op):Value:=.agg #[.int .i64 o.kind,.string o.val]
def RowAt (n0:Nat) (W:World) (v:Value) (n:Nat) (g:Nat→Op):Prop :=
  ∃ p cap,v = .slice p n cap∧n≤cap∧cap≤maxLen∧∀ i j,i < n→j < 2→∃ a,p=some a∧a.block < n0∧W.cell? (a.add (i * 2+j))=some ((g i).c j)
theorem RowAt.below {n0:Nat} {A B:World} (h:Below n0 A B) {v:Value} {n:Nat} {g:Nat→Op}:RowAt n0 A v n g→RowAt n0 B v n g:=by
  rintro ⟨p,cap,e,h1,h2,h3⟩
  refine ⟨p,cap,e,h1,h2,fun i j hi hj=>?_⟩
  obtain ⟨a,e1,e2,e3⟩:=h3 i j hi hj
  exact ⟨a,e1,e2,(h.cell (p:=a.add (i * 2+j)) (by rw [addr_add_block];exact e2)).trans e3⟩
set_option maxRecDepth 100000 in
set_option maxHeartbeats 2000000 in
theorem all1_in (l Bs n0 n:Nat) (v:Value) (g:Nat→Op) (J Jx:List (Nat×Op)→World→Prop)
    (hY:∀ pre x W,J pre W→pre.length < n→YieldAt Fence.wide 1 Tryz.prog l #[.int .i64 (x.1:Int),x.2.v] W fun e W' =>
      (e = .returned (.bool true)∧J (pre++[x]) W'∧Below n0 W W') ∨ (e = .returned (.bool false)∧Jx (pre++[x]) W'))
    (W:World) (hJa:AbidesFrom W.heap.size J) (hn0:n0≤W.heap.size) (hn:n≤maxLen) (hBs:W.cell? ⟨Bs,0,none⟩=some v) (hv:RowAt n0 W v n g) (h0:J [] W) :
    CallsIn Fence.wide 2 Tryz.prog 170 #[.func (.yield l) #[] #[],.pointer (some ⟨Bs,0,none⟩)] W fun e W'=>(∃ v,e = .returned v) ∧
      ((∃ ys,ys=upto (fun j=>(j,g j)) n∧J ys W') ∨ (∃ pre,(∃ k,k≤n∧pre=upto (fun j=>(j,g j)) k)∧Jx pre W')):=by
  refine callsIn_of_wp Tryz.func170 rfl trivial ?_ rfl
  have hv0:=hv
  obtain ⟨p,cap,rfl,-,-,-⟩:=hv0
  simp only [Tryz.ntmps170,List.size_toArray,List.length_cons,List.length_nil,Nat.reduceAdd,Nat.reduceSub,Array.replicate_succ,Array.replicate_zero,List.push_toArray,List.append_toArray,List.nil_append,List.cons_append]
  unfold maxLen at hn
  gi_wp2
  gi_loopw [7] (fun i wr=>∃ k:Nat,k≤n∧i = .int .i64 k∧J (upto (fun j=>(j,g j)) k) wr∧Below n0 W wr)
    (fun i _=>n - (intOf i).toNat)
  case atStart=>exact ⟨0,Nat.zero_le _,rfl,h0,Below.refl _ _⟩
  case round =>
    obtain ⟨k,hk,rfl,hJs,hnx⟩:=hrel
    by_cases hlt:k < n
    · obtain ⟨q,cap',eq,-,-,hcell⟩:=hv.below hnx
      simp only [Value.slice.injEq] at eq
      obtain ⟨rfl,-,rfl⟩:=eq
      obtain ⟨a,rfl,hab,hc0⟩:=hcell k 0 hlt (by decide)
      obtain ⟨a',e',-,hc1⟩:=hcell k 1 hlt (by decide)
      simp only [Option.some.injEq] at e'
      subst e'
      have hc0:wr.cell? (a.add (k * 2))=some (.int .i64 (g k).kind):=hc0
      have hc1:wr.cell? ⟨(a.add (k * 2)).block,(a.add (k * 2)).off+1,none⟩=some (.string (g k).val):=by
        have e:a.add (k * 2+1)=(a.add (k * 2)).add 1:=(addr_add_add _ _ _).symm
        rw [e] at hc1;exact hc1
      clear hcell hv
      have hJ2:J (upto (fun j=>(j,g j)) k) (wr.alloc (.cells #[.int .i64 (g k).kind,.string (g k).val] 70)):=hJa _ _ _ none hJs (World.grownBy_alloc _ _ none) (fun r e=>by cases e)
      have hnx2:Below n0 W (wr.alloc (.cells #[.int .i64 (g k).kind,.string (g k).val] 70)):=hnx.alloc (Nat.le_trans hn0 hnx.size) _
      obtain ⟨fn,tmps,assign,body,hy,hR⟩:=hY _ (k,g k) _ hJ2 (by rw [upto_length];exact hlt)
      simp only [Op.v] at hy
      generalize ha:a.add (k * 2)=a2 at hc0 hc1
      gi_wp2
      refine hR.mono ?_
      rintro e W3 (⟨rfl,hJ3,hk3⟩ | ⟨rfl,hJx3⟩)
      · gi_wp2
        go_roundw
        case rel=>exact ⟨k+1,by omega,by simp,by rw [upto_succ];exact hJ3,hnx2.trans hk3⟩
        case measure=>simp [intOf];omega
      · gi_wp2
        refine bodyPost_ret (results_none rfl _ _ _) rfl ?_
        exact ⟨⟨_,rfl⟩,.inr ⟨_,⟨k+1,by omega,(upto_succ _ _).symm⟩,hJx3⟩⟩
    · obtain rfl:k=n:=by omega
      gi_wp2
      go_end0
      exact ⟨⟨_,rfl⟩,.inl ⟨_,rfl,hJs⟩⟩
set_option maxHeartbeats 1000000 in
theorem slices_all (a:Option Addr) (len cap:Nat) (w:World) :
    CallsIn Fence.wide 1 Tryz.prog 137 #[.slice a len cap] w fun e w'=>e = .returned (.func (.func 170) #[] #[.pointer (some ⟨w.heap.size,0,none⟩)])∧w'=w.alloc (.cells #[.slice a len cap] 23):=by
  refine callsIn_of_wp Tryz.func137 rfl trivial ?_ rfl
  simp only [Tryz.ntmps137,List.size_toArray,List.length_cons,List.length_nil,Nat.reduceAdd,Nat.reduceSub,Array.replicate_succ,Array.replicate_zero,List.push_toArray,List.append_toArray,List.nil_append,List.cons_append]
  gi_wp2
  go_ret
  exact ⟨rfl,rfl⟩
theorem opts_all (a:Option Addr) (len cap:Nat) (w:World) :
    CallsIn Fence.wide 2 Tryz.prog 90 #[.slice a len cap] w fun e w'=>e = .returned (.func (.func 170) #[] #[.pointer (some ⟨w.heap.size,0,none⟩)])∧w'=w.alloc (.cells #[.slice a len cap] 23):=by
  refine callsIn_of_wp Tryz.func90 rfl trivial ?_ rfl
  have hfn:Fence.wide.fn 137:=trivial
  simp only [Tryz.ntmps90,List.size_toArray,List.length_cons,List.length_nil,Nat.reduceAdd,Nat.reduceSub,Array.replicate_succ,Array.replicate_zero,List.push_toArray,List.append_toArray,List.nil_append,List.cons_append]
  gi_wp2_with (gi_at_call 137;refine (slices_all _ _ _ _).mono ?_;rintro e w' ⟨rfl,rfl⟩)
  go_ret
  exact ⟨rfl,rfl⟩
theorem all_stops (Bs n0 n:Nat) (v:Value) (g:Nat→Op) (w:World) (hn:n≤maxLen) (hBs:Bs < w.heap.size) (hn0:n0≤w.heap.size) (hc:w.cell? ⟨Bs,0,none⟩=some v) (hv:RowAt n0 w v n g) :
    SeqStopsK Fence.wide 2 Tryz.prog 170 #[.pointer (some ⟨Bs,0,none⟩)] (fun x:Nat×Op=>#[Value.int .i64 (x.1:Int),x.2.v]) (Below n0) (fun ys=>ys=upto (fun j=>(j,g j)) n)
      (fun pre=>∃ k,k≤n∧pre=upto (fun j=>(j,g j)) k) n w:=fun l J Jx W hW hJa _ hY h0=>by
  have hc':=(hW.cell (p:=⟨Bs,0,none⟩) hBs).trans hc
  exact all1_in l Bs n0 n v g J Jx hY W hJa (Nat.le_trans hn0 hW.size) hn hc' (hv.below (hW.mono hn0)) h0
def isK (g:Nat→Op) (k:Int) (i:Nat):Bool:=decide ((g i).kind=k)
def findOE (n:Nat) (g:Nat→Op) (k:Int):Nat:=firstOf (isK g k) n 0
def findOV (n:Nat) (g:Nat→Op) (k:Int):ByteArray:=if findOE n g k < n then (g (findOE n g k)).val else ⟨⟨[]⟩⟩
def findOB (n:Nat) (g:Nat→Op) (k:Int):Bool:=Nat.blt (findOE n g k) n
theorem find_no {n:Nat} {g:Nat→Op} {kd:Int} (h:∀ i,i < n→(g i).kind ≠ kd) (k:Int) (hk:k=kd):Ending.returned (.tuple #[.string (findOV n g k),.bool (findOB n g k)]) = .returned (.tuple #[.string ⟨#[]⟩,.bool false]):=by
  subst hk
  obtain ⟨h1,-,h3⟩:=firstOf_le (isK g k) n
  have hE:¬ findOE n g k < n:=fun hl=>by
    have:=h3 hl
    unfold isK at this
    exact h _ hl (of_decide_eq_true this)
  have hb:findOB n g k=false:=by unfold findOB;rw [← Bool.not_eq_true,Nat.blt_eq];exact hE
  rw [hb]
  unfold findOV
  rw [if_neg hE]
theorem find_yes {n:Nat} {g:Nat→Op} {kd:Int} {k:Nat} (h:∀ i,i < k→(g i).kind ≠ kd) (hk:(g k).kind=kd) (hlt:k < n):Ending.returned (.tuple #[.string (findOV n g kd),.bool (findOB n g kd)]) = .returned (.tuple #[.string (g k).val,.bool true]):=by
  obtain ⟨h1,h2,h3⟩:=firstOf_le (isK g kd) n
  have hE:findOE n g kd=k:=by
    show firstOf (isK g kd) n 0=k
    rcases Nat.lt_trichotomy (firstOf (isK g kd) n 0) k with hl | he | hg
    · have:=h3 (by omega)
      unfold isK at this
      exact absurd (of_decide_eq_true this) (h _ hl)
    · exact he
    · have:=h2 k hg
      unfold isK at this
      exact absurd hk (of_decide_eq_false this)
  have hb:findOB n g kd=true:=by unfold findOB;rw [Nat.blt_eq,hE];exact hlt
  rw [hb]
  unfold findOV
  rw [if_pos (by rw [hE];exact hlt),hE]
def Box2 (W:World) (B:Nat) (o:Op):Prop:=W.heap[B]?=some (.cells #[.int .i64 o.kind,.string o.val] 70 (0,0))
theorem box2_new (W:World) (o:Op):Box2 (W.alloc (.cells #[.int .i64 o.kind,.string o.val] 70)) W.heap.size o:=heap_alloc_new W _
theorem box2_kept {W W':World} {B:Nat} {o:Op} {row:Option Nat} (h:Box2 W B o) (hg:W.grownBy W' row) (hr:∀ r,row=some r→∃ o:Obj,W.heap[r]?=some o∧o.isCells=false):Box2 W' B o:=by
  refine (hg.block B (Array.getElem?_eq_some_iff.1 h).1 (fun e=>?_)).trans h
  obtain ⟨o',ho,hc⟩:=hr B e.symm
  rw [show W.heap[B]?=_ from h] at ho
  cases ho;cases hc
theorem box2_cells {W:World} {B:Nat} {o:Op} (h:Box2 W B o):W.cell? ⟨B,0,none⟩=some (.int .i64 o.kind)∧W.cell? ⟨B,1,none⟩=some (.string o.val):=by
  constructor <;> simp [World.cell?,show W.heap[B]?=_ from h]
set_option maxRecDepth 100000 in
set_option maxHeartbeats 2000000 in
theorem opts_Find_in (n:Nat) (g:Nat→Op) (kd:Int) (v:Value) (w:World) (hn:n≤maxLen) (hv:RowAt w.heap.size w v n g) :
    CallsIn Fence.wide 3 Tryz.prog 44 #[v,.int .i64 kd] w fun e w'=>e = .returned (.tuple #[.string (findOV n g kd),.bool (findOB n g kd)])∧Below w.heap.size w w':=by
  have hv0:=hv
  obtain ⟨p,cap,rfl,-,-,-⟩:=hv0
  refine callsIn_of_wp_marks Tryz.func44 rfl trivial ?_ rfl
  simp only [Tryz.ntmps44,List.size_toArray,List.length_cons,List.length_nil,Nat.reduceAdd,Nat.reduceSub,Array.replicate_succ,Array.replicate_zero,List.push_toArray,List.append_toArray,List.nil_append,List.cons_append]
  have hfn:Fence.wide.fn 90:=trivial
  gi_wp2_with (gi_at_call 90;refine (callsIn_wide.2 (callsIn_wide.1 (opts_all _ _ _ _))).mono ?_;rintro e w' ⟨rfl,rfl⟩)
  have bK:=((Boxed.new w 3 (.int .i64 kd)).alloc (.cells #[.string ⟨#[]⟩] 9)).alloc (.cells #[.bool false] 4)
  have bV:=(Boxed.new (w.alloc (.cells #[.int .i64 kd] 3)) 9 (.string ⟨#[]⟩)).alloc (.cells #[.bool false] 4)
  have bB:=Boxed.new ((w.alloc (.cells #[.int .i64 kd] 3)).alloc (.cells #[.string ⟨#[]⟩] 9)) 4 (.bool false)
  have bS:=Boxed.new (((w.alloc (.cells #[.int .i64 kd] 3)).alloc (.cells #[.string ⟨#[]⟩] 9)).alloc (.cells #[.bool false] 4)) 23 (.slice p n cap)
  have bK:=bK.alloc (.cells #[.slice p n cap] 23)
  have bV:=bV.alloc (.cells #[.slice p n cap] 23)
  have bB:=bB.alloc (.cells #[.slice p n cap] 23)
  simp only [World.size_alloc] at bK bV bB bS
  have hB0:Below w.heap.size w ((((w.alloc (.cells #[.int .i64 kd] 3)).alloc (.cells #[.string ⟨#[]⟩] 9)).alloc (.cells #[.bool false] 4)).alloc (.cells #[.slice p n cap] 23)):=((((Below.refl _ w).alloc (Nat.le_refl _) _).alloc (by simp) _).alloc (by simp;omega) _).alloc (by simp;omega) _
  have hsz:((((w.alloc (.cells #[.int .i64 kd] 3)).alloc (.cells #[.string ⟨#[]⟩] 9)).alloc (.cells #[.bool false] 4)).alloc (.cells #[.slice p n cap] 23)).heap.size=w.heap.size+4:=by simp
  obtain ⟨W0,hW0⟩:∃ W0,(((w.alloc (.cells #[.int .i64 kd] 3)).alloc (.cells #[.string ⟨#[]⟩] 9)).alloc (.cells #[.bool false] 4)).alloc (.cells #[.slice p n cap] 23)=W0:=⟨_,rfl⟩
  rw [hW0] at bK bV bB bS hB0 hsz ⊢
  clear hW0
  refine wpIn_rangeFunc_ownH rfl (by decide) (gf:=170) (lb:=#[.pointer (some ⟨w.heap.size+1+1+1,0,none⟩)]) rfl trivial (enters_of Tryz.func170 (by kernel_rfl) rfl)
    (all_stops (w.heap.size+1+1+1) w.heap.size n (.slice p n cap) g W0 hn (by omega) (by omega) bS.cell (hv.below hB0)) belowK_t (belowK_b (by omega)) (Below.refl _ _) (fun _=>rfl)
    (fun pre W=>((Boxed W w.heap.size 3 (.int .i64 kd)∧Boxed W (w.heap.size+1) 9 (.string ⟨#[]⟩))∧Boxed W (w.heap.size+1+1) 4 (.bool false))∧((∀ x ∈ pre,x.2.kind ≠ kd)∧Below w.heap.size w W))
    (fun c pre W=>(c = .ret∧∃ ini last,pre=ini++[last]∧(∀ x ∈ ini,x.2.kind ≠ kd)∧last.2.kind=kd∧Boxed W (w.heap.size+1) 9 (.string last.2.val)∧Boxed W (w.heap.size+1+1) 4 (.bool true))∧Below w.heap.size w W)
    (OwnFrom.and (OwnFrom.and (OwnFrom.and (Own.from (boxed_own _ _ _) _) (Own.from (boxed_own _ _ _) _)) (Own.from (boxed_own _ _ _) _)) (OwnFrom.and (ownFrom_pure _ _) (ownFrom_below (Nat.le_refl _) (by omega))))
    (fun c=>OwnFrom.and (Own.from (fun s A B row hs hg hr=>by
      obtain ⟨hc,ini,last,e1,e2,e3,e4,e5⟩:=hs
      exact ⟨hc,ini,last,e1,e2,e3,boxed_own _ _ (fun (_:Unit)=>Value.string last.2.val) () A B row e4 hg hr,boxed_own _ _ (fun (_:Unit)=>Value.bool true) () A B row e5 hg hr⟩) _) (ownFrom_below (Nat.le_refl _) (by omega)))
    ⟨⟨⟨bK,bV⟩,bB⟩,by simp,hB0⟩
    (fun x a' W=>∃ Bx,w.heap.size+1+1 < Bx∧Box2 W Bx x.2∧a'={ tmps:=#[.slice p n cap,.int .i64 kd,undef,.pointer (some ⟨w.heap.size,0,none⟩),.pointer (some ⟨w.heap.size+1,0,none⟩),.pointer (some ⟨w.heap.size+1+1,0,none⟩),undef,.pointer (some ⟨Bx,0,none⟩),.slice p n cap,.func (.func 170) #[] #[.pointer (some ⟨w.heap.size+1+1+1,0,none⟩)],.int .i64 (x.1:Int),x.2.v,undef,undef,undef,undef,undef,undef],defers:=[] })
    (fun x a' _ X Y row hs hg hr=>by obtain ⟨Bx,h1,h2,h3⟩:=hs;exact ⟨Bx,h1,box2_kept h2 hg (fun r e=>(hr r e).2),h3⟩)
    ?assign ?body ?done ?stop
  case assign =>
    rintro l pre x W K ⟨⟨⟨bK1,bV1⟩,bB1⟩,hne,hB1⟩ hK
    have hsW:=hB1.size
    simp only [Op.v]
    gi_wp2
    exact hK _ _ ((KeepsOthers.alloc _ _).from _) ((Below.refl _ W).alloc hsW _) ⟨⟨⟨bK1.alloc _,bV1.alloc _⟩,bB1.alloc _⟩,hne,hB1.alloc hsW _⟩ ⟨W.heap.size,bB1.lt,box2_new W _,rfl⟩
  case body =>
    rintro l pre x a' W hl hr ⟨⟨⟨bK1,bV1⟩,bB1⟩,hne,hB1⟩ ⟨Bx,hBx,bX,rfl⟩ hlt
    have cK:=bK1.cell
    have cV:=bV1.cell
    have fV:=bV1.frozen
    have cB:=bB1.cell
    have fB:=bB1.frozen
    obtain ⟨cx,cy⟩:=box2_cells bX
    by_cases hx:x.2.kind=kd
    · gi_wp2
      exact ⟨((KeepsOthers.setCell _ _ _).trans (KeepsOthers.setCell _ _ _)).from _,⟨rfl,pre,x,rfl,hne,hx,(bV1.set _).other (by omega) _,(bB1.other (by omega) _).set _⟩,(hB1.setCell (p:=⟨w.heap.size+1,0,none⟩) (by simp) _).setCell (p:=⟨w.heap.size+1+1,0,none⟩) (by simp;omega) _⟩
    · gi_wp2
      exact ⟨KeepsFrom.refl _ _,Below.refl _ _,⟨⟨bK1,bV1⟩,bB1⟩,fun y hy=>(List.mem_append.1 hy).elim (hne y) (fun e=>by simp at e;subst e;exact hx),hB1⟩
  case done =>
    rintro D ys W hD rfl ⟨⟨⟨bK1,bV1⟩,bB1⟩,hne,hB1⟩ hK
    have cV:=bV1.cell
    have fV:=bV1.frozen
    have cB:=bB1.cell
    have fB:=bB1.frozen
    gi_wp2
    have hK':=((KeepsOthers.setCell W ⟨w.heap.size+1,0,none⟩ (.string ⟨#[]⟩)).trans (KeepsOthers.setCell _ ⟨w.heap.size+1+1,0,none⟩ (.bool false))).same D _ hK rfl
    have dV:=((bV1.set (.string ⟨#[]⟩)).other (B':=w.heap.size+1+1) (by omega) (.bool false)).cell
    have dB:=((bB1.other (B':=w.heap.size+1) (by omega) (.string ⟨#[]⟩)).set (.bool false)).cell
    have hB2:=(hB1.setCell (p:=⟨w.heap.size+1,0,none⟩) (by simp) (.string ⟨#[]⟩)).setCell (p:=⟨w.heap.size+1+1,0,none⟩) (by simp;omega) (.bool false)
    refine ⟨by simp,.inl ⟨_,_,rfl,run_takeDeferred hK',?_⟩⟩
    have c1:=cell_kept dV (grownBy_putObj' _ D (.deferred none)) (fun r e=>by cases e;exact ⟨_,hK',rfl⟩)
    have c2:=cell_kept dB (grownBy_putObj' _ D (.deferred none)) (fun r e=>by cases e;exact ⟨_,hK',rfl⟩)
    have hno:∀ i,i < n→(g i).kind ≠ kd:=fun i hi=>hne (i,g i) (by simp only [upto,List.mem_map,List.mem_range];exact ⟨i,hi,rfl⟩)
    refine ⟨.tuple #[.string ⟨#[]⟩,.bool false],?_,?_,hB2.trans (belowK_b (w:=w) (Nat.le_refl _) _ D _ _ (by omega) hK' rfl rfl)⟩
    · simp [results,Tryz.f44,go_sem,c1,c2]
    · rw [find_no hno kd rfl]
  case stop =>
    rintro D c pre W hD ⟨k,hk,rfl⟩ ⟨⟨rfl,ini,last,e1,e2,e3,bV1,bB1⟩,hB1⟩ hK
    have cV:=bV1.cell
    have cB:=bB1.cell
    gi_wp2
    refine ⟨by simp,.inl ⟨_,_,rfl,run_takeDeferred hK,?_⟩⟩
    have c1:=cell_kept cV (grownBy_putObj' _ D (.deferred none)) (fun r e=>by cases e;exact ⟨_,hK,rfl⟩)
    have c2:=cell_kept cB (grownBy_putObj' _ D (.deferred none)) (fun r e=>by cases e;exact ⟨_,hK,rfl⟩)
    obtain ⟨k',rfl⟩:∃ k',k=k'+1:=by
      cases k with
      | zero=>simp [upto] at e1
      | succ k'=>exact ⟨k',rfl⟩
    rw [upto_succ] at e1
    obtain ⟨rfl,e5⟩:=List.append_inj' e1 rfl
    obtain rfl:(k',g k')=last:=by simpa using e5
    have hno:∀ i,i < k'→(g i).kind ≠ kd:=fun i hi=>e2 (i,g i) (by simp only [upto,List.mem_map,List.mem_range];exact ⟨i,hi,rfl⟩)
    refine ⟨.tuple #[.string (g k').val,.bool true],?_,?_,hB1.trans (belowK_b (w:=w) (Nat.le_refl _) _ D _ _ (by omega) hK rfl rfl)⟩
    · simp [results,Tryz.f44,go_sem,c1,c2]
    · rw [find_yes hno e3 (by omega)]
theorem row_at {w:World} {v:Value} {n:Nat} {g:Nat→Op} (h:∀ B,BlkSat B w v (.row n 2 fun i j=>(g i).c j)):RowAt w.heap.size w v n g:=by
  obtain ⟨p,cap,e,h1,h2,h3⟩:=h []
  refine ⟨p,cap,e,h1,h2,fun i j hi hj=>?_⟩
  obtain ⟨a,e1,e2⟩:=h3 i j hi hj
  exact ⟨a,e1,by have:=lt_of_cell e2;rwa [addr_add_block] at this,e2⟩
theorem opts_Find (n:Nat) (g:Nat→Op) (hn:n≤maxLen) (kd:Int) (v:Value) (w:World) (hv:∀ B,BlkSat B w v (.row n 2 fun i j=>(g i).c j)):Calls Tryz.prog 44 #[v,.int .i64 kd] w fun e w'=>e = .returned (.tuple #[.string (findOV n g kd),.bool (findOB n g kd)])∧Below w.heap.size w w' :=
  callsIn_wide.1 (opts_Find_in n g kd v w hn (row_at hv))
end Go.Proofs.YthacfgaacleaeaaGreatDoor

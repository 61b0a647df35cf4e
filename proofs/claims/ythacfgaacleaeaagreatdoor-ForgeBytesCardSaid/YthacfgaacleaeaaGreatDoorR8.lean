/- Parts of a proof: PkX,PkY,FhF,FhG,FhH,FhI,FhJ,FhK,FhL,FhP,FhV. No conditions. -/
import Derived.Test.YthacfgaacleaeaaGreatDoorR7
import Derived.BigQuiet
import Derived.Deep.QuietTactic
import Derived.LaidMore
import Derived.SliceStrings
import Derived.ChangeMaps5
import Derived.Deep.RegionWith
import Derived.Deep.RegionHeld3
import Derived.Deep.AppendLies
set_option linter.unusedVariables false
set_option linter.unusedSimpArgs false
namespace Go.Proofs.YthacfgaacleaeaaGreatDoor
open Go.IntKind (i64 u32)
open Go.RowKit Sym Go.ChangeShapes Go.WideShapes Go.ChangeMaps Inet
def tHeadGetV (s:ByteArray) (h:Head.H) (r:ByteArray) (e:Int):List Value → Option (List Prop × Value) | [.string t]=>some ([t = s ∧ t.size ≤ maxLen],.tuple #[h.v,.string r,.int .i64 e]) | _=>none
def tRightV (s:ByteArray) (x y:Int) (b:Bool):List Value → Option (List Prop × Value) | [.string t,.agg ⟨[.int .i64 u,.int .i64 v]⟩]=>some ([(t = s ∧ u = x ∧ v = y) ∧ t.size ≤ 4000],.bool b) | _=>none
def SGetV (s:ByteArray) (x y:Int) (h:Head.H) (r:ByteArray) (e:Int) (b:Bool):Tab:=addS 83 (tRightV s x y b) <| addS 82 (tHeadGetV s h r e) SPk2
theorem SGetV_ok (s:ByteArray) (x y:Int):TabOk Tryz.prog (SGetV s x y (get s).1 (get s).2.1 (get s).2.2 (rightB s x y)):=by
  refine addS_ok (addS_ok SPk2_ok (by kernel_rfl) ?_) (by kernel_rfl) ?_
  · intro xs p v h hp w
    unfold tHeadGetV at h
    split at h
    · simp only [Option.some.injEq,Prod.mk.injEq] at h
      obtain ⟨rfl,rfl⟩:=h
      obtain ⟨e,hs⟩:=hp _ (List.mem_cons_self ..)
      subst e
      exact ref09_get _ hs w
    · cases h
  · intro xs p v h hp w
    unfold tRightV at h
    split at h
    · simp only [Option.some.injEq,Prod.mk.injEq] at h
      obtain ⟨rfl,rfl⟩:=h
      obtain ⟨⟨e1,e2,e3⟩,hs⟩:=hp _ (List.mem_cons_self ..)
      subst e1 e2 e3
      exact ref10_Right _ _ _ hs w
    · cases h
abbrev CGv (P:Program) (fNew:Func) (s:ByteArray) (x y:Int) (h:Head.H) (r:ByteArray) (e:Int) (b:Bool):Cfg:=both P (SGetV s x y h r e b) (FGt0 P fNew) fsGt0
theorem CGv_ok (s:ByteArray) (x y:Int):CfgOk Tryz.prog (CGv Tryz.prog Tryz.f76 s x y (get s).1 (get s).2.1 (get s).2.2 (rightB s x y)):=both_ok (SGetV_ok s x y) FGt0_ok
def oneT (k:Nat) (t:T (SV × List Blk)):T (SV × Option Blk):=t.bind fun r=>.leaf (r.1,r.2[k]?)
set_option maxRecDepth 100000 in
theorem rget10_run (s:ByteArray) (x y:Int) (h:Head.H) (r:ByteArray) (e:Int) (b:Bool):oneT 6 (runF Tryz.prog (CGv Tryz.prog Tryz.f76 s x y h r e b) noL Tryz.f41 (Tryz.f41.body.getD .skip) [.v (.string s),.v (.agg #[.int .i64 x,.int .i64 y])] []) =
 letI x8:=(4:Int);
 letI j9:=(↑s.size:Int);
 letI y9:=i64.wrap (x8 * h.3) - i64.wrap (j9 - (↑r.size:Int));
 letI q:=r.extract 0 (i64.wrap y9).toNat;
 letI q6:=Value.int i64 0;
 letI y2:=Value.slice none 0 0;
 letI q0:=Value.agg (Array.mk [q6,Value.bool false,q6,q6,q6,q6,q6,q6,q6,q6,q6,y2,Value.string (ByteArray.mk (Array.mk []))]);
 letI q1:=s.extract (i64.wrap (x8 * h.3)).toNat j9.toNat;
 letI q2:=(0:Int);
 letI q3:=SV.v (Value.tuple (Array.mk [q0,Value.int i64 4]));
 letI p7:=q.extract 8 q.size;
 letI q4:=Blk.vec true 70 2 (optsOf p7).length (opCells (optsOf p7));
 letI q5:=SV.v (Value.tuple (Array.mk [q0,Value.int i64 11]));
 letI z8:=q.extract 12 q.size;
 letI q7:=Blk.vec true 70 2 (optsOf z8).length (opCells (optsOf z8));
 letI z9:=q.extract 4 q.size;
 letI q8:=Blk.vec true 70 2 (optsOf z9).length (opCells (optsOf z9));
 letI q9:=decide ((↑q1.size:Int) > (200:Int));
 letI p:=valU (q.extract 1 4);
 letI p0:=valU (q.extract 2 8);
 letI p1:=(↑q.size:Int);
 letI p2:=SV.v (Value.tuple (Array.mk [q0,q6]));
 letI p3:Value:=.int .i64 0;
 letI j:=valU (q.extract 8 12);
 letI v3:=valU (q.extract 12 13);
 letI v4:=valU (q.extract 13 16);
 letI p4:=Pk.mk h.7 h.8 h.1 h.2 h.4 h.5 h.9 p0 j v3 v4 q1;
 letI j2:=valU (q.extract 4 8);
 letI j1:=valU (q.extract 8 9);
 letI j0:=valU (q.extract 9 12);
 letI p5:=Pk.mk h.7 h.8 h.1 h.2 h.4 h.5 h.9 p j2 j1 j0 q1;
 letI j5:=valU (q.extract 0 4);
 letI j3:=valU (q.extract 4 5);
 letI j4:=valU (q.extract 5 8);
 letI p6:=Pk.mk h.7 h.8 h.1 h.2 h.4 h.5 h.9 q2 j5 j3 j4 q1;
 letI j8:=q.extract 16 q.size;
 letI p8:=Blk.vec true 70 2 (optsOf j8).length (opCells (optsOf j8));
 letI u:=q.extract 0 q.size;
 letI p9:=Blk.vec true 70 2 (optsOf u).length (opCells (optsOf u));
 letI z:=(1:Int);
 letI z0:=Pk.mk h.7 h.8 h.1 h.2 h.4 h.5 h.9 p0 q2 j1 j0 q1;
 letI z1:=Pk.mk h.7 h.8 h.1 h.2 h.4 h.5 h.9 p q2 j3 j4 q1;
 letI z2:=Value.int i64 h.7;
 letI z3:=Value.int i64 h.1;
 letI z4:=Value.int i64 h.2;
 letI z5:=Value.int i64 h.4;
 letI z6:=Value.int i64 h.5;
 letI z7:=Value.int i64 h.9;
 letI y0:T (SV × Option Blk):=.leaf (SV.v (Value.tuple (Array.mk [q0,Value.int i64 (getE p7)])),none);
 letI v5:=(8:Int);
 letI y1:=q2 = q2 ∧ q2 ≤ v5 ∧ v5 ≤ p1 ∧ q.size ≤ 1000000;
 letI y3:=SV.v (Value.bool h.8);
 letI y4:=Pk.mk h.7 h.8 h.1 h.2 h.4 h.5 h.9 p0 j q2 q2 q1;
 letI y5:=Pk.mk h.7 h.8 h.1 h.2 h.4 h.5 h.9 q2 j5 q2 q2 q1;
 letI y6:=Pk.mk h.7 h.8 h.1 h.2 h.4 h.5 h.9 p j2 q2 q2 q1;
 letI v7:=valU (q.extract 0 1);
 letI y7:=Pk.mk h.7 h.8 h.1 h.2 h.4 h.5 h.9 q2 q2 v7 p q1;
 letI y8:T (SV × Option Blk):=.leaf (q3,none);
 letI x0:T (SV × Option Blk):=.leaf (q5,none);
 letI x1:SV:=.v (.int .i64 h.7);
 letI x2:SV:=.v (.int .i64 h.1);
 letI x3:SV:=.v (.int .i64 h.2);
 letI x4:SV:=.v (.int .i64 h.4);
 letI x5:SV:=.v (.int .i64 h.5);
 letI x6:SV:=.v (.int .i64 h.9);
 letI x7:=(7:Int);
 letI x9:=q2 = q2 ∧ q2 ≤ (12:Int) ∧ (12:Int) ≤ p1 ∧ q.size ≤ 1000000;
 letI k:=Value.string q1;
 letI k0:=(SV.v (Value.tuple (Array.mk [q0,Value.int i64 (getE z8)])),none);
 letI k1:=(SV.v (Value.tuple (Array.mk [q0,Value.int i64 (getE z9)])),none);
 letI k2:=Pk.mk h.7 h.8 h.1 h.2 h.4 h.5 h.9 p0 q2 q2 q2 q1;
 letI k3:=Pk.mk h.7 h.8 h.1 h.2 h.4 h.5 h.9 q2 q2 q2 q2 q1;
 letI k4:=Pk.mk h.7 h.8 h.1 h.2 h.4 h.5 h.9 p q2 q2 q2 q1;
 letI k5:SV:=.v (.string q1);
 letI k6:=Value.bool h.8;
 letI k7:=q2 = q2 ∧ q2 ≤ x8 ∧ x8 ≤ p1 ∧ q.size ≤ 1000000;
 letI v0:=(3:Int);
 letI k8:=q2 = q2 ∧ q2 ≤ (9:Int) ∧ z ≤ v0 ∧ v0 ≤ x7 ∧ (12:Int) ≤ p1 ∧ q.size ≤ 1000000;
 letI k9:=q2 = q2 ∧ q2 ≤ (5:Int) ∧ z ≤ v0 ∧ v0 ≤ x7 ∧ v5 ≤ p1 ∧ q.size ≤ 1000000;
 letI j6:=q2 = q2 ∧ q2 ≤ z ∧ z ≤ v0 ∧ v0 ≤ x7 ∧ x8 ≤ p1 ∧ q.size ≤ 1000000;
 letI j7:=q2 = q2 ∧ q2 ≤ v5 ∧ z ≤ z ∧ z ≤ x7 ∧ (9:Int) ≤ p1 ∧ q.size ≤ 1000000;
 letI u0:=q2 = q2 ∧ q2 ≤ x8 ∧ z ≤ z ∧ z ≤ x7 ∧ (5:Int) ≤ p1 ∧ q.size ≤ 1000000;
 letI u1:=decide (h.7 = x7);
 letI u2:=getE p7 = q2;
 letI u3:=q2 = q2 ∧ q2 ≤ q2 ∧ z ≤ z ∧ z ≤ x7 ∧ z ≤ p1 ∧ q.size ≤ 1000000;
 letI u4:=Value.int i64 p;
 letI u5:=SV.ref 6;
 letI u6:=Value.int i64 p0;
 letI u7:=getE z8 = q2;
 letI u8:=getE z9 = q2;
 letI u9:SV:=.v (.int .i64 p);
 letI v1:=decide (h.7 < (2:Int));
 letI v2:=p7.size ≤ 1000;
 letI v6:SV:=.v (.int .i64 p0);
 letI v8:T (SV × Option Blk):=.leaf (p2,some q4);
 letI v9:T (SV × Option Blk):=.leaf (q5,some q4);
 .ite (decide (j9 > (700:Int))) x0 (.need (s = s ∧ s.size ≤ 9223372036854775807) (.ite (!decide (e = q2)) (.leaf (SV.v (Value.tuple (Array.mk [q0,Value.int i64 e])),none)) (.ite (decide (i64.wrap (x8 * h.3) > j9)) (.leaf (SV.v (Value.tuple (Array.mk [q0,Value.int i64 1])),none)) (.need ((s = s ∧ x = x ∧ y = y) ∧ s.size ≤ 4000) (.ite (!b) (.leaf (SV.v (Value.tuple (Array.mk [q0,Value.int i64 5])),none)) (.need (q2 ≤ i64.wrap (x8 * h.3) ∧ i64.wrap (x8 * h.3) ≤ j9 ∧ j9 ≤ j9) (.need (q2 ≤ q2 ∧ q2 ≤ i64.wrap y9 ∧ i64.wrap y9 ≤ (↑r.size:Int)) (.ite (Head.acks h.7) (.ite h.8 (.need (q2 = q2 ∧ q2 ≤ q2 ∧ z ≤ (2:Int) ∧ (2:Int) ≤ x7 ∧ (2:Int) ≤ p1 ∧ q.size ≤ 1000000) (.need (q2 = q2 ∧ q2 ≤ (2:Int) ∧ z ≤ (6:Int) ∧ (6:Int) ≤ x7 ∧ v5 ≤ p1 ∧ q.size ≤ 1000000) (.ite (!decide (valU (q.extract 0 2) = q2)) y8 (.ite v1 (.need (q2 = q2 ∧ q2 ≤ v5 ∧ z ≤ x8 ∧ x8 ≤ x7 ∧ (12:Int) ≤ p1 ∧ q.size ≤ 1000000) (.ite u1 (.need (q2 = q2 ∧ q2 ≤ (12:Int) ∧ z ≤ z ∧ z ≤ x7 ∧ (13:Int) ≤ p1 ∧ q.size ≤ 1000000) (.need (q2 = q2 ∧ q2 ≤ (13:Int) ∧ z ≤ v0 ∧ v0 ≤ x7 ∧ (16:Int) ≤ p1 ∧ q.size ≤ 1000000) (.need (q2 = q2 ∧ q2 ≤ (16:Int) ∧ (16:Int) ≤ p1 ∧ q.size ≤ 1000000) (.need (j8.size ≤ 1000) (.ite (decide (getE j8 = q2)) (.ite false (.leaf (p2,some p8)) (.ite q9 (.leaf (q5,some p8)) (.need (KindP p4) (.ite (spareP p4) (.leaf (q3,some p8)) (.leaf (SV.tup [SV.agg (List.take 13 (List.drop 0 [x1,y3,x2,x3,x4,x5,x6,v6,.v (.int .i64 j),.v (.int .i64 v3),.v (.int .i64 v4),u5,k5])),.c p3],some p8)))))) (.ite (!decide (getE j8 = q2)) (.leaf (SV.v (Value.tuple (Array.mk [q0,Value.int i64 (getE j8)])),none)) (.ite q9 x0 (.need (KindP p4) (.ite (spareP p4) y8 (.leaf (SV.v (Value.tuple (Array.mk [Value.agg (Array.mk [z2,k6,z3,z4,z5,z6,z7,u6,Value.int i64 j,Value.int i64 v3,Value.int i64 v4,y2,k]),q6])),none))))))))))) (.need x9 (.need (z8.size ≤ 1000) (.ite (decide u7) (.ite false (.leaf (p2,some q7)) (.ite q9 (.leaf (q5,some q7)) (.need (KindP y4) (.ite (spareP y4) (.leaf (q3,some q7)) (.leaf (SV.tup [SV.agg (List.take 13 (List.drop 0 [x1,y3,x2,x3,x4,x5,x6,v6,.v (.int .i64 j),.v p3,.v p3,u5,k5])),.c p3],some q7)))))) (.ite (!decide u7) (.leaf k0) (.ite q9 x0 (.need (KindP y4) (.ite (spareP y4) y8 (.leaf (SV.v (Value.tuple (Array.mk [Value.agg (Array.mk [z2,k6,z3,z4,z5,z6,z7,u6,Value.int i64 j,q6,q6,y2,k]),q6])),none))))))))))) (.ite u1 (.need j7 (.need k8 (.need x9 (.need (z8.size ≤ 1000) (.ite (decide u7) (.ite false (.leaf (p2,some q7)) (.ite q9 (.leaf (q5,some q7)) (.need (KindP z0) (.ite (spareP z0) (.leaf (q3,some q7)) (.leaf (SV.tup [SV.agg (List.take 13 (List.drop 0 [x1,y3,x2,x3,x4,x5,x6,v6,.v p3,.v (.int .i64 j1),.v (.int .i64 j0),u5,k5])),.c p3],some q7)))))) (.ite (!decide u7) (.leaf k0) (.ite q9 x0 (.need (KindP z0) (.ite (spareP z0) y8 (.leaf (SV.v (Value.tuple (Array.mk [Value.agg (Array.mk [z2,k6,z3,z4,z5,z6,z7,u6,q6,Value.int i64 j1,Value.int i64 j0,y2,k]),q6])),none))))))))))) (.need y1 (.need v2 (.ite (decide u2) (.ite false v8 (.ite q9 v9 (.need (KindP k2) (.ite (spareP k2) (.leaf (q3,some q4)) (.leaf (SV.tup [SV.agg (List.take 13 (List.drop 0 [x1,y3,x2,x3,x4,x5,x6,v6,.v p3,.v p3,.v p3,u5,k5])),.c p3],some q4)))))) (.ite (!decide u2) y0 (.ite q9 x0 (.need (KindP k2) (.ite (spareP k2) y8 (.leaf (SV.v (Value.tuple (Array.mk [Value.agg (Array.mk [z2,k6,z3,z4,z5,z6,z7,u6,q6,q6,q6,y2,k]),q6])),none)))))))))))))) (.need u3 (.need j6 (.ite (!decide (valU (q.extract 0 1) = q2)) y8 (.ite v1 (.need (q2 = q2 ∧ q2 ≤ x8 ∧ z ≤ x8 ∧ x8 ≤ x7 ∧ v5 ≤ p1 ∧ q.size ≤ 1000000) (.ite u1 (.need j7 (.need k8 (.need x9 (.need (z8.size ≤ 1000) (.ite (decide u7) (.ite false (.leaf (p2,some q7)) (.ite q9 (.leaf (q5,some q7)) (.need (KindP p5) (.ite (spareP p5) (.leaf (q3,some q7)) (.leaf (SV.tup [SV.agg (List.take 13 (List.drop 0 [x1,y3,x2,x3,x4,x5,x6,u9,.v (.int .i64 j2),.v (.int .i64 j1),.v (.int .i64 j0),u5,k5])),.c p3],some q7)))))) (.ite (!decide u7) (.leaf k0) (.ite q9 x0 (.need (KindP p5) (.ite (spareP p5) y8 (.leaf (SV.v (Value.tuple (Array.mk [Value.agg (Array.mk [z2,k6,z3,z4,z5,z6,z7,u4,Value.int i64 j2,Value.int i64 j1,Value.int i64 j0,y2,k]),q6])),none))))))))))) (.need y1 (.need v2 (.ite (decide u2) (.ite false v8 (.ite q9 v9 (.need (KindP y6) (.ite (spareP y6) (.leaf (q3,some q4)) (.leaf (SV.tup [SV.agg (List.take 13 (List.drop 0 [x1,y3,x2,x3,x4,x5,x6,u9,.v (.int .i64 j2),.v p3,.v p3,u5,k5])),.c p3],some q4)))))) (.ite (!decide u2) y0 (.ite q9 x0 (.need (KindP y6) (.ite (spareP y6) y8 (.leaf (SV.v (Value.tuple (Array.mk [Value.agg (Array.mk [z2,k6,z3,z4,z5,z6,z7,u4,Value.int i64 j2,q6,q6,y2,k]),q6])),none))))))))))) (.ite u1 (.need u0 (.need k9 (.need y1 (.need v2 (.ite (decide u2) (.ite false v8 (.ite q9 v9 (.need (KindP z1) (.ite (spareP z1) (.leaf (q3,some q4)) (.leaf (SV.tup [SV.agg (List.take 13 (List.drop 0 [x1,y3,x2,x3,x4,x5,x6,u9,.v p3,.v (.int .i64 j3),.v (.int .i64 j4),u5,k5])),.c p3],some q4)))))) (.ite (!decide u2) y0 (.ite q9 x0 (.need (KindP z1) (.ite (spareP z1) y8 (.leaf (SV.v (Value.tuple (Array.mk [Value.agg (Array.mk [z2,k6,z3,z4,z5,z6,z7,u4,q6,Value.int i64 j3,Value.int i64 j4,y2,k]),q6])),none))))))))))) (.need k7 (.need (z9.size ≤ 1000) (.ite (decide u8) (.ite false (.leaf (p2,some q8)) (.ite q9 (.leaf (q5,some q8)) (.need (KindP k4) (.ite (spareP k4) (.leaf (q3,some q8)) (.leaf (SV.tup [SV.agg (List.take 13 (List.drop 0 [x1,y3,x2,x3,x4,x5,x6,u9,.v p3,.v p3,.v p3,u5,k5])),.c p3],some q8)))))) (.ite (!decide u8) (.leaf k1) (.ite q9 x0 (.need (KindP k4) (.ite (spareP k4) y8 (.leaf (SV.v (Value.tuple (Array.mk [Value.agg (Array.mk [z2,k6,z3,z4,z5,z6,z7,u4,q6,q6,q6,y2,k]),q6])),none))))))))))))))) (.ite v1 (.need (q2 = q2 ∧ q2 ≤ q2 ∧ z ≤ x8 ∧ x8 ≤ x7 ∧ x8 ≤ p1 ∧ q.size ≤ 1000000) (.ite u1 (.need u0 (.need k9 (.need y1 (.need v2 (.ite (decide u2) (.ite false v8 (.ite q9 v9 (.need (KindP p6) (.ite (spareP p6) (.leaf (q3,some q4)) (.leaf (SV.tup [SV.agg (List.take 13 (List.drop 0 [x1,y3,x2,x3,x4,x5,x6,.v p3,.v (.int .i64 j5),.v (.int .i64 j3),.v (.int .i64 j4),u5,k5])),.c p3],some q4)))))) (.ite (!decide u2) y0 (.ite q9 x0 (.need (KindP p6) (.ite (spareP p6) y8 (.leaf (SV.v (Value.tuple (Array.mk [Value.agg (Array.mk [z2,k6,z3,z4,z5,z6,z7,q6,Value.int i64 j5,Value.int i64 j3,Value.int i64 j4,y2,k]),q6])),none))))))))))) (.need k7 (.need (z9.size ≤ 1000) (.ite (decide u8) (.ite false (.leaf (p2,some q8)) (.ite q9 (.leaf (q5,some q8)) (.need (KindP y5) (.ite (spareP y5) (.leaf (q3,some q8)) (.leaf (SV.tup [SV.agg (List.take 13 (List.drop 0 [x1,y3,x2,x3,x4,x5,x6,.v p3,.v (.int .i64 j5),.v p3,.v p3,u5,k5])),.c p3],some q8)))))) (.ite (!decide u8) (.leaf k1) (.ite q9 x0 (.need (KindP y5) (.ite (spareP y5) y8 (.leaf (SV.v (Value.tuple (Array.mk [Value.agg (Array.mk [z2,k6,z3,z4,z5,z6,z7,q6,Value.int i64 j5,q6,q6,y2,k]),q6])),none))))))))))) (.ite u1 (.need u3 (.need j6 (.need k7 (.need (z9.size ≤ 1000) (.ite (decide u8) (.ite false (.leaf (p2,some q8)) (.ite q9 (.leaf (q5,some q8)) (.need (KindP y7) (.ite (spareP y7) (.leaf (q3,some q8)) (.leaf (SV.tup [SV.agg (List.take 13 (List.drop 0 [x1,y3,x2,x3,x4,x5,x6,.v p3,.v p3,.v (.int .i64 v7),u9,u5,k5])),.c p3],some q8)))))) (.ite (!decide u8) (.leaf k1) (.ite q9 x0 (.need (KindP y7) (.ite (spareP y7) y8 (.leaf (SV.v (Value.tuple (Array.mk [Value.agg (Array.mk [z2,k6,z3,z4,z5,z6,z7,q6,q6,Value.int i64 v7,u4,y2,k]),q6])),none))))))))))) (.need (q2 = q2 ∧ q2 ≤ q2 ∧ q2 ≤ p1 ∧ q.size ≤ 1000000) (.need (u.size ≤ 1000) (.ite (decide (getE u = q2)) (.ite false (.leaf (p2,some p9)) (.ite q9 (.leaf (q5,some p9)) (.need (KindP k3) (.ite (spareP k3) (.leaf (q3,some p9)) (.leaf (SV.tup [SV.agg (List.take 13 (List.drop 0 [x1,y3,x2,x3,x4,x5,x6,.v p3,.v p3,.v p3,.v p3,u5,k5])),.c p3],some p9)))))) (.ite (!decide (getE u = q2)) (.leaf (SV.v (Value.tuple (Array.mk [q0,Value.int i64 (getE u)])),none)) (.ite q9 x0 (.need (KindP k3) (.ite (spareP k3) y8 (.leaf (SV.v (Value.tuple (Array.mk [Value.agg (Array.mk [z2,k6,z3,z4,z5,z6,z7,q6,q6,q6,q6,y2,k]),q6])),none))))))))))))))))))):=by kernel_rfl
theorem ext_ext (s:ByteArray) (i j k l:Nat):(s.extract i j).extract k l = s.extract (i + k) (min (i + l) j):=by
  rw [ByteArray.extract_extract]
theorem rget_cut {s:ByteArray} (hs:s.size ≤ 4000) (he:(get s).2.2 = 0) (hw:4 * (hG s).words ≤ s.size) (hl:(begunN (hG s).long).toNat ≤ restW s) :
    (get s).2.1.extract 0 (i64.wrap (i64.wrap (4 * (get s).1.words) - i64.wrap ((s.size:Int) - ((get s).2.1.size:Int)))).toNat = bodyS s ∧ i64.wrap (i64.wrap (4 * (get s).1.words) - i64.wrap ((s.size:Int) - ((get s).2.1.size:Int))) = (bodyS s).size ∧ (bodyS s).size ≤ (get s).2.1.size:=by
  obtain ⟨l,eg,hc,h3,h4⟩:=getB_ok he
  obtain ⟨w0,w1⟩:=get_words he
  have hz:(get s).2.1 = s.extract (lenB l) s.size:=by rw [eg]
  have hlong:(hG s).long = l:=by unfold hG; rw [eg]; exact h4
  have hbeg:(begunN (hG s).long).toNat = lenB l:=by rw [hlong]; cases l <;> rfl
  have hR:restW s = (4 * (get s).1.words).toNat:=rfl
  have hw':4 * (get s).1.words ≤ s.size:=hw
  have hwr:i64.wrap (4 * (get s).1.words) = 4 * (get s).1.words:=w64 _ (by omega) (by omega)
  have hzs:(get s).2.1.size = s.size - lenB l:=by rw [hz,ByteArray.size_extract]; omega
  have hws:i64.wrap ((s.size:Int) - ((get s).2.1.size:Int)) = lenB l:=by rw [hzs,w64 _ (by omega) (by omega)]; omega
  have hwt:i64.wrap (4 * (get s).1.words - (lenB l:Int)) = 4 * (get s).1.words - (lenB l:Int):=w64 _ (by omega) (by omega)
  have hpe:partsE s = 0:=by
    unfold partsE
    rw [if_pos he,if_neg (by omega)]
  have hah:aheadS s = s.extract 0 (restW s):=if_pos hpe
  have hasz:(aheadS s).size = restW s:=(partsE_ok hpe).2.2
  rw [hbeg] at hl
  have hb:bodyS s = s.extract (lenB l) (restW s):=by
    unfold bodyS
    rw [hbeg,hasz,hah,ext_ext,Nat.zero_add,Nat.zero_add,Nat.min_self]
  have hbs:(bodyS s).size = restW s - lenB l:=by rw [hb,ByteArray.size_extract]; omega
  rw [hwr,hws,hwt]
  refine ⟨?_,by omega,by omega⟩
  rw [hb,hz,ext_ext]
  congr 1
  omega
theorem oneT_ok {k:Nat} {t:T (SV × List Blk)} {Q:SV × Option Blk → Prop} (h:(oneT k t).ok Q):t.ok fun r=>Q (r.1,r.2[k]?):=T.ok_bind h
def gQ (s:ByteArray) (x y:Int) (r:SV × Option Blk):Prop:=(errG s x y = 0 ∧ r.1 = .tup [(pkG s).s (.ref 6),.c (.int .i64 0)] ∧ r.2 = some (.vec true 70 2 (optsOf (optS s)).length (opCells (optsOf (optS s))))) ∨ (¬ errG s x y = 0 ∧ r.1 = .v (.tuple #[nonePk.v (.slice none 0 0),.int .i64 (errG s x y)]))
set_option maxRecDepth 100000 in
set_option maxHeartbeats 4000000 in
theorem fRGet_run (s:ByteArray) (x y:Int) (hs:s.size ≤ 4000):(oneT 6 (runF Tryz.prog (CGv Tryz.prog Tryz.f76 s x y (get s).1 (get s).2.1 (get s).2.2 (rightB s x y)) noL Tryz.f41 (Tryz.f41.body.getD .skip) [.v (.string s),.v (.agg #[.int .i64 x,.int .i64 y])] [])).ok (gQ s x y):=by
  rw [rget10_run]
  have no:∀ (o:Option Blk) (z:Int),errG s x y = z → ¬ z = 0 → gQ s x y (.v (.tuple #[nonePk.v (.slice none 0 0),.int .i64 z]),o):=fun o z h1 h2=>.inr ⟨by rw [h1]; exact h2,by rw [h1]⟩
  have nd:∀ {b:Prop} {i:Decidable b},(!decide b) = true → ¬ b:=fun {b i} h e=>by rw [decide_eq_true e] at h; cases h
  have nf:∀ {b:Prop} {i:Decidable b},(!decide b) = false → b:=fun {b i} h=>by
    by_cases e:b
    · exact e
    · rw [decide_eq_false e] at h; cases h
  refine t_ite (fun h=>t_leaf (no _ 11 (if_pos (of_decide_eq_true h)) (by decide))) fun h7=>t_need ⟨rfl,by omega⟩ (t_ite (fun h=>?_) fun he=>t_ite (fun h=>?_) fun hw=>t_need ⟨⟨rfl,rfl,rfl⟩,hs⟩ (t_ite (fun h=>?_) fun hr=>?_))
  · have h:=nd h
    have hp:partsE s = (get s).2.2:=if_neg h
    refine t_leaf (no _ (get s).2.2 ?_ h)
    unfold errG; rw [if_neg (of_decide_eq_false h7),if_neg (by rw [hp]; exact h),hp]
  · have he:(get s).2.2 = 0:=nf he
    obtain ⟨w0,w1⟩:=get_words he
    have h:=of_decide_eq_true h
    rw [w64 _ (by omega) (by omega)] at h
    have hp:partsE s = 1:=by unfold partsE; rw [if_pos he,if_pos (by omega)]
    refine t_leaf (no _ 1 ?_ (by decide))
    unfold errG; rw [if_neg (of_decide_eq_false h7),if_neg (by rw [hp]; decide),hp]
  · have he:(get s).2.2 = 0:=nf he
    obtain ⟨w0,w1⟩:=get_words he
    have hw:=of_decide_eq_false hw
    rw [w64 _ (by omega) (by omega)] at hw
    have hp:partsE s = 0:=by unfold partsE; rw [if_pos he,if_neg (by omega)]
    refine t_leaf (no _ 5 ?_ (by decide))
    unfold errG; rw [if_neg (of_decide_eq_false h7),if_pos hp,if_neg (by simpa using h)]
  · have he:(get s).2.2 = 0:=nf he
    obtain ⟨w0,w1⟩:=get_words he
    have hw:=of_decide_eq_false hw
    have hwr:i64.wrap (4 * (get s).1.words) = 4 * (get s).1.words:=w64 _ (by omega) (by omega)
    rw [hwr] at hw
    have hp:partsE s = 0:=by unfold partsE; rw [if_pos he,if_neg (by omega)]
    have hr:rightB s x y = true:=by simpa using hr
    have h7:=of_decide_eq_false h7
    have fit:=fld_fits hp
    have hpo:=partsE_ok hp
    have hasz:=hpo.2.2
    have hbd:(bodyS s).size = (aheadS s).size - (begunN (hG s).long).toNat:=by unfold bodyS; rw [ByteArray.size_extract]; omega
    have hb0:0 ≤ begunN (hG s).long:=by unfold begunN; split <;> decide
    have hrs:restW s ≤ s.size:=by
      have:=hpo.2.1
      show (4 * (hG s).words).toNat ≤ _
      omega
    obtain ⟨c1,c2,c3⟩:=rget_cut hs he hpo.2.1 (by omega)
    have hD:s.extract (i64.wrap (4 * (get s).1.words)).toNat ((s.size:Int)).toNat = dataS s:=by
      unfold dataS
      rw [if_pos hp,hwr]; rfl
    have hE:errG s x y = if noughtR (pk0 s) (bodyS s) = 0 then (if getE (optS s) = 0 then (if ((pkG s).data.size:Int) > 200 then 11 else if spareP (pkG s) = true then 4 else 0) else getE (optS s)) else 4:=by
      unfold errG; rw [if_neg h7,if_pos hp,if_pos hr]
    obtain ⟨l,eg,hc,h3,h4⟩:=getB_ok he
    have hkk:0 ≤ (hG s).kind ∧ (hG s).kind ≤ 9:=by
      have:=(Head.check_ok hc).1
      unfold hG; rw [eg]; exact this
    have hfit:nFld (pk0 s) ≤ (bodyS s).size:=by omega
    have hbz:(bodyS s).size ≤ 700:=by omega
    have hO:optS s = (bodyS s).extract (nFld (pk0 s)) (bodyS s).size:=rfl
    have hP:pkG s = fldR (pk0 s) (bodyS s):=rfl
    have hsz:∀ k,((bodyS s).extract k (bodyS s).size).size ≤ 1000:=fun k=>by rw [ByteArray.size_extract]; omega
    have e2:decide ((get s).1.kind < 2) = served (get s).1.kind:=by
      have hkk:0 ≤ (get s).1.kind ∧ (get s).1.kind ≤ 9:=hkk
      unfold served
      by_cases h:(get s).1.kind < 2
      · simp [h]; omega
      · simp [h]; omega
    have hkind:0 ≤ (get s).1.kind:=hkk.1
    have n1:0 ≤ 4 * (get s).1.words ∧ 4 * (get s).1.words ≤ s.size:=⟨by omega,by omega⟩
    refine t_need ⟨by rw [hwr]; exact n1.1,by rw [hwr]; exact n1.2,Int.le_refl _⟩ (t_need ⟨Int.le_refl _,by rw [c2]; omega,by rw [c2]; omega⟩ ?_)
    have q4:∀ o,¬ noughtR (pk0 s) (bodyS s) = 0 → gQ s x y (.v (.tuple #[nonePk.v (.slice none 0 0),.int .i64 4]),o):=fun o h=>no o 4 (by rw [hE,if_neg h]) (by decide)
    have qg:∀ o,noughtR (pk0 s) (bodyS s) = 0 → ¬ getE ((bodyS s).extract (nFld (pk0 s)) (bodyS s).size) = 0 → gQ s x y (.v (.tuple #[nonePk.v (.slice none 0 0),.int .i64 (getE ((bodyS s).extract (nFld (pk0 s)) (bodyS s).size))]),o):=fun o h h2=>no o _ (by rw [hE,if_pos h,hO,if_neg h2]) h2
    have q11:∀ o,noughtR (pk0 s) (bodyS s) = 0 → getE ((bodyS s).extract (nFld (pk0 s)) (bodyS s).size) = 0 → ((dataS s).size:Int) > 200 → gQ s x y (.v (.tuple #[nonePk.v (.slice none 0 0),.int .i64 11]),o):=fun o h h2 h3=>no o _ (by rw [hE,if_pos h,hO,if_pos h2,if_pos (by rw [hP]; exact h3)]) (by decide)
    have qs:∀ o,noughtR (pk0 s) (bodyS s) = 0 → getE ((bodyS s).extract (nFld (pk0 s)) (bodyS s).size) = 0 → ¬ ((dataS s).size:Int) > 200 → spareP (fldR (pk0 s) (bodyS s)) = true → gQ s x y (.v (.tuple #[nonePk.v (.slice none 0 0),.int .i64 4]),o):=fun o h h2 h3 h4=>no o _ (by rw [hE,if_pos h,hO,if_pos h2,if_neg (by rw [hP]; exact h3),hP,if_pos h4]) (by decide)
    have qk:noughtR (pk0 s) (bodyS s) = 0 → getE ((bodyS s).extract (nFld (pk0 s)) (bodyS s).size) = 0 → ¬ ((dataS s).size:Int) > 200 → spareP (fldR (pk0 s) (bodyS s)) = false → gQ s x y (.tup [(fldR (pk0 s) (bodyS s)).s (.ref 6),.c (.int .i64 0)],some (.vec true 70 2 (optsOf ((bodyS s).extract (nFld (pk0 s)) (bodyS s).size)).length (opCells (optsOf ((bodyS s).extract (nFld (pk0 s)) (bodyS s).size))))):=fun h h2 h3 h4=>.inl ⟨by rw [hE,if_pos h,hO,if_pos h2,if_neg (by rw [hP]; exact h3),hP,if_neg (by rw [h4]; decide)],by rw [hP],by rw [hO]⟩
    simp only [c1,hD,e2]
    have hk0:pk0 s = ⟨(get s).1.kind,(get s).1.long,(get s).1.src,(get s).1.dst,(get s).1.ccval,(get s).1.cover,(get s).1.seq,0,0,0,0,dataS s⟩:=rfl
    rw [hk0] at q4 qg q11 qs qk hfit
    clear no hE hO hP hk0 c1 c2 c3 hD e2 hsz fit hpo hasz hbd hb0 hrs h7 hr hp hwr hw w0 w1 he h3 h4 eg hc hkk n1
    generalize gQ s x y = Q at *
    generalize bodyS s = B at *
    generalize dataS s = D at *
    generalize (get s).1 = H at *
    obtain ⟨src,dst,words,ccval,cover,sum,kind,long,seq⟩:=H
    have hsz:∀ k,(B.extract k B.size).size ≤ 1000:=fun k=>by rw [ByteArray.size_extract]; omega
    unfold fldR noughtR nFld nAck nSrv nRst at *
    dsimp only at *
    generalize Head.acks kind = a at *
    generalize served kind = v at *
    generalize getE = gE at *
    generalize spareP = sP at *
    generalize valU = vU at *
    generalize optsOf = oO at *
    by_cases k7:kind = 7
    · simp only [if_pos k7] at q4 qg q11 qs qk hfit
      rw [decide_eq_true k7]
      cases a <;> cases v <;> cases long <;> (simp only [if_true,if_false,Bool.false_eq_true,Nat.add_zero,Nat.zero_add,Nat.reduceAdd,true_implies] at q4 qg q11 qs qk hfit) <;>
        (repeat' (first | (with_reducible refine t_need ?_ ?_) | (with_reducible refine t_ite ?_ ?_; all_goals intro h; all_goals (try simp only [Bool.not_eq_true',Bool.not_eq_false',decide_eq_true_eq,decide_eq_false_iff_not] at h); all_goals (first | (simp only [Bool.false_eq_true,Bool.true_eq_false] at h; done) | skip)) | (with_reducible refine t_leaf ?_))) <;>
        first | exact hkind | exact hsz _ | (with_reducible exact ⟨trivial,by omega⟩) | exact q4 _ ‹_› | exact qg _ ‹_› ‹_› | exact q11 _ ‹_› ‹_› ‹_› | exact qs _ ‹_› ‹_› ‹_› ‹_› | exact qk ‹_› ‹_› ‹_› ‹_› | exact qg _ ‹_› | exact q11 _ ‹_› ‹_› | exact qs _ ‹_› ‹_› ‹_› | exact qk ‹_› ‹_› ‹_› | omega | skip
    · simp only [if_neg k7] at q4 qg q11 qs qk hfit
      rw [decide_eq_false k7]
      cases a <;> cases v <;> cases long <;> (simp only [if_true,if_false,Bool.false_eq_true,Nat.add_zero,Nat.zero_add,Nat.reduceAdd,true_implies] at q4 qg q11 qs qk hfit) <;>
        (repeat' (first | (with_reducible refine t_need ?_ ?_) | (with_reducible refine t_ite ?_ ?_; all_goals intro h; all_goals (try simp only [Bool.not_eq_true',Bool.not_eq_false',decide_eq_true_eq,decide_eq_false_iff_not] at h); all_goals (first | (simp only [Bool.false_eq_true,Bool.true_eq_false] at h; done) | skip)) | (with_reducible refine t_leaf ?_))) <;>
        first | exact hkind | exact hsz _ | (with_reducible exact ⟨trivial,by omega⟩) | exact q4 _ ‹_› | exact qg _ ‹_› ‹_› | exact q11 _ ‹_› ‹_› ‹_› | exact qs _ ‹_› ‹_› ‹_› ‹_› | exact qk ‹_› ‹_› ‹_› ‹_› | exact qg _ ‹_› | exact q11 _ ‹_› ‹_› | exact qs _ ‹_› ‹_› ‹_› | exact qk ‹_› ‹_› ‹_› | omega | skip
set_option maxRecDepth 100000 in
theorem fRGet_ok:EntryOk Tryz.prog 41 fPGet:=by
  intro ss H t ht bs B w vs hm hv Qs hq
  unfold fPGet at ht
  split at ht
  · rename_i s x y
    simp only [Option.some.injEq] at ht
    subst ht
    obtain ⟨hs,hq1,hq2⟩:=hq
    have run:=oneT_ok (fRGet_run s x y hs)
    refine (inl_ok (L:=noL) (CGv_ok s x y) follows Tryz.func41 (by kernel_rfl) (lexAllF_ok (by kernel_rfl)) (noloops (by kernel_rfl)) [.v (.string s),.v (.agg ⟨[.int .i64 x,.int .i64 y]⟩)] [] _ rfl bs B w vs hm hv _ run).mono ?_
    rintro e w' ⟨s1,H1,B1,v,hr,hpr,he',hx,hm'⟩
    obtain rfl:B = []:=List.length_eq_zero_iff.1 hm.sat.len
    rcases hr with ⟨h0,hr,hr2⟩ | ⟨h0,hr⟩
    · dsimp only at hr hr2
      subst hr
      obtain ⟨hl,-⟩:=List.getElem?_eq_some_iff.1 hr2
      have hB:6 < B1.length:=by rw [hm'.sat.len]; exact hl
      obtain ⟨u,hu⟩:∃ u,B1[6]? = some u:=⟨_,List.getElem?_eq_getElem hB⟩
      refine ⟨_,_,[u],v,hq1 (decide_eq_true h0),List.nil_prefix,he',?_,mem_pick hm' hr2 hu⟩
      rw [← hx]
      simp [SV.to,SV.tos,hu]
    · dsimp only at hr
      subst hr
      have hm2:=only_mem hm' List.nil_prefix
      exact ⟨_,_,[],v,hq2 (decide_eq_false h0),List.prefix_refl _,he',hx,hm2⟩
  · cases ht
end Go.Proofs.YthacfgaacleaeaaGreatDoor
namespace Go.Proofs.YthacfgaacleaeaaGreatDoor
open Go.IntKind (i64 u32)
open Go.RowKit Sym Go.ChangeShapes Go.WideShapes Go.ChangeMaps
def gotL (s:ByteArray):List Op:=optsOf (optS s)
def GetP (s:ByteArray) (x y:Int) (w:World) (e:Ending):Prop :=
  (errG s x y = 0 ∧ ∃ u,e = .returned (.tuple #[(pkG s).v u,.int .i64 0]) ∧ ∀ B,BlkSat B w u (.row (gotL s).length 2 fun i j=>(opN (gotL s) i).c j)) ∨
  (errG s x y ≠ 0 ∧ e = .returned (.tuple #[nonePk.v (.slice none 0 0),.int .i64 (errG s x y)]))
theorem get_world {k:FuncId} (hk:EntryOk Tryz.prog k fPGet) {s:ByteArray} {x y:Int} (hs:s.size ≤ 4000) (w:World):Calls Tryz.prog k #[.string s,.agg #[.int .i64 x,.int .i64 y]] w fun e w'=>GetP s x y w' e ∧ Below w.heap.size w w':=by
  refine (hk [.v (.string s),.v (.agg ⟨[.int .i64 x,.int .i64 y]⟩)] [] _ rfl [] [] w [.string s,.agg ⟨[.int .i64 x,.int .i64 y]⟩] (mem_none w) rfl
    (fun r=>(errG s x y = 0 ∧ r = (.tup [(pkG s).s (.ref 0),.v (.int .i64 0)],[.vec true 70 2 (gotL s).length (opCells (gotL s))])) ∨ (errG s x y ≠ 0 ∧ r = (.v (.tuple #[nonePk.v (.slice none 0 0),.int .i64 (errG s x y)]),[]))) ?_).mono ?_
  · exact ⟨hs,fun h=>.inl ⟨of_decide_eq_true h,rfl⟩,fun h=>.inr ⟨of_decide_eq_false h,rfl⟩⟩
  · rintro e w' ⟨r,H',B',v,hr,-,rfl,hv,hm⟩
    refine ⟨?_,hm.keeps.below⟩
    rcases hr with ⟨h0,hr⟩ | ⟨h0,hr⟩
    · simp only [Prod.mk.injEq] at hr
      obtain ⟨rfl,rfl⟩:=hr
      obtain ⟨u,hu⟩:=hm.sat.getB (k:=0) rfl
      have hb:=hm.sat.blk 0 _ u rfl hu
      refine .inl ⟨h0,u,?_,?_⟩
      · have e1:SV.to B' ((pkG s).s (.ref 0)) = some ((pkG s).v u):=Pk.s_to (pkG s) hu
        simp only [SV.to,SV.tos] at hv
        have e2:SV.to B' (.agg [.v (.int .i64 (pkG s).kind),.v (.bool (pkG s).long),.v (.int .i64 (pkG s).src),.v (.int .i64 (pkG s).dst),.v (.int .i64 (pkG s).ccval),.v (.int .i64 (pkG s).cover),.v (.int .i64 (pkG s).seq),.v (.int .i64 (pkG s).ack),.v (.int .i64 (pkG s).service),.v (.int .i64 (pkG s).code),.v (.int .i64 (pkG s).detail),.ref 0,.v (.string (pkG s).data)]) = some ((pkG s).v u):=e1
        simp only [SV.to,SV.tos] at e2
        rw [hu] at hv e2
        simp only [Option.map_some,Option.some.injEq] at hv e2
        rw [← hv,e2]
      · intro B
        have h2:BlkSat B w' u (.row (gotL s).length 2 fun i j=>cellAt (opCells (gotL s)) (i * 2 + j)):=rowBlk_sat (show BlkSat B w' u (.vec true 70 2 (gotL s).length (opCells (gotL s))) from hb)
        refine row_congr h2 fun i j hi hj=>?_
        obtain ⟨e0,e1⟩:=opCells_at (gotL s) i hi
        match j,hj with
        | 0,_=>exact e0
        | 1,_=>exact e1
    · simp only [Prod.mk.injEq] at hr
      obtain ⟨rfl,rfl⟩:=hr
      simp only [SV.to,Option.some.injEq] at hv
      subst hv
      exact .inr ⟨h0,rfl⟩
theorem ext_le (s:ByteArray) (a b:Nat):(s.extract a b).size ≤ s.size:=by rw [ByteArray.size_extract]; omega
theorem optS_le (s:ByteArray):(optS s).size ≤ s.size:=by
  have h1:(aheadS s).size ≤ s.size:=by
    unfold aheadS
    split
    · exact ext_le _ _ _
    · exact Nat.zero_le _
  exact Nat.le_trans (ext_le _ _ _) (Nat.le_trans (ext_le _ _ _) h1)
theorem dataS_le (s:ByteArray):(dataS s).size ≤ s.size:=by
  unfold dataS
  split
  · exact ext_le _ _ _
  · exact Nat.zero_le _
theorem pkG_data (s:ByteArray):(pkG s).data = dataS s:=by
  unfold pkG fldR pk0
  rfl
theorem few_got (s:ByteArray) (hs:s.size ≤ 1000):Few (gotL s).length (opN (gotL s)):=by
  have h:=optsOf_P (optS s) (Nat.le_trans (optS_le s) hs)
  refine ⟨h.2.1,fun i hi=>?_⟩
  have:=h.2.2 i hi
  rw [(opCells_row (optsOf (optS s))).2 i hi] at this
  exact this
def holdsG (kn:Bool) (tag:ByteArray → ByteArray) (side:Int) (s:ByteArray) (x y:Int):Bool :=
  decide (errG s x y = 0) && (decide (chkG kn tag side (opN (gotL s)) (gotL s).length (pkG s).data = 0) || (saysG kn tag side (opN (gotL s)) (gotL s).length || hearsG kn tag side (opN (gotL s)) (gotL s).length))
set_option maxRecDepth 100000 in
set_option maxHeartbeats 4000000 in
theorem holds_any {w:World} (a b:ByteArray) (side us x y:Int) (s:ByteArray) (hE:ErrT w) (hs:a.size ≤ 1000 ∧ b.size ≤ 1000 ∧ s.size ≤ 1000) :
    Calls Tryz.prog 17 #[.agg #[.string a,.string b],.int .i64 side,.agg #[.int .i64 us,.int .i64 x,.int .i64 y,.string s]] w fun e w'=>e = .returned (.bool (holdsG (knP a b) (tagP a b) side s x y)) ∧ Below w.heap.size w w':=by
  have hget:=fun W=>get_world fPGet_ok (x:=x) (y:=y) (show s.size ≤ 4000 by omega) W
  obtain ⟨R,hR⟩:∃ R,holdsG (knP a b) (tagP a b) side s x y = R:=⟨_,rfl⟩
  rw [hR]
  unfold holdsG at hR
  by_cases he:errG s x y = 0
  · rw [he] at hR
    have hget:∀ W,Calls Tryz.prog 40 #[.string s,.agg #[.int .i64 x,.int .i64 y]] W fun e w'=>(∃ p n c,e = .returned (.tuple #[(pkG s).v (.slice p n c),.int .i64 0]) ∧ ∀ B,BlkSat B w' (.slice p n c) (.row (gotL s).length 2 fun i j=>(opN (gotL s) i).c j)) ∧ Below W.heap.size W w':=fun W=>(hget W).mono fun e w' ⟨hP,hb⟩=>by
      rcases hP with ⟨-,u,h1,h2⟩ | ⟨h1,-⟩
      · obtain ⟨p,cap,hu,-⟩:=h2 []
        subst hu
        exact ⟨⟨p,_,cap,h1,h2⟩,hb⟩
      · exact absurd he h1
    have hf:=few_got s hs.2.2
    have hd:(pkG s).data.size ≤ 1000000:=by rw [pkG_data]; have:=dataS_le s; omega
    have hC:=fun (W:World) (o:Value) (hEW:ErrT W) (hr:∀ B,BlkSat B W o (.row (gotL s).length 2 fun i j=>(opN (gotL s) i).c j))=>check_any a b side (pkG s) hEW hf hr ⟨hs.1,hs.2.1,hd⟩
    have hS:=fun (W:World) (o:Value) (hr:∀ B,BlkSat B W o (.row (gotL s).length 2 fun i j=>(opN (gotL s) i).c j))=>says_any a b side (pkG s) hf hr ⟨hs.1,hs.2.1⟩
    have hH:=fun (W:World) (o:Value) (hr:∀ B,BlkSat B W o (.row (gotL s).length 2 fun i j=>(opN (gotL s) i).c j))=>hears_any a b side (pkG s) hf hr ⟨hs.1,hs.2.1⟩
    generalize chkG (knP a b) (tagP a b) side (opN (gotL s)) (gotL s).length (pkG s).data = Z at *
    generalize saysG (knP a b) (tagP a b) side (opN (gotL s)) (gotL s).length = S at *
    generalize hearsG (knP a b) (tagP a b) side (opN (gotL s)) (gotL s).length = H at *
    clear hf hd
    generalize hG:gotL s = G at *
    generalize pkG s = p at *
    clear hG
    unfold Pk.v at hget hC hS hH
    obtain ⟨pk,pl,ps,pd,pc,pv,pq,pa,pe,po,pt,px⟩:=p
    dsimp only at hget hC hS hH
    have e0:decide ((0:Int) = 0) = true:=rfl
    rw [e0,Bool.true_and] at hR
    by_cases hZ:Z = 0
    · subst hZ
      obtain rfl:R = true:=by rw [← hR]; rfl
      go_enter Tryz.func17,Tryz.ntmps17
      go_upto_region 2 with (first | (go_at_call 40; (with_reducible refine (hget _).mono ?_); rintro e w1 ⟨⟨pu,nu,cu,rfl,hrow⟩,hb⟩; have hb1:Below w.heap.size w w1:=below_of (by (repeat' (first | (with_reducible exact Below.refl _ _) | (with_reducible refine below_alloc ?_ _) | (with_reducible refine Below.drew ?_) | (with_reducible refine below_drewN ?_ _) | (with_reducible refine Below.setCell ?_ ?_ _) | (with_reducible assumption) | (with_reducible refine below_of ?_ (by assumption)) | omega | (simp only [World.size_alloc,World.size_setCell,World.size_drew,size_drewN] at *; omega) | (simp; omega)))) hb; have hz:=hb.size; (try simp only [World.size_alloc,World.size_setCell,World.size_drew,size_drewN] at hz); apply own_step (B:=w.heap.size) hb; (focus (repeat (first | (with_reducible assumption) | (with_reducible exact own_new _ _ _) | ((with_reducible apply own_new'); focus (first | omega | (simp; done) | (simp; omega))) | (with_reducible apply own_drewN) | (with_reducible apply own_drew) | (with_reducible apply own_alloc) | (with_reducible apply own_setT) | ((with_reducible apply own_set_otherH); focus (first | (simp; done) | (simp; omega)))))); intro hO0; have hk0:=hO0.2.1; have hl0:=hO0.1; have hf0:=hO0.2.2; (try simp only [List.setIfInBounds_toArray,List.set_cons_zero,List.set_cons_succ] at hO0 hk0)))
      have hx:=own_new w1 #[.int .i64 pk,.bool pl,.int .i64 ps,.int .i64 pd,.int .i64 pc,.int .i64 pv,.int .i64 pq,.int .i64 pa,.int .i64 pe,.int .i64 po,.int .i64 pt,.slice pu nu cu,.string px] 31
      have hO:=own_alloc hO0 (.cells #[.int .i64 pk,.bool pl,.int .i64 ps,.int .i64 pd,.int .i64 pc,.int .i64 pv,.int .i64 pq,.int .i64 pa,.int .i64 pe,.int .i64 po,.int .i64 pt,.slice pu nu cu,.string px] 31)
      have hbx:=below_alloc hb1 (.cells #[.int .i64 pk,.bool pl,.int .i64 ps,.int .i64 pd,.int .i64 pc,.int .i64 pv,.int .i64 pq,.int .i64 pa,.int .i64 pe,.int .i64 po,.int .i64 pt,.slice pu nu cu,.string px] 31)
      have hr:=row_belowF hrow ((Below.refl _ w1).alloc (Nat.le_refl _) (.cells #[.int .i64 pk,.bool pl,.int .i64 ps,.int .i64 pd,.int .i64 pc,.int .i64 pv,.int .i64 pq,.int .i64 pa,.int .i64 pe,.int .i64 po,.int .i64 pt,.slice pu nu cu,.string px] 31))
      have hEx:=hE.below hbx
      clear hget hO0 hk0 hl0 hf0 hrow hb hz hb1
      generalize (w1.alloc _) = W at *
      generalize w1.heap.size = B6 at *
      have hk0:=hO.2.1
      have hk1:=hx.2.1
      go_wp2_with (first
        | (go_at_call 11; (with_reducible refine (hC _ _ hEx hr).mono ?_); rintro e wq ⟨rfl,hb⟩; replace hEx:=hEx.below hb; replace hr:=row_belowF hr hb; replace hO:=own_below hO hb; replace hx:=own_below hx hb; replace hbx:=below_of hbx hb; have hk0:=hO.2.1; have hk1:=hx.2.1)
        | (go_at_call 13; (with_reducible refine (hS _ _ hr).mono ?_); rintro e wq ⟨rfl,hb⟩; replace hEx:=hEx.below hb; replace hr:=row_belowF hr hb; replace hO:=own_below hO hb; replace hx:=own_below hx hb; replace hbx:=below_of hbx hb; have hk0:=hO.2.1; have hk1:=hx.2.1)
        | (go_at_call 15; (with_reducible refine (hH _ _ hr).mono ?_); rintro e wq ⟨rfl,hb⟩; replace hEx:=hEx.below hb; replace hr:=row_belowF hr hb; replace hO:=own_below hO hb; replace hx:=own_below hx hb; replace hbx:=below_of hbx hb; have hk0:=hO.2.1; have hk1:=hx.2.1))
      go_ret
      exact ⟨rfl,hbx⟩
    · have hZb:((Z:Int) == 0) = false:=by rw [beq_eq_false_iff_ne]; exact hZ
      have hZd:decide (Z = 0) = false:=decide_eq_false hZ
      rw [hZd,Bool.false_or] at hR
      cases S with
      | true =>
        obtain rfl:R = true:=by rw [← hR]; rfl
        go_enter Tryz.func17,Tryz.ntmps17
        go_upto_region 2 with (first | (go_at_call 40; (with_reducible refine (hget _).mono ?_); rintro e w1 ⟨⟨pu,nu,cu,rfl,hrow⟩,hb⟩; have hb1:Below w.heap.size w w1:=below_of (by (repeat' (first | (with_reducible exact Below.refl _ _) | (with_reducible refine below_alloc ?_ _) | (with_reducible refine Below.drew ?_) | (with_reducible refine below_drewN ?_ _) | (with_reducible refine Below.setCell ?_ ?_ _) | (with_reducible assumption) | (with_reducible refine below_of ?_ (by assumption)) | omega | (simp only [World.size_alloc,World.size_setCell,World.size_drew,size_drewN] at *; omega) | (simp; omega)))) hb; have hz:=hb.size; (try simp only [World.size_alloc,World.size_setCell,World.size_drew,size_drewN] at hz); apply own_step (B:=w.heap.size) hb; (focus (repeat (first | (with_reducible assumption) | (with_reducible exact own_new _ _ _) | ((with_reducible apply own_new'); focus (first | omega | (simp; done) | (simp; omega))) | (with_reducible apply own_drewN) | (with_reducible apply own_drew) | (with_reducible apply own_alloc) | (with_reducible apply own_setT) | ((with_reducible apply own_set_otherH); focus (first | (simp; done) | (simp; omega)))))); intro hO0; have hk0:=hO0.2.1; have hl0:=hO0.1; have hf0:=hO0.2.2; (try simp only [List.setIfInBounds_toArray,List.set_cons_zero,List.set_cons_succ] at hO0 hk0)))
        have hx:=own_new w1 #[.int .i64 pk,.bool pl,.int .i64 ps,.int .i64 pd,.int .i64 pc,.int .i64 pv,.int .i64 pq,.int .i64 pa,.int .i64 pe,.int .i64 po,.int .i64 pt,.slice pu nu cu,.string px] 31
        have hO:=own_alloc hO0 (.cells #[.int .i64 pk,.bool pl,.int .i64 ps,.int .i64 pd,.int .i64 pc,.int .i64 pv,.int .i64 pq,.int .i64 pa,.int .i64 pe,.int .i64 po,.int .i64 pt,.slice pu nu cu,.string px] 31)
        have hbx:=below_alloc hb1 (.cells #[.int .i64 pk,.bool pl,.int .i64 ps,.int .i64 pd,.int .i64 pc,.int .i64 pv,.int .i64 pq,.int .i64 pa,.int .i64 pe,.int .i64 po,.int .i64 pt,.slice pu nu cu,.string px] 31)
        have hr:=row_belowF hrow ((Below.refl _ w1).alloc (Nat.le_refl _) (.cells #[.int .i64 pk,.bool pl,.int .i64 ps,.int .i64 pd,.int .i64 pc,.int .i64 pv,.int .i64 pq,.int .i64 pa,.int .i64 pe,.int .i64 po,.int .i64 pt,.slice pu nu cu,.string px] 31))
        have hEx:=hE.below hbx
        clear hget hO0 hk0 hl0 hf0 hrow hb hz hb1
        generalize (w1.alloc _) = W at *
        generalize w1.heap.size = B6 at *
        have hk0:=hO.2.1
        have hk1:=hx.2.1
        go_wp2_with (first
          | (go_at_call 11; (with_reducible refine (hC _ _ hEx hr).mono ?_); rintro e wq ⟨rfl,hb⟩; replace hEx:=hEx.below hb; replace hr:=row_belowF hr hb; replace hO:=own_below hO hb; replace hx:=own_below hx hb; replace hbx:=below_of hbx hb; have hk0:=hO.2.1; have hk1:=hx.2.1)
          | (go_at_call 13; (with_reducible refine (hS _ _ hr).mono ?_); rintro e wq ⟨rfl,hb⟩; replace hEx:=hEx.below hb; replace hr:=row_belowF hr hb; replace hO:=own_below hO hb; replace hx:=own_below hx hb; replace hbx:=below_of hbx hb; have hk0:=hO.2.1; have hk1:=hx.2.1)
          | (go_at_call 15; (with_reducible refine (hH _ _ hr).mono ?_); rintro e wq ⟨rfl,hb⟩; replace hEx:=hEx.below hb; replace hr:=row_belowF hr hb; replace hO:=own_below hO hb; replace hx:=own_below hx hb; replace hbx:=below_of hbx hb; have hk0:=hO.2.1; have hk1:=hx.2.1))
        go_ret
        exact ⟨rfl,hbx⟩
      | false =>
        obtain rfl:H = R:=by rw [← hR]; rfl
        cases H with
        | true =>
          go_enter Tryz.func17,Tryz.ntmps17
          go_upto_region 2 with (first | (go_at_call 40; (with_reducible refine (hget _).mono ?_); rintro e w1 ⟨⟨pu,nu,cu,rfl,hrow⟩,hb⟩; have hb1:Below w.heap.size w w1:=below_of (by (repeat' (first | (with_reducible exact Below.refl _ _) | (with_reducible refine below_alloc ?_ _) | (with_reducible refine Below.drew ?_) | (with_reducible refine below_drewN ?_ _) | (with_reducible refine Below.setCell ?_ ?_ _) | (with_reducible assumption) | (with_reducible refine below_of ?_ (by assumption)) | omega | (simp only [World.size_alloc,World.size_setCell,World.size_drew,size_drewN] at *; omega) | (simp; omega)))) hb; have hz:=hb.size; (try simp only [World.size_alloc,World.size_setCell,World.size_drew,size_drewN] at hz); apply own_step (B:=w.heap.size) hb; (focus (repeat (first | (with_reducible assumption) | (with_reducible exact own_new _ _ _) | ((with_reducible apply own_new'); focus (first | omega | (simp; done) | (simp; omega))) | (with_reducible apply own_drewN) | (with_reducible apply own_drew) | (with_reducible apply own_alloc) | (with_reducible apply own_setT) | ((with_reducible apply own_set_otherH); focus (first | (simp; done) | (simp; omega)))))); intro hO0; have hk0:=hO0.2.1; have hl0:=hO0.1; have hf0:=hO0.2.2; (try simp only [List.setIfInBounds_toArray,List.set_cons_zero,List.set_cons_succ] at hO0 hk0)))
          have hx:=own_new w1 #[.int .i64 pk,.bool pl,.int .i64 ps,.int .i64 pd,.int .i64 pc,.int .i64 pv,.int .i64 pq,.int .i64 pa,.int .i64 pe,.int .i64 po,.int .i64 pt,.slice pu nu cu,.string px] 31
          have hO:=own_alloc hO0 (.cells #[.int .i64 pk,.bool pl,.int .i64 ps,.int .i64 pd,.int .i64 pc,.int .i64 pv,.int .i64 pq,.int .i64 pa,.int .i64 pe,.int .i64 po,.int .i64 pt,.slice pu nu cu,.string px] 31)
          have hbx:=below_alloc hb1 (.cells #[.int .i64 pk,.bool pl,.int .i64 ps,.int .i64 pd,.int .i64 pc,.int .i64 pv,.int .i64 pq,.int .i64 pa,.int .i64 pe,.int .i64 po,.int .i64 pt,.slice pu nu cu,.string px] 31)
          have hr:=row_belowF hrow ((Below.refl _ w1).alloc (Nat.le_refl _) (.cells #[.int .i64 pk,.bool pl,.int .i64 ps,.int .i64 pd,.int .i64 pc,.int .i64 pv,.int .i64 pq,.int .i64 pa,.int .i64 pe,.int .i64 po,.int .i64 pt,.slice pu nu cu,.string px] 31))
          have hEx:=hE.below hbx
          clear hget hO0 hk0 hl0 hf0 hrow hb hz hb1
          generalize (w1.alloc _) = W at *
          generalize w1.heap.size = B6 at *
          have hk0:=hO.2.1
          have hk1:=hx.2.1
          go_wp2_with (first
            | (go_at_call 11; (with_reducible refine (hC _ _ hEx hr).mono ?_); rintro e wq ⟨rfl,hb⟩; replace hEx:=hEx.below hb; replace hr:=row_belowF hr hb; replace hO:=own_below hO hb; replace hx:=own_below hx hb; replace hbx:=below_of hbx hb; have hk0:=hO.2.1; have hk1:=hx.2.1)
            | (go_at_call 13; (with_reducible refine (hS _ _ hr).mono ?_); rintro e wq ⟨rfl,hb⟩; replace hEx:=hEx.below hb; replace hr:=row_belowF hr hb; replace hO:=own_below hO hb; replace hx:=own_below hx hb; replace hbx:=below_of hbx hb; have hk0:=hO.2.1; have hk1:=hx.2.1)
            | (go_at_call 15; (with_reducible refine (hH _ _ hr).mono ?_); rintro e wq ⟨rfl,hb⟩; replace hEx:=hEx.below hb; replace hr:=row_belowF hr hb; replace hO:=own_below hO hb; replace hx:=own_below hx hb; replace hbx:=below_of hbx hb; have hk0:=hO.2.1; have hk1:=hx.2.1))
          go_ret
          exact ⟨rfl,hbx⟩
        | false =>
          go_enter Tryz.func17,Tryz.ntmps17
          go_upto_region 2 with (first | (go_at_call 40; (with_reducible refine (hget _).mono ?_); rintro e w1 ⟨⟨pu,nu,cu,rfl,hrow⟩,hb⟩; have hb1:Below w.heap.size w w1:=below_of (by (repeat' (first | (with_reducible exact Below.refl _ _) | (with_reducible refine below_alloc ?_ _) | (with_reducible refine Below.drew ?_) | (with_reducible refine below_drewN ?_ _) | (with_reducible refine Below.setCell ?_ ?_ _) | (with_reducible assumption) | (with_reducible refine below_of ?_ (by assumption)) | omega | (simp only [World.size_alloc,World.size_setCell,World.size_drew,size_drewN] at *; omega) | (simp; omega)))) hb; have hz:=hb.size; (try simp only [World.size_alloc,World.size_setCell,World.size_drew,size_drewN] at hz); apply own_step (B:=w.heap.size) hb; (focus (repeat (first | (with_reducible assumption) | (with_reducible exact own_new _ _ _) | ((with_reducible apply own_new'); focus (first | omega | (simp; done) | (simp; omega))) | (with_reducible apply own_drewN) | (with_reducible apply own_drew) | (with_reducible apply own_alloc) | (with_reducible apply own_setT) | ((with_reducible apply own_set_otherH); focus (first | (simp; done) | (simp; omega)))))); intro hO0; have hk0:=hO0.2.1; have hl0:=hO0.1; have hf0:=hO0.2.2; (try simp only [List.setIfInBounds_toArray,List.set_cons_zero,List.set_cons_succ] at hO0 hk0)))
          have hx:=own_new w1 #[.int .i64 pk,.bool pl,.int .i64 ps,.int .i64 pd,.int .i64 pc,.int .i64 pv,.int .i64 pq,.int .i64 pa,.int .i64 pe,.int .i64 po,.int .i64 pt,.slice pu nu cu,.string px] 31
          have hO:=own_alloc hO0 (.cells #[.int .i64 pk,.bool pl,.int .i64 ps,.int .i64 pd,.int .i64 pc,.int .i64 pv,.int .i64 pq,.int .i64 pa,.int .i64 pe,.int .i64 po,.int .i64 pt,.slice pu nu cu,.string px] 31)
          have hbx:=below_alloc hb1 (.cells #[.int .i64 pk,.bool pl,.int .i64 ps,.int .i64 pd,.int .i64 pc,.int .i64 pv,.int .i64 pq,.int .i64 pa,.int .i64 pe,.int .i64 po,.int .i64 pt,.slice pu nu cu,.string px] 31)
          have hr:=row_belowF hrow ((Below.refl _ w1).alloc (Nat.le_refl _) (.cells #[.int .i64 pk,.bool pl,.int .i64 ps,.int .i64 pd,.int .i64 pc,.int .i64 pv,.int .i64 pq,.int .i64 pa,.int .i64 pe,.int .i64 po,.int .i64 pt,.slice pu nu cu,.string px] 31))
          have hEx:=hE.below hbx
          clear hget hO0 hk0 hl0 hf0 hrow hb hz hb1
          generalize (w1.alloc _) = W at *
          generalize w1.heap.size = B6 at *
          have hk0:=hO.2.1
          have hk1:=hx.2.1
          go_wp2_with (first
            | (go_at_call 11; (with_reducible refine (hC _ _ hEx hr).mono ?_); rintro e wq ⟨rfl,hb⟩; replace hEx:=hEx.below hb; replace hr:=row_belowF hr hb; replace hO:=own_below hO hb; replace hx:=own_below hx hb; replace hbx:=below_of hbx hb; have hk0:=hO.2.1; have hk1:=hx.2.1)
            | (go_at_call 13; (with_reducible refine (hS _ _ hr).mono ?_); rintro e wq ⟨rfl,hb⟩; replace hEx:=hEx.below hb; replace hr:=row_belowF hr hb; replace hO:=own_below hO hb; replace hx:=own_below hx hb; replace hbx:=below_of hbx hb; have hk0:=hO.2.1; have hk1:=hx.2.1)
            | (go_at_call 15; (with_reducible refine (hH _ _ hr).mono ?_); rintro e wq ⟨rfl,hb⟩; replace hEx:=hEx.below hb; replace hr:=row_belowF hr hb; replace hO:=own_below hO hb; replace hx:=own_below hx hb; replace hbx:=below_of hbx hb; have hk0:=hO.2.1; have hk1:=hx.2.1))
          go_ret
          exact ⟨rfl,hbx⟩
  · obtain rfl:R = false:=by rw [← hR,decide_eq_false he]; rfl
    have hget:∀ W,Calls Tryz.prog 40 #[.string s,.agg #[.int .i64 x,.int .i64 y]] W fun e w'=>e = .returned (.tuple #[.agg #[.int .i64 0,.bool false,.int .i64 0,.int .i64 0,.int .i64 0,.int .i64 0,.int .i64 0,.int .i64 0,.int .i64 0,.int .i64 0,.int .i64 0,.slice none 0 0,.string ⟨⟨[]⟩⟩],.int .i64 (errG s x y)]) ∧ Below W.heap.size W w':=fun W=>(hget W).mono fun e w' ⟨hP,hb⟩=>by
      rcases hP with ⟨h0,-⟩ | ⟨-,h1⟩
      · exact absurd h0 he
      · exact ⟨h1,hb⟩
    generalize errG s x y = E at *
    have hEb:((E:Int) == 0) = false:=by rw [beq_eq_false_iff_ne]; exact he
    go_enter Tryz.func17,Tryz.ntmps17
    go_wp2_with (first | (go_at_call 40; (with_reducible refine (hget _).mono ?_); rintro e w1 ⟨rfl,hb⟩; have hb1:Below w.heap.size w w1:=below_of (by (repeat' (first | (with_reducible exact Below.refl _ _) | (with_reducible refine below_alloc ?_ _) | (with_reducible refine Below.drew ?_) | (with_reducible refine below_drewN ?_ _) | (with_reducible refine Below.setCell ?_ ?_ _) | (with_reducible assumption) | (with_reducible refine below_of ?_ (by assumption)) | omega | (simp only [World.size_alloc,World.size_setCell,World.size_drew,size_drewN] at *; omega) | (simp; omega)))) hb))
    go_ret
    exact ⟨rfl,by (repeat' (first | (with_reducible exact Below.refl _ _) | (with_reducible refine below_alloc ?_ _) | (with_reducible refine Below.drew ?_) | (with_reducible refine below_drewN ?_ _) | (with_reducible refine Below.setCell ?_ ?_ _) | (with_reducible assumption) | (with_reducible refine below_of ?_ (by assumption)) | omega | (simp only [World.size_alloc,World.size_setCell,World.size_drew,size_drewN] at *; omega) | (simp; omega)))⟩
set_option maxRecDepth 100000 in
set_option maxHeartbeats 4000000 in
theorem rholds_any {w:World} (a b:ByteArray) (side us x y:Int) (s:ByteArray) (hs:a.size ≤ 1000 ∧ b.size ≤ 1000 ∧ s.size ≤ 1000) :
    Calls Tryz.prog 18 #[.string a,.string b,.int .i64 side,.agg #[.int .i64 us,.int .i64 x,.int .i64 y,.string s]] w fun e w'=>e = .returned (.bool (holdsG (!decide (a = nilB)) (tagR a b) side s x y)) ∧ Below w.heap.size w w':=by
  have hget:=fun W=>get_world fRGet_ok (x:=x) (y:=y) (show s.size ≤ 4000 by omega) W
  obtain ⟨R,hR⟩:∃ R,holdsG (!decide (a = nilB)) (tagR a b) side s x y = R:=⟨_,rfl⟩
  rw [hR]
  unfold holdsG at hR
  by_cases he:errG s x y = 0
  · rw [he] at hR
    have hget:∀ W,Calls Tryz.prog 41 #[.string s,.agg #[.int .i64 x,.int .i64 y]] W fun e w'=>(∃ p n c,e = .returned (.tuple #[(pkG s).v (.slice p n c),.int .i64 0]) ∧ ∀ B,BlkSat B w' (.slice p n c) (.row (gotL s).length 2 fun i j=>(opN (gotL s) i).c j)) ∧ Below W.heap.size W w':=fun W=>(hget W).mono fun e w' ⟨hP,hb⟩=>by
      rcases hP with ⟨-,u,h1,h2⟩ | ⟨h1,-⟩
      · obtain ⟨p,cap,hu,-⟩:=h2 []
        subst hu
        exact ⟨⟨p,_,cap,h1,h2⟩,hb⟩
      · exact absurd he h1
    have hf:=few_got s hs.2.2
    have hd:(pkG s).data.size ≤ 1000000:=by rw [pkG_data]; have:=dataS_le s; omega
    have hC:=fun (W:World) (o:Value) (hr:∀ B,BlkSat B W o (.row (gotL s).length 2 fun i j=>(opN (gotL s) i).c j))=>rchk_any a b side (pkG s) hf hr ⟨hs.1,hs.2.1,hd⟩
    have hS:=fun (W:World) (o:Value) (hr:∀ B,BlkSat B W o (.row (gotL s).length 2 fun i j=>(opN (gotL s) i).c j))=>rsays_any a b side (pkG s) hf hr ⟨hs.1,hs.2.1⟩
    have hH:=fun (W:World) (o:Value) (hr:∀ B,BlkSat B W o (.row (gotL s).length 2 fun i j=>(opN (gotL s) i).c j))=>rhears_any a b side (pkG s) hf hr ⟨hs.1,hs.2.1⟩
    generalize chkG (!decide (a = nilB)) (tagR a b) side (opN (gotL s)) (gotL s).length (pkG s).data = Z at *
    generalize saysG (!decide (a = nilB)) (tagR a b) side (opN (gotL s)) (gotL s).length = S at *
    generalize hearsG (!decide (a = nilB)) (tagR a b) side (opN (gotL s)) (gotL s).length = H at *
    clear hf hd
    generalize hG:gotL s = G at *
    generalize pkG s = p at *
    clear hG
    unfold Pk.v at hget hC hS hH
    obtain ⟨pk,pl,ps,pd,pc,pv,pq,pa,pe,po,pt,px⟩:=p
    dsimp only at hget hC hS hH
    have e0:decide ((0:Int) = 0) = true:=rfl
    rw [e0,Bool.true_and] at hR
    by_cases hZ:Z = 0
    · subst hZ
      obtain rfl:R = true:=by rw [← hR]; rfl
      go_enter Tryz.func18,Tryz.ntmps18
      go_upto_region 2 with (first | (go_at_call 41; (with_reducible refine (hget _).mono ?_); rintro e w1 ⟨⟨pu,nu,cu,rfl,hrow⟩,hb⟩; have hb1:Below w.heap.size w w1:=below_of (by (repeat' (first | (with_reducible exact Below.refl _ _) | (with_reducible refine below_alloc ?_ _) | (with_reducible refine Below.drew ?_) | (with_reducible refine below_drewN ?_ _) | (with_reducible refine Below.setCell ?_ ?_ _) | (with_reducible assumption) | (with_reducible refine below_of ?_ (by assumption)) | omega | (simp only [World.size_alloc,World.size_setCell,World.size_drew,size_drewN] at *; omega) | (simp; omega)))) hb; have hz:=hb.size))
      have hx:=own_new w1 #[.int .i64 pk,.bool pl,.int .i64 ps,.int .i64 pd,.int .i64 pc,.int .i64 pv,.int .i64 pq,.int .i64 pa,.int .i64 pe,.int .i64 po,.int .i64 pt,.slice pu nu cu,.string px] 31
      have hbx:=below_alloc hb1 (.cells #[.int .i64 pk,.bool pl,.int .i64 ps,.int .i64 pd,.int .i64 pc,.int .i64 pv,.int .i64 pq,.int .i64 pa,.int .i64 pe,.int .i64 po,.int .i64 pt,.slice pu nu cu,.string px] 31)
      have hr:=row_belowF hrow ((Below.refl _ w1).alloc (Nat.le_refl _) (.cells #[.int .i64 pk,.bool pl,.int .i64 ps,.int .i64 pd,.int .i64 pc,.int .i64 pv,.int .i64 pq,.int .i64 pa,.int .i64 pe,.int .i64 po,.int .i64 pt,.slice pu nu cu,.string px] 31))
      clear hget hrow hb hz hb1
      generalize (w1.alloc _) = W at *
      generalize w1.heap.size = B6 at *
      have hk1:=hx.2.1
      go_wp2_with (first
        | (go_at_call 12; (with_reducible refine (hC _ _ hr).mono ?_); rintro e wq ⟨rfl,hb⟩; replace hr:=row_belowF hr hb; replace hx:=own_below hx hb; replace hbx:=below_of hbx hb; have hk1:=hx.2.1)
        | (go_at_call 14; (with_reducible refine (hS _ _ hr).mono ?_); rintro e wq ⟨rfl,hb⟩; replace hr:=row_belowF hr hb; replace hx:=own_below hx hb; replace hbx:=below_of hbx hb; have hk1:=hx.2.1)
        | (go_at_call 16; (with_reducible refine (hH _ _ hr).mono ?_); rintro e wq ⟨rfl,hb⟩; replace hr:=row_belowF hr hb; replace hx:=own_below hx hb; replace hbx:=below_of hbx hb; have hk1:=hx.2.1))
      go_ret
      exact ⟨rfl,hbx⟩
    · have hZb:((Z:Int) == 0) = false:=by rw [beq_eq_false_iff_ne]; exact hZ
      have hZd:decide (Z = 0) = false:=decide_eq_false hZ
      rw [hZd,Bool.false_or] at hR
      cases S with
      | true =>
        obtain rfl:R = true:=by rw [← hR]; rfl
        go_enter Tryz.func18,Tryz.ntmps18
        go_upto_region 2 with (first | (go_at_call 41; (with_reducible refine (hget _).mono ?_); rintro e w1 ⟨⟨pu,nu,cu,rfl,hrow⟩,hb⟩; have hb1:Below w.heap.size w w1:=below_of (by (repeat' (first | (with_reducible exact Below.refl _ _) | (with_reducible refine below_alloc ?_ _) | (with_reducible refine Below.drew ?_) | (with_reducible refine below_drewN ?_ _) | (with_reducible refine Below.setCell ?_ ?_ _) | (with_reducible assumption) | (with_reducible refine below_of ?_ (by assumption)) | omega | (simp only [World.size_alloc,World.size_setCell,World.size_drew,size_drewN] at *; omega) | (simp; omega)))) hb; have hz:=hb.size))
        have hx:=own_new w1 #[.int .i64 pk,.bool pl,.int .i64 ps,.int .i64 pd,.int .i64 pc,.int .i64 pv,.int .i64 pq,.int .i64 pa,.int .i64 pe,.int .i64 po,.int .i64 pt,.slice pu nu cu,.string px] 31
        have hbx:=below_alloc hb1 (.cells #[.int .i64 pk,.bool pl,.int .i64 ps,.int .i64 pd,.int .i64 pc,.int .i64 pv,.int .i64 pq,.int .i64 pa,.int .i64 pe,.int .i64 po,.int .i64 pt,.slice pu nu cu,.string px] 31)
        have hr:=row_belowF hrow ((Below.refl _ w1).alloc (Nat.le_refl _) (.cells #[.int .i64 pk,.bool pl,.int .i64 ps,.int .i64 pd,.int .i64 pc,.int .i64 pv,.int .i64 pq,.int .i64 pa,.int .i64 pe,.int .i64 po,.int .i64 pt,.slice pu nu cu,.string px] 31))
        clear hget hrow hb hz hb1
        generalize (w1.alloc _) = W at *
        generalize w1.heap.size = B6 at *
        have hk1:=hx.2.1
        go_wp2_with (first
          | (go_at_call 12; (with_reducible refine (hC _ _ hr).mono ?_); rintro e wq ⟨rfl,hb⟩; replace hr:=row_belowF hr hb; replace hx:=own_below hx hb; replace hbx:=below_of hbx hb; have hk1:=hx.2.1)
          | (go_at_call 14; (with_reducible refine (hS _ _ hr).mono ?_); rintro e wq ⟨rfl,hb⟩; replace hr:=row_belowF hr hb; replace hx:=own_below hx hb; replace hbx:=below_of hbx hb; have hk1:=hx.2.1)
          | (go_at_call 16; (with_reducible refine (hH _ _ hr).mono ?_); rintro e wq ⟨rfl,hb⟩; replace hr:=row_belowF hr hb; replace hx:=own_below hx hb; replace hbx:=below_of hbx hb; have hk1:=hx.2.1))
        go_ret
        exact ⟨rfl,hbx⟩
      | false =>
        obtain rfl:H = R:=by rw [← hR]; rfl
        cases H with
        | true =>
          go_enter Tryz.func18,Tryz.ntmps18
          go_upto_region 2 with (first | (go_at_call 41; (with_reducible refine (hget _).mono ?_); rintro e w1 ⟨⟨pu,nu,cu,rfl,hrow⟩,hb⟩; have hb1:Below w.heap.size w w1:=below_of (by (repeat' (first | (with_reducible exact Below.refl _ _) | (with_reducible refine below_alloc ?_ _) | (with_reducible refine Below.drew ?_) | (with_reducible refine below_drewN ?_ _) | (with_reducible refine Below.setCell ?_ ?_ _) | (with_reducible assumption) | (with_reducible refine below_of ?_ (by assumption)) | omega | (simp only [World.size_alloc,World.size_setCell,World.size_drew,size_drewN] at *; omega) | (simp; omega)))) hb; have hz:=hb.size))
          have hx:=own_new w1 #[.int .i64 pk,.bool pl,.int .i64 ps,.int .i64 pd,.int .i64 pc,.int .i64 pv,.int .i64 pq,.int .i64 pa,.int .i64 pe,.int .i64 po,.int .i64 pt,.slice pu nu cu,.string px] 31
          have hbx:=below_alloc hb1 (.cells #[.int .i64 pk,.bool pl,.int .i64 ps,.int .i64 pd,.int .i64 pc,.int .i64 pv,.int .i64 pq,.int .i64 pa,.int .i64 pe,.int .i64 po,.int .i64 pt,.slice pu nu cu,.string px] 31)
          have hr:=row_belowF hrow ((Below.refl _ w1).alloc (Nat.le_refl _) (.cells #[.int .i64 pk,.bool pl,.int .i64 ps,.int .i64 pd,.int .i64 pc,.int .i64 pv,.int .i64 pq,.int .i64 pa,.int .i64 pe,.int .i64 po,.int .i64 pt,.slice pu nu cu,.string px] 31))
          clear hget hrow hb hz hb1
          generalize (w1.alloc _) = W at *
          generalize w1.heap.size = B6 at *
          have hk1:=hx.2.1
          go_wp2_with (first
            | (go_at_call 12; (with_reducible refine (hC _ _ hr).mono ?_); rintro e wq ⟨rfl,hb⟩; replace hr:=row_belowF hr hb; replace hx:=own_below hx hb; replace hbx:=below_of hbx hb; have hk1:=hx.2.1)
            | (go_at_call 14; (with_reducible refine (hS _ _ hr).mono ?_); rintro e wq ⟨rfl,hb⟩; replace hr:=row_belowF hr hb; replace hx:=own_below hx hb; replace hbx:=below_of hbx hb; have hk1:=hx.2.1)
            | (go_at_call 16; (with_reducible refine (hH _ _ hr).mono ?_); rintro e wq ⟨rfl,hb⟩; replace hr:=row_belowF hr hb; replace hx:=own_below hx hb; replace hbx:=below_of hbx hb; have hk1:=hx.2.1))
          go_ret
          exact ⟨rfl,hbx⟩
        | false =>
          go_enter Tryz.func18,Tryz.ntmps18
          go_upto_region 2 with (first | (go_at_call 41; (with_reducible refine (hget _).mono ?_); rintro e w1 ⟨⟨pu,nu,cu,rfl,hrow⟩,hb⟩; have hb1:Below w.heap.size w w1:=below_of (by (repeat' (first | (with_reducible exact Below.refl _ _) | (with_reducible refine below_alloc ?_ _) | (with_reducible refine Below.drew ?_) | (with_reducible refine below_drewN ?_ _) | (with_reducible refine Below.setCell ?_ ?_ _) | (with_reducible assumption) | (with_reducible refine below_of ?_ (by assumption)) | omega | (simp only [World.size_alloc,World.size_setCell,World.size_drew,size_drewN] at *; omega) | (simp; omega)))) hb; have hz:=hb.size))
          have hx:=own_new w1 #[.int .i64 pk,.bool pl,.int .i64 ps,.int .i64 pd,.int .i64 pc,.int .i64 pv,.int .i64 pq,.int .i64 pa,.int .i64 pe,.int .i64 po,.int .i64 pt,.slice pu nu cu,.string px] 31
          have hbx:=below_alloc hb1 (.cells #[.int .i64 pk,.bool pl,.int .i64 ps,.int .i64 pd,.int .i64 pc,.int .i64 pv,.int .i64 pq,.int .i64 pa,.int .i64 pe,.int .i64 po,.int .i64 pt,.slice pu nu cu,.string px] 31)
          have hr:=row_belowF hrow ((Below.refl _ w1).alloc (Nat.le_refl _) (.cells #[.int .i64 pk,.bool pl,.int .i64 ps,.int .i64 pd,.int .i64 pc,.int .i64 pv,.int .i64 pq,.int .i64 pa,.int .i64 pe,.int .i64 po,.int .i64 pt,.slice pu nu cu,.string px] 31))
          clear hget hrow hb hz hb1
          generalize (w1.alloc _) = W at *
          generalize w1.heap.size = B6 at *
          have hk1:=hx.2.1
          go_wp2_with (first
            | (go_at_call 12; (with_reducible refine (hC _ _ hr).mono ?_); rintro e wq ⟨rfl,hb⟩; replace hr:=row_belowF hr hb; replace hx:=own_below hx hb; replace hbx:=below_of hbx hb; have hk1:=hx.2.1)
            | (go_at_call 14; (with_reducible refine (hS _ _ hr).mono ?_); rintro e wq ⟨rfl,hb⟩; replace hr:=row_belowF hr hb; replace hx:=own_below hx hb; replace hbx:=below_of hbx hb; have hk1:=hx.2.1)
            | (go_at_call 16; (with_reducible refine (hH _ _ hr).mono ?_); rintro e wq ⟨rfl,hb⟩; replace hr:=row_belowF hr hb; replace hx:=own_below hx hb; replace hbx:=below_of hbx hb; have hk1:=hx.2.1))
          go_ret
          exact ⟨rfl,hbx⟩
  · obtain rfl:R = false:=by rw [← hR,decide_eq_false he]; rfl
    have hget:∀ W,Calls Tryz.prog 41 #[.string s,.agg #[.int .i64 x,.int .i64 y]] W fun e w'=>e = .returned (.tuple #[.agg #[.int .i64 0,.bool false,.int .i64 0,.int .i64 0,.int .i64 0,.int .i64 0,.int .i64 0,.int .i64 0,.int .i64 0,.int .i64 0,.int .i64 0,.slice none 0 0,.string ⟨⟨[]⟩⟩],.int .i64 (errG s x y)]) ∧ Below W.heap.size W w':=fun W=>(hget W).mono fun e w' ⟨hP,hb⟩=>by
      rcases hP with ⟨h0,-⟩ | ⟨-,h1⟩
      · exact absurd h0 he
      · exact ⟨h1,hb⟩
    generalize errG s x y = E at *
    have hEb:((E:Int) == 0) = false:=by rw [beq_eq_false_iff_ne]; exact he
    go_enter Tryz.func18,Tryz.ntmps18
    go_wp2_with (first | (go_at_call 41; (with_reducible refine (hget _).mono ?_); rintro e w1 ⟨rfl,hb⟩; have hb1:Below w.heap.size w w1:=below_of (by (repeat' (first | (with_reducible exact Below.refl _ _) | (with_reducible refine below_alloc ?_ _) | (with_reducible refine Below.drew ?_) | (with_reducible refine below_drewN ?_ _) | (with_reducible refine Below.setCell ?_ ?_ _) | (with_reducible assumption) | (with_reducible refine below_of ?_ (by assumption)) | omega | (simp only [World.size_alloc,World.size_setCell,World.size_drew,size_drewN] at *; omega) | (simp; omega)))) hb))
    go_ret
    exact ⟨rfl,by (repeat' (first | (with_reducible exact Below.refl _ _) | (with_reducible refine below_alloc ?_ _) | (with_reducible refine Below.drew ?_) | (with_reducible refine below_drewN ?_ _) | (with_reducible refine Below.setCell ?_ ?_ _) | (with_reducible assumption) | (with_reducible refine below_of ?_ (by assumption)) | omega | (simp only [World.size_alloc,World.size_setCell,World.size_drew,size_drewN] at *; omega) | (simp; omega)))⟩
end Go.Proofs.YthacfgaacleaeaaGreatDoor
namespace Go.Proofs.YthacfgaacleaeaaGreatDoor
open Go.IntKind (i64 u32)
open Go.RowKit Sym Go.ChangeShapes Go.WideShapes Go.ChangeMaps Go.Lib Go.Shelf
structure Un where
  side:Int
  x:Int
  y:Int
  data:ByteArray
def Un.c (u:Un):Nat → Value
  | 0=>.int .i64 u.side
  | 1=>.int .i64 u.x
  | 2=>.int .i64 u.y
  | _=>.string u.data
def anyG (kn:Bool) (tag:ByteArray → ByteArray) (u:Un):Bool :=
  (decide (u.side = 0) || decide (u.side = 1)) && holdsG kn tag (1 - u.side) u.data u.x u.y
def idxU (p:Nat → Bool) (n:Nat):Int:=match (List.range n).find? p with | some k=>(k:Int) | none=>-1
def hasU (p:Nat → Bool) (n:Nat):Bool:=((List.range n).find? p).isSome
theorem findU_miss {p:Nat → Bool} {n:Nat} (h:∀ j,j < n → p j = false):(List.range n).find? p = none:=by
  rw [List.find?_eq_none]
  intro x hx hp
  rw [h x (List.mem_range.1 hx)] at hp
  cases hp
theorem findU_hit {p:Nat → Bool} {n k:Nat} (hk:k < n) (h:p k = true) (hno:∀ j,j < k → p j = false):(List.range n).find? p = some k:=by
  rw [List.find?_eq_some_iff_getElem]
  refine ⟨h,k,by simpa using hk,by simp,fun j hj=>?_⟩
  simp only [List.getElem_range]
  rw [hno j hj]
  rfl
theorem hasU_idx (p:Nat → Bool) (n:Nat):decide (idxU p n ≥ 0) = hasU p n:=by
  unfold idxU hasU
  cases (List.range n).find? p with
  | none=>rfl
  | some k=>exact decide_eq_true (by show (0:Int) ≤ (k:Int); omega)
def PredU (f:Nat) (lb:Array Value) (p:Un → Bool) (w:World) (P:Un → Prop):Prop:=∀ (W:World) (u:Un),P u → Below w.heap.size w W → Calls Tryz.prog f (#[.agg #[.int .i64 u.side,.int .i64 u.x,.int .i64 u.y,.string u.data]] ++ lb) W fun e w'=>e = .returned (.bool (p u)) ∧ Below w.heap.size w w'
set_option maxRecDepth 100000 in
set_option maxHeartbeats 4000000 in
theorem uidx_any {w:World} {v:Value} {n:Nat} {g:Nat → Un} (p:Un → Bool) (P:Un → Prop) (f:Nat) (lb:Array Value) (eg:∀ args w,(callFunc f args).run Tryz.prog w = .ok (.enter f args) w) (hn:n ≤ 20) (hp:PredU f lb p w P) (hP:∀ i,i < n → P (g i)) (h:IsRows w 4 v n fun i j=>(g i).c j) :
    Calls Tryz.prog 89 #[v,.func (.func f) #[] lb] w fun e w'=>e = .returned (.int .i64 (idxU (fun i=>p (g i)) n)) ∧ Below w.heap.size w w':=by
  obtain ⟨a,cap,rfl,hcap,hrow⟩:∃ a cap,v = .slice a n cap ∧ n ≤ cap ∧ ∀ (W:World),Below w.heap.size w W → ∀ j,j < n → ∃ b o,a = some ⟨b,o,none⟩ ∧ W.cell? ⟨b,o + j * 4,none⟩ = some (.int .i64 (g j).side) ∧ W.cell? ⟨b,o + j * 4 + 1,none⟩ = some (.int .i64 (g j).x) ∧ W.cell? ⟨b,o + j * 4 + 2,none⟩ = some (.int .i64 (g j).y) ∧ W.cell? ⟨b,o + j * 4 + 3,none⟩ = some (.string (g j).data):=by
    rcases h with ⟨rfl,rfl⟩ | ⟨ad,cap,rfl,h1,-,h3⟩
    · exact ⟨none,0,rfl,Nat.le_refl _,fun _ _ j hj=>absurd hj (Nat.not_lt_zero _)⟩
    · refine ⟨some ad,cap,rfl,h1,fun W hW j hj=>?_⟩
      obtain ⟨b,o,sp⟩:=ad
      obtain ⟨hs,hb,hc⟩:=h3 j hj
      obtain rfl:sp = none:=hs
      have hh:∀ i,i < 4 → W.cell? ⟨b,o + j * 4 + i,none⟩ = some ((g j).c i):=fun i hi=>(hW.cell (p:=⟨b,o + j * 4 + i,none⟩) hb).trans (hc i hi)
      exact ⟨b,o,rfl,hh 0 (by decide),hh 1 (by decide),hh 2 (by decide),hh 3 (by decide)⟩
  clear h
  go_enter Tryz.func89,Tryz.ntmps89
  go_wp2
  go_loopg [5,8] n (fun gg _ s8 wr=>∃ kk:Nat,kk ≤ n ∧ n - kk ≤ gg ∧ s8 = .int .i64 kk ∧ Aside (Below w.heap.size w wr) ∧ Aside (∀ j,j < kk → p (g j) = false))
  case atStart=>exact ⟨0,Nat.zero_le _,by omega,rfl,Below.refl _ w,fun j hj=>absurd hj (Nat.not_lt_zero _)⟩
  case round =>
    obtain ⟨kk,hkk,hg,rfl,BW,A⟩:=hrel
    by_cases hlt:kk < n
    · have hltz:(kk:Int) < (n:Int):=by omega
      obtain ⟨b,o,rfl,k0,k1,k2,k3⟩:=hrow wr BW.out kk hlt
      have hcall:=hp wr (g kk) (hP kk hlt) BW.out
      have hhit:=fun (h:p (g kk) = true)=>show idxU (fun i=>p (g i)) n = (kk:Int) from by
        unfold idxU
        rw [findU_hit hlt h (fun j hj=>A.out j hj)]
      have hnx:=fun (h:p (g kk) = false)=>show Aside (∀ j,j < kk + 1 → p (g j) = false) from fun j hj=>by
        by_cases e:j = kk
        · subst e; exact h
        · exact A.out j (by omega)
      clear hrow hp hP
      generalize hy:g kk = y at k0 k1 k2 k3 hcall hhit hnx
      clear hy
      cases hq:p y with
      | true =>
        rw [hq] at hcall
        go_wp2_with (go_at_fn f; refine hcall.mono ?_; rintro e w' ⟨rfl,hb'⟩)
        go_ret
        rw [hhit hq]
        exact ⟨rfl,hb'⟩
      | false =>
        rw [hq] at hcall
        go_wp2_with (go_at_fn f; refine hcall.mono ?_; rintro e w' ⟨rfl,hb'⟩)
        go_roundg (n - (kk + 1))
        case measure=>omega
        case rel=>exact ⟨kk + 1,by omega,by omega,by go_num,hb',hnx hq⟩
    · have hltz:¬ (kk:Int) < (n:Int):=by omega
      obtain rfl:kk = n:=by omega
      have hno:idxU (fun i=>p (g i)) kk = -1:=by
        unfold idxU
        rw [findU_miss (fun j hj=>A.out j hj)]
      clear hrow
      go_wp2
      go_ret
      first | exact ⟨rfl,BW.out⟩ | (rw [hno]; exact ⟨rfl,BW.out⟩)
set_option maxRecDepth 100000 in
set_option maxHeartbeats 4000000 in
theorem ucont_any {w:World} {v:Value} {n:Nat} {g:Nat → Un} (p:Un → Bool) (P:Un → Prop) (f:Nat) (lb:Array Value) (eg:∀ args w,(callFunc f args).run Tryz.prog w = .ok (.enter f args) w) (hn:n ≤ 20) (hp:PredU f lb p w P) (hP:∀ i,i < n → P (g i)) (h:IsRows w 4 v n fun i j=>(g i).c j) :
    Calls Tryz.prog 42 #[v,.func (.func f) #[] lb] w fun e w'=>e = .returned (.bool (hasU (fun i=>p (g i)) n)) ∧ Below w.heap.size w w':=by
  have hi:=uidx_any p P f lb eg hn hp hP h
  have hx:=hasU_idx (fun i=>p (g i)) n
  generalize idxU (fun i=>p (g i)) n = z at *
  generalize hasU (fun i=>p (g i)) n = b at *
  subst hx
  clear hp hP h
  go_enter Tryz.func42,Tryz.ntmps42
  go_wp2_with (go_at_call 89; refine hi.mono ?_; rintro e w' ⟨rfl,hb'⟩)
  go_ret
  exact ⟨rfl,hb'⟩
set_option maxRecDepth 100000 in
set_option maxHeartbeats 4000000 in
theorem pred_under (A B:ByteArray) (k:Nat) (w:World) (hE:ErrT w) (hs:A.size ≤ 1000 ∧ B.size ≤ 1000) (h0:w.cell? ⟨k,0,none⟩ = some (.string A)) (h1:w.cell? ⟨k,1,none⟩ = some (.string B)):PredU 43 #[.pointer (some ⟨k,0,none⟩)] (anyG (knP A B) (tagP A B)) w (fun u=>u.data.size ≤ 1000):=fun W u hz hb=>by
  have c0:W.cell? ⟨k,0,none⟩ = some (.string A):=(hb.cell (p:=⟨k,0,none⟩) (lt_of_cell h0)).trans h0
  have c1:W.cell? ⟨k,1,none⟩ = some (.string B):=(hb.cell (p:=⟨k,1,none⟩) (lt_of_cell h1)).trans h1
  have hEW:=hE.below hb
  have hkW:k < W.heap.size:=lt_of_cell c0
  have hne:k ≠ W.heap.size:=by omega
  have hH:=fun (V:World) (hV:ErrT V)=>holds_any A B (1 - u.side) u.side u.x u.y u.data hV ⟨hs.1,hs.2,hz⟩
  unfold anyG
  obtain ⟨us,ux,uy,ud⟩:=u
  dsimp only at hH ⊢
  show Calls Tryz.prog 43 #[.agg #[.int .i64 us,.int .i64 ux,.int .i64 uy,.string ud],.pointer (some ⟨k,0,none⟩)] W _
  have hbx:=below_alloc hb (.cells #[.int .i64 us,.int .i64 ux,.int .i64 uy,.string ud] 42)
  have hEx:=hE.below hbx
  have hx:=own_new W #[.int .i64 us,.int .i64 ux,.int .i64 uy,.string ud] 42
  generalize holdsG (knP A B) (tagP A B) (1 - us) ud ux uy = R at *
  by_cases e0:us = 0
  · subst e0
    replace hH:=hH _ hEx
    go_enter Tryz.func43,Tryz.ntmps43
    go_wp2_with (go_at_call 17; refine hH.mono ?_; rintro e w' ⟨rfl,hb'⟩)
    go_ret
    exact ⟨rfl,below_of hbx hb'⟩
  · by_cases e1:us = 1
    · subst e1
      replace hH:=hH _ hEx
      go_enter Tryz.func43,Tryz.ntmps43
      go_wp2_with (go_at_call 17; refine hH.mono ?_; rintro e w' ⟨rfl,hb'⟩)
      go_ret
      exact ⟨rfl,below_of hbx hb'⟩
    · have b0:(us == 0) = false:=by rw [beq_eq_false_iff_ne]; exact e0
      have b1:(us == 1) = false:=by rw [beq_eq_false_iff_ne]; exact e1
      clear hH
      go_enter Tryz.func43,Tryz.ntmps43
      go_wp2_with fail
      go_ret
      refine ⟨?_,hbx⟩
      simp [e0,e1]
set_option maxRecDepth 100000 in
set_option maxHeartbeats 4000000 in
theorem any_any {w:World} {v:Value} {n:Nat} {g:Nat → Un} (A B:ByteArray) (hE:ErrT w) (hs:A.size ≤ 1000 ∧ B.size ≤ 1000) (hn:n ≤ 20) (hz:∀ i,i < n → (g i).data.size ≤ 1000) (h:IsRows w 4 v n fun i j=>(g i).c j) :
    Calls Tryz.prog 19 #[.agg #[.string A,.string B],v] w fun e w'=>e = .returned (.bool (hasU (fun i=>anyG (knP A B) (tagP A B) (g i)) n)) ∧ Below w.heap.size w w':=by
  have hbx:=below_alloc (Below.refl w.heap.size w) (.cells #[.string A,.string B] 27)
  have hx:=own_new w #[.string A,.string B] 27
  have hpr:=pred_under A B w.heap.size _ (hE.below hbx) hs (hx.2.1 0) (hx.2.1 1)
  have hc:=ucont_any _ _ 43 _ (fun _ _=>rfl) hn hpr hz (h.below hbx)
  clear hpr hx hz h hE
  go_enter Tryz.func19,Tryz.ntmps19
  go_wp2_with (go_at_call 42; refine hc.mono ?_; rintro e w' ⟨rfl,hb'⟩)
  go_ret
  exact ⟨rfl,below_of hbx hb'⟩
end Go.Proofs.YthacfgaacleaeaaGreatDoor
namespace Go.Proofs.YthacfgaacleaeaaGreatDoor
open Go.IntKind (i64 u32)
open Go.RowKit Sym Go.ChangeShapes Go.WideShapes Go.ChangeMaps
theorem holds_pair (a b:ByteArray) (side:Int) (s:ByteArray) (x y:Int):holdsG (!decide (kA a b = nilB)) (tagR (kA a b) (kB a b)) side s x y = holdsG (knP (kA a b) (kB a b)) (tagP (kA a b) (kB a b)) side s x y:=by
  unfold holdsG
  rw [chk_pair,says_pair,hears_pair]
theorem any_pair (a b:ByteArray) (u:Un):anyG (!decide (kA a b = nilB)) (tagR (kA a b) (kB a b)) u = anyG (knP (kA a b) (kB a b)) (tagP (kA a b) (kB a b)) u:=by
  unfold anyG
  rw [holds_pair]
theorem hasU_hit {p:Nat → Bool} {n k:Nat} (hk:k < n) (h:p k = true):hasU p n = true:=by
  unfold hasU
  rw [List.find?_isSome]
  exact ⟨k,List.mem_range.2 hk,h⟩
theorem hasU_miss {p:Nat → Bool} {n:Nat} (h:∀ j,j < n → p j = false):hasU p n = false:=by
  unfold hasU
  rw [findU_miss h]
  rfl
set_option maxRecDepth 100000 in
set_option maxHeartbeats 4000000 in
theorem rany_any {w:World} {v:Value} {n:Nat} {g:Nat → Un} (a b:ByteArray) (hs:a.size ≤ 1000 ∧ b.size ≤ 1000) (hn:n ≤ 20) (hz:∀ i,i < n → (g i).data.size ≤ 1000) (h:IsRows w 4 v n fun i j=>(g i).c j) :
    Calls Tryz.prog 20 #[.string a,.string b,v] w fun e w'=>e = .returned (.bool (hasU (fun i=>anyG (!decide (a = nilB)) (tagR a b) (g i)) n)) ∧ Below w.heap.size w w':=by
  obtain ⟨p,cap,rfl,hcap,hrow⟩:∃ p cap,v = .slice p n cap ∧ n ≤ cap ∧ ∀ (W:World),Below w.heap.size w W → ∀ j,j < n → ∃ bb o,p = some ⟨bb,o,none⟩ ∧ W.cell? ⟨bb,o + j * 4,none⟩ = some (.int .i64 (g j).side) ∧ W.cell? ⟨bb,o + j * 4 + 1,none⟩ = some (.int .i64 (g j).x) ∧ W.cell? ⟨bb,o + j * 4 + 2,none⟩ = some (.int .i64 (g j).y) ∧ W.cell? ⟨bb,o + j * 4 + 3,none⟩ = some (.string (g j).data):=by
    rcases h with ⟨rfl,rfl⟩ | ⟨ad,cap,rfl,h1,-,h3⟩
    · exact ⟨none,0,rfl,Nat.le_refl _,fun _ _ j hj=>absurd hj (Nat.not_lt_zero _)⟩
    · refine ⟨some ad,cap,rfl,h1,fun W hW j hj=>?_⟩
      obtain ⟨b,o,sp⟩:=ad
      obtain ⟨hs,hb,hc⟩:=h3 j hj
      obtain rfl:sp = none:=hs
      have hh:∀ i,i < 4 → W.cell? ⟨b,o + j * 4 + i,none⟩ = some ((g j).c i):=fun i hi=>(hW.cell (p:=⟨b,o + j * 4 + i,none⟩) hb).trans (hc i hi)
      exact ⟨b,o,rfl,hh 0 (by decide),hh 1 (by decide),hh 2 (by decide),hh 3 (by decide)⟩
  have hH:=fun (V:World) (i:Nat) (hi:i < n)=>rholds_any (w:=V) a b (1 - (g i).side) (g i).side (g i).x (g i).y (g i).data ⟨hs.1,hs.2,hz i hi⟩
  obtain ⟨q,hq⟩:∃ q:Nat → Bool,q = fun i=>anyG (!decide (a = nilB)) (tagR a b) (g i):=⟨_,rfl⟩
  rw [← hq]
  have hhit:=@hasU_hit q n
  have hmiss:=@hasU_miss q n
  have hval:∀ i,q i = ((decide ((g i).side = 0) || decide ((g i).side = 1)) && holdsG (!decide (a = nilB)) (tagR a b) (1 - (g i).side) (g i).data (g i).x (g i).y):=fun i=>by rw [hq]; rfl
  generalize hasU q n = R at *
  clear h hz hq
  go_enter Tryz.func20,Tryz.ntmps20
  go_wp2
  go_loopw [7] (fun u7 wr=>∃ i:Nat,u7 = .int .i64 i ∧ i ≤ n ∧ Below w.heap.size w wr ∧ ∀ j,j < i → q j = false)
    (fun u7 _=>n - natM u7)
  case atStart=>exact ⟨0,rfl,Nat.zero_le _,by (repeat' (first | (with_reducible exact Below.refl _ _) | (with_reducible refine below_alloc ?_ _) | (with_reducible refine Below.drew ?_) | (with_reducible refine below_drewN ?_ _) | (with_reducible refine Below.setCell ?_ ?_ _) | (with_reducible assumption) | (with_reducible refine below_of ?_ (by assumption)) | omega | (simp only [World.size_alloc,World.size_setCell,World.size_drew,size_drewN] at *; omega) | (simp; omega))),fun j hj=>absurd hj (Nat.not_lt_zero _)⟩
  case round =>
    obtain ⟨i,rfl,hile,hbw0,hno⟩:=hrel
    have hmax:n ≤ 20:=hn
    by_cases hlt:i < n
    · have hltz:(i:Int) < (n:Int):=by omega
      obtain ⟨bb,o,rfl,k0,k1,k2,k3⟩:=hrow wr hbw0 i hlt
      replace hH:=fun V=>hH V i hlt
      replace hhit:=@hhit i hlt
      have hnx:=fun (h:q i = false)=>show ∀ j,j < i + 1 → q j = false from fun j hj=>by
        by_cases e:j = i
        · subst e; exact h
        · exact hno j (by omega)
      replace hval:=hval i
      clear hrow hno hmiss hs
      generalize q i = r at *
      generalize (g i).side = us at *
      generalize (g i).x = ux at *
      generalize (g i).y = uy at *
      generalize (g i).data = ud at *
      by_cases e0:us = 0
      · subst e0
        replace hH:∀ p:BelowF wr,_:=fun p=>hH p.w
        rw [show (1:Int) - 0 = i64.wrap 1 from rfl] at hH hval
        generalize holdsG (!decide (a = nilB)) (tagR a b) (i64.wrap 1) ud ux uy = H at *
        obtain rfl:r = H:=by rw [hval]; simp
        clear hval
        replace k0:=cell_byF k0
        replace k1:=cell_byF k1
        replace k2:=cell_byF k2
        replace k3:=cell_byF k3
        cases r with
        | true =>
          replace hhit:=hhit rfl
          subst hhit
          clear hnx
          go_wp2
          refine wp_region_belowF (by kernel_rfl) (by kernel_rfl) ?_
          (repeat (quiet_step (first
            | (go_at_call 18; with_reducible exact below_leftF (hH _)))))
          refine wpQuiet_nil ?_
          intro _ hw'
          obtain ⟨⟨wq,hbq⟩,hw''⟩:=hw'
          subst hw''
          go_wp2
          go_ret
          exact ⟨rfl,hbw0.trans (hbq.mono hbw0.size)⟩
        | false =>
          replace hnx:=hnx rfl
          go_wp2
          refine wp_region_belowF (by kernel_rfl) (by kernel_rfl) ?_
          (repeat (quiet_step (first
            | (go_at_call 18; with_reducible exact below_leftF (hH _)))))
          refine wpQuiet_nil ?_
          intro _ hw'
          obtain ⟨⟨wq,hbq⟩,hw''⟩:=hw'
          subst hw''
          have hbx:=hbw0.trans (hbq.mono hbw0.size)
          go_wp2
          go_roundw
          case rel=>exact ⟨i + 1,by first | rfl | go_num,hlt,hbx,hnx⟩
          case measure=>(try go_num); simp [natM]; omega
      · by_cases e1:us = 1
        · subst e1
          replace hH:∀ p:BelowF wr,_:=fun p=>hH p.w
          rw [show (1:Int) - 1 = i64.wrap 0 from rfl] at hH hval
          generalize holdsG (!decide (a = nilB)) (tagR a b) (i64.wrap 0) ud ux uy = H at *
          obtain rfl:r = H:=by rw [hval]; simp
          clear hval
          replace k0:=cell_byF k0
          replace k1:=cell_byF k1
          replace k2:=cell_byF k2
          replace k3:=cell_byF k3
          cases r with
          | true =>
            replace hhit:=hhit rfl
            subst hhit
            clear hnx
            go_wp2
            refine wp_region_belowF (by kernel_rfl) (by kernel_rfl) ?_
            (repeat (quiet_step (first
              | (go_at_call 18; with_reducible exact below_leftF (hH _)))))
            refine wpQuiet_nil ?_
            intro _ hw'
            obtain ⟨⟨wq,hbq⟩,hw''⟩:=hw'
            subst hw''
            go_wp2
            go_ret
            exact ⟨rfl,hbw0.trans (hbq.mono hbw0.size)⟩
          | false =>
            replace hnx:=hnx rfl
            go_wp2
            refine wp_region_belowF (by kernel_rfl) (by kernel_rfl) ?_
            (repeat (quiet_step (first
              | (go_at_call 18; with_reducible exact below_leftF (hH _)))))
            refine wpQuiet_nil ?_
            intro _ hw'
            obtain ⟨⟨wq,hbq⟩,hw''⟩:=hw'
            subst hw''
            have hbx:=hbw0.trans (hbq.mono hbw0.size)
            go_wp2
            go_roundw
            case rel=>exact ⟨i + 1,by first | rfl | go_num,hlt,hbx,hnx⟩
            case measure=>(try go_num); simp [natM]; omega
        · have b0:(us == 0) = false:=by rw [beq_eq_false_iff_ne]; exact e0
          have b1:(us == 1) = false:=by rw [beq_eq_false_iff_ne]; exact e1
          obtain rfl:r = false:=by rw [hval]; simp [e0,e1]
          replace hnx:=hnx rfl
          have d0:decide (us = 0) = false:=decide_eq_false e0
          have d1:decide (us = 1) = false:=decide_eq_false e1
          clear hH k1 k2 k3 hval hhit
          go_wp2
          go_quiet (fail)
          go_wp2
          go_roundw
          case rel=>exact ⟨i + 1,by first | rfl | go_num,hlt,by first | exact hbw0 | (repeat' (first | (with_reducible exact Below.refl _ _) | (with_reducible refine below_alloc ?_ _) | (with_reducible refine Below.drew ?_) | (with_reducible refine below_drewN ?_ _) | (with_reducible refine Below.setCell ?_ ?_ _) | (with_reducible assumption) | (with_reducible refine below_of ?_ (by assumption)) | omega | (simp only [World.size_alloc,World.size_setCell,World.size_drew,size_drewN] at *; omega) | (simp; omega))),hnx⟩
          case measure=>(try go_num); simp [natM]; omega
    · obtain rfl:i = n:=by omega
      have hltz:¬ (i:Int) < (i:Int):=by omega
      obtain rfl:=hmiss hno
      clear hrow hH hhit
      go_wp2
      go_ret
      exact ⟨rfl,hbw0⟩
end Go.Proofs.YthacfgaacleaeaaGreatDoor
namespace Go.Proofs.YthacfgaacleaeaaGreatDoor
open Go.IntKind (i64 u32)
open Go.ChangeShapes Go.WideShapes Go.ChangeAt Go.RowKit Sym Go.ChangeMaps
def unF (f:Nat → Nat → Value) (i:Nat):Un:=⟨intV (f i 0),intV (f i 1),intV (f i 2),strV (f i 3)⟩
set_option maxRecDepth 100000 in
theorem open_unders {H:Type} {enc:TypeId × Value → H} {W:World} {base b0:Nat} {r:Reach} {v:Value} {d:DataW H} {p:List MemPlace} {sp:Nat → Bool} (hv:Value.okWide Tryz.prog W r b0 38 v) (h:DataW.Trod enc Tryz.prog W base sp true 38 v d p) :
    ∃ (n:Nat) (g:Nat → Un),n ≤ maxLen ∧ (∀ i,i < n → (g i).data.size ≤ maxLen) ∧ IsRows W 4 v n fun i j=>(g i).c j:=by
  obtain ⟨len,f,h1,h2,h3⟩:=open_rows_of 4 (by kernel_rfl) (by omega) Tryz.underlying38 (okWide_slice Tryz.underlying38 hv) h
  have hs:∀ i,i < len → (∀ j,j < 4 → f i j = (unF f i).c j) ∧ (unF f i).data.size ≤ maxLen:=by
    intro i hi
    obtain ⟨fuel,x,hx⟩:=h3 i hi
    obtain ⟨xs,n,_,_,_,hlen,hg⟩:=DataW.trod_struct Tryz.underlying42 hx
    have ci:Tryz.prog.cellsOf 3 = 1:=by kernel_rfl
    have cp:Tryz.prog.cellsOf 40 = 2:=by kernel_rfl
    have cst:Tryz.prog.cellsOf 9 = 1:=by kernel_rfl
    obtain ⟨u0,hu0⟩:∃ u,xs[0]? = some u:=⟨_,List.getElem?_eq_getElem (by rw [hlen]; decide)⟩
    obtain ⟨u1,hu1⟩:∃ u,xs[1]? = some u:=⟨_,List.getElem?_eq_getElem (by rw [hlen]; decide)⟩
    obtain ⟨u2,hu2⟩:∃ u,xs[2]? = some u:=⟨_,List.getElem?_eq_getElem (by rw [hlen]; decide)⟩
    rw [← hg 0 _ rfl] at hu0
    rw [← hg 1 _ rfl] at hu1
    rw [← hg 2 _ rfl] at hu2
    simp [List.range_succ,ci,cp,cst] at hu0 hu1 hu2
    obtain ⟨z,e0,_,_⟩:=DataW.trod_int Tryz.underlying3 hu0
    obtain ⟨ys,m,_,_,_,hlen2,hg2⟩:=DataW.trod_struct Tryz.underlying40 hu1
    obtain ⟨t0,ht0⟩:∃ u,ys[0]? = some u:=⟨_,List.getElem?_eq_getElem (by rw [hlen2]; decide)⟩
    obtain ⟨t1,ht1⟩:∃ u,ys[1]? = some u:=⟨_,List.getElem?_eq_getElem (by rw [hlen2]; decide)⟩
    rw [← hg2 0 _ rfl] at ht0
    rw [← hg2 1 _ rfl] at ht1
    simp [List.range_succ,ci] at ht0 ht1
    obtain ⟨z1,e1,_,_⟩:=DataW.trod_int Tryz.underlying3 ht0
    obtain ⟨z2,e2,_,_⟩:=DataW.trod_int Tryz.underlying3 ht1
    obtain ⟨s,e3,_,hz⟩:=DataW.trod_string Tryz.underlying9 hu2
    simp at e0 e1 e2 e3
    refine ⟨fun j hj=>?_,?_⟩
    · match j,hj with
      | 0,_=>show f i 0 = .int .i64 (intV (f i 0)); rw [e0]; rfl
      | 1,_=>show f i 1 = .int .i64 (intV (f i 1)); rw [e1]; rfl
      | 2,_=>show f i 2 = .int .i64 (intV (f i 2)); rw [e2]; rfl
      | 3,_=>show f i 3 = .string (strV (f i 3)); rw [e3]; rfl
    · show (strV (f i 3)).size ≤ maxLen
      rw [e3]; exact hz
  refine ⟨len,unF f,h2,fun i hi=>(hs i hi).2,?_⟩
  rcases h1 with q | ⟨a,cap,q1,q2,q3,q4⟩
  · exact .inl q
  · refine .inr ⟨a,cap,q1,q2,q3,fun i hi=>?_⟩
    obtain ⟨s1,s2,s3⟩:=q4 i hi
    exact ⟨s1,s2,fun j hj=>by have:=s3 j hj; rw [(hs i hi).1 j hj] at this; exact this⟩
def Un.l (u:Un):List Value:=[.int .i64 u.side,.int .i64 u.x,.int .i64 u.y,.string u.data]
def cellsU:Nat → (Nat → Un) → List Value
  | 0,_=>[]
  | n + 1,g=>cellsU n g ++ (g n).l
theorem cellsU_len (n:Nat) (g:Nat → Un):(cellsU n g).length = n * 4:=by
  induction n with
  | zero=>rfl
  | succ n ih=>show (cellsU n g ++ (g n).l).length = _; rw [List.length_append,ih]; simp [Un.l]; omega
theorem cellsU_at {n:Nat} (g:Nat → Un) {i j:Nat} (hi:i < n) (hj:j < 4):(cellsU n g)[i * 4 + j]? = some ((g i).c j):=by
  induction n with
  | zero=>omega
  | succ n ih =>
    show (cellsU n g ++ (g n).l)[i * 4 + j]? = _
    by_cases h:i < n
    · rw [List.getElem?_append_left (by rw [cellsU_len]; omega)]
      exact ih h
    · obtain rfl:i = n:=by omega
      rw [List.getElem?_append_right (by rw [cellsU_len]; omega),cellsU_len,Nat.add_sub_cancel_left]
      match j,hj with
      | 0,_=>rfl
      | 1,_=>rfl
      | 2,_=>rfl
      | 3,_=>rfl
theorem cellsU_get {n:Nat} {g:Nat → Un} {k:Nat} {u:Value} (h:(cellsU n g)[k]? = some u):∃ i j,i < n ∧ j < 4 ∧ k = i * 4 + j ∧ u = (g i).c j:=by
  have hl:k < n * 4:=by
    rcases Nat.lt_or_ge k (n * 4) with q | q
    · exact q
    · rw [List.getElem?_eq_none (by rw [cellsU_len]; exact q)] at h; cases h
  obtain ⟨i,j,hj,rfl⟩:∃ i j,j < 4 ∧ k = i * 4 + j:=⟨k / 4,k % 4,by omega,by omega⟩
  have hi:i < n:=by omega
  rw [cellsU_at g hi hj] at h
  exact ⟨i,j,hi,hj,rfl,(Option.some.inj h).symm⟩
theorem cellsU_one (n:Nat) (g:Nat → Un):∀ u ∈ cellsU n g,u.oneCell' = true:=by
  intro u hu
  obtain ⟨k,hk,rfl⟩:=List.mem_iff_getElem.1 hu
  obtain ⟨i,j,-,hj,-,e⟩:=cellsU_get (List.getElem?_eq_getElem hk)
  rw [e]
  match j,hj with
  | 0,_=>rfl
  | 1,_=>rfl
  | 2,_=>rfl
  | 3,_=>rfl
theorem rows_cellsU {w:World} {u:Value} {n:Nat} {g:Nat → Un} {base:Nat} (h:w.ownsRow base 42 4 u n (cellsU n g)):IsRows w 4 u n fun i j=>(g i).c j:=by
  rcases h.2 with ⟨rfl,rfl⟩ | ⟨b,cap,cur,rfl,-,hg,h1,h2,h3,h4⟩
  · exact .inl ⟨rfl,rfl⟩
  · refine .inr ⟨⟨b,0,none⟩,cap,rfl,h1,h2,fun i hi=>⟨rfl,lt_of_heapM hg,fun j hj=>?_⟩⟩
    have e1:=cellsU_at (n:=n) g hi hj
    have hlt:i * 4 + j < n * 4:=by omega
    rw [← h4,List.getElem?_take_of_lt hlt] at e1
    simp only [World.cell?,hg,Option.isSome_none,Bool.false_eq_true,if_false,Nat.zero_add]
    rw [← Array.getElem?_toList]
    exact e1
end Go.Proofs.YthacfgaacleaeaaGreatDoor
namespace Go.Proofs.YthacfgaacleaeaaGreatDoor
open Go.IntKind (i64 u32)
open Go.RowKit Sym Sha Go.ChangeShapes Go.WideShapes Go.ChangeMaps
theorem own_emptyU {w:World} {base k:Nat} (hk:k = w.heap.size) (h:base ≤ w.heap.size):(w.alloc (.cells #[] 42)).ownsRow base 42 4 (.slice (some ⟨k,0,none⟩) 0 0) 0 []:=by
  subst hk
  exact ⟨rfl,.inr ⟨w.heap.size,0,#[],rfl,h,heap_alloc_new w _,Nat.le_refl _,Nat.zero_le _,rfl,rfl⟩⟩
theorem step_append_ownF {P:Program} {ops:Array Oper} {o:Oper} {a:Act} {w:World} {K:Act → World → Prop} {Q:Exit → Act → World → Prop} {E:Prop}
    (hg:o.guard = none) (s x:Operand) (t:TypeId) (hop:o.op = Op.call { callee:=Callee.builtin Builtin.append,args:=#[s,x],argTypes:=#[t,t] })
    (base:Nat) (e:TypeId) (i:TypeInfo) (z:Value) (size bytes:Nat) (h1:P.underlying t = some (.slice e)) (h2:P.info? e = some i) (h3:i.zero = some z) (h4:i.size = size) (h5:i.bytes = bytes) (h6:z.cells.size = size) (h7:0 < size)
    (u:Value) (n:Nat) (xs:List Value) (hs:a.eval s = u) (hown:w.ownsRow base e size u n xs)
    (ad:Addr) (m c:Nat) (news:List Value) (hx:a.eval x = .slice (some ad) m c) (hn:news.length = m * size) (hc:∀ j u,news[j]? = some u → w.cell? (ad.add j) = some u) (h1c:∀ u ∈ news,u.oneCell' = true)
    (b1:n + m ≤ maxLen) (b2:(n + m) * bytes ≤ 140737488355328) (hbase:base ≤ w.heap.size)
    (hK:∀ v' w',w'.ownsRow base e size v' (n + m) (xs ++ news) → w.grownBy w' u.ownBlock → K (a.put o.dst v') w') :
    if Region.wanted o (yielded ops a.tmps) = true then Oper.wp P o a w K Q else E:=by
  have hw:Region.wanted o (yielded ops a.tmps) = true:=by simp [Region.wanted,hg]
  rw [if_pos hw]
  obtain ⟨v',w',hrun,r1,r2,_⟩:=run_append_own (P:=P) w base t o.type e i z size bytes h1 h2 h3 h4 h5 h6 h7 u n xs hown ad m c news hn hc h1c b1 b2 hbase
  unfold Oper.wp
  simp [execOp,hop,resolve,invoke,builtin,hs,hx,hrun,Result.andThen]
  exact hK v' w' r1 r2
theorem un_infoP:(Tryz.prog.info? 42).map (fun i=>(i.zero,i.size,i.bytes)) = some (some (.agg #[.int .i64 0,.int .i64 0,.int .i64 0,.string ⟨#[]⟩]),4,40):=by kernel_rfl
theorem unders_at {w W:World} {n:Nat} {g:Nat → Un} {ad:Addr} (hb:Below w.heap.size w W) (h:∀ i,i < n → ad.spot = none ∧ ad.block < w.heap.size ∧ ∀ j,j < 4 → w.cell? ⟨ad.block,ad.off + i * 4 + j,none⟩ = some ((g i).c j)):∀ j u,(cellsU n g)[j]? = some u → W.cell? (ad.add j) = some u:=by
  intro j u hj
  obtain ⟨i,k,hi,hk,rfl,rfl⟩:=cellsU_get hj
  obtain ⟨hs,hl,hc⟩:=h i hi
  obtain ⟨b,o,sp⟩:=ad
  obtain rfl:sp = none:=hs
  have ea:(⟨b,o,none⟩:Addr).add (i * 4 + k) = ⟨b,o + i * 4 + k,none⟩:=by
    simp only [Addr.add]
    split
    · rename_i h0; rw [show o + i * 4 + k = o by omega]
    · rw [Nat.add_assoc]
  rw [ea]
  exact (hb.cell (p:=⟨b,o + i * 4 + k,none⟩) hl).trans (hc k hk)
set_option maxRecDepth 100000 in
set_option maxHeartbeats 4000000 in
theorem bytes_any {w:World} {v:Value} {n:Nat} {g:Nat → Un} (k0 k1:ByteArray) (hE:ErrT w) (hn:n ≤ maxLen) (hv:IsRows w 4 v n fun i j=>(g i).c j) (hz:k0.size ≤ maxLen ∧ k1.size ≤ maxLen) (hd:∀ i,i < n → (g i).data.size ≤ maxLen) :
    Calls Tryz.prog 4 #[.agg #[.string k0,.string k1],v] w fun e w'=>e = .returned (.bool true) ∧ Below w.heap.size w w':=by
  have hwk:=fun W (h:Below w.heap.size w W)=>works40 (hE.below h)
  have hpr:=pair40 k0 k1
  by_cases h0:(1000:Int) < (k0.size:Int)
  · obtain ⟨vl,hvl⟩:∃ x,x = v:=⟨_,rfl⟩
    clear hv hd hE hpr
    go_enter Tryz.func4,Tryz.ntmps4
    go_wp2_with (first
      | (go_at_call 8; (with_reducible refine (hwk _ (by (repeat' (first | (with_reducible exact Below.refl _ _) | (with_reducible refine below_alloc ?_ _) | (with_reducible refine Below.drew ?_) | (with_reducible refine below_drewN ?_ _) | (with_reducible refine Below.setCell ?_ ?_ _) | (with_reducible assumption) | (with_reducible refine below_of ?_ (by assumption)) | omega | (simp only [World.size_alloc,World.size_setCell,World.size_drew,size_drewN] at *; omega) | (simp; omega))))).mono ?_); rintro e w1 ⟨rfl,hb⟩; have hb1:Below w.heap.size w w1:=below_of (by (repeat' (first | (with_reducible exact Below.refl _ _) | (with_reducible refine below_alloc ?_ _) | (with_reducible refine Below.drew ?_) | (with_reducible refine below_drewN ?_ _) | (with_reducible refine Below.setCell ?_ ?_ _) | (with_reducible assumption) | (with_reducible refine below_of ?_ (by assumption)) | omega | (simp only [World.size_alloc,World.size_setCell,World.size_drew,size_drewN] at *; omega) | (simp; omega)))) hb; have hz:=hb.size; (try simp only [World.size_alloc,World.size_setCell,World.size_drew,size_drewN] at hz); apply own_step (B:=w.heap.size) hb; (focus (repeat (first | (with_reducible assumption) | (with_reducible exact own_new _ _ _) | ((with_reducible apply own_new'); focus (first | omega | (simp; done) | (simp; omega))) | (with_reducible apply own_drewN) | (with_reducible apply own_drew) | (with_reducible apply own_alloc) | (with_reducible apply own_setT) | ((with_reducible apply own_set_otherH); focus (first | (simp; done) | (simp; omega)))))); intro hO0; have hk0:=hO0.2.1; have hl0:=hO0.1; have hf0:=hO0.2.2; (try simp only [List.setIfInBounds_toArray,List.set_cons_zero,List.set_cons_succ] at hO0 hk0)))
    go_ret
    exact ⟨rfl,hb1⟩
  · by_cases h1 : (1000:Int) < (k1.size:Int)
    · clear hv hd hE hpr
      go_enter Tryz.func4,Tryz.ntmps4
      go_wp2_with (first
        | (go_at_call 8; (with_reducible refine (hwk _ (by (repeat' (first | (with_reducible exact Below.refl _ _) | (with_reducible refine below_alloc ?_ _) | (with_reducible refine Below.drew ?_) | (with_reducible refine below_drewN ?_ _) | (with_reducible refine Below.setCell ?_ ?_ _) | (with_reducible assumption) | (with_reducible refine below_of ?_ (by assumption)) | omega | (simp only [World.size_alloc,World.size_setCell,World.size_drew,size_drewN] at *; omega) | (simp; omega))))).mono ?_); rintro e w1 ⟨rfl,hb⟩; have hb1:Below w.heap.size w w1:=below_of (by (repeat' (first | (with_reducible exact Below.refl _ _) | (with_reducible refine below_alloc ?_ _) | (with_reducible refine Below.drew ?_) | (with_reducible refine below_drewN ?_ _) | (with_reducible refine Below.setCell ?_ ?_ _) | (with_reducible assumption) | (with_reducible refine below_of ?_ (by assumption)) | omega | (simp only [World.size_alloc,World.size_setCell,World.size_drew,size_drewN] at *; omega) | (simp; omega)))) hb; have hz:=hb.size; (try simp only [World.size_alloc,World.size_setCell,World.size_drew,size_drewN] at hz); apply own_step (B:=w.heap.size) hb; (focus (repeat (first | (with_reducible assumption) | (with_reducible exact own_new _ _ _) | ((with_reducible apply own_new'); focus (first | omega | (simp; done) | (simp; omega))) | (with_reducible apply own_drewN) | (with_reducible apply own_drew) | (with_reducible apply own_alloc) | (with_reducible apply own_setT) | ((with_reducible apply own_set_otherH); focus (first | (simp; done) | (simp; omega)))))); intro hO0; have hk0:=hO0.2.1; have hl0:=hO0.1; have hf0:=hO0.2.2; (try simp only [List.setIfInBounds_toArray,List.set_cons_zero,List.set_cons_succ] at hO0 hk0)))
      go_ret
      exact ⟨rfl,hb1⟩
    · by_cases h2 : (20:Int) < (n:Int)
      · obtain ⟨a,cap,rfl⟩:∃ a cap,v = .slice a n cap:=by
          rcases hv with ⟨rfl,rfl⟩ | ⟨ad,cap,rfl,-⟩
          · exact ⟨none,0,rfl⟩
          · exact ⟨_,_,rfl⟩
        clear hv hd hE hpr
        go_enter Tryz.func4,Tryz.ntmps4
        go_wp2_with (first
          | (go_at_call 8; (with_reducible refine (hwk _ (by (repeat' (first | (with_reducible exact Below.refl _ _) | (with_reducible refine below_alloc ?_ _) | (with_reducible refine Below.drew ?_) | (with_reducible refine below_drewN ?_ _) | (with_reducible refine Below.setCell ?_ ?_ _) | (with_reducible assumption) | (with_reducible refine below_of ?_ (by assumption)) | omega | (simp only [World.size_alloc,World.size_setCell,World.size_drew,size_drewN] at *; omega) | (simp; omega))))).mono ?_); rintro e w1 ⟨rfl,hb⟩; have hb1:Below w.heap.size w w1:=below_of (by (repeat' (first | (with_reducible exact Below.refl _ _) | (with_reducible refine below_alloc ?_ _) | (with_reducible refine Below.drew ?_) | (with_reducible refine below_drewN ?_ _) | (with_reducible refine Below.setCell ?_ ?_ _) | (with_reducible assumption) | (with_reducible refine below_of ?_ (by assumption)) | omega | (simp only [World.size_alloc,World.size_setCell,World.size_drew,size_drewN] at *; omega) | (simp; omega)))) hb; have hz:=hb.size; (try simp only [World.size_alloc,World.size_setCell,World.size_drew,size_drewN] at hz); apply own_step (B:=w.heap.size) hb; (focus (repeat (first | (with_reducible assumption) | (with_reducible exact own_new _ _ _) | ((with_reducible apply own_new'); focus (first | omega | (simp; done) | (simp; omega))) | (with_reducible apply own_drewN) | (with_reducible apply own_drew) | (with_reducible apply own_alloc) | (with_reducible apply own_setT) | ((with_reducible apply own_set_otherH); focus (first | (simp; done) | (simp; omega)))))); intro hO0; have hk0:=hO0.2.1; have hl0:=hO0.1; have hf0:=hO0.2.2; (try simp only [List.setIfInBounds_toArray,List.set_cons_zero,List.set_cons_succ] at hO0 hk0)))
        go_ret
        exact ⟨rfl,hb1⟩
      · have hA := kA_size k0 k1 (by omega)
        have hB:=kB_size k0 k1 (by omega)
        have hH0:=fun (V:World) (hV:ErrT V) (side:Int) (i:Nat) (hs:(g i).data.size ≤ 1000)=>holds_any (w:=V) (kA k0 k1) (kB k0 k1) side (g i).side (g i).x (g i).y (g i).data hV ⟨hA,hB,hs⟩
        have hR0:=fun (V:World) (side:Int) (i:Nat) (hs:(g i).data.size ≤ 1000)=>rholds_any (w:=V) (kA k0 k1) (kB k0 k1) side (g i).side (g i).x (g i).y (g i).data ⟨hA,hB,hs⟩
        have hY:=fun (V:World) (u:Value) (hV:ErrT V) (hs:∀ i,i < n → (g i).data.size ≤ 1000) (hr:IsRows V 4 u n fun i j=>(g i).c j)=>any_any (w:=V) (kA k0 k1) (kB k0 k1) hV ⟨hA,hB⟩ (by omega) hs hr
        have hX:=fun (V:World) (u:Value) (hs:∀ i,i < n → (g i).data.size ≤ 1000) (hr:IsRows V 4 u n fun i j=>(g i).c j)=>rany_any (w:=V) (kA k0 k1) (kB k0 k1) ⟨hA,hB⟩ (by omega) hs hr
        simp only [holds_pair] at hR0
        simp only [any_pair] at hX
        obtain ⟨p,cap,rfl,hcap,hrow⟩:∃ p cap,v = .slice p n cap ∧ n ≤ cap ∧ ∀ (W:World),Below w.heap.size w W → ∀ j,j < n → ∃ bb o,p = some ⟨bb,o,none⟩ ∧ W.cell? ⟨bb,o + j * 4,none⟩ = some (.int .i64 (g j).side) ∧ W.cell? ⟨bb,o + j * 4 + 1,none⟩ = some (.int .i64 (g j).x) ∧ W.cell? ⟨bb,o + j * 4 + 2,none⟩ = some (.int .i64 (g j).y) ∧ W.cell? ⟨bb,o + j * 4 + 3,none⟩ = some (.string (g j).data):=by
          rcases hv with ⟨rfl,rfl⟩ | ⟨ad,cap,rfl,q1,-,q3⟩
          · exact ⟨none,0,rfl,Nat.le_refl _,fun _ _ j hj=>absurd hj (Nat.not_lt_zero _)⟩
          · refine ⟨some ad,cap,rfl,q1,fun W hW j hj=>?_⟩
            obtain ⟨b,o,sp⟩:=ad
            obtain ⟨hs,hb,hc⟩:=q3 j hj
            obtain rfl:sp = none:=hs
            have hh:∀ i,i < 4 → W.cell? ⟨b,o + j * 4 + i,none⟩ = some ((g j).c i):=fun i hi=>(hW.cell (p:=⟨b,o + j * 4 + i,none⟩) hb).trans (hc i hi)
            exact ⟨b,o,rfl,hh 0 (by decide),hh 1 (by decide),hh 2 (by decide),hh 3 (by decide)⟩
        generalize kA k0 k1 = A at *
        generalize kB k0 k1 = B at *
        have hn20:n ≤ 20:=by omega
        replace hX:Aside _:=hX
        replace hY:Aside _:=hY
        go_enter Tryz.func4,Tryz.ntmps4
        go_wp2_with (first
          | (go_at_call 8; (with_reducible refine (hwk _ (by (repeat' (first | (with_reducible exact Below.refl _ _) | (with_reducible refine below_alloc ?_ _) | (with_reducible refine Below.drew ?_) | (with_reducible refine below_drewN ?_ _) | (with_reducible refine Below.setCell ?_ ?_ _) | (with_reducible assumption) | (with_reducible refine below_of ?_ (by assumption)) | omega | (simp only [World.size_alloc,World.size_setCell,World.size_drew,size_drewN] at *; omega) | (simp; omega))))).mono ?_); rintro e w1 ⟨rfl,hb⟩; have hb1:Below w.heap.size w w1:=below_of (by (repeat' (first | (with_reducible exact Below.refl _ _) | (with_reducible refine below_alloc ?_ _) | (with_reducible refine Below.drew ?_) | (with_reducible refine below_drewN ?_ _) | (with_reducible refine Below.setCell ?_ ?_ _) | (with_reducible assumption) | (with_reducible refine below_of ?_ (by assumption)) | omega | (simp only [World.size_alloc,World.size_setCell,World.size_drew,size_drewN] at *; omega) | (simp; omega)))) hb; have hz:=hb.size; (try simp only [World.size_alloc,World.size_setCell,World.size_drew,size_drewN] at hz); apply own_step (B:=w.heap.size) hb; (focus (repeat (first | (with_reducible assumption) | (with_reducible exact own_new _ _ _) | ((with_reducible apply own_new'); focus (first | omega | (simp; done) | (simp; omega))) | (with_reducible apply own_drewN) | (with_reducible apply own_drew) | (with_reducible apply own_alloc) | (with_reducible apply own_setT) | ((with_reducible apply own_set_otherH); focus (first | (simp; done) | (simp; omega)))))); intro hO0; have hk0:=hO0.2.1; have hl0:=hO0.1; have hf0:=hO0.2.2; (try simp only [List.setIfInBounds_toArray,List.set_cons_zero,List.set_cons_succ] at hO0 hk0))
          | (go_at_call 10; (with_reducible refine (hpr _).mono ?_); rintro e w3 ⟨rfl,hb⟩; have hb3:Below w.heap.size w w3:=below_of hb1 hb; clear hk0 hl0 hf0 hO0))
        go_loopw [8] (fun u8 wr=>∃ i:Nat,u8 = .int .i64 i ∧ i ≤ n ∧ Own wr w3.heap.size #[.string A,.string B] ∧ Below w.heap.size w wr ∧ ∀ j,j < i → (g j).data.size ≤ 1000)
          (fun u8 _=>n - natM u8)
        case atStart=>exact ⟨0,rfl,Nat.zero_le _,own_new _ _ _,by (repeat' (first | (with_reducible exact Below.refl _ _) | (with_reducible refine below_alloc ?_ _) | (with_reducible refine Below.drew ?_) | (with_reducible refine below_drewN ?_ _) | (with_reducible refine Below.setCell ?_ ?_ _) | (with_reducible assumption) | (with_reducible refine below_of ?_ (by assumption)) | omega | (simp only [World.size_alloc,World.size_setCell,World.size_drew,size_drewN] at *; omega) | (simp; omega))),fun j hj=>absurd hj (Nat.not_lt_zero _)⟩
        case round =>
          obtain ⟨i,rfl,hile,hO,hbw0,hsm⟩:=hrel
          by_cases hlt:i < n
          · have hltz:(i:Int) < (n:Int):=by omega
            obtain ⟨bb,o,rfl,c0,c1,c2,c3⟩:=hrow wr hbw0 i hlt
            by_cases hbg:(1000:Int) < ((g i).data.size:Int)
            · clear hrow hH0 hR0 hwk hpr hd hv hsm hX hY
              generalize (g i).data = ud at *
              go_wp2
              go_ret
              exact ⟨rfl,hbw0⟩
            · have hs1:(g i).data.size ≤ 1000:=by omega
              have hEr:=hE.below hbw0
              have ha:∀ q:BelowF wr,_:=fun q=>hH0 q.w (hEr.below q.h) 0 i hs1
              have hb:∀ q:BelowF wr,_:=fun q=>hH0 q.w (hEr.below q.h) 1 i hs1
              have hc:∀ q:BelowF wr,_:=fun q=>hR0 q.w 0 i hs1
              have hf:∀ q:BelowF wr,_:=fun q=>hR0 q.w 1 i hs1
              have hnx:∀ j,j < i + 1 → (g j).data.size ≤ 1000:=fun j hj=>by
                by_cases e:j = i
                · subst e; exact hs1
                · exact hsm j (by omega)
              have hsz:=hO.1
              have a0:=cell_byF (hO.2.1 0)
              have a1:=cell_byF (hO.2.1 1)
              clear hrow hH0 hR0 hwk hpr hd hv hsm hs1 hE hEr hX hY
              generalize holdsG (knP A B) (tagP A B) 0 (g i).data (g i).x (g i).y = H0 at *
              generalize holdsG (knP A B) (tagP A B) 1 (g i).data (g i).x (g i).y = H1 at *
              generalize (g i).side = us at *
              generalize (g i).x = ux at *
              generalize (g i).y = uy at *
              generalize hud:(g i).data = ud at *
              clear hud
              go_wp2
              replace c0:=cell_byF c0
              replace c1:=cell_byF c1
              replace c2:=cell_byF c2
              replace c3:=cell_byF c3
              refine wp_region_belowF (by kernel_rfl) (by kernel_rfl) ?_
              (repeat (quiet_step (first
                | (go_at_call 17; first | (with_reducible exact below_leftF (ha _)) | (with_reducible exact below_leftF (hb _)))
                | (go_at_call 18; first | (with_reducible exact below_leftF (hc _)) | (with_reducible exact below_leftF (hf _))))))
              refine wpQuiet_nil ?_
              intro _ hw'
              obtain ⟨⟨wq,hbq⟩,hw''⟩:=hw'
              subst hw''
              have hbx:=hbw0.trans (hbq.mono hbw0.size)
              have hOx:=own_below hO hbq
              clear ha hb hc hf a0 a1 c0 c1 c2 c3
              go_wp2
              go_roundw
              case rel=>exact ⟨i + 1,by first | rfl | go_num,hlt,hOx,hbx,hnx⟩
              case measure=>(try go_num); simp [natM]; omega
          · obtain rfl:i = n:=by omega
            have hltz:¬ (i:Int) < (i:Int):=by omega
            clear hH0 hR0 hwk hpr hd hrow
            have hEr:=hE.below hbw0
            have hvr:=hv.below hbw0
            have hXr:=fun (V:World) (u:Value) (hr:IsRows V 4 u i fun i j=>(g i).c j)=>hX.out V u hsm hr
            have hYr:=fun (V:World) (u:Value) (hV:ErrT V) (hr:IsRows V 4 u i fun i j=>(g i).c j)=>hY.out V u hV hsm hr
            generalize hasU (fun i=>anyG (knP A B) (tagP A B) (g i)) i = R at *
            clear hX hY
            rcases hvr with ⟨hp0,rfl⟩ | hvr
            · cases hp0
              have hro:∀ (V:World) (a:Option Addr),IsRows V 4 (.slice a 0 0) 0 fun i j=>(g i).c j:=fun V a=>by
                cases a with
                | none=>exact .inl ⟨rfl,rfl⟩
                | some a=>exact .inr ⟨a,0,rfl,Nat.le_refl _,Nat.zero_le _,fun i hi=>absurd hi (Nat.not_lt_zero _)⟩
              have hsz:=hO.1
              have q0:=hO.2.1 0
              have q1:=hO.2.1 1
              clear hv hb hb1 hsm
              go_wp2
              go_region_with (first
                | (go_at_call 19; (with_reducible refine (hYr _ _ (hE.below (by (repeat' (first | (with_reducible exact Below.refl _ _) | (with_reducible refine below_alloc ?_ _) | (with_reducible refine Below.drew ?_) | (with_reducible refine below_drewN ?_ _) | (with_reducible refine Below.setCell ?_ ?_ _) | (with_reducible assumption) | (with_reducible refine below_of ?_ (by assumption)) | omega | (simp only [World.size_alloc,World.size_setCell,World.size_drew,size_drewN] at *; omega) | (simp; omega))))) (hro _ _)).mono ?_); rintro e w5 ⟨rfl,hb⟩; have hb5:Below w.heap.size w w5:=below_of (by (repeat' (first | (with_reducible exact Below.refl _ _) | (with_reducible refine below_alloc ?_ _) | (with_reducible refine Below.drew ?_) | (with_reducible refine below_drewN ?_ _) | (with_reducible refine Below.setCell ?_ ?_ _) | (with_reducible assumption) | (with_reducible refine below_of ?_ (by assumption)) | omega | (simp only [World.size_alloc,World.size_setCell,World.size_drew,size_drewN] at *; omega) | (simp; omega)))) hb)
                | (go_at_call 20; (with_reducible refine (hXr _ _ (hro _ _)).mono ?_); rintro e w6 ⟨rfl,hb⟩; have hb6:Below w.heap.size w w6:=below_of (by (repeat' (first | (with_reducible exact Below.refl _ _) | (with_reducible refine below_alloc ?_ _) | (with_reducible refine Below.drew ?_) | (with_reducible refine below_drewN ?_ _) | (with_reducible refine Below.setCell ?_ ?_ _) | (with_reducible assumption) | (with_reducible refine below_of ?_ (by assumption)) | omega | (simp only [World.size_alloc,World.size_setCell,World.size_drew,size_drewN] at *; omega) | (simp; omega)))) hb))
              all_goals (go_wp2; go_ret; exact ⟨by first | rfl | simp,by (repeat' (first | (with_reducible exact Below.refl _ _) | (with_reducible refine below_alloc ?_ _) | (with_reducible refine Below.drew ?_) | (with_reducible refine below_drewN ?_ _) | (with_reducible refine Below.setCell ?_ ?_ _) | (with_reducible assumption) | (with_reducible refine below_of ?_ (by assumption)) | omega | (simp only [World.size_alloc,World.size_setCell,World.size_drew,size_drewN] at *; omega) | (simp; omega)))⟩)
            · have hvk:IsRows wr 4 (.slice p i cap) i fun i j=>(g i).c j:=.inr hvr
              obtain ⟨ad,cp,hpe,g1,g2,g3⟩:=hvr
              cases hpe
              obtain ⟨i0,hi,hz0,hz1,hz2⟩:=info_parts un_infoP
              have hlen:=cellsU_len i g
              have hsz:=hO.1
              have hws:=hbw0.size
              have q0:=hO.2.1 0
              have q1:=hO.2.1 1
              have hS:∀ W:World,Below wr.heap.size wr W → W.cell? ⟨w3.heap.size,0,none⟩ = some (.string A) ∧ W.cell? ⟨w3.heap.size,1,none⟩ = some (.string B):=fun W hW=>⟨(hW.cell (p:=⟨w3.heap.size,0,none⟩) hsz).trans q0,(hW.cell (p:=⟨w3.heap.size,1,none⟩) hsz).trans q1⟩
              have hnew:∀ W:World,Below wr.heap.size wr W → ∀ j u,(cellsU i g)[j]? = some u → W.cell? (ad.add j) = some u:=fun W hW j u hj=>unders_at hW g3 j u hj
              have hb0:Below wr.heap.size wr wr.drew:=(Below.refl _ _).drew
              have hb0a:∀ o,Below wr.heap.size wr (wr.drew.alloc o):=fun o=>hb0.alloc (by simp) o
              have hb0d:∀ o,Below wr.heap.size wr (wr.alloc o).drew:=fun o=>((Below.refl _ _).alloc (Nat.le_refl _) o).drew
              have hrE:((wr.alloc (.cells #[] 42)).drew).ownsRow wr.heap.size 42 4 (.slice (some ⟨wr.heap.size,0,none⟩) 0 0) 0 []:=own_emptyU rfl (Nat.le_refl _)
              clear hv hb hb1 hsm q0 q1
              go_wp2
              go_region_held3 (fun W=>W.cell? ⟨w3.heap.size,0,none⟩ = some (.string A) ∧ W.cell? ⟨w3.heap.size,1,none⟩ = some (.string B))
                (first | (exact hS _ hb0) | (exact hS _ (hb0a _)) | (exact hS _ (hb0d _)) | (exact hS _ (by assumption)) | (exact hS _ (by (repeat' (first | (with_reducible exact Below.refl _ _) | (with_reducible refine below_alloc ?_ _) | (with_reducible refine Below.drew ?_) | (with_reducible refine below_drewN ?_ _) | (with_reducible refine Below.setCell ?_ ?_ _) | (with_reducible assumption) | (with_reducible refine below_of ?_ (by assumption)) | omega | (simp only [World.size_alloc,World.size_setCell,World.size_drew,size_drewN] at *; omega) | (simp; omega))))))
                (first
                  | (refine step_append_ownF rfl _ _ 38 rfl wr.heap.size 42 i0 (.agg #[.int .i64 0,.int .i64 0,.int .i64 0,.string ⟨#[]⟩]) 4 40 Tryz.underlying38 hi hz0 hz1 hz2 rfl (by decide) _ _ _ (by simp [Act.eval,Act.put]) hrE ad i cap (cellsU i g) (by simp [Act.eval,Act.put]) hlen (hnew _ (hb0d _)) (cellsU_one _ _) (by unfold maxLen; omega) (by omega) (by simp) ?_; intro u5 w5 hown hg5; have hb5:Below wr.heap.size wr w5:=(hb0d (.cells #[] 42)).grown hg5 (by simp) (fun j hj=>by have hj:some wr.heap.size = some j:=hj; have:=Option.some.inj hj; omega); have hr5:=rows_cellsU (g:=g) (by simpa using hown))
                  | (go_at_call 19; (with_reducible refine (hYr _ _ (hEr.below hb5) hr5).mono ?_); rintro e w6 ⟨rfl,hb⟩; have hb6:Below wr.heap.size wr w6:=below_of hb5 hb)
                  | (go_at_call 20; (with_reducible refine (hXr _ _ (hvk.below hb6)).mono ?_); rintro e w7 ⟨rfl,hb⟩; have hb7:Below wr.heap.size wr w7:=below_of hb6 hb))
              all_goals (go_wp2; go_ret; exact ⟨by first | rfl | simp,hbw0.trans (by first | exact hb7.mono hws | exact hb6.mono hws)⟩)
end Go.Proofs.YthacfgaacleaeaaGreatDoor
namespace Go.Proofs.YthacfgaacleaeaaGreatDoor
open Go.IntKind (i64 u32)
open Go.ChangeShapes Go.WideShapes Go.ChangeAt Go.RowKit Sym Go.ChangeMaps
theorem laid_tabB {W:World} (h:laidMetH Tryz.prog Rows.forgeBytesRow.laid W):TabW W:=laid_tab h
theorem door_metB (os:Os) (args:Array Value):laidMetH Tryz.prog Rows.forgeBytesRow.laid ((World.doorLaid Tryz.prog 24 os).forCall (fun _ _=>0) ⟨#[],args,[]⟩).memory:=door_met os args
set_option maxRecDepth 100000 in
theorem forgeBytes_walk {H:Type} {enc:TypeId × Value → H} {W:World} {base:Nat} {sp:Nat → Bool} {v0 v1:Value} {d0 d1:DataW H} {p0 p1:List MemPlace}
    (a0:Value.okWide Tryz.prog W .any base 22 v0) (h0:DataW.Trod enc Tryz.prog W 0 sp true 22 v0 d0 p0)
    (a1:Value.okWide Tryz.prog W .any base 38 v1) (h1:DataW.Trod enc Tryz.prog W 0 sp true 38 v1 d1 p1) (ht:TabW W) :
    Calls Tryz.prog 4 #[v0,v1] W fun e W'=>e = .returned (.bool true) ∧ Below W.heap.size W W':=by
  obtain ⟨a,b,rfl,ha,hb⟩:=open_str2 a0 h0
  obtain ⟨n,g,hn,hd,hr⟩:=open_unders a1 h1
  exact bytes_any a b ht hn hr ⟨ha,hb⟩ hd
end Go.Proofs.YthacfgaacleaeaaGreatDoor

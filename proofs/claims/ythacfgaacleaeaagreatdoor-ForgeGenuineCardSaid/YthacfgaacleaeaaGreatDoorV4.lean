/- Parts of a proof: FgE,FgL,FgM,FgN,FgO,FgP,FgQ,ShaT,ShaS,ShaW,ShaB,ShaC,ShaD. No conditions. -/
import Derived.Test.YthacfgaacleaeaaGreatDoorV3
import Derived.WalkKit
import Derived.LaidEql
import Derived.Stop.Asserts
import Derived.RowKitTokens
import Derived.Test.YthacfgaacleaeaaGreatDoorShelf
set_option linter.unusedVariables false
set_option linter.unusedSimpArgs false
namespace Go.Proofs.YthacfgaacleaeaaGreatDoor
open Go.IntKind (i64 u32)
open Go.RowKit Sym Sha Go.ChangeShapes Go.WideShapes Go.ChangeMaps
set_option maxRecDepth 100000 in
theorem sizes_run (k:Int):runV Tryz.prog (onlyS Tryz.prog noS) noL Tryz.f121 [.int .i64 k] =
 letI q:=Value.int i64 0;
 letI q0:=Value.int i64 4;
 letI q1:=Value.int i64 1;
 letI q2:=Value.int i64 32;
 letI q3:T Value:=.leaf (Value.agg (Array.mk [q1,q,q,q,q0,q,q]));
 .ite (decide (k=(0:Int))) (.leaf (Value.agg (Array.mk [q,q,q,q,q0,q2,q2]))) (.ite (decide (k=(1:Int))) (.leaf (Value.agg (Array.mk [q1,q,q0,q0,q,q,q]))) (.ite (decide (k=(3:Int))) (.leaf (Value.agg (Array.mk [q,q,q,q,q,Value.int i64 8,Value.int i64 16]))) (.ite (decide (k=(4:Int))) (.leaf (Value.agg (Array.mk [q,q,q,q,Value.int i64 6,q,q]))) (.ite (decide (k=(5:Int))) (.leaf (Value.agg (Array.mk [q,q,q,q,q,q2,q2]))) (.ite (decide (k=(6:Int))) (.leaf (Value.agg (Array.mk [q,q,q,q,Value.int i64 2,q,q]))) (.ite (decide (k=(7:Int))) q3 (.ite (decide (k=(8:Int))) q3 (.ite (decide (k=(9:Int))) (.leaf (Value.agg (Array.mk [q1,q1,q,q,q0,q,q]))) (.ite (decide (k=(10:Int))) (.leaf (Value.agg (Array.mk [q,q,q,q,q0,q,q]))) (.ite (decide (k=(11:Int))) (.leaf (Value.agg (Array.mk [q,q,q,q,q1,q,q]))) (.leaf (Value.agg (Array.mk [q,q,q,q,q,q,q]))))))))))))):=by kernel_rfl
set_option maxRecDepth 100000 in
theorem known_run (k:Int):runV Tryz.prog (onlyS Tryz.prog noS) noL Tryz.f120 [.int .i64 k] =
 letI q:T Value:=.leaf (Value.bool false);
 .ite (decide (k ≥ (0:Int))) (.ite (decide (k≤(11:Int))) (.leaf (Value.bool !decide (k=(2:Int)))) q) q:=by kernel_rfl
def sizesZ (t:Int):List Int :=
  if t=0 then [0,0,0,0,4,32,32]
  else if t=1 then [1,0,4,4,0,0,0]
  else if t=3 then [0,0,0,0,0,8,16]
  else if t=4 then [0,0,0,0,6,0,0]
  else if t=5 then [0,0,0,0,0,32,32]
  else if t=6 then [0,0,0,0,2,0,0]
  else if t=7 then [1,0,0,0,4,0,0]
  else if t=8 then [1,0,0,0,4,0,0]
  else if t=9 then [1,1,0,0,4,0,0]
  else if t=10 then [0,0,0,0,4,0,0]
  else if t=11 then [0,0,0,0,1,0,0]
  else [0,0,0,0,0,0,0]
def sizesV (t:Int):Value:=.agg ⟨(sizesZ t).map (Value.int .i64)⟩
set_option maxRecDepth 100000 in
theorem sizes_any (t:Int) (w:World):Calls Tryz.prog 121 #[.int .i64 t] w fun e w'=>e = .returned (sizesV t)∧Below w.heap.size w w':=by
  refine calls_runV (onlyS_ok noS_ok) follows Tryz.func121 (by kernel_rfl) (by kernel_rfl) noL_ok (sizes_run t) ?_ w
  unfold sizesV sizesZ
  by_cases h0:t=0
  · subst h0;simp [T.ok]
  by_cases h1:t=1
  · subst h1;simp [T.ok]
  by_cases h3:t=3
  · subst h3;simp [T.ok]
  by_cases h4:t=4
  · subst h4;simp [T.ok]
  by_cases h5:t=5
  · subst h5;simp [T.ok]
  by_cases h6:t=6
  · subst h6;simp [T.ok]
  by_cases h7:t=7
  · subst h7;simp [T.ok]
  by_cases h8:t=8
  · subst h8;simp [T.ok]
  by_cases h9:t=9
  · subst h9;simp [T.ok]
  by_cases h10:t=10
  · subst h10;simp [T.ok]
  by_cases h11:t=11
  · subst h11;simp [T.ok]
  simp [T.ok,h0,h1,h3,h4,h5,h6,h7,h8,h9,h10,h11]
def knownB (t:Int):Bool:=decide (0≤t∧t≤11∧t ≠ 2)
set_option maxRecDepth 100000 in
theorem known_any (t:Int) (w:World):Calls Tryz.prog 120 #[.int .i64 t] w fun e w'=>e = .returned (.bool (knownB t))∧Below w.heap.size w w':=by
  refine calls_runV (onlyS_ok noS_ok) follows Tryz.func120 (by kernel_rfl) (by kernel_rfl) noL_ok (known_run t) ?_ w
  unfold knownB
  by_cases h0:0≤t
  · by_cases h1:t≤11
    · by_cases h2:t=2
      · subst h2;simp [T.ok]
      · simp [T.ok,h0,h1,h2]
    · simp [T.ok,h0,h1]
  · simp [T.ok,h0]
def fSz (t:Int) (z:List Int):List SV→List Blk→Option (T (SV×List Blk)):=fun ss H=>match ss.map openS with
  | [.v (.int .i64 k)]=>some (.need (k=t∧sizesZ t=z) (.leaf (.agg (z.map fun x=>.c (.int .i64 x)),H)))
  | _=>none
theorem tos_consts (B:List Value) (z:List Int):SV.tos B (z.map fun x=>.c (.int .i64 x))=some (z.map (Value.int .i64)):=by
  induction z with
  | nil=>rfl
  | cons x z ih=>simp [SV.tos,SV.to,ih]
theorem fSz_ok (t:Int) (z:List Int):EntryOk Tryz.prog 121 (fSz t z):=by
  intro ss H T0 ht bs B w vs hm hv Qs hq
  unfold fSz at ht
  split at ht
  · rename_i k hk
    simp only [Option.some.injEq] at ht
    subst ht
    obtain ⟨⟨rfl,rfl⟩,hq⟩:=hq
    rw [← opens_tos,hk] at hv
    obtain rfl:[Value.int .i64 k]=vs:=by simpa [SV.tos,SV.to] using hv
    refine (sizes_any k w).mono ?_
    rintro e w' ⟨rfl,hb⟩
    exact ⟨_,H,B,sizesV k,hq,List.prefix_refl _,rfl,by simp only [SV.to,tos_consts];rfl,hm.below hb⟩
  · cases ht
def fKn (b:Bool):List SV→List Blk→Option (T (SV×List Blk)):=fun ss H=>match ss.map openS with
  | [.v (.int .i64 k)]=>some (.need (knownB k=b) (.leaf (bif b then .tt else .ff,H)))
  | _=>none
theorem fKn_ok (b:Bool):EntryOk Tryz.prog 120 (fKn b):=by
  intro ss H T0 ht bs B w vs hm hv Qs hq
  unfold fKn at ht
  split at ht
  · rename_i k hk
    simp only [Option.some.injEq] at ht
    subst ht
    obtain ⟨rfl,hq⟩:=hq
    rw [← opens_tos,hk] at hv
    obtain rfl:[Value.int .i64 k]=vs:=by simpa [SV.tos,SV.to] using hv
    refine (known_any k w).mono ?_
    rintro e w' ⟨rfl,hb⟩
    exact ⟨_,H,B,.bool (knownB k),hq,List.prefix_refl _,rfl,by cases knownB k <;> rfl,hm.below hb⟩
  · cases ht
def FR11 (b:Bool) (t:Int) (z:List Int):LTab:=addT 121 (fSz t z) <| addT 120 (fKn b) FRfC
theorem FR11_ok (b:Bool) (t:Int) (z:List Int):LOk Tryz.prog (FR11 b t z):=addT_ok (addT_ok FRfC_ok (by kernel_rfl) (fKn_ok b)) (by kernel_rfl) (fSz_ok t z)
abbrev CR11 (P:Program) (b:Bool) (t:Int) (z:List Int):Cfg:=both P noS (FR11 b t z) [85,122,123,121,120]
theorem CR11_ok (b:Bool) (t:Int) (z:List Int):CfgOk Tryz.prog (CR11 Tryz.prog b t z):=both_ok noS_ok (FR11_ok b t z)
def LR11 (P:Program) (b:Bool) (t:Int) (z:List Int) (get:Func):Nat→St→Option (T (Ex×St)):=addL 0 (unrollB (runC P (CR11 P b t z) noL get.ntmps (loopAt get 0)) 0 7) noL
set_option maxRecDepth 100000 in
theorem rgmN_run (k:Int) (s:ByteArray):runV Tryz.prog (CR11 Tryz.prog false 0 []) (LR11 Tryz.prog false 0 [] Tryz.f68) Tryz.f68 [.agg #[.int .i64 k,.string s]] =
 letI q0:=Value.int i64 0;
 letI q:=Value.agg (Array.mk [q0,q0,q0,q0,q0,q0,Value.string (ByteArray.mk (Array.mk []))]);
 letI q1:T Value:=.leaf (Value.tuple (Array.mk [q,Value.int i64 7]));
 letI q2:=(0:Int);
 .ite (!decide (k=(46:Int))) q1 (.ite (decide (s=ByteArray.mk (Array.mk []))) (.leaf (Value.tuple (Array.mk [q,Value.int i64 1]))) (.need (q2≤q2∧q2 < (↑s.size:Int)) (.need (knownB (i64.wrap (byteAt s q2))=false) q1))):=by kernel_rfl
set_option maxRecDepth 100000 in
theorem rgm0_run (k:Int) (s:ByteArray):runV Tryz.prog (CR11 Tryz.prog true 0 [0,0,0,0,4,32,32]) (LR11 Tryz.prog true 0 [0,0,0,0,4,32,32] Tryz.f68) Tryz.f68 [.agg #[.int .i64 k,.string s]] =
 letI q3:=Value.int i64 0;
 letI q:=Value.agg (Array.mk [q3,q3,q3,q3,q3,q3,Value.string (ByteArray.mk (Array.mk []))]);
 letI q1:=(0:Int);
 letI q8:=(7:Int);
 letI q2:=q1≤(6:Int)∧(6:Int) < q8;
 letI q5:=(5:Int);
 letI q6:=(↑s.size:Int);
 letI p0:=(32:Int);
 letI p5:=(37:Int);
 letI p3:=i64.wrap (byteAt s q1);
 letI q4:T Value:=.leaf (Value.tuple (Array.mk [q,Value.int i64 1]));
 letI q0:T Value:=.need q2 (.need (q1≤q5∧q5≤q6∧q1≤p0∧p0≤(1000000:Int)∧s.size≤1000000) (.ite (decide (p5≤q6)) (.need (q1≤p5∧p5≤q6∧s.size≤1000000) (.ite (decide (p5 < q6)) (.leaf (Value.tuple (Array.mk [q,Value.int i64 2]))) (.leaf (Value.tuple (Array.mk [Value.agg (Array.mk [Value.int i64 p3,q3,q3,Value.int i64 (valU (s.extract 1 5)),q3,q3,Value.string (s.extract 5 37)]),q3]))))) q4));
 letI q7:=(4:Int);
 letI q9:=(1:Int);
 letI p:=q1≤q7∧q7 < q5;
 letI p1:=(2:Int);
 letI p2:=(3:Int);
 letI p4:=[q1,q1,q1,q1,q7,p0,p0];
 letI p6:=q1≤q7∧q7 < q8;
 letI p7:=q1≤q1∧q1 < q5;
 letI p8:=q1≤q9∧q9 < q5;
 letI p9:=q1≤p1∧p1 < q5;
 letI z:=q1≤p2∧p2 < q5;
 letI z0:=q1≤q5∧q5 < q8;
 .ite (!decide (k=(46:Int))) (.leaf (Value.tuple (Array.mk [q,Value.int i64 7]))) (.ite (decide (s=ByteArray.mk (Array.mk []))) q4 (.need (q1≤q1∧q1 < q6) (.need (knownB p3=true) (.need (i64.wrap (byteAt s q1)=q1∧p4=p4) (.need (q1≤q1∧q1 < q8) (.need (q1≤q9∧q9 < q8) (.need (q1≤p1∧p1 < q8) (.need (q1≤p2∧p2 < q8) (.need p6 (.need p6 (.need (q1≤q9∧q9≤q6∧q9≤q7∧q7≤q8∧s.size≤1000000) (.ite (decide (q5≤q6)) (.need p (.need p7 (.need p8 (.need p9 (.need z (.need p (.need z0 (.need q2 (.ite (decide (i64.wrap (q6 - q5) ≥ p0)) (.need q2 q0) q0))))))))) (.need p (.need p7 (.need p8 (.need p9 (.need z (.need p (.need z0 (.need q2 (.ite (decide (i64.wrap (q6 - q9) ≥ p0)) (.need q2 (.need q2 q4)) (.need q2 q4)))))))))))))))))))))):=by kernel_rfl
set_option maxRecDepth 100000 in
theorem rgm1_run (k:Int) (s:ByteArray):runV Tryz.prog (CR11 Tryz.prog true 1 [1,0,4,4,0,0,0]) (LR11 Tryz.prog true 1 [1,0,4,4,0,0,0] Tryz.f68) Tryz.f68 [.agg #[.int .i64 k,.string s]] =
 letI p0:=Value.int i64 0;
 letI z0:=Value.string (ByteArray.mk (Array.mk []));
 letI q:=Value.agg (Array.mk [p0,p0,p0,p0,p0,p0,z0]);
 letI q0:=(0:Int);
 letI z1:=(6:Int);
 letI p:=(7:Int);
 letI q1:=q0≤z1∧z1 < p;
 letI z2:=(10:Int);
 letI q8:=(↑s.size:Int);
 letI z3:=i64.wrap (byteAt s q0);
 letI q2:T Value:=.need q1 (.need (q0≤z2∧z2≤q8∧s.size≤1000000) (.ite (decide (z2 < q8)) (.leaf (Value.tuple (Array.mk [q,Value.int i64 2]))) (.leaf (Value.tuple (Array.mk [Value.agg (Array.mk [Value.int i64 z3,Value.int i64 (valU (s.extract 1 2)),p0,p0,Value.int i64 (valU (s.extract 2 6)),Value.int i64 (valU (s.extract 6 10)),z0]),p0])))));
 letI q3:T Value:=.leaf (Value.tuple (Array.mk [q,Value.int i64 1]));
 letI z5:=(3:Int);
 letI p1:=(5:Int);
 letI q4:=q0≤z5∧z5 < p1;
 letI p8:=(2:Int);
 letI q5:=q0≤p8∧p8 < p1;
 letI q6:=q0≤z5∧z5 < p;
 letI q7:=(4:Int);
 letI q9:=(1:Int);
 letI p2:=q0≤q0∧q0 < p1;
 letI p3:=q0≤p8∧p8 < p;
 letI p4:=q0≤q9∧q9 < p1;
 letI p5:=q0≤q7∧q7 < p1;
 letI p6:=q0≤q7∧q7 < p;
 letI p7:=q0≤p1∧p1 < p;
 letI p9:T Value:=.need q1 q3;
 letI z:=q9≤q7∧q7≤p;
 letI z4:=[q9,q0,q7,q7,q0,q0,q0];
 letI z6:=q0≤q0∧q0 < p;
 letI z7:=q0≤q9∧q9 < p;
 .ite (!decide (k=(46:Int))) (.leaf (Value.tuple (Array.mk [q,Value.int i64 7]))) (.ite (decide (s=ByteArray.mk (Array.mk []))) q3 (.need (q0≤q0∧q0 < q8) (.need (knownB z3=true) (.need (i64.wrap (byteAt s q0)=q9∧z4=z4) (.need z6 (.need z6 (.need (q0≤q9∧q9≤q8∧q9≤q9∧q9≤p∧s.size≤1000000) (.ite (decide (p8≤q8)) (.need p2 (.need z7 (.need p3 (.need p3 (.need (q0≤p8∧p8≤q8∧q9≤q7∧q7≤p∧s.size≤1000000) (.ite (decide (z1≤q8)) (.need q5 (.need q6 (.need q6 (.need (q0≤z1∧z1≤q8∧q9≤q7∧q7≤p∧s.size≤1000000) (.ite (decide (z2≤q8)) (.need q4 (.need p6 (.need p2 (.need p4 (.need q5 (.need q4 (.need p5 (.need p7 (.need q1 (.ite (decide (i64.wrap (q8 - z2) ≥ q0)) (.need q1 q2) q2)))))))))) (.need q4 (.need p6 (.need p2 (.need p4 (.need q5 (.need q4 (.need p5 (.need p7 (.need q1 (.ite (decide (i64.wrap (q8 - z1) ≥ q0)) (.need q1 p9) p9))))))))))))))) (.need q5 (.need q6 (.need q6 (.need z (.need q4 (.need p6 (.need p2 (.need p4 (.need q5 (.need q4 (.need p5 (.need p7 (.need q1 (.ite (decide (i64.wrap (q8 - p8) ≥ q0)) (.need q1 p9) p9)))))))))))))))))))) (.need p2 (.need z7 (.need p3 (.need p3 (.need z (.need q5 (.need q6 (.need q6 (.need z (.need q4 (.need p6 (.need p2 (.need p4 (.need q5 (.need q4 (.need p5 (.need p7 (.need q1 (.ite (decide (i64.wrap (q8 - q9) ≥ q0)) (.need q1 p9) p9))))))))))))))))))))))))))):=by kernel_rfl
set_option maxRecDepth 100000 in
theorem rgm3_run (k:Int) (s:ByteArray):runV Tryz.prog (CR11 Tryz.prog true 3 [0,0,0,0,0,8,16]) (LR11 Tryz.prog true 3 [0,0,0,0,0,8,16] Tryz.f68) Tryz.f68 [.agg #[.int .i64 k,.string s]] =
 letI q0:=Value.int i64 0;
 letI q:=Value.agg (Array.mk [q0,q0,q0,q0,q0,q0,Value.string (ByteArray.mk (Array.mk []))]);
 letI q1:=(0:Int);
 letI q2:=(↑s.size:Int);
 letI q8:=(7:Int);
 letI q3:=q1≤(6:Int)∧(6:Int) < q8;
 letI q4:T Value:=.leaf (Value.tuple (Array.mk [q,Value.int i64 1]));
 letI q5:=i64.wrap (byteAt s q1);
 letI q6:=(1:Int);
 letI q7:T Value:=.leaf (Value.tuple (Array.mk [q,Value.int i64 2]));
 letI q9:=(5:Int);
 letI p1:=(16:Int);
 letI p:=[q1,q1,q1,q1,q1,(8:Int),p1];
 letI p0:=(3:Int);
 letI p2:=(17:Int);
 letI p3:=(2:Int);
 letI p4:=(4:Int);
 letI p5:=(9:Int);
 letI p6:=Value.int i64 q5;
 .ite (!decide (k=(46:Int))) (.leaf (Value.tuple (Array.mk [q,Value.int i64 7]))) (.ite (decide (s=ByteArray.mk (Array.mk []))) q4 (.need (q1≤q1∧q1 < q2) (.need (knownB q5=true) (.need (i64.wrap (byteAt s q1)=p0∧p=p) (.need (q1≤q1∧q1 < q8) (.need (q1≤q6∧q6 < q8) (.need (q1≤p3∧p3 < q8) (.need (q1≤p0∧p0 < q8) (.need (q1≤p4∧p4 < q8) (.need (q1≤q1∧q1 < q9) (.need (q1≤q6∧q6 < q9) (.need (q1≤p3∧p3 < q9) (.need (q1≤p0∧p0 < q9) (.need (q1≤p4∧p4 < q9) (.need (q1≤q9∧q9 < q8) (.need q3 (.ite (decide (i64.wrap (q2 - q6) ≥ p1)) (.need q3 (.need q3 (.need (q1≤q6∧q6≤q2∧q1≤p1∧p1≤(1000000:Int)∧s.size≤1000000) (.ite (decide (p2≤q2)) (.need (q1≤p2∧p2≤q2∧s.size≤1000000) (.ite (decide (p2 < q2)) q7 (.leaf (Value.tuple (Array.mk [Value.agg (Array.mk [p6,q0,q0,q0,q0,q0,Value.string (s.extract 1 17)]),q0]))))) q4)))) (.need q3 (.need (q1≤q6∧q6≤q2∧q1≤(8:Int)∧(8:Int)≤(1000000:Int)∧s.size≤1000000) (.ite (decide (p5≤q2)) (.need (q1≤p5∧p5≤q2∧s.size≤1000000) (.ite (decide (p5 < q2)) q7 (.leaf (Value.tuple (Array.mk [Value.agg (Array.mk [p6,q0,q0,q0,q0,q0,Value.string (s.extract 1 9)]),q0]))))) q4)))))))))))))))))))):=by kernel_rfl
set_option maxRecDepth 100000 in
theorem rgm4_run (k:Int) (s:ByteArray):runV Tryz.prog (CR11 Tryz.prog true 4 [0,0,0,0,6,0,0]) (LR11 Tryz.prog true 4 [0,0,0,0,6,0,0] Tryz.f68) Tryz.f68 [.agg #[.int .i64 k,.string s]] =
 letI q3:=Value.int i64 0;
 letI p0:=Value.string (ByteArray.mk (Array.mk []));
 letI q:=Value.agg (Array.mk [q3,q3,q3,q3,q3,q3,p0]);
 letI q1:=(0:Int);
 letI p1:=(6:Int);
 letI q6:=(7:Int);
 letI q2:=q1≤p1∧p1 < q6;
 letI q7:=(↑s.size:Int);
 letI p4:=i64.wrap (byteAt s q1);
 letI q0:T Value:=.need q2 (.need (q1≤q6∧q6≤q7∧s.size≤1000000) (.ite (decide (q6 < q7)) (.leaf (Value.tuple (Array.mk [q,Value.int i64 2]))) (.leaf (Value.tuple (Array.mk [Value.agg (Array.mk [Value.int i64 p4,q3,q3,Value.int i64 (valU (s.extract 1 7)),q3,q3,p0]),q3])))));
 letI p:=(4:Int);
 letI q8:=(5:Int);
 letI q4:=q1≤p∧p < q8;
 letI q5:T Value:=.leaf (Value.tuple (Array.mk [q,Value.int i64 1]));
 letI q9:=(1:Int);
 letI p2:=(2:Int);
 letI p3:=(3:Int);
 letI p5:=[q1,q1,q1,q1,p1,q1,q1];
 letI p6:=q1≤q1∧q1 < q8;
 letI p7:=q1≤q9∧q9 < q8;
 letI p8:=q1≤p2∧p2 < q8;
 letI p9:=q1≤p3∧p3 < q8;
 letI z:=q1≤q8∧q8 < q6;
 letI z0:=q1≤p∧p < q6;
 .ite (!decide (k=(46:Int))) (.leaf (Value.tuple (Array.mk [q,Value.int i64 7]))) (.ite (decide (s=ByteArray.mk (Array.mk []))) q5 (.need (q1≤q1∧q1 < q7) (.need (knownB p4=true) (.need (i64.wrap (byteAt s q1)=p∧p5=p5) (.need (q1≤q1∧q1 < q6) (.need (q1≤q9∧q9 < q6) (.need (q1≤p2∧p2 < q6) (.need (q1≤p3∧p3 < q6) (.need z0 (.need z0 (.need (q1≤q9∧q9≤q7∧q9≤p1∧p1≤q6∧s.size≤1000000) (.ite (decide (q6≤q7)) (.need q4 (.need p6 (.need p7 (.need p8 (.need p9 (.need q4 (.need z (.need q2 (.ite (decide (i64.wrap (q7 - q6) ≥ q1)) (.need q2 q0) q0))))))))) (.need q4 (.need p6 (.need p7 (.need p8 (.need p9 (.need q4 (.need z (.need q2 (.ite (decide (i64.wrap (q7 - q9) ≥ q1)) (.need q2 (.need q2 q5)) (.need q2 q5)))))))))))))))))))))):=by kernel_rfl
set_option maxRecDepth 100000 in
theorem rgm5_run (k:Int) (s:ByteArray):runV Tryz.prog (CR11 Tryz.prog true 5 [0,0,0,0,0,32,32]) (LR11 Tryz.prog true 5 [0,0,0,0,0,32,32] Tryz.f68) Tryz.f68 [.agg #[.int .i64 k,.string s]] =
 letI q1:=(0:Int);
 letI q8:=(7:Int);
 letI q3:=q1≤(6:Int)∧(6:Int) < q8;
 letI q9:=(1:Int);
 letI q4:=(↑s.size:Int);
 letI q7:=(32:Int);
 letI p1:=(33:Int);
 letI q2:=Value.int i64 0;
 letI q0:=Value.agg (Array.mk [q2,q2,q2,q2,q2,q2,Value.string (ByteArray.mk (Array.mk []))]);
 letI p:=i64.wrap (byteAt s q1);
 letI q5:T Value:=.leaf (Value.tuple (Array.mk [q0,Value.int i64 1]));
 letI q:T Value:=.need q3 (.need (q1≤q9∧q9≤q4∧q1≤q7∧q7≤(1000000:Int)∧s.size≤1000000) (.ite (decide (p1≤q4)) (.need (q1≤p1∧p1≤q4∧s.size≤1000000) (.ite (decide (p1 < q4)) (.leaf (Value.tuple (Array.mk [q0,Value.int i64 2]))) (.leaf (Value.tuple (Array.mk [Value.agg (Array.mk [Value.int i64 p,q2,q2,q2,q2,q2,Value.string (s.extract 1 33)]),q2]))))) q5));
 letI q6:=(5:Int);
 letI p0:=[q1,q1,q1,q1,q1,q7,q7];
 letI p2:=(2:Int);
 letI p3:=(3:Int);
 letI p4:=(4:Int);
 .ite (!decide (k=(46:Int))) (.leaf (Value.tuple (Array.mk [q0,Value.int i64 7]))) (.ite (decide (s=ByteArray.mk (Array.mk []))) q5 (.need (q1≤q1∧q1 < q4) (.need (knownB p=true) (.need (i64.wrap (byteAt s q1)=q6∧p0=p0) (.need (q1≤q1∧q1 < q8) (.need (q1≤q9∧q9 < q8) (.need (q1≤p2∧p2 < q8) (.need (q1≤p3∧p3 < q8) (.need (q1≤p4∧p4 < q8) (.need (q1≤q1∧q1 < q6) (.need (q1≤q9∧q9 < q6) (.need (q1≤p2∧p2 < q6) (.need (q1≤p3∧p3 < q6) (.need (q1≤p4∧p4 < q6) (.need (q1≤q6∧q6 < q8) (.need q3 (.ite (decide (i64.wrap (q4 - q9) ≥ q7)) (.need q3 q) q))))))))))))))))):=by kernel_rfl
set_option maxRecDepth 100000 in
theorem rgm6_run (k:Int) (s:ByteArray):runV Tryz.prog (CR11 Tryz.prog true 6 [0,0,0,0,2,0,0]) (LR11 Tryz.prog true 6 [0,0,0,0,2,0,0] Tryz.f68) Tryz.f68 [.agg #[.int .i64 k,.string s]] =
 letI q3:=Value.int i64 0;
 letI p1:=Value.string (ByteArray.mk (Array.mk []));
 letI q:=Value.agg (Array.mk [q3,q3,q3,q3,q3,q3,p1]);
 letI q1:=(0:Int);
 letI p:=(7:Int);
 letI q2:=q1≤(6:Int)∧(6:Int) < p;
 letI q8:=(3:Int);
 letI q6:=(↑s.size:Int);
 letI p3:=i64.wrap (byteAt s q1);
 letI q0:T Value:=.need q2 (.need (q1≤q8∧q8≤q6∧s.size≤1000000) (.ite (decide (q8 < q6)) (.leaf (Value.tuple (Array.mk [q,Value.int i64 2]))) (.leaf (Value.tuple (Array.mk [Value.agg (Array.mk [Value.int i64 p3,q3,q3,Value.int i64 (valU (s.extract 1 3)),q3,q3,p1]),q3])))));
 letI p2:=(4:Int);
 letI q7:=(5:Int);
 letI q4:=q1≤p2∧p2 < q7;
 letI q5:T Value:=.leaf (Value.tuple (Array.mk [q,Value.int i64 1]));
 letI q9:=(2:Int);
 letI p0:=(1:Int);
 letI p4:=[q1,q1,q1,q1,q9,q1,q1];
 letI p5:=q1≤q1∧q1 < q7;
 letI p6:=q1≤p0∧p0 < q7;
 letI p7:=q1≤q9∧q9 < q7;
 letI p8:=q1≤q8∧q8 < q7;
 letI p9:=q1≤p2∧p2 < p;
 letI z:=q1≤q7∧q7 < p;
 .ite (!decide (k=(46:Int))) (.leaf (Value.tuple (Array.mk [q,Value.int i64 7]))) (.ite (decide (s=ByteArray.mk (Array.mk []))) q5 (.need (q1≤q1∧q1 < q6) (.need (knownB p3=true) (.need (i64.wrap (byteAt s q1)=(6:Int)∧p4=p4) (.need (q1≤q1∧q1 < p) (.need (q1≤p0∧p0 < p) (.need (q1≤q9∧q9 < p) (.need (q1≤q8∧q8 < p) (.need p9 (.need p9 (.need (q1≤p0∧p0≤q6∧p0≤q9∧q9≤p∧s.size≤1000000) (.ite (decide (q8≤q6)) (.need q4 (.need p5 (.need p6 (.need p7 (.need p8 (.need q4 (.need z (.need q2 (.ite (decide (i64.wrap (q6 - q8) ≥ q1)) (.need q2 q0) q0))))))))) (.need q4 (.need p5 (.need p6 (.need p7 (.need p8 (.need q4 (.need z (.need q2 (.ite (decide (i64.wrap (q6 - p0) ≥ q1)) (.need q2 (.need q2 q5)) (.need q2 q5)))))))))))))))))))))):=by kernel_rfl
set_option maxRecDepth 100000 in
theorem rgm7_run (k:Int) (s:ByteArray):runV Tryz.prog (CR11 Tryz.prog true 7 [1,0,0,0,4,0,0]) (LR11 Tryz.prog true 7 [1,0,0,0,4,0,0] Tryz.f68) Tryz.f68 [.agg #[.int .i64 k,.string s]] =
 letI q5:=Value.int i64 0;
 letI p8:=Value.string (ByteArray.mk (Array.mk []));
 letI q:=Value.agg (Array.mk [q5,q5,q5,q5,q5,q5,p8]);
 letI q1:=(0:Int);
 letI p4:=(6:Int);
 letI q8:=(7:Int);
 letI q2:=q1≤p4∧p4 < q8;
 letI q7:=(↑s.size:Int);
 letI z:=i64.wrap (byteAt s q1);
 letI q0:T Value:=.need q2 (.need (q1≤p4∧p4≤q7∧s.size≤1000000) (.ite (decide (p4 < q7)) (.leaf (Value.tuple (Array.mk [q,Value.int i64 2]))) (.leaf (Value.tuple (Array.mk [Value.agg (Array.mk [Value.int i64 z,Value.int i64 (valU (s.extract 1 2)),q5,Value.int i64 (valU (s.extract 2 6)),q5,q5,p8]),q5])))));
 letI q3:T Value:=.leaf (Value.tuple (Array.mk [q,Value.int i64 1]));
 letI p:=(4:Int);
 letI q6:=(5:Int);
 letI q4:=q1≤p∧p < q6;
 letI q9:=(1:Int);
 letI p0:=(2:Int);
 letI p1:=q1≤q1∧q1 < q6;
 letI z5:=(3:Int);
 letI p2:=q1≤z5∧z5 < q6;
 letI p3:=q1≤p∧p < q8;
 letI p5:=q1≤q9∧q9 < q6;
 letI p6:=q1≤p0∧p0 < q6;
 letI p7:=q1≤q6∧q6 < q8;
 letI p9:=q1≤z5∧z5 < q8;
 letI z0:T Value:=.need q2 q3;
 letI z1:=[q9,q1,q1,q1,p,q1,q1];
 letI z2:=q1≤q1∧q1 < q8;
 letI z3:=q1≤q9∧q9 < q8;
 letI z4:=q1≤p0∧p0 < q8;
 .ite (!decide (k=(46:Int))) (.leaf (Value.tuple (Array.mk [q,Value.int i64 7]))) (.ite (decide (s=ByteArray.mk (Array.mk []))) q3 (.need (q1≤q1∧q1 < q7) (.need (knownB z=true) (.need (i64.wrap (byteAt s q1)=q8∧z1=z1) (.need z2 (.need z2 (.need (q1≤q9∧q9≤q7∧q9≤q9∧q9≤q8∧s.size≤1000000) (.ite (decide (p0≤q7)) (.need p1 (.need z3 (.need z4 (.need p9 (.need p3 (.need p3 (.need (q1≤p0∧p0≤q7∧q9≤p∧p≤q8∧s.size≤1000000) (.ite (decide (p4≤q7)) (.need q4 (.need p1 (.need p5 (.need p6 (.need p2 (.need q4 (.need p7 (.need q2 (.ite (decide (i64.wrap (q7 - p4) ≥ q1)) (.need q2 q0) q0))))))))) (.need q4 (.need p1 (.need p5 (.need p6 (.need p2 (.need q4 (.need p7 (.need q2 (.ite (decide (i64.wrap (q7 - p0) ≥ q1)) (.need q2 z0) z0))))))))))))))))) (.need p1 (.need z3 (.need z4 (.need p9 (.need p3 (.need p3 (.need (q9≤p∧p≤q8) (.need q4 (.need p1 (.need p5 (.need p6 (.need p2 (.need q4 (.need p7 (.need q2 (.ite (decide (i64.wrap (q7 - q9) ≥ q1)) (.need q2 z0) z0)))))))))))))))))))))))):=by kernel_rfl
set_option maxRecDepth 100000 in
theorem rgm8_run (k:Int) (s:ByteArray):runV Tryz.prog (CR11 Tryz.prog true 8 [1,0,0,0,4,0,0]) (LR11 Tryz.prog true 8 [1,0,0,0,4,0,0] Tryz.f68) Tryz.f68 [.agg #[.int .i64 k,.string s]] =
 letI q5:=Value.int i64 0;
 letI p8:=Value.string (ByteArray.mk (Array.mk []));
 letI q:=Value.agg (Array.mk [q5,q5,q5,q5,q5,q5,p8]);
 letI q1:=(0:Int);
 letI p4:=(6:Int);
 letI q9:=(7:Int);
 letI q2:=q1≤p4∧p4 < q9;
 letI q7:=(↑s.size:Int);
 letI z:=i64.wrap (byteAt s q1);
 letI q0:T Value:=.need q2 (.need (q1≤p4∧p4≤q7∧s.size≤1000000) (.ite (decide (p4 < q7)) (.leaf (Value.tuple (Array.mk [q,Value.int i64 2]))) (.leaf (Value.tuple (Array.mk [Value.agg (Array.mk [Value.int i64 z,Value.int i64 (valU (s.extract 1 2)),q5,Value.int i64 (valU (s.extract 2 6)),q5,q5,p8]),q5])))));
 letI q3:T Value:=.leaf (Value.tuple (Array.mk [q,Value.int i64 1]));
 letI p:=(4:Int);
 letI q6:=(5:Int);
 letI q4:=q1≤p∧p < q6;
 letI q8:=(1:Int);
 letI p0:=(2:Int);
 letI p1:=q1≤q1∧q1 < q6;
 letI z5:=(3:Int);
 letI p2:=q1≤z5∧z5 < q6;
 letI p3:=q1≤p∧p < q9;
 letI p5:=q1≤q8∧q8 < q6;
 letI p6:=q1≤p0∧p0 < q6;
 letI p7:=q1≤q6∧q6 < q9;
 letI p9:=q1≤z5∧z5 < q9;
 letI z0:T Value:=.need q2 q3;
 letI z1:=[q8,q1,q1,q1,p,q1,q1];
 letI z2:=q1≤q1∧q1 < q9;
 letI z3:=q1≤q8∧q8 < q9;
 letI z4:=q1≤p0∧p0 < q9;
 .ite (!decide (k=(46:Int))) (.leaf (Value.tuple (Array.mk [q,Value.int i64 7]))) (.ite (decide (s=ByteArray.mk (Array.mk []))) q3 (.need (q1≤q1∧q1 < q7) (.need (knownB z=true) (.need (i64.wrap (byteAt s q1)=(8:Int)∧z1=z1) (.need z2 (.need z2 (.need (q1≤q8∧q8≤q7∧q8≤q8∧q8≤q9∧s.size≤1000000) (.ite (decide (p0≤q7)) (.need p1 (.need z3 (.need z4 (.need p9 (.need p3 (.need p3 (.need (q1≤p0∧p0≤q7∧q8≤p∧p≤q9∧s.size≤1000000) (.ite (decide (p4≤q7)) (.need q4 (.need p1 (.need p5 (.need p6 (.need p2 (.need q4 (.need p7 (.need q2 (.ite (decide (i64.wrap (q7 - p4) ≥ q1)) (.need q2 q0) q0))))))))) (.need q4 (.need p1 (.need p5 (.need p6 (.need p2 (.need q4 (.need p7 (.need q2 (.ite (decide (i64.wrap (q7 - p0) ≥ q1)) (.need q2 z0) z0))))))))))))))))) (.need p1 (.need z3 (.need z4 (.need p9 (.need p3 (.need p3 (.need (q8≤p∧p≤q9) (.need q4 (.need p1 (.need p5 (.need p6 (.need p2 (.need q4 (.need p7 (.need q2 (.ite (decide (i64.wrap (q7 - q8) ≥ q1)) (.need q2 z0) z0)))))))))))))))))))))))):=by kernel_rfl
set_option maxRecDepth 100000 in
theorem rgm9_run (k:Int) (s:ByteArray):runV Tryz.prog (CR11 Tryz.prog true 9 [1,1,0,0,4,0,0]) (LR11 Tryz.prog true 9 [1,1,0,0,4,0,0] Tryz.f68) Tryz.f68 [.agg #[.int .i64 k,.string s]] =
 letI p:=Value.int i64 0;
 letI z1:=Value.string (ByteArray.mk (Array.mk []));
 letI q:=Value.agg (Array.mk [p,p,p,p,p,p,z1]);
 letI q0:=(0:Int);
 letI q6:=(7:Int);
 letI q1:=q0≤(6:Int)∧(6:Int) < q6;
 letI q8:=(↑s.size:Int);
 letI z2:=i64.wrap (byteAt s q0);
 letI q2:T Value:=.need q1 (.need (q0≤q6∧q6≤q8∧s.size≤1000000) (.ite (decide (q6 < q8)) (.leaf (Value.tuple (Array.mk [q,Value.int i64 2]))) (.leaf (Value.tuple (Array.mk [Value.agg (Array.mk [Value.int i64 z2,Value.int i64 (valU (s.extract 1 2)),Value.int i64 (valU (s.extract 2 3)),Value.int i64 (valU (s.extract 3 7)),p,p,z1]),p])))));
 letI q3:T Value:=.leaf (Value.tuple (Array.mk [q,Value.int i64 1]));
 letI p4:=(4:Int);
 letI q7:=(5:Int);
 letI q4:=q0≤p4∧p4 < q7;
 letI q5:=(1:Int);
 letI q9:=q0≤p4∧p4 < q6;
 letI p0:=q0≤q5∧q5 < q7;
 letI p1:=(2:Int);
 letI p2:=(3:Int);
 letI p3:=q0≤q0∧q0 < q7;
 letI p5:=q0≤q5∧q5 < q6;
 letI p6:=q0≤p1∧p1 < q7;
 letI p7:=q0≤p2∧p2 < q7;
 letI p8:=q0≤q7∧q7 < q6;
 letI p9:T Value:=.need q1 q3;
 letI z:=q0≤p1∧p1 < q6;
 letI z0:=q0≤p2∧p2 < q6;
 letI z3:=[q5,q5,q0,q0,p4,q0,q0];
 letI z4:=q5≤p4∧p4≤q6;
 letI z5:=q0≤q0∧q0 < q6;
 .ite (!decide (k=(46:Int))) (.leaf (Value.tuple (Array.mk [q,Value.int i64 7]))) (.ite (decide (s=ByteArray.mk (Array.mk []))) q3 (.need (q0≤q0∧q0 < q8) (.need (knownB z2=true) (.need (i64.wrap (byteAt s q0)=(9:Int)∧z3=z3) (.need z5 (.need z5 (.need (q0≤q5∧q5≤q8∧q5≤q5∧q5≤q6∧s.size≤1000000) (.ite (decide (p1≤q8)) (.need p3 (.need p5 (.need p5 (.need (q0≤p1∧p1≤q8∧q5≤q5∧q5≤q6∧s.size≤1000000) (.ite (decide (p2≤q8)) (.need p0 (.need z (.need z0 (.need q9 (.need q9 (.need (q0≤p2∧p2≤q8∧q5≤p4∧p4≤q6∧s.size≤1000000) (.ite (decide (q6≤q8)) (.need q4 (.need p3 (.need p0 (.need p6 (.need p7 (.need q4 (.need p8 (.need q1 (.ite (decide (i64.wrap (q8 - q6) ≥ q0)) (.need q1 q2) q2))))))))) (.need q4 (.need p3 (.need p0 (.need p6 (.need p7 (.need q4 (.need p8 (.need q1 (.ite (decide (i64.wrap (q8 - p2) ≥ q0)) (.need q1 p9) p9)))))))))))))))) (.need p0 (.need z (.need z0 (.need q9 (.need q9 (.need z4 (.need q4 (.need p3 (.need p0 (.need p6 (.need p7 (.need q4 (.need p8 (.need q1 (.ite (decide (i64.wrap (q8 - p1) ≥ q0)) (.need q1 p9) p9)))))))))))))))))))) (.need p3 (.need p5 (.need p5 (.need (q5≤q5∧q5≤q6) (.need p0 (.need z (.need z0 (.need q9 (.need q9 (.need z4 (.need q4 (.need p3 (.need p0 (.need p6 (.need p7 (.need q4 (.need p8 (.need q1 (.ite (decide (i64.wrap (q8 - q5) ≥ q0)) (.need q1 p9) p9))))))))))))))))))))))))))):=by kernel_rfl
set_option maxRecDepth 100000 in
theorem rgm10_run (k:Int) (s:ByteArray):runV Tryz.prog (CR11 Tryz.prog true 10 [0,0,0,0,4,0,0]) (LR11 Tryz.prog true 10 [0,0,0,0,4,0,0] Tryz.f68) Tryz.f68 [.agg #[.int .i64 k,.string s]] =
 letI q3:=Value.int i64 0;
 letI p0:=Value.string (ByteArray.mk (Array.mk []));
 letI q:=Value.agg (Array.mk [q3,q3,q3,q3,q3,q3,p0]);
 letI q1:=(0:Int);
 letI q8:=(7:Int);
 letI q2:=q1≤(6:Int)∧(6:Int) < q8;
 letI q4:=(5:Int);
 letI q7:=(↑s.size:Int);
 letI p3:=i64.wrap (byteAt s q1);
 letI q0:T Value:=.need q2 (.need (q1≤q4∧q4≤q7∧s.size≤1000000) (.ite (decide (q4 < q7)) (.leaf (Value.tuple (Array.mk [q,Value.int i64 2]))) (.leaf (Value.tuple (Array.mk [Value.agg (Array.mk [Value.int i64 p3,q3,q3,Value.int i64 (valU (s.extract 1 5)),q3,q3,p0]),q3])))));
 letI q5:T Value:=.leaf (Value.tuple (Array.mk [q,Value.int i64 1]));
 letI q6:=(4:Int);
 letI q9:=(1:Int);
 letI p:=q1≤q6∧q6 < q4;
 letI p1:=(2:Int);
 letI p2:=(3:Int);
 letI p4:=[q1,q1,q1,q1,q6,q1,q1];
 letI p5:=q1≤q6∧q6 < q8;
 letI p6:=q1≤q1∧q1 < q4;
 letI p7:=q1≤q9∧q9 < q4;
 letI p8:=q1≤p1∧p1 < q4;
 letI p9:=q1≤p2∧p2 < q4;
 letI z:=q1≤q4∧q4 < q8;
 .ite (!decide (k=(46:Int))) (.leaf (Value.tuple (Array.mk [q,Value.int i64 7]))) (.ite (decide (s=ByteArray.mk (Array.mk []))) q5 (.need (q1≤q1∧q1 < q7) (.need (knownB p3=true) (.need (i64.wrap (byteAt s q1)=(10:Int)∧p4=p4) (.need (q1≤q1∧q1 < q8) (.need (q1≤q9∧q9 < q8) (.need (q1≤p1∧p1 < q8) (.need (q1≤p2∧p2 < q8) (.need p5 (.need p5 (.need (q1≤q9∧q9≤q7∧q9≤q6∧q6≤q8∧s.size≤1000000) (.ite (decide (q4≤q7)) (.need p (.need p6 (.need p7 (.need p8 (.need p9 (.need p (.need z (.need q2 (.ite (decide (i64.wrap (q7 - q4) ≥ q1)) (.need q2 q0) q0))))))))) (.need p (.need p6 (.need p7 (.need p8 (.need p9 (.need p (.need z (.need q2 (.ite (decide (i64.wrap (q7 - q9) ≥ q1)) (.need q2 (.need q2 q5)) (.need q2 q5)))))))))))))))))))))):=by kernel_rfl
set_option maxRecDepth 100000 in
theorem rgm11_run (k:Int) (s:ByteArray):runV Tryz.prog (CR11 Tryz.prog true 11 [0,0,0,0,1,0,0]) (LR11 Tryz.prog true 11 [0,0,0,0,1,0,0] Tryz.f68) Tryz.f68 [.agg #[.int .i64 k,.string s]] =
 letI q3:=Value.int i64 0;
 letI p0:=Value.string (ByteArray.mk (Array.mk []));
 letI q:=Value.agg (Array.mk [q3,q3,q3,q3,q3,q3,p0]);
 letI q1:=(0:Int);
 letI p:=(7:Int);
 letI q2:=q1≤(6:Int)∧(6:Int) < p;
 letI q9:=(2:Int);
 letI q7:=(↑s.size:Int);
 letI p3:=i64.wrap (byteAt s q1);
 letI q0:T Value:=.need q2 (.need (q1≤q9∧q9≤q7∧s.size≤1000000) (.ite (decide (q9 < q7)) (.leaf (Value.tuple (Array.mk [q,Value.int i64 2]))) (.leaf (Value.tuple (Array.mk [Value.agg (Array.mk [Value.int i64 p3,q3,q3,Value.int i64 (valU (s.extract 1 2)),q3,q3,p0]),q3])))));
 letI p2:=(4:Int);
 letI q8:=(5:Int);
 letI q4:=q1≤p2∧p2 < q8;
 letI q5:T Value:=.leaf (Value.tuple (Array.mk [q,Value.int i64 1]));
 letI q6:=(1:Int);
 letI p1:=(3:Int);
 letI p4:=[q1,q1,q1,q1,q6,q1,q1];
 letI p5:=q1≤q1∧q1 < q8;
 letI p6:=q1≤q6∧q6 < q8;
 letI p7:=q1≤q9∧q9 < q8;
 letI p8:=q1≤p1∧p1 < q8;
 letI p9:=q1≤p2∧p2 < p;
 letI z:=q1≤q8∧q8 < p;
 .ite (!decide (k=(46:Int))) (.leaf (Value.tuple (Array.mk [q,Value.int i64 7]))) (.ite (decide (s=ByteArray.mk (Array.mk []))) q5 (.need (q1≤q1∧q1 < q7) (.need (knownB p3=true) (.need (i64.wrap (byteAt s q1)=(11:Int)∧p4=p4) (.need (q1≤q1∧q1 < p) (.need (q1≤q6∧q6 < p) (.need (q1≤q9∧q9 < p) (.need (q1≤p1∧p1 < p) (.need p9 (.need p9 (.need (q1≤q6∧q6≤q7∧q6≤q6∧q6≤p∧s.size≤1000000) (.ite (decide (q9≤q7)) (.need q4 (.need p5 (.need p6 (.need p7 (.need p8 (.need q4 (.need z (.need q2 (.ite (decide (i64.wrap (q7 - q9) ≥ q1)) (.need q2 q0) q0))))))))) (.need q4 (.need p5 (.need p6 (.need p7 (.need p8 (.need q4 (.need z (.need q2 (.ite (decide (i64.wrap (q7 - q6) ≥ q1)) (.need q2 (.need q2 q5)) (.need q2 q5)))))))))))))))))))))):=by kernel_rfl
theorem kindM_byte (s:ByteArray) (h:1≤s.size):i64.wrap (byteAt s 0)=kindM s:=by
  have hl:s.data.toList.length=s.size:=by simp
  have e:(s.extract 0 1).data.toList=[s.data.toList.getD 0 0]:=by
    have:(s.extract 0 1).data.toList=s.data.toList.take 1:=by simp
    rw [this]
    cases hs:s.data.toList with
    | nil=>rw [hs] at hl;simp at hl;omega
    | cons x l=>simp
  unfold kindM valU byteAt
  rw [e]
  have hx:=(s.data.toList.getD 0 0).toNat_lt
  show i64.wrap (((s.data.toList.getD 0 0).toNat:Nat):Int)=((Oct.val [s.data.toList.getD 0 0] % 18446744073709551616:Nat):Int)
  have:Oct.val [s.data.toList.getD 0 0]=(s.data.toList.getD 0 0).toNat:=by simp [Oct.val]
  rw [this,w64 _ (by omega) (by omega)]
  omega
set_option maxRecDepth 100000 in
theorem rgetN_any (k:Int) (s:ByteArray) (hn:k ≠ 46 ∨ s.size=0 ∨ knownB (kindM s)=false) (hl:knownB (kindM s)=false→lenM (kindM s) s.size=0) (w:World):Calls Tryz.prog 68 #[.agg #[.int .i64 k,.string s]] w fun e w'=>e = .returned (gotM k s)∧Below w.heap.size w w':=by
  refine calls_runV (CR11_ok false 0 []) follows Tryz.func68 (by kernel_rfl) (by kernel_rfl) (one_loop (b:=loopAt Tryz.f68 0) (id:=0) (by kernel_rfl) fun st t h=>by rw [addL_same h];exact unroll_ok (CR11_ok false 0 []) follows (by kernel_rfl) (noloops (by kernel_rfl)) 7 st) (rgmN_run k s) ?_ w
  by_cases hk:k=46
  · subst hk
    by_cases h0:s.size=0
    · have hz:s=ByteArray.mk (Array.mk []):=by
        apply ByteArray.ext;exact Array.eq_empty_of_size_eq_zero (by simpa using h0)
      have he:errM 46 s=1:=by unfold errM;rw [if_neg (by decide),if_pos h0]
      rw [gotM_bad he (by decide)]
      subst hz
      exact ⟨fun h=>absurd h (by decide),fun _=>⟨fun _=>rfl,fun h=>absurd h (by decide)⟩⟩
    · have hne:¬ s=ByteArray.mk (Array.mk []):=fun h=>h0 (by rw [h];rfl)
      have hkb:knownB (kindM s)=false:=by
        rcases hn with h | h | h
        · exact absurd rfl h
        · exact absurd h h0
        · exact h
      have he:errM 46 s=7:=by unfold errM;rw [if_neg (by decide),if_neg h0,if_pos (hl hkb)]
      rw [gotM_bad he (by decide)]
      exact ⟨fun h=>absurd h (by decide),fun _=>⟨fun h=>absurd (of_decide_eq_true h) hne,fun _=>⟨by omega,by rw [kindM_byte s (by omega)];exact hkb,rfl⟩⟩⟩
  · have he:errM k s=7:=by unfold errM;rw [if_pos hk]
    rw [gotM_bad he (by decide)]
    exact ⟨fun _=>rfl,fun h=>absurd h (by simp [hk])⟩
theorem known_len (t:Int) (z:Nat) (h:knownB t=false):lenM t z=0:=by
  unfold knownB at h
  have h:=of_decide_eq_false h
  unfold lenM
  rw [if_neg (by omega),if_neg (by omega),if_neg (by omega),if_neg (by omega),if_neg (by omega),if_neg (by omega),if_neg (by omega),if_neg (by omega),if_neg (by omega),if_neg (by omega),if_neg (by omega)]
set_option maxRecDepth 100000 in
set_option maxHeartbeats 4000000 in
theorem rget0_any (s:ByteArray) (hs:s.size≤1000000) (h0:s.size ≠ 0) (ht:kindM s=0) (w:World):Calls Tryz.prog 68 #[.agg #[.int .i64 46,.string s]] w fun e w'=>e = .returned (gotM 46 s)∧Below w.heap.size w w':=by
  refine calls_runV (CR11_ok true 0 [0,0,0,0,4,32,32]) follows Tryz.func68 (by kernel_rfl) (by kernel_rfl) (one_loop (b:=loopAt Tryz.f68 0) (id:=0) (by kernel_rfl) fun st t h=>by rw [addL_same h];exact unroll_ok (CR11_ok true 0 [0,0,0,0,4,32,32]) follows (by kernel_rfl) (noloops (by kernel_rfl)) 7 st) (rgm0_run 46 s) ?_ w
  have hne:¬ s=ByteArray.mk (Array.mk []):=fun h=>h0 (by rw [h];rfl)
  have hK:i64.wrap (byteAt s 0)=0:=by rw [kindM_byte s (by omega),ht]
  have hkb:knownB 0=true:=by decide
  have he0:valU (s.extract 0 1)=0:=ht
  have hw:∀ c:Int,0≤c→c≤100→i64.wrap ((s.size:Int) - c)=(s.size:Int) - c:=fun c q1 q2=>w64 _ (by omega) (by omega)
  have hL:=errM_at h0 (n:=37) (by rw [ht];rfl) (by decide)
  refine ⟨fun h=>absurd h (by decide),fun _=>⟨fun h=>absurd (of_decide_eq_true h) hne,fun _=>?_⟩⟩
  simp only [hw 1 (by decide) (by decide),hw 2 (by decide) (by decide),hw 3 (by decide) (by decide),hw 5 (by decide) (by decide),hw 6 (by decide) (by decide),hw 7 (by decide) (by decide),hw 10 (by decide) (by decide)]
  rcases Nat.lt_trichotomy s.size 37 with hz | hz | hz
  · rw [if_pos hz] at hL;rw [gotM_bad hL (by decide)]
    clear hL hne ht hw
    simp only [T.ok,he0,hK,hkb,Int.reduceEq,Int.reduceLE,Int.reduceLT,Nat.reduceLT,Nat.reduceLeDiff,Nat.lt_irrefl,decide_true,decide_false,Bool.true_eq_false,Bool.false_eq_true,Bool.not_true,Bool.not_false,reduceCtorEq,false_implies,true_implies,implies_true,and_true,true_and,and_self,decide_eq_true_eq,decide_eq_false_iff_not]
    ((repeat' (first | refine And.intro ?_ ?_ | intro _)) <;> first | omega | rfl | (exfalso;omega))
  · rw [if_neg (by omega),if_neg (by omega)] at hL;rw [gotM_good hL,ht]
    clear hL hne ht hw
    simp only [T.ok,he0,hK,hkb,Int.reduceEq,Int.reduceLE,Int.reduceLT,Nat.reduceLT,Nat.reduceLeDiff,Nat.lt_irrefl,decide_true,decide_false,Bool.true_eq_false,Bool.false_eq_true,Bool.not_true,Bool.not_false,reduceCtorEq,false_implies,true_implies,implies_true,and_true,true_and,and_self,decide_eq_true_eq,decide_eq_false_iff_not]
    ((repeat' (first | refine And.intro ?_ ?_ | intro _)) <;> first | omega | rfl | (exfalso;omega))
  · rw [if_neg (by omega),if_pos hz] at hL;rw [gotM_bad hL (by decide)]
    clear hL hne ht hw
    simp only [T.ok,he0,hK,hkb,Int.reduceEq,Int.reduceLE,Int.reduceLT,Nat.reduceLT,Nat.reduceLeDiff,Nat.lt_irrefl,decide_true,decide_false,Bool.true_eq_false,Bool.false_eq_true,Bool.not_true,Bool.not_false,reduceCtorEq,false_implies,true_implies,implies_true,and_true,true_and,and_self,decide_eq_true_eq,decide_eq_false_iff_not]
    ((repeat' (first | refine And.intro ?_ ?_ | intro _)) <;> first | omega | rfl | (exfalso;omega))
set_option maxRecDepth 100000 in
set_option maxHeartbeats 4000000 in
theorem rget1_any (s:ByteArray) (hs:s.size≤1000000) (h0:s.size ≠ 0) (ht:kindM s=1) (w:World):Calls Tryz.prog 68 #[.agg #[.int .i64 46,.string s]] w fun e w'=>e = .returned (gotM 46 s)∧Below w.heap.size w w':=by
  refine calls_runV (CR11_ok true 1 [1,0,4,4,0,0,0]) follows Tryz.func68 (by kernel_rfl) (by kernel_rfl) (one_loop (b:=loopAt Tryz.f68 0) (id:=0) (by kernel_rfl) fun st t h=>by rw [addL_same h];exact unroll_ok (CR11_ok true 1 [1,0,4,4,0,0,0]) follows (by kernel_rfl) (noloops (by kernel_rfl)) 7 st) (rgm1_run 46 s) ?_ w
  have hne:¬ s=ByteArray.mk (Array.mk []):=fun h=>h0 (by rw [h];rfl)
  have hK:i64.wrap (byteAt s 0)=1:=by rw [kindM_byte s (by omega),ht]
  have hkb:knownB 1=true:=by decide
  have he0:valU (s.extract 0 1)=1:=ht
  have hw:∀ c:Int,0≤c→c≤100→i64.wrap ((s.size:Int) - c)=(s.size:Int) - c:=fun c q1 q2=>w64 _ (by omega) (by omega)
  have hL:=errM_at h0 (n:=10) (by rw [ht];rfl) (by decide)
  refine ⟨fun h=>absurd h (by decide),fun _=>⟨fun h=>absurd (of_decide_eq_true h) hne,fun _=>?_⟩⟩
  simp only [hw 1 (by decide) (by decide),hw 2 (by decide) (by decide),hw 3 (by decide) (by decide),hw 5 (by decide) (by decide),hw 6 (by decide) (by decide),hw 7 (by decide) (by decide),hw 10 (by decide) (by decide)]
  rcases Nat.lt_trichotomy s.size 10 with hz | hz | hz
  · rw [if_pos hz] at hL;rw [gotM_bad hL (by decide)]
    clear hL hne ht hw
    simp only [T.ok,he0,hK,hkb,Int.reduceEq,Int.reduceLE,Int.reduceLT,Nat.reduceLT,Nat.reduceLeDiff,Nat.lt_irrefl,decide_true,decide_false,Bool.true_eq_false,Bool.false_eq_true,Bool.not_true,Bool.not_false,reduceCtorEq,false_implies,true_implies,implies_true,and_true,true_and,and_self,decide_eq_true_eq,decide_eq_false_iff_not]
    ((repeat' (first | refine And.intro ?_ ?_ | intro _)) <;> first | omega | rfl | (exfalso;omega))
  · rw [if_neg (by omega),if_neg (by omega)] at hL;rw [gotM_good hL,ht]
    clear hL hne ht hw
    simp only [T.ok,he0,hK,hkb,Int.reduceEq,Int.reduceLE,Int.reduceLT,Nat.reduceLT,Nat.reduceLeDiff,Nat.lt_irrefl,decide_true,decide_false,Bool.true_eq_false,Bool.false_eq_true,Bool.not_true,Bool.not_false,reduceCtorEq,false_implies,true_implies,implies_true,and_true,true_and,and_self,decide_eq_true_eq,decide_eq_false_iff_not]
    ((repeat' (first | refine And.intro ?_ ?_ | intro _)) <;> first | omega | rfl | (exfalso;omega))
  · rw [if_neg (by omega),if_pos hz] at hL;rw [gotM_bad hL (by decide)]
    clear hL hne ht hw
    simp only [T.ok,he0,hK,hkb,Int.reduceEq,Int.reduceLE,Int.reduceLT,Nat.reduceLT,Nat.reduceLeDiff,Nat.lt_irrefl,decide_true,decide_false,Bool.true_eq_false,Bool.false_eq_true,Bool.not_true,Bool.not_false,reduceCtorEq,false_implies,true_implies,implies_true,and_true,true_and,and_self,decide_eq_true_eq,decide_eq_false_iff_not]
    ((repeat' (first | refine And.intro ?_ ?_ | intro _)) <;> first | omega | rfl | (exfalso;omega))
set_option maxRecDepth 100000 in
set_option maxHeartbeats 4000000 in
theorem rget3_any (s:ByteArray) (hs:s.size≤1000000) (h0:s.size ≠ 0) (ht:kindM s=3) (w:World):Calls Tryz.prog 68 #[.agg #[.int .i64 46,.string s]] w fun e w'=>e = .returned (gotM 46 s)∧Below w.heap.size w w':=by
  refine calls_runV (CR11_ok true 3 [0,0,0,0,0,8,16]) follows Tryz.func68 (by kernel_rfl) (by kernel_rfl) (one_loop (b:=loopAt Tryz.f68 0) (id:=0) (by kernel_rfl) fun st t h=>by rw [addL_same h];exact unroll_ok (CR11_ok true 3 [0,0,0,0,0,8,16]) follows (by kernel_rfl) (noloops (by kernel_rfl)) 7 st) (rgm3_run 46 s) ?_ w
  have hne:¬ s=ByteArray.mk (Array.mk []):=fun h=>h0 (by rw [h];rfl)
  have hK:i64.wrap (byteAt s 0)=3:=by rw [kindM_byte s (by omega),ht]
  have hkb:knownB 3=true:=by decide
  have he0:valU (s.extract 0 1)=3:=ht
  have hw:∀ c:Int,0≤c→c≤100→i64.wrap ((s.size:Int) - c)=(s.size:Int) - c:=fun c q1 q2=>w64 _ (by omega) (by omega)
  have hL:=errM_at h0 (n:=if 17≤s.size then 17 else 9) (by rw [ht];rfl) (by split <;> decide)
  refine ⟨fun h=>absurd h (by decide),fun _=>⟨fun h=>absurd (of_decide_eq_true h) hne,fun _=>?_⟩⟩
  simp only [hw 1 (by decide) (by decide),hw 2 (by decide) (by decide),hw 3 (by decide) (by decide),hw 5 (by decide) (by decide),hw 6 (by decide) (by decide),hw 7 (by decide) (by decide),hw 10 (by decide) (by decide)]
  have h5:s.size < 9 ∨ s.size=9 ∨ (9 < s.size∧s.size < 17) ∨ s.size=17 ∨ 17 < s.size:=by omega
  rcases h5 with hz | hz | hz | hz | hz
  · rw [if_neg (by omega:¬ 17≤s.size),if_pos (by omega)] at hL;rw [gotM_bad hL (by decide)]
    clear hL hne ht hw
    simp only [T.ok,he0,hK,hkb,Int.reduceEq,Int.reduceLE,Int.reduceLT,Nat.reduceLT,Nat.reduceLeDiff,Nat.lt_irrefl,decide_true,decide_false,Bool.true_eq_false,Bool.false_eq_true,Bool.not_true,Bool.not_false,reduceCtorEq,false_implies,true_implies,implies_true,and_true,true_and,and_self,decide_eq_true_eq,decide_eq_false_iff_not]
    ((repeat' (first | refine And.intro ?_ ?_ | intro _)) <;> first | omega | rfl | (exfalso;omega))
  · rw [if_neg (by omega:¬ 17≤s.size),if_neg (by omega),if_neg (by omega)] at hL;rw [gotM_good hL,ht,show sayM 3 s=⟨3,0,0,0,0,0,s.extract 1 9⟩ by unfold sayM;simp only [Int.reduceEq,if_true,if_false];rw [if_neg (by omega)]]
    clear hL hne ht hw
    simp only [T.ok,he0,hK,hkb,Int.reduceEq,Int.reduceLE,Int.reduceLT,Nat.reduceLT,Nat.reduceLeDiff,Nat.lt_irrefl,decide_true,decide_false,Bool.true_eq_false,Bool.false_eq_true,Bool.not_true,Bool.not_false,reduceCtorEq,false_implies,true_implies,implies_true,and_true,true_and,and_self,decide_eq_true_eq,decide_eq_false_iff_not]
    ((repeat' (first | refine And.intro ?_ ?_ | intro _)) <;> first | omega | rfl | (exfalso;omega))
  · rw [if_neg (by omega:¬ 17≤s.size),if_neg (by omega),if_pos (by omega)] at hL;rw [gotM_bad hL (by decide)]
    clear hL hne ht hw
    simp only [T.ok,he0,hK,hkb,Int.reduceEq,Int.reduceLE,Int.reduceLT,Nat.reduceLT,Nat.reduceLeDiff,Nat.lt_irrefl,decide_true,decide_false,Bool.true_eq_false,Bool.false_eq_true,Bool.not_true,Bool.not_false,reduceCtorEq,false_implies,true_implies,implies_true,and_true,true_and,and_self,decide_eq_true_eq,decide_eq_false_iff_not]
    ((repeat' (first | refine And.intro ?_ ?_ | intro _)) <;> first | omega | rfl | (exfalso;omega))
  · rw [if_pos (by omega:17≤s.size),if_neg (by omega),if_neg (by omega)] at hL;rw [gotM_good hL,ht,show sayM 3 s=⟨3,0,0,0,0,0,s.extract 1 17⟩ by unfold sayM;simp only [Int.reduceEq,if_true,if_false];rw [if_pos (by omega)]]
    clear hL hne ht hw
    simp only [T.ok,he0,hK,hkb,Int.reduceEq,Int.reduceLE,Int.reduceLT,Nat.reduceLT,Nat.reduceLeDiff,Nat.lt_irrefl,decide_true,decide_false,Bool.true_eq_false,Bool.false_eq_true,Bool.not_true,Bool.not_false,reduceCtorEq,false_implies,true_implies,implies_true,and_true,true_and,and_self,decide_eq_true_eq,decide_eq_false_iff_not]
    ((repeat' (first | refine And.intro ?_ ?_ | intro _)) <;> first | omega | rfl | (exfalso;omega))
  · rw [if_pos (by omega:17≤s.size),if_neg (by omega),if_pos (by omega)] at hL;rw [gotM_bad hL (by decide)]
    clear hL hne ht hw
    simp only [T.ok,he0,hK,hkb,Int.reduceEq,Int.reduceLE,Int.reduceLT,Nat.reduceLT,Nat.reduceLeDiff,Nat.lt_irrefl,decide_true,decide_false,Bool.true_eq_false,Bool.false_eq_true,Bool.not_true,Bool.not_false,reduceCtorEq,false_implies,true_implies,implies_true,and_true,true_and,and_self,decide_eq_true_eq,decide_eq_false_iff_not]
    ((repeat' (first | refine And.intro ?_ ?_ | intro _)) <;> first | omega | rfl | (exfalso;omega))
set_option maxRecDepth 100000 in
set_option maxHeartbeats 4000000 in
theorem rget4_any (s:ByteArray) (hs:s.size≤1000000) (h0:s.size ≠ 0) (ht:kindM s=4) (w:World):Calls Tryz.prog 68 #[.agg #[.int .i64 46,.string s]] w fun e w'=>e = .returned (gotM 46 s)∧Below w.heap.size w w':=by
  refine calls_runV (CR11_ok true 4 [0,0,0,0,6,0,0]) follows Tryz.func68 (by kernel_rfl) (by kernel_rfl) (one_loop (b:=loopAt Tryz.f68 0) (id:=0) (by kernel_rfl) fun st t h=>by rw [addL_same h];exact unroll_ok (CR11_ok true 4 [0,0,0,0,6,0,0]) follows (by kernel_rfl) (noloops (by kernel_rfl)) 7 st) (rgm4_run 46 s) ?_ w
  have hne:¬ s=ByteArray.mk (Array.mk []):=fun h=>h0 (by rw [h];rfl)
  have hK:i64.wrap (byteAt s 0)=4:=by rw [kindM_byte s (by omega),ht]
  have hkb:knownB 4=true:=by decide
  have he0:valU (s.extract 0 1)=4:=ht
  have hw:∀ c:Int,0≤c→c≤100→i64.wrap ((s.size:Int) - c)=(s.size:Int) - c:=fun c q1 q2=>w64 _ (by omega) (by omega)
  have hL:=errM_at h0 (n:=7) (by rw [ht];rfl) (by decide)
  refine ⟨fun h=>absurd h (by decide),fun _=>⟨fun h=>absurd (of_decide_eq_true h) hne,fun _=>?_⟩⟩
  simp only [hw 1 (by decide) (by decide),hw 2 (by decide) (by decide),hw 3 (by decide) (by decide),hw 5 (by decide) (by decide),hw 6 (by decide) (by decide),hw 7 (by decide) (by decide),hw 10 (by decide) (by decide)]
  rcases Nat.lt_trichotomy s.size 7 with hz | hz | hz
  · rw [if_pos hz] at hL;rw [gotM_bad hL (by decide)]
    clear hL hne ht hw
    simp only [T.ok,he0,hK,hkb,Int.reduceEq,Int.reduceLE,Int.reduceLT,Nat.reduceLT,Nat.reduceLeDiff,Nat.lt_irrefl,decide_true,decide_false,Bool.true_eq_false,Bool.false_eq_true,Bool.not_true,Bool.not_false,reduceCtorEq,false_implies,true_implies,implies_true,and_true,true_and,and_self,decide_eq_true_eq,decide_eq_false_iff_not]
    ((repeat' (first | refine And.intro ?_ ?_ | intro _)) <;> first | omega | rfl | (exfalso;omega))
  · rw [if_neg (by omega),if_neg (by omega)] at hL;rw [gotM_good hL,ht]
    clear hL hne ht hw
    simp only [T.ok,he0,hK,hkb,Int.reduceEq,Int.reduceLE,Int.reduceLT,Nat.reduceLT,Nat.reduceLeDiff,Nat.lt_irrefl,decide_true,decide_false,Bool.true_eq_false,Bool.false_eq_true,Bool.not_true,Bool.not_false,reduceCtorEq,false_implies,true_implies,implies_true,and_true,true_and,and_self,decide_eq_true_eq,decide_eq_false_iff_not]
    ((repeat' (first | refine And.intro ?_ ?_ | intro _)) <;> first | omega | rfl | (exfalso;omega))
  · rw [if_neg (by omega),if_pos hz] at hL;rw [gotM_bad hL (by decide)]
    clear hL hne ht hw
    simp only [T.ok,he0,hK,hkb,Int.reduceEq,Int.reduceLE,Int.reduceLT,Nat.reduceLT,Nat.reduceLeDiff,Nat.lt_irrefl,decide_true,decide_false,Bool.true_eq_false,Bool.false_eq_true,Bool.not_true,Bool.not_false,reduceCtorEq,false_implies,true_implies,implies_true,and_true,true_and,and_self,decide_eq_true_eq,decide_eq_false_iff_not]
    ((repeat' (first | refine And.intro ?_ ?_ | intro _)) <;> first | omega | rfl | (exfalso;omega))
set_option maxRecDepth 100000 in
set_option maxHeartbeats 4000000 in
theorem rget5_any (s:ByteArray) (hs:s.size≤1000000) (h0:s.size ≠ 0) (ht:kindM s=5) (w:World):Calls Tryz.prog 68 #[.agg #[.int .i64 46,.string s]] w fun e w'=>e = .returned (gotM 46 s)∧Below w.heap.size w w':=by
  refine calls_runV (CR11_ok true 5 [0,0,0,0,0,32,32]) follows Tryz.func68 (by kernel_rfl) (by kernel_rfl) (one_loop (b:=loopAt Tryz.f68 0) (id:=0) (by kernel_rfl) fun st t h=>by rw [addL_same h];exact unroll_ok (CR11_ok true 5 [0,0,0,0,0,32,32]) follows (by kernel_rfl) (noloops (by kernel_rfl)) 7 st) (rgm5_run 46 s) ?_ w
  have hne:¬ s=ByteArray.mk (Array.mk []):=fun h=>h0 (by rw [h];rfl)
  have hK:i64.wrap (byteAt s 0)=5:=by rw [kindM_byte s (by omega),ht]
  have hkb:knownB 5=true:=by decide
  have he0:valU (s.extract 0 1)=5:=ht
  have hw:∀ c:Int,0≤c→c≤100→i64.wrap ((s.size:Int) - c)=(s.size:Int) - c:=fun c q1 q2=>w64 _ (by omega) (by omega)
  have hL:=errM_at h0 (n:=33) (by rw [ht];rfl) (by decide)
  refine ⟨fun h=>absurd h (by decide),fun _=>⟨fun h=>absurd (of_decide_eq_true h) hne,fun _=>?_⟩⟩
  simp only [hw 1 (by decide) (by decide),hw 2 (by decide) (by decide),hw 3 (by decide) (by decide),hw 5 (by decide) (by decide),hw 6 (by decide) (by decide),hw 7 (by decide) (by decide),hw 10 (by decide) (by decide)]
  rcases Nat.lt_trichotomy s.size 33 with hz | hz | hz
  · rw [if_pos hz] at hL;rw [gotM_bad hL (by decide)]
    clear hL hne ht hw
    simp only [T.ok,he0,hK,hkb,Int.reduceEq,Int.reduceLE,Int.reduceLT,Nat.reduceLT,Nat.reduceLeDiff,Nat.lt_irrefl,decide_true,decide_false,Bool.true_eq_false,Bool.false_eq_true,Bool.not_true,Bool.not_false,reduceCtorEq,false_implies,true_implies,implies_true,and_true,true_and,and_self,decide_eq_true_eq,decide_eq_false_iff_not]
    ((repeat' (first | refine And.intro ?_ ?_ | intro _)) <;> first | omega | rfl | (exfalso;omega))
  · rw [if_neg (by omega),if_neg (by omega)] at hL;rw [gotM_good hL,ht]
    clear hL hne ht hw
    simp only [T.ok,he0,hK,hkb,Int.reduceEq,Int.reduceLE,Int.reduceLT,Nat.reduceLT,Nat.reduceLeDiff,Nat.lt_irrefl,decide_true,decide_false,Bool.true_eq_false,Bool.false_eq_true,Bool.not_true,Bool.not_false,reduceCtorEq,false_implies,true_implies,implies_true,and_true,true_and,and_self,decide_eq_true_eq,decide_eq_false_iff_not]
    ((repeat' (first | refine And.intro ?_ ?_ | intro _)) <;> first | omega | rfl | (exfalso;omega))
  · rw [if_neg (by omega),if_pos hz] at hL;rw [gotM_bad hL (by decide)]
    clear hL hne ht hw
    simp only [T.ok,he0,hK,hkb,Int.reduceEq,Int.reduceLE,Int.reduceLT,Nat.reduceLT,Nat.reduceLeDiff,Nat.lt_irrefl,decide_true,decide_false,Bool.true_eq_false,Bool.false_eq_true,Bool.not_true,Bool.not_false,reduceCtorEq,false_implies,true_implies,implies_true,and_true,true_and,and_self,decide_eq_true_eq,decide_eq_false_iff_not]
    ((repeat' (first | refine And.intro ?_ ?_ | intro _)) <;> first | omega | rfl | (exfalso;omega))
set_option maxRecDepth 100000 in
set_option maxHeartbeats 4000000 in
theorem rget6_any (s:ByteArray) (hs:s.size≤1000000) (h0:s.size ≠ 0) (ht:kindM s=6) (w:World):Calls Tryz.prog 68 #[.agg #[.int .i64 46,.string s]] w fun e w'=>e = .returned (gotM 46 s)∧Below w.heap.size w w':=by
  refine calls_runV (CR11_ok true 6 [0,0,0,0,2,0,0]) follows Tryz.func68 (by kernel_rfl) (by kernel_rfl) (one_loop (b:=loopAt Tryz.f68 0) (id:=0) (by kernel_rfl) fun st t h=>by rw [addL_same h];exact unroll_ok (CR11_ok true 6 [0,0,0,0,2,0,0]) follows (by kernel_rfl) (noloops (by kernel_rfl)) 7 st) (rgm6_run 46 s) ?_ w
  have hne:¬ s=ByteArray.mk (Array.mk []):=fun h=>h0 (by rw [h];rfl)
  have hK:i64.wrap (byteAt s 0)=6:=by rw [kindM_byte s (by omega),ht]
  have hkb:knownB 6=true:=by decide
  have he0:valU (s.extract 0 1)=6:=ht
  have hw:∀ c:Int,0≤c→c≤100→i64.wrap ((s.size:Int) - c)=(s.size:Int) - c:=fun c q1 q2=>w64 _ (by omega) (by omega)
  have hL:=errM_at h0 (n:=3) (by rw [ht];rfl) (by decide)
  refine ⟨fun h=>absurd h (by decide),fun _=>⟨fun h=>absurd (of_decide_eq_true h) hne,fun _=>?_⟩⟩
  simp only [hw 1 (by decide) (by decide),hw 2 (by decide) (by decide),hw 3 (by decide) (by decide),hw 5 (by decide) (by decide),hw 6 (by decide) (by decide),hw 7 (by decide) (by decide),hw 10 (by decide) (by decide)]
  rcases Nat.lt_trichotomy s.size 3 with hz | hz | hz
  · rw [if_pos hz] at hL;rw [gotM_bad hL (by decide)]
    clear hL hne ht hw
    simp only [T.ok,he0,hK,hkb,Int.reduceEq,Int.reduceLE,Int.reduceLT,Nat.reduceLT,Nat.reduceLeDiff,Nat.lt_irrefl,decide_true,decide_false,Bool.true_eq_false,Bool.false_eq_true,Bool.not_true,Bool.not_false,reduceCtorEq,false_implies,true_implies,implies_true,and_true,true_and,and_self,decide_eq_true_eq,decide_eq_false_iff_not]
    ((repeat' (first | refine And.intro ?_ ?_ | intro _)) <;> first | omega | rfl | (exfalso;omega))
  · rw [if_neg (by omega),if_neg (by omega)] at hL;rw [gotM_good hL,ht]
    clear hL hne ht hw
    simp only [T.ok,he0,hK,hkb,Int.reduceEq,Int.reduceLE,Int.reduceLT,Nat.reduceLT,Nat.reduceLeDiff,Nat.lt_irrefl,decide_true,decide_false,Bool.true_eq_false,Bool.false_eq_true,Bool.not_true,Bool.not_false,reduceCtorEq,false_implies,true_implies,implies_true,and_true,true_and,and_self,decide_eq_true_eq,decide_eq_false_iff_not]
    ((repeat' (first | refine And.intro ?_ ?_ | intro _)) <;> first | omega | rfl | (exfalso;omega))
  · rw [if_neg (by omega),if_pos hz] at hL;rw [gotM_bad hL (by decide)]
    clear hL hne ht hw
    simp only [T.ok,he0,hK,hkb,Int.reduceEq,Int.reduceLE,Int.reduceLT,Nat.reduceLT,Nat.reduceLeDiff,Nat.lt_irrefl,decide_true,decide_false,Bool.true_eq_false,Bool.false_eq_true,Bool.not_true,Bool.not_false,reduceCtorEq,false_implies,true_implies,implies_true,and_true,true_and,and_self,decide_eq_true_eq,decide_eq_false_iff_not]
    ((repeat' (first | refine And.intro ?_ ?_ | intro _)) <;> first | omega | rfl | (exfalso;omega))
set_option maxRecDepth 100000 in
set_option maxHeartbeats 4000000 in
theorem rget7_any (s:ByteArray) (hs:s.size≤1000000) (h0:s.size ≠ 0) (ht:kindM s=7) (w:World):Calls Tryz.prog 68 #[.agg #[.int .i64 46,.string s]] w fun e w'=>e = .returned (gotM 46 s)∧Below w.heap.size w w':=by
  refine calls_runV (CR11_ok true 7 [1,0,0,0,4,0,0]) follows Tryz.func68 (by kernel_rfl) (by kernel_rfl) (one_loop (b:=loopAt Tryz.f68 0) (id:=0) (by kernel_rfl) fun st t h=>by rw [addL_same h];exact unroll_ok (CR11_ok true 7 [1,0,0,0,4,0,0]) follows (by kernel_rfl) (noloops (by kernel_rfl)) 7 st) (rgm7_run 46 s) ?_ w
  have hne:¬ s=ByteArray.mk (Array.mk []):=fun h=>h0 (by rw [h];rfl)
  have hK:i64.wrap (byteAt s 0)=7:=by rw [kindM_byte s (by omega),ht]
  have hkb:knownB 7=true:=by decide
  have he0:valU (s.extract 0 1)=7:=ht
  have hw:∀ c:Int,0≤c→c≤100→i64.wrap ((s.size:Int) - c)=(s.size:Int) - c:=fun c q1 q2=>w64 _ (by omega) (by omega)
  have hL:=errM_at h0 (n:=6) (by rw [ht];rfl) (by decide)
  refine ⟨fun h=>absurd h (by decide),fun _=>⟨fun h=>absurd (of_decide_eq_true h) hne,fun _=>?_⟩⟩
  simp only [hw 1 (by decide) (by decide),hw 2 (by decide) (by decide),hw 3 (by decide) (by decide),hw 5 (by decide) (by decide),hw 6 (by decide) (by decide),hw 7 (by decide) (by decide),hw 10 (by decide) (by decide)]
  rcases Nat.lt_trichotomy s.size 6 with hz | hz | hz
  · rw [if_pos hz] at hL;rw [gotM_bad hL (by decide)]
    clear hL hne ht hw
    simp only [T.ok,he0,hK,hkb,Int.reduceEq,Int.reduceLE,Int.reduceLT,Nat.reduceLT,Nat.reduceLeDiff,Nat.lt_irrefl,decide_true,decide_false,Bool.true_eq_false,Bool.false_eq_true,Bool.not_true,Bool.not_false,reduceCtorEq,false_implies,true_implies,implies_true,and_true,true_and,and_self,decide_eq_true_eq,decide_eq_false_iff_not]
    ((repeat' (first | refine And.intro ?_ ?_ | intro _)) <;> first | omega | rfl | (exfalso;omega))
  · rw [if_neg (by omega),if_neg (by omega)] at hL;rw [gotM_good hL,ht]
    clear hL hne ht hw
    simp only [T.ok,he0,hK,hkb,Int.reduceEq,Int.reduceLE,Int.reduceLT,Nat.reduceLT,Nat.reduceLeDiff,Nat.lt_irrefl,decide_true,decide_false,Bool.true_eq_false,Bool.false_eq_true,Bool.not_true,Bool.not_false,reduceCtorEq,false_implies,true_implies,implies_true,and_true,true_and,and_self,decide_eq_true_eq,decide_eq_false_iff_not]
    ((repeat' (first | refine And.intro ?_ ?_ | intro _)) <;> first | omega | rfl | (exfalso;omega))
  · rw [if_neg (by omega),if_pos hz] at hL;rw [gotM_bad hL (by decide)]
    clear hL hne ht hw
    simp only [T.ok,he0,hK,hkb,Int.reduceEq,Int.reduceLE,Int.reduceLT,Nat.reduceLT,Nat.reduceLeDiff,Nat.lt_irrefl,decide_true,decide_false,Bool.true_eq_false,Bool.false_eq_true,Bool.not_true,Bool.not_false,reduceCtorEq,false_implies,true_implies,implies_true,and_true,true_and,and_self,decide_eq_true_eq,decide_eq_false_iff_not]
    ((repeat' (first | refine And.intro ?_ ?_ | intro _)) <;> first | omega | rfl | (exfalso;omega))
set_option maxRecDepth 100000 in
set_option maxHeartbeats 4000000 in
theorem rget8_any (s:ByteArray) (hs:s.size≤1000000) (h0:s.size ≠ 0) (ht:kindM s=8) (w:World):Calls Tryz.prog 68 #[.agg #[.int .i64 46,.string s]] w fun e w'=>e = .returned (gotM 46 s)∧Below w.heap.size w w':=by
  refine calls_runV (CR11_ok true 8 [1,0,0,0,4,0,0]) follows Tryz.func68 (by kernel_rfl) (by kernel_rfl) (one_loop (b:=loopAt Tryz.f68 0) (id:=0) (by kernel_rfl) fun st t h=>by rw [addL_same h];exact unroll_ok (CR11_ok true 8 [1,0,0,0,4,0,0]) follows (by kernel_rfl) (noloops (by kernel_rfl)) 7 st) (rgm8_run 46 s) ?_ w
  have hne:¬ s=ByteArray.mk (Array.mk []):=fun h=>h0 (by rw [h];rfl)
  have hK:i64.wrap (byteAt s 0)=8:=by rw [kindM_byte s (by omega),ht]
  have hkb:knownB 8=true:=by decide
  have he0:valU (s.extract 0 1)=8:=ht
  have hw:∀ c:Int,0≤c→c≤100→i64.wrap ((s.size:Int) - c)=(s.size:Int) - c:=fun c q1 q2=>w64 _ (by omega) (by omega)
  have hL:=errM_at h0 (n:=6) (by rw [ht];rfl) (by decide)
  refine ⟨fun h=>absurd h (by decide),fun _=>⟨fun h=>absurd (of_decide_eq_true h) hne,fun _=>?_⟩⟩
  simp only [hw 1 (by decide) (by decide),hw 2 (by decide) (by decide),hw 3 (by decide) (by decide),hw 5 (by decide) (by decide),hw 6 (by decide) (by decide),hw 7 (by decide) (by decide),hw 10 (by decide) (by decide)]
  rcases Nat.lt_trichotomy s.size 6 with hz | hz | hz
  · rw [if_pos hz] at hL;rw [gotM_bad hL (by decide)]
    clear hL hne ht hw
    simp only [T.ok,he0,hK,hkb,Int.reduceEq,Int.reduceLE,Int.reduceLT,Nat.reduceLT,Nat.reduceLeDiff,Nat.lt_irrefl,decide_true,decide_false,Bool.true_eq_false,Bool.false_eq_true,Bool.not_true,Bool.not_false,reduceCtorEq,false_implies,true_implies,implies_true,and_true,true_and,and_self,decide_eq_true_eq,decide_eq_false_iff_not]
    ((repeat' (first | refine And.intro ?_ ?_ | intro _)) <;> first | omega | rfl | (exfalso;omega))
  · rw [if_neg (by omega),if_neg (by omega)] at hL;rw [gotM_good hL,ht]
    clear hL hne ht hw
    simp only [T.ok,he0,hK,hkb,Int.reduceEq,Int.reduceLE,Int.reduceLT,Nat.reduceLT,Nat.reduceLeDiff,Nat.lt_irrefl,decide_true,decide_false,Bool.true_eq_false,Bool.false_eq_true,Bool.not_true,Bool.not_false,reduceCtorEq,false_implies,true_implies,implies_true,and_true,true_and,and_self,decide_eq_true_eq,decide_eq_false_iff_not]
    ((repeat' (first | refine And.intro ?_ ?_ | intro _)) <;> first | omega | rfl | (exfalso;omega))
  · rw [if_neg (by omega),if_pos hz] at hL;rw [gotM_bad hL (by decide)]
    clear hL hne ht hw
    simp only [T.ok,he0,hK,hkb,Int.reduceEq,Int.reduceLE,Int.reduceLT,Nat.reduceLT,Nat.reduceLeDiff,Nat.lt_irrefl,decide_true,decide_false,Bool.true_eq_false,Bool.false_eq_true,Bool.not_true,Bool.not_false,reduceCtorEq,false_implies,true_implies,implies_true,and_true,true_and,and_self,decide_eq_true_eq,decide_eq_false_iff_not]
    ((repeat' (first | refine And.intro ?_ ?_ | intro _)) <;> first | omega | rfl | (exfalso;omega))
set_option maxRecDepth 100000 in
set_option maxHeartbeats 4000000 in
theorem rget9_any (s:ByteArray) (hs:s.size≤1000000) (h0:s.size ≠ 0) (ht:kindM s=9) (w:World):Calls Tryz.prog 68 #[.agg #[.int .i64 46,.string s]] w fun e w'=>e = .returned (gotM 46 s)∧Below w.heap.size w w':=by
  refine calls_runV (CR11_ok true 9 [1,1,0,0,4,0,0]) follows Tryz.func68 (by kernel_rfl) (by kernel_rfl) (one_loop (b:=loopAt Tryz.f68 0) (id:=0) (by kernel_rfl) fun st t h=>by rw [addL_same h];exact unroll_ok (CR11_ok true 9 [1,1,0,0,4,0,0]) follows (by kernel_rfl) (noloops (by kernel_rfl)) 7 st) (rgm9_run 46 s) ?_ w
  have hne:¬ s=ByteArray.mk (Array.mk []):=fun h=>h0 (by rw [h];rfl)
  have hK:i64.wrap (byteAt s 0)=9:=by rw [kindM_byte s (by omega),ht]
  have hkb:knownB 9=true:=by decide
  have he0:valU (s.extract 0 1)=9:=ht
  have hw:∀ c:Int,0≤c→c≤100→i64.wrap ((s.size:Int) - c)=(s.size:Int) - c:=fun c q1 q2=>w64 _ (by omega) (by omega)
  have hL:=errM_at h0 (n:=7) (by rw [ht];rfl) (by decide)
  refine ⟨fun h=>absurd h (by decide),fun _=>⟨fun h=>absurd (of_decide_eq_true h) hne,fun _=>?_⟩⟩
  simp only [hw 1 (by decide) (by decide),hw 2 (by decide) (by decide),hw 3 (by decide) (by decide),hw 5 (by decide) (by decide),hw 6 (by decide) (by decide),hw 7 (by decide) (by decide),hw 10 (by decide) (by decide)]
  rcases Nat.lt_trichotomy s.size 7 with hz | hz | hz
  · rw [if_pos hz] at hL;rw [gotM_bad hL (by decide)]
    clear hL hne ht hw
    simp only [T.ok,he0,hK,hkb,Int.reduceEq,Int.reduceLE,Int.reduceLT,Nat.reduceLT,Nat.reduceLeDiff,Nat.lt_irrefl,decide_true,decide_false,Bool.true_eq_false,Bool.false_eq_true,Bool.not_true,Bool.not_false,reduceCtorEq,false_implies,true_implies,implies_true,and_true,true_and,and_self,decide_eq_true_eq,decide_eq_false_iff_not]
    ((repeat' (first | refine And.intro ?_ ?_ | intro _)) <;> first | omega | rfl | (exfalso;omega))
  · rw [if_neg (by omega),if_neg (by omega)] at hL;rw [gotM_good hL,ht]
    clear hL hne ht hw
    simp only [T.ok,he0,hK,hkb,Int.reduceEq,Int.reduceLE,Int.reduceLT,Nat.reduceLT,Nat.reduceLeDiff,Nat.lt_irrefl,decide_true,decide_false,Bool.true_eq_false,Bool.false_eq_true,Bool.not_true,Bool.not_false,reduceCtorEq,false_implies,true_implies,implies_true,and_true,true_and,and_self,decide_eq_true_eq,decide_eq_false_iff_not]
    ((repeat' (first | refine And.intro ?_ ?_ | intro _)) <;> first | omega | rfl | (exfalso;omega))
  · rw [if_neg (by omega),if_pos hz] at hL;rw [gotM_bad hL (by decide)]
    clear hL hne ht hw
    simp only [T.ok,he0,hK,hkb,Int.reduceEq,Int.reduceLE,Int.reduceLT,Nat.reduceLT,Nat.reduceLeDiff,Nat.lt_irrefl,decide_true,decide_false,Bool.true_eq_false,Bool.false_eq_true,Bool.not_true,Bool.not_false,reduceCtorEq,false_implies,true_implies,implies_true,and_true,true_and,and_self,decide_eq_true_eq,decide_eq_false_iff_not]
    ((repeat' (first | refine And.intro ?_ ?_ | intro _)) <;> first | omega | rfl | (exfalso;omega))
set_option maxRecDepth 100000 in
set_option maxHeartbeats 4000000 in
theorem rget10_any (s:ByteArray) (hs:s.size≤1000000) (h0:s.size ≠ 0) (ht:kindM s=10) (w:World):Calls Tryz.prog 68 #[.agg #[.int .i64 46,.string s]] w fun e w'=>e = .returned (gotM 46 s)∧Below w.heap.size w w':=by
  refine calls_runV (CR11_ok true 10 [0,0,0,0,4,0,0]) follows Tryz.func68 (by kernel_rfl) (by kernel_rfl) (one_loop (b:=loopAt Tryz.f68 0) (id:=0) (by kernel_rfl) fun st t h=>by rw [addL_same h];exact unroll_ok (CR11_ok true 10 [0,0,0,0,4,0,0]) follows (by kernel_rfl) (noloops (by kernel_rfl)) 7 st) (rgm10_run 46 s) ?_ w
  have hne:¬ s=ByteArray.mk (Array.mk []):=fun h=>h0 (by rw [h];rfl)
  have hK:i64.wrap (byteAt s 0)=10:=by rw [kindM_byte s (by omega),ht]
  have hkb:knownB 10=true:=by decide
  have he0:valU (s.extract 0 1)=10:=ht
  have hw:∀ c:Int,0≤c→c≤100→i64.wrap ((s.size:Int) - c)=(s.size:Int) - c:=fun c q1 q2=>w64 _ (by omega) (by omega)
  have hL:=errM_at h0 (n:=5) (by rw [ht];rfl) (by decide)
  refine ⟨fun h=>absurd h (by decide),fun _=>⟨fun h=>absurd (of_decide_eq_true h) hne,fun _=>?_⟩⟩
  simp only [hw 1 (by decide) (by decide),hw 2 (by decide) (by decide),hw 3 (by decide) (by decide),hw 5 (by decide) (by decide),hw 6 (by decide) (by decide),hw 7 (by decide) (by decide),hw 10 (by decide) (by decide)]
  rcases Nat.lt_trichotomy s.size 5 with hz | hz | hz
  · rw [if_pos hz] at hL;rw [gotM_bad hL (by decide)]
    clear hL hne ht hw
    simp only [T.ok,he0,hK,hkb,Int.reduceEq,Int.reduceLE,Int.reduceLT,Nat.reduceLT,Nat.reduceLeDiff,Nat.lt_irrefl,decide_true,decide_false,Bool.true_eq_false,Bool.false_eq_true,Bool.not_true,Bool.not_false,reduceCtorEq,false_implies,true_implies,implies_true,and_true,true_and,and_self,decide_eq_true_eq,decide_eq_false_iff_not]
    ((repeat' (first | refine And.intro ?_ ?_ | intro _)) <;> first | omega | rfl | (exfalso;omega))
  · rw [if_neg (by omega),if_neg (by omega)] at hL;rw [gotM_good hL,ht]
    clear hL hne ht hw
    simp only [T.ok,he0,hK,hkb,Int.reduceEq,Int.reduceLE,Int.reduceLT,Nat.reduceLT,Nat.reduceLeDiff,Nat.lt_irrefl,decide_true,decide_false,Bool.true_eq_false,Bool.false_eq_true,Bool.not_true,Bool.not_false,reduceCtorEq,false_implies,true_implies,implies_true,and_true,true_and,and_self,decide_eq_true_eq,decide_eq_false_iff_not]
    ((repeat' (first | refine And.intro ?_ ?_ | intro _)) <;> first | omega | rfl | (exfalso;omega))
  · rw [if_neg (by omega),if_pos hz] at hL;rw [gotM_bad hL (by decide)]
    clear hL hne ht hw
    simp only [T.ok,he0,hK,hkb,Int.reduceEq,Int.reduceLE,Int.reduceLT,Nat.reduceLT,Nat.reduceLeDiff,Nat.lt_irrefl,decide_true,decide_false,Bool.true_eq_false,Bool.false_eq_true,Bool.not_true,Bool.not_false,reduceCtorEq,false_implies,true_implies,implies_true,and_true,true_and,and_self,decide_eq_true_eq,decide_eq_false_iff_not]
    ((repeat' (first | refine And.intro ?_ ?_ | intro _)) <;> first | omega | rfl | (exfalso;omega))
set_option maxRecDepth 100000 in
set_option maxHeartbeats 4000000 in
theorem rget11_any (s:ByteArray) (hs:s.size≤1000000) (h0:s.size ≠ 0) (ht:kindM s=11) (w:World):Calls Tryz.prog 68 #[.agg #[.int .i64 46,.string s]] w fun e w'=>e = .returned (gotM 46 s)∧Below w.heap.size w w':=by
  refine calls_runV (CR11_ok true 11 [0,0,0,0,1,0,0]) follows Tryz.func68 (by kernel_rfl) (by kernel_rfl) (one_loop (b:=loopAt Tryz.f68 0) (id:=0) (by kernel_rfl) fun st t h=>by rw [addL_same h];exact unroll_ok (CR11_ok true 11 [0,0,0,0,1,0,0]) follows (by kernel_rfl) (noloops (by kernel_rfl)) 7 st) (rgm11_run 46 s) ?_ w
  have hne:¬ s=ByteArray.mk (Array.mk []):=fun h=>h0 (by rw [h];rfl)
  have hK:i64.wrap (byteAt s 0)=11:=by rw [kindM_byte s (by omega),ht]
  have hkb:knownB 11=true:=by decide
  have he0:valU (s.extract 0 1)=11:=ht
  have hw:∀ c:Int,0≤c→c≤100→i64.wrap ((s.size:Int) - c)=(s.size:Int) - c:=fun c q1 q2=>w64 _ (by omega) (by omega)
  have hL:=errM_at h0 (n:=2) (by rw [ht];rfl) (by decide)
  refine ⟨fun h=>absurd h (by decide),fun _=>⟨fun h=>absurd (of_decide_eq_true h) hne,fun _=>?_⟩⟩
  simp only [hw 1 (by decide) (by decide),hw 2 (by decide) (by decide),hw 3 (by decide) (by decide),hw 5 (by decide) (by decide),hw 6 (by decide) (by decide),hw 7 (by decide) (by decide),hw 10 (by decide) (by decide)]
  rcases Nat.lt_trichotomy s.size 2 with hz | hz | hz
  · rw [if_pos hz] at hL;rw [gotM_bad hL (by decide)]
    clear hL hne ht hw
    simp only [T.ok,he0,hK,hkb,Int.reduceEq,Int.reduceLE,Int.reduceLT,Nat.reduceLT,Nat.reduceLeDiff,Nat.lt_irrefl,decide_true,decide_false,Bool.true_eq_false,Bool.false_eq_true,Bool.not_true,Bool.not_false,reduceCtorEq,false_implies,true_implies,implies_true,and_true,true_and,and_self,decide_eq_true_eq,decide_eq_false_iff_not]
    ((repeat' (first | refine And.intro ?_ ?_ | intro _)) <;> first | omega | rfl | (exfalso;omega))
  · rw [if_neg (by omega),if_neg (by omega)] at hL;rw [gotM_good hL,ht]
    clear hL hne ht hw
    simp only [T.ok,he0,hK,hkb,Int.reduceEq,Int.reduceLE,Int.reduceLT,Nat.reduceLT,Nat.reduceLeDiff,Nat.lt_irrefl,decide_true,decide_false,Bool.true_eq_false,Bool.false_eq_true,Bool.not_true,Bool.not_false,reduceCtorEq,false_implies,true_implies,implies_true,and_true,true_and,and_self,decide_eq_true_eq,decide_eq_false_iff_not]
    ((repeat' (first | refine And.intro ?_ ?_ | intro _)) <;> first | omega | rfl | (exfalso;omega))
  · rw [if_neg (by omega),if_pos hz] at hL;rw [gotM_bad hL (by decide)]
    clear hL hne ht hw
    simp only [T.ok,he0,hK,hkb,Int.reduceEq,Int.reduceLE,Int.reduceLT,Nat.reduceLT,Nat.reduceLeDiff,Nat.lt_irrefl,decide_true,decide_false,Bool.true_eq_false,Bool.false_eq_true,Bool.not_true,Bool.not_false,reduceCtorEq,false_implies,true_implies,implies_true,and_true,true_and,and_self,decide_eq_true_eq,decide_eq_false_iff_not]
    ((repeat' (first | refine And.intro ?_ ?_ | intro _)) <;> first | omega | rfl | (exfalso;omega))
theorem known_cases {t:Int} (h:knownB t=true):t=0 ∨ t=1 ∨ t=3 ∨ t=4 ∨ t=5 ∨ t=6 ∨ t=7 ∨ t=8 ∨ t=9 ∨ t=10 ∨ t=11:=by
  unfold knownB at h
  have h:=of_decide_eq_true h
  omega
theorem rget_any (k:Int) (s:ByteArray) (hs:s.size≤1000000) (w:World):Calls Tryz.prog 68 #[.agg #[.int .i64 k,.string s]] w fun e w'=>e = .returned (gotM k s)∧Below w.heap.size w w':=by
  by_cases hk:k=46
  · by_cases h0:s.size=0
    · exact rgetN_any k s (.inr (.inl h0)) (fun h=>known_len _ _ h) w
    · cases hb:knownB (kindM s) with
      | false=>exact rgetN_any k s (.inr (.inr hb)) (fun h=>known_len _ _ h) w
      | true =>
        subst hk
        rcases known_cases hb with h | h | h | h | h | h | h | h | h | h | h
        · exact rget0_any s hs h0 h w
        · exact rget1_any s hs h0 h w
        · exact rget3_any s hs h0 h w
        · exact rget4_any s hs h0 h w
        · exact rget5_any s hs h0 h w
        · exact rget6_any s hs h0 h w
        · exact rget7_any s hs h0 h w
        · exact rget8_any s hs h0 h w
        · exact rget9_any s hs h0 h w
        · exact rget10_any s hs h0 h w
        · exact rget11_any s hs h0 h w
  · exact rgetN_any k s (.inl hk) (fun h=>known_len _ _ h) w
end Go.Proofs.YthacfgaacleaeaaGreatDoor
namespace Go.Proofs.YthacfgaacleaeaaGreatDoor
open Go.IntKind (i64 u32)
open Go.RowKit Sym
theorem allM_pre (g:Nat→Op) {i n:Nat} (h:i≤n):∃ r,allM g n=allM g i++r:=by
  induction n with
  | zero => obtain rfl:i=0:=by omega
            exact ⟨[],by simp⟩
  | succ n ih =>
    by_cases he:i=n+1
    · subst he;exact ⟨[],by simp⟩
    · obtain ⟨r,hr⟩:=ih (by omega)
      refine ⟨r++(if okM (g n)=true then [muO (g n)] else []),?_⟩
      show allM g n++_=_
      rw [hr,List.append_assoc]
theorem fst_hit {g:Nat→Op} {i n:Nat} {a b:Int} {m:Mp} (hi:i < n) (hno:(allM g i).find? (inK a b)=none) (hnx:allM g (i+1)=allM g i++[m]) (hm:inK a b m=true):fstM g n a b=some m:=by
  obtain ⟨r,hr⟩:=allM_pre g (show i+1≤n by omega)
  unfold fstM
  rw [hr,hnx,List.append_assoc,List.find?_append,hno]
  simp [hm]
theorem fst_miss {g:Nat→Op} {i:Nat} {a b:Int} {m:Mp} (hno:(allM g i).find? (inK a b)=none) (hnx:allM g (i+1)=allM g i++[m]) (hm:inK a b m=false):(allM g (i+1)).find? (inK a b)=none:=by
  rw [hnx,List.find?_append,hno]
  simp [hm]
def zero7:Array Value:=#[.int .i64 0,.int .i64 0,.int .i64 0,.int .i64 0,.int .i64 0,.int .i64 0,.string ⟨#[]⟩]
theorem rget_flat {o:Op} {m:Mp} {E:Int} (hs:o.val.size≤1000000) (hm:muO o=m) (hE:errM o.kind o.val=E) (W:World):Calls Tryz.prog 68 #[.agg #[.int .i64 o.kind,.string o.val]] W fun e w'=>e = .returned (.tuple #[.agg #[.int .i64 m.kind,.int .i64 m.addr,.int .i64 m.prio,.int .i64 m.num,.int .i64 m.token,.int .i64 m.nonce,.string m.bytes],.int .i64 E])∧Below W.heap.size W w':=by
  have h:=rget_any o.kind o.val hs W
  unfold gotM at h
  rw [hE,show getM o.kind o.val=m from hm] at h
  exact h
set_option maxRecDepth 100000 in
set_option maxHeartbeats 4000000 in
theorem first_any {w:World} {v:Value} {n:Nat} {g:Nat→Op} (a b:Int) (hf:Few n g) (h:OptsAt w v n g) :
    Calls Tryz.prog 29 #[v,.int .i64 a,.int .i64 b] w fun e w'=>e = .returned (.tuple #[mulV ((fstM g n a b).getD Mp.none),.bool (fstM g n a b).isSome])∧Below w.heap.size w w':=by
  obtain ⟨p,cap,rfl,hcap,hmax,hcell⟩:=h
  generalize hR:fstM g n a b=R
  go_enter Tryz.func29,Tryz.ntmps29
  go_wp2
  go_loopw [8] (fun u8 wr=>∃ i:Nat,u8 = .int .i64 i∧i≤n∧Own wr w.heap.size zero7∧Below w.heap.size w wr∧(allM g i).find? (inK a b)=none)
    (fun u8 _=>n - natM u8)
  case atStart=>exact ⟨0,rfl,Nat.zero_le _,own_new _ _ _,by (repeat' (first | (with_reducible exact Below.refl _ _) | (with_reducible refine below_alloc ?_ _) | (with_reducible refine Below.drew ?_) | (with_reducible refine below_drewN ?_ _) | (with_reducible refine Below.setCell ?_ ?_ _) | (with_reducible assumption) | (with_reducible refine below_of ?_ (by assumption)) | omega | (simp only [World.size_alloc,World.size_setCell,World.size_drew,size_drewN] at *;omega) | (simp;omega))),rfl⟩
  case round =>
    obtain ⟨i,rfl,hile,hO,hbw0,hno⟩:=hrel
    have hsz:=hO.1
    unfold zero7 at hO
    by_cases hlt:i < n
    · obtain ⟨bb, o,rfl,c1,c2⟩:=hcell i hlt
      have d1:wr.cell? ⟨bb,o+i * 2,none⟩=some (.int .i64 (g i).kind):=(hbw0.cell (p:=⟨bb,o+i * 2,none⟩) (lt_of_cell c1)).trans c1
      have d2:wr.cell? ⟨bb,o+i * 2+1,none⟩=some (.string (g i).val):=(hbw0.cell (p:=⟨bb,o+i * 2+1,none⟩) (lt_of_cell c2)).trans c2
      obtain ⟨m,hm⟩:∃ m,muO (g i)=m:=⟨_,rfl⟩
      obtain ⟨E,hE⟩:∃ E,errM (g i).kind (g i).val=E:=⟨_,rfl⟩
      have hget:=fun W=>rget_flat (hf.2 i hlt) hm hE W
      have hyes:=@allM_yes g i
      have hnon:=@allM_no g i
      have hok:okM (g i)=decide (E=0):=by unfold okM;rw [hE]
      have hfn:=hf.1
      have hhit:=@fst_hit g i n a b m hlt hno
      have hmiss:=@fst_miss g i a b m hno
      rw [hm] at hyes
      have hltz:(i:Int) < (n:Int):=by omega
      clear hcell c1 c2 hm hE hf
      by_cases hE0:E=0
      · subst hE0
        have hnx:=hyes (by rw [hok];rfl)
        replace hhit:=hhit hnx
        replace hmiss:=hmiss hnx
        clear hyes hnon hok hnx hno
        generalize (g i).kind=gk at *
        generalize (g i).val=gv at *
        cases hin:inK a b m with
        | true =>
          have hfs:=hhit hin
          obtain ⟨k1,k2⟩:=inK_iff.1 hin
          obtain rfl:R=some m:=hR.symm.trans hfs
          clear hhit hmiss hfs hR hin
          have e1:decide (m.kind ≥ a)=true:=decide_eq_true k1
          have e2:decide (m.kind≤b)=true:=decide_eq_true k2
          go_upto_region 5 with (first
            | (go_at_call 68;(with_reducible refine (hget _).mono ?_);rintro e w1 ⟨rfl,hb⟩;have hbw:Below w.heap.size w w1:=below_of hbw0 hb;have hz:=hb.size;(try simp only [World.size_alloc,World.size_setCell,World.size_drew,size_drewN] at hz);apply own_step (B:=w.heap.size) hb;(focus (repeat (first | (with_reducible assumption) | (with_reducible exact own_new _ _ _) | ((with_reducible apply own_new');focus (first | omega | (simp;done) | (simp;omega))) | (with_reducible apply own_drewN) | (with_reducible apply own_drew) | (with_reducible apply own_alloc) | (with_reducible apply own_setT) | ((with_reducible apply own_set_otherH);focus (first | (simp;done) | (simp;omega))))));intro hO0;have hk0:=hO0.2.1;have hl0:=hO0.1;have hf0:=hO0.2.2;(try simp only [List.setIfInBounds_toArray,List.set_cons_zero,List.set_cons_succ] at hO0 hk0)))
          have f0:=own_new w1 #[.int .i64 m.kind,.int .i64 m.addr,.int .i64 m.prio,.int .i64 m.num,.int .i64 m.token,.int .i64 m.nonce,.string m.bytes] 65
          have fO:=own_alloc hO0 (.cells #[.int .i64 m.kind,.int .i64 m.addr,.int .i64 m.prio,.int .i64 m.num,.int .i64 m.token,.int .i64 m.nonce,.string m.bytes] 65)
          have fB:=below_alloc hbw (.cells #[.int .i64 m.kind,.int .i64 m.addr,.int .i64 m.prio,.int .i64 m.num,.int .i64 m.token,.int .i64 m.nonce,.string m.bytes] 65)
          clear hO0 hk0 hf0 hbw hb hz hget d1 d2 hO hbw0 hsz
          generalize (w1.alloc _)=W at *
          generalize w1.heap.size=B1 at *
          obtain ⟨q1,q2,q3⟩:=f0
          obtain ⟨p1,p2,p3⟩:=fO
          go_wp2_with fail
          ((try simp only [Exit.inBlock,Exit.then]);refine bodyPost_ret (by simp [results,Tryz.results29,go_sem,p2];try rfl) rfl ?_)
          exact ⟨rfl,by (repeat' (first | (with_reducible exact Below.refl _ _) | (with_reducible refine below_alloc ?_ _) | (with_reducible refine Below.drew ?_) | (with_reducible refine below_drewN ?_ _) | (with_reducible refine Below.setCell ?_ ?_ _) | (with_reducible assumption) | (with_reducible refine below_of ?_ (by assumption)) | omega | (simp only [World.size_alloc,World.size_setCell,World.size_drew,size_drewN] at *;omega) | (simp;omega)))⟩
        | false =>
          have hfs:=hmiss hin
          have hin':¬ (a≤m.kind∧m.kind≤b):=fun q=>by rw [inK_iff.2 q] at hin;cases hin
          clear hhit hmiss hin hR
          by_cases k1:a≤m.kind
          · have k2:¬ m.kind≤b:=fun q=>hin' ⟨k1,q⟩
            have e1:decide (m.kind ≥ a)=true:=decide_eq_true k1
            have e2:decide (m.kind≤b)=false:=decide_eq_false k2
            clear hin'
            go_upto_region 5 with (first
              | (go_at_call 68;(with_reducible refine (hget _).mono ?_);rintro e w1 ⟨rfl,hb⟩;have hbw:Below w.heap.size w w1:=below_of hbw0 hb;have hz:=hb.size;(try simp only [World.size_alloc,World.size_setCell,World.size_drew,size_drewN] at hz);apply own_step (B:=w.heap.size) hb;(focus (repeat (first | (with_reducible assumption) | (with_reducible exact own_new _ _ _) | ((with_reducible apply own_new');focus (first | omega | (simp;done) | (simp;omega))) | (with_reducible apply own_drewN) | (with_reducible apply own_drew) | (with_reducible apply own_alloc) | (with_reducible apply own_setT) | ((with_reducible apply own_set_otherH);focus (first | (simp;done) | (simp;omega))))));intro hO0;have hk0:=hO0.2.1;have hl0:=hO0.1;have hf0:=hO0.2.2;(try simp only [List.setIfInBounds_toArray,List.set_cons_zero,List.set_cons_succ] at hO0 hk0)))
            have f0:=own_new w1 #[.int .i64 m.kind,.int .i64 m.addr,.int .i64 m.prio,.int .i64 m.num,.int .i64 m.token,.int .i64 m.nonce,.string m.bytes] 65
            have fO:=own_alloc hO0 (.cells #[.int .i64 m.kind,.int .i64 m.addr,.int .i64 m.prio,.int .i64 m.num,.int .i64 m.token,.int .i64 m.nonce,.string m.bytes] 65)
            have fB:=below_alloc hbw (.cells #[.int .i64 m.kind,.int .i64 m.addr,.int .i64 m.prio,.int .i64 m.num,.int .i64 m.token,.int .i64 m.nonce,.string m.bytes] 65)
            clear hO0 hk0 hf0 hbw hb hz hget d1 d2 hO hbw0 hsz
            generalize (w1.alloc _)=W at *
            generalize w1.heap.size=B1 at *
            obtain ⟨q1,q2,q3⟩:=f0
            obtain ⟨p1,p2,p3⟩:=fO
            go_wp2_with fail
            first
              | (go_roundw
                 case rel=>exact ⟨i+1,by first | rfl | rw [wrap_succM hlt hcap hmax],hlt,⟨p1,p2,p3⟩,fB,hfs⟩
                 case measure=>(try rw [wrap_succM hlt hcap hmax]);simp [natM];omega)
              | exact ⟨⟨i+1,rfl,hlt,⟨p1,p2,p3⟩,fB,hfs⟩,by simp [natM];omega⟩
          · have e1:decide (m.kind ≥ a)=false:=decide_eq_false k1
            clear hin'
            go_upto_region 5 with (first
              | (go_at_call 68;(with_reducible refine (hget _).mono ?_);rintro e w1 ⟨rfl,hb⟩;have hbw:Below w.heap.size w w1:=below_of hbw0 hb;have hz:=hb.size;(try simp only [World.size_alloc,World.size_setCell,World.size_drew,size_drewN] at hz);apply own_step (B:=w.heap.size) hb;(focus (repeat (first | (with_reducible assumption) | (with_reducible exact own_new _ _ _) | ((with_reducible apply own_new');focus (first | omega | (simp;done) | (simp;omega))) | (with_reducible apply own_drewN) | (with_reducible apply own_drew) | (with_reducible apply own_alloc) | (with_reducible apply own_setT) | ((with_reducible apply own_set_otherH);focus (first | (simp;done) | (simp;omega))))));intro hO0;have hk0:=hO0.2.1;have hl0:=hO0.1;have hf0:=hO0.2.2;(try simp only [List.setIfInBounds_toArray,List.set_cons_zero,List.set_cons_succ] at hO0 hk0)))
            have f0:=own_new w1 #[.int .i64 m.kind,.int .i64 m.addr,.int .i64 m.prio,.int .i64 m.num,.int .i64 m.token,.int .i64 m.nonce,.string m.bytes] 65
            have fO:=own_alloc hO0 (.cells #[.int .i64 m.kind,.int .i64 m.addr,.int .i64 m.prio,.int .i64 m.num,.int .i64 m.token,.int .i64 m.nonce,.string m.bytes] 65)
            have fB:=below_alloc hbw (.cells #[.int .i64 m.kind,.int .i64 m.addr,.int .i64 m.prio,.int .i64 m.num,.int .i64 m.token,.int .i64 m.nonce,.string m.bytes] 65)
            clear hO0 hk0 hf0 hbw hb hz hget d1 d2 hO hbw0 hsz
            generalize (w1.alloc _)=W at *
            generalize w1.heap.size=B1 at *
            obtain ⟨q1,q2,q3⟩:=f0
            obtain ⟨p1,p2,p3⟩:=fO
            go_wp2_with fail
            first
              | (go_roundw
                 case rel=>exact ⟨i+1,by first | rfl | rw [wrap_succM hlt hcap hmax],hlt,⟨p1,p2,p3⟩,fB,hfs⟩
                 case measure=>(try rw [wrap_succM hlt hcap hmax]);simp [natM];omega)
              | exact ⟨⟨i+1,rfl,hlt,⟨p1,p2,p3⟩,fB,hfs⟩,by simp [natM];omega⟩
      · have hnx := hnon (by rw [hok];exact decide_eq_false hE0)
        have hfs:(allM g (i+1)).find? (inK a b)=none:=by rw [hnx];exact hno
        have hEb:((E:Int) == 0)=false:=by rw [beq_eq_false_iff_ne];exact hE0
        clear hyes hnon hok hhit hmiss hno hnx hR
        generalize (g i).kind=gk at *
        generalize (g i).val=gv at *
        go_upto_region 5 with (first
          | (go_at_call 68;(with_reducible refine (hget _).mono ?_);rintro e w1 ⟨rfl,hb⟩;have hbw:Below w.heap.size w w1:=below_of hbw0 hb;have hz:=hb.size;(try simp only [World.size_alloc,World.size_setCell,World.size_drew,size_drewN] at hz);apply own_step (B:=w.heap.size) hb;(focus (repeat (first | (with_reducible assumption) | (with_reducible exact own_new _ _ _) | ((with_reducible apply own_new');focus (first | omega | (simp;done) | (simp;omega))) | (with_reducible apply own_drewN) | (with_reducible apply own_drew) | (with_reducible apply own_alloc) | (with_reducible apply own_setT) | ((with_reducible apply own_set_otherH);focus (first | (simp;done) | (simp;omega))))));intro hO0;have hk0:=hO0.2.1;have hl0:=hO0.1;have hf0:=hO0.2.2;(try simp only [List.setIfInBounds_toArray,List.set_cons_zero,List.set_cons_succ] at hO0 hk0)))
        have f0:=own_new w1 #[.int .i64 m.kind,.int .i64 m.addr,.int .i64 m.prio,.int .i64 m.num,.int .i64 m.token,.int .i64 m.nonce,.string m.bytes] 65
        have fO:=own_alloc hO0 (.cells #[.int .i64 m.kind,.int .i64 m.addr,.int .i64 m.prio,.int .i64 m.num,.int .i64 m.token,.int .i64 m.nonce,.string m.bytes] 65)
        have fB:=below_alloc hbw (.cells #[.int .i64 m.kind,.int .i64 m.addr,.int .i64 m.prio,.int .i64 m.num,.int .i64 m.token,.int .i64 m.nonce,.string m.bytes] 65)
        clear hO0 hk0 hf0 hbw hb hz hget d1 d2 hO hbw0 hsz
        generalize (w1.alloc _)=W at *
        generalize w1.heap.size=B1 at *
        obtain ⟨q1,q2,q3⟩:=f0
        obtain ⟨p1,p2,p3⟩:=fO
        go_wp2_with fail
        first
              | (go_roundw
                 case rel=>exact ⟨i+1,by first | rfl | rw [wrap_succM hlt hcap hmax],hlt,⟨p1,p2,p3⟩,fB,hfs⟩
                 case measure=>(try rw [wrap_succM hlt hcap hmax]);simp [natM];omega)
              | exact ⟨⟨i+1,rfl,hlt,⟨p1,p2,p3⟩,fB,hfs⟩,by simp [natM];omega⟩
    · obtain rfl:i=n:=by omega
      have hltz:¬ (i:Int) < (i:Int):=by omega
      obtain rfl:R=none:=by rw [← hR];exact hno
      obtain ⟨hl0,hk0,hf0⟩:=hO
      go_wp2
      ((try simp only [Exit.inBlock,Exit.then]);refine bodyPost_ret (by simp [results,Tryz.results29,go_sem,hk0];try rfl) rfl ?_)
      exact ⟨rfl,by (repeat' (first | (with_reducible exact Below.refl _ _) | (with_reducible refine below_alloc ?_ _) | (with_reducible refine Below.drew ?_) | (with_reducible refine below_drewN ?_ _) | (with_reducible refine Below.setCell ?_ ?_ _) | (with_reducible assumption) | (with_reducible refine below_of ?_ (by assumption)) | omega | (simp only [World.size_alloc,World.size_setCell,World.size_drew,size_drewN] at *;omega) | (simp;omega)))⟩
def zero4:Array Value:=#[.int .i64 0,.int .i64 0,.int .i64 0,.int .i64 0]
def ctlN (o:Option Mp):Int:=(o.getD Mp.none).num
def ctlK (o:Option Mp):Int:=match o with | some m=>m.kind - 6 | none=>0
def ctlA (o:Option Mp):Int:=(o.getD Mp.none).addr
def ctlP (o:Option Mp):Int:=(o.getD Mp.none).prio
theorem take_miss {L:List Mp} {i:Nat} {a b:Int} (hi:i < L.length) (hno:(L.take i).find? (inK a b)=none) (hm:inK a b L[i]=false):(L.take (i+1)).find? (inK a b)=none:=by
  rw [List.take_succ_eq_append_getElem hi,List.find?_append,hno]
  simp [hm]
theorem take_hit {L:List Mp} {i:Nat} {a b:Int} (hi:i < L.length) (hno:(L.take i).find? (inK a b)=none) (hm:inK a b L[i]=true):L.find? (inK a b)=some L[i]:=by
  have h1:L.take i++L[i] :: L.drop (i+1)=L:=by rw [← List.drop_eq_getElem_cons hi,List.take_append_drop]
  have h2:(L.take i++L[i] :: L.drop (i+1)).find? (inK a b)=some L[i]:=by
    rw [List.find?_append,hno,List.find?_cons,hm]
    rfl
  rw [h1] at h2
  exact h2
set_option maxRecDepth 100000 in
set_option maxHeartbeats 4000000 in
theorem control_any {w:World} {v:Value} {L:List Mp} (hL:L.length≤1000) (h:MusAt w v L) :
    Calls Tryz.prog 32 #[v] w fun e w'=>e = .returned (.tuple #[.agg #[.int .i64 (ctlN (L.find? (inK 7 10))),.int .i64 (ctlK (L.find? (inK 7 10))),.int .i64 (ctlA (L.find? (inK 7 10))),.int .i64 (ctlP (L.find? (inK 7 10)))],.bool (L.find? (inK 7 10)).isSome])∧Below w.heap.size w w':=by
  obtain ⟨p,cap,rfl,hcap,hcell⟩:=h.cells
  generalize hR:L.find? (inK 7 10)=R
  go_enter Tryz.func32,Tryz.ntmps32
  go_wp2
  go_loopw [9] (fun u9 wr=>∃ i:Nat,u9 = .int .i64 i∧i≤L.length∧Own wr w.heap.size zero4∧Below w.heap.size w wr∧(L.take i).find? (inK 7 10)=none)
    (fun u9 _=>L.length - natM u9)
  case atStart=>exact ⟨0,rfl,Nat.zero_le _,own_new _ _ _,by (repeat' (first | (with_reducible exact Below.refl _ _) | (with_reducible refine below_alloc ?_ _) | (with_reducible refine Below.drew ?_) | (with_reducible refine below_drewN ?_ _) | (with_reducible refine Below.setCell ?_ ?_ _) | (with_reducible assumption) | (with_reducible refine below_of ?_ (by assumption)) | omega | (simp only [World.size_alloc,World.size_setCell,World.size_drew,size_drewN] at *;omega) | (simp;omega))),rfl⟩
  case round =>
    obtain ⟨i,rfl,hile,hO,hbw0,hno⟩:=hrel
    have hsz:=hO.1
    unfold zero4 at hO
    by_cases hlt:i < L.length
    · obtain ⟨bb,o,rfl,hbl,hc7⟩:=hcell i hlt
      obtain ⟨c0,c1,c2,c3,c4,c5,c6⟩:=hc7.below hbl hbw0
      have hhit:=take_hit (a:=7) (b:=10) hlt hno
      have hmiss:=take_miss (a:=7) (b:=10) hlt hno
      have hltz:(i:Int) < (L.length:Int):=by omega
      generalize L[i]=m at *
      obtain ⟨mk,ma,mp,mn,mt,mc,mb⟩:=m
      dsimp only at c0 c1 c2 c3 c4 c5 c6
      clear hcell hc7 hno
      have hcase:mk=7 ∨ mk=8 ∨ mk=9 ∨ mk=10 ∨ ¬ (7≤mk∧mk≤10):=by omega
      have hO2:Own wr w.heap.size zero4:=hO
      have hE:∀ (o1 o2:Obj) (x0 x1 x2 x3:Value) (j:Nat),(((((((wr.setCell ⟨w.heap.size,0,none⟩ x0).setCell ⟨w.heap.size,1,none⟩ x1).setCell ⟨w.heap.size,2,none⟩ x2).setCell ⟨w.heap.size,3,none⟩ x3).alloc o1).alloc o2).cell? ⟨w.heap.size,j,none⟩)=#[x0,x1,x2,x3][j]?:=fun o1 o2 x0 x1 x2 x3 j =>
        (own_conv (cs':=#[x0,x1,x2,x3]) (own_alloc (own_alloc (own_setT (v:=x3) (own_setT (v:=x2) (own_setT (v:=x1) (own_setT (v:=x0) hO2)))) o1) o2) rfl).2.1 j
      obtain ⟨hl0,hk0,hf0⟩:=hO
      rcases hcase with rfl | rfl | rfl | rfl | hk
      · obtain rfl:=hR.symm.trans (hhit rfl)
        clear hhit hmiss hR
        go_wp2
        ((try simp only [Exit.inBlock,Exit.then]);refine bodyPost_ret (by simp [results,Tryz.results32,go_sem,hE];try rfl) rfl ?_)
        exact ⟨rfl,by (repeat' (first | (with_reducible exact Below.refl _ _) | (with_reducible refine below_alloc ?_ _) | (with_reducible refine Below.drew ?_) | (with_reducible refine below_drewN ?_ _) | (with_reducible refine Below.setCell ?_ ?_ _) | (with_reducible assumption) | (with_reducible refine below_of ?_ (by assumption)) | omega | (simp only [World.size_alloc,World.size_setCell,World.size_drew,size_drewN] at *;omega) | (simp;omega)))⟩
      · obtain rfl:=hR.symm.trans (hhit rfl)
        clear hhit hmiss hR
        go_wp2
        ((try simp only [Exit.inBlock,Exit.then]);refine bodyPost_ret (by simp [results,Tryz.results32,go_sem,hE];try rfl) rfl ?_)
        exact ⟨rfl,by (repeat' (first | (with_reducible exact Below.refl _ _) | (with_reducible refine below_alloc ?_ _) | (with_reducible refine Below.drew ?_) | (with_reducible refine below_drewN ?_ _) | (with_reducible refine Below.setCell ?_ ?_ _) | (with_reducible assumption) | (with_reducible refine below_of ?_ (by assumption)) | omega | (simp only [World.size_alloc,World.size_setCell,World.size_drew,size_drewN] at *;omega) | (simp;omega)))⟩
      · obtain rfl:=hR.symm.trans (hhit rfl)
        clear hhit hmiss hR
        go_wp2
        ((try simp only [Exit.inBlock,Exit.then]);refine bodyPost_ret (by simp [results,Tryz.results32,go_sem,hE];try rfl) rfl ?_)
        exact ⟨rfl,by (repeat' (first | (with_reducible exact Below.refl _ _) | (with_reducible refine below_alloc ?_ _) | (with_reducible refine Below.drew ?_) | (with_reducible refine below_drewN ?_ _) | (with_reducible refine Below.setCell ?_ ?_ _) | (with_reducible assumption) | (with_reducible refine below_of ?_ (by assumption)) | omega | (simp only [World.size_alloc,World.size_setCell,World.size_drew,size_drewN] at *;omega) | (simp;omega)))⟩
      · obtain rfl:=hR.symm.trans (hhit rfl)
        clear hhit hmiss hR
        go_wp2
        ((try simp only [Exit.inBlock,Exit.then]);refine bodyPost_ret (by simp [results,Tryz.results32,go_sem,hE];try rfl) rfl ?_)
        exact ⟨rfl,by (repeat' (first | (with_reducible exact Below.refl _ _) | (with_reducible refine below_alloc ?_ _) | (with_reducible refine Below.drew ?_) | (with_reducible refine below_drewN ?_ _) | (with_reducible refine Below.setCell ?_ ?_ _) | (with_reducible assumption) | (with_reducible refine below_of ?_ (by assumption)) | omega | (simp only [World.size_alloc,World.size_setCell,World.size_drew,size_drewN] at *;omega) | (simp;omega)))⟩
      · have hfs:=hmiss (by rw [Bool.eq_false_iff];intro q;exact hk (inK_iff.1 q))
        have n7:(mk == 7)=false:=by rw [beq_eq_false_iff_ne];omega
        have n8:(mk == 8)=false:=by rw [beq_eq_false_iff_ne];omega
        have n9:(mk == 9)=false:=by rw [beq_eq_false_iff_ne];omega
        have n10:(mk == 10)=false:=by rw [beq_eq_false_iff_ne];omega
        clear hhit hmiss hR hk hE
        go_wp2
        first
          | (go_roundw
             case rel=>exact ⟨i+1,by first | rfl | go_num,hlt,own_alloc (own_alloc hO2 _) _,by (repeat' (first | (with_reducible exact Below.refl _ _) | (with_reducible refine below_alloc ?_ _) | (with_reducible refine Below.drew ?_) | (with_reducible refine below_drewN ?_ _) | (with_reducible refine Below.setCell ?_ ?_ _) | (with_reducible assumption) | (with_reducible refine below_of ?_ (by assumption)) | omega | (simp only [World.size_alloc,World.size_setCell,World.size_drew,size_drewN] at *;omega) | (simp;omega))),hfs⟩
             case measure=>simp [natM];omega)
          | exact ⟨⟨i+1,rfl,hlt,own_alloc (own_alloc hO2 _) _,by (repeat' (first | (with_reducible exact Below.refl _ _) | (with_reducible refine below_alloc ?_ _) | (with_reducible refine Below.drew ?_) | (with_reducible refine below_drewN ?_ _) | (with_reducible refine Below.setCell ?_ ?_ _) | (with_reducible assumption) | (with_reducible refine below_of ?_ (by assumption)) | omega | (simp only [World.size_alloc,World.size_setCell,World.size_drew,size_drewN] at *;omega) | (simp;omega))),hfs⟩,by simp [natM];omega⟩
    · obtain rfl:i=L.length:=by omega
      rw [List.take_length] at hno
      obtain rfl:=hR.symm.trans hno
      obtain ⟨hl0,hk0,hf0⟩:=hO
      have hltz:¬ (L.length:Int) < (L.length:Int):=by omega
      clear hcell hno hR
      go_wp2
      ((try simp only [Exit.inBlock,Exit.then]);refine bodyPost_ret (by simp [results,Tryz.results32,go_sem,hk0];try rfl) rfl ?_)
      exact ⟨rfl,by (repeat' (first | (with_reducible exact Below.refl _ _) | (with_reducible refine below_alloc ?_ _) | (with_reducible refine Below.drew ?_) | (with_reducible refine below_drewN ?_ _) | (with_reducible refine Below.setCell ?_ ?_ _) | (with_reducible assumption) | (with_reducible refine below_of ?_ (by assumption)) | omega | (simp only [World.size_alloc,World.size_setCell,World.size_drew,size_drewN] at *;omega) | (simp;omega)))⟩
end Go.Proofs.YthacfgaacleaeaaGreatDoor
namespace Go.Proofs.YthacfgaacleaeaaGreatDoor
open Go.IntKind (i64 u32)
open Go.RowKit Go.Extern.Stop Go.Stop Go.Extern
theorem fo_valueOfP (t:Addr) (w:World):(ReflectliteValue.unpack (.iface 75 (.pointer (some t)))).run Tryz.prog w = .ok (.agg #[.pointer (some ⟨2,75,none⟩),.pointer (some ⟨w.heap.size,0,none⟩),.int .u64 150]) (w.alloc (.cells #[.pointer (some t)] 75)):=by kernel_rfl
theorem fo_typeP (a:Addr) (w:World):(ReflectliteValue.methodAny (ReflectliteValue.valueError "reflectlite.Value.Type" 0) (fun t _ _ _=>ReflectliteType.toType t) #[.agg #[.pointer (some ⟨2,75,none⟩),.pointer (some a),.int .u64 150]]).run Tryz.prog w = .ok (.iface 202 (.agg #[.pointer (some ⟨2,75,none⟩)])) w:=by kernel_rfl
theorem fo_kindP (w:World):((ReflectliteType.abiMethod fun t=>(fun a:Nat=>Value.int IntKind.u8 (a:Int)) <$> Rtype.kind t) #[.pointer (some ⟨2,75,none⟩)]).run Tryz.prog w = .ok (.int .u8 22) w:=by kernel_rfl
theorem fo_kindE (w:World):((ReflectliteType.abiMethod fun t=>(fun a:Nat=>Value.int IntKind.u8 (a:Int)) <$> Rtype.kind t) #[.pointer (some ⟨2,32,none⟩)]).run Tryz.prog w = .ok (.int .u8 2) w:=by kernel_rfl
theorem rlmO (z:Sem Value) (f:TypeId→Addr→Nat→Nat→Sem Value) (v:Value) :
    ReflectliteValue.method z f #[v]=(do match ← ReflectliteValue.parts v with | none=>z | some (t,a,fl)=>f t a fl (fl % 32)):=rfl
theorem fo_partsP (a:Addr) (w:World):(ReflectliteValue.parts (.agg #[.pointer (some ⟨2,75,none⟩),.pointer (some a),.int .u64 150])).run Tryz.prog w = .ok (some (75,a,150)) w:=by kernel_rfl
theorem fo_isNilP (a p:Addr) (W:World) (ha:W.cell? a=some (.pointer (some p))) :
    (ReflectliteValue.method (ReflectliteValue.valueError "reflectlite.Value.IsNil" 0) ReflectliteValue.isNil #[.agg #[.pointer (some ⟨2,75,none⟩),.pointer (some a),.int .u64 150]]).run Tryz.prog W = .ok (.bool false) W:=by
  rw [rlmO]
  simp only [Sem.run_bind,fo_partsP,Result.andThen]
  simp [ReflectliteValue.isNil,loadVar,isAgg,underlying,Tryz.underlying75,ha,Result.andThen]
theorem fo_elemP (w:World):(ReflectliteType.method ReflectliteType.elem #[.agg #[.pointer (some ⟨2,75,none⟩)]]).run Tryz.prog w = .ok (.iface 202 (.agg #[.pointer (some ⟨2,32,none⟩)])) w:=by kernel_rfl
theorem fo_impl (w:World):(ReflectliteType.relation "Implements" ReflectliteType.implements_ #[.agg #[.pointer (some ⟨2,32,none⟩)],.iface 202 (.agg #[.pointer (some ⟨2,72,none⟩)])]).run Tryz.prog w = .ok (.bool true) w:=by kernel_rfl
theorem fo_typeOfF (v:Value) (w:World):(ReflectliteType.typeOf #[.iface 126 v]).run Tryz.prog w = .ok (.iface 202 (.agg #[.pointer (some ⟨2,126,none⟩)])) w:=by kernel_rfl
theorem fo_typeOfE (v:Value) (w:World):(ReflectliteType.typeOf #[.iface 32 v]).run Tryz.prog w = .ok (.iface 202 (.agg #[.pointer (some ⟨2,32,none⟩)])) w:=by kernel_rfl
theorem fo_asgF (w:World):(ReflectliteType.relation "AssignableTo" ReflectliteType.assignableTo #[.agg #[.pointer (some ⟨2,126,none⟩)],.iface 202 (.agg #[.pointer (some ⟨2,32,none⟩)])]).run Tryz.prog w = .ok (.bool false) w:=by kernel_rfl
theorem fo_asgE (w:World):(ReflectliteType.relation "AssignableTo" ReflectliteType.assignableTo #[.agg #[.pointer (some ⟨2,32,none⟩)],.iface 202 (.agg #[.pointer (some ⟨2,32,none⟩)])]).run Tryz.prog w = .ok (.bool true) w:=by kernel_rfl
theorem fo_valueOfE (z:Int) (w:World):(ReflectliteValue.unpack (.iface 32 (.int .i64 z))).run Tryz.prog w = .ok (.agg #[.pointer (some ⟨2,32,none⟩),.pointer (some ⟨w.heap.size,0,none⟩),.int .u64 130]) (w.alloc (.cells #[.int .i64 z] 32)):=by kernel_rfl
theorem fo_elemOf (w:World):(Rtype.elem? 75).run Tryz.prog w = .ok (some 32) w:=by kernel_rfl
theorem fo_mk (p:Addr) (w:World):(ReflectliteValue.mk 32 p ReflectliteValue.flagAddr).run Tryz.prog w = .ok (.agg #[.pointer (some ⟨2,32,none⟩),.pointer (some p),.int .u64 386]) w:=by kernel_rfl
theorem fo_elemV (a p:Addr) (W:World) (ha:W.cell? a=some (.pointer (some p))) :
    (ReflectliteValue.method (ReflectliteValue.valueError "reflectlite.Value.Elem" 0) ReflectliteValue.elem #[.agg #[.pointer (some ⟨2,75,none⟩),.pointer (some a),.int .u64 150]]).run Tryz.prog W
      = .ok (.agg #[.pointer (some ⟨2,32,none⟩),.pointer (some p),.int .u64 386]) W:=by
  rw [rlmO]
  simp only [Sem.run_bind,fo_partsP,Result.andThen]
  simp [ReflectliteValue.elem,loadVar,isAgg,underlying,Tryz.underlying75,ha,Result.andThen,fo_elemOf,fo_mk]
theorem rlsO (v x:Value):ReflectliteValue.set #[v,x]=(do
    let (some (dst,a,fl),some (src,b,_)):=(← ReflectliteValue.parts v,← ReflectliteValue.parts x)
      | unsupported (.noEntry "extern/(internal/reflectlite.Value).Set.zeroValue")
    if fl / ReflectliteValue.flagAddr % 2 == 0 then unsupported (.noEntry "extern/(internal/reflectlite.Value).Set.unaddressable")
    let val ← loadVar src b
    if ← Rtype.directlyAssignable dst src then storeVar dst a val
    else if ← Rtype.implements dst src then
      if (← Rtype.kind src) == 20 then
        match val with
        | .nilIface=>unsupported (.noEntry "extern/reflectlite: a nil value of one interface type handed on as a value of another")
        | _=>storeVar dst a val
      else storeVar dst a (.iface src val)
    else panicString ("reflectlite.Set: value of type " ++ (← Rtype.spelt src) ++ " is not assignable to type " ++ (← Rtype.spelt dst))
    pure (.tuple #[])):=rfl
theorem fo_partsA (a:Addr) (w:World):(ReflectliteValue.parts (.agg #[.pointer (some ⟨2,32,none⟩),.pointer (some a),.int .u64 386])).run Tryz.prog w = .ok (some (32,a,386)) w:=by kernel_rfl
theorem fo_partsE (a:Addr) (w:World):(ReflectliteValue.parts (.agg #[.pointer (some ⟨2,32,none⟩),.pointer (some a),.int .u64 130])).run Tryz.prog w = .ok (some (32,a,130)) w:=by kernel_rfl
theorem fo_direct (w:World):(Rtype.directlyAssignable 32 32).run Tryz.prog w = .ok true w:=by kernel_rfl
theorem fo_set (ta b:Addr) (z:Int) (old:Value) (W:World) (hb:W.cell? b=some (.int .i64 z)) (ht:W.cell? ta=some old) (hf:W.frozen? ta=false) :
    (ReflectliteValue.set #[.agg #[.pointer (some ⟨2,32,none⟩),.pointer (some ta),.int .u64 386],.agg #[.pointer (some ⟨2,32,none⟩),.pointer (some b),.int .u64 130]]).run Tryz.prog W
      = .ok (.tuple #[]) (W.setCell ta (.int .i64 z)):=by
  rw [rlsO]
  simp only [Sem.run_bind,fo_partsA,fo_partsE,Result.andThen]
  simp [ReflectliteValue.flagAddr,loadVar,isAgg,underlying,Tryz.underlying32,hb,Result.andThen,fo_direct,storeVar,Value.cells,storeCells,Addr.add]
  rw [run_store Tryz.prog W ta _ _ (by rfl)]
  simp [ht,hf]
theorem fo_mKind (h:Value) (w:World):(Go.method 404 202 (.agg #[h]) "Kind").run Tryz.prog w = .ok (205,h) w:=by kernel_rfl
theorem fo_mElem (h:Value) (w:World):(Go.method 404 202 (.agg #[h]) "Elem").run Tryz.prog w = .ok (218,.agg #[h]) w:=by kernel_rfl
theorem fo_mImpl (h:Value) (w:World):(Go.method 404 202 (.agg #[h]) "Implements").run Tryz.prog w = .ok (219,.agg #[h]) w:=by kernel_rfl
theorem fo_mAsg (h:Value) (w:World):(Go.method 404 202 (.agg #[h]) "AssignableTo").run Tryz.prog w = .ok (216,.agg #[h]) w:=by kernel_rfl
theorem fo_mUnwrap (a b:Value) (w:World):(Go.method 404 126 (.agg #[a,b]) "Unwrap").run Tryz.prog w = .ok (210,.agg #[a,b]) w:=by kernel_rfl
theorem fo_noAs (v:Value) (w:World):(Instr.typeAssert (.iface 126 v) 72 207 true).run Tryz.prog w = .ok (.tuple #[.nilIface,.bool false]) w:=run_typeAssert_lacksB Tryz.underlying207 (by kernel_rfl) (by kernel_rfl) v _ w
theorem fo_hasU (v:Value) (w:World):(Instr.typeAssert (.iface 126 v) 72 210 true).run Tryz.prog w = .ok (.tuple #[.iface 126 v,.bool true]) w:=run_typeAssert_hasB Tryz.underlying210 (by kernel_rfl) v _ w
theorem unwrap_any (part z:Int) (w:World):Calls Tryz.prog 210 #[.agg #[.int .i64 part,.int .i64 z]] w fun e w'=>e = .returned (.iface 32 (.int .i64 z))∧w'=w.alloc (.cells #[.int .i64 part,.int .i64 z] 126):=by
  go_enter Tryz.func210,Tryz.ntmps210
  go_wp2
  go_ret
  exact ⟨rfl,rfl⟩
set_option maxRecDepth 100000 in
set_option maxHeartbeats 4000000 in
theorem as_inner (part z:Int) (t a:Addr) (old:Value) (w:World) (ha:w.cell? a=some (.pointer (some t))) (ht:w.cell? t=some old) (hf:w.frozen? t=false) :
    Calls Tryz.prog 67 #[.iface 126 (.agg #[.int .i64 part,.int .i64 z]),.iface 75 (.pointer (some t)),.agg #[.pointer (some ⟨2,75,none⟩),.pointer (some a),.int .u64 150],.iface 202 (.agg #[.pointer (some ⟨2,32,none⟩)])] w
      fun ev w'=>ev = .returned (.bool true)∧∃ W1,Below w.heap.size w W1∧w'=W1.setCell t (.int .i64 z):=by
  have h10:=@run_callFunc_extern Tryz.prog 117 _ ReflectliteType.typeOf Tryz.func117 (by kernel_rfl) (by kernel_rfl) (by kernel_rfl) (by kernel_rfl)
  have h35:=@run_callFunc_extern Tryz.prog 216 _ (ReflectliteType.relation "AssignableTo" ReflectliteType.assignableTo) Tryz.func216 (by kernel_rfl) (by kernel_rfl) (by kernel_rfl) (by kernel_rfl)
  have h11:=@run_callFunc_extern Tryz.prog 118 _ (ReflectliteValue.method (ReflectliteValue.valueError "reflectlite.Value.Elem" 0) ReflectliteValue.elem) Tryz.func118 (by kernel_rfl) (by kernel_rfl) (by kernel_rfl) (by kernel_rfl)
  have h12:=@run_callFunc_extern Tryz.prog 119 _ ReflectliteValue.set Tryz.func119 (by kernel_rfl) (by kernel_rfl) (by kernel_rfl) (by kernel_rfl)
  have h6:=@run_callFunc_extern Tryz.prog 64 _ (fun args=>ReflectliteValue.unpack (args.getD 0 (.tuple #[]))) Tryz.func64 (by kernel_rfl) (by kernel_rfl) (by kernel_rfl) (by kernel_rfl)
  have a1:=fo_typeOfF
  have a2:=fo_typeOfE
  have a3:=fo_asgF
  have a4:=fo_asgE
  have a5:=fo_valueOfE z
  have a6:=fo_mAsg
  have a7:=fo_mUnwrap
  have a8:=fo_noAs
  have a9:=fo_hasU
  have hta:t.block < w.heap.size:=lt_of_cell ht
  have haa:a.block < w.heap.size:=lt_of_cell ha
  have hu:=unwrap_any part z
  have hcA:((w.alloc (.cells #[.pointer (some ⟨2,75,none⟩),.pointer (some a),.int .u64 150] 133)).alloc (.cells #[.int .i64 part,.int .i64 z] 126)).cell? a=some (.pointer (some t)):=by
    rw [World.cell?_alloc_lt _ _ a (by simp;omega),World.cell?_alloc_lt _ _ a haa];exact ha
  have el:=fo_elemV a t _ hcA
  have st:=fo_set t ⟨w.heap.size+1+1,0,none⟩ z old (((w.alloc (.cells #[.pointer (some ⟨2,75,none⟩),.pointer (some a),.int .u64 150] 133)).alloc (.cells #[.int .i64 part,.int .i64 z] 126)).alloc (.cells #[.int .i64 z] 32))
    (by rw [World.cell?_alloc_at _ _ _ _ (by simp)];rfl)
    (by rw [World.cell?_alloc_lt _ _ t (by simp;omega),World.cell?_alloc_lt _ _ t (by simp;omega),World.cell?_alloc_lt _ _ t hta];exact ht)
    (by rw [World.frozen?_alloc_old _ _ t (by simp;omega),World.frozen?_alloc_old _ _ t (by simp;omega),World.frozen?_alloc_old _ _ t (Nat.ne_of_lt hta)];exact hf)
  clear ht hf ha
  go_enter Tryz.func67,Tryz.ntmps67
  go_wp2
  refine wp_loop_rounds 2 ?_
  rw [rounds_succ]
  go_wp2_with (first | (go_at_call 210;refine (hu _).mono ?_;rintro e w1 ⟨rfl,rfl⟩))
  rw [rounds_succ]
  go_wp2
  go_ret
  exact ⟨rfl,_,by (repeat' (first | (with_reducible exact Below.refl _ _) | (with_reducible refine below_alloc ?_ _) | (with_reducible refine Below.drew ?_) | (with_reducible refine below_drewN ?_ _) | (with_reducible refine Below.setCell ?_ ?_ _) | (with_reducible assumption) | (with_reducible refine below_of ?_ (by assumption)) | omega | (simp only [World.size_alloc,World.size_setCell,World.size_drew,size_drewN] at *;omega) | (simp;omega))),rfl⟩
def ErrT (w:World):Prop:=w.cell? ⟨0,0,none⟩=some (.iface 202 (.agg #[.pointer (some ⟨2,72,none⟩)]))
theorem ErrT.below {w w':World} (h:ErrT w) (hb:Below w.heap.size w w'):ErrT w':=(hb.cell (p:=⟨0,0,none⟩) (lt_of_cell h)).trans h
set_option maxRecDepth 100000 in
set_option maxHeartbeats 4000000 in
theorem as_any (part z:Int) (t:Addr) (old:Value) (w:World) (hg:ErrT w) (ht:w.cell? t=some old) (hf:w.frozen? t=false) :
    Calls Tryz.prog 28 #[.iface 126 (.agg #[.int .i64 part,.int .i64 z]),.iface 75 (.pointer (some t))] w
      fun ev w'=>ev = .returned (.bool true)∧∃ W1,Below w.heap.size w W1∧w'=W1.setCell t (.int .i64 z):=by
  have h6:=@run_callFunc_extern Tryz.prog 64 _ (fun args=>ReflectliteValue.unpack (args.getD 0 (.tuple #[]))) Tryz.func64 (by kernel_rfl) (by kernel_rfl) (by kernel_rfl) (by kernel_rfl)
  have h7:=@run_callFunc_extern Tryz.prog 65 _ (ReflectliteValue.methodAny (ReflectliteValue.valueError "reflectlite.Value.Type" 0) (fun t _ _ _=>ReflectliteType.toType t)) Tryz.func65 (by kernel_rfl) (by kernel_rfl) (by kernel_rfl) (by kernel_rfl)
  have h8:=@run_callFunc_extern Tryz.prog 66 _ (ReflectliteValue.method (ReflectliteValue.valueError "reflectlite.Value.IsNil" 0) ReflectliteValue.isNil) Tryz.func66 (by kernel_rfl) (by kernel_rfl) (by kernel_rfl) (by kernel_rfl)
  have h27:=@run_callFunc_extern Tryz.prog 205 _ (ReflectliteType.abiMethod fun t=>do pure (.int .u8 (← Rtype.kind t))) Tryz.func205 (by kernel_rfl) (by kernel_rfl) (by kernel_rfl) (by kernel_rfl)
  have h37:=@run_callFunc_extern Tryz.prog 218 _ (ReflectliteType.method ReflectliteType.elem) Tryz.func218 (by kernel_rfl) (by kernel_rfl) (by kernel_rfl) (by kernel_rfl)
  have h38:=@run_callFunc_extern Tryz.prog 219 _ (ReflectliteType.relation "Implements" ReflectliteType.implements_) Tryz.func219 (by kernel_rfl) (by kernel_rfl) (by kernel_rfl) (by kernel_rfl)
  have f6:=fo_valueOfP t
  have f7:=fo_typeP
  have mK:=fo_mKind
  have mE:=fo_mElem
  have mI:=fo_mImpl
  have k27:=fo_kindP
  have k25:=fo_kindE
  have e27:=fo_elemP
  have i25:=fo_impl
  have hlt:0 < w.heap.size:=lt_of_cell hg
  have hta:t.block < w.heap.size:=lt_of_cell ht
  unfold ErrT at hg
  have n8:=fo_isNilP ⟨w.heap.size,0,none⟩ t ((w.alloc (.cells #[.pointer (some t)] 75)).alloc (.cells #[.pointer (some ⟨2,75,none⟩),.pointer (some ⟨w.heap.size,0,none⟩),.int .u64 150] 133)) (by simp)
  have hg2:((w.alloc (.cells #[.pointer (some t)] 75)).alloc (.cells #[.pointer (some ⟨2,75,none⟩),.pointer (some ⟨w.heap.size,0,none⟩),.int .u64 150] 133)).cell? ⟨0,0,none⟩=some (.iface 202 (.agg #[.pointer (some ⟨2,72,none⟩)])):=by
    rw [World.cell?_alloc_lt _ _ ⟨0,0,none⟩ (by simp),World.cell?_alloc_lt _ _ ⟨0,0,none⟩ hlt];exact hg
  have hin:=as_inner part z t ⟨w.heap.size,0,none⟩ old ((w.alloc (.cells #[.pointer (some t)] 75)).alloc (.cells #[.pointer (some ⟨2,75,none⟩),.pointer (some ⟨w.heap.size,0,none⟩),.int .u64 150] 133)) (by simp)
    (by rw [World.cell?_alloc_lt _ _ t (by simp;omega),World.cell?_alloc_lt _ _ t hta];exact ht)
    (by rw [World.frozen?_alloc_old _ _ t (by simp;omega),World.frozen?_alloc_old _ _ t (Nat.ne_of_lt hta)];exact hf)
  clear hg ht hf
  go_enter Tryz.func28,Tryz.ntmps28
  go_wp2_with (first | (go_at_call 67;refine hin.mono ?_;rintro e w1 ⟨rfl,W1,hb,rfl⟩))
  go_ret
  exact ⟨rfl,W1,below_of (by (repeat' (first | (with_reducible exact Below.refl _ _) | (with_reducible refine below_alloc ?_ _) | (with_reducible refine Below.drew ?_) | (with_reducible refine below_drewN ?_ _) | (with_reducible refine Below.setCell ?_ ?_ _) | (with_reducible assumption) | (with_reducible refine below_of ?_ (by assumption)) | omega | (simp only [World.size_alloc,World.size_setCell,World.size_drew,size_drewN] at *;omega) | (simp;omega)))) hb,rfl⟩
end Go.Proofs.YthacfgaacleaeaaGreatDoor
namespace Go.Proofs.YthacfgaacleaeaaGreatDoor
open Go.IntKind (i64 u32)
open Go.RowKit Sym Sha
def rots:List Nat:=[2,6,7,11,13,17,18,19,22,25]
def rorM (x:Int) (n:Nat):Int:=u32.wrap (((u32.wrap (x * ((2 ^ (32 - n):Nat):Int)) % 4294967296).toNat ||| (x.fdiv ((2 ^ n:Nat):Int) % 4294967296).toNat:Nat):Int)
theorem rorM_eq (x:Int) (n:Nat):rorM x n=rorN x n:=by unfold rorM rorN;rw [Nat.or_comm]
theorem of_rots {p:Nat→Prop} (h2:p 2) (h6:p 6) (h7:p 7) (h11:p 11) (h13:p 13) (h17:p 17) (h18:p 18) (h19:p 19) (h22:p 22) (h25:p 25):∀ n,rots.any (Nat.beq n)=true→p n:=by
  intro n h
  simp only [rots,List.any_cons,List.any_nil,Bool.or_false,Bool.or_eq_true,Nat.beq_eq] at h
  rcases h with rfl | rfl | rfl | rfl | rfl | rfl | rfl | rfl | rfl | rfl <;> assumption
theorem rotl_any (x:Int):∀ n,rots.any (Nat.beq n)=true→runV Tryz.prog (onlyS Tryz.prog SOct) noL Tryz.f190 [.int .u32 x,.int .i64 (-(n:Int))] = .leaf (.int .u32 (rorM x n)) :=
  of_rots (by kernel_rfl) (by kernel_rfl) (by kernel_rfl) (by kernel_rfl) (by kernel_rfl) (by kernel_rfl) (by kernel_rfl) (by kernel_rfl) (by kernel_rfl) (by kernel_rfl)
def tRotl:List Value→Option (List Prop×Value) | [.int .u32 x,.int .i64 (.negSucc m)]=>(bif rots.any (Nat.beq (m+1)) then some ([],.int .u32 (rorN x (m+1))) else none) | _=>none
theorem rotl (x:Int) (n:Nat) (hn:rots.any (Nat.beq n)=true) (w:World):Calls Tryz.prog 190 #[.int .u32 x,.int .i64 (-(n:Int))] w fun e w'=>e = .returned (.int .u32 (rorN x n))∧Below w.heap.size w w':=by
  refine calls_runV (onlyS_ok SOct_ok) follows Tryz.func190 (by kernel_rfl) (by kernel_rfl) noL_ok (rotl_any x n hn) ?_ w
  simp [T.ok,rorM_eq]
def SSha2:Tab:=addS 190 tRotl SOct
theorem SSha2_ok:TabOk Tryz.prog SSha2:=addS_ok SOct_ok (by kernel_rfl) (by
  intro xs p v h hp w
  unfold tRotl at h
  split at h
  · rename_i x m
    cases hb:rots.any (Nat.beq (m+1))
    · rw [hb] at h;cases h
    · rw [hb,cond_true] at h
      simp only [Option.some.injEq,Prod.mk.injEq] at h
      obtain ⟨rfl,rfl⟩:=h
      exact rotl x (m+1) hb w
  · cases h)
def tRor:List Value→Option (List Prop×Value) | [.int .u32 x,.int .i64 (.ofNat m)]=>(bif rots.any (Nat.beq m) then some ([],.int .u32 (rorN x m)) else none) | _=>none
theorem ror_any (x:Int):∀ n,rots.any (Nat.beq n)=true→runV Tryz.prog (onlyS Tryz.prog SSha2) noL Tryz.f187 [.int .u32 x,.int .i64 (n:Int)] = .leaf (.int .u32 (rorN x n)) :=
  of_rots (by kernel_rfl) (by kernel_rfl) (by kernel_rfl) (by kernel_rfl) (by kernel_rfl) (by kernel_rfl) (by kernel_rfl) (by kernel_rfl) (by kernel_rfl) (by kernel_rfl)
theorem sha_ror (x:Int) (n:Nat) (hn:rots.any (Nat.beq n)=true) (w:World):Calls Tryz.prog 187 #[.int .u32 x,.int .i64 (n:Int)] w fun e w'=>e = .returned (.int .u32 (rorN x n))∧Below w.heap.size w w':=by
  refine calls_runV (onlyS_ok SSha2_ok) follows Tryz.func187 (by kernel_rfl) (by kernel_rfl) noL_ok (ror_any x n hn) ?_ w
  simp [T.ok]
theorem ror05_any (x:Int):∀ n,rots.any (Nat.beq n)=true→runV Tryz.prog (onlyS Tryz.prog SSha2) noL Tryz.f161 [.int .u32 x,.int .i64 (n:Int)] = .leaf (.int .u32 (rorN x n)) :=
  of_rots (by kernel_rfl) (by kernel_rfl) (by kernel_rfl) (by kernel_rfl) (by kernel_rfl) (by kernel_rfl) (by kernel_rfl) (by kernel_rfl) (by kernel_rfl) (by kernel_rfl)
theorem ref05_ror (x:Int) (n:Nat) (hn:rots.any (Nat.beq n)=true) (w:World):Calls Tryz.prog 161 #[.int .u32 x,.int .i64 (n:Int)] w fun e w'=>e = .returned (.int .u32 (rorN x n))∧Below w.heap.size w w':=by
  refine calls_runV (onlyS_ok SSha2_ok) follows Tryz.func161 (by kernel_rfl) (by kernel_rfl) noL_ok (ror05_any x n hn) ?_ w
  simp [T.ok]
theorem tRor_ok {f:FuncId} (hc:∀ (x:Int) (n:Nat),rots.any (Nat.beq n)=true→∀ w,Calls Tryz.prog f #[.int .u32 x,.int .i64 (n:Int)] w fun e w'=>e = .returned (.int .u32 (rorN x n))∧Below w.heap.size w w') :
    ∀ xs p v,tRor xs=some (p,v)→(∀ q ∈ p,q)→∀ w,Calls Tryz.prog f xs.toArray w fun e w'=>e = .returned v∧Below w.heap.size w w':=by
  intro xs p v h hp w
  unfold tRor at h
  split at h
  · rename_i x m
    cases hb:rots.any (Nat.beq m)
    · rw [hb] at h;cases h
    · rw [hb,cond_true] at h
      simp only [Option.some.injEq,Prod.mk.injEq] at h
      obtain ⟨rfl,rfl⟩:=h
      exact hc x m hb w
  · cases h
theorem nums_at (k:IntKind) (l:List Int) (j:Nat) (h:j < l.length):((l.map (Value.int k)).drop j).take 1=[.int k (intV (cellAt (l.map (Value.int k)) j))]∧intV (cellAt (l.map (Value.int k)) j)=nth l j:=by
  have h1:(l.map (Value.int k))[j]?=some (.int k l[j]):=by simp [h]
  have h2:cellAt (l.map (Value.int k)) j = .int k l[j]:=by simp [cellAt,List.getD_eq_getElem?_getD,h1]
  have h3:nth l j=l[j]:=by simp [nth,List.getD_eq_getElem?_getD,h]
  refine ⟨?_,by rw [h2,h3];rfl⟩
  rw [h2]
  apply List.ext_getElem?
  intro i
  rw [List.getElem?_take]
  cases i with
  | zero=>simp [h];rfl
  | succ i=>simp
set_option maxRecDepth 100000 in
theorem const_run (i:Int):runV Tryz.prog (onlyS Tryz.prog SSha2) noL Tryz.f188 [.int .i64 i] = .need ((0:Int)≤i∧i < (↑64:Int)) (.need (0+i.toNat * 1 < 64) (.leaf (Value.int u32 (nth [(1116352408:Int),(1899447441:Int),(3049323471:Int),(3921009573:Int),(961987163:Int),(1508970993:Int),(2453635748:Int),(2870763221:Int),(3624381080:Int),(310598401:Int),(607225278:Int),(1426881987:Int),(1925078388:Int),(2162078206:Int),(2614888103:Int),(3248222580:Int),(3835390401:Int),(4022224774:Int),(264347078:Int),(604807628:Int),(770255983:Int),(1249150122:Int),(1555081692:Int),(1996064986:Int),(2554220882:Int),(2821834349:Int),(2952996808:Int),(3210313671:Int),(3336571891:Int),(3584528711:Int),(113926993:Int),(338241895:Int),(666307205:Int),(773529912:Int),(1294757372:Int),(1396182291:Int),(1695183700:Int),(1986661051:Int),(2177026350:Int),(2456956037:Int),(2730485921:Int),(2820302411:Int),(3259730800:Int),(3345764771:Int),(3516065817:Int),(3600352804:Int),(4094571909:Int),(275423344:Int),(430227734:Int),(506948616:Int),(659060556:Int),(883997877:Int),(958139571:Int),(1322822218:Int),(1537002063:Int),(1747873779:Int),(1955562222:Int),(2024104815:Int),(2227730452:Int),(2361852424:Int),(2428436474:Int),(2756734187:Int),(3204031479:Int),(3329325298:Int)] (0+i.toNat * 1))))):=by kernel_rfl
set_option maxRecDepth 100000 in
theorem k05_run (i:Int):runV Tryz.prog (onlyS Tryz.prog SSha2) noL Tryz.f162 [.int .i64 i] =
 letI q:=[Value.int u32 1116352408,Value.int u32 1899447441,Value.int u32 3049323471,Value.int u32 3921009573,Value.int u32 961987163,Value.int u32 1508970993,Value.int u32 2453635748,Value.int u32 2870763221,Value.int u32 3624381080,Value.int u32 310598401,Value.int u32 607225278,Value.int u32 1426881987,Value.int u32 1925078388,Value.int u32 2162078206,Value.int u32 2614888103,Value.int u32 3248222580,Value.int u32 3835390401,Value.int u32 4022224774,Value.int u32 264347078,Value.int u32 604807628,Value.int u32 770255983,Value.int u32 1249150122,Value.int u32 1555081692,Value.int u32 1996064986,Value.int u32 2554220882,Value.int u32 2821834349,Value.int u32 2952996808,Value.int u32 3210313671,Value.int u32 3336571891,Value.int u32 3584528711,Value.int u32 113926993,Value.int u32 338241895,Value.int u32 666307205,Value.int u32 773529912,Value.int u32 1294757372,Value.int u32 1396182291,Value.int u32 1695183700,Value.int u32 1986661051,Value.int u32 2177026350,Value.int u32 2456956037,Value.int u32 2730485921,Value.int u32 2820302411,Value.int u32 3259730800,Value.int u32 3345764771,Value.int u32 3516065817,Value.int u32 3600352804,Value.int u32 4094571909,Value.int u32 275423344,Value.int u32 430227734,Value.int u32 506948616,Value.int u32 659060556,Value.int u32 883997877,Value.int u32 958139571,Value.int u32 1322822218,Value.int u32 1537002063,Value.int u32 1747873779,Value.int u32 1955562222,Value.int u32 2024104815,Value.int u32 2227730452,Value.int u32 2361852424,Value.int u32 2428436474,Value.int u32 2756734187,Value.int u32 3204031479,Value.int u32 3329325298];
 letI q0:=intV (cellAt q (i.toNat * 1+0));
 .need ((0:Int)≤i∧i < (↑64:Int)) (.need (i.toNat < 64) (.need (List.take 1 (List.drop (i.toNat * 1+0) q)=[Value.int u32 q0]) (.leaf (Value.int u32 q0)))):=by kernel_rfl
def tKt:List Value→Option (List Prop×Value) | [.int .i64 i]=>some ([0≤i∧i < 64],.int .u32 (nth Kt i.toNat)) | _=>none
theorem sha_constant (i:Int) (hi:0≤i∧i < 64) (w:World):Calls Tryz.prog 188 #[.int .i64 i] w fun e w'=>e = .returned (.int .u32 (nth Kt i.toNat))∧Below w.heap.size w w':=by
  refine calls_runV (onlyS_ok SSha2_ok) follows Tryz.func188 (by kernel_rfl) (by kernel_rfl) noL_ok (const_run i) ?_ w
  refine ⟨⟨hi.1,hi.2⟩,by omega,?_⟩
  simp only [T.ok,Nat.zero_add,Nat.mul_one]
  rfl
theorem ref05_k (i:Int) (hi:0≤i∧i < 64) (w:World):Calls Tryz.prog 162 #[.int .i64 i] w fun e w'=>e = .returned (.int .u32 (nth Kt i.toNat))∧Below w.heap.size w w':=by
  refine calls_runV (onlyS_ok SSha2_ok) follows Tryz.func162 (by kernel_rfl) (by kernel_rfl) noL_ok (k05_run i) ?_ w
  have h:=nums_at .u32 Kt i.toNat (by show i.toNat < 64;omega)
  rw [← h.2]
  refine ⟨⟨hi.1,hi.2⟩,by omega,?_,?_⟩
  · simp only [Nat.mul_one,Nat.add_zero];exact h.1
  · simp only [T.ok,Nat.mul_one,Nat.add_zero];rfl
def SSha3  : Tab:=addS 162 tKt <| addS 161 tRor <| addS 188 tKt <| addS 187 tRor <| SSha2
theorem SSha3_ok:TabOk Tryz.prog (SSha3):=by
  refine addS_ok (addS_ok (addS_ok (addS_ok (SSha2_ok) (by kernel_rfl) ?_) (by kernel_rfl) ?_) (by kernel_rfl) ?_) (by kernel_rfl) ?_
  · exact tRor_ok sha_ror
  · (intro xs p v h hp w;unfold tKt at h;(split at h) <;> first | (cases h;done) | (simp only [Option.some.injEq,Prod.mk.injEq] at h;obtain ⟨rfl,rfl⟩:=h;exact sha_constant _ (hp _ (List.mem_cons_self ..)) w))
  · exact tRor_ok ref05_ror
  · (intro xs p v h hp w;unfold tKt at h;(split at h) <;> first | (cases h;done) | (simp only [Option.some.injEq,Prod.mk.injEq] at h;obtain ⟨rfl,rfl⟩:=h;exact ref05_k _ (hp _ (List.mem_cons_self ..)) w))
def z64:List SV:=List.replicate 64 (.v (.int .u32 0))
def schA (s:ByteArray) (i:Int) (h:Nat→Int):St:=⟨[(0,some (.v (.string s))),(10,some (.v (.int .i64 i))),(3,some (.ptr 1 0)),(2,some (.ptr 0 0))],[.own z64,.arr .u32 64 h]⟩
def schB (i:Int) (h:Nat→Int):St:=⟨[(5,some (.v (.int .i64 i))),(3,some (.ptr 1 0)),(2,some (.ptr 0 0))],[.own z64,.arr .u32 64 h]⟩
set_option maxRecDepth 100000 in
theorem schA_round (s:ByteArray) (i:Int) (h:Nat→Int):roundM Tryz.prog (onlyS Tryz.prog SSha3) noL 68 0 (loopAt Tryz.f186 0) 2 [0,10,3,2] [] [1] (schA s i h) =
 letI q:SV:=.v (.int .u32 0);
 letI q0:Blk:=.own [q,q,q,q,q,q,q,q,q,q,q,q,q,q,q,q,q,q,q,q,q,q,q,q,q,q,q,q,q,q,q,q,q,q,q,q,q,q,q,q,q,q,q,q,q,q,q,q,q,q,q,q,q,q,q,q,q,q,q,q,q,q,q,q];
 letI q3:=(4:Int) * i;
 letI q1:=i64.wrap q3+(4:Int);
 letI q2:=s.extract (i64.wrap q3).toNat (i64.wrap q1).toNat;
 letI q4:=(0,some (.v (.string s)));
 letI q5:=(3,some (.ptr 1 0));
 letI q6:=(2,some (.ptr 0 0));
 .ite (decide (i < (16:Int))) (.need ((0:Int)≤i64.wrap q3∧i64.wrap q3≤i64.wrap q1∧i64.wrap q1≤(↑s.size:Int)) (.need (q2.size≤9223372036854775807) (.need ((0:Int)≤i∧i < (↑64:Int)) (.need (0+i.toNat * 1 < 64) (.leaf (Ex.normal,St.mk [q4,(10,some (.v (.int .i64 (i64.wrap (i+(1:Int)))))),q5,q6] [q0,Blk.arr u32 64 fun j=>bif j.beq (0+i.toNat * 1) then (↑(Oct.val q2.data.toList % 4294967296):Int) else h j])))))) (.leaf (Ex.exit 0,St.mk [q4,(10,some (.v (.int .i64 i))),q5,q6] [q0,Blk.arr u32 64 h])):=by kernel_rfl
set_option maxRecDepth 100000 in
theorem schB_round (i:Int) (h:Nat→Int):roundM Tryz.prog (onlyS Tryz.prog SSha3) noL 68 2 (loopAt Tryz.f186 1) 2 [5,3,2] [] [1] (schB i h) =
 letI q:SV:=.v (.int .u32 0);
 letI q0:Blk:=.own [q,q,q,q,q,q,q,q,q,q,q,q,q,q,q,q,q,q,q,q,q,q,q,q,q,q,q,q,q,q,q,q,q,q,q,q,q,q,q,q,q,q,q,q,q,q,q,q,q,q,q,q,q,q,q,q,q,q,q,q,q,q,q,q];
 letI q4:=i - (15:Int);
 letI q9:=i64.wrap q4;
 letI q1:=h (0+q9.toNat * 1);
 letI q6:=i - (2:Int);
 letI p:=i64.wrap q6;
 letI q2:=h (0+p.toNat * 1);
 letI q3:=(↑64:Int);
 letI q5:=i - (16:Int);
 letI q7:=i - (7:Int);
 letI q8:=(0:Int);
 letI p0:=i64.wrap q5;
 letI p1:=i64.wrap q7;
 letI p2:=(3,some (.ptr 1 0));
 letI p3:=(2,some (.ptr 0 0));
 .ite (decide (i < (64:Int))) (.need (q8≤i64.wrap q4∧i64.wrap q4 < q3) (.need (0+q9.toNat * 1 < 64) (.need (q8≤i64.wrap q6∧i64.wrap q6 < q3) (.need (0+p.toNat * 1 < 64) (.need (q8≤i64.wrap q5∧i64.wrap q5 < q3) (.need (0+p0.toNat * 1 < 64) (.need (q8≤i64.wrap q7∧i64.wrap q7 < q3) (.need (0+p1.toNat * 1 < 64) (.need (q8≤i∧i < q3) (.need (0+i.toNat * 1 < 64) (.leaf (Ex.normal,St.mk [(5,some (.v (.int .i64 (i64.wrap (i+(1:Int)))))),p2,p3] [q0,Blk.arr u32 64 fun j=>bif j.beq (0+i.toNat * 1) then u32.wrap (u32.wrap (u32.wrap (h (0+p0.toNat * 1)+u32.wrap (↑(BitVec.ofInt 32 (u32.wrap (↑(BitVec.ofInt 32 (rorN q1 (nat_lit 7)) ^^^ BitVec.ofInt 32 (rorN q1 (nat_lit 18))).toNat:Int)) ^^^ BitVec.ofInt 32 (q1.fdiv (8:Int))).toNat:Int))+h (0+p1.toNat * 1))+u32.wrap (↑(BitVec.ofInt 32 (u32.wrap (↑(BitVec.ofInt 32 (rorN q2 (nat_lit 17)) ^^^ BitVec.ofInt 32 (rorN q2 (nat_lit 19))).toNat:Int)) ^^^ BitVec.ofInt 32 (q2.fdiv (1024:Int))).toNat:Int)) else h j])))))))))))) (.leaf (Ex.exit 2,St.mk [(5,some (.v (.int .i64 i))),p2,p3] [q0,Blk.arr u32 64 h])):=by kernel_rfl
def hW (m:Nat→Int) (i:Nat) (j:Nat):Int:=if j < i then nth (schedL m 64) j else 0
def mW (s:ByteArray):Nat→Int:=word s.data.toList
theorem beq_nat (a b:Nat):Nat.beq a b=decide (a=b):=by
  cases h:Nat.beq a b
  · have:a ≠ b:=fun e=>by rw [e,Nat.beq_refl] at h;cases h
    simp [this]
  · have:=Nat.eq_of_beq_eq_true h;simp [this]
theorem hW_succ (m:Nat→Int) (i:Nat) (v:Int) (hv:i < 64→v=nth (schedL m 64) i) (hi:i < 64):(fun j=>bif Nat.beq j (0+i * 1) then v else hW m i j)=hW m (i+1):=by
  funext j
  rw [beq_nat]
  unfold hW
  by_cases e:j=i
  · subst e
    simp [hv hi]
  · have:¬ j=0+i * 1:=by omega
    simp only [this,decide_false,cond_false]
    by_cases h:j < i
    · simp [h,show j < i+1 by omega]
    · simp [h,show ¬ j < i+1 by omega]
theorem val4_lt (l:List UInt8) (h:l.length≤4):Oct.val l < 4294967296:=by
  have:=Oct.val_lt l
  calc Oct.val l < 256 ^ l.length:=this
    _≤256 ^ 4:=Nat.pow_le_pow_right (by omega) h
    _=4294967296:=by decide
theorem word_extract (s:ByteArray) (i:Nat) (hs:s.size=64) (hi:i < 16):(↑(Oct.val (s.extract (4 * i) (4 * i+4)).data.toList % 4294967296):Int)=mW s i:=by
  have e:(s.extract (4 * i) (4 * i+4)).data.toList=(s.data.toList.drop (4 * i)).take 4:=by
    rw [ByteArray.data_extract,Array.toList_extract]
    simp [List.extract_eq_take_drop]
  rw [e,Nat.mod_eq_of_lt (val4_lt _ (by simp;omega))]
  rfl
theorem schA_step (s:ByteArray) (hs:s.size=64):∀ i:Nat,i≤16→i ≠ 16→(roundM Tryz.prog (onlyS Tryz.prog SSha3) noL 68 0 (loopAt Tryz.f186 0) 2 [0,10,3,2] [] [1] (schA s i (hW (mW s) i))).ok fun r=>r.1 = .normal∧∃ j,j≤16∧16 - j < 16 - i∧r.2=schA s (j:Nat) (hW (mW s) j):=by
  intro i hi hne
  rw [schA_round]
  have e1:i64.wrap (4 * (i:Int))=4 * (i:Int):=w64 _ (by omega) (by omega)
  have e2:i64.wrap (4 * (i:Int)+4)=4 * (i:Int)+4:=w64 _ (by omega) (by omega)
  have e3:i64.wrap ((i:Int)+1)=((i+1:Nat):Int):=by rw [w64 _ (by omega) (by omega)];rfl
  have hsz:(s.extract (4 * i) (4 * i+4)).size≤9223372036854775807:=by simp [ByteArray.size_extract];omega
  simp only [T.ok,e1,e2,e3,decide_eq_true_eq,decide_eq_false_iff_not]
  refine ⟨fun _=>⟨by omega,?_,by omega,by omega,trivial,i+1,by omega,by omega,?_⟩,fun h=>by omega⟩
  · rw [show (4 * (i:Int)).toNat=4 * i by omega,show (4 * (i:Int)+4).toNat=4 * i+4 by omega];exact hsz
  · rw [show (4 * (i:Int)).toNat=4 * i by omega,show (4 * (i:Int)+4).toNat=4 * i+4 by omega,Int.toNat_natCast]
    rw [hW_succ (mW s) i _ (fun _=>?_) (by omega)]
    · rfl
    · rw [word_extract s i hs (by omega),schedL_nth _ 64 i (by omega),schedL_last,if_pos (by omega)]
theorem schB_step (m:Nat→Int):∀ i:Nat,(16≤i∧i≤64)→i ≠ 64→(roundM Tryz.prog (onlyS Tryz.prog SSha3) noL 68 2 (loopAt Tryz.f186 1) 2 [5,3,2] [] [1] (schB i (hW m i))).ok fun r=>r.1 = .normal∧∃ j,(16≤j∧j≤64)∧64 - j < 64 - i∧r.2=schB (j:Nat) (hW m j):=by
  intro i hi hne
  rw [schB_round]
  have e1:i64.wrap ((i:Int) - 15)=((i - 15:Nat):Int):=by rw [w64 _ (by omega) (by omega)];omega
  have e2:i64.wrap ((i:Int) - 2)=((i - 2:Nat):Int):=by rw [w64 _ (by omega) (by omega)];omega
  have e3:i64.wrap ((i:Int) - 16)=((i - 16:Nat):Int):=by rw [w64 _ (by omega) (by omega)];omega
  have e4:i64.wrap ((i:Int) - 7)=((i - 7:Nat):Int):=by rw [w64 _ (by omega) (by omega)];omega
  have e5:i64.wrap ((i:Int)+1)=((i+1:Nat):Int):=by rw [w64 _ (by omega) (by omega)];rfl
  have hv:∀ j,j < i→hW m i (0+j * 1)=nth (schedL m i) j:=by
    intro j hj
    unfold hW
    rw [show 0+j * 1=j by omega,if_pos hj,schedL_nth _ 64 j (by omega),schedL_nth _ i j hj]
  simp only [T.ok,e1,e2,e3,e4,e5,Int.toNat_natCast,decide_eq_true_eq,decide_eq_false_iff_not]
  refine ⟨fun _=>⟨by omega,by omega,by omega,by omega,by omega,by omega,by omega,by omega,by omega,by omega,trivial,i+1,by omega,by omega,?_⟩,fun h=>by omega⟩
  rw [hW_succ m i _ (fun _=>?_) (by omega)]
  · rfl
  · rw [schedL_nth _ 64 i (by omega),schedL_last,if_neg (by omega),hv _ (by omega),hv _ (by omega),hv _ (by omega),hv _ (by omega)]
    rfl
def LSched (P:Program) (S:Tab) (fn:Func):Nat→St→Option (T (Ex×St)) :=
  addL 0 (fun st=>withStr st 0 fun s=>.need (s.size=64) (.need (st.H.length=2) (.need (st.tidy 2 [0,10,3,2] [] [1]=schA s (0:Nat) (hW (mW s) 0)) ((roundM P (onlyS P S) noL 68 0 (loopAt fn 0) 2 [0,10,3,2] [] [1] (closeAt [10] (schA s (16:Nat) (hW (mW s) 16)))).bind (lastX 0)))))
  (addL 2 (fun st=>withStr st 0 fun s=>.need (st.H.length=2) (.need (st.tidy 2 [5,3,2] [] [1]=schB (16:Nat) (hW (mW s) 16)) ((roundM P (onlyS P S) noL 68 2 (loopAt fn 1) 2 [5,3,2] [] [1] (closeAt [5] (schB (64:Nat) (hW (mW s) 64)))).bind (lastX 2)))) noL)
set_option maxHeartbeats 1000000 in
set_option maxRecDepth 100000 in
theorem schedule_run (s:ByteArray):runV Tryz.prog (onlyS Tryz.prog SSha3) (LSched Tryz.prog SSha3 Tryz.f186) Tryz.f186 [.string s] =
 letI q:SV:=.v (.int .u32 0);
 letI q0:=(0:Int);
 letI q1:=mW s;
 letI q2:Blk:=.own [q,q,q,q,q,q,q,q,q,q,q,q,q,q,q,q,q,q,q,q,q,q,q,q,q,q,q,q,q,q,q,q,q,q,q,q,q,q,q,q,q,q,q,q,q,q,q,q,q,q,q,q,q,q,q,q,q,q,q,q,q,q,q,q];
 letI q3:=(3,some (.ptr 1 0));
 letI q4:=(2,some (.ptr 0 0));
 .need (s.size=64) (.need (2=2) (.need (St.mk [(0,some (.v (.string s))),(10,some (.v (.int .i64 0))),q3,q4] [q2,Blk.arr u32 64 (nth [q0,q0,q0,q0,q0,q0,q0,q0,q0,q0,q0,q0,q0,q0,q0,q0,q0,q0,q0,q0,q0,q0,q0,q0,q0,q0,q0,q0,q0,q0,q0,q0,q0,q0,q0,q0,q0,q0,q0,q0,q0,q0,q0,q0,q0,q0,q0,q0,q0,q0,q0,q0,q0,q0,q0,q0,q0,q0,q0,q0,q0,q0,q0,q0])]=schA s q0 (hW q1 0)) (.need (2=2) (.need (St.mk [(5,some (.v (.int .i64 16))),q3,q4] [q2,Blk.arr u32 64 (hW q1 16)]=schB (16:Int) (hW q1 16)) (.leaf (Value.agg (Array.mk [Value.int u32 (hW q1 64 0),Value.int u32 (hW q1 64 1),Value.int u32 (hW q1 64 2),Value.int u32 (hW q1 64 3),Value.int u32 (hW q1 64 4),Value.int u32 (hW q1 64 5),Value.int u32 (hW q1 64 6),Value.int u32 (hW q1 64 7),Value.int u32 (hW q1 64 8),Value.int u32 (hW q1 64 9),Value.int u32 (hW q1 64 10),Value.int u32 (hW q1 64 11),Value.int u32 (hW q1 64 12),Value.int u32 (hW q1 64 13),Value.int u32 (hW q1 64 14),Value.int u32 (hW q1 64 15),Value.int u32 (hW q1 64 16),Value.int u32 (hW q1 64 17),Value.int u32 (hW q1 64 18),Value.int u32 (hW q1 64 19),Value.int u32 (hW q1 64 20),Value.int u32 (hW q1 64 21),Value.int u32 (hW q1 64 22),Value.int u32 (hW q1 64 23),Value.int u32 (hW q1 64 24),Value.int u32 (hW q1 64 25),Value.int u32 (hW q1 64 26),Value.int u32 (hW q1 64 27),Value.int u32 (hW q1 64 28),Value.int u32 (hW q1 64 29),Value.int u32 (hW q1 64 30),Value.int u32 (hW q1 64 31),Value.int u32 (hW q1 64 32),Value.int u32 (hW q1 64 33),Value.int u32 (hW q1 64 34),Value.int u32 (hW q1 64 35),Value.int u32 (hW q1 64 36),Value.int u32 (hW q1 64 37),Value.int u32 (hW q1 64 38),Value.int u32 (hW q1 64 39),Value.int u32 (hW q1 64 40),Value.int u32 (hW q1 64 41),Value.int u32 (hW q1 64 42),Value.int u32 (hW q1 64 43),Value.int u32 (hW q1 64 44),Value.int u32 (hW q1 64 45),Value.int u32 (hW q1 64 46),Value.int u32 (hW q1 64 47),Value.int u32 (hW q1 64 48),Value.int u32 (hW q1 64 49),Value.int u32 (hW q1 64 50),Value.int u32 (hW q1 64 51),Value.int u32 (hW q1 64 52),Value.int u32 (hW q1 64 53),Value.int u32 (hW q1 64 54),Value.int u32 (hW q1 64 55),Value.int u32 (hW q1 64 56),Value.int u32 (hW q1 64 57),Value.int u32 (hW q1 64 58),Value.int u32 (hW q1 64 59),Value.int u32 (hW q1 64 60),Value.int u32 (hW q1 64 61),Value.int u32 (hW q1 64 62),Value.int u32 (hW q1 64 63)]))))))):=by kernel_rfl
theorem hW_zero (m:Nat→Int):nth (List.replicate 64 0)=hW m 0:=by
  funext j
  unfold nth hW
  rw [if_neg (by omega),List.getD_eq_getElem?_getD,List.getElem?_replicate]
  split <;> rfl
theorem arrCells_congr {k:IntKind} {n:Nat} {f g:Nat→Int} (h:∀ j,j < n→f j=g j):arrCells k n f=arrCells k n g:=by
  unfold arrCells
  congr 1
  apply List.map_congr_left
  intro j hj
  rw [h j (List.mem_range.1 hj)]
theorem sha_schedule (s:ByteArray) (hs:s.size=64) (w:World):Calls Tryz.prog 186 #[.string s] w fun e w'=>e = .returned (.agg (arrCells .u32 64 (nth (sched s.data.toList))))∧Below w.heap.size w w':=by
  refine calls_runV (onlyS_ok SSha3_ok) follows Tryz.func186 (by kernel_rfl) (by kernel_rfl) (two_loops (b1:=loopAt Tryz.f186 0) (b2:=loopAt Tryz.f186 1) (id1:=0) (id2:=2) (by kernel_rfl) (fun st t h=>?_) (fun st t h=>?_)) (schedule_run s) ?_ w
  · rw [addL_same h]
    refine .str fun s=>.need fun hs=>loop_cnt (onlyS_ok SSha3_ok) follows (by kernel_rfl) (noloops (by kernel_rfl)) (fun i:Nat=>i≤16) (fun i=>schA s i (hW (mW s) i)) (fun i=>16 - i) 2 [0,10,3,2] [] [1] 16 [10] (schA_step s hs) (Nat.zero_le _)
  · rw [addL_same (addL_other (by decide) h)]
    refine .str fun s=>loop_cnt (onlyS_ok SSha3_ok) follows (by kernel_rfl) (noloops (by kernel_rfl)) (fun i:Nat=>16≤i∧i≤64) (fun i=>schB i (hW (mW s) i)) (fun i=>64 - i) 2 [5,3,2] [] [1] 64 [5] (schB_step (mW s)) (by omega)
  · have e:arrCells .u32 64 (nth (sched s.data.toList))=arrCells .u32 64 (hW (mW s) 64):=arrCells_congr fun j hj=>by unfold hW;rw [if_pos hj];rfl
    rw [e]
    simp only [T.ok,hs,true_and]
    refine ⟨?_,rfl,rfl⟩
    rw [show ([0,0,0,0,0,0,0,0,0,0,0,0,0,0,0,0,0,0,0,0,0,0,0,0,0,0,0,0,0,0,0,0,0,0,0,0,0,0,0,0,0,0,0,0,0,0,0,0,0,0,0,0,0,0,0,0,0,0,0,0,0,0,0,0]:List Int)=List.replicate 64 0 from rfl,hW_zero (mW s)]
    rfl
def hv (h:H8):Value:=.agg #[.int .u32 h.a,.int .u32 h.b,.int .u32 h.c,.int .u32 h.d,.int .u32 h.e,.int .u32 h.f,.int .u32 h.g,.int .u32 h.h]
def hc (h:H8):List SV:=[.v (.int .u32 h.a),.v (.int .u32 h.b),.v (.int .u32 h.c),.v (.int .u32 h.d),.v (.int .u32 h.e),.v (.int .u32 h.f),.v (.int .u32 h.g),.v (.int .u32 h.h)]
def withH8 {α:Type} (st:St) (j:Nat) (k:H8→T α):T α:=match st.H[j]? with
  | some (.own cells)=>(match intsOf cells with
    | some (.u32,[a,b,c,d,e,f,g,h])=>k ⟨a,b,c,d,e,f,g,h⟩
    | _=>.stuck 162)
  | _=>.stuck 163
theorem runH8 {P:Program} {N:Nat} {c:Code} {st:St} {t:Nat} {k:H8→T (Ex×St)} (h:∀ s,RunOk P N c st (k s)):RunOk P N c st (withH8 st t k):=by
  unfold withH8;split
  · split
    · exact h _
    · exact .stuck
  · exact .stuck
def z8:List SV:=List.replicate 8 (.v (.int .u32 0))
def stW (h v:H8) (ws:Nat→Int) (i:Int):St:=⟨[(19,some (.v (.agg (arrCells .u32 64 ws)))),(20,some (.v (.int .i64 i))),(2,some (.ptr 0 0)),(4,some (.ptr 1 0)),(5,some (.ptr 2 0))],[.own (hc h),.own z8,.own (hc v)]⟩
def tSched:List Value→Option (List Prop×Value) | [.string s]=>some ([s.size=64],.agg (arrCells .u32 64 (nth (sched s.data.toList)))) | _=>none
def SSha4:Tab:=addS 186 tSched SSha3
theorem SSha4_ok:TabOk Tryz.prog SSha4:=addS_ok SSha3_ok (by kernel_rfl) (by (intro xs p v h hp w;unfold tSched at h;(split at h) <;> first | (cases h;done) | (simp only [Option.some.injEq,Prod.mk.injEq] at h;obtain ⟨rfl,rfl⟩:=h;exact sha_schedule _ (hp _ (List.mem_cons_self ..)) w)))
set_option maxRecDepth 100000 in
theorem stW_round (h v:H8) (ws:Nat→Int) (i:Int):roundM Tryz.prog (onlyS Tryz.prog SSha4) noL 109 0 (loopAt Tryz.f183 0) 3 [19,20,2,4,5] [] [] (stW h v ws i) =
 letI q0:=(4294967296:Int);
 letI q3:=arrCells u32 64 ws;
 letI q:=u32.wrap (u32.wrap (u32.wrap (v.8+u32.wrap (↑(Nat.bitwise bne (u32.wrap (↑(Nat.bitwise bne (rorN v.5 6 % q0).toNat (rorN v.5 11 % q0).toNat):Int) % q0).toNat (rorN v.5 25 % q0).toNat):Int))+u32.wrap (↑(Nat.bitwise bne (u32.wrap (↑(Nat.bitwise Bool.and (v.5 % q0).toNat (v.6 % q0).toNat):Int) % q0).toNat (u32.wrap (↑(Nat.bitwise Bool.and (u32.wrap (↑(Nat.bitwise bne 4294967295 (v.5 % q0).toNat):Int) % q0).toNat (v.7 % q0).toNat):Int) % q0).toNat):Int))+nth [(1116352408:Int),(1899447441:Int),(3049323471:Int),(3921009573:Int),(961987163:Int),(1508970993:Int),(2453635748:Int),(2870763221:Int),(3624381080:Int),(310598401:Int),(607225278:Int),(1426881987:Int),(1925078388:Int),(2162078206:Int),(2614888103:Int),(3248222580:Int),(3835390401:Int),(4022224774:Int),(264347078:Int),(604807628:Int),(770255983:Int),(1249150122:Int),(1555081692:Int),(1996064986:Int),(2554220882:Int),(2821834349:Int),(2952996808:Int),(3210313671:Int),(3336571891:Int),(3584528711:Int),(113926993:Int),(338241895:Int),(666307205:Int),(773529912:Int),(1294757372:Int),(1396182291:Int),(1695183700:Int),(1986661051:Int),(2177026350:Int),(2456956037:Int),(2730485921:Int),(2820302411:Int),(3259730800:Int),(3345764771:Int),(3516065817:Int),(3600352804:Int),(4094571909:Int),(275423344:Int),(430227734:Int),(506948616:Int),(659060556:Int),(883997877:Int),(958139571:Int),(1322822218:Int),(1537002063:Int),(1747873779:Int),(1955562222:Int),(2024104815:Int),(2227730452:Int),(2361852424:Int),(2428436474:Int),(2756734187:Int),(3204031479:Int),(3329325298:Int)] i.toNat)+intV (cellOf q3 i.toNat);
 letI q1:SV:=.v (.int .u32 0);
 letI q2:Blk:=.own [.v (.int .u32 h.1),.v (.int .u32 h.2),.v (.int .u32 h.3),.v (.int .u32 h.4),.v (.int .u32 h.5),.v (.int .u32 h.6),.v (.int .u32 h.7),.v (.int .u32 h.8)];
 letI q4:=(0:Int);
 letI q5:=(↑8:Int);
 letI q6:=(19,some (SV.v (Value.agg q3)));
 letI q7:Blk:=.own [q1,q1,q1,q1,q1,q1,q1,q1];
 letI q8:=(2,some (.ptr 0 0));
 letI q9:=(4,some (.ptr 1 0));
 letI p:=(5,some (.ptr 2 0));
 .ite (decide (i < (64:Int))) (.need (q4≤i∧i < (↑64:Int)) (.need (cellIs q3 i.toNat (Ki.int u32)) (.need (q4≤q4∧q4 < q5) (.need (q4≤(1:Int)∧(1:Int) < q5) (.need (q4≤(2:Int)∧(2:Int) < q5) (.need (q4≤(4:Int)∧(4:Int) < q5) (.need (q4≤(5:Int)∧(5:Int) < q5) (.need (q4≤(6:Int)∧(6:Int) < q5) (.need (q4≤(7:Int)∧(7:Int) < q5) (.need (q4≤i∧i < (64:Int)) (.need (q4≤(3:Int)∧(3:Int) < q5) (.leaf (Ex.normal,St.mk [q6,(20,some (.v (.int .i64 (i64.wrap (i+(1:Int)))))),q8,q9,p] [q2,q7,.own [.v (.int .u32 (u32.wrap (u32.wrap q+u32.wrap (u32.wrap (↑(Nat.bitwise bne (u32.wrap (↑(Nat.bitwise bne (rorN v.1 2 % q0).toNat (rorN v.1 13 % q0).toNat):Int) % q0).toNat (rorN v.1 22 % q0).toNat):Int)+u32.wrap (↑(Nat.bitwise bne (u32.wrap (↑(Nat.bitwise bne (u32.wrap (↑(Nat.bitwise Bool.and (v.1 % q0).toNat (v.2 % q0).toNat):Int) % q0).toNat (u32.wrap (↑(Nat.bitwise Bool.and (v.1 % q0).toNat (v.3 % q0).toNat):Int) % q0).toNat):Int) % q0).toNat (u32.wrap (↑(Nat.bitwise Bool.and (v.2 % q0).toNat (v.3 % q0).toNat):Int) % q0).toNat):Int))))),.v (.int .u32 v.1),.v (.int .u32 v.2),.v (.int .u32 v.3),.v (.int .u32 (u32.wrap (v.4+u32.wrap q))),.v (.int .u32 v.5),.v (.int .u32 v.6),.v (.int .u32 v.7)]]))))))))))))) (.leaf (Ex.exit 0,St.mk [q6,(20,some (.v (.int .i64 i))),q8,q9,p] [q2,q7,.own [.v (.int .u32 v.1),.v (.int .u32 v.2),.v (.int .u32 v.3),.v (.int .u32 v.4),.v (.int .u32 v.5),.v (.int .u32 v.6),.v (.int .u32 v.7),.v (.int .u32 v.8)]])):=by kernel_rfl
theorem arr_cell (k:IntKind) (n:Nat) (f:Nat→Int) (i:Nat) (h:i < n):(arrCells k n f)[i]?=some (.int k (f i)):=by simp [arrCells,h]
theorem arr_cellOf (k:IntKind) (n:Nat) (f:Nat→Int) (i:Nat) (h:i < n):cellOf (arrCells k n f) i = .int k (f i):=by
  unfold cellOf;rw [Array.getD_eq_getD_getElem?,arr_cell k n f i h];rfl
theorem arr_cellIs (k:IntKind) (n:Nat) (f:Nat→Int) (i:Nat) (h:i < n):cellIs (arrCells k n f) i (.int k):=by
  unfold cellIs;rw [arr_cell k n f i h,arr_cellOf k n f i h];rfl
theorem stW_step (h:H8) (ws:List Int):∀ i:Nat,i≤64→i ≠ 64→(roundM Tryz.prog (onlyS Tryz.prog SSha4) noL 109 0 (loopAt Tryz.f183 0) 3 [19,20,2,4,5] [] [] (stW h (rnds ws i h) (nth ws) i)).ok fun r=>r.1 = .normal∧∃ j,j≤64∧64 - j < 64 - i∧r.2=stW h (rnds ws j h) (nth ws) (j:Nat):=by
  intro i hi hne
  rw [stW_round]
  have e3:i64.wrap ((i:Int)+1)=((i+1:Nat):Int):=by rw [w64 _ (by omega) (by omega)];rfl
  have e4:intV (cellOf (arrCells .u32 64 (nth ws)) i)=nth ws i:=by rw [arr_cellOf _ _ _ _ (by omega)];rfl
  simp only [T.ok,e3,Int.toNat_natCast,e4,decide_eq_true_eq,decide_eq_false_iff_not]
  refine ⟨fun _=>⟨by omega,arr_cellIs _ _ _ _ (by omega),by omega,by omega,by omega,by omega,by omega,by omega,by omega,by omega,by omega,trivial,i+1,by omega,by omega,?_⟩,fun h=>by omega⟩
  rfl
def LWith (P:Program) (S:Tab) (fn:Func):Nat→St→Option (T (Ex×St)) :=
  addL 0 (fun st=>withStr st 1 fun s=>withH8 st 0 fun h=>.need (st.H.length=3) (.need (st.tidy 3 [19,20,2,4,5] [] []=stW h (rnds (sched s.data.toList) 0 h) (nth (sched s.data.toList)) (0:Nat)) ((roundM P (onlyS P S) noL 109 0 (loopAt fn 0) 3 [19,20,2,4,5] [] [] (closeAt [20] (stW h (rnds (sched s.data.toList) 64 h) (nth (sched s.data.toList)) (64:Nat)))).bind (lastX 0))))
  (addL 2 (unrollB (runC P (onlyS P S) noL 109 (loopAt fn 1)) 2 9) noL)
set_option maxRecDepth 100000 in
theorem with_run (h:H8) (s:ByteArray):runV Tryz.prog (onlyS Tryz.prog SSha4) (LWith Tryz.prog SSha4 Tryz.f183) Tryz.f183 [hv h,.string s] =
 letI q7:=(0:Int);
 letI p3:=(1:Int);
 letI q1:=i64.wrap (q7+p3)+p3;
 letI p4:=i64.wrap q1+p3;
 letI q:=i64.wrap p4+p3;
 letI p5:=i64.wrap q+p3;
 letI q0:=i64.wrap p5+p3;
 letI p7:=sched s.data.toList;
 letI q2:=rnds p7 64 (H8.mk h.a h.b h.c h.d h.e h.f h.g h.h);
 letI q9:=(↑8:Int);
 letI q3:=q7≤i64.wrap p4∧i64.wrap p4 < q9;
 letI p8:=i64.wrap q0+p3;
 letI q4:=q7≤i64.wrap p8∧i64.wrap p8 < q9;
 letI q5:=q7≤i64.wrap p5∧i64.wrap p5 < q9;
 letI q6:=q7≤i64.wrap (q7+p3)∧i64.wrap (q7+p3) < q9;
 letI q8:Blk:=.own [.v (.int .u32 h.1),.v (.int .u32 h.2),.v (.int .u32 h.3),.v (.int .u32 h.4),.v (.int .u32 h.5),.v (.int .u32 h.6),.v (.int .u32 h.7),.v (.int .u32 h.8)];
 letI p:=q7≤i64.wrap q1∧i64.wrap q1 < q9;
 letI p0:=q7≤i64.wrap q0∧i64.wrap q0 < q9;
 letI p1:=q7≤i64.wrap q∧i64.wrap q < q9;
 letI p2:SV:=.v (.int .u32 0);
 letI p6:=q7≤q7∧q7 < q9;
 .need (s.size=64) (.need (3=3) (.need (St.mk [(19,some (SV.v (Value.agg (arrCells u32 64 (nth p7))))),(20,some (.v (.int .i64 0))),(2,some (.ptr 0 0)),(4,some (.ptr 1 0)),(5,some (.ptr 2 0))] [q8,.own [p2,p2,p2,p2,p2,p2,p2,p2],q8]=stW h (rnds (sched s.1.toList) 0 h) (nth p7) q7) (.need p6 (.need p6 (.need p6 (.need q6 (.need q6 (.need q6 (.need p (.need p (.need p (.need q3 (.need q3 (.need q3 (.need p1 (.need p1 (.need p1 (.need q5 (.need q5 (.need q5 (.need p0 (.need p0 (.need p0 (.need q4 (.need q4 (.need q4 (.leaf (Value.agg (Array.mk [Value.int u32 (u32.wrap (q2.1+h.1)),Value.int u32 (u32.wrap (q2.2+h.2)),Value.int u32 (u32.wrap (q2.3+h.3)),Value.int u32 (u32.wrap (q2.4+h.4)),Value.int u32 (u32.wrap (q2.5+h.5)),Value.int u32 (u32.wrap (q2.6+h.6)),Value.int u32 (u32.wrap (q2.7+h.7)),Value.int u32 (u32.wrap (q2.8+h.8))]))))))))))))))))))))))))))))):=by kernel_rfl
theorem sha_with (h:H8) (s:ByteArray) (hs:s.size=64) (w:World):Calls Tryz.prog 183 #[hv h,.string s] w fun e w'=>e = .returned (hv (blockH h s.data.toList))∧Below w.heap.size w w':=by
  refine calls_runV (onlyS_ok SSha4_ok) follows Tryz.func183 (by kernel_rfl) (by kernel_rfl) (two_loops (b1:=loopAt Tryz.f183 0) (b2:=loopAt Tryz.f183 1) (id1:=0) (id2:=2) (by kernel_rfl) (fun st t h=>?_) (fun st t h=>?_)) (with_run h s) ?_ w
  · rw [addL_same h]
    refine .str fun s=>runH8 fun h=>loop_cnt (onlyS_ok SSha4_ok) follows (by kernel_rfl) (noloops (by kernel_rfl)) (fun i:Nat=>i≤64) (fun i=>stW h (rnds (sched s.data.toList) i h) (nth (sched s.data.toList)) i) (fun i=>64 - i) 3 [19,20,2,4,5] [] [] 64 [20] (stW_step h _) (Nat.zero_le _)
  · rw [addL_same (addL_other (by decide) h)]
    exact unroll_ok (onlyS_ok SSha4_ok) follows (by kernel_rfl) (noloops (by kernel_rfl)) 9 st
  · simp only [T.ok,hs,true_and]
    refine ⟨rfl,?_⟩
    and_intros <;> first | decide | rfl
def LText (P:Program) (S:Tab) (fn:Func):Nat→St→Option (T (Ex×St)):=addL 0 (unrollB (runC P (onlyS P S) noL fn.ntmps (loopAt fn 0)) 0 9) noL
set_option maxRecDepth 100000 in
theorem text_run (h:H8):runV Tryz.prog (onlyS Tryz.prog SSha4) (LText Tryz.prog SSha4 Tryz.f177) Tryz.f177 [hv h] =
 letI q:=(4:Int);
 letI q1:=Oct.put (ByteArray.mk #[]) h.a q;
 letI q0:=Oct.put (Oct.put q1 h.b q) h.c q;
 letI q2:=Oct.put (Oct.put q0 h.d q) h.e q;
 letI q3:=(0:Int);
 letI q4:=(8:Int);
 .need (q3≤q∧q≤q4∧(ByteArray.mk #[]).size≤1099511627776) (.need (q3≤q∧q≤q4∧q1.size≤1099511627776) (.need (q3≤q∧q≤q4∧(Oct.put q1 h.b q).size≤1099511627776) (.need (q3≤q∧q≤q4∧q0.size≤1099511627776) (.need (q3≤q∧q≤q4∧(Oct.put q0 h.d q).size≤1099511627776) (.need (q3≤q∧q≤q4∧q2.size≤1099511627776) (.need (q3≤q∧q≤q4∧(Oct.put q2 h.f q).size≤1099511627776) (.need (q3≤q∧q≤q4∧(Oct.put (Oct.put q2 h.f q) h.g q).size≤1099511627776) (.leaf (Value.string (Oct.put (Oct.put (Oct.put (Oct.put (Oct.put (Oct.put (Oct.put (Oct.put (ByteArray.mk (Array.mk [])) h.1 q) h.2 q) h.3 q) h.4 q) h.5 q) h.6 q) h.7 q) h.8 q)))))))))):=by kernel_rfl
theorem sha_text (h:H8) (w:World):Calls Tryz.prog 177 #[hv h] w fun e w'=>e = .returned (.string (ba (txt h)))∧Below w.heap.size w w':=by
  refine calls_runV (onlyS_ok SSha4_ok) follows Tryz.func177 (by kernel_rfl) (by kernel_rfl) (one_loop (b:=loopAt Tryz.f177 0) (id:=0) (by kernel_rfl) fun st t h=>(by rw [addL_same h];exact unroll_ok (onlyS_ok SSha4_ok) follows (by kernel_rfl) (noloops (by kernel_rfl)) 9 st)) (text_run h) ?_ w
  have z0:(ByteArray.mk #[]).size=0:=rfl
  simp only [T.ok,Oct.put_size,z0]
  and_intros
  all_goals first | decide | rfl
def tWith:List Value→Option (List Prop×Value)
  | [.agg ⟨[.int .u32 a,.int .u32 b,.int .u32 c,.int .u32 d,.int .u32 e,.int .u32 f,.int .u32 g,.int .u32 h]⟩,.string s]=>some ([s.size=64],hv (blockH ⟨a,b,c,d,e,f,g,h⟩ s.data.toList))
  | _=>none
def tText:List Value→Option (List Prop×Value)
  | [.agg ⟨[.int .u32 a,.int .u32 b,.int .u32 c,.int .u32 d,.int .u32 e,.int .u32 f,.int .u32 g,.int .u32 h]⟩]=>some ([],.string (ba (txt ⟨a,b,c,d,e,f,g,h⟩)))
  | _=>none
def SSha5:Tab:=addS 183 tWith (addS 177 tText SSha4)
theorem SSha5_ok:TabOk Tryz.prog SSha5:=addS_ok (addS_ok SSha4_ok (by kernel_rfl) (by (intro xs p v h hp w;unfold tText at h;(split at h) <;> first | (cases h;done) | (simp only [Option.some.injEq,Prod.mk.injEq] at h;obtain ⟨rfl,rfl⟩:=h;exact sha_text _ w)))) (by kernel_rfl) (by (intro xs p v h hp w;unfold tWith at h;(split at h) <;> first | (cases h;done) | (simp only [Option.some.injEq,Prod.mk.injEq] at h;obtain ⟨rfl,rfl⟩:=h;exact sha_with _ _ (hp _ (List.mem_cons_self ..)) w)))
def stC (h:H8) (r:ByteArray) (n:Int):List SV:=[.v (.int .u32 h.a),.v (.int .u32 h.b),.v (.int .u32 h.c),.v (.int .u32 h.d),.v (.int .u32 h.e),.v (.int .u32 h.f),.v (.int .u32 h.g),.v (.int .u32 h.h),.v (.string r),.v (.int .i64 n)]
def stB (h:H8) (r:ByteArray) (n:Int):St:=⟨[(0,some (.ptr 0 0))],[.own (stC h r n)]⟩
set_option maxRecDepth 100000 in
theorem stB_round (h:H8) (r:ByteArray) (n:Int):roundM Tryz.prog (onlyS Tryz.prog SSha5) noL 29 0 (loopAt Tryz.f175 0) 1 [0] [] [] (stB h r n) =
 letI q2:=(0:Int);
 letI q1:=(64:Int);
 letI q:=blockH h (r.extract (Int.toNat q2) (Int.toNat q1)).1.toList;
 letI q0:=(↑r.size:Int);
 letI q3:=[(0,some (.ptr 0 0))];
 .ite (decide (q0 ≥ q1)) (.need (q2≤q2∧q2≤q1∧q1≤q0) (.need ((r.extract 0 64).size=64) (.need (q2≤q1∧q1≤q0∧q0≤q0) (.leaf (Ex.normal,St.mk q3 [.own [.v (.int .u32 q.a),.v (.int .u32 q.b),.v (.int .u32 q.c),.v (.int .u32 q.d),.v (.int .u32 q.e),.v (.int .u32 q.f),.v (.int .u32 q.g),.v (.int .u32 q.h),.v (.string (r.extract 64 q0.toNat)),.v (.int .i64 n)]]))))) (.leaf (Ex.exit 0,St.mk q3 [.own [.v (.int .u32 h.a),.v (.int .u32 h.b),.v (.int .u32 h.c),.v (.int .u32 h.d),.v (.int .u32 h.e),.v (.int .u32 h.f),.v (.int .u32 h.g),.v (.int .u32 h.h),.v (.string r),.v (.int .i64 n)]])):=by kernel_rfl
def withSt {α:Type} (st:St) (j:Nat) (k:H8→ByteArray→Int→T α):T α:=match st.H[j]? with
  | some (.own cells)=>(match plains cells with
    | some [.int .u32 a,.int .u32 b,.int .u32 c,.int .u32 d,.int .u32 e,.int .u32 f,.int .u32 g,.int .u32 h,.string r,.int .i64 n]=>k ⟨a,b,c,d,e,f,g,h⟩ r n
    | _=>.stuck 162)
  | _=>.stuck 163
theorem runSt {P:Program} {N:Nat} {c:Code} {st:St} {t:Nat} {k:H8→ByteArray→Int→T (Ex×St)} (h:∀ s r n,RunOk P N c st (k s r n)):RunOk P N c st (withSt st t k):=by
  unfold withSt;split
  · split
    · exact h _ _ _
    · exact .stuck
  · exact .stuck
def stI (h:H8) (r:List UInt8) (n:Int) (i:Nat):St:=stB (foldB i h r) (ba (r.drop (64 * i))) n
theorem foldB_succ (i:Nat) (h:H8) (l:List UInt8):foldB (i+1) h l=blockH (foldB i h l) ((l.drop (64 * i)).take 64):=by rw [foldB_add];rfl
theorem stI_step (h:H8) (r:List UInt8) (n:Int):∀ i:Nat,i≤r.length / 64→i ≠ r.length / 64→(roundM Tryz.prog (onlyS Tryz.prog SSha5) noL 29 0 (loopAt Tryz.f175 0) 1 [0] [] [] (stI h r n i)).ok fun x=>x.1 = .normal∧∃ j,j≤r.length / 64∧r.length / 64 - j < r.length / 64 - i∧x.2=stI h r n j:=by
  intro i hi hne
  rw [stI,stB_round]
  have hl:(ba (r.drop (64 * i))).size=r.length - 64 * i:=by rw [ba_len,List.length_drop]
  simp only [T.ok,hl,decide_eq_true_eq,decide_eq_false_iff_not,ba_extract,ba_len,List.length_take,List.length_drop]
  refine ⟨fun _=>⟨by omega,by omega,by omega,trivial,i+1,by omega,by omega,?_⟩,fun h=>by omega⟩
  have e1:(List.take (Int.toNat 64 - Int.toNat 0) (List.drop (Int.toNat 0) (List.drop (64 * i) r)))=(r.drop (64 * i)).take 64:=rfl
  have e2:ba (List.take (((r.length - 64 * i:Nat):Int).toNat - 64) (List.drop 64 (List.drop (64 * i) r)))=ba (r.drop (64 * (i+1))):=by
    rw [List.drop_drop,List.take_of_length_le (by rw [List.length_drop];omega)]
    congr 2
  rw [e2]
  unfold stI
  rw [foldB_succ]
  rfl
def LBlocks (P:Program) (S:Tab) (fn:Func):Nat→St→Option (T (Ex×St)) :=
  addL 0 (fun st=>withSt st 0 fun h r n=>.need (st.H.length=1) (.need (st.tidy 1 [0] [] []=stI h r.data.toList n 0) ((roundM P (onlyS P S) noL 29 0 (loopAt fn 0) 1 [0] [] [] (closeAt [] (stI h r.data.toList n (r.data.toList.length / 64)))).bind (lastX 0)))) noL
set_option maxRecDepth 100000 in
theorem blocks_run (h:H8) (r:ByteArray) (n:Int):runF Tryz.prog (onlyS Tryz.prog SSha5) (LBlocks Tryz.prog SSha5 Tryz.f175) Tryz.f175 (Tryz.f175.body.getD .skip) [.ptr 0 0] [.own (stC h r n)] =
 letI q:=foldB (r.1.toList.length.div 64) h r.1.toList;
 letI q0:=(↑(ba (List.drop (64 * (r.data.toList.length / 64)) r.data.toList)).size:Int);
 letI q1:=ba (List.drop (64 * r.1.toList.length.div 64) r.1.toList);
 letI q2:=(64:Int);
 letI q3:=(0:Int);
 .need (1=1) (.need (St.mk [(0,some (.ptr 0 0))] [.own [.v (.int .u32 h.a),.v (.int .u32 h.b),.v (.int .u32 h.c),.v (.int .u32 h.d),.v (.int .u32 h.e),.v (.int .u32 h.f),.v (.int .u32 h.g),.v (.int .u32 h.h),.v (.string r),.v (.int .i64 n)]]=stI h r.1.toList n 0) (.ite (decide ((↑q1.size:Int) ≥ q2)) (.need (q3≤q3∧q3≤q2∧q2≤q0) (.need ((q1.extract 0 64).size=64) (.need (q3≤q2∧q2≤q0∧q0≤q0) (T.stuck 39)))) (.leaf (SV.v (Value.tuple (Array.mk [])),[.own [.v (.int .u32 q.a),.v (.int .u32 q.b),.v (.int .u32 q.c),.v (.int .u32 q.d),.v (.int .u32 q.e),.v (.int .u32 q.f),.v (.int .u32 q.g),.v (.int .u32 q.h),.v (.string q1),.v (.int .i64 n)]])))):=by kernel_rfl
def fBlocks:List SV→List Blk→Option (T (SV×List Blk))
  | [.ptr 0 0],[.own [.v (.int .u32 a),.v (.int .u32 b),.v (.int .u32 c),.v (.int .u32 d),.v (.int .u32 e),.v (.int .u32 f),.v (.int .u32 g),.v (.int .u32 h),.v (.string r),.v (.int .i64 n)]] =>
    some (.leaf (.v (.tuple #[]),[.own (stC (foldA ⟨a,b,c,d,e,f,g,h⟩ r.data.toList) (ba (restA r.data.toList)) n)]))
  | _,_=>none
set_option maxRecDepth 100000 in
theorem fBlocks_ok:EntryOk Tryz.prog 175 fBlocks:=by
  intro ss H t ht bs B w vs hm hv Qs hq
  unfold fBlocks at ht
  split at ht
  · rename_i a b c d e f g h r n
    simp only [Option.some.injEq] at ht
    subst ht
    refine tree_ok (onlyS_ok SSha5_ok) follows Tryz.func175 (by kernel_rfl) (by kernel_rfl) (one_loop (b:=loopAt Tryz.f175 0) (id:=0) (by kernel_rfl) fun st t h=>?_) (blocks_run ⟨a,b,c,d,e,f,g,h⟩ r n) (fun Qs h=>?_) hm hv hq
    · rw [addL_same h]
      exact runSt fun h r n=>loop_cnt (onlyS_ok SSha5_ok) follows (by kernel_rfl) (noloops (by kernel_rfl)) (fun i:Nat=>i≤r.data.toList.length / 64) (fun i=>stI h r.data.toList n i) (fun i=>r.data.toList.length / 64 - i) 1 [0] [] [] (r.data.toList.length / 64) [] (stI_step h _ n) (Nat.zero_le _)
    · have hl:(ba (List.drop (64 * (r.data.toList.length / 64)) r.data.toList)).size < 64:=by rw [ba_len,List.length_drop];omega
      refine ⟨rfl,?_,(fun e=>?_),fun _=>h⟩
      · show stB _ r n=stI _ _ _ 0
        unfold stI
        rw [Nat.mul_zero,List.drop_zero,ba_of];rfl
      · have e:=of_decide_eq_true e
        have hl':(ba (List.drop (64 * (r.data.toList.length / 64)) r.data.toList)).size ≥ 64:=by exact Int.ofNat_le.1 e
        omega
  · cases ht
def FSha1:LTab:=addF 175 fBlocks noF
theorem FSha1_ok:LOk Tryz.prog FSha1:=addF_ok noF_ok (by kernel_rfl) fBlocks_ok
def tRepeat:List Value→Option (List Prop×Value)
  | [.string s,.int .i64 k]=>some ([0≤k∧k≤9223372036854775807∧s.size * k.toNat≤140737488355328],.string (ba (Lib.repeatL s.data.toList k.toNat)))
  | _=>none
theorem repeat_tab (s:ByteArray) (k:Int) (h:0≤k∧k≤9223372036854775807∧s.size * k.toNat≤140737488355328) (w:World):Calls Tryz.prog 142 #[.string s,.int .i64 k] w fun e w'=>e = .returned (.string (ba (Lib.repeatL s.data.toList k.toNat)))∧Below w.heap.size w w':=by
  obtain ⟨n,rfl⟩:=Int.eq_ofNat_of_zero_le h.1
  exact Tryz.strings_Repeat s n w (by omega) h.2.2
theorem repeatL_one (x:UInt8) (n:Nat):Lib.repeatL [x] n=List.replicate n x:=by
  induction n with
  | zero=>rfl
  | succ n ih=>rw [Lib.repeatL,ih,List.replicate_succ];rfl
def SSha6:Tab:=addS 142 tRepeat SSha5
theorem SSha6_ok:TabOk Tryz.prog SSha6:=addS_ok SSha5_ok (by kernel_rfl) (by (intro xs p v h hp w;unfold tRepeat at h;(split at h) <;> first | (cases h;done) | (simp only [Option.some.injEq,Prod.mk.injEq] at h;obtain ⟨rfl,rfl⟩:=h;exact repeat_tab _ _ (hp _ (List.mem_cons_self ..)) w)))
set_option maxRecDepth 100000 in
theorem sum_run (h:H8) (r:ByteArray) (n:Int):runF Tryz.prog (both Tryz.prog SSha6 FSha1 [175]) noL Tryz.f147 (Tryz.f147.body.getD .skip) [.ptr 0 0] [.own (stC h r n)] =
 letI q5:=ByteArray.mk #[(0:UInt8)];
 letI q4:=(8:Int);
 letI q0:=i64.wrap (i64.wrap (i64.wrap ((128:Int) - (↑r.size:Int)) - (1:Int)) - q4);
 letI q3:=q0.tmod (64:Int);
 letI q2:=r++ByteArray.mk #[(128:UInt8)]++ba (Lib.repeatL q5.data.toList q3.toNat);
 letI q:=Oct.put q2 (i64.wrap (n * q4)) q4;
 letI q1:=foldA h q.1.toList;
 letI q6:=BitVec.ofNat._proof_1 8;
 .need (r.size+1≤9223372036854775807) (.need ((0:Int)≤q0.tmod (64:Int)∧q0.tmod (64:Int)≤(9223372036854775807:Int)∧q5.size * q3.toNat≤140737488355328) (.need ((r++ByteArray.mk (Array.mk [UInt8.ofBitVec (BitVec.ofFin (Fin.mk 128 (Nat.mod_lt 128 q6)))])).size+(ba (Lib.repeatL (Array.mk [UInt8.ofBitVec (BitVec.ofFin (Fin.mk 0 (Nat.mod_lt 0 q6)))]).toList q3.toNat)).size≤9223372036854775807) (.need ((0:Int)≤q4∧q4≤q4∧q2.size≤1099511627776) (.leaf (.v (.string (ba (txt q1))),[.own [.v (.int .u32 h.a),.v (.int .u32 h.b),.v (.int .u32 h.c),.v (.int .u32 h.d),.v (.int .u32 h.e),.v (.int .u32 h.f),.v (.int .u32 h.g),.v (.int .u32 h.h),.v (.string r),.v (.int .i64 n)],.own [.v (.int .u32 q1.a),.v (.int .u32 q1.b),.v (.int .u32 q1.c),.v (.int .u32 q1.d),.v (.int .u32 q1.e),.v (.int .u32 q1.f),.v (.int .u32 q1.g),.v (.int .u32 q1.h),.v (.string (ba (restA q.1.toList))),.v (.int .i64 n)]]))))):=by kernel_rfl
theorem noughts (m:Nat) (h:m < 64):(i64.wrap (i64.wrap (i64.wrap (128 - (m:Int)) - 1) - 8)).tmod 64=(((119 - m % 64) % 64:Nat):Int):=by
  rw [w64 (128 - (m:Int)) (by omega) (by omega),w64 (128 - (m:Int) - 1) (by omega) (by omega),w64 _ (by omega) (by omega)]
  rw [Int.tmod_eq_emod_of_nonneg (by omega)]
  omega
theorem put_tail (r:ByteArray) (n:Int) (hr:r.size < 64) (h0:0≤n) (h1:n≤1099511627776) :
    (Oct.put (r++ByteArray.mk #[(128:UInt8)]++ba (Lib.repeatL (ByteArray.mk #[(0:UInt8)]).data.toList ((i64.wrap (i64.wrap (i64.wrap (128 - (r.size:Int)) - 1) - 8)).tmod 64).toNat)) (i64.wrap (n * 8)) 8).data.toList=r.data.toList++tail r.size n.toNat:=by
  rw [noughts _ hr,Int.toNat_natCast]
  have e1:(ByteArray.mk #[(0:UInt8)]).data.toList=[0]:=rfl
  have e2:Oct.u64 (i64.wrap (n * 8))=8 * n.toNat % 18446744073709551616:=by
    rw [w64 _ (by omega) (by omega)];unfold Oct.u64;omega
  rw [e1,repeatL_one]
  unfold Oct.put
  rw [e2]
  simp [ByteArray.data_append,ba,tail]
def fSum:List SV→List Blk→Option (T (SV×List Blk))
  | [.ptr 0 0],[.own [.v (.int .u32 a),.v (.int .u32 b),.v (.int .u32 c),.v (.int .u32 d),.v (.int .u32 e),.v (.int .u32 f),.v (.int .u32 g),.v (.int .u32 h),.v (.string r),.v (.int .i64 n)]] =>
    some (.need (r.size < 64∧0≤n∧n≤1099511627776) (.leaf (.v (.string (ba (txt (foldA ⟨a,b,c,d,e,f,g,h⟩ (r.data.toList++tail r.size n.toNat))))),[.own (stC ⟨a,b,c,d,e,f,g,h⟩ r n)])))
  | [.v (.pointer none)],[]=>some (.leaf (.c (.string ⟨⟨[]⟩⟩),[]))
  | _,_=>none
set_option maxRecDepth 100000 in
theorem sumNil_run  : runF Tryz.prog (both Tryz.prog SSha6 FSha1 [175]) noL Tryz.f147 (Tryz.f147.body.getD .skip) [.v (.pointer none)] [] = .ite true (.leaf (SV.c (Value.string (ByteArray.mk (Array.mk []))),[])) (T.stuck 2):=by kernel_rfl
set_option maxRecDepth 100000 in
theorem fSum_ok:EntryOk Tryz.prog 147 fSum:=by
  intro ss H t ht bs B w vs hm hv Qs hq
  unfold fSum at ht
  split at ht
  · rename_i a b c d e f g h r n
    simp only [Option.some.injEq] at ht
    subst ht
    obtain ⟨⟨p1,p2,p3⟩,hq⟩:=hq
    refine treeT_ok (both_ok SSha6_ok FSha1_ok) follows Tryz.func147 (by kernel_rfl) (by kernel_rfl) (noloops (by kernel_rfl)) (sum_run ⟨a,b,c,d,e,f,g,h⟩ r n) (fun Qs h=>?_) hm hv hq
    have hn:=noughts r.size p1
    have hp:=put_tail r n p1 p2 p3
    have z0:(ByteArray.mk #[(0:UInt8)]).size=1:=rfl
    have z1:(ByteArray.mk #[(128:UInt8)]).size=1:=rfl
    have e1:(ByteArray.mk #[(0:UInt8)]).data.toList=[0]:=rfl
    refine ⟨by omega,⟨by rw [hn];omega,by rw [hn];omega,by rw [hn,z0];omega⟩,?_,⟨by omega,by omega,?_⟩,?_⟩
    · show (r++ByteArray.mk #[(128:UInt8)]).size+(ba (Lib.repeatL [0] _)).size≤_
      rw [hn,repeatL_one,ByteArray.size_append,ba_len,z1];simp;omega
    · rw [hn,e1,repeatL_one,ByteArray.size_append,ByteArray.size_append,ba_len,z1];simp;omega
    · rw [← hp] at h
      exact h
  · simp only [Option.some.injEq] at ht
    subst ht
    exact treeT_ok (both_ok SSha6_ok FSha1_ok) follows Tryz.func147 (by kernel_rfl) (by kernel_rfl) (noloops (by kernel_rfl)) sumNil_run (fun Qs h=>⟨fun _=>h,(fun e=>by cases e)⟩) hm hv hq
  · cases ht
set_option maxRecDepth 100000 in
theorem begin_run  : runV Tryz.prog (onlyS Tryz.prog SSha6) noL Tryz.f174 [] = .leaf (Value.agg (Array.mk [Value.int u32 1779033703,Value.int u32 3144134277,Value.int u32 1013904242,Value.int u32 2773480762,Value.int u32 1359893119,Value.int u32 2600822924,Value.int u32 528734635,Value.int u32 1541459225])):=by kernel_rfl
def tBegin:List Value→Option (List Prop×Value) | []=>some ([],hv H0) | _=>none
theorem sha_begin (w:World):Calls Tryz.prog 174 #[] w fun e w'=>e = .returned (hv H0)∧Below w.heap.size w w':=by
  refine calls_runV (onlyS_ok SSha6_ok) follows Tryz.func174 (by kernel_rfl) (by kernel_rfl) noL_ok (begin_run) ?_ w
  rfl
def SSha7:Tab:=addS 174 tBegin SSha6
theorem SSha7_ok:TabOk Tryz.prog SSha7:=addS_ok SSha6_ok (by kernel_rfl) (by (intro xs p v h hp w;unfold tBegin at h;(split at h) <;> first | (cases h;done) | (simp only [Option.some.injEq,Prod.mk.injEq] at h;obtain ⟨rfl,rfl⟩:=h;exact sha_begin w)))
def FSha2 (P:Program) (fAdd fNew:Func):LTab:=addF 147 fSum (addT 144 (trimE (inl P (both P SSha7 FSha1 [175]) noL fAdd)) (addT 143 (inl P (onlyS P SSha7) noL fNew) FSha1))
theorem FSha2_ok:LOk Tryz.prog (FSha2 Tryz.prog Tryz.f144 Tryz.f143) :=
  addF_ok (addT_ok (addT_ok FSha1_ok (by kernel_rfl) (inl_ok (onlyS_ok SSha7_ok) follows Tryz.func143 (by kernel_rfl) (by kernel_rfl) (noloops (by kernel_rfl)))) (by kernel_rfl) (trimE_ok (inl_ok (both_ok SSha7_ok FSha1_ok) follows Tryz.func144 (by kernel_rfl) (by kernel_rfl) (noloops (by kernel_rfl))))) (by kernel_rfl) fSum_ok
set_option maxRecDepth 100000 in
theorem of_run (s:ByteArray):runV Tryz.prog (both Tryz.prog SSha7 (FSha2 Tryz.prog Tryz.f144 Tryz.f143) [175,144,147,143]) noL Tryz.f141 [.string s] =
 letI q:=(0:Int)+(↑s.size:Int);
 letI q0:=ba (restA (ByteArray.mk #[]++s).data.toList);
 letI q1:=Array.mk ((Array.mk []).toList++s.1.toList);
 .need (0+s.size≤9223372036854775807) (.need (q0.size < 64∧(0:Int)≤i64.wrap q∧i64.wrap q≤(1099511627776:Int)) (.leaf (Value.string (ba (txt (foldA (foldA (H8.mk (1779033703:Int) (3144134277:Int) (1013904242:Int) (2773480762:Int) (1359893119:Int) (2600822924:Int) (528734635:Int) (1541459225:Int)) q1.toList) (q0.1.toList++tail (ba (restA q1.toList)).size (i64.wrap q).toNat))))))):=by kernel_rfl
theorem sha_Of (s:ByteArray) (hs:s.size≤1099511627776) (w:World):Calls Tryz.prog 141 #[.string s] w fun e w'=>e = .returned (.string (shaOf s))∧Below w.heap.size w w':=by
  refine calls_runV (both_ok SSha7_ok FSha2_ok) follows Tryz.func141 (by kernel_rfl) (by kernel_rfl) (noloops (by kernel_rfl)) (of_run s) ?_ w
  have hw:i64.wrap (0+(s.size:Int))=(s.size:Int):=by rw [w64 _ (by omega) (by omega)];omega
  have h0:(ByteArray.mk #[]++s).data.toList=s.data.toList:=by rw [ByteArray.data_append];simp
  have hr:=restA_length s.data.toList
  refine ⟨by omega,⟨?_,by rw [hw];omega,by rw [hw];omega⟩,?_⟩
  · rw [h0,ba_len,hr];omega
  · show Value.string (ba (txt (foldA (foldA H0 (ByteArray.mk #[]++s).data.toList) (restA (ByteArray.mk #[]++s).data.toList++tail (ba (restA (ByteArray.mk #[]++s).data.toList)).size (i64.wrap (0+(s.size:Int))).toNat))))=_
    rw [h0,hw,ba_len,Int.toNat_natCast,show s.size=s.data.toList.length by simp,sum_pieces]
    rfl
end Go.Proofs.YthacfgaacleaeaaGreatDoor

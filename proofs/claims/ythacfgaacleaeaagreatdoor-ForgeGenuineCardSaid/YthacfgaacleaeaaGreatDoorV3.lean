/- Parts of a proof: OpA,FgC,Can,FgB,FgF,FgG,FgH,FgI,FgJ,FgK,FgD. No conditions. -/
import Derived.Test.YthacfgaacleaeaaGreatDoorV2
import Derived.Deep.AppendLies
import Derived.Deep.RegionWith
import Derived.Lib.SliceRun
import Derived.Shelf.GgClosure.Gives
import Derived.Shelf.SlicesQ.Load
set_option linter.unusedVariables false
set_option linter.unusedSimpArgs false
namespace Go.Proofs.YthacfgaacleaeaaGreatDoor
open Go.IntKind (i64 u32)
open Go.RowKit Sym Go.ChangeShapes Go.WideShapes Go.ChangeMaps Go.Deep
structure Op where
  kind:Int
  val:ByteArray
def Op.c (o:Op):Nat→Value
  | 0=>.int .i64 o.kind
  | 1=>.string o.val
  | _=>undef
def opF (f:Nat→Nat→Value) (i:Nat):Op:=⟨intV (f i 0),strV (f i 1)⟩
def AllOp (n:Nat) (f:Nat→Nat→Value):Prop:=∀ i,i < n→∀ j,j < 2→f i j=(opF f i).c j
def Few (n:Nat) (g:Nat→Op):Prop:=n≤1000∧∀ i,i < n→(g i).val.size≤1000000
def sizeO (o:Op):Int:=if o.kind≤31 then 1 else 2+(o.val.size:Int)
def sizeL (g:Nat→Op):Nat→Int
  | 0=>0
  | i+1=>sizeL g i+sizeO (g i)
theorem sizeO_bd (o:Op):1≤sizeO o∧sizeO o≤2+(o.val.size:Int):=by unfold sizeO;split <;> omega
theorem sizeL_bd (g:Nat→Op):∀ i,(∀ j,j < i→(g j).val.size≤1000000)→0≤sizeL g i∧sizeL g i≤1000002 * (i:Int)
  | 0,_=>⟨Int.le_refl _,by simp [sizeL]⟩
  | i+1,h=>by
    have h1:=sizeL_bd g i (fun j hj=>h j (by omega))
    have h2:=sizeO_bd (g i)
    have h3:=h i (by omega)
    simp only [sizeL]
    omega
def rightO (o:Op):Int:=if o.kind≤0 then 7 else if o.kind > 255 then 7 else if o.kind≤31∧¬ o.val.size=0 then 11 else if o.val.size > 253 then 11 else 0
def badO (g:Nat→Op) (i:Nat):Bool:=!decide (rightO (g i)=0)
def mandO (n:Nat) (g:Nat→Op) (i:Nat):Bool:=decide ((g i).kind=1) && (decide (i+1=n) || decide ((g (i+1)).kind=1))
def badE (n:Nat) (g:Nat→Op):Nat:=firstOf (badO g) n 0
def mandE (n:Nat) (g:Nat→Op):Nat:=firstOf (mandO n g) n 0
def chkO (n:Nat) (g:Nat→Op):Int:=if badE n g < n then rightO (g (badE n g)) else if mandE n g < n then 4 else if sizeL g n > 400 then 11 else 0
def greatO (g:Nat→Op) (i:Nat):Bool:=Nat.ble 60 i || Nat.blt 600 (g i).val.size
def greatE (n:Nat) (g:Nat→Op):Nat:=firstOf (greatO g) n 0
def greatL (n:Nat) (g:Nat→Op):Bool:=Nat.blt (greatE n g) n
theorem firstOf_le (p:Nat→Bool) (n:Nat):firstOf p n 0≤n∧(∀ j,j < firstOf p n 0→p j=false)∧(firstOf p n 0 < n→p (firstOf p n 0)=true):=by
  obtain ⟨-,he,h1,h2⟩:=firstOf_spec p n 0
  rw [Nat.zero_add] at he h2
  exact ⟨he,fun j hj=>h1 j (Nat.zero_le _) hj,h2⟩
theorem greatL_few {n:Nat} {g:Nat→Op} (h:greatL n g=false):n≤60∧∀ i,i < n→(g i).val.size≤600:=by
  unfold greatL at h
  obtain ⟨he,h1,-⟩:=firstOf_le (greatO g) n
  have hE:firstOf (greatO g) n 0=greatE n g:=rfl
  rw [hE] at he h1
  have hn:¬ greatE n g < n:=by rw [← Nat.blt_eq,h];decide
  have e:greatE n g=n:=by omega
  have hno:∀ j,j < n→j < 60∧(g j).val.size≤600:=fun j hj=>by
    have:=h1 j (by omega)
    unfold greatO at this
    simp only [Bool.or_eq_false_iff] at this
    obtain ⟨a,b⟩:=this
    rw [← Bool.not_eq_true,Nat.ble_eq] at a
    rw [← Bool.not_eq_true,Nat.blt_eq] at b
    omega
  refine ⟨?_,fun i hi=>(hno i hi).2⟩
  by_cases h0:n=0
  · omega
  · have:=(hno (n - 1) (by omega)).1;omega
set_option maxRecDepth 100000 in
theorem open_opts_of {H:Type} {enc:TypeId×Value→H} {W:World} {base:Nat} {v:Value} {d:DataW H} {p:List MemPlace} {sp:Nat→Bool} (hv:∃ a len cap,v = .slice a len cap) (h:DataW.Trod enc Tryz.prog W base sp true 23 v d p) :
    ∃ (n:Nat) (g:Nat→Op),n≤maxLen∧(∀ i,(g i).val.size≤maxLen)∧∀ B,BlkSat B W v (.row n 2 fun i j=>(g i).c j):=by
  obtain ⟨len,f,h1,h2,h3⟩:=open_rows_of 2 (by kernel_rfl) (by omega) Tryz.underlying23 hv h
  have hs:∀ i,i < len→(∀ j,j < 2→f i j=(opF f i).c j)∧(opF f i).val.size≤maxLen:=by
    intro i hi
    obtain ⟨fuel,x,hx⟩:=h3 i hi
    obtain ⟨xs,n,_,_,_,hlen,hg⟩:=DataW.trod_struct Tryz.underlying70 hx
    have ci:Tryz.prog.cellsOf 3=1:=by kernel_rfl
    have cst:Tryz.prog.cellsOf 9=1:=by kernel_rfl
    obtain ⟨u0,hu0⟩:∃ u,xs[0]?=some u:=⟨_,List.getElem?_eq_getElem (by rw [hlen];decide)⟩
    obtain ⟨u1,hu1⟩:∃ u,xs[1]?=some u:=⟨_,List.getElem?_eq_getElem (by rw [hlen];decide)⟩
    rw [← hg 0 _ rfl] at hu0
    rw [← hg 1 _ rfl] at hu1
    simp [List.range_succ,ci,cst] at hu0 hu1
    obtain ⟨z,e0,_,_⟩:=DataW.trod_int Tryz.underlying3 hu0
    obtain ⟨s,e1,_,hz⟩:=DataW.trod_string Tryz.underlying9 hu1
    simp at e0 e1
    refine ⟨fun j hj=>?_,?_⟩
    · match j,hj with
      | 0,_=>show f i 0 = .int .i64 (intV (f i 0));rw [e0];rfl
      | 1,_=>show f i 1 = .string (strV (f i 1));rw [e1];rfl
    · show (strV (f i 1)).size≤maxLen
      rw [e1];exact hz
  refine ⟨len,fun i=>if i < len then opF f i else ⟨0,⟨#[]⟩⟩,h2,fun i=>?_,fun B=>row_congr (row_of h1 B) fun i j hi hj=>?_⟩
  · by_cases hi:i < len
    · simp only [if_pos hi];exact (hs i hi).2
    · simp only [if_neg hi];exact Nat.zero_le _
  · simp only [if_pos hi];exact (hs i hi).1 j hj
def rd1 (sz:Nat) (p:Nat→(Nat→Nat→Value)→Prop) (r:Nat→(Nat→Nat→Value)→Value):List SV→List Blk→Option (List Prop×Value)
  | [s],H=>match rowIn sz H s with
    | some (n,fr)=>some ([p n fr],r n fr)
    | none=>none
  | _,_=>none
theorem rd1_ok {P:Program} {f:FuncId} {sz:Nat} {p:Nat→(Nat→Nat→Value)→Prop} {r:Nat→(Nat→Nat→Value)→Value} (hc:∀ (n:Nat) (fr:Nat→Nat→Value) (v:Value) (w:World),(∀ B,BlkSat B w v (.row n sz fr))→p n fr→Calls P f #[v] w fun e w'=>e = .returned (r n fr)∧Below w.heap.size w w'):ReadOk P f (rd1 sz p r):=by
  intro ss H q v h bs B w vs hm hv hp
  unfold rd1 at h
  split at h
  · split at h
    · rename_i n fr hr
      simp only [Option.some.injEq,Prod.mk.injEq] at h
      obtain ⟨rfl,rfl⟩:=h
      obtain ⟨x0,r0,e0,v0,rfl⟩:=tos_cons hv
      obtain rfl:=tos_nil v0
      exact hc n fr x0 w (fun B'=>rowIn_ok hm e0 hr B') (hp _ (List.mem_cons_self ..))
    · cases h
  · cases h
def OpP (n:Nat) (f:Nat→Nat→Value):Prop:=AllOp n f∧Few n (opF f)
theorem op_row {w:World} {v:Value} {n:Nat} {f:Nat→Nat→Value} (h:∀ B,BlkSat B w v (.row n 2 f)) (ho:AllOp n f):∀ B,BlkSat B w v (.row n 2 fun i j=>(opF f i).c j):=fun B=>row_congr (h B) fun i j hi hj=>ho i hi j hj
theorem allOp_c (n:Nat) (g:Nat→Op):AllOp n fun i j=>(g i).c j:=fun i _ j hj=>by
  match j,hj with
  | 0,_=>rfl
  | 1,_=>rfl
theorem opF_c (g:Nat→Op):(opF fun i j=>(g i).c j)=g:=rfl
end Go.Proofs.YthacfgaacleaeaaGreatDoor
namespace Go.Proofs.YthacfgaacleaeaaGreatDoor
open Go.IntKind (i64 u32)
open Go.RowKit Sym Go.ChangeShapes Go.WideShapes Go.ChangeMaps
theorem w64i {z:Int} (h0 : -9223372036854775808≤z) (h1:z < 9223372036854775808):i64.wrap z=z:=IntWalk.i64_in _ (by omega)
def oG_st (n:Nat) (g:Nat→Op) (i:Int):St:=⟨[(0,some (.ref 0)),(3,some (.v (.int .i64 i)))],[.row n 2 fun i j=>(g i).c j]⟩
set_option maxRecDepth 100000 in
theorem oG_round (n:Nat) (g:Nat→Op) (i:Int):roundM Tryz.prog (onlyS Tryz.prog noS) noL Tryz.f9.ntmps 0 (loopAt Tryz.f9 0) 1 [0,3] [] [] (oG_st n g i) =
 letI q:=SV.v (Value.tuple (Array.mk []));
 letI q3:=SV.ref 0;
 letI q0:=(0,some q3);
 letI q1:=(↑n:Int);
 letI q2:=(6,some (.v (.int .i64 q1)));
 letI q4:=(600:Int);
 .ite (decide (i < q1)) (.ite (decide (i ≥ (60:Int))) (.leaf (Ex.ret,St.mk [(2,some SV.tt),(20,some SV.tt),(19,some q),(18,some q),(17,some q),(16,some q),(15,some q),(14,some q),(13,some q),(12,some SV.tt),(11,some (SV.v (Value.bool (decide (i ≥ (60:Int)))))),(10,some (.v (.int .i64 i))),(7,some SV.tt),(7,some (SV.v (Value.bool (decide (i < q1))))),q2,(5,some q3),(4,some (.v (.int .i64 i))),q0,(3,some (.v (.int .i64 i)))] [Blk.row n 2 fun i j=>(g i).c j])) (.need ((0:Int)≤i∧i < q1) (.need (i.toNat < n) (.ite (decide ((↑(g i.toNat).2.size:Int) > q4)) (.leaf (Ex.ret,St.mk [(2,some SV.tt),(20,some SV.tt),(20,some (SV.v (Value.bool (decide ((↑(g i.toNat).2.size:Int) > q4))))),(19,some (SV.v (Value.bool (decide ((↑(g i.toNat).2.size:Int) > q4))))),(18,some (.v (.int .i64 (↑(g i.toNat).2.size:Int)))),(17,some (.v (.string (g i.toNat).2))),(16,some (SV.elt 0 2 i.toNat 1)),(15,some (SV.elt 0 2 i.toNat 0)),(14,some (.v (.int .i64 i))),(13,some q3),(12,some SV.ff),(11,some (SV.v (Value.bool (decide (i ≥ (60:Int)))))),(10,some (.v (.int .i64 i))),(7,some SV.tt),(7,some (SV.v (Value.bool (decide (i < q1))))),q2,(5,some q3),(4,some (.v (.int .i64 i))),q0,(3,some (.v (.int .i64 i)))] [Blk.row n 2 fun i j=>(g i).c j])) (.leaf (Ex.normal,St.mk [q0,(3,some (.v (.int .i64 (i64.wrap (i+(1:Int))))))] [Blk.row n 2 fun i j=>(g i).c j])))))) (.leaf (Ex.exit 0,St.mk [q0,(3,some (.v (.int .i64 i)))] [Blk.row n 2 fun i j=>(g i).c j])):=by kernel_rfl
def LoG (P:Program) (fn:Func) (n:Nat) (g:Nat→Op) (e:Nat):Nat→St→Option (T (Ex×St)) :=
  addL 0 (fun st=>.need (st.H.length=1) (.need (st.tidy 1 [0,3] [] []=oG_st n g (0:Nat)) ((roundM P (onlyS P noS) noL fn.ntmps 0 (loopAt fn 0) 1 [0,3] [] [] (closeAt [] (oG_st n g (e:Nat)))).bind (lastX 0)))) noL
set_option maxRecDepth 100000 in
theorem oG_run (n:Nat) (g:Nat→Op) (e:Nat):runO Tryz.prog (onlyS Tryz.prog noS) (LoG Tryz.prog Tryz.f9 n g e) Tryz.f9 [.ref 0] [.row n 2 fun i j=>(g i).c j] =
 letI q:=(↑e:Int);
 .need (1=1) (.need (St.mk [(0,some (SV.ref 0)),(3,some (.v (.int .i64 0)))] [Blk.row n 2 fun i j=>(g i).c j]=oG_st n g (0:Int)) (.ite (decide (q < (↑n:Int))) (.ite (decide (q ≥ (60:Int))) (.leaf (Value.bool true)) (.need ((0:Int)≤q∧q < (↑n:Int)) (.need (q.toNat < n) (.ite (decide ((↑(g q.toNat).2.size:Int) > (600:Int))) (.leaf (Value.bool true)) (T.stuck 39))))) (.leaf (Value.bool false)))):=by kernel_rfl
theorem greatO_no {g:Nat→Op} {i:Nat} (h:greatO g i=false):i < 60∧(g i).val.size≤600:=by
  unfold greatO at h
  simp only [Bool.or_eq_false_iff] at h
  obtain ⟨a,b⟩:=h
  rw [← Bool.not_eq_true,Nat.ble_eq] at a
  rw [← Bool.not_eq_true,Nat.blt_eq] at b
  omega
theorem greatO_yes {g:Nat→Op} {i:Nat} (h:greatO g i=true):¬ (i < 60∧(g i).val.size≤600):=by
  unfold greatO at h
  simp only [Bool.or_eq_true,Nat.ble_eq,Nat.blt_eq] at h
  omega
set_option maxRecDepth 100000 in
theorem oG_step (n:Nat) (g:Nat→Op):∀ i:Nat,i≤greatE n g→i ≠ greatE n g→(roundM Tryz.prog (onlyS Tryz.prog noS) noL Tryz.f9.ntmps 0 (loopAt Tryz.f9 0) 1 [0,3] [] [] (oG_st n g (i:Nat))).ok fun r=>r.1 = .normal∧∃ j,j≤greatE n g∧greatE n g - j < greatE n g - i∧r.2=oG_st n g (j:Nat):=by
  intro i hi hne
  have hlt:i < greatE n g:=by omega
  obtain ⟨he,h1,-⟩:=firstOf_le (greatO g) n
  have hE:firstOf (greatO g) n 0=greatE n g:=rfl
  rw [hE] at he h1
  have hi2:=greatO_no (h1 i hlt)
  have hw:i64.wrap ((i:Int)+1)=((i+1:Nat):Int):=by rw [w64i (by omega) (by omega)];rfl
  rw [oG_round]
  simp only [Int.toNat_natCast,hw,T.ok,decide_eq_true_eq,decide_eq_false_iff_not,Op.c]
  have fin:∃ j,j≤greatE n g∧greatE n g - j < greatE n g - i∧oG_st n g ((i+1:Nat):Int)=oG_st n g (j:Nat):=⟨i+1,by omega,by omega,rfl⟩
  repeat' (first | refine And.intro ?_ ?_ | intro _)
  all_goals first | omega | exact ⟨rfl,fin⟩ | rfl | exact fin | trivial
set_option maxRecDepth 100000 in
theorem law07_great (n:Nat) (g:Nat→Op) (hn:n≤maxLen) (v:Value) (w:World) (hv:∀ B,BlkSat B w v (.row n 2 fun i j=>(g i).c j)):Calls Tryz.prog 9 #[v] w fun e w'=>e = .returned (.bool (greatL n g))∧Below w.heap.size w w':=by
  obtain ⟨he,h1,h2⟩:=firstOf_le (greatO g) n
  have hE:firstOf (greatO g) n 0=greatE n g:=rfl
  rw [hE] at he h1 h2
  refine calls_runO (onlyS_ok noS_ok) follows Tryz.func9 (by kernel_rfl) (by kernel_rfl) (one_loop (b:=loopAt Tryz.f9 0) (id:=0) (by kernel_rfl) fun st t h=>?_) (oG_run n g (greatE n g)) ?_ (mem_row (hv [v])) rfl
  · rw [addL_same h]
    exact loop_cnt (onlyS_ok noS_ok) follows (by kernel_rfl) (noloops (by kernel_rfl)) (fun i=>i≤greatE n g) (fun i=>oG_st n g (i:Nat)) (fun i=>greatE n g - i) 1 [0,3] [] [] (greatE n g) [] (oG_step n g) (Nat.zero_le _)
  · unfold maxLen at hn
    simp only [Int.toNat_natCast,T.ok,decide_eq_true_eq,decide_eq_false_iff_not,Bool.not_eq_true',Bool.not_eq_false',Bool.and_eq_true,Op.c]
    by_cases hlt:greatE n g < n
    · have hb:greatL n g=true:=by unfold greatL;rw [Nat.blt_eq];exact hlt
      have hy:=greatO_yes (h2 hlt)
      rw [hb]
      repeat' (first | refine And.intro ?_ ?_ | intro _)
      all_goals first | omega | rfl | trivial
    · have hb:greatL n g=false:=by unfold greatL;rw [← Bool.not_eq_true,Nat.blt_eq];exact hlt
      rw [hb]
      repeat' (first | refine And.intro ?_ ?_ | intro _)
      all_goals first | omega | rfl | trivial
def SOpt0 (P:Program) (fSize fRight:Func):Tab:=addI 108 P (onlyS P noS) noL fSize <| addI 101 P (onlyS P noS) noL fRight noS
theorem SOpt0_ok:TabOk Tryz.prog (SOpt0 Tryz.prog Tryz.f108 Tryz.f101):=addI_ok (addI_ok noS_ok (onlyS_ok noS_ok) follows Tryz.func101 (by kernel_rfl) (by kernel_rfl) (by kernel_rfl) (noloops (by kernel_rfl))) (onlyS_ok noS_ok) follows Tryz.func108 (by kernel_rfl) (by kernel_rfl) (by kernel_rfl) (noloops (by kernel_rfl))
def oS_st (n:Nat) (g:Nat→Op) (a i:Int):St:=⟨[(3,some (.v (.int .i64 a))),(6,some (.ref 0)),(7,some (.v (.int .i64 n))),(8,some (.v (.int .i64 i)))],[.row n 2 fun i j=>(g i).c j]⟩
set_option maxRecDepth 100000 in
theorem oS_round (n:Nat) (g:Nat→Op) (a i:Int):roundM Tryz.prog (onlyS Tryz.prog (SOpt0 Tryz.prog Tryz.f108 Tryz.f101)) noL Tryz.f102.ntmps 0 (loopAt Tryz.f102 0) 1 [3,6,7,8] [] [] (oS_st n g a i) =
 letI q1:=(↑n:Int);
 letI q:=(7,some (.v (.int .i64 q1)));
 letI q0:=(6,some (SV.ref 0));
 .ite (decide (i < q1)) (.need ((0:Int)≤i∧i < q1) (.need (i.toNat < n) (.ite (decide ((g i.toNat).1≤(31:Int))) (.leaf (Ex.normal,St.mk [(3,some (.v (.int .i64 (i64.wrap (a+(1:Int)))))),q0,q,(8,some (.v (.int .i64 (i64.wrap (i+(1:Int))))))] [Blk.row n 2 fun i j=>(g i).c j])) (.leaf (Ex.normal,St.mk [(3,some (.v (.int .i64 (i64.wrap (a+i64.wrap ((2:Int)+(↑(g i.toNat).2.size:Int))))))),q0,q,(8,some (.v (.int .i64 (i64.wrap (i+(1:Int))))))] [Blk.row n 2 fun i j=>(g i).c j]))))) (.leaf (Ex.exit 0,St.mk [(3,some (.v (.int .i64 a))),q0,q,(8,some (.v (.int .i64 i)))] [Blk.row n 2 fun i j=>(g i).c j])):=by kernel_rfl
def LoS (P:Program) (C:Cfg) (fn:Func) (n:Nat) (g:Nat→Op):Nat→St→Option (T (Ex×St)) :=
  addL 0 (fun st=>.need (st.H.length=1) (.need (st.tidy 1 [3,6,7,8] [] []=oS_st n g (sizeL g 0) (0:Nat)) ((roundM P C noL fn.ntmps 0 (loopAt fn 0) 1 [3,6,7,8] [] [] (closeAt [] (oS_st n g (sizeL g n) (n:Nat)))).bind (lastX 0)))) noL
set_option maxRecDepth 100000 in
theorem oS_run (n:Nat) (g:Nat→Op):runO Tryz.prog (onlyS Tryz.prog (SOpt0 Tryz.prog Tryz.f108 Tryz.f101)) (LoS Tryz.prog (onlyS Tryz.prog (SOpt0 Tryz.prog Tryz.f108 Tryz.f101)) Tryz.f102 n g) Tryz.f102 [.ref 0] [.row n 2 fun i j=>(g i).c j] =
 letI q:=(↑n:Int);
 .need (1=1) (.need (St.mk [(3,some (.v (.int .i64 0))),(6,some (SV.ref 0)),(7,some (.v (.int .i64 q))),(8,some (.v (.int .i64 0)))] [Blk.row n 2 fun i j=>(g i).c j]=oS_st n g (sizeL g 0) (0:Int)) (.ite (decide (q < q)) (.need ((0:Int)≤q∧q < q) (.need (q.toNat < n) (.ite (decide ((g q.toNat).1≤(31:Int))) (T.stuck 39) (T.stuck 39)))) (.leaf (Value.int i64 (sizeL g n))))):=by kernel_rfl
def oR_st (n:Nat) (g:Nat→Op) (a i:Int):St:=⟨[(0,some (.ref 0)),(3,some (.v (.int .i64 a))),(4,some (.v (.int .i64 i)))],[.row n 2 fun i j=>(g i).c j]⟩
set_option maxRecDepth 100000 in
theorem oR_round (n:Nat) (g:Nat→Op) (a i:Int):roundM Tryz.prog (onlyS Tryz.prog noS) noL Tryz.f169.ntmps 0 (loopAt Tryz.f169 0) 1 [0,3,4] [] [] (oR_st n g a i) =
 letI q:=(0,some (SV.ref 0));
 letI q0:=(1:Int);
 letI q1:=(↑n:Int);
 .ite (decide (i < q1)) (.need ((0:Int)≤i∧i < q1) (.need (i.toNat < n) (.ite (decide ((g i.toNat).1 > (31:Int))) (.need ((0:Int)≤i∧i < q1) (.need (i.toNat < n) (.leaf (Ex.normal,St.mk [q,(3,some (.v (.int .i64 (i64.wrap (i64.wrap (i64.wrap (a+q0)+q0)+(↑(g i.toNat).2.size:Int)))))),(4,some (.v (.int .i64 (i64.wrap (i+q0)))))] [Blk.row n 2 fun i j=>(g i).c j])))) (.leaf (Ex.normal,St.mk [q,(3,some (.v (.int .i64 (i64.wrap (a+q0))))),(4,some (.v (.int .i64 (i64.wrap (i+q0)))))] [Blk.row n 2 fun i j=>(g i).c j]))))) (.leaf (Ex.exit 0,St.mk [q,(3,some (.v (.int .i64 a))),(4,some (.v (.int .i64 i)))] [Blk.row n 2 fun i j=>(g i).c j])):=by kernel_rfl
def LoR (P:Program) (C:Cfg) (fn:Func) (n:Nat) (g:Nat→Op):Nat→St→Option (T (Ex×St)) :=
  addL 0 (fun st=>.need (st.H.length=1) (.need (st.tidy 1 [0,3,4] [] []=oR_st n g (sizeL g 0) (0:Nat)) ((roundM P C noL fn.ntmps 0 (loopAt fn 0) 1 [0,3,4] [] [] (closeAt [] (oR_st n g (sizeL g n) (n:Nat)))).bind (lastX 0)))) noL
set_option maxRecDepth 100000 in
theorem oR_run (n:Nat) (g:Nat→Op):runO Tryz.prog (onlyS Tryz.prog noS) (LoR Tryz.prog (onlyS Tryz.prog noS) Tryz.f169 n g) Tryz.f169 [.ref 0] [.row n 2 fun i j=>(g i).c j] =
 letI q:=(↑n:Int);
 letI q0:=(0:Int)≤q∧q < q;
 .need (1=1) (.need (St.mk [(0,some (SV.ref 0)),(3,some (.v (.int .i64 0))),(4,some (.v (.int .i64 0)))] [Blk.row n 2 fun i j=>(g i).c j]=oR_st n g (sizeL g 0) (0:Int)) (.ite (decide (q < q)) (.need q0 (.need (q.toNat < n) (.ite (decide ((g q.toNat).1 > (31:Int))) (.need q0 (.need (q.toNat < n) (T.stuck 39))) (T.stuck 39)))) (.leaf (Value.int i64 (sizeL g n))))):=by kernel_rfl
theorem sizeO_lo {o:Op} (h:o.kind≤31):sizeO o=1:=by unfold sizeO;rw [if_pos h]
theorem sizeO_hi {o:Op} (h:¬ o.kind≤31):sizeO o=2+(o.val.size:Int):=by unfold sizeO;rw [if_neg h]
set_option maxRecDepth 100000 in
theorem oS_step (n:Nat) (g:Nat→Op) (hf:Few n g):∀ i:Nat,i≤n→i ≠ n→(roundM Tryz.prog (onlyS Tryz.prog (SOpt0 Tryz.prog Tryz.f108 Tryz.f101)) noL Tryz.f102.ntmps 0 (loopAt Tryz.f102 0) 1 [3,6,7,8] [] [] (oS_st n g (sizeL g i) (i:Nat))).ok fun r=>r.1 = .normal∧∃ j,j≤n∧n - j < n - i∧r.2=oS_st n g (sizeL g j) (j:Nat):=by
  intro i hi hne
  obtain ⟨f1,f2⟩:=hf
  have hb:=sizeL_bd g i (fun j hj=>f2 j (by omega))
  have hz:=f2 i (by omega)
  have hw:i64.wrap ((i:Int)+1)=((i+1:Nat):Int):=by rw [w64i (by omega) (by omega)];rfl
  have h2:i64.wrap (2+((g i).val.size:Int))=2+((g i).val.size:Int):=w64i (by omega) (by omega)
  have h3:i64.wrap (sizeL g i+1)=sizeL g i+1:=w64i (by omega) (by omega)
  have h4:i64.wrap (sizeL g i+(2+((g i).val.size:Int)))=sizeL g i+(2+((g i).val.size:Int)):=w64i (by omega) (by omega)
  have fin:∀ a,a=sizeL g (i+1)→∃ j,j≤n∧n - j < n - i∧oS_st n g a ((i+1:Nat):Int)=oS_st n g (sizeL g j) (j:Nat):=fun a ha=>⟨i+1,by omega,by omega,by rw [ha]⟩
  rw [oS_round]
  simp only [Int.toNat_natCast,hw,T.ok,decide_eq_true_eq,decide_eq_false_iff_not,Op.c,h2,h3,h4]
  repeat' (first | refine And.intro ?_ ?_ | intro _)
  all_goals first | omega | rfl | trivial | skip
  · rename_i hk;exact fin _ (by simp only [sizeL];rw [sizeO_lo hk])
  · rename_i hk;exact fin _ (by simp only [sizeL];rw [sizeO_hi hk])
set_option maxRecDepth 100000 in
theorem oR_step (n:Nat) (g:Nat→Op) (hf:Few n g):∀ i:Nat,i≤n→i ≠ n→(roundM Tryz.prog (onlyS Tryz.prog noS) noL Tryz.f169.ntmps 0 (loopAt Tryz.f169 0) 1 [0,3,4] [] [] (oR_st n g (sizeL g i) (i:Nat))).ok fun r=>r.1 = .normal∧∃ j,j≤n∧n - j < n - i∧r.2=oR_st n g (sizeL g j) (j:Nat):=by
  intro i hi hne
  obtain ⟨f1,f2⟩:=hf
  have hb:=sizeL_bd g i (fun j hj=>f2 j (by omega))
  have hz:=f2 i (by omega)
  have hw:i64.wrap ((i:Int)+1)=((i+1:Nat):Int):=by rw [w64i (by omega) (by omega)];rfl
  have h3:i64.wrap (sizeL g i+1)=sizeL g i+1:=w64i (by omega) (by omega)
  have h4:i64.wrap (sizeL g i+1+1)=sizeL g i+1+1:=w64i (by omega) (by omega)
  have h5:i64.wrap (sizeL g i+1+1+((g i).val.size:Int))=sizeL g i+1+1+((g i).val.size:Int):=w64i (by omega) (by omega)
  have fin:∀ a,a=sizeL g (i+1)→∃ j,j≤n∧n - j < n - i∧oR_st n g a ((i+1:Nat):Int)=oR_st n g (sizeL g j) (j:Nat):=fun a ha=>⟨i+1,by omega,by omega,by rw [ha]⟩
  rw [oR_round]
  simp only [Int.toNat_natCast,hw,T.ok,decide_eq_true_eq,decide_eq_false_iff_not,Op.c,h3,h4,h5]
  repeat' (first | refine And.intro ?_ ?_ | intro _)
  all_goals first | omega | rfl | trivial | skip
  · rename_i hk;exact fin _ (by simp only [sizeL];rw [sizeO_hi (by omega)];omega)
  · rename_i hk;exact fin _ (by simp only [sizeL];rw [sizeO_lo (by omega)])
set_option maxRecDepth 100000 in
theorem opts_Size (n:Nat) (g:Nat→Op) (hf:Few n g) (v:Value) (w:World) (hv:∀ B,BlkSat B w v (.row n 2 fun i j=>(g i).c j)):Calls Tryz.prog 102 #[v] w fun e w'=>e = .returned (.int .i64 (sizeL g n))∧Below w.heap.size w w':=by
  refine calls_runO (onlyS_ok SOpt0_ok) follows Tryz.func102 (by kernel_rfl) (by kernel_rfl) (one_loop (b:=loopAt Tryz.f102 0) (id:=0) (by kernel_rfl) fun st t h=>?_) (oS_run n g) ?_ (mem_row (hv [v])) rfl
  · rw [addL_same h]
    exact loop_cnt (onlyS_ok SOpt0_ok) follows (by kernel_rfl) (noloops (by kernel_rfl)) (fun i=>i≤n) (fun i=>oS_st n g (sizeL g i) (i:Nat)) (fun i=>n - i) 1 [3,6,7,8] [] [] n [] (oS_step n g hf) (Nat.zero_le _)
  · simp only [T.ok,decide_eq_true_eq,decide_eq_false_iff_not]
    repeat' (first | refine And.intro ?_ ?_ | intro _)
    all_goals first | omega | rfl | trivial
set_option maxRecDepth 100000 in
theorem ref07_Size (n:Nat) (g:Nat→Op) (hf:Few n g) (v:Value) (w:World) (hv:∀ B,BlkSat B w v (.row n 2 fun i j=>(g i).c j)):Calls Tryz.prog 169 #[v] w fun e w'=>e = .returned (.int .i64 (sizeL g n))∧Below w.heap.size w w':=by
  refine calls_runO (onlyS_ok noS_ok) follows Tryz.func169 (by kernel_rfl) (by kernel_rfl) (one_loop (b:=loopAt Tryz.f169 0) (id:=0) (by kernel_rfl) fun st t h=>?_) (oR_run n g) ?_ (mem_row (hv [v])) rfl
  · rw [addL_same h]
    exact loop_cnt (onlyS_ok noS_ok) follows (by kernel_rfl) (noloops (by kernel_rfl)) (fun i=>i≤n) (fun i=>oR_st n g (sizeL g i) (i:Nat)) (fun i=>n - i) 1 [0,3,4] [] [] n [] (oR_step n g hf) (Nat.zero_le _)
  · simp only [T.ok,decide_eq_true_eq,decide_eq_false_iff_not]
    repeat' (first | refine And.intro ?_ ?_ | intro _)
    all_goals first | omega | rfl | trivial
end Go.Proofs.YthacfgaacleaeaaGreatDoor
namespace Go.Proofs.YthacfgaacleaeaaGreatDoor
open Go.IntKind (i64 u32)
open Go.RowKit Sym Go.ChangeShapes Go.WideShapes Go.ChangeMaps
def SOpt1 (P:Program) (fSize fRight:Func):Tab:=SOpt0 P fSize fRight
def FOpt1:LTab:=addR 102 (rd1 2 OpP fun n f=>.int .i64 (sizeL (opF f) n)) <| addR 169 (rd1 2 OpP fun n f=>.int .i64 (sizeL (opF f) n)) <| addR 9 (rd1 2 (fun n f=>n≤maxLen∧AllOp n f) fun n f=>.bool (greatL n (opF f))) noF
theorem FOpt1_ok:LOk Tryz.prog FOpt1:=addR_ok (addR_ok (addR_ok noF_ok (by kernel_rfl) (rd1_ok fun n f v w hv hp=>law07_great n (opF f) hp.1 v w (op_row hv hp.2)))
  (by kernel_rfl) (rd1_ok fun n f v w hv hp=>ref07_Size n (opF f) hp.2 v w (op_row hv hp.1))) (by kernel_rfl) (rd1_ok fun n f v w hv hp=>opts_Size n (opF f) hp.2 v w (op_row hv hp.1))
abbrev CO1 (P:Program) (fSize fRight:Func):Cfg:=both P (SOpt1 P fSize fRight) FOpt1 [102,169]
def oC_st (n:Nat) (g:Nat→Op) (i:Int):St:=⟨[(0,some (.ref 0)),(8,some (.ref 0)),(9,some (.v (.int .i64 n))),(10,some (.v (.int .i64 i)))],[.row n 2 fun i j=>(g i).c j]⟩
def oD_st (n:Nat) (g:Nat→Op) (i:Int):St:=⟨[(0,some (.ref 0)),(20,some (.ref 0)),(21,some (.v (.int .i64 n))),(22,some (.v (.int .i64 i)))],[.row n 2 fun i j=>(g i).c j]⟩
set_option maxRecDepth 100000 in
theorem oC_round (n:Nat) (g:Nat→Op) (i:Int):roundM Tryz.prog (CO1 Tryz.prog Tryz.f108 Tryz.f101) noL Tryz.f55.ntmps 0 (loopAt Tryz.f55 0) 1 [0,8,9,10] [] [] (oC_st n g i) =
 letI q7:=(↑n:Int);
 letI q:=(9,some (.v (.int .i64 q7)));
 letI q0:=(0,some (SV.ref 0));
 letI q1:=(8,some (SV.ref 0));
 letI q2:SV:=.v (.int .i64 11);
 letI q3:SV:=.v (.int .i64 7);
 letI q4:SV:=.v (.int .i64 0);
 letI q5:=(17,some (SV.v (Value.bool true)));
 letI q6:=(4,some (.ptr 1 0));
 letI q8:=(17,some SV.tt);
 letI q9:=(11,some SV.tt);
 letI p:=(1:Int);
 letI p0:=(17,some (SV.v (Value.bool false)));
 letI p1:=(18,some q2);
 letI p2:=(16,some q2);
 letI p3:=(15,some q2);
 letI p4:=(2,some q2);
 letI p5:=(5,some q2);
 .ite (decide (i < q7)) (.need ((0:Int)≤i∧i < q7) (.need (i.toNat < n) (.ite (decide ((g i.toNat).1≤(0:Int))) (.ite true (.leaf (Ex.ret,St.mk [(2,some q3),(18,some q3),q8,q5,(16,some q3),(5,some q3),(15,some q3),(14,some (SV.v (Value.agg (Array.mk [Value.int i64 (g i.toNat).1,Value.string (g i.toNat).2])))),q6,(13,some (SV.v (Value.agg (Array.mk [Value.int i64 (g i.toNat).1,Value.string (g i.toNat).2])))),(12,some (SV.elt 0 2 i.toNat 0)),q9,(11,some (SV.v (Value.bool (decide (i < q7))))),q0,q1,q,(10,some (.v (.int .i64 i)))] [Blk.row n 2 fun i j=>(g i).c j,.own [.v (.int .i64 (g i.toNat).1),.v (.string (g i.toNat).2)]])) (.leaf (Ex.normal,St.mk [q0,q1,q,(10,some (.v (.int .i64 (i64.wrap (i+p)))))] [Blk.row n 2 fun i j=>(g i).c j]))) (.ite (decide ((g i.toNat).1 > (255:Int))) (.ite true (.leaf (Ex.ret,St.mk [(2,some q3),(18,some q3),q8,q5,(16,some q3),(5,some q3),(15,some q3),(14,some (SV.v (Value.agg (Array.mk [Value.int i64 (g i.toNat).1,Value.string (g i.toNat).2])))),q6,(13,some (SV.v (Value.agg (Array.mk [Value.int i64 (g i.toNat).1,Value.string (g i.toNat).2])))),(12,some (SV.elt 0 2 i.toNat 0)),q9,(11,some (SV.v (Value.bool (decide (i < q7))))),q0,q1,q,(10,some (.v (.int .i64 i)))] [Blk.row n 2 fun i j=>(g i).c j,.own [.v (.int .i64 (g i.toNat).1),.v (.string (g i.toNat).2)]])) (.leaf (Ex.normal,St.mk [q0,q1,q,(10,some (.v (.int .i64 (i64.wrap (i+p)))))] [Blk.row n 2 fun i j=>(g i).c j]))) (.ite (decide ((g i.toNat).1≤(31:Int))) (.ite (!decide ((g i.toNat).2=ByteArray.mk (Array.mk []))) (.ite true (.leaf (Ex.ret,St.mk [p4,p1,q8,q5,p2,p5,p3,(14,some (SV.v (Value.agg (Array.mk [Value.int i64 (g i.toNat).1,Value.string (g i.toNat).2])))),q6,(13,some (SV.v (Value.agg (Array.mk [Value.int i64 (g i.toNat).1,Value.string (g i.toNat).2])))),(12,some (SV.elt 0 2 i.toNat 0)),q9,(11,some (SV.v (Value.bool (decide (i < q7))))),q0,q1,q,(10,some (.v (.int .i64 i)))] [Blk.row n 2 fun i j=>(g i).c j,.own [.v (.int .i64 (g i.toNat).1),.v (.string (g i.toNat).2)]])) (.leaf (Ex.normal,St.mk [q0,q1,q,(10,some (.v (.int .i64 (i64.wrap (i+p)))))] [Blk.row n 2 fun i j=>(g i).c j]))) (.ite (decide ((↑(g i.toNat).2.size:Int) > (253:Int))) (.ite true (.leaf (Ex.ret,St.mk [p4,p1,q8,q5,p2,p5,p3,(14,some (SV.v (Value.agg (Array.mk [Value.int i64 (g i.toNat).1,Value.string (g i.toNat).2])))),q6,(13,some (SV.v (Value.agg (Array.mk [Value.int i64 (g i.toNat).1,Value.string (g i.toNat).2])))),(12,some (SV.elt 0 2 i.toNat 0)),q9,(11,some (SV.v (Value.bool (decide (i < q7))))),q0,q1,q,(10,some (.v (.int .i64 i)))] [Blk.row n 2 fun i j=>(g i).c j,.own [.v (.int .i64 (g i.toNat).1),.v (.string (g i.toNat).2)]])) (.leaf (Ex.normal,St.mk [q0,q1,q,(10,some (.v (.int .i64 (i64.wrap (i+p)))))] [Blk.row n 2 fun i j=>(g i).c j]))) (.ite false (.leaf (Ex.ret,St.mk [(2,some q4),(18,some q4),q8,p0,(16,some q4),(5,some q4),(15,some q4),(14,some (SV.v (Value.agg (Array.mk [Value.int i64 (g i.toNat).1,Value.string (g i.toNat).2])))),q6,(13,some (SV.v (Value.agg (Array.mk [Value.int i64 (g i.toNat).1,Value.string (g i.toNat).2])))),(12,some (SV.elt 0 2 i.toNat 0)),q9,(11,some (SV.v (Value.bool (decide (i < q7))))),q0,q1,q,(10,some (.v (.int .i64 i)))] [Blk.row n 2 fun i j=>(g i).c j,.own [.v (.int .i64 (g i.toNat).1),.v (.string (g i.toNat).2)]])) (.leaf (Ex.normal,St.mk [q0,q1,q,(10,some (.v (.int .i64 (i64.wrap (i+p)))))] [Blk.row n 2 fun i j=>(g i).c j]))))) (.ite (decide ((↑(g i.toNat).2.size:Int) > (253:Int))) (.ite true (.leaf (Ex.ret,St.mk [p4,p1,q8,q5,p2,p5,p3,(14,some (SV.v (Value.agg (Array.mk [Value.int i64 (g i.toNat).1,Value.string (g i.toNat).2])))),q6,(13,some (SV.v (Value.agg (Array.mk [Value.int i64 (g i.toNat).1,Value.string (g i.toNat).2])))),(12,some (SV.elt 0 2 i.toNat 0)),q9,(11,some (SV.v (Value.bool (decide (i < q7))))),q0,q1,q,(10,some (.v (.int .i64 i)))] [Blk.row n 2 fun i j=>(g i).c j,.own [.v (.int .i64 (g i.toNat).1),.v (.string (g i.toNat).2)]])) (.leaf (Ex.normal,St.mk [q0,q1,q,(10,some (.v (.int .i64 (i64.wrap (i+p)))))] [Blk.row n 2 fun i j=>(g i).c j]))) (.ite false (.leaf (Ex.ret,St.mk [(2,some q4),(18,some q4),q8,p0,(16,some q4),(5,some q4),(15,some q4),(14,some (SV.v (Value.agg (Array.mk [Value.int i64 (g i.toNat).1,Value.string (g i.toNat).2])))),q6,(13,some (SV.v (Value.agg (Array.mk [Value.int i64 (g i.toNat).1,Value.string (g i.toNat).2])))),(12,some (SV.elt 0 2 i.toNat 0)),q9,(11,some (SV.v (Value.bool (decide (i < q7))))),q0,q1,q,(10,some (.v (.int .i64 i)))] [Blk.row n 2 fun i j=>(g i).c j,.own [.v (.int .i64 (g i.toNat).1),.v (.string (g i.toNat).2)]])) (.leaf (Ex.normal,St.mk [q0,q1,q,(10,some (.v (.int .i64 (i64.wrap (i+p)))))] [Blk.row n 2 fun i j=>(g i).c j]))))))))) (.leaf (Ex.exit 0,St.mk [q0,q1,q,(10,some (.v (.int .i64 i)))] [Blk.row n 2 fun i j=>(g i).c j])):=by kernel_rfl
set_option maxRecDepth 100000 in
theorem oD_round (n:Nat) (g:Nat→Op) (i:Int):roundM Tryz.prog (CO1 Tryz.prog Tryz.f108 Tryz.f101) noL Tryz.f55.ntmps 2 (loopAt Tryz.f55 1) 1 [0,20,21,22] [] [] (oD_st n g i) =
 letI q:=SV.v (Value.tuple (Array.mk []));
 letI q0:=(1:Int);
 letI q3:=(↑n:Int);
 letI q1:SV:=.v (.int .i64 q3);
 letI q2:=SV.ref 0;
 letI q4:=(20,some q2);
 letI q5:=(21,some q1);
 letI q6:=(0,some q2);
 letI q7:=(2,some (.c (.int .i64 4)));
 letI q8:SV:=.ptr 1 0;
 .ite (decide (i < q3)) (.need ((0:Int)≤i∧i < q3) (.need (i.toNat < n) (.ite (decide ((g i.toNat).1=q0)) (.ite (decide (i64.wrap (i+q0)=q3)) (.leaf (Ex.ret,St.mk [q7,(45,some SV.tt),(44,some SV.tt),(43,some q),(42,some q),(41,some q),(40,some q),(39,some q),(38,some q),(37,some q),(36,some SV.tt),(35,some (SV.v (Value.bool (decide (i64.wrap (i+q0)=q3))))),(34,some q1),(33,some q2),(32,some (.v (.int .i64 (i64.wrap (i+q0))))),(31,some (.v (.int .i64 i))),(30,some SV.tt),(29,some (SV.v (Value.bool (decide ((g i.toNat).1=q0))))),(28,some (.v (.int .i64 (g i.toNat).1))),(27,some q8),(6,some (.v (.int .i64 i))),(7,some q8),(26,some (SV.v (Value.agg (Array.mk [Value.int i64 (g i.toNat).1,Value.string (g i.toNat).2])))),(25,some (SV.elt 0 2 i.toNat 0)),(24,some (.v (.int .i64 i))),(23,some SV.tt),(23,some (SV.v (Value.bool (decide (i < q3))))),q6,q4,q5,(22,some (.v (.int .i64 i)))] [Blk.row n 2 fun i j=>(g i).c j,.own [.v (.int .i64 (g i.toNat).1),.v (.string (g i.toNat).2)]])) (.need ((0:Int)≤i64.wrap (i+q0)∧i64.wrap (i+q0) < q3) (.need ((i64.wrap (i+q0)).toNat < n) (.ite (decide ((g (i64.wrap (i+q0)).toNat).1=q0)) (.leaf (Ex.ret,St.mk [q7,(45,some SV.tt),(45,some (SV.v (Value.bool (decide ((g (i64.wrap (i+q0)).toNat).1=q0))))),(44,some (SV.v (Value.bool (decide ((g (i64.wrap (i+q0)).toNat).1=q0))))),(43,some (SV.v (Value.bool (decide ((g (i64.wrap (i+q0)).toNat).1=q0))))),(42,some (.v (.int .i64 (g (i64.wrap (i+q0)).toNat).1))),(41,some (SV.elt 0 2 (i64.wrap (i+q0)).toNat 0)),(40,some (SV.elt 0 2 (i64.wrap (i+q0)).toNat 0)),(39,some (.v (.int .i64 (i64.wrap (i+q0))))),(38,some (.v (.int .i64 i))),(37,some q2),(36,some SV.ff),(35,some (SV.v (Value.bool (decide (i64.wrap (i+q0)=q3))))),(34,some q1),(33,some q2),(32,some (.v (.int .i64 (i64.wrap (i+q0))))),(31,some (.v (.int .i64 i))),(30,some SV.tt),(29,some (SV.v (Value.bool (decide ((g i.toNat).1=q0))))),(28,some (.v (.int .i64 (g i.toNat).1))),(27,some q8),(6,some (.v (.int .i64 i))),(7,some q8),(26,some (SV.v (Value.agg (Array.mk [Value.int i64 (g i.toNat).1,Value.string (g i.toNat).2])))),(25,some (SV.elt 0 2 i.toNat 0)),(24,some (.v (.int .i64 i))),(23,some SV.tt),(23,some (SV.v (Value.bool (decide (i < q3))))),q6,q4,q5,(22,some (.v (.int .i64 i)))] [Blk.row n 2 fun i j=>(g i).c j,.own [.v (.int .i64 (g i.toNat).1),.v (.string (g i.toNat).2)]])) (.leaf (Ex.normal,St.mk [q6,q4,q5,(22,some (.v (.int .i64 (i64.wrap (i+q0)))))] [Blk.row n 2 fun i j=>(g i).c j])))))) (.leaf (Ex.normal,St.mk [q6,q4,q5,(22,some (.v (.int .i64 (i64.wrap (i+q0)))))] [Blk.row n 2 fun i j=>(g i).c j]))))) (.leaf (Ex.exit 2,St.mk [q6,q4,q5,(22,some (.v (.int .i64 i)))] [Blk.row n 2 fun i j=>(g i).c j])):=by kernel_rfl
def LoC (P:Program) (C:Cfg) (fn:Func) (n:Nat) (g:Nat→Op) (e1 e2:Nat):Nat→St→Option (T (Ex×St)) :=
  addL 2 (fun st=>.need (st.H.length=1) (.need (st.tidy 1 [0,20,21,22] [] []=oD_st n g (0:Nat)) ((roundM P C noL fn.ntmps 2 (loopAt fn 1) 1 [0,20,21,22] [] [] (closeAt [] (oD_st n g (e2:Nat)))).bind (lastX 2)))) <|
  addL 0 (fun st=>.need (st.H.length=1) (.need (st.tidy 1 [0,8,9,10] [] []=oC_st n g (0:Nat)) ((roundM P C noL fn.ntmps 0 (loopAt fn 0) 1 [0,8,9,10] [] [] (closeAt [] (oC_st n g (e1:Nat)))).bind (lastX 0)))) noL
set_option maxRecDepth 100000 in
theorem oC_run (n:Nat) (g:Nat→Op) (e1 e2:Nat):runO Tryz.prog (CO1 Tryz.prog Tryz.f108 Tryz.f101) (LoC Tryz.prog (CO1 Tryz.prog Tryz.f108 Tryz.f101) Tryz.f55 n g e1 e2) Tryz.f55 [.ref 0] [.row n 2 fun i j=>(g i).c j] =
 letI q1:=(↑e1:Int);
 letI q6:=g q1.toNat;
 letI q4:T Value:=.leaf (Value.int i64 11);
 letI q3:=T.stuck 39;
 letI p0:T Value:=.leaf (Value.int i64 0);
 letI q:T Value:=.ite (decide ((↑q6.2.size:Int) > (253:Int))) (.ite true q4 q3) (.ite false p0 q3);
 letI q5:=(↑e2:Int);
 letI q0:=q5+(1:Int);
 letI q2:=(↑n:Int);
 letI q7:T Value:=.ite true (.leaf (Value.int i64 7)) q3;
 letI q8:=(0:Int);
 letI q9:=SV.ref 0;
 letI p:T Value:=.leaf (Value.int i64 4);
 letI p1:=i64.wrap q0;
 .need (1=1) (.need (St.mk [(0,some q9),(8,some q9),(9,some (.v (.int .i64 q2))),(10,some (.v (.int .i64 0)))] [Blk.row n 2 fun i j=>(g i).c j]=oC_st n g q8) (.ite (decide (q1 < q2)) (.need (q8≤q1∧q1 < q2) (.need (q1.toNat < n) (.ite (decide (q6.1≤q8)) q7 (.ite (decide (q6.1 > (255:Int))) q7 (.ite (decide (q6.1≤(31:Int))) (.ite (!decide (q6.2=ByteArray.mk (Array.mk []))) (.ite true q4 q3) q) q))))) (.need (1=1) (.need (St.mk [(0,some q9),(20,some q9),(21,some (.v (.int .i64 q2))),(22,some (.v (.int .i64 0)))] [Blk.row n 2 fun i j=>(g i).c j]=oD_st n g q8) (.ite (decide (q5 < q2)) (.need (q8≤q5∧q5 < q2) (.need (q5.toNat < n) (.ite (decide ((g q5.toNat).1=(1:Int))) (.ite (decide (i64.wrap q0=q2)) p (.need (q8≤i64.wrap q0∧i64.wrap q0 < q2) (.need (p1.toNat < n) (.ite (decide ((g p1.toNat).1=(1:Int))) p q3)))) q3))) (.need (OpP n fun i j=>(g i).c j) (.ite (decide (sizeL (opF fun i j=>(g i).c j) n > (400:Int))) q4 p0))))))):=by kernel_rfl
def rC_st (n:Nat) (g:Nat→Op) (i:Int):St:=⟨[(0,some (.ref 0)),(3,some (.v (.int .i64 i)))],[.row n 2 fun i j=>(g i).c j]⟩
def rD_st (n:Nat) (g:Nat→Op) (i:Int):St:=⟨[(0,some (.ref 0)),(5,some (.v (.int .i64 i)))],[.row n 2 fun i j=>(g i).c j]⟩
set_option maxRecDepth 100000 in
theorem rC_round (n:Nat) (g:Nat→Op) (i:Int):roundM Tryz.prog (CO1 Tryz.prog Tryz.f108 Tryz.f101) noL Tryz.f135.ntmps 0 (loopAt Tryz.f135 0) 1 [0,3] [] [] (rC_st n g i) =
 letI q:=SV.v (Value.tuple (Array.mk []));
 letI q4:=(↑n:Int);
 letI q0:=(8,some (.v (.int .i64 q4)));
 letI q1:=SV.ref 0;
 letI q2:SV:=.ptr 1 0;
 letI q3:=(255:Int);
 letI q5:=(0,some q1);
 letI q6:=(2,some (.c (.int .i64 11)));
 letI q7:=(9,some SV.tt);
 letI q8:=(1:Int);
 letI q9:=(253:Int);
 letI p:=(16,some q2);
 letI p0:=(12,some q1);
 letI p1:=(19,some SV.ff);
 letI p2:=(4,some q2);
 letI p3:=(7,some q1);
 letI p4:=(0:Int);
 letI p5:=(20,some q2);
 letI p6:=(38,some SV.tt);
 letI p7:=(23,some SV.ff);
 letI p8:=(2,some (.c (.int .i64 7)));
 letI p9:=(32:Int);
 letI z:SV:=.ptr 1 1;
 letI z0:=(24,some q2);
 .ite (decide (i < q4)) (.need (p4≤i∧i < q4) (.need (i.toNat < n) (.ite (decide ((g i.toNat).1 < q8)) (.leaf (Ex.ret,St.mk [p8,(23,some SV.tt),(22,some q),(21,some q),(20,some q),(19,some SV.tt),(18,some (SV.v (Value.bool (decide ((g i.toNat).1 < q8))))),(17,some (.v (.int .i64 (g i.toNat).1))),p,p2,(15,some (SV.v (Value.agg (Array.mk [Value.int i64 (g i.toNat).1,Value.string (g i.toNat).2])))),(14,some (SV.elt 0 2 i.toNat 0)),(13,some (.v (.int .i64 i))),p0,q7,(9,some (SV.v (Value.bool (decide (i < q4))))),q0,p3,(6,some (.v (.int .i64 i))),q5,(3,some (.v (.int .i64 i)))] [Blk.row n 2 fun i j=>(g i).c j,.own [.v (.int .i64 (g i.toNat).1),.v (.string (g i.toNat).2)]])) (.ite (decide ((g i.toNat).1 > q3)) (.leaf (Ex.ret,St.mk [p8,(23,some SV.tt),(23,some (SV.v (Value.bool (decide ((g i.toNat).1 > q3))))),(22,some (SV.v (Value.bool (decide ((g i.toNat).1 > q3))))),(21,some (.v (.int .i64 (g i.toNat).1))),p5,p1,(18,some (SV.v (Value.bool (decide ((g i.toNat).1 < q8))))),(17,some (.v (.int .i64 (g i.toNat).1))),p,p2,(15,some (SV.v (Value.agg (Array.mk [Value.int i64 (g i.toNat).1,Value.string (g i.toNat).2])))),(14,some (SV.elt 0 2 i.toNat 0)),(13,some (.v (.int .i64 i))),p0,q7,(9,some (SV.v (Value.bool (decide (i < q4))))),q0,p3,(6,some (.v (.int .i64 i))),q5,(3,some (.v (.int .i64 i)))] [Blk.row n 2 fun i j=>(g i).c j,.own [.v (.int .i64 (g i.toNat).1),.v (.string (g i.toNat).2)]])) (.ite (decide ((g i.toNat).1 < p9)) (.ite (decide ((↑(g i.toNat).2.size:Int) > p4)) (.leaf (Ex.ret,St.mk [q6,p6,(37,some q),(36,some q),(35,some q),(34,some q),(33,some SV.tt),(32,some (SV.v (Value.bool (decide ((↑(g i.toNat).2.size:Int) > p4))))),(31,some (SV.v (Value.bool (decide ((↑(g i.toNat).2.size:Int) > p4))))),(30,some (.v (.int .i64 (↑(g i.toNat).2.size:Int)))),(29,some (.v (.string (g i.toNat).2))),(28,some z),(27,some SV.tt),(26,some (SV.v (Value.bool (decide ((g i.toNat).1 < p9))))),(25,some (.v (.int .i64 (g i.toNat).1))),z0,p7,(23,some (SV.v (Value.bool (decide ((g i.toNat).1 > q3))))),(22,some (SV.v (Value.bool (decide ((g i.toNat).1 > q3))))),(21,some (.v (.int .i64 (g i.toNat).1))),p5,p1,(18,some (SV.v (Value.bool (decide ((g i.toNat).1 < q8))))),(17,some (.v (.int .i64 (g i.toNat).1))),p,p2,(15,some (SV.v (Value.agg (Array.mk [Value.int i64 (g i.toNat).1,Value.string (g i.toNat).2])))),(14,some (SV.elt 0 2 i.toNat 0)),(13,some (.v (.int .i64 i))),p0,q7,(9,some (SV.v (Value.bool (decide (i < q4))))),q0,p3,(6,some (.v (.int .i64 i))),q5,(3,some (.v (.int .i64 i)))] [Blk.row n 2 fun i j=>(g i).c j,.own [.v (.int .i64 (g i.toNat).1),.v (.string (g i.toNat).2)]])) (.ite (decide ((↑(g i.toNat).2.size:Int) > q9)) (.leaf (Ex.ret,St.mk [q6,p6,(38,some (SV.v (Value.bool (decide ((↑(g i.toNat).2.size:Int) > q9))))),(37,some (SV.v (Value.bool (decide ((↑(g i.toNat).2.size:Int) > q9))))),(36,some (.v (.int .i64 (↑(g i.toNat).2.size:Int)))),(35,some (.v (.string (g i.toNat).2))),(34,some z),(33,some SV.ff),(32,some (SV.v (Value.bool (decide ((↑(g i.toNat).2.size:Int) > p4))))),(31,some (SV.v (Value.bool (decide ((↑(g i.toNat).2.size:Int) > p4))))),(30,some (.v (.int .i64 (↑(g i.toNat).2.size:Int)))),(29,some (.v (.string (g i.toNat).2))),(28,some z),(27,some SV.tt),(26,some (SV.v (Value.bool (decide ((g i.toNat).1 < p9))))),(25,some (.v (.int .i64 (g i.toNat).1))),z0,p7,(23,some (SV.v (Value.bool (decide ((g i.toNat).1 > q3))))),(22,some (SV.v (Value.bool (decide ((g i.toNat).1 > q3))))),(21,some (.v (.int .i64 (g i.toNat).1))),p5,p1,(18,some (SV.v (Value.bool (decide ((g i.toNat).1 < q8))))),(17,some (.v (.int .i64 (g i.toNat).1))),p,p2,(15,some (SV.v (Value.agg (Array.mk [Value.int i64 (g i.toNat).1,Value.string (g i.toNat).2])))),(14,some (SV.elt 0 2 i.toNat 0)),(13,some (.v (.int .i64 i))),p0,q7,(9,some (SV.v (Value.bool (decide (i < q4))))),q0,p3,(6,some (.v (.int .i64 i))),q5,(3,some (.v (.int .i64 i)))] [Blk.row n 2 fun i j=>(g i).c j,.own [.v (.int .i64 (g i.toNat).1),.v (.string (g i.toNat).2)]])) (.leaf (Ex.normal,St.mk [q5,(3,some (.v (.int .i64 (i64.wrap (i+q8)))))] [Blk.row n 2 fun i j=>(g i).c j])))) (.ite (decide ((↑(g i.toNat).2.size:Int) > q9)) (.leaf (Ex.ret,St.mk [q6,p6,(38,some (SV.v (Value.bool (decide ((↑(g i.toNat).2.size:Int) > q9))))),(37,some (SV.v (Value.bool (decide ((↑(g i.toNat).2.size:Int) > q9))))),(36,some (.v (.int .i64 (↑(g i.toNat).2.size:Int)))),(35,some (.v (.string (g i.toNat).2))),(34,some z),(33,some SV.ff),(32,some SV.ff),(31,some q),(30,some q),(29,some q),(28,some q),(27,some SV.ff),(26,some (SV.v (Value.bool (decide ((g i.toNat).1 < p9))))),(25,some (.v (.int .i64 (g i.toNat).1))),z0,p7,(23,some (SV.v (Value.bool (decide ((g i.toNat).1 > q3))))),(22,some (SV.v (Value.bool (decide ((g i.toNat).1 > q3))))),(21,some (.v (.int .i64 (g i.toNat).1))),p5,p1,(18,some (SV.v (Value.bool (decide ((g i.toNat).1 < q8))))),(17,some (.v (.int .i64 (g i.toNat).1))),p,p2,(15,some (SV.v (Value.agg (Array.mk [Value.int i64 (g i.toNat).1,Value.string (g i.toNat).2])))),(14,some (SV.elt 0 2 i.toNat 0)),(13,some (.v (.int .i64 i))),p0,q7,(9,some (SV.v (Value.bool (decide (i < q4))))),q0,p3,(6,some (.v (.int .i64 i))),q5,(3,some (.v (.int .i64 i)))] [Blk.row n 2 fun i j=>(g i).c j,.own [.v (.int .i64 (g i.toNat).1),.v (.string (g i.toNat).2)]])) (.leaf (Ex.normal,St.mk [q5,(3,some (.v (.int .i64 (i64.wrap (i+q8)))))] [Blk.row n 2 fun i j=>(g i).c j])))))))) (.leaf (Ex.exit 0,St.mk [q5,(3,some (.v (.int .i64 i)))] [Blk.row n 2 fun i j=>(g i).c j])):=by kernel_rfl
set_option maxRecDepth 100000 in
theorem rD_round (n:Nat) (g:Nat→Op) (i:Int):roundM Tryz.prog (CO1 Tryz.prog Tryz.f108 Tryz.f101) noL Tryz.f135.ntmps 2 (loopAt Tryz.f135 1) 1 [0,5] [] [] (rD_st n g i) =
 letI q:=SV.v (Value.tuple (Array.mk []));
 letI q0:=(1:Int);
 letI q1:=(↑n:Int);
 letI q2:=SV.ref 0;
 letI q7:=q1 - q0;
 letI q3:=(55,some (.v (.int .i64 (i64.wrap q7))));
 letI q4:SV:=.v (.int .i64 q1);
 letI q5:=(0,some q2);
 letI q6:=(2,some (.c (.int .i64 4)));
 .ite (decide (i < q1)) (.need ((0:Int)≤i∧i < q1) (.need (i.toNat < n) (.ite (decide ((g i.toNat).1=q0)) (.ite (decide (i=i64.wrap q7)) (.leaf (Ex.ret,St.mk [q6,(66,some SV.tt),(65,some SV.tt),(64,some q),(63,some q),(62,some q),(61,some q),(60,some q),(59,some q),(58,some q),(57,some SV.tt),(56,some (SV.v (Value.bool (decide (i=i64.wrap q7))))),q3,(54,some q4),(53,some q2),(52,some (.v (.int .i64 i))),(51,some SV.tt),(50,some (SV.v (Value.bool (decide ((g i.toNat).1=q0))))),(49,some (.v (.int .i64 (g i.toNat).1))),(48,some (SV.elt 0 2 i.toNat 0)),(47,some (SV.elt 0 2 i.toNat 0)),(46,some (.v (.int .i64 i))),(45,some q2),(42,some SV.tt),(42,some (SV.v (Value.bool (decide (i < q1))))),(41,some q4),(40,some q2),(39,some (.v (.int .i64 i))),q5,(5,some (.v (.int .i64 i)))] [Blk.row n 2 fun i j=>(g i).c j])) (.need ((0:Int)≤i64.wrap (i+q0)∧i64.wrap (i+q0) < q1) (.need ((i64.wrap (i+q0)).toNat < n) (.ite (decide ((g (i64.wrap (i+q0)).toNat).1=q0)) (.leaf (Ex.ret,St.mk [q6,(66,some SV.tt),(66,some (SV.v (Value.bool (decide ((g (i64.wrap (i+q0)).toNat).1=q0))))),(65,some (SV.v (Value.bool (decide ((g (i64.wrap (i+q0)).toNat).1=q0))))),(64,some (SV.v (Value.bool (decide ((g (i64.wrap (i+q0)).toNat).1=q0))))),(63,some (.v (.int .i64 (g (i64.wrap (i+q0)).toNat).1))),(62,some (SV.elt 0 2 (i64.wrap (i+q0)).toNat 0)),(61,some (SV.elt 0 2 (i64.wrap (i+q0)).toNat 0)),(60,some (.v (.int .i64 (i64.wrap (i+q0))))),(59,some (.v (.int .i64 i))),(58,some q2),(57,some SV.ff),(56,some (SV.v (Value.bool (decide (i=i64.wrap q7))))),q3,(54,some q4),(53,some q2),(52,some (.v (.int .i64 i))),(51,some SV.tt),(50,some (SV.v (Value.bool (decide ((g i.toNat).1=q0))))),(49,some (.v (.int .i64 (g i.toNat).1))),(48,some (SV.elt 0 2 i.toNat 0)),(47,some (SV.elt 0 2 i.toNat 0)),(46,some (.v (.int .i64 i))),(45,some q2),(42,some SV.tt),(42,some (SV.v (Value.bool (decide (i < q1))))),(41,some q4),(40,some q2),(39,some (.v (.int .i64 i))),q5,(5,some (.v (.int .i64 i)))] [Blk.row n 2 fun i j=>(g i).c j])) (.leaf (Ex.normal,St.mk [q5,(5,some (.v (.int .i64 (i64.wrap (i+q0)))))] [Blk.row n 2 fun i j=>(g i).c j])))))) (.leaf (Ex.normal,St.mk [q5,(5,some (.v (.int .i64 (i64.wrap (i+q0)))))] [Blk.row n 2 fun i j=>(g i).c j]))))) (.leaf (Ex.exit 2,St.mk [q5,(5,some (.v (.int .i64 i)))] [Blk.row n 2 fun i j=>(g i).c j])):=by kernel_rfl
def LrC (P:Program) (C:Cfg) (fn:Func) (n:Nat) (g:Nat→Op) (e1 e2:Nat):Nat→St→Option (T (Ex×St)) :=
  addL 2 (fun st=>.need (st.H.length=1) (.need (st.tidy 1 [0,5] [] []=rD_st n g (0:Nat)) ((roundM P C noL fn.ntmps 2 (loopAt fn 1) 1 [0,5] [] [] (closeAt [] (rD_st n g (e2:Nat)))).bind (lastX 2)))) <|
  addL 0 (fun st=>.need (st.H.length=1) (.need (st.tidy 1 [0,3] [] []=rC_st n g (0:Nat)) ((roundM P C noL fn.ntmps 0 (loopAt fn 0) 1 [0,3] [] [] (closeAt [] (rC_st n g (e1:Nat)))).bind (lastX 0)))) noL
set_option maxRecDepth 100000 in
theorem rC_run (n:Nat) (g:Nat→Op) (e1 e2:Nat):runO Tryz.prog (CO1 Tryz.prog Tryz.f108 Tryz.f101) (LrC Tryz.prog (CO1 Tryz.prog Tryz.f108 Tryz.f101) Tryz.f135 n g e1 e2) Tryz.f135 [.ref 0] [.row n 2 fun i j=>(g i).c j] =
 letI q1:=(↑e1:Int);
 letI q5:=g q1.toNat;
 letI p1:=(↑q5.2.size:Int);
 letI q2:T Value:=.leaf (Value.int i64 11);
 letI p:=T.stuck 39;
 letI q:T Value:=.ite (decide (p1 > (253:Int))) q2 p;
 letI q0:=(↑e2:Int);
 letI q3:=(↑n:Int);
 letI q4:=(1:Int);
 letI q6:=(0:Int);
 letI q7:=i64.wrap (q0+q4);
 letI q8:T Value:=.leaf (Value.int i64 7);
 letI q9:T Value:=.leaf (Value.int i64 4);
 letI p0:=(0,some (SV.ref 0));
 .need (1=1) (.need (St.mk [p0,(3,some (.v (.int .i64 0)))] [Blk.row n 2 fun i j=>(g i).c j]=rC_st n g q6) (.ite (decide (q1 < q3)) (.need (q6≤q1∧q1 < q3) (.need (q1.toNat < n) (.ite (decide (q5.1 < q4)) q8 (.ite (decide (q5.1 > (255:Int))) q8 (.ite (decide (q5.1 < (32:Int))) (.ite (decide (p1 > q6)) q2 q) q))))) (.need (1=1) (.need (St.mk [p0,(5,some (.v (.int .i64 0)))] [Blk.row n 2 fun i j=>(g i).c j]=rD_st n g q6) (.ite (decide (q0 < q3)) (.need (q6≤q0∧q0 < q3) (.need (q0.toNat < n) (.ite (decide ((g q0.toNat).1=q4)) (.ite (decide (q0=i64.wrap (q3 - q4))) q9 (.need (q6≤i64.wrap (q0+q4)∧i64.wrap (q0+q4) < q3) (.need (q7.toNat < n) (.ite (decide ((g q7.toNat).1=q4)) q9 p)))) p))) (.need (OpP n fun i j=>(g i).c j) (.ite (decide (sizeL (opF fun i j=>(g i).c j) n > (400:Int))) q2 (.leaf (Value.int i64 0))))))))):=by kernel_rfl
end Go.Proofs.YthacfgaacleaeaaGreatDoor
namespace Go.Proofs.YthacfgaacleaeaaGreatDoor
open Go.IntKind (i64 u32)
open Go.RowKit Sym Go.ChangeShapes Go.WideShapes Go.ChangeMaps
theorem ba_empty (s:ByteArray):s=ByteArray.mk (Array.mk []) ↔ s.size=0:=by
  constructor
  · rintro rfl;rfl
  · intro h
    have:s.data.toList=[]:=List.length_eq_zero_iff.1 (by simpa using h)
    cases s with
    | mk d=>simp at this;subst this;rfl
theorem rightO_ok {o:Op} (h:rightO o=0):0 < o.kind∧o.kind≤255∧(o.kind≤31→o.val.size=0)∧o.val.size≤253:=by
  unfold rightO at h
  split at h
  · cases h
  · split at h
    · cases h
    · split at h
      · cases h
      · split at h
        · cases h
        · rename_i a b c d
          refine ⟨by omega,by omega,fun hk=>?_,by omega⟩
          by_cases e:o.val.size=0
          · exact e
          · exact absurd ⟨hk,e⟩ c
theorem badE_spec (n:Nat) (g:Nat→Op):badE n g≤n∧(∀ j,j < badE n g→rightO (g j)=0)∧(badE n g < n→¬ rightO (g (badE n g))=0):=by
  obtain ⟨h1,h2,h3⟩:=firstOf_le (badO g) n
  refine ⟨h1,fun j hj=>by simpa [badO] using h2 j hj,fun h=>by have:=h3 h;simpa [badO,badE] using this⟩
theorem mandE_spec (n:Nat) (g:Nat→Op):mandE n g≤n∧(∀ j,j < mandE n g→(g j).kind=1→¬ j+1=n∧¬ (g (j+1)).kind=1)∧(mandE n g < n→(g (mandE n g)).kind=1∧(mandE n g+1=n ∨ (g (mandE n g+1)).kind=1)):=by
  obtain ⟨h1,h2,h3⟩:=firstOf_le (mandO n g) n
  refine ⟨h1,fun j hj hk=>?_,fun h=>?_⟩
  · have:=h2 j hj
    simp only [mandO,hk,decide_true,Bool.true_and,Bool.or_eq_false_iff,decide_eq_false_iff_not] at this
    exact this
  · have:=h3 h
    simpa [mandO,mandE] using this
set_option maxRecDepth 100000 in
theorem oC_step (n:Nat) (g:Nat→Op) (hf:Few n g):∀ i:Nat,i≤badE n g→i ≠ badE n g→(roundM Tryz.prog (CO1 Tryz.prog Tryz.f108 Tryz.f101) noL Tryz.f55.ntmps 0 (loopAt Tryz.f55 0) 1 [0,8,9,10] [] [] (oC_st n g (i:Nat))).ok fun r=>r.1 = .normal∧∃ j,j≤badE n g∧badE n g - j < badE n g - i∧r.2=oC_st n g (j:Nat):=by
  intro i hi hne
  obtain ⟨f1,f2⟩:=hf
  obtain ⟨he,h1,-⟩:=badE_spec n g
  obtain ⟨r1,r2,r3,r4⟩:=rightO_ok (h1 i (by omega))
  have hw:i64.wrap ((i:Int)+1)=((i+1:Nat):Int):=by rw [w64i (by omega) (by omega)];rfl
  have fin:∃ j,j≤badE n g∧badE n g - j < badE n g - i∧oC_st n g ((i+1:Nat):Int)=oC_st n g (j:Nat):=⟨i+1,by omega,by omega,rfl⟩
  rw [oC_round]
  simp only [Int.toNat_natCast,hw,T.ok,decide_eq_true_eq,decide_eq_false_iff_not,Bool.not_eq_true',Bool.not_eq_false',Op.c,ba_empty]
  repeat' (first | refine And.intro ?_ ?_ | intro _)
  all_goals first | omega | exact ⟨rfl,fin⟩ | rfl | exact fin | trivial | (exfalso;grind)
set_option maxRecDepth 100000 in
theorem oD_step (n:Nat) (g:Nat→Op) (hf:Few n g):∀ i:Nat,i≤mandE n g→i ≠ mandE n g→(roundM Tryz.prog (CO1 Tryz.prog Tryz.f108 Tryz.f101) noL Tryz.f55.ntmps 2 (loopAt Tryz.f55 1) 1 [0,20,21,22] [] [] (oD_st n g (i:Nat))).ok fun r=>r.1 = .normal∧∃ j,j≤mandE n g∧mandE n g - j < mandE n g - i∧r.2=oD_st n g (j:Nat):=by
  intro i hi hne
  obtain ⟨f1,f2⟩:=hf
  obtain ⟨he,h1,-⟩:=mandE_spec n g
  have h1:=h1 i (by omega)
  have hw:i64.wrap ((i:Int)+1)=((i+1:Nat):Int):=by rw [w64i (by omega) (by omega)];rfl
  have fin:∃ j,j≤mandE n g∧mandE n g - j < mandE n g - i∧oD_st n g ((i+1:Nat):Int)=oD_st n g (j:Nat):=⟨i+1,by omega,by omega,rfl⟩
  rw [oD_round]
  simp only [Int.toNat_natCast,hw,T.ok,decide_eq_true_eq,decide_eq_false_iff_not,Bool.not_eq_true',Bool.not_eq_false',Op.c,ba_empty]
  repeat' (first | refine And.intro ?_ ?_ | intro _)
  all_goals first | omega | exact ⟨rfl,fin⟩ | rfl | exact fin | trivial | (exfalso;grind)
set_option maxRecDepth 100000 in
theorem rC_step (n:Nat) (g:Nat→Op) (hf:Few n g):∀ i:Nat,i≤badE n g→i ≠ badE n g→(roundM Tryz.prog (CO1 Tryz.prog Tryz.f108 Tryz.f101) noL Tryz.f135.ntmps 0 (loopAt Tryz.f135 0) 1 [0,3] [] [] (rC_st n g (i:Nat))).ok fun r=>r.1 = .normal∧∃ j,j≤badE n g∧badE n g - j < badE n g - i∧r.2=rC_st n g (j:Nat):=by
  intro i hi hne
  obtain ⟨f1,f2⟩:=hf
  obtain ⟨he,h1,-⟩:=badE_spec n g
  obtain ⟨r1,r2,r3,r4⟩:=rightO_ok (h1 i (by omega))
  have hw:i64.wrap ((i:Int)+1)=((i+1:Nat):Int):=by rw [w64i (by omega) (by omega)];rfl
  have fin:∃ j,j≤badE n g∧badE n g - j < badE n g - i∧rC_st n g ((i+1:Nat):Int)=rC_st n g (j:Nat):=⟨i+1,by omega,by omega,rfl⟩
  rw [rC_round]
  simp only [Int.toNat_natCast,hw,T.ok,decide_eq_true_eq,decide_eq_false_iff_not,Bool.not_eq_true',Bool.not_eq_false',Op.c,ba_empty]
  repeat' (first | refine And.intro ?_ ?_ | intro _)
  all_goals first | omega | exact ⟨rfl,fin⟩ | rfl | exact fin | trivial | (exfalso;grind)
set_option maxRecDepth 100000 in
theorem rD_step (n:Nat) (g:Nat→Op) (hf:Few n g):∀ i:Nat,i≤mandE n g→i ≠ mandE n g→(roundM Tryz.prog (CO1 Tryz.prog Tryz.f108 Tryz.f101) noL Tryz.f135.ntmps 2 (loopAt Tryz.f135 1) 1 [0,5] [] [] (rD_st n g (i:Nat))).ok fun r=>r.1 = .normal∧∃ j,j≤mandE n g∧mandE n g - j < mandE n g - i∧r.2=rD_st n g (j:Nat):=by
  intro i hi hne
  obtain ⟨f1,f2⟩:=hf
  obtain ⟨he,h1,-⟩:=mandE_spec n g
  have h1:=h1 i (by omega)
  have hw:i64.wrap ((i:Int)+1)=((i+1:Nat):Int):=by rw [w64i (by omega) (by omega)];rfl
  have hw2:i64.wrap ((n:Int) - 1)=(n:Int) - 1:=w64i (by omega) (by omega)
  have fin:∃ j,j≤mandE n g∧mandE n g - j < mandE n g - i∧rD_st n g ((i+1:Nat):Int)=rD_st n g (j:Nat):=⟨i+1,by omega,by omega,rfl⟩
  rw [rD_round]
  simp only [Int.toNat_natCast,hw,hw2,T.ok,decide_eq_true_eq,decide_eq_false_iff_not,Bool.not_eq_true',Bool.not_eq_false',Op.c,ba_empty]
  repeat' (first | refine And.intro ?_ ?_ | intro _)
  all_goals first | omega | exact ⟨rfl,fin⟩ | rfl | exact fin | trivial | (exfalso;grind)
end Go.Proofs.YthacfgaacleaeaaGreatDoor
namespace Go.Proofs.YthacfgaacleaeaaGreatDoor
open Go.IntKind (i64 u32)
open Go.RowKit Sym Go.ChangeShapes Go.WideShapes Go.ChangeMaps
theorem CO1_ok:CfgOk Tryz.prog (CO1 Tryz.prog Tryz.f108 Tryz.f101):=both_ok SOpt0_ok FOpt1_ok
set_option maxRecDepth 100000 in
theorem opts_Check (n:Nat) (g:Nat→Op) (hf:Few n g) (v:Value) (w:World) (hv:∀ B,BlkSat B w v (.row n 2 fun i j=>(g i).c j)):Calls Tryz.prog 55 #[v] w fun e w'=>e = .returned (.int .i64 (chkO n g))∧Below w.heap.size w w':=by
  obtain ⟨b1,-,b3⟩:=badE_spec n g
  obtain ⟨m1,-,m3⟩:=mandE_spec n g
  have hS:=CO1_ok
  refine calls_runO hS follows Tryz.func55 (by kernel_rfl) (by kernel_rfl) (two_loops (b1:=loopAt Tryz.f55 0) (b2:=loopAt Tryz.f55 1) (id1:=0) (id2:=2) (by kernel_rfl) (fun st t h=>?_) (fun st t h=>?_)) (oC_run n g (badE n g) (mandE n g)) ?_ (mem_row (hv [v])) rfl
  · rw [addL_same (addL_other (by decide) h)]
    exact loop_cnt hS follows (by kernel_rfl) (noloops (by kernel_rfl)) (fun i=>i≤badE n g) (fun i=>oC_st n g (i:Nat)) (fun i=>badE n g - i) 1 [0,8,9,10] [] [] (badE n g) [] (oC_step n g hf) (Nat.zero_le _)
  · rw [addL_same h]
    exact loop_cnt hS follows (by kernel_rfl) (noloops (by kernel_rfl)) (fun i=>i≤mandE n g) (fun i=>oD_st n g (i:Nat)) (fun i=>mandE n g - i) 1 [0,20,21,22] [] [] (mandE n g) [] (oD_step n g hf) (Nat.zero_le _)
  · have hp:OpP n fun i j=>(g i).c j:=⟨allOp_c n g,hf⟩
    have ho:(opF fun i j=>(g i).c j)=g:=rfl
    obtain ⟨f1,f2⟩:=hf
    have hw:i64.wrap ((mandE n g:Int)+1)=((mandE n g+1:Nat):Int):=by rw [w64i (by omega) (by omega)];rfl
    have hw2:i64.wrap ((n:Int) - 1)=(n:Int) - 1:=w64i (by omega) (by omega)
    simp only [ho]
    simp only [Int.toNat_natCast,hw,hw2,T.ok,decide_eq_true_eq,decide_eq_false_iff_not,Bool.not_eq_true',Bool.not_eq_false',Op.c,ba_empty,ho]
    unfold chkO
    by_cases hb:badE n g < n
    · have b3:=b3 hb
      have hz:=f2 _ hb
      rw [if_pos hb]
      generalize badE n g=e at *
      unfold rightO at b3 ⊢
      repeat' (first | exact hp | refine And.intro ?_ ?_ | intro _)
      all_goals first | omega | rfl | trivial | exact hp | (exfalso;grind) | grind
    · rw [if_neg hb]
      by_cases hm:mandE n g < n
      · have m3:=m3 hm
        rw [if_pos hm]
        repeat' (first | exact hp | refine And.intro ?_ ?_ | intro _)
        all_goals first | omega | rfl | trivial | exact hp | (exfalso;grind) | grind
      · rw [if_neg hm]
        repeat' (first | exact hp | refine And.intro ?_ ?_ | intro _)
        all_goals first | omega | rfl | trivial | exact hp | (exfalso;grind) | grind
set_option maxRecDepth 100000 in
theorem ref07_Check (n:Nat) (g:Nat→Op) (hf:Few n g) (v:Value) (w:World) (hv:∀ B,BlkSat B w v (.row n 2 fun i j=>(g i).c j)):Calls Tryz.prog 135 #[v] w fun e w'=>e = .returned (.int .i64 (chkO n g))∧Below w.heap.size w w':=by
  obtain ⟨b1,-,b3⟩:=badE_spec n g
  obtain ⟨m1,-,m3⟩:=mandE_spec n g
  have hS:=CO1_ok
  refine calls_runO hS follows Tryz.func135 (by kernel_rfl) (by kernel_rfl) (two_loops (b1:=loopAt Tryz.f135 0) (b2:=loopAt Tryz.f135 1) (id1:=0) (id2:=2) (by kernel_rfl) (fun st t h=>?_) (fun st t h=>?_)) (rC_run n g (badE n g) (mandE n g)) ?_ (mem_row (hv [v])) rfl
  · rw [addL_same (addL_other (by decide) h)]
    exact loop_cnt hS follows (by kernel_rfl) (noloops (by kernel_rfl)) (fun i=>i≤badE n g) (fun i=>rC_st n g (i:Nat)) (fun i=>badE n g - i) 1 [0,3] [] [] (badE n g) [] (rC_step n g hf) (Nat.zero_le _)
  · rw [addL_same h]
    exact loop_cnt hS follows (by kernel_rfl) (noloops (by kernel_rfl)) (fun i=>i≤mandE n g) (fun i=>rD_st n g (i:Nat)) (fun i=>mandE n g - i) 1 [0,5] [] [] (mandE n g) [] (rD_step n g hf) (Nat.zero_le _)
  · have hp:OpP n fun i j=>(g i).c j:=⟨allOp_c n g,hf⟩
    have ho:(opF fun i j=>(g i).c j)=g:=rfl
    obtain ⟨f1,f2⟩:=hf
    have hw:i64.wrap ((mandE n g:Int)+1)=((mandE n g+1:Nat):Int):=by rw [w64i (by omega) (by omega)];rfl
    have hw2:i64.wrap ((n:Int) - 1)=(n:Int) - 1:=w64i (by omega) (by omega)
    simp only [ho]
    simp only [Int.toNat_natCast,hw,hw2,T.ok,decide_eq_true_eq,decide_eq_false_iff_not,Bool.not_eq_true',Bool.not_eq_false',Op.c,ba_empty,ho]
    unfold chkO
    by_cases hb:badE n g < n
    · have b3:=b3 hb
      have hz:=f2 _ hb
      rw [if_pos hb]
      generalize badE n g=e at *
      unfold rightO at b3 ⊢
      repeat' (first | exact hp | refine And.intro ?_ ?_ | intro _)
      all_goals first | omega | rfl | trivial | exact hp | (exfalso;grind) | grind
    · rw [if_neg hb]
      by_cases hm:mandE n g < n
      · have m3:=m3 hm
        rw [if_pos hm]
        repeat' (first | exact hp | refine And.intro ?_ ?_ | intro _)
        all_goals first | omega | rfl | trivial | exact hp | (exfalso;grind) | grind
      · rw [if_neg hm]
        repeat' (first | exact hp | refine And.intro ?_ ?_ | intro _)
        all_goals first | omega | rfl | trivial | exact hp | (exfalso;grind) | grind
end Go.Proofs.YthacfgaacleaeaaGreatDoor
namespace Go.Proofs.YthacfgaacleaeaaGreatDoor
open Go.IntKind (i64 u32)
open Go.RowKit Sym
def okM (o:Op):Bool:=decide (errM o.kind o.val=0)
def muO (o:Op):Mp:=getM o.kind o.val
def allM (g:Nat→Op):Nat→List Mp
  | 0=>[]
  | i+1=>allM g i++(if okM (g i)=true then [muO (g i)] else [])
theorem allM_len (g:Nat→Op):∀ i,(allM g i).length≤i
  | 0=>Nat.le_refl _
  | i+1=>by
    have:=allM_len g i
    unfold allM
    rw [List.length_append]
    split <;> simp <;> omega
theorem allM_yes {g:Nat→Op} {i:Nat} (h:okM (g i)=true):allM g (i+1)=allM g i++[muO (g i)]:=by show allM g i++_=_;rw [if_pos h]
theorem allM_no {g:Nat→Op} {i:Nat} (h:okM (g i)=false):allM g (i+1)=allM g i:=by show allM g i++_=_;rw [if_neg (by rw [h];decide),List.append_nil]
def inK (a b:Int) (m:Mp):Bool:=decide (a≤m.kind) && decide (m.kind≤b)
theorem inK_iff {a b:Int} {m:Mp}:inK a b m=true ↔ a≤m.kind∧m.kind≤b:=by unfold inK;simp
def fstM (g:Nat→Op) (n:Nat) (a b:Int):Option Mp:=(allM g n).find? (inK a b)
def cellsM (L:List Mp):List Value:=L.flatMap Mp.l
theorem Mp.l_len (m:Mp):m.l.length=7:=rfl
theorem cellsM_len (L:List Mp):(cellsM L).length=L.length * 7:=by
  induction L with
  | nil=>rfl
  | cons m L ih=>unfold cellsM at *;rw [List.flatMap_cons,List.length_append,ih,Mp.l_len,List.length_cons];omega
theorem cellsM_snoc (L:List Mp) (m:Mp):cellsM (L++[m])=cellsM L++m.l:=by unfold cellsM;simp
theorem cellsM_at (L:List Mp) (i j:Nat) (h:i < L.length) (hj:j < 7):(cellsM L)[i * 7+j]?=(L[i].l)[j]?:=by
  induction L generalizing i with
  | nil=>simp at h
  | cons m L ih =>
    show (m.l++cellsM L)[i * 7+j]?=_
    cases i with
    | zero=>rw [List.getElem?_append_left (by rw [Mp.l_len];omega)];simp
    | succ i =>
      rw [List.getElem?_append_right (by rw [Mp.l_len];omega),Mp.l_len,show (i+1) * 7+j - 7=i * 7+j by omega,ih i (by simpa using h)]
      simp
theorem Mp.l_one (m:Mp):∀ u ∈ m.l,u.oneCell'=true:=by
  intro u hu
  unfold Mp.l at hu
  simp only [List.mem_cons,List.not_mem_nil,or_false] at hu
  rcases hu with rfl | rfl | rfl | rfl | rfl | rfl | rfl <;> rfl
theorem lt_of_heapM {w:World} {k:Nat} {o:Obj} (h:w.heap[k]?=some o):k < w.heap.size:=by
  rcases Nat.lt_or_ge k w.heap.size with h2 | h2
  · exact h2
  · rw [Array.getElem?_eq_none h2] at h;cases h
def OptsAt (w:World) (v:Value) (n:Nat) (g:Nat→Op):Prop:=∃ p cap,v = .slice p n cap∧n≤cap∧cap≤maxLen∧∀ i,i < n→∃ b o,p=some ⟨b,o,none⟩∧w.cell? ⟨b,o+i * 2,none⟩=some (.int .i64 (g i).kind)∧w.cell? ⟨b,o+i * 2+1,none⟩=some (.string (g i).val)
def MusAt (w:World) (v:Value) (L:List Mp):Prop:=∃ p cap,v = .slice p L.length cap∧L.length≤cap∧cap≤maxLen∧∀ i (h:i < L.length),∃ b o,p=some ⟨b,o,none⟩∧b < w.heap.size∧∀ j u,(L[i].l)[j]?=some u→w.cell? ⟨b,o+i * 7+j,none⟩=some u
theorem OptsAt.below {w w':World} {v:Value} {n:Nat} {g:Nat→Op} (h:OptsAt w v n g) (hb:Below w.heap.size w w'):OptsAt w' v n g:=by
  obtain ⟨p,cap,h1,h2,h3,h4⟩:=h
  refine ⟨p,cap,h1,h2,h3,fun i hi=>?_⟩
  obtain ⟨b,o,e,c1,c2⟩:=h4 i hi
  exact ⟨b,o,e,(hb.cell (p:=⟨b,o+i * 2,none⟩) (lt_of_cell c1)).trans c1,(hb.cell (p:=⟨b,o+i * 2+1,none⟩) (lt_of_cell c2)).trans c2⟩
theorem MusAt.below {w w':World} {v:Value} {L:List Mp} (h:MusAt w v L) (hb:Below w.heap.size w w'):MusAt w' v L:=by
  obtain ⟨p,cap,h1,h2,h3,h4⟩:=h
  refine ⟨p,cap,h1,h2,h3,fun i hi=>?_⟩
  obtain ⟨b,o,e,hl,hc⟩:=h4 i hi
  exact ⟨b,o,e,Nat.lt_of_lt_of_le hl hb.size,fun j u hj=>(hb.cell (p:=⟨b,o+i * 7+j,none⟩) hl).trans (hc j u hj)⟩
theorem musAt_own {w:World} {base:Nat} {u:Value} {L:List Mp} (h:w.ownsRow base 65 7 u L.length (cellsM L)):MusAt w u L:=by
  rcases h.2 with ⟨rfl,hz⟩ | ⟨b,cap,cur,rfl,hbase,hgg,h1,h2,h3,h4⟩
  · exact ⟨none,0,by rw [hz],by omega,Nat.zero_le _,fun i hi=>by omega⟩
  · refine ⟨some ⟨b,0,none⟩,cap,rfl,h1,h2,fun i hi=>⟨b,0,rfl,lt_of_heapM hgg,fun j v hj=>?_⟩⟩
    have hj7:j < 7:=by
      by_cases h7:j < 7
      · exact h7
      · rw [List.getElem?_eq_none (by rw [Mp.l_len];omega)] at hj;cases hj
    have e1:=cellsM_at L i j hi hj7
    rw [hj,← h4] at e1
    have hlt:i * 7+j < L.length * 7:=by omega
    rw [List.getElem?_take_of_lt hlt] at e1
    simp only [World.cell?,hgg,Option.isSome_none,Bool.false_eq_true,if_false,Nat.zero_add]
    rw [← Array.getElem?_toList]
    exact e1
theorem optsAt_row {w:World} {v:Value} {n:Nat} {g:Nat→Op} (h:∀ B,BlkSat B w v (.row n 2 fun i j=>(g i).c j)):OptsAt w v n g:=by
  obtain ⟨p,cap,rfl,h1,h2,h3⟩:=h []
  refine ⟨p,cap,rfl,h1,h2,fun i hi=>?_⟩
  obtain ⟨a,rfl,c1⟩:=h3 i 0 hi (by omega)
  obtain ⟨a',e,c2⟩:=h3 i 1 hi (by omega)
  obtain rfl:=Option.some.inj e
  have hs:a.spot=none:=by
    obtain ⟨a0,e0,c0⟩:=h3 0 0 (by omega) (by omega)
    obtain rfl:=Option.some.inj e0
    have h:=World.cell?_spot c0
    simpa [Addr.add] using h
  obtain ⟨b,o,sp⟩:=a
  obtain rfl:sp=none:=hs
  have ea:∀ k,(⟨b,o,none⟩:Addr).add k=⟨b,o+k,none⟩:=fun k=>by
    unfold Addr.add
    by_cases h0:k=0
    · subst h0;simp
    · simp [h0]
  rw [ea] at c1 c2
  exact ⟨b,o,rfl,c1,by rw [show o+i * 2+1=o+(i * 2+1) by omega];exact c2⟩
end Go.Proofs.YthacfgaacleaeaaGreatDoor
namespace Go.Proofs.YthacfgaacleaeaaGreatDoor.Sym
open Go.IntKind (i64 u32)
open Go.RowKit
end Go.Proofs.YthacfgaacleaeaaGreatDoor.Sym
namespace Go.Proofs.YthacfgaacleaeaaGreatDoor
open Go.IntKind (i64 u32)
open Go.RowKit Sym Sha Go.ChangeShapes Go.WideShapes Go.ChangeMaps
def fLeftC:List SV→List Blk→Option (T (SV×List Blk))
  | [.ptr 0 0],H=>match cutOpen H with
    | some (s,a,e)=>some (.need (0≤a∧a≤s.size∧s.size≤1000000) (.leaf (.v (.int .i64 ((s.size:Int) - a)),ownC s a e)))
    | _=>none
  | _,_=>none
set_option maxRecDepth 100000 in
theorem leftC_run (s:ByteArray) (a e:Int):trimT 1 (runF Tryz.prog (onlyS Tryz.prog noS) noL Tryz.f130 (Tryz.f130.body.getD .skip) [.ptr 0 0] [.own [.v (.string s),.v (.int .i64 a),.c (.int .i64 e)]]) = .leaf (.v (.int .i64 (i64.wrap ((↑s.size:Int) - a))),[.own [.v (.string s),.v (.int .i64 a),.c (.int .i64 e)]]):=by kernel_rfl
set_option maxRecDepth 100000 in
theorem fLeftC_ok:EntryOk Tryz.prog 130 fLeftC:=by
  intro ss H t ht bs B w vs hm hv Qs hq
  unfold fLeftC at ht
  split at ht
  · split at ht
    · rename_i s a e hc
      simp only [Option.some.injEq] at ht
      subst ht
      obtain ⟨⟨q1,q2,q3⟩,hq⟩:=hq
      refine trimT_ok (onlyS_ok noS_ok) follows Tryz.func130 (by kernel_rfl) (by kernel_rfl) (noloops (by kernel_rfl)) (leftC_run s a e) (cutOpen_mem hc hm) hv ?_
      have e2:i64.wrap ((s.size:Int) - a)=(s.size:Int) - a:=w64 _ (by omega) (by omega)
      rw [e2]
      exact hq
    · cases ht
  · cases ht
structure MpFn where
  num:Func
  addr:Func
  prio:Func
  token:Func
  nonce:Func
  of:Func
  nread:Func
  bread:Func
def FMp0 (P:Program) (N:MpFn):LTab:=addT 149 (inl P (onlyS P noS) noL N.num) <| addT 150 (inl P (onlyS P noS) noL N.addr) <| addT 153 (inl P (onlyS P noS) noL N.prio) <| addT 151 (inl P (onlyS P noS) noL N.token) <| addT 152 (inl P (onlyS P noS) noL N.nonce) <| addT 130 fLeftC FCutC
abbrev fsMp0:List Nat:=[76,93,94,95,130,149,150,153,151,152]
abbrev CMp0 (P:Program) (N:MpFn):Cfg:=both P noS (FMp0 P N) fsMp0
def LBr (P:Program) (N:MpFn):Nat→St→Option (T (Ex×St)):=addL 0 (unrollB (runC P (CMp0 P N) noL N.bread.ntmps (loopAt N.bread 0)) 0 4) noL
def FMp1 (P:Program) (N:MpFn):LTab:=addT 228 (inl P (CMp0 P N) noL N.nread) <| addT 231 (inl P (CMp0 P N) (LBr P N) N.bread) <| addT 100 (inl P (onlyS P noS) noL N.of) (FMp0 P N)
abbrev fsMp1:List Nat:=[228,231,100]++fsMp0
abbrev CMp1 (P:Program) (N:MpFn):Cfg:=both P noS (FMp1 P N) fsMp1
def LGt (P:Program) (N:MpFn) (get:Func):Nat→St→Option (T (Ex×St)):=addL 1 (unrollB (runC P (CMp1 P N) noL get.ntmps (loopAt get 0)) 1 5) noL
set_option maxRecDepth 100000 in
theorem mget_run (k:Int) (s:ByteArray):runV Tryz.prog (CMp1 Tryz.prog (MpFn.mk Tryz.f149 Tryz.f150 Tryz.f153 Tryz.f151 Tryz.f152 Tryz.f100 Tryz.f228 Tryz.f231)) (LGt Tryz.prog (MpFn.mk Tryz.f149 Tryz.f150 Tryz.f153 Tryz.f151 Tryz.f152 Tryz.f100 Tryz.f228 Tryz.f231) Tryz.f71) Tryz.f71 [.agg #[.int .i64 k,.string s]] =
 letI q2:=Value.int i64 0;
 letI p5:=Value.string (ByteArray.mk (Array.mk []));
 letI q:=Value.agg (Array.mk [q2,q2,q2,q2,q2,q2,p5]);
 letI q0:T Value:=.leaf (Value.tuple (Array.mk [q,Value.int i64 1]));
 letI q3:=(0:Int);
 letI q5:=(1:Int);
 letI q4:=(↑s.size:Int);
 letI x6:=(8:Int);
 letI x3:=(1000000:Int);
 letI x7:=(9:Int);
 letI p:T Value:=.leaf (Value.tuple (Array.mk [q,Value.int i64 2]));
 letI z2:=s.extract 0 1;
 letI p2:=Value.int i64 (valU z2);
 letI q1:T Value:=.need (q3≤q5∧q5≤q4∧q3≤x6∧x6≤x3∧s.size≤1000000) (.ite (decide (x7≤q4)) (.need (q3≤x7∧x7≤q4∧s.size≤1000000) (.ite (decide (x7 < q4)) p (.leaf (Value.tuple (Array.mk [Value.agg (Array.mk [p2,q2,q2,q2,q2,q2,Value.string (s.extract 1 9)]),q2]))))) q0);
 letI y:=(5:Int);
 letI y5:=(32:Int);
 letI k0:=(37:Int);
 letI x2:=Value.int i64 (valU (s.extract 1 5));
 letI q6:T Value:=.need (q3≤y∧y≤q4∧q3≤y5∧y5≤x3∧s.size≤1000000) (.ite (decide (k0≤q4)) (.need (q3≤k0∧k0≤q4∧s.size≤1000000) (.ite (decide (k0 < q4)) p (.leaf (Value.tuple (Array.mk [Value.agg (Array.mk [p2,q2,q2,x2,q2,q2,Value.string (s.extract 5 37)]),q2]))))) q0);
 letI k1:=(33:Int);
 letI q7:T Value:=.need (q3≤q5∧q5≤q4∧q3≤y5∧y5≤x3∧s.size≤1000000) (.ite (decide (k1≤q4)) (.need (q3≤k1∧k1≤q4∧s.size≤1000000) (.ite (decide (k1 < q4)) p (.leaf (Value.tuple (Array.mk [Value.agg (Array.mk [p2,q2,q2,q2,q2,q2,Value.string (s.extract 1 33)]),q2]))))) q0);
 letI p1:=(2:Int);
 letI z:=q3≤q3∧q3 < p1;
 letI z5:=(7:Int);
 letI p7:=q3≤q5∧q5≤q4∧q5≤q5∧q5≤z5∧s.size≤1000000;
 letI y6:=decide (p1≤q4);
 letI z0:=q3≤q5∧q5 < p1;
 letI z3:=(4:Int);
 letI y1:=q3≤p1∧p1≤q4∧q5≤z3∧z3≤z5∧s.size≤1000000;
 letI y3:=(6:Int);
 letI k5:=decide (y3≤q4);
 letI z6:=Value.int i64 (valU (s.extract 1 2));
 letI x1:=Value.int i64 (valU (s.extract 2 6));
 letI x8:=q5≤z3;
 letI y2:T Value:=.need x8 q0;
 letI q8:T Value:=.need z (.need p7 (.ite y6 (.need z0 (.need y1 (.ite k5 (.need (q3≤y3∧y3≤q4∧s.size≤1000000) (.ite (decide (y3 < q4)) p (.leaf (Value.tuple (Array.mk [Value.agg (Array.mk [p2,z6,q2,x1,q2,q2,p5]),q2]))))) q0))) (.need z0 y2)));
 letI p9:=q3≤q5∧q5≤q4∧s.size≤1000000;
 letI k2:=(16:Int);
 letI z1:T Value:=.need (q3≤p1∧p1 < p1) (.need (2 < 2) (T.stuck 61));
 letI k3:=(17:Int);
 letI q9:T Value:=.ite true (.need z0 (.need (1 < 2) (.need p9 (.ite (decide (k2≤q4 - q5)) (.ite false z1 (.need (q3≤q5∧q5≤q4∧q3≤k2∧k2≤x3∧s.size≤1000000) (.ite (decide (k3≤q4)) (.need (q3≤k3∧k3≤q4∧s.size≤1000000) (.ite (decide (k3 < q4)) p (.leaf (Value.tuple (Array.mk [Value.agg (Array.mk [p2,q2,q2,q2,q2,q2,Value.string (s.extract 1 17)]),q2]))))) q0))) (.ite false z1 q1))))) q1;
 letI p0:T Value:=.need (q3≤q5∧q5 < q5) (.need (1 < 1) (T.stuck 61));
 letI p3:=q3≤q3∧q3 < q5;
 letI z4:=(3:Int);
 letI x:=q3≤p1∧p1 < z4;
 letI p4:T Value:=.need x y2;
 letI z9:=q3≤q3∧q3≤q4∧s.size≤1000000;
 letI p6:T Value:=.ite true (.need z0 (.need (1 < 2) (.need z9 (.ite (decide (k2≤q4 - q3)) (.ite false z1 q0) (.ite false z1 q0))))) q0;
 letI x4:=0 < 1;
 letI x0:T Value:=.ite false p0 q0;
 letI p8:T Value:=.need p3 (.need x4 (.ite true (.need p3 (.need x4 (.need z9 (.ite (decide (y5≤q4 - q3)) x0 x0)))) q0));
 letI z7:T Value:=.leaf (Value.tuple (Array.mk [q,Value.int i64 7]));
 letI z8:=q3≤q5∧q5 < z4;
 letI y0:=q3≤q5∧q5≤q4∧q5≤z3∧z3≤z5∧s.size≤1000000;
 letI y4:=q3≤q3∧q3 < z4;
 letI y7:=q5≤q5;
 letI y8:=q3≤z5∧z5≤q4∧s.size≤1000000;
 letI y9:=q3≤y∧y≤q4∧s.size≤1000000;
 letI x5:=(10:Int);
 letI x9:T Value:=.need z (.need y7 (.need z0 y2));
 letI k4:=decide (y5≤q4 - q5);
 letI k6:=decide (z5≤q4);
 letI k7:=decide (z4≤q4);
 letI k8:=decide (y≤q4);
 .ite (!decide (k=(46:Int))) z7 (.ite (decide (s=ByteArray.mk (Array.mk []))) q0 (.need (q3≤q3∧q3≤q4∧q5≤q5∧q5≤z5∧s.size≤1000000) (.ite (decide (q5≤q4)) (.ite (decide (valU z2=q3)) (.need z (.need y0 (.ite k8 (.need z0 (.need p3 (.need x4 (.ite true (.need p3 (.need x4 (.need y9 (.ite (decide (y5≤q4 - y)) (.ite false p0 q6) (.ite false p0 q6))))) q6)))) (.need z0 (.need p3 (.need x4 (.ite true (.need p3 (.need x4 (.need p9 (.ite k4 x0 x0)))) q0))))))) (.ite (decide (valU z2=q5)) (.need y4 (.need p7 (.ite y6 (.need z8 (.need y1 (.ite k5 (.need x (.need (q3≤y3∧y3≤q4∧q5≤z3∧z3≤z5∧s.size≤1000000) (.ite (decide (x5≤q4)) (.need (q3≤x5∧x5≤q4∧s.size≤1000000) (.ite (decide (x5 < q4)) p (.leaf (Value.tuple (Array.mk [Value.agg (Array.mk [p2,z6,q2,q2,x1,Value.int i64 (valU (s.extract 6 10)),p5]),q2]))))) q0))) p4))) (.need z8 (.need x8 p4))))) (.ite (decide (valU z2=z4)) (.need p3 (.need z (.need (0 < 2) (.ite true (.need z (.need (0 < 2) (.need p9 (.ite (decide (x6≤q4 - q5)) q9 q9)))) q1)))) (.ite (decide (valU z2=z3)) (.need p3 (.need (q3≤q5∧q5≤q4∧q5≤y3∧y3≤z5∧s.size≤1000000) (.ite k6 (.need y8 (.ite (decide (z5 < q4)) p (.leaf (Value.tuple (Array.mk [Value.agg (Array.mk [p2,q2,q2,Value.int i64 (valU (s.extract 1 7)),q2,q2,p5]),q2]))))) q0))) (.ite (decide (valU z2=y)) (.need p3 (.need p3 (.need x4 (.ite true (.need p3 (.need x4 (.need p9 (.ite k4 (.ite false p0 q7) (.ite false p0 q7))))) q7)))) (.ite (decide (valU z2=y3)) (.need p3 (.need (q3≤q5∧q5≤q4∧q5≤p1∧p1≤z5∧s.size≤1000000) (.ite k7 (.need (q3≤z4∧z4≤q4∧s.size≤1000000) (.ite (decide (z4 < q4)) p (.leaf (Value.tuple (Array.mk [Value.agg (Array.mk [p2,q2,q2,Value.int i64 (valU (s.extract 1 3)),q2,q2,p5]),q2]))))) q0))) (.ite (decide (valU z2=z5)) q8 (.ite (decide (valU z2=x6)) q8 (.ite (decide (valU z2=x7)) (.need y4 (.need p7 (.ite y6 (.need z8 (.need (q3≤p1∧p1≤q4∧q5≤q5∧q5≤z5∧s.size≤1000000) (.ite k7 (.need x (.need (q3≤z4∧z4≤q4∧q5≤z3∧z3≤z5∧s.size≤1000000) (.ite k6 (.need y8 (.ite (decide (z5 < q4)) p (.leaf (Value.tuple (Array.mk [Value.agg (Array.mk [p2,z6,Value.int i64 (valU (s.extract 2 3)),Value.int i64 (valU (s.extract 3 7)),q2,q2,p5]),q2]))))) q0))) p4))) (.need z8 (.need y7 p4))))) (.ite (decide (valU z2=x5)) (.need p3 (.need y0 (.ite k8 (.need y9 (.ite (decide (y < q4)) p (.leaf (Value.tuple (Array.mk [Value.agg (Array.mk [p2,q2,q2,x2,q2,q2,p5]),q2]))))) q0))) (.ite (decide (valU z2=(11:Int))) (.need p3 (.need p7 (.ite y6 (.need (q3≤p1∧p1≤q4∧s.size≤1000000) (.ite (decide (p1 < q4)) p (.leaf (Value.tuple (Array.mk [Value.agg (Array.mk [p2,q2,q2,z6,q2,q2,p5]),q2]))))) q0))) (.ite true z7 (.ite false (T.stuck 2) (.need p9 (.ite (decide (q5 < q4)) p (.leaf (Value.tuple (Array.mk [Value.agg (Array.mk [p2,q2,q2,q2,q2,q2,p5]),q2])))))))))))))))))) (.ite true (.need z (.need x8 (.need z0 p8))) (.ite false (.need y4 (.need y7 (.need z8 (.need x8 p4)))) (.ite false (.need p3 (.need z (.need (0 < 2) (.ite true (.need z (.need (0 < 2) (.need z9 (.ite (decide (x6≤q4 - q3)) p6 p6)))) q0)))) (.ite false (.need p3 (.need (q5≤y3) q0)) (.ite false (.need p3 p8) (.ite false (.need p3 (.need (q5≤p1) q0)) (.ite false x9 (.ite false x9 (.ite false (.need y4 (.need y7 (.need z8 (.need y7 p4)))) (.ite false (.need p3 y2) (.ite false (.need p3 (.need y7 q0)) (.ite true z7 (.ite false (T.stuck 2) q0)))))))))))))))):=by kernel_rfl
theorem FMp0_ok:LOk Tryz.prog (FMp0 Tryz.prog (MpFn.mk Tryz.f149 Tryz.f150 Tryz.f153 Tryz.f151 Tryz.f152 Tryz.f100 Tryz.f228 Tryz.f231)) :=
  addT_ok (addT_ok (addT_ok (addT_ok (addT_ok (addT_ok FCutC_ok (by kernel_rfl) fLeftC_ok)
    (by kernel_rfl) (inl_ok (onlyS_ok noS_ok) follows Tryz.func152 (by kernel_rfl) (by kernel_rfl) (noloops (by kernel_rfl))))
    (by kernel_rfl) (inl_ok (onlyS_ok noS_ok) follows Tryz.func151 (by kernel_rfl) (by kernel_rfl) (noloops (by kernel_rfl))))
    (by kernel_rfl) (inl_ok (onlyS_ok noS_ok) follows Tryz.func153 (by kernel_rfl) (by kernel_rfl) (noloops (by kernel_rfl))))
    (by kernel_rfl) (inl_ok (onlyS_ok noS_ok) follows Tryz.func150 (by kernel_rfl) (by kernel_rfl) (noloops (by kernel_rfl))))
    (by kernel_rfl) (inl_ok (onlyS_ok noS_ok) follows Tryz.func149 (by kernel_rfl) (by kernel_rfl) (noloops (by kernel_rfl)))
theorem CMp0_ok:CfgOk Tryz.prog (CMp0 Tryz.prog (MpFn.mk Tryz.f149 Tryz.f150 Tryz.f153 Tryz.f151 Tryz.f152 Tryz.f100 Tryz.f228 Tryz.f231)):=both_ok noS_ok FMp0_ok
theorem FMp1_ok:LOk Tryz.prog (FMp1 Tryz.prog (MpFn.mk Tryz.f149 Tryz.f150 Tryz.f153 Tryz.f151 Tryz.f152 Tryz.f100 Tryz.f228 Tryz.f231)) :=
  addT_ok (addT_ok (addT_ok FMp0_ok
    (by kernel_rfl) (inl_ok (onlyS_ok noS_ok) follows Tryz.func100 (by kernel_rfl) (by kernel_rfl) (noloops (by kernel_rfl))))
    (by kernel_rfl) (inl_ok CMp0_ok follows Tryz.func231 (by kernel_rfl) (by kernel_rfl) (one_loop (b:=loopAt Tryz.f231 0) (id:=0) (by kernel_rfl) fun st t h=>by rw [addL_same h];exact unroll_ok CMp0_ok follows (by kernel_rfl) (noloops (by kernel_rfl)) 4 st)))
    (by kernel_rfl) (inl_ok CMp0_ok follows Tryz.func228 (by kernel_rfl) (by kernel_rfl) (noloops (by kernel_rfl)))
theorem CMp1_ok:CfgOk Tryz.prog (CMp1 Tryz.prog (MpFn.mk Tryz.f149 Tryz.f150 Tryz.f153 Tryz.f151 Tryz.f152 Tryz.f100 Tryz.f228 Tryz.f231)):=both_ok noS_ok FMp1_ok
def gotM (k:Int) (s:ByteArray):Value:=.tuple #[(getM k s).v,.int .i64 (errM k s)]
theorem gotM_bad {k:Int} {s:ByteArray} {e:Int} (h:errM k s=e) (h0:e ≠ 0):gotM k s = .tuple #[.agg #[.int .i64 0,.int .i64 0,.int .i64 0,.int .i64 0,.int .i64 0,.int .i64 0,.string (ByteArray.mk (Array.mk []))],.int .i64 e]:=by
  unfold gotM getM
  rw [h,if_neg h0];rfl
theorem gotM_good {s:ByteArray} (h:errM 46 s=0):gotM 46 s = .tuple #[(sayM (kindM s) s).v,.int .i64 0]:=by
  unfold gotM getM
  rw [h,if_pos rfl]
theorem errM_at {s:ByteArray} {n:Nat} (h0:s.size ≠ 0) (h:lenM (kindM s) s.size=n) (hn:n ≠ 0):errM 46 s=if s.size < n then 1 else if n < s.size then 2 else 0:=by
  unfold errM;rw [if_neg (by decide),if_neg h0,h,if_neg hn]
set_option maxRecDepth 100000 in
set_option maxHeartbeats 8000000 in
theorem mget_any (k:Int) (s:ByteArray) (hs:s.size≤1000000) (w:World):Calls Tryz.prog 71 #[.agg #[.int .i64 k,.string s]] w fun e w'=>e = .returned (gotM k s)∧Below w.heap.size w w':=by
  refine calls_runV CMp1_ok follows Tryz.func71 (by kernel_rfl) (by kernel_rfl) (one_loop (b:=loopAt Tryz.f71 0) (id:=1) (by kernel_rfl) fun st t h=>by rw [addL_same h];exact unroll_ok CMp1_ok follows (by kernel_rfl) (noloops (by kernel_rfl)) 5 st) (mget_run k s) ?_ w
  by_cases hk:k=46
  · subst hk
    by_cases h0:s.size=0
    · have hz:s=ByteArray.mk (Array.mk []):=by
        apply ByteArray.ext;exact Array.eq_empty_of_size_eq_zero (by simpa using h0)
      have he:errM 46 s=1:=by unfold errM;rw [if_neg (by decide),if_pos h0]
      rw [gotM_bad he (by decide)]
      subst hz
      exact ⟨fun h=>absurd h (by decide),fun _=>⟨fun _=>rfl,fun h=>absurd h (by decide)⟩⟩
    · have hne:¬ s=ByteArray.mk (Array.mk []):=fun h=>h0 (by rw [h];rfl)
      have hcases:kindM s=0 ∨ kindM s=1 ∨ kindM s=3 ∨ kindM s=4 ∨ kindM s=5 ∨ kindM s=6 ∨ kindM s=7 ∨ kindM s=8 ∨ kindM s=9 ∨ kindM s=10 ∨ kindM s=11 ∨ lenM (kindM s) s.size=0:=by
        unfold lenM
        by_cases a0:kindM s=0;· exact .inl a0
        by_cases a1:kindM s=1;· exact .inr (.inl a1)
        by_cases a3:kindM s=3;· exact .inr (.inr (.inl a3))
        by_cases a4:kindM s=4;· exact .inr (.inr (.inr (.inl a4)))
        by_cases a5:kindM s=5;· exact .inr (.inr (.inr (.inr (.inl a5))))
        by_cases a6:kindM s=6;· exact .inr (.inr (.inr (.inr (.inr (.inl a6)))))
        by_cases a7:kindM s=7;· exact .inr (.inr (.inr (.inr (.inr (.inr (.inl a7))))))
        by_cases a8:kindM s=8;· exact .inr (.inr (.inr (.inr (.inr (.inr (.inr (.inl a8)))))))
        by_cases a9:kindM s=9;· exact .inr (.inr (.inr (.inr (.inr (.inr (.inr (.inr (.inl a9))))))))
        by_cases a10:kindM s=10;· exact .inr (.inr (.inr (.inr (.inr (.inr (.inr (.inr (.inr (.inl a10)))))))))
        by_cases a11:kindM s=11;· exact .inr (.inr (.inr (.inr (.inr (.inr (.inr (.inr (.inr (.inr (.inl a11))))))))))
        refine .inr (.inr (.inr (.inr (.inr (.inr (.inr (.inr (.inr (.inr (.inr ?_))))))))))
        simp only [a0,a1,a3,a4,a5,a6,a7,a8,a9,a10,a11,if_false]
      refine ⟨fun h=>absurd h (by decide),fun _=>⟨fun h=>absurd (of_decide_eq_true h) hne,fun _=>⟨by omega,⟨fun _=>?_,fun h=>absurd (of_decide_eq_false h) (by omega)⟩⟩⟩⟩
      rcases hcases with ht | ht | ht | ht | ht | ht | ht | ht | ht | ht | ht | ht
      · have hL:=errM_at h0 (n:=37) (by rw [ht];rfl) (by decide)
        have he0:valU (s.extract 0 1)=0:=ht
        rcases Nat.lt_trichotomy s.size 37 with hz | hz | hz
        · rw [if_pos hz] at hL;rw [gotM_bad hL (by decide)]
          clear hL hne ht
          simp only [T.ok,he0,Int.reduceEq,Int.reduceLE,Int.reduceLT,Nat.reduceLT,Nat.reduceLeDiff,Nat.lt_irrefl,decide_true,decide_false,Bool.true_eq_false,Bool.false_eq_true,Bool.not_true,Bool.not_false,reduceCtorEq,false_implies,true_implies,implies_true,and_true,true_and,and_self,decide_eq_true_eq,decide_eq_false_iff_not]
          ((repeat' (first | refine And.intro ?_ ?_ | intro _)) <;> first | omega | rfl | (exfalso;omega))
        · rw [if_neg (by omega),if_neg (by omega)] at hL;rw [gotM_good hL,ht]
          clear hL hne ht
          simp only [T.ok,he0,Int.reduceEq,Int.reduceLE,Int.reduceLT,Nat.reduceLT,Nat.reduceLeDiff,Nat.lt_irrefl,decide_true,decide_false,Bool.true_eq_false,Bool.false_eq_true,Bool.not_true,Bool.not_false,reduceCtorEq,false_implies,true_implies,implies_true,and_true,true_and,and_self,decide_eq_true_eq,decide_eq_false_iff_not]
          ((repeat' (first | refine And.intro ?_ ?_ | intro _)) <;> first | omega | rfl | (exfalso;omega))
        · rw [if_neg (by omega),if_pos hz] at hL;rw [gotM_bad hL (by decide)]
          clear hL hne ht
          simp only [T.ok,he0,Int.reduceEq,Int.reduceLE,Int.reduceLT,Nat.reduceLT,Nat.reduceLeDiff,Nat.lt_irrefl,decide_true,decide_false,Bool.true_eq_false,Bool.false_eq_true,Bool.not_true,Bool.not_false,reduceCtorEq,false_implies,true_implies,implies_true,and_true,true_and,and_self,decide_eq_true_eq,decide_eq_false_iff_not]
          ((repeat' (first | refine And.intro ?_ ?_ | intro _)) <;> first | omega | rfl | (exfalso;omega))
      · have hL:=errM_at h0 (n:=10) (by rw [ht];rfl) (by decide)
        have he0:valU (s.extract 0 1)=1:=ht
        rcases Nat.lt_trichotomy s.size 10 with hz | hz | hz
        · rw [if_pos hz] at hL;rw [gotM_bad hL (by decide)]
          clear hL hne ht
          simp only [T.ok,he0,Int.reduceEq,Int.reduceLE,Int.reduceLT,Nat.reduceLT,Nat.reduceLeDiff,Nat.lt_irrefl,decide_true,decide_false,Bool.true_eq_false,Bool.false_eq_true,Bool.not_true,Bool.not_false,reduceCtorEq,false_implies,true_implies,implies_true,and_true,true_and,and_self,decide_eq_true_eq,decide_eq_false_iff_not]
          ((repeat' (first | refine And.intro ?_ ?_ | intro _)) <;> first | omega | rfl | (exfalso;omega))
        · rw [if_neg (by omega),if_neg (by omega)] at hL;rw [gotM_good hL,ht]
          clear hL hne ht
          simp only [T.ok,he0,Int.reduceEq,Int.reduceLE,Int.reduceLT,Nat.reduceLT,Nat.reduceLeDiff,Nat.lt_irrefl,decide_true,decide_false,Bool.true_eq_false,Bool.false_eq_true,Bool.not_true,Bool.not_false,reduceCtorEq,false_implies,true_implies,implies_true,and_true,true_and,and_self,decide_eq_true_eq,decide_eq_false_iff_not]
          ((repeat' (first | refine And.intro ?_ ?_ | intro _)) <;> first | omega | rfl | (exfalso;omega))
        · rw [if_neg (by omega),if_pos hz] at hL;rw [gotM_bad hL (by decide)]
          clear hL hne ht
          simp only [T.ok,he0,Int.reduceEq,Int.reduceLE,Int.reduceLT,Nat.reduceLT,Nat.reduceLeDiff,Nat.lt_irrefl,decide_true,decide_false,Bool.true_eq_false,Bool.false_eq_true,Bool.not_true,Bool.not_false,reduceCtorEq,false_implies,true_implies,implies_true,and_true,true_and,and_self,decide_eq_true_eq,decide_eq_false_iff_not]
          ((repeat' (first | refine And.intro ?_ ?_ | intro _)) <;> first | omega | rfl | (exfalso;omega))
      · have hL:=errM_at h0 (n:=if 17≤s.size then 17 else 9) (by rw [ht];rfl) (by split <;> decide)
        have he0:valU (s.extract 0 1)=3:=ht
        have h5:s.size < 9 ∨ s.size=9 ∨ (9 < s.size∧s.size < 17) ∨ s.size=17 ∨ 17 < s.size:=by omega
        rcases h5 with hz | hz | hz | hz | hz
        · rw [if_neg (by omega:¬ 17≤s.size),if_pos (by omega)] at hL;rw [gotM_bad hL (by decide)]
          clear hL hne ht
          simp only [T.ok,he0,Int.reduceEq,Int.reduceLE,Int.reduceLT,Nat.reduceLT,Nat.reduceLeDiff,Nat.lt_irrefl,decide_true,decide_false,Bool.true_eq_false,Bool.false_eq_true,Bool.not_true,Bool.not_false,reduceCtorEq,false_implies,true_implies,implies_true,and_true,true_and,and_self,decide_eq_true_eq,decide_eq_false_iff_not]
          ((repeat' (first | refine And.intro ?_ ?_ | intro _)) <;> first | omega | rfl | (exfalso;omega))
        · rw [if_neg (by omega:¬ 17≤s.size),if_neg (by omega),if_neg (by omega)] at hL;rw [gotM_good hL,ht,show sayM 3 s=⟨3,0,0,0,0,0,s.extract 1 9⟩ by unfold sayM;simp only [Int.reduceEq,if_true,if_false];rw [if_neg (by omega)]]
          clear hL hne ht
          simp only [T.ok,he0,Int.reduceEq,Int.reduceLE,Int.reduceLT,Nat.reduceLT,Nat.reduceLeDiff,Nat.lt_irrefl,decide_true,decide_false,Bool.true_eq_false,Bool.false_eq_true,Bool.not_true,Bool.not_false,reduceCtorEq,false_implies,true_implies,implies_true,and_true,true_and,and_self,decide_eq_true_eq,decide_eq_false_iff_not]
          ((repeat' (first | refine And.intro ?_ ?_ | intro _)) <;> first | omega | rfl | (exfalso;omega))
        · rw [if_neg (by omega:¬ 17≤s.size),if_neg (by omega),if_pos (by omega)] at hL;rw [gotM_bad hL (by decide)]
          clear hL hne ht
          simp only [T.ok,he0,Int.reduceEq,Int.reduceLE,Int.reduceLT,Nat.reduceLT,Nat.reduceLeDiff,Nat.lt_irrefl,decide_true,decide_false,Bool.true_eq_false,Bool.false_eq_true,Bool.not_true,Bool.not_false,reduceCtorEq,false_implies,true_implies,implies_true,and_true,true_and,and_self,decide_eq_true_eq,decide_eq_false_iff_not]
          ((repeat' (first | refine And.intro ?_ ?_ | intro _)) <;> first | omega | rfl | (exfalso;omega))
        · rw [if_pos (by omega:17≤s.size),if_neg (by omega),if_neg (by omega)] at hL;rw [gotM_good hL,ht,show sayM 3 s=⟨3,0,0,0,0,0,s.extract 1 17⟩ by unfold sayM;simp only [Int.reduceEq,if_true,if_false];rw [if_pos (by omega)]]
          clear hL hne ht
          simp only [T.ok,he0,Int.reduceEq,Int.reduceLE,Int.reduceLT,Nat.reduceLT,Nat.reduceLeDiff,Nat.lt_irrefl,decide_true,decide_false,Bool.true_eq_false,Bool.false_eq_true,Bool.not_true,Bool.not_false,reduceCtorEq,false_implies,true_implies,implies_true,and_true,true_and,and_self,decide_eq_true_eq,decide_eq_false_iff_not]
          ((repeat' (first | refine And.intro ?_ ?_ | intro _)) <;> first | omega | rfl | (exfalso;omega))
        · rw [if_pos (by omega:17≤s.size),if_neg (by omega),if_pos (by omega)] at hL;rw [gotM_bad hL (by decide)]
          clear hL hne ht
          simp only [T.ok,he0,Int.reduceEq,Int.reduceLE,Int.reduceLT,Nat.reduceLT,Nat.reduceLeDiff,Nat.lt_irrefl,decide_true,decide_false,Bool.true_eq_false,Bool.false_eq_true,Bool.not_true,Bool.not_false,reduceCtorEq,false_implies,true_implies,implies_true,and_true,true_and,and_self,decide_eq_true_eq,decide_eq_false_iff_not]
          ((repeat' (first | refine And.intro ?_ ?_ | intro _)) <;> first | omega | rfl | (exfalso;omega))
      · have hL:=errM_at h0 (n:=7) (by rw [ht];rfl) (by decide)
        have he0:valU (s.extract 0 1)=4:=ht
        rcases Nat.lt_trichotomy s.size 7 with hz | hz | hz
        · rw [if_pos hz] at hL;rw [gotM_bad hL (by decide)]
          clear hL hne ht
          simp only [T.ok,he0,Int.reduceEq,Int.reduceLE,Int.reduceLT,Nat.reduceLT,Nat.reduceLeDiff,Nat.lt_irrefl,decide_true,decide_false,Bool.true_eq_false,Bool.false_eq_true,Bool.not_true,Bool.not_false,reduceCtorEq,false_implies,true_implies,implies_true,and_true,true_and,and_self,decide_eq_true_eq,decide_eq_false_iff_not]
          ((repeat' (first | refine And.intro ?_ ?_ | intro _)) <;> first | omega | rfl | (exfalso;omega))
        · rw [if_neg (by omega),if_neg (by omega)] at hL;rw [gotM_good hL,ht]
          clear hL hne ht
          simp only [T.ok,he0,Int.reduceEq,Int.reduceLE,Int.reduceLT,Nat.reduceLT,Nat.reduceLeDiff,Nat.lt_irrefl,decide_true,decide_false,Bool.true_eq_false,Bool.false_eq_true,Bool.not_true,Bool.not_false,reduceCtorEq,false_implies,true_implies,implies_true,and_true,true_and,and_self,decide_eq_true_eq,decide_eq_false_iff_not]
          ((repeat' (first | refine And.intro ?_ ?_ | intro _)) <;> first | omega | rfl | (exfalso;omega))
        · rw [if_neg (by omega),if_pos hz] at hL;rw [gotM_bad hL (by decide)]
          clear hL hne ht
          simp only [T.ok,he0,Int.reduceEq,Int.reduceLE,Int.reduceLT,Nat.reduceLT,Nat.reduceLeDiff,Nat.lt_irrefl,decide_true,decide_false,Bool.true_eq_false,Bool.false_eq_true,Bool.not_true,Bool.not_false,reduceCtorEq,false_implies,true_implies,implies_true,and_true,true_and,and_self,decide_eq_true_eq,decide_eq_false_iff_not]
          ((repeat' (first | refine And.intro ?_ ?_ | intro _)) <;> first | omega | rfl | (exfalso;omega))
      · have hL:=errM_at h0 (n:=33) (by rw [ht];rfl) (by decide)
        have he0:valU (s.extract 0 1)=5:=ht
        rcases Nat.lt_trichotomy s.size 33 with hz | hz | hz
        · rw [if_pos hz] at hL;rw [gotM_bad hL (by decide)]
          clear hL hne ht
          simp only [T.ok,he0,Int.reduceEq,Int.reduceLE,Int.reduceLT,Nat.reduceLT,Nat.reduceLeDiff,Nat.lt_irrefl,decide_true,decide_false,Bool.true_eq_false,Bool.false_eq_true,Bool.not_true,Bool.not_false,reduceCtorEq,false_implies,true_implies,implies_true,and_true,true_and,and_self,decide_eq_true_eq,decide_eq_false_iff_not]
          ((repeat' (first | refine And.intro ?_ ?_ | intro _)) <;> first | omega | rfl | (exfalso;omega))
        · rw [if_neg (by omega),if_neg (by omega)] at hL;rw [gotM_good hL,ht]
          clear hL hne ht
          simp only [T.ok,he0,Int.reduceEq,Int.reduceLE,Int.reduceLT,Nat.reduceLT,Nat.reduceLeDiff,Nat.lt_irrefl,decide_true,decide_false,Bool.true_eq_false,Bool.false_eq_true,Bool.not_true,Bool.not_false,reduceCtorEq,false_implies,true_implies,implies_true,and_true,true_and,and_self,decide_eq_true_eq,decide_eq_false_iff_not]
          ((repeat' (first | refine And.intro ?_ ?_ | intro _)) <;> first | omega | rfl | (exfalso;omega))
        · rw [if_neg (by omega),if_pos hz] at hL;rw [gotM_bad hL (by decide)]
          clear hL hne ht
          simp only [T.ok,he0,Int.reduceEq,Int.reduceLE,Int.reduceLT,Nat.reduceLT,Nat.reduceLeDiff,Nat.lt_irrefl,decide_true,decide_false,Bool.true_eq_false,Bool.false_eq_true,Bool.not_true,Bool.not_false,reduceCtorEq,false_implies,true_implies,implies_true,and_true,true_and,and_self,decide_eq_true_eq,decide_eq_false_iff_not]
          ((repeat' (first | refine And.intro ?_ ?_ | intro _)) <;> first | omega | rfl | (exfalso;omega))
      · have hL:=errM_at h0 (n:=3) (by rw [ht];rfl) (by decide)
        have he0:valU (s.extract 0 1)=6:=ht
        rcases Nat.lt_trichotomy s.size 3 with hz | hz | hz
        · rw [if_pos hz] at hL;rw [gotM_bad hL (by decide)]
          clear hL hne ht
          simp only [T.ok,he0,Int.reduceEq,Int.reduceLE,Int.reduceLT,Nat.reduceLT,Nat.reduceLeDiff,Nat.lt_irrefl,decide_true,decide_false,Bool.true_eq_false,Bool.false_eq_true,Bool.not_true,Bool.not_false,reduceCtorEq,false_implies,true_implies,implies_true,and_true,true_and,and_self,decide_eq_true_eq,decide_eq_false_iff_not]
          ((repeat' (first | refine And.intro ?_ ?_ | intro _)) <;> first | omega | rfl | (exfalso;omega))
        · rw [if_neg (by omega),if_neg (by omega)] at hL;rw [gotM_good hL,ht]
          clear hL hne ht
          simp only [T.ok,he0,Int.reduceEq,Int.reduceLE,Int.reduceLT,Nat.reduceLT,Nat.reduceLeDiff,Nat.lt_irrefl,decide_true,decide_false,Bool.true_eq_false,Bool.false_eq_true,Bool.not_true,Bool.not_false,reduceCtorEq,false_implies,true_implies,implies_true,and_true,true_and,and_self,decide_eq_true_eq,decide_eq_false_iff_not]
          ((repeat' (first | refine And.intro ?_ ?_ | intro _)) <;> first | omega | rfl | (exfalso;omega))
        · rw [if_neg (by omega),if_pos hz] at hL;rw [gotM_bad hL (by decide)]
          clear hL hne ht
          simp only [T.ok,he0,Int.reduceEq,Int.reduceLE,Int.reduceLT,Nat.reduceLT,Nat.reduceLeDiff,Nat.lt_irrefl,decide_true,decide_false,Bool.true_eq_false,Bool.false_eq_true,Bool.not_true,Bool.not_false,reduceCtorEq,false_implies,true_implies,implies_true,and_true,true_and,and_self,decide_eq_true_eq,decide_eq_false_iff_not]
          ((repeat' (first | refine And.intro ?_ ?_ | intro _)) <;> first | omega | rfl | (exfalso;omega))
      · have hL:=errM_at h0 (n:=6) (by rw [ht];rfl) (by decide)
        have he0:valU (s.extract 0 1)=7:=ht
        rcases Nat.lt_trichotomy s.size 6 with hz | hz | hz
        · rw [if_pos hz] at hL;rw [gotM_bad hL (by decide)]
          clear hL hne ht
          simp only [T.ok,he0,Int.reduceEq,Int.reduceLE,Int.reduceLT,Nat.reduceLT,Nat.reduceLeDiff,Nat.lt_irrefl,decide_true,decide_false,Bool.true_eq_false,Bool.false_eq_true,Bool.not_true,Bool.not_false,reduceCtorEq,false_implies,true_implies,implies_true,and_true,true_and,and_self,decide_eq_true_eq,decide_eq_false_iff_not]
          ((repeat' (first | refine And.intro ?_ ?_ | intro _)) <;> first | omega | rfl | (exfalso;omega))
        · rw [if_neg (by omega),if_neg (by omega)] at hL;rw [gotM_good hL,ht]
          clear hL hne ht
          simp only [T.ok,he0,Int.reduceEq,Int.reduceLE,Int.reduceLT,Nat.reduceLT,Nat.reduceLeDiff,Nat.lt_irrefl,decide_true,decide_false,Bool.true_eq_false,Bool.false_eq_true,Bool.not_true,Bool.not_false,reduceCtorEq,false_implies,true_implies,implies_true,and_true,true_and,and_self,decide_eq_true_eq,decide_eq_false_iff_not]
          ((repeat' (first | refine And.intro ?_ ?_ | intro _)) <;> first | omega | rfl | (exfalso;omega))
        · rw [if_neg (by omega),if_pos hz] at hL;rw [gotM_bad hL (by decide)]
          clear hL hne ht
          simp only [T.ok,he0,Int.reduceEq,Int.reduceLE,Int.reduceLT,Nat.reduceLT,Nat.reduceLeDiff,Nat.lt_irrefl,decide_true,decide_false,Bool.true_eq_false,Bool.false_eq_true,Bool.not_true,Bool.not_false,reduceCtorEq,false_implies,true_implies,implies_true,and_true,true_and,and_self,decide_eq_true_eq,decide_eq_false_iff_not]
          ((repeat' (first | refine And.intro ?_ ?_ | intro _)) <;> first | omega | rfl | (exfalso;omega))
      · have hL:=errM_at h0 (n:=6) (by rw [ht];rfl) (by decide)
        have he0:valU (s.extract 0 1)=8:=ht
        rcases Nat.lt_trichotomy s.size 6 with hz | hz | hz
        · rw [if_pos hz] at hL;rw [gotM_bad hL (by decide)]
          clear hL hne ht
          simp only [T.ok,he0,Int.reduceEq,Int.reduceLE,Int.reduceLT,Nat.reduceLT,Nat.reduceLeDiff,Nat.lt_irrefl,decide_true,decide_false,Bool.true_eq_false,Bool.false_eq_true,Bool.not_true,Bool.not_false,reduceCtorEq,false_implies,true_implies,implies_true,and_true,true_and,and_self,decide_eq_true_eq,decide_eq_false_iff_not]
          ((repeat' (first | refine And.intro ?_ ?_ | intro _)) <;> first | omega | rfl | (exfalso;omega))
        · rw [if_neg (by omega),if_neg (by omega)] at hL;rw [gotM_good hL,ht]
          clear hL hne ht
          simp only [T.ok,he0,Int.reduceEq,Int.reduceLE,Int.reduceLT,Nat.reduceLT,Nat.reduceLeDiff,Nat.lt_irrefl,decide_true,decide_false,Bool.true_eq_false,Bool.false_eq_true,Bool.not_true,Bool.not_false,reduceCtorEq,false_implies,true_implies,implies_true,and_true,true_and,and_self,decide_eq_true_eq,decide_eq_false_iff_not]
          ((repeat' (first | refine And.intro ?_ ?_ | intro _)) <;> first | omega | rfl | (exfalso;omega))
        · rw [if_neg (by omega),if_pos hz] at hL;rw [gotM_bad hL (by decide)]
          clear hL hne ht
          simp only [T.ok,he0,Int.reduceEq,Int.reduceLE,Int.reduceLT,Nat.reduceLT,Nat.reduceLeDiff,Nat.lt_irrefl,decide_true,decide_false,Bool.true_eq_false,Bool.false_eq_true,Bool.not_true,Bool.not_false,reduceCtorEq,false_implies,true_implies,implies_true,and_true,true_and,and_self,decide_eq_true_eq,decide_eq_false_iff_not]
          ((repeat' (first | refine And.intro ?_ ?_ | intro _)) <;> first | omega | rfl | (exfalso;omega))
      · have hL:=errM_at h0 (n:=7) (by rw [ht];rfl) (by decide)
        have he0:valU (s.extract 0 1)=9:=ht
        rcases Nat.lt_trichotomy s.size 7 with hz | hz | hz
        · rw [if_pos hz] at hL;rw [gotM_bad hL (by decide)]
          clear hL hne ht
          simp only [T.ok,he0,Int.reduceEq,Int.reduceLE,Int.reduceLT,Nat.reduceLT,Nat.reduceLeDiff,Nat.lt_irrefl,decide_true,decide_false,Bool.true_eq_false,Bool.false_eq_true,Bool.not_true,Bool.not_false,reduceCtorEq,false_implies,true_implies,implies_true,and_true,true_and,and_self,decide_eq_true_eq,decide_eq_false_iff_not]
          ((repeat' (first | refine And.intro ?_ ?_ | intro _)) <;> first | omega | rfl | (exfalso;omega))
        · rw [if_neg (by omega),if_neg (by omega)] at hL;rw [gotM_good hL,ht]
          clear hL hne ht
          simp only [T.ok,he0,Int.reduceEq,Int.reduceLE,Int.reduceLT,Nat.reduceLT,Nat.reduceLeDiff,Nat.lt_irrefl,decide_true,decide_false,Bool.true_eq_false,Bool.false_eq_true,Bool.not_true,Bool.not_false,reduceCtorEq,false_implies,true_implies,implies_true,and_true,true_and,and_self,decide_eq_true_eq,decide_eq_false_iff_not]
          ((repeat' (first | refine And.intro ?_ ?_ | intro _)) <;> first | omega | rfl | (exfalso;omega))
        · rw [if_neg (by omega),if_pos hz] at hL;rw [gotM_bad hL (by decide)]
          clear hL hne ht
          simp only [T.ok,he0,Int.reduceEq,Int.reduceLE,Int.reduceLT,Nat.reduceLT,Nat.reduceLeDiff,Nat.lt_irrefl,decide_true,decide_false,Bool.true_eq_false,Bool.false_eq_true,Bool.not_true,Bool.not_false,reduceCtorEq,false_implies,true_implies,implies_true,and_true,true_and,and_self,decide_eq_true_eq,decide_eq_false_iff_not]
          ((repeat' (first | refine And.intro ?_ ?_ | intro _)) <;> first | omega | rfl | (exfalso;omega))
      · have hL:=errM_at h0 (n:=5) (by rw [ht];rfl) (by decide)
        have he0:valU (s.extract 0 1)=10:=ht
        rcases Nat.lt_trichotomy s.size 5 with hz | hz | hz
        · rw [if_pos hz] at hL;rw [gotM_bad hL (by decide)]
          clear hL hne ht
          simp only [T.ok,he0,Int.reduceEq,Int.reduceLE,Int.reduceLT,Nat.reduceLT,Nat.reduceLeDiff,Nat.lt_irrefl,decide_true,decide_false,Bool.true_eq_false,Bool.false_eq_true,Bool.not_true,Bool.not_false,reduceCtorEq,false_implies,true_implies,implies_true,and_true,true_and,and_self,decide_eq_true_eq,decide_eq_false_iff_not]
          ((repeat' (first | refine And.intro ?_ ?_ | intro _)) <;> first | omega | rfl | (exfalso;omega))
        · rw [if_neg (by omega),if_neg (by omega)] at hL;rw [gotM_good hL,ht]
          clear hL hne ht
          simp only [T.ok,he0,Int.reduceEq,Int.reduceLE,Int.reduceLT,Nat.reduceLT,Nat.reduceLeDiff,Nat.lt_irrefl,decide_true,decide_false,Bool.true_eq_false,Bool.false_eq_true,Bool.not_true,Bool.not_false,reduceCtorEq,false_implies,true_implies,implies_true,and_true,true_and,and_self,decide_eq_true_eq,decide_eq_false_iff_not]
          ((repeat' (first | refine And.intro ?_ ?_ | intro _)) <;> first | omega | rfl | (exfalso;omega))
        · rw [if_neg (by omega),if_pos hz] at hL;rw [gotM_bad hL (by decide)]
          clear hL hne ht
          simp only [T.ok,he0,Int.reduceEq,Int.reduceLE,Int.reduceLT,Nat.reduceLT,Nat.reduceLeDiff,Nat.lt_irrefl,decide_true,decide_false,Bool.true_eq_false,Bool.false_eq_true,Bool.not_true,Bool.not_false,reduceCtorEq,false_implies,true_implies,implies_true,and_true,true_and,and_self,decide_eq_true_eq,decide_eq_false_iff_not]
          ((repeat' (first | refine And.intro ?_ ?_ | intro _)) <;> first | omega | rfl | (exfalso;omega))
      · have hL:=errM_at h0 (n:=2) (by rw [ht];rfl) (by decide)
        have he0:valU (s.extract 0 1)=11:=ht
        rcases Nat.lt_trichotomy s.size 2 with hz | hz | hz
        · rw [if_pos hz] at hL;rw [gotM_bad hL (by decide)]
          clear hL hne ht
          simp only [T.ok,he0,Int.reduceEq,Int.reduceLE,Int.reduceLT,Nat.reduceLT,Nat.reduceLeDiff,Nat.lt_irrefl,decide_true,decide_false,Bool.true_eq_false,Bool.false_eq_true,Bool.not_true,Bool.not_false,reduceCtorEq,false_implies,true_implies,implies_true,and_true,true_and,and_self,decide_eq_true_eq,decide_eq_false_iff_not]
          ((repeat' (first | refine And.intro ?_ ?_ | intro _)) <;> first | omega | rfl | (exfalso;omega))
        · rw [if_neg (by omega),if_neg (by omega)] at hL;rw [gotM_good hL,ht]
          clear hL hne ht
          simp only [T.ok,he0,Int.reduceEq,Int.reduceLE,Int.reduceLT,Nat.reduceLT,Nat.reduceLeDiff,Nat.lt_irrefl,decide_true,decide_false,Bool.true_eq_false,Bool.false_eq_true,Bool.not_true,Bool.not_false,reduceCtorEq,false_implies,true_implies,implies_true,and_true,true_and,and_self,decide_eq_true_eq,decide_eq_false_iff_not]
          ((repeat' (first | refine And.intro ?_ ?_ | intro _)) <;> first | omega | rfl | (exfalso;omega))
        · rw [if_neg (by omega),if_pos hz] at hL;rw [gotM_bad hL (by decide)]
          clear hL hne ht
          simp only [T.ok,he0,Int.reduceEq,Int.reduceLE,Int.reduceLT,Nat.reduceLT,Nat.reduceLeDiff,Nat.lt_irrefl,decide_true,decide_false,Bool.true_eq_false,Bool.false_eq_true,Bool.not_true,Bool.not_false,reduceCtorEq,false_implies,true_implies,implies_true,and_true,true_and,and_self,decide_eq_true_eq,decide_eq_false_iff_not]
          ((repeat' (first | refine And.intro ?_ ?_ | intro _)) <;> first | omega | rfl | (exfalso;omega))
      · have hL:errM 46 s=7:=by unfold errM;rw [if_neg (by decide),if_neg h0,if_pos ht]
        rw [gotM_bad hL (by decide)]
        have hno:∀ c:Int,lenM c s.size ≠ 0→¬ valU (s.extract 0 1)=c:=fun c hc he=>hc (by rw [← he];exact ht)
        have n0:=hno 0 (by unfold lenM;simp only [Int.reduceEq,if_true,if_false];first | decide | (split <;> decide))
        have n1:=hno 1 (by unfold lenM;simp only [Int.reduceEq,if_true,if_false];first | decide | (split <;> decide))
        have n3:=hno 3 (by unfold lenM;simp only [Int.reduceEq,if_true,if_false];first | decide | (split <;> decide))
        have n4:=hno 4 (by unfold lenM;simp only [Int.reduceEq,if_true,if_false];first | decide | (split <;> decide))
        have n5:=hno 5 (by unfold lenM;simp only [Int.reduceEq,if_true,if_false];first | decide | (split <;> decide))
        have n6:=hno 6 (by unfold lenM;simp only [Int.reduceEq,if_true,if_false];first | decide | (split <;> decide))
        have n7:=hno 7 (by unfold lenM;simp only [Int.reduceEq,if_true,if_false];first | decide | (split <;> decide))
        have n8:=hno 8 (by unfold lenM;simp only [Int.reduceEq,if_true,if_false];first | decide | (split <;> decide))
        have n9:=hno 9 (by unfold lenM;simp only [Int.reduceEq,if_true,if_false];first | decide | (split <;> decide))
        have n10:=hno 10 (by unfold lenM;simp only [Int.reduceEq,if_true,if_false];first | decide | (split <;> decide))
        have n11:=hno 11 (by unfold lenM;simp only [Int.reduceEq,if_true,if_false];first | decide | (split <;> decide))
        clear hno ht hL hne
        simp only [T.ok,n0,n1,n3,n4,n5,n6,n7,n8,n9,n10,n11,not_true_eq_false,not_false_eq_true,if_true,if_false,Int.reduceEq,Int.reduceLE,Int.reduceLT,Nat.reduceLT,Nat.reduceLeDiff,Nat.lt_irrefl,decide_true,decide_false,Bool.true_eq_false,Bool.false_eq_true,Bool.not_true,Bool.not_false,reduceCtorEq,false_implies,true_implies,implies_true,and_true,true_and,and_self,decide_eq_true_eq,decide_eq_false_iff_not]
        first | done | ((repeat' (first | refine And.intro ?_ ?_ | intro _)) <;> first | omega | rfl | (exfalso;omega))
  · have he:errM k s=7:=by unfold errM;rw [if_pos hk]
    rw [gotM_bad he (by decide)]
    exact ⟨fun _=>rfl,fun h=>absurd h (by simp [hk])⟩
end Go.Proofs.YthacfgaacleaeaaGreatDoor
namespace Go.Proofs.YthacfgaacleaeaaGreatDoor
open Go.IntKind (i64 u32)
open Go.RowKit Sym
theorem mul_infoP:(Tryz.prog.info? 65).map (fun i=>(i.zero,i.size,i.bytes))=some (some (.agg #[.int .i64 0,.int .i64 0,.int .i64 0,.int .i64 0,.int .i64 0,.int .i64 0,.string ⟨#[]⟩]),7,64):=by kernel_rfl
def natM:Value→Nat
  | .int .i64 n=>n.toNat
  | _=>0
theorem row_belowM {w w':World} {base:Nat} {e:TypeId} {sz:Nat} {u:Value} {n:Nat} {xs:List Value} (h:w.ownsRow base e sz u n xs) (hb:Below w.heap.size w w'):w'.ownsRow base e sz u n xs:=by
  refine World.ownsRow.kept (row:=none) h ⟨hb.os,hb.tape,hb.output,hb.size,fun c hc _=>hb.block c hc⟩ ?_
  rcases h.2 with ⟨rfl,_⟩ | ⟨g,cap,cur,rfl,_⟩ <;> simp [Value.ownBlock]
theorem cells_newM (w:World) (cs:Array Value) (t:TypeId) (j:Nat) (u:Value) (h:cs.toList[j]?=some u):(w.alloc (.cells cs t)).cell? ((⟨w.heap.size,0,none⟩:Addr).add j)=some u:=by
  have e:((⟨w.heap.size,0,none⟩:Addr).add j)=⟨w.heap.size,j,none⟩:=by
    simp [Addr.add]
    intro h;exact h.symm
  rw [e]
  have:=(own_new w cs t).2.1 j
  rw [this,← Array.getElem?_toList,h]
theorem wrap_succM {i n c:Nat} (h:i < n) (hc:n≤c) (hm:c≤maxLen):wrap64 ((i:Int)+1)=((i+1:Nat):Int):=by
  unfold maxLen at hm
  rw [IntWalk.wrap64_in _ (by omega)];rfl
theorem get_flat {o:Op} {m:Mp} {E:Int} (hs:o.val.size≤1000000) (hm:muO o=m) (hE:errM o.kind o.val=E) (W:World):Calls Tryz.prog 71 #[.agg #[.int .i64 o.kind,.string o.val]] W fun e w'=>e = .returned (.tuple #[.agg #[.int .i64 m.kind,.int .i64 m.addr,.int .i64 m.prio,.int .i64 m.num,.int .i64 m.token,.int .i64 m.nonce,.string m.bytes],.int .i64 E])∧Below W.heap.size W w':=by
  have h:=mget_any o.kind o.val hs W
  unfold gotM at h
  rw [hE,show getM o.kind o.val=m from hm] at h
  exact h
set_option maxRecDepth 100000 in
set_option maxHeartbeats 4000000 in
theorem mall_any {w:World} {v:Value} {n:Nat} {g:Nat→Op} (hf:Few n g) (h:OptsAt w v n g) :
    Calls Tryz.prog 33 #[v] w fun e w'=>∃ u,e = .returned u∧w'.ownsRow w.heap.size 65 7 u (allM g n).length (cellsM (allM g n))∧Below w.heap.size w w':=by
  obtain ⟨p,cap,rfl,hcap,hmax,hcell⟩:=h
  obtain ⟨i0,hi,hz0,hz1,hz2⟩:=info_parts mul_infoP
  go_enter Tryz.func33,Tryz.ntmps33
  go_wp2
  go_loopw [3,10] (fun u3 u10 wr=>∃ i:Nat,u10 = .int .i64 i∧i≤n∧wr.ownsRow w.heap.size 65 7 u3 (allM g i).length (cellsM (allM g i))∧Below w.heap.size w wr)
    (fun _ u10 _=>n - natM u10)
  case atStart=>exact ⟨0,rfl,Nat.zero_le _,World.ownsRow_nil _ _ _ _,Below.refl _ _⟩
  case round =>
    obtain ⟨i,rfl,hile,hrow,hb⟩:=hrel
    by_cases hlt:i < n
    · obtain ⟨b,o,rfl,c1,c2⟩:=hcell i hlt
      have d1:wr.cell? ⟨b,o+i * 2,none⟩=some (.int .i64 (g i).kind):=(hb.cell (p:=⟨b,o+i * 2,none⟩) (lt_of_cell c1)).trans c1
      have d2:wr.cell? ⟨b,o+i * 2+1,none⟩=some (.string (g i).val):=(hb.cell (p:=⟨b,o+i * 2+1,none⟩) (lt_of_cell c2)).trans c2
      obtain ⟨m,hm⟩:∃ m,muO (g i)=m:=⟨_,rfl⟩
      obtain ⟨E,hE⟩:∃ E,errM (g i).kind (g i).val=E:=⟨_,rfl⟩
      have hget:=fun W=>get_flat (hf.2 i hlt) hm hE W
      have hyes:=@allM_yes g i
      have hno:=@allM_no g i
      have hok:okM (g i)=decide (E=0):=by unfold okM;rw [hE]
      have hle:=allM_len g i
      have hfn:=hf.1
      rw [hm] at hyes
      generalize (g i).kind=gk at *
      generalize (g i).val=gv at *
      generalize (allM g i)=L at *
      clear hcell c1 c2 hm hE hf
      by_cases hE0:E=0
      · subst hE0
        have hnx:=hyes (by rw [hok];rfl)
        clear hyes hno hok
        go_wp2_with (first
          | (go_at_call 71;(with_reducible refine (hget _).mono ?_);rintro e w1 ⟨rfl,hb1⟩)
          | (at_builtin
             have hbw:Below w.heap.size w w1:=(hb.alloc hb.size _).trans (hb1.mono (by have:=hb.size;simp;omega))
             have hrow1:w1.ownsRow w.heap.size 65 7 u3 L.length (cellsM L):=row_belowM (hrow.alloc _) hb1
             go_loud (refine wpList_append_lies _ rfl _ _ 83 rfl w.heap.size 65 i0 (.agg #[.int .i64 0,.int .i64 0,.int .i64 0,.int .i64 0,.int .i64 0,.int .i64 0,.string ⟨#[]⟩]) 7 64 Tryz.underlying83 hi hz0 hz1 hz2 rfl (by decide) _ _ _ rfl ((hrow1.alloc _).alloc _) ⟨w1.heap.size+1,0,none⟩ 1 1 m.l rfl rfl (by
               intro j u hj
               have:=cells_newM (w1.alloc (.cells #[.int .i64 m.kind,.int .i64 m.addr,.int .i64 m.prio,.int .i64 m.num,.int .i64 m.token,.int .i64 m.nonce,.string m.bytes] 65)) #[.int .i64 m.kind,.int .i64 m.addr,.int .i64 m.prio,.int .i64 m.num,.int .i64 m.token,.int .i64 m.nonce,.string m.bytes] 65 j u hj
               simpa using this) (Mp.l_one m) (by decide) (by unfold maxLen;omega) (by omega) (by have:=hbw.size;simp;omega) (w1.heap.size+2) (by simp) ?_)
             intro g1 cg w3 hown' hg3 hat hgl
             have hb3:Below w.heap.size w w3:=((hbw.alloc (by have:=hbw.size;omega) _).alloc (by have:=hbw.size;simp;omega) _).grown hg3 (by have:=hbw.size;simp;omega) (fun j hj=>(hrow1.lt j hj).1)))
        go_roundw
        case rel =>
          refine ⟨i+1,by first | rfl | rw [wrap_succM hlt hcap hmax],hlt,?_,hb3⟩
          rw [hnx,List.length_append,cellsM_snoc]
          exact hown'
        case measure=>(try rw [wrap_succM hlt hcap hmax]);simp [natM];omega
      · have hnx:=hno (by rw [hok];exact decide_eq_false hE0)
        have hEb:((E:Int) == 0)=false:=by rw [beq_eq_false_iff_ne];exact hE0
        clear hyes hno hok
        go_wp2_with (first
          | (go_at_call 71;(with_reducible refine (hget _).mono ?_);rintro e w1 ⟨rfl,hb1⟩))
        have hbw:Below w.heap.size w w1:=(hb.alloc hb.size _).trans (hb1.mono (by have:=hb.size;simp;omega))
        have hrow1:w1.ownsRow w.heap.size 65 7 u3 L.length (cellsM L):=row_belowM (hrow.alloc _) hb1
        first
          | (go_roundw
             case rel=>exact ⟨i+1,by first | rfl | rw [wrap_succM hlt hcap hmax],hlt,by rw [hnx];exact hrow1.alloc _,hbw.alloc hbw.size _⟩
             case measure=>(try rw [wrap_succM hlt hcap hmax]);simp [natM];omega)
          | exact ⟨⟨i+1,rfl,hlt,by rw [hnx];exact hrow1.alloc _,hbw.alloc hbw.size _⟩,by simp [natM];omega⟩
    · obtain rfl:i=n:=by omega
      go_wp2
      go_ret
      exact ⟨_,rfl,hrow,hb⟩
end Go.Proofs.YthacfgaacleaeaaGreatDoor
namespace Go.Proofs.YthacfgaacleaeaaGreatDoor
open Go.IntKind (i64 u32)
open Go.RowKit Sym Go.Lib Go.Shelf
def idxM (p:Mp→Bool) (L:List Mp):Int:=if L.findIdx p < L.length then (L.findIdx p:Int) else -1
theorem idxM_hit {p:Mp→Bool} {L:List Mp} {k:Nat} (hk:k < L.length) (h:p L[k]=true) (hno:∀ j (hj:j < k),p (L[j]'(by omega))=false):idxM p L=k:=by
  have e:L.findIdx p=k:=by
    rw [List.findIdx_eq hk]
    exact ⟨h,fun j hj=>hno j hj⟩
  unfold idxM
  rw [e,if_pos hk]
theorem idxM_miss {p:Mp→Bool} {L:List Mp} (hno:∀ j (hj:j < L.length),p L[j]=false):idxM p L=-1:=by
  have e:L.findIdx p=L.length:=by
    rw [List.findIdx_eq_length]
    intro x hx
    obtain ⟨j,hj,rfl⟩:=List.mem_iff_getElem.1 hx
    simpa using hno j hj
  unfold idxM
  rw [e,if_neg (by omega)]
theorem idxM_find (p:Mp→Bool) (L:List Mp):(idxM p L=-1∧L.find? p=none) ∨ ∃ k,∃ h:k < L.length,idxM p L=(k:Int)∧L.find? p=some L[k]:=by
  by_cases h:L.findIdx p < L.length
  · refine .inr ⟨L.findIdx p,h,by unfold idxM;rw [if_pos h],?_⟩
    rw [List.find?_eq_some_iff_getElem]
    exact ⟨List.findIdx_getElem (w:=h),_,h,rfl,fun j hj=>by simpa using List.not_of_lt_findIdx hj⟩
  · refine .inl ⟨by unfold idxM;rw [if_neg h],?_⟩
    rw [List.find?_eq_none]
    intro x hx hp
    exact h (List.findIdx_lt_length_of_exists ⟨x,hx,hp⟩)
def PredM (g:Nat) (lb:Array Value) (p:Mp→Bool) (w:World):Prop:=∀ (W:World) (m:Mp),Below w.heap.size w W→Calls Tryz.prog g (#[.agg #[.int .i64 m.kind,.int .i64 m.addr,.int .i64 m.prio,.int .i64 m.num,.int .i64 m.token,.int .i64 m.nonce,.string m.bytes]]++lb) W fun e w'=>e = .returned (.bool (p m))∧Below w.heap.size w w'
structure Cells7 (W:World) (b o:Nat) (m:Mp):Prop where
  c0:W.cell? ⟨b,o,none⟩=some (.int .i64 m.kind)
  c1:W.cell? ⟨b,o+1,none⟩=some (.int .i64 m.addr)
  c2:W.cell? ⟨b,o+2,none⟩=some (.int .i64 m.prio)
  c3:W.cell? ⟨b,o+3,none⟩=some (.int .i64 m.num)
  c4:W.cell? ⟨b,o+4,none⟩=some (.int .i64 m.token)
  c5:W.cell? ⟨b,o+5,none⟩=some (.int .i64 m.nonce)
  c6:W.cell? ⟨b,o+6,none⟩=some (.string m.bytes)
set_option maxRecDepth 100000 in
set_option maxHeartbeats 4000000 in
theorem midx_any {w:World} {v:Value} {L:List Mp} (p:Mp→Bool) (g:Nat) (lb:Array Value) (eg:∀ args w,(callFunc g args).run Tryz.prog w = .ok (.enter g args) w) (hL:L.length≤1000) (hp:PredM g lb p w) (h:MusAt w v L) :
    Calls Tryz.prog 72 #[v,.func (.func g) #[] lb] w fun e w'=>e = .returned (.int .i64 (idxM p L))∧Below w.heap.size w w':=by
  obtain ⟨a,cap,rfl,hcap,-,hcell⟩:=h
  have hrow:∀ (W:World),Below w.heap.size w W→∀ j (hj:j < L.length),∃ b o,a=some ⟨b,o,none⟩∧Cells7 W b (o+j * 7) L[j]:=fun W hW j hj=>by
    obtain ⟨b,o,e,hb,hc⟩:=hcell j hj
    have hh:∀ i u,(L[j].l)[i]?=some u→W.cell? ⟨b,o+j * 7+i,none⟩=some u:=fun i u hu =>
      (hW.cell (p:=⟨b,o+j * 7+i,none⟩) hb).trans (hc i u hu)
    exact ⟨b,o,e,hh 0 _ rfl,hh 1 _ rfl,hh 2 _ rfl,hh 3 _ rfl,hh 4 _ rfl,hh 5 _ rfl,hh 6 _ rfl⟩
  clear hcell
  go_enter Tryz.func72,Tryz.ntmps72
  go_wp2
  go_loopg [5,8] L.length (fun gg _ s8 wr=>∃ kk:Nat,kk≤L.length∧L.length - kk≤gg∧s8 = .int .i64 kk∧Aside (Below w.heap.size w wr)∧Aside (∀ j (hj:j < L.length),j < kk→p L[j]=false))
  case atStart=>exact ⟨0,Nat.zero_le _,by omega,rfl,Below.refl _ w,fun j _ hj=>absurd hj (Nat.not_lt_zero _)⟩
  case round =>
    obtain ⟨kk,hkk,hg,rfl,BW,A⟩:=hrel
    by_cases hlt:kk < L.length
    · have hltz:(kk:Int) < (L.length:Int):=by omega
      obtain ⟨b,o,rfl,l2⟩:=hrow wr BW.out kk hlt
      have hcall:=hp wr L[kk] BW.out
      have hhit:=fun (h:p L[kk]=true)=>idxM_hit hlt h (fun j hj=>A.out j (by omega) hj)
      have hnx:=fun (h:p L[kk]=false)=>show Aside (∀ j (hj:j < L.length),j < kk+1→p L[j]=false) from fun j hj hk=>by
        by_cases e:j=kk
        · subst e;exact h
        · exact A.out j hj (by omega)
      clear hrow hp
      generalize hy:L[kk]=y at l2 hcall hhit hnx
      clear hy
      obtain ⟨k0,k1,k2,k3,k4,k5,k6⟩:=l2
      cases hq:p y with
      | true =>
        rw [hq] at hcall
        go_wp2_with (go_at_fn g;refine hcall.mono ?_;rintro e w' ⟨rfl,hb'⟩)
        go_ret
        rw [hhit hq]
        exact ⟨rfl,hb'⟩
      | false =>
        rw [hq] at hcall
        go_wp2_with (go_at_fn g;refine hcall.mono ?_;rintro e w' ⟨rfl,hb'⟩)
        go_roundg (L.length - (kk+1))
        case measure=>omega
        case rel=>exact ⟨kk+1,by omega,by omega,by go_num,hb',hnx hq⟩
    · have hltz:¬ (kk:Int) < (L.length:Int):=by omega
      have e:kk=L.length:=by omega
      subst e
      have hno:=idxM_miss (p:=p) (L:=L) (fun j hj=>A.out j hj hj)
      clear hrow
      go_wp2
      go_ret
      first | exact ⟨rfl,BW.out⟩ | (rw [hno];exact ⟨rfl,BW.out⟩)
set_option maxRecDepth 100000 in
theorem pred_find (k:Int) (B:Nat) (w:World) (hB:B < w.heap.size) (hcell:w.cell? ⟨B,0,none⟩=some (.int .i64 k)):PredM 73 #[.pointer (some ⟨B,0,none⟩)] (inK k k) w:=fun W m hb=>by
  have hc:W.cell? ⟨B,0,none⟩=some (.int .i64 k):=(hb.cell (p:=⟨B,0,none⟩) hB).trans hcell
  have hBW:B < W.heap.size:=Nat.lt_of_lt_of_le hB hb.size
  have hne:B ≠ W.heap.size:=by omega
  have hv:(m.kind == k)=inK k k m:=by rw [Bool.eq_iff_iff,beq_iff_eq,inK_iff];omega
  show Calls Tryz.prog 73 #[.agg #[.int .i64 m.kind,.int .i64 m.addr,.int .i64 m.prio,.int .i64 m.num,.int .i64 m.token,.int .i64 m.nonce,.string m.bytes],.pointer (some ⟨B,0,none⟩)] W _
  go_enter Tryz.func73,Tryz.ntmps73
  go_wp2
  all_goals (go_ret;exact ⟨by rw [← hv];first | rfl | simp_all,hb.alloc hb.size _⟩)
set_option maxRecDepth 100000 in
theorem pred_lacks (k:Int) (B:Nat) (w:World) (hB:B < w.heap.size) (hcell:w.cell? ⟨B,0,none⟩=some (.int .i64 k)):PredM 116 #[.pointer (some ⟨B,0,none⟩)] (inK k k) w:=fun W m hb=>by
  have hc:W.cell? ⟨B,0,none⟩=some (.int .i64 k):=(hb.cell (p:=⟨B,0,none⟩) hB).trans hcell
  have hBW:B < W.heap.size:=Nat.lt_of_lt_of_le hB hb.size
  have hne:B ≠ W.heap.size:=by omega
  have hv:(m.kind == k)=inK k k m:=by rw [Bool.eq_iff_iff,beq_iff_eq,inK_iff];omega
  show Calls Tryz.prog 116 #[.agg #[.int .i64 m.kind,.int .i64 m.addr,.int .i64 m.prio,.int .i64 m.num,.int .i64 m.token,.int .i64 m.nonce,.string m.bytes],.pointer (some ⟨B,0,none⟩)] W _
  go_enter Tryz.func116,Tryz.ntmps116
  go_wp2
  all_goals (go_ret;exact ⟨by rw [← hv];first | rfl | simp_all,hb.alloc hb.size _⟩)
end Go.Proofs.YthacfgaacleaeaaGreatDoor
namespace Go.Proofs.YthacfgaacleaeaaGreatDoor
open Go.IntKind (i64 u32)
open Go.RowKit Sym
abbrev mulV (m:Mp):Value:=.agg #[.int .i64 m.kind,.int .i64 m.addr,.int .i64 m.prio,.int .i64 m.num,.int .i64 m.token,.int .i64 m.nonce,.string m.bytes]
theorem MusAt.cells {w:World} {v:Value} {L:List Mp} (h:MusAt w v L):∃ p cap,v = .slice p L.length cap∧L.length≤cap∧∀ i (hi:i < L.length),∃ b o,p=some ⟨b,o,none⟩∧b < w.heap.size∧Cells7 w b (o+i * 7) L[i]:=by
  obtain ⟨p,cap,rfl,hcap,-,hc⟩:=h
  refine ⟨p,cap,rfl,hcap,fun i hi=>?_⟩
  obtain ⟨b,o,e,hb,hh⟩:=hc i hi
  exact ⟨b,o,e,hb,hh 0 _ rfl,hh 1 _ rfl,hh 2 _ rfl,hh 3 _ rfl,hh 4 _ rfl,hh 5 _ rfl,hh 6 _ rfl⟩
theorem Cells7.below {w w':World} {b o:Nat} {m:Mp} (h:Cells7 w b o m) (hl:b < w.heap.size) (hb:Below w.heap.size w w'):Cells7 w' b o m :=
  ⟨(hb.cell (p:=⟨b,_,none⟩) hl).trans h.c0,(hb.cell (p:=⟨b,_,none⟩) hl).trans h.c1,(hb.cell (p:=⟨b,_,none⟩) hl).trans h.c2,(hb.cell (p:=⟨b,_,none⟩) hl).trans h.c3,(hb.cell (p:=⟨b,_,none⟩) hl).trans h.c4,(hb.cell (p:=⟨b,_,none⟩) hl).trans h.c5,(hb.cell (p:=⟨b,_,none⟩) hl).trans h.c6⟩
theorem eg_find:∀ args w,(callFunc 73 args).run Tryz.prog w = .ok (.enter 73 args) w:=enters_of Tryz.func73 (by kernel_rfl) rfl
theorem eg_lacks:∀ args w,(callFunc 116 args).run Tryz.prog w = .ok (.enter 116 args) w:=enters_of Tryz.func116 (by kernel_rfl) rfl
theorem midx_at {w:World} {v:Value} {L:List Mp} {z:Int} (p:Mp→Bool) (g:Nat) (lb:Array Value) (eg:∀ args w,(callFunc g args).run Tryz.prog w = .ok (.enter g args) w) (hL:L.length≤1000) (hp:PredM g lb p w) (h:MusAt w v L) (hz:idxM p L=z) :
    Calls Tryz.prog 72 #[v,.func (.func g) #[] lb] w fun e w'=>e = .returned (.int .i64 z)∧Below w.heap.size w w':=by
  rw [← hz];exact midx_any p g lb eg hL hp h
set_option maxRecDepth 100000 in
set_option maxHeartbeats 4000000 in
theorem mfind_any {w:World} {v:Value} {n:Nat} {g:Nat→Op} (k:Int) (hf:Few n g) (h:OptsAt w v n g) :
    Calls Tryz.prog 34 #[v,.int .i64 k] w fun e w'=>e = .returned (.tuple #[mulV ((fstM g n k k).getD Mp.none),.bool (fstM g n k k).isSome])∧Below w.heap.size w w':=by
  have hL:(allM g n).length≤1000:=Nat.le_trans (allM_len g n) hf.1
  have hfi:=idxM_find (inK k k) (allM g n)
  have hall:∀ W,Below w.heap.size w W→Calls Tryz.prog 33 #[v] W fun e w'=>∃ u,e = .returned u∧MusAt w' u (allM g n)∧Below W.heap.size W w':=fun W hb=>(mall_any hf (h.below hb)).mono fun e w' ⟨u,he,hr,hb⟩=>⟨u,he,musAt_own hr,hb⟩
  unfold fstM
  generalize allM g n=L at *
  rcases hfi with ⟨h1,h2⟩ | ⟨j,hj,h1,h2⟩
  · rw [h2]
    go_enter Tryz.func34,Tryz.ntmps34
    go_wp2_with (first
      | (go_at_call 33;refine (hall _ (by (repeat' (first | (with_reducible exact Below.refl _ _) | (with_reducible refine below_alloc ?_ _) | (with_reducible refine Below.drew ?_) | (with_reducible refine below_drewN ?_ _) | (with_reducible refine Below.setCell ?_ ?_ _) | (with_reducible assumption) | (with_reducible refine below_of ?_ (by assumption)) | omega | (simp only [World.size_alloc,World.size_setCell,World.size_drew,size_drewN] at *;omega) | (simp;omega))))).mono ?_;rintro e w1 ⟨u,rfl,hM,hb⟩;have hbw:Below w.heap.size w w1:=below_of (by (repeat' (first | (with_reducible exact Below.refl _ _) | (with_reducible refine below_alloc ?_ _) | (with_reducible refine Below.drew ?_) | (with_reducible refine below_drewN ?_ _) | (with_reducible refine Below.setCell ?_ ?_ _) | (with_reducible assumption) | (with_reducible refine below_of ?_ (by assumption)) | omega | (simp only [World.size_alloc,World.size_setCell,World.size_drew,size_drewN] at *;omega) | (simp;omega)))) hb;have hz:=hb.size;(try simp only [World.size_alloc,World.size_setCell,World.size_drew,size_drewN] at hz);apply own_step (B:=w.heap.size) hb;(focus (repeat (first | (with_reducible assumption) | (with_reducible exact own_new _ _ _) | ((with_reducible apply own_new');focus (first | omega | (simp;done) | (simp;omega))) | (with_reducible apply own_drewN) | (with_reducible apply own_drew) | (with_reducible apply own_alloc) | (with_reducible apply own_setT) | ((with_reducible apply own_set_otherH);focus (first | (simp;done) | (simp;omega))))));intro hO0;have hk0:=hO0.2.1;have hl0:=hO0.1;have hf0:=hO0.2.2;(try simp only [List.setIfInBounds_toArray,List.set_cons_zero,List.set_cons_succ] at hO0 hk0);apply own_step (B:=w.heap.size+1) hb;(focus (repeat (first | (with_reducible assumption) | (with_reducible exact own_new _ _ _) | ((with_reducible apply own_new');focus (first | omega | (simp;done) | (simp;omega))) | (with_reducible apply own_drewN) | (with_reducible apply own_drew) | (with_reducible apply own_alloc) | (with_reducible apply own_setT) | ((with_reducible apply own_set_otherH);focus (first | (simp;done) | (simp;omega))))));intro hO1;have hk1:=hO1.2.1;have hl1:=hO1.1;have hf1:=hO1.2.2;(try simp only [List.setIfInBounds_toArray,List.set_cons_zero,List.set_cons_succ] at hO1 hk1))
      | (go_at_call 72;refine (midx_at (inK k k) _ _ eg_find hL (pred_find k w.heap.size w1 hl0 (hk0 0)) hM h1).mono ?_;rintro e w2 ⟨rfl,hb⟩;have hbx:Below w.heap.size w w2:=below_of hbw hb;have hz:=hb.size;(try simp only [World.size_alloc,World.size_setCell,World.size_drew,size_drewN] at hz);apply own_step (B:=w.heap.size) hb;(focus (repeat (first | (with_reducible assumption) | (with_reducible exact own_new _ _ _) | ((with_reducible apply own_new');focus (first | omega | (simp;done) | (simp;omega))) | (with_reducible apply own_drewN) | (with_reducible apply own_drew) | (with_reducible apply own_alloc) | (with_reducible apply own_setT) | ((with_reducible apply own_set_otherH);focus (first | (simp;done) | (simp;omega))))));intro hO0;have hk0:=hO0.2.1;have hl0:=hO0.1;have hf0:=hO0.2.2;(try simp only [List.setIfInBounds_toArray,List.set_cons_zero,List.set_cons_succ] at hO0 hk0);apply own_step (B:=w.heap.size+1) hb;(focus (repeat (first | (with_reducible assumption) | (with_reducible exact own_new _ _ _) | ((with_reducible apply own_new');focus (first | omega | (simp;done) | (simp;omega))) | (with_reducible apply own_drewN) | (with_reducible apply own_drew) | (with_reducible apply own_alloc) | (with_reducible apply own_setT) | ((with_reducible apply own_set_otherH);focus (first | (simp;done) | (simp;omega))))));intro hO1;have hk1:=hO1.2.1;have hl1:=hO1.1;have hf1:=hO1.2.2;(try simp only [List.setIfInBounds_toArray,List.set_cons_zero,List.set_cons_succ] at hO1 hk1)))
    ((try simp only [Exit.inBlock,Exit.then]);refine bodyPost_ret (by simp [results,Tryz.results34,go_sem,hk1];try rfl) rfl ?_)
    exact ⟨rfl,by (repeat' (first | (with_reducible exact Below.refl _ _) | (with_reducible refine below_alloc ?_ _) | (with_reducible refine Below.drew ?_) | (with_reducible refine below_drewN ?_ _) | (with_reducible refine Below.setCell ?_ ?_ _) | (with_reducible assumption) | (with_reducible refine below_of ?_ (by assumption)) | omega | (simp only [World.size_alloc,World.size_setCell,World.size_drew,size_drewN] at *;omega) | (simp;omega)))⟩
  · rw [h2]
    go_enter Tryz.func34,Tryz.ntmps34
    go_wp2_with (first
      | (go_at_call 33;refine (hall _ (by (repeat' (first | (with_reducible exact Below.refl _ _) | (with_reducible refine below_alloc ?_ _) | (with_reducible refine Below.drew ?_) | (with_reducible refine below_drewN ?_ _) | (with_reducible refine Below.setCell ?_ ?_ _) | (with_reducible assumption) | (with_reducible refine below_of ?_ (by assumption)) | omega | (simp only [World.size_alloc,World.size_setCell,World.size_drew,size_drewN] at *;omega) | (simp;omega))))).mono ?_;rintro e w1 ⟨u,rfl,hM,hb⟩;have hbw:Below w.heap.size w w1:=below_of (by (repeat' (first | (with_reducible exact Below.refl _ _) | (with_reducible refine below_alloc ?_ _) | (with_reducible refine Below.drew ?_) | (with_reducible refine below_drewN ?_ _) | (with_reducible refine Below.setCell ?_ ?_ _) | (with_reducible assumption) | (with_reducible refine below_of ?_ (by assumption)) | omega | (simp only [World.size_alloc,World.size_setCell,World.size_drew,size_drewN] at *;omega) | (simp;omega)))) hb;have hz:=hb.size;(try simp only [World.size_alloc,World.size_setCell,World.size_drew,size_drewN] at hz);apply own_step (B:=w.heap.size) hb;(focus (repeat (first | (with_reducible assumption) | (with_reducible exact own_new _ _ _) | ((with_reducible apply own_new');focus (first | omega | (simp;done) | (simp;omega))) | (with_reducible apply own_drewN) | (with_reducible apply own_drew) | (with_reducible apply own_alloc) | (with_reducible apply own_setT) | ((with_reducible apply own_set_otherH);focus (first | (simp;done) | (simp;omega))))));intro hO0;have hk0:=hO0.2.1;have hl0:=hO0.1;have hf0:=hO0.2.2;(try simp only [List.setIfInBounds_toArray,List.set_cons_zero,List.set_cons_succ] at hO0 hk0);apply own_step (B:=w.heap.size+1) hb;(focus (repeat (first | (with_reducible assumption) | (with_reducible exact own_new _ _ _) | ((with_reducible apply own_new');focus (first | omega | (simp;done) | (simp;omega))) | (with_reducible apply own_drewN) | (with_reducible apply own_drew) | (with_reducible apply own_alloc) | (with_reducible apply own_setT) | ((with_reducible apply own_set_otherH);focus (first | (simp;done) | (simp;omega))))));intro hO1;have hk1:=hO1.2.1;have hl1:=hO1.1;have hf1:=hO1.2.2;(try simp only [List.setIfInBounds_toArray,List.set_cons_zero,List.set_cons_succ] at hO1 hk1))
      | (go_at_call 72;refine (midx_at (inK k k) _ _ eg_find hL (pred_find k w.heap.size w1 hl0 (hk0 0)) hM h1).mono ?_;rintro e w2 ⟨rfl,hb⟩;have hbx:Below w.heap.size w w2:=below_of hbw hb;obtain ⟨pu,cu,rfl,hcu,hcell⟩:=(hM.below hb).cells;obtain ⟨bu,ou,rfl,hbu,k0,k1,k2,k3,k4,k5,k6⟩:=hcell j hj;clear hcell;have hz:=hb.size;(try simp only [World.size_alloc,World.size_setCell,World.size_drew,size_drewN] at hz);apply own_step (B:=w.heap.size) hb;(focus (repeat (first | (with_reducible assumption) | (with_reducible exact own_new _ _ _) | ((with_reducible apply own_new');focus (first | omega | (simp;done) | (simp;omega))) | (with_reducible apply own_drewN) | (with_reducible apply own_drew) | (with_reducible apply own_alloc) | (with_reducible apply own_setT) | ((with_reducible apply own_set_otherH);focus (first | (simp;done) | (simp;omega))))));intro hO0;have hk0:=hO0.2.1;have hl0:=hO0.1;have hf0:=hO0.2.2;(try simp only [List.setIfInBounds_toArray,List.set_cons_zero,List.set_cons_succ] at hO0 hk0);apply own_step (B:=w.heap.size+1) hb;(focus (repeat (first | (with_reducible assumption) | (with_reducible exact own_new _ _ _) | ((with_reducible apply own_new');focus (first | omega | (simp;done) | (simp;omega))) | (with_reducible apply own_drewN) | (with_reducible apply own_drew) | (with_reducible apply own_alloc) | (with_reducible apply own_setT) | ((with_reducible apply own_set_otherH);focus (first | (simp;done) | (simp;omega))))));intro hO1;have hk1:=hO1.2.1;have hl1:=hO1.1;have hf1:=hO1.2.2;(try simp only [List.setIfInBounds_toArray,List.set_cons_zero,List.set_cons_succ] at hO1 hk1)))
    ((try simp only [Exit.inBlock,Exit.then]);refine bodyPost_ret (by simp [results,Tryz.results34,go_sem,hk1];try rfl) rfl ?_)
    exact ⟨rfl,by (repeat' (first | (with_reducible exact Below.refl _ _) | (with_reducible refine below_alloc ?_ _) | (with_reducible refine Below.drew ?_) | (with_reducible refine below_drewN ?_ _) | (with_reducible refine Below.setCell ?_ ?_ _) | (with_reducible assumption) | (with_reducible refine below_of ?_ (by assumption)) | omega | (simp only [World.size_alloc,World.size_setCell,World.size_drew,size_drewN] at *;omega) | (simp;omega)))⟩
def fD (L:List Mp) (k:Int):Mp:=(L.find? (inK k k)).getD Mp.none
def fS (L:List Mp) (k:Int):Bool:=(L.find? (inK k k)).isSome
theorem fD_at {L:List Mp} {k:Int} {j:Nat} (hj:j < L.length) (h:L.find? (inK k k)=some L[j]):fD L k=L[j]∧fS L k=true:=by unfold fD fS;rw [h];exact ⟨rfl,rfl⟩
def acc3 (a b c:Mp):Array Value:=#[.int .i64 a.kind,.int .i64 a.addr,.int .i64 a.prio,.int .i64 a.num,.int .i64 a.token,.int .i64 a.nonce,.string a.bytes,.int .i64 b.kind,.int .i64 b.addr,.int .i64 b.prio,.int .i64 b.num,.int .i64 b.token,.int .i64 b.nonce,.string b.bytes,.int .i64 c.kind,.int .i64 c.addr,.int .i64 c.prio,.int .i64 c.num,.int .i64 c.token,.int .i64 c.nonce,.string c.bytes]
theorem fS_none {L:List Mp} {k:Int} (h:L.find? (inK k k)=none):fS L k=false:=by unfold fS;rw [h];rfl
end Go.Proofs.YthacfgaacleaeaaGreatDoor
namespace Go.Proofs.YthacfgaacleaeaaGreatDoor
open Go.IntKind (i64 u32)
open Go.RowKit Sym Sha Go.ChangeShapes Go.WideShapes Go.ChangeMaps
def Mp.c (m:Mp):Nat→Value
  | 0=>.int .i64 m.kind
  | 1=>.int .i64 m.addr
  | 2=>.int .i64 m.prio
  | 3=>.int .i64 m.num
  | 4=>.int .i64 m.token
  | 5=>.int .i64 m.nonce
  | 6=>.string m.bytes
  | _=>undef
def mAt (L:List Mp) (i:Nat):Mp:=L.getD i Mp.none
def rowM (L:List Mp):Nat→Nat→Value:=fun i j=>(mAt L i).c j
theorem rowM_sat {w:World} {v:Value} {L:List Mp} (h:MusAt w v L) (B:List Value):BlkSat B w v (.row L.length 7 (rowM L)):=by
  obtain ⟨p,cap,rfl,h1,h2,h3⟩:=h
  refine ⟨p,cap,rfl,h1,h2,fun i j hi hj=>?_⟩
  obtain ⟨b,o,rfl,hb,hc⟩:=h3 i hi
  have ea:(⟨b,o,none⟩:Addr).add (i * 7+j)=⟨b,o+i * 7+j,none⟩:=by
    simp only [Addr.add]
    split
    · rename_i h0;rw [show o+i * 7+j=o by omega]
    · rw [Nat.add_assoc]
  refine ⟨_,rfl,?_⟩
  rw [ea]
  have e:mAt L i=L[i]:=by unfold mAt;rw [List.getD_eq_getElem?_getD,List.getElem?_eq_getElem hi];rfl
  unfold rowM
  rw [e]
  match j,hj with
  | 0,_=>exact hc 0 _ rfl
  | 1,_=>exact hc 1 _ rfl
  | 2,_=>exact hc 2 _ rfl
  | 3,_=>exact hc 3 _ rfl
  | 4,_=>exact hc 4 _ rfl
  | 5,_=>exact hc 5 _ rfl
  | 6,_=>exact hc 6 _ rfl
theorem musAt_row {B:List Value} {w:World} {v:Value} {L:List Mp} {f:Nat→Nat→Value} {n:Nat} (h:BlkSat B w v (.row n 7 f)) (hn:n=L.length) (hf:∀ i j,i < n→j < 7→f i j=rowM L i j):MusAt w v L:=by
  subst hn
  obtain ⟨p,cap,rfl,h1,h2,h3⟩:=h
  refine ⟨p,cap,rfl,h1,h2,fun i hi=>?_⟩
  obtain ⟨a,rfl,c0⟩:=h3 i 0 hi (by omega)
  have hs:a.spot=none:=by
    obtain ⟨a0,e0,c0⟩:=h3 0 0 (by omega) (by omega)
    obtain rfl:=Option.some.inj e0
    have h:=World.cell?_spot c0
    simpa [Addr.add] using h
  obtain ⟨b,o,sp⟩:=a
  obtain rfl:sp=none:=hs
  have ea:∀ j,(⟨b,o,none⟩:Addr).add (i * 7+j)=⟨b,o+i * 7+j,none⟩:=fun j=>by
    simp only [Addr.add]
    split
    · rename_i h0;rw [show o+i * 7+j=o by omega]
    · rw [Nat.add_assoc]
  have hh:∀ j,j < 7→w.cell? ⟨b,o+i * 7+j,none⟩=some (rowM L i j):=fun j hj=>by
    obtain ⟨a',e',c⟩:=h3 i j hi hj
    obtain rfl:=Option.some.inj e'
    rw [ea,hf i j hi hj] at c
    exact c
  have e:mAt L i=L[i]:=by unfold mAt;rw [List.getD_eq_getElem?_getD,List.getElem?_eq_getElem hi];rfl
  have hl:b < w.heap.size:=lt_of_cell (hh 0 (by omega))
  refine ⟨b,o,rfl,hl,fun j u hu=>?_⟩
  have hj7:j < 7:=by
    by_cases h7:j < 7
    · exact h7
    · rw [List.getElem?_eq_none (by rw [Mp.l_len];omega)] at hu;cases hu
  rw [hh j hj7,← hu]
  unfold rowM
  rw [e]
  match j,hj7 with
  | 0,_=>rfl
  | 1,_=>rfl
  | 2,_=>rfl
  | 3,_=>rfl
  | 4,_=>rfl
  | 5,_=>rfl
  | 6,_=>rfl
def lstM (n:Nat) (f:Nat→Nat→Value):List Mp:=(List.range n).map fun i=>⟨intV (f i 0),intV (f i 1),intV (f i 2),intV (f i 3),intV (f i 4),intV (f i 5),strV (f i 6)⟩
theorem lstM_len (n:Nat) (f:Nat→Nat→Value):(lstM n f).length=n:=by unfold lstM;simp
def AllM (n:Nat) (f:Nat→Nat→Value):Prop:=∀ i j,i < n→j < 7→f i j=rowM (lstM n f) i j
theorem mAt_row (L:List Mp) (i:Nat):(⟨intV (rowM L i 0),intV (rowM L i 1),intV (rowM L i 2),intV (rowM L i 3),intV (rowM L i 4),intV (rowM L i 5),strV (rowM L i 6)⟩:Mp)=mAt L i:=rfl
theorem lstM_row (L:List Mp):lstM L.length (rowM L)=L:=by
  unfold lstM
  apply List.ext_getElem (by simp)
  intro i h1 h2
  simp only [List.getElem_map,List.getElem_range]
  rw [mAt_row]
  unfold mAt
  rw [List.getD_eq_getElem?_getD,List.getElem?_eq_getElem h2];rfl
def fIdx (g:Nat):List SV→List Blk→Option (T (SV×List Blk))
  | [.ref 0,.clo (.func h) [] [.ptr 1 0]],[.row n 7 f,.own [k0]]=>(match openS k0 with
    | .v (.int .i64 k)=>bif Nat.beq h g then some (.need (n≤1000∧AllM n f) (.leaf (.v (.int .i64 (idxM (inK k k) (lstM n f))),[.row n 7 f,.own [k0]]))) else none
    | _=>none)
  | _,_=>none
set_option maxRecDepth 100000 in
theorem fIdx_ok:EntryOk Tryz.prog 72 (fIdx 116):=by
  intro ss H t ht bs B w vs hm hv Qs hq
  unfold fIdx at ht
  split at ht
  · rename_i h n f k0
    split at ht
    · rename_i k hk
      cases hb:Nat.beq h 116
      · rw [hb] at ht;cases ht
      rw [hb,cond_true,Option.some.injEq] at ht
      obtain rfl:h=116:=Nat.eq_of_beq_eq_true hb
      subst ht
      obtain ⟨⟨hn,hall⟩,hq⟩:=hq
      obtain ⟨u,hu⟩:=hm.sat.getB (k:=0) rfl
      obtain ⟨uk,huk⟩:=hm.sat.getB (k:=1) rfl
      have hrow:=hm.sat.blk 0 _ u rfl hu
      obtain ⟨b,xs,rfl,h2,h3⟩:=hm.sat.blk 1 _ uk rfl huk
      have hxs:xs=[.int .i64 k]:=by
        have:SV.tos B [k0]=some [.int .i64 k]:=by
          simp only [SV.tos];rw [← openS_to k0,hk];rfl
        rw [this] at h2;exact (Option.some.inj h2).symm
      subst hxs
      obtain rfl:[u,.func (.func 116) #[] #[.pointer (some ⟨b,0,none⟩)]]=vs:=by
        simp only [SV.tos,SV.to,hu,huk] at hv
        simpa using hv
      have hM:MusAt w u (lstM n f):=musAt_row hrow (lstM_len n f).symm hall
      have hL:(lstM n f).length≤1000:=by rw [lstM_len];exact hn
      refine (midx_any (inK k k) 116 _ eg_lacks hL (pred_lacks k b w h3.1 (h3.2.1 0)) hM).mono ?_
      rintro e w' ⟨rfl,hbw⟩
      exact ⟨_,_,B,_,hq,List.prefix_refl _,rfl,rfl,hm.below hbw⟩
    · cases ht
  · cases ht
def FLk:LTab:=addT 72 (fIdx 116) noF
theorem FLk_ok:LOk Tryz.prog FLk:=addT_ok noF_ok (by kernel_rfl) fIdx_ok
abbrev CLk (P:Program):Cfg:=both P noS FLk [72]
theorem CLk_ok:CfgOk Tryz.prog (CLk Tryz.prog):=both_ok noS_ok FLk_ok
def LLk (P:Program) (fn:Func):Nat→St→Option (T (Ex×St)):=addL 0 (unrollB (runC P (CLk P) noL fn.ntmps (loopAt fn 0)) 0 5) noL
set_option maxRecDepth 100000 in
theorem lacks_run (L:List Mp):runO Tryz.prog (CLk Tryz.prog) (LLk Tryz.prog Tryz.f63) Tryz.f63 [.ref 0] [.row L.length 7 (rowM L)] =
 letI q:=lstM L.length (rowM L);
 letI q0:=Value.int i64 0;
 letI q7:=inK (4:Int) (4:Int);
 letI q1:=idxM q7 q;
 letI q8:=inK (6:Int) (6:Int);
 letI q2:=idxM q8 q;
 letI q3:=inK (5:Int) (5:Int);
 letI q4:=Value.string (ByteArray.mk (Array.mk []));
 letI q5:=L.length≤1000∧AllM L.length (rowM L);
 letI q6:=(0:Int);
 letI q9:=idxM q3 q;
 letI p:=Value.int i64 8;
 letI p0:=(↑L.length:Int);
 .need q5 (.ite (decide (idxM q7 q < q6)) (.leaf (Value.tuple (Array.mk [Value.agg (Array.mk [q0,q0,q0,q0,q0,q0,q4,q0,q0,q0,q0,q0,q0,q4,q0,q0,q0,q0,q0,q0,q4]),Value.iface 126 (Value.agg (Array.mk [q0,p]))]))) (.need (q6≤idxM q7 q∧idxM q7 q < p0) (.need (q1.toNat < L.length) (.need (q6≤q6∧q6 < (3:Int)) (.need q5 (.ite (decide (idxM q8 q < q6)) (.leaf (Value.tuple (Array.mk [Value.agg (Array.mk [rowM L q1.toNat 0,rowM L q1.toNat 1,rowM L q1.toNat 2,rowM L q1.toNat 3,rowM L q1.toNat 4,rowM L q1.toNat 5,rowM L q1.toNat 6,q0,q0,q0,q0,q0,q0,q4,q0,q0,q0,q0,q0,q0,q4]),Value.iface 126 (Value.agg (Array.mk [Value.int i64 1,p]))]))) (.need (q6≤idxM q8 q∧idxM q8 q < p0) (.need (q2.toNat < L.length) (.need (q6≤(1:Int)∧(1:Int) < (3:Int)) (.need q5 (.ite (decide (idxM q3 q < q6)) (.leaf (Value.tuple (Array.mk [Value.agg (Array.mk [rowM L q1.toNat 0,rowM L q1.toNat 1,rowM L q1.toNat 2,rowM L q1.toNat 3,rowM L q1.toNat 4,rowM L q1.toNat 5,rowM L q1.toNat 6,rowM L q2.toNat 0,rowM L q2.toNat 1,rowM L q2.toNat 2,rowM L q2.toNat 3,rowM L q2.toNat 4,rowM L q2.toNat 5,rowM L q2.toNat 6,q0,q0,q0,q0,q0,q0,q4]),Value.iface 126 (Value.agg (Array.mk [Value.int i64 2,p]))]))) (.need (q6≤idxM q3 q∧idxM q3 q < p0) (.need (q9.toNat < L.length) (.need (q6≤(2:Int)∧(2:Int) < (3:Int)) (.leaf (Value.tuple (Array.mk [Value.agg (Array.mk [rowM L q1.toNat 0,rowM L q1.toNat 1,rowM L q1.toNat 2,rowM L q1.toNat 3,rowM L q1.toNat 4,rowM L q1.toNat 5,rowM L q1.toNat 6,rowM L q2.toNat 0,rowM L q2.toNat 1,rowM L q2.toNat 2,rowM L q2.toNat 3,rowM L q2.toNat 4,rowM L q2.toNat 5,rowM L q2.toNat 6,rowM L q9.toNat 0,rowM L q9.toNat 1,rowM L q9.toNat 2,rowM L q9.toNat 3,rowM L q9.toNat 4,rowM L q9.toNat 5,rowM L q9.toNat 6]),Value.nilIface]))))))))))))))))):=by kernel_rfl
end Go.Proofs.YthacfgaacleaeaaGreatDoor
namespace Go.Proofs.YthacfgaacleaeaaGreatDoor
open Go.IntKind (i64 u32)
open Go.RowKit Sym
def i3 (L:List Mp) (k:Int):Int:=idxM (inK k k) L
def a3 (L:List Mp) (k:Int):Mp:=mAt L (i3 L k).toNat
def lackV (L:List Mp) (a b c:Mp):Value :=
  if i3 L 4 < 0 then .tuple #[.agg #[.int .i64 0,.int .i64 0,.int .i64 0,.int .i64 0,.int .i64 0,.int .i64 0,.string ⟨⟨[]⟩⟩,.int .i64 0,.int .i64 0,.int .i64 0,.int .i64 0,.int .i64 0,.int .i64 0,.string ⟨⟨[]⟩⟩,.int .i64 0,.int .i64 0,.int .i64 0,.int .i64 0,.int .i64 0,.int .i64 0,.string ⟨⟨[]⟩⟩],.iface 126 (.agg #[.int .i64 0,.int .i64 8])]
  else if i3 L 6 < 0 then .tuple #[.agg #[.int .i64 a.kind,.int .i64 a.addr,.int .i64 a.prio,.int .i64 a.num,.int .i64 a.token,.int .i64 a.nonce,.string a.bytes,.int .i64 0,.int .i64 0,.int .i64 0,.int .i64 0,.int .i64 0,.int .i64 0,.string ⟨⟨[]⟩⟩,.int .i64 0,.int .i64 0,.int .i64 0,.int .i64 0,.int .i64 0,.int .i64 0,.string ⟨⟨[]⟩⟩],.iface 126 (.agg #[.int .i64 1,.int .i64 8])]
  else if i3 L 5 < 0 then .tuple #[.agg #[.int .i64 a.kind,.int .i64 a.addr,.int .i64 a.prio,.int .i64 a.num,.int .i64 a.token,.int .i64 a.nonce,.string a.bytes,.int .i64 b.kind,.int .i64 b.addr,.int .i64 b.prio,.int .i64 b.num,.int .i64 b.token,.int .i64 b.nonce,.string b.bytes,.int .i64 0,.int .i64 0,.int .i64 0,.int .i64 0,.int .i64 0,.int .i64 0,.string ⟨⟨[]⟩⟩],.iface 126 (.agg #[.int .i64 2,.int .i64 8])]
  else .tuple #[.agg (acc3 a b c),.nilIface]
theorem i3_at (L:List Mp) (k:Int):(i3 L k < 0∧fS L k=false) ∨ (0≤i3 L k∧i3 L k < L.length∧(i3 L k).toNat < L.length∧fS L k=true∧fD L k=a3 L k):=by
  rcases idxM_find (inK k k) L with ⟨h1,h2⟩ | ⟨j,hj,h1,h2⟩
  · exact .inl ⟨by show idxM _ _ < 0;rw [h1];decide,fS_none h2⟩
  · obtain ⟨h3,h4⟩:=fD_at hj h2
    have e:i3 L k=(j:Int):=h1
    refine .inr ⟨by omega,by omega,by omega,h4,?_⟩
    rw [h3]
    unfold a3 mAt
    rw [e,Int.toNat_natCast,List.getD_eq_getElem?_getD,List.getElem?_eq_getElem hj];rfl
theorem allM_row (L:List Mp):AllM L.length (rowM L):=fun i j hi hj=>by rw [lstM_row]
set_option maxRecDepth 100000 in
theorem lacks_key {w:World} {v:Value} {L:List Mp} (hL:L.length≤1000) (h:MusAt w v L) :
    Calls Tryz.prog 63 #[v] w fun e w'=>e = .returned (lackV L (a3 L 4) (a3 L 6) (a3 L 5))∧Below w.heap.size w w':=by
    refine calls_runO CLk_ok follows Tryz.func63 (by kernel_rfl) (by kernel_rfl) (one_loop (b:=loopAt Tryz.f63 0) (id:=0) (by kernel_rfl) fun st t h=>by rw [addL_same h];exact unroll_ok CLk_ok follows (by kernel_rfl) (noloops (by kernel_rfl)) 5 st) (lacks_run L) ?_ (mem_row (rowM_sat h [v])) rfl
    have hR:=allM_row L
    rw [lstM_row]
    have e4:idxM (inK 4 4) L=i3 L 4:=rfl
    have e6:idxM (inK 6 6) L=i3 L 6:=rfl
    have e5:idxM (inK 5 5) L=i3 L 5:=rfl
    rw [e4,e6,e5]
    have r4:∀ j,rowM L (i3 L 4).toNat j=(a3 L 4).c j:=fun _=>rfl
    have r6:∀ j,rowM L (i3 L 6).toNat j=(a3 L 6).c j:=fun _=>rfl
    have r5:∀ j,rowM L (i3 L 5).toNat j=(a3 L 5).c j:=fun _=>rfl
    simp only [r4,r6,r5]
    unfold lackV
    generalize a3 L 4=a
    generalize a3 L 6=b
    generalize a3 L 5=c
    have h4:=i3_at L 4
    have h6:=i3_at L 6
    have h5:=i3_at L 5
    have z4:0≤i3 L 4→i3 L 4 < L.length∧(i3 L 4).toNat < L.length:=fun q=>by omega
    have z6:0≤i3 L 6→i3 L 6 < L.length∧(i3 L 6).toNat < L.length:=fun q=>by omega
    have z5:0≤i3 L 5→i3 L 5 < L.length∧(i3 L 5).toNat < L.length:=fun q=>by omega
    clear h4 h6 h5
    generalize i3 L 4=i4 at *
    generalize i3 L 6=i6 at *
    generalize i3 L 5=i5 at *
    refine ⟨⟨hL,hR⟩,fun q=>?_,fun q=>?_⟩
    · rw [if_pos (of_decide_eq_true q)];rfl
    · have q:=of_decide_eq_false q
      rw [if_neg q]
      have z4:=z4 (by omega)
      refine ⟨⟨by omega,z4.1⟩,z4.2,⟨by omega,by omega⟩,⟨hL,hR⟩,fun q=>?_,fun q=>?_⟩
      · rw [if_pos (of_decide_eq_true q)];rfl
      · have q:=of_decide_eq_false q
        rw [if_neg q]
        have z6:=z6 (by omega)
        refine ⟨⟨by omega,z6.1⟩,z6.2,⟨by omega,by omega⟩,⟨hL,hR⟩,fun q=>?_,fun q=>?_⟩
        · rw [if_pos (of_decide_eq_true q)];rfl
        · have q:=of_decide_eq_false q
          rw [if_neg q]
          have z5:=z5 (by omega)
          exact ⟨⟨by omega,z5.1⟩,z5.2,⟨by omega,by omega⟩,rfl⟩
end Go.Proofs.YthacfgaacleaeaaGreatDoor
namespace Go.Proofs.YthacfgaacleaeaaGreatDoor
open Go.IntKind (i64 u32)
open Go.RowKit Sym Sha Go.ChangeShapes Go.WideShapes Go.ChangeMaps
set_option maxRecDepth 100000 in
theorem num0R_run (s:ByteArray) (a k:Int):trimT 1 (runF Tryz.prog (both Tryz.prog SOct (addT 122 (inl Tryz.prog (onlyS Tryz.prog noS) noL Tryz.f122) noF) [122]) noL Tryz.f85 (Tryz.f85.body.getD .skip) [.ptr 0 0,.v (.int .i64 k)] [.own [.v (.string s),.v (.int .i64 a),.c (.int .i64 0)]]) =
 letI q2:=0≤9223372036854775807;
 letI q4:SV:=.v (.string s);
 letI q:T (SV×List Blk):=.need q2 (.leaf (.v (.int .i64 0),[.own [q4,.v (.int .i64 a),.c (.int .i64 3)]]));
 letI q1:=i64.wrap (a+k) - k;
 letI q3:=i64.wrap (a+k);
 letI q0:=s.extract (i64.wrap q1).toNat q3.toNat;
 .ite (decide (k < (1:Int))) q (.ite (decide (k > (7:Int))) q (.ite (decide (k < (0:Int))) q (.ite (decide (k > i64.wrap ((↑s.size:Int) - a))) (.need q2 (.leaf (.v (.int .i64 0),[.own [q4,.v (.int .i64 a),.c (.int .i64 1)]]))) (.need ((0:Int)≤i64.wrap q1∧i64.wrap q1≤i64.wrap (a+k)∧i64.wrap (a+k)≤(↑s.size:Int)) (.need (q0.size≤9223372036854775807) (.leaf (.v (.int .i64 (i64.wrap (valU q0))),[.own [q4,.v (.int .i64 q3),.c (.int .i64 0)]]))))))):=by kernel_rfl
set_option maxRecDepth 100000 in
theorem num1R_run (s:ByteArray) (a k:Int):trimT 1 (runF Tryz.prog (both Tryz.prog SOct (addT 122 (inl Tryz.prog (onlyS Tryz.prog noS) noL Tryz.f122) noF) [122]) noL Tryz.f85 (Tryz.f85.body.getD .skip) [.ptr 0 0,.v (.int .i64 k)] [.own [.v (.string s),.v (.int .i64 a),.c (.int .i64 1)]]) = .need (0≤9223372036854775807) (.leaf (.v (.int .i64 0),[.own [.v (.string s),.v (.int .i64 a),.c (.int .i64 1)]])):=by kernel_rfl
set_option maxRecDepth 100000 in
theorem byt0R_run (s:ByteArray) (a k:Int):trimT 1 (runF Tryz.prog (onlyS Tryz.prog noS) noL Tryz.f122 (Tryz.f122.body.getD .skip) [.ptr 0 0,.v (.int .i64 k)] [.own [.v (.string s),.v (.int .i64 a),.c (.int .i64 0)]]) =
 letI q:=i64.wrap (a+k) - k;
 letI q0:=SV.c (Value.string (ByteArray.mk (Array.mk [])));
 letI q1:=i64.wrap (a+k);
 letI q2:SV:=.v (.string s);
 .ite (decide (k < (0:Int))) (.leaf (q0,[.own [q2,.v (.int .i64 a),.c (.int .i64 3)]])) (.ite (decide (k > i64.wrap ((↑s.size:Int) - a))) (.leaf (q0,[.own [q2,.v (.int .i64 a),.c (.int .i64 1)]])) (.need ((0:Int)≤i64.wrap q∧i64.wrap q≤i64.wrap (a+k)∧i64.wrap (a+k)≤(↑s.size:Int)) (.leaf (.v (.string (s.extract (i64.wrap q).toNat q1.toNat)),[.own [q2,.v (.int .i64 q1),.c (.int .i64 0)]])))):=by kernel_rfl
set_option maxRecDepth 100000 in
theorem byt1R_run (s:ByteArray) (a k:Int):trimT 1 (runF Tryz.prog (onlyS Tryz.prog noS) noL Tryz.f122 (Tryz.f122.body.getD .skip) [.ptr 0 0,.v (.int .i64 k)] [.own [.v (.string s),.v (.int .i64 a),.c (.int .i64 1)]]) = .leaf (SV.c (Value.string (ByteArray.mk (Array.mk []))),[.own [.v (.string s),.v (.int .i64 a),.c (.int .i64 1)]]):=by kernel_rfl
set_option maxRecDepth 100000 in
theorem don0R_run (s:ByteArray) (a:Int):trimT 1 (runF Tryz.prog (onlyS Tryz.prog noS) noL Tryz.f123 (Tryz.f123.body.getD .skip) [.ptr 0 0] [.own [.v (.string s),.v (.int .i64 a),.c (.int .i64 0)]]) =
 letI q:List Blk:=[.own [.v (.string s),.v (.int .i64 a),.c (.int .i64 0)]];
 .ite (decide (a < (↑s.size:Int))) (.leaf (.c (.int .i64 2),q)) (.leaf (.c (.int .i64 0),q)):=by kernel_rfl
set_option maxRecDepth 100000 in
theorem don1R_run (s:ByteArray) (a:Int):trimT 1 (runF Tryz.prog (onlyS Tryz.prog noS) noL Tryz.f123 (Tryz.f123.body.getD .skip) [.ptr 0 0] [.own [.v (.string s),.v (.int .i64 a),.c (.int .i64 1)]]) = .leaf (.c (.int .i64 1),[.own [.v (.string s),.v (.int .i64 a),.c (.int .i64 1)]]):=by kernel_rfl
end Go.Proofs.YthacfgaacleaeaaGreatDoor
namespace Go.Proofs.YthacfgaacleaeaaGreatDoor
open Go.IntKind (i64 u32)
open Go.RowKit Sym Sha Go.ChangeShapes Go.WideShapes Go.ChangeMaps
def cutOpR:List Blk→Option (ByteArray×Int×Int)
  | [.own [s0,a0,e0]]=>(match openS s0,openS a0,openS e0 with
    | .v (.string s),.v (.int .i64 a),.v (.int .i64 e)=>some (s,a,e)
    | _,_,_=>none)
  | _=>none
theorem cutOpR_mem {w0:World} {bs:List Nat} {H:List Blk} {B:List Value} {w:World} {s:ByteArray} {a e:Int} (h:cutOpR H=some (s,a,e)) (hm:Mem w0 bs H B w):Mem w0 bs [.own [.v (.string s),.v (.int .i64 a),.c (.int .i64 e)]] B w:=by
  unfold cutOpR at h
  split at h
  · rename_i s0 a0 e0
    split at h
    · rename_i s' a' e' hs ha he
      simp only [Option.some.injEq,Prod.mk.injEq] at h
      obtain ⟨rfl,rfl,rfl⟩:=h
      obtain ⟨u,hu⟩:=hm.sat.getB (k:=0) rfl
      obtain ⟨b,vs,rfl,h2,h3⟩:=hm.sat.blk 0 _ u rfl hu
      have hsat:BlkSat B w (.pointer (some ⟨b,0,none⟩)) (.own [.v (.string s'),.v (.int .i64 a'),.c (.int .i64 e')]):=by
        refine ⟨b,vs,rfl,?_,h3⟩
        rw [← h2]
        have e3:SV.to B (.c (.int .i64 e'))=SV.to B e0:=by rw [← openS_to e0,he];rfl
        simp only [SV.tos]
        rw [← openS_to s0,← openS_to a0,hs,ha,e3]
      exact hm.upd (k:=0) (x:=.own [s0,a0,e0]) rfl rfl hu (grown_self w _) rfl hsat
    · cases h
  · cases h
def fBytR:List SV→List Blk→Option (T (SV×List Blk))
  | [.ptr 0 0,k0],H=>match openS k0,cutOpR H with
    | .v (.int .i64 k),some (s,a,0)=>some (.need (0≤a∧a≤s.size∧0≤k∧k≤1000000∧s.size≤1000000) (.ite (decide (a+k≤s.size)) (.leaf (.v (.string (s.extract a.toNat (a+k).toNat)),ownC s (a+k) 0)) (.leaf (.c (.string ⟨⟨[]⟩⟩),ownC s a 1))))
    | .v (.int .i64 _),some (s,a,1)=>some (.leaf (.c (.string ⟨⟨[]⟩⟩),ownC s a 1))
    | _,_=>none
  | _,_=>none
def fDonR:List SV→List Blk→Option (T (SV×List Blk))
  | [.ptr 0 0],H=>match cutOpR H with
    | some (s,a,0)=>some (.need (0≤a∧a≤s.size∧s.size≤1000000) (.ite (decide (a < s.size)) (.leaf (.c (.int .i64 2),ownC s a 0)) (.leaf (.c (.int .i64 0),ownC s a 0))))
    | some (s,a,1)=>some (.leaf (.c (.int .i64 1),ownC s a 1))
    | _=>none
  | _,_=>none
def fNumR:List SV→List Blk→Option (T (SV×List Blk))
  | [.ptr 0 0,k0],H=>match openS k0,cutOpR H with
    | .v (.int .i64 k),some (s,a,0)=>some (.need (0≤a∧a≤s.size∧1≤k∧k≤7∧s.size≤1000000) (.ite (decide (a+k≤s.size)) (.leaf (.v (.int .i64 (valU (s.extract a.toNat (a+k).toNat))),ownC s (a+k) 0)) (.leaf (.v (.int .i64 0),ownC s a 1))))
    | .v (.int .i64 k),some (s,a,1)=>some (.need (1≤k∧k≤7) (.leaf (.v (.int .i64 0),ownC s a 1)))
    | _,_=>none
  | _,_=>none
set_option maxRecDepth 100000 in
theorem fNumR_ok:EntryOk Tryz.prog 85 fNumR:=by
  intro ss H t ht bs B w vs hm hv Qs hq
  unfold fNumR at ht
  split at ht
  · split at ht
    · rename_i k s a hk hc
      simp only [Option.some.injEq] at ht
      subst ht
      obtain ⟨⟨q1,q2,q3,q4,q5⟩,hq⟩:=hq
      refine trimT_ok (both_ok SOct_ok FRef0_ok) follows Tryz.func85 (by kernel_rfl) (by kernel_rfl) (noloops (by kernel_rfl)) (num0R_run s a k) (cutOpR_mem hc hm) (opens2 hv hk) ?_
      have e2:i64.wrap ((s.size:Int) - a)=(s.size:Int) - a:=w64 _ (by omega) (by omega)
      have e1:i64.wrap (a+k)=a+k:=w64 _ (by omega) (by omega)
      have e3:i64.wrap (a+k - k)=a:=by rw [w64 _ (by omega) (by omega)];omega
      rw [e2,e1,e3]
      by_cases hs:a+k≤s.size
      · have e4:=ext_sizeC s a k ⟨q1,q3,q4,hs⟩
        have e5:=(wrap_valU (s.extract a.toNat (a+k).toNat) 7 (by omega) (by omega)).2
        rw [e5]
        have hq:=hq.1 (decide_eq_true hs)
        simp only [T.ok,decide_eq_true_eq,decide_eq_false_iff_not]
        repeat' (first | refine And.intro ?_ ?_ | intro _)
        all_goals first | omega | exact hq
      · have hq:=hq.2 (decide_eq_false hs)
        simp only [T.ok,decide_eq_true_eq,decide_eq_false_iff_not]
        repeat' (first | refine And.intro ?_ ?_ | intro _)
        all_goals first | omega | exact hq
    · rename_i k s a hk hc
      simp only [Option.some.injEq] at ht
      subst ht
      obtain ⟨q1,hq⟩:=hq
      refine trimT_ok (both_ok SOct_ok FRef0_ok) follows Tryz.func85 (by kernel_rfl) (by kernel_rfl) (noloops (by kernel_rfl)) (num1R_run s a k) (cutOpR_mem hc hm) (opens2 hv hk) ?_
      simp only [T.ok,decide_eq_true_eq,decide_eq_false_iff_not]
      repeat' (first | refine And.intro ?_ ?_ | intro _)
      all_goals first | omega | exact hq
    · cases ht
  · cases ht
set_option maxRecDepth 100000 in
theorem fBytR_ok:EntryOk Tryz.prog 122 fBytR:=by
  intro ss H t ht bs B w vs hm hv Qs hq
  unfold fBytR at ht
  split at ht
  · split at ht
    · rename_i k s a hk hc
      simp only [Option.some.injEq] at ht
      subst ht
      obtain ⟨⟨q1,q2,q3,q4,q5⟩,hq⟩:=hq
      refine trimT_ok (onlyS_ok noS_ok) follows Tryz.func122 (by kernel_rfl) (by kernel_rfl) (noloops (by kernel_rfl)) (byt0R_run s a k) (cutOpR_mem hc hm) (opens2 hv hk) ?_
      have e2:i64.wrap ((s.size:Int) - a)=(s.size:Int) - a:=w64 _ (by omega) (by omega)
      have e1:i64.wrap (a+k)=a+k:=w64 _ (by omega) (by omega)
      have e3:i64.wrap (a+k - k)=a:=by rw [w64 _ (by omega) (by omega)];omega
      rw [e2,e1,e3]
      by_cases hs:a+k≤s.size
      · have hq:=hq.1 (decide_eq_true hs)
        simp only [T.ok,decide_eq_true_eq,decide_eq_false_iff_not]
        repeat' (first | refine And.intro ?_ ?_ | intro _)
        all_goals first | omega | exact hq
      · have hq:=hq.2 (decide_eq_false hs)
        simp only [T.ok,decide_eq_true_eq,decide_eq_false_iff_not]
        repeat' (first | refine And.intro ?_ ?_ | intro _)
        all_goals first | omega | exact hq
    · rename_i k s a hk hc
      simp only [Option.some.injEq] at ht
      subst ht
      exact trimT_ok (onlyS_ok noS_ok) follows Tryz.func122 (by kernel_rfl) (by kernel_rfl) (noloops (by kernel_rfl)) (byt1R_run s a k) (cutOpR_mem hc hm) (opens2 hv hk) hq
    · cases ht
  · cases ht
set_option maxRecDepth 100000 in
theorem fDonR_ok:EntryOk Tryz.prog 123 fDonR:=by
  intro ss H t ht bs B w vs hm hv Qs hq
  unfold fDonR at ht
  split at ht
  · split at ht
    · rename_i s a hc
      simp only [Option.some.injEq] at ht
      subst ht
      obtain ⟨⟨q1,q2,q5⟩,hq⟩:=hq
      refine trimT_ok (onlyS_ok noS_ok) follows Tryz.func123 (by kernel_rfl) (by kernel_rfl) (noloops (by kernel_rfl)) (don0R_run s a) (cutOpR_mem hc hm) hv ?_
      exact hq
    · rename_i s a hc
      simp only [Option.some.injEq] at ht
      subst ht
      exact trimT_ok (onlyS_ok noS_ok) follows Tryz.func123 (by kernel_rfl) (by kernel_rfl) (noloops (by kernel_rfl)) (don1R_run s a) (cutOpR_mem hc hm) hv hq
    · cases ht
  · cases ht
def FRfC:LTab:=addT 85 fNumR <| addT 122 fBytR <| addT 123 fDonR noF
theorem FRfC_ok:LOk Tryz.prog FRfC:=addT_ok (addT_ok (addT_ok noF_ok (by kernel_rfl) fDonR_ok) (by kernel_rfl) fBytR_ok) (by kernel_rfl) fNumR_ok
end Go.Proofs.YthacfgaacleaeaaGreatDoor
